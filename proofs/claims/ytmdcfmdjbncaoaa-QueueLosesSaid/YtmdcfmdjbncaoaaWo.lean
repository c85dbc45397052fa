/- The reference's without. -/
import Derived.Test.YtmdcfmdjbncaoaaMt
namespace Go.Proofs.Ytmdcfmdjbncaoaa
open Go.RowKit
attribute [local go_sem ↓] Go.wp_at_zero Go.wp_at_succ

def WoW (w : World) (O : Nat) (l : List MX) (ki : Nat) (r d : Int) (iv : Value) (wr : World) : Prop :=
  ∃ (j k : Nat) (ao : Option Addr) (co : Nat) (S : Nat → Prop) (css : List (List Value)), iv = .int .i64 j ∧ j ≤ l.length ∧ k = ((l.take j).eraseIdx ki).length ∧ Blk wr O 46 #[.slice ao k co, .int .i64 r, .int .i64 d] ∧
    Blk wr (w.heap.size + 1) 46 #[.slice none 0 0, .int .i64 0, .int .i64 0] ∧ OwnE IsM 48 13 wr (O + 1) ((l.take j).eraseIdx ki) (.slice ao k co) S css ∧ Below w.heap.size w wr
theorem erase_step {l : List MX} {j ki : Nat} {x : MX} (hx : l[j]? = some x) (h : j ≠ ki) : (l.take (j + 1)).eraseIdx ki = (l.take j).eraseIdx ki ++ [x] := by
  have hj : j < l.length := (List.getElem?_eq_some_iff.1 hx).1
  rw [← take_snoc hx]
  rcases Nat.lt_or_ge ki j with hk | hk
  · rw [List.eraseIdx_append_of_lt_length (by rw [List.length_take]; omega)]
  · rw [List.eraseIdx_of_length_le (by simp; omega), List.eraseIdx_of_length_le (by simp; omega)]
theorem erase_skip {l : List MX} {j : Nat} : (l.take (j + 1)).eraseIdx j = (l.take j).eraseIdx j := by
  rcases Nat.lt_or_ge j l.length with hj | hj
  · have hx : l[j]? = some l[j] := List.getElem?_eq_getElem hj
    rw [← take_snoc hx, List.eraseIdx_append_of_length_le (by rw [List.length_take]; omega), List.length_take, Nat.min_eq_left (by omega), Nat.sub_self, List.eraseIdx_of_length_le (l := l.take j) (by simp; omega)]
    simp
  · rw [List.take_of_length_le (by omega), List.take_of_length_le hj]
theorem erase_len {l : List MX} {ki : Nat} : (l.eraseIdx ki).length ≤ l.length := by rw [List.length_eraseIdx]; split <;> omega

set_option maxHeartbeats 4000000 in
set_option maxRecDepth 100000 in
theorem without_any (q : QX) (ki : Nat) (a : Option Addr) (n c : Nat) (S : Nat → Prop) (w : World) (hrow : RM w S q.l a n c) (hS : ∀ b, S b → b < w.heap.size) (hsm : smallL q.l) (hn : n ≤ 65536) :
    Calls Try.prog 44 #[.agg #[.slice a n c, .int .i64 q.r, .int .i64 q.d], .int .i64 (ki : Int)] w (InbPost w ⟨q.l.eraseIdx ki, q.r, q.d⟩) := by
  obtain ⟨i0, hi0, hz0, hz1, hz2⟩ := info_parts infoM
  have hcl : c ≤ maxLen := hrow.2.2.1
  have hlc : n ≤ c := hrow.2.1
  obtain rfl : n = q.l.length := hrow.1
  unfold maxLen at hcl
  have hW : Below w.heap.size w ((w.alloc (.cells #[.slice a q.l.length c, .int .i64 q.r, .int .i64 q.d] 46)).alloc (.cells #[.slice none 0 0, .int .i64 0, .int .i64 0] 46)) := by go_grown
  have hsz : ((w.alloc (.cells #[.slice a q.l.length c, .int .i64 q.r, .int .i64 q.d] 46)).alloc (.cells #[.slice none 0 0, .int .i64 0, .int .i64 0] 46)).heap.size = w.heap.size + 2 := by simp
  have hc := copyq_any q a q.l.length c S _ (hrow.under hW hS) (fun x hx => by rw [hsz]; have := hS x hx; omega) hsm hn
  have b0 : Blk ((w.alloc (.cells #[.slice a q.l.length c, .int .i64 q.r, .int .i64 q.d] 46)).alloc (.cells #[.slice none 0 0, .int .i64 0, .int .i64 0] 46)) w.heap.size 46 #[.slice a q.l.length c, .int .i64 q.r, .int .i64 q.d] := (Blk.new _ _ _).alloc _
  have b1 : Blk ((w.alloc (.cells #[.slice a q.l.length c, .int .i64 q.r, .int .i64 q.d] 46)).alloc (.cells #[.slice none 0 0, .int .i64 0, .int .i64 0] 46)) (w.heap.size + 1) 46 #[.slice none 0 0, .int .i64 0, .int .i64 0] := Blk.new' _ _ _ (by simp)
  have HC := Lib.hid hc
  have HW := Lib.hid hW
  have HSZ := Lib.hid hsz
  have HB0 := Lib.hid b0
  have HB1 := Lib.hid b1
  have HROW := Lib.hid hrow
  have HS := Lib.hid hS
  have HSM := Lib.hid hsm
  clear hrow hS hsm hc hW hsz b0 b1
  go_enter Try.func44, Try.ntmps44
  go_wp2_with fail
  refine HC.out.mono ?_
  rintro e v1 ⟨a0, c0, S0, css0, rfl, -, hb0⟩
  have hv1 := hb0.size
  rw [HSZ.out] at hv1
  have V1 : Below w.heap.size w v1 := HW.out.trans (hb0.mono (by rw [HSZ.out]; omega))
  have b0 := HB0.out.under hb0 (by rw [HSZ.out]; omega)
  have b1 := HB1.out.under hb0 (by rw [HSZ.out]; omega)
  have e0 : v1.cell? ⟨w.heap.size, 0, none⟩ = some (.slice a q.l.length c) := b0.cell 0
  have HB1' := Lib.hid b1
  clear b0 b1 hb0 HB0 HB1 HC
  obtain ⟨O, hO⟩ : ∃ O, O = v1.heap.size := ⟨_, rfl⟩
  have hO2 : w.heap.size + 2 ≤ O := by omega
  have hlt0 : w.heap.size < v1.heap.size := by omega
  have HO := Lib.hid hO
  clear hO
  go_wp2_with fail
  rw [← HO.out]
  go_loopw [14] (WoW w O q.l ki q.r q.d) (fun i _ => q.l.length - (intOf i).toNat)
  case atStart =>
    refine ⟨0, 0, none, 0, fun _ => False, [], rfl, Nat.zero_le _, by simp, ?_, ?_, ?_, ?_⟩
    · exact Blk.new' _ _ _ HO.out
    · exact HB1'.out.alloc _
    · rw [show (q.l.take 0).eraseIdx ki = [] by simp]; exact OwnE.nil _ _
    · exact V1.alloc (by omega) _
  case round =>
    obtain ⟨j, k, ao, co, T, css, rfl, hj, hk, hBO, hBR, hown, hbel⟩ := hrel
    have HK := Lib.hid hk
    have hkl : k ≤ q.l.length := by rw [hk]; exact Nat.le_trans erase_len (by rw [List.length_take]; omega)
    have HOWN := Lib.hid hown
    have HBO := Lib.hid hBO
    have HBR := Lib.hid hBR
    have hsz := hbel.size
    have hszO := hBO.lt
    clear hk hown hBO hBR
    by_cases hlt : j < q.l.length
    · obtain ⟨g, o, x, xs, rfl, hSg, hx, hm, hxl, hr⟩ := HROW.out.get hlt
      have hr2 : wr.rangeAt g (o + j * 13) xs := rangeAt_keep hr fun q => hbel.cell (p := ⟨g, q, none⟩) (HS.out g hSg)
      have hm' := hm
      obtain ⟨kx, ix, bx, sx, ax, nx, cx, rfl, hD, ht, hrr⟩ := hm
      have HX := Lib.hid hx
      have HM := Lib.hid hm'
      clear hr hx hxl hD ht hrr hm'
      by_cases hjk : j = ki
      · subst hjk
        go_wp2_with (first
          | (refine wpList_load_blk rfl 48 _ rfl g (o + j * 13) rfl [.int .i64 x.id, .string x.topic, .int .i64 kx, .int .i64 ix, .int .u64 bx, .string sx, .slice ax nx cx, .int .i64 x.tat, .int .i64 x.til, .string x.reply, .int .i64 x.corr, .int .i64 x.prio, .int .i64 x.hops] _ hr2 Try.underlying48 rfl sizeM ?_)
          | (refine wpList_store_blk (T := 48) rfl 48 _ _ rfl (wr.heap.size) 0 [] [.int .i64 0, .string ByteArray.empty, .int .i64 0, .int .i64 0, .int .u64 0, .string ByteArray.empty, .slice none 0 0, .int .i64 0, .int .i64 0, .string ByteArray.empty, .int .i64 0, .int .i64 0, .int .i64 0] [] [.int .i64 x.id, .string x.topic, .int .i64 kx, .int .i64 ix, .int .u64 bx, .string sx, .slice ax nx cx, .int .i64 x.tat, .int .i64 x.til, .string x.reply, .int .i64 x.corr, .int .i64 x.prio, .int .i64 x.hops] rfl rfl (Blk.new wr _ _) rfl rfl sizeM (by simp [Value.oneCell']) ?_; intro w1 BX1 U1))
        have hb1 : Below wr.heap.size wr w1 := ((Below.refl wr.heap.size wr).alloc (Nat.le_refl _) _).trans (U1.below _ (Nat.le_refl _))
        have hB1 : Below w.heap.size w w1 := below_via hbel hb1 hsz
        have hR := HOWN.out.below keepsM hb1 (Nat.le_refl _)
        rw [← erase_skip] at hR
        have hkk := HK.out
        rw [← erase_skip] at hkk
        have HR := Lib.hid hR
        have HKK := Lib.hid hkk
        have HBO5 := Lib.hid (HBO.out.under hb1 hszO)
        have HBR5 := Lib.hid (HBR.out.under hb1 HBR.out.lt)
        clear hR hkk
        go_roundw
        case rel => exact ⟨j + 1, k, _, _, _, _, by go_num, by omega, HKK.out, HBO5.out, HBR5.out, HR.out, hB1⟩
        case measure => simp [intOf]; omega
      · have hne : ((j : Int) != (ki : Int)) = true := by rw [bne_iff_ne]; omega
        have HJK := Lib.hid hjk
        clear hjk
        go_upto_region 7 with (first
          | (refine wpList_load_blk rfl 48 _ rfl g (o + j * 13) rfl [.int .i64 x.id, .string x.topic, .int .i64 kx, .int .i64 ix, .int .u64 bx, .string sx, .slice ax nx cx, .int .i64 x.tat, .int .i64 x.til, .string x.reply, .int .i64 x.corr, .int .i64 x.prio, .int .i64 x.hops] _ hr2 Try.underlying48 rfl sizeM ?_)
          | (refine wpList_store_blk (T := 48) rfl 48 _ _ rfl (wr.heap.size) 0 [] [.int .i64 0, .string ByteArray.empty, .int .i64 0, .int .i64 0, .int .u64 0, .string ByteArray.empty, .slice none 0 0, .int .i64 0, .int .i64 0, .string ByteArray.empty, .int .i64 0, .int .i64 0, .int .i64 0] [] [.int .i64 x.id, .string x.topic, .int .i64 kx, .int .i64 ix, .int .u64 bx, .string sx, .slice ax nx cx, .int .i64 x.tat, .int .i64 x.til, .string x.reply, .int .i64 x.corr, .int .i64 x.prio, .int .i64 x.hops] rfl rfl (Blk.new wr _ _) rfl rfl sizeM (by simp [Value.oneCell']) ?_; intro w1 BX1 U1))
        have hb1 : Below wr.heap.size wr w1 := ((Below.refl wr.heap.size wr).alloc (Nat.le_refl _) _).trans (U1.below _ (Nat.le_refl _))
        have hs1 : w1.heap.size = wr.heap.size + 1 := by rw [U1.size]; simp
        have hB1 : Below w.heap.size w w1 := below_via hbel hb1 hsz
        have HC := Lib.hid (copymsg_any x w1.drew S _ (HM.out.under hB1 HS.out).drew (fun q hq => Nat.lt_of_lt_of_le (HS.out q hq) hB1.size) (HSM.out x (List.mem_of_getElem? HX.out)))
        have BO1 := HBO.out.under hb1 hszO
        have c4 := BO1.cell 0
        have f4 := BO1.free 0
        simp only [List.getElem?_toArray, List.getElem?_cons_zero] at c4
        obtain ⟨x0, x1, x2, x3, x4, x5, x6, x7, x8, x9, x10, x11, x12⟩ := Blk.cells13 BX1
        have hleO : O < w1.drew.heap.size := Nat.lt_of_lt_of_le hszO hb1.size
        have hneO : (Value.slice ao k co).ownBlock ≠ some O := fun h => by have := (HOWN.out.far_lt _ h).1; omega
        have hbaseW : O + 1 ≤ w1.drew.heap.size := hleO
        have HROW1 : Hid (w1.drew.ownsRow (O + 1) 48 13 (.slice ao k co) k css.flatten) := by
          have h := (HOWN.out.below keepsM (hb1.drew) (Nat.le_refl _)).row
          rwa [← HK.out] at h
        have HB1 := Lib.hid hb1
        clear BO1 BX1 U1 hs1 hr2 hb1
        go_region_law (first
            | (go_simp; go_at_call 38; refine HC.out.mono ?_; rintro e w2 ⟨k1, i1, b1, s1, a1, n1, c1, rfl, hm2, hb2⟩; have HM2 := Lib.hid hm2; clear hm2; have hle5 := Nat.lt_of_lt_of_le hleO hb2.size; have c6 := cell_over hb2 hleO c4; have f6 := free_over hb2 hleO f4)
            | (refine step_append_lies _ (by rfl) _ _ _ (by rfl) (O + 1) 48 i0 _ 13 144 Try.underlying44 hi0 hz0 hz1 hz2 rfl (by omega) (.slice ao k co) k css.flatten (by rfl) ((own_below HROW1.out hb2).alloc _)
                ⟨w2.heap.size, 0, none⟩ 1 1 [.int .i64 x.id, .string x.topic, .int .i64 k1, .int .i64 i1, .int .u64 b1, .string s1, .slice a1 n1 c1, .int .i64 x.tat, .int .i64 x.til, .string x.reply, .int .i64 x.corr, .int .i64 x.prio, .int .i64 x.hops] (by rfl) (by rfl)
                (World.news_of_block (cs := #[.int .i64 x.id, .string x.topic, .int .i64 k1, .int .i64 i1, .int .u64 b1, .string s1, .slice a1 n1 c1, .int .i64 x.tat, .int .i64 x.til, .string x.reply, .int .i64 x.corr, .int .i64 x.prio, .int .i64 x.hops]) (t := 48) (fr := (0, 0)) (heap_alloc_new w2 _)) HM2.out.one
                (by omega) (by unfold maxLen; omega) (by omega) (by have := hb2.size; have := hbaseW; simp; omega) (w2.heap.size + 1) (by simp) ?_
               intro g5 cap5 w5 hown5 hgrow5 hat5 hlt5
               have HO5 := Lib.hid hown5
               have HAT := Lib.hid hat5
               clear hown5 hat5
               have c7 := (far_cell hgrow5 hle5 hneO).trans c6
               have f7 := (far_free hgrow5 hle5 hneO).trans f6))
        all_goals
          obtain ⟨hR, hfar, hs5, hbl⟩ := OwnE.grow keepsM HOWN.out HB1.out.drew hb2 (by omega) HM2.out rfl HO5.out (by rw [HK.out]) hgrow5 HAT.out
          rw [← erase_step HX.out HJK.out] at hR
          have hR2 := OwnE.set keepsM hR (p := ⟨O, 0, none⟩) (u := .slice (some ⟨g5, 0, none⟩) (k + 1) cap5) (fun h => absurd (hR.far _ h).1 (by show ¬ (O + 1 ≤ O); omega)) (fun h => absurd (hR.far_lt _ h).1 (by show ¬ (O + 1 ≤ O); omega))
          have hBO5 : Blk (w5.setCell ⟨O, 0, none⟩ (.slice (some ⟨g5, 0, none⟩) (k + 1) cap5)) O 46 #[.slice (some ⟨g5, 0, none⟩) (k + 1) cap5, .int .i64 q.r, .int .i64 q.d] :=
            Blk.set (i := 0) ((hfar _ hszO hneO).trans HBO.out) _
          have hBR5 : Blk (w5.setCell ⟨O, 0, none⟩ (.slice (some ⟨g5, 0, none⟩) (k + 1) cap5)) (w.heap.size + 1) 46 #[.slice none 0 0, .int .i64 0, .int .i64 0] :=
            Blk.far (p := ⟨O, 0, none⟩) ((hfar _ HBR.out.lt (fun h => by have := (HOWN.out.far_lt _ h).1; omega)).trans HBR.out) (by show w.heap.size + 1 ≠ O; omega) _
          have hB5 : Below w.heap.size w (w5.setCell ⟨O, 0, none⟩ (.slice (some ⟨g5, 0, none⟩) (k + 1) cap5)) := (hbel.trans (hbl w.heap.size (by omega))).setCell (by show w.heap.size ≤ O; omega) _
          have hk5 : k + 1 = ((q.l.take (j + 1)).eraseIdx ki).length := by rw [erase_step HX.out HJK.out, List.length_append, ← HK.out]; rfl
          have HK5 := Lib.hid hk5
          have HR := Lib.hid hR2
          have HBO5 := Lib.hid hBO5
          have HBR5 := Lib.hid hBR5
          clear hR hR2 hBO5 hBR5 hfar hbl c4 f4 c6 f6 hgrow5 hk5
          go_wp2_with fail
          go_roundw
          case rel => exact ⟨j + 1, k + 1, _, _, _, _, by go_num, by omega, HK5.out, HBO5.out, HBR5.out, HR.out, hB5⟩
          case measure => simp [intOf]; omega
    · obtain rfl : j = q.l.length := by omega
      have BO := HBO.out
      have BR := HBR.out
      go_wp2_with (first
        | (refine wpList_load_blk rfl 46 _ rfl (O) 0 rfl [.slice ao k co, .int .i64 q.r, .int .i64 q.d] _ (Blk.range (pre := []) (post := []) BO rfl) Try.underlying46 rfl sizeI ?_)
        | (refine wpList_store_blk (T := 46) rfl 46 _ _ rfl (w.heap.size + 1) 0 [] [.slice none 0 0, .int .i64 0, .int .i64 0] [] [.slice ao k co, .int .i64 q.r, .int .i64 q.d] rfl rfl BR rfl rfl sizeI inb_one ?_; intro w3 BR3 U3))
      refine bodyPost_ret (res_c rfl rfl (load_blk w3 (w.heap.size + 1) 46 [.slice ao k co, .int .i64 q.r, .int .i64 q.d] _ BR3 Try.underlying46 rfl sizeI)) rfl ?_
      have h := HOWN.out
      have hkk := HK.out
      rw [List.take_length] at h hkk
      have hh : OwnE IsM 48 13 w3 w.heap.size (q.l.eraseIdx ki) (.slice ao k co) T css := (h.keep keepsM (by rw [U3.size]; exact Nat.le_refl _) (fun b hb => U3.far b (by
        rcases hb with hb | hb
        · have := (h.far b hb).1; omega
        · have := (h.far_lt b hb).1; omega))).mono (by omega)
      refine ⟨ao, co, T, css, by rw [hkk], ?_, hbel.trans (U3.below _ (Nat.le_succ _))⟩
      show OwnE IsM 48 13 w3 w.heap.size (q.l.eraseIdx ki) (.slice ao (q.l.eraseIdx ki).length co) T css
      rw [← hkk]
      exact hh
end Go.Proofs.Ytmdcfmdjbncaoaa
