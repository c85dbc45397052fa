/- The reference's Copy of an inbox, and without. -/
import Derived.Test.YtmdcfmdjbncaoaaMq
namespace Go.Proofs.Ytmdcfmdjbncaoaa
open Go.RowKit
attribute [local go_sem ↓] Go.wp_at_zero Go.wp_at_succ

theorem Blk.cells13 {w : World} {g : Nat} {t : TypeId} {v0 v1 v2 v3 v4 v5 v6 v7 v8 v9 v10 v11 v12 : Value} (h : Blk w g t #[v0, v1, v2, v3, v4, v5, v6, v7, v8, v9, v10, v11, v12]) : w.cell? ⟨g, 0, none⟩ = some v0 ∧ w.cell? ⟨g, 1, none⟩ = some v1 ∧ w.cell? ⟨g, 2, none⟩ = some v2 ∧ w.cell? ⟨g, 3, none⟩ = some v3 ∧ w.cell? ⟨g, 4, none⟩ = some v4 ∧ w.cell? ⟨g, 5, none⟩ = some v5 ∧ w.cell? ⟨g, 6, none⟩ = some v6 ∧ w.cell? ⟨g, 7, none⟩ = some v7 ∧ w.cell? ⟨g, 8, none⟩ = some v8 ∧ w.cell? ⟨g, 9, none⟩ = some v9 ∧ w.cell? ⟨g, 10, none⟩ = some v10 ∧ w.cell? ⟨g, 11, none⟩ = some v11 ∧ w.cell? ⟨g, 12, none⟩ = some v12 :=
  ⟨h.cell 0, h.cell 1, h.cell 2, h.cell 3, h.cell 4, h.cell 5, h.cell 6, h.cell 7, h.cell 8, h.cell 9, h.cell 10, h.cell 11, h.cell 12⟩
/-- The state of a loop that puts copies behind the list of an inbox that lies in block w + o; the result's box in block w + q. -/
def RcW (w : World) (o q p : Nat) (l : List MX) (f : Nat → List MX) (r d : Int) (iv : Value) (wr : World) : Prop :=
  ∃ (j k : Nat) (ao : Option Addr) (co : Nat) (S : Nat → Prop) (css : List (List Value)), iv = .int .i64 j ∧ j ≤ l.length ∧ k = (f j).length ∧ Blk wr (w.heap.size + o) 46 #[.slice ao k co, .int .i64 r, .int .i64 d] ∧
    Blk wr (w.heap.size + q) 46 #[.slice none 0 0, .int .i64 0, .int .i64 0] ∧ OwnE IsM 48 13 wr (w.heap.size + p) (f j) (.slice ao k co) S css ∧ Below w.heap.size w wr

set_option maxHeartbeats 4000000 in
set_option maxRecDepth 100000 in
theorem copyq_any (q : QX) (a : Option Addr) (n c : Nat) (S : Nat → Prop) (w : World) (hrow : RM w S q.l a n c) (hS : ∀ b, S b → b < w.heap.size) (hsm : smallL q.l) (hn : n ≤ 65536) :
    Calls Try.prog 22 #[.agg #[.slice a n c, .int .i64 q.r, .int .i64 q.d]] w (InbPost w q) := by
  obtain ⟨i0, hi0, hz0, hz1, hz2⟩ := info_parts infoM
  have hcl : c ≤ maxLen := hrow.2.2.1
  have hlc : n ≤ c := hrow.2.1
  have hnl : n = q.l.length := hrow.1
  subst hnl
  unfold maxLen at hcl
  have HROW := Lib.hid hrow
  have HS := Lib.hid hS
  have HSM := Lib.hid hsm
  clear hrow hS hsm
  go_enter Try.func22, Try.ntmps22
  go_wp2_with fail
  go_loopw [14] (RcW w 2 1 3 q.l (fun j => q.l.take j) q.r q.d) (fun i _ => q.l.length - (intOf i).toNat)
  case atStart =>
    refine ⟨0, 0, none, 0, _, _, rfl, Nat.zero_le _, rfl, ?_, ?_, OwnE.nil _ _, by go_grown⟩
    · exact Blk.new' _ _ _ (by simp)
    · exact (Blk.new' _ _ _ (by simp)).alloc _
  case round =>
    obtain ⟨j, k, ao, co, T, css, rfl, hj, hk, hBO, hBR, hown, hbel⟩ := hrel
    rw [List.length_take, Nat.min_eq_left hj] at hk
    subst hk
    have HOWN := Lib.hid hown
    have HBO := Lib.hid hBO
    have HBR := Lib.hid hBR
    have hsz := hbel.size
    have hszO := hBO.lt
    clear hown hBO hBR
    by_cases hlt : k < q.l.length
    · obtain ⟨g, o, x, xs, rfl, hSg, hx, hm, hxl, hr⟩ := HROW.out.get hlt
      have hr2 : wr.rangeAt g (o + k * 13) xs := rangeAt_keep hr fun q => hbel.cell (p := ⟨g, q, none⟩) (HS.out g hSg)
      have hm' := hm
      obtain ⟨kx, ix, bx, sx, ax, nx, cx, rfl, hD, ht, hrr⟩ := hm
      have HX := Lib.hid hx
      have HM := Lib.hid hm'
      clear hr hx hxl hD ht hrr hm'
      go_upto_region 5 with (first
        | (refine wpList_load_blk rfl 48 _ rfl g (o + k * 13) rfl [.int .i64 x.id, .string x.topic, .int .i64 kx, .int .i64 ix, .int .u64 bx, .string sx, .slice ax nx cx, .int .i64 x.tat, .int .i64 x.til, .string x.reply, .int .i64 x.corr, .int .i64 x.prio, .int .i64 x.hops] _ hr2 Try.underlying48 rfl sizeM ?_)
        | (refine wpList_store_blk (T := 48) rfl 48 _ _ rfl (wr.heap.size) 0 [] [.int .i64 0, .string ByteArray.empty, .int .i64 0, .int .i64 0, .int .u64 0, .string ByteArray.empty, .slice none 0 0, .int .i64 0, .int .i64 0, .string ByteArray.empty, .int .i64 0, .int .i64 0, .int .i64 0] [] [.int .i64 x.id, .string x.topic, .int .i64 kx, .int .i64 ix, .int .u64 bx, .string sx, .slice ax nx cx, .int .i64 x.tat, .int .i64 x.til, .string x.reply, .int .i64 x.corr, .int .i64 x.prio, .int .i64 x.hops] rfl rfl (Blk.new wr _ _) rfl rfl sizeM (by simp [Value.oneCell']) ?_; intro w1 BX1 U1))
      have hb1 : Below wr.heap.size wr w1 := ((Below.refl wr.heap.size wr).alloc (Nat.le_refl _) _).trans (U1.below _ (Nat.le_refl _))
      have hs1 : w1.heap.size = wr.heap.size + 1 := by rw [U1.size]; simp
      have hB1 : Below w.heap.size w w1 := below_via hbel hb1 hsz
      have HC := Lib.hid (copymsg_any x w1.drew S _ (HM.out.under hB1 HS.out).drew (fun q hq => Nat.lt_of_lt_of_le (HS.out q hq) hB1.size) (HSM.out x (List.mem_of_getElem? HX.out)))
      have BO1 := HBO.out.under hb1 hszO
      have c4 := BO1.cell 0
      have f4 := BO1.free 0
      simp only [List.getElem?_toArray, List.getElem?_cons_zero] at c4
      obtain ⟨x0, x1, x2, x3, x4, x5, x6, x7, x8, x9, x10, x11, x12⟩ := Blk.cells13 BX1
      have hleO : w.heap.size + 2 < w1.drew.heap.size := Nat.lt_of_lt_of_le hszO hb1.size
      have hneO : (Value.slice ao k co).ownBlock ≠ some (w.heap.size + 2) := fun h => by have := (HOWN.out.far_lt _ h).1; omega
      have hbaseW : w.heap.size + 3 ≤ w1.drew.heap.size := hleO
      have HROW1 : Hid (w1.drew.ownsRow (w.heap.size + 3) 48 13 (.slice ao k co) k css.flatten) := by
        have h := (HOWN.out.below keepsM (hb1.drew) (Nat.le_refl _)).row
        rwa [List.length_take, Nat.min_eq_left hj] at h
      have HB1 := Lib.hid hb1
      clear BO1 BX1 U1 hs1 hr2 hb1
      go_region_law (first
          | (go_simp; go_at_call 38; refine HC.out.mono ?_; rintro e w2 ⟨k1, i1, b1, s1, a1, n1, c1, rfl, hm2, hb2⟩; have HM2 := Lib.hid hm2; clear hm2; have hle5 := Nat.lt_of_lt_of_le hleO hb2.size; have c6 := cell_over hb2 hleO c4; have f6 := free_over hb2 hleO f4)
          | (refine step_append_lies _ (by rfl) _ _ _ (by rfl) (w.heap.size + 3) 48 i0 _ 13 144 Try.underlying44 hi0 hz0 hz1 hz2 rfl (by omega) (.slice ao k co) k css.flatten (by rfl) ((own_below HROW1.out hb2).alloc _)
              ⟨w2.heap.size, 0, none⟩ 1 1 [.int .i64 x.id, .string x.topic, .int .i64 k1, .int .i64 i1, .int .u64 b1, .string s1, .slice a1 n1 c1, .int .i64 x.tat, .int .i64 x.til, .string x.reply, .int .i64 x.corr, .int .i64 x.prio, .int .i64 x.hops] (by rfl) (by rfl)
              (World.news_of_block (cs := #[.int .i64 x.id, .string x.topic, .int .i64 k1, .int .i64 i1, .int .u64 b1, .string s1, .slice a1 n1 c1, .int .i64 x.tat, .int .i64 x.til, .string x.reply, .int .i64 x.corr, .int .i64 x.prio, .int .i64 x.hops]) (t := 48) (fr := (0, 0)) (heap_alloc_new w2 _)) HM2.out.one
              (by omega) (by unfold maxLen; omega) (by omega) (by have := hb2.size; have := hbaseW; simp; omega) (w2.heap.size + 1) (by simp) ?_
             intro g5 cap5 w5 hown5 hgrow5 hat5 hlt5
             have HO5 := Lib.hid hown5
             have HAT := Lib.hid hat5
             clear hown5 hat5
             have c7 := (far_cell hgrow5 hle5 hneO).trans c6
             have f7 := (far_free hgrow5 hle5 hneO).trans f6))
      all_goals
        obtain ⟨hR, hfar, hs5, hbl⟩ := OwnE.grow keepsM HOWN.out HB1.out.drew hb2 (by omega) HM2.out rfl HO5.out (by rw [List.length_take, Nat.min_eq_left hj]) hgrow5 HAT.out
        rw [take_snoc HX.out] at hR
        have hR2 := OwnE.set keepsM hR (p := ⟨w.heap.size + 2, 0, none⟩) (u := .slice (some ⟨g5, 0, none⟩) (k + 1) cap5) (fun h => by have := (hR.far _ h).1; simp at this) (fun h => by have := (hR.far_lt _ h).1; simp at this)
        have hBO5 : Blk (w5.setCell ⟨w.heap.size + 2, 0, none⟩ (.slice (some ⟨g5, 0, none⟩) (k + 1) cap5)) (w.heap.size + 2) 46 #[.slice (some ⟨g5, 0, none⟩) (k + 1) cap5, .int .i64 q.r, .int .i64 q.d] :=
          Blk.set (i := 0) ((hfar _ hszO hneO).trans HBO.out) _
        have hBR5 : Blk (w5.setCell ⟨w.heap.size + 2, 0, none⟩ (.slice (some ⟨g5, 0, none⟩) (k + 1) cap5)) (w.heap.size + 1) 46 #[.slice none 0 0, .int .i64 0, .int .i64 0] :=
          Blk.far (p := ⟨w.heap.size + 2, 0, none⟩) ((hfar _ HBR.out.lt (fun h => by have := (HOWN.out.far_lt _ h).1; omega)).trans HBR.out) (by simp) _
        have hB5 : Below w.heap.size w (w5.setCell ⟨w.heap.size + 2, 0, none⟩ (.slice (some ⟨g5, 0, none⟩) (k + 1) cap5)) := (hbel.trans (hbl w.heap.size (by omega))).setCell (by simp) _
        have HR := Lib.hid hR2
        have HBO5 := Lib.hid hBO5
        have HBR5 := Lib.hid hBR5
        clear hR hR2 hBO5 hBR5 hfar hbl c4 f4 c6 f6 hgrow5
        go_wp2_with fail
        go_roundw
        case rel => exact ⟨k + 1, k + 1, _, _, _, _, by go_num, by omega, by rw [List.length_take]; omega, HBO5.out, HBR5.out, HR.out, hB5⟩
        case measure => simp [intOf]; omega
    · obtain rfl : k = q.l.length := by omega
      have BO := HBO.out
      have BR := HBR.out
      go_wp2_with (first
        | (refine wpList_load_blk rfl 46 _ rfl (w.heap.size + 2) 0 rfl [.slice ao q.l.length co, .int .i64 q.r, .int .i64 q.d] _ (Blk.range (pre := []) (post := []) BO rfl) Try.underlying46 rfl sizeI ?_)
        | (refine wpList_store_blk (T := 46) rfl 46 _ _ rfl (w.heap.size + 1) 0 [] [.slice none 0 0, .int .i64 0, .int .i64 0] [] [.slice ao q.l.length co, .int .i64 q.r, .int .i64 q.d] rfl rfl BR rfl rfl sizeI inb_one ?_; intro w3 BR3 U3))
      refine bodyPost_ret (res_c rfl rfl (load_blk w3 (w.heap.size + 1) 46 [.slice ao q.l.length co, .int .i64 q.r, .int .i64 q.d] _ BR3 Try.underlying46 rfl sizeI)) rfl ?_
      have h := HOWN.out
      rw [List.take_length] at h
      refine ⟨ao, co, _, _, rfl, (h.keep keepsM (by rw [U3.size]; exact Nat.le_refl _) fun b hb => U3.far b ?_).mono (by omega), hbel.trans (U3.below _ (Nat.le_succ _))⟩
      rcases hb with hb | hb
      · have := (h.far b hb).1; omega
      · have := (h.far_lt b hb).1; omega
end Go.Proofs.Ytmdcfmdjbncaoaa
