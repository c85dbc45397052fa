/- The reference's Put. -/
import Derived.Test.YtmdcfmdjbncaoaaWo
import Derived.Test.YtmdcfmdjbncaoaaPut
namespace Go.Proofs.Ytmdcfmdjbncaoaa
open Go.RowKit
attribute [local go_sem ↓] Go.wp_at_zero Go.wp_at_succ
attribute [local go_sem] Go.undef

set_option maxHeartbeats 8000000 in
set_option maxRecDepth 100000 in
theorem putr_any (q : QX) (a : Option Addr) (n c : Nat) (S : Nat → Prop) (w : World) (room drop : Int) (m : MX) (cs : List Value) (hrow : RM w S q.l a n c) (hS : ∀ b, S b → b < w.heap.size) (hsm : smallL q.l) (hn : n ≤ 65535) (hm : IsM w S m cs) (hz : m.body.size ≤ 4096)
    (hr0 : 0 ≤ q.r) (hr1 : q.r ≤ 4611686018427387904) (hd0 : 0 ≤ q.d) (hd1 : q.d ≤ 4611686018427387904) :
    Calls Try.prog 24 #[.agg #[.slice a n c, .int .i64 q.r, .int .i64 q.d], .int .i64 room, .int .i64 drop, .agg cs.toArray] w (PutPost w (putQ q room drop m)) := by
  obtain ⟨i0, hi0, hz0, hz1, hz2⟩ := info_parts infoM
  obtain rfl : n = q.l.length := hrow.1
  have hm0 := hm
  obtain ⟨k, i, b, s, am, nm, cm, rfl, -, -, -⟩ := hm
  obtain ⟨W, hWd⟩ : ∃ W, W = (((w.alloc (.cells #[.slice a q.l.length c, .int .i64 q.r, .int .i64 q.d] 46)).alloc (.cells #[.int .i64 m.id, .string m.topic, .int .i64 k, .int .i64 i, .int .u64 b, .string s, .slice am nm cm, .int .i64 m.tat, .int .i64 m.til, .string m.reply, .int .i64 m.corr, .int .i64 m.prio, .int .i64 m.hops] 48)).alloc (.cells #[.slice none 0 0, .int .i64 0, .int .i64 0] 46)).alloc (.cells #[.int .i64 0, .string ByteArray.empty, .int .i64 0, .int .i64 0, .int .u64 0, .string ByteArray.empty, .slice none 0 0, .int .i64 0, .int .i64 0, .string ByteArray.empty, .int .i64 0, .int .i64 0, .int .i64 0] 48) := ⟨_, rfl⟩
  have hW : Below w.heap.size w W := by rw [hWd]; go_grown
  have hsz : W.heap.size = w.heap.size + 4 := by rw [hWd]; simp
  have b0 : Blk W w.heap.size 46 #[.slice a q.l.length c, .int .i64 q.r, .int .i64 q.d] := by rw [hWd]; exact (((Blk.new _ _ _).alloc _).alloc _).alloc _
  have b1 : Blk W (w.heap.size + 1) 48 #[.int .i64 m.id, .string m.topic, .int .i64 k, .int .i64 i, .int .u64 b, .string s, .slice am nm cm, .int .i64 m.tat, .int .i64 m.til, .string m.reply, .int .i64 m.corr, .int .i64 m.prio, .int .i64 m.hops] := by rw [hWd]; exact ((Blk.new' _ _ _ (by simp)).alloc _).alloc _
  have b2 : Blk W (w.heap.size + 2) 46 #[.slice none 0 0, .int .i64 0, .int .i64 0] := by rw [hWd]; exact (Blk.new' _ _ _ (by simp)).alloc _
  have b3 : Blk W (w.heap.size + 3) 48 #[.int .i64 0, .string ByteArray.empty, .int .i64 0, .int .i64 0, .int .u64 0, .string ByteArray.empty, .slice none 0 0, .int .i64 0, .int .i64 0, .string ByteArray.empty, .int .i64 0, .int .i64 0, .int .i64 0] := by rw [hWd]; exact Blk.new' _ _ _ (by simp)
  have HC := Lib.hid (copyq_any q a q.l.length c S W (hrow.under hW hS) (fun x hx => by rw [hsz]; have := hS x hx; omega) hsm (by omega))
  have HM := Lib.hid (hm0.under hW hS)
  have HS : Hid (∀ x, S x → x < W.heap.size) := fun x hx => by rw [hsz]; have := hS x hx; omega
  have HSW := Lib.hid hS
  have HW := Lib.hid hW
  have HSZ := Lib.hid hsz
  have BB0 := Lib.hid b0
  have BB1 := Lib.hid b1
  have BB2 := Lib.hid b2
  have BB3 := Lib.hid b3
  have HWD := Lib.hid hWd
  have hsm2 : smallL (q.l ++ [m]) := fun x hx => by
    rcases List.mem_append.1 hx with h | h
    · exact hsm x h
    · rw [List.mem_singleton.1 h]; exact hz
  have HSM2 := Lib.hid hsm2
  clear hrow hS hsm hm0 hW hsz b0 b1 b2 b3 hWd hsm2
  go_enter Try.func24, Try.ntmps24
  go_upto_region 1 with fail
  show Code.wp _ _ _ _ ((((w.alloc (.cells #[.slice a q.l.length c, .int .i64 q.r, .int .i64 q.d] 46)).alloc (.cells #[.int .i64 m.id, .string m.topic, .int .i64 k, .int .i64 i, .int .u64 b, .string s, .slice am nm cm, .int .i64 m.tat, .int .i64 m.til, .string m.reply, .int .i64 m.corr, .int .i64 m.prio, .int .i64 m.hops] 48)).alloc (.cells #[.slice none 0 0, .int .i64 0, .int .i64 0] 46)).alloc (.cells #[.int .i64 0, .string ByteArray.empty, .int .i64 0, .int .i64 0, .int .u64 0, .string ByteArray.empty, .slice none 0 0, .int .i64 0, .int .i64 0, .string ByteArray.empty, .int .i64 0, .int .i64 0, .int .i64 0] 48))
  rw [← HWD.out]
  have b0 := BB0.out
  go_wp2_with (refine wpList_load_blk rfl 46 _ rfl (w.heap.size) 0 rfl [.slice a q.l.length c, .int .i64 q.r, .int .i64 q.d] _ (Blk.range (pre := []) (post := []) b0 rfl) Try.underlying46 rfl sizeI ?_)
  refine HC.out.mono ?_
  rintro e w1 ⟨aq, cq, S1, css1, rfl, hown1, hb1⟩
  have hs1 := hb1.size
  have B1 : Below w.heap.size w w1 := HW.out.trans (hb1.mono (by rw [HSZ.out]; omega))
  have b0' := BB0.out.under hb1 (by rw [HSZ.out]; omega)
  have b1' := BB1.out.under hb1 (by rw [HSZ.out]; omega)
  have b2' := BB2.out.under hb1 (by rw [HSZ.out]; omega)
  have b3' := BB3.out.under hb1 (by rw [HSZ.out]; omega)
  have HM1 : Hid (IsM w1 S m [.int .i64 m.id, .string m.topic, .int .i64 k, .int .i64 i, .int .u64 b, .string s, .slice am nm cm, .int .i64 m.tat, .int .i64 m.til, .string m.reply, .int .i64 m.corr, .int .i64 m.prio, .int .i64 m.hops]) := HM.out.under hb1 HS.out
  rw [HSZ.out] at hs1
  have HOWN1 := Lib.hid hown1
  clear hown1 HM HC BB0 BB1 BB2 BB3 b0
  go_upto_region 2 with (refine wpList_store_blk (T := 46) rfl 46 _ _ rfl (w.heap.size) 0 [] [.slice a q.l.length c, .int .i64 q.r, .int .i64 q.d] [] [.slice aq q.l.length cq, .int .i64 q.r, .int .i64 q.d] rfl rfl b0' rfl rfl sizeI inb_one ?_; intro w4 b0 U2)
  have b1 := U2.blk b1' (by omega)
  have b2 := U2.blk b2' (by omega)
  have b3 := U2.blk b3' (by omega)
  have hs4 : w.heap.size + 4 ≤ w4.heap.size := by rw [U2.size]; exact hs1
  have HOWN4 : Hid (OwnE IsM 48 13 w4 (w.heap.size + 4) q.l (.slice aq q.l.length cq) S1 css1) := by
    have h := HOWN1.out
    rw [HSZ.out] at h
    exact h.keep keepsM (by rw [U2.size]; exact Nat.le_refl _) fun x hx => U2.far x (by
      rcases hx with hx | hx
      · have := (h.far x hx).1; omega
      · have := (h.far_lt x hx).1; omega)
  have B4 : Below w.heap.size w w4 := B1.trans (U2.below _ (Nat.le_refl _))
  have hm4 : IsM w4 S m [.int .i64 m.id, .string m.topic, .int .i64 k, .int .i64 i, .int .u64 b, .string s, .slice am nm cm, .int .i64 m.tat, .int .i64 m.til, .string m.reply, .int .i64 m.corr, .int .i64 m.prio, .int .i64 m.hops] := HM1.out.keep (fun _ h => h) fun x hx j => U2.cell (by have := HSW.out x hx; omega)
  have HM4 := Lib.hid hm4
  have HS4 : Hid (∀ x, S x → x < w4.heap.size) := fun x hx => by have := HSW.out x hx; omega
  have HC4 := Lib.hid (copymsg_any m w4.drew S _ hm4.drew HS4.out hz)
  have hrow4 : w4.drew.ownsRow (w.heap.size + 4) 48 13 (.slice aq q.l.length cq) q.l.length css1.flatten := HOWN4.out.row
  have HROW4 := Lib.hid hrow4
  clear b1' b2' b3' b0' HM1 HOWN1 U2 hm4 hrow4
  have c4 := b0.cell 0
  have c1' := b0.cell 1
  have c2' := b0.cell 2
  have f4 := b0.free 0
  have f1 := b0.free 1
  have f2 := b0.free 2
  simp only [List.getElem?_toArray] at c4 c1' c2'
  have hneO : (Value.slice aq q.l.length cq).ownBlock ≠ some w.heap.size := fun h => by have := (HOWN4.out.far_lt _ h).1; omega
  have hne2 : (Value.slice aq q.l.length cq).ownBlock ≠ some (w.heap.size + 2) := fun h => by have := (HOWN4.out.far_lt _ h).1; omega
  have hne3 : (Value.slice aq q.l.length cq).ownBlock ≠ some (w.heap.size + 3) := fun h => by have := (HOWN4.out.far_lt _ h).1; omega
  have HNE := Lib.hid (And.intro hne2 hne3)
  have hleO : w.heap.size < w4.drew.heap.size := b0.lt
  have hbaseW : w.heap.size + 4 ≤ w4.drew.heap.size := hs4
  have HB := Lib.hid (And.intro b0 (And.intro b2 b3))
  clear hne2 hne3 hs1
  by_cases h1 : (q.l.length : Int) < room
  · have hq : putQ q room drop m = (⟨q.l ++ [m], q.r, q.d⟩, zeroM, false, 0) := by rw [putQ, if_pos h1]
    have HQ := Lib.hid hq
    clear hq
    go_upto_region 3 with fail
    go_cut [] from 22 (fun wx => ∃ (g5 cap5 : Nat) (S5 : Nat → Prop) (css5 : List (List Value)), Blk wx w.heap.size 46 #[.slice (some ⟨g5, 0, none⟩) (q.l.length + 1) cap5, .int .i64 q.r, .int .i64 q.d] ∧ Blk wx (w.heap.size + 2) 46 #[.slice none 0 0, .int .i64 0, .int .i64 0] ∧ Blk wx (w.heap.size + 3) 48 #[.int .i64 0, .string ByteArray.empty, .int .i64 0, .int .i64 0, .int .u64 0, .string ByteArray.empty, .slice none 0 0, .int .i64 0, .int .i64 0, .string ByteArray.empty, .int .i64 0, .int .i64 0, .int .i64 0] ∧ OwnE IsM 48 13 wx (w.heap.size + 4) (q.l ++ [m]) (.slice (some ⟨g5, 0, none⟩) (q.l.length + 1) cap5) S5 css5 ∧ Below w.heap.size w wx)
    case first =>
      clear b0 b2 b3
      obtain ⟨x0, x1, x2, x3, x4, x5, x6, x7, x8, x9, x10, x11, x12⟩ := Blk.cells13 b1
      go_region_law (first
          | (go_simp; go_at_call 38; refine HC4.out.mono ?_; rintro e w2 ⟨k1, i1, b1, s1, a1, n1, c1, rfl, hm2, hb2⟩; have HM2 := Lib.hid hm2; clear hm2; have hle5 := Nat.lt_of_lt_of_le hleO hb2.size; have c6 := cell_over hb2 hleO c4; have f6 := free_over hb2 hleO f4)
          | (refine step_append_lies _ (by rfl) _ _ _ (by rfl) (w.heap.size + 4) 48 i0 _ 13 144 Try.underlying44 hi0 hz0 hz1 hz2 rfl (by omega) (.slice aq q.l.length cq) q.l.length css1.flatten (by rfl) ((own_below HROW4.out hb2).alloc _)
              ⟨w2.heap.size, 0, none⟩ 1 1 [.int .i64 m.id, .string m.topic, .int .i64 k1, .int .i64 i1, .int .u64 b1, .string s1, .slice a1 n1 c1, .int .i64 m.tat, .int .i64 m.til, .string m.reply, .int .i64 m.corr, .int .i64 m.prio, .int .i64 m.hops] (by rfl) (by rfl)
              (World.news_of_block (cs := #[.int .i64 m.id, .string m.topic, .int .i64 k1, .int .i64 i1, .int .u64 b1, .string s1, .slice a1 n1 c1, .int .i64 m.tat, .int .i64 m.til, .string m.reply, .int .i64 m.corr, .int .i64 m.prio, .int .i64 m.hops]) (t := 48) (fr := (0, 0)) (heap_alloc_new w2 _)) HM2.out.one
              (by omega) (by unfold maxLen; omega) (by omega) (by have := hb2.size; have := hbaseW; simp; omega) (w2.heap.size + 1) (by simp) ?_
             intro g5 cap5 w5 hown5 hgrow5 hat5 hlt5
             have HO5 := Lib.hid hown5
             have HAT := Lib.hid hat5
             clear hown5 hat5
             have c7 := (far_cell hgrow5 hle5 hneO).trans c6
             have f7 := (far_free hgrow5 hle5 hneO).trans f6))
      all_goals
        obtain ⟨hR, hfar, hs5, hbl⟩ := OwnE.grow keepsM HOWN4.out ((Below.refl _ _).drew) hb2 hs4 HM2.out rfl HO5.out rfl hgrow5 HAT.out
        have hR2 := OwnE.set keepsM hR (p := ⟨w.heap.size, 0, none⟩) (u := .slice (some ⟨g5, 0, none⟩) (q.l.length + 1) cap5) (fun h => absurd (hR.far _ h).1 (by show ¬ (w.heap.size + 4 ≤ w.heap.size); omega)) (fun h => absurd (hR.far_lt _ h).1 (by show ¬ (w.heap.size + 4 ≤ w.heap.size); omega))
        have e0 : Blk (w5.setCell ⟨w.heap.size, 0, none⟩ (.slice (some ⟨g5, 0, none⟩) (q.l.length + 1) cap5)) w.heap.size 46 #[.slice (some ⟨g5, 0, none⟩) (q.l.length + 1) cap5, .int .i64 q.r, .int .i64 q.d] := Blk.set (i := 0) ((hfar _ HB.out.1.lt hneO).trans HB.out.1) _
        have e2 : Blk (w5.setCell ⟨w.heap.size, 0, none⟩ (.slice (some ⟨g5, 0, none⟩) (q.l.length + 1) cap5)) (w.heap.size + 2) 46 #[.slice none 0 0, .int .i64 0, .int .i64 0] := Blk.far (p := ⟨w.heap.size, 0, none⟩) ((hfar _ HB.out.2.1.lt HNE.out.1).trans HB.out.2.1) (by simp) _
        have e3 : Blk (w5.setCell ⟨w.heap.size, 0, none⟩ (.slice (some ⟨g5, 0, none⟩) (q.l.length + 1) cap5)) (w.heap.size + 3) 48 #[.int .i64 0, .string ByteArray.empty, .int .i64 0, .int .i64 0, .int .u64 0, .string ByteArray.empty, .slice none 0 0, .int .i64 0, .int .i64 0, .string ByteArray.empty, .int .i64 0, .int .i64 0, .int .i64 0] := Blk.far (p := ⟨w.heap.size, 0, none⟩) ((hfar _ HB.out.2.2.lt HNE.out.2).trans HB.out.2.2) (by simp) _
        have hB5 : Below w.heap.size w (w5.setCell ⟨w.heap.size, 0, none⟩ (.slice (some ⟨g5, 0, none⟩) (q.l.length + 1) cap5)) := (B4.trans (hbl w.heap.size (by omega))).setCell (by show w.heap.size ≤ w.heap.size; omega) _
        have HR := Lib.hid hR2
        have E0 := Lib.hid e0
        have E2 := Lib.hid e2
        have E3 := Lib.hid e3
        clear hR hR2 hfar hbl c4 f4 c6 f6 hgrow5 e0 e2 e3
        go_wp2_with fail
        go_meet
        exact ⟨_, _, _, _, E0.out, E2.out, E3.out, HR.out, hB5⟩
    case rest =>
      obtain ⟨g5, cap5, S5, css5, b0n, b2n, b3n, hR, B5⟩ := hcut
      clear c4 c1' c2' f4 f1 f2 b0 b1 b2 b3 hleO hbaseW HC4
      have hlw : w.heap.size + 4 ≤ wc.heap.size := by have := (hR.far_lt g5 rfl); omega
      go_wp2_with (first
        | (refine wpList_load_blk rfl 46 _ rfl (w.heap.size) 0 rfl [.slice (some ⟨g5, 0, none⟩) (q.l.length + 1) cap5, .int .i64 q.r, .int .i64 q.d] _ (Blk.range (pre := []) (post := []) b0n rfl) Try.underlying46 rfl sizeI ?_)
        | (refine wpList_store_blk (T := 46) rfl 46 _ _ rfl (w.heap.size + 2) 0 [] [.slice none 0 0, .int .i64 0, .int .i64 0] [] [.slice (some ⟨g5, 0, none⟩) (q.l.length + 1) cap5, .int .i64 q.r, .int .i64 q.d] rfl rfl b2n rfl rfl sizeI inb_one ?_; intro w6 r2 U5; have b3m := U5.blk b3n (by omega))
        | (refine wpList_store_blk (T := 48) rfl 48 _ _ rfl (w.heap.size + 3) 0 [] [.int .i64 0, .string ByteArray.empty, .int .i64 0, .int .i64 0, .int .u64 0, .string ByteArray.empty, .slice none 0 0, .int .i64 0, .int .i64 0, .string ByteArray.empty, .int .i64 0, .int .i64 0, .int .i64 0] [] [.int .i64 0, .string ByteArray.empty, .int .i64 0, .int .i64 0, .int .u64 0, .string ByteArray.empty, .slice none 0 0, .int .i64 0, .int .i64 0, .string ByteArray.empty, .int .i64 0, .int .i64 0, .int .i64 0] rfl rfl b3m rfl rfl sizeM (by simp [Value.oneCell']) ?_; intro w7 r3 U6; have r2' := U6.blk r2 (by omega)))
      refine bodyPost_ret (res_cctt rfl rfl (load_blk w7 (w.heap.size + 2) 46 [.slice (some ⟨g5, 0, none⟩) (q.l.length + 1) cap5, .int .i64 q.r, .int .i64 q.d] _ r2' Try.underlying46 rfl sizeI) rfl (load_blk w7 (w.heap.size + 3) 48 [.int .i64 0, .string ByteArray.empty, .int .i64 0, .int .i64 0, .int .u64 0, .string ByteArray.empty, .slice none 0 0, .int .i64 0, .int .i64 0, .string ByteArray.empty, .int .i64 0, .int .i64 0, .int .i64 0] _ r3 Try.underlying48 rfl sizeM) rfl rfl) rfl ?_
      rw [HQ.out]
      have hs5 : w7.heap.size = wc.heap.size := by rw [U6.size, U5.size]
      refine ⟨some ⟨g5, 0, none⟩, q.l.length + 1, cap5, 0, 0, 0, ByteArray.empty, none, 0, 0, rfl, rows_end hR (by omega) (fun x hx => (U6.far x (by omega)).trans (U5.far x (by omega))) (by omega), zeroM_is _ _, ?_⟩
      exact (B5.trans (U5.below _ (by omega))).trans (U6.below _ (by omega))
  · by_cases h2 : drop = 0
    · subst h2
      have hq : putQ q room 0 m = (⟨q.l, q.r, q.d + 1⟩, m, true, 0) := by rw [putQ, if_neg h1, if_pos rfl]
      have HQ := Lib.hid hq
      clear hq
      go_upto_region 8 with fail
      have b0n : Blk (w4.setCell ⟨w.heap.size, 2, none⟩ (.int .i64 (q.d + 1))) w.heap.size 46 #[.slice aq q.l.length cq, .int .i64 q.r, .int .i64 (q.d + 1)] := b0.set 2 _
      have b1n := b1.far (p := ⟨w.heap.size, 2, none⟩) (by simp) (.int .i64 (q.d + 1))
      have b2n := b2.far (p := ⟨w.heap.size, 2, none⟩) (by simp) (.int .i64 (q.d + 1))
      have b3n := b3.far (p := ⟨w.heap.size, 2, none⟩) (by simp) (.int .i64 (q.d + 1))
      have hsn : ((w4.setCell ⟨w.heap.size, 2, none⟩ (.int .i64 (q.d + 1))).drew).heap.size = w4.heap.size := by show (w4.setCell _ _).heap.size = _; simp
      have HCn := Lib.hid (copymsg_any m ((w4.setCell ⟨w.heap.size, 2, none⟩ (.int .i64 (q.d + 1))).drew) S [.int .i64 m.id, .string m.topic, .int .i64 k, .int .i64 i, .int .u64 b, .string s, .slice am nm cm, .int .i64 m.tat, .int .i64 m.til, .string m.reply, .int .i64 m.corr, .int .i64 m.prio, .int .i64 m.hops] (HM4.out.keep (fun _ h => h) (fun x hx j => World.cell?_of_block (a := ⟨x, j, none⟩) (heap_set (p := ⟨w.heap.size, 2, none⟩) (by have := HSW.out x hx; show x ≠ w.heap.size; omega)))) (fun x hx => by rw [hsn]; exact HS4.out x hx) hz)
      have HSN := Lib.hid hsn
      clear c4 c1' c2' f4 f1 f2 b0 b1 b2 b3 hsn hleO hbaseW
      refine wp_region_held_drew (S := (fun w' => Blk w' (w.heap.size) 46 #[.slice aq q.l.length cq, .int .i64 q.r, .int .i64 (q.d + 1)] ∧ Blk w' (w.heap.size + 1) 48 #[.int .i64 m.id, .string m.topic, .int .i64 k, .int .i64 i, .int .u64 b, .string s, .slice am nm cm, .int .i64 m.tat, .int .i64 m.til, .string m.reply, .int .i64 m.corr, .int .i64 m.prio, .int .i64 m.hops])) (by kernel_rfl) ?_ (fun hHeld => ?_)
      · exact ⟨b0n.drew, b1n.drew⟩
      refine wpAnyH_take (i := 0) (v := .agg #[.slice aq q.l.length cq, .int .i64 q.r, .int .i64 (q.d + 1)]) rfl (by kernel_rfl) (by kernel_rfl) (by kernel_rfl) (fun _ _ _ h => h) (yieldsIf_load_mid (by rfl) 46 _ rfl (w.heap.size) (0) (by rfl) [.slice aq q.l.length cq, .int .i64 q.r, .int .i64 (q.d + 1)] _ (fun w' h => Blk.range (pre := []) (post := []) h.1 rfl) Try.underlying46 rfl sizeI) hHeld ?_
      try simp only [Act.put, List.getElem_toArray, List.getElem_cons_zero, List.setIfInBounds_toArray, List.set_cons_zero, List.set_cons_succ]
      refine wpAnyH_take (i := 1) (v := .agg #[.int .i64 m.id, .string m.topic, .int .i64 k, .int .i64 i, .int .u64 b, .string s, .slice am nm cm, .int .i64 m.tat, .int .i64 m.til, .string m.reply, .int .i64 m.corr, .int .i64 m.prio, .int .i64 m.hops]) rfl (by kernel_rfl) (by kernel_rfl) (by kernel_rfl) (fun _ _ _ h => h) (yieldsIf_load_mid (by rfl) 48 _ rfl (w.heap.size + 1) (0) (by rfl) [.int .i64 m.id, .string m.topic, .int .i64 k, .int .i64 i, .int .u64 b, .string s, .slice am nm cm, .int .i64 m.tat, .int .i64 m.til, .string m.reply, .int .i64 m.corr, .int .i64 m.prio, .int .i64 m.hops] _ (fun w' h => Blk.range (pre := []) (post := []) h.2 rfl) Try.underlying48 rfl sizeM) hHeld ?_
      try simp only [Act.put, List.getElem_toArray, List.getElem_cons_zero, List.getElem_cons_succ, List.setIfInBounds_toArray, List.set_cons_zero, List.set_cons_succ]
      refine wpAnyH_ready (rs := [2]) (by kernel_rfl) (by simp) ?_
      refine AllReadyH.cons rfl (fun K hK => ?_) AllReadyH.nil
      go_simp
      go_at_call 38
      refine HCn.out.mono ?_
      rintro e wv ⟨k1, i1, b1, s1, a1, n1, c1, rfl, hm2, hb2⟩
      have HM2 := Lib.hid hm2
      clear hm2
      refine hK.out _ _ ⟨Blk.under hHeld.1 hb2 (Blk.lt hHeld.1), Blk.under hHeld.2 hb2 (Blk.lt hHeld.2)⟩ (fun hHeld2 => ?_)
      clear hHeld hK K
      have hHeld := hHeld2
      clear hHeld2
      try simp only [Act.put, List.getElem_toArray, List.getElem_cons_zero, List.getElem_cons_succ, List.setIfInBounds_toArray, List.set_cons_zero, List.set_cons_succ]
      have bR0 := Blk.under b2n.drew hb2 b2n.drew.lt
      have bR1 := Blk.under b3n.drew hb2 b3n.drew.lt
      refine wpAnyH_ready (rs := [3]) (by kernel_rfl) (by simp) ?_
      refine AllReadyH.cons rfl (fun K hK => ?_) AllReadyH.nil
      refine step_store_blk (T := 46) (by rfl) 46 _ _ (by rfl) (w.heap.size + 2) 0 [] [.slice none 0 0, .int .i64 0, .int .i64 0] [] [.slice aq q.l.length cq, .int .i64 q.r, .int .i64 (q.d + 1)] (by rfl) (by rfl) bR0 rfl rfl sizeI inb_one (fun wa r2 Ua => ?_)
      refine hK.out _ _ ⟨Ua.blk hHeld.1 (by omega), Ua.blk hHeld.2 (by omega)⟩ (fun hHeld2 => ?_)
      clear hHeld hK K
      have hHeld := hHeld2
      clear hHeld2
      try simp only [Act.put, List.getElem_toArray, List.getElem_cons_zero, List.getElem_cons_succ]
      have bR1' := Ua.blk bR1 (by omega)
      refine wpAnyH_ready (rs := [4]) (by kernel_rfl) (by simp) ?_
      refine AllReadyH.cons rfl (fun K hK => ?_) AllReadyH.nil
      refine step_store_blk (T := 48) (by rfl) 48 _ _ (by rfl) (w.heap.size + 3) 0 [] [.int .i64 0, .string ByteArray.empty, .int .i64 0, .int .i64 0, .int .u64 0, .string ByteArray.empty, .slice none 0 0, .int .i64 0, .int .i64 0, .string ByteArray.empty, .int .i64 0, .int .i64 0, .int .i64 0] [] [.int .i64 m.id, .string m.topic, .int .i64 k1, .int .i64 i1, .int .u64 b1, .string s1, .slice a1 n1 c1, .int .i64 m.tat, .int .i64 m.til, .string m.reply, .int .i64 m.corr, .int .i64 m.prio, .int .i64 m.hops] (by rfl) (by rfl) bR1' rfl rfl sizeM (by simp [Value.oneCell']) (fun wb r3 Ub => ?_)
      refine hK.out _ _ ⟨Ub.blk hHeld.1 (by omega), Ub.blk hHeld.2 (by omega)⟩ (fun hHeld2 => ?_)
      clear hHeld hK K
      have hHeld := hHeld2
      clear hHeld2
      try simp only [Act.put, List.getElem_toArray, List.getElem_cons_zero, List.getElem_cons_succ]
      replace r2 := Ub.blk r2 (by omega)
      refine wpAnyH_take (i := 5) (v := ?_) rfl (by kernel_rfl) (by kernel_rfl) (by kernel_rfl) (fun _ _ _ h => h) (Or.inl ⟨by rfl, ?_⟩) hHeld ?_
      rotate_left
      · intro w hSw
        try dsimp only at hSw
        first | (go_simp; done) | (go_simp; with_reducible rfl)
      try simp only [Act.put, List.getElem_toArray, List.getElem_cons_zero, List.getElem_cons_succ, List.setIfInBounds_toArray, List.set_cons_zero, List.set_cons_succ]
      refine wpAnyH_take (i := 6) (v := ?_) rfl (by kernel_rfl) (by kernel_rfl) (by kernel_rfl) (fun _ _ _ h => h) (Or.inl ⟨by rfl, ?_⟩) hHeld ?_
      rotate_left
      · intro w hSw
        try dsimp only at hSw
        first | (go_simp; done) | (go_simp; with_reducible rfl)
      try simp only [Act.put, List.getElem_toArray, List.getElem_cons_zero, List.getElem_cons_succ, List.setIfInBounds_toArray, List.set_cons_zero, List.set_cons_succ]
      refine wpAnyH_done (by kernel_rfl) ?_ _
      clear hHeld bR0 bR1 bR1'
      go_wp2_with fail
      refine bodyPost_ret (res_cctt rfl rfl (load_blk wb (w.heap.size + 2) 46 [.slice aq q.l.length cq, .int .i64 q.r, .int .i64 (q.d + 1)] _ r2 Try.underlying46 rfl sizeI) rfl (load_blk wb (w.heap.size + 3) 48 [.int .i64 m.id, .string m.topic, .int .i64 k1, .int .i64 i1, .int .u64 b1, .string s1, .slice a1 n1 c1, .int .i64 m.tat, .int .i64 m.til, .string m.reply, .int .i64 m.corr, .int .i64 m.prio, .int .i64 m.hops] _ r3 Try.underlying48 rfl sizeM) rfl rfl) rfl ?_
      rw [HQ.out]
      have hs2 := hb2.size
      rw [HSN.out] at hs2
      have hs6 : wb.heap.size = wv.heap.size := by rw [Ub.size, Ua.size]
      have hfar : ∀ x, w.heap.size + 4 ≤ x → wb.heap[x]? = wv.heap[x]? := fun x hx => (Ub.far x (by omega)).trans (Ua.far x (by omega))
      have hO2 := (OwnE.drew (OwnE.set keepsM HOWN4.out (p := ⟨w.heap.size, 2, none⟩) (u := .int .i64 (q.d + 1)) (fun h => absurd (HOWN4.out.far _ h).1 (by show ¬ (w.heap.size + 4 ≤ w.heap.size); omega)) (fun h => absurd (HOWN4.out.far_lt _ h).1 (by show ¬ (w.heap.size + 4 ≤ w.heap.size); omega))) keepsM).below keepsM hb2 (Nat.le_refl _)
      have hm2' := HM2.out
      rw [HSN.out] at hm2'
      refine ⟨aq, q.l.length, cq, k1, i1, b1, s1, a1, n1, c1, rfl, rows_end hO2 (by omega) hfar (by omega), msg_end hm2' (fun x hx => ⟨by have := hx.1; omega, hx.2⟩) (by omega) hfar (by omega), ?_⟩
      exact (((B4.setCell (p := ⟨w.heap.size, 2, none⟩) (Nat.le_refl _) _).drew.trans (hb2.mono (by rw [HSN.out]; omega))).trans (Ua.below _ (by omega))).trans (Ub.below _ (by omega))
    · by_cases h3 : drop = 1
      · subst h3
        have hl' : (q.l ++ [m]).length = q.l.length + 1 := by simp
        obtain ⟨ki, hK⟩ : ∃ ki, ki = lowI (q.l ++ [m]) (q.l.length + 1) := ⟨_, rfl⟩
        have hKl : ki < q.l.length + 1 := by rw [hK, ← hl']; exact lowI_lt (by rw [hl']; omega) (Nat.le_refl _)
        have hq : putQ q room 1 m = (⟨(q.l ++ [m]).eraseIdx ki, q.r, q.d + 1⟩, atM (q.l ++ [m]) ki, true, 0) := by rw [putQ, if_neg h1, if_neg (by decide), if_pos rfl, ← hK]
        have HQ := Lib.hid hq
        have HKD := Lib.hid hK
        have HLL := Lib.hid hl'
        clear hq hK hl'
        go_upto_region 10 with fail
        go_cut [] from 43 (fun wx => ∃ (g5 cap5 : Nat) (S5 : Nat → Prop) (css5 : List (List Value)), Blk wx w.heap.size 46 #[.slice (some ⟨g5, 0, none⟩) (q.l.length + 1) cap5, .int .i64 q.r, .int .i64 q.d] ∧ Blk wx (w.heap.size + 2) 46 #[.slice none 0 0, .int .i64 0, .int .i64 0] ∧ Blk wx (w.heap.size + 3) 48 #[.int .i64 0, .string ByteArray.empty, .int .i64 0, .int .i64 0, .int .u64 0, .string ByteArray.empty, .slice none 0 0, .int .i64 0, .int .i64 0, .string ByteArray.empty, .int .i64 0, .int .i64 0, .int .i64 0] ∧ OwnE IsM 48 13 wx (w.heap.size + 4) (q.l ++ [m]) (.slice (some ⟨g5, 0, none⟩) (q.l.length + 1) cap5) S5 css5 ∧ Below w.heap.size w wx)
        case first =>
          clear b0 b2 b3
          obtain ⟨x0, x1, x2, x3, x4, x5, x6, x7, x8, x9, x10, x11, x12⟩ := Blk.cells13 b1
          go_region_law (first
              | (go_simp; go_at_call 38; refine HC4.out.mono ?_; rintro e w2 ⟨k1, i1, b1, s1, a1, n1, c1, rfl, hm2, hb2⟩; have HM2 := Lib.hid hm2; clear hm2; have hle5 := Nat.lt_of_lt_of_le hleO hb2.size; have c6 := cell_over hb2 hleO c4; have f6 := free_over hb2 hleO f4)
              | (refine step_append_lies _ (by rfl) _ _ _ (by rfl) (w.heap.size + 4) 48 i0 _ 13 144 Try.underlying44 hi0 hz0 hz1 hz2 rfl (by omega) (.slice aq q.l.length cq) q.l.length css1.flatten (by rfl) ((own_below HROW4.out hb2).alloc _)
                  ⟨w2.heap.size, 0, none⟩ 1 1 [.int .i64 m.id, .string m.topic, .int .i64 k1, .int .i64 i1, .int .u64 b1, .string s1, .slice a1 n1 c1, .int .i64 m.tat, .int .i64 m.til, .string m.reply, .int .i64 m.corr, .int .i64 m.prio, .int .i64 m.hops] (by rfl) (by rfl)
                  (World.news_of_block (cs := #[.int .i64 m.id, .string m.topic, .int .i64 k1, .int .i64 i1, .int .u64 b1, .string s1, .slice a1 n1 c1, .int .i64 m.tat, .int .i64 m.til, .string m.reply, .int .i64 m.corr, .int .i64 m.prio, .int .i64 m.hops]) (t := 48) (fr := (0, 0)) (heap_alloc_new w2 _)) HM2.out.one
                  (by omega) (by unfold maxLen; omega) (by omega) (by have := hb2.size; have := hbaseW; simp; omega) (w2.heap.size + 1) (by simp) ?_
                 intro g5 cap5 w5 hown5 hgrow5 hat5 hlt5
                 have HO5 := Lib.hid hown5
                 have HAT := Lib.hid hat5
                 clear hown5 hat5
                 have c7 := (far_cell hgrow5 hle5 hneO).trans c6
                 have f7 := (far_free hgrow5 hle5 hneO).trans f6))
          all_goals
            obtain ⟨hR, hfar, hs5, hbl⟩ := OwnE.grow keepsM HOWN4.out ((Below.refl _ _).drew) hb2 hs4 HM2.out rfl HO5.out rfl hgrow5 HAT.out
            have hR2 := OwnE.set keepsM hR (p := ⟨w.heap.size, 0, none⟩) (u := .slice (some ⟨g5, 0, none⟩) (q.l.length + 1) cap5) (fun h => absurd (hR.far _ h).1 (by show ¬ (w.heap.size + 4 ≤ w.heap.size); omega)) (fun h => absurd (hR.far_lt _ h).1 (by show ¬ (w.heap.size + 4 ≤ w.heap.size); omega))
            have e0 : Blk (w5.setCell ⟨w.heap.size, 0, none⟩ (.slice (some ⟨g5, 0, none⟩) (q.l.length + 1) cap5)) w.heap.size 46 #[.slice (some ⟨g5, 0, none⟩) (q.l.length + 1) cap5, .int .i64 q.r, .int .i64 q.d] := Blk.set (i := 0) ((hfar _ HB.out.1.lt hneO).trans HB.out.1) _
            have e2 : Blk (w5.setCell ⟨w.heap.size, 0, none⟩ (.slice (some ⟨g5, 0, none⟩) (q.l.length + 1) cap5)) (w.heap.size + 2) 46 #[.slice none 0 0, .int .i64 0, .int .i64 0] := Blk.far (p := ⟨w.heap.size, 0, none⟩) ((hfar _ HB.out.2.1.lt HNE.out.1).trans HB.out.2.1) (by simp) _
            have e3 : Blk (w5.setCell ⟨w.heap.size, 0, none⟩ (.slice (some ⟨g5, 0, none⟩) (q.l.length + 1) cap5)) (w.heap.size + 3) 48 #[.int .i64 0, .string ByteArray.empty, .int .i64 0, .int .i64 0, .int .u64 0, .string ByteArray.empty, .slice none 0 0, .int .i64 0, .int .i64 0, .string ByteArray.empty, .int .i64 0, .int .i64 0, .int .i64 0] := Blk.far (p := ⟨w.heap.size, 0, none⟩) ((hfar _ HB.out.2.2.lt HNE.out.2).trans HB.out.2.2) (by simp) _
            have hB5 : Below w.heap.size w (w5.setCell ⟨w.heap.size, 0, none⟩ (.slice (some ⟨g5, 0, none⟩) (q.l.length + 1) cap5)) := (B4.trans (hbl w.heap.size (by omega))).setCell (by show w.heap.size ≤ w.heap.size; omega) _
            have HR := Lib.hid hR2
            have E0 := Lib.hid e0
            have E2 := Lib.hid e2
            have E3 := Lib.hid e3
            clear hR hR2 hfar hbl c4 f4 c6 f6 hgrow5 e0 e2 e3
            go_wp2_with fail
            go_meet
            exact ⟨_, _, _, _, E0.out, E2.out, E3.out, HR.out, hB5⟩
        case rest =>
          obtain ⟨g5, cap5, S5, css5, b0n, b2n, b3n, hR, B5⟩ := hcut
          clear c4 c1' c2' f4 f1 f2 b0 b1 b2 b3 hleO hbaseW HC4 HROW4 HNE hneO
          have hlw : w.heap.size + 4 ≤ wc.heap.size := by have := (hR.far_lt g5 rfl); omega
          have c0 : wc.cell? ⟨w.heap.size, 0, none⟩ = some (.slice (some ⟨g5, 0, none⟩) (q.l.length + 1) cap5) := Blk.cell b0n 0
          have hcell : ∀ i, i < q.l.length + 1 → wc.cell? ⟨g5, i * 13 + 11, none⟩ = some (.int .i64 (atM (q.l ++ [m]) i).prio) := fun i hi => by
            obtain ⟨X, hX, hXm⟩ := hR.at_ i _ (atM_mem (l := q.l ++ [m]) (i := i) (by rw [HLL.out]; exact hi))
            obtain ⟨kx, ix, bx, sx, ax, nx, cx, rfl, -, -, -⟩ := hXm
            have := hR.row.cells (g := g5) rfl (i * 13 + 11) _ (flat_get hR.wide hX 11 _ rfl)
            simpa [Addr.add_mid] using this
          have HCELL := Lib.hid hcell
          have HR := Lib.hid hR
          have B0N := Lib.hid b0n
          have B2N := Lib.hid b2n
          have B3N := Lib.hid b3n
          clear hcell hR b0n b2n b3n
          go_wp2_with fail
          go_loopw [12, 53] (fun kv iv wr => ∃ j t nq : Nat, iv = .int .i64 j ∧ kv = .int .i64 t ∧ t = lowI (q.l ++ [m]) j ∧ j ≤ q.l.length + 1 ∧ wr = wc.drewN nq) (fun _ i _ => q.l.length + 1 - (intOf i).toNat)
          case atStart => exact ⟨0, 0, 0, rfl, rfl, rfl, Nat.zero_le _, rfl⟩
          case round =>
            obtain ⟨j, t, nq, rfl, rfl, ht, hj, rfl⟩ := hrel
            have HTT := Lib.hid ht
            clear ht
            by_cases hlt : j < q.l.length + 1
            · have htl : t < q.l.length + 1 := by rw [HTT.out, ← HLL.out]; exact lowI_lt (by rw [HLL.out]; omega) (by rw [HLL.out]; exact hj)
              have p0 := HCELL.out j hlt
              have p1 := HCELL.out t htl
              have hstep : lowI (q.l ++ [m]) (j + 1) = if (atM (q.l ++ [m]) j).prio < (atM (q.l ++ [m]) t).prio then j else t := by rw [lowI, ← HTT.out]
              have HST := Lib.hid hstep
              have c0' : (wc.drewN nq).cell? ⟨w.heap.size, 0, none⟩ = some (.slice (some ⟨g5, 0, none⟩) (q.l.length + 1) cap5) := c0
              have hj0 : (0 : Int) ≤ (j : Int) := by omega
              have hj1 : (j : Int) < ((q.l.length + 1 : Nat) : Int) := by omega
              have hj2 : (0 : Int) ≤ (t : Int) := by omega
              have hj3 : (t : Int) < ((q.l.length + 1 : Nat) : Int) := by omega
              have hj4 : (j : Int) < (q.l.length : Int) + 1 := by omega
              have hj5 : (t : Int) < (q.l.length : Int) + 1 := by omega
              generalize (atM (q.l ++ [m]) j).prio = P0 at p0 HST
              generalize (atM (q.l ++ [m]) t).prio = P1 at p1 HST
              clear hstep
              by_cases hp : P0 < P1
              · have hs2 : lowI (q.l ++ [m]) (j + 1) = j := by rw [HST.out, if_pos hp]
                have HS2 := Lib.hid hs2
                clear hs2
                go_wp2_with fail
                go_quiet (fail)
                go_wp2_with fail
                go_roundw
                case rel => exact ⟨j + 1, j, _, by go_num, rfl, HS2.out.symm, by omega, by first | rfl | exact drewN_drewN _ _ _⟩
                case measure => simp [intOf]; omega
              · have hs2 : lowI (q.l ++ [m]) (j + 1) = t := by rw [HST.out, if_neg hp]
                have HS2 := Lib.hid hs2
                clear hs2
                go_wp2_with fail
                go_quiet (fail)
                go_wp2_with fail
                go_roundw
                case rel => exact ⟨j + 1, t, _, by go_num, rfl, HS2.out.symm, by omega, by first | rfl | exact drewN_drewN _ _ _⟩
                case measure => simp [intOf]; omega
            · obtain rfl : j = q.l.length + 1 := by omega
              have htk : t = ki := by rw [HTT.out, HKD.out]
              subst htk
              obtain ⟨w6, h6⟩ : ∃ w6, w6 = wc.drewN nq := ⟨_, rfl⟩
              have hR6 : OwnE IsM 48 13 w6 (w.heap.size + 4) (q.l ++ [m]) (.slice (some ⟨g5, 0, none⟩) (q.l.length + 1) cap5) S5 css5 := by rw [h6]; exact HR.out.drewN keepsM nq
              have b0 : Blk w6 w.heap.size 46 #[.slice (some ⟨g5, 0, none⟩) (q.l.length + 1) cap5, .int .i64 q.r, .int .i64 q.d] := by rw [h6]; exact B0N.out
              have b2 : Blk w6 (w.heap.size + 2) 46 #[.slice none 0 0, .int .i64 0, .int .i64 0] := by rw [h6]; exact B2N.out
              have b3 : Blk w6 (w.heap.size + 3) 48 #[.int .i64 0, .string ByteArray.empty, .int .i64 0, .int .i64 0, .int .u64 0, .string ByteArray.empty, .slice none 0 0, .int .i64 0, .int .i64 0, .string ByteArray.empty, .int .i64 0, .int .i64 0, .int .i64 0] := by rw [h6]; exact B3N.out
              have B6 : Below w.heap.size w w6 := by rw [h6]; exact ⟨B5.os, B5.tape, B5.output, B5.size, B5.block⟩
              have hs6 : w.heap.size + 4 ≤ w6.heap.size := by rw [h6]; exact hlw
              rw [← h6]
              have c0w : w6.cell? ⟨w.heap.size, 0, none⟩ = some (.slice (some ⟨g5, 0, none⟩) (q.l.length + 1) cap5) := Blk.cell b0 0
              obtain ⟨X, hX, hXm⟩ := hR6.at_ t _ (atM_mem (l := q.l ++ [m]) (i := t) (by rw [HLL.out]; exact hKl))
              have hXX := hXm
              obtain ⟨kx, ix, bx, sx, ax, nx, cx, rfl, -, -, -⟩ := hXm
              have hr6 : w6.rangeAt g5 (t * 13) [.int .i64 (atM (q.l ++ [m]) t).id, .string (atM (q.l ++ [m]) t).topic, .int .i64 kx, .int .i64 ix, .int .u64 bx, .string sx, .slice ax nx cx, .int .i64 (atM (q.l ++ [m]) t).tat, .int .i64 (atM (q.l ++ [m]) t).til, .string (atM (q.l ++ [m]) t).reply, .int .i64 (atM (q.l ++ [m]) t).corr, .int .i64 (atM (q.l ++ [m]) t).prio, .int .i64 (atM (q.l ++ [m]) t).hops] := fun j v hv => by
                have := hR6.row.cells (g := g5) rfl (t * 13 + j) v (flat_get hR6.wide hX j v hv)
                simpa [Addr.add_mid] using this
              have hk0 : (0 : Int) ≤ (t : Int) := by omega
              have hk1 : (t : Int) < ((q.l.length + 1 : Nat) : Int) := by omega
              have hk2 : (t : Int) < (q.l.length : Int) + 1 := by omega
              have hg6 : g5 < w6.heap.size := (hR6.far_lt g5 rfl).2
              have HR6 := Lib.hid hR6
              have HXX := Lib.hid hXX
              have HTT2 := Lib.hid HTT
              clear h6 hX hR6 hXX c0 HR HCELL B0N B2N B3N hlw hlt
              go_upto_region 19 with (first
                | (refine wpList_load_blk rfl 48 _ rfl g5 (t * 13) rfl [.int .i64 (atM (q.l ++ [m]) t).id, .string (atM (q.l ++ [m]) t).topic, .int .i64 kx, .int .i64 ix, .int .u64 bx, .string sx, .slice ax nx cx, .int .i64 (atM (q.l ++ [m]) t).tat, .int .i64 (atM (q.l ++ [m]) t).til, .string (atM (q.l ++ [m]) t).reply, .int .i64 (atM (q.l ++ [m]) t).corr, .int .i64 (atM (q.l ++ [m]) t).prio, .int .i64 (atM (q.l ++ [m]) t).hops] _ hr6 Try.underlying48 rfl sizeM ?_)
                | (refine wpList_store_blk (T := 48) rfl 48 _ _ rfl (w6.heap.size) 0 [] [.int .i64 0, .string ByteArray.empty, .int .i64 0, .int .i64 0, .int .u64 0, .string ByteArray.empty, .slice none 0 0, .int .i64 0, .int .i64 0, .string ByteArray.empty, .int .i64 0, .int .i64 0, .int .i64 0] [] [.int .i64 (atM (q.l ++ [m]) t).id, .string (atM (q.l ++ [m]) t).topic, .int .i64 kx, .int .i64 ix, .int .u64 bx, .string sx, .slice ax nx cx, .int .i64 (atM (q.l ++ [m]) t).tat, .int .i64 (atM (q.l ++ [m]) t).til, .string (atM (q.l ++ [m]) t).reply, .int .i64 (atM (q.l ++ [m]) t).corr, .int .i64 (atM (q.l ++ [m]) t).prio, .int .i64 (atM (q.l ++ [m]) t).hops] rfl rfl (Blk.new w6 _ _) rfl rfl sizeM (by simp [Value.oneCell']) ?_; intro w7 bg U7))
              have hb67 : Below w6.heap.size w6 w7 := ((Below.refl w6.heap.size w6).alloc (Nat.le_refl _) _).trans (U7.below _ (Nat.le_refl _))
              have hs7 : w7.heap.size = w6.heap.size + 1 := by rw [U7.size]; simp
              have hR7 := HR6.out.below keepsM hb67 (Nat.le_refl _)
              have hX7 : IsM w7 _ (atM (q.l ++ [m]) t) [.int .i64 (atM (q.l ++ [m]) t).id, .string (atM (q.l ++ [m]) t).topic, .int .i64 kx, .int .i64 ix, .int .u64 bx, .string sx, .slice ax nx cx, .int .i64 (atM (q.l ++ [m]) t).tat, .int .i64 (atM (q.l ++ [m]) t).til, .string (atM (q.l ++ [m]) t).reply, .int .i64 (atM (q.l ++ [m]) t).corr, .int .i64 (atM (q.l ++ [m]) t).prio, .int .i64 (atM (q.l ++ [m]) t).hops] := HXX.out.under hb67 (fun x hx => (HR6.out.far x hx).2.1)
              have b0q := b0.under hb67 (by omega)
              have b2q := b2.under hb67 (by omega)
              have b3q := b3.under hb67 (by omega)
              have B7 : Below w.heap.size w w7 := B6.trans (hb67.mono (by omega))
              have HR7 := Lib.hid hR7
              have HX7 := Lib.hid hX7
              have HS7 := Lib.hid hs7
              clear HR6 HXX b0 b2 b3 U7 hr6 hR7 hX7 hb67 hs7 c0w
              go_wp2_with (refine wpList_load_blk rfl 46 _ rfl (w.heap.size) 0 rfl [.slice (some ⟨g5, 0, none⟩) (q.l.length + 1) cap5, .int .i64 q.r, .int .i64 q.d] _ (Blk.range (pre := []) (post := []) b0q rfl) Try.underlying46 rfl sizeI ?_)
              refine (without_any ⟨q.l ++ [m], q.r, q.d⟩ t (some ⟨g5, 0, none⟩) (q.l.length + 1) cap5 (Btw (w.heap.size + 4) w7.heap.size) w7 (OwnE.rows keepsM HR7.out) (fun x hx => hx.2) HSM2.out (by omega)).mono ?_
              rintro e w8 ⟨a8, c8, S8, css8, he8, hown8, hb8⟩
              obtain ⟨L8, hL8⟩ : ∃ L8, L8 = ((q.l ++ [m]).eraseIdx t).length := ⟨_, rfl⟩
              have he9 : e = .returned (.agg #[.slice a8 L8 c8, .int .i64 q.r, .int .i64 q.d]) := by rw [he8, hL8]
              have hown9 : OwnE IsM 48 13 w8 w7.heap.size ((q.l ++ [m]).eraseIdx t) (.slice a8 L8 c8) S8 css8 := by rw [hL8]; exact hown8
              clear he8 hown8 hL8
              subst he9
              have hs8 := hb8.size
              have b0r := b0q.under hb8 (by have := HS7.out; omega)
              have b2r := b2q.under hb8 (by have := HS7.out; omega)
              have b3r := b3q.under hb8 (by have := HS7.out; omega)
              have bgr := bg.under hb8 (by have := HS7.out; omega)
              have hX8 : IsM w8 _ (atM (q.l ++ [m]) t) [.int .i64 (atM (q.l ++ [m]) t).id, .string (atM (q.l ++ [m]) t).topic, .int .i64 kx, .int .i64 ix, .int .u64 bx, .string sx, .slice ax nx cx, .int .i64 (atM (q.l ++ [m]) t).tat, .int .i64 (atM (q.l ++ [m]) t).til, .string (atM (q.l ++ [m]) t).reply, .int .i64 (atM (q.l ++ [m]) t).corr, .int .i64 (atM (q.l ++ [m]) t).prio, .int .i64 (atM (q.l ++ [m]) t).hops] := HX7.out.under hb8 (fun x hx => (HR7.out.far x hx).2.1)
              have hS8 : ∀ x, S5 x → w.heap.size + 4 ≤ x ∧ x < w8.heap.size := fun x hx => ⟨(HR7.out.far x hx).1, Nat.lt_of_lt_of_le (HR7.out.far x hx).2.1 hs8⟩
              have B8 : Below w.heap.size w w8 := B7.trans (hb8.mono (by have := HS7.out; omega))
              have HOWN9 := Lib.hid (hown9.mono (B' := w.heap.size + 4) (by have := HS7.out; omega))
              have HX8 := Lib.hid hX8
              have HS8 := Lib.hid hS8
              have hlt8 : w.heap.size + 4 ≤ w8.heap.size := by have := HS7.out; omega
              clear HR7 HX7 b0q b2q b3q bg hX8 hS8 hown9 hb8
              go_upto_region 20 with (refine wpList_store_blk (T := 46) rfl 46 _ _ rfl (w.heap.size) 0 [] [.slice (some ⟨g5, 0, none⟩) (q.l.length + 1) cap5, .int .i64 q.r, .int .i64 q.d] [] [.slice a8 L8 c8, .int .i64 q.r, .int .i64 q.d] rfl rfl b0r rfl rfl sizeI inb_one ?_; intro w9 b0 U9)
              have b2 := U9.blk b2r (by omega)
              have b3 := U9.blk b3r (by omega)
              have bg9 := U9.blk bgr (by omega)
              have c2w : w9.cell? ⟨w.heap.size, 2, none⟩ = some (.int .i64 q.d) := Blk.cell b0 2
              have f2w := Blk.free b0 2
              clear b0r b2r b3r bgr
              go_upto_region 21 with fail
              have b0n : Blk (w9.setCell ⟨w.heap.size, 2, none⟩ (.int .i64 (q.d + 1))) w.heap.size 46 #[.slice a8 L8 c8, .int .i64 q.r, .int .i64 (q.d + 1)] := Blk.set b0 2 _
              have b2n := Blk.far (p := ⟨w.heap.size, 2, none⟩) b2 (by simp) (.int .i64 (q.d + 1))
              have b3n := Blk.far (p := ⟨w.heap.size, 2, none⟩) b3 (by simp) (.int .i64 (q.d + 1))
              have bgn := Blk.far (p := ⟨w.heap.size, 2, none⟩) bg9 (by simp; omega) (.int .i64 (q.d + 1))
              clear c2w f2w b0 b2 b3 bg9
              refine wp_region_held_drew (S := (fun w' => Blk w' (w.heap.size) 46 #[.slice a8 L8 c8, .int .i64 q.r, .int .i64 (q.d + 1)] ∧ Blk w' (w6.heap.size) 48 #[.int .i64 (atM (q.l ++ [m]) t).id, .string (atM (q.l ++ [m]) t).topic, .int .i64 kx, .int .i64 ix, .int .u64 bx, .string sx, .slice ax nx cx, .int .i64 (atM (q.l ++ [m]) t).tat, .int .i64 (atM (q.l ++ [m]) t).til, .string (atM (q.l ++ [m]) t).reply, .int .i64 (atM (q.l ++ [m]) t).corr, .int .i64 (atM (q.l ++ [m]) t).prio, .int .i64 (atM (q.l ++ [m]) t).hops])) (by kernel_rfl) ?_ (fun hHeld => ?_)
              · exact ⟨b0n.drew, bgn.drew⟩
              refine wpAnyH_take (i := 0) (v := .agg #[.slice a8 L8 c8, .int .i64 q.r, .int .i64 (q.d + 1)]) rfl (by kernel_rfl) (by kernel_rfl) (by kernel_rfl) (fun _ _ _ h => h) (yieldsIf_load_mid (by rfl) 46 _ rfl (w.heap.size) 0 (by rfl) [.slice a8 L8 c8, .int .i64 q.r, .int .i64 (q.d + 1)] _ (fun w' h => Blk.range (pre := []) (post := []) h.1 rfl) Try.underlying46 rfl sizeI) hHeld ?_
              try simp only [Act.put, List.getElem_toArray, List.getElem_cons_zero, List.setIfInBounds_toArray, List.set_cons_zero, List.set_cons_succ]
              refine wpAnyH_take (i := 1) (v := .agg #[.int .i64 (atM (q.l ++ [m]) t).id, .string (atM (q.l ++ [m]) t).topic, .int .i64 kx, .int .i64 ix, .int .u64 bx, .string sx, .slice ax nx cx, .int .i64 (atM (q.l ++ [m]) t).tat, .int .i64 (atM (q.l ++ [m]) t).til, .string (atM (q.l ++ [m]) t).reply, .int .i64 (atM (q.l ++ [m]) t).corr, .int .i64 (atM (q.l ++ [m]) t).prio, .int .i64 (atM (q.l ++ [m]) t).hops]) rfl (by kernel_rfl) (by kernel_rfl) (by kernel_rfl) (fun _ _ _ h => h) (yieldsIf_load_mid (by rfl) 48 _ rfl (w6.heap.size) 0 (by rfl) [.int .i64 (atM (q.l ++ [m]) t).id, .string (atM (q.l ++ [m]) t).topic, .int .i64 kx, .int .i64 ix, .int .u64 bx, .string sx, .slice ax nx cx, .int .i64 (atM (q.l ++ [m]) t).tat, .int .i64 (atM (q.l ++ [m]) t).til, .string (atM (q.l ++ [m]) t).reply, .int .i64 (atM (q.l ++ [m]) t).corr, .int .i64 (atM (q.l ++ [m]) t).prio, .int .i64 (atM (q.l ++ [m]) t).hops] _ (fun w' h => Blk.range (pre := []) (post := []) h.2 rfl) Try.underlying48 rfl sizeM) hHeld ?_
              try simp only [Act.put, List.getElem_toArray, List.getElem_cons_zero, List.getElem_cons_succ, List.setIfInBounds_toArray, List.set_cons_zero, List.set_cons_succ]
              refine wpAnyH_ready (rs := [2]) (by kernel_rfl) (by simp) ?_
              refine AllReadyH.cons rfl (fun K hK => ?_) AllReadyH.nil
              refine step_store_blk (T := 46) (by rfl) 46 _ _ (by rfl) (w.heap.size + 2) 0 [] [.slice none 0 0, .int .i64 0, .int .i64 0] [] [.slice a8 L8 c8, .int .i64 q.r, .int .i64 (q.d + 1)] (by rfl) (by rfl) b2n.drew rfl rfl sizeI inb_one (fun wa r2 Ua => ?_)
              refine hK.out _ _ ⟨Ua.blk hHeld.1 (by omega), Ua.blk hHeld.2 (by omega)⟩ (fun hHeld2 => ?_)
              clear hHeld hK K
              have hHeld := hHeld2
              clear hHeld2
              try simp only [Act.put, List.getElem_toArray, List.getElem_cons_zero, List.getElem_cons_succ]
              have hR1 := Ua.blk b3n.drew (by omega)
              refine wpAnyH_ready (rs := [3]) (by kernel_rfl) (by simp) ?_
              refine AllReadyH.cons rfl (fun K hK => ?_) AllReadyH.nil
              refine step_store_blk (T := 48) (by rfl) 48 _ _ (by rfl) (w.heap.size + 3) 0 [] [.int .i64 0, .string ByteArray.empty, .int .i64 0, .int .i64 0, .int .u64 0, .string ByteArray.empty, .slice none 0 0, .int .i64 0, .int .i64 0, .string ByteArray.empty, .int .i64 0, .int .i64 0, .int .i64 0] [] [.int .i64 (atM (q.l ++ [m]) t).id, .string (atM (q.l ++ [m]) t).topic, .int .i64 kx, .int .i64 ix, .int .u64 bx, .string sx, .slice ax nx cx, .int .i64 (atM (q.l ++ [m]) t).tat, .int .i64 (atM (q.l ++ [m]) t).til, .string (atM (q.l ++ [m]) t).reply, .int .i64 (atM (q.l ++ [m]) t).corr, .int .i64 (atM (q.l ++ [m]) t).prio, .int .i64 (atM (q.l ++ [m]) t).hops] (by rfl) (by rfl) hR1 rfl rfl sizeM (by simp [Value.oneCell']) (fun wb r3 Ub => ?_)
              refine hK.out _ _ ⟨Ub.blk hHeld.1 (by omega), Ub.blk hHeld.2 (by omega)⟩ (fun hHeld2 => ?_)
              clear hHeld hK K
              have hHeld := hHeld2
              clear hHeld2
              try simp only [Act.put, List.getElem_toArray, List.getElem_cons_zero, List.getElem_cons_succ]
              replace r2 := Ub.blk r2 (by omega)
              refine wpAnyH_take (i := 4) (v := ?_) rfl (by kernel_rfl) (by kernel_rfl) (by kernel_rfl) (fun _ _ _ h => h) (Or.inl ⟨by rfl, ?_⟩) hHeld ?_
              rotate_left
              · intro w hSw
                first | (go_simp; done) | (go_simp; with_reducible rfl)
              try simp only [Act.put, List.getElem_toArray, List.getElem_cons_zero, List.getElem_cons_succ, List.setIfInBounds_toArray, List.set_cons_zero, List.set_cons_succ]
              refine wpAnyH_take (i := 5) (v := ?_) rfl (by kernel_rfl) (by kernel_rfl) (by kernel_rfl) (fun _ _ _ h => h) (Or.inl ⟨by rfl, ?_⟩) hHeld ?_
              rotate_left
              · intro w hSw
                first | (go_simp; done) | (go_simp; with_reducible rfl)
              try simp only [Act.put, List.getElem_toArray, List.getElem_cons_zero, List.getElem_cons_succ, List.setIfInBounds_toArray, List.set_cons_zero, List.set_cons_succ]
              refine wpAnyH_done (by kernel_rfl) ?_ _
              clear hHeld hR1
              go_wp2_with fail
              refine bodyPost_ret (res_cctt rfl rfl (load_blk wb (w.heap.size + 2) 46 [.slice a8 L8 c8, .int .i64 q.r, .int .i64 (q.d + 1)] _ r2 Try.underlying46 rfl sizeI) rfl (load_blk wb (w.heap.size + 3) 48 [.int .i64 (atM (q.l ++ [m]) t).id, .string (atM (q.l ++ [m]) t).topic, .int .i64 kx, .int .i64 ix, .int .u64 bx, .string sx, .slice ax nx cx, .int .i64 (atM (q.l ++ [m]) t).tat, .int .i64 (atM (q.l ++ [m]) t).til, .string (atM (q.l ++ [m]) t).reply, .int .i64 (atM (q.l ++ [m]) t).corr, .int .i64 (atM (q.l ++ [m]) t).prio, .int .i64 (atM (q.l ++ [m]) t).hops] _ r3 Try.underlying48 rfl sizeM) rfl rfl) rfl ?_
              rw [HQ.out]
              have hsb : wb.heap.size = w8.heap.size := by rw [Ub.size, Ua.size]; show (w9.setCell _ _).heap.size = _; rw [size_set, U9.size]
              have hfar : ∀ x, w.heap.size + 4 ≤ x → wb.heap[x]? = w8.heap[x]? := fun x hx => (Ub.far x (by omega)).trans ((Ua.far x (by omega)).trans ((heap_set (p := ⟨w.heap.size, 2, none⟩) (by show x ≠ w.heap.size; omega)).trans (U9.far x (by omega))))
              refine ⟨a8, L8, c8, kx, ix, bx, sx, ax, nx, cx, rfl, rows_end HOWN9.out (by omega) hfar (by omega), msg_end HX8.out HS8.out (by omega) hfar (by omega), ?_⟩
              exact ((((B8.trans (U9.below _ (Nat.le_refl _))).setCell (p := ⟨w.heap.size, 2, none⟩) (Nat.le_refl _) _).drew).trans (Ua.below _ (by omega))).trans (Ub.below _ (by omega))
      · have hq : putQ q room drop m = (⟨q.l, q.r + 1, q.d⟩, zeroM, false, 190) := by rw [putQ, if_neg h1, if_neg h2, if_neg h3]
        have HQ := Lib.hid hq
        clear hq
        have b0n : Blk (w4.setCell ⟨w.heap.size, 1, none⟩ (.int .i64 (q.r + 1))) w.heap.size 46 #[.slice aq q.l.length cq, .int .i64 (q.r + 1), .int .i64 q.d] := b0.set 1 _
        have b2n := b2.far (p := ⟨w.heap.size, 1, none⟩) (by simp) (.int .i64 (q.r + 1))
        have b3n := b3.far (p := ⟨w.heap.size, 1, none⟩) (by simp) (.int .i64 (q.r + 1))
        go_wp2_with (first
          | (refine wpList_load_blk rfl 46 _ rfl (w.heap.size) 0 rfl [.slice aq q.l.length cq, .int .i64 (q.r + 1), .int .i64 q.d] _ (Blk.range (pre := []) (post := []) b0n rfl) Try.underlying46 rfl sizeI ?_)
          | (refine wpList_store_blk (T := 46) rfl 46 _ _ rfl (w.heap.size + 2) 0 [] [.slice none 0 0, .int .i64 0, .int .i64 0] [] [.slice aq q.l.length cq, .int .i64 (q.r + 1), .int .i64 q.d] rfl rfl b2n rfl rfl sizeI inb_one ?_; intro w6 r2 U5; have b3m := U5.blk b3n (by omega))
          | (refine wpList_store_blk (T := 48) rfl 48 _ _ rfl (w.heap.size + 3) 0 [] [.int .i64 0, .string ByteArray.empty, .int .i64 0, .int .i64 0, .int .u64 0, .string ByteArray.empty, .slice none 0 0, .int .i64 0, .int .i64 0, .string ByteArray.empty, .int .i64 0, .int .i64 0, .int .i64 0] [] [.int .i64 0, .string ByteArray.empty, .int .i64 0, .int .i64 0, .int .u64 0, .string ByteArray.empty, .slice none 0 0, .int .i64 0, .int .i64 0, .string ByteArray.empty, .int .i64 0, .int .i64 0, .int .i64 0] rfl rfl b3m rfl rfl sizeM (by simp [Value.oneCell']) ?_; intro w7 r3 U6; have r2' := U6.blk r2 (by omega)))
        refine bodyPost_ret (res_cctt rfl rfl (load_blk w7 (w.heap.size + 2) 46 [.slice aq q.l.length cq, .int .i64 (q.r + 1), .int .i64 q.d] _ r2' Try.underlying46 rfl sizeI) rfl (load_blk w7 (w.heap.size + 3) 48 [.int .i64 0, .string ByteArray.empty, .int .i64 0, .int .i64 0, .int .u64 0, .string ByteArray.empty, .slice none 0 0, .int .i64 0, .int .i64 0, .string ByteArray.empty, .int .i64 0, .int .i64 0, .int .i64 0] _ r3 Try.underlying48 rfl sizeM) rfl rfl) rfl ?_
        rw [HQ.out]
        have hs6 : w7.heap.size = w4.heap.size := by rw [U6.size, U5.size]; simp
        refine ⟨aq, q.l.length, cq, 0, 0, 0, ByteArray.empty, none, 0, 0, rfl, rows_end HOWN4.out (by omega) (fun x hx => (U6.far x (by omega)).trans ((U5.far x (by omega)).trans (heap_set (p := ⟨w.heap.size, 1, none⟩) (by show x ≠ w.heap.size; omega)))) (by omega), zeroM_is _ _, ?_⟩
        exact ((B4.setCell (p := ⟨w.heap.size, 1, none⟩) (Nat.le_refl _) _).trans (U5.below _ (by omega))).trans (U6.below _ (by omega))
end Go.Proofs.Ytmdcfmdjbncaoaa
