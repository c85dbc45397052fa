/- The reference's Take. -/
import Derived.Test.YtmdcfmdjbncaoaaRp
import Derived.Test.YtmdcfmdjbncaoaaTk
namespace Go.Proofs.Ytmdcfmdjbncaoaa
open Go.RowKit
attribute [local go_sem ↓] Go.wp_at_zero Go.wp_at_succ
attribute [local go_sem] Go.undef

set_option maxHeartbeats 8000000 in
set_option maxRecDepth 100000 in
theorem taker_any (q : QX) (a : Option Addr) (n c : Nat) (S : Nat → Prop) (w : World) (hrow : RM w S q.l a n c) (hS : ∀ b, S b → b < w.heap.size) (hsm : smallL q.l) (hn : n ≤ 65536) :
    Calls Try.prog 29 #[.agg #[.slice a n c, .int .i64 q.r, .int .i64 q.d]] w (TakePost w (takeQ q)) := by
  obtain rfl : n = q.l.length := hrow.1
  obtain ⟨W, hWd⟩ : ∃ W, W = ((w.alloc (.cells #[.slice a q.l.length c, .int .i64 q.r, .int .i64 q.d] 46)).alloc (.cells #[.slice none 0 0, .int .i64 0, .int .i64 0] 46)).alloc (.cells #[.int .i64 0, .string ByteArray.empty, .int .i64 0, .int .i64 0, .int .u64 0, .string ByteArray.empty, .slice none 0 0, .int .i64 0, .int .i64 0, .string ByteArray.empty, .int .i64 0, .int .i64 0, .int .i64 0] 48) := ⟨_, rfl⟩
  have hW : Below w.heap.size w W := by rw [hWd]; go_grown
  have hsz : W.heap.size = w.heap.size + 3 := by rw [hWd]; simp
  have b0 : Blk W w.heap.size 46 #[.slice a q.l.length c, .int .i64 q.r, .int .i64 q.d] := by rw [hWd]; exact ((Blk.new _ _ _).alloc _).alloc _
  have b2 : Blk W (w.heap.size + 1) 46 #[.slice none 0 0, .int .i64 0, .int .i64 0] := by rw [hWd]; exact (Blk.new' _ _ _ (by simp)).alloc _
  have b3 : Blk W (w.heap.size + 2) 48 #[.int .i64 0, .string ByteArray.empty, .int .i64 0, .int .i64 0, .int .u64 0, .string ByteArray.empty, .slice none 0 0, .int .i64 0, .int .i64 0, .string ByteArray.empty, .int .i64 0, .int .i64 0, .int .i64 0] := by rw [hWd]; exact Blk.new' _ _ _ (by simp)
  have HROW := Lib.hid hrow
  have HS := Lib.hid hS
  have HSM := Lib.hid hsm
  have HW := Lib.hid hW
  have HSZ := Lib.hid hsz
  have BB0 := Lib.hid b0
  have BB2 := Lib.hid b2
  have BB3 := Lib.hid b3
  have HWD := Lib.hid hWd
  clear hrow hS hsm hW hsz b0 b2 b3 hWd
  go_enter Try.func29, Try.ntmps29
  go_upto_region 1 with fail
  show Code.wp _ _ _ _ (((w.alloc (.cells #[.slice a q.l.length c, .int .i64 q.r, .int .i64 q.d] 46)).alloc (.cells #[.slice none 0 0, .int .i64 0, .int .i64 0] 46)).alloc (.cells #[.int .i64 0, .string ByteArray.empty, .int .i64 0, .int .i64 0, .int .u64 0, .string ByteArray.empty, .slice none 0 0, .int .i64 0, .int .i64 0, .string ByteArray.empty, .int .i64 0, .int .i64 0, .int .i64 0] 48))
  rw [← HWD.out]
  have c0 : W.cell? ⟨w.heap.size, 0, none⟩ = some (.slice a q.l.length c) := Blk.cell BB0.out 0
  by_cases h0 : q.l.length = 0
  · have hq : takeQ q = (q, zeroM, false) := by rw [takeQ, if_pos h0]
    have HQ := Lib.hid hq
    have hi0 : ((q.l.length : Int) == 0) = true := by rw [beq_iff_eq]; omega
    have H0 := Lib.hid h0
    have b0 := BB0.out
    clear hq h0
    go_wp2_with (refine wpList_load_blk rfl 46 _ rfl (w.heap.size) 0 rfl [.slice a q.l.length c, .int .i64 q.r, .int .i64 q.d] _ (Blk.range (pre := []) (post := []) b0 rfl) Try.underlying46 rfl sizeI ?_)
    refine (copyq_any q a q.l.length c S W (RM.under HROW.out HW.out HS.out) (fun x hx => by rw [HSZ.out]; have := HS.out x hx; omega) HSM.out hn).mono ?_
    rintro e w1 ⟨a1, c1, S1, css1, rfl, hown1, hb1⟩
    have hs1 := hb1.size
    rw [HSZ.out] at hs1 hown1
    have B1 : Below w.heap.size w w1 := HW.out.trans (hb1.mono (by rw [HSZ.out]; omega))
    have b2 := BB2.out.under hb1 (by rw [HSZ.out]; omega)
    have b3 := BB3.out.under hb1 (by rw [HSZ.out]; omega)
    have HOWN1 := Lib.hid hown1
    clear hown1 BB0 BB2 BB3 b0 hb1 c0
    go_wp2_with (first
      | (refine wpList_store_blk (T := 46) rfl 46 _ _ rfl (w.heap.size + 1) 0 [] [.slice none 0 0, .int .i64 0, .int .i64 0] [] [.slice a1 q.l.length c1, .int .i64 q.r, .int .i64 q.d] rfl rfl b2 rfl rfl sizeI inb_one ?_; intro w6 r2 U5; have b3m := U5.blk b3 (by omega))
      | (refine wpList_store_blk (T := 48) rfl 48 _ _ rfl (w.heap.size + 2) 0 [] [.int .i64 0, .string ByteArray.empty, .int .i64 0, .int .i64 0, .int .u64 0, .string ByteArray.empty, .slice none 0 0, .int .i64 0, .int .i64 0, .string ByteArray.empty, .int .i64 0, .int .i64 0, .int .i64 0] [] [.int .i64 0, .string ByteArray.empty, .int .i64 0, .int .i64 0, .int .u64 0, .string ByteArray.empty, .slice none 0 0, .int .i64 0, .int .i64 0, .string ByteArray.empty, .int .i64 0, .int .i64 0, .int .i64 0] rfl rfl b3m rfl rfl sizeM (by simp [Value.oneCell']) ?_; intro w7 r3 U6; have r2' := U6.blk r2 (by omega)))
    refine bodyPost_ret (res_cct rfl rfl (load_blk w7 (w.heap.size + 1) 46 [.slice a1 q.l.length c1, .int .i64 q.r, .int .i64 q.d] _ r2' Try.underlying46 rfl sizeI) rfl (load_blk w7 (w.heap.size + 2) 48 [.int .i64 0, .string ByteArray.empty, .int .i64 0, .int .i64 0, .int .u64 0, .string ByteArray.empty, .slice none 0 0, .int .i64 0, .int .i64 0, .string ByteArray.empty, .int .i64 0, .int .i64 0, .int .i64 0] _ r3 Try.underlying48 rfl sizeM) rfl) rfl ?_
    rw [HQ.out]
    have hs6 : w7.heap.size = w1.heap.size := by rw [U6.size, U5.size]
    refine ⟨a1, q.l.length, c1, 0, 0, 0, ByteArray.empty, none, 0, 0, rfl, rows_end HOWN1.out (by omega) (fun x hx => (U6.far x (by omega)).trans (U5.far x (by omega))) (by omega), zeroM_is _ _, ?_⟩
    exact (B1.trans (U5.below _ (by omega))).trans (U6.below _ (by omega))
  · obtain ⟨ki, hK⟩ : ∃ ki, ki = highI q.l q.l.length := ⟨_, rfl⟩
    have hKl : ki < q.l.length := by rw [hK]; exact highI_lt (by omega) (Nat.le_refl _)
    have hq : takeQ q = (⟨q.l.eraseIdx ki, q.r, q.d⟩, atM q.l ki, true) := by rw [takeQ, if_neg h0, ← hK]
    have HQ := Lib.hid hq
    have HKD := Lib.hid hK
    have hi0 : ((q.l.length : Int) == 0) = false := by rw [beq_eq_false_iff_ne]; omega
    have hi1 : ¬ ((q.l.length : Int) = 0) := by omega
    have hpos : 0 < q.l.length := by omega
    clear hq hK h0
    obtain ⟨g, o, y, xs, rfl, hSg, -, -, -, -⟩ := HROW.out.get hKl
    have hcell : ∀ i, i < q.l.length → W.cell? ⟨g, o + i * 13 + 11, none⟩ = some (.int .i64 (atM q.l i).prio) := fun i hi => by
      obtain ⟨g', o', x, xs, he, hSg, hx, hm, hxl, hr⟩ := HROW.out.get hi
      injection he with he
      injection he with h1 h2
      subst h1 h2
      obtain ⟨kx, ix, bx, sx, ax, nx, cx, rfl, -, -, -⟩ := hm
      rw [atM_get hx]
      exact (HW.out.cell (p := ⟨g, o + i * 13 + 11, none⟩) (HS.out g hSg)).trans (hr 11 _ rfl)
    have HCELL := Lib.hid hcell
    clear hcell
    go_wp2_with fail
    go_loopw [5, 17] (fun kv iv wr => ∃ j t nq : Nat, iv = .int .i64 j ∧ kv = .int .i64 t ∧ t = highI q.l j ∧ j ≤ q.l.length ∧ wr = W.drewN nq) (fun _ i _ => q.l.length - (intOf i).toNat)
    case atStart => exact ⟨0, 0, 0, rfl, rfl, rfl, Nat.zero_le _, rfl⟩
    case round =>
      obtain ⟨j, t, nq, rfl, rfl, ht, hj, rfl⟩ := hrel
      have HTT := Lib.hid ht
      clear ht
      by_cases hlt : j < q.l.length
      · have htl : t < q.l.length := by rw [HTT.out]; exact highI_lt hpos hj
        have p0 := HCELL.out j hlt
        have p1 := HCELL.out t htl
        have hstep : highI q.l (j + 1) = if (atM q.l t).prio < (atM q.l j).prio then j else t := by rw [highI, ← HTT.out]
        have HST := Lib.hid hstep
        have c0' : (W.drewN nq).cell? ⟨w.heap.size, 0, none⟩ = some (.slice (some ⟨g, o, none⟩) q.l.length c) := c0
        have hj0 : (0 : Int) ≤ (j : Int) := by omega
        have hj1 : (j : Int) < (q.l.length : Int) := by omega
        have hj2 : (0 : Int) ≤ (t : Int) := by omega
        have hj3 : (t : Int) < (q.l.length : Int) := by omega
        generalize (atM q.l j).prio = P0 at p0 HST
        generalize (atM q.l t).prio = P1 at p1 HST
        clear hstep
        by_cases hp : P1 < P0
        · have hs2 : highI q.l (j + 1) = j := by rw [HST.out, if_pos hp]
          have HS2 := Lib.hid hs2
          clear hs2
          go_wp2_with fail
          go_quiet (fail)
          go_wp2_with fail
          go_roundw
          case rel => first | exact ⟨j + 1, j, _, by go_num, rfl, HS2.out.symm, by omega, rfl⟩ | ((repeat apply Exists.intro); exact ⟨⟨j + 1, j, _, by go_num, rfl, HS2.out.symm, by omega, rfl⟩, rfl⟩)
          case measure => simp [intOf]; omega
        · have hs2 : highI q.l (j + 1) = t := by rw [HST.out, if_neg hp]
          have HS2 := Lib.hid hs2
          clear hs2
          go_wp2_with fail
          go_quiet (fail)
          go_wp2_with fail
          go_roundw
          case rel => first | exact ⟨j + 1, t, _, by go_num, rfl, HS2.out.symm, by omega, rfl⟩ | ((repeat apply Exists.intro); exact ⟨⟨j + 1, t, _, by go_num, rfl, HS2.out.symm, by omega, rfl⟩, rfl⟩)
          case measure => simp [intOf]; omega
      · obtain rfl : j = q.l.length := by omega
        have htk : t = ki := by rw [HTT.out, HKD.out]
        subst htk
        obtain ⟨w6, h6⟩ : ∃ w6, w6 = W.drewN nq := ⟨_, rfl⟩
        have b0 : Blk w6 w.heap.size 46 #[.slice (some ⟨g, o, none⟩) q.l.length c, .int .i64 q.r, .int .i64 q.d] := by rw [h6]; exact BB0.out
        have r0 : Blk w6 (w.heap.size + 1) 46 #[.slice none 0 0, .int .i64 0, .int .i64 0] := by rw [h6]; exact BB2.out
        have r1 : Blk w6 (w.heap.size + 2) 48 #[.int .i64 0, .string ByteArray.empty, .int .i64 0, .int .i64 0, .int .u64 0, .string ByteArray.empty, .slice none 0 0, .int .i64 0, .int .i64 0, .string ByteArray.empty, .int .i64 0, .int .i64 0, .int .i64 0] := by rw [h6]; exact BB3.out
        have B6 : Below w.heap.size w w6.drew := by
          have h := HW.out
          rw [h6]
          exact ⟨h.os, h.tape, h.output, h.size, h.block⟩
        have hs6 : w.heap.size + 3 ≤ w6.drew.heap.size := by show w.heap.size + 3 ≤ w6.heap.size; rw [h6]; have := HSZ.out; show _ ≤ W.heap.size; omega
        rw [← h6]
        obtain ⟨g', o', x, xs, he, hSg, hx, hm, hxl, hr⟩ := HROW.out.get hKl
        injection he with he
        injection he with h1 h2
        subst h1 h2
        have hXX := hm
        obtain ⟨kx, ix, bx, sx, ax, nx, cx, rfl, -, -, -⟩ := hm
        have hr6 : w6.rangeAt g (o + t * 13) [.int .i64 x.id, .string x.topic, .int .i64 kx, .int .i64 ix, .int .u64 bx, .string sx, .slice ax nx cx, .int .i64 x.tat, .int .i64 x.til, .string x.reply, .int .i64 x.corr, .int .i64 x.prio, .int .i64 x.hops] := rangeAt_keep hr fun i => by
          have h := HW.out.cell (p := ⟨g, i, none⟩) (HS.out g hSg)
          rw [h6]
          exact h
        have hxa : atM q.l t = x := atM_get hx
        have HX := Lib.hid hXX
        have HXA := Lib.hid hxa
        have HXZ := Lib.hid (HSM.out x (List.mem_of_getElem? hx))
        have HB6 := Lib.hid B6
        have HS6 := Lib.hid hs6
        have hk0 : (0 : Int) ≤ (t : Int) := by omega
        have hk1 : (t : Int) < (q.l.length : Int) := by omega
        have hgl : g < w6.heap.size := by have := HS.out g hSg; have : w.heap.size + 3 ≤ w6.heap.size := hs6; omega
        clear h6 hXX hxa B6 hs6 hx hr c0 HCELL BB0 BB2 BB3 HTT hlt hj hxl
        go_upto_region 10 with fail
        refine wp_region_held_drew (S := (fun w' => Blk w' (w.heap.size) 46 #[.slice (some ⟨g, o, none⟩) q.l.length c, .int .i64 q.r, .int .i64 q.d] ∧ w'.rangeAt g (o + t * 13) [.int .i64 x.id, .string x.topic, .int .i64 kx, .int .i64 ix, .int .u64 bx, .string sx, .slice ax nx cx, .int .i64 x.tat, .int .i64 x.til, .string x.reply, .int .i64 x.corr, .int .i64 x.prio, .int .i64 x.hops] ∧ g < w'.heap.size)) (by kernel_rfl) ?_ (fun hHeld => ?_)
        · exact ⟨b0.drew, hr6, hgl⟩
        refine wpAnyH_take (i := 0) (v := .agg #[.slice (some ⟨g, o, none⟩) q.l.length c, .int .i64 q.r, .int .i64 q.d]) rfl (by kernel_rfl) (by kernel_rfl) (by kernel_rfl) (fun _ _ _ h => h) (yieldsIf_load_mid (by rfl) 46 _ rfl (w.heap.size) (0) (by rfl) [.slice (some ⟨g, o, none⟩) q.l.length c, .int .i64 q.r, .int .i64 q.d] _ (fun w' h => Blk.range (pre := []) (post := []) h.1 rfl) Try.underlying46 rfl sizeI) hHeld ?_
        try simp only [Act.put, List.getElem_toArray, List.getElem_cons_zero, List.setIfInBounds_toArray, List.set_cons_zero, List.set_cons_succ]
        refine wpAnyH_take (i := 1) (v := ?_) rfl (by kernel_rfl) (by kernel_rfl) (by kernel_rfl) (fun _ _ _ h => h) (Or.inl ⟨by rfl, ?_⟩) hHeld ?_
        rotate_left
        · intro w hSw
          try dsimp only at hSw
          first | (go_simp; done) | (go_simp; with_reducible rfl)
        try simp only [Act.put, List.getElem_toArray, List.getElem_cons_zero, List.getElem_cons_succ, List.setIfInBounds_toArray, List.set_cons_zero, List.set_cons_succ]
        refine wpAnyH_take (i := 3) (v := ?_) rfl (by kernel_rfl) (by kernel_rfl) (by kernel_rfl) (fun _ _ _ h => h) (Or.inl ⟨by rfl, ?_⟩) hHeld ?_
        rotate_left
        · intro w hSw
          try dsimp only at hSw
          first | (go_simp; done) | (go_simp; with_reducible rfl)
        try simp only [Act.put, List.getElem_toArray, List.getElem_cons_zero, List.getElem_cons_succ, List.setIfInBounds_toArray, List.set_cons_zero, List.set_cons_succ]
        refine wpAnyH_take (i := 4) (v := .slice (some ⟨g, o, none⟩) q.l.length c) rfl (by kernel_rfl) (by kernel_rfl) (by kernel_rfl) (fun _ _ _ h => h) (Or.inl ⟨by rfl, ?_⟩) hHeld ?_
        · intro w hSw
          have h4 := Blk.cell hSw.1 0
          first | (go_simp; done) | (go_simp; with_reducible rfl)
        try simp only [Act.put, List.getElem_toArray, List.getElem_cons_zero, List.getElem_cons_succ, List.setIfInBounds_toArray, List.set_cons_zero, List.set_cons_succ]
        refine wpAnyH_take (i := 5) (v := ?_) rfl (by kernel_rfl) (by kernel_rfl) (by kernel_rfl) (fun _ _ _ h => h) (Or.inl ⟨by rfl, ?_⟩) hHeld ?_
        rotate_left
        · intro w hSw
          try dsimp only at hSw
          first | (go_simp; done) | (go_simp; with_reducible rfl)
        try simp only [Act.put, List.getElem_toArray, List.getElem_cons_zero, List.getElem_cons_succ, List.setIfInBounds_toArray, List.set_cons_zero, List.set_cons_succ]
        refine wpAnyH_take (i := 6) (v := ?_) rfl (by kernel_rfl) (by kernel_rfl) (by kernel_rfl) (fun _ _ _ h => h) (Or.inl ⟨by rfl, ?_⟩) hHeld ?_
        rotate_left
        · intro w hSw
          try dsimp only at hSw
          first | (go_simp; done) | (go_simp; with_reducible rfl)
        try simp only [Act.put, List.getElem_toArray, List.getElem_cons_zero, List.getElem_cons_succ, List.setIfInBounds_toArray, List.set_cons_zero, List.set_cons_succ]
        refine wpAnyH_take (i := 7) (v := .agg #[.int .i64 x.id, .string x.topic, .int .i64 kx, .int .i64 ix, .int .u64 bx, .string sx, .slice ax nx cx, .int .i64 x.tat, .int .i64 x.til, .string x.reply, .int .i64 x.corr, .int .i64 x.prio, .int .i64 x.hops]) rfl (by kernel_rfl) (by kernel_rfl) (by kernel_rfl) (fun _ _ _ h => h) (yieldsIf_load_mid (by rfl) 48 _ rfl (g) (o + t * 13) (by rfl) [.int .i64 x.id, .string x.topic, .int .i64 kx, .int .i64 ix, .int .u64 bx, .string sx, .slice ax nx cx, .int .i64 x.tat, .int .i64 x.til, .string x.reply, .int .i64 x.corr, .int .i64 x.prio, .int .i64 x.hops] _ (fun w' h => h.2.1) Try.underlying48 rfl sizeM) hHeld ?_
        try simp only [Act.put, List.getElem_toArray, List.getElem_cons_zero, List.getElem_cons_succ, List.setIfInBounds_toArray, List.set_cons_zero, List.set_cons_succ]
        have HR0 : Hid (Blk w6.drew (w.heap.size + 1) 46 #[.slice none 0 0, .int .i64 0, .int .i64 0]) := r0.drew
        have HR1 : Hid (Blk w6.drew (w.heap.size + 2) 48 #[.int .i64 0, .string ByteArray.empty, .int .i64 0, .int .i64 0, .int .u64 0, .string ByteArray.empty, .slice none 0 0, .int .i64 0, .int .i64 0, .string ByteArray.empty, .int .i64 0, .int .i64 0, .int .i64 0]) := r1.drew
        clear b0 r0 r1 hr6
        refine wpAnyH_ready (rs := [2]) (by kernel_rfl) (by simp) ?_
        refine AllReadyH.cons rfl (fun K hK => ?_) AllReadyH.nil
        go_simp
        go_at_call 44
        refine (without_any q t (some ⟨g, o, none⟩) q.l.length c S (w6.drew) (RM.under HROW.out HB6.out HS.out) (fun z hz => Nat.lt_of_lt_of_le (HS.out z hz) HB6.out.size) HSM.out hn).mono ?_
        rintro e v1 ⟨aE, cE, SE, cssE, rfl, hOw, hb1⟩
        have HO1 := Lib.hid hOw
        clear hOw
        have HB1_ : Hid (Below w.heap.size w v1) := below_on hb1 HB6.out
        have HZ1 : Hid (w.heap.size + 3 ≤ v1.heap.size) := Nat.le_trans HS6.out hb1.size
        have HR1a : Hid (Blk v1 (w.heap.size + 1) 46 #[.slice none 0 0, .int .i64 0, .int .i64 0]) := Blk.under HR0.out hb1 (Blk.lt HR0.out)
        have HR1b : Hid (Blk v1 (w.heap.size + 2) 48 #[.int .i64 0, .string ByteArray.empty, .int .i64 0, .int .i64 0, .int .u64 0, .string ByteArray.empty, .slice none 0 0, .int .i64 0, .int .i64 0, .string ByteArray.empty, .int .i64 0, .int .i64 0, .int .i64 0]) := Blk.under HR1.out hb1 (Blk.lt HR1.out)
        refine hK.out _ _ ⟨Blk.under hHeld.1 hb1 (Blk.lt hHeld.1), range_over hb1 hHeld.2.2 hHeld.2.1, Nat.lt_of_lt_of_le hHeld.2.2 hb1.size⟩ (fun hHeld2 => ?_)
        clear hHeld hK K
        have hHeld := hHeld2
        clear hHeld2
        try simp only []
        clear hb1
        refine wpAnyH_ready (rs := [8]) (by kernel_rfl) (by simp) ?_
        refine AllReadyH.cons rfl (fun K hK => ?_) AllReadyH.nil
        go_simp
        go_at_call 38
        refine (copymsg_any x (v1) S [.int .i64 x.id, .string x.topic, .int .i64 kx, .int .i64 ix, .int .u64 bx, .string sx, .slice ax nx cx, .int .i64 x.tat, .int .i64 x.til, .string x.reply, .int .i64 x.corr, .int .i64 x.prio, .int .i64 x.hops] (IsM.under HX.out HB1_.out HS.out) (fun z hz => Nat.lt_of_lt_of_le (HS.out z hz) HB1_.out.size) HXZ.out).mono ?_
        rintro e v2 ⟨kM, iM, bM, sM, aM, nM, cM, rfl, hMs, hb2⟩
        have HM2 := Lib.hid hMs
        clear hMs
        have HB2_ : Hid (Below w.heap.size w v2) := below_on hb2 HB1_.out
        have HZ2 : Hid (w.heap.size + 3 ≤ v2.heap.size) := Nat.le_trans HZ1.out hb2.size
        have HR2a : Hid (Blk v2 (w.heap.size + 1) 46 #[.slice none 0 0, .int .i64 0, .int .i64 0]) := Blk.under HR1a.out hb2 (Blk.lt HR1a.out)
        have HR2b : Hid (Blk v2 (w.heap.size + 2) 48 #[.int .i64 0, .string ByteArray.empty, .int .i64 0, .int .i64 0, .int .u64 0, .string ByteArray.empty, .slice none 0 0, .int .i64 0, .int .i64 0, .string ByteArray.empty, .int .i64 0, .int .i64 0, .int .i64 0]) := Blk.under HR1b.out hb2 (Blk.lt HR1b.out)
        have HL2 : Hid (v2.heap.size ≤ v2.heap.size) := Nat.le_refl _
        have HO2 : Hid (OwnE IsM 48 13 v2 (w6.drew.heap.size) (q.l.eraseIdx t) (.slice aE (q.l.eraseIdx t).length cE) SE cssE) := OwnE.below keepsM HO1.out hb2 (Nat.le_refl _)
        refine hK.out _ _ ⟨Blk.under hHeld.1 hb2 (Blk.lt hHeld.1), range_over hb2 hHeld.2.2 hHeld.2.1, Nat.lt_of_lt_of_le hHeld.2.2 hb2.size⟩ (fun hHeld2 => ?_)
        clear hHeld hK K
        have hHeld := hHeld2
        clear hHeld2
        try simp only [Act.put, List.getElem_toArray, List.getElem_cons_zero, List.getElem_cons_succ, List.setIfInBounds_toArray, List.set_cons_zero, List.set_cons_succ]
        clear hb2
        refine wpAnyH_ready (rs := [9]) (by kernel_rfl) (by simp) ?_
        refine AllReadyH.cons rfl (fun K hK => ?_) AllReadyH.nil
        refine step_store_blk (T := 46) (by rfl) 46 _ _ (by rfl) (w.heap.size + 1) 0 [] [.slice none 0 0, .int .i64 0, .int .i64 0] [] [.slice aE (q.l.eraseIdx t).length cE, .int .i64 q.r, .int .i64 q.d] (by rfl) (by rfl) HR2a.out rfl rfl sizeI inb_one (fun v3 bN U3 => ?_)
        have HN3 := Lib.hid bN
        clear bN
        have HB3_ : Hid (Below w.heap.size w v3) := Below.trans HB2_.out (U3.below _ (by omega))
        have HZ3 : Hid (w.heap.size + 3 ≤ v3.heap.size) := by rw [U3.size]; exact HZ2.out
        have HQ3 : Hid (Blk v3 (w.heap.size + 2) 48 #[.int .i64 0, .string ByteArray.empty, .int .i64 0, .int .i64 0, .int .u64 0, .string ByteArray.empty, .slice none 0 0, .int .i64 0, .int .i64 0, .string ByteArray.empty, .int .i64 0, .int .i64 0, .int .i64 0]) := U3.blk HR2b.out (by omega)
        have HO3 : Hid (OwnE IsM 48 13 v3 (w6.drew.heap.size) (q.l.eraseIdx t) (.slice aE (q.l.eraseIdx t).length cE) SE cssE) := OwnE.keep keepsM HO2.out (by rw [U3.size]; exact Nat.le_refl _) (fun z hz => U3.far z (by have hbase := HS6.out; have h2 : w6.drew.heap.size ≤ z := hz.elim (fun hz => (OwnE.far HO2.out z hz).1) (fun hz => (OwnE.far_lt HO2.out z hz).1); omega))
        have HM3 : Hid (IsM v3 _ x [.int .i64 x.id, .string x.topic, .int .i64 kM, .int .i64 iM, .int .u64 bM, .string sM, .slice aM nM cM, .int .i64 x.tat, .int .i64 x.til, .string x.reply, .int .i64 x.corr, .int .i64 x.prio, .int .i64 x.hops]) := IsM.keep HM2.out (fun _ h => h) (fun z hz j => U3.cell (by have hbase := HZ1.out; have := hz.1; omega))
        have HL3 : Hid (v2.heap.size ≤ v3.heap.size) := by rw [U3.size]; exact HL2.out
        refine hK.out _ _ ⟨U3.blk hHeld.1 (by omega), rangeAt_keep hHeld.2.1 (fun j => U3.cell (by have := HS.out g hSg; omega)), by rw [U3.size]; exact hHeld.2.2⟩ (fun hHeld2 => ?_)
        clear hHeld hK K
        have hHeld := hHeld2
        clear hHeld2
        try simp only [Act.put, List.getElem_toArray, List.getElem_cons_zero, List.getElem_cons_succ]
        clear U3
        refine wpAnyH_ready (rs := [10]) (by kernel_rfl) (by simp) ?_
        refine AllReadyH.cons rfl (fun K hK => ?_) AllReadyH.nil
        refine step_store_blk (T := 48) (by rfl) 48 _ _ (by rfl) (w.heap.size + 2) 0 [] [.int .i64 0, .string ByteArray.empty, .int .i64 0, .int .i64 0, .int .u64 0, .string ByteArray.empty, .slice none 0 0, .int .i64 0, .int .i64 0, .string ByteArray.empty, .int .i64 0, .int .i64 0, .int .i64 0] [] [.int .i64 x.id, .string x.topic, .int .i64 kM, .int .i64 iM, .int .u64 bM, .string sM, .slice aM nM cM, .int .i64 x.tat, .int .i64 x.til, .string x.reply, .int .i64 x.corr, .int .i64 x.prio, .int .i64 x.hops] (by rfl) (by rfl) HQ3.out rfl rfl sizeM (by simp [Value.oneCell']) (fun v4 bN U4 => ?_)
        have HN4 := Lib.hid bN
        clear bN
        have HB4_ : Hid (Below w.heap.size w v4) := Below.trans HB3_.out (U4.below _ (by omega))
        have HZ4 : Hid (w.heap.size + 3 ≤ v4.heap.size) := by rw [U4.size]; exact HZ3.out
        have HQ4 : Hid (Blk v4 (w.heap.size + 1) 46 #[.slice aE (q.l.eraseIdx t).length cE, .int .i64 q.r, .int .i64 q.d]) := U4.blk HN3.out (by omega)
        have HO4 : Hid (OwnE IsM 48 13 v4 (w6.drew.heap.size) (q.l.eraseIdx t) (.slice aE (q.l.eraseIdx t).length cE) SE cssE) := OwnE.keep keepsM HO3.out (by rw [U4.size]; exact Nat.le_refl _) (fun z hz => U4.far z (by have hbase := HS6.out; have h2 : w6.drew.heap.size ≤ z := hz.elim (fun hz => (OwnE.far HO3.out z hz).1) (fun hz => (OwnE.far_lt HO3.out z hz).1); omega))
        have HM4 : Hid (IsM v4 _ x [.int .i64 x.id, .string x.topic, .int .i64 kM, .int .i64 iM, .int .u64 bM, .string sM, .slice aM nM cM, .int .i64 x.tat, .int .i64 x.til, .string x.reply, .int .i64 x.corr, .int .i64 x.prio, .int .i64 x.hops]) := IsM.keep HM3.out (fun _ h => h) (fun z hz j => U4.cell (by have hbase := HZ1.out; have := hz.1; omega))
        have HL4 : Hid (v2.heap.size ≤ v4.heap.size) := by rw [U4.size]; exact HL3.out
        refine hK.out _ _ ⟨U4.blk hHeld.1 (by omega), rangeAt_keep hHeld.2.1 (fun j => U4.cell (by have := HS.out g hSg; omega)), by rw [U4.size]; exact hHeld.2.2⟩ (fun hHeld2 => ?_)
        clear hHeld hK K
        have hHeld := hHeld2
        clear hHeld2
        try simp only [Act.put, List.getElem_toArray, List.getElem_cons_zero, List.getElem_cons_succ]
        clear U4
        refine wpAnyH_take (i := 11) (v := ?_) rfl (by kernel_rfl) (by kernel_rfl) (by kernel_rfl) (fun _ _ _ h => h) (Or.inl ⟨by rfl, ?_⟩) hHeld ?_
        rotate_left
        · intro w hSw
          try dsimp only at hSw
          first | (go_simp; done) | (go_simp; with_reducible rfl)
        try simp only [Act.put, List.getElem_toArray, List.getElem_cons_zero, List.getElem_cons_succ, List.setIfInBounds_toArray, List.set_cons_zero, List.set_cons_succ]
        refine wpAnyH_done (by kernel_rfl) ?_ _
        clear hHeld
        have r2 := HQ4.out
        have r3 := HN4.out
        go_wp2_with fail
        refine bodyPost_ret (res_cct rfl rfl (load_blk v4 (w.heap.size + 1) 46 [.slice aE (q.l.eraseIdx t).length cE, .int .i64 q.r, .int .i64 q.d] _ r2 Try.underlying46 rfl sizeI) rfl (load_blk v4 (w.heap.size + 2) 48 [.int .i64 x.id, .string x.topic, .int .i64 kM, .int .i64 iM, .int .u64 bM, .string sM, .slice aM nM cM, .int .i64 x.tat, .int .i64 x.til, .string x.reply, .int .i64 x.corr, .int .i64 x.prio, .int .i64 x.hops] _ r3 Try.underlying48 rfl sizeM) rfl) rfl ?_
        rw [HQ.out, HXA.out]
        have hz1 := HS6.out
        have hz2 := HZ1.out
        refine ⟨aE, (q.l.eraseIdx t).length, cE, kM, iM, bM, sM, aM, nM, cM, rfl, rows_end HO4.out (by omega) (fun _ _ => rfl) (Nat.le_refl _), IsM.mono HM4.out (fun z hz => ⟨by have := hz.1; omega, by have h1 := hz.2; have h2 := HL4.out; omega⟩), HB4_.out⟩
end Go.Proofs.Ytmdcfmdjbncaoaa
