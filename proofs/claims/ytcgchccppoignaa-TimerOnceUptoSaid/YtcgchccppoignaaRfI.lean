/- Timer: one call, done to both, on. -/
import Derived.Test.YtcgchccppoignaaRfH
namespace Go.Proofs.Ytcgchccppoignaa
open Go.RowKit
attribute [local go_sem ↓] Go.wp_at_zero Go.wp_at_succ
attribute [local go_sem] Go.undef
section
variable {w : World} {B b m lb T sq : Nat} {L : List Tm} {ρ : Nat → List Tm} {v : Value}
set_option maxRecDepth 100000 in
set_option maxHeartbeats 8000000 in
theorem act_cancel (h : JS w B b m lb T sq L ρ v) (_hsq : sq < 9223372036854775800) (hL : L.length < 8796093022208) (hB : B ≤ w.heap.size) (a q : Int) (_ha : (Lit.int .i64 a).wf = true) (hq : (Lit.int .i64 q).wf = true) :
    Calls Try.prog 16 #[pt b 0, pt lb 0, .agg #[.int .i64 3, .int .i64 a, .int .i64 q]] w (ActPost w B b m lb sq L) := by
  have HJ := Lib.hid h
  clear h
  go_enter Try.func16, Try.ntmps16
  simp only [Go.undef]
  go_upto_region 7 with (first
    | (refine wpList_box1 rfl 39 _ rfl _ rfl #[.int .i64 3, .int .i64 a, .int .i64 q] _ rfl rfl ?_; intro w1 hb1 hbe1; have HB1 := Lib.hid hb1; have HBE1 := Lib.hid hbe1; have c0 : w1.cell? ⟨w.heap.size, 0, none⟩ = some (.int .i64 3) := hb1.cell 0; clear hb1 hbe1))
  have hj1 := (HJ.out.far (w1 := w1) fun g hg => HBE1.out.block g hg).drewN 1
  have hs1 : B ≤ (w1.drewN 1).heap.size := Nat.le_trans hB HBE1.out.size
  have HBE : Hid (Below B w w1.drew) := belowN ((WT.of_below (W := fun _ => False) HBE1.out).below hB fun _ h => h.elim) 1
  have HNO : Hid (¬ Own b m L w.heap.size ∧ ¬ OwnL lb v w.heap.size ∧ ¬ Own b m L lb) := ⟨fun k => by have := (HJ.out.wh.whl.own_lt k).2; omega, fun k => by have := (HJ.out.ls.own_lt k).2; omega, fun k => HJ.out.ap lb k (.inl rfl)⟩
  cases hany : L.any (fun x => x.id == q) with
  | false =>
    have HA : Hid (Calls Try.prog 19 #[pt b 0, .int .i64 q] w1.drew fun e w' => e = .returned (.bool false) ∧ w1.drew = w') := (cancel_wh hj1.wh q hq).mono fun e w' h => by
      rcases h with ⟨-, h2, h3⟩ | ⟨x, _, h1, h2, -⟩
      · exact ⟨h2, h3⟩
      · have := List.any_eq_false.1 hany x h1
        simp [h2] at this
    have HB : Hid (Calls Try.prog 26 #[pt lb 0, .int .i64 q] w1.drew fun e w' => e = .returned (.bool false) ∧ w1.drew = w') := (lcancel_any hj1.ls (Nat.le_of_lt hL) hs1 q).mono fun e w' h => by
      rcases h with ⟨-, h2, h3⟩ | ⟨k, x, _, h1, h2, -⟩
      · exact ⟨h2, h3⟩
      · have := List.any_eq_false.1 hany x (List.mem_of_getElem? h1)
        simp [h2] at this
    refine wp_region_held_drew (S := (fun w' => w'.cell? ⟨w.heap.size, 1, none⟩ = some (.int .i64 a) ∧ w'.cell? ⟨w.heap.size, 2, none⟩ = some (.int .i64 q))) (by kernel_rfl) ⟨HB1.out.cell 1, HB1.out.cell 2⟩ (fun hHeld => ?_)
    have HJ1 := Lib.hid hj1
    clear hj1 hs1 hany
    refine wpAnyH_take (i := 0) (v := ?_) rfl (by kernel_rfl) (by kernel_rfl) (by kernel_rfl) (fun _ _ _ h => h) (Or.inl ⟨by rfl, ?_⟩) hHeld ?_
    rotate_left
    · rintro w ⟨hS1, hS2⟩
      first | (go_simp; done) | (go_simp; with_reducible rfl)
    try simp only [Act.put, List.getElem_toArray, List.getElem_cons_zero, List.setIfInBounds_toArray, List.set_cons_zero, List.set_cons_succ]
    refine wpAnyH_take (i := 1) (v := ?_) rfl (by kernel_rfl) (by kernel_rfl) (by kernel_rfl) (fun _ _ _ h => h) (Or.inl ⟨by rfl, ?_⟩) hHeld ?_
    rotate_left
    · rintro w ⟨hS1, hS2⟩
      first | (go_simp; done) | (go_simp; with_reducible rfl)
    try simp only [Act.put, List.getElem_toArray, List.getElem_cons_zero, List.getElem_cons_succ, List.setIfInBounds_toArray, List.set_cons_zero, List.set_cons_succ]
    refine wpAnyH_take (i := 2) (v := ?_) rfl (by kernel_rfl) (by kernel_rfl) (by kernel_rfl) (fun _ _ _ h => h) (Or.inl ⟨by rfl, ?_⟩) hHeld ?_
    rotate_left
    · rintro w ⟨hS1, hS2⟩
      first | (go_simp; done) | (go_simp; with_reducible rfl)
    try simp only [Act.put, List.getElem_toArray, List.getElem_cons_zero, List.getElem_cons_succ, List.setIfInBounds_toArray, List.set_cons_zero, List.set_cons_succ]
    refine wpAnyH_take (i := 4) (v := ?_) rfl (by kernel_rfl) (by kernel_rfl) (by kernel_rfl) (fun _ _ _ h => h) (Or.inl ⟨by rfl, ?_⟩) hHeld ?_
    rotate_left
    · rintro w ⟨hS1, hS2⟩
      first | (go_simp; done) | (go_simp; with_reducible rfl)
    try simp only [Act.put, List.getElem_toArray, List.getElem_cons_zero, List.getElem_cons_succ, List.setIfInBounds_toArray, List.set_cons_zero, List.set_cons_succ]
    refine wpAnyH_take (i := 5) (v := ?_) rfl (by kernel_rfl) (by kernel_rfl) (by kernel_rfl) (fun _ _ _ h => h) (Or.inl ⟨by rfl, ?_⟩) hHeld ?_
    rotate_left
    · rintro w ⟨hS1, hS2⟩
      first | (go_simp; done) | (go_simp; with_reducible rfl)
    try simp only [Act.put, List.getElem_toArray, List.getElem_cons_zero, List.getElem_cons_succ, List.setIfInBounds_toArray, List.set_cons_zero, List.set_cons_succ]
    refine wpAnyH_take (i := 6) (v := ?_) rfl (by kernel_rfl) (by kernel_rfl) (by kernel_rfl) (fun _ _ _ h => h) (Or.inl ⟨by rfl, ?_⟩) hHeld ?_
    rotate_left
    · rintro w ⟨hS1, hS2⟩
      first | (go_simp; done) | (go_simp; with_reducible rfl)
    try simp only [Act.put, List.getElem_toArray, List.getElem_cons_zero, List.getElem_cons_succ, List.setIfInBounds_toArray, List.set_cons_zero, List.set_cons_succ]
    refine wpAnyH_ready (rs := [3]) (by kernel_rfl) (by simp) ?_
    refine AllReadyH.cons rfl (fun K hK => ?_) AllReadyH.nil
    go_simp
    go_at_call 19
    refine (HA.out).mono ?_
    rintro e w2 ⟨rfl, rfl⟩
    refine hK.out _ _ hHeld (fun hHeld2 => ?_)
    clear hHeld hK K
    have hHeld := hHeld2
    clear hHeld2
    try simp only [Act.put, List.getElem_toArray, List.getElem_cons_zero, List.getElem_cons_succ, List.setIfInBounds_toArray, List.set_cons_zero, List.set_cons_succ]
    refine wpAnyH_ready (rs := [7]) (by kernel_rfl) (by simp) ?_
    refine AllReadyH.cons rfl (fun K hK => ?_) AllReadyH.nil
    go_simp
    go_at_call 26
    refine (HB.out).mono ?_
    rintro e w2 ⟨rfl, rfl⟩
    refine hK.out _ _ hHeld (fun hHeld2 => ?_)
    clear hHeld hK K
    have hHeld := hHeld2
    clear hHeld2
    try simp only [Act.put, List.getElem_toArray, List.getElem_cons_zero, List.getElem_cons_succ, List.setIfInBounds_toArray, List.set_cons_zero, List.set_cons_succ]
    refine wpAnyH_take (i := 8) (v := ?_) rfl (by kernel_rfl) (by kernel_rfl) (by kernel_rfl) (fun _ _ _ h => h) (Or.inl ⟨by rfl, ?_⟩) hHeld ?_
    rotate_left
    · rintro w ⟨hS1, hS2⟩
      first | (go_simp; done) | (go_simp; with_reducible rfl)
    try simp only [Act.put, List.getElem_toArray, List.getElem_cons_zero, List.getElem_cons_succ, List.setIfInBounds_toArray, List.set_cons_zero, List.set_cons_succ]
    refine wpAnyH_take (i := 9) (v := ?_) rfl (by kernel_rfl) (by kernel_rfl) (by kernel_rfl) (fun _ _ _ h => h) (Or.inl ⟨by rfl, ?_⟩) hHeld ?_
    rotate_left
    · rintro w ⟨hS1, hS2⟩
      first | (go_simp; done) | (go_simp; with_reducible rfl)
    try simp only [Act.put, List.getElem_toArray, List.getElem_cons_zero, List.getElem_cons_succ, List.setIfInBounds_toArray, List.set_cons_zero, List.set_cons_succ]
    refine wpAnyH_done (by kernel_rfl) ?_ _
    go_wp2_with fail
    go_ret
    exact ⟨rfl, _, _, _, _, _, HJ1.out, by omega, by omega, HBE.out⟩
  | true =>
    have HA : Hid (Calls Try.prog 19 #[pt b 0, .int .i64 q] w1.drew fun e w' => e = .returned (.bool true) ∧ ∃ (x : Tm) (ρ' : Nat → List Tm), Wh w' B b m T sq (rmT L x) ρ' ∧ WT (Own b m L) w1.drew w' ∧
        Calls Try.prog 26 #[pt lb 0, .int .i64 q] w' fun e w'' => e = .returned (.bool true) ∧ ∃ v', LStep w' lb v v' w'' ∧ IsL w'' B lb T (rmT L x) v') := (cancel_wh hj1.wh q hq).mono fun e w' h => by
      rcases h with ⟨h1, -⟩ | ⟨x, ρ', h1, h2, h3, h4, h5⟩
      · rw [hany] at h1; cases h1
      · refine ⟨h3, x, ρ', h4, h5, (lcancel_any (hj1.list h5) (Nat.le_of_lt hL) (Nat.le_trans hs1 h5.size) q).mono fun e w'' h => ?_⟩
        rcases h with ⟨h6, -⟩ | ⟨k, y, v', h6, h7, h8, h9, h10⟩
        · rw [hany] at h6; cases h6
        · have e1 := hj1.wh.dst.id y x (List.mem_of_getElem? h6) h1 (h7.trans h2.symm)
          subst e1
          rw [rm_erase h6 hj1.wh.dst.nd fun z hz e => hj1.wh.whl.rg.ok.inj z y hz h1 e]
          exact ⟨h8, v', h10, h9⟩
    refine wp_region_held_drew (S := (fun w' => w'.cell? ⟨w.heap.size, 1, none⟩ = some (.int .i64 a) ∧ w'.cell? ⟨w.heap.size, 2, none⟩ = some (.int .i64 q))) (by kernel_rfl) ⟨HB1.out.cell 1, HB1.out.cell 2⟩ (fun hHeld => ?_)
    have HJ1 := Lib.hid hj1
    have HS1 := Lib.hid hs1
    clear hj1 hs1 hany
    refine wpAnyH_take (i := 0) (v := ?_) rfl (by kernel_rfl) (by kernel_rfl) (by kernel_rfl) (fun _ _ _ h => h) (Or.inl ⟨by rfl, ?_⟩) hHeld ?_
    rotate_left
    · rintro w ⟨hS1, hS2⟩
      first | (go_simp; done) | (go_simp; with_reducible rfl)
    try simp only [Act.put, List.getElem_toArray, List.getElem_cons_zero, List.setIfInBounds_toArray, List.set_cons_zero, List.set_cons_succ]
    refine wpAnyH_take (i := 1) (v := ?_) rfl (by kernel_rfl) (by kernel_rfl) (by kernel_rfl) (fun _ _ _ h => h) (Or.inl ⟨by rfl, ?_⟩) hHeld ?_
    rotate_left
    · rintro w ⟨hS1, hS2⟩
      first | (go_simp; done) | (go_simp; with_reducible rfl)
    try simp only [Act.put, List.getElem_toArray, List.getElem_cons_zero, List.getElem_cons_succ, List.setIfInBounds_toArray, List.set_cons_zero, List.set_cons_succ]
    refine wpAnyH_take (i := 2) (v := ?_) rfl (by kernel_rfl) (by kernel_rfl) (by kernel_rfl) (fun _ _ _ h => h) (Or.inl ⟨by rfl, ?_⟩) hHeld ?_
    rotate_left
    · rintro w ⟨hS1, hS2⟩
      first | (go_simp; done) | (go_simp; with_reducible rfl)
    try simp only [Act.put, List.getElem_toArray, List.getElem_cons_zero, List.getElem_cons_succ, List.setIfInBounds_toArray, List.set_cons_zero, List.set_cons_succ]
    refine wpAnyH_take (i := 4) (v := ?_) rfl (by kernel_rfl) (by kernel_rfl) (by kernel_rfl) (fun _ _ _ h => h) (Or.inl ⟨by rfl, ?_⟩) hHeld ?_
    rotate_left
    · rintro w ⟨hS1, hS2⟩
      first | (go_simp; done) | (go_simp; with_reducible rfl)
    try simp only [Act.put, List.getElem_toArray, List.getElem_cons_zero, List.getElem_cons_succ, List.setIfInBounds_toArray, List.set_cons_zero, List.set_cons_succ]
    refine wpAnyH_take (i := 5) (v := ?_) rfl (by kernel_rfl) (by kernel_rfl) (by kernel_rfl) (fun _ _ _ h => h) (Or.inl ⟨by rfl, ?_⟩) hHeld ?_
    rotate_left
    · rintro w ⟨hS1, hS2⟩
      first | (go_simp; done) | (go_simp; with_reducible rfl)
    try simp only [Act.put, List.getElem_toArray, List.getElem_cons_zero, List.getElem_cons_succ, List.setIfInBounds_toArray, List.set_cons_zero, List.set_cons_succ]
    refine wpAnyH_take (i := 6) (v := ?_) rfl (by kernel_rfl) (by kernel_rfl) (by kernel_rfl) (fun _ _ _ h => h) (Or.inl ⟨by rfl, ?_⟩) hHeld ?_
    rotate_left
    · rintro w ⟨hS1, hS2⟩
      first | (go_simp; done) | (go_simp; with_reducible rfl)
    try simp only [Act.put, List.getElem_toArray, List.getElem_cons_zero, List.getElem_cons_succ, List.setIfInBounds_toArray, List.set_cons_zero, List.set_cons_succ]
    refine wpAnyH_ready (rs := [3]) (by kernel_rfl) (by simp) ?_
    refine AllReadyH.cons rfl (fun K hK => ?_) AllReadyH.nil
    go_simp
    go_at_call 19
    refine (HA.out).mono ?_
    rintro e w2 ⟨rfl, x, ρ', hw2, ht2, hlc⟩
    have HLC := Lib.hid hlc
    have HW2 := Lib.hid (And.intro hw2 ht2)
    have hk2 := And.intro (ht2.cell HNO.out.1 hHeld.1) (ht2.cell HNO.out.1 hHeld.2)
    clear hw2 ht2 hlc
    refine hK.out _ _ hk2 (fun hHeld2 => ?_)
    clear hHeld hK K
    have hHeld := hHeld2
    clear hHeld2
    try simp only [Act.put, List.getElem_toArray, List.getElem_cons_zero, List.getElem_cons_succ, List.setIfInBounds_toArray, List.set_cons_zero, List.set_cons_succ]
    refine wpAnyH_ready (rs := [7]) (by kernel_rfl) (by simp) ?_
    refine AllReadyH.cons rfl (fun K hK => ?_) AllReadyH.nil
    go_simp
    go_at_call 26
    refine (HLC.out).mono ?_
    rintro e w3 ⟨rfl, v', hs3, hl3⟩
    have hk3 := And.intro (hs3.1.cell HNO.out.2.1 hHeld.1) (hs3.1.cell HNO.out.2.1 hHeld.2)
    have HL3 := Lib.hid (And.intro hl3 hs3)
    clear hl3 hs3
    refine hK.out _ _ hk3 (fun hHeld2 => ?_)
    clear hHeld hK K
    have hHeld := hHeld2
    clear hHeld2
    try simp only [Act.put, List.getElem_toArray, List.getElem_cons_zero, List.getElem_cons_succ, List.setIfInBounds_toArray, List.set_cons_zero, List.set_cons_succ]
    refine wpAnyH_take (i := 8) (v := ?_) rfl (by kernel_rfl) (by kernel_rfl) (by kernel_rfl) (fun _ _ _ h => h) (Or.inl ⟨by rfl, ?_⟩) hHeld ?_
    rotate_left
    · rintro w ⟨hS1, hS2⟩
      first | (go_simp; done) | (go_simp; with_reducible rfl)
    try simp only [Act.put, List.getElem_toArray, List.getElem_cons_zero, List.getElem_cons_succ, List.setIfInBounds_toArray, List.set_cons_zero, List.set_cons_succ]
    refine wpAnyH_take (i := 9) (v := ?_) rfl (by kernel_rfl) (by kernel_rfl) (by kernel_rfl) (fun _ _ _ h => h) (Or.inl ⟨by rfl, ?_⟩) hHeld ?_
    rotate_left
    · rintro w ⟨hS1, hS2⟩
      first | (go_simp; done) | (go_simp; with_reducible rfl)
    try simp only [Act.put, List.getElem_toArray, List.getElem_cons_zero, List.getElem_cons_succ, List.setIfInBounds_toArray, List.set_cons_zero, List.set_cons_succ]
    refine wpAnyH_done (by kernel_rfl) ?_ _
    go_wp2_with fail
    go_ret
    obtain ⟨hj3, hx3⟩ := HJ1.out.step HW2.out.1 HW2.out.2 (fun g hg => .inl (own_sub (fun y hy => (mem_rm.1 hy).1) hg)) HL3.out.1 HL3.out.2
    exact ⟨rfl, _, _, _, _, _, hj3, by omega, Nat.le_trans (List.length_filter_le _ _) (by omega), HBE.out.trans (HJ1.out.below HS1.out hx3)⟩
set_option maxRecDepth 100000 in
set_option maxHeartbeats 8000000 in
theorem act_go (h : JS w B b m lb T sq L ρ v) (_hsq : sq < 9223372036854775800) (hL : L.length < 8796093022208) (hB : B ≤ w.heap.size) (a q : Int) (ha : (Lit.int .i64 a).wf = true) (_hq : (Lit.int .i64 q).wf = true) :
    Calls Try.prog 16 #[pt b 0, pt lb 0, .agg #[.int .i64 4, .int .i64 a, .int .i64 q]] w (ActPost w B b m lb sq L) := by
  have HJ := Lib.hid h
  clear h
  go_enter Try.func16, Try.ntmps16
  simp only [Go.undef]
  go_upto_region 9 with (first
    | (refine wpList_box1 rfl 39 _ rfl _ rfl #[.int .i64 4, .int .i64 a, .int .i64 q] _ rfl rfl ?_; intro w1 hb1 hbe1; have HB1 := Lib.hid hb1; have HBE1 := Lib.hid hbe1; have c0 : w1.cell? ⟨w.heap.size, 0, none⟩ = some (.int .i64 4) := hb1.cell 0; clear hb1 hbe1))
  have hj1 := (HJ.out.far (w1 := w1) fun g hg => HBE1.out.block g hg).drewN 1
  have hs1 : B ≤ (w1.drewN 1).heap.size := Nat.le_trans hB HBE1.out.size
  have HBE : Hid (Below B w w1.drew) := belowN ((WT.of_below (W := fun _ => False) HBE1.out).below hB fun _ h => h.elim) 1
  have HNO : Hid (¬ Own b m L w.heap.size ∧ ¬ OwnL lb v w.heap.size ∧ ¬ Own b m L lb) := ⟨fun k => by have := (HJ.out.wh.whl.own_lt k).2; omega, fun k => by have := (HJ.out.ls.own_lt k).2; omega, fun k => HJ.out.ap lb k (.inl rfl)⟩
  refine wp_region_held_drew (S := (fun w' => w'.cell? ⟨w.heap.size, 1, none⟩ = some (.int .i64 a) ∧ w'.cell? ⟨w.heap.size, 2, none⟩ = some (.int .i64 q))) (by kernel_rfl) ⟨HB1.out.cell 1, HB1.out.cell 2⟩ (fun hHeld => ?_)
  have HJ1 := Lib.hid hj1
  have HS1 := Lib.hid hs1
  clear hj1 hs1
  refine wpAnyH_take (i := 0) (v := ?_) rfl (by kernel_rfl) (by kernel_rfl) (by kernel_rfl) (fun _ _ _ h => h) (Or.inl ⟨by rfl, ?_⟩) hHeld ?_
  rotate_left
  · rintro w ⟨hS1, hS2⟩
    first | (go_simp; done) | (go_simp; with_reducible rfl)
  try simp only [Act.put, List.getElem_toArray, List.getElem_cons_zero, List.setIfInBounds_toArray, List.set_cons_zero, List.set_cons_succ]
  refine wpAnyH_take (i := 1) (v := ?_) rfl (by kernel_rfl) (by kernel_rfl) (by kernel_rfl) (fun _ _ _ h => h) (Or.inl ⟨by rfl, ?_⟩) hHeld ?_
  rotate_left
  · rintro w ⟨hS1, hS2⟩
    first | (go_simp; done) | (go_simp; with_reducible rfl)
  try simp only [Act.put, List.getElem_toArray, List.getElem_cons_zero, List.getElem_cons_succ, List.setIfInBounds_toArray, List.set_cons_zero, List.set_cons_succ]
  refine wpAnyH_take (i := 2) (v := ?_) rfl (by kernel_rfl) (by kernel_rfl) (by kernel_rfl) (fun _ _ _ h => h) (Or.inl ⟨by rfl, ?_⟩) hHeld ?_
  rotate_left
  · rintro w ⟨hS1, hS2⟩
    first | (go_simp; done) | (go_simp; with_reducible rfl)
  try simp only [Act.put, List.getElem_toArray, List.getElem_cons_zero, List.getElem_cons_succ, List.setIfInBounds_toArray, List.set_cons_zero, List.set_cons_succ]
  refine wpAnyH_take (i := 4) (v := ?_) rfl (by kernel_rfl) (by kernel_rfl) (by kernel_rfl) (fun _ _ _ h => h) (Or.inl ⟨by rfl, ?_⟩) hHeld ?_
  rotate_left
  · rintro w ⟨hS1, hS2⟩
    first | (go_simp; done) | (go_simp; with_reducible rfl)
  try simp only [Act.put, List.getElem_toArray, List.getElem_cons_zero, List.getElem_cons_succ, List.setIfInBounds_toArray, List.set_cons_zero, List.set_cons_succ]
  refine wpAnyH_take (i := 5) (v := ?_) rfl (by kernel_rfl) (by kernel_rfl) (by kernel_rfl) (fun _ _ _ h => h) (Or.inl ⟨by rfl, ?_⟩) hHeld ?_
  rotate_left
  · rintro w ⟨hS1, hS2⟩
    first | (go_simp; done) | (go_simp; with_reducible rfl)
  try simp only [Act.put, List.getElem_toArray, List.getElem_cons_zero, List.getElem_cons_succ, List.setIfInBounds_toArray, List.set_cons_zero, List.set_cons_succ]
  refine wpAnyH_take (i := 6) (v := ?_) rfl (by kernel_rfl) (by kernel_rfl) (by kernel_rfl) (fun _ _ _ h => h) (Or.inl ⟨by rfl, ?_⟩) hHeld ?_
  rotate_left
  · rintro w ⟨hS1, hS2⟩
    first | (go_simp; done) | (go_simp; with_reducible rfl)
  try simp only [Act.put, List.getElem_toArray, List.getElem_cons_zero, List.getElem_cons_succ, List.setIfInBounds_toArray, List.set_cons_zero, List.set_cons_succ]
  refine wpAnyH_ready (rs := [3]) (by kernel_rfl) (by simp) ?_
  refine AllReadyH.cons rfl (fun K hK => ?_) AllReadyH.nil
  go_simp
  go_at_call 10
  refine (go_any HJ1.out.wh (Nat.le_of_lt hL) (a) ha).mono ?_
  rintro e w2 ⟨v2, F, R, ρ', rfl, hf, hw2, hor, ht2⟩
  have HLC := Lib.hid (lgo_any (HJ1.out.list ht2) HJ1.out.wh.gt HJ1.out.wh.nm (Nat.le_of_lt hL) (Nat.le_trans HS1.out ht2.size) (a))
  have HW2 := Lib.hid (And.intro hw2 ht2)
  have HOR := Lib.hid hor
  have HF := Lib.hid hf
  have hk2 := And.intro (ht2.cell HNO.out.1 hHeld.1) (ht2.cell HNO.out.1 hHeld.2)
  have hT2 := (HJ1.out.list ht2).t
  clear hw2 ht2 hor hf
  refine hK.out _ _ hk2 (fun hHeld2 => ?_)
  clear hHeld hK K
  have hHeld := hHeld2
  clear hHeld2
  try simp only [Act.put, List.getElem_toArray, List.getElem_cons_zero, List.getElem_cons_succ, List.setIfInBounds_toArray, List.set_cons_zero, List.set_cons_succ]
  refine wpAnyH_ready (rs := [7]) (by kernel_rfl) (by simp) ?_
  refine AllReadyH.cons rfl (fun K hK => ?_) AllReadyH.nil
  go_simp
  go_at_call 27
  refine (HLC.out).mono ?_
  rintro e w3 ⟨v3, v', F', R', rfl, hf', hl3, hor3, -, hs3⟩
  obtain ⟨e1, e2⟩ := HF.out.det hf'
  subst e1 e2
  have hor2 := own_keep HOR.out (w' := w3) fun g hg => hs3.1.far g (own_ge HOR.out hg).2 fun ho => by have h1 := (HJ1.out.ls.own_lt ho).2; have h2 := (own_ge HOR.out hg).1; omega
  obtain ⟨av2, cv2, rfl, hr2⟩ := fired_rows hor2
  obtain ⟨av3, cv3, rfl, hr3⟩ := fired_rows hor3
  have HSM := Lib.hid (same_any (F.map prT) (F.map prT) av2 av3 F.length F.length cv2 cv3 _ _ w3 hr2 hr3)
  have hk3 := And.intro (hs3.1.cell HNO.out.2.1 hHeld.1) (hs3.1.cell HNO.out.2.1 hHeld.2)
  have HL3 := Lib.hid (And.intro hl3 hs3)
  clear hl3 hs3 hor3 hf' hor2 hr2 hr3
  refine hK.out _ _ hk3 (fun hHeld2 => ?_)
  clear hHeld hK K
  have hHeld := hHeld2
  clear hHeld2
  try simp only [Act.put, List.getElem_toArray, List.getElem_cons_zero, List.getElem_cons_succ, List.setIfInBounds_toArray, List.set_cons_zero, List.set_cons_succ]
  refine wpAnyH_ready (rs := [8]) (by kernel_rfl) (by simp) ?_
  refine AllReadyH.cons rfl (fun K hK => ?_) AllReadyH.nil
  go_simp
  go_at_call 11
  refine (HSM.out).mono ?_
  rintro e w4 ⟨rfl, n4, rfl⟩
  rw [show decide (F.map prT = F.map prT) = true from decide_eq_true rfl]
  refine hK.out _ _ hHeld (fun hHeld2 => ?_)
  clear hHeld hK K
  have hHeld := hHeld2
  clear hHeld2
  try simp only [Act.put, List.getElem_toArray, List.getElem_cons_zero, List.getElem_cons_succ, List.setIfInBounds_toArray, List.set_cons_zero, List.set_cons_succ]
  refine wpAnyH_take (i := 9) (v := ?_) rfl (by kernel_rfl) (by kernel_rfl) (by kernel_rfl) (fun _ _ _ h => h) (Or.inl ⟨by rfl, ?_⟩) hHeld ?_
  rotate_left
  · rintro w ⟨hS1, hS2⟩
    first | (go_simp; done) | (go_simp; with_reducible rfl)
  try simp only [Act.put, List.getElem_toArray, List.getElem_cons_zero, List.getElem_cons_succ, List.setIfInBounds_toArray, List.set_cons_zero, List.set_cons_succ]
  refine wpAnyH_done (by kernel_rfl) ?_ _
  go_wp2_with fail
  go_ret
  obtain ⟨hj3, hx3⟩ := HJ1.out.step HW2.out.1 HW2.out.2 (fun g hg => .inl (own_of_fires HF.out hg)) HL3.out.1 HL3.out.2
  exact ⟨rfl, _, _, _, _, _, hj3.drewN _, by omega, by have := HF.out.len; omega, belowN (HBE.out.trans (HJ1.out.below HS1.out hx3)) _⟩
end
end Go.Proofs.Ytcgchccppoignaa
