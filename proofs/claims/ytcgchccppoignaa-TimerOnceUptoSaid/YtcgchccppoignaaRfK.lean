/- Timer: one call, done to both, on. -/
import Derived.Test.YtcgchccppoignaaRfJ
namespace Go.Proofs.Ytcgchccppoignaa
open Go.RowKit
attribute [local go_sem ↓] Go.wp_at_zero Go.wp_at_succ
attribute [local go_sem] Go.undef
section
variable {w : World} {B b m lb T sq : Nat} {L : List Tm} {ρ : Nat → List Tm} {v : Value}
set_option maxRecDepth 100000 in
set_option maxHeartbeats 8000000 in
theorem act_next (h : JS w B b m lb T sq L ρ v) (_hsq : sq < 9223372036854775800) (hL : L.length < 8796093022208) (hB : B ≤ w.heap.size) (a q : Int) (_ha : (Lit.int .i64 a).wf = true) (_hq : (Lit.int .i64 q).wf = true) :
    Calls Try.prog 16 #[pt b 0, pt lb 0, .agg #[.int .i64 6, .int .i64 a, .int .i64 q]] w (ActPost w B b m lb sq L) := by
  have HJ := Lib.hid h
  clear h
  go_enter Try.func16, Try.ntmps16
  simp only [Go.undef]
  go_upto_region 13 with (first
    | (refine wpList_box1 rfl 39 _ rfl _ rfl #[.int .i64 6, .int .i64 a, .int .i64 q] _ rfl rfl ?_; intro w1 hb1 hbe1; have HB1 := Lib.hid hb1; have HBE1 := Lib.hid hbe1; have c0 : w1.cell? ⟨w.heap.size, 0, none⟩ = some (.int .i64 6) := hb1.cell 0; clear hb1 hbe1))
  have hj0 := HJ.out.far (w1 := w1) fun g hg => HBE1.out.block g hg
  have HLX := Lib.hid (lnext_any hj0.ls (Nat.le_of_lt hL))
  have HMT : Hid (∀ t : Nat, LeastOf L t → (Lit.int .i64 (t : Int)).wf = true) := fun t ⟨⟨x, hx, e⟩, _⟩ => by
    have h1 := (hj0.wh.inv.ge x hx).2
    unfold MT at h1
    rw [show (t : Int) = wrap64 t from (IntWalk.wrap64_in _ (by omega)).symm]
    exact wrap64_wf _
  clear hj0
  go_wp2_with fail
  refine HLX.out.mono ?_
  rintro e w4 ⟨hE, n4, hw4⟩
  obtain ⟨t, f, ht, rfl⟩ : ∃ (t : Int) (f : Bool), (Lit.int .i64 t).wf = true ∧ e = .returned (.tuple #[.int .i64 t, .bool f]) := by
    rcases hE with ⟨-, rfl⟩ | ⟨t, ht, rfl⟩
    · exact ⟨0, false, by decide, rfl⟩
    · exact ⟨t, true, HMT.out t ht, rfl⟩
  have HBE4 : Hid (Below w.heap.size w w4) := by show Below _ _ _; rw [hw4]; exact belowN HBE1.out n4
  have HTW := Lib.hid ht
  clear hE hw4 ht
  go_wp2_with fail
  have hj1 := (HJ.out.far (w1 := w4) fun g hg => HBE4.out.block g hg)
  have hs1 : B ≤ w4.heap.size := Nat.le_trans hB HBE4.out.size
  have HBE : Hid (Below B w w4) := ((WT.of_below (W := fun _ => False) HBE4.out).below hB fun _ h => h.elim)
  have HNO : Hid (¬ Own b m L w.heap.size ∧ ¬ OwnL lb v w.heap.size ∧ ¬ Own b m L lb) := ⟨fun k => by have := (HJ.out.wh.whl.own_lt k).2; omega, fun k => by have := (HJ.out.ls.own_lt k).2; omega, fun k => HJ.out.ap lb k (.inl rfl)⟩
  have HJ1 := Lib.hid hj1
  have HS1 := Lib.hid hs1
  clear hj1 hs1
  refine (go_any HJ1.out.wh (Nat.le_of_lt hL) t HTW.out).mono ?_
  rintro e w2 ⟨v2, F, R, ρ', rfl, hf, hw2, hor, ht2⟩
  have HLC := Lib.hid (lgo_any (HJ1.out.list ht2) HJ1.out.wh.gt HJ1.out.wh.nm (Nat.le_of_lt hL) (Nat.le_trans HS1.out ht2.size) t)
  have HW2 := Lib.hid (And.intro hw2 ht2)
  have HOR := Lib.hid hor
  have HF := Lib.hid hf
  clear hw2 ht2 hor hf
  go_wp2_with fail
  refine HLC.out.mono ?_
  rintro e w3 ⟨v3, v', F', R', rfl, hf', hl3, hor3, -, hs3⟩
  obtain ⟨e1, e2⟩ := HF.out.det hf'
  subst e1 e2
  have hor2 := own_keep HOR.out (w' := w3) fun g hg => hs3.1.far g (own_ge HOR.out hg).2 fun ho => by have h1 := (HJ1.out.ls.own_lt ho).2; have h2 := (own_ge HOR.out hg).1; omega
  obtain ⟨av2, cv2, rfl, hr2⟩ := fired_rows hor2
  obtain ⟨av3, cv3, rfl, hr3⟩ := fired_rows hor3
  have HSM := Lib.hid (same_any (F.map prT) (F.map prT) av2 av3 F.length F.length cv2 cv3 _ _ w3 hr2 hr3)
  have HL3 := Lib.hid (And.intro hl3 hs3)
  clear hl3 hs3 hor3 hf' hor2 hr2 hr3
  go_wp2_with fail
  refine HSM.out.mono ?_
  rintro e w5 ⟨rfl, n5, rfl⟩
  first | rw [show decide (F.map prT = F.map prT) = true from decide_eq_true rfl] | rw [show decide True = true from rfl]
  go_wp2_with fail
  go_ret
  obtain ⟨hj3, hx3⟩ := HJ1.out.step HW2.out.1 HW2.out.2 (fun g hg => .inl (own_of_fires HF.out hg)) HL3.out.1 HL3.out.2
  exact ⟨rfl, _, _, _, _, _, hj3.drewN _, by omega, by have := HF.out.len; omega, belowN (HBE.out.trans (HJ1.out.below HS1.out hx3)) _⟩
set_option maxRecDepth 100000 in
set_option maxHeartbeats 8000000 in
theorem act_none (h : JS w B b m lb T sq L ρ v) (hB : B ≤ w.heap.size) (k a q : Int) (h1 : k ≠ 1) (h2 : k ≠ 2) (h3 : k ≠ 3) (h4 : k ≠ 4) (h5 : k ≠ 5) (h6 : k ≠ 6) :
    Calls Try.prog 16 #[pt b 0, pt lb 0, .agg #[.int .i64 k, .int .i64 a, .int .i64 q]] w (ActPost w B b m lb sq L) := by
  have HJ := Lib.hid h
  clear h
  go_enter Try.func16, Try.ntmps16
  simp only [Go.undef]
  go_wp2_with (first
    | (refine wpList_box1 rfl 39 _ rfl _ rfl #[.int .i64 k, .int .i64 a, .int .i64 q] _ rfl rfl ?_; intro w1 hb1 hbe1; have HBE1 := Lib.hid hbe1; have c0 : w1.cell? ⟨w.heap.size, 0, none⟩ = some (.int .i64 k) := hb1.cell 0; clear hb1 hbe1))
  go_ret
  exact ⟨rfl, _, _, _, _, _, HJ.out.far (w1 := w1) fun g hg => HBE1.out.block g hg, by omega, by omega, (WT.of_below (W := fun _ => False) HBE1.out).below hB fun _ h => h.elim⟩
theorem act_any (h : JS w B b m lb T sq L ρ v) (hsq : sq < 9223372036854775800) (hL : L.length < 8796093022208) (hB : B ≤ w.heap.size) (k a q : Int) (ha : (Lit.int .i64 a).wf = true) (hq : (Lit.int .i64 q).wf = true) :
    Calls Try.prog 16 #[pt b 0, pt lb 0, .agg #[.int .i64 k, .int .i64 a, .int .i64 q]] w (ActPost w B b m lb sq L) := by
  by_cases h1 : k = 1
  · subst h1; exact act_add h hsq hL hB a q ha hq
  by_cases h2 : k = 2
  · subst h2; exact act_soon h hsq hL hB a q ha hq
  by_cases h3 : k = 3
  · subst h3; exact act_cancel h hsq hL hB a q ha hq
  by_cases h4 : k = 4
  · subst h4; exact act_go h hsq hL hB a q ha hq
  by_cases h5 : k = 5
  · subst h5; exact act_pass h hsq hL hB a q ha hq
  by_cases h6 : k = 6
  · subst h6; exact act_next h hsq hL hB a q ha hq
  exact act_none h hB k a q h1 h2 h3 h4 h5 h6
end
end Go.Proofs.Ytcgchccppoignaa
