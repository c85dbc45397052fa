/- Timer: a node's links; alone, behind, leave. -/
import Derived.Test.YtcgchccppoignaaApp
import Derived.Deep.AppendLies
import Derived.Deep.RegionHeld3
import Derived.Deep.DrawnRows
import Derived.Deep.RegionLaw
namespace Go.Proofs.Ytcgchccppoignaa
open Go.RowKit
attribute [local go_sem ↓] Go.wp_at_zero Go.wp_at_succ
attribute [local go_sem] Go.undef

abbrev pt (b o : Nat) : Value := .pointer (some ⟨b, o, none⟩)
/-- A node's two links: they are there, and may be written. -/
structure Nd (w : World) (b o : Nat) (p n : Value) : Prop where
  p : w.cell? ⟨b, o, none⟩ = some p
  n : w.cell? ⟨b, o + 1, none⟩ = some n
  fp : w.frozen? ⟨b, o, none⟩ = false
  fn : w.frozen? ⟨b, o + 1, none⟩ = false

section
variable {w : World}
theorem Nd.setOff {b o : Nat} {p n : Value} (h : Nd w b o p n) {c q : Nat} {v : Value} (h1 : ¬ (c = b ∧ q = o)) (h2 : ¬ (c = b ∧ q = o + 1)) : Nd (w.setCell ⟨c, q, none⟩ v) b o p n :=
  ⟨by rw [World.cell?_setCell_other _ _ _ _ (by intro e; exact h1 ⟨congrArg Addr.block e, congrArg Addr.off e⟩)]; exact h.p,
   by rw [World.cell?_setCell_other _ _ _ _ (by intro e; exact h2 ⟨congrArg Addr.block e, congrArg Addr.off e⟩)]; exact h.n,
   by rw [World.frozen?_setCell]; exact h.fp, by rw [World.frozen?_setCell]; exact h.fn⟩
theorem Nd.setN {b o : Nat} {p n : Value} (h : Nd w b o p n) (v : Value) : Nd (w.setCell ⟨b, o + 1, none⟩ v) b o p v :=
  ⟨by rw [World.cell?_setCell_other _ _ _ _ (by intro e; have := congrArg Addr.off e; simp at this)]; exact h.p, World.cell?_setCell_same _ _ _ h.n, by rw [World.frozen?_setCell]; exact h.fp, by rw [World.frozen?_setCell]; exact h.fn⟩
theorem Nd.setP {b o : Nat} {p n : Value} (h : Nd w b o p n) (v : Value) : Nd (w.setCell ⟨b, o, none⟩ v) b o v n :=
  ⟨World.cell?_setCell_same _ _ _ h.p, by rw [World.cell?_setCell_other _ _ _ _ (by intro e; have := congrArg Addr.off e; simp at this)]; exact h.n, by rw [World.frozen?_setCell]; exact h.fp, by rw [World.frozen?_setCell]; exact h.fn⟩
theorem Nd.drew {b o : Nat} {p n : Value} (h : Nd w b o p n) : Nd w.drew b o p n := ⟨h.p, h.n, h.fp, h.fn⟩
end
set_option maxHeartbeats 4000000 in
theorem alone_any (b o : Nat) (p n : Value) (w : World) (h : Nd w b o p n) :
    Calls Try.prog 24 #[pt b o] w fun e w' => e = .returned (.tuple #[]) ∧ w' = (w.setCell ⟨b, o, none⟩ (pt b o)).setCell ⟨b, o + 1, none⟩ (pt b o) := by
  obtain ⟨h1, h2, f1, f2⟩ := h
  go_enter Try.func24, Try.ntmps24
  go_wp2_with fail
  exact bodyPost_end (results_none rfl _ _ _) rfl ⟨rfl, rfl⟩

set_option maxHeartbeats 4000000 in
/-- Tied to the end of a ring: e's links, the head's, and those of the head's old last one. -/
theorem behind_any (b o hb ho lb lo : Nat) (p n q ln lp : Value) (w : World) (h : Nd w b o p n) (hh : Nd w hb ho (pt lb lo) q) (hl : Nd w lb lo lp ln)
    (h1 : (⟨b, o⟩ : Nat × Nat) ≠ ⟨hb, ho⟩) (h2 : (⟨b, o⟩ : Nat × Nat) ≠ ⟨lb, lo⟩) (h3 : (⟨b, o + 1⟩ : Nat × Nat) ≠ ⟨hb, ho⟩) (h4 : (⟨b, o⟩ : Nat × Nat) ≠ ⟨lb, lo + 1⟩) (h5 : (⟨lb, lo + 1⟩ : Nat × Nat) ≠ ⟨hb, ho⟩) (h6 : (⟨b, o + 1⟩ : Nat × Nat) ≠ ⟨lb, lo⟩) :
    Calls Try.prog 30 #[pt b o, pt hb ho] w fun e w' => e = .returned (.tuple #[]) ∧ w' = (((w.setCell ⟨b, o, none⟩ (pt lb lo)).setCell ⟨b, o + 1, none⟩ (pt hb ho)).setCell ⟨lb, lo + 1, none⟩ (pt b o)).setCell ⟨hb, ho, none⟩ (pt b o) := by
  obtain ⟨a1, a2, a3, a4⟩ := h
  obtain ⟨b1, b2, b3, b4⟩ := hh
  obtain ⟨c1, c2, c3, c4⟩ := hl
  have e1 : ¬ (b = hb ∧ o = ho) := fun ⟨x, y⟩ => h1 (by rw [x, y])
  have e3 : ¬ (b = hb ∧ o + 1 = ho) := fun ⟨x, y⟩ => h3 (by rw [x, y])
  have e4 : ¬ (b = lb ∧ o = lo + 1) := fun ⟨x, y⟩ => h4 (by rw [x, y])
  have e5 : ¬ (lb = hb ∧ lo + 1 = ho) := fun ⟨x, y⟩ => h5 (by rw [x, y])
  have e2 : ¬ (b = lb ∧ o = lo) := fun ⟨x, y⟩ => h2 (by rw [x, y])
  have e6 : ¬ (b = lb ∧ o + 1 = lo) := fun ⟨x, y⟩ => h6 (by rw [x, y])
  clear h1 h2 h3 h4 h5 h6
  go_enter Try.func30, Try.ntmps30
  go_wp2_with fail
  exact bodyPost_end (results_none rfl _ _ _) rfl ⟨rfl, rfl⟩

set_option maxHeartbeats 8000000 in
/-- Out of a ring: e's links, and those of its two neighbours. -/
theorem leave_any (b o pb po nb no : Nat) (pp pn np nn : Value) (w : World) (h : Nd w b o (pt pb po) (pt nb no)) (hp : Nd w pb po pp pn) (hn : Nd w nb no np nn)
    (h1 : ¬ (b = pb ∧ o = po)) (h2 : ¬ (b = nb ∧ o = no)) (h3 : ¬ (b = pb ∧ o = po + 1)) (h4 : ¬ (b = nb ∧ o + 1 = no)) (h5 : ¬ (pb = nb ∧ po + 1 = no)) :
    Calls Try.prog 29 #[pt b o] w fun e w' => e = .returned (.tuple #[]) ∧ w' = (((w.setCell ⟨pb, po + 1, none⟩ (pt nb no)).setCell ⟨nb, no, none⟩ (pt pb po)).drew.setCell ⟨b, o, none⟩ (pt b o)).setCell ⟨b, o + 1, none⟩ (pt b o) := by
  have HN : Hid (Nd ((w.setCell ⟨pb, po + 1, none⟩ (pt nb no)).setCell ⟨nb, no, none⟩ (pt pb po)).drew b o (pt pb po) (pt nb no)) := ((h.setOff (fun ⟨x, y⟩ => h3 ⟨x.symm, y.symm⟩) (fun ⟨x, y⟩ => h1 ⟨x.symm, by omega⟩)).setOff (fun ⟨x, y⟩ => h2 ⟨x.symm, y.symm⟩) (fun ⟨x, y⟩ => h4 ⟨x.symm, y.symm⟩)).drew
  obtain ⟨a1, a2, a3, a4⟩ := h
  obtain ⟨b1, b2, b3, b4⟩ := hp
  obtain ⟨c1, c2, c3, c4⟩ := hn
  go_enter Try.func29, Try.ntmps29
  go_wp2_with fail
  go_region
  go_wp2_with fail
  refine (alone_any b o (pt pb po) (pt nb no) _ HN.out).mono ?_
  rintro e w' ⟨rfl, rfl⟩
  go_wp2_with fail
  exact bodyPost_end (results_none rfl _ _ _) rfl ⟨rfl, rfl⟩
end Go.Proofs.Ytcgchccppoignaa
