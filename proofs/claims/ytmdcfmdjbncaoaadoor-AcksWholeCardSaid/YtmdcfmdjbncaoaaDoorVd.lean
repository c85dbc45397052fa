/- Valid of any Datum (the same lines as in XAg, for a seat without chapter 12). -/
import Derived.Test.YtmdcfmdjbncaoaaDoorCnt
import Derived.Test.YtmdcfmdjbncaoaaDoorRgt
namespace Go.Proofs.YtmdcfmdjbncaoaaDoor
open Go.RowKit

theorem ret_b {x y : Bool} (h : x = y) : Ending.returned (.bool x) = .returned (.bool y) := by rw [h]

set_option maxHeartbeats 4000000 in
set_option maxRecDepth 100000 in
theorem valid_any (t : Tree) (w : World) (S : Nat → Prop) (cs : List Value) (hd : IsD w S t cs) (hS : ∀ b, S b → b < w.heap.size) :
    Calls Tryd.prog 44 #[.agg cs.toArray] w fun e w' => e = .returned (.bool (validT t)) ∧ Below w.heap.size w w' := by
  have hbd := count_bd _ t (Nat.le_refl _) 1 4096 (by omega) (by omega) (by omega)
  have hd1 : IsD (w.alloc (.cells cs.toArray 28)) S t cs := hd.under ((Below.refl w.heap.size w).alloc (Nat.le_refl _) _) hS
  have hv : validT t = (decide ((countT t 1 4096).1 ≤ 4096) && decide ((countT t 1 4096).2 ≤ 16) && rightT t) := rfl
  have hc := count_any _ t (Nat.le_refl _) (w.alloc (.cells cs.toArray 28)) S cs 1 4096 hd1 (fun q hq => by have := hS q hq; simp; omega) (by omega) (by omega) (by omega) (by omega)
  generalize countT t 1 4096 = p at hbd hv hc
  obtain ⟨p1, p2⟩ := p
  simp only at hbd hv
  obtain ⟨q1, q2, q3, q4, -⟩ := hbd
  have hr := fun W h1 h2 => right_any _ t (Nat.le_refl _) W S cs h1 h2
  have HD1 := Lib.hid hd1
  obtain ⟨kx, ix, bx, sx, lx⟩ := t
  obtain ⟨ax, cx, rfl, -, -, -, -, -⟩ := hd.open_
  have HC := Lib.hid hc
  have HR := Lib.hid hr
  have HV := Lib.hid hv
  have HS := Lib.hid hS
  clear hc hr hv hd1 hd hS
  go_enter Tryd.func44, Tryd.ntmps44
  go_wp2_with fail
  refine HC.out.mono ?_
  rintro e w1 ⟨rfl, hb1⟩
  have hs1 : w.heap.size < w1.heap.size := by have := hb1.size; simp at this; omega
  have e0 : w1.cell? ⟨w.heap.size, 0, none⟩ = some (.int .i64 kx) := cell_over hb1 (by simp) (by simp)
  have e1 : w1.cell? ⟨w.heap.size, 1, none⟩ = some (.int .i64 ix) := cell_over hb1 (by simp) (by simp)
  have e2 : w1.cell? ⟨w.heap.size, 2, none⟩ = some (.int .u64 bx) := cell_over hb1 (by simp) (by simp)
  have e3 : w1.cell? ⟨w.heap.size, 3, none⟩ = some (.string sx) := cell_over hb1 (by simp) (by simp)
  have e4 : w1.cell? ⟨w.heap.size, 4, none⟩ = some (.slice ax lx.length cx) := cell_over hb1 (by simp) (by simp)
  have hB1 : Below w.heap.size w w1 := below_via (by go_grown) hb1 (by simp)
  have HD2 : Hid (IsD w1 S _ _) := HD1.out.under hb1 (fun q hq => by have := HS.out q hq; simp; omega)
  clear hb1
  by_cases h1 : p1 ≤ 4096
  · by_cases h2 : p2 ≤ 16
    · have hv2 : validT (.node kx ix bx sx lx) = rightT (.node kx ix bx sx lx) := by rw [HV.out]; simp [h1, h2]
      have HV2 := Lib.hid hv2
      clear hv2
      go_wp2_with fail
      refine (HR.out _ HD2.out (fun q hq => by have := HS.out q hq; omega)).mono ?_
      rintro e w2 ⟨rfl, hb2⟩
      have hB2 : Below w.heap.size w w2 := below_via hB1 hb2 (by omega)
      go_wp2_with fail
      go_ret
      exact ⟨ret_b HV2.out.symm, hB2⟩
    · have hv2 : validT (.node kx ix bx sx lx) = false := by rw [HV.out]; simp [h2]
      have HV2 := Lib.hid hv2
      clear hv2
      have hg : decide (p2 ≤ 16) = false := by simpa using h2
      go_wp2_with fail
      go_ret
      exact ⟨ret_b HV2.out.symm, hB1⟩
  · have hv2 : validT (.node kx ix bx sx lx) = false := by rw [HV.out]; simp [h1]
    have HV2 := Lib.hid hv2
    clear hv2
    have hg : decide (p1 ≤ 4096) = false := by simpa using h1
    go_wp2_with fail
    go_ret
    exact ⟨ret_b HV2.out.symm, hB1⟩
end Go.Proofs.YtmdcfmdjbncaoaaDoor
