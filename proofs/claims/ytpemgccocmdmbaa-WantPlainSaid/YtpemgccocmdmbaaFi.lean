/- Valid and Fit of any pattern; Holds, Covers, Meets and the reference's. -/
import Derived.Test.YtpemgccocmdmbaaKn
import Derived.Test.YtpemgccocmdmbaaVl
import Derived.Test.YtpemgccocmdmbaaVd
namespace Go.Proofs.Ytpemgccocmdmbaa
open Go.RowKit Go.Deep

set_option maxRecDepth 100000 in
set_option maxHeartbeats 4000000 in
theorem want_valid (t : WT) (w : World) (S : Nat → Prop) (cs : List Value) (hd : IsW w S t cs) (hS : ∀ q, S q → q < w.heap.size) :
    Calls Try.prog 12 #[.agg cs.toArray] w fun e w' => e = .returned (.bool (fitW t)) ∧ Below w.heap.size w w' := by
  obtain ⟨o, n, l⟩ := t
  obtain ⟨a, c, rfl, -⟩ := hd.open_
  have hB0 : Below w.heap.size w ((w.alloc (.cells #[.int .i64 o, .int .i64 n, .slice a l.length c] 24)).alloc (.cells #[.int .i64 16384] 56)) := by go_grown
  have hblk : Blk ((w.alloc (.cells #[.int .i64 o, .int .i64 n, .slice a l.length c] 24)).alloc (.cells #[.int .i64 16384] 56)) (w.heap.size + 1) 56 #[.int .i64 (16385 - 1)] := Blk.new' _ _ _ (by simp)
  have hv := valid_in _ (.node o n l) (Nat.le_refl _) _ S _ (w.heap.size + 1) 1 1 (hd.under hB0 hS) (fun q hq => by have := hS q hq; omega) hblk (by omega) (by omega) (by omega) (by omega)
  have HV := Lib.hid hv
  have HB := Lib.hid hB0
  clear hv hblk hB0 hd hS
  go_enter Try.func12, Try.ntmps12
  go_wp2_with fail
  refine HV.out.mono ?_
  rintro e w1 ⟨rfl, -, hs, hb1⟩
  have hB1 : Below w.heap.size w w1 := HB.out.trans (hb1.mono (by omega))
  clear hb1 hs
  go_wp2_with fail
  go_ret
  exact ⟨rfl, hB1⟩

set_option maxRecDepth 100000 in
set_option maxHeartbeats 4000000 in
theorem want_fit (t : WT) (w : World) (S : Nat → Prop) (cs : List Value) (hd : IsW w S t cs) (hS : ∀ q, S q → q < w.heap.size) :
    Calls Try.prog 13 #[.agg cs.toArray] w fun e w' => e = .returned (.bool (fitW t)) ∧ Below w.heap.size w w' := by
  have hbd := look_bd _ t (Nat.le_refl _) 1 1 (by omega)
  have hfw : fitW t = decide (0 ≤ lookW t 1 1) := rfl
  have hc := fun W (hW : Below w.heap.size w W) => look_any _ t (Nat.le_refl _) W S cs 1 1 (hd.under hW hS) (fun q hq => Nat.lt_of_lt_of_le (hS q hq) hW.size) (by omega) (by omega) (by omega) (by omega)
  generalize lookW t 1 1 = z at hbd hfw hc
  generalize fitW t = fb at hfw ⊢
  obtain ⟨o, n, l⟩ := t
  obtain ⟨a, c, rfl, -⟩ := hd.open_
  have HC := Lib.hid hc
  have HF := Lib.hid hfw
  clear hc hd hS hfw
  go_enter Try.func13, Try.ntmps13
  go_wp2_with fail
  refine (HC.out _ (by go_grown)).mono ?_
  rintro e w1 ⟨rfl, hb1⟩
  have hB1 : Below w.heap.size w w1 := below_on hb1 (by go_grown)
  clear hb1
  by_cases hz : 0 ≤ z
  · obtain rfl : fb = true := by rw [HF.out]; exact decide_eq_true hz
    have h2 : z ≤ 16384 := by omega
    have h3 : ¬ z < 0 := by omega
    go_wp2_with fail
    go_ret
    exact ⟨rfl, hB1⟩
  · obtain rfl : fb = false := by rw [HF.out]; exact decide_eq_false hz
    have h3 : z < 0 := by omega
    go_wp2_with fail
    go_ret
    exact ⟨rfl, hB1⟩
end Go.Proofs.Ytpemgccocmdmbaa
