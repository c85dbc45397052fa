/- Contracts of package limit and of its reference, for any fit numbers. -/
import Derived.Test.YtcinjfafjekdlaaRows
import Derived.WalkKit
import Derived.ProofKit
import Derived.OpenShut
import Derived.ShutString
import Derived.ChangeOld
import Derived.Below
import Derived.Handy
import Derived.BigQuiet
import Derived.Deep.QuietTactic
import Derived.StillTailTactics
import Derived.Lib.Hide
namespace Go.Proofs.Ytcinjfafjekdlaa
open Go.RowKit

theorem ret_int {k : IntKind} {a b : Int} (h : a = b) : Ending.returned (.int k a) = .returned (.int k b) := by rw [h]

theorem bcell {W w1 : World} (hb : Below W.heap.size W w1) : (∀ b o, b < W.heap.size → w1.cell? ⟨b, o, none⟩ = W.cell? ⟨b, o, none⟩) ∧ (∀ b o, b < W.heap.size → w1.frozen? ⟨b, o, none⟩ = W.frozen? ⟨b, o, none⟩) :=
  ⟨fun b o h => hb.cell (p := ⟨b, o, none⟩) h, fun b o h => hb.frozen (p := ⟨b, o, none⟩) h⟩

/-- What a call that made memory leaves, told of the world ahead of it. -/
theorem below_via {B : Nat} {w W w1 : World} (h : Below B w W) (hb : Below W.heap.size W w1) (hB : B ≤ W.heap.size) : Below B w w1 := h.trans (hb.mono hB)

theorem least_any (a b : Int) (w : World) :
    Calls Try.prog 19 #[.int .i64 a, .int .i64 b] w fun e w' => e = .returned (.int .i64 (min a b)) ∧ w' = w := by
  by_cases h : a < b
  · go_enter Try.func19, Try.ntmps19
    go_wp2
    go_ret
    exact ⟨ret_int (by omega), rfl⟩
  · go_enter Try.func19, Try.ntmps19
    go_wp2
    go_ret
    exact ⟨ret_int (by omega), rfl⟩

theorem greatest_any (a b : Int) (w : World) (ha : 0 ≤ a) (ha' : a ≤ 1099511627776) (hb : 0 ≤ b) (hb' : b ≤ 1099511627776) :
    Calls Try.prog 20 #[.int .i64 a, .int .i64 b] w fun e w' => e = .returned (.int .i64 (max a b)) ∧ w' = w := by
  go_enter Try.func20, Try.ntmps20
  go_wp2_with (go_at_call 19; refine (least_any _ _ _).mono ?_; rintro e w' ⟨rfl, rfl⟩)
  go_ret
  exact ⟨ret_int (by omega), rfl⟩

def lvAt (a b lv ls now : Int) : Int := if now ≤ ls then lv else min (a * b) (lv + a * min (now - ls) (b + 1))

set_option maxHeartbeats 1000000 in
theorem at_any (a b lv ls now : Int) (w : World) (ha : 1 ≤ a) (ha' : a ≤ 1000000) (hb : 1 ≤ b) (hb' : b ≤ 1000000) (hl : 0 ≤ lv) (hl' : lv ≤ a * b)
    (hs : 0 ≤ ls) (hs' : ls ≤ 1099511627776) (hn : 0 ≤ now) (hn' : now ≤ 1099511627776) :
    Calls Try.prog 17 #[.agg #[.int .i64 a, .int .i64 b, .int .i64 lv, .int .i64 ls], .int .i64 now] w fun e w' =>
      e = .returned (.agg #[.int .i64 a, .int .i64 b, .int .i64 (lvAt a b lv ls now), .int .i64 (max ls now)]) ∧ Below w.heap.size w w' := by
  by_cases h : now ≤ ls
  · have hm : max ls now = ls := by omega
    have hL : lvAt a b lv ls now = lv := if_pos h
    rw [hm, hL]
    clear hm hL
    go_enter Try.func17, Try.ntmps17
    go_wp2
    go_returns
    exact ⟨rfl, by go_grown⟩
  · have hab : a * b ≤ 1000000 * 1000000 := Int.mul_le_mul ha' hb' (by omega) (by omega)
    have hab0 : 0 ≤ a * b := Int.mul_nonneg (by omega) (by omega)
    have hm1 : 0 ≤ min (now - ls) (b + 1) := by omega
    have hm2 : min (now - ls) (b + 1) ≤ 1000001 := by omega
    have ham : a * min (now - ls) (b + 1) ≤ 1000000 * 1000001 := Int.mul_le_mul ha' hm2 (by omega) (by omega)
    have ham0 : 0 ≤ a * min (now - ls) (b + 1) := Int.mul_nonneg (by omega) (by omega)
    go_enter Try.func17, Try.ntmps17
    go_wp2_with fail
    refine wp_region_still_tail 24 (by kernel_rfl) (by kernel_rfl) ?_
    simp only [List.take_succ_cons, List.take_zero, List.drop_succ_cons, List.drop_zero]
    change wpStill _ _ (World.drew _) (fun a' => wpList _ _ _ _ a' (World.drew _)) _ _
    repeat still_step
    still_call (least_any _ _ _)
    repeat still_step
    still_call (least_any _ _ _)
    repeat still_step
    refine wpStill_nil ?_
    go_wp2_with (go_at_call 20; refine (greatest_any _ _ _ (by omega) (by omega) (by omega) (by omega)).mono ?_; rintro e w' ⟨rfl, rfl⟩)
    go_returns
    exact ⟨by rw [show lvAt a b lv ls now = _ from if_neg (by omega)], by go_grown⟩


theorem lvAt_bd (a b lv ls now : Int) (ha : 1 ≤ a) (hb : 1 ≤ b) (hl : 0 ≤ lv) (hl' : lv ≤ a * b) : 0 ≤ lvAt a b lv ls now ∧ lvAt a b lv ls now ≤ a * b := by
  unfold lvAt
  split
  · exact ⟨hl, hl'⟩
  · have : 0 ≤ a * min (now - ls) (b + 1) := Int.mul_nonneg (by omega) (by omega)
    omega

def tk (a b lv ls now : Int) : Bool := decide (b ≤ lvAt a b lv ls now)
def tkLv (a b lv ls now : Int) : Int := if b ≤ lvAt a b lv ls now then lvAt a b lv ls now - b else lvAt a b lv ls now

theorem tkLv_bd (a b lv ls now : Int) (ha : 1 ≤ a) (hb : 1 ≤ b) (hl : 0 ≤ lv) (hl' : lv ≤ a * b) : 0 ≤ tkLv a b lv ls now ∧ tkLv a b lv ls now ≤ a * b := by
  have := lvAt_bd a b lv ls now ha hb hl hl'
  unfold tkLv
  split <;> omega

theorem ab_bd (a b : Int) (ha : 1 ≤ a) (ha' : a ≤ 1000000) (hb : 1 ≤ b) (hb' : b ≤ 1000000) : 1 ≤ a * b ∧ a * b ≤ 1000000000000 := by
  have h1 : a * b ≤ 1000000 * 1000000 := Int.mul_le_mul ha' hb' (by omega) (by omega)
  have h2 : 1 * 1 ≤ a * b := Int.mul_le_mul ha hb (by omega) (by omega)
  omega

end Go.Proofs.Ytcinjfafjekdlaa
