/- Same of two buffers; spoil writes in the memory of its messages alone. -/
import Derived.Test.YtmdcfmdjbncaoaaDoorBp
namespace Go.Proofs.YtmdcfmdjbncaoaaDoor
open Go.RowKit
attribute [local go_sem ↓] Go.wp_at_zero Go.wp_at_succ
attribute [local go_sem] Go.undef

set_option maxHeartbeats 4000000 in
theorem sameb_yes (l : List MX) (since : Int) (a a' : Option Addr) (n n' c c' : Nat) (S S' : Nat → Prop) (w : World) (hrow : RM w S l a n c) (hrow' : RM w S' l a' n' c') (hS : ∀ b, S b → b < w.heap.size) (hS' : ∀ b, S' b → b < w.heap.size) (hl : l.length ≤ 1000000000) :
    Calls Tryd.prog 17 #[.agg #[.slice a n c, .int .i64 since], .agg #[.slice a' n' c', .int .i64 since]] w fun e w' => e = .returned (.bool true) ∧ Below w.heap.size w w' := by
  have hW : Below w.heap.size w ((w.alloc (.cells #[.slice a n c, .int .i64 since] 24)).alloc (.cells #[.slice a' n' c', .int .i64 since] 24)) := by go_grown
  have HS := Lib.hid (samemsgs_yes l a a' n n' c c' S S' _ (RM.under hrow hW hS) (RM.under hrow' hW hS') (fun b hb => Nat.lt_of_lt_of_le (hS b hb) hW.size) (fun b hb => Nat.lt_of_lt_of_le (hS' b hb) hW.size) hl)
  have HW := Lib.hid hW
  clear hrow hrow' hS hS' hW
  go_enter Tryd.func17, Tryd.ntmps17
  go_wp2_with fail
  refine HS.out.mono ?_
  rintro e w1 ⟨rfl, hb1⟩
  have T := below_on hb1 HW.out
  clear hb1 HS
  go_wp2_with fail
  go_ret
  exact ⟨rfl, T⟩

/-- Where spoil writes: rows of messages that lie from lo on, each body's list in another block than the row. -/
def SpW (w : World) (lo g o : Nat) (l : List MX) (_ls : Nat → Option Addr × Nat × Nat) (wr : World) : Prop :=
  Below lo w wr ∧ (∀ j, j < l.length → ∃ v, wr.cell? ⟨g, o + j * 13 + 1, none⟩ = some v) ∧ True
end Go.Proofs.YtmdcfmdjbncaoaaDoor
