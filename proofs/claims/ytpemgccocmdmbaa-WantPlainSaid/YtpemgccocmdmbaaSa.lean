/- sample: the value of a kind, as an interface value. -/
import Derived.Test.YtpemgccocmdmbaaU
namespace Go.Proofs.Ytpemgccocmdmbaa
open Go.RowKit

/-- The interface value of a kind (of kind 11 a pointer to a box in block g). -/
def sampleV (g : Nat) (k : Int) : Value :=
  if k = 1 then .iface 74 (.int .i64 0) else if k = 2 then .iface 75 (.int .i64 0) else if k = 3 then .iface 77 (.float .f64 0) else if k = 4 then .iface 78 (.string ByteArray.empty)
  else if k = 5 then .iface 79 (.string ByteArray.empty) else if k = 6 then .iface 80 (.bool false) else if k = 7 then .iface 82 (.slice none 0 0) else if k = 8 then .iface 84 (.slice none 0 0)
  else if k = 9 then .iface 86 (.agg #[.nilIface, .nilIface]) else if k = 10 then .iface 88 (.agg #[.int .i64 0]) else if k = 11 then .iface 72 (.pointer (some ⟨g, 0, none⟩)) else if k = 12 then .iface 72 (.pointer none)
  else if k = 13 then .iface 92 (.agg #[]) else .nilIface

set_option maxHeartbeats 4000000 in
theorem sample_any (k : Int) (w : World) : Calls Try.prog 48 #[.int .i64 k] w fun e w' => (∃ g, e = .returned (sampleV g k)) ∧ Below w.heap.size w w' := by
  go_enter Try.func48, Try.ntmps48
  go_wp2_with fail
  all_goals
    go_ret
    refine ⟨⟨w.heap.size, congrArg Ending.returned ?_⟩, by go_grown⟩
    simp_all [sampleV]
  all_goals rfl
end Go.Proofs.Ytpemgccocmdmbaa
