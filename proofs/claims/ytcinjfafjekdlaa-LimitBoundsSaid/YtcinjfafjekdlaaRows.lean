/-
  No cell of these rows narrows 'for every input' (looked for: loops, veiled, ifaces, maps, wideKeys, modest, calm, conditions, laid).
  DERIVED. THE GIVEN ROWS OF THIS SEAT. 5 by the template 'for every input the law returns true; each argument reads behind the call as it read before'; 0 by the template 'total and deterministic' (their statements: YtcinjfafjekdlaaTotals.lean).
  GIVEN WITH THE SEED: the statements are not yours to turn. If you find one false, say at which input.
  Laid BY PROGRAM, IN A SANDBOX (cutbox-rows.mjs): the forced cells as the released guide's own fill.sh prints them over the translation 3bc6fd185b06639b… (all of the seat's roots in one cut). By AI agents, Wed Nov 11 2026. No macro, syntax, notation, axiom, sorry.
-/
import Derived.Test.YtcinjfafjekdlaaChecked
import GoSem.Claim
import GoSem.ClaimJoined
import GoSem.ClaimMapViews
import Derived.JoinedTies
import Derived.KernelRfl
namespace Go.Proofs.Ytcinjfafjekdlaa
/- THE CELL 'sum', in the pinned program and in every row, IS THE sha256 OF THE DUMP (.gsa) THAT YtcinjfafjekdlaaProg.lean LOADS. Nothing in Lean hashes anything: it is a label: what it is worth is what the hold of that sum in a sandbox is worth. -/
noncomputable def Try.pinned : Pinned := { name := "ytcinjfafjekdlaa", sum := "3bc6fd185b06639b388c8da225b344f9b8373c6ce684b2c928fd89b3466a8ce7", checked := Try.checked }
namespace Rows
def none {H : Type} : Left H := { results := [], args := [] }

/-- 'conduitlaw13.LimitTakes': WHATEVER THE INPUT: true; the input reads as it did. -/
def limitTakesSpec : ChangeSpec := { name := "limitTakes", fn := fun _ => fun
  | [d1, d2, d3, d4] => { results := [.lit (.bool true)], args := [d1, d2, d3, d4] }
  | _ => none }
def limitTakesRow : OpenClaim := { program := "ytcinjfafjekdlaa", sum := "3bc6fd185b06639b388c8da225b344f9b8373c6ce684b2c928fd89b3466a8ce7", func := "conduit/conduitlaw13.LimitTakes", spec := "limitTakes", apart := false }
def LimitTakesSaid : Prop := limitTakesRow.holds Try.pinned (OpenSpec.ofChange limitTakesSpec)

/-- ITS FALSE NEIGHBOUR: 'it returns false'. Refute it at one input. -/
def limitTakesWrong : ChangeSpec := { name := "limitTakes", fn := fun _ => fun
  | [d1, d2, d3, d4] => { results := [.lit (.bool false)], args := [d1, d2, d3, d4] }
  | _ => none }
def LimitTakesWrongFalsely : Prop := limitTakesRow.holds Try.pinned (OpenSpec.ofChange limitTakesWrong)

/-- 'conduitlaw13.LimitBounds': WHATEVER THE INPUT: true; the input reads as it did. -/
def limitBoundsSpec : ChangeSpec := { name := "limitBounds", fn := fun _ => fun
  | [d1, d2, d3, d4] => { results := [.lit (.bool true)], args := [d1, d2, d3, d4] }
  | _ => none }
def limitBoundsRow : OpenClaim := { program := "ytcinjfafjekdlaa", sum := "3bc6fd185b06639b388c8da225b344f9b8373c6ce684b2c928fd89b3466a8ce7", func := "conduit/conduitlaw13.LimitBounds", spec := "limitBounds", apart := false }
def LimitBoundsSaid : Prop := limitBoundsRow.holds Try.pinned (OpenSpec.ofChange limitBoundsSpec)

/-- ITS FALSE NEIGHBOUR: 'it returns false'. Refute it at one input. -/
def limitBoundsWrong : ChangeSpec := { name := "limitBounds", fn := fun _ => fun
  | [d1, d2, d3, d4] => { results := [.lit (.bool false)], args := [d1, d2, d3, d4] }
  | _ => none }
def LimitBoundsWrongFalsely : Prop := limitBoundsRow.holds Try.pinned (OpenSpec.ofChange limitBoundsWrong)

/-- 'conduitlaw13.LimitMore': WHATEVER THE INPUT: true; the input reads as it did. -/
def limitMoreSpec : ChangeSpec := { name := "limitMore", fn := fun _ => fun
  | [d1, d2, d3, d4, d5] => { results := [.lit (.bool true)], args := [d1, d2, d3, d4, d5] }
  | _ => none }
def limitMoreRow : OpenClaim := { program := "ytcinjfafjekdlaa", sum := "3bc6fd185b06639b388c8da225b344f9b8373c6ce684b2c928fd89b3466a8ce7", func := "conduit/conduitlaw13.LimitMore", spec := "limitMore", apart := false }
def LimitMoreSaid : Prop := limitMoreRow.holds Try.pinned (OpenSpec.ofChange limitMoreSpec)

/-- ITS FALSE NEIGHBOUR: 'it returns false'. Refute it at one input. -/
def limitMoreWrong : ChangeSpec := { name := "limitMore", fn := fun _ => fun
  | [d1, d2, d3, d4, d5] => { results := [.lit (.bool false)], args := [d1, d2, d3, d4, d5] }
  | _ => none }
def LimitMoreWrongFalsely : Prop := limitMoreRow.holds Try.pinned (OpenSpec.ofChange limitMoreWrong)

/-- 'conduitlaw13.LimitFull': WHATEVER THE INPUT: true; the input reads as it did. -/
def limitFullSpec : ChangeSpec := { name := "limitFull", fn := fun _ => fun
  | [d1, d2, d3] => { results := [.lit (.bool true)], args := [d1, d2, d3] }
  | _ => none }
def limitFullRow : OpenClaim := { program := "ytcinjfafjekdlaa", sum := "3bc6fd185b06639b388c8da225b344f9b8373c6ce684b2c928fd89b3466a8ce7", func := "conduit/conduitlaw13.LimitFull", spec := "limitFull", apart := false }
def LimitFullSaid : Prop := limitFullRow.holds Try.pinned (OpenSpec.ofChange limitFullSpec)

/-- ITS FALSE NEIGHBOUR: 'it returns false'. Refute it at one input. -/
def limitFullWrong : ChangeSpec := { name := "limitFull", fn := fun _ => fun
  | [d1, d2, d3] => { results := [.lit (.bool false)], args := [d1, d2, d3] }
  | _ => none }
def LimitFullWrongFalsely : Prop := limitFullRow.holds Try.pinned (OpenSpec.ofChange limitFullWrong)

/-- 'conduitlaw13.LimitWaits': WHATEVER THE INPUT: true; the input reads as it did. -/
def limitWaitsSpec : ChangeSpec := { name := "limitWaits", fn := fun _ => fun
  | [d1, d2, d3, d4] => { results := [.lit (.bool true)], args := [d1, d2, d3, d4] }
  | _ => none }
def limitWaitsRow : OpenClaim := { program := "ytcinjfafjekdlaa", sum := "3bc6fd185b06639b388c8da225b344f9b8373c6ce684b2c928fd89b3466a8ce7", func := "conduit/conduitlaw13.LimitWaits", spec := "limitWaits", apart := false }
def LimitWaitsSaid : Prop := limitWaitsRow.holds Try.pinned (OpenSpec.ofChange limitWaitsSpec)

/-- ITS FALSE NEIGHBOUR: 'it returns false'. Refute it at one input. -/
def limitWaitsWrong : ChangeSpec := { name := "limitWaits", fn := fun _ => fun
  | [d1, d2, d3, d4] => { results := [.lit (.bool false)], args := [d1, d2, d3, d4] }
  | _ => none }
def LimitWaitsWrongFalsely : Prop := limitWaitsRow.holds Try.pinned (OpenSpec.ofChange limitWaitsWrong)

/- THE SECOND FORM. 'bulk': how many values and letters a reading holds, each counted each time it is reached (what is shared counts as often as it is met; a slice's spare places count too). A statement '..UptoSaid' is the law's where the arguments, and the package variables that the reading takes, are together of bulk at most 1048576: NARROWER than '..Said'. Prove '..Said' where nothing that the law and all that it calls make is longer than what came in: it says more and counts as full. Else prove '..UptoSaid'. A law counts once. -/
mutual
def uptoBulk {H : Type} : DataW H → Nat
  | .lit (.string bytes) => bytes.length + 1
  | .lit _ => 1
  | .nil => 1
  | .ptr d => uptoBulk d + 1
  | .slice elems spare => uptoBulkAll elems + uptoBulkAll spare + 1
  | .agg parts => uptoBulkAll parts + 1
  | .iface _ d => uptoBulk d + 1
  | .map entries => uptoBulkEntries entries + 1
  | .held _ => 1
def uptoBulkAll {H : Type} : List (DataW H) → Nat
  | [] => 0
  | d :: r => uptoBulk d + uptoBulkAll r
def uptoBulkEntries {H : Type} : List (Lit × DataW H) → Nat
  | [] => 0
  | x :: r => uptoBulkEntry x + uptoBulkEntries r
def uptoBulkEntry {H : Type} : Lit × DataW H → Nat
  | (.string bytes, d) => bytes.length + uptoBulk d + 1
  | (_, d) => uptoBulk d + 1
 end
def uptoSmall : (H : Type) → List (DataW H) → Bool := fun _ ds => decide (uptoBulkAll ds ≤ 1048576)
def OpenSpec.upto (s : _root_.Go.ChangeSpec) : _root_.Go.OpenSpec := { _root_.Go.OpenSpec.ofChange s with cond := some uptoSmall }

/-- 'conduitlaw13.LimitTakes', WHERE WHAT IT READS IS OF BULK AT MOST 1048576: true; the input reads as it did. -/
def limitTakesUptoRow : OpenClaim := { program := "ytcinjfafjekdlaa", sum := "3bc6fd185b06639b388c8da225b344f9b8373c6ce684b2c928fd89b3466a8ce7", func := "conduit/conduitlaw13.LimitTakes", spec := "limitTakes", apart := false, narrowed := true }
def LimitTakesUptoSaid : Prop := limitTakesUptoRow.holds Try.pinned (OpenSpec.upto limitTakesSpec)

/-- 'conduitlaw13.LimitBounds', WHERE WHAT IT READS IS OF BULK AT MOST 1048576: true; the input reads as it did. -/
def limitBoundsUptoRow : OpenClaim := { program := "ytcinjfafjekdlaa", sum := "3bc6fd185b06639b388c8da225b344f9b8373c6ce684b2c928fd89b3466a8ce7", func := "conduit/conduitlaw13.LimitBounds", spec := "limitBounds", apart := false, narrowed := true }
def LimitBoundsUptoSaid : Prop := limitBoundsUptoRow.holds Try.pinned (OpenSpec.upto limitBoundsSpec)

/-- 'conduitlaw13.LimitMore', WHERE WHAT IT READS IS OF BULK AT MOST 1048576: true; the input reads as it did. -/
def limitMoreUptoRow : OpenClaim := { program := "ytcinjfafjekdlaa", sum := "3bc6fd185b06639b388c8da225b344f9b8373c6ce684b2c928fd89b3466a8ce7", func := "conduit/conduitlaw13.LimitMore", spec := "limitMore", apart := false, narrowed := true }
def LimitMoreUptoSaid : Prop := limitMoreUptoRow.holds Try.pinned (OpenSpec.upto limitMoreSpec)

/-- 'conduitlaw13.LimitFull', WHERE WHAT IT READS IS OF BULK AT MOST 1048576: true; the input reads as it did. -/
def limitFullUptoRow : OpenClaim := { program := "ytcinjfafjekdlaa", sum := "3bc6fd185b06639b388c8da225b344f9b8373c6ce684b2c928fd89b3466a8ce7", func := "conduit/conduitlaw13.LimitFull", spec := "limitFull", apart := false, narrowed := true }
def LimitFullUptoSaid : Prop := limitFullUptoRow.holds Try.pinned (OpenSpec.upto limitFullSpec)

/-- 'conduitlaw13.LimitWaits', WHERE WHAT IT READS IS OF BULK AT MOST 1048576: true; the input reads as it did. -/
def limitWaitsUptoRow : OpenClaim := { program := "ytcinjfafjekdlaa", sum := "3bc6fd185b06639b388c8da225b344f9b8373c6ce684b2c928fd89b3466a8ce7", func := "conduit/conduitlaw13.LimitWaits", spec := "limitWaits", apart := false, narrowed := true }
def LimitWaitsUptoSaid : Prop := limitWaitsUptoRow.holds Try.pinned (OpenSpec.upto limitWaitsSpec)

end Rows
end Go.Proofs.Ytcinjfafjekdlaa
