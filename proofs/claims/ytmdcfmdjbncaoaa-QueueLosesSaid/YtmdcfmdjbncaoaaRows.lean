/-
  NARROWER THAN 'FOR EVERY INPUT', by the rows' own cells (each row's printed sentence says how): RetryTells: loops · RetryRuns: loops · RetryMore: loops · QueuePuts: loops · QueueLoses: loops · QueueTakes: loops.
  DERIVED. THE GIVEN ROWS OF THIS SEAT. 7 by the template 'for every input the law returns true; each argument reads behind the call as it read before'; 0 by the template 'total and deterministic' (their statements: YtmdcfmdjbncaoaaTotals.lean).
  GIVEN WITH THE SEED: the statements are not yours to turn. If you find one false, say at which input.
  Laid BY PROGRAM, IN A SANDBOX (cutbox-rows.mjs): the forced cells as the released guide's own fill.sh prints them over the translation 40b9ce6f04bab314… (all of the seat's roots in one cut). By AI agents, Wed Nov 11 2026. No macro, syntax, notation, axiom, sorry.
-/
import Derived.Test.YtmdcfmdjbncaoaaChecked
import GoSem.Claim
import GoSem.ClaimJoined
import GoSem.ClaimMapViews
import Derived.JoinedTies
import Derived.KernelRfl
namespace Go.Proofs.Ytmdcfmdjbncaoaa
/- THE CELL 'sum', in the pinned program and in every row, IS THE sha256 OF THE DUMP (.gsa) THAT YtmdcfmdjbncaoaaProg.lean LOADS. Nothing in Lean hashes anything: it is a label: what it is worth is what the hold of that sum in a sandbox is worth. -/
noncomputable def Try.pinned : Pinned := { name := "ytmdcfmdjbncaoaa", sum := "40b9ce6f04bab3148b0d73f6f32b9a1903b6444f48289da4925800c1e865c976", checked := Try.checked }
namespace Rows
def none {H : Type} : Left H := { results := [], args := [] }

/-- 'conduitlaw12.RetryTells': WHATEVER THE INPUT: true; the input reads as it did. -/
def retryTellsSpec : ChangeSpec := { name := "retryTells", fn := fun _ => fun
  | [d] => { results := [.lit (.bool true)], args := [d] }
  | _ => none }
def retryTellsRow : OpenClaim := { program := "ytmdcfmdjbncaoaa", sum := "40b9ce6f04bab3148b0d73f6f32b9a1903b6444f48289da4925800c1e865c976", func := "conduit/conduitlaw12.RetryTells", spec := "retryTells", unfollowed := true, recurses := true, loops := true, apart := false }
def RetryTellsSaid : Prop := retryTellsRow.holds Try.pinned (OpenSpec.ofChange retryTellsSpec)

/-- ITS FALSE NEIGHBOUR: 'it returns false'. Refute it at one input. -/
def retryTellsWrong : ChangeSpec := { name := "retryTells", fn := fun _ => fun
  | [d] => { results := [.lit (.bool false)], args := [d] }
  | _ => none }
def RetryTellsWrongFalsely : Prop := retryTellsRow.holds Try.pinned (OpenSpec.ofChange retryTellsWrong)

/-- 'conduitlaw12.RetryRuns': WHATEVER THE INPUT: true; the input reads as it did. -/
def retryRunsSpec : ChangeSpec := { name := "retryRuns", fn := fun _ => fun
  | [d1, d2] => { results := [.lit (.bool true)], args := [d1, d2] }
  | _ => none }
def retryRunsRow : OpenClaim := { program := "ytmdcfmdjbncaoaa", sum := "40b9ce6f04bab3148b0d73f6f32b9a1903b6444f48289da4925800c1e865c976", func := "conduit/conduitlaw12.RetryRuns", spec := "retryRuns", unfollowed := true, recurses := true, loops := true, apart := false }
def RetryRunsSaid : Prop := retryRunsRow.holds Try.pinned (OpenSpec.ofChange retryRunsSpec)

/-- ITS FALSE NEIGHBOUR: 'it returns false'. Refute it at one input. -/
def retryRunsWrong : ChangeSpec := { name := "retryRuns", fn := fun _ => fun
  | [d1, d2] => { results := [.lit (.bool false)], args := [d1, d2] }
  | _ => none }
def RetryRunsWrongFalsely : Prop := retryRunsRow.holds Try.pinned (OpenSpec.ofChange retryRunsWrong)

/-- 'conduitlaw12.RetryMore': WHATEVER THE INPUT: true; the input reads as it did. -/
def retryMoreSpec : ChangeSpec := { name := "retryMore", fn := fun _ => fun
  | [d1, d2, d3, d4] => { results := [.lit (.bool true)], args := [d1, d2, d3, d4] }
  | _ => none }
def retryMoreRow : OpenClaim := { program := "ytmdcfmdjbncaoaa", sum := "40b9ce6f04bab3148b0d73f6f32b9a1903b6444f48289da4925800c1e865c976", func := "conduit/conduitlaw12.RetryMore", spec := "retryMore", unfollowed := true, recurses := true, loops := true, apart := false }
def RetryMoreSaid : Prop := retryMoreRow.holds Try.pinned (OpenSpec.ofChange retryMoreSpec)

/-- ITS FALSE NEIGHBOUR: 'it returns false'. Refute it at one input. -/
def retryMoreWrong : ChangeSpec := { name := "retryMore", fn := fun _ => fun
  | [d1, d2, d3, d4] => { results := [.lit (.bool false)], args := [d1, d2, d3, d4] }
  | _ => none }
def RetryMoreWrongFalsely : Prop := retryMoreRow.holds Try.pinned (OpenSpec.ofChange retryMoreWrong)

/-- 'conduitlaw12.RetryWaits': WHATEVER THE INPUT: true; the input reads as it did. -/
def retryWaitsSpec : ChangeSpec := { name := "retryWaits", fn := fun _ => fun
  | [d1, d2, d3] => { results := [.lit (.bool true)], args := [d1, d2, d3] }
  | _ => none }
def retryWaitsRow : OpenClaim := { program := "ytmdcfmdjbncaoaa", sum := "40b9ce6f04bab3148b0d73f6f32b9a1903b6444f48289da4925800c1e865c976", func := "conduit/conduitlaw12.RetryWaits", spec := "retryWaits", unfollowed := true, recurses := true, apart := false }
def RetryWaitsSaid : Prop := retryWaitsRow.holds Try.pinned (OpenSpec.ofChange retryWaitsSpec)

/-- ITS FALSE NEIGHBOUR: 'it returns false'. Refute it at one input. -/
def retryWaitsWrong : ChangeSpec := { name := "retryWaits", fn := fun _ => fun
  | [d1, d2, d3] => { results := [.lit (.bool false)], args := [d1, d2, d3] }
  | _ => none }
def RetryWaitsWrongFalsely : Prop := retryWaitsRow.holds Try.pinned (OpenSpec.ofChange retryWaitsWrong)

/-- 'conduitlaw19.QueuePuts': WHATEVER THE INPUT: true; the input reads as it did. -/
def queuePutsSpec : ChangeSpec := { name := "queuePuts", fn := fun _ => fun
  | [d1, d2, d3, d4] => { results := [.lit (.bool true)], args := [d1, d2, d3, d4] }
  | _ => none }
def queuePutsRow : OpenClaim := { program := "ytmdcfmdjbncaoaa", sum := "40b9ce6f04bab3148b0d73f6f32b9a1903b6444f48289da4925800c1e865c976", func := "conduit/conduitlaw19.QueuePuts", spec := "queuePuts", unfollowed := true, recurses := true, loops := true, apart := false }
def QueuePutsSaid : Prop := queuePutsRow.holds Try.pinned (OpenSpec.ofChange queuePutsSpec)

/-- ITS FALSE NEIGHBOUR: 'it returns false'. Refute it at one input. -/
def queuePutsWrong : ChangeSpec := { name := "queuePuts", fn := fun _ => fun
  | [d1, d2, d3, d4] => { results := [.lit (.bool false)], args := [d1, d2, d3, d4] }
  | _ => none }
def QueuePutsWrongFalsely : Prop := queuePutsRow.holds Try.pinned (OpenSpec.ofChange queuePutsWrong)

/-- 'conduitlaw19.QueueLoses': WHATEVER THE INPUT: true; the input reads as it did. -/
def queueLosesSpec : ChangeSpec := { name := "queueLoses", fn := fun _ => fun
  | [d1, d2, d3, d4] => { results := [.lit (.bool true)], args := [d1, d2, d3, d4] }
  | _ => none }
def queueLosesRow : OpenClaim := { program := "ytmdcfmdjbncaoaa", sum := "40b9ce6f04bab3148b0d73f6f32b9a1903b6444f48289da4925800c1e865c976", func := "conduit/conduitlaw19.QueueLoses", spec := "queueLoses", unfollowed := true, recurses := true, loops := true, apart := false }
def QueueLosesSaid : Prop := queueLosesRow.holds Try.pinned (OpenSpec.ofChange queueLosesSpec)

/-- ITS FALSE NEIGHBOUR: 'it returns false'. Refute it at one input. -/
def queueLosesWrong : ChangeSpec := { name := "queueLoses", fn := fun _ => fun
  | [d1, d2, d3, d4] => { results := [.lit (.bool false)], args := [d1, d2, d3, d4] }
  | _ => none }
def QueueLosesWrongFalsely : Prop := queueLosesRow.holds Try.pinned (OpenSpec.ofChange queueLosesWrong)

/-- 'conduitlaw19.QueueTakes': WHATEVER THE INPUT: true; the input reads as it did. -/
def queueTakesSpec : ChangeSpec := { name := "queueTakes", fn := fun _ => fun
  | [d1, d2] => { results := [.lit (.bool true)], args := [d1, d2] }
  | _ => none }
def queueTakesRow : OpenClaim := { program := "ytmdcfmdjbncaoaa", sum := "40b9ce6f04bab3148b0d73f6f32b9a1903b6444f48289da4925800c1e865c976", func := "conduit/conduitlaw19.QueueTakes", spec := "queueTakes", unfollowed := true, recurses := true, loops := true, apart := false }
def QueueTakesSaid : Prop := queueTakesRow.holds Try.pinned (OpenSpec.ofChange queueTakesSpec)

/-- ITS FALSE NEIGHBOUR: 'it returns false'. Refute it at one input. -/
def queueTakesWrong : ChangeSpec := { name := "queueTakes", fn := fun _ => fun
  | [d1, d2] => { results := [.lit (.bool false)], args := [d1, d2] }
  | _ => none }
def QueueTakesWrongFalsely : Prop := queueTakesRow.holds Try.pinned (OpenSpec.ofChange queueTakesWrong)

/- THE SECOND FORM. 'bulk': how many values and letters a reading holds, each counted each time it is reached (what is shared counts as often as it is met; a slice's spare places count too). A statement '..UptoSaid' is the law's where the arguments, and the package variables that the reading takes, are together of bulk at most 1048576: NARROWER than '..Said'. Prove '..Said' where nothing that the law and all that it calls make is longer than what came in: it says more and counts as full. Else prove '..UptoSaid'. A law counts once. -/
mutual
def uptoBulk {H : Type} : DataW H → Nat
  | .lit (.string bytes) => bytes.length + 1
  | .lit _ => 1
  | .nil => 1
  | .ptr d => uptoBulk d + 1
  | .slice elems spare => uptoBulkAll elems + uptoBulkAll spare + 1
  | .agg parts => uptoBulkAll parts + 1
  | .iface _ d => uptoBulk d + 1
  | .map entries => uptoBulkEntries entries + 1
  | .held _ => 1
def uptoBulkAll {H : Type} : List (DataW H) → Nat
  | [] => 0
  | d :: r => uptoBulk d + uptoBulkAll r
def uptoBulkEntries {H : Type} : List (Lit × DataW H) → Nat
  | [] => 0
  | x :: r => uptoBulkEntry x + uptoBulkEntries r
def uptoBulkEntry {H : Type} : Lit × DataW H → Nat
  | (.string bytes, d) => bytes.length + uptoBulk d + 1
  | (_, d) => uptoBulk d + 1
 end
def uptoSmall : (H : Type) → List (DataW H) → Bool := fun _ ds => decide (uptoBulkAll ds ≤ 1048576)
def OpenSpec.upto (s : _root_.Go.ChangeSpec) : _root_.Go.OpenSpec := { _root_.Go.OpenSpec.ofChange s with cond := some uptoSmall }

/-- 'conduitlaw12.RetryTells', WHERE WHAT IT READS IS OF BULK AT MOST 1048576: true; the input reads as it did. -/
def retryTellsUptoRow : OpenClaim := { program := "ytmdcfmdjbncaoaa", sum := "40b9ce6f04bab3148b0d73f6f32b9a1903b6444f48289da4925800c1e865c976", func := "conduit/conduitlaw12.RetryTells", spec := "retryTells", unfollowed := true, recurses := true, loops := true, apart := false, narrowed := true }
def RetryTellsUptoSaid : Prop := retryTellsUptoRow.holds Try.pinned (OpenSpec.upto retryTellsSpec)

/-- 'conduitlaw12.RetryRuns', WHERE WHAT IT READS IS OF BULK AT MOST 1048576: true; the input reads as it did. -/
def retryRunsUptoRow : OpenClaim := { program := "ytmdcfmdjbncaoaa", sum := "40b9ce6f04bab3148b0d73f6f32b9a1903b6444f48289da4925800c1e865c976", func := "conduit/conduitlaw12.RetryRuns", spec := "retryRuns", unfollowed := true, recurses := true, loops := true, apart := false, narrowed := true }
def RetryRunsUptoSaid : Prop := retryRunsUptoRow.holds Try.pinned (OpenSpec.upto retryRunsSpec)

/-- 'conduitlaw12.RetryMore', WHERE WHAT IT READS IS OF BULK AT MOST 1048576: true; the input reads as it did. -/
def retryMoreUptoRow : OpenClaim := { program := "ytmdcfmdjbncaoaa", sum := "40b9ce6f04bab3148b0d73f6f32b9a1903b6444f48289da4925800c1e865c976", func := "conduit/conduitlaw12.RetryMore", spec := "retryMore", unfollowed := true, recurses := true, loops := true, apart := false, narrowed := true }
def RetryMoreUptoSaid : Prop := retryMoreUptoRow.holds Try.pinned (OpenSpec.upto retryMoreSpec)

/-- 'conduitlaw12.RetryWaits', WHERE WHAT IT READS IS OF BULK AT MOST 1048576: true; the input reads as it did. -/
def retryWaitsUptoRow : OpenClaim := { program := "ytmdcfmdjbncaoaa", sum := "40b9ce6f04bab3148b0d73f6f32b9a1903b6444f48289da4925800c1e865c976", func := "conduit/conduitlaw12.RetryWaits", spec := "retryWaits", unfollowed := true, recurses := true, apart := false, narrowed := true }
def RetryWaitsUptoSaid : Prop := retryWaitsUptoRow.holds Try.pinned (OpenSpec.upto retryWaitsSpec)

/-- 'conduitlaw19.QueuePuts', WHERE WHAT IT READS IS OF BULK AT MOST 1048576: true; the input reads as it did. -/
def queuePutsUptoRow : OpenClaim := { program := "ytmdcfmdjbncaoaa", sum := "40b9ce6f04bab3148b0d73f6f32b9a1903b6444f48289da4925800c1e865c976", func := "conduit/conduitlaw19.QueuePuts", spec := "queuePuts", unfollowed := true, recurses := true, loops := true, apart := false, narrowed := true }
def QueuePutsUptoSaid : Prop := queuePutsUptoRow.holds Try.pinned (OpenSpec.upto queuePutsSpec)

/-- 'conduitlaw19.QueueLoses', WHERE WHAT IT READS IS OF BULK AT MOST 1048576: true; the input reads as it did. -/
def queueLosesUptoRow : OpenClaim := { program := "ytmdcfmdjbncaoaa", sum := "40b9ce6f04bab3148b0d73f6f32b9a1903b6444f48289da4925800c1e865c976", func := "conduit/conduitlaw19.QueueLoses", spec := "queueLoses", unfollowed := true, recurses := true, loops := true, apart := false, narrowed := true }
def QueueLosesUptoSaid : Prop := queueLosesUptoRow.holds Try.pinned (OpenSpec.upto queueLosesSpec)

/-- 'conduitlaw19.QueueTakes', WHERE WHAT IT READS IS OF BULK AT MOST 1048576: true; the input reads as it did. -/
def queueTakesUptoRow : OpenClaim := { program := "ytmdcfmdjbncaoaa", sum := "40b9ce6f04bab3148b0d73f6f32b9a1903b6444f48289da4925800c1e865c976", func := "conduit/conduitlaw19.QueueTakes", spec := "queueTakes", unfollowed := true, recurses := true, loops := true, apart := false, narrowed := true }
def QueueTakesUptoSaid : Prop := queueTakesUptoRow.holds Try.pinned (OpenSpec.upto queueTakesSpec)

end Rows
end Go.Proofs.Ytmdcfmdjbncaoaa
