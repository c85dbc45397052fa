/-
  NARROWER THAN 'FOR EVERY INPUT', by the rows' own cells (each row's printed sentence says how): ShownMasks: loops · ShownGrows: loops · ShownWho: loops · ShownThrough: loops · ShownExactly: loops · ShownLevels: loops.
  DERIVED. THE GIVEN ROWS OF THIS SEAT. 6 by the template 'for every input the law returns true; each argument reads behind the call as it read before'; 0 by the template 'total and deterministic' (their statements: YtlnlefebcfnocaaTotals.lean).
  GIVEN WITH THE SEED: the statements are not yours to turn. If you find one false, say at which input.
  Laid BY PROGRAM, IN A SANDBOX (cutbox-rows.mjs): the forced cells as the released guide's own fill.sh prints them over the translation bc8d6148083712bf… (all of the seat's roots in one cut). By AI agents, Wed Nov 11 2026. No macro, syntax, notation, axiom, sorry.
-/
import Derived.Test.YtlnlefebcfnocaaChecked
import GoSem.Claim
import GoSem.ClaimJoined
import GoSem.ClaimMapViews
import Derived.JoinedTies
import Derived.KernelRfl
namespace Go.Proofs.Ytlnlefebcfnocaa
/- THE CELL 'sum', in the pinned program and in every row, IS THE sha256 OF THE DUMP (.gsa) THAT YtlnlefebcfnocaaProg.lean LOADS. Nothing in Lean hashes anything: it is a label: what it is worth is what the hold of that sum in a sandbox is worth. -/
noncomputable def Try.pinned : Pinned := { name := "ytlnlefebcfnocaa", sum := "bc8d6148083712bfc727d785e68598b1798791106a2daed5df3f9606b4806b3f", checked := Try.checked }
namespace Rows
def none {H : Type} : Left H := { results := [], args := [] }

/-- 'conduitlaw09.ShownMasks': WHATEVER THE INPUT: true; the input reads as it did. -/
def shownMasksSpec : ChangeSpec := { name := "shownMasks", fn := fun _ => fun
  | [d1, d2, d3] => { results := [.lit (.bool true)], args := [d1, d2, d3] }
  | _ => none }
def shownMasksRow : OpenClaim := { program := "ytlnlefebcfnocaa", sum := "bc8d6148083712bfc727d785e68598b1798791106a2daed5df3f9606b4806b3f", func := "conduit/conduitlaw09.ShownMasks", spec := "shownMasks", unfollowed := true, recurses := true, loops := true, apart := false }
def ShownMasksSaid : Prop := shownMasksRow.holds Try.pinned (OpenSpec.ofChange shownMasksSpec)

/-- ITS FALSE NEIGHBOUR: 'it returns false'. Refute it at one input. -/
def shownMasksWrong : ChangeSpec := { name := "shownMasks", fn := fun _ => fun
  | [d1, d2, d3] => { results := [.lit (.bool false)], args := [d1, d2, d3] }
  | _ => none }
def ShownMasksWrongFalsely : Prop := shownMasksRow.holds Try.pinned (OpenSpec.ofChange shownMasksWrong)

/-- 'conduitlaw09.ShownGrows': WHATEVER THE INPUT: true; the input reads as it did. -/
def shownGrowsSpec : ChangeSpec := { name := "shownGrows", fn := fun _ => fun
  | [d1, d2] => { results := [.lit (.bool true)], args := [d1, d2] }
  | _ => none }
def shownGrowsRow : OpenClaim := { program := "ytlnlefebcfnocaa", sum := "bc8d6148083712bfc727d785e68598b1798791106a2daed5df3f9606b4806b3f", func := "conduit/conduitlaw09.ShownGrows", spec := "shownGrows", unfollowed := true, recurses := true, loops := true, apart := false }
def ShownGrowsSaid : Prop := shownGrowsRow.holds Try.pinned (OpenSpec.ofChange shownGrowsSpec)

/-- ITS FALSE NEIGHBOUR: 'it returns false'. Refute it at one input. -/
def shownGrowsWrong : ChangeSpec := { name := "shownGrows", fn := fun _ => fun
  | [d1, d2] => { results := [.lit (.bool false)], args := [d1, d2] }
  | _ => none }
def ShownGrowsWrongFalsely : Prop := shownGrowsRow.holds Try.pinned (OpenSpec.ofChange shownGrowsWrong)

/-- 'conduitlaw09.ShownWho': WHATEVER THE INPUT: true; the input reads as it did. -/
def shownWhoSpec : ChangeSpec := { name := "shownWho", fn := fun _ => fun
  | [d1, d2] => { results := [.lit (.bool true)], args := [d1, d2] }
  | _ => none }
def shownWhoRow : OpenClaim := { program := "ytlnlefebcfnocaa", sum := "bc8d6148083712bfc727d785e68598b1798791106a2daed5df3f9606b4806b3f", func := "conduit/conduitlaw09.ShownWho", spec := "shownWho", unfollowed := true, recurses := true, loops := true, apart := false }
def ShownWhoSaid : Prop := shownWhoRow.holds Try.pinned (OpenSpec.ofChange shownWhoSpec)

/-- ITS FALSE NEIGHBOUR: 'it returns false'. Refute it at one input. -/
def shownWhoWrong : ChangeSpec := { name := "shownWho", fn := fun _ => fun
  | [d1, d2] => { results := [.lit (.bool false)], args := [d1, d2] }
  | _ => none }
def ShownWhoWrongFalsely : Prop := shownWhoRow.holds Try.pinned (OpenSpec.ofChange shownWhoWrong)

/-- 'conduitlaw09.ShownThrough': WHATEVER THE INPUT: true; the input reads as it did. -/
def shownThroughSpec : ChangeSpec := { name := "shownThrough", fn := fun _ => fun
  | [d1, d2] => { results := [.lit (.bool true)], args := [d1, d2] }
  | _ => none }
def shownThroughRow : OpenClaim := { program := "ytlnlefebcfnocaa", sum := "bc8d6148083712bfc727d785e68598b1798791106a2daed5df3f9606b4806b3f", func := "conduit/conduitlaw09.ShownThrough", spec := "shownThrough", unfollowed := true, recurses := true, loops := true, apart := false }
def ShownThroughSaid : Prop := shownThroughRow.holds Try.pinned (OpenSpec.ofChange shownThroughSpec)

/-- ITS FALSE NEIGHBOUR: 'it returns false'. Refute it at one input. -/
def shownThroughWrong : ChangeSpec := { name := "shownThrough", fn := fun _ => fun
  | [d1, d2] => { results := [.lit (.bool false)], args := [d1, d2] }
  | _ => none }
def ShownThroughWrongFalsely : Prop := shownThroughRow.holds Try.pinned (OpenSpec.ofChange shownThroughWrong)

/-- 'conduitlaw09.ShownExactly': WHATEVER THE INPUT: true; the input reads as it did. -/
def shownExactlySpec : ChangeSpec := { name := "shownExactly", fn := fun _ => fun
  | [d] => { results := [.lit (.bool true)], args := [d] }
  | _ => none }
def shownExactlyRow : OpenClaim := { program := "ytlnlefebcfnocaa", sum := "bc8d6148083712bfc727d785e68598b1798791106a2daed5df3f9606b4806b3f", func := "conduit/conduitlaw09.ShownExactly", spec := "shownExactly", unfollowed := true, recurses := true, loops := true, apart := false }
def ShownExactlySaid : Prop := shownExactlyRow.holds Try.pinned (OpenSpec.ofChange shownExactlySpec)

/-- ITS FALSE NEIGHBOUR: 'it returns false'. Refute it at one input. -/
def shownExactlyWrong : ChangeSpec := { name := "shownExactly", fn := fun _ => fun
  | [d] => { results := [.lit (.bool false)], args := [d] }
  | _ => none }
def ShownExactlyWrongFalsely : Prop := shownExactlyRow.holds Try.pinned (OpenSpec.ofChange shownExactlyWrong)

/-- 'conduitlaw09.ShownLevels': WHATEVER THE INPUT: true; the input reads as it did. -/
def shownLevelsSpec : ChangeSpec := { name := "shownLevels", fn := fun _ => fun
  | [d] => { results := [.lit (.bool true)], args := [d] }
  | _ => none }
def shownLevelsRow : OpenClaim := { program := "ytlnlefebcfnocaa", sum := "bc8d6148083712bfc727d785e68598b1798791106a2daed5df3f9606b4806b3f", func := "conduit/conduitlaw09.ShownLevels", spec := "shownLevels", unfollowed := true, recurses := true, loops := true, apart := false }
def ShownLevelsSaid : Prop := shownLevelsRow.holds Try.pinned (OpenSpec.ofChange shownLevelsSpec)

/-- ITS FALSE NEIGHBOUR: 'it returns false'. Refute it at one input. -/
def shownLevelsWrong : ChangeSpec := { name := "shownLevels", fn := fun _ => fun
  | [d] => { results := [.lit (.bool false)], args := [d] }
  | _ => none }
def ShownLevelsWrongFalsely : Prop := shownLevelsRow.holds Try.pinned (OpenSpec.ofChange shownLevelsWrong)

/- THE SECOND FORM. 'bulk': how many values and letters a reading holds, each counted each time it is reached (what is shared counts as often as it is met; a slice's spare places count too). A statement '..UptoSaid' is the law's where the arguments, and the package variables that the reading takes, are together of bulk at most 1048576: NARROWER than '..Said'. Prove '..Said' where nothing that the law and all that it calls make is longer than what came in: it says more and counts as full. Else prove '..UptoSaid'. A law counts once. -/
mutual
def uptoBulk {H : Type} : DataW H → Nat
  | .lit (.string bytes) => bytes.length + 1
  | .lit _ => 1
  | .nil => 1
  | .ptr d => uptoBulk d + 1
  | .slice elems spare => uptoBulkAll elems + uptoBulkAll spare + 1
  | .agg parts => uptoBulkAll parts + 1
  | .iface _ d => uptoBulk d + 1
  | .map entries => uptoBulkEntries entries + 1
  | .held _ => 1
def uptoBulkAll {H : Type} : List (DataW H) → Nat
  | [] => 0
  | d :: r => uptoBulk d + uptoBulkAll r
def uptoBulkEntries {H : Type} : List (Lit × DataW H) → Nat
  | [] => 0
  | x :: r => uptoBulkEntry x + uptoBulkEntries r
def uptoBulkEntry {H : Type} : Lit × DataW H → Nat
  | (.string bytes, d) => bytes.length + uptoBulk d + 1
  | (_, d) => uptoBulk d + 1
 end
def uptoSmall : (H : Type) → List (DataW H) → Bool := fun _ ds => decide (uptoBulkAll ds ≤ 1048576)
def OpenSpec.upto (s : _root_.Go.ChangeSpec) : _root_.Go.OpenSpec := { _root_.Go.OpenSpec.ofChange s with cond := some uptoSmall }

/-- 'conduitlaw09.ShownMasks', WHERE WHAT IT READS IS OF BULK AT MOST 1048576: true; the input reads as it did. -/
def shownMasksUptoRow : OpenClaim := { program := "ytlnlefebcfnocaa", sum := "bc8d6148083712bfc727d785e68598b1798791106a2daed5df3f9606b4806b3f", func := "conduit/conduitlaw09.ShownMasks", spec := "shownMasks", unfollowed := true, recurses := true, loops := true, apart := false, narrowed := true }
def ShownMasksUptoSaid : Prop := shownMasksUptoRow.holds Try.pinned (OpenSpec.upto shownMasksSpec)

/-- 'conduitlaw09.ShownGrows', WHERE WHAT IT READS IS OF BULK AT MOST 1048576: true; the input reads as it did. -/
def shownGrowsUptoRow : OpenClaim := { program := "ytlnlefebcfnocaa", sum := "bc8d6148083712bfc727d785e68598b1798791106a2daed5df3f9606b4806b3f", func := "conduit/conduitlaw09.ShownGrows", spec := "shownGrows", unfollowed := true, recurses := true, loops := true, apart := false, narrowed := true }
def ShownGrowsUptoSaid : Prop := shownGrowsUptoRow.holds Try.pinned (OpenSpec.upto shownGrowsSpec)

/-- 'conduitlaw09.ShownWho', WHERE WHAT IT READS IS OF BULK AT MOST 1048576: true; the input reads as it did. -/
def shownWhoUptoRow : OpenClaim := { program := "ytlnlefebcfnocaa", sum := "bc8d6148083712bfc727d785e68598b1798791106a2daed5df3f9606b4806b3f", func := "conduit/conduitlaw09.ShownWho", spec := "shownWho", unfollowed := true, recurses := true, loops := true, apart := false, narrowed := true }
def ShownWhoUptoSaid : Prop := shownWhoUptoRow.holds Try.pinned (OpenSpec.upto shownWhoSpec)

/-- 'conduitlaw09.ShownThrough', WHERE WHAT IT READS IS OF BULK AT MOST 1048576: true; the input reads as it did. -/
def shownThroughUptoRow : OpenClaim := { program := "ytlnlefebcfnocaa", sum := "bc8d6148083712bfc727d785e68598b1798791106a2daed5df3f9606b4806b3f", func := "conduit/conduitlaw09.ShownThrough", spec := "shownThrough", unfollowed := true, recurses := true, loops := true, apart := false, narrowed := true }
def ShownThroughUptoSaid : Prop := shownThroughUptoRow.holds Try.pinned (OpenSpec.upto shownThroughSpec)

/-- 'conduitlaw09.ShownExactly', WHERE WHAT IT READS IS OF BULK AT MOST 1048576: true; the input reads as it did. -/
def shownExactlyUptoRow : OpenClaim := { program := "ytlnlefebcfnocaa", sum := "bc8d6148083712bfc727d785e68598b1798791106a2daed5df3f9606b4806b3f", func := "conduit/conduitlaw09.ShownExactly", spec := "shownExactly", unfollowed := true, recurses := true, loops := true, apart := false, narrowed := true }
def ShownExactlyUptoSaid : Prop := shownExactlyUptoRow.holds Try.pinned (OpenSpec.upto shownExactlySpec)

/-- 'conduitlaw09.ShownLevels', WHERE WHAT IT READS IS OF BULK AT MOST 1048576: true; the input reads as it did. -/
def shownLevelsUptoRow : OpenClaim := { program := "ytlnlefebcfnocaa", sum := "bc8d6148083712bfc727d785e68598b1798791106a2daed5df3f9606b4806b3f", func := "conduit/conduitlaw09.ShownLevels", spec := "shownLevels", unfollowed := true, recurses := true, loops := true, apart := false, narrowed := true }
def ShownLevelsUptoSaid : Prop := shownLevelsUptoRow.holds Try.pinned (OpenSpec.upto shownLevelsSpec)

end Rows
end Go.Proofs.Ytlnlefebcfnocaa
