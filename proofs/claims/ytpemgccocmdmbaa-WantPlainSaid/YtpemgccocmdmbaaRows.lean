/-
  NARROWER THAN 'FOR EVERY INPUT', by the rows' own cells (each row's printed sentence says how): WantFits: loops · WantHolds: loops · WantFirst: loops · WantCovers: loops · WantSets: loops · WantAsserts: loops · WantPlain: loops · WantAsks: loops.
  DERIVED. THE GIVEN ROWS OF THIS SEAT. 9 by the template 'for every input the law returns true; each argument reads behind the call as it read before'; 0 by the template 'total and deterministic' (their statements: YtpemgccocmdmbaaTotals.lean).
  GIVEN WITH THE SEED: the statements are not yours to turn. If you find one false, say at which input.
  Laid BY PROGRAM, IN A SANDBOX (cutbox-rows.mjs): the forced cells as the released guide's own fill.sh prints them over the translation b5f2f6f746ee0e33… (all of the seat's roots in one cut). By AI agents, Wed Nov 11 2026. No macro, syntax, notation, axiom, sorry.
-/
import Derived.Test.YtpemgccocmdmbaaChecked
import GoSem.Claim
import GoSem.ClaimJoined
import GoSem.ClaimMapViews
import Derived.JoinedTies
import Derived.KernelRfl
namespace Go.Proofs.Ytpemgccocmdmbaa
/- THE CELL 'sum', in the pinned program and in every row, IS THE sha256 OF THE DUMP (.gsa) THAT YtpemgccocmdmbaaProg.lean LOADS. Nothing in Lean hashes anything: it is a label: what it is worth is what the hold of that sum in a sandbox is worth. -/
noncomputable def Try.pinned : Pinned := { name := "ytpemgccocmdmbaa", sum := "b5f2f6f746ee0e336386b18d7d499439ccc90f158c9ec6d97059f0a21d815d02", checked := Try.checked }
namespace Rows
def none {H : Type} : Left H := { results := [], args := [] }

/-- 'conduitlaw02.WantFits': WHATEVER THE INPUT: true; the input reads as it did. -/
def wantFitsSpec : ChangeSpec := { name := "wantFits", fn := fun _ => fun
  | [d] => { results := [.lit (.bool true)], args := [d] }
  | _ => none }
def wantFitsRow : OpenClaim := { program := "ytpemgccocmdmbaa", sum := "b5f2f6f746ee0e336386b18d7d499439ccc90f158c9ec6d97059f0a21d815d02", func := "conduit/conduitlaw02.WantFits", spec := "wantFits", unfollowed := true, recurses := true, loops := true, apart := false }
def WantFitsSaid : Prop := wantFitsRow.holds Try.pinned (OpenSpec.ofChange wantFitsSpec)

/-- ITS FALSE NEIGHBOUR: 'it returns false'. Refute it at one input. -/
def wantFitsWrong : ChangeSpec := { name := "wantFits", fn := fun _ => fun
  | [d] => { results := [.lit (.bool false)], args := [d] }
  | _ => none }
def WantFitsWrongFalsely : Prop := wantFitsRow.holds Try.pinned (OpenSpec.ofChange wantFitsWrong)

/-- 'conduitlaw02.WantHolds': WHATEVER THE INPUT: true; the input reads as it did. -/
def wantHoldsSpec : ChangeSpec := { name := "wantHolds", fn := fun _ => fun
  | [d1, d2] => { results := [.lit (.bool true)], args := [d1, d2] }
  | _ => none }
def wantHoldsRow : OpenClaim := { program := "ytpemgccocmdmbaa", sum := "b5f2f6f746ee0e336386b18d7d499439ccc90f158c9ec6d97059f0a21d815d02", func := "conduit/conduitlaw02.WantHolds", spec := "wantHolds", unfollowed := true, recurses := true, loops := true, apart := false }
def WantHoldsSaid : Prop := wantHoldsRow.holds Try.pinned (OpenSpec.ofChange wantHoldsSpec)

/-- ITS FALSE NEIGHBOUR: 'it returns false'. Refute it at one input. -/
def wantHoldsWrong : ChangeSpec := { name := "wantHolds", fn := fun _ => fun
  | [d1, d2] => { results := [.lit (.bool false)], args := [d1, d2] }
  | _ => none }
def WantHoldsWrongFalsely : Prop := wantHoldsRow.holds Try.pinned (OpenSpec.ofChange wantHoldsWrong)

/-- 'conduitlaw02.WantFirst': WHATEVER THE INPUT: true; the input reads as it did. -/
def wantFirstSpec : ChangeSpec := { name := "wantFirst", fn := fun _ => fun
  | [d1, d2] => { results := [.lit (.bool true)], args := [d1, d2] }
  | _ => none }
def wantFirstRow : OpenClaim := { program := "ytpemgccocmdmbaa", sum := "b5f2f6f746ee0e336386b18d7d499439ccc90f158c9ec6d97059f0a21d815d02", func := "conduit/conduitlaw02.WantFirst", spec := "wantFirst", unfollowed := true, recurses := true, loops := true, apart := false }
def WantFirstSaid : Prop := wantFirstRow.holds Try.pinned (OpenSpec.ofChange wantFirstSpec)

/-- ITS FALSE NEIGHBOUR: 'it returns false'. Refute it at one input. -/
def wantFirstWrong : ChangeSpec := { name := "wantFirst", fn := fun _ => fun
  | [d1, d2] => { results := [.lit (.bool false)], args := [d1, d2] }
  | _ => none }
def WantFirstWrongFalsely : Prop := wantFirstRow.holds Try.pinned (OpenSpec.ofChange wantFirstWrong)

/-- 'conduitlaw02.WantCovers': WHATEVER THE INPUT: true; the input reads as it did. -/
def wantCoversSpec : ChangeSpec := { name := "wantCovers", fn := fun _ => fun
  | [d1, d2] => { results := [.lit (.bool true)], args := [d1, d2] }
  | _ => none }
def wantCoversRow : OpenClaim := { program := "ytpemgccocmdmbaa", sum := "b5f2f6f746ee0e336386b18d7d499439ccc90f158c9ec6d97059f0a21d815d02", func := "conduit/conduitlaw02.WantCovers", spec := "wantCovers", unfollowed := true, recurses := true, loops := true, apart := false }
def WantCoversSaid : Prop := wantCoversRow.holds Try.pinned (OpenSpec.ofChange wantCoversSpec)

/-- ITS FALSE NEIGHBOUR: 'it returns false'. Refute it at one input. -/
def wantCoversWrong : ChangeSpec := { name := "wantCovers", fn := fun _ => fun
  | [d1, d2] => { results := [.lit (.bool false)], args := [d1, d2] }
  | _ => none }
def WantCoversWrongFalsely : Prop := wantCoversRow.holds Try.pinned (OpenSpec.ofChange wantCoversWrong)

/-- 'conduitlaw02.WantSets': WHATEVER THE INPUT: true; the input reads as it did. -/
def wantSetsSpec : ChangeSpec := { name := "wantSets", fn := fun _ => fun
  | [d1, d2] => { results := [.lit (.bool true)], args := [d1, d2] }
  | _ => none }
def wantSetsRow : OpenClaim := { program := "ytpemgccocmdmbaa", sum := "b5f2f6f746ee0e336386b18d7d499439ccc90f158c9ec6d97059f0a21d815d02", func := "conduit/conduitlaw02.WantSets", spec := "wantSets", unfollowed := true, recurses := true, loops := true, apart := false }
def WantSetsSaid : Prop := wantSetsRow.holds Try.pinned (OpenSpec.ofChange wantSetsSpec)

/-- ITS FALSE NEIGHBOUR: 'it returns false'. Refute it at one input. -/
def wantSetsWrong : ChangeSpec := { name := "wantSets", fn := fun _ => fun
  | [d1, d2] => { results := [.lit (.bool false)], args := [d1, d2] }
  | _ => none }
def WantSetsWrongFalsely : Prop := wantSetsRow.holds Try.pinned (OpenSpec.ofChange wantSetsWrong)

/-- 'conduitlaw02.WantAsserts': WHATEVER THE INPUT: true; the input reads as it did. -/
def wantAssertsSpec : ChangeSpec := { name := "wantAsserts", fn := fun _ => fun
  | [d1, d2] => { results := [.lit (.bool true)], args := [d1, d2] }
  | _ => none }
def wantAssertsRow : OpenClaim := { program := "ytpemgccocmdmbaa", sum := "b5f2f6f746ee0e336386b18d7d499439ccc90f158c9ec6d97059f0a21d815d02", func := "conduit/conduitlaw02.WantAsserts", spec := "wantAsserts", unfollowed := true, recurses := true, loops := true, apart := false }
def WantAssertsSaid : Prop := wantAssertsRow.holds Try.pinned (OpenSpec.ofChange wantAssertsSpec)

/-- ITS FALSE NEIGHBOUR: 'it returns false'. Refute it at one input. -/
def wantAssertsWrong : ChangeSpec := { name := "wantAsserts", fn := fun _ => fun
  | [d1, d2] => { results := [.lit (.bool false)], args := [d1, d2] }
  | _ => none }
def WantAssertsWrongFalsely : Prop := wantAssertsRow.holds Try.pinned (OpenSpec.ofChange wantAssertsWrong)

/-- 'conduitlaw02.WantFaces': WHATEVER THE INPUT: true; the input reads as it did. -/
def wantFacesSpec : ChangeSpec := { name := "wantFaces", fn := fun _ => fun
  | [d1, d2] => { results := [.lit (.bool true)], args := [d1, d2] }
  | _ => none }
def wantFacesRow : OpenClaim := { program := "ytpemgccocmdmbaa", sum := "b5f2f6f746ee0e336386b18d7d499439ccc90f158c9ec6d97059f0a21d815d02", func := "conduit/conduitlaw02.WantFaces", spec := "wantFaces", unfollowed := true, recurses := true, apart := false }
def WantFacesSaid : Prop := wantFacesRow.holds Try.pinned (OpenSpec.ofChange wantFacesSpec)

/-- ITS FALSE NEIGHBOUR: 'it returns false'. Refute it at one input. -/
def wantFacesWrong : ChangeSpec := { name := "wantFaces", fn := fun _ => fun
  | [d1, d2] => { results := [.lit (.bool false)], args := [d1, d2] }
  | _ => none }
def WantFacesWrongFalsely : Prop := wantFacesRow.holds Try.pinned (OpenSpec.ofChange wantFacesWrong)

/-- 'conduitlaw02.WantPlain': WHATEVER THE INPUT: true; the input reads as it did. -/
def wantPlainSpec : ChangeSpec := { name := "wantPlain", fn := fun _ => fun
  | [d] => { results := [.lit (.bool true)], args := [d] }
  | _ => none }
def wantPlainRow : OpenClaim := { program := "ytpemgccocmdmbaa", sum := "b5f2f6f746ee0e336386b18d7d499439ccc90f158c9ec6d97059f0a21d815d02", func := "conduit/conduitlaw02.WantPlain", spec := "wantPlain", unfollowed := true, recurses := true, loops := true, apart := false }
def WantPlainSaid : Prop := wantPlainRow.holds Try.pinned (OpenSpec.ofChange wantPlainSpec)

/-- ITS FALSE NEIGHBOUR: 'it returns false'. Refute it at one input. -/
def wantPlainWrong : ChangeSpec := { name := "wantPlain", fn := fun _ => fun
  | [d] => { results := [.lit (.bool false)], args := [d] }
  | _ => none }
def WantPlainWrongFalsely : Prop := wantPlainRow.holds Try.pinned (OpenSpec.ofChange wantPlainWrong)

/-- 'conduitlaw02.WantAsks': WHATEVER THE INPUT: true; the input reads as it did. -/
def wantAsksSpec : ChangeSpec := { name := "wantAsks", fn := fun _ => fun
  | [d1, d2] => { results := [.lit (.bool true)], args := [d1, d2] }
  | _ => none }
def wantAsksRow : OpenClaim := { program := "ytpemgccocmdmbaa", sum := "b5f2f6f746ee0e336386b18d7d499439ccc90f158c9ec6d97059f0a21d815d02", func := "conduit/conduitlaw02.WantAsks", spec := "wantAsks", unfollowed := true, recurses := true, loops := true, apart := false }
def WantAsksSaid : Prop := wantAsksRow.holds Try.pinned (OpenSpec.ofChange wantAsksSpec)

/-- ITS FALSE NEIGHBOUR: 'it returns false'. Refute it at one input. -/
def wantAsksWrong : ChangeSpec := { name := "wantAsks", fn := fun _ => fun
  | [d1, d2] => { results := [.lit (.bool false)], args := [d1, d2] }
  | _ => none }
def WantAsksWrongFalsely : Prop := wantAsksRow.holds Try.pinned (OpenSpec.ofChange wantAsksWrong)

/- THE SECOND FORM. 'bulk': how many values and letters a reading holds, each counted each time it is reached (what is shared counts as often as it is met; a slice's spare places count too). A statement '..UptoSaid' is the law's where the arguments, and the package variables that the reading takes, are together of bulk at most 1048576: NARROWER than '..Said'. Prove '..Said' where nothing that the law and all that it calls make is longer than what came in: it says more and counts as full. Else prove '..UptoSaid'. A law counts once. -/
mutual
def uptoBulk {H : Type} : DataW H → Nat
  | .lit (.string bytes) => bytes.length + 1
  | .lit _ => 1
  | .nil => 1
  | .ptr d => uptoBulk d + 1
  | .slice elems spare => uptoBulkAll elems + uptoBulkAll spare + 1
  | .agg parts => uptoBulkAll parts + 1
  | .iface _ d => uptoBulk d + 1
  | .map entries => uptoBulkEntries entries + 1
  | .held _ => 1
def uptoBulkAll {H : Type} : List (DataW H) → Nat
  | [] => 0
  | d :: r => uptoBulk d + uptoBulkAll r
def uptoBulkEntries {H : Type} : List (Lit × DataW H) → Nat
  | [] => 0
  | x :: r => uptoBulkEntry x + uptoBulkEntries r
def uptoBulkEntry {H : Type} : Lit × DataW H → Nat
  | (.string bytes, d) => bytes.length + uptoBulk d + 1
  | (_, d) => uptoBulk d + 1
 end
def uptoSmall : (H : Type) → List (DataW H) → Bool := fun _ ds => decide (uptoBulkAll ds ≤ 1048576)
def OpenSpec.upto (s : _root_.Go.ChangeSpec) : _root_.Go.OpenSpec := { _root_.Go.OpenSpec.ofChange s with cond := some uptoSmall }

/-- 'conduitlaw02.WantFits', WHERE WHAT IT READS IS OF BULK AT MOST 1048576: true; the input reads as it did. -/
def wantFitsUptoRow : OpenClaim := { program := "ytpemgccocmdmbaa", sum := "b5f2f6f746ee0e336386b18d7d499439ccc90f158c9ec6d97059f0a21d815d02", func := "conduit/conduitlaw02.WantFits", spec := "wantFits", unfollowed := true, recurses := true, loops := true, apart := false, narrowed := true }
def WantFitsUptoSaid : Prop := wantFitsUptoRow.holds Try.pinned (OpenSpec.upto wantFitsSpec)

/-- 'conduitlaw02.WantHolds', WHERE WHAT IT READS IS OF BULK AT MOST 1048576: true; the input reads as it did. -/
def wantHoldsUptoRow : OpenClaim := { program := "ytpemgccocmdmbaa", sum := "b5f2f6f746ee0e336386b18d7d499439ccc90f158c9ec6d97059f0a21d815d02", func := "conduit/conduitlaw02.WantHolds", spec := "wantHolds", unfollowed := true, recurses := true, loops := true, apart := false, narrowed := true }
def WantHoldsUptoSaid : Prop := wantHoldsUptoRow.holds Try.pinned (OpenSpec.upto wantHoldsSpec)

/-- 'conduitlaw02.WantFirst', WHERE WHAT IT READS IS OF BULK AT MOST 1048576: true; the input reads as it did. -/
def wantFirstUptoRow : OpenClaim := { program := "ytpemgccocmdmbaa", sum := "b5f2f6f746ee0e336386b18d7d499439ccc90f158c9ec6d97059f0a21d815d02", func := "conduit/conduitlaw02.WantFirst", spec := "wantFirst", unfollowed := true, recurses := true, loops := true, apart := false, narrowed := true }
def WantFirstUptoSaid : Prop := wantFirstUptoRow.holds Try.pinned (OpenSpec.upto wantFirstSpec)

/-- 'conduitlaw02.WantCovers', WHERE WHAT IT READS IS OF BULK AT MOST 1048576: true; the input reads as it did. -/
def wantCoversUptoRow : OpenClaim := { program := "ytpemgccocmdmbaa", sum := "b5f2f6f746ee0e336386b18d7d499439ccc90f158c9ec6d97059f0a21d815d02", func := "conduit/conduitlaw02.WantCovers", spec := "wantCovers", unfollowed := true, recurses := true, loops := true, apart := false, narrowed := true }
def WantCoversUptoSaid : Prop := wantCoversUptoRow.holds Try.pinned (OpenSpec.upto wantCoversSpec)

/-- 'conduitlaw02.WantSets', WHERE WHAT IT READS IS OF BULK AT MOST 1048576: true; the input reads as it did. -/
def wantSetsUptoRow : OpenClaim := { program := "ytpemgccocmdmbaa", sum := "b5f2f6f746ee0e336386b18d7d499439ccc90f158c9ec6d97059f0a21d815d02", func := "conduit/conduitlaw02.WantSets", spec := "wantSets", unfollowed := true, recurses := true, loops := true, apart := false, narrowed := true }
def WantSetsUptoSaid : Prop := wantSetsUptoRow.holds Try.pinned (OpenSpec.upto wantSetsSpec)

/-- 'conduitlaw02.WantAsserts', WHERE WHAT IT READS IS OF BULK AT MOST 1048576: true; the input reads as it did. -/
def wantAssertsUptoRow : OpenClaim := { program := "ytpemgccocmdmbaa", sum := "b5f2f6f746ee0e336386b18d7d499439ccc90f158c9ec6d97059f0a21d815d02", func := "conduit/conduitlaw02.WantAsserts", spec := "wantAsserts", unfollowed := true, recurses := true, loops := true, apart := false, narrowed := true }
def WantAssertsUptoSaid : Prop := wantAssertsUptoRow.holds Try.pinned (OpenSpec.upto wantAssertsSpec)

/-- 'conduitlaw02.WantFaces', WHERE WHAT IT READS IS OF BULK AT MOST 1048576: true; the input reads as it did. -/
def wantFacesUptoRow : OpenClaim := { program := "ytpemgccocmdmbaa", sum := "b5f2f6f746ee0e336386b18d7d499439ccc90f158c9ec6d97059f0a21d815d02", func := "conduit/conduitlaw02.WantFaces", spec := "wantFaces", unfollowed := true, recurses := true, apart := false, narrowed := true }
def WantFacesUptoSaid : Prop := wantFacesUptoRow.holds Try.pinned (OpenSpec.upto wantFacesSpec)

/-- 'conduitlaw02.WantPlain', WHERE WHAT IT READS IS OF BULK AT MOST 1048576: true; the input reads as it did. -/
def wantPlainUptoRow : OpenClaim := { program := "ytpemgccocmdmbaa", sum := "b5f2f6f746ee0e336386b18d7d499439ccc90f158c9ec6d97059f0a21d815d02", func := "conduit/conduitlaw02.WantPlain", spec := "wantPlain", unfollowed := true, recurses := true, loops := true, apart := false, narrowed := true }
def WantPlainUptoSaid : Prop := wantPlainUptoRow.holds Try.pinned (OpenSpec.upto wantPlainSpec)

/-- 'conduitlaw02.WantAsks', WHERE WHAT IT READS IS OF BULK AT MOST 1048576: true; the input reads as it did. -/
def wantAsksUptoRow : OpenClaim := { program := "ytpemgccocmdmbaa", sum := "b5f2f6f746ee0e336386b18d7d499439ccc90f158c9ec6d97059f0a21d815d02", func := "conduit/conduitlaw02.WantAsks", spec := "wantAsks", unfollowed := true, recurses := true, loops := true, apart := false, narrowed := true }
def WantAsksUptoSaid : Prop := wantAsksUptoRow.holds Try.pinned (OpenSpec.upto wantAsksSpec)

end Rows
end Go.Proofs.Ytpemgccocmdmbaa
