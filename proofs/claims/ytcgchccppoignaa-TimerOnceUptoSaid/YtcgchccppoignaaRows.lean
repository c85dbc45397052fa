/-
  No cell of these rows narrows 'for every input' (looked for: loops, veiled, ifaces, maps, wideKeys, modest, calm, conditions, laid).
  DERIVED. THE GIVEN ROWS OF THIS SEAT. 4 by the template 'for every input the law returns true; each argument reads behind the call as it read before'; 0 by the template 'total and deterministic' (their statements: YtcgchccppoignaaTotals.lean).
  GIVEN WITH THE SEED: the statements are not yours to turn. If you find one false, say at which input.
  Laid BY PROGRAM, IN A SANDBOX (cutbox-rows.mjs): the forced cells as the released guide's own fill.sh prints them over the translation 71e1101788115377… (all of the seat's roots in one cut). By AI agents, Wed Nov 11 2026. No macro, syntax, notation, axiom, sorry.
-/
import Derived.Test.YtcgchccppoignaaChecked
import GoSem.Claim
import GoSem.ClaimJoined
import GoSem.ClaimMapViews
import Derived.JoinedTies
import Derived.KernelRfl
namespace Go.Proofs.Ytcgchccppoignaa
/- THE CELL 'sum', in the pinned program and in every row, IS THE sha256 OF THE DUMP (.gsa) THAT YtcgchccppoignaaProg.lean LOADS. Nothing in Lean hashes anything: it is a label: what it is worth is what the hold of that sum in a sandbox is worth. -/
noncomputable def Try.pinned : Pinned := { name := "ytcgchccppoignaa", sum := "71e1101788115377dc97740d80630dd4fd1f895c0c7427da4e0708f55cea96de", checked := Try.checked }
namespace Rows
def none {H : Type} : Left H := { results := [], args := [] }

/-- 'conduitlaw18.TimerPieces': WHATEVER THE INPUT: true; the input reads as it did. -/
def timerPiecesSpec : ChangeSpec := { name := "timerPieces", fn := fun _ => fun
  | [d1, d2, d3] => { results := [.lit (.bool true)], args := [d1, d2, d3] }
  | _ => none }
def timerPiecesRow : OpenClaim := { program := "ytcgchccppoignaa", sum := "71e1101788115377dc97740d80630dd4fd1f895c0c7427da4e0708f55cea96de", func := "conduit/conduitlaw18.TimerPieces", spec := "timerPieces", apart := false }
def TimerPiecesSaid : Prop := timerPiecesRow.holds Try.pinned (OpenSpec.ofChange timerPiecesSpec)

/-- ITS FALSE NEIGHBOUR: 'it returns false'. Refute it at one input. -/
def timerPiecesWrong : ChangeSpec := { name := "timerPieces", fn := fun _ => fun
  | [d1, d2, d3] => { results := [.lit (.bool false)], args := [d1, d2, d3] }
  | _ => none }
def TimerPiecesWrongFalsely : Prop := timerPiecesRow.holds Try.pinned (OpenSpec.ofChange timerPiecesWrong)

/-- 'conduitlaw18.TimerPlays': WHATEVER THE INPUT: true; the input reads as it did. -/
def timerPlaysSpec : ChangeSpec := { name := "timerPlays", fn := fun _ => fun
  | [d1, d2] => { results := [.lit (.bool true)], args := [d1, d2] }
  | _ => none }
def timerPlaysRow : OpenClaim := { program := "ytcgchccppoignaa", sum := "71e1101788115377dc97740d80630dd4fd1f895c0c7427da4e0708f55cea96de", func := "conduit/conduitlaw18.TimerPlays", spec := "timerPlays", apart := false }
def TimerPlaysSaid : Prop := timerPlaysRow.holds Try.pinned (OpenSpec.ofChange timerPlaysSpec)

/-- ITS FALSE NEIGHBOUR: 'it returns false'. Refute it at one input. -/
def timerPlaysWrong : ChangeSpec := { name := "timerPlays", fn := fun _ => fun
  | [d1, d2] => { results := [.lit (.bool false)], args := [d1, d2] }
  | _ => none }
def TimerPlaysWrongFalsely : Prop := timerPlaysRow.holds Try.pinned (OpenSpec.ofChange timerPlaysWrong)

/-- 'conduitlaw18.TimerOnce': WHATEVER THE INPUT: true; the input reads as it did. -/
def timerOnceSpec : ChangeSpec := { name := "timerOnce", fn := fun _ => fun
  | [d1, d2] => { results := [.lit (.bool true)], args := [d1, d2] }
  | _ => none }
def timerOnceRow : OpenClaim := { program := "ytcgchccppoignaa", sum := "71e1101788115377dc97740d80630dd4fd1f895c0c7427da4e0708f55cea96de", func := "conduit/conduitlaw18.TimerOnce", spec := "timerOnce", apart := false }
def TimerOnceSaid : Prop := timerOnceRow.holds Try.pinned (OpenSpec.ofChange timerOnceSpec)

/-- ITS FALSE NEIGHBOUR: 'it returns false'. Refute it at one input. -/
def timerOnceWrong : ChangeSpec := { name := "timerOnce", fn := fun _ => fun
  | [d1, d2] => { results := [.lit (.bool false)], args := [d1, d2] }
  | _ => none }
def TimerOnceWrongFalsely : Prop := timerOnceRow.holds Try.pinned (OpenSpec.ofChange timerOnceWrong)

/-- 'conduitlaw18.TimerNobody': WHATEVER THE INPUT: true; the input reads as it did. -/
def timerNobodySpec : ChangeSpec := { name := "timerNobody", fn := fun _ => fun
  | [d1, d2, d3] => { results := [.lit (.bool true)], args := [d1, d2, d3] }
  | _ => none }
def timerNobodyRow : OpenClaim := { program := "ytcgchccppoignaa", sum := "71e1101788115377dc97740d80630dd4fd1f895c0c7427da4e0708f55cea96de", func := "conduit/conduitlaw18.TimerNobody", spec := "timerNobody", apart := false }
def TimerNobodySaid : Prop := timerNobodyRow.holds Try.pinned (OpenSpec.ofChange timerNobodySpec)

/-- ITS FALSE NEIGHBOUR: 'it returns false'. Refute it at one input. -/
def timerNobodyWrong : ChangeSpec := { name := "timerNobody", fn := fun _ => fun
  | [d1, d2, d3] => { results := [.lit (.bool false)], args := [d1, d2, d3] }
  | _ => none }
def TimerNobodyWrongFalsely : Prop := timerNobodyRow.holds Try.pinned (OpenSpec.ofChange timerNobodyWrong)

/- THE SECOND FORM. 'bulk': how many values and letters a reading holds, each counted each time it is reached (what is shared counts as often as it is met; a slice's spare places count too). A statement '..UptoSaid' is the law's where the arguments, and the package variables that the reading takes, are together of bulk at most 1048576: NARROWER than '..Said'. Prove '..Said' where nothing that the law and all that it calls make is longer than what came in: it says more and counts as full. Else prove '..UptoSaid'. A law counts once. -/
mutual
def uptoBulk {H : Type} : DataW H → Nat
  | .lit (.string bytes) => bytes.length + 1
  | .lit _ => 1
  | .nil => 1
  | .ptr d => uptoBulk d + 1
  | .slice elems spare => uptoBulkAll elems + uptoBulkAll spare + 1
  | .agg parts => uptoBulkAll parts + 1
  | .iface _ d => uptoBulk d + 1
  | .map entries => uptoBulkEntries entries + 1
  | .held _ => 1
def uptoBulkAll {H : Type} : List (DataW H) → Nat
  | [] => 0
  | d :: r => uptoBulk d + uptoBulkAll r
def uptoBulkEntries {H : Type} : List (Lit × DataW H) → Nat
  | [] => 0
  | x :: r => uptoBulkEntry x + uptoBulkEntries r
def uptoBulkEntry {H : Type} : Lit × DataW H → Nat
  | (.string bytes, d) => bytes.length + uptoBulk d + 1
  | (_, d) => uptoBulk d + 1
 end
def uptoSmall : (H : Type) → List (DataW H) → Bool := fun _ ds => decide (uptoBulkAll ds ≤ 1048576)
def OpenSpec.upto (s : _root_.Go.ChangeSpec) : _root_.Go.OpenSpec := { _root_.Go.OpenSpec.ofChange s with cond := some uptoSmall }

/-- 'conduitlaw18.TimerPieces', WHERE WHAT IT READS IS OF BULK AT MOST 1048576: true; the input reads as it did. -/
def timerPiecesUptoRow : OpenClaim := { program := "ytcgchccppoignaa", sum := "71e1101788115377dc97740d80630dd4fd1f895c0c7427da4e0708f55cea96de", func := "conduit/conduitlaw18.TimerPieces", spec := "timerPieces", apart := false, narrowed := true }
def TimerPiecesUptoSaid : Prop := timerPiecesUptoRow.holds Try.pinned (OpenSpec.upto timerPiecesSpec)

/-- 'conduitlaw18.TimerPlays', WHERE WHAT IT READS IS OF BULK AT MOST 1048576: true; the input reads as it did. -/
def timerPlaysUptoRow : OpenClaim := { program := "ytcgchccppoignaa", sum := "71e1101788115377dc97740d80630dd4fd1f895c0c7427da4e0708f55cea96de", func := "conduit/conduitlaw18.TimerPlays", spec := "timerPlays", apart := false, narrowed := true }
def TimerPlaysUptoSaid : Prop := timerPlaysUptoRow.holds Try.pinned (OpenSpec.upto timerPlaysSpec)

/-- 'conduitlaw18.TimerOnce', WHERE WHAT IT READS IS OF BULK AT MOST 1048576: true; the input reads as it did. -/
def timerOnceUptoRow : OpenClaim := { program := "ytcgchccppoignaa", sum := "71e1101788115377dc97740d80630dd4fd1f895c0c7427da4e0708f55cea96de", func := "conduit/conduitlaw18.TimerOnce", spec := "timerOnce", apart := false, narrowed := true }
def TimerOnceUptoSaid : Prop := timerOnceUptoRow.holds Try.pinned (OpenSpec.upto timerOnceSpec)

/-- 'conduitlaw18.TimerNobody', WHERE WHAT IT READS IS OF BULK AT MOST 1048576: true; the input reads as it did. -/
def timerNobodyUptoRow : OpenClaim := { program := "ytcgchccppoignaa", sum := "71e1101788115377dc97740d80630dd4fd1f895c0c7427da4e0708f55cea96de", func := "conduit/conduitlaw18.TimerNobody", spec := "timerNobody", apart := false, narrowed := true }
def TimerNobodyUptoSaid : Prop := timerNobodyUptoRow.holds Try.pinned (OpenSpec.upto timerNobodySpec)

end Rows
end Go.Proofs.Ytcgchccppoignaa
