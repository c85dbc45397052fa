/-
  NARROWER THAN 'FOR EVERY INPUT', by the rows' own cells (each row's printed sentence says how): BufferPuts: loops, laid · BufferTicks: loops, laid · BufferWhole: loops, laid · AcksSend: loops, laid · AcksDue: loops, laid · AcksWhole: loops, laid · AcksEnd: loops, laid.
  DERIVED. THE GIVEN ROWS OF THIS SEAT. 7 by the template 'for every input the law returns true; each argument reads behind the call as it read before'; 0 by the template 'total and deterministic' (their statements: YtmdcfmdjbncaoaaDoorTotals.lean).
  GIVEN WITH THE SEED: the statements are not yours to turn. If you find one false, say at which input.
  Laid BY PROGRAM, IN A SANDBOX (cutbox-rows.mjs): the forced cells as the released guide's own fill.sh prints them over the translation 6dc68a4b10f797b4… (all of the seat's roots in one cut). By AI agents, Wed Nov 11 2026. No macro, syntax, notation, axiom, sorry.
-/
import Derived.Test.YtmdcfmdjbncaoaaDoorChecked
import GoSem.PinnedTables
import GoSem.Claim
import GoSem.ClaimJoined
import GoSem.ClaimMapViews
import Derived.JoinedTies
import Derived.KernelRfl
namespace Go.Proofs.YtmdcfmdjbncaoaaDoor
/- THE CELL 'sum', in the pinned program and in every row, IS THE sha256 OF THE DUMP (.gsa) THAT YtmdcfmdjbncaoaaDoorProg.lean LOADS. Nothing in Lean hashes anything: it is a label: what it is worth is what the hold of that sum in a sandbox is worth. -/
noncomputable def Tryd.pinned : Pinned := { name := "ytmdcfmdjbncaoaadoor", sum := "6dc68a4b10f797b42c121be3bee3a24d419a7b1f3620fa5f603cd06ea60157d5", checked := Tryd.checked }
namespace Rows
def none {H : Type} : Left H := { results := [], args := [] }

/- WHAT THE LISTED PACKAGE-LEVEL VARIABLES READ AS WHEN THE CALL BEGINS. Each datum BY PROGRAM (the guide's laid-datum.mjs) off the statement by which the dump's own 'gosem.cut.vars' lays the variable. In a bare row this is a premise. The card (YtmdcfmdjbncaoaaDoorCards.lean) ties it to the program's text. -/
def laid_unicode_utf8_acceptRanges {H : Type} : DataW H := .agg [.agg [.lit (.int .u8 128), .lit (.int .u8 191)], .agg [.lit (.int .u8 160), .lit (.int .u8 191)], .agg [.lit (.int .u8 128), .lit (.int .u8 159)], .agg [.lit (.int .u8 144), .lit (.int .u8 191)], .agg [.lit (.int .u8 128), .lit (.int .u8 143)], .agg [.lit (.int .u8 0), .lit (.int .u8 0)], .agg [.lit (.int .u8 0), .lit (.int .u8 0)], .agg [.lit (.int .u8 0), .lit (.int .u8 0)], .agg [.lit (.int .u8 0), .lit (.int .u8 0)], .agg [.lit (.int .u8 0), .lit (.int .u8 0)], .agg [.lit (.int .u8 0), .lit (.int .u8 0)], .agg [.lit (.int .u8 0), .lit (.int .u8 0)], .agg [.lit (.int .u8 0), .lit (.int .u8 0)], .agg [.lit (.int .u8 0), .lit (.int .u8 0)], .agg [.lit (.int .u8 0), .lit (.int .u8 0)], .agg [.lit (.int .u8 0), .lit (.int .u8 0)]]
/-- One of Go's own tables, pinned by name: the form's constant. -/
def laid_unicode_utf8_first : DataW Unit := Go.Pinned.utf8First

/-- 'conduitlaw16.BufferPuts': WHATEVER THE INPUT: true; the input reads as it did. -/
def bufferPutsSpec : ChangeSpec := { name := "bufferPuts", fn := fun _ => fun
  | [d1, d2, d3, d4] => { results := [.lit (.bool true)], args := [d1, d2, d3, d4] }
  | _ => none }
def bufferPutsRow : OpenClaim := { program := "ytmdcfmdjbncaoaadoor", sum := "6dc68a4b10f797b42c121be3bee3a24d419a7b1f3620fa5f603cd06ea60157d5", func := "conduit/conduitlaw16.BufferPuts", spec := "bufferPuts", unfollowed := true, recurses := true, named := ["unicode/utf8.first", "unicode/utf8.acceptRanges"], loops := true, apart := false, laid := [("unicode/utf8.acceptRanges", laid_unicode_utf8_acceptRanges), ("unicode/utf8.first", laid_unicode_utf8_first)] }
def BufferPutsSaid : Prop := bufferPutsRow.holds Tryd.pinned (OpenSpec.ofChange bufferPutsSpec)

/-- ITS FALSE NEIGHBOUR: 'it returns false'. Refute it at one input. -/
def bufferPutsWrong : ChangeSpec := { name := "bufferPuts", fn := fun _ => fun
  | [d1, d2, d3, d4] => { results := [.lit (.bool false)], args := [d1, d2, d3, d4] }
  | _ => none }
def BufferPutsWrongFalsely : Prop := bufferPutsRow.holds Tryd.pinned (OpenSpec.ofChange bufferPutsWrong)

/-- 'conduitlaw16.BufferTicks': WHATEVER THE INPUT: true; the input reads as it did. -/
def bufferTicksSpec : ChangeSpec := { name := "bufferTicks", fn := fun _ => fun
  | [d1, d2, d3, d4] => { results := [.lit (.bool true)], args := [d1, d2, d3, d4] }
  | _ => none }
def bufferTicksRow : OpenClaim := { program := "ytmdcfmdjbncaoaadoor", sum := "6dc68a4b10f797b42c121be3bee3a24d419a7b1f3620fa5f603cd06ea60157d5", func := "conduit/conduitlaw16.BufferTicks", spec := "bufferTicks", unfollowed := true, recurses := true, named := ["unicode/utf8.first", "unicode/utf8.acceptRanges"], loops := true, apart := false, laid := [("unicode/utf8.acceptRanges", laid_unicode_utf8_acceptRanges), ("unicode/utf8.first", laid_unicode_utf8_first)] }
def BufferTicksSaid : Prop := bufferTicksRow.holds Tryd.pinned (OpenSpec.ofChange bufferTicksSpec)

/-- ITS FALSE NEIGHBOUR: 'it returns false'. Refute it at one input. -/
def bufferTicksWrong : ChangeSpec := { name := "bufferTicks", fn := fun _ => fun
  | [d1, d2, d3, d4] => { results := [.lit (.bool false)], args := [d1, d2, d3, d4] }
  | _ => none }
def BufferTicksWrongFalsely : Prop := bufferTicksRow.holds Tryd.pinned (OpenSpec.ofChange bufferTicksWrong)

/-- 'conduitlaw16.BufferWhole': WHATEVER THE INPUT: true; the input reads as it did. -/
def bufferWholeSpec : ChangeSpec := { name := "bufferWhole", fn := fun _ => fun
  | [d1, d2, d3] => { results := [.lit (.bool true)], args := [d1, d2, d3] }
  | _ => none }
def bufferWholeRow : OpenClaim := { program := "ytmdcfmdjbncaoaadoor", sum := "6dc68a4b10f797b42c121be3bee3a24d419a7b1f3620fa5f603cd06ea60157d5", func := "conduit/conduitlaw16.BufferWhole", spec := "bufferWhole", unfollowed := true, recurses := true, named := ["unicode/utf8.first", "unicode/utf8.acceptRanges"], loops := true, apart := false, laid := [("unicode/utf8.acceptRanges", laid_unicode_utf8_acceptRanges), ("unicode/utf8.first", laid_unicode_utf8_first)] }
def BufferWholeSaid : Prop := bufferWholeRow.holds Tryd.pinned (OpenSpec.ofChange bufferWholeSpec)

/-- ITS FALSE NEIGHBOUR: 'it returns false'. Refute it at one input. -/
def bufferWholeWrong : ChangeSpec := { name := "bufferWhole", fn := fun _ => fun
  | [d1, d2, d3] => { results := [.lit (.bool false)], args := [d1, d2, d3] }
  | _ => none }
def BufferWholeWrongFalsely : Prop := bufferWholeRow.holds Tryd.pinned (OpenSpec.ofChange bufferWholeWrong)

/-- 'conduitlaw24.AcksSend': WHATEVER THE INPUT: true; the input reads as it did. -/
def acksSendSpec : ChangeSpec := { name := "acksSend", fn := fun _ => fun
  | [d1, d2, d3, d4] => { results := [.lit (.bool true)], args := [d1, d2, d3, d4] }
  | _ => none }
def acksSendRow : OpenClaim := { program := "ytmdcfmdjbncaoaadoor", sum := "6dc68a4b10f797b42c121be3bee3a24d419a7b1f3620fa5f603cd06ea60157d5", func := "conduit/conduitlaw24.AcksSend", spec := "acksSend", unfollowed := true, recurses := true, named := ["unicode/utf8.first", "unicode/utf8.acceptRanges"], loops := true, apart := false, laid := [("unicode/utf8.acceptRanges", laid_unicode_utf8_acceptRanges), ("unicode/utf8.first", laid_unicode_utf8_first)] }
def AcksSendSaid : Prop := acksSendRow.holds Tryd.pinned (OpenSpec.ofChange acksSendSpec)

/-- ITS FALSE NEIGHBOUR: 'it returns false'. Refute it at one input. -/
def acksSendWrong : ChangeSpec := { name := "acksSend", fn := fun _ => fun
  | [d1, d2, d3, d4] => { results := [.lit (.bool false)], args := [d1, d2, d3, d4] }
  | _ => none }
def AcksSendWrongFalsely : Prop := acksSendRow.holds Tryd.pinned (OpenSpec.ofChange acksSendWrong)

/-- 'conduitlaw24.AcksDue': WHATEVER THE INPUT: true; the input reads as it did. -/
def acksDueSpec : ChangeSpec := { name := "acksDue", fn := fun _ => fun
  | [d1, d2, d3] => { results := [.lit (.bool true)], args := [d1, d2, d3] }
  | _ => none }
def acksDueRow : OpenClaim := { program := "ytmdcfmdjbncaoaadoor", sum := "6dc68a4b10f797b42c121be3bee3a24d419a7b1f3620fa5f603cd06ea60157d5", func := "conduit/conduitlaw24.AcksDue", spec := "acksDue", unfollowed := true, recurses := true, named := ["unicode/utf8.first", "unicode/utf8.acceptRanges"], loops := true, apart := false, laid := [("unicode/utf8.acceptRanges", laid_unicode_utf8_acceptRanges), ("unicode/utf8.first", laid_unicode_utf8_first)] }
def AcksDueSaid : Prop := acksDueRow.holds Tryd.pinned (OpenSpec.ofChange acksDueSpec)

/-- ITS FALSE NEIGHBOUR: 'it returns false'. Refute it at one input. -/
def acksDueWrong : ChangeSpec := { name := "acksDue", fn := fun _ => fun
  | [d1, d2, d3] => { results := [.lit (.bool false)], args := [d1, d2, d3] }
  | _ => none }
def AcksDueWrongFalsely : Prop := acksDueRow.holds Tryd.pinned (OpenSpec.ofChange acksDueWrong)

/-- 'conduitlaw24.AcksWhole': WHATEVER THE INPUT: true; the input reads as it did. -/
def acksWholeSpec : ChangeSpec := { name := "acksWhole", fn := fun _ => fun
  | [d1, d2] => { results := [.lit (.bool true)], args := [d1, d2] }
  | _ => none }
def acksWholeRow : OpenClaim := { program := "ytmdcfmdjbncaoaadoor", sum := "6dc68a4b10f797b42c121be3bee3a24d419a7b1f3620fa5f603cd06ea60157d5", func := "conduit/conduitlaw24.AcksWhole", spec := "acksWhole", unfollowed := true, recurses := true, named := ["unicode/utf8.first", "unicode/utf8.acceptRanges"], loops := true, apart := false, laid := [("unicode/utf8.acceptRanges", laid_unicode_utf8_acceptRanges), ("unicode/utf8.first", laid_unicode_utf8_first)] }
def AcksWholeSaid : Prop := acksWholeRow.holds Tryd.pinned (OpenSpec.ofChange acksWholeSpec)

/-- ITS FALSE NEIGHBOUR: 'it returns false'. Refute it at one input. -/
def acksWholeWrong : ChangeSpec := { name := "acksWhole", fn := fun _ => fun
  | [d1, d2] => { results := [.lit (.bool false)], args := [d1, d2] }
  | _ => none }
def AcksWholeWrongFalsely : Prop := acksWholeRow.holds Tryd.pinned (OpenSpec.ofChange acksWholeWrong)

/-- 'conduitlaw24.AcksEnd': WHATEVER THE INPUT: true; the input reads as it did. -/
def acksEndSpec : ChangeSpec := { name := "acksEnd", fn := fun _ => fun
  | [d1, d2, d3, d4] => { results := [.lit (.bool true)], args := [d1, d2, d3, d4] }
  | _ => none }
def acksEndRow : OpenClaim := { program := "ytmdcfmdjbncaoaadoor", sum := "6dc68a4b10f797b42c121be3bee3a24d419a7b1f3620fa5f603cd06ea60157d5", func := "conduit/conduitlaw24.AcksEnd", spec := "acksEnd", unfollowed := true, recurses := true, named := ["unicode/utf8.first", "unicode/utf8.acceptRanges"], loops := true, apart := false, laid := [("unicode/utf8.acceptRanges", laid_unicode_utf8_acceptRanges), ("unicode/utf8.first", laid_unicode_utf8_first)] }
def AcksEndSaid : Prop := acksEndRow.holds Tryd.pinned (OpenSpec.ofChange acksEndSpec)

/-- ITS FALSE NEIGHBOUR: 'it returns false'. Refute it at one input. -/
def acksEndWrong : ChangeSpec := { name := "acksEnd", fn := fun _ => fun
  | [d1, d2, d3, d4] => { results := [.lit (.bool false)], args := [d1, d2, d3, d4] }
  | _ => none }
def AcksEndWrongFalsely : Prop := acksEndRow.holds Tryd.pinned (OpenSpec.ofChange acksEndWrong)

/- THE SECOND FORM. 'bulk': how many values and letters a reading holds, each counted each time it is reached (what is shared counts as often as it is met; a slice's spare places count too). A statement '..UptoSaid' is the law's where the arguments, and the package variables that the reading takes, are together of bulk at most 1048576: NARROWER than '..Said'. Prove '..Said' where nothing that the law and all that it calls make is longer than what came in: it says more and counts as full. Else prove '..UptoSaid'. A law counts once. -/
mutual
def uptoBulk {H : Type} : DataW H → Nat
  | .lit (.string bytes) => bytes.length + 1
  | .lit _ => 1
  | .nil => 1
  | .ptr d => uptoBulk d + 1
  | .slice elems spare => uptoBulkAll elems + uptoBulkAll spare + 1
  | .agg parts => uptoBulkAll parts + 1
  | .iface _ d => uptoBulk d + 1
  | .map entries => uptoBulkEntries entries + 1
  | .held _ => 1
def uptoBulkAll {H : Type} : List (DataW H) → Nat
  | [] => 0
  | d :: r => uptoBulk d + uptoBulkAll r
def uptoBulkEntries {H : Type} : List (Lit × DataW H) → Nat
  | [] => 0
  | x :: r => uptoBulkEntry x + uptoBulkEntries r
def uptoBulkEntry {H : Type} : Lit × DataW H → Nat
  | (.string bytes, d) => bytes.length + uptoBulk d + 1
  | (_, d) => uptoBulk d + 1
 end
def uptoSmall : (H : Type) → List (DataW H) → Bool := fun _ ds => decide (uptoBulkAll ds ≤ 1048576)
def OpenSpec.upto (s : _root_.Go.ChangeSpec) : _root_.Go.OpenSpec := { _root_.Go.OpenSpec.ofChange s with cond := some uptoSmall }

/-- 'conduitlaw16.BufferPuts', WHERE WHAT IT READS IS OF BULK AT MOST 1048576: true; the input reads as it did. -/
def bufferPutsUptoRow : OpenClaim := { program := "ytmdcfmdjbncaoaadoor", sum := "6dc68a4b10f797b42c121be3bee3a24d419a7b1f3620fa5f603cd06ea60157d5", func := "conduit/conduitlaw16.BufferPuts", spec := "bufferPuts", unfollowed := true, recurses := true, named := ["unicode/utf8.first", "unicode/utf8.acceptRanges"], loops := true, apart := false, laid := [("unicode/utf8.acceptRanges", laid_unicode_utf8_acceptRanges), ("unicode/utf8.first", laid_unicode_utf8_first)], narrowed := true }
def BufferPutsUptoSaid : Prop := bufferPutsUptoRow.holds Tryd.pinned (OpenSpec.upto bufferPutsSpec)

/-- 'conduitlaw16.BufferTicks', WHERE WHAT IT READS IS OF BULK AT MOST 1048576: true; the input reads as it did. -/
def bufferTicksUptoRow : OpenClaim := { program := "ytmdcfmdjbncaoaadoor", sum := "6dc68a4b10f797b42c121be3bee3a24d419a7b1f3620fa5f603cd06ea60157d5", func := "conduit/conduitlaw16.BufferTicks", spec := "bufferTicks", unfollowed := true, recurses := true, named := ["unicode/utf8.first", "unicode/utf8.acceptRanges"], loops := true, apart := false, laid := [("unicode/utf8.acceptRanges", laid_unicode_utf8_acceptRanges), ("unicode/utf8.first", laid_unicode_utf8_first)], narrowed := true }
def BufferTicksUptoSaid : Prop := bufferTicksUptoRow.holds Tryd.pinned (OpenSpec.upto bufferTicksSpec)

/-- 'conduitlaw16.BufferWhole', WHERE WHAT IT READS IS OF BULK AT MOST 1048576: true; the input reads as it did. -/
def bufferWholeUptoRow : OpenClaim := { program := "ytmdcfmdjbncaoaadoor", sum := "6dc68a4b10f797b42c121be3bee3a24d419a7b1f3620fa5f603cd06ea60157d5", func := "conduit/conduitlaw16.BufferWhole", spec := "bufferWhole", unfollowed := true, recurses := true, named := ["unicode/utf8.first", "unicode/utf8.acceptRanges"], loops := true, apart := false, laid := [("unicode/utf8.acceptRanges", laid_unicode_utf8_acceptRanges), ("unicode/utf8.first", laid_unicode_utf8_first)], narrowed := true }
def BufferWholeUptoSaid : Prop := bufferWholeUptoRow.holds Tryd.pinned (OpenSpec.upto bufferWholeSpec)

/-- 'conduitlaw24.AcksSend', WHERE WHAT IT READS IS OF BULK AT MOST 1048576: true; the input reads as it did. -/
def acksSendUptoRow : OpenClaim := { program := "ytmdcfmdjbncaoaadoor", sum := "6dc68a4b10f797b42c121be3bee3a24d419a7b1f3620fa5f603cd06ea60157d5", func := "conduit/conduitlaw24.AcksSend", spec := "acksSend", unfollowed := true, recurses := true, named := ["unicode/utf8.first", "unicode/utf8.acceptRanges"], loops := true, apart := false, laid := [("unicode/utf8.acceptRanges", laid_unicode_utf8_acceptRanges), ("unicode/utf8.first", laid_unicode_utf8_first)], narrowed := true }
def AcksSendUptoSaid : Prop := acksSendUptoRow.holds Tryd.pinned (OpenSpec.upto acksSendSpec)

/-- 'conduitlaw24.AcksDue', WHERE WHAT IT READS IS OF BULK AT MOST 1048576: true; the input reads as it did. -/
def acksDueUptoRow : OpenClaim := { program := "ytmdcfmdjbncaoaadoor", sum := "6dc68a4b10f797b42c121be3bee3a24d419a7b1f3620fa5f603cd06ea60157d5", func := "conduit/conduitlaw24.AcksDue", spec := "acksDue", unfollowed := true, recurses := true, named := ["unicode/utf8.first", "unicode/utf8.acceptRanges"], loops := true, apart := false, laid := [("unicode/utf8.acceptRanges", laid_unicode_utf8_acceptRanges), ("unicode/utf8.first", laid_unicode_utf8_first)], narrowed := true }
def AcksDueUptoSaid : Prop := acksDueUptoRow.holds Tryd.pinned (OpenSpec.upto acksDueSpec)

/-- 'conduitlaw24.AcksWhole', WHERE WHAT IT READS IS OF BULK AT MOST 1048576: true; the input reads as it did. -/
def acksWholeUptoRow : OpenClaim := { program := "ytmdcfmdjbncaoaadoor", sum := "6dc68a4b10f797b42c121be3bee3a24d419a7b1f3620fa5f603cd06ea60157d5", func := "conduit/conduitlaw24.AcksWhole", spec := "acksWhole", unfollowed := true, recurses := true, named := ["unicode/utf8.first", "unicode/utf8.acceptRanges"], loops := true, apart := false, laid := [("unicode/utf8.acceptRanges", laid_unicode_utf8_acceptRanges), ("unicode/utf8.first", laid_unicode_utf8_first)], narrowed := true }
def AcksWholeUptoSaid : Prop := acksWholeUptoRow.holds Tryd.pinned (OpenSpec.upto acksWholeSpec)

/-- 'conduitlaw24.AcksEnd', WHERE WHAT IT READS IS OF BULK AT MOST 1048576: true; the input reads as it did. -/
def acksEndUptoRow : OpenClaim := { program := "ytmdcfmdjbncaoaadoor", sum := "6dc68a4b10f797b42c121be3bee3a24d419a7b1f3620fa5f603cd06ea60157d5", func := "conduit/conduitlaw24.AcksEnd", spec := "acksEnd", unfollowed := true, recurses := true, named := ["unicode/utf8.first", "unicode/utf8.acceptRanges"], loops := true, apart := false, laid := [("unicode/utf8.acceptRanges", laid_unicode_utf8_acceptRanges), ("unicode/utf8.first", laid_unicode_utf8_first)], narrowed := true }
def AcksEndUptoSaid : Prop := acksEndUptoRow.holds Tryd.pinned (OpenSpec.upto acksEndSpec)

end Rows
end Go.Proofs.YtmdcfmdjbncaoaaDoor
