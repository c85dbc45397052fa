/-
  NARROWER THAN 'FOR EVERY INPUT', by the rows' own cells (each row's printed sentence says how): ShutCloses: loops.
  DERIVED. THE GIVEN ROWS OF THIS SEAT. 4 by the template 'for every input the law returns true; each argument reads behind the call as it read before'; 0 by the template 'total and deterministic' (their statements: YtmkbdjekidcfaaaTotals.lean).
  GIVEN WITH THE SEED: the statements are not yours to turn. If you find one false, say at which input.
  Laid BY PROGRAM, IN A SANDBOX (cutbox-rows.mjs): the forced cells as the released guide's own fill.sh prints them over the translation 8112b7db11b946ee… (all of the seat's roots in one cut). By AI agents, Wed Nov 11 2026. No macro, syntax, notation, axiom, sorry.
-/
import Derived.Test.YtmkbdjekidcfaaaChecked
import GoSem.Claim
import GoSem.ClaimJoined
import GoSem.ClaimMapViews
import Derived.JoinedTies
import Derived.KernelRfl
namespace Go.Proofs.Ytmkbdjekidcfaaa
/- THE CELL 'sum', in the pinned program and in every row, IS THE sha256 OF THE DUMP (.gsa) THAT YtmkbdjekidcfaaaProg.lean LOADS. Nothing in Lean hashes anything: it is a label: what it is worth is what the hold of that sum in a sandbox is worth. -/
noncomputable def Try.pinned : Pinned := { name := "ytmkbdjekidcfaaa", sum := "8112b7db11b946eeace3b5eca862ee2cc215dd603072b59858e1d6ec4808b295", checked := Try.checked }
namespace Rows
def none {H : Type} : Left H := { results := [], args := [] }

/-- 'conduitlaw22.ShutOrders': WHATEVER THE INPUT: true; the input reads as it did. -/
def shutOrdersSpec : ChangeSpec := { name := "shutOrders", fn := fun _ => fun
  | [d] => { results := [.lit (.bool true)], args := [d] }
  | _ => none }
def shutOrdersRow : OpenClaim := { program := "ytmkbdjekidcfaaa", sum := "8112b7db11b946eeace3b5eca862ee2cc215dd603072b59858e1d6ec4808b295", func := "conduit/conduitlaw22.ShutOrders", spec := "shutOrders", unfollowed := true, recurses := true, apart := false }
def ShutOrdersSaid : Prop := shutOrdersRow.holds Try.pinned (OpenSpec.ofChange shutOrdersSpec)

/-- ITS FALSE NEIGHBOUR: 'it returns false'. Refute it at one input. -/
def shutOrdersWrong : ChangeSpec := { name := "shutOrders", fn := fun _ => fun
  | [d] => { results := [.lit (.bool false)], args := [d] }
  | _ => none }
def ShutOrdersWrongFalsely : Prop := shutOrdersRow.holds Try.pinned (OpenSpec.ofChange shutOrdersWrong)

/-- 'conduitlaw22.ShutFirst': WHATEVER THE INPUT: true; the input reads as it did. -/
def shutFirstSpec : ChangeSpec := { name := "shutFirst", fn := fun _ => fun
  | [d] => { results := [.lit (.bool true)], args := [d] }
  | _ => none }
def shutFirstRow : OpenClaim := { program := "ytmkbdjekidcfaaa", sum := "8112b7db11b946eeace3b5eca862ee2cc215dd603072b59858e1d6ec4808b295", func := "conduit/conduitlaw22.ShutFirst", spec := "shutFirst", unfollowed := true, recurses := true, apart := false }
def ShutFirstSaid : Prop := shutFirstRow.holds Try.pinned (OpenSpec.ofChange shutFirstSpec)

/-- ITS FALSE NEIGHBOUR: 'it returns false'. Refute it at one input. -/
def shutFirstWrong : ChangeSpec := { name := "shutFirst", fn := fun _ => fun
  | [d] => { results := [.lit (.bool false)], args := [d] }
  | _ => none }
def ShutFirstWrongFalsely : Prop := shutFirstRow.holds Try.pinned (OpenSpec.ofChange shutFirstWrong)

/-- 'conduitlaw22.ShutFewer': WHATEVER THE INPUT: true; the input reads as it did. -/
def shutFewerSpec : ChangeSpec := { name := "shutFewer", fn := fun _ => fun
  | [d1, d2] => { results := [.lit (.bool true)], args := [d1, d2] }
  | _ => none }
def shutFewerRow : OpenClaim := { program := "ytmkbdjekidcfaaa", sum := "8112b7db11b946eeace3b5eca862ee2cc215dd603072b59858e1d6ec4808b295", func := "conduit/conduitlaw22.ShutFewer", spec := "shutFewer", unfollowed := true, recurses := true, apart := false }
def ShutFewerSaid : Prop := shutFewerRow.holds Try.pinned (OpenSpec.ofChange shutFewerSpec)

/-- ITS FALSE NEIGHBOUR: 'it returns false'. Refute it at one input. -/
def shutFewerWrong : ChangeSpec := { name := "shutFewer", fn := fun _ => fun
  | [d1, d2] => { results := [.lit (.bool false)], args := [d1, d2] }
  | _ => none }
def ShutFewerWrongFalsely : Prop := shutFewerRow.holds Try.pinned (OpenSpec.ofChange shutFewerWrong)

/-- 'conduitlaw22.ShutCloses': WHATEVER THE INPUT: true; the input reads as it did. -/
def shutClosesSpec : ChangeSpec := { name := "shutCloses", fn := fun _ => fun
  | [d1, d2] => { results := [.lit (.bool true)], args := [d1, d2] }
  | _ => none }
def shutClosesRow : OpenClaim := { program := "ytmkbdjekidcfaaa", sum := "8112b7db11b946eeace3b5eca862ee2cc215dd603072b59858e1d6ec4808b295", func := "conduit/conduitlaw22.ShutCloses", spec := "shutCloses", inPlace := ["sync/atomic.LoadUint32", "(*internal/sync.Mutex).Lock", "internal/race.Disable", "sync/atomic.CompareAndSwapInt32", "internal/race.Enable", "internal/race.Acquire", "(*internal/sync.Mutex).lockSlow", "internal/sync.runtime_canSpin", "internal/sync.runtime_doSpin", "internal/sync.throw", "internal/sync.runtime_nanotime", "internal/sync.runtime_SemacquireMutex", "sync/atomic.AddInt32", "(*internal/sync.Mutex).Unlock", "internal/race.ReleaseMerge", "(*internal/sync.Mutex).unlockSlow", "internal/sync.fatal", "internal/sync.runtime_Semrelease", "sync/atomic.StoreUint32"], unfollowed := true, recurses := true, loops := true, apart := false }
def ShutClosesSaid : Prop := shutClosesRow.holds Try.pinned (OpenSpec.ofChange shutClosesSpec)

/-- ITS FALSE NEIGHBOUR: 'it returns false'. Refute it at one input. -/
def shutClosesWrong : ChangeSpec := { name := "shutCloses", fn := fun _ => fun
  | [d1, d2] => { results := [.lit (.bool false)], args := [d1, d2] }
  | _ => none }
def ShutClosesWrongFalsely : Prop := shutClosesRow.holds Try.pinned (OpenSpec.ofChange shutClosesWrong)

/- THE SECOND FORM. 'bulk': how many values and letters a reading holds, each counted each time it is reached (what is shared counts as often as it is met; a slice's spare places count too). A statement '..UptoSaid' is the law's where the arguments, and the package variables that the reading takes, are together of bulk at most 1048576: NARROWER than '..Said'. Prove '..Said' where nothing that the law and all that it calls make is longer than what came in: it says more and counts as full. Else prove '..UptoSaid'. A law counts once. -/
mutual
def uptoBulk {H : Type} : DataW H → Nat
  | .lit (.string bytes) => bytes.length + 1
  | .lit _ => 1
  | .nil => 1
  | .ptr d => uptoBulk d + 1
  | .slice elems spare => uptoBulkAll elems + uptoBulkAll spare + 1
  | .agg parts => uptoBulkAll parts + 1
  | .iface _ d => uptoBulk d + 1
  | .map entries => uptoBulkEntries entries + 1
  | .held _ => 1
def uptoBulkAll {H : Type} : List (DataW H) → Nat
  | [] => 0
  | d :: r => uptoBulk d + uptoBulkAll r
def uptoBulkEntries {H : Type} : List (Lit × DataW H) → Nat
  | [] => 0
  | x :: r => uptoBulkEntry x + uptoBulkEntries r
def uptoBulkEntry {H : Type} : Lit × DataW H → Nat
  | (.string bytes, d) => bytes.length + uptoBulk d + 1
  | (_, d) => uptoBulk d + 1
 end
def uptoSmall : (H : Type) → List (DataW H) → Bool := fun _ ds => decide (uptoBulkAll ds ≤ 1048576)
def OpenSpec.upto (s : _root_.Go.ChangeSpec) : _root_.Go.OpenSpec := { _root_.Go.OpenSpec.ofChange s with cond := some uptoSmall }

/-- 'conduitlaw22.ShutOrders', WHERE WHAT IT READS IS OF BULK AT MOST 1048576: true; the input reads as it did. -/
def shutOrdersUptoRow : OpenClaim := { program := "ytmkbdjekidcfaaa", sum := "8112b7db11b946eeace3b5eca862ee2cc215dd603072b59858e1d6ec4808b295", func := "conduit/conduitlaw22.ShutOrders", spec := "shutOrders", unfollowed := true, recurses := true, apart := false, narrowed := true }
def ShutOrdersUptoSaid : Prop := shutOrdersUptoRow.holds Try.pinned (OpenSpec.upto shutOrdersSpec)

/-- 'conduitlaw22.ShutFirst', WHERE WHAT IT READS IS OF BULK AT MOST 1048576: true; the input reads as it did. -/
def shutFirstUptoRow : OpenClaim := { program := "ytmkbdjekidcfaaa", sum := "8112b7db11b946eeace3b5eca862ee2cc215dd603072b59858e1d6ec4808b295", func := "conduit/conduitlaw22.ShutFirst", spec := "shutFirst", unfollowed := true, recurses := true, apart := false, narrowed := true }
def ShutFirstUptoSaid : Prop := shutFirstUptoRow.holds Try.pinned (OpenSpec.upto shutFirstSpec)

/-- 'conduitlaw22.ShutFewer', WHERE WHAT IT READS IS OF BULK AT MOST 1048576: true; the input reads as it did. -/
def shutFewerUptoRow : OpenClaim := { program := "ytmkbdjekidcfaaa", sum := "8112b7db11b946eeace3b5eca862ee2cc215dd603072b59858e1d6ec4808b295", func := "conduit/conduitlaw22.ShutFewer", spec := "shutFewer", unfollowed := true, recurses := true, apart := false, narrowed := true }
def ShutFewerUptoSaid : Prop := shutFewerUptoRow.holds Try.pinned (OpenSpec.upto shutFewerSpec)

/-- 'conduitlaw22.ShutCloses', WHERE WHAT IT READS IS OF BULK AT MOST 1048576: true; the input reads as it did. -/
def shutClosesUptoRow : OpenClaim := { program := "ytmkbdjekidcfaaa", sum := "8112b7db11b946eeace3b5eca862ee2cc215dd603072b59858e1d6ec4808b295", func := "conduit/conduitlaw22.ShutCloses", spec := "shutCloses", inPlace := ["sync/atomic.LoadUint32", "(*internal/sync.Mutex).Lock", "internal/race.Disable", "sync/atomic.CompareAndSwapInt32", "internal/race.Enable", "internal/race.Acquire", "(*internal/sync.Mutex).lockSlow", "internal/sync.runtime_canSpin", "internal/sync.runtime_doSpin", "internal/sync.throw", "internal/sync.runtime_nanotime", "internal/sync.runtime_SemacquireMutex", "sync/atomic.AddInt32", "(*internal/sync.Mutex).Unlock", "internal/race.ReleaseMerge", "(*internal/sync.Mutex).unlockSlow", "internal/sync.fatal", "internal/sync.runtime_Semrelease", "sync/atomic.StoreUint32"], unfollowed := true, recurses := true, loops := true, apart := false, narrowed := true }
def ShutClosesUptoSaid : Prop := shutClosesUptoRow.holds Try.pinned (OpenSpec.upto shutClosesSpec)

end Rows
end Go.Proofs.Ytmkbdjekidcfaaa
