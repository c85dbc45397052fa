/- The plain law of the inbox: what Put, Take and Late give. -/
import Derived.Test.YtmdcfmdjbncaoaaMs
namespace Go.Proofs.Ytmdcfmdjbncaoaa
open Go.RowKit

def atM (l : List MX) (i : Nat) : MX := l[i]?.getD zeroM
/-- The place of the first of the least priority, among the first i. -/
def lowI (l : List MX) : Nat → Nat
  | 0 => 0
  | i + 1 => if (atM l i).prio < (atM l (lowI l i)).prio then i else lowI l i
/-- The place of the first of the greatest priority, among the first i. -/
def highI (l : List MX) : Nat → Nat
  | 0 => 0
  | i + 1 => if (atM l (highI l i)).prio < (atM l i).prio then i else highI l i
theorem lowI_lt {l : List MX} (h : 0 < l.length) : ∀ {i : Nat}, i ≤ l.length → lowI l i < l.length
  | 0, _ => h
  | i + 1, hi => by
    rw [lowI]
    split
    · omega
    · exact lowI_lt h (by omega)
theorem highI_lt {l : List MX} (h : 0 < l.length) : ∀ {i : Nat}, i ≤ l.length → highI l i < l.length
  | 0, _ => h
  | i + 1, hi => by
    rw [highI]
    split
    · omega
    · exact highI_lt h (by omega)
theorem atM_get {l : List MX} {i : Nat} {x : MX} (h : l[i]? = some x) : atM l i = x := by rw [atM, h]; rfl
theorem atM_mem {l : List MX} {i : Nat} (h : i < l.length) : l[i]? = some (atM l i) := by rw [atM, List.getElem?_eq_getElem h]; rfl

structure QX where
  l : List MX
  r : Int
  d : Int

def putQ (q : QX) (room drop : Int) (m : MX) : QX × MX × Bool × Int :=
  if (q.l.length : Int) < room then (⟨q.l ++ [m], q.r, q.d⟩, zeroM, false, 0)
  else if drop = 0 then (⟨q.l, q.r, q.d + 1⟩, m, true, 0)
  else if drop = 1 then (⟨(q.l ++ [m]).eraseIdx (lowI (q.l ++ [m]) (q.l.length + 1)), q.r, q.d + 1⟩, atM (q.l ++ [m]) (lowI (q.l ++ [m]) (q.l.length + 1)), true, 0)
  else (⟨q.l, q.r + 1, q.d⟩, zeroM, false, 190)
def takeQ (q : QX) : QX × MX × Bool :=
  if q.l.length = 0 then (q, zeroM, false) else (⟨q.l.eraseIdx (highI q.l q.l.length), q.r, q.d⟩, atM q.l (highI q.l q.l.length), true)
def isLate (now : Int) (m : MX) : Bool := !decide (m.til = 0) && decide (m.til < now)
def lateQ (q : QX) (now : Int) : QX × List MX := (⟨q.l.filter fun m => !isLate now m, q.r, q.d + ((q.l.filter (isLate now)).length : Int)⟩, q.l.filter (isLate now))
end Go.Proofs.Ytmdcfmdjbncaoaa
