/- QueueTakes met with its arguments as they come in. -/
import Derived.Test.YtmdcfmdjbncaoaaQtw
import Derived.Test.YtmdcfmdjbncaoaaQo
namespace Go.Proofs.Ytmdcfmdjbncaoaa
open Go.RowKit Go.ChangeShapes Go.WideShapes Go.Deep
theorem walk_QueueTakes {H : Type} {enc : TypeId × Value → H} {base : Nat} (v : Value) (now : Int) {d : DataW H} {p : List MemPlace} (W : World) (ok : Value.okWide Try.prog W .any base 46 v)
    (tr : DataW.Trod enc Try.prog W 0 (fun _ => true) true 46 v d p) (_ : (Lit.int .i64 now).wf = true) : Calls Try.prog 9 #[v, .int .i64 now] W fun e w' => e = .returned (.bool true) ∧ Below W.heap.size W w' := by
  obtain ⟨q, a, n, c, rfl, hr⟩ := inbox_arg ok tr
  exact qtakes_go q a n c W now hr
end Go.Proofs.Ytmdcfmdjbncaoaa
