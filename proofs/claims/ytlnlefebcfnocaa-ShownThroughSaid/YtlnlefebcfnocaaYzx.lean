/- ShownThrough met with its arguments as they come in. -/
import Derived.Test.YtlnlefebcfnocaaYz
namespace Go.Proofs.Ytlnlefebcfnocaa
open Go.RowKit Go.ChangeShapes Go.WideShapes Go.Deep
theorem walk_ShownThrough {H : Type} {enc : TypeId × Value → H} {base : Nat} (v : Value) (m : Int) {d : DataW H} {p : List MemPlace} (W : World) (ok : Value.okWide Try.prog W .any base 28 v)
    (tr : DataW.Trod enc Try.prog W 0 (fun _ => true) true 28 v d p) (_ : (Lit.int .i64 m).wf = true) : Calls Try.prog 6 #[v, .int .i64 m] W fun e w' => e = .returned (.bool true) ∧ Below W.heap.size W w' := by
  obtain ⟨op, num, c, ws, a, n, d, rfl, hw, hc⟩ := chain_arg ok tr
  exact through_go W op num c m ws a n d hw hc
end Go.Proofs.Ytlnlefebcfnocaa
