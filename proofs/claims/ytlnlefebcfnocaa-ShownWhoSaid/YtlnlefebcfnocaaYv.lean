/- ShownWho met with its arguments as they come in. -/
import Derived.Test.YtlnlefebcfnocaaYt
namespace Go.Proofs.Ytlnlefebcfnocaa
open Go.RowKit Go.ChangeShapes Go.WideShapes Go.Deep
theorem walk_ShownWho {H : Type} {enc : TypeId × Value → H} {base : Nat} (v : Value) (k : Int) {d : DataW H} {p : List MemPlace} (W : World) (ok : Value.okWide Try.prog W .any base 28 v)
    (tr : DataW.Trod enc Try.prog W 0 (fun _ => true) true 28 v d p) (_ : (Lit.int .i64 k).wf = true) : Calls Try.prog 5 #[v, .int .i64 k] W fun e w' => e = .returned (.bool true) ∧ Below W.heap.size W w' := by
  obtain ⟨op, num, c, ws, a, n, d, rfl, hw, hc⟩ := chain_arg ok tr
  exact shownwho_go W op num c k ws a n d hw hc
end Go.Proofs.Ytlnlefebcfnocaa
