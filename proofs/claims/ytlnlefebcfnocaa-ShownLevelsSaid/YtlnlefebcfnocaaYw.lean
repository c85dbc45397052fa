/- ShownLevels met with its argument as it comes in. -/
import Derived.Test.YtlnlefebcfnocaaYu
namespace Go.Proofs.Ytlnlefebcfnocaa
open Go.RowKit Go.ChangeShapes Go.WideShapes Go.Deep
theorem walk_ShownLevels {H : Type} {enc : TypeId × Value → H} {base : Nat} (v : Value) {d : DataW H} {p : List MemPlace} (W : World) (ok : Value.okWide Try.prog W .any base 28 v)
    (tr : DataW.Trod enc Try.prog W 0 (fun _ => true) true 28 v d p) : Calls Try.prog 8 #[v] W fun e w' => e = .returned (.bool true) ∧ Below W.heap.size W w' := by
  obtain ⟨op, num, c, ws, a, n, d, rfl, hw, hc⟩ := chain_arg ok tr
  exact shownlevels_go W op num c ws a n d hw hc
end Go.Proofs.Ytlnlefebcfnocaa
