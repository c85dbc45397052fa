/- ShownGrows met with its arguments as they come in. -/
import Derived.Test.YtlnlefebcfnocaaYg
namespace Go.Proofs.Ytlnlefebcfnocaa
open Go.RowKit Go.ChangeShapes Go.WideShapes Go.Deep
theorem walk_ShownGrows {H : Type} {enc : TypeId × Value → H} {base : Nat} (v : Value) (m : Int) {d : DataW H} {p : List MemPlace} (W : World) (ok : Value.okWide Try.prog W .any base 28 v)
    (tr : DataW.Trod enc Try.prog W 0 (fun _ => true) true 28 v d p) (hm : (Lit.int .u32 m).wf = true) : Calls Try.prog 4 #[v, .int .u32 m] W fun e w' => e = .returned (.bool true) ∧ Below W.heap.size W w' := by
  obtain ⟨op, num, c, ws, a, n, d, rfl, hw, hc⟩ := chain_arg ok tr
  obtain ⟨k, rfl, hk⟩ := u32_of hm
  exact grows_go W op num c k ws a n d hw hc hk
end Go.Proofs.Ytlnlefebcfnocaa
