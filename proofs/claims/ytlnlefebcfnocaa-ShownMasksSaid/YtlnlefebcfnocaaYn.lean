/- ShownMasks met with its arguments as they come in. -/
import Derived.Test.YtlnlefebcfnocaaYm
namespace Go.Proofs.Ytlnlefebcfnocaa
open Go.RowKit Go.ChangeShapes Go.WideShapes Go.Deep
theorem walk_ShownMasks {H : Type} {enc : TypeId × Value → H} {base : Nat} (v : Value) (m1 m2 : Int) {d : DataW H} {p : List MemPlace} (W : World) (ok : Value.okWide Try.prog W .any base 28 v)
    (tr : DataW.Trod enc Try.prog W 0 (fun _ => true) true 28 v d p) (hm1 : (Lit.int .u32 m1).wf = true) (hm2 : (Lit.int .u32 m2).wf = true) : Calls Try.prog 3 #[v, .int .u32 m1, .int .u32 m2] W fun e w' => e = .returned (.bool true) ∧ Below W.heap.size W w' := by
  obtain ⟨op, num, c, ws, a, n, d, rfl, hw, hc⟩ := chain_arg ok tr
  obtain ⟨k1, rfl, hk1⟩ := u32_of hm1
  obtain ⟨k2, rfl, hk2⟩ := u32_of hm2
  exact masks_go W op num c k1 k2 ws a n d hw hc hk1 hk2
end Go.Proofs.Ytlnlefebcfnocaa
