/- BufferTicks met with its arguments as they come in. -/
import Derived.Test.YtmdcfmdjbncaoaaDoorBt
import Derived.Test.YtmdcfmdjbncaoaaDoorBpx
namespace Go.Proofs.YtmdcfmdjbncaoaaDoor
open Go.RowKit Go.ChangeShapes Go.WideShapes Go.Deep
set_option maxRecDepth 100000 in
theorem walk_BufferTicks {H : Type} {enc : TypeId × Value → H} {base : Nat} (v : Value) (a0 b now : Int) {d : DataW H} {p : List MemPlace} (W : World) (ok : Value.okWide Tryd.prog W .any base 24 v)
    (tr : DataW.Trod enc Tryd.prog W 0 (fun _ => true) true 24 v d p) (_ : (Lit.int .i64 a0).wf = true) (_ : (Lit.int .i64 b).wf = true) (_ : (Lit.int .i64 now).wf = true)
    (hT : Tabs W) : Calls Tryd.prog 4 #[v, .int .i64 a0, .int .i64 b, .int .i64 now] W fun e w' => e = .returned (.bool true) ∧ Below W.heap.size W w' := by
  obtain ⟨l, since, a, n, c, rfl, hr⟩ := buffer_arg ok tr
  exact bticks_go l since a0 b now a n c W hr hT
end Go.Proofs.YtmdcfmdjbncaoaaDoor
