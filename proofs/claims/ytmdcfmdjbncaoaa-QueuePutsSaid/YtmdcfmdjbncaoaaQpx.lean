/- QueuePuts met with its arguments as they come in. -/
import Derived.Test.YtmdcfmdjbncaoaaQpw
import Derived.Test.YtmdcfmdjbncaoaaQo
namespace Go.Proofs.Ytmdcfmdjbncaoaa
open Go.RowKit Go.ChangeShapes Go.WideShapes Go.Deep
theorem walk_QueuePuts {H : Type} {enc : TypeId × Value → H} {base : Nat} (v : Value) (room drop : Int) (v' : Value) {d d' : DataW H} {p p' : List MemPlace} (W : World) (ok : Value.okWide Try.prog W .any base 46 v)
    (tr : DataW.Trod enc Try.prog W 0 (fun _ => true) true 46 v d p) (_ : (Lit.int .i64 room).wf = true) (_ : (Lit.int .i64 drop).wf = true) (ok' : Value.okWide Try.prog W .any base 48 v')
    (tr' : DataW.Trod enc Try.prog W 0 (fun _ => true) true 48 v' d' p') : Calls Try.prog 7 #[v, .int .i64 room, .int .i64 drop, v'] W fun e w' => e = .returned (.bool true) ∧ Below W.heap.size W w' := by
  obtain ⟨q, a, n, c, rfl, hr⟩ := inbox_arg ok tr
  obtain ⟨m, cs, rfl, hm⟩ := msg_arg ok' tr'
  exact qputs_go q a n c W room drop m cs hr hm
end Go.Proofs.Ytmdcfmdjbncaoaa
