/- RetryMore: the arguments opened. -/
import Derived.Test.YtmdcfmdjbncaoaaMoreW
import Derived.Test.YtmdcfmdjbncaoaaRunsA
import Derived.Test.YtmdcfmdjbncaoaaBulk
namespace Go.Proofs.Ytmdcfmdjbncaoaa
open Go.RowKit Go.ChangeShapes Go.WideShapes Go.Deep

theorem walk_RetryMore {H : Type} {enc : TypeId × Value → H} {base : Nat} (tries more : Int) (v v' : Value) {d d' : DataW H} {p p' : List MemPlace} {ds : List (DataW H)} (W : World) (wt : (Lit.int .i64 tries).wf = true) (wm : (Lit.int .i64 more).wf = true) (ok : Value.okWide Try.prog W .any base 34 v)
    (tr : DataW.Trod enc Try.prog W 0 (fun _ => true) true 34 v d p) (ok' : Value.okWide Try.prog W .any base 34 v')
    (tr' : DataW.Trod enc Try.prog W 0 (fun _ => true) true 34 v' d' p') (hk : Rows.uptoSmall H ds = true) (hd : d ∈ ds) (hd' : d' ∈ ds) : Calls Try.prog 5 #[.int .i64 tries, .int .i64 more, v, v'] W fun e w' => e = .returned (.bool true) ∧ Below W.heap.size W w' := by
  obtain ⟨ps, a, n, c, rfl, hr⟩ := results_arg ok tr
  obtain ⟨qs, a', n', c', rfl, hr'⟩ := results_arg ok' tr'
  exact more_go tries more ps qs a a' n c n' c' W (bounds_i64 wt).2 (bounds_i64 wm).2 hr hr' (Nat.le_trans (slice_bulk Try.underlying34 tr) (bulk_bound hk hd)) (Nat.le_trans (slice_bulk Try.underlying34 tr') (bulk_bound hk hd'))
end Go.Proofs.Ytmdcfmdjbncaoaa
