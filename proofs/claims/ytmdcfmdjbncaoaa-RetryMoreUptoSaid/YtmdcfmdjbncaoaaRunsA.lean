/- RetryRuns: the arguments opened. -/
import Derived.Test.YtmdcfmdjbncaoaaRunsW
namespace Go.Proofs.Ytmdcfmdjbncaoaa
open Go.RowKit Go.ChangeShapes Go.WideShapes Go.Deep

theorem results_arg {H : Type} {enc : TypeId × Value → H} {W : World} {base : Nat} {v : Value} {d : DataW H} {p : List MemPlace} (ok : Value.okWide Try.prog W .any base 34 v)
    (tr : DataW.Trod enc Try.prog W 0 (fun _ => true) true 34 v d p) : ∃ (ps : List (RV × Tree)) (a : Option Addr) (n c : Nat), v = .slice a n c ∧ RowsOf (ER W (· < W.heap.size)) 10 W (· < W.heap.size) ps a n c := by
  obtain ⟨a, n, c, rfl⟩ := okWide_slice Try.underlying34 ok
  obtain ⟨fuel, hf⟩ := tr
  obtain ⟨ps, a', n', c', hc, hr⟩ := open_rows (E := ER W (· < W.heap.size)) (sz := 10) Try.underlying34 cellsRes (fun m cs x _ h => by obtain ⟨q, h1, h2⟩ := open_result m cs x h; exact ⟨q, h1, h2⟩) hf (by omega)
  simp [Value.cells] at hc
  obtain ⟨rfl, rfl, rfl⟩ := hc
  exact ⟨ps, a, n, c, rfl, hr⟩

theorem walk_RetryRuns {H : Type} {enc : TypeId × Value → H} {base : Nat} (most : Int) (v : Value) {d : DataW H} {p : List MemPlace} (W : World) (wm : (Lit.int .i64 most).wf = true) (ok : Value.okWide Try.prog W .any base 34 v)
    (tr : DataW.Trod enc Try.prog W 0 (fun _ => true) true 34 v d p) : Calls Try.prog 4 #[.int .i64 most, v] W fun e w' => e = .returned (.bool true) ∧ Below W.heap.size W w' := by
  obtain ⟨ps, a, n, c, rfl, hr⟩ := results_arg ok tr
  exact runs_go most ps a n c W (bounds_i64 wm).2 hr
end Go.Proofs.Ytmdcfmdjbncaoaa
