/- Timer: TimerOnce met with its arguments, as the Upto statement gives them. -/
import Derived.Test.YtcgchccppoignaaRfP
import Derived.Test.YtcgchccppoignaaBulk
namespace Go.Proofs.Ytcgchccppoignaa
open Go.RowKit Go.ChangeShapes Go.WideShapes
theorem script_rows {H : Type} {enc : TypeId × Value → H} {base : Nat} {v : Value} {d : DataW H} {p : List MemPlace} {W : World} (ok : Value.okWide Try.prog W .any base 22 v) (tr : DataW.Trod enc Try.prog W 0 (fun _ => true) true 22 v d p) :
    ∃ l a n c, v = .slice a n c ∧ RowsOf AE 3 W (· < W.heap.size) l a n c := by
  obtain ⟨x, n, c, rfl⟩ := okWide_slice Try.underlying22 ok
  obtain ⟨fuel, hf⟩ := tr
  obtain ⟨l, a1, n1, c1, hc, hr⟩ := open_rows (E := AE) (sz := 3) Try.underlying22 qcAct (fun m cs x _ h => open_act m cs x h) hf (by omega)
  simp [Value.cells] at hc
  obtain ⟨rfl, rfl, rfl⟩ := hc
  exact ⟨l, _, _, _, rfl, hr⟩
theorem walk_TimerOnce {H : Type} {enc : TypeId × Value → H} {base : Nat} (now : Int) (v : Value) {d : DataW H} {p : List MemPlace} {ds : List (DataW H)} (W : World) (hn : (Lit.int .i64 now).wf = true) (ok : Value.okWide Try.prog W .any base 22 v)
    (tr : DataW.Trod enc Try.prog W 0 (fun _ => true) true 22 v d p) (hk : Rows.uptoSmall H ds = true) (hd : d ∈ ds) : Calls Try.prog 5 #[.int .i64 now, v] W fun e w' => e = .returned (.bool true) ∧ Below W.heap.size W w' := by
  obtain ⟨l, a, n, c, rfl, hr⟩ := script_rows ok tr
  exact once_go now hn l a n c W hr (Nat.le_trans (slice_bulk Try.underlying22 tr) (bulk_bound hk hd))
end Go.Proofs.Ytcgchccppoignaa
