/- QueueLoses met with its arguments as they come in. -/
import Derived.Test.YtmdcfmdjbncaoaaQlw
import Derived.Test.YtmdcfmdjbncaoaaQo
namespace Go.Proofs.Ytmdcfmdjbncaoaa
open Go.RowKit Go.ChangeShapes Go.WideShapes Go.Deep
theorem qcBool : Try.prog.cellsOf 4 = 1 := by kernel_rfl
section
variable {H : Type} {enc : TypeId × Value → H} {w : World} {spare : Nat → Bool} {held : Bool}
theorem open_prio (fuel : Nat) (cs : List Value) (x : DataW H × List MemPlace) (h : DataW.trod enc Try.prog w 0 spare held fuel 48 cs = some x) : cs.length = 13 ∧ ∃ p, cs[11]? = some (.int .i64 p) ∧ (Lit.int .i64 p).wf = true := by
  obtain ⟨ys, n, -, -, hlen, hyl, hf⟩ := DataW.trod_struct Try.underlying48 h
  rw [qcMsg] at hlen
  refine ⟨hlen, ?_⟩
  match cs, hlen with
  | [c0, c1, c2, c3, c4, c5, c6, c7, c8, c9, c10, c11, c12], _ =>
    match ys, hyl with
    | [y0, y1, y2, y3, y4, y5, y6, y7, y8], _ =>
      have g7 : DataW.trod enc Try.prog w 0 spare held n 3 [c11] = some y7 := by simpa [qcInt, qcI64, qcStr, qcDat] using hf 7 _ rfl
      obtain ⟨i7, h7, -, w7⟩ := DataW.trod_int Try.underlying3 g7
      simp at h7
      subst h7
      exact ⟨i7, rfl, w7⟩
theorem open_bool1 (fuel : Nat) (cs : List Value) (x : DataW H × List MemPlace) (h : DataW.trod enc Try.prog w 0 spare held fuel 4 cs = some x) : ∃ b, cs = [.bool b] := by
  obtain ⟨b, h1, -⟩ := DataW.trod_bool Try.underlying4 h
  exact ⟨b, h1⟩
end
theorem walk_QueueLoses {H : Type} {enc : TypeId × Value → H} {base : Nat} (room drop : Int) (v v' : Value) {d d' : DataW H} {p p' : List MemPlace} (W : World) (_ : (Lit.int .i64 room).wf = true) (_ : (Lit.int .i64 drop).wf = true)
    (ok : Value.okWide Try.prog W .any base 44 v) (tr : DataW.Trod enc Try.prog W 0 (fun _ => true) true 44 v d p) (ok' : Value.okWide Try.prog W .any base 58 v') (tr' : DataW.Trod enc Try.prog W 0 (fun _ => true) true 58 v' d' p') :
    Calls Try.prog 8 #[.int .i64 room, .int .i64 drop, v, v'] W fun e w' => e = .returned (.bool true) ∧ Below W.heap.size W w' := by
  obtain ⟨a, n, c, rfl⟩ := okWide_slice Try.underlying44 ok
  obtain ⟨fuel, hf⟩ := tr
  obtain ⟨ps, a1, n1, c1, hc, hr⟩ := open_rows (E := fun (p : Int) cs => cs[11]? = some (.int .i64 p) ∧ (Lit.int .i64 p).wf = true) (sz := 13) Try.underlying44 qcMsg (fun m cs x _ h => (open_prio m cs x h).2) hf (by omega)
  simp [Value.cells] at hc
  obtain ⟨rfl, rfl, rfl⟩ := hc
  obtain ⟨a2, n2, c2, rfl⟩ := okWide_slice Try.underlying58 ok'
  obtain ⟨fuel', hf'⟩ := tr'
  obtain ⟨ts, a3, n3, c3, hc', hr'⟩ := open_rows (E := fun (b : Bool) cs => cs = [.bool b]) (sz := 1) Try.underlying58 qcBool (fun m cs x _ h => open_bool1 m cs x h) hf' (by omega)
  simp [Value.cells] at hc'
  obtain ⟨rfl, rfl, rfl⟩ := hc'
  exact qloses_go room drop ps a n c ts a2 n2 c2 W hr hr'
end Go.Proofs.Ytmdcfmdjbncaoaa
