/- BufferWhole met with its arguments as they come in. -/
import Derived.Test.YtmdcfmdjbncaoaaDoorBd
import Derived.Test.YtmdcfmdjbncaoaaDoorBo
namespace Go.Proofs.YtmdcfmdjbncaoaaDoor
open Go.RowKit Go.ChangeShapes Go.WideShapes Go.Deep
theorem qcTurn : Tryd.prog.cellsOf 48 = 15 := by kernel_rfl
section
variable {H : Type} {enc : TypeId × Value → H} {w : World} {spare : Nat → Bool} {held : Bool}
set_option maxRecDepth 100000 in
theorem open_turn (fuel : Nat) (cs : List Value) (x : DataW H × List MemPlace) (h : DataW.trod enc Tryd.prog w 0 spare held fuel 48 cs = some x) : ∃ t : TX, IsT w (· < w.heap.size) t cs := by
  obtain ⟨ys, n, -, -, hlen, hyl, hf⟩ := DataW.trod_struct Tryd.underlying48 h
  rw [qcTurn] at hlen
  match cs, hlen with
  | [c0, c1, c2, c3, c4, c5, c6, c7, c8, c9, c10, c11, c12, c13, c14], _ =>
    match ys, hyl with
    | [y0, y1, y2], _ =>
      have g0 : DataW.trod enc Tryd.prog w 0 spare held n 3 [c0] = some y0 := by simpa [qcInt, qcI64, qcMsg] using hf 0 _ rfl
      have g1 : DataW.trod enc Tryd.prog w 0 spare held n 30 [c1, c2, c3, c4, c5, c6, c7, c8, c9, c10, c11, c12, c13] = some y1 := by simpa [qcInt, qcI64, qcMsg] using hf 1 _ rfl
      have g2 : DataW.trod enc Tryd.prog w 0 spare held n 2 [c14] = some y2 := by simpa [qcInt, qcI64, qcMsg] using hf 2 _ rfl
      obtain ⟨i0, h0, -, -⟩ := DataW.trod_int Tryd.underlying3 g0
      obtain ⟨m, hm⟩ := open_msg n _ _ g1
      obtain ⟨i2, h2, -, -⟩ := DataW.trod_int Tryd.underlying2 g2
      simp at h0 h2
      subst h0 h2
      exact ⟨⟨i0, m, i2⟩, _, hm, rfl⟩
end
set_option maxRecDepth 100000 in
theorem walk_BufferWhole {H : Type} {enc : TypeId × Value → H} {base : Nat} (a b : Int) (v : Value) {d : DataW H} {p : List MemPlace} (W : World) (_ : (Lit.int .i64 a).wf = true) (_ : (Lit.int .i64 b).wf = true)
    (ok : Value.okWide Tryd.prog W .any base 46 v) (tr : DataW.Trod enc Tryd.prog W 0 (fun _ => true) true 46 v d p) (hT : Tabs W) :
    Calls Tryd.prog 5 #[.int .i64 a, .int .i64 b, v] W fun e w' => e = .returned (.bool true) ∧ Below W.heap.size W w' := by
  obtain ⟨x, n, c, rfl⟩ := okWide_slice Tryd.underlying46 ok
  obtain ⟨fuel, hf⟩ := tr
  obtain ⟨ts, a1, n1, c1, hc, hr⟩ := open_rows (E := IsT W (· < W.heap.size)) (sz := 15) Tryd.underlying46 qcTurn (fun m cs x _ h => open_turn m cs x h) hf (by omega)
  simp [Value.cells] at hc
  obtain ⟨rfl, rfl, rfl⟩ := hc
  exact bwhole_go a b ts x n c W hT hr
end Go.Proofs.YtmdcfmdjbncaoaaDoor
