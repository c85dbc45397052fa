/- BufferPuts met with its arguments as they come in. -/
import Derived.Test.YtmdcfmdjbncaoaaDoorBe
import Derived.Test.YtmdcfmdjbncaoaaDoorBo
namespace Go.Proofs.YtmdcfmdjbncaoaaDoor
open Go.RowKit Go.ChangeShapes Go.WideShapes Go.Deep
theorem qcBuf : Tryd.prog.cellsOf 24 = 2 := by kernel_rfl
section
variable {H : Type} {enc : TypeId × Value → H} {w : World} {spare : Nat → Bool} {held : Bool}
set_option maxRecDepth 100000 in
theorem open_buffer (fuel : Nat) (cs : List Value) (x : DataW H × List MemPlace) (h : DataW.trod enc Tryd.prog w 0 spare held fuel 24 cs = some x) :
    ∃ l : List MX, ∃ since : Int, ∃ a n c, cs = [.slice a n c, .int .i64 since] ∧ RM w (· < w.heap.size) l a n c := by
  obtain ⟨ys, n, -, -, hlen, hyl, hf⟩ := DataW.trod_struct Tryd.underlying24 h
  rw [qcBuf] at hlen
  match cs, hlen with
  | [c0, c1], _ =>
    match ys, hyl with
    | [y0, y1], _ =>
      have g0 : DataW.trod enc Tryd.prog w 0 spare held n 22 [c0] = some y0 := by simpa [qcMsgs, qcI64] using hf 0 _ rfl
      have g1 : DataW.trod enc Tryd.prog w 0 spare held n 2 [c1] = some y1 := by simpa [qcMsgs, qcI64] using hf 1 _ rfl
      obtain ⟨l, a, m, c, h0, hr⟩ := open_msgs n _ _ g0
      obtain ⟨i1, h1, -, -⟩ := DataW.trod_int Tryd.underlying2 g1
      simp at h0 h1
      subst h0 h1
      exact ⟨l, i1, a, m, c, rfl, hr⟩
end
set_option maxRecDepth 100000 in
theorem buffer_arg {H : Type} {enc : TypeId × Value → H} {W : World} {base : Nat} {v : Value} {d : DataW H} {p : List MemPlace} (ok : Value.okWide Tryd.prog W .any base 24 v)
    (tr : DataW.Trod enc Tryd.prog W 0 (fun _ => true) true 24 v d p) : ∃ l : List MX, ∃ since : Int, ∃ a n c, v = .agg #[.slice a n c, .int .i64 since] ∧ RM W (· < W.heap.size) l a n c := by
  obtain ⟨cs, rfl, -⟩ := okWide_struct Tryd.underlying24 ok
  obtain ⟨fuel, hf⟩ := tr
  obtain ⟨l, since, a, n, c, hc, hr⟩ := open_buffer fuel _ _ hf
  refine ⟨l, since, a, n, c, ?_, hr⟩
  have h1 : cs.toList = [.slice a n c, .int .i64 since] := by simpa [Value.cells] using hc
  have h2 : cs = #[.slice a n c, .int .i64 since] := by rw [← Array.toArray_toList (xs := cs), h1]
  rw [h2]
set_option maxRecDepth 100000 in
theorem walk_BufferPuts {H : Type} {enc : TypeId × Value → H} {base : Nat} (v : Value) (a0 now : Int) (v' : Value) {d d' : DataW H} {p p' : List MemPlace} (W : World) (ok : Value.okWide Tryd.prog W .any base 24 v)
    (tr : DataW.Trod enc Tryd.prog W 0 (fun _ => true) true 24 v d p) (_ : (Lit.int .i64 a0).wf = true) (_ : (Lit.int .i64 now).wf = true) (ok' : Value.okWide Tryd.prog W .any base 30 v')
    (tr' : DataW.Trod enc Tryd.prog W 0 (fun _ => true) true 30 v' d' p') (hT : Tabs W) : Calls Tryd.prog 3 #[v, .int .i64 a0, .int .i64 now, v'] W fun e w' => e = .returned (.bool true) ∧ Below W.heap.size W w' := by
  obtain ⟨l, since, a, n, c, rfl, hr⟩ := buffer_arg ok tr
  obtain ⟨m, cs, rfl, hm⟩ := msg_arg ok' tr'
  exact bputs_go l since a0 now m cs a n c W hr hm hT
end Go.Proofs.YtmdcfmdjbncaoaaDoor
