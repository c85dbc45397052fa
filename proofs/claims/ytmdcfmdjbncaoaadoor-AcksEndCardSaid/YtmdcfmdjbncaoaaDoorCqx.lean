/- AcksSend met with its arguments as they come in. -/
import Derived.Test.YtmdcfmdjbncaoaaDoorCq
import Derived.Test.YtmdcfmdjbncaoaaDoorBo
namespace Go.Proofs.YtmdcfmdjbncaoaaDoor
open Go.RowKit Go.ChangeShapes Go.WideShapes Go.Deep
theorem qcSent : Tryd.prog.cellsOf 62 = 15 := by kernel_rfl
theorem qcPol : Tryd.prog.cellsOf 52 = 3 := by kernel_rfl
section
variable {H : Type} {enc : TypeId × Value → H} {w : World} {spare : Nat → Bool} {held : Bool}
set_option maxRecDepth 100000 in
theorem open_sent (fuel : Nat) (cs : List Value) (x : DataW H × List MemPlace) (h : DataW.trod enc Tryd.prog w 0 spare held fuel 62 cs = some x) : ∃ t : SX, IsS w (· < w.heap.size) t cs := by
  obtain ⟨ys, n, -, -, hlen, hyl, hf⟩ := DataW.trod_struct Tryd.underlying62 h
  rw [qcSent] at hlen
  match cs, hlen with
  | [c0, c1, c2, c3, c4, c5, c6, c7, c8, c9, c10, c11, c12, c13, c14], _ =>
    match ys, hyl with
    | [y0, y1, y2], _ =>
      have g0 : DataW.trod enc Tryd.prog w 0 spare held n 30 [c0, c1, c2, c3, c4, c5, c6, c7, c8, c9, c10, c11, c12] = some y0 := by simpa [qcInt, qcI64, qcMsg] using hf 0 _ rfl
      have g1 : DataW.trod enc Tryd.prog w 0 spare held n 2 [c13] = some y1 := by simpa [qcInt, qcI64, qcMsg] using hf 1 _ rfl
      have g2 : DataW.trod enc Tryd.prog w 0 spare held n 2 [c14] = some y2 := by simpa [qcInt, qcI64, qcMsg] using hf 2 _ rfl
      obtain ⟨m, hm⟩ := open_msg n _ _ g0
      obtain ⟨i1, h1, -, -⟩ := DataW.trod_int Tryd.underlying2 g1
      obtain ⟨i2, h2, -, -⟩ := DataW.trod_int Tryd.underlying2 g2
      simp at h1 h2
      subst h1 h2
      exact ⟨⟨m, i1, i2⟩, _, hm, rfl⟩
set_option maxRecDepth 100000 in
theorem open_policy (fuel : Nat) (cs : List Value) (x : DataW H × List MemPlace) (h : DataW.trod enc Tryd.prog w 0 spare held fuel 52 cs = some x) : ∃ p : PX, cs = [.int .i64 p.tries, .int .i64 p.base, .int .i64 p.most] := by
  obtain ⟨ys, n, -, -, hlen, hyl, hf⟩ := DataW.trod_struct Tryd.underlying52 h
  rw [qcPol] at hlen
  match cs, hlen with
  | [c0, c1, c2], _ =>
    match ys, hyl with
    | [y0, y1, y2], _ =>
      have g0 : DataW.trod enc Tryd.prog w 0 spare held n 2 [c0] = some y0 := by simpa [qcInt, qcI64, qcMsg] using hf 0 _ rfl
      have g1 : DataW.trod enc Tryd.prog w 0 spare held n 2 [c1] = some y1 := by simpa [qcInt, qcI64, qcMsg] using hf 1 _ rfl
      have g2 : DataW.trod enc Tryd.prog w 0 spare held n 2 [c2] = some y2 := by simpa [qcInt, qcI64, qcMsg] using hf 2 _ rfl
      obtain ⟨i0, h0, -, -⟩ := DataW.trod_int Tryd.underlying2 g0
      obtain ⟨i1, h1, -, -⟩ := DataW.trod_int Tryd.underlying2 g1
      obtain ⟨i2, h2, -, -⟩ := DataW.trod_int Tryd.underlying2 g2
      simp at h0 h1 h2
      subst h0 h1 h2
      exact ⟨⟨i0, i1, i2⟩, rfl⟩
end
set_option maxRecDepth 100000 in
theorem sents_arg {H : Type} {enc : TypeId × Value → H} {W : World} {base : Nat} {v : Value} {d : DataW H} {q : List MemPlace} (ok : Value.okWide Tryd.prog W .any base 50 v)
    (tr : DataW.Trod enc Tryd.prog W 0 (fun _ => true) true 50 v d q) : ∃ l : List SX, ∃ a n c, v = .slice a n c ∧ RS W (· < W.heap.size) l a n c := by
  obtain ⟨x, n, c, rfl⟩ := okWide_slice Tryd.underlying50 ok
  obtain ⟨fuel, hf⟩ := tr
  obtain ⟨l, a1, n1, c1, hc, hr⟩ := open_rows (E := IsS W (· < W.heap.size)) (sz := 15) Tryd.underlying50 qcSent (fun m cs x _ h => open_sent m cs x h) hf (by omega)
  simp [Value.cells] at hc
  obtain ⟨rfl, rfl, rfl⟩ := hc
  exact ⟨l, _, _, _, rfl, hr⟩
set_option maxRecDepth 100000 in
theorem policy_arg {H : Type} {enc : TypeId × Value → H} {W : World} {base : Nat} {v : Value} {d : DataW H} {q : List MemPlace} (ok : Value.okWide Tryd.prog W .any base 52 v)
    (tr : DataW.Trod enc Tryd.prog W 0 (fun _ => true) true 52 v d q) : ∃ p : PX, v = .agg #[.int .i64 p.tries, .int .i64 p.base, .int .i64 p.most] := by
  obtain ⟨cs, rfl, -⟩ := okWide_struct Tryd.underlying52 ok
  obtain ⟨fuel, hf⟩ := tr
  obtain ⟨p, hc⟩ := open_policy fuel _ _ hf
  refine ⟨p, ?_⟩
  have h1 : cs.toList = [.int .i64 p.tries, .int .i64 p.base, .int .i64 p.most] := by simpa [Value.cells] using hc
  have h2 : cs = #[.int .i64 p.tries, .int .i64 p.base, .int .i64 p.most] := by rw [← Array.toArray_toList (xs := cs), h1]
  rw [h2]
set_option maxRecDepth 100000 in
theorem walk_AcksSend {H : Type} {enc : TypeId × Value → H} {base : Nat} (v v1 v2 : Value) (now : Int) {d d1 d2 : DataW H} {q q1 q2 : List MemPlace} (W : World) (ok : Value.okWide Tryd.prog W .any base 50 v)
    (tr : DataW.Trod enc Tryd.prog W 0 (fun _ => true) true 50 v d q) (ok1 : Value.okWide Tryd.prog W .any base 52 v1)
    (tr1 : DataW.Trod enc Tryd.prog W 0 (fun _ => true) true 52 v1 d1 q1) (ok2 : Value.okWide Tryd.prog W .any base 30 v2)
    (tr2 : DataW.Trod enc Tryd.prog W 0 (fun _ => true) true 30 v2 d2 q2) (_ : (Lit.int .i64 now).wf = true) (hT : Tabs W) :
    Calls Tryd.prog 6 #[v, v1, v2, .int .i64 now] W fun e w' => e = .returned (.bool true) ∧ Below W.heap.size W w' := by
  obtain ⟨l, a, n, c, rfl, hr⟩ := sents_arg ok tr
  obtain ⟨p, rfl⟩ := policy_arg ok1 tr1
  obtain ⟨m, cs, rfl, hm⟩ := msg_arg ok2 tr2
  exact asend_go l p m now cs a n c W hr hm hT
end Go.Proofs.YtmdcfmdjbncaoaaDoor
