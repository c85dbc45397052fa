/- Messages and inboxes as they come in. -/
import Derived.Test.YtmdcfmdjbncaoaaDoorBm
import Derived.DataShut
namespace Go.Proofs.YtmdcfmdjbncaoaaDoor
open Go.RowKit Go.ChangeShapes Go.WideShapes Go.Deep

theorem qcInt : Tryd.prog.cellsOf 3 = 1 := by kernel_rfl
theorem qcI64 : Tryd.prog.cellsOf 2 = 1 := by kernel_rfl
theorem qcStr : Tryd.prog.cellsOf 9 = 1 := by kernel_rfl
theorem qcDat : Tryd.prog.cellsOf 28 = 5 := by kernel_rfl
theorem qcMsg : Tryd.prog.cellsOf 30 = 13 := by kernel_rfl
theorem qcMsgs : Tryd.prog.cellsOf 22 = 1 := by kernel_rfl

section
variable {H : Type} {enc : TypeId × Value → H} {w : World} {spare : Nat → Bool} {held : Bool}
theorem open_datq (fuel : Nat) (cs : List Value) (x : DataW H × List MemPlace) (h : DataW.trod enc Tryd.prog w 0 spare held fuel 28 cs = some x) : ∃ t, IsD w (· < w.heap.size) t cs :=
  open_tree Tryd.underlying28 (by kernel_rfl) qcDat Tryd.underlying3 Tryd.underlying2 Tryd.underlying25 Tryd.underlying9 rfl Tryd.underlying26 fuel cs x h

set_option maxRecDepth 100000 in
theorem open_msg (fuel : Nat) (cs : List Value) (x : DataW H × List MemPlace) (h : DataW.trod enc Tryd.prog w 0 spare held fuel 30 cs = some x) : ∃ m, IsM w (· < w.heap.size) m cs := by
  obtain ⟨ys, n, -, -, hlen, hyl, hf⟩ := DataW.trod_struct Tryd.underlying30 h
  rw [qcMsg] at hlen
  match cs, hlen with
  | [c0, c1, c2, c3, c4, c5, c6, c7, c8, c9, c10, c11, c12], _ =>
    match ys, hyl with
    | [y0, y1, y2, y3, y4, y5, y6, y7, y8], _ =>
      have g0 : DataW.trod enc Tryd.prog w 0 spare held n 2 [c0] = some y0 := by simpa [qcInt, qcI64, qcStr, qcDat] using hf 0 _ rfl
      have g1 : DataW.trod enc Tryd.prog w 0 spare held n 9 [c1] = some y1 := by simpa [qcInt, qcI64, qcStr, qcDat] using hf 1 _ rfl
      have g2 : DataW.trod enc Tryd.prog w 0 spare held n 28 [c2, c3, c4, c5, c6] = some y2 := by simpa [qcInt, qcI64, qcStr, qcDat] using hf 2 _ rfl
      have g3 : DataW.trod enc Tryd.prog w 0 spare held n 2 [c7] = some y3 := by simpa [qcInt, qcI64, qcStr, qcDat] using hf 3 _ rfl
      have g4 : DataW.trod enc Tryd.prog w 0 spare held n 2 [c8] = some y4 := by simpa [qcInt, qcI64, qcStr, qcDat] using hf 4 _ rfl
      have g5 : DataW.trod enc Tryd.prog w 0 spare held n 9 [c9] = some y5 := by simpa [qcInt, qcI64, qcStr, qcDat] using hf 5 _ rfl
      have g6 : DataW.trod enc Tryd.prog w 0 spare held n 2 [c10] = some y6 := by simpa [qcInt, qcI64, qcStr, qcDat] using hf 6 _ rfl
      have g7 : DataW.trod enc Tryd.prog w 0 spare held n 3 [c11] = some y7 := by simpa [qcInt, qcI64, qcStr, qcDat] using hf 7 _ rfl
      have g8 : DataW.trod enc Tryd.prog w 0 spare held n 3 [c12] = some y8 := by simpa [qcInt, qcI64, qcStr, qcDat] using hf 8 _ rfl
      obtain ⟨i0, h0, -, -⟩ := DataW.trod_int Tryd.underlying2 g0
      obtain ⟨i1, h1, -, w1⟩ := DataW.trod_string Tryd.underlying9 g1
      obtain ⟨t, ht⟩ := open_datq n _ _ g2
      obtain ⟨i3, h3, -, -⟩ := DataW.trod_int Tryd.underlying2 g3
      obtain ⟨i4, h4, -, -⟩ := DataW.trod_int Tryd.underlying2 g4
      obtain ⟨i5, h5, -, w5⟩ := DataW.trod_string Tryd.underlying9 g5
      obtain ⟨i6, h6, -, -⟩ := DataW.trod_int Tryd.underlying2 g6
      obtain ⟨i7, h7, -, -⟩ := DataW.trod_int Tryd.underlying3 g7
      obtain ⟨i8, h8, -, -⟩ := DataW.trod_int Tryd.underlying3 g8
      simp at h0 h1 h3 h4 h5 h6 h7 h8
      subst h0 h1 h3 h4 h5 h6 h7 h8
      have ht' := ht
      obtain ⟨tk, ti, tb, ts, tl⟩ := t
      obtain ⟨a, c, he, -⟩ := ht'.open_
      simp at he
      obtain ⟨rfl, rfl, rfl, rfl, rfl⟩ := he
      exact ⟨⟨i0, i1, .node _ _ _ _ _, i3, i4, i5, i6, i7, i8⟩, _, _, _, _, _, _, _, rfl, ht, w1, w5⟩
theorem open_msgs (fuel : Nat) (cs : List Value) (x : DataW H × List MemPlace) (h : DataW.trod enc Tryd.prog w 0 spare held fuel 22 cs = some x) :
    ∃ l a n c, cs = [.slice a n c] ∧ RM w (· < w.heap.size) l a n c :=
  open_rows Tryd.underlying22 qcMsg (fun n' cs' x' _ h' => open_msg n' cs' x' h') h (by omega)
end

set_option maxRecDepth 100000 in
theorem msg_arg {H : Type} {enc : TypeId × Value → H} {W : World} {base : Nat} {v : Value} {d : DataW H} {p : List MemPlace} (ok : Value.okWide Tryd.prog W .any base 30 v)
    (tr : DataW.Trod enc Tryd.prog W 0 (fun _ => true) true 30 v d p) : ∃ m cs, v = .agg (List.toArray cs) ∧ IsM W (· < W.heap.size) m cs := by
  obtain ⟨cs, rfl, -⟩ := okWide_struct Tryd.underlying30 ok
  obtain ⟨fuel, hf⟩ := tr
  obtain ⟨m, hm⟩ := open_msg fuel _ _ hf
  exact ⟨m, cs.toList, by simp, hm⟩
end Go.Proofs.YtmdcfmdjbncaoaaDoor
