/- Results as they come in. -/
import Derived.Test.YtmdcfmdjbncaoaaTry
import Derived.Test.YtmdcfmdjbncaoaaAwk
namespace Go.Proofs.Ytmdcfmdjbncaoaa
open Go.RowKit Go.ChangeShapes Go.WideShapes Go.Deep

theorem cellsErr : Try.prog.cellsOf 22 = 1 := by kernel_rfl
theorem cellsI64 : Try.prog.cellsOf 2 = 1 := by kernel_rfl
theorem cellsPan : Try.prog.cellsOf 24 = 2 := by kernel_rfl
theorem cellsBool : Try.prog.cellsOf 4 = 1 := by kernel_rfl
theorem cellsInt : Try.prog.cellsOf 3 = 1 := by kernel_rfl
theorem cellsDat : Try.prog.cellsOf 28 = 5 := by kernel_rfl
theorem cellsRes : Try.prog.cellsOf 30 = 10 := by kernel_rfl

section
variable {H : Type} {enc : TypeId × Value → H} {w : World} {spare : Nat → Bool} {held : Bool}
theorem open_datum (fuel : Nat) (cs : List Value) (x : DataW H × List MemPlace) (h : DataW.trod enc Try.prog w 0 spare held fuel 28 cs = some x) : ∃ t, IsD w (· < w.heap.size) t cs :=
  open_tree Try.underlying28 (by kernel_rfl) cellsDat Try.underlying3 Try.underlying2 Try.underlying25 Try.underlying9 rfl Try.underlying26 fuel cs x h

theorem IsD.rv {w : World} {S : Nat → Prop} {t : Tree} {cs : List Value} (h : IsD w S t cs) : ∃ k i b s a n c, cs = [.int .i64 k, .int .i64 i, .int .u64 b, .string s, .slice a n c] := by
  obtain ⟨k, i, b, s, l⟩ := t
  obtain ⟨a, c, rfl, _⟩ := h.open_
  exact ⟨_, _, _, _, _, _, _, rfl⟩

theorem open_result (fuel : Nat) (cs : List Value) (x : DataW H × List MemPlace) (h : DataW.trod enc Try.prog w 0 spare held fuel 30 cs = some x) :
    ∃ p : RV × Tree, cs = p.1.cells ∧ IsD w (· < w.heap.size) p.2 p.1.body := by
  obtain ⟨ys, n, -, -, hlen, hyl, hf⟩ := DataW.trod_struct Try.underlying30 h
  rw [cellsRes] at hlen
  match cs, hlen with
  | [c0, c1, c2, c3, c4, c5, c6, c7, c8, c9], _ =>
    match ys, hyl with
    | [y0, y1, y2, y3, y4], _ =>
      have g0 : DataW.trod enc Try.prog w 0 spare held n 22 [c0] = some y0 := by simpa [cellsErr, cellsI64, cellsPan, cellsBool, cellsDat] using hf 0 _ rfl
      have g1 : DataW.trod enc Try.prog w 0 spare held n 2 [c1] = some y1 := by simpa [cellsErr, cellsI64, cellsPan, cellsBool, cellsDat] using hf 1 _ rfl
      have g2 : DataW.trod enc Try.prog w 0 spare held n 24 [c2, c3] = some y2 := by simpa [cellsErr, cellsI64, cellsPan, cellsBool, cellsDat] using hf 2 _ rfl
      have g3 : DataW.trod enc Try.prog w 0 spare held n 4 [c4] = some y3 := by simpa [cellsErr, cellsI64, cellsPan, cellsBool, cellsDat] using hf 3 _ rfl
      have g4 : DataW.trod enc Try.prog w 0 spare held n 28 [c5, c6, c7, c8, c9] = some y4 := by simpa [cellsErr, cellsI64, cellsPan, cellsBool, cellsDat] using hf 4 _ rfl
      obtain ⟨e, h0, -, -⟩ := DataW.trod_int Try.underlying22 g0
      obtain ⟨co, h1, -, -⟩ := DataW.trod_int Try.underlying2 g1
      obtain ⟨zs, n', -, -, -, hzl, hz⟩ := DataW.trod_struct Try.underlying24 g2
      obtain ⟨ha, h3, -⟩ := DataW.trod_bool Try.underlying4 g3
      obtain ⟨t, ht⟩ := open_datum n _ _ g4
      match zs, hzl with
      | [z0, z1], _ =>
        have k0 : DataW.trod enc Try.prog w 0 spare held n' 3 [c2] = some z0 := by simpa [cellsI64, cellsInt] using hz 0 _ rfl
        have k1 : DataW.trod enc Try.prog w 0 spare held n' 2 [c3] = some z1 := by simpa [cellsI64, cellsInt] using hz 1 _ rfl
        obtain ⟨pk, h4, -, -⟩ := DataW.trod_int Try.underlying3 k0
        obtain ⟨pn, h5, -, -⟩ := DataW.trod_int Try.underlying2 k1
        simp at h0 h1 h3 h4 h5
        subst h0 h1 h3 h4 h5
        obtain ⟨k, i, b, s, a, m, c, hb⟩ := ht.rv
        simp at hb
        obtain ⟨rfl, rfl, rfl, rfl, rfl⟩ := hb
        exact ⟨⟨⟨e, co, pk, pn, ha, k, i, b, s, a, m, c⟩, t⟩, rfl, ht⟩
end
end Go.Proofs.Ytmdcfmdjbncaoaa
