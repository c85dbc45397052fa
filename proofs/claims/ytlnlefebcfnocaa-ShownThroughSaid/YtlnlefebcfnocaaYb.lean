/- Chains as they come in. -/
import Derived.Test.YtlnlefebcfnocaaYa
import Derived.Test.YtlnlefebcfnocaaSi
import Derived.DataShut
namespace Go.Proofs.Ytlnlefebcfnocaa
open Go.RowKit Go.ChangeShapes Go.WideShapes Go.Deep

theorem cellsInt : Try.prog.cellsOf 3 = 1 := by kernel_rfl
theorem cellsI64 : Try.prog.cellsOf 2 = 1 := by kernel_rfl
theorem cellsBool : Try.prog.cellsOf 4 = 1 := by kernel_rfl
theorem cellsCaps : Try.prog.cellsOf 23 = 1 := by kernel_rfl
theorem cellsWrap : Try.prog.cellsOf 37 = 8 := by kernel_rfl
theorem cellsCore : Try.prog.cellsOf 25 = 3 := by kernel_rfl
theorem cellsChain : Try.prog.cellsOf 28 = 4 := by kernel_rfl
theorem cellsWraps : Try.prog.cellsOf 26 = 1 := by kernel_rfl

section
variable {H : Type} {enc : TypeId × Value → H} {w : World} {spare : Nat → Bool} {held : Bool}
theorem u32_of {n : Int} (h : (Lit.int .u32 n).wf = true) : ∃ m : Nat, n = (m : Int) ∧ m < 4294967296 := by
  have h1 := (Lit.wf_int_iff .u32 n).1 h
  have h2 : IntKind.u32.min = 0 := by decide
  have h3 : IntKind.u32.max = 4294967295 := by decide
  rw [h2, h3] at h1
  exact ⟨n.toNat, by omega, by omega⟩
theorem open_wrap (fuel : Nat) (cs : List Value) (x : DataW H × List MemPlace) (h : DataW.trod enc Try.prog w 0 spare held fuel 37 cs = some x) : ∃ p : WX × Value, EW w (· < w.heap.size) p cs := by
  obtain ⟨ys, n, -, -, hlen, hyl, hf⟩ := DataW.trod_struct Try.underlying37 h
  rw [cellsWrap] at hlen
  match cs, hlen with
  | [c0, c1, c2, c3, c4, c5, c6, c7], _ =>
    match ys, hyl with
    | [y0, y1, y2, y3, y4, y5], _ =>
      have g0 : DataW.trod enc Try.prog w 0 spare held n 3 [c0] = some y0 := by simpa [cellsInt, cellsI64, cellsBool, cellsCaps, cellsW] using hf 0 _ rfl
      have g1 : DataW.trod enc Try.prog w 0 spare held n 2 [c1] = some y1 := by simpa [cellsInt, cellsI64, cellsBool, cellsCaps, cellsW] using hf 1 _ rfl
      have g2 : DataW.trod enc Try.prog w 0 spare held n 2 [c2] = some y2 := by simpa [cellsInt, cellsI64, cellsBool, cellsCaps, cellsW] using hf 2 _ rfl
      have g3 : DataW.trod enc Try.prog w 0 spare held n 23 [c3] = some y3 := by simpa [cellsInt, cellsI64, cellsBool, cellsCaps, cellsW] using hf 3 _ rfl
      have g4 : DataW.trod enc Try.prog w 0 spare held n 35 [c4, c5, c6] = some y4 := by simpa [cellsInt, cellsI64, cellsBool, cellsCaps, cellsW] using hf 4 _ rfl
      have g5 : DataW.trod enc Try.prog w 0 spare held n 4 [c7] = some y5 := by simpa [cellsInt, cellsI64, cellsBool, cellsCaps, cellsW] using hf 5 _ rfl
      obtain ⟨op, h0, -, -⟩ := DataW.trod_int Try.underlying3 g0
      obtain ⟨a, h1, -, -⟩ := DataW.trod_int Try.underlying2 g1
      obtain ⟨b, h2, -, -⟩ := DataW.trod_int Try.underlying2 g2
      obtain ⟨c, h3, -, hc⟩ := DataW.trod_int Try.underlying23 g3
      obtain ⟨t, ht⟩ := open_want n _ _ g4
      obtain ⟨o, h5, -⟩ := DataW.trod_bool Try.underlying4 g5
      obtain ⟨m, rfl, hm⟩ := u32_of hc
      simp at h0 h1 h2 h3 h5
      subst h0 h1 h2 h3 h5
      obtain ⟨wo, wn, wl⟩ := t
      have ht' := ht
      obtain ⟨va, vc, he, -⟩ := ht'.open_
      simp at he
      obtain ⟨rfl, rfl, rfl⟩ := he
      exact ⟨(⟨op, a, b, m, .node wo wn wl, o⟩, .slice va wl.length vc), rfl, ht, hm⟩
theorem open_chain (fuel : Nat) (cs : List Value) (x : DataW H × List MemPlace) (h : DataW.trod enc Try.prog w 0 spare held fuel 28 cs = some x) :
    ∃ op num c ws a n d, cs = [.int .i64 op, .int .i64 num, .int .u32 ((c : Nat) : Int), .slice a n d] ∧ Wraps w (· < w.heap.size) ws a n d ∧ c < 4294967296 := by
  obtain ⟨ys, n, -, -, hlen, hyl, hf⟩ := DataW.trod_struct Try.underlying28 h
  rw [cellsChain] at hlen
  match cs, hlen with
  | [c0, c1, c2, c3], _ =>
    match ys, hyl with
    | [y0, y1], _ =>
      have g0 : DataW.trod enc Try.prog w 0 spare held n 25 [c0, c1, c2] = some y0 := by simpa [cellsCore, cellsWraps] using hf 0 _ rfl
      have g1 : DataW.trod enc Try.prog w 0 spare held n 26 [c3] = some y1 := by simpa [cellsCore, cellsWraps] using hf 1 _ rfl
      obtain ⟨zs, n', -, -, -, hzl, hz⟩ := DataW.trod_struct Try.underlying25 g0
      obtain ⟨l, a, m, c, h3, hr⟩ := open_rows (E := EW w (· < w.heap.size)) (sz := 8) Try.underlying26 cellsWrap (fun n' cs' x' _ h' => open_wrap n' cs' x' h') g1 (by omega)
      match zs, hzl with
      | [z0, z1, z2], _ =>
        have k0 : DataW.trod enc Try.prog w 0 spare held n' 3 [c0] = some z0 := by simpa [cellsI64, cellsInt, cellsCaps] using hz 0 _ rfl
        have k1 : DataW.trod enc Try.prog w 0 spare held n' 2 [c1] = some z1 := by simpa [cellsI64, cellsInt, cellsCaps] using hz 1 _ rfl
        have k2 : DataW.trod enc Try.prog w 0 spare held n' 23 [c2] = some z2 := by simpa [cellsI64, cellsInt, cellsCaps] using hz 2 _ rfl
        obtain ⟨op, h0, -, -⟩ := DataW.trod_int Try.underlying3 k0
        obtain ⟨num, h1, -, -⟩ := DataW.trod_int Try.underlying2 k1
        obtain ⟨cp, h2, -, hc⟩ := DataW.trod_int Try.underlying23 k2
        obtain ⟨m', rfl, hm⟩ := u32_of hc
        simp at h0 h1 h2 h3
        subst h0 h1 h2 h3
        exact ⟨op, num, m', l, a, m, c, rfl, hr, hm⟩
end
set_option maxRecDepth 100000 in
theorem chain_arg {H : Type} {enc : TypeId × Value → H} {W : World} {base : Nat} {v : Value} {d : DataW H} {p : List MemPlace} (ok : Value.okWide Try.prog W .any base 28 v)
    (tr : DataW.Trod enc Try.prog W 0 (fun _ => true) true 28 v d p) : ∃ op num c ws a n d, v = .agg #[.int .i64 op, .int .i64 num, .int .u32 ((c : Nat) : Int), .slice a n d] ∧ Wraps W (· < W.heap.size) ws a n d ∧ c < 4294967296 := by
  obtain ⟨cs, rfl, -⟩ := okWide_struct Try.underlying28 ok
  obtain ⟨fuel, hf⟩ := tr
  obtain ⟨op, num, c, ws, a, n, d, hcs, hw, hc⟩ := open_chain fuel _ _ hf
  refine ⟨op, num, c, ws, a, n, d, ?_, hw, hc⟩
  have : cs.toList = [.int .i64 op, .int .i64 num, .int .u32 ((c : Nat) : Int), .slice a n d] := by simpa [Value.cells] using hcs
  rw [← Array.toArray_toList (xs := cs), this]
end Go.Proofs.Ytlnlefebcfnocaa
