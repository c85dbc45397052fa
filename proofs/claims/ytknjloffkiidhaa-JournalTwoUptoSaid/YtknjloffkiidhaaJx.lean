/- Arguments of bytes, and of rows of bytes, opened. -/
import Derived.Test.YtknjloffkiidhaaJw
import Derived.Test.YtknjloffkiidhaaBulk
namespace Go.Proofs.Ytknjloffkiidhaa
open Go.RowKit Go.ChangeShapes Go.WideShapes Go.Deep

theorem cells5 : Try.prog.cellsOf 5 = 1 := by kernel_rfl
theorem cells22 : Try.prog.cellsOf 22 = 1 := by kernel_rfl
theorem open_by {H : Type} {enc : TypeId × Value → H} {W : World} {spare : Nat → Bool} {held : Bool} {fuel : Nat} {cs : List Value} {x : DataW H × List MemPlace} (h : DataW.trod enc Try.prog W 0 spare held fuel 22 cs = some x) :
    ∃ l a n c, cs = [.slice a n c] ∧ l.length = n ∧ n ≤ c ∧ c ≤ maxLen ∧ BY W (· < W.heap.size) a l := by
  rcases open_ints Try.underlying22 Try.underlying5 cells5 h with ⟨rfl, _⟩ | ⟨a, len, cap, zs, rfl, _, hl, hm, hz, _, hcell, hwz⟩
  · exact ⟨[], none, 0, 0, rfl, rfl, Nat.le_refl _, Nat.zero_le _, BY.nil _ _ _⟩
  · have hzl : len ≤ zs.length := by rw [hz]; split <;> omega
    have hb : ∀ z ∈ zs, 0 ≤ z ∧ z < 256 := fun z hz => by
      have := bounds_u8 (hwz z hz)
      omega
    refine ⟨(zs.take len).map Int.toNat, some a, len, cap, rfl, by rw [List.length_map, List.length_take]; omega, hl, hm, ?_, fun h0 => ?_⟩
    · intro y hy
      obtain ⟨z, hz, rfl⟩ := List.mem_map.1 hy
      have := hb z (List.mem_of_mem_take hz)
      omega
    · rw [List.length_map, List.length_take] at h0
      obtain ⟨g, o, spot⟩ := a
      have hs : spot = none := by
        have h1 := hcell 0 (by omega)
        simpa [Addr.add] using World.cell?_spot h1
      subst hs
      refine ⟨g, o, rfl, World.block_lt_of_cell? _ _ (hcell 0 (by omega)), fun i y hy => ?_⟩
      rw [List.getElem?_map] at hy
      obtain ⟨z, hz, rfl⟩ := Option.map_eq_some_iff.1 hy
      rw [List.getElem?_take] at hz
      split at hz
      · have h2 := hcell i (List.getElem?_eq_some_iff.1 hz).1
        have hz0 := (hb z (List.mem_of_getElem? hz)).1
        rw [Addr.add_mid, List.getD_eq_getElem?_getD, hz] at h2
        rw [h2, Option.getD_some, Int.toNat_of_nonneg hz0]
      · cases hz
theorem bytes_arg {H : Type} {enc : TypeId × Value → H} {W : World} {base : Nat} {v : Value} {d : DataW H} {p : List MemPlace} (ok : Value.okWide Try.prog W .any base 22 v)
    (tr : DataW.Trod enc Try.prog W 0 (fun _ => true) true 22 v d p) : ∃ l a n c, v = .slice a n c ∧ l.length = n ∧ n ≤ c ∧ c ≤ maxLen ∧ BY W (· < W.heap.size) a l ∧ n ≤ Rows.uptoBulk d := by
  obtain ⟨a, n, c, rfl⟩ := okWide_slice Try.underlying22 ok
  have hbulk := slice_bulk Try.underlying22 tr
  obtain ⟨fuel, hf⟩ := tr
  obtain ⟨l, a', n', c', hc, h1, h2, h3, h4⟩ := open_by hf
  simp [Value.cells] at hc
  obtain ⟨rfl, rfl, rfl⟩ := hc
  exact ⟨l, a, n, c, rfl, h1, h2, h3, h4, hbulk⟩
theorem rows_arg {H : Type} {enc : TypeId × Value → H} {W : World} {base : Nat} {v : Value} {d : DataW H} {p : List MemPlace} (ok : Value.okWide Try.prog W .any base 23 v)
    (tr : DataW.Trod enc Try.prog W 0 (fun _ => true) true 23 v d p) : ∃ rs a n c, v = .slice a n c ∧ rs.length = n ∧ n ≤ c ∧ c ≤ maxLen ∧ RB W (· < W.heap.size) a rs ∧ n ≤ Rows.uptoBulk d := by
  obtain ⟨a, n, c, rfl⟩ := okWide_slice Try.underlying23 ok
  have hbulk := slice_bulk Try.underlying23 tr
  obtain ⟨fuel, hf⟩ := tr
  obtain ⟨rs, a', n', c', hc, hr⟩ := open_rows (E := fun (r : List Nat) cs => ∃ a c, cs = [.slice a r.length c] ∧ r.length ≤ c ∧ c ≤ maxLen ∧ BY W (· < W.heap.size) a r) (sz := 1) Try.underlying23 cells22
    (fun m cs x _ h => by obtain ⟨l, a, n, c, h1, rfl, h3, h4, h5⟩ := open_by h; exact ⟨l, a, c, h1, h3, h4, h5⟩) hf (by omega)
  simp [Value.cells] at hc
  obtain ⟨rfl, rfl, rfl⟩ := hc
  obtain ⟨h1, h2, h3, h4⟩ := hr
  refine ⟨rs, a, n, c, rfl, h1.symm, h2, h3, fun h0 => ?_, hbulk⟩
  obtain ⟨g, o, ha, hg, hj⟩ := h4 (by omega)
  refine ⟨g, o, ha, hg, fun i r hr => ?_⟩
  obtain ⟨cs, ⟨a', c', rfl, q1, q2, q3⟩, -, hat⟩ := hj i r hr
  exact ⟨a', c', by have := hat 0 _ rfl; simpa using this, q1, q2, q3⟩
end Go.Proofs.Ytknjloffkiidhaa
