/- An argument of lists, opened; what is known of the order as a whole. -/
import Derived.Test.YtmkbdjekidcfaaaJ
import Derived.Deep.Matrix
import Derived.SizedLaws
namespace Go.Proofs.Ytmkbdjekidcfaaa
open Go.RowKit Go.ChangeShapes Go.WideShapes

theorem cells25 : Try.prog.cellsOf 25 = 1 := by kernel_rfl
theorem cells3 : Try.prog.cellsOf 3 = 1 := by kernel_rfl
theorem bytes3 : Try.prog.bytesOf 3 = 8 := by kernel_rfl
theorem bytes25 : Try.prog.bytesOf 25 = 24 := by kernel_rfl

theorem weights_all {H : Type} {e : TypeId} {d : DataW H} : ∀ {l : List (DataW H)}, d ∈ l → ∀ n ∈ d.weights Try.prog e, n ∈ DataW.weightsAll Try.prog e l
  | x :: r, hd, n, hn => by
    simp only [DataW.weightsAll, List.mem_append]
    rcases List.mem_cons.1 hd with rfl | h
    · exact Or.inl hn
    · exact Or.inr (weights_all h n hn)

/-- A list of lists that came in. -/
theorem rows_open {H : Type} {enc : TypeId × Value → H} {W : World} {base : Nat} {v : Value} {d : DataW H} {p : List MemPlace} (ok : Value.okWide Try.prog W .any base 22 v) (tr : DataW.Trod enc Try.prog W 0 (fun _ => true) true 22 v d p)
    (hsz : ∀ n ∈ d.weights Try.prog 22, n ≤ reachBytes) : ∃ rows, RowsAt W v rows := by
  obtain ⟨a0, len0, cap0, rfl⟩ := okWide_slice Try.underlying22 ok
  obtain ⟨fuel, hf⟩ := tr
  rcases Deep.open_int_rows Try.underlying22 Try.underlying25 Try.underlying3 cells25 cells3 hf with ⟨hcs, hx⟩ | ⟨a, len, cap, A, L, C, Z, hcs, -, hl, hm, hx, hr⟩
  · simp [Value.cells] at hcs
    obtain ⟨rfl, rfl, rfl⟩ := hcs
    exact ⟨[], none, 0, rfl, by decide, fun r hr => absurd hr (by simp)⟩
  · simp [Value.cells] at hcs
    obtain ⟨rfl, rfl, rfl⟩ := hcs
    simp only [Prod.mk.injEq] at hx
    obtain ⟨rfl, -⟩ := hx
    have hlen : len0 ≤ 140737488351232 := by
      have := hsz ((((List.range len0).map fun r => Deep.intRow (H := H) .i64 (A r) (L r) (Z r)).length + ((List.range (cap0 - len0)).map fun j => Deep.intRow (H := H) .i64 (A (len0 + j)) (L (len0 + j)) (Z (len0 + j))).length) * Try.prog.bytesOf 25) (by
        simp only [DataW.weights, Try.underlying22]
        exact List.mem_cons_self)
      rw [bytes25] at this
      simp [reachBytes] at this
      omega
    have hrow : ∀ r, r < len0 → A r ≠ none → C r ≤ 140737488351232 := fun r hr' hA => by
      obtain ⟨_, hLC, _, hZ, _, _, _⟩ := hr r (by omega)
      obtain ⟨a', ha'⟩ := Option.ne_none_iff_exists'.1 hA
      have := hsz (((Deep.intRow (H := H) .i64 (A r) (L r) (Z r)) |> fun _ => (lits (H := H) .i64 ((Z r).take (L r))).length + (lits (H := H) .i64 ((Z r).drop (L r))).length) * Try.prog.bytesOf 3) (by
        simp only [DataW.weights, Try.underlying22]
        refine List.mem_cons_of_mem _ (List.mem_append_left _ (weights_all (d := Deep.intRow .i64 (A r) (L r) (Z r)) (List.mem_map.2 ⟨r, List.mem_range.2 hr', rfl⟩) _ ?_))
        rw [ha']
        simp only [Deep.intRow, DataW.weights, Try.underlying25]
        exact List.mem_cons_self)
      rw [bytes3] at this
      simp [lits, reachBytes] at this
      omega
    have hspot : 0 < len0 → a.spot = none := fun h0 => by
      have := (hr 0 (by omega)).1
      have := World.cell?_spot this
      simpa [Addr.add] using this
    refine ⟨(List.range len0).map fun r => (Z r).take (L r), some a, cap0, by simp, by simpa using hlen, fun r hr' => ?_⟩
    simp only [List.length_map, List.length_range] at hr'
    have hsp := hspot (by omega)
    obtain ⟨b, o, sp⟩ := a
    simp at hsp
    subst hsp
    obtain ⟨h1, hLC, hCm, hZ, hwf, hnone, hcell⟩ := hr r (by omega)
    have e1 : (⟨b, o, none⟩ : Addr).add r = ⟨b, o + r, none⟩ := by
      by_cases h0 : r = 0
      · subst h0; simp [Addr.add]
      · simp only [Addr.add, if_neg h0]
    rw [e1] at h1
    have e2 : rowOf ((List.range len0).map fun r => (Z r).take (L r)) r = (Z r).take (L r) := by simp [rowOf, hr']
    have e3 : ((Z r).take (L r)).length = L r := by rw [List.length_take]; omega
    refine ⟨b, o, _, rfl, h1, A r, C r, ?_, ?_, fun j hj => ?_⟩
    · rw [e2, e3]
    · rw [e2, e3]
      by_cases hA : A r = none
      · have := hnone hA; omega
      · have := hrow r hr' hA; omega
    · rw [e2, e3] at hj
      rw [e2]
      cases hA : A r with
      | none => have := hnone hA; omega
      | some a' =>
        have hc := (hcell a' hA).2 j (by omega)
        have hsp' := World.cell?_spot ((hcell a' hA).2 0 (by omega))
        obtain ⟨b', o', sp'⟩ := a'
        simp [Addr.add] at hsp'
        subst hsp'
        have e4 : (⟨b', o', none⟩ : Addr).add j = ⟨b', o' + j, none⟩ := by
          by_cases h0 : j = 0
          · subst h0; simp [Addr.add]
          · simp only [Addr.add, if_neg h0]
        rw [e4] at hc
        have e5 : ((Z r).take (L r)).getD j 0 = (Z r).getD j 0 := by simp [hj]
        refine ⟨b', o', rfl, by rw [e5]; exact hc, ?_⟩
        rw [e5, List.getD_eq_getElem?_getD, List.getElem?_eq_getElem (by omega)]
        exact hwf _ (List.getElem_mem _)

theorem ordN_inv {rows : List (List Int)} : ∀ (f : Nat) (G : List Nat), G.Nodup → (∀ i ∈ G, i < rows.length) → (ordN rows f G).Nodup ∧ ∀ i ∈ ordN rows f G, i < rows.length
  | 0, G, h1, h2 => ⟨h1, h2⟩
  | f + 1, G, h1, h2 => by
    rw [ordN]
    cases hn : nextOf rows G with
    | none => exact ⟨h1, h2⟩
    | some i =>
      obtain ⟨q1, q2, _⟩ := nextOf_some hn
      have hni : i ∉ G := by
        unfold ready at q2
        simp only [Bool.and_eq_true, Bool.not_eq_true', List.contains_eq_mem, decide_eq_false_iff_not] at q2
        exact q2.1
      refine ordN_inv f (G ++ [i]) ?_ ?_
      · rw [List.nodup_append]
        exact ⟨h1, by simp, fun a ha b hb => by simp at hb; subst hb; exact fun e => hni (e ▸ ha)⟩
      · intro x hx
        simp only [List.mem_append, List.mem_singleton] at hx
        rcases hx with hx | rfl
        · exact h2 x hx
        · exact q1

theorem ordOf_inv (rows : List (List Int)) : (ordOf rows).Nodup ∧ ∀ i ∈ ordOf rows, i < rows.length := ordN_inv _ _ List.nodup_nil (by simp)
theorem ordOf_length (rows : List (List Int)) : (ordOf rows).length ≤ rows.length := nodup_le _ _ (ordOf_inv rows).1 (ordOf_inv rows).2
theorem cycOf_lt (rows : List (List Int)) : ∀ i ∈ cycOf rows, i < rows.length := fun i hi => by
  unfold cycOf at hi
  exact List.mem_range.1 (List.mem_filter.1 hi).1
theorem cycOf_length (rows : List (List Int)) : (cycOf rows).length ≤ rows.length := by
  unfold cycOf
  have := List.length_filter_le (fun i => !(ordOf rows).contains i) (List.range rows.length)
  simpa using this

end Go.Proofs.Ytmkbdjekidcfaaa
