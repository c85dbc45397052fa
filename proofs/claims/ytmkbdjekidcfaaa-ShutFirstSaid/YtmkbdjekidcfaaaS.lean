/- ShutFirst: the plain law: outside the order just if a way comes to a ring; the row of places. -/
import Derived.Test.YtmkbdjekidcfaaaR
namespace Go.Proofs.Ytmkbdjekidcfaaa
open Go.RowKit

/-- The place in the order. -/
def ix (rows : List (List Int)) (j : Nat) : Nat := (ordOf rows).idxOf j

theorem ix_lt {rows : List (List Int)} {j k : Nat} (hj : j ∈ ordOf rows) (hn : nd rows j k = true) : k ∈ ordOf rows ∧ ix rows k < ix rows j := by
  have hp : ix rows j < (ordOf rows).length := List.idxOf_lt_length_of_mem hj
  have he : (ordOf rows)[ix rows j] = j := List.getElem_idxOf hp
  have h1 := ordOf_ahead rows (ix rows j) hp k (by rw [he]; exact hn)
  obtain ⟨q, hq, hq2⟩ := List.getElem_of_mem h1
  rw [List.length_take] at hq
  rw [List.getElem_take] at hq2
  have hq3 : (ordOf rows).idxOf (ordOf rows)[q] = q := List.Nodup.idxOf_getElem (ordOf_inv rows).1 q (by omega)
  refine ⟨hq2 ▸ List.getElem_mem _, ?_⟩
  have : ix rows k = q := by rw [← hq2]; exact hq3
  omega

theorem reach_ix {rows : List (List Int)} {j k : Nat} (hj : j ∈ ordOf rows) (h : Reach rows j k) : k ∈ ordOf rows ∧ ix rows k < ix rows j := by
  induction h with
  | one h1 => exact ix_lt hj h1
  | step _ h1 ih =>
    obtain ⟨h2, h3⟩ := ix_lt ih.1 h1
    exact ⟨h2, by have := ih.2; omega⟩

theorem ring_out {rows : List (List Int)} {i : Nat} (hr : Ring rows i) : i ∉ ordOf rows := by
  intro hi
  obtain ⟨k, hk, hkk⟩ := hr
  have hk2 : k ∈ ordOf rows := by
    rcases hk with rfl | hk
    · exact hi
    · exact (reach_ix hi hk).1
  have := (reach_ix hk2 hkk).2
  omega

theorem path {rows : List (List Int)} {i : Nat} (hi : i < rows.length) (hni : i ∉ ordOf rows) (hno : ¬Ring rows i) : ∀ m : Nat, ∃ (P : List Nat) (x : Nat), P.Nodup ∧ P.length = m + 1 ∧ (∀ y ∈ P, y < rows.length) ∧ x < rows.length ∧ x ∉ ordOf rows ∧ (x = i ∨ Reach rows i x) ∧ ∀ y ∈ P, y = x ∨ Reach rows y x
  | 0 => ⟨[i], i, by simp, rfl, by simpa using hi, hi, hni, Or.inl rfl, by simp⟩
  | m + 1 => by
    obtain ⟨P, x, h1, h2, h3, h4, h5, h6, h7⟩ := path hi hni hno m
    obtain ⟨k, hk1, hk2, hk3⟩ := ordOf_stuck rows h4 h5
    have hik : Reach rows i k := by
      rcases h6 with rfl | h6
      · exact Reach.one hk2
      · exact Reach.step h6 hk2
    refine ⟨k :: P, k, List.nodup_cons.2 ⟨fun hkP => ?_, h1⟩, by simp [h2], ?_, hk1, hk3, Or.inr hik, ?_⟩
    · refine hno ⟨k, Or.inr hik, ?_⟩
      rcases h7 k hkP with rfl | h
      · exact Reach.one hk2
      · exact Reach.step h hk2
    · intro y hy
      rcases List.mem_cons.1 hy with rfl | hy
      · exact hk1
      · exact h3 y hy
    · intro y hy
      rcases List.mem_cons.1 hy with rfl | hy
      · exact Or.inl rfl
      · rcases h7 y hy with rfl | h
        · exact Or.inr (Reach.one hk2)
        · exact Or.inr (Reach.step h hk2)

theorem out_ring {rows : List (List Int)} {i : Nat} (hi : i < rows.length) (hni : i ∉ ordOf rows) : Ring rows i := by
  apply Classical.byContradiction
  intro hno
  obtain ⟨P, x, h1, h2, h3, -⟩ := path hi hni hno rows.length
  have := nodup_le _ _ h1 h3
  omega

/-- A row of ints, by its law. -/
def il (n : Nat) (f : Nat → Int) : List Value := (List.range n).map fun j => .int .i64 (f j)
theorem il_at {n : Nat} {f : Nat → Int} {j : Nat} (hj : j < n) : (il n f)[j]? = some (.int .i64 (f j)) := by simp [il, hj]
theorem il_set {n : Nat} {f : Nat → Int} {j : Nat} (x : Int) (g : Nat → Int) (hg : ∀ k, k < n → g k = if k = j then x else f k) : (il n f).set j (.int .i64 x) = il n g := by
  apply List.ext_getElem?
  intro k
  rw [List.getElem?_set]
  by_cases hk : k < n
  · rw [il_at hk, il_at hk, hg k hk]
    by_cases e : j = k
    · subst e
      simp [il, hk]
    · rw [if_neg e, if_neg (fun h => e h.symm)]
  · have h1 : (il n f)[k]? = none := by simp [il]; omega
    have h2 : (il n g)[k]? = none := by simp [il]; omega
    rw [h1, h2]
    by_cases e : j = k
    · simp [il, e]; omega
    · simp [e]
theorem il_made (n : Nat) : (madeCells #[Value.int .i64 0] n).toList = il n (fun _ => 0) := by
  apply List.ext_getElem?
  intro k
  simp [il, madeCells]
  by_cases hk : k < n <;> simp [hk, Nat.mod_one]
theorem il_congr {n : Nat} {f g : Nat → Int} (h : ∀ k, k < n → f k = g k) : il n f = il n g := by
  apply List.ext_getElem?
  intro k
  by_cases hk : k < n
  · rw [il_at hk, il_at hk, h k hk]
  · have h1 : (il n f)[k]? = none := by simp [il]; omega
    have h2 : (il n g)[k]? = none := by simp [il]; omega
    rw [h1, h2]

/-- at, behind m things of the order. -/
def at1 (rows : List (List Int)) (m j : Nat) : Int := if j ∈ (ordOf rows).take m then (ix rows j : Int) + 1 else 0
/-- at, behind the order and p things of the cycle. -/
def at2 (rows : List (List Int)) (p j : Nat) : Int := if j ∈ (cycOf rows).take p then -1 else at1 rows (ordOf rows).length j

theorem mem_take_nat {l : List Nat} {m : Nat} (hm : m < l.length) (q : Nat) : q ∈ l.take (m + 1) ↔ q ∈ l.take m ∨ q = l[m] := by
  rw [List.take_succ_eq_append_getElem hm]
  simp only [List.mem_append, List.mem_singleton]
theorem not_take {l : List Nat} (h : l.Nodup) {m : Nat} (hm : m < l.length) : l[m] ∉ l.take m := by
  intro hc
  obtain ⟨q, hq, hq2⟩ := List.getElem_of_mem hc
  rw [List.length_take] at hq
  rw [List.getElem_take] at hq2
  have h1 := List.Nodup.idxOf_getElem h q (by omega)
  have h2 := List.Nodup.idxOf_getElem h m hm
  rw [hq2] at h1
  omega
theorem at1_fresh {rows : List (List Int)} {m : Nat} (hm : m < (ordOf rows).length) : at1 rows m (ordOf rows)[m] = 0 := if_neg (not_take (ordOf_inv rows).1 hm)
theorem at1_step {rows : List (List Int)} {m : Nat} (hm : m < (ordOf rows).length) (j : Nat) : at1 rows (m + 1) j = if j = (ordOf rows)[m] then (m : Int) + 1 else at1 rows m j := by
  unfold at1
  by_cases e : j = (ordOf rows)[m]
  · have : ix rows j = m := by rw [e]; exact List.Nodup.idxOf_getElem (ordOf_inv rows).1 m hm
    rw [if_pos e, if_pos ((mem_take_nat hm j).2 (Or.inr e)), this]
  · rw [if_neg e]
    by_cases h : j ∈ (ordOf rows).take m
    · rw [if_pos h, if_pos ((mem_take_nat hm j).2 (Or.inl h))]
    · rw [if_neg h, if_neg (fun hc => ((mem_take_nat hm j).1 hc).elim h e)]
theorem cycOf_nodup (rows : List (List Int)) : (cycOf rows).Nodup := List.nodup_range.filter _
theorem cycOf_mem {rows : List (List Int)} {j : Nat} : j ∈ cycOf rows ↔ j < rows.length ∧ j ∉ ordOf rows := by simp [cycOf]
theorem at2_fresh {rows : List (List Int)} {p : Nat} (hp : p < (cycOf rows).length) : at2 rows p (cycOf rows)[p] = 0 := by
  unfold at2
  rw [if_neg (not_take (cycOf_nodup rows) hp)]
  unfold at1
  rw [List.take_length, if_neg (cycOf_mem.1 (List.getElem_mem hp)).2]
theorem at2_step {rows : List (List Int)} {p : Nat} (hp : p < (cycOf rows).length) (j : Nat) : at2 rows (p + 1) j = if j = (cycOf rows)[p] then -1 else at2 rows p j := by
  unfold at2
  by_cases e : j = (cycOf rows)[p]
  · rw [if_pos e, if_pos ((mem_take_nat hp j).2 (Or.inr e))]
  · rw [if_neg e]
    by_cases h : j ∈ (cycOf rows).take p
    · rw [if_pos h, if_pos ((mem_take_nat hp j).2 (Or.inl h))]
    · rw [if_neg h, if_neg (fun hc => ((mem_take_nat hp j).1 hc).elim h e)]
/-- at, at the end. -/
def fin (rows : List (List Int)) (j : Nat) : Int := at2 rows (cycOf rows).length j
theorem fin_in {rows : List (List Int)} {j : Nat} (h : j ∈ ordOf rows) : fin rows j = (ix rows j : Int) + 1 := by
  unfold fin at2
  rw [List.take_length, if_neg (fun hc => (cycOf_mem.1 hc).2 h)]
  unfold at1
  rw [List.take_length, if_pos h]
theorem fin_out {rows : List (List Int)} {j : Nat} (hj : j < rows.length) (h : j ∉ ordOf rows) : fin rows j = -1 := by
  unfold fin at2
  rw [List.take_length, if_pos (cycOf_mem.2 ⟨hj, h⟩)]
theorem fin_ne {rows : List (List Int)} {j : Nat} (hj : j < rows.length) : fin rows j ≠ 0 := by
  by_cases h : j ∈ ordOf rows
  · rw [fin_in h]; omega
  · rw [fin_out hj h]; omega
theorem fin_le {rows : List (List Int)} {j : Nat} (hj : j < rows.length) : -1 ≤ fin rows j ∧ fin rows j ≤ rows.length := by
  by_cases h : j ∈ ordOf rows
  · rw [fin_in h]
    have h1 : ix rows j < (ordOf rows).length := List.idxOf_lt_length_of_mem h
    have h2 := ordOf_length rows
    omega
  · rw [fin_out hj h]; omega
theorem fin_ring {rows : List (List Int)} {j : Nat} (hj : j < rows.length) : fin rows j < 0 ↔ Ring rows j := by
  by_cases h : j ∈ ordOf rows
  · rw [fin_in h]
    exact ⟨fun h1 => by omega, fun h1 => absurd h (ring_out h1)⟩
  · rw [fin_out hj h]
    exact ⟨fun _ => out_ring hj h, fun _ => by omega⟩
theorem fin_after {rows : List (List Int)} {j k : Nat} (hj : j < rows.length) (hp : 0 < fin rows j) (hn : nd rows j k = true) : 0 < fin rows k ∧ fin rows k < fin rows j := by
  by_cases h : j ∈ ordOf rows
  · obtain ⟨h1, h2⟩ := ix_lt h hn
    rw [fin_in h, fin_in h1]
    omega
  · rw [fin_out hj h] at hp; omega

end Go.Proofs.Ytmkbdjekidcfaaa
