/- The plain law of the order of closing: no program in sight but the integers' type. -/
import Derived.Test.YtmkbdjekidcfaaaK
namespace Go.Proofs.Ytmkbdjekidcfaaa

def rowOf (rows : List (List Int)) (i : Nat) : List Int := rows.getD i []
/-- Must k be closed ahead of i? -/
def nd (rows : List (List Int)) (i : Nat) (k : Int) : Bool := decide (0 ≤ k) && decide (k < rows.length) && decide (k ≠ i) && (rowOf rows i).contains k
def ready (rows : List (List Int)) (G : List Nat) (i : Nat) : Bool := !G.contains i && (List.range rows.length).all (fun k => !nd rows i k || G.contains k)
def nextOf (rows : List (List Int)) (G : List Nat) : Option Nat := (List.range rows.length).find? (ready rows G)
def ordN (rows : List (List Int)) : Nat → List Nat → List Nat
  | 0, G => G
  | f + 1, G => match nextOf rows G with
    | none => G
    | some i => ordN rows f (G ++ [i])
def ordOf (rows : List (List Int)) : List Nat := ordN rows rows.length []
def cycOf (rows : List (List Int)) : List Nat := (List.range rows.length).filter (fun i => !(ordOf rows).contains i)

/-- What holds of the row of what has been closed so far. -/
structure OInv (rows : List (List Int)) (G : List Nat) : Prop where
  nodup : G.Nodup
  lt : ∀ i ∈ G, i < rows.length
  rest : ordN rows (rows.length - G.length) G = ordOf rows

theorem nodup_le : ∀ (n : Nat) (l : List Nat), l.Nodup → (∀ x ∈ l, x < n) → l.length ≤ n
  | 0, l, _, h => by
    cases l with
    | nil => simp
    | cons a r => exact absurd (h a (by simp)) (by omega)
  | n + 1, l, hn, h => by
    have h1 := nodup_le n (l.erase n) (hn.erase n) (fun x hx => by
      have hx' := h x (List.mem_of_mem_erase hx)
      have : x ≠ n := fun e => by
        subst e
        exact (List.Nodup.not_mem_erase hn) hx
      omega)
    rw [List.length_erase] at h1
    split at h1 <;> omega

theorem OInv.length_le {rows : List (List Int)} {G : List Nat} (h : OInv rows G) : G.length ≤ rows.length := by
  exact nodup_le _ _ h.nodup h.lt

theorem oinv_start (rows : List (List Int)) : OInv rows [] := ⟨List.nodup_nil, by simp, rfl⟩

theorem nextOf_some {rows : List (List Int)} {G : List Nat} {i : Nat} (h : nextOf rows G = some i) :
    i < rows.length ∧ ready rows G i = true ∧ ∀ j, j < i → ready rows G j = false := by
  unfold nextOf at h
  have h1 := List.mem_of_find?_eq_some h
  have h2 := List.find?_some h
  refine ⟨by simpa using h1, h2, fun j hj => ?_⟩
  rw [List.find?_range_eq_some] at h
  have := h.2.2 j hj
  simpa using this

theorem nextOf_none {rows : List (List Int)} {G : List Nat} (h : nextOf rows G = none) : ∀ i, i < rows.length → ready rows G i = false := by
  intro i hi
  unfold nextOf at h
  rw [List.find?_eq_none] at h
  simpa using h i (List.mem_range.2 hi)

theorem nextOf_eq_some {rows : List (List Int)} {G : List Nat} {i : Nat} (hi : i < rows.length) (h : ready rows G i = true) (hl : ∀ j, j < i → ready rows G j = false) : nextOf rows G = some i := by
  unfold nextOf
  rw [List.find?_range_eq_some]
  exact ⟨h, by simpa using hi, fun j hj => by simp [hl j hj]⟩

theorem nextOf_eq_none {rows : List (List Int)} {G : List Nat} (h : ∀ i, i < rows.length → ready rows G i = false) : nextOf rows G = none := by
  unfold nextOf
  rw [List.find?_eq_none]
  intro i hi
  simp [h i (List.mem_range.1 hi)]

theorem oinv_step {rows : List (List Int)} {G : List Nat} {i : Nat} (h : OInv rows G) (hn : nextOf rows G = some i) : OInv rows (G ++ [i]) := by
  obtain ⟨h1, h2, _⟩ := nextOf_some hn
  have hni : i ∉ G := by
    unfold ready at h2
    simp only [Bool.and_eq_true, Bool.not_eq_true', List.contains_eq_mem, decide_eq_false_iff_not] at h2
    exact h2.1
  have hnd : (G ++ [i]).Nodup := by
    rw [List.nodup_append]
    exact ⟨h.nodup, by simp, fun a ha b hb => by simp at hb; subst hb; exact fun e => hni (e ▸ ha)⟩
  have hlt : ∀ x ∈ G ++ [i], x < rows.length := by
    intro x hx
    simp only [List.mem_append, List.mem_singleton] at hx
    rcases hx with hx | rfl
    · exact h.lt x hx
    · exact h1
  refine ⟨hnd, hlt, ?_⟩
  have hle : (G ++ [i]).length ≤ rows.length := by
    exact nodup_le _ _ hnd hlt
  simp only [List.length_append, List.length_cons, List.length_nil] at hle ⊢
  rw [← h.rest]
  have e : rows.length - G.length = (rows.length - (G.length + (0 + 1))) + 1 := by omega
  rw [e, ordN, hn]

theorem oinv_end {rows : List (List Int)} {G : List Nat} (h : OInv rows G) (hn : nextOf rows G = none) : ordOf rows = G := by
  rw [← h.rest]
  cases rows.length - G.length with
  | zero => rfl
  | succ f => rw [ordN, hn]

/-- How many places the lists take. -/
def tot (rows : List (List Int)) : Nat := (rows.map fun r => r.length + 1).sum
def smallB (rows : List (List Int)) : Bool := decide (tot rows ≤ 400)

theorem tot_take_succ (rows : List (List Int)) (k : Nat) (hk : k < rows.length) : tot (rows.take (k + 1)) = tot (rows.take k) + ((rowOf rows k).length + 1) := by
  unfold tot rowOf
  rw [List.take_succ_eq_append_getElem hk, List.map_append, List.sum_append]
  simp only [List.map_cons, List.map_nil, List.sum_cons, List.sum_nil]
  rw [List.getD_eq_getElem?_getD, List.getElem?_eq_getElem hk]
  rfl

theorem tot_take_le (rows : List (List Int)) (k : Nat) : tot (rows.take k) ≤ tot rows := by
  unfold tot
  rw [List.map_take]
  conv => rhs; rw [← List.take_append_drop k (rows.map fun r => r.length + 1)]
  rw [List.sum_append]
  omega

theorem tot_all {rows : List (List Int)} {k : Nat} (hk : rows.length ≤ k) : rows.take k = rows := List.take_of_length_le hk

theorem len_le_tot (rows : List (List Int)) : rows.length ≤ tot rows := by
  unfold tot
  induction rows with
  | nil => simp
  | cons r rest ih => simp at ih ⊢; omega

theorem row_le_tot {rows : List (List Int)} {k : Nat} (hk : k < rows.length) : (rowOf rows k).length ≤ tot rows := by
  have h1 := tot_take_succ rows k hk
  have h2 := tot_take_le rows (k + 1)
  omega

theorem smallB_true {rows : List (List Int)} (h : smallB rows = true) : rows.length ≤ 400 ∧ ∀ k, k < rows.length → (rowOf rows k).length ≤ 400 := by
  have h := of_decide_eq_true h
  exact ⟨by have := len_le_tot rows; omega, fun k hk => by have := row_le_tot hk; omega⟩

end Go.Proofs.Ytmkbdjekidcfaaa
