/- Timer: what fires till a tick, in plain words. -/
import Derived.Test.YtcgchccppoignaaTmM
namespace Go.Proofs.Ytcgchccppoignaa
open Go.RowKit

section
variable {α β : Type} {f : α → Nat} {T : Nat}
/-- The place of the one that fires first. -/
def IsFirst (f : α → Nat) (L : List α) (k : Nat) : Prop := ∃ x, L[k]? = some x ∧ (∀ (j : Nat) (y : α), L[j]? = some y → f x ≤ f y) ∧ ∀ (j : Nat) (y : α), j < k → L[j]? = some y → f x < f y
theorem IsFirst.uniq {L : List α} {k k' : Nat} (h : IsFirst f L k) (h' : IsFirst f L k') : k = k' := by
  obtain ⟨x, h1, h2, h3⟩ := h
  obtain ⟨x', h1', h2', h3'⟩ := h'
  rcases Nat.lt_trichotomy k k' with c | c | c
  · have := h3' k x c h1
    have := h2 k' x' h1'
    omega
  · exact c
  · have := h3 k' x' c h1'
    have := h2' k x h1
    omega
inductive Fires (f : α → Nat) (T : Nat) : List α → List α → List α → Prop
  | done {L : List α} : (∀ x, x ∈ L → T < f x) → Fires f T L [] L
  | step {L F R : List α} {k : Nat} {x : α} : IsFirst f L k → L[k]? = some x → f x ≤ T → Fires f T (L.eraseIdx k) F R → Fires f T L (x :: F) R
theorem Fires.det {L F R : List α} (h : Fires f T L F R) : ∀ {F' R' : List α}, Fires f T L F' R' → F = F' ∧ R = R' := by
  induction h with
  | done hd =>
    intro F' R' h'
    cases h' with
    | done => exact ⟨rfl, rfl⟩
    | step h1 h2 h3 => exact absurd h3 (by have := hd _ (List.mem_of_getElem? h2); omega)
  | step h1 h2 h3 _ ih =>
    intro F' R' h'
    cases h' with
    | done hd => exact absurd h3 (by have := hd _ (List.mem_of_getElem? h2); omega)
    | step h1' h2' h3' h4' =>
      have := h1.uniq h1'
      subst this
      rw [h2] at h2'
      injection h2' with e
      subst e
      obtain ⟨e1, e2⟩ := ih h4'
      rw [e1, e2]
      exact ⟨rfl, rfl⟩
theorem Fires.rest {L F R : List α} (h : Fires f T L F R) : ∀ x, x ∈ R → x ∈ L ∧ T < f x := by
  induction h with
  | done hd => exact fun x hx => ⟨hx, hd x hx⟩
  | step _ _ _ _ ih => exact fun x hx => ⟨List.mem_of_mem_eraseIdx (ih x hx).1, (ih x hx).2⟩
theorem Fires.len {L F R : List α} (h : Fires f T L F R) : F.length + R.length = L.length := by
  induction h with
  | done => simp
  | step h1 h2 _ _ ih =>
    have := (List.getElem?_eq_some_iff.1 h2).1
    rw [List.length_eraseIdx, if_pos this] at ih
    simp
    omega
theorem erase_map (p : α → β) : ∀ (L : List α) (k : Nat), (L.map p).eraseIdx k = (L.eraseIdx k).map p
  | [], _ => rfl
  | _ :: _, 0 => rfl
  | a :: r, k + 1 => congrArg (p a :: ·) (erase_map p r k)
theorem Fires.map {p : α → β} {g : β → Nat} (hp : ∀ x, g (p x) = f x) {L F R : List α} (h : Fires f T L F R) : Fires g T (L.map p) (F.map p) (R.map p) := by
  induction h with
  | done hd =>
    refine .done fun y hy => ?_
    obtain ⟨x, hx, rfl⟩ := List.mem_map.1 hy
    rw [hp]; exact hd x hx
  | @step L F R k x h1 h2 h3 _ ih =>
    obtain ⟨x', e1, e2, e3⟩ := h1
    refine .step (k := k) ⟨p x', by simp [e1], fun j y hy => ?_, fun j y hj hy => ?_⟩ (by simp [h2]) (by rw [hp]; exact h3) ?_
    · rw [List.getElem?_map, Option.map_eq_some_iff] at hy
      obtain ⟨z, hz, rfl⟩ := hy
      rw [hp, hp]; exact e2 j z hz
    · rw [List.getElem?_map, Option.map_eq_some_iff] at hy
      obtain ⟨z, hz, rfl⟩ := hy
      rw [hp, hp]; exact e3 j z hj hz
    · rw [erase_map]; exact ih
theorem Fires.append {T' : Nat} {L F R F' R' : List α} (h : Fires f T L F R) (hT : T ≤ T') (h' : Fires f T' R F' R') : Fires f T' L (F ++ F') R' := by
  induction h with
  | done _ => exact h'
  | step h1 h2 h3 _ ih => exact .step h1 h2 (by omega) (ih h')
/-- All that fire at the least tick. -/
theorem Fires.least {v : Nat} (hv : v ≤ T) : ∀ (n : Nat) {L F R : List α}, (L.filter fun x => decide (f x = v)).length = n → (∀ y, y ∈ L → v ≤ f y) → Fires f T (L.filter fun x => !decide (f x = v)) F R → Fires f T L ((L.filter fun x => decide (f x = v)) ++ F) R
  | 0, L, F, R, hn, _, h => by
    have h0 : (L.filter fun x => decide (f x = v)) = [] := List.length_eq_zero_iff.1 hn
    have h1 : (L.filter fun x => !decide (f x = v)) = L := List.filter_eq_self.2 fun x hx => by
      have := List.filter_eq_nil_iff.1 h0 x hx
      simpa using this
    rw [h0, List.nil_append]
    rw [h1] at h
    exact h
  | n + 1, L, F, R, hn, hle, h => by
    obtain ⟨l1, x, l2, rfl, hx, hl1⟩ : ∃ l1 x l2, L = l1 ++ x :: l2 ∧ f x = v ∧ ∀ y, y ∈ l1 → f y ≠ v := by
      clear h hle
      induction L with
      | nil => simp at hn
      | cons a r ih =>
        by_cases e : f a = v
        · exact ⟨[], a, r, rfl, e, fun _ h => by cases h⟩
        · rw [List.filter_cons, if_neg (by simpa using e)] at hn
          obtain ⟨l1, x, l2, rfl, h1, h2⟩ := ih hn
          refine ⟨a :: l1, x, l2, rfl, h1, fun y hy => ?_⟩
          rcases List.mem_cons.1 hy with rfl | hy
          · exact e
          · exact h2 y hy
    have f1 : (l1.filter fun x => decide (f x = v)) = [] := List.filter_eq_nil_iff.2 fun y hy => by simpa using hl1 y hy
    have e1 : ((l1 ++ x :: l2).filter fun x => decide (f x = v)) = x :: ((l1 ++ l2).filter fun x => decide (f x = v)) := by
      rw [List.filter_append, List.filter_cons, if_pos (by simpa using hx), List.filter_append, f1]; rfl
    have e2 : ((l1 ++ x :: l2).filter fun x => !decide (f x = v)) = (l1 ++ l2).filter fun x => !decide (f x = v) := by
      rw [List.filter_append, List.filter_cons, if_neg (by simpa using hx), List.filter_append]
    rw [e1] at hn ⊢
    rw [e2] at h
    have ih := Fires.least hv n (L := l1 ++ l2) (by simpa using hn) (fun y hy => hle y (by rcases List.mem_append.1 hy with hy | hy <;> simp [hy])) h
    refine .step (k := l1.length) ⟨x, by simp, fun j y hy => by (rw [hx]; exact hle y (List.mem_of_getElem? hy)), fun j y hj hy => ?_⟩ (by simp) (by omega) ?_
    · rw [List.getElem?_append_left hj] at hy
      have := hl1 y (List.mem_of_getElem? hy)
      have := hle y (by simp [List.mem_of_getElem? hy])
      omega
    · rw [List.eraseIdx_append_of_length_le (Nat.le_refl _)]
      simpa using ih
end
end Go.Proofs.Ytcgchccppoignaa
