/- RetryMore: more tries, more places behind: the plain law; the two lists put together. -/
import Derived.Test.YtmdcfmdjbncaoaaRuns
import Derived.Test.YtmdcfmdjbncaoaaApp
namespace Go.Proofs.Ytmdcfmdjbncaoaa
open Go.RowKit

theorem tryN_pos' {M : Int} {i : Nat} {vs : List RV} (h : vs ≠ []) : 1 ≤ tryN M i vs := by
  cases vs with
  | nil => exact absurd rfl h
  | cons r l => rw [tryN_cons]; split <;> omega
theorem tryN_ext {M M' : Int} (hM : M ≤ M') (r : List RV) : ∀ (l : List RV) (i : Nat), l ≠ [] → (lastIn (l.take (tryN M i l))).again = false → tryN M' i (l ++ r) = tryN M i l := by
  intro l
  induction l with
  | nil => intro i h; exact absurd rfl h
  | cons x l ih =>
    intro i _ h
    rw [List.cons_append, tryN_cons, tryN_cons]
    rw [tryN_cons] at h
    by_cases hc : x.again = true ∧ (i : Int) + 1 < M
    · rw [if_pos hc] at h
      rw [if_pos hc, if_pos ⟨hc.1, by omega⟩]
      have hl : l ≠ [] := by
        intro e
        subst e
        have : tryN M (i + 1) [] = 0 := by rw [tryN]
        rw [this] at h
        have : lastIn [x] = x := by simp [lastIn]
        simp [this, hc.1] at h
      rw [ih (i + 1) hl]
      have h1 := tryN_pos' (M := M) (i := i + 1) hl
      rw [show 1 + tryN M (i + 1) l = tryN M (i + 1) l + 1 by omega, List.take_succ_cons] at h
      have : lastIn (x :: l.take (tryN M (i + 1) l)) = lastIn (l.take (tryN M (i + 1) l)) := by
        unfold lastIn
        rw [List.getLast?_cons]
        have : l.take (tryN M (i + 1) l) ≠ [] := by
          intro e
          have := congrArg List.length e
          have h3 : 0 < l.length := List.length_pos_iff.2 hl
          rw [List.length_take, List.length_nil] at this
          omega
        rw [List.getLast?_eq_some_getLast this]
        rfl
      rw [this] at h
      exact h
    · rw [if_neg hc] at h ⊢
      have h0 : lastIn ((x :: l).take 1) = x := by simp [lastIn]
      rw [h0] at h
      rw [if_neg (by simp [h])]

theorem css_len (ps : List (RV × Tree)) : ∀ cs ∈ ps.map (fun p => p.1.cells), cs.length = 10 := by
  intro cs h
  obtain ⟨p, _, rfl⟩ := List.mem_map.1 h
  rfl
theorem css_one (ps : List (RV × Tree)) : ∀ u ∈ (ps.map (fun p => p.1.cells)).flatten, u.oneCell' = true := by
  intro u h
  obtain ⟨cs, h1, h2⟩ := List.mem_flatten.1 h
  obtain ⟨p, _, rfl⟩ := List.mem_map.1 h1
  simp only [RV.cells, List.mem_cons, List.not_mem_nil, or_false] at h2
  rcases h2 with rfl | rfl | rfl | rfl | rfl | rfl | rfl | rfl | rfl | rfl <;> rfl
theorem rows_some {α : Type} {E : α → List Value → Prop} {sz : Nat} {w : World} {S : Nat → Prop} {l : List α} {a : Option Addr} {n c : Nat} (h : RowsOf E sz w S l a n c) : 0 < n → a.isSome = true := by
  intro h0
  obtain ⟨g, o, rfl, _⟩ := h.2.2.2 h0
  rfl
/-- What is appended is read where it lies. -/
theorem rows_news {w : World} {S : Nat → Prop} {ps : List (RV × Tree)} {a : Option Addr} {n c : Nat} (h : RowsOf (ER w S) 10 w S ps a n c) :
    ∀ ad, a = some ad → ∀ j u, (ps.map (fun p => p.1.cells)).flatten[j]? = some u → w.cell? (ad.add j) = some u := by
  intro ad ha j u hu
  obtain ⟨h1, _, _, h4⟩ := h
  rcases Nat.eq_zero_or_pos n with e | e
  · have : ps = [] := List.length_eq_zero_iff.1 (by omega)
    subst this
    simp at hu
  · obtain ⟨g, o, ha', _, hj⟩ := h4 e
    rw [ha] at ha'
    injection ha' with ha'
    subst ha'
    rw [Addr.add_mid]
    refine flat_cells (sz := 10) (fun q cs hq => ?_) j u hu
    rw [List.getElem?_map] at hq
    obtain ⟨p, hp, rfl⟩ := Option.map_eq_some_iff.1 hq
    obtain ⟨cs, ⟨rfl, _⟩, hl, hr⟩ := hj q p hp
    exact ⟨hl, hr⟩
end Go.Proofs.Ytmdcfmdjbncaoaa
