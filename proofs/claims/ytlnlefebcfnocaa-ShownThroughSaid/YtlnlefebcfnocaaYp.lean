/- Plain laws of sets of capabilities and of levels. -/
import Derived.Test.YtlnlefebcfnocaaYb
namespace Go.Proofs.Ytlnlefebcfnocaa
open Go.RowKit

theorem bit_clr (a m i : Nat) : (clr a m).testBit i = (a.testBit i && !m.testBit i) := by
  rw [clr, Nat.testBit_xor, Nat.testBit_and]
  cases a.testBit i <;> cases m.testBit i <;> rfl
theorem bit_1024 (i : Nat) : (1024 : Nat).testBit i = decide (i = 10) := by
  rw [show (1024 : Nat) = 2 ^ 10 from rfl, Nat.testBit_two_pow]
  by_cases h : i = 10
  · subst h; rfl
  · rw [decide_eq_false h, decide_eq_false (by omega)]
def Sub (a b : Nat) : Prop := ∀ i, a.testBit i = true → b.testBit i = true
theorem clr_zero {a b : Nat} (h : Sub a b) : clr a b = 0 := by
  apply Nat.eq_of_testBit_eq
  intro i
  rw [bit_clr, Nat.zero_testBit]
  have := h i
  cases ha : a.testBit i <;> simp_all
theorem Sub.or {a b c d : Nat} (h : Sub a b) (g : Sub c d) : Sub (a ||| c) (b ||| d) := fun i hi => by
  rw [Nat.testBit_or, Bool.or_eq_true] at hi ⊢
  exact hi.imp (h i) (g i)
theorem Sub.refl (a : Nat) : Sub a a := fun _ h => h
theorem Sub.clr {a b : Nat} (h : Sub a b) (m : Nat) : Sub (clr a m) (clr b m) := fun i hi => by
  rw [bit_clr, Bool.and_eq_true] at hi ⊢
  exact ⟨h i hi.1, hi.2⟩
theorem Sub.and {a b : Nat} (h : Sub a b) (m : Nat) : Sub (a &&& m) (b &&& m) := fun i hi => by
  rw [Nat.testBit_and, Bool.and_eq_true] at hi ⊢
  exact ⟨h i hi.1, hi.2⟩
theorem kept_mono (x : WX) {a b : Nat} (h : Sub a b) : Sub (keptN x a) (keptN x b) := by
  unfold keptN
  repeat' split
  · exact h.clr _
  · exact (h.clr _).and _
  · exact .refl _
  · exact (h.clr _).clr _
theorem shows_mono {c d : Nat} (h : Sub c d) : ∀ l : List WX, Sub (showsN c l) (showsN d l)
  | [] => h
  | x :: r => ((Sub.refl _).or (kept_mono x (shows_mono h r))).or (.refl _)
theorem sub_or (c m : Nat) : Sub c (c ||| m) := fun i hi => by rw [Nat.testBit_or, hi]; rfl
/-- P9.8. -/
theorem grows (c m : Nat) (ws : List (WX × Value)) (j : Nat) : clr (sh c ws j) (sh (c ||| m) ws j) = 0 := clr_zero (shows_mono (sub_or c m) _)
/-- What is kept was there. -/
theorem kept_sub (x : WX) (b : Nat) : Sub (keptN x b) b := by
  unfold keptN
  intro i hi
  repeat' split at hi
  · rw [bit_clr, Bool.and_eq_true] at hi; exact hi.1
  · rw [Nat.testBit_and, bit_clr, Bool.and_eq_true, Bool.and_eq_true] at hi; exact hi.1.1
  · rw [Nat.zero_testBit] at hi; cases hi
  · rw [bit_clr, bit_clr, Bool.and_eq_true, Bool.and_eq_true] at hi; exact hi.1.1
theorem has_mono {a b : Nat} (h : Sub a b) {k : Int} (hh : hasN a k = true) : hasN b k = true := by
  unfold hasN at hh ⊢
  rw [Bool.and_eq_true] at hh ⊢
  exact ⟨hh.1, h _ hh.2⟩
theorem has_or (a b : Nat) (k : Int) : hasN (a ||| b) k = (hasN a k || hasN b k) := by
  unfold hasN
  rw [Nat.testBit_or]
  cases decide (0 ≤ k ∧ k < 11) <;> simp
/-- What is shown and not given is shown below. -/
theorem shows_below {c : Nat} {x : WX} {r : List WX} {k : Int} (h : hasN (showsN c (x :: r)) k = true) (hg : ¬ hasN (givesN c (x :: r)) k = true) : hasN (showsN c r) k = true := by
  rw [showsN, has_or, has_or] at h
  rw [givesN, has_or] at hg
  have : hasN (keptN x (showsN c r)) k = true := by
    cases h1 : hasN (givenN x) k <;> cases h2 : hasN (opnN x) k <;> simp_all
  exact has_mono (kept_sub _ _) this
theorem rv_succ {ws : List (WX × Value)} {j : Nat} {p : WX × Value} (h : ws[j]? = some p) : rv ws (j + 1) = p :: rv ws j := take_rev h
theorem sh_succ {c : Nat} {ws : List (WX × Value)} {j : Nat} {p : WX × Value} (h : ws[j]? = some p) : sh c ws (j + 1) = showsN c (p.1 :: (rv ws j).map Prod.fst) := by rw [sh, rv_succ h]; rfl
theorem sh_zero (c : Nat) (ws : List (WX × Value)) : sh c ws 0 = c := rfl
def whoJ (c : Nat) (ws : List (WX × Value)) (k : Int) (j : Nat) : Int := whoL c k ((rv ws j).map Prod.fst)
theorem whoJ_zero (c : Nat) (ws : List (WX × Value)) (k : Int) : whoJ c ws k 0 = if hasN c k = true then 0 else -1 := rfl
theorem whoJ_succ {c : Nat} {ws : List (WX × Value)} {k : Int} {j : Nat} {p : WX × Value} (h : ws[j]? = some p) :
    whoJ c ws k (j + 1) = if hasN (sh c ws (j + 1)) k = true then (if hasN (givesW p.1) k = true then (j : Int) + 1 else whoJ c ws k j) else -1 := by
  have hj : j ≤ ws.length := by have := (List.getElem?_eq_some_iff.1 h).1; omega
  rw [whoJ, rv_succ h, List.map_cons, whoL, ← sh_succ h, List.length_cons, List.length_map, rv_len hj]
  rfl
/-- Who is a level just of what is shown; that level gives it; each level from there outwards shows it. -/
theorem whoJ_law (c : Nat) (ws : List (WX × Value)) (k : Int) : ∀ j, j ≤ ws.length →
    (hasN (sh c ws j) k = true → 0 ≤ whoJ c ws k j) ∧ (hasN (sh c ws j) k = false → whoJ c ws k j = -1) ∧ whoJ c ws k j ≤ j ∧ -1 ≤ whoJ c ws k j ∧
    (whoJ c ws k j = 0 → hasN c k = true) ∧ (∀ m p, whoJ c ws k j = ((m + 1 : Nat) : Int) → ws[m]? = some p → hasN (givesW p.1) k = true) ∧
    (∀ i : Nat, 0 ≤ whoJ c ws k j → whoJ c ws k j ≤ i → i ≤ j → hasN (sh c ws i) k = true)
  | 0, _ => by
    rw [whoJ_zero]
    cases hb : hasN c k with
    | true =>
      rw [if_pos rfl]
      refine ⟨fun _ => by omega, fun h => ?_, by omega, by omega, fun _ => rfl, fun m p h => by omega, fun i _ _ hi => ?_⟩
      · rw [sh_zero, hb] at h; cases h
      · obtain rfl : i = 0 := by omega
        exact hb
    | false =>
      rw [if_neg (by simp)]
      refine ⟨fun h => ?_, fun _ => rfl, by omega, by omega, fun h => by omega, fun m p h => by omega, fun i h => by omega⟩
      rw [sh_zero, hb] at h; cases h
  | j + 1, hj => by
    have hp : ws[j]? = some ws[j] := List.getElem?_eq_getElem (by omega)
    obtain ⟨a1, a2, a3, a4, a5, a6, a7⟩ := whoJ_law c ws k j (by omega)
    rw [whoJ_succ hp]
    cases hs : hasN (sh c ws (j + 1)) k with
    | false =>
      rw [if_neg (by simp)]
      exact ⟨(fun h => nomatch h), fun _ => rfl, by omega, by omega, fun h => by omega, fun m p h => by omega, fun i h => by omega⟩
    | true =>
      rw [if_pos rfl]
      cases hg : hasN (givesW ws[j].1) k with
      | true =>
        rw [if_pos rfl]
        refine ⟨fun _ => by omega, (fun h => nomatch h), by omega, by omega, fun h => by omega, fun m p h hm => ?_, fun i _ h1 h2 => ?_⟩
        · obtain rfl : m = j := by omega
          rw [hp] at hm
          cases hm
          exact hg
        · obtain rfl : i = j + 1 := by omega
          exact hs
      | false =>
        rw [if_neg (by simp)]
        have hb : hasN (sh c ws j) k = true := by
          rw [sh_succ hp] at hs
          exact shows_below hs (by rw [show givesN c (ws[j].1 :: (rv ws j).map Prod.fst) = givesW ws[j].1 from rfl, hg]; simp)
        refine ⟨fun _ => a1 hb, (fun h => nomatch h), by omega, a4, a5, a6, fun i h0 h1 h2 => ?_⟩
        rcases Nat.lt_or_ge j i with h3 | h3
        · obtain rfl : i = j + 1 := by omega
          exact hs
        · exact a7 i h0 h1 h3
theorem reach_shown {c : Nat} {ws : List (WX × Value)} {k : Int} (h : hasN (sh c ws ws.length) k = true) : reachW c ws k = whoW c ws k := by
  unfold reachW whoW
  have hh : hasN (showsN c ((rv ws ws.length).map Prod.fst)) k = true := h
  cases hr : (rv ws ws.length).map Prod.fst with
  | nil => rfl
  | cons x r => rw [hr] at hh; rw [reachL, if_pos hh]
end Go.Proofs.Ytlnlefebcfnocaa
