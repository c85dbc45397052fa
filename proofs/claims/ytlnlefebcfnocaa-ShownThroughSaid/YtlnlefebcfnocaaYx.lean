/- The plain law of ShownThrough. -/
import Derived.Test.YtlnlefebcfnocaaYs
namespace Go.Proofs.Ytlnlefebcfnocaa
open Go.RowKit

theorem sh_step {c : Nat} {ws : List (WX × Value)} {j : Nat} {p : WX × Value} (h : ws[j]? = some p) : sh c ws (j + 1) = stepN p.1 (sh c ws j) := by rw [sh_succ h]; rfl
/-- A wrapper that lets all through. -/
def thrW (b : Bool) : WX × Value := plainW 1 0 b
def opnAt (ws : List (WX × Value)) (k : Nat) : Bool := if k = 0 then false else match ws[k - 1]? with | some p => p.1.opn | none => false
def putThr (ws : List (WX × Value)) (k : Nat) : List (WX × Value) := (ws.take k ++ [thrW (opnAt ws k)]) ++ ws.drop k
section
variable {c : Nat} {ws : List (WX × Value)} {k : Nat}
theorem put_len (hk : k ≤ ws.length) : (putThr ws k).length = ws.length + 1 := by
  simp [putThr, List.length_take, List.length_drop]
  omega
theorem put_lt (hk : k ≤ ws.length) {j : Nat} (hj : j < k) : (putThr ws k)[j]? = ws[j]? := by
  rw [putThr, List.append_assoc, List.getElem?_append_left (by rw [List.length_take]; omega), List.getElem?_take, if_pos hj]
theorem put_at (hk : k ≤ ws.length) : (putThr ws k)[k]? = some (thrW (opnAt ws k)) := by
  rw [putThr, List.append_assoc, List.getElem?_append_right (by rw [List.length_take]; omega), List.length_take, Nat.min_eq_left hk]
  simp
theorem put_gt (hk : k ≤ ws.length) {j : Nat} (hj : k ≤ j) : (putThr ws k)[j + 1]? = ws[j]? := by
  rw [putThr, List.append_assoc, List.getElem?_append_right (by rw [List.length_take]; omega), List.length_take, Nat.min_eq_left hk]
  rw [show j + 1 - k = (j - k) + 1 by omega, List.singleton_append, List.getElem?_cons_succ, List.getElem?_drop]
  congr 1
  omega
theorem opn_zero : opnAt ws 0 = false := rfl
theorem opn_succ {p : WX × Value} (h : ws[k]? = some p) : opnAt ws (k + 1) = p.1.opn := by
  unfold opnAt
  rw [if_neg (by omega), Nat.add_sub_cancel, h]
theorem step_thr (b : Bool) (S : Nat) : stepN (thrW b).1 S = clr S 1024 ||| (if b = true then 1024 else 0) := by
  cases b <;> simp [stepN, thrW, plainW, givenN, keptN, opnN]
theorem clr_back {S : Nat} {b : Bool} (h : S.testBit 10 = b) : clr S 1024 ||| (if b = true then 1024 else 0) = S := by
  apply Nat.eq_of_testBit_eq
  intro i
  rw [Nat.testBit_or, bit_clr, bit_1024]
  by_cases hi : i = 10
  · subst hi
    rw [h]
    cases b
    · simp
    · rw [if_pos rfl, bit_1024]; simp
  · rw [decide_eq_false hi]
    cases b
    · simp
    · rw [if_pos rfl, bit_1024, decide_eq_false hi]; simp
theorem open_bit (hf : FitC c ws) (hk : k ≤ ws.length) : (sh c ws k).testBit 10 = opnAt ws k := by
  rw [← has10]
  cases k with
  | zero => rw [sh_open0 hf, opn_zero]
  | succ m =>
    have hp : ws[m]? = some ws[m] := List.getElem?_eq_getElem (by omega)
    rw [sh_open hf hp, opn_succ hp]

theorem sh_put_lt (hk : k ≤ ws.length) : ∀ {j : Nat}, j ≤ k → sh c (putThr ws k) j = sh c ws j
  | 0, _ => rfl
  | j + 1, hj => by
    have hp : ws[j]? = some ws[j] := List.getElem?_eq_getElem (by omega)
    rw [sh_step hp, sh_step ((put_lt hk (by omega)).trans hp), sh_put_lt hk (by omega)]
theorem sh_put_at (hf : FitC c ws) (hk : k ≤ ws.length) : sh c (putThr ws k) (k + 1) = sh c ws k := by
  rw [sh_step (put_at hk), step_thr, sh_put_lt hk (Nat.le_refl _), clr_back (open_bit hf hk)]
theorem sh_put_gt (hf : FitC c ws) (hk : k ≤ ws.length) : ∀ {i : Nat}, k + i ≤ ws.length → sh c (putThr ws k) (k + i + 1) = sh c ws (k + i)
  | 0, _ => sh_put_at hf hk
  | i + 1, h => by
    have hp : ws[k + i]? = some ws[k + i] := List.getElem?_eq_getElem (by omega)
    rw [show k + (i + 1) + 1 = (k + i + 1) + 1 by omega, sh_step ((put_gt hk (by omega)).trans hp), sh_put_gt hf hk (by omega), show k + (i + 1) = k + i + 1 by omega, sh_step hp]

/-- A level's number, where one was put in above k. -/
def mv (v : Int) (k : Nat) : Int := if (k : Int) < v then v + 1 else v
variable {q : Int}
theorem who_put_lt (hk : k ≤ ws.length) : ∀ {j : Nat}, j ≤ k → whoJ c (putThr ws k) q j = whoJ c ws q j
  | 0, _ => rfl
  | j + 1, hj => by
    have hp : ws[j]? = some ws[j] := List.getElem?_eq_getElem (by omega)
    rw [whoJ_succ hp, whoJ_succ ((put_lt hk (by omega)).trans hp), sh_put_lt hk hj, who_put_lt hk (by omega)]
theorem thr_gives (hq : q < 10) (b : Bool) : hasN (givesW (thrW b).1) q = false := by
  unfold hasN
  by_cases h0 : 0 ≤ q ∧ q < 11
  · rw [decide_eq_true h0, Bool.true_and]
    have : givesW (thrW b).1 = if b = true then 1024 else 0 := by cases b <;> simp [givesW, thrW, plainW, givenN, opnN]
    rw [this]
    cases b
    · simp
    · rw [if_pos rfl, bit_1024, decide_eq_false (by omega)]
  · rw [decide_eq_false h0]; rfl
theorem who_put_at (hf : FitC c ws) (hk : k ≤ ws.length) (hq : q < 10) : whoJ c (putThr ws k) q (k + 1) = whoJ c ws q k := by
  rw [whoJ_succ (put_at hk), sh_put_at hf hk, thr_gives hq, if_neg (c := false = true) (by simp), who_put_lt hk (Nat.le_refl _)]
  cases hb : hasN (sh c ws k) q with
  | true => rw [if_pos rfl]
  | false => rw [if_neg (by simp), (whoJ_law c ws q k hk).2.1 hb]
theorem who_put_gt (hf : FitC c ws) (hk : k ≤ ws.length) (hq : q < 10) : ∀ {i : Nat}, k + i ≤ ws.length → whoJ c (putThr ws k) q (k + i + 1) = mv (whoJ c ws q (k + i)) k
  | 0, _ => by
    have h := (whoJ_law c ws q k hk).2.2.1
    simp only [Nat.add_zero]
    rw [who_put_at hf hk hq, mv, if_neg (by omega)]
  | i + 1, h => by
    have hp : ws[k + i]? = some ws[k + i] := List.getElem?_eq_getElem (by omega)
    have hs := sh_put_gt hf hk (i := i + 1) h
    rw [show k + (i + 1) + 1 = (k + i + 1) + 1 by omega] at hs ⊢
    rw [whoJ_succ ((put_gt hk (by omega)).trans hp), hs, who_put_gt hf hk hq (by omega), show k + (i + 1) = k + i + 1 by omega, whoJ_succ hp]
    cases hasN (sh c ws (k + i + 1)) q with
    | false => rw [if_neg (by simp), if_neg (by simp), mv, if_neg (by omega)]
    | true =>
      rw [if_pos rfl, if_pos rfl]
      cases hasN (givesW ws[k + i].1) q with
      | false => rw [if_neg (by simp), if_neg (by simp)]
      | true => rw [if_pos rfl, if_pos rfl, mv, if_pos (by omega)]; omega
theorem reachJ_le (hk : k ≤ ws.length) : reachJ c ws q k ≤ k := by
  induction k with
  | zero =>
    show reachL c q [] ≤ 0
    rw [reachL]
    split <;> omega
  | succ m ih =>
    have hp : ws[m]? = some ws[m] := List.getElem?_eq_getElem (by omega)
    have h1 := (whoJ_law c ws q (m + 1) hk).2.2.1
    have h2 := ih (by omega)
    rw [reachJ_succ hp]
    split
    · exact h1
    · split <;> omega
theorem reach_put_lt (hk : k ≤ ws.length) : ∀ {j : Nat}, j ≤ k → reachJ c (putThr ws k) q j = reachJ c ws q j
  | 0, _ => rfl
  | j + 1, hj => by
    have hp : ws[j]? = some ws[j] := List.getElem?_eq_getElem (by omega)
    rw [reachJ_succ hp, reachJ_succ ((put_lt hk (by omega)).trans hp), sh_put_lt hk hj, who_put_lt hk hj, reach_put_lt hk (by omega)]
theorem reach_put_at (hf : FitC c ws) (hk : k ≤ ws.length) (hq : q < 10) : reachJ c (putThr ws k) q (k + 1) = reachJ c ws q k := by
  rw [reachJ_succ (put_at hk), sh_put_at hf hk, who_put_at hf hk hq, reach_put_lt hk (Nat.le_refl _)]
  cases hb : hasN (sh c ws k) q with
  | true => rw [if_pos rfl, reachJ_shown hk hb]
  | false =>
    rw [if_neg (by simp), show (thrW (opnAt ws k)).1.opn = opnAt ws k from rfl]
    by_cases ho : opnAt ws k = true ∧ 0 ≤ q
    · rw [if_pos ho]
    · rw [if_neg ho]
      cases k with
      | zero =>
        have hb' : hasN c q = false := hb
        show -1 = reachL c q []
        rw [reachL, hb', if_neg (by simp)]
      | succ m =>
        have hp : ws[m]? = some ws[m] := List.getElem?_eq_getElem (by omega)
        rw [opn_succ hp] at ho
        rw [reachJ_succ hp, hb, if_neg (by simp), if_neg ho]
theorem reach_put_gt (hf : FitC c ws) (hk : k ≤ ws.length) (hq : q < 10) : ∀ {i : Nat}, k + i ≤ ws.length → reachJ c (putThr ws k) q (k + i + 1) = mv (reachJ c ws q (k + i)) k
  | 0, _ => by
    have h := reachJ_le (c := c) (q := q) hk
    simp only [Nat.add_zero]
    rw [reach_put_at hf hk hq, mv, if_neg (by omega)]
  | i + 1, h => by
    have hp : ws[k + i]? = some ws[k + i] := List.getElem?_eq_getElem (by omega)
    have hs := sh_put_gt hf hk (i := i + 1) h
    have hw := who_put_gt hf hk hq (i := i + 1) h
    rw [show k + (i + 1) + 1 = (k + i + 1) + 1 by omega] at hs hw ⊢
    rw [reachJ_succ ((put_gt hk (by omega)).trans hp), hs, hw, reach_put_gt hf hk hq (by omega), show k + (i + 1) = k + i + 1 by omega, reachJ_succ hp]
    cases hasN (sh c ws (k + i + 1)) q with
    | true => rw [if_pos rfl, if_pos rfl]
    | false =>
      simp only [Bool.false_eq_true, if_false]
      by_cases ho : ws[k + i].1.opn = true ∧ 0 ≤ q
      · rw [if_pos ho, if_pos ho]
      · rw [if_neg ho, if_neg ho, mv, if_neg (by omega)]
/-- P9.9. -/
theorem through_sh (hf : FitC c ws) (hk : k ≤ ws.length) {j : Nat} (hj : j ≤ ws.length) : sh c (putThr ws k) (if k < j then j + 1 else j) = sh c ws j := by
  by_cases h : k < j
  · rw [if_pos h]
    have := sh_put_gt hf hk (i := j - k) (by omega)
    rw [show k + (j - k) = j by omega] at this
    exact this
  · rw [if_neg h]
    exact sh_put_lt hk (by omega)
theorem through_who (hf : FitC c ws) (hk : k ≤ ws.length) (hq : q < 10) : whoW c (putThr ws k) q = mv (whoW c ws q) k := by
  have := who_put_gt hf hk hq (i := ws.length - k) (by omega)
  rw [show k + (ws.length - k) = ws.length by omega] at this
  show whoJ c (putThr ws k) q (putThr ws k).length = mv (whoJ c ws q ws.length) k
  rw [put_len hk]
  exact this
theorem through_reach (hf : FitC c ws) (hk : k ≤ ws.length) (hq : q < 10) : reachW c (putThr ws k) q = mv (reachW c ws q) k := by
  have := reach_put_gt hf hk hq (i := ws.length - k) (by omega)
  rw [show k + (ws.length - k) = ws.length by omega] at this
  show reachJ c (putThr ws k) q (putThr ws k).length = mv (reachJ c ws q ws.length) k
  rw [put_len hk]
  exact this
end
end Go.Proofs.Ytlnlefebcfnocaa
