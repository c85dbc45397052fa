/- Kinds: sets of kinds as numbers; the kinds of a pattern as a function of its tree. -/
import Derived.Test.YtpemgccocmdmbaaW
import Derived.Laws.BitsAllLaws
namespace Go.Proofs.Ytpemgccocmdmbaa
open Go.RowKit

/-- The set of those of the first j kinds that have P. -/
def ksetN (P : Int → Bool) : Nat → Nat
  | 0 => 0
  | j + 1 => if P j = true then ksetN P j ||| 2 ^ j else ksetN P j
theorem ksetN_lt (P : Int → Bool) : ∀ j : Nat, ksetN P j < 2 ^ j
  | 0 => by simp [ksetN]
  | j + 1 => by
    have := ksetN_lt P j
    rw [ksetN]
    have h2 : 2 ^ (j + 1) = 2 ^ j + 2 ^ j := by rw [Nat.pow_succ]; omega
    split
    · exact Nat.or_lt_two_pow (by omega) (by rw [h2]; have := Nat.two_pow_pos j; omega)
    · omega
theorem ksetN_congr {P Q : Int → Bool} : ∀ j : Nat, (∀ i : Nat, i < j → P i = Q i) → ksetN P j = ksetN Q j
  | 0, _ => rfl
  | j + 1, h => by
    rw [ksetN, ksetN, h j (by omega), ksetN_congr j fun i hi => h i (by omega)]
theorem ksetN_bit (P : Int → Bool) (i : Nat) : ∀ j : Nat, (ksetN P j).testBit i = (decide (i < j) && P i)
  | 0 => by simp [ksetN]
  | j + 1 => by
    rw [ksetN]
    split
    · rename_i h
      rw [Nat.testBit_or, ksetN_bit P i j, Nat.testBit_two_pow]
      by_cases e : j = i
      · subst e; simp [h]
      · have : decide (i < j + 1) = decide (i < j) := by rw [decide_eq_decide]; omega
        simp [this, e]
    · rename_i h
      rw [ksetN_bit P i j]
      by_cases e : j = i
      · subst e; simp at h; simp [h]
      · have : decide (i < j + 1) = decide (i < j) := by rw [decide_eq_decide]; omega
        rw [this]

/-- Has a kind what a pattern without parts asks? -/
def kindP (op num : Int) (k : Int) : Bool :=
  if op = 1 then decide (1 ≤ k ∧ k ≤ 13) else if op = 2 then (if num = 11 then decide (k = 11 ∨ k = 12) else decide (num = k)) else if op = 3 then faceT k num else false
mutual
def kindsW : WT → Nat
  | .node op num l => if op = 4 then orW l 0 else if op = 5 then andW l 16383 else if op = 6 then notW l else ksetN (kindP op num) 14
def orW : List WT → Nat → Nat
  | [], s => s
  | x :: r, s => orW r (s ||| kindsW x)
def andW : List WT → Nat → Nat
  | [], s => s
  | x :: r, s => andW r (s &&& kindsW x)
def notW : List WT → Nat
  | [] => 0
  | x :: _ => 16383 ^^^ kindsW x
end
theorem kindsW_node (op num : Int) (l : List WT) : kindsW (.node op num l) = if op = 4 then orW l 0 else if op = 5 then andW l 16383 else if op = 6 then notW l else ksetN (kindP op num) 14 := by rw [kindsW]
theorem orW_nil (s : Nat) : orW [] s = s := by rw [orW]
theorem orW_cons (x : WT) (r : List WT) (s : Nat) : orW (x :: r) s = orW r (s ||| kindsW x) := by rw [orW]
theorem andW_nil (s : Nat) : andW [] s = s := by rw [andW]
theorem andW_cons (x : WT) (r : List WT) (s : Nat) : andW (x :: r) s = andW r (s &&& kindsW x) := by rw [andW]
theorem notW_cons (x : WT) (r : List WT) : notW (x :: r) = 16383 ^^^ kindsW x := by rw [notW]
theorem or_drop {l : List WT} {j : Nat} {x : WT} (hx : l[j]? = some x) (s : Nat) : orW (l.drop j) s = orW (l.drop (j + 1)) (s ||| kindsW x) := by
  obtain ⟨hi, rfl⟩ := List.getElem?_eq_some_iff.1 hx
  rw [List.drop_eq_getElem_cons hi, orW_cons]
theorem and_drop {l : List WT} {j : Nat} {x : WT} (hx : l[j]? = some x) (s : Nat) : andW (l.drop j) s = andW (l.drop (j + 1)) (s &&& kindsW x) := by
  obtain ⟨hi, rfl⟩ := List.getElem?_eq_some_iff.1 hx
  rw [List.drop_eq_getElem_cons hi, andW_cons]
theorem orW_lt : ∀ (l : List WT) (s : Nat), (∀ x ∈ l, kindsW x < 16384) → s < 16384 → orW l s < 16384
  | [], s, _, h => by rw [orW_nil]; exact h
  | x :: r, s, hx, h => by
    rw [orW_cons]
    exact orW_lt r _ (fun y hy => hx y (by simp [hy])) (Nat.or_lt_two_pow (n := 14) h (hx x (by simp)))
theorem andW_lt : ∀ (l : List WT) (s : Nat), s < 16384 → andW l s < 16384
  | [], s, h => by rw [andW_nil]; exact h
  | x :: r, s, h => by
    rw [andW_cons]
    exact andW_lt r _ (Nat.lt_of_le_of_lt Nat.and_le_left h)
theorem kinds_lt : ∀ (m : Nat) (t : WT), t.high ≤ m → kindsW t < 16384 := by
  intro m
  induction m with
  | zero => intro t ht; cases t; rw [WT.high_node] at ht; omega
  | succ m ih =>
    intro t ht
    obtain ⟨o, n, l⟩ := t
    rw [WT.high_node] at ht
    have HH : ∀ x ∈ l, kindsW x < 16384 := fun x hx => ih x (by have := whigh_mem hx; omega)
    rw [kindsW_node]
    repeat' split
    · exact orW_lt l 0 HH (by omega)
    · exact andW_lt l _ (by omega)
    · cases l with
      | nil => simp [notW]
      | cons x r => rw [notW_cons]; exact Nat.xor_lt_two_pow (n := 14) (by omega) (HH x (by simp))
    · exact ksetN_lt _ 14
theorem kindsW_lt (t : WT) : kindsW t < 16384 := kinds_lt _ t (Nat.le_refl _)

/-! The machine's operations on such numbers -/
theorem bits_or_nat {a b : Nat} (ha : a < 16384) (hb : b < 16384) : bits .or .u32 (a : Int) (b : Int) = ((a ||| b : Nat) : Int) := by
  have h := Nat.or_lt_two_pow (n := 14) ha hb
  have e : (BitVec.ofInt 32 (a : Int) ||| BitVec.ofInt 32 (b : Int)).toNat = a ||| b := by
    rw [BitVec.toNat_or, BitVec.ofInt_natCast, BitVec.ofInt_natCast, BitVec.toNat_ofNat, BitVec.toNat_ofNat, Nat.mod_eq_of_lt (by omega), Nat.mod_eq_of_lt (by omega)]
  show IntKind.u32.wrap ((BitVec.ofInt 32 (a : Int) ||| BitVec.ofInt 32 (b : Int)).toNat : Int) = _
  rw [e, IntKind.wrap_u32']
  omega
theorem bits_and_nat {a b : Nat} (ha : a < 16384) (_hb : b < 16384) : bits .and .u32 (a : Int) (b : Int) = ((a &&& b : Nat) : Int) := by
  have h : a &&& b ≤ a := Nat.and_le_left
  have e : (BitVec.ofInt 32 (a : Int) &&& BitVec.ofInt 32 (b : Int)).toNat = a &&& b := by
    rw [BitVec.toNat_and, BitVec.ofInt_natCast, BitVec.ofInt_natCast, BitVec.toNat_ofNat, BitVec.toNat_ofNat, Nat.mod_eq_of_lt (by omega), Nat.mod_eq_of_lt (by omega)]
  show IntKind.u32.wrap ((BitVec.ofInt 32 (a : Int) &&& BitVec.ofInt 32 (b : Int)).toNat : Int) = _
  rw [e, IntKind.wrap_u32']
  omega
/-- a &^ b, as a number: of both within fourteen bits. -/
theorem bits_andNot_nat {a b : Nat} (ha : a < 16384) (_hb : b < 16384) : bits .andNot .u32 (a : Int) (b : Int) = ((a &&& (16383 ^^^ b) : Nat) : Int) := by
  have h : a &&& (16383 ^^^ b) ≤ a := Nat.and_le_left
  have e : (BitVec.ofInt 32 (a : Int) &&& ~~~ BitVec.ofInt 32 (b : Int)).toNat = a &&& (16383 ^^^ b) := by
    apply Nat.eq_of_testBit_eq
    intro i
    rw [BitVec.testBit_toNat, BitVec.getLsbD_and, BitVec.getLsbD_not, BitVec.ofInt_natCast, BitVec.ofInt_natCast, BitVec.getLsbD_ofNat, BitVec.getLsbD_ofNat, Nat.testBit_and, Nat.testBit_xor]
    by_cases hi : i < 14
    · have h3 : Nat.testBit 16383 i = true := by
        rw [show (16383 : Nat) = 2 ^ 14 - 1 by decide, Nat.testBit_two_pow_sub_one]; simpa using hi
      rw [h3]
      have : decide (i < 32) = true := decide_eq_true (by omega)
      simp [this]
    · have h3 : Nat.testBit a i = false := Nat.testBit_lt_two_pow (Nat.lt_of_lt_of_le (show a < 2 ^ 14 from ha) (Nat.pow_le_pow_right (by omega) (by omega)))
      simp [h3]
  show IntKind.u32.wrap ((BitVec.ofInt 32 (a : Int) &&& ~~~ BitVec.ofInt 32 (b : Int)).toNat : Int) = _
  rw [e, IntKind.wrap_u32']
  omega
end Go.Proofs.Ytpemgccocmdmbaa
