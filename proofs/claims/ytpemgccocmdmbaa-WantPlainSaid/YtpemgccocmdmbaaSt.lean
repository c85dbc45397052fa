/- WantSets: not, and, or are what they are of sets. -/
import Derived.Test.YtpemgccocmdmbaaLa
namespace Go.Proofs.Ytpemgccocmdmbaa
open Go.RowKit Go.ChangeShapes Go.WideShapes Go.Deep
attribute [local go_sem] Go.undef

theorem bit_all (i : Nat) : Nat.testBit 16383 i = decide (i < 14) := by
  rw [show (16383 : Nat) = 2 ^ 14 - 1 by decide, Nat.testBit_two_pow_sub_one]
theorem bit_out {x : Nat} (h : x < 16384) {i : Nat} (hi : ¬ i < 14) : Nat.testBit x i = false :=
  Nat.testBit_lt_two_pow (Nat.lt_of_lt_of_le (show x < 2 ^ 14 from h) (Nat.pow_le_pow_right (by omega) (by omega)))
theorem all_and (x : Nat) (h : x < 16384) : 16383 &&& x = x := by
  apply Nat.eq_of_testBit_eq
  intro i
  rw [Nat.testBit_and, bit_all]
  by_cases hi : i < 14
  · simp [hi]
  · rw [bit_out h hi, Bool.and_false]
theorem and_not (x : Nat) : x &&& (16383 ^^^ x) = 0 ∨ ¬ x < 16384 := by
  by_cases h : x < 16384
  · left
    apply Nat.eq_of_testBit_eq
    intro i
    rw [Nat.testBit_and, Nat.testBit_xor, bit_all, Nat.zero_testBit]
    by_cases hi : i < 14
    · cases hb : Nat.testBit x i <;> simp [hi]
    · rw [bit_out h hi, Bool.false_and]
  · exact .inr h
theorem sub_or (x y : Nat) (h : x < 16384) : x &&& (16383 ^^^ (x ||| y)) = 0 := by
  apply Nat.eq_of_testBit_eq
  intro i
  rw [Nat.testBit_and, Nat.testBit_xor, Nat.testBit_or, bit_all, Nat.zero_testBit]
  by_cases hi : i < 14
  · cases hb : Nat.testBit x i <;> simp [hi]
  · rw [bit_out h hi, Bool.false_and]
theorem and_sub (x y : Nat) (h : x < 16384) : (x &&& y) &&& (16383 ^^^ x) = 0 := by
  apply Nat.eq_of_testBit_eq
  intro i
  rw [Nat.testBit_and, Nat.testBit_and, Nat.testBit_xor, bit_all, Nat.zero_testBit]
  by_cases hi : i < 14
  · cases hb : Nat.testBit x i <;> simp [hi]
  · rw [bit_out h hi, Bool.false_and, Bool.false_and]
theorem xor_lt (x : Nat) (h : x < 16384) : 16383 ^^^ x < 16384 := Nat.xor_lt_two_pow (n := 14) (by omega) h
theorem or_lt (x y : Nat) (h : x < 16384) (h' : y < 16384) : x ||| y < 16384 := Nat.or_lt_two_pow (n := 14) h h'
theorem and_lt (x y : Nat) (h : x < 16384) : x &&& y < 16384 := Nat.lt_of_le_of_lt Nat.and_le_left h
theorem meets_not (x : Nat) (h : x < 16384) : meetsB x (16383 ^^^ x) = false := by
  unfold meetsB
  rw [bits_and_nat h (xor_lt x h), (and_not x).resolve_right (fun c => c h)]
  rfl
theorem covers_or (x y : Nat) (h : x < 16384) (h' : y < 16384) : coversB (x ||| y) x = true := by
  unfold coversB
  rw [bits_andNot_nat h (or_lt x y h h'), sub_or x y h]
  rfl
theorem covers_and (x y : Nat) (h : x < 16384) : coversB x (x &&& y) = true := by
  unfold coversB
  rw [bits_andNot_nat (and_lt x y h) h, and_sub x y h]
  rfl
theorem kinds_both (t u : WT) : kindsW (.node 5 0 [t, u]) = kindsW t &&& kindsW u := by
  rw [kindsW_node, if_neg (by decide), if_pos rfl, andW_cons, andW_cons, andW_nil, all_and _ (kindsW_lt t)]
theorem kinds_either (t u : WT) : kindsW (.node 4 0 [t, u]) = kindsW t ||| kindsW u := by
  rw [kindsW_node, if_pos rfl, orW_cons, orW_cons, orW_nil, Nat.zero_or]
theorem kinds_no (t : WT) : kindsW (.node 6 0 [t]) = 16383 ^^^ kindsW t := by
  rw [kindsW_node, if_neg (by decide), if_neg (by decide), if_pos rfl, notW_cons]

/-- A pattern out of others that lie in memory. -/
theorem IsW.made {w : World} {S : Nat → Prop} {op num : Int} {g : Nat} {T : TypeId} {l : List WT} {css : List (List Value)} (hb : Blk w g T css.flatten.toArray) (hg : S g) (hm : l.length ≤ maxLen) (hE : ∀ (j : Nat) (x : WT), l[j]? = some x → ∃ cs : List Value, css[j]? = some cs ∧ IsW w S x cs) (hl : css.length = l.length) {n : Nat} (hn : n = l.length) :
    IsW w S (.node op num l) [.int .i64 op, .int .i64 num, .slice (some ⟨g, 0, none⟩) n n] :=
  IsW.shut (rows_of_blk hb hg hm (fun cs hcs => by
    obtain ⟨j, hj, he⟩ := List.getElem_of_mem hcs
    obtain ⟨cs', h1, h2⟩ := hE j (l[j]'(by omega)) (List.getElem?_eq_getElem (by omega))
    rw [List.getElem?_eq_getElem hj, he] at h1
    injection h1 with h1
    rw [h1]; exact h2.len) hE hn)
end Go.Proofs.Ytpemgccocmdmbaa
