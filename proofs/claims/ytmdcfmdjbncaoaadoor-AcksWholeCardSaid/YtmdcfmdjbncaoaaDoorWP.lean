/- Wait's plain law: what it is, that it rises. -/
namespace Go.Proofs.YtmdcfmdjbncaoaaDoor
def waitN : Nat → Int → Int → Int
  | 0, b, m => min b m
  | k + 1, b, m => if 0 < b ∧ b < m then (if m / 2 < b then m else waitN k (2 * b) m) else min b m
def waitF (k b m : Int) : Int := waitN k.toNat (max b 0) (max m 0)

theorem one_le_pow2 {k : Nat} : (1 : Int) ≤ 2 ^ k := by
  induction k with
  | zero => simp
  | succ k ih => rw [Int.pow_succ]; omega

theorem waitN_eq (m : Int) (hm : 0 ≤ m) : ∀ (k : Nat) (b : Int), 0 ≤ b → waitN k b m = min (b * 2 ^ k) m
  | 0, b, _ => by simp [waitN]
  | k + 1, b, hb => by
    have hp : (1 : Int) ≤ 2 ^ k := one_le_pow2
    rw [waitN]
    by_cases h : 0 < b ∧ b < m
    · rw [if_pos h]
      by_cases h2 : m / 2 < b
      · rw [if_pos h2, Int.pow_succ]
        have : b * 1 ≤ b * 2 ^ k := Int.mul_le_mul_of_nonneg_left hp hb
        have e : b * (2 ^ k * 2) = (b * 2 ^ k) * 2 := by rw [Int.mul_assoc]
        rw [e]
        omega
      · rw [if_neg h2, waitN_eq m hm k (2 * b) (by omega), Int.pow_succ]
        congr 1
        rw [Int.mul_comm 2 b, Int.mul_assoc, Int.mul_comm 2]
    · rw [if_neg h]
      rcases Int.lt_or_eq_of_le hb with h0 | h0
      · have hbm : m ≤ b := by omega
        have : b * 1 ≤ b * 2 ^ (k + 1) := Int.mul_le_mul_of_nonneg_left one_le_pow2 hb
        omega
      · subst h0; simp
theorem waitF_eq (k b m : Int) : waitF k b m = min (max b 0 * 2 ^ k.toNat) (max m 0) := waitN_eq _ (by omega) _ _ (by omega)
theorem waitF_bd (k b m : Int) : 0 ≤ waitF k b m ∧ waitF k b m ≤ max m 0 := by
  rw [waitF_eq]
  have : 0 ≤ max b 0 * 2 ^ k.toNat := Int.mul_nonneg (by omega) (by have : (1 : Int) ≤ 2 ^ k.toNat := one_le_pow2; omega)
  omega
theorem pow_mono {a b : Nat} (h : a ≤ b) : (2 : Int) ^ a ≤ 2 ^ b := by
  obtain ⟨c, rfl⟩ : ∃ c, b = a + c := ⟨b - a, by omega⟩
  rw [Int.pow_add]
  have h1 : (1 : Int) ≤ 2 ^ a := one_le_pow2
  have h2 : (1 : Int) ≤ 2 ^ c := one_le_pow2
  have := Int.mul_le_mul_of_nonneg_left h2 (show (0 : Int) ≤ 2 ^ a by omega)
  omega
theorem waitF_k (k b m : Int) : waitF k b m ≤ waitF (k + 1) b m := by
  rw [waitF_eq, waitF_eq]
  have := Int.mul_le_mul_of_nonneg_left (pow_mono (show k.toNat ≤ (k + 1).toNat by omega)) (show 0 ≤ max b 0 by omega)
  omega
theorem waitF_b (k b m : Int) : waitF k b m ≤ waitF k (b + 1) m := by
  rw [waitF_eq, waitF_eq]
  have h1 : (1 : Int) ≤ 2 ^ k.toNat := one_le_pow2
  have := Int.mul_le_mul_of_nonneg_right (show max b 0 ≤ max (b + 1) 0 by omega) (show (0 : Int) ≤ 2 ^ k.toNat by omega)
  omega
theorem waitF_m (k b m : Int) : waitF k b m ≤ waitF k b (m + 1) := by
  rw [waitF_eq, waitF_eq]
  omega
end Go.Proofs.YtmdcfmdjbncaoaaDoor
