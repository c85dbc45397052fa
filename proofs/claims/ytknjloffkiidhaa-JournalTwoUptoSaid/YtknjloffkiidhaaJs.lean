/- The check sums: both are sumL. -/
import Derived.Test.YtknjloffkiidhaaJk
namespace Go.Proofs.Ytknjloffkiidhaa
open Go.RowKit

/-- What the machine asks of the check sum on its way. -/
theorem step_asked {s : Nat} (hs : s < 4294967296) : ∃ b : Nat, b ≤ 1 ∧ bits BinOp.and IntKind.u32 (s : Int) 1 = (b : Int) ∧ bits BinOp.xor IntKind.u32 ((s : Int) / 2) (3988292384 * (b : Int)) = ((stepP s : Nat) : Int) := by
  refine ⟨s % 2, by omega, bits32_one hs, ?_⟩
  have h1 : (s : Int) / (2 : Int) = ((s >>> 1 : Nat) : Int) := by rw [Nat.shiftRight_eq_div_pow]; simp
  have h2 : (3988292384 : Int) * ((s % 2 : Nat) : Int) = ((poly * (s % 2) : Nat) : Int) := by simp [poly]
  rw [h1, h2, bits32_xor (by rw [Nat.shiftRight_eq_div_pow]; omega) (by unfold poly; omega)]
  rfl
theorem turn_max {s : Nat} (hs : s < 4294967296) : bits BinOp.xor IntKind.u32 IntKind.u32.max (s : Int) = ((s ^^^ 4294967295 : Nat) : Int) := by
  rw [Nat.xor_comm]
  exact bits32_xor (a := 4294967295) (by decide) hs
theorem turn_asked {s : Nat} (hs : s < 4294967296) : bits BinOp.xor IntKind.u32 (s : Int) 4294967295 = ((s ^^^ 4294967295 : Nat) : Int) := bits32_xor (b := 4294967295) hs (by decide)

set_option maxRecDepth 100000 in
set_option maxHeartbeats 4000000 in
theorem sum_any (w : World) (S : Nat → Prop) (a : Option Addr) (l : List Nat) (n c : Nat) (hn : l.length = n) (hm : n ≤ 9223372036854775807) (h : BY w S a l) :
    Calls Try.prog 10 #[.slice a n c] w fun e w' => e = .returned (.int .u32 (sumL l)) ∧ w = w' := by
  have HH := Lib.hid h
  have HN := Lib.hid hn
  clear h hn
  go_enter Try.func10, Try.ntmps10
  go_wp2_with fail
  go_loop [3, 8] (fun s i => ∃ j : Nat, j ≤ n ∧ i = .int .i64 j ∧ s = .int .u32 (crcL (l.take j))) (fun _ i => n - (intOf i).toNat)
  case atStart => exact ⟨0, Nat.zero_le _, rfl, rfl⟩
  case round =>
    obtain ⟨j, hj, rfl, rfl⟩ := hrel
    by_cases hl : j < n
    · obtain ⟨g, o, x, rfl, -, hx, hx8, hc⟩ := HH.out.at (i := j) (by rw [HN.out]; exact hl)
      have hlt := crcL_lt (l.take j)
      have hstep := crcL_take hx
      generalize crcL (l.take j) = cr at hlt hstep ⊢
      have e1 := bits32_xor hlt (show x < 4294967296 by omega)
      have hsl := fun k => stepsP_lt (s := cr ^^^ x) (Nat.xor_lt_two_pow (n := 32) hlt (by omega)) k
      have hend := byte_steps x cr hx8
      have HST := Lib.hid hstep
      have HEND := Lib.hid hend
      have HSL := Lib.hid hsl
      clear hstep hend hsl hx
      go_wp2_with fail
      go_loop [3, 16] (fun s i => ∃ k : Nat, k ≤ 8 ∧ i = .int .i64 k ∧ s = .int .u32 (stepsP k (cr ^^^ x))) (fun _ i => 8 - (intOf i).toNat)
      case atStart => exact ⟨0, Nat.zero_le _, rfl, rfl⟩
      case round =>
        obtain ⟨k, hk, rfl, rfl⟩ := hrel
        have hs := HSL.out k
        have hs2 : stepsP (k + 1) (cr ^^^ x) = stepP (stepsP k (cr ^^^ x)) := rfl
        by_cases hk8 : k < 8
        · generalize stepsP k (cr ^^^ x) = s at hs hs2 ⊢
          obtain ⟨b, hb, e2, e3⟩ := step_asked hs
          have HS2 := Lib.hid hs2
          clear hs2
          go_wp2_with fail
          go_round
          case rel => exact ⟨k + 1, by omega, by go_num, by rw [HS2.out]⟩
          case measure => simp [intOf]; omega
        · obtain rfl : k = 8 := by omega
          rw [HEND.out] at hs ⊢
          clear hs2 hk8
          go_wp2_with fail
          go_round
          case rel => exact ⟨j + 1, by omega, by go_num, by rw [HST.out]⟩
          case measure => simp [intOf]; omega
    · obtain rfl : j = n := by omega
      have e := HN.out
      subst e
      rw [List.take_length]
      have hlt := crcL_lt l
      have e4 := turn_max hlt
      have hsum : crcL l ^^^ 4294967295 = sumL l := rfl
      rw [hsum] at e4
      generalize crcL l = cr at hlt e4 ⊢
      go_wp2_with fail
      go_ret
      exact ⟨rfl, rfl⟩

theorem bitR_bit {x k c : Nat} : bitR x k c = if c % 2 = x / 2 ^ k % 2 then c / 2 else (c / 2) ^^^ poly := by
  rw [bitR, Nat.shiftRight_eq_div_pow, Nat.shiftRight_eq_div_pow]

set_option maxRecDepth 100000 in
set_option maxHeartbeats 4000000 in
theorem rsum_any (w : World) (S : Nat → Prop) (a : Option Addr) (l : List Nat) (n c : Nat) (hn : l.length = n) (hm : n ≤ 9223372036854775807) (h : BY w S a l) :
    Calls Try.prog 11 #[.slice a n c] w fun e w' => e = .returned (.int .u32 (sumL l)) ∧ w = w' := by
  have HH := Lib.hid h
  have HN := Lib.hid hn
  clear h hn
  go_enter Try.func11, Try.ntmps11
  go_wp2_with fail
  go_loop [3, 10] (fun s i => ∃ j : Nat, j ≤ n ∧ i = .int .i64 j ∧ s = .int .u32 (crcL (l.take j))) (fun _ i => n - (intOf i).toNat)
  case atStart => exact ⟨0, Nat.zero_le _, rfl, rfl⟩
  case round =>
    obtain ⟨j, hj, rfl, rfl⟩ := hrel
    by_cases hl : j < n
    · obtain ⟨g, o, x, rfl, -, hx, hx8, hc⟩ := HH.out.at (i := j) (by rw [HN.out]; exact hl)
      have hlt := crcL_lt (l.take j)
      have hstep := crcL_take hx
      generalize crcL (l.take j) = cr at hlt hstep ⊢
      have hsl := fun k => bitsR_lt (x := x) hlt k
      have HST := Lib.hid hstep
      have HSL := Lib.hid hsl
      clear hstep hsl hx
      go_wp2_with fail
      go_loop [3, 6] (fun s i => ∃ k : Nat, k ≤ 8 ∧ i = .int .i64 k ∧ s = .int .u32 (bitsR x k cr)) (fun _ i => 8 - (intOf i).toNat)
      case atStart => exact ⟨0, Nat.zero_le _, rfl, rfl⟩
      case round =>
        obtain ⟨k, hk, rfl, rfl⟩ := hrel
        have hs := HSL.out k
        have hs2 : bitsR x (k + 1) cr = bitR x k (bitsR x k cr) := rfl
        rw [bitR_bit] at hs2
        by_cases hk8 : k < 8
        · generalize bitsR x k cr = s at hs hs2 ⊢
          have e1 := bits32_one hs
          have e2 : bits BinOp.and IntKind.u8 ((x : Int) / 2 ^ k) 1 = ((x / 2 ^ k % 2 : Nat) : Int) := by
            have h1 : (x : Int) / 2 ^ k = ((x / 2 ^ k : Nat) : Int) := by simp
            rw [h1]
            exact bits8_one (Nat.lt_of_le_of_lt (Nat.div_le_self _ _) hx8)
          have e3 : bits BinOp.xor IntKind.u32 ((s : Int) / (2 : Int)) 3988292384 = ((s / 2 ^^^ poly : Nat) : Int) := by
            have h1 : (s : Int) / (2 : Int) = ((s / 2 : Nat) : Int) := by simp
            rw [h1]
            exact bits32_xor (b := 3988292384) (by omega) (by decide)
          have hb1 : s % 2 ≤ 1 := by omega
          have hb2 : x / 2 ^ k % 2 ≤ 1 := by omega
          generalize x / 2 ^ k % 2 = b2 at e2 hb2 hs2
          generalize s % 2 = b1 at e1 hb1 hs2
          by_cases hb : b1 = b2
          · subst hb
            rw [if_pos rfl] at hs2
            have HS2 := Lib.hid hs2
            clear hs2 e3
            go_wp2_with fail
            go_round
            case rel => exact ⟨k + 1, by omega, by go_num, by rw [HS2.out]; simp⟩
            case measure => simp [intOf]; omega
          · rw [if_neg hb] at hs2
            have HS2 := Lib.hid hs2
            have hbi : ((b1 : Int) == (b2 : Int)) = false := by simp; omega
            clear hs2
            go_wp2_with fail
            go_round
            case rel => exact ⟨k + 1, by omega, by go_num, by rw [HS2.out]⟩
            case measure => simp [intOf]; omega
        · obtain rfl : k = 8 := by omega
          clear hs2 hk8
          go_wp2_with fail
          go_round
          case rel => exact ⟨j + 1, by omega, by go_num, by rw [HST.out]⟩
          case measure => simp [intOf]; omega
    · obtain rfl : j = n := by omega
      have e := HN.out
      subst e
      rw [List.take_length]
      have hlt := crcL_lt l
      have e4 := turn_asked hlt
      have hsum : crcL l ^^^ 4294967295 = sumL l := rfl
      rw [hsum] at e4
      generalize crcL l = cr at hlt e4 ⊢
      go_wp2_with fail
      go_ret
      exact ⟨rfl, rfl⟩
end Go.Proofs.Ytknjloffkiidhaa
