/- The program's reader: left, peek, pair. -/
import Derived.Test.YtknjloffkiidhaaJs
namespace Go.Proofs.Ytknjloffkiidhaa
open Go.RowKit Go.Deep
attribute [local go_sem] Go.undef

theorem or_byte {a b : Nat} (ha : a < 256) (hb : b < 256) : bits BinOp.or IntKind.i64 (a : Int) ((b : Int) * 256) = ((a + 256 * b : Nat) : Int) := by
  have e : a ||| b * 256 = a + 256 * b := by
    have := Nat.shiftLeft_add_eq_or_of_lt (b := a) (i := 8) (show a < 2 ^ 8 by omega) b
    rw [Nat.shiftLeft_eq] at this
    rw [Nat.or_comm, ← this]
    omega
  have h : a ||| b * 256 < 9223372036854775808 := by rw [e]; omega
  have e2 : (BitVec.ofInt 64 (a : Int) ||| BitVec.ofInt 64 ((b : Int) * 256)).toNat = a ||| b * 256 := by
    rw [show ((b : Int) * 256) = ((b * 256 : Nat) : Int) by simp, BitVec.toNat_or, BitVec.ofInt_natCast, BitVec.ofInt_natCast, BitVec.toNat_ofNat, BitVec.toNat_ofNat, Nat.mod_eq_of_lt (by omega), Nat.mod_eq_of_lt (by omega)]
  show IntKind.i64.wrap ((BitVec.ofInt 64 (a : Int) ||| BitVec.ofInt 64 ((b : Int) * 256)).toNat : Int) = _
  rw [e2, e]
  exact IntWalk.i64_in _ (by omega)

theorem or_pair {a b : Nat} (ha : a < 65536) (hb : b < 65536) : bits BinOp.or IntKind.u32 (a : Int) ((b : Int) * 65536) = ((a + 65536 * b : Nat) : Int) := by
  have e : a ||| b * 65536 = a + 65536 * b := by
    have := Nat.shiftLeft_add_eq_or_of_lt (b := a) (i := 16) (show a < 2 ^ 16 by omega) b
    rw [Nat.shiftLeft_eq] at this
    rw [Nat.or_comm, ← this]
    omega
  have h : a ||| b * 65536 < 4294967296 := by rw [e]; omega
  have e2 : (BitVec.ofInt 32 (a : Int) ||| BitVec.ofInt 32 ((b : Int) * 65536)).toNat = a ||| b * 65536 := by
    rw [show ((b : Int) * 65536) = ((b * 65536 : Nat) : Int) by simp, BitVec.toNat_or, BitVec.ofInt_natCast, BitVec.ofInt_natCast, BitVec.toNat_ofNat, BitVec.toNat_ofNat, Nat.mod_eq_of_lt (by omega), Nat.mod_eq_of_lt (by omega)]
  show IntKind.u32.wrap ((BitVec.ofInt 32 (a : Int) ||| BitVec.ofInt 32 ((b : Int) * 65536)).toNat : Int) = _
  rw [e2, IntKind.wrap_u32', e]
  omega
theorem xor_ones {n : Nat} (h : n < 65536) : bits BinOp.xor IntKind.i64 (n : Int) 65535 = ((65535 - n : Nat) : Int) := by
  have e : n ^^^ 65535 = 65535 - n := by
    apply Nat.eq_of_testBit_eq
    intro i
    rw [Nat.testBit_xor, show (65535 : Nat) = 2 ^ 16 - 1 by decide, Nat.testBit_two_pow_sub_one, show 2 ^ 16 - 1 - n = 2 ^ 16 - (n + 1) by omega, Nat.testBit_two_pow_sub_succ (by omega)]
    by_cases hi : i < 16
    · simp [hi]
    · have : n.testBit i = false := Nat.testBit_lt_two_pow (Nat.lt_of_lt_of_le h (Nat.pow_le_pow_right (n := 2) (by omega) (show 16 ≤ i by omega)))
      simp [hi, this]
  have e2 : (BitVec.ofInt 64 (n : Int) ^^^ BitVec.ofInt 64 ((65535 : Nat) : Int)).toNat = n ^^^ 65535 := by
    rw [BitVec.toNat_xor, BitVec.ofInt_natCast, BitVec.ofInt_natCast, BitVec.toNat_ofNat, BitVec.toNat_ofNat, Nat.mod_eq_of_lt (by omega), Nat.mod_eq_of_lt (by omega)]
  show IntKind.i64.wrap ((BitVec.ofInt 64 (n : Int) ^^^ BitVec.ofInt 64 ((65535 : Nat) : Int)).toNat : Int) = _
  rw [e2, e]
  exact IntWalk.i64_in _ (by omega)

set_option maxRecDepth 100000 in
set_option maxHeartbeats 4000000 in
theorem pair_any (w : World) (g o n c x0 x1 : Nat) (hn : 2 ≤ n) (h0 : x0 < 256) (h1 : x1 < 256) (c0 : w.cell? ⟨g, o, none⟩ = some (.int .u8 x0)) (c1 : w.cell? ⟨g, o + 1, none⟩ = some (.int .u8 x1)) :
    Calls Try.prog 26 #[.slice (some ⟨g, o, none⟩) n c] w fun e w' => e = .returned (.int .i64 ((x0 + 256 * x1 : Nat) : Int)) ∧ ∃ m, w' = w.drewN m := by
  have e1 := or_byte h0 h1
  go_enter Try.func26, Try.ntmps26
  go_upto_region 1 with fail
  go_quiet (fail)
  go_wp2_with fail
  go_ret
  exact ⟨by simp, _, rfl⟩

set_option maxRecDepth 100000 in
set_option maxHeartbeats 4000000 in
theorem left_any (w : World) (B n c at' : Nat) (a : Option Addr) (hn : at' ≤ n) (hb : Blk w B 51 #[.slice a n c, .int .i64 at']) (hm : n ≤ 9223372036854775807) :
    Calls Try.prog 25 #[.pointer (some ⟨B, 0, none⟩)] w fun e w' => e = .returned (.int .i64 ((n - at' : Nat) : Int)) ∧ ∃ m, w' = w.drewN m := by
  have c0 := hb.cell 0
  have c1 := hb.cell 1
  simp only [List.getElem?_toArray, List.getElem?_cons_succ, List.getElem?_cons_zero] at c0 c1
  clear hb
  go_enter Try.func25, Try.ntmps25
  go_upto_region 1 with fail
  go_quiet (fail)
  go_wp2_with fail
  go_ret
  exact ⟨by simp; omega, _, rfl⟩

set_option maxRecDepth 100000 in
set_option maxHeartbeats 4000000 in
theorem peek_any (w : World) (B n c at' fr m g o : Nat) (hn : at' + fr + m ≤ n) (hf : at' + fr < c) (hnc : n ≤ c) (hm : c ≤ 9223372036854775807) (hb : Blk w B 51 #[.slice (some ⟨g, o, none⟩) n c, .int .i64 at']) :
    Calls Try.prog 27 #[.pointer (some ⟨B, 0, none⟩), .int .i64 fr, .int .i64 m] w fun e w' => e = .returned (.slice (some ⟨g, o + (at' + fr), none⟩) m (c - (at' + fr))) ∧ ∃ m, w' = w.drewN m := by
  have c0 := hb.cell 0
  have c1 := hb.cell 1
  simp only [List.getElem?_toArray, List.getElem?_cons_succ, List.getElem?_cons_zero] at c0 c1
  clear hb
  have e1 : IntKind.i64.wrap ((at' : Int) + (fr : Int)) = (at' : Int) + fr := IntWalk.i64_in _ (by omega)
  have e2 : IntKind.i64.wrap ((at' : Int) + (fr : Int) + (m : Int)) = (at' : Int) + fr + m := IntWalk.i64_in _ (by omega)
  have e3 : (0 : Int) ≤ (at' : Int) + fr := by omega
  have e4 : (0 : Int) ≤ (at' : Int) + fr + m := by omega
  have e5 : ((at' : Int) + (fr : Int)).toNat = at' + fr := by omega
  have e6 : ((at' : Int) + (fr : Int) + (m : Int)).toNat = at' + fr + m := by omega
  have e7 : (at' : Int) + fr ≤ (at' : Int) + fr + m := by omega
  have e8 : (at' : Int) + fr + m ≤ (c : Int) := by omega
  go_enter Try.func27, Try.ntmps27
  go_upto_region 1 with fail
  go_quiet (fail)
  go_wp2_with fail
  go_ret
  exact ⟨by simp, _, rfl⟩
end Go.Proofs.Ytknjloffkiidhaa
