/- Timer: which ring a tick waits in. -/
import Derived.Test.YtcgchccppoignaaTmC
namespace Go.Proofs.Ytcgchccppoignaa
open Go.RowKit
attribute [local go_sem ↓] Go.wp_at_zero Go.wp_at_succ
attribute [local go_sem] Go.undef

theorem up_int (l x : Nat) : ((x : Int) / 2 ^ (6 * l)) = ((up l x : Nat) : Int) := by
  rw [up, show (64 : Nat) = 2 ^ 6 from rfl, ← Nat.pow_mul]
  push_cast
  rfl
theorem and63 (x : Nat) (h : x < 2 ^ 42) : bits .and .i64 (x : Int) 63 = ((x % 64 : Nat) : Int) := by
  have h1 : (BitVec.ofInt 64 (x : Int)).toNat = x := by
    rw [BitVec.ofInt_natCast, BitVec.toNat_ofNat]; exact Nat.mod_eq_of_lt (by omega)
  have h2 : (BitVec.ofInt 64 (63 : Int)).toNat = 63 := by decide
  show IntKind.i64.wrap ((BitVec.ofInt 64 (x : Int) &&& BitVec.ofInt 64 (63 : Int)).toNat : Int) = _
  rw [BitVec.toNat_and, h1, h2, IntKind.wrap_i64, show (63 : Nat) = 2 ^ 6 - 1 from rfl, Nat.and_two_pow_sub_one_eq_mod]
  omega
theorem up_small (l : Nat) {x : Nat} (h : x < 2 ^ 42) : up l x < 2 ^ 42 := Nat.lt_of_le_of_lt (Nat.div_le_self _ _) h
/-- The head of a ring. -/
def hd (b k : Nat) : NA := (b, 3 + 5 * k)

theorem ring_end {b r l s o : Nat} (h : r = 64 * l + s) (ho : o = 3 + l * 320 + s * 5 := by omega) : Ending.returned (.pointer (some ⟨b, o, none⟩)) = .returned (pa (hd b r)) := by
  subst h ho
  rw [pa, hd, show 3 + l * 320 + s * 5 = 3 + 5 * (64 * l + s) by omega]

set_option maxHeartbeats 4000000 in
theorem ring_any (b now at_ : Nat) (w : World) (h1 : now < 2 ^ 42) (h2 : at_ < 2 ^ 42) (hc : w.cell? ⟨b, 1, none⟩ = some (.int .i64 now)) :
    Calls Try.prog 31 #[pt b 0, .int .i64 at_] w fun e w' => e = .returned (pa (hd b (ring now at_))) ∧ ∃ n, w' = w.drewN n := by
  go_enter Try.func31, Try.ntmps31
  go_upto_region 2 with fail
  go_loopw [5] (fun i wr => ∃ l n : Nat, i = .int .i64 l ∧ l ≤ 6 ∧ (∀ k, k < l → up (k + 1) at_ ≠ up (k + 1) now) ∧ wr = w.drewN n) (fun i _ => 6 - (intOf i).toNat)
  case atStart => exact ⟨0, 0, rfl, by omega, fun k hk => by omega, rfl⟩
  case round =>
    obtain ⟨l, n, rfl, hl, hup, rfl⟩ := hrel
    have HUP := Lib.hid hup
    clear hup
    by_cases hlt : l < 6
    · have hb : decide ((l : Int) < 6) = true := decide_eq_true (by omega)
      have q1 : (at_ : Int) / 2 ^ (6 * ((l : Int) + 1)).toNat = ((up (l + 1) at_ : Nat) : Int) := by rw [show (6 * ((l : Int) + 1)).toNat = 6 * (l + 1) by omega, up_int]
      have q2 : (now : Int) / 2 ^ (6 * ((l : Int) + 1)).toNat = ((up (l + 1) now : Nat) : Int) := by rw [show (6 * ((l : Int) + 1)).toNat = 6 * (l + 1) by omega, up_int]
      by_cases he : up (l + 1) at_ = up (l + 1) now
      · have hr : ring now at_ = 64 * l + slot l at_ := by rw [ring, lvl_eq h1 h2 he HUP.out]
        have hb2 : (((up (l + 1) at_ : Nat) : Int) != ((up (l + 1) now : Nat) : Int)) = false := by rw [he]; simp
        have q4 : IntKind.i64.wrap (6 * (l : Int)) = 6 * (l : Int) := by rw [IntKind.wrap_i64]; omega
        have q3 : (at_ : Int) / 2 ^ (6 * (l : Int)).toNat = ((up l at_ : Nat) : Int) := by rw [show (6 * (l : Int)).toNat = 6 * l by omega, up_int]
        have q5 : bits .and .i64 ((up l at_ : Nat) : Int) 63 = ((slot l at_ : Nat) : Int) := and63 _ (up_small l h2)
        have q6 := slot_lt l at_
        go_wp2_with fail
        go_quiet (fail)
        go_wp2_with fail
        go_quiet (fail)
        go_wp2_with fail
        go_ret
        exact ⟨ring_end hr, _, by rw [World.drewN_drewN, World.drewN_drewN]⟩
      · have hb2 : (((up (l + 1) at_ : Nat) : Int) != ((up (l + 1) now : Nat) : Int)) = true := by simp; omega
        go_wp2_with fail
        go_quiet (fail)
        go_wp2_with fail
        go_roundw
        case rel => exact ⟨l + 1, _, by go_num, by omega, fun k hk => by
          by_cases e : k = l
          · rw [e]; exact he
          · exact HUP.out k (by omega), rfl⟩
        case measure => simp [intOf]; omega
    · obtain rfl : l = 6 := by omega
      have hr : ring now at_ = 64 * 6 + slot 6 at_ := by rw [ring, lvl_eq h1 h2 (by rw [up_top h1, up_top h2]) HUP.out]
      have q3 : (at_ : Int) / 68719476736 = ((up 6 at_ : Nat) : Int) := by have := up_int 6 at_; simpa using this
      have q5 : bits .and .i64 ((up 6 at_ : Nat) : Int) 63 = ((slot 6 at_ : Nat) : Int) := and63 _ (up_small 6 h2)
      have q6 := slot_lt 6 at_
      go_wp2_with fail
      go_quiet (fail)
      go_wp2_with fail
      go_quiet (fail)
      go_wp2_with fail
      go_ret
      exact ⟨ring_end hr, _, by rw [World.drewN_drewN, World.drewN_drewN]⟩
end Go.Proofs.Ytcgchccppoignaa
