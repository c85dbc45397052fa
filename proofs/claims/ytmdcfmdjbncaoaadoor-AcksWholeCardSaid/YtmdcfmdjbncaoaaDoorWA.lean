/- Wait, and the reference's. -/
import Derived.Test.YtmdcfmdjbncaoaaDoorK
import Derived.Test.YtmdcfmdjbncaoaaDoorWP
namespace Go.Proofs.YtmdcfmdjbncaoaaDoor
open Go.RowKit

theorem waitN_hi {k : Nat} {b m : Int} (h1 : 0 < b) (h2 : b < m) (h3 : m / 2 < b) : waitN (k + 1) b m = m := by
  rw [waitN, if_pos ⟨h1, h2⟩, if_pos h3]
theorem waitN_go {k : Nat} {b m : Int} (h1 : 0 < b) (h2 : b < m) (h3 : ¬m / 2 < b) : waitN (k + 1) b m = waitN k (2 * b) m := by
  rw [waitN, if_pos ⟨h1, h2⟩, if_neg h3]
theorem waitN_end {k : Nat} {b m : Int} (h : ¬(0 < b ∧ b < m)) : waitN k b m = min b m := by
  cases k with
  | zero => rfl
  | succ k => rw [waitN, if_neg h]

/-- The loop of Wait, from any state that its numbers can be in. -/
def WB (k : Nat) (b m : Int) (s0 s7 : Value) : Prop := ∃ (j : Nat) (c : Int), s0 = .int .i64 j ∧ s7 = .int .i64 c ∧ 0 ≤ c ∧ c ≤ 9223372036854775807 ∧ j ≤ k ∧ waitN j c m = waitN k b m

set_option maxHeartbeats 1000000 in
theorem wait_go (k : Nat) (b m : Int) (w : World) (hk : (k : Int) ≤ 9223372036854775807) (hb0 : 0 ≤ b) (hb : b ≤ 9223372036854775807) (hm0 : 0 ≤ m) (hm : m ≤ 9223372036854775807) :
    Calls Tryd.prog 58 #[.int .i64 k, .int .i64 b, .int .i64 m] w fun e w' => e = .returned (.int .i64 (waitN k b m)) ∧ w = w' := by
  go_enter Tryd.func58, Tryd.ntmps58
  go_wp2_with fail
  go_loop [0, 7] (WB k b m) (fun s _ => (intOf s).toNat)
  case atStart => exact ⟨k, b, rfl, rfl, hb0, hb, Nat.le_refl _, rfl⟩
  case round =>
    obtain ⟨j, c, rfl, rfl, hc0, hc, hj, he⟩ := hrel
    have HE := Lib.hid he
    clear he
    by_cases h1 : 0 < j
    · obtain ⟨j, rfl⟩ : ∃ i, j = i + 1 := ⟨j - 1, by omega⟩
      by_cases h2 : 0 < c
      · by_cases h3 : c < m
        · by_cases h4 : m / 2 < c
          · have hX : waitN k b m = m := by rw [← HE.out, waitN_hi h2 h3 h4]
            have HX := Lib.hid hX
            clear hX
            go_wp2_with fail
            refine bodyPost_ret (v := .int .i64 m) (by simp [results, Tryd.results58, go_sem]) rfl ⟨by rw [HX.out], rfl⟩
          · have hX : waitN j (2 * c) m = waitN k b m := by rw [← HE.out, waitN_go h2 h3 h4]
            have HX := Lib.hid hX
            clear hX
            have hX2 : waitN j (c * 2) m = waitN k b m := by rw [Int.mul_comm]; exact HX.out
            have HX2 := Lib.hid hX2
            clear hX2
            go_wp2_with fail
            go_round
            case rel => exact ⟨j, c * 2, by go_num, by go_num, by omega, by omega, by omega, HX2.out⟩
            case measure => simp [intOf]
        · have hX : waitN k b m = m := by rw [← HE.out, waitN_end (fun h => h3 h.2)]; omega
          have HX := Lib.hid hX
          clear hX
          by_cases h6 : c = m
          · subst h6
            go_wp2_with fail
            refine bodyPost_ret (v := .int .i64 c) (by simp [results, Tryd.results58, go_sem]) rfl ⟨by rw [HX.out], rfl⟩
          · have h7 : m < c := by omega
            go_wp2_with fail
            refine bodyPost_ret (v := .int .i64 m) (by simp [results, Tryd.results58, go_sem]) rfl ⟨by rw [HX.out], rfl⟩
      · have hX : waitN k b m = 0 := by rw [← HE.out, waitN_end (fun h => h2 h.1)]; omega
        have HX := Lib.hid hX
        clear hX
        have hc1 : c = 0 := by omega
        subst hc1
        go_wp2_with fail
        refine bodyPost_ret (v := .int .i64 0) (by simp [results, Tryd.results58, go_sem]) rfl ⟨by rw [HX.out], rfl⟩
    · obtain rfl : j = 0 := by omega
      have hX : waitN k b m = min c m := by rw [← HE.out]; rfl
      have HX := Lib.hid hX
      clear hX
      by_cases h5 : c ≤ m
      · have hX2 : waitN k b m = c := by rw [HX.out]; omega
        have HX2 := Lib.hid hX2
        clear hX2
        go_wp2_with fail
        refine bodyPost_ret (v := .int .i64 c) (by simp [results, Tryd.results58, go_sem]) rfl ⟨by rw [HX2.out], rfl⟩
      · have hX2 : waitN k b m = m := by rw [HX.out]; omega
        have HX2 := Lib.hid hX2
        clear hX2
        go_wp2_with fail
        refine bodyPost_ret (v := .int .i64 m) (by simp [results, Tryd.results58, go_sem]) rfl ⟨by rw [HX2.out], rfl⟩

end Go.Proofs.YtmdcfmdjbncaoaaDoor
