/- The reference's Wait. -/
import Derived.Test.YtmdcfmdjbncaoaaDoorWB
namespace Go.Proofs.YtmdcfmdjbncaoaaDoor
open Go.RowKit

def WC (k B M : Int) (s7 s9 : Value) : Prop := ∃ (i : Nat) (c : Int), s7 = .int .i64 c ∧ s9 = .int .i64 i ∧ 0 ≤ c ∧ c ≤ 9223372036854775807 ∧ i ≤ k.toNat ∧ waitN (k.toNat - i) c M = waitN k.toNat B M

set_option maxHeartbeats 2000000 in
theorem rwait_any (k b m : Int) (w : World) (hk : k ≤ 9223372036854775807) (hb : b ≤ 9223372036854775807) (hm : m ≤ 9223372036854775807) :
    Calls Tryd.prog 36 #[.int .i64 k, .int .i64 b, .int .i64 m] w fun e w' => e = .returned (.int .i64 (waitF k b m)) ∧ w = w' := by
  go_enter Tryd.func36, Tryd.ntmps36
  go_upto_region 1 with fail
  go_cut [7] from 10 to 11 (fun s7 wx => s7 = .int .i64 (max b 0) ∧ wx = w)
  case first =>
    go_wp2_with fail
    all_goals (go_meet; refine ⟨?_, rfl⟩; congr 1; omega)
  case rest =>
   obtain ⟨rfl, rfl⟩ := hcut
   go_upto_region 2 with fail
   go_cut [8] from 12 to 13 (fun s8 wx => s8 = .int .i64 (max m 0) ∧ wx = wc)
   case first =>
    go_wp2_with fail
    all_goals (go_meet; refine ⟨?_, rfl⟩; congr 1; omega)
   case rest =>
    obtain ⟨rfl, rfl⟩ := hcut
    have hF : waitF k b m = waitN k.toNat (max b 0) (max m 0) := rfl
    have HF := Lib.hid hF
    clear hF
    have hb0 : 0 ≤ max b 0 := by omega
    have hB : max b 0 ≤ 9223372036854775807 := by omega
    have hm0 : 0 ≤ max m 0 := by omega
    have hM : max m 0 ≤ 9223372036854775807 := by omega
    clear hb hm
    generalize max b 0 = B at *
    generalize max m 0 = M at *
    go_wp2_with fail
    go_loop [7, 9] (WC k B M) (fun _ s => k.toNat - (intOf s).toNat)
    case atStart => exact ⟨0, B, rfl, rfl, hb0, hB, Nat.zero_le _, rfl⟩
    case round =>
      obtain ⟨i, c, rfl, rfl, hc0, hc, hi, he⟩ := hrel
      have HE := Lib.hid he
      clear he
      by_cases h1 : (i : Int) < k
      · obtain ⟨j, hj⟩ : ∃ j, k.toNat - i = j + 1 := ⟨k.toNat - i - 1, by omega⟩
        have hj2 : k.toNat - (i + 1) = j := by omega
        have HJ := Lib.hid hj
        have HJ2 := Lib.hid hj2
        clear hj hj2
        by_cases h2 : 0 < c
        · by_cases h3 : c < M
          · by_cases h4 : M / 2 < c
            · have hX : waitN k.toNat B M = M := by rw [← HE.out, HJ.out, waitN_hi h2 h3 h4]
              have HX := Lib.hid hX
              clear hX
              go_wp2_with fail
              refine bodyPost_ret (v := .int .i64 M) (by simp [results, Tryd.results36, go_sem]) rfl ⟨by rw [HF.out, HX.out], rfl⟩
            · have hX : waitN (k.toNat - (i + 1)) (2 * c) M = waitN k.toNat B M := by rw [← HE.out, HJ.out, HJ2.out, waitN_go h2 h3 h4]
              have HX := Lib.hid hX
              clear hX
              go_wp2_with fail
              go_round
              case rel => exact ⟨i + 1, 2 * c, by go_num, by go_num, by omega, by omega, by omega, HX.out⟩
              case measure => simp [intOf]; omega
          · have hX : waitN k.toNat B M = M := by rw [← HE.out, waitN_end (fun h => h3 h.2)]; omega
            have HX := Lib.hid hX
            clear hX
            by_cases h6 : c = M
            · subst h6
              go_wp2_with fail
              refine bodyPost_ret (v := .int .i64 c) (by simp [results, Tryd.results36, go_sem]) rfl ⟨by rw [HF.out, HX.out], rfl⟩
            · have h7 : M < c := by omega
              go_wp2_with fail
              refine bodyPost_ret (v := .int .i64 M) (by simp [results, Tryd.results36, go_sem]) rfl ⟨by rw [HF.out, HX.out], rfl⟩
        · have hX : waitN k.toNat B M = 0 := by rw [← HE.out, waitN_end (fun h => h2 h.1)]; omega
          have HX := Lib.hid hX
          clear hX
          have hc1 : c = 0 := by omega
          subst hc1
          go_wp2_with fail
          refine bodyPost_ret (v := .int .i64 0) (by simp [results, Tryd.results36, go_sem]) rfl ⟨by rw [HF.out, HX.out], rfl⟩
      · have hj : k.toNat - i = 0 := by omega
        have hX : waitN k.toNat B M = min c M := by rw [← HE.out, hj]; rfl
        have HX := Lib.hid hX
        clear hX hj
        by_cases h5 : c ≤ M
        · have hX2 : waitN k.toNat B M = c := by rw [HX.out]; omega
          have HX2 := Lib.hid hX2
          clear hX2
          go_wp2_with fail
          refine bodyPost_ret (v := .int .i64 c) (by simp [results, Tryd.results36, go_sem]) rfl ⟨by rw [HF.out, HX2.out], rfl⟩
        · have hX2 : waitN k.toNat B M = M := by rw [HX.out]; omega
          have HX2 := Lib.hid hX2
          clear hX2
          go_wp2_with fail
          refine bodyPost_ret (v := .int .i64 M) (by simp [results, Tryd.results36, go_sem]) rfl ⟨by rw [HF.out, HX2.out], rfl⟩

end Go.Proofs.YtmdcfmdjbncaoaaDoor
