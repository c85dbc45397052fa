/- Wait for any numbers. -/
import Derived.Test.YtmdcfmdjbncaoaaDoorWA
namespace Go.Proofs.YtmdcfmdjbncaoaaDoor
open Go.RowKit

set_option maxHeartbeats 2000000 in
theorem wait_any (k b m : Int) (w : World) (hk : k ≤ 9223372036854775807) (hb : b ≤ 9223372036854775807) (hm : m ≤ 9223372036854775807) :
    Calls Tryd.prog 58 #[.int .i64 k, .int .i64 b, .int .i64 m] w fun e w' => e = .returned (.int .i64 (waitF k b m)) ∧ w = w' := by
  go_enter Tryd.func58, Tryd.ntmps58
  go_upto_region 1 with fail
  go_cut [0, 1, 2] from 8 to 13 (fun s0 s1 s2 wx => s0 = .int .i64 (max k 0) ∧ s1 = .int .i64 (max b 0) ∧ s2 = .int .i64 (max m 0) ∧ wx = w)
  case first =>
    go_wp2_with fail
    all_goals (go_meet; refine ⟨?_, ?_, ?_, rfl⟩ <;> (congr 1; omega))
  case rest =>
    obtain ⟨rfl, rfl, rfl, rfl⟩ := hcut
    have hF : waitF k b m = waitN k.toNat (max b 0) (max m 0) := rfl
    have HF := Lib.hid hF
    clear hF
    have hK : max k 0 = (k.toNat : Int) := by omega
    have hKm : (k.toNat : Int) ≤ 9223372036854775807 := by omega
    have hb0 : 0 ≤ max b 0 := by omega
    have hB : max b 0 ≤ 9223372036854775807 := by omega
    have hm0 : 0 ≤ max m 0 := by omega
    have hM : max m 0 ≤ 9223372036854775807 := by omega
    rw [hK]
    clear hK hk hb hm
    generalize k.toNat = K at *
    generalize max b 0 = B at *
    generalize max m 0 = M at *
    go_wp2_with fail
    go_loop [0, 7] (WB K B M) (fun s _ => (intOf s).toNat)
    case atStart => exact ⟨K, B, rfl, rfl, hb0, hB, Nat.le_refl _, rfl⟩
    case round =>
      obtain ⟨j, c, rfl, rfl, hc0, hc, hj, he⟩ := hrel
      have HE := Lib.hid he
      clear he
      by_cases h1 : 0 < j
      · obtain ⟨j, rfl⟩ : ∃ i, j = i + 1 := ⟨j - 1, by omega⟩
        by_cases h2 : 0 < c
        · by_cases h3 : c < M
          · by_cases h4 : M / 2 < c
            · have hX : waitN K B M = M := by rw [← HE.out, waitN_hi h2 h3 h4]
              have HX := Lib.hid hX
              clear hX
              go_wp2_with fail
              refine bodyPost_ret (v := .int .i64 M) (by simp [results, Tryd.results58, go_sem]) rfl ⟨by rw [HF.out, HX.out], rfl⟩
            · have hX : waitN j (2 * c) M = waitN K B M := by rw [← HE.out, waitN_go h2 h3 h4]
              have HX := Lib.hid hX
              clear hX
              have hX2 : waitN j (c * 2) M = waitN K B M := by rw [Int.mul_comm]; exact HX.out
              have HX2 := Lib.hid hX2
              clear hX2
              go_wp2_with fail
              go_round
              case rel => exact ⟨j, c * 2, by go_num, by go_num, by omega, by omega, by omega, HX2.out⟩
              case measure => simp [intOf]
          · have hX : waitN K B M = M := by rw [← HE.out, waitN_end (fun h => h3 h.2)]; omega
            have HX := Lib.hid hX
            clear hX
            by_cases h6 : c = M
            · subst h6
              go_wp2_with fail
              refine bodyPost_ret (v := .int .i64 c) (by simp [results, Tryd.results58, go_sem]) rfl ⟨by rw [HF.out, HX.out], rfl⟩
            · have h7 : M < c := by omega
              go_wp2_with fail
              refine bodyPost_ret (v := .int .i64 M) (by simp [results, Tryd.results58, go_sem]) rfl ⟨by rw [HF.out, HX.out], rfl⟩
        · have hX : waitN K B M = 0 := by rw [← HE.out, waitN_end (fun h => h2 h.1)]; omega
          have HX := Lib.hid hX
          clear hX
          have hc1 : c = 0 := by omega
          subst hc1
          go_wp2_with fail
          refine bodyPost_ret (v := .int .i64 0) (by simp [results, Tryd.results58, go_sem]) rfl ⟨by rw [HF.out, HX.out], rfl⟩
      · obtain rfl : j = 0 := by omega
        have hX : waitN K B M = min c M := by rw [← HE.out]; rfl
        have HX := Lib.hid hX
        clear hX
        by_cases h5 : c ≤ M
        · have hX2 : waitN K B M = c := by rw [HX.out]; omega
          have HX2 := Lib.hid hX2
          clear hX2
          go_wp2_with fail
          refine bodyPost_ret (v := .int .i64 c) (by simp [results, Tryd.results58, go_sem]) rfl ⟨by rw [HF.out, HX2.out], rfl⟩
        · have hX2 : waitN K B M = M := by rw [HX.out]; omega
          have HX2 := Lib.hid hX2
          clear hX2
          go_wp2_with fail
          refine bodyPost_ret (v := .int .i64 M) (by simp [results, Tryd.results58, go_sem]) rfl ⟨by rw [HF.out, HX2.out], rfl⟩

end Go.Proofs.YtmdcfmdjbncaoaaDoor
