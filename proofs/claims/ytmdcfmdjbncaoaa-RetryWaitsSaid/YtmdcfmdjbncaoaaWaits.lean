/- RetryWaits: Wait is the reference's for any numbers; it lies between 0 and most; it rises in each number. -/
import Derived.Test.YtmdcfmdjbncaoaaAwk
namespace Go.Proofs.Ytmdcfmdjbncaoaa
open Go.RowKit

set_option maxHeartbeats 8000000 in
set_option maxRecDepth 100000 in
theorem walk_RetryWaits (k b m : Int) (w : World) (wk : (Lit.int .i64 k).wf = true) (wb : (Lit.int .i64 b).wf = true) (wm : (Lit.int .i64 m).wf = true) :
    Calls Try.prog 6 #[.int .i64 k, .int .i64 b, .int .i64 m] w fun e w' => e = .returned (.bool true) ∧ Below w.heap.size w w' := by
  have hk := bounds_i64 wk
  have hb := bounds_i64 wb
  have hm := bounds_i64 wm
  have hbd := waitF_bd k b m
  have hrk := waitF_k k b m
  have hrb := waitF_b k b m
  have hrm := waitF_m k b m
  have c0 := fun W => wait_any k b m W hk.2 hb.2 hm.2
  have c1 := fun W => rwait_any k b m W hk.2 hb.2 hm.2
  have ck := fun (h : k < 4611686018427387904) W => wait_any (k + 1) b m W (by omega) hb.2 hm.2
  have cb := fun (h : b < 4611686018427387904) W => wait_any k (b + 1) m W hk.2 (by omega) hm.2
  have cm := fun (h : m < 4611686018427387904) W => wait_any k b (m + 1) W hk.2 hb.2 (by omega)
  generalize waitF k b m = W0 at *
  generalize waitF (k + 1) b m = WK at *
  generalize waitF k (b + 1) m = WB at *
  generalize waitF k b (m + 1) = WM at *
  obtain ⟨k1, k2⟩ := hk
  obtain ⟨b1, b2⟩ := hb
  obtain ⟨m1, m2⟩ := hm
  obtain ⟨d1, d2⟩ := hbd
  have C0 := Lib.hid c0
  have C1 := Lib.hid c1
  have CK := Lib.hid ck
  have CB := Lib.hid cb
  have CM := Lib.hid cm
  clear c0 c1 ck cb cm wk wb wm
  have d3 : ¬ W0 < 0 := by omega
  have d4 : ¬ WK < W0 := by omega
  have d5 : ¬ WB < W0 := by omega
  have d6 : ¬ WM < W0 := by omega
  by_cases hk : k < 4611686018427387904
  · by_cases hb : b < 4611686018427387904
    · by_cases hm : m < 4611686018427387904
      · by_cases h0 : 0 ≤ m
        · have d7 : W0 ≤ m := by omega
          go_enter Try.func6, Try.ntmps6
          go_wp2_with fail
          refine (C0.out _).mono ?_
          rintro e w' ⟨rfl, rfl⟩
          go_wp2_with fail
          refine (C1.out _).mono ?_
          rintro e w' ⟨rfl, rfl⟩
          go_wp2_with fail
          refine (CK.out hk _).mono ?_
          rintro e w' ⟨rfl, rfl⟩
          go_wp2_with fail
          refine (CB.out hb _).mono ?_
          rintro e w' ⟨rfl, rfl⟩
          go_wp2_with fail
          refine (CM.out hm _).mono ?_
          rintro e w' ⟨rfl, rfl⟩
          go_wp2_with fail
          refine (awake_any _).mono ?_
          rintro e w' ⟨rfl, hbw⟩
          go_wp2_with fail
          go_ret
          exact ⟨rfl, hbw⟩
        · have d7 : W0 ≤ 0 := by omega
          go_enter Try.func6, Try.ntmps6
          go_wp2_with fail
          refine (C0.out _).mono ?_
          rintro e w' ⟨rfl, rfl⟩
          go_wp2_with fail
          refine (C1.out _).mono ?_
          rintro e w' ⟨rfl, rfl⟩
          go_wp2_with fail
          refine (CK.out hk _).mono ?_
          rintro e w' ⟨rfl, rfl⟩
          go_wp2_with fail
          refine (CB.out hb _).mono ?_
          rintro e w' ⟨rfl, rfl⟩
          go_wp2_with fail
          refine (CM.out hm _).mono ?_
          rintro e w' ⟨rfl, rfl⟩
          go_wp2_with fail
          refine (awake_any _).mono ?_
          rintro e w' ⟨rfl, hbw⟩
          go_wp2_with fail
          go_ret
          exact ⟨rfl, hbw⟩
      · by_cases h0 : 0 ≤ m
        · have d7 : W0 ≤ m := by omega
          go_enter Try.func6, Try.ntmps6
          go_wp2_with fail
          refine (C0.out _).mono ?_
          rintro e w' ⟨rfl, rfl⟩
          go_wp2_with fail
          refine (C1.out _).mono ?_
          rintro e w' ⟨rfl, rfl⟩
          go_wp2_with fail
          refine (CK.out hk _).mono ?_
          rintro e w' ⟨rfl, rfl⟩
          go_wp2_with fail
          refine (CB.out hb _).mono ?_
          rintro e w' ⟨rfl, rfl⟩
          go_wp2_with fail
          refine (awake_any _).mono ?_
          rintro e w' ⟨rfl, hbw⟩
          go_wp2_with fail
          go_ret
          exact ⟨rfl, hbw⟩
        · exfalso
          omega
    · by_cases hm : m < 4611686018427387904
      · by_cases h0 : 0 ≤ m
        · have d7 : W0 ≤ m := by omega
          go_enter Try.func6, Try.ntmps6
          go_wp2_with fail
          refine (C0.out _).mono ?_
          rintro e w' ⟨rfl, rfl⟩
          go_wp2_with fail
          refine (C1.out _).mono ?_
          rintro e w' ⟨rfl, rfl⟩
          go_wp2_with fail
          refine (CK.out hk _).mono ?_
          rintro e w' ⟨rfl, rfl⟩
          go_wp2_with fail
          refine (CM.out hm _).mono ?_
          rintro e w' ⟨rfl, rfl⟩
          go_wp2_with fail
          refine (awake_any _).mono ?_
          rintro e w' ⟨rfl, hbw⟩
          go_wp2_with fail
          go_ret
          exact ⟨rfl, hbw⟩
        · have d7 : W0 ≤ 0 := by omega
          go_enter Try.func6, Try.ntmps6
          go_wp2_with fail
          refine (C0.out _).mono ?_
          rintro e w' ⟨rfl, rfl⟩
          go_wp2_with fail
          refine (C1.out _).mono ?_
          rintro e w' ⟨rfl, rfl⟩
          go_wp2_with fail
          refine (CK.out hk _).mono ?_
          rintro e w' ⟨rfl, rfl⟩
          go_wp2_with fail
          refine (CM.out hm _).mono ?_
          rintro e w' ⟨rfl, rfl⟩
          go_wp2_with fail
          refine (awake_any _).mono ?_
          rintro e w' ⟨rfl, hbw⟩
          go_wp2_with fail
          go_ret
          exact ⟨rfl, hbw⟩
      · by_cases h0 : 0 ≤ m
        · have d7 : W0 ≤ m := by omega
          go_enter Try.func6, Try.ntmps6
          go_wp2_with fail
          refine (C0.out _).mono ?_
          rintro e w' ⟨rfl, rfl⟩
          go_wp2_with fail
          refine (C1.out _).mono ?_
          rintro e w' ⟨rfl, rfl⟩
          go_wp2_with fail
          refine (CK.out hk _).mono ?_
          rintro e w' ⟨rfl, rfl⟩
          go_wp2_with fail
          refine (awake_any _).mono ?_
          rintro e w' ⟨rfl, hbw⟩
          go_wp2_with fail
          go_ret
          exact ⟨rfl, hbw⟩
        · exfalso
          omega
  · by_cases hb : b < 4611686018427387904
    · by_cases hm : m < 4611686018427387904
      · by_cases h0 : 0 ≤ m
        · have d7 : W0 ≤ m := by omega
          go_enter Try.func6, Try.ntmps6
          go_wp2_with fail
          refine (C0.out _).mono ?_
          rintro e w' ⟨rfl, rfl⟩
          go_wp2_with fail
          refine (C1.out _).mono ?_
          rintro e w' ⟨rfl, rfl⟩
          go_wp2_with fail
          refine (CB.out hb _).mono ?_
          rintro e w' ⟨rfl, rfl⟩
          go_wp2_with fail
          refine (CM.out hm _).mono ?_
          rintro e w' ⟨rfl, rfl⟩
          go_wp2_with fail
          refine (awake_any _).mono ?_
          rintro e w' ⟨rfl, hbw⟩
          go_wp2_with fail
          go_ret
          exact ⟨rfl, hbw⟩
        · have d7 : W0 ≤ 0 := by omega
          go_enter Try.func6, Try.ntmps6
          go_wp2_with fail
          refine (C0.out _).mono ?_
          rintro e w' ⟨rfl, rfl⟩
          go_wp2_with fail
          refine (C1.out _).mono ?_
          rintro e w' ⟨rfl, rfl⟩
          go_wp2_with fail
          refine (CB.out hb _).mono ?_
          rintro e w' ⟨rfl, rfl⟩
          go_wp2_with fail
          refine (CM.out hm _).mono ?_
          rintro e w' ⟨rfl, rfl⟩
          go_wp2_with fail
          refine (awake_any _).mono ?_
          rintro e w' ⟨rfl, hbw⟩
          go_wp2_with fail
          go_ret
          exact ⟨rfl, hbw⟩
      · by_cases h0 : 0 ≤ m
        · have d7 : W0 ≤ m := by omega
          go_enter Try.func6, Try.ntmps6
          go_wp2_with fail
          refine (C0.out _).mono ?_
          rintro e w' ⟨rfl, rfl⟩
          go_wp2_with fail
          refine (C1.out _).mono ?_
          rintro e w' ⟨rfl, rfl⟩
          go_wp2_with fail
          refine (CB.out hb _).mono ?_
          rintro e w' ⟨rfl, rfl⟩
          go_wp2_with fail
          refine (awake_any _).mono ?_
          rintro e w' ⟨rfl, hbw⟩
          go_wp2_with fail
          go_ret
          exact ⟨rfl, hbw⟩
        · exfalso
          omega
    · by_cases hm : m < 4611686018427387904
      · by_cases h0 : 0 ≤ m
        · have d7 : W0 ≤ m := by omega
          go_enter Try.func6, Try.ntmps6
          go_wp2_with fail
          refine (C0.out _).mono ?_
          rintro e w' ⟨rfl, rfl⟩
          go_wp2_with fail
          refine (C1.out _).mono ?_
          rintro e w' ⟨rfl, rfl⟩
          go_wp2_with fail
          refine (CM.out hm _).mono ?_
          rintro e w' ⟨rfl, rfl⟩
          go_wp2_with fail
          refine (awake_any _).mono ?_
          rintro e w' ⟨rfl, hbw⟩
          go_wp2_with fail
          go_ret
          exact ⟨rfl, hbw⟩
        · have d7 : W0 ≤ 0 := by omega
          go_enter Try.func6, Try.ntmps6
          go_wp2_with fail
          refine (C0.out _).mono ?_
          rintro e w' ⟨rfl, rfl⟩
          go_wp2_with fail
          refine (C1.out _).mono ?_
          rintro e w' ⟨rfl, rfl⟩
          go_wp2_with fail
          refine (CM.out hm _).mono ?_
          rintro e w' ⟨rfl, rfl⟩
          go_wp2_with fail
          refine (awake_any _).mono ?_
          rintro e w' ⟨rfl, hbw⟩
          go_wp2_with fail
          go_ret
          exact ⟨rfl, hbw⟩
      · by_cases h0 : 0 ≤ m
        · have d7 : W0 ≤ m := by omega
          go_enter Try.func6, Try.ntmps6
          go_wp2_with fail
          refine (C0.out _).mono ?_
          rintro e w' ⟨rfl, rfl⟩
          go_wp2_with fail
          refine (C1.out _).mono ?_
          rintro e w' ⟨rfl, rfl⟩
          go_wp2_with fail
          refine (awake_any _).mono ?_
          rintro e w' ⟨rfl, hbw⟩
          go_wp2_with fail
          go_ret
          exact ⟨rfl, hbw⟩
        · exfalso
          omega
end Go.Proofs.Ytmdcfmdjbncaoaa
