/- LimitWaits: the walk, and the plain law beneath it. -/
import Derived.Test.YtcinjfafjekdlaaTakes
namespace Go.Proofs.Ytcinjfafjekdlaa
open Go.RowKit

theorem lvAt_from (a b lv ls t : Int) (ha : 1 ≤ a) (hl : 0 ≤ lv) (hl' : lv ≤ a * b) (h : ls ≤ t) : lvAt a b lv ls t = min (a * b) (lv + (t - ls) * a) := by
  by_cases hc : t ≤ ls
  · rw [show t = ls by omega, Int.sub_self, Int.zero_mul]
    unfold lvAt
    rw [if_pos (Int.le_refl _)]
    omega
  · exact lvAt_ref a b lv ls t ha hl hc

theorem wt_bd (a b lv ls now : Int) (ha : 1 ≤ a) (hb : 1 ≤ b) (hl : 0 ≤ lv) (hl' : lv ≤ a * b) : 0 ≤ wt a b lv ls now ∧ wt a b lv ls now ≤ b := by
  have hL := lvAt_bd a b lv ls now ha hb hl hl'
  unfold wt
  split
  · omega
  · refine ⟨Int.ediv_nonneg (by omega) (by omega), ?_⟩
    generalize lvAt a b lv ls now = L at *
    have h1 : (b - L + a - 1) / a ≤ (b * a) / a := Int.ediv_le_ediv (by omega) (by
      have : (b - 1) * 1 ≤ (b - 1) * a := Int.mul_le_mul_of_nonneg_left ha (by omega)
      rw [Int.mul_one, Int.sub_mul, Int.one_mul] at this
      omega)
    rwa [Int.mul_ediv_cancel _ (by omega)] at h1

theorem wt_at (a b lv ls now : Int) (ha : 1 ≤ a) (hb : 1 ≤ b) (hl : 0 ≤ lv) (hl' : lv ≤ a * b) :
    (∀ n, 0 ≤ n → lvAt a b lv ls (max now ls + n) = min (a * b) (lvAt a b lv ls now + n * a)) := by
  intro n hn
  have hna : 0 ≤ n * a := Int.mul_nonneg hn (by omega)
  rw [lvAt_from a b lv ls _ ha hl hl' (by omega)]
  by_cases h : now ≤ ls
  · rw [show lvAt a b lv ls now = lv from if_pos h, show max now ls + n - ls = n by omega]
  · rw [lvAt_from a b lv ls now ha hl hl' (by omega), show max now ls + n - ls = (now - ls) + n by omega, Int.add_mul]
    omega

theorem wt_yes (a b lv ls now : Int) (ha : 1 ≤ a) (hb : 1 ≤ b) (hl : 0 ≤ lv) (hl' : lv ≤ a * b) : tk a b lv ls (max now ls + wt a b lv ls now) = true := by
  have hw := wt_bd a b lv ls now ha hb hl hl'
  have hL := lvAt_bd a b lv ls now ha hb hl hl'
  have hab : 1 * b ≤ a * b := Int.mul_le_mul_of_nonneg_right ha (by omega)
  unfold tk
  rw [wt_at a b lv ls now ha hb hl hl' _ hw.1]
  unfold wt
  generalize lvAt a b lv ls now = L at *
  apply decide_eq_true
  split
  · omega
  · have h1 := Int.mul_ediv_add_emod (b - L + a - 1) a
    have h3 := Int.emod_lt_of_pos (b - L + a - 1) (show 0 < a by omega)
    rw [Int.mul_comm] at h1
    omega

theorem wt_no (a b lv ls now : Int) (ha : 1 ≤ a) (hb : 1 ≤ b) (hl : 0 ≤ lv) (hl' : lv ≤ a * b) (hp : 0 < wt a b lv ls now) : tk a b lv ls (max now ls + wt a b lv ls now - 1) = false := by
  have hL := lvAt_bd a b lv ls now ha hb hl hl'
  unfold tk
  rw [show max now ls + wt a b lv ls now - 1 = max now ls + (wt a b lv ls now - 1) by omega, wt_at a b lv ls now ha hb hl hl' _ (by omega)]
  unfold wt at *
  generalize lvAt a b lv ls now = L at *
  apply decide_eq_false
  split at hp
  · omega
  · rename_i hc
    rw [if_neg hc, Int.sub_mul, Int.one_mul]
    have h1 := Int.mul_ediv_add_emod (b - L + a - 1) a
    have h2 := Int.emod_nonneg (b - L + a - 1) (show a ≠ 0 by omega)
    rw [Int.mul_comm] at h1
    omega

set_option maxHeartbeats 4000000 in
set_option maxRecDepth 100000 in
theorem waits_go (lv ls a b now : Int) (w : World) (hf : fitB a b lv ls = true) (ht : tickB now = true) :
    Calls Try.prog 7 #[.agg #[.int .i64 lv, .int .i64 ls], .int .i64 a, .int .i64 b, .int .i64 now] w fun e w' => e = .returned (.bool true) ∧ Below w.heap.size w w' := by
  obtain ⟨h1, h2, h3, h4, h5, h6, h7, h8⟩ := fitB_true hf
  obtain ⟨h9, h10⟩ := tickB_true ht
  have HT := Lib.hid ht
  clear hf ht
  have hab := ab_bd a b h1 h2 h3 h4
  have hw := wt_bd a b lv ls now h1 h3 h5 h6
  have HY := Lib.hid (wt_yes a b lv ls now h1 h3 h5 h6)
  have HN := Lib.hid (wt_no a b lv ls now h1 h3 h5 h6)
  have HW := Lib.hid (fun w => wait_any a b lv ls now w h1 h2 h3 h4 h5 h6 h7 h8 h9 h10)
  have HR := Lib.hid (fun w => rwait_any a b lv ls now w h1 h2 h3 h4 h5 h6 h7 h8 h9 h10)
  generalize wt a b lv ls now = N at *
  go_enter Try.func7, Try.ntmps7
  go_wp2_with fail
  refine (fit_yes a b lv ls _ h1 h2 h3 h4 h5 h6 h7 h8).mono ?_
  rintro e w1 ⟨rfl, hb1⟩
  have hs1 : w.heap.size < w1.heap.size := by have := hb1.size; simp at this; omega
  have c0 : w1.cell? ⟨w.heap.size, 0, none⟩ = some (.int .i64 lv) := cell_over hb1 (by simp) (by simp)
  have c1 : w1.cell? ⟨w.heap.size, 1, none⟩ = some (.int .i64 ls) := cell_over hb1 (by simp) (by simp)
  have hB1 : Below w.heap.size w w1 := below_via (by go_grown) hb1 (by simp)
  clear hb1
  go_wp2_with fail
  refine (tick_any now _).mono ?_
  rintro e w1' ⟨rfl, rfl⟩
  rw [HT.out]
  clear HT
  go_wp2_with fail
  refine (HW.out _).mono ?_
  rintro e w2 ⟨rfl, hb2⟩
  have hs2 : w.heap.size < w2.heap.size := by have := hb2.size; omega
  have d0 : w2.cell? ⟨w.heap.size, 0, none⟩ = some (.int .i64 lv) := cell_over hb2 (by omega) (by go_cell)
  have d1 : w2.cell? ⟨w.heap.size, 1, none⟩ = some (.int .i64 ls) := cell_over hb2 (by omega) (by go_cell)
  have hB2 : Below w.heap.size w w2 := below_via hB1 hb2 (by omega)
  clear c0 c1 hb2 hB1
  go_wp2_with fail
  refine (HR.out _).mono ?_
  rintro e w3 ⟨rfl, hb3⟩
  have hs3 : w.heap.size < w3.heap.size := by have := hb3.size; omega
  have e0 : w3.cell? ⟨w.heap.size, 0, none⟩ = some (.int .i64 lv) := cell_over hb3 (by omega) (by go_cell)
  have e1 : w3.cell? ⟨w.heap.size, 1, none⟩ = some (.int .i64 ls) := cell_over hb3 (by omega) (by go_cell)
  have hB3 : Below w.heap.size w w3 := below_via hB2 hb3 (by omega)
  clear d0 d1 hb3 hB2
  by_cases hc : now < ls
  · have hM : max now ls = ls := by omega
    have HY2 := Lib.hid (hM ▸ HY.out)
    have HN2 := Lib.hid (hM ▸ HN.out)
    clear HY HN hM
    by_cases hfar : 1099511627776 < ls + N
    · go_wp2_with fail
      refine (awake_any _).mono ?_
      rintro e w4 ⟨rfl, hb4⟩
      have hB4 : Below w.heap.size w w4 := below_via hB3 hb4 (by omega)
      go_wp2
      go_ret
      exact ⟨rfl, hB4⟩
    · go_wp2_with fail
      refine (take_any a b lv ls (ls + N) _ h1 h2 h3 h4 h5 h6 h7 h8 (by omega) (by omega)).mono ?_
      rintro e w4 ⟨rfl, hb4⟩
      have hs4 : w.heap.size < w4.heap.size := by have := hb4.size; omega
      have f0 : w4.cell? ⟨w.heap.size, 0, none⟩ = some (.int .i64 lv) := cell_over hb4 (by omega) (by go_cell)
      have f1 : w4.cell? ⟨w.heap.size, 1, none⟩ = some (.int .i64 ls) := cell_over hb4 (by omega) (by go_cell)
      have hB4 : Below w.heap.size w w4 := below_via hB3 hb4 (by omega)
      clear e0 e1 hb4 hB3
      rw [HY2.out]
      by_cases hN : 0 < N
      · go_wp2_with fail
        refine (take_any a b lv ls (ls + N - 1) _ h1 h2 h3 h4 h5 h6 h7 h8 (by omega) (by omega)).mono ?_
        rintro e w5 ⟨rfl, hb5⟩
        have hs5 := hb5.size
        simp only [World.size_alloc] at hs5
        have hB5 : Below w.heap.size w w5 := below_via (by go_grown) hb5 (by simp; omega)
        rw [HN2.out hN]
        go_wp2_with fail
        refine (awake_any _).mono ?_
        rintro e w6 ⟨rfl, hb6⟩
        have hB6 : Below w.heap.size w w6 := below_via (by go_grown) hb6 (by simp; omega)
        go_wp2
        go_ret
        exact ⟨rfl, hB6⟩
      · go_wp2_with fail
        refine (awake_any _).mono ?_
        rintro e w6 ⟨rfl, hb6⟩
        have hB6 : Below w.heap.size w w6 := below_via (by go_grown) hb6 (by simp; omega)
        go_wp2
        go_ret
        exact ⟨rfl, hB6⟩
  · have hM : max now ls = now := by omega
    have HY2 := Lib.hid (hM ▸ HY.out)
    have HN2 := Lib.hid (hM ▸ HN.out)
    clear HY HN hM
    by_cases hfar : 1099511627776 < now + N
    · go_wp2_with fail
      refine (awake_any _).mono ?_
      rintro e w4 ⟨rfl, hb4⟩
      have hB4 : Below w.heap.size w w4 := below_via hB3 hb4 (by omega)
      go_wp2
      go_ret
      exact ⟨rfl, hB4⟩
    · go_wp2_with fail
      refine (take_any a b lv ls (now + N) _ h1 h2 h3 h4 h5 h6 h7 h8 (by omega) (by omega)).mono ?_
      rintro e w4 ⟨rfl, hb4⟩
      have hs4 : w.heap.size < w4.heap.size := by have := hb4.size; omega
      have f0 : w4.cell? ⟨w.heap.size, 0, none⟩ = some (.int .i64 lv) := cell_over hb4 (by omega) (by go_cell)
      have f1 : w4.cell? ⟨w.heap.size, 1, none⟩ = some (.int .i64 ls) := cell_over hb4 (by omega) (by go_cell)
      have hB4 : Below w.heap.size w w4 := below_via hB3 hb4 (by omega)
      clear e0 e1 hb4 hB3
      rw [HY2.out]
      by_cases hN : 0 < N
      · go_wp2_with fail
        refine (take_any a b lv ls (now + N - 1) _ h1 h2 h3 h4 h5 h6 h7 h8 (by omega) (by omega)).mono ?_
        rintro e w5 ⟨rfl, hb5⟩
        have hs5 := hb5.size
        simp only [World.size_alloc] at hs5
        have hB5 : Below w.heap.size w w5 := below_via (by go_grown) hb5 (by simp; omega)
        rw [HN2.out hN]
        go_wp2_with fail
        refine (awake_any _).mono ?_
        rintro e w6 ⟨rfl, hb6⟩
        have hB6 : Below w.heap.size w w6 := below_via (by go_grown) hb6 (by simp; omega)
        go_wp2
        go_ret
        exact ⟨rfl, hB6⟩
      · go_wp2_with fail
        refine (awake_any _).mono ?_
        rintro e w6 ⟨rfl, hb6⟩
        have hB6 : Below w.heap.size w w6 := below_via (by go_grown) hb6 (by simp; omega)
        go_wp2
        go_ret
        exact ⟨rfl, hB6⟩

set_option maxHeartbeats 4000000 in
set_option maxRecDepth 100000 in
theorem walk_LimitWaits (lv ls a b now : Int) (w : World) (_ : (Lit.int .i64 a).wf = true) (_ : (Lit.int .i64 b).wf = true) (_ : (Lit.int .i64 now).wf = true) :
    Calls Try.prog 7 #[.agg #[.int .i64 lv, .int .i64 ls], .int .i64 a, .int .i64 b, .int .i64 now] w fun e w' => e = .returned (.bool true) ∧ Below w.heap.size w w' := by
  cases hf : fitB a b lv ls with
  | false =>
    go_enter Try.func7, Try.ntmps7
    go_wp2_with fail
    refine (fit_no a b lv ls _ hf).mono ?_
    rintro e w1 ⟨rfl, hb1⟩
    have hs1 : w.heap.size < w1.heap.size := by have := hb1.size; simp at this; omega
    have hB1 : Below w.heap.size w w1 := below_via (by go_grown) hb1 (by simp)
    clear hb1
    go_wp2_with fail
    refine (awake_any _).mono ?_
    rintro e w2 ⟨rfl, hb2⟩
    have hB2 : Below w.heap.size w w2 := below_via hB1 hb2 (by omega)
    go_wp2
    go_ret
    exact ⟨rfl, hB2⟩
  | true =>
    cases ht : tickB now with
    | true => exact waits_go lv ls a b now w hf ht
    | false =>
      obtain ⟨h1, h2, h3, h4, h5, h6, h7, h8⟩ := fitB_true hf
      have HT := Lib.hid ht
      clear hf ht
      go_enter Try.func7, Try.ntmps7
      go_wp2_with fail
      refine (fit_yes a b lv ls _ h1 h2 h3 h4 h5 h6 h7 h8).mono ?_
      rintro e w1 ⟨rfl, hb1⟩
      have hs1 : w.heap.size < w1.heap.size := by have := hb1.size; simp at this; omega
      have hB1 : Below w.heap.size w w1 := below_via (by go_grown) hb1 (by simp)
      clear hb1
      go_wp2_with fail
      refine (tick_any now _).mono ?_
      rintro e w1' ⟨rfl, rfl⟩
      rw [HT.out]
      go_wp2_with fail
      refine (awake_any _).mono ?_
      rintro e w2 ⟨rfl, hb2⟩
      have hB2 : Below w.heap.size w w2 := below_via hB1 hb2 (by omega)
      go_wp2
      go_ret
      exact ⟨rfl, hB2⟩

end Go.Proofs.Ytcinjfafjekdlaa
