/- Contracts: New, the reference's now, Take, Wait, New; Fit, tick, awake. -/
import Derived.Test.YtcinjfafjekdlaaB
namespace Go.Proofs.Ytcinjfafjekdlaa
open Go.RowKit

theorem new_any (a b now : Int) (w : World) (hab : 0 ≤ a * b) (hab' : a * b ≤ 1000000000000) :
    Calls Try.prog 13 #[.int .i64 a, .int .i64 b, .int .i64 now] w fun e w' => e = .returned (.agg #[.int .i64 (a * b), .int .i64 now]) ∧ Below w.heap.size w w' := by
  go_enter Try.func13, Try.ntmps13
  go_wp2
  exact bodyPost_ret (v := .agg #[.int .i64 (a * b), .int .i64 now]) (by simp [results, Try.results13, go_sem]) rfl ⟨rfl, by go_grown⟩

theorem rnew_any (a b now : Int) (w : World) (hab : 0 ≤ a * b) (hab' : a * b ≤ 1000000000000) :
    Calls Try.prog 14 #[.int .i64 a, .int .i64 b, .int .i64 now] w fun e w' => e = .returned (.agg #[.int .i64 (a * b), .int .i64 now]) ∧ Below w.heap.size w w' := by
  go_enter Try.func14, Try.ntmps14
  go_wp2
  exact bodyPost_ret (v := .agg #[.int .i64 (a * b), .int .i64 now]) (by simp [results, Try.results14, go_sem]) rfl ⟨rfl, by go_grown⟩

theorem lvAt_ref (a b lv ls now : Int) (ha : 1 ≤ a) (hl : 0 ≤ lv) (h : ¬ now ≤ ls) : lvAt a b lv ls now = min (a * b) (lv + (now - ls) * a) := by
  unfold lvAt
  rw [if_neg h]
  by_cases hc : now - ls ≤ b + 1
  · rw [show min (now - ls) (b + 1) = now - ls by omega, Int.mul_comm a (now - ls)]
  · rw [show min (now - ls) (b + 1) = b + 1 by omega]
    have h1 : (b + 1) * a ≤ (now - ls) * a := Int.mul_le_mul_of_nonneg_right (by omega) (by omega)
    have h2 : (b + 1) * a = a * b + a := by rw [Int.add_mul, Int.mul_comm]; omega
    have h3 : a * (b + 1) = a * b + a := by rw [Int.mul_add]; omega
    omega

set_option maxHeartbeats 1000000 in
theorem rnow_any (a b lv ls now : Int) (w : World) (ha : 1 ≤ a) (ha' : a ≤ 1000000) (hb : 1 ≤ b) (hb' : b ≤ 1000000) (hl : 0 ≤ lv) (hl' : lv ≤ a * b)
    (hs : 0 ≤ ls) (hs' : ls ≤ 1099511627776) (hn : 0 ≤ now) (hn' : now ≤ 1099511627776) :
    Calls Try.prog 18 #[.agg #[.int .i64 lv, .int .i64 ls], .int .i64 a, .int .i64 b, .int .i64 now] w fun e w' =>
      e = .returned (.agg #[.int .i64 (lvAt a b lv ls now), .int .i64 (max ls now)]) ∧ Below w.heap.size w w' := by
  by_cases h : now ≤ ls
  · rw [show max ls now = ls by omega, show lvAt a b lv ls now = lv from if_pos h]
    go_enter Try.func18, Try.ntmps18
    go_wp2
    exact bodyPost_ret (v := .agg #[.int .i64 lv, .int .i64 ls]) (by simp [results, Try.results18, go_sem]) rfl ⟨rfl, by go_grown⟩
  · have hab := ab_bd a b ha ha' hb hb'
    rw [show max ls now = now by omega, lvAt_ref a b lv ls now ha hl h]
    have hm : (now - ls) * a ≤ 1099511627776 * 1000000 := Int.mul_le_mul (by omega) ha' (by omega) (by omega)
    have hm0 : 0 ≤ (now - ls) * a := Int.mul_nonneg (by omega) (by omega)
    rcases Int.le_total (a * b) (lv + (now - ls) * a) with hc | hc
    · rw [Int.min_eq_left hc]
      go_enter Try.func18, Try.ntmps18
      go_wp2
      exact bodyPost_ret (v := .agg #[.int .i64 (a * b), .int .i64 now]) (by simp [results, Try.results18, go_sem]) rfl ⟨rfl, by go_grown⟩
    · rw [Int.min_eq_right hc]
      go_enter Try.func18, Try.ntmps18
      go_wp2
      all_goals exact bodyPost_ret (v := .agg #[.int .i64 (lv + (now - ls) * a), .int .i64 now]) (by simp [results, Try.results18, go_sem]; try omega) rfl ⟨rfl, by go_grown⟩

set_option maxHeartbeats 1000000 in
theorem rtake_any (a b lv ls now : Int) (w : World) (ha : 1 ≤ a) (ha' : a ≤ 1000000) (hb : 1 ≤ b) (hb' : b ≤ 1000000) (hl : 0 ≤ lv) (hl' : lv ≤ a * b)
    (hs : 0 ≤ ls) (hs' : ls ≤ 1099511627776) (hn : 0 ≤ now) (hn' : now ≤ 1099511627776) :
    Calls Try.prog 12 #[.agg #[.int .i64 lv, .int .i64 ls], .int .i64 a, .int .i64 b, .int .i64 now] w fun e w' =>
      e = .returned (.tuple #[.agg #[.int .i64 (tkLv a b lv ls now), .int .i64 (max ls now)], .bool (tk a b lv ls now)]) ∧ Below w.heap.size w w' := by
  have hab := ab_bd a b ha ha' hb hb'
  have hL := lvAt_bd a b lv ls now ha hb hl hl'
  have hC := fun w => rnow_any a b lv ls now w ha ha' hb hb' hl hl' hs hs' hn hn'
  unfold tk tkLv
  generalize lvAt a b lv ls now = L at *
  have HC := Lib.hid hC
  clear hC
  by_cases h : L < b
  · have e1 : (if b ≤ L then L - b else L) = L := if_neg (by omega)
    have e2 : decide (b ≤ L) = false := by simp; omega
    rw [e1, e2]
    clear e1 e2
    go_enter Try.func12, Try.ntmps12
    go_wp2_with (go_at_call 18; refine (HC.out _).mono ?_; rintro e w1 ⟨rfl, hb1⟩; obtain ⟨hc, hf⟩ := bcell hb1; simp only [World.size_alloc] at hc hf; have c0 : w1.cell? ⟨w.heap.size, 0, none⟩ = some (.int .i64 lv) := (by rw [hc _ _ (by omega)]; simp); have c1 : w1.cell? ⟨w.heap.size, 1, none⟩ = some (.int .i64 ls) := (by rw [hc _ _ (by omega)]; simp); have hz0 : w.heap.size < w1.heap.size := (by have := hb1.size; simp at this; omega); have hz : w.heap.size + 1 < w1.heap.size := (by have := hb1.size; simp at this; omega); have hbw := below_via (B := w.heap.size) (w := w) (by go_grown) hb1 (by simp; omega))
    exact bodyPost_ret (v := .tuple #[.agg #[.int .i64 L, .int .i64 (max ls now)], .bool false]) (by simp [results, Try.results12, go_sem, hc, hz]) rfl ⟨rfl, by go_grown⟩
  · have e1 : (if b ≤ L then L - b else L) = L - b := if_pos (by omega)
    have e2 : decide (b ≤ L) = true := by simp; omega
    rw [e1, e2]
    clear e1 e2
    go_enter Try.func12, Try.ntmps12
    go_wp2_with (go_at_call 18; refine (HC.out _).mono ?_; rintro e w1 ⟨rfl, hb1⟩; obtain ⟨hc, hf⟩ := bcell hb1; simp only [World.size_alloc] at hc hf; have c0 : w1.cell? ⟨w.heap.size, 0, none⟩ = some (.int .i64 lv) := (by rw [hc _ _ (by omega)]; simp); have c1 : w1.cell? ⟨w.heap.size, 1, none⟩ = some (.int .i64 ls) := (by rw [hc _ _ (by omega)]; simp); have hz0 : w.heap.size < w1.heap.size := (by have := hb1.size; simp at this; omega); have hz : w.heap.size + 1 < w1.heap.size := (by have := hb1.size; simp at this; omega); have hbw := below_via (B := w.heap.size) (w := w) (by go_grown) hb1 (by simp; omega))
    exact bodyPost_ret (v := .tuple #[.agg #[.int .i64 (L - b), .int .i64 (max ls now)], .bool true]) (by simp [results, Try.results12, go_sem, hc, hz]) rfl ⟨rfl, by go_grown⟩

def wt (a b lv ls now : Int) : Int := if b ≤ lvAt a b lv ls now then 0 else (b - lvAt a b lv ls now + a - 1) / a

theorem ceil_ref (a m : Int) (ha : 1 ≤ a) : (if m / a * a < m then m / a + 1 else m / a) = (m + a - 1) / a := by
  have h1 := Int.mul_ediv_add_emod m a
  have h2 := Int.emod_nonneg m (show a ≠ 0 by omega)
  have h3 := Int.emod_lt_of_pos m (show 0 < a by omega)
  have hq : m / a * a = a * (m / a) := Int.mul_comm _ _
  rw [hq]
  generalize m / a = q at *
  generalize m % a = r at *
  have e : m + a - 1 = (r + a - 1) + a * q := by omega
  rw [e, Int.add_mul_ediv_left _ _ (show a ≠ 0 by omega)]
  by_cases hr : r = 0
  · subst hr
    rw [if_neg (by omega), Int.ediv_eq_zero_of_lt (by omega) (by omega)]; omega
  · rw [if_pos (by omega)]
    have : (r + a - 1) / a = 1 := by
      rw [show r + a - 1 = (r - 1) + 1 * a by omega, Int.add_mul_ediv_right _ _ (show a ≠ 0 by omega), Int.ediv_eq_zero_of_lt (by omega) (by omega)]; omega
    omega

theorem div_bd (a m : Int) (ha : 1 ≤ a) (hm : 0 ≤ m) : 0 ≤ m / a ∧ m / a ≤ m :=
  ⟨Int.ediv_nonneg hm (by omega), Int.ediv_le_self _ hm⟩

set_option maxHeartbeats 1000000 in
theorem wait_any (a b lv ls now : Int) (w : World) (ha : 1 ≤ a) (ha' : a ≤ 1000000) (hb : 1 ≤ b) (hb' : b ≤ 1000000) (hl : 0 ≤ lv) (hl' : lv ≤ a * b)
    (hs : 0 ≤ ls) (hs' : ls ≤ 1099511627776) (hn : 0 ≤ now) (hn' : now ≤ 1099511627776) :
    Calls Try.prog 15 #[.agg #[.int .i64 lv, .int .i64 ls], .int .i64 a, .int .i64 b, .int .i64 now] w fun e w' =>
      e = .returned (.int .i64 (wt a b lv ls now)) ∧ Below w.heap.size w w' := by
  have hab := ab_bd a b ha ha' hb hb'
  have hL := lvAt_bd a b lv ls now ha hb hl hl'
  have hC := fun w => at_any a b lv ls now w ha ha' hb hb' hl hl' hs hs' hn hn'
  unfold wt
  generalize lvAt a b lv ls now = L at *
  have HC := Lib.hid hC
  clear hC
  by_cases h : b ≤ L
  · rw [if_pos h]
    go_enter Try.func15, Try.ntmps15
    go_wp2_with (go_at_call 17; refine (HC.out _).mono ?_; rintro e w1 ⟨rfl, hb1⟩; have hz : w.heap.size < w1.heap.size := (by have := hb1.size; simp at this; omega); have hbw := below_via (B := w.heap.size) (w := w) (by go_grown) hb1 (by simp))
    go_ret
    exact ⟨rfl, by go_grown⟩
  · rw [if_neg h]
    go_enter Try.func15, Try.ntmps15
    go_wp2_with (go_at_call 17; refine (HC.out _).mono ?_; rintro e w1 ⟨rfl, hb1⟩; have hz : w.heap.size < w1.heap.size := (by have := hb1.size; simp at this; omega); have hbw := below_via (B := w.heap.size) (w := w) (by go_grown) hb1 (by simp))
    go_ret
    exact ⟨rfl, by go_grown⟩

set_option maxHeartbeats 1000000 in
theorem rwait_any (a b lv ls now : Int) (w : World) (ha : 1 ≤ a) (ha' : a ≤ 1000000) (hb : 1 ≤ b) (hb' : b ≤ 1000000) (hl : 0 ≤ lv) (hl' : lv ≤ a * b)
    (hs : 0 ≤ ls) (hs' : ls ≤ 1099511627776) (hn : 0 ≤ now) (hn' : now ≤ 1099511627776) :
    Calls Try.prog 16 #[.agg #[.int .i64 lv, .int .i64 ls], .int .i64 a, .int .i64 b, .int .i64 now] w fun e w' =>
      e = .returned (.int .i64 (wt a b lv ls now)) ∧ Below w.heap.size w w' := by
  have hab := ab_bd a b ha ha' hb hb'
  have hL := lvAt_bd a b lv ls now ha hb hl hl'
  have hC := fun w => rnow_any a b lv ls now w ha ha' hb hb' hl hl' hs hs' hn hn'
  unfold wt
  generalize lvAt a b lv ls now = L at *
  have HC := Lib.hid hC
  clear hC
  by_cases h : b ≤ L
  · rw [if_pos h]
    go_enter Try.func16, Try.ntmps16
    go_wp2_with (go_at_call 18; refine (HC.out _).mono ?_; rintro e w1 ⟨rfl, hb1⟩; obtain ⟨hc, hf⟩ := bcell hb1; simp only [World.size_alloc] at hc hf; have c0 : w1.cell? ⟨w.heap.size, 0, none⟩ = some (.int .i64 lv) := (by rw [hc _ _ (by omega)]; simp); have c1 : w1.cell? ⟨w.heap.size, 1, none⟩ = some (.int .i64 ls) := (by rw [hc _ _ (by omega)]; simp); have hz : w.heap.size < w1.heap.size := (by have := hb1.size; simp at this; omega); have hbw := below_via (B := w.heap.size) (w := w) (by go_grown) hb1 (by simp))
    go_ret
    exact ⟨rfl, by go_grown⟩
  · have hd := div_bd a (b - L) ha (by omega)
    have hq := Int.mul_ediv_self_le (x := b - L) (k := a) (by omega)
    rw [Int.mul_comm] at hq
    have hq0 : 0 ≤ (b - L) / a * a := Int.mul_nonneg hd.1 (by omega)
    rw [if_neg h, ← ceil_ref a (b - L) ha]
    by_cases hc : (b - L) / a * a < b - L
    · rw [if_pos hc]
      go_enter Try.func16, Try.ntmps16
      go_wp2_with (go_at_call 18; refine (HC.out _).mono ?_; rintro e w1 ⟨rfl, hb1⟩; obtain ⟨hc, hf⟩ := bcell hb1; simp only [World.size_alloc] at hc hf; have c0 : w1.cell? ⟨w.heap.size, 0, none⟩ = some (.int .i64 lv) := (by rw [hc _ _ (by omega)]; simp); have c1 : w1.cell? ⟨w.heap.size, 1, none⟩ = some (.int .i64 ls) := (by rw [hc _ _ (by omega)]; simp); have hz : w.heap.size < w1.heap.size := (by have := hb1.size; simp at this; omega); have hbw := below_via (B := w.heap.size) (w := w) (by go_grown) hb1 (by simp))
      go_ret
      exact ⟨rfl, by go_grown⟩
    · rw [if_neg hc]
      go_enter Try.func16, Try.ntmps16
      go_wp2_with (go_at_call 18; refine (HC.out _).mono ?_; rintro e w1 ⟨rfl, hb1⟩; obtain ⟨hc, hf⟩ := bcell hb1; simp only [World.size_alloc] at hc hf; have c0 : w1.cell? ⟨w.heap.size, 0, none⟩ = some (.int .i64 lv) := (by rw [hc _ _ (by omega)]; simp); have c1 : w1.cell? ⟨w.heap.size, 1, none⟩ = some (.int .i64 ls) := (by rw [hc _ _ (by omega)]; simp); have hz : w.heap.size < w1.heap.size := (by have := hb1.size; simp at this; omega); have hbw := below_via (B := w.heap.size) (w := w) (by go_grown) hb1 (by simp))
      go_ret
      exact ⟨rfl, by go_grown⟩

end Go.Proofs.Ytcinjfafjekdlaa
