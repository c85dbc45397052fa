/- LimitFull: the walk. -/
import Derived.Test.YtcinjfafjekdlaaD
namespace Go.Proofs.Ytcinjfafjekdlaa
open Go.RowKit

theorem full_num (a b k : Int) (h1 : 1 ≤ a) (h3 : 1 ≤ b) (hk : 0 ≤ k) (hka : k ≤ a) : 0 ≤ (a - k) * b ∧ (a - k) * b ≤ a * b := by
  have h : 0 ≤ k * b := Int.mul_nonneg hk (by omega)
  have h' : 0 ≤ (a - k) * b := Int.mul_nonneg (by omega) (by omega)
  rw [Int.sub_mul] at *
  omega

theorem take_full (a b now k : Int) (w : World) (h1 : 1 ≤ a) (h2 : a ≤ 1000000) (h3 : 1 ≤ b) (h4 : b ≤ 1000000) (h5 : 0 ≤ now) (h6 : now ≤ 1099511627776) (hk : 0 ≤ k) (hka : k < a) :
    Calls Try.prog 11 #[.agg #[.int .i64 ((a - k) * b), .int .i64 now], .int .i64 a, .int .i64 b, .int .i64 now] w fun e w' =>
      e = .returned (.tuple #[.agg #[.int .i64 ((a - (k + 1)) * b), .int .i64 now], .bool true]) ∧ Below w.heap.size w w' := by
  have hn := full_num a b k h1 h3 hk (by omega)
  have e : (a - k) * b = (a - (k + 1)) * b + b := by
    rw [show a - k = (a - (k + 1)) + 1 by omega, Int.add_mul, Int.one_mul]
  have hn' := full_num a b (k + 1) h1 h3 (by omega) (by omega)
  have hl : lvAt a b ((a - k) * b) now now = (a - k) * b := if_pos (Int.le_refl _)
  have := take_any a b ((a - k) * b) now now w h1 h2 h3 h4 hn.1 hn.2 h5 h6 h5 h6
  unfold tk tkLv at this
  rw [hl, if_pos (by omega), show decide (b ≤ (a - k) * b) = true by simp; omega, Int.max_self, show (a - k) * b - b = (a - (k + 1)) * b by omega] at this
  exact this

theorem take_empty (a b now : Int) (w : World) (h1 : 1 ≤ a) (h2 : a ≤ 1000000) (h3 : 1 ≤ b) (h4 : b ≤ 1000000) (h5 : 0 ≤ now) (h6 : now ≤ 1099511627776) :
    Calls Try.prog 11 #[.agg #[.int .i64 0, .int .i64 now], .int .i64 a, .int .i64 b, .int .i64 now] w fun e w' =>
      e = .returned (.tuple #[.agg #[.int .i64 0, .int .i64 now], .bool false]) ∧ Below w.heap.size w w' := by
  have hn := full_num a b 0 h1 h3 (by omega) (by omega)
  have hl : lvAt a b 0 now now = 0 := if_pos (Int.le_refl _)
  have := take_any a b 0 now now w h1 h2 h3 h4 (by omega) (by simp at hn; omega) h5 h6 h5 h6
  unfold tk tkLv at this
  rw [hl, if_neg (by omega), show decide (b ≤ 0) = false by simp; omega, Int.max_self] at this
  exact this

def FullRel (a b now : Int) (w : World) (B : Nat) (ok i : Value) (wr : World) : Prop :=
  ∃ k : Nat, (k : Int) ≤ a ∧ ok = .bool true ∧ i = .int .i64 k ∧ wr.cell? ⟨B, 0, none⟩ = some (.int .i64 ((a - k) * b)) ∧ wr.cell? ⟨B, 1, none⟩ = some (.int .i64 now) ∧
    wr.frozen? ⟨B, 0, none⟩ = false ∧ wr.frozen? ⟨B, 1, none⟩ = false ∧ Below w.heap.size w wr ∧ B < wr.heap.size

set_option maxHeartbeats 4000000 in
set_option maxRecDepth 100000 in
theorem full_go (a b now : Int) (w : World) (h1 : 1 ≤ a) (h2 : a ≤ 2000) (h3 : 1 ≤ b) (h4 : b ≤ 1000000) (ht : tickB now = true) :
    Calls Try.prog 6 #[.int .i64 a, .int .i64 b, .int .i64 now] w fun e w' => e = .returned (.bool true) ∧ Below w.heap.size w w' := by
  obtain ⟨h5, h6⟩ : 0 ≤ now ∧ now ≤ 1099511627776 := of_decide_eq_true ht
  have HT := Lib.hid ht
  clear ht
  have hab := ab_bd a b h1 (by omega) h3 h4
  go_enter Try.func6, Try.ntmps6
  go_wp2_with fail
  refine (tick_any now _).mono ?_
  rintro e w1' ⟨rfl, rfl⟩
  rw [HT.out]
  clear HT
  go_wp2_with fail
  refine (new_any a b now _ (by omega) (by omega)).mono ?_
  rintro e w1 ⟨rfl, hb1⟩
  have hs1 := hb1.size
  go_wp2_with fail
  go_loopw [8, 9] (FullRel a b now w w1.heap.size) (fun _ i _ => (a - intOf i).toNat)
  case atStart => exact ⟨0, by omega, rfl, rfl, by simp, by simp, by simp, by simp, by go_grown, by simp⟩
  case round =>
    obtain ⟨k, hk, rfl, rfl, c0, c1, f0, f1, hB, hs⟩ := hrel
    clear hb1
    have hn := full_num a b k h1 h3 (by omega) hk
    by_cases hlt : (k : Int) < a
    · go_wp2_with fail
      refine (take_full a b now k _ h1 (by omega) h3 h4 h5 h6 (by omega) hlt).mono ?_
      rintro e w2 ⟨rfl, hb2⟩
      have hs2 := hb2.size
      have d0 : w2.cell? ⟨w1.heap.size, 0, none⟩ = some (.int .i64 ((a - k) * b)) := cell_over hb2 hs (by go_cell)
      have d1 : w2.cell? ⟨w1.heap.size, 1, none⟩ = some (.int .i64 now) := cell_over hb2 hs (by go_cell)
      have g0 : w2.frozen? ⟨w1.heap.size, 0, none⟩ = false := free_over hb2 hs f0
      have g1 : w2.frozen? ⟨w1.heap.size, 1, none⟩ = false := free_over hb2 hs f1
      have hB2 : Below w.heap.size w w2 := below_via hB hb2 (by omega)
      clear hb2 c0 c1 f0 f1 hB
      go_wp2_with fail
      go_roundw
      case rel => exact ⟨k + 1, by omega, rfl, by go_num, by go_cell, by go_cell, by simp [g0], by simp [g1], by go_grown, by simp; omega⟩
      case measure => simp [intOf]; omega
    · have hka : (k : Int) = a := by omega
      go_wp2_with fail
      refine (take_empty a b now _ h1 (by omega) h3 h4 h5 h6).mono ?_
      rintro e w2 ⟨rfl, hb2⟩
      have hs2 := hb2.size
      have hB2 : Below w.heap.size w w2 := below_via hB hb2 (by omega)
      clear hb2 c0 c1 f0 f1 hB
      go_wp2_with fail
      refine (awake_any _).mono ?_
      rintro e w3 ⟨rfl, hb3⟩
      have hs3 := hb3.size
      have hB3 : Below w.heap.size w w3 := below_via (by go_grown) hb3 (by simp; omega)
      go_wp2
      go_ret
      exact ⟨rfl, hB3⟩

theorem walk_LimitFull (a b now : Int) (w : World) (_ : (Lit.int .i64 a).wf = true) (_ : (Lit.int .i64 b).wf = true) (_ : (Lit.int .i64 now).wf = true) :
    Calls Try.prog 6 #[.int .i64 a, .int .i64 b, .int .i64 now] w fun e w' => e = .returned (.bool true) ∧ Below w.heap.size w w' := by
  by_cases h1 : 1 ≤ a
  · by_cases h2 : a ≤ 2000
    · by_cases h3 : 1 ≤ b
      · by_cases h4 : b ≤ 1000000
        · cases ht : tickB now with
          | true => exact full_go a b now w h1 h2 h3 h4 ht
          | false =>
            have HT := Lib.hid ht
            clear ht
            go_enter Try.func6, Try.ntmps6
            go_wp2_with fail
            refine (tick_any now _).mono ?_
            rintro e w1' ⟨rfl, rfl⟩
            rw [HT.out]
            go_wp2_with fail
            refine (awake_any _).mono ?_
            rintro e w2 ⟨rfl, hb2⟩
            go_wp2
            go_ret
            exact ⟨rfl, hb2⟩
        · go_enter Try.func6, Try.ntmps6
          go_wp2_with fail
          refine (awake_any _).mono ?_
          rintro e w2 ⟨rfl, hb2⟩
          go_wp2
          go_ret
          exact ⟨rfl, hb2⟩
      · go_enter Try.func6, Try.ntmps6
        go_wp2_with fail
        refine (awake_any _).mono ?_
        rintro e w2 ⟨rfl, hb2⟩
        go_wp2
        go_ret
        exact ⟨rfl, hb2⟩
    · go_enter Try.func6, Try.ntmps6
      go_wp2_with fail
      refine (awake_any _).mono ?_
      rintro e w2 ⟨rfl, hb2⟩
      go_wp2
      go_ret
      exact ⟨rfl, hb2⟩
  · go_enter Try.func6, Try.ntmps6
    go_wp2_with fail
    refine (awake_any _).mono ?_
    rintro e w2 ⟨rfl, hb2⟩
    go_wp2
    go_ret
    exact ⟨rfl, hb2⟩

end Go.Proofs.Ytcinjfafjekdlaa
