/- LimitTakes: the walk. -/
import Derived.Test.YtcinjfafjekdlaaD
namespace Go.Proofs.Ytcinjfafjekdlaa
open Go.RowKit

theorem fitB_true {a b lv ls : Int} (h : fitB a b lv ls = true) : 1 ≤ a ∧ a ≤ 1000000 ∧ 1 ≤ b ∧ b ≤ 1000000 ∧ 0 ≤ lv ∧ lv ≤ a * b ∧ 0 ≤ ls ∧ ls ≤ 1099511627776 := of_decide_eq_true h
theorem tickB_true {n : Int} (h : tickB n = true) : 0 ≤ n ∧ n ≤ 1099511627776 := of_decide_eq_true h

set_option maxHeartbeats 4000000 in
set_option maxRecDepth 100000 in
theorem takes_walk (lv ls a b now : Int) (w : World) :
    Calls Try.prog 3 #[.agg #[.int .i64 lv, .int .i64 ls], .int .i64 a, .int .i64 b, .int .i64 now] w fun e w' => e = .returned (.bool true) ∧ Below w.heap.size w w' := by
  cases hf : fitB a b lv ls with
  | false =>
    go_enter Try.func3, Try.ntmps3
    go_wp2_with fail
    refine (fit_no a b lv ls _ hf).mono ?_
    rintro e w1 ⟨rfl, hb1⟩
    have hs1 : w.heap.size < w1.heap.size := by have := hb1.size; simp at this; omega
    have hB1 : Below w.heap.size w w1 := below_via (by go_grown) hb1 (by simp)
    clear hb1
    go_wp2_with fail
    refine (awake_any _).mono ?_
    rintro e w2 ⟨rfl, hb2⟩
    have hB2 : Below w.heap.size w w2 := below_via hB1 hb2 (by omega)
    go_wp2
    go_ret
    exact ⟨rfl, hB2⟩
  | true =>
    obtain ⟨h1, h2, h3, h4, h5, h6, h7, h8⟩ := fitB_true hf
    cases ht : tickB now with
    | false =>
      have HT := Lib.hid ht
      clear hf ht
      go_enter Try.func3, Try.ntmps3
      go_wp2_with fail
      refine (fit_yes a b lv ls _ h1 h2 h3 h4 h5 h6 h7 h8).mono ?_
      rintro e w1 ⟨rfl, hb1⟩
      have hs1 : w.heap.size < w1.heap.size := by have := hb1.size; simp at this; omega
      have hB1 : Below w.heap.size w w1 := below_via (by go_grown) hb1 (by simp)
      clear hb1
      go_wp2_with fail
      refine (tick_any now _).mono ?_
      rintro e w1' ⟨rfl, rfl⟩
      rw [HT.out]
      go_wp2_with fail
      refine (awake_any _).mono ?_
      rintro e w2 ⟨rfl, hb2⟩
      have hB2 : Below w.heap.size w w2 := below_via hB1 hb2 (by omega)
      go_wp2
      go_ret
      exact ⟨rfl, hB2⟩
    | true =>
      obtain ⟨h9, h10⟩ := tickB_true ht
      have HT := Lib.hid ht
      clear hf ht
      have hab := ab_bd a b h1 h2 h3 h4
      have hL := tkLv_bd a b lv ls now h1 h3 h5 h6
      go_enter Try.func3, Try.ntmps3
      go_wp2_with fail
      refine (fit_yes a b lv ls _ h1 h2 h3 h4 h5 h6 h7 h8).mono ?_
      rintro e w1 ⟨rfl, hb1⟩
      have hs1 : w.heap.size < w1.heap.size := by have := hb1.size; simp at this; omega
      have c0 : w1.cell? ⟨w.heap.size, 0, none⟩ = some (.int .i64 lv) := cell_over hb1 (by simp) (by simp)
      have c1 : w1.cell? ⟨w.heap.size, 1, none⟩ = some (.int .i64 ls) := cell_over hb1 (by simp) (by simp)
      have hB1 : Below w.heap.size w w1 := below_via (by go_grown) hb1 (by simp)
      clear hb1
      go_wp2_with fail
      refine (tick_any now _).mono ?_
      rintro e w1' ⟨rfl, rfl⟩
      rw [HT.out]
      clear HT
      go_wp2_with fail
      refine (take_any a b lv ls now _ h1 h2 h3 h4 h5 h6 h7 h8 h9 h10).mono ?_
      rintro e w2 ⟨rfl, hb2⟩
      have hs2 : w.heap.size < w2.heap.size := by have := hb2.size; omega
      have d0 : w2.cell? ⟨w.heap.size, 0, none⟩ = some (.int .i64 lv) := cell_over hb2 (by omega) (by go_cell)
      have d1 : w2.cell? ⟨w.heap.size, 1, none⟩ = some (.int .i64 ls) := cell_over hb2 (by omega) (by go_cell)
      have hB2 : Below w.heap.size w w2 := below_via hB1 hb2 (by omega)
      generalize hT : tk a b lv ls now = T
      generalize hV : tkLv a b lv ls now = V at hL ⊢
      have HT := Lib.hid hT
      have HV := Lib.hid hV
      clear c0 c1 hb2 hB1 hT hV
      go_wp2_with fail
      refine (rtake_any a b lv ls now _ h1 h2 h3 h4 h5 h6 h7 h8 h9 h10).mono ?_
      rintro e w3 ⟨rfl, hb3⟩
      rw [HT.out, HV.out]
      have hs3 : w2.heap.size < w3.heap.size := by have := hb3.size; simp at this; omega
      have e0 : w3.cell? ⟨w2.heap.size, 0, none⟩ = some (.int .i64 V) := cell_over hb3 (by simp) (by go_cell)
      have e1 : w3.cell? ⟨w2.heap.size, 1, none⟩ = some (.int .i64 (max ls now)) := cell_over hb3 (by simp) (by go_cell)
      have hB3 : Below w.heap.size w w3 := below_via (by go_grown) hb3 (by simp; omega)
      clear hb3 d0 d1 hB2 HT HV
      go_wp2_with fail
      refine (fit_yes a b V (max ls now) _ h1 h2 h3 h4 hL.1 hL.2 (by omega) (by omega)).mono ?_
      rintro e w4 ⟨rfl, hb4⟩
      have hs4 : w3.heap.size < w4.heap.size := by have := hb4.size; simp at this; omega
      have hB4 : Below w.heap.size w w4 := below_via (by go_grown) hb4 (by simp; omega)
      clear hb4 e0 e1 hB3
      go_wp2_with fail
      refine (new_any a b now _ (by omega) (by omega)).mono ?_
      rintro e w5 ⟨rfl, hb5⟩
      have hs5 := hb5.size
      have hB5 : Below w.heap.size w w5 := below_via hB4 hb5 (by omega)
      clear hb5
      go_wp2_with fail
      refine (rnew_any a b now _ (by omega) (by omega)).mono ?_
      rintro e w6 ⟨rfl, hb6⟩
      have hs6 := hb6.size
      have hB6 : Below w.heap.size w w6 := below_via hB5 hb6 (by omega)
      clear hb6
      go_wp2_with fail
      refine (awake_any _).mono ?_
      rintro e w7 ⟨rfl, hb7⟩
      have hB7 : Below w.heap.size w w7 := below_via hB6 hb7 (by omega)
      go_wp2
      go_ret
      exact ⟨rfl, hB7⟩

theorem walk_LimitTakes (lv ls a b now : Int) (w : World) (_ : (Lit.int .i64 a).wf = true) (_ : (Lit.int .i64 b).wf = true) (_ : (Lit.int .i64 now).wf = true) :
    Calls Try.prog 3 #[.agg #[.int .i64 lv, .int .i64 ls], .int .i64 a, .int .i64 b, .int .i64 now] w fun e w' => e = .returned (.bool true) ∧ Below w.heap.size w w' := takes_walk lv ls a b now w

end Go.Proofs.Ytcinjfafjekdlaa
