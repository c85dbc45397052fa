/- Contracts: Fit, tick, awake. -/
import Derived.Test.YtcinjfafjekdlaaC
namespace Go.Proofs.Ytcinjfafjekdlaa
open Go.RowKit

def fitB (a b lv ls : Int) : Bool := decide (1 ≤ a ∧ a ≤ 1000000 ∧ 1 ≤ b ∧ b ≤ 1000000 ∧ 0 ≤ lv ∧ lv ≤ a * b ∧ 0 ≤ ls ∧ ls ≤ 1099511627776)
def tickB (n : Int) : Bool := decide (0 ≤ n ∧ n ≤ 1099511627776)

theorem fit_yes (a b lv ls : Int) (w : World) (h1 : 1 ≤ a) (h2 : a ≤ 1000000) (h3 : 1 ≤ b) (h4 : b ≤ 1000000) (h5 : 0 ≤ lv) (h6 : lv ≤ a * b) (h7 : 0 ≤ ls) (h8 : ls ≤ 1099511627776) :
    Calls Try.prog 8 #[.agg #[.int .i64 lv, .int .i64 ls], .int .i64 a, .int .i64 b] w fun e w' => e = .returned (.bool true) ∧ Below w.heap.size w w' := by
  have hab := ab_bd a b h1 h2 h3 h4
  go_enter Try.func8, Try.ntmps8
  go_wp2
  go_ret
  exact ⟨rfl, by go_grown⟩

set_option maxHeartbeats 2000000 in
theorem fit_no (a b lv ls : Int) (w : World) (h : fitB a b lv ls = false) :
    Calls Try.prog 8 #[.agg #[.int .i64 lv, .int .i64 ls], .int .i64 a, .int .i64 b] w fun e w' => e = .returned (.bool false) ∧ Below w.heap.size w w' := by
  have h := of_decide_eq_false h
  by_cases h1 : 1 ≤ a
  · by_cases h2 : a ≤ 1000000
    · by_cases h3 : 1 ≤ b
      · by_cases h4 : b ≤ 1000000
        · have hab := ab_bd a b h1 h2 h3 h4
          by_cases h5 : 0 ≤ lv
          · by_cases h6 : lv ≤ a * b
            · by_cases h7 : 0 ≤ ls
              · have h8 : ¬ ls ≤ 1099511627776 := by omega
                clear h
                go_enter Try.func8, Try.ntmps8
                go_wp2
                go_ret
                exact ⟨rfl, by go_grown⟩
              · clear h
                go_enter Try.func8, Try.ntmps8
                go_wp2
                go_ret
                exact ⟨rfl, by go_grown⟩
            · clear h
              go_enter Try.func8, Try.ntmps8
              go_wp2
              go_ret
              exact ⟨rfl, by go_grown⟩
          · clear h
            go_enter Try.func8, Try.ntmps8
            go_wp2
            go_ret
            exact ⟨rfl, by go_grown⟩
        · clear h
          go_enter Try.func8, Try.ntmps8
          go_wp2
          go_ret
          exact ⟨rfl, by go_grown⟩
      · clear h
        go_enter Try.func8, Try.ntmps8
        go_wp2
        go_ret
        exact ⟨rfl, by go_grown⟩
    · clear h
      go_enter Try.func8, Try.ntmps8
      go_wp2
      go_ret
      exact ⟨rfl, by go_grown⟩
  · clear h
    go_enter Try.func8, Try.ntmps8
    go_wp2
    go_ret
    exact ⟨rfl, by go_grown⟩

theorem tick_any (n : Int) (w : World) :
    Calls Try.prog 9 #[.int .i64 n] w fun e w' => e = .returned (.bool (tickB n)) ∧ w = w' := by
  unfold tickB
  by_cases h1 : 0 ≤ n
  · by_cases h2 : n ≤ 1099511627776
    · rw [show decide (0 ≤ n ∧ n ≤ 1099511627776) = true by simp; omega]
      go_enter Try.func9, Try.ntmps9
      go_wp2
      go_ret
      exact ⟨rfl, rfl⟩
    · rw [show decide (0 ≤ n ∧ n ≤ 1099511627776) = false by simp; omega]
      go_enter Try.func9, Try.ntmps9
      go_wp2
      go_ret
      exact ⟨rfl, rfl⟩
  · rw [show decide (0 ≤ n ∧ n ≤ 1099511627776) = false by simp; omega]
    go_enter Try.func9, Try.ntmps9
    go_wp2
    go_ret
    exact ⟨rfl, rfl⟩

theorem take20 (w : World) : Calls Try.prog 11 #[.agg #[.int .i64 20, .int .i64 0], .int .i64 2, .int .i64 10, .int .i64 0] w fun e w' =>
      e = .returned (.tuple #[.agg #[.int .i64 10, .int .i64 0], .bool true]) ∧ Below w.heap.size w w' :=
  take_any 2 10 20 0 0 w (by decide) (by decide) (by decide) (by decide) (by decide) (by decide) (by decide) (by decide) (by decide) (by decide)
theorem take10 (w : World) : Calls Try.prog 11 #[.agg #[.int .i64 10, .int .i64 0], .int .i64 2, .int .i64 10, .int .i64 0] w fun e w' =>
      e = .returned (.tuple #[.agg #[.int .i64 0, .int .i64 0], .bool true]) ∧ Below w.heap.size w w' :=
  take_any 2 10 10 0 0 w (by decide) (by decide) (by decide) (by decide) (by decide) (by decide) (by decide) (by decide) (by decide) (by decide)
theorem take0 (w : World) : Calls Try.prog 11 #[.agg #[.int .i64 0, .int .i64 0], .int .i64 2, .int .i64 10, .int .i64 0] w fun e w' =>
      e = .returned (.tuple #[.agg #[.int .i64 0, .int .i64 0], .bool false]) ∧ Below w.heap.size w w' :=
  take_any 2 10 0 0 0 w (by decide) (by decide) (by decide) (by decide) (by decide) (by decide) (by decide) (by decide) (by decide) (by decide)
theorem new20 (w : World) : Calls Try.prog 13 #[.int .i64 2, .int .i64 10, .int .i64 0] w fun e w' => e = .returned (.agg #[.int .i64 20, .int .i64 0]) ∧ Below w.heap.size w w' :=
  new_any 2 10 0 w (by decide) (by decide)

/-- A cell below the mark, carried over a call. -/
theorem cell_over {W w1 : World} (hb : Below W.heap.size W w1) {b o : Nat} {v : Value} (hlt : b < W.heap.size) (h : W.cell? ⟨b, o, none⟩ = some v) : w1.cell? ⟨b, o, none⟩ = some v := by rw [hb.cell (p := ⟨b, o, none⟩) hlt, h]
theorem free_over {W w1 : World} (hb : Below W.heap.size W w1) {b o : Nat} (hlt : b < W.heap.size) (h : W.frozen? ⟨b, o, none⟩ = false) : w1.frozen? ⟨b, o, none⟩ = false := by rw [hb.frozen (p := ⟨b, o, none⟩) hlt, h]

set_option maxHeartbeats 2000000 in
theorem awake_any (w : World) : Calls Try.prog 10 #[] w fun e w' => e = .returned (.bool true) ∧ Below w.heap.size w w' := by
  go_enter Try.func10, Try.ntmps10
  go_wp2_with fail
  refine (new20 _).mono ?_
  rintro e w1 ⟨rfl, hb1⟩
  have hs1 := hb1.size
  go_wp2_with fail
  refine (take20 _).mono ?_
  rintro e w2 ⟨rfl, hb2⟩
  have hs2 : w1.heap.size < w2.heap.size := by have := hb2.size; simp at this; omega
  have c0 : w2.cell? ⟨w1.heap.size, 0, none⟩ = some (.int .i64 20) := cell_over hb2 (by simp) (by simp)
  have c1 : w2.cell? ⟨w1.heap.size, 1, none⟩ = some (.int .i64 0) := cell_over hb2 (by simp) (by simp)
  have f0 : w2.frozen? ⟨w1.heap.size, 0, none⟩ = false := free_over hb2 (by simp) (by simp)
  have f1 : w2.frozen? ⟨w1.heap.size, 1, none⟩ = false := free_over hb2 (by simp) (by simp)
  have hB2 : Below w.heap.size w w2 := below_via (by go_grown) hb2 (by simp; omega)
  go_wp2_with fail
  refine (take10 _).mono ?_
  rintro e w3 ⟨rfl, hb3⟩
  have hs3 : w1.heap.size < w3.heap.size := by have := hb3.size; simp at this; omega
  have d0 : w3.cell? ⟨w1.heap.size, 0, none⟩ = some (.int .i64 10) := cell_over hb3 (by simp; omega) (by go_cell)
  have d1 : w3.cell? ⟨w1.heap.size, 1, none⟩ = some (.int .i64 0) := cell_over hb3 (by simp; omega) (by go_cell)
  have g0 : w3.frozen? ⟨w1.heap.size, 0, none⟩ = false := free_over hb3 (by simp; omega) (by simp [f0])
  have g1 : w3.frozen? ⟨w1.heap.size, 1, none⟩ = false := free_over hb3 (by simp; omega) (by simp [f1])
  have hB3 : Below w.heap.size w w3 := below_via (by go_grown) hb3 (by simp; omega)
  clear hb2 hb3 c0 c1 f0 f1 hB2
  go_wp2_with fail
  refine (take0 _).mono ?_
  rintro e w4 ⟨rfl, hb4⟩
  have hs4 : w1.heap.size < w4.heap.size := by have := hb4.size; simp at this; omega
  have hB4 : Below w.heap.size w w4 := below_via (by go_grown) hb4 (by simp; omega)
  go_wp2
  go_ret
  exact ⟨rfl, by go_grown⟩

end Go.Proofs.Ytcinjfafjekdlaa
