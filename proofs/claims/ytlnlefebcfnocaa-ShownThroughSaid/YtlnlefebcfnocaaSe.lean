/- Rows of the check's table; patterns that are none; is a core fit. -/
import Derived.Test.YtlnlefebcfnocaaSd
namespace Go.Proofs.Ytlnlefebcfnocaa
open Go.RowKit Go.Deep
attribute [local go_sem] Go.undef

set_option maxRecDepth 100000 in
set_option maxHeartbeats 16000000 in
theorem row_any (w : World) (op : Int) : Calls Try.prog 40 #[.int .i64 op] w fun e w' => (∃ v, e = .returned v ∧ RowV v) ∧ Below w.heap.size w w' := by
  go_enter Try.func40, Try.ntmps40
  go_wp2_with fail
  · exact bodyPost_ret (v := .agg #[.int .i64 0, .int .i64 0, .int .i64 0, .int .i64 0, .int .i64 0, .bool true, .bool false, .bool false]) (by simp [results, Try.results40, go_sem]) rfl ⟨⟨_, rfl, _, _, _, _, _, _, _, _, rfl⟩, by go_grown⟩
  · exact bodyPost_ret (v := .agg #[.int .i64 0, .int .i64 0, .int .i64 0, .int .i64 0, .int .i64 0, .bool true, .bool false, .bool false]) (by simp [results, Try.results40, go_sem]) rfl ⟨⟨_, rfl, _, _, _, _, _, _, _, _, rfl⟩, by go_grown⟩
  · refine (one_any _ _ _).mono ?_
    rintro e w1 ⟨⟨v, rfl, n, l0, l1, h0, h1, c, wh, s, rfl⟩, hb⟩
    have hB1 : Below w.heap.size w w1 := below_on hb (by go_grown)
    have HQ : Hid (Blk w1 w.heap.size 73 #[.int .i64 0, .int .i64 0, .int .i64 0, .int .i64 0, .int .i64 0, .bool false, .bool false, .bool false]) := (Blk.new' _ _ _ (by simp)).under hb (by simp)
    have q0 := HQ.out.cell 0
    have g0 := HQ.out.free 0
    have q1 := HQ.out.cell 1
    have g1 := HQ.out.free 1
    have q2 := HQ.out.cell 2
    have g2 := HQ.out.free 2
    have q3 := HQ.out.cell 3
    have g3 := HQ.out.free 3
    have q4 := HQ.out.cell 4
    have g4 := HQ.out.free 4
    have q5 := HQ.out.cell 5
    have g5 := HQ.out.free 5
    have q6 := HQ.out.cell 6
    have g6 := HQ.out.free 6
    have q7 := HQ.out.cell 7
    have g7 := HQ.out.free 7
    simp only [List.getElem?_toArray, List.getElem?_cons_succ, List.getElem?_cons_zero] at q0 q1 q2 q3 q4 q5 q6 q7 g0
    clear hb
    go_wp2_with fail
    refine bodyPost_ret (v := .agg #[.int .i64 n, .int .i64 l0, .int .i64 l1, .int .i64 h0, .int .i64 h1, .bool c, .bool wh, .bool s]) (by simp [results, Try.results40, go_sem, *]) rfl ⟨⟨_, rfl, _, _, _, _, _, _, _, _, rfl⟩, ?_⟩
    exact ((((((((hB1.setCell (by simp) _).setCell (by simp) _).setCell (by simp) _).setCell (by simp) _).setCell (by simp) _).setCell (by simp) _).setCell (by simp) _).setCell (by simp) _)
  · refine (two_any _ _ _ _).mono ?_
    rintro e w1 ⟨⟨v, rfl, n, l0, l1, h0, h1, c, wh, s, rfl⟩, hb⟩
    have hB1 : Below w.heap.size w w1 := below_on hb (by go_grown)
    have HQ : Hid (Blk w1 w.heap.size 73 #[.int .i64 0, .int .i64 0, .int .i64 0, .int .i64 0, .int .i64 0, .bool false, .bool false, .bool false]) := (Blk.new' _ _ _ (by simp)).under hb (by simp)
    have q0 := HQ.out.cell 0
    have g0 := HQ.out.free 0
    have q1 := HQ.out.cell 1
    have g1 := HQ.out.free 1
    have q2 := HQ.out.cell 2
    have g2 := HQ.out.free 2
    have q3 := HQ.out.cell 3
    have g3 := HQ.out.free 3
    have q4 := HQ.out.cell 4
    have g4 := HQ.out.free 4
    have q5 := HQ.out.cell 5
    have g5 := HQ.out.free 5
    have q6 := HQ.out.cell 6
    have g6 := HQ.out.free 6
    have q7 := HQ.out.cell 7
    have g7 := HQ.out.free 7
    simp only [List.getElem?_toArray, List.getElem?_cons_succ, List.getElem?_cons_zero] at q0 q1 q2 q3 q4 q5 q6 q7 g0
    clear hb
    go_wp2_with fail
    refine bodyPost_ret (v := .agg #[.int .i64 n, .int .i64 l0, .int .i64 l1, .int .i64 h0, .int .i64 h1, .bool c, .bool wh, .bool s]) (by simp [results, Try.results40, go_sem, *]) rfl ⟨⟨_, rfl, _, _, _, _, _, _, _, _, rfl⟩, ?_⟩
    exact ((((((((hB1.setCell (by simp) _).setCell (by simp) _).setCell (by simp) _).setCell (by simp) _).setCell (by simp) _).setCell (by simp) _).setCell (by simp) _).setCell (by simp) _)
  · refine (two_any _ _ _ _).mono ?_
    rintro e w1 ⟨⟨v, rfl, n, l0, l1, h0, h1, c, wh, s, rfl⟩, hb⟩
    have hB1 : Below w.heap.size w w1 := below_on hb (by go_grown)
    have HQ : Hid (Blk w1 w.heap.size 73 #[.int .i64 0, .int .i64 0, .int .i64 0, .int .i64 0, .int .i64 0, .bool false, .bool false, .bool false]) := (Blk.new' _ _ _ (by simp)).under hb (by simp)
    have q0 := HQ.out.cell 0
    have g0 := HQ.out.free 0
    have q1 := HQ.out.cell 1
    have g1 := HQ.out.free 1
    have q2 := HQ.out.cell 2
    have g2 := HQ.out.free 2
    have q3 := HQ.out.cell 3
    have g3 := HQ.out.free 3
    have q4 := HQ.out.cell 4
    have g4 := HQ.out.free 4
    have q5 := HQ.out.cell 5
    have g5 := HQ.out.free 5
    have q6 := HQ.out.cell 6
    have g6 := HQ.out.free 6
    have q7 := HQ.out.cell 7
    have g7 := HQ.out.free 7
    simp only [List.getElem?_toArray, List.getElem?_cons_succ, List.getElem?_cons_zero] at q0 q1 q2 q3 q4 q5 q6 q7 g0
    clear hb
    go_wp2_with fail
    refine bodyPost_ret (v := .agg #[.int .i64 n, .int .i64 l0, .int .i64 l1, .int .i64 h0, .int .i64 h1, .bool c, .bool wh, .bool s]) (by simp [results, Try.results40, go_sem, *]) rfl ⟨⟨_, rfl, _, _, _, _, _, _, _, _, rfl⟩, ?_⟩
    exact ((((((((hB1.setCell (by simp) _).setCell (by simp) _).setCell (by simp) _).setCell (by simp) _).setCell (by simp) _).setCell (by simp) _).setCell (by simp) _).setCell (by simp) _)
  · refine (one_any _ _ _).mono ?_
    rintro e w1 ⟨⟨v, rfl, n, l0, l1, h0, h1, c, wh, s, rfl⟩, hb⟩
    have hB1 : Below w.heap.size w w1 := below_on hb (by go_grown)
    have HQ : Hid (Blk w1 w.heap.size 73 #[.int .i64 0, .int .i64 0, .int .i64 0, .int .i64 0, .int .i64 0, .bool false, .bool false, .bool false]) := (Blk.new' _ _ _ (by simp)).under hb (by simp)
    have q0 := HQ.out.cell 0
    have g0 := HQ.out.free 0
    have q1 := HQ.out.cell 1
    have g1 := HQ.out.free 1
    have q2 := HQ.out.cell 2
    have g2 := HQ.out.free 2
    have q3 := HQ.out.cell 3
    have g3 := HQ.out.free 3
    have q4 := HQ.out.cell 4
    have g4 := HQ.out.free 4
    have q5 := HQ.out.cell 5
    have g5 := HQ.out.free 5
    have q6 := HQ.out.cell 6
    have g6 := HQ.out.free 6
    have q7 := HQ.out.cell 7
    have g7 := HQ.out.free 7
    simp only [List.getElem?_toArray, List.getElem?_cons_succ, List.getElem?_cons_zero] at q0 q1 q2 q3 q4 q5 q6 q7 g0
    clear hb
    go_wp2_with fail
    refine bodyPost_ret (v := .agg #[.int .i64 n, .int .i64 l0, .int .i64 l1, .int .i64 h0, .int .i64 h1, .bool c, .bool wh, .bool s]) (by simp [results, Try.results40, go_sem, *]) rfl ⟨⟨_, rfl, _, _, _, _, _, _, _, _, rfl⟩, ?_⟩
    exact ((((((((hB1.setCell (by simp) _).setCell (by simp) _).setCell (by simp) _).setCell (by simp) _).setCell (by simp) _).setCell (by simp) _).setCell (by simp) _).setCell (by simp) _)
  · refine (two_any _ _ _ _).mono ?_
    rintro e w1 ⟨⟨v, rfl, n, l0, l1, h0, h1, c, wh, s, rfl⟩, hb⟩
    have hB1 : Below w.heap.size w w1 := below_on hb (by go_grown)
    have HQ : Hid (Blk w1 w.heap.size 73 #[.int .i64 0, .int .i64 0, .int .i64 0, .int .i64 0, .int .i64 0, .bool false, .bool false, .bool false]) := (Blk.new' _ _ _ (by simp)).under hb (by simp)
    have q0 := HQ.out.cell 0
    have g0 := HQ.out.free 0
    have q1 := HQ.out.cell 1
    have g1 := HQ.out.free 1
    have q2 := HQ.out.cell 2
    have g2 := HQ.out.free 2
    have q3 := HQ.out.cell 3
    have g3 := HQ.out.free 3
    have q4 := HQ.out.cell 4
    have g4 := HQ.out.free 4
    have q5 := HQ.out.cell 5
    have g5 := HQ.out.free 5
    have q6 := HQ.out.cell 6
    have g6 := HQ.out.free 6
    have q7 := HQ.out.cell 7
    have g7 := HQ.out.free 7
    simp only [List.getElem?_toArray, List.getElem?_cons_succ, List.getElem?_cons_zero] at q0 q1 q2 q3 q4 q5 q6 q7 g0
    clear hb
    go_wp2_with fail
    refine bodyPost_ret (v := .agg #[.int .i64 n, .int .i64 l0, .int .i64 l1, .int .i64 h0, .int .i64 h1, .bool c, .bool wh, .bool s]) (by simp [results, Try.results40, go_sem, *]) rfl ⟨⟨_, rfl, _, _, _, _, _, _, _, _, rfl⟩, ?_⟩
    exact ((((((((hB1.setCell (by simp) _).setCell (by simp) _).setCell (by simp) _).setCell (by simp) _).setCell (by simp) _).setCell (by simp) _).setCell (by simp) _).setCell (by simp) _)
  · exact bodyPost_ret (v := .agg #[.int .i64 0, .int .i64 0, .int .i64 0, .int .i64 0, .int .i64 0, .bool false, .bool true, .bool false]) (by simp [results, Try.results40, go_sem]) rfl ⟨⟨_, rfl, _, _, _, _, _, _, _, _, rfl⟩, by go_grown⟩
  · exact bodyPost_ret (v := .agg #[.int .i64 0, .int .i64 0, .int .i64 0, .int .i64 0, .int .i64 0, .bool false, .bool false, .bool true]) (by simp [results, Try.results40, go_sem]) rfl ⟨⟨_, rfl, _, _, _, _, _, _, _, _, rfl⟩, by go_grown⟩
  · refine (one_any _ _ _).mono ?_
    rintro e w1 ⟨⟨v, rfl, n, l0, l1, h0, h1, c, wh, s, rfl⟩, hb⟩
    have hB1 : Below w.heap.size w w1 := below_on hb (by go_grown)
    have HQ : Hid (Blk w1 w.heap.size 73 #[.int .i64 0, .int .i64 0, .int .i64 0, .int .i64 0, .int .i64 0, .bool false, .bool false, .bool false]) := (Blk.new' _ _ _ (by simp)).under hb (by simp)
    have q0 := HQ.out.cell 0
    have g0 := HQ.out.free 0
    have q1 := HQ.out.cell 1
    have g1 := HQ.out.free 1
    have q2 := HQ.out.cell 2
    have g2 := HQ.out.free 2
    have q3 := HQ.out.cell 3
    have g3 := HQ.out.free 3
    have q4 := HQ.out.cell 4
    have g4 := HQ.out.free 4
    have q5 := HQ.out.cell 5
    have g5 := HQ.out.free 5
    have q6 := HQ.out.cell 6
    have g6 := HQ.out.free 6
    have q7 := HQ.out.cell 7
    have g7 := HQ.out.free 7
    simp only [List.getElem?_toArray, List.getElem?_cons_succ, List.getElem?_cons_zero] at q0 q1 q2 q3 q4 q5 q6 q7 g0
    clear hb
    go_wp2_with fail
    refine bodyPost_ret (v := .agg #[.int .i64 n, .int .i64 l0, .int .i64 l1, .int .i64 h0, .int .i64 h1, .bool c, .bool wh, .bool s]) (by simp [results, Try.results40, go_sem, *]) rfl ⟨⟨_, rfl, _, _, _, _, _, _, _, _, rfl⟩, ?_⟩
    exact ((((((((hB1.setCell (by simp) _).setCell (by simp) _).setCell (by simp) _).setCell (by simp) _).setCell (by simp) _).setCell (by simp) _).setCell (by simp) _).setCell (by simp) _)
  · exact bodyPost_ret (v := .agg #[.int .i64 0, .int .i64 0, .int .i64 0, .int .i64 0, .int .i64 0, .bool false, .bool false, .bool false]) (by simp [results, Try.results40, go_sem]) rfl ⟨⟨_, rfl, _, _, _, _, _, _, _, _, rfl⟩, by go_grown⟩

set_option maxRecDepth 100000 in
set_option maxHeartbeats 4000000 in
theorem none_any (w : World) (o n : Int) (a : Option Addr) (l c : Nat) : Calls Try.prog 44 #[.agg #[.int .i64 o, .int .i64 n, .slice a l c]] w fun e w' => (∃ b, e = .returned (.bool b)) ∧ Below w.heap.size w w' := by
  by_cases h0 : o = 0
  · by_cases h1 : n = 0
    · go_enter Try.func44, Try.ntmps44
      go_wp2_with fail
      all_goals
        go_ret
        exact ⟨⟨_, rfl⟩, by go_grown⟩
    · have h1' : (n == 0) = false := by simp; exact h1
      go_enter Try.func44, Try.ntmps44
      go_wp2_with fail
      all_goals
        go_ret
        exact ⟨⟨_, rfl⟩, by go_grown⟩
  · have h0' : (o == 0) = false := by simp; exact h0
    go_enter Try.func44, Try.ntmps44
    go_wp2_with fail
    all_goals
      go_ret
      exact ⟨⟨_, rfl⟩, by go_grown⟩

set_option maxRecDepth 100000 in
set_option maxHeartbeats 8000000 in
theorem core_any (w : World) (op num : Int) (c : Nat) (hc : c < 4294967296) : Calls Try.prog 28 #[.agg #[.int .i64 op, .int .i64 num, .int .u32 (c : Int)]] w fun e w' => (∃ b, e = .returned (.bool b) ∧ (b = true → c ≤ 2047 ∧ hasN c 10 = false)) ∧ Below w.heap.size w w' := by
  have hv := fun W => rvalid_any W c
  have hp := fun W => kproper_any W op c hc
  have HV := Lib.hid hv
  have HP := Lib.hid hp
  clear hv hp
  by_cases h0 : op < 1
  · go_enter Try.func28, Try.ntmps28
    go_wp2_with fail
    go_ret
    first | exact ⟨⟨_, rfl, fun h => nomatch h⟩, by go_grown⟩ | exact ⟨⟨_, rfl⟩, by go_grown⟩ | exact ⟨by simp, by go_grown⟩
  by_cases h1 : 13 ≤ op
  · go_enter Try.func28, Try.ntmps28
    go_wp2_with fail
    go_ret
    first | exact ⟨⟨_, rfl, fun h => nomatch h⟩, by go_grown⟩ | exact ⟨⟨_, rfl⟩, by go_grown⟩ | exact ⟨by simp, by go_grown⟩
  go_enter Try.func28, Try.ntmps28
  go_wp2_with fail
  refine (HV.out _).mono ?_
  rintro e w1 ⟨rfl, rfl⟩
  by_cases h2 : c ≤ 2047
  · rw [decide_eq_true h2]
    go_wp2_with fail
    refine (HP.out _).mono ?_
    rintro e w1 ⟨⟨b, rfl, h3⟩, rfl⟩
    cases b
    · go_wp2_with fail
      go_ret
      first | exact ⟨⟨_, rfl, fun h => nomatch h⟩, by go_grown⟩ | exact ⟨⟨_, rfl⟩, by go_grown⟩ | exact ⟨by simp, by go_grown⟩
    · have H3 : Hid (c ≤ 2047 ∧ hasN c 10 = false) := Lib.hid ⟨h2, h3 rfl⟩
      clear h3
      go_wp2_with fail
      refine (number_any _ _).mono ?_
      rintro e w1 ⟨⟨m, a, b, d, rfl⟩, hb⟩
      have hB1 : Below w.heap.size w w1 := below_on hb (by go_grown)
      have HQ : Hid (Blk w1 w.heap.size 25 #[.int .i64 op, .int .i64 num, .int .u32 (c : Int)]) := (Blk.new' _ _ _ (by simp)).under hb (by simp)
      have q1 := HQ.out.cell 1
      have hlq := HQ.out.lt
      simp only [List.getElem?_toArray, List.getElem?_cons_succ, List.getElem?_cons_zero] at q1
      clear hb
      cases m
      · go_wp2_with fail
        go_ret
        first | exact ⟨⟨_, rfl, fun _ => H3.out⟩, by first | exact hB1.alloc hB1.size _ | go_grown⟩ | exact ⟨.inl rfl, by first | exact hB1.alloc hB1.size _ | go_grown⟩
      · by_cases h4 : a ≤ num
        · go_wp2_with fail
          go_ret
          first | exact ⟨⟨_, rfl, fun _ => H3.out⟩, by first | exact hB1.alloc hB1.size _ | go_grown⟩ | exact ⟨.inl rfl, by first | exact hB1.alloc hB1.size _ | go_grown⟩
        · go_wp2_with fail
          go_ret
          first | exact ⟨⟨_, rfl, fun _ => H3.out⟩, by first | exact hB1.alloc hB1.size _ | go_grown⟩ | exact ⟨.inl rfl, by first | exact hB1.alloc hB1.size _ | go_grown⟩
  · rw [decide_eq_false h2]
    go_wp2_with fail
    go_ret
    first | exact ⟨⟨_, rfl, fun h => nomatch h⟩, by go_grown⟩ | exact ⟨⟨_, rfl⟩, by go_grown⟩ | exact ⟨by simp, by go_grown⟩
end Go.Proofs.Ytlnlefebcfnocaa
