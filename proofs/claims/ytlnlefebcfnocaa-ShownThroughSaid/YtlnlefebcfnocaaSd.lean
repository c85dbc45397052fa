/- The tables of the check: numbers of cores, rows of wrappers. -/
import Derived.Test.YtlnlefebcfnocaaSc
namespace Go.Proofs.Ytlnlefebcfnocaa
open Go.RowKit Go.Deep
attribute [local go_sem] Go.undef

set_option maxRecDepth 100000 in
set_option maxHeartbeats 4000000 in
theorem stateful_any (w : World) (op : Int) : Calls Try.prog 46 #[.int .i64 op] w fun e w' => (∃ b, e = .returned (.bool b)) ∧ w = w' := by
  by_cases h0 : op = 2
  · go_enter Try.func46, Try.ntmps46
    go_wp2_with fail
    go_ret
    exact ⟨⟨_, rfl⟩, rfl⟩
  by_cases h1 : op = 3
  · go_enter Try.func46, Try.ntmps46
    go_wp2_with fail
    go_ret
    exact ⟨⟨_, rfl⟩, rfl⟩
  by_cases h2 : op = 4
  · go_enter Try.func46, Try.ntmps46
    go_wp2_with fail
    go_ret
    exact ⟨⟨_, rfl⟩, rfl⟩
  go_enter Try.func46, Try.ntmps46
  go_wp2_with fail
  all_goals
    go_ret
    exact ⟨⟨_, rfl⟩, rfl⟩

set_option maxRecDepth 100000 in
set_option maxHeartbeats 8000000 in
theorem kproper_any (w : World) (op : Int) (c : Nat) (hc : c < 4294967296) : Calls Try.prog 38 #[.int .i64 op, .int .u32 (c : Int)] w fun e w' => (∃ b, e = .returned (.bool b) ∧ (b = true → hasN c 10 = false)) ∧ w = w' := by
  have hh := fun w k => rhas_some w c k hc
  have h10 := fun w => rhas_any w c 10 hc
  have hf := fun w => rfix_any w c hc
  have HH := Lib.hid hh
  have HT := Lib.hid h10
  have HF := Lib.hid hf
  clear hh h10 hf
  generalize hasN c 10 = t at HT ⊢
  go_enter Try.func38, Try.ntmps38
  go_wp2_with fail
  refine (HF.out _).mono ?_
  rintro e w1 ⟨⟨v, rfl⟩, rfl⟩
  by_cases hv : v = c
  · subst hv
    go_wp2_with fail
    refine (HT.out _).mono ?_
    rintro e w1 ⟨rfl, rfl⟩
    cases t
    · go_wp2_with fail
      refine (stateful_any _ op).mono ?_
      rintro e w1 ⟨⟨b, rfl⟩, rfl⟩
      cases b
      · go_wp2_with fail
        refine (HH.out _ _).mono ?_
        rintro e w1 ⟨rfl | rfl, rfl⟩
        · go_wp2_with fail
          go_ret
          first | exact ⟨⟨_, rfl, fun _ => rfl⟩, rfl⟩ | exact ⟨⟨_, rfl⟩, rfl⟩ | exact ⟨by simp, rfl⟩
        · go_wp2_with fail
          refine (HH.out _ _).mono ?_
          rintro e w1 ⟨rfl | rfl, rfl⟩
          all_goals
            go_wp2_with fail
            go_ret
            first | exact ⟨⟨_, rfl, fun _ => rfl⟩, rfl⟩ | exact ⟨⟨_, rfl⟩, rfl⟩ | exact ⟨by simp, rfl⟩
      · go_wp2_with fail
        go_ret
        first | exact ⟨⟨_, rfl, fun _ => rfl⟩, rfl⟩ | exact ⟨⟨_, rfl⟩, rfl⟩ | exact ⟨by simp, rfl⟩
    · go_wp2_with fail
      go_ret
      exact ⟨⟨_, rfl, fun h => nomatch h⟩, rfl⟩
  · have hv' : (((v : Nat) : Int) != (c : Int)) = true := by simp; omega
    go_wp2_with fail
    go_ret
    exact ⟨⟨_, rfl, fun h => nomatch h⟩, rfl⟩

set_option maxRecDepth 100000 in
set_option maxHeartbeats 8000000 in
theorem number_any (w : World) (op : Int) : Calls Try.prog 39 #[.int .i64 op] w fun e w' => (∃ (m : Bool) (a b d : Int), e = .returned (.agg #[.bool m, .int .i64 a, .int .i64 b, .int .i64 d])) ∧ Below w.heap.size w w' := by
  go_enter Try.func39, Try.ntmps39
  go_wp2_with fail
  · exact bodyPost_ret (v := .agg #[.bool true, .int .i64 0, .int .i64 1000000, .int .i64 0]) (by simp [results, Try.results39, go_sem]) rfl ⟨⟨_, _, _, _, rfl⟩, by go_grown⟩
  · exact bodyPost_ret (v := .agg #[.bool true, .int .i64 (-9223372036854775808), .int .i64 9223372036854775807, .int .i64 1]) (by simp [results, Try.results39, go_sem]) rfl ⟨⟨_, _, _, _, rfl⟩, by go_grown⟩
  · exact bodyPost_ret (v := .agg #[.bool true, .int .i64 (-9223372036854775808), .int .i64 9223372036854775807, .int .i64 1]) (by simp [results, Try.results39, go_sem]) rfl ⟨⟨_, _, _, _, rfl⟩, by go_grown⟩
  · exact bodyPost_ret (v := .agg #[.bool true, .int .i64 (-9223372036854775808), .int .i64 9223372036854775807, .int .i64 0]) (by simp [results, Try.results39, go_sem]) rfl ⟨⟨_, _, _, _, rfl⟩, by go_grown⟩
  · exact bodyPost_ret (v := .agg #[.bool false, .int .i64 0, .int .i64 0, .int .i64 0]) (by simp [results, Try.results39, go_sem]) rfl ⟨⟨_, _, _, _, rfl⟩, by go_grown⟩

/-- A row of the table. -/
def RowV (v : Value) : Prop := ∃ (n l0 l1 h0 h1 : Int) (c wh s : Bool), v = .agg #[.int .i64 n, .int .i64 l0, .int .i64 l1, .int .i64 h0, .int .i64 h1, .bool c, .bool wh, .bool s]
set_option maxRecDepth 100000 in
set_option maxHeartbeats 8000000 in
theorem one_any (w : World) (a b : Int) : Calls Try.prog 41 #[.int .i64 a, .int .i64 b] w fun e w' => (∃ v, e = .returned v ∧ RowV v) ∧ Below w.heap.size w w' := by
  go_enter Try.func41, Try.ntmps41
  go_wp2_with fail
  exact bodyPost_ret (v := .agg #[.int .i64 1, .int .i64 a, .int .i64 0, .int .i64 b, .int .i64 0, .bool false, .bool false, .bool false]) (by simp [results, Try.results41, go_sem, *]; done) rfl ⟨⟨_, rfl, _, _, _, _, _, _, _, _, rfl⟩, by go_grown⟩
set_option maxRecDepth 100000 in
set_option maxHeartbeats 8000000 in
theorem two_any (w : World) (a b c : Int) : Calls Try.prog 47 #[.int .i64 a, .int .i64 b, .int .i64 c] w fun e w' => (∃ v, e = .returned v ∧ RowV v) ∧ Below w.heap.size w w' := by
  go_enter Try.func47, Try.ntmps47
  go_wp2_with fail
  exact bodyPost_ret (v := .agg #[.int .i64 2, .int .i64 1, .int .i64 b, .int .i64 a, .int .i64 c, .bool false, .bool false, .bool false]) (by simp [results, Try.results47, go_sem, *]; done) rfl ⟨⟨_, rfl, _, _, _, _, _, _, _, _, rfl⟩, by go_grown⟩
theorem maps_any (w : World) : Calls Try.prog 42 #[] w fun e w' => (∃ a c, e = .returned (.slice a 9 c)) ∧ Below w.heap.size w w' := by
  go_enter Try.func42, Try.ntmps42
  go_wp2_with fail
  go_ret
  exact ⟨⟨_, _, rfl⟩, by go_grown⟩
end Go.Proofs.Ytlnlefebcfnocaa
