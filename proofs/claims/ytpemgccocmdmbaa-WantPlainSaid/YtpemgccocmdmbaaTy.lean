/- typed: is a kind's value of the type of a kind? -/
import Derived.Test.YtpemgccocmdmbaaFa
namespace Go.Proofs.Ytpemgccocmdmbaa
open Go.RowKit

def typedT (k q : Int) : Bool := decide ((1 ≤ k ∧ k ≤ 13) ∧ (q = k ∨ (k = 11 ∨ k = 12) ∧ (q = 11 ∨ q = 12)))
theorem is_number (v : Value) (xT : TypeId) (w : World) : (Instr.typeAssert (.iface 74 v) xT 74 true).run Try.prog w = .ok (.tuple #[v, .bool true]) w := by
  simp [Instr.typeAssert, run_underlying Try.underlying74, zeroValue, typeInfo]
theorem isnt_number {t : TypeId} (h : t ≠ 74) (v : Value) (xT : TypeId) (w : World) : (Instr.typeAssert (.iface t v) xT 74 true).run Try.prog w = .ok (.tuple #[.int .i64 0, .bool false]) w := by
  obtain ⟨j, hj, hz⟩ := Option.map_eq_some_iff.1 (show (Try.prog.info? 74).map (·.zero) = some (some (.int .i64 0)) by kernel_rfl)
  simp [Instr.typeAssert, run_underlying Try.underlying74, zeroValue, typeInfo, hj, hz, h]
theorem is_key (v : Value) (xT : TypeId) (w : World) : (Instr.typeAssert (.iface 75 v) xT 75 true).run Try.prog w = .ok (.tuple #[v, .bool true]) w := by
  simp [Instr.typeAssert, run_underlying Try.underlying75, zeroValue, typeInfo]
theorem isnt_key {t : TypeId} (h : t ≠ 75) (v : Value) (xT : TypeId) (w : World) : (Instr.typeAssert (.iface t v) xT 75 true).run Try.prog w = .ok (.tuple #[.int .i64 0, .bool false]) w := by
  obtain ⟨j, hj, hz⟩ := Option.map_eq_some_iff.1 (show (Try.prog.info? 75).map (·.zero) = some (some (.int .i64 0)) by kernel_rfl)
  simp [Instr.typeAssert, run_underlying Try.underlying75, zeroValue, typeInfo, hj, hz, h]
theorem is_decimal (v : Value) (xT : TypeId) (w : World) : (Instr.typeAssert (.iface 77 v) xT 77 true).run Try.prog w = .ok (.tuple #[v, .bool true]) w := by
  simp [Instr.typeAssert, run_underlying Try.underlying77, zeroValue, typeInfo]
theorem isnt_decimal {t : TypeId} (h : t ≠ 77) (v : Value) (xT : TypeId) (w : World) : (Instr.typeAssert (.iface t v) xT 77 true).run Try.prog w = .ok (.tuple #[.float .f64 0, .bool false]) w := by
  obtain ⟨j, hj, hz⟩ := Option.map_eq_some_iff.1 (show (Try.prog.info? 77).map (·.zero) = some (some (.float .f64 0)) by kernel_rfl)
  simp [Instr.typeAssert, run_underlying Try.underlying77, zeroValue, typeInfo, hj, hz, h]
theorem is_text (v : Value) (xT : TypeId) (w : World) : (Instr.typeAssert (.iface 78 v) xT 78 true).run Try.prog w = .ok (.tuple #[v, .bool true]) w := by
  simp [Instr.typeAssert, run_underlying Try.underlying78, zeroValue, typeInfo]
theorem isnt_text {t : TypeId} (h : t ≠ 78) (v : Value) (xT : TypeId) (w : World) : (Instr.typeAssert (.iface t v) xT 78 true).run Try.prog w = .ok (.tuple #[.string ByteArray.empty, .bool false]) w := by
  obtain ⟨j, hj, hz⟩ := Option.map_eq_some_iff.1 (show (Try.prog.info? 78).map (·.zero) = some (some (.string ByteArray.empty)) by kernel_rfl)
  simp [Instr.typeAssert, run_underlying Try.underlying78, zeroValue, typeInfo, hj, hz, h]
theorem is_name (v : Value) (xT : TypeId) (w : World) : (Instr.typeAssert (.iface 79 v) xT 79 true).run Try.prog w = .ok (.tuple #[v, .bool true]) w := by
  simp [Instr.typeAssert, run_underlying Try.underlying79, zeroValue, typeInfo]
theorem isnt_name {t : TypeId} (h : t ≠ 79) (v : Value) (xT : TypeId) (w : World) : (Instr.typeAssert (.iface t v) xT 79 true).run Try.prog w = .ok (.tuple #[.string ByteArray.empty, .bool false]) w := by
  obtain ⟨j, hj, hz⟩ := Option.map_eq_some_iff.1 (show (Try.prog.info? 79).map (·.zero) = some (some (.string ByteArray.empty)) by kernel_rfl)
  simp [Instr.typeAssert, run_underlying Try.underlying79, zeroValue, typeInfo, hj, hz, h]
theorem is_truth (v : Value) (xT : TypeId) (w : World) : (Instr.typeAssert (.iface 80 v) xT 80 true).run Try.prog w = .ok (.tuple #[v, .bool true]) w := by
  simp [Instr.typeAssert, run_underlying Try.underlying80, zeroValue, typeInfo]
theorem isnt_truth {t : TypeId} (h : t ≠ 80) (v : Value) (xT : TypeId) (w : World) : (Instr.typeAssert (.iface t v) xT 80 true).run Try.prog w = .ok (.tuple #[.bool false, .bool false]) w := by
  obtain ⟨j, hj, hz⟩ := Option.map_eq_some_iff.1 (show (Try.prog.info? 80).map (·.zero) = some (some (.bool false)) by kernel_rfl)
  simp [Instr.typeAssert, run_underlying Try.underlying80, zeroValue, typeInfo, hj, hz, h]
theorem is_octets (v : Value) (xT : TypeId) (w : World) : (Instr.typeAssert (.iface 82 v) xT 82 true).run Try.prog w = .ok (.tuple #[v, .bool true]) w := by
  simp [Instr.typeAssert, run_underlying Try.underlying82, zeroValue, typeInfo]
theorem isnt_octets {t : TypeId} (h : t ≠ 82) (v : Value) (xT : TypeId) (w : World) : (Instr.typeAssert (.iface t v) xT 82 true).run Try.prog w = .ok (.tuple #[.slice none 0 0, .bool false]) w := by
  obtain ⟨j, hj, hz⟩ := Option.map_eq_some_iff.1 (show (Try.prog.info? 82).map (·.zero) = some (some (.slice none 0 0)) by kernel_rfl)
  simp [Instr.typeAssert, run_underlying Try.underlying82, zeroValue, typeInfo, hj, hz, h]
theorem is_list (v : Value) (xT : TypeId) (w : World) : (Instr.typeAssert (.iface 84 v) xT 84 true).run Try.prog w = .ok (.tuple #[v, .bool true]) w := by
  simp [Instr.typeAssert, run_underlying Try.underlying84, zeroValue, typeInfo]
theorem isnt_list {t : TypeId} (h : t ≠ 84) (v : Value) (xT : TypeId) (w : World) : (Instr.typeAssert (.iface t v) xT 84 true).run Try.prog w = .ok (.tuple #[.slice none 0 0, .bool false]) w := by
  obtain ⟨j, hj, hz⟩ := Option.map_eq_some_iff.1 (show (Try.prog.info? 84).map (·.zero) = some (some (.slice none 0 0)) by kernel_rfl)
  simp [Instr.typeAssert, run_underlying Try.underlying84, zeroValue, typeInfo, hj, hz, h]
theorem is_pair (v : Value) (xT : TypeId) (w : World) : (Instr.typeAssert (.iface 86 v) xT 86 true).run Try.prog w = .ok (.tuple #[v, .bool true]) w := by
  simp [Instr.typeAssert, run_underlying Try.underlying86, zeroValue, typeInfo]
theorem isnt_pair {t : TypeId} (h : t ≠ 86) (v : Value) (xT : TypeId) (w : World) : (Instr.typeAssert (.iface t v) xT 86 true).run Try.prog w = .ok (.tuple #[.agg #[.nilIface, .nilIface], .bool false]) w := by
  obtain ⟨j, hj, hz⟩ := Option.map_eq_some_iff.1 (show (Try.prog.info? 86).map (·.zero) = some (some (.agg #[.nilIface, .nilIface])) by kernel_rfl)
  simp [Instr.typeAssert, run_underlying Try.underlying86, zeroValue, typeInfo, hj, hz, h]
theorem is_failure (v : Value) (xT : TypeId) (w : World) : (Instr.typeAssert (.iface 88 v) xT 88 true).run Try.prog w = .ok (.tuple #[v, .bool true]) w := by
  simp [Instr.typeAssert, run_underlying Try.underlying88, zeroValue, typeInfo]
theorem isnt_failure {t : TypeId} (h : t ≠ 88) (v : Value) (xT : TypeId) (w : World) : (Instr.typeAssert (.iface t v) xT 88 true).run Try.prog w = .ok (.tuple #[.agg #[.int .i64 0], .bool false]) w := by
  obtain ⟨j, hj, hz⟩ := Option.map_eq_some_iff.1 (show (Try.prog.info? 88).map (·.zero) = some (some (.agg #[.int .i64 0])) by kernel_rfl)
  simp [Instr.typeAssert, run_underlying Try.underlying88, zeroValue, typeInfo, hj, hz, h]
theorem is_pbox (v : Value) (xT : TypeId) (w : World) : (Instr.typeAssert (.iface 72 v) xT 72 true).run Try.prog w = .ok (.tuple #[v, .bool true]) w := by
  simp [Instr.typeAssert, run_underlying Try.underlying72, zeroValue, typeInfo]
theorem isnt_pbox {t : TypeId} (h : t ≠ 72) (v : Value) (xT : TypeId) (w : World) : (Instr.typeAssert (.iface t v) xT 72 true).run Try.prog w = .ok (.tuple #[.pointer none, .bool false]) w := by
  obtain ⟨j, hj, hz⟩ := Option.map_eq_some_iff.1 (show (Try.prog.info? 72).map (·.zero) = some (some (.pointer none)) by kernel_rfl)
  simp [Instr.typeAssert, run_underlying Try.underlying72, zeroValue, typeInfo, hj, hz, h]
theorem is_unit (v : Value) (xT : TypeId) (w : World) : (Instr.typeAssert (.iface 92 v) xT 92 true).run Try.prog w = .ok (.tuple #[v, .bool true]) w := by
  simp [Instr.typeAssert, run_underlying Try.underlying92, zeroValue, typeInfo]
theorem isnt_unit {t : TypeId} (h : t ≠ 92) (v : Value) (xT : TypeId) (w : World) : (Instr.typeAssert (.iface t v) xT 92 true).run Try.prog w = .ok (.tuple #[.agg #[], .bool false]) w := by
  obtain ⟨j, hj, hz⟩ := Option.map_eq_some_iff.1 (show (Try.prog.info? 92).map (·.zero) = some (some (.agg #[])) by kernel_rfl)
  simp [Instr.typeAssert, run_underlying Try.underlying92, zeroValue, typeInfo, hj, hz, h]

set_option maxRecDepth 100000 in
set_option maxHeartbeats 4000000 in
theorem typed_1 (_g : Nat) (q : Int) (w : World) : Calls Try.prog 57 #[.iface 74 (.int .i64 0), .int .i64 q] w fun e w' => e = .returned (.bool (typedT 1 q)) ∧ w = w' := by
  have h0 := is_number
  have h1 := isnt_key (t := 74) (by decide)
  have h2 := isnt_decimal (t := 74) (by decide)
  have h3 := isnt_text (t := 74) (by decide)
  have h4 := isnt_name (t := 74) (by decide)
  have h5 := isnt_truth (t := 74) (by decide)
  have h6 := isnt_octets (t := 74) (by decide)
  have h7 := isnt_list (t := 74) (by decide)
  have h8 := isnt_pair (t := 74) (by decide)
  have h9 := isnt_failure (t := 74) (by decide)
  have h10 := isnt_pbox (t := 74) (by decide)
  have h11 := isnt_unit (t := 74) (by decide)
  go_enter Try.func57, Try.ntmps57
  go_wp2_with fail
  all_goals
    go_ret
    refine ⟨congrArg Ending.returned (congrArg Value.bool ?_), rfl⟩
    clear h0 h1 h2 h3 h4 h5 h6 h7 h8 h9 h10 h11
    first | (simp_all [typedT]; done) | (simp_all [typedT]; omega) | (rw [Bool.eq_iff_iff]; simp_all [typedT]; done) | (rw [Bool.eq_iff_iff]; simp_all [typedT]; omega)

set_option maxRecDepth 100000 in
set_option maxHeartbeats 4000000 in
theorem typed_2 (_g : Nat) (q : Int) (w : World) : Calls Try.prog 57 #[.iface 75 (.int .i64 0), .int .i64 q] w fun e w' => e = .returned (.bool (typedT 2 q)) ∧ w = w' := by
  have h0 := isnt_number (t := 75) (by decide)
  have h1 := is_key
  have h2 := isnt_decimal (t := 75) (by decide)
  have h3 := isnt_text (t := 75) (by decide)
  have h4 := isnt_name (t := 75) (by decide)
  have h5 := isnt_truth (t := 75) (by decide)
  have h6 := isnt_octets (t := 75) (by decide)
  have h7 := isnt_list (t := 75) (by decide)
  have h8 := isnt_pair (t := 75) (by decide)
  have h9 := isnt_failure (t := 75) (by decide)
  have h10 := isnt_pbox (t := 75) (by decide)
  have h11 := isnt_unit (t := 75) (by decide)
  go_enter Try.func57, Try.ntmps57
  go_wp2_with fail
  all_goals
    go_ret
    refine ⟨congrArg Ending.returned (congrArg Value.bool ?_), rfl⟩
    clear h0 h1 h2 h3 h4 h5 h6 h7 h8 h9 h10 h11
    first | (simp_all [typedT]; done) | (simp_all [typedT]; omega) | (rw [Bool.eq_iff_iff]; simp_all [typedT]; done) | (rw [Bool.eq_iff_iff]; simp_all [typedT]; omega)

set_option maxRecDepth 100000 in
set_option maxHeartbeats 4000000 in
theorem typed_3 (_g : Nat) (q : Int) (w : World) : Calls Try.prog 57 #[.iface 77 (.float .f64 0), .int .i64 q] w fun e w' => e = .returned (.bool (typedT 3 q)) ∧ w = w' := by
  have h0 := isnt_number (t := 77) (by decide)
  have h1 := isnt_key (t := 77) (by decide)
  have h2 := is_decimal
  have h3 := isnt_text (t := 77) (by decide)
  have h4 := isnt_name (t := 77) (by decide)
  have h5 := isnt_truth (t := 77) (by decide)
  have h6 := isnt_octets (t := 77) (by decide)
  have h7 := isnt_list (t := 77) (by decide)
  have h8 := isnt_pair (t := 77) (by decide)
  have h9 := isnt_failure (t := 77) (by decide)
  have h10 := isnt_pbox (t := 77) (by decide)
  have h11 := isnt_unit (t := 77) (by decide)
  go_enter Try.func57, Try.ntmps57
  go_wp2_with fail
  all_goals
    go_ret
    refine ⟨congrArg Ending.returned (congrArg Value.bool ?_), rfl⟩
    clear h0 h1 h2 h3 h4 h5 h6 h7 h8 h9 h10 h11
    first | (simp_all [typedT]; done) | (simp_all [typedT]; omega) | (rw [Bool.eq_iff_iff]; simp_all [typedT]; done) | (rw [Bool.eq_iff_iff]; simp_all [typedT]; omega)

set_option maxRecDepth 100000 in
set_option maxHeartbeats 4000000 in
theorem typed_4 (_g : Nat) (q : Int) (w : World) : Calls Try.prog 57 #[.iface 78 (.string ByteArray.empty), .int .i64 q] w fun e w' => e = .returned (.bool (typedT 4 q)) ∧ w = w' := by
  have h0 := isnt_number (t := 78) (by decide)
  have h1 := isnt_key (t := 78) (by decide)
  have h2 := isnt_decimal (t := 78) (by decide)
  have h3 := is_text
  have h4 := isnt_name (t := 78) (by decide)
  have h5 := isnt_truth (t := 78) (by decide)
  have h6 := isnt_octets (t := 78) (by decide)
  have h7 := isnt_list (t := 78) (by decide)
  have h8 := isnt_pair (t := 78) (by decide)
  have h9 := isnt_failure (t := 78) (by decide)
  have h10 := isnt_pbox (t := 78) (by decide)
  have h11 := isnt_unit (t := 78) (by decide)
  go_enter Try.func57, Try.ntmps57
  go_wp2_with fail
  all_goals
    go_ret
    refine ⟨congrArg Ending.returned (congrArg Value.bool ?_), rfl⟩
    clear h0 h1 h2 h3 h4 h5 h6 h7 h8 h9 h10 h11
    first | (simp_all [typedT]; done) | (simp_all [typedT]; omega) | (rw [Bool.eq_iff_iff]; simp_all [typedT]; done) | (rw [Bool.eq_iff_iff]; simp_all [typedT]; omega)

set_option maxRecDepth 100000 in
set_option maxHeartbeats 4000000 in
theorem typed_5 (_g : Nat) (q : Int) (w : World) : Calls Try.prog 57 #[.iface 79 (.string ByteArray.empty), .int .i64 q] w fun e w' => e = .returned (.bool (typedT 5 q)) ∧ w = w' := by
  have h0 := isnt_number (t := 79) (by decide)
  have h1 := isnt_key (t := 79) (by decide)
  have h2 := isnt_decimal (t := 79) (by decide)
  have h3 := isnt_text (t := 79) (by decide)
  have h4 := is_name
  have h5 := isnt_truth (t := 79) (by decide)
  have h6 := isnt_octets (t := 79) (by decide)
  have h7 := isnt_list (t := 79) (by decide)
  have h8 := isnt_pair (t := 79) (by decide)
  have h9 := isnt_failure (t := 79) (by decide)
  have h10 := isnt_pbox (t := 79) (by decide)
  have h11 := isnt_unit (t := 79) (by decide)
  go_enter Try.func57, Try.ntmps57
  go_wp2_with fail
  all_goals
    go_ret
    refine ⟨congrArg Ending.returned (congrArg Value.bool ?_), rfl⟩
    clear h0 h1 h2 h3 h4 h5 h6 h7 h8 h9 h10 h11
    first | (simp_all [typedT]; done) | (simp_all [typedT]; omega) | (rw [Bool.eq_iff_iff]; simp_all [typedT]; done) | (rw [Bool.eq_iff_iff]; simp_all [typedT]; omega)

set_option maxRecDepth 100000 in
set_option maxHeartbeats 4000000 in
theorem typed_6 (_g : Nat) (q : Int) (w : World) : Calls Try.prog 57 #[.iface 80 (.bool false), .int .i64 q] w fun e w' => e = .returned (.bool (typedT 6 q)) ∧ w = w' := by
  have h0 := isnt_number (t := 80) (by decide)
  have h1 := isnt_key (t := 80) (by decide)
  have h2 := isnt_decimal (t := 80) (by decide)
  have h3 := isnt_text (t := 80) (by decide)
  have h4 := isnt_name (t := 80) (by decide)
  have h5 := is_truth
  have h6 := isnt_octets (t := 80) (by decide)
  have h7 := isnt_list (t := 80) (by decide)
  have h8 := isnt_pair (t := 80) (by decide)
  have h9 := isnt_failure (t := 80) (by decide)
  have h10 := isnt_pbox (t := 80) (by decide)
  have h11 := isnt_unit (t := 80) (by decide)
  go_enter Try.func57, Try.ntmps57
  go_wp2_with fail
  all_goals
    go_ret
    refine ⟨congrArg Ending.returned (congrArg Value.bool ?_), rfl⟩
    clear h0 h1 h2 h3 h4 h5 h6 h7 h8 h9 h10 h11
    first | (simp_all [typedT]; done) | (simp_all [typedT]; omega) | (rw [Bool.eq_iff_iff]; simp_all [typedT]; done) | (rw [Bool.eq_iff_iff]; simp_all [typedT]; omega)

set_option maxRecDepth 100000 in
set_option maxHeartbeats 4000000 in
theorem typed_7 (_g : Nat) (q : Int) (w : World) : Calls Try.prog 57 #[.iface 82 (.slice none 0 0), .int .i64 q] w fun e w' => e = .returned (.bool (typedT 7 q)) ∧ w = w' := by
  have h0 := isnt_number (t := 82) (by decide)
  have h1 := isnt_key (t := 82) (by decide)
  have h2 := isnt_decimal (t := 82) (by decide)
  have h3 := isnt_text (t := 82) (by decide)
  have h4 := isnt_name (t := 82) (by decide)
  have h5 := isnt_truth (t := 82) (by decide)
  have h6 := is_octets
  have h7 := isnt_list (t := 82) (by decide)
  have h8 := isnt_pair (t := 82) (by decide)
  have h9 := isnt_failure (t := 82) (by decide)
  have h10 := isnt_pbox (t := 82) (by decide)
  have h11 := isnt_unit (t := 82) (by decide)
  go_enter Try.func57, Try.ntmps57
  go_wp2_with fail
  all_goals
    go_ret
    refine ⟨congrArg Ending.returned (congrArg Value.bool ?_), rfl⟩
    clear h0 h1 h2 h3 h4 h5 h6 h7 h8 h9 h10 h11
    first | (simp_all [typedT]; done) | (simp_all [typedT]; omega) | (rw [Bool.eq_iff_iff]; simp_all [typedT]; done) | (rw [Bool.eq_iff_iff]; simp_all [typedT]; omega)

set_option maxRecDepth 100000 in
set_option maxHeartbeats 4000000 in
theorem typed_8 (_g : Nat) (q : Int) (w : World) : Calls Try.prog 57 #[.iface 84 (.slice none 0 0), .int .i64 q] w fun e w' => e = .returned (.bool (typedT 8 q)) ∧ w = w' := by
  have h0 := isnt_number (t := 84) (by decide)
  have h1 := isnt_key (t := 84) (by decide)
  have h2 := isnt_decimal (t := 84) (by decide)
  have h3 := isnt_text (t := 84) (by decide)
  have h4 := isnt_name (t := 84) (by decide)
  have h5 := isnt_truth (t := 84) (by decide)
  have h6 := isnt_octets (t := 84) (by decide)
  have h7 := is_list
  have h8 := isnt_pair (t := 84) (by decide)
  have h9 := isnt_failure (t := 84) (by decide)
  have h10 := isnt_pbox (t := 84) (by decide)
  have h11 := isnt_unit (t := 84) (by decide)
  go_enter Try.func57, Try.ntmps57
  go_wp2_with fail
  all_goals
    go_ret
    refine ⟨congrArg Ending.returned (congrArg Value.bool ?_), rfl⟩
    clear h0 h1 h2 h3 h4 h5 h6 h7 h8 h9 h10 h11
    first | (simp_all [typedT]; done) | (simp_all [typedT]; omega) | (rw [Bool.eq_iff_iff]; simp_all [typedT]; done) | (rw [Bool.eq_iff_iff]; simp_all [typedT]; omega)

set_option maxRecDepth 100000 in
set_option maxHeartbeats 4000000 in
theorem typed_9 (_g : Nat) (q : Int) (w : World) : Calls Try.prog 57 #[.iface 86 (.agg #[.nilIface, .nilIface]), .int .i64 q] w fun e w' => e = .returned (.bool (typedT 9 q)) ∧ w = w' := by
  have h0 := isnt_number (t := 86) (by decide)
  have h1 := isnt_key (t := 86) (by decide)
  have h2 := isnt_decimal (t := 86) (by decide)
  have h3 := isnt_text (t := 86) (by decide)
  have h4 := isnt_name (t := 86) (by decide)
  have h5 := isnt_truth (t := 86) (by decide)
  have h6 := isnt_octets (t := 86) (by decide)
  have h7 := isnt_list (t := 86) (by decide)
  have h8 := is_pair
  have h9 := isnt_failure (t := 86) (by decide)
  have h10 := isnt_pbox (t := 86) (by decide)
  have h11 := isnt_unit (t := 86) (by decide)
  go_enter Try.func57, Try.ntmps57
  go_wp2_with fail
  all_goals
    go_ret
    refine ⟨congrArg Ending.returned (congrArg Value.bool ?_), rfl⟩
    clear h0 h1 h2 h3 h4 h5 h6 h7 h8 h9 h10 h11
    first | (simp_all [typedT]; done) | (simp_all [typedT]; omega) | (rw [Bool.eq_iff_iff]; simp_all [typedT]; done) | (rw [Bool.eq_iff_iff]; simp_all [typedT]; omega)

set_option maxRecDepth 100000 in
set_option maxHeartbeats 4000000 in
theorem typed_10 (_g : Nat) (q : Int) (w : World) : Calls Try.prog 57 #[.iface 88 (.agg #[.int .i64 0]), .int .i64 q] w fun e w' => e = .returned (.bool (typedT 10 q)) ∧ w = w' := by
  have h0 := isnt_number (t := 88) (by decide)
  have h1 := isnt_key (t := 88) (by decide)
  have h2 := isnt_decimal (t := 88) (by decide)
  have h3 := isnt_text (t := 88) (by decide)
  have h4 := isnt_name (t := 88) (by decide)
  have h5 := isnt_truth (t := 88) (by decide)
  have h6 := isnt_octets (t := 88) (by decide)
  have h7 := isnt_list (t := 88) (by decide)
  have h8 := isnt_pair (t := 88) (by decide)
  have h9 := is_failure
  have h10 := isnt_pbox (t := 88) (by decide)
  have h11 := isnt_unit (t := 88) (by decide)
  go_enter Try.func57, Try.ntmps57
  go_wp2_with fail
  all_goals
    go_ret
    refine ⟨congrArg Ending.returned (congrArg Value.bool ?_), rfl⟩
    clear h0 h1 h2 h3 h4 h5 h6 h7 h8 h9 h10 h11
    first | (simp_all [typedT]; done) | (simp_all [typedT]; omega) | (rw [Bool.eq_iff_iff]; simp_all [typedT]; done) | (rw [Bool.eq_iff_iff]; simp_all [typedT]; omega)

set_option maxRecDepth 100000 in
set_option maxHeartbeats 4000000 in
theorem typed_11 (g : Nat) (q : Int) (w : World) : Calls Try.prog 57 #[.iface 72 (.pointer (some ⟨g, 0, none⟩)), .int .i64 q] w fun e w' => e = .returned (.bool (typedT 11 q)) ∧ w = w' := by
  have h0 := isnt_number (t := 72) (by decide)
  have h1 := isnt_key (t := 72) (by decide)
  have h2 := isnt_decimal (t := 72) (by decide)
  have h3 := isnt_text (t := 72) (by decide)
  have h4 := isnt_name (t := 72) (by decide)
  have h5 := isnt_truth (t := 72) (by decide)
  have h6 := isnt_octets (t := 72) (by decide)
  have h7 := isnt_list (t := 72) (by decide)
  have h8 := isnt_pair (t := 72) (by decide)
  have h9 := isnt_failure (t := 72) (by decide)
  have h10 := is_pbox
  have h11 := isnt_unit (t := 72) (by decide)
  go_enter Try.func57, Try.ntmps57
  go_wp2_with fail
  all_goals
    go_ret
    refine ⟨congrArg Ending.returned (congrArg Value.bool ?_), rfl⟩
    clear h0 h1 h2 h3 h4 h5 h6 h7 h8 h9 h10 h11
    first | (simp_all [typedT]; done) | (simp_all [typedT]; omega) | (rw [Bool.eq_iff_iff]; simp_all [typedT]; done) | (rw [Bool.eq_iff_iff]; simp_all [typedT]; omega)

set_option maxRecDepth 100000 in
set_option maxHeartbeats 4000000 in
theorem typed_12 (_g : Nat) (q : Int) (w : World) : Calls Try.prog 57 #[.iface 72 (.pointer none), .int .i64 q] w fun e w' => e = .returned (.bool (typedT 12 q)) ∧ w = w' := by
  have h0 := isnt_number (t := 72) (by decide)
  have h1 := isnt_key (t := 72) (by decide)
  have h2 := isnt_decimal (t := 72) (by decide)
  have h3 := isnt_text (t := 72) (by decide)
  have h4 := isnt_name (t := 72) (by decide)
  have h5 := isnt_truth (t := 72) (by decide)
  have h6 := isnt_octets (t := 72) (by decide)
  have h7 := isnt_list (t := 72) (by decide)
  have h8 := isnt_pair (t := 72) (by decide)
  have h9 := isnt_failure (t := 72) (by decide)
  have h10 := is_pbox
  have h11 := isnt_unit (t := 72) (by decide)
  go_enter Try.func57, Try.ntmps57
  go_wp2_with fail
  all_goals
    go_ret
    refine ⟨congrArg Ending.returned (congrArg Value.bool ?_), rfl⟩
    clear h0 h1 h2 h3 h4 h5 h6 h7 h8 h9 h10 h11
    first | (simp_all [typedT]; done) | (simp_all [typedT]; omega) | (rw [Bool.eq_iff_iff]; simp_all [typedT]; done) | (rw [Bool.eq_iff_iff]; simp_all [typedT]; omega)

set_option maxRecDepth 100000 in
set_option maxHeartbeats 4000000 in
theorem typed_13 (_g : Nat) (q : Int) (w : World) : Calls Try.prog 57 #[.iface 92 (.agg #[]), .int .i64 q] w fun e w' => e = .returned (.bool (typedT 13 q)) ∧ w = w' := by
  have h0 := isnt_number (t := 92) (by decide)
  have h1 := isnt_key (t := 92) (by decide)
  have h2 := isnt_decimal (t := 92) (by decide)
  have h3 := isnt_text (t := 92) (by decide)
  have h4 := isnt_name (t := 92) (by decide)
  have h5 := isnt_truth (t := 92) (by decide)
  have h6 := isnt_octets (t := 92) (by decide)
  have h7 := isnt_list (t := 92) (by decide)
  have h8 := isnt_pair (t := 92) (by decide)
  have h9 := isnt_failure (t := 92) (by decide)
  have h10 := isnt_pbox (t := 92) (by decide)
  have h11 := is_unit
  go_enter Try.func57, Try.ntmps57
  go_wp2_with fail
  all_goals
    go_ret
    refine ⟨congrArg Ending.returned (congrArg Value.bool ?_), rfl⟩
    clear h0 h1 h2 h3 h4 h5 h6 h7 h8 h9 h10 h11
    first | (simp_all [typedT]; done) | (simp_all [typedT]; omega) | (rw [Bool.eq_iff_iff]; simp_all [typedT]; done) | (rw [Bool.eq_iff_iff]; simp_all [typedT]; omega)

set_option maxRecDepth 100000 in
set_option maxHeartbeats 4000000 in
theorem typed_nil (_g : Nat) (q : Int) (w : World) : Calls Try.prog 57 #[.nilIface, .int .i64 q] w fun e w' => e = .returned (.bool (typedT 0 q)) ∧ w = w' := by
  go_enter Try.func57, Try.ntmps57
  go_wp2_with fail
  all_goals
    go_ret
    refine ⟨congrArg Ending.returned (congrArg Value.bool ?_), rfl⟩
    first | (simp_all [typedT]; done) | (simp_all [typedT]; omega) | (rw [Bool.eq_iff_iff]; simp_all [typedT]; done) | (rw [Bool.eq_iff_iff]; simp_all [typedT]; omega)

theorem typed_any (k : Int) (g : Nat) (q : Int) (w : World) : Calls Try.prog 57 #[sampleV g k, .int .i64 q] w fun e w' => e = .returned (.bool (typedT k q)) ∧ w = w' := by
  unfold sampleV
  by_cases h1 : k = 1
  · subst h1; exact typed_1 g q w
  by_cases h2 : k = 2
  · subst h2; simpa using typed_2 g q w
  by_cases h3 : k = 3
  · subst h3; simpa using typed_3 g q w
  by_cases h4 : k = 4
  · subst h4; simpa using typed_4 g q w
  by_cases h5 : k = 5
  · subst h5; simpa using typed_5 g q w
  by_cases h6 : k = 6
  · subst h6; simpa using typed_6 g q w
  by_cases h7 : k = 7
  · subst h7; simpa using typed_7 g q w
  by_cases h8 : k = 8
  · subst h8; simpa using typed_8 g q w
  by_cases h9 : k = 9
  · subst h9; simpa using typed_9 g q w
  by_cases h10 : k = 10
  · subst h10; simpa using typed_10 g q w
  by_cases h11 : k = 11
  · subst h11; simpa using typed_11 g q w
  by_cases h12 : k = 12
  · subst h12; simpa using typed_12 g q w
  by_cases h13 : k = 13
  · subst h13; simpa using typed_13 g q w
  have e : typedT k q = typedT 0 q := by
    unfold typedT
    rw [decide_eq_decide]
    constructor <;> rintro ⟨⟨_, _⟩, _⟩ <;> omega
  simp only [h1, h2, h3, h4, h5, h6, h7, h8, h9, h10, h11, h12, h13, if_false]
  rw [e]
  exact typed_nil g q w
end Go.Proofs.Ytpemgccocmdmbaa
