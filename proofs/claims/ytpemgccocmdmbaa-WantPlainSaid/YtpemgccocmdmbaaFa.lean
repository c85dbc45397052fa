/- face: has a kind's value an interface? -/
import Derived.Test.YtpemgccocmdmbaaSa
import Derived.Stop.Asserts
namespace Go.Proofs.Ytpemgccocmdmbaa
open Go.RowKit

theorem as_number_sized (v : Value) (xT : TypeId) (w : World) : (Instr.typeAssert (.iface 74 v) xT 94 true).run Try.prog w = .ok (.tuple #[.nilIface, .bool false]) w := run_typeAssert_lacksB Try.underlying94 (by kernel_rfl) (by kernel_rfl) v xT w
theorem as_number_labelled (v : Value) (xT : TypeId) (w : World) : (Instr.typeAssert (.iface 74 v) xT 97 true).run Try.prog w = .ok (.tuple #[.nilIface, .bool false]) w := run_typeAssert_lacksB Try.underlying97 (by kernel_rfl) (by kernel_rfl) v xT w
theorem as_number_failing (v : Value) (xT : TypeId) (w : World) : (Instr.typeAssert (.iface 74 v) xT 100 true).run Try.prog w = .ok (.tuple #[.nilIface, .bool false]) w := run_typeAssert_lacksB Try.underlying100 (by kernel_rfl) (by kernel_rfl) v xT w
theorem as_number_opening (v : Value) (xT : TypeId) (w : World) : (Instr.typeAssert (.iface 74 v) xT 103 true).run Try.prog w = .ok (.tuple #[.nilIface, .bool false]) w := run_typeAssert_lacksB Try.underlying103 (by kernel_rfl) (by kernel_rfl) v xT w
theorem as_number_ordered (v : Value) (xT : TypeId) (w : World) : (Instr.typeAssert (.iface 74 v) xT 106 true).run Try.prog w = .ok (.tuple #[.iface 74 v, .bool true]) w := run_typeAssert_hasB Try.underlying106 (by kernel_rfl) v xT w
theorem as_number_adding (v : Value) (xT : TypeId) (w : World) : (Instr.typeAssert (.iface 74 v) xT 109 true).run Try.prog w = .ok (.tuple #[.iface 74 v, .bool true]) w := run_typeAssert_hasB Try.underlying109 (by kernel_rfl) v xT w
theorem as_number_named (v : Value) (xT : TypeId) (w : World) : (Instr.typeAssert (.iface 74 v) xT 112 true).run Try.prog w = .ok (.tuple #[.nilIface, .bool false]) w := run_typeAssert_lacksB Try.underlying112 (by kernel_rfl) (by kernel_rfl) v xT w
theorem as_number_measured (v : Value) (xT : TypeId) (w : World) : (Instr.typeAssert (.iface 74 v) xT 115 true).run Try.prog w = .ok (.tuple #[.nilIface, .bool false]) w := run_typeAssert_lacksB Try.underlying115 (by kernel_rfl) (by kernel_rfl) v xT w
theorem as_number_numeric (v : Value) (xT : TypeId) (w : World) : (Instr.typeAssert (.iface 74 v) xT 118 true).run Try.prog w = .ok (.tuple #[.iface 74 v, .bool true]) w := run_typeAssert_hasB Try.underlying118 (by kernel_rfl) v xT w
theorem as_number_whole (v : Value) (xT : TypeId) (w : World) : (Instr.typeAssert (.iface 74 v) xT 121 true).run Try.prog w = .ok (.tuple #[.nilIface, .bool false]) w := run_typeAssert_lacksB Try.underlying121 (by kernel_rfl) (by kernel_rfl) v xT w
theorem as_key_sized (v : Value) (xT : TypeId) (w : World) : (Instr.typeAssert (.iface 75 v) xT 94 true).run Try.prog w = .ok (.tuple #[.nilIface, .bool false]) w := run_typeAssert_lacksB Try.underlying94 (by kernel_rfl) (by kernel_rfl) v xT w
theorem as_key_labelled (v : Value) (xT : TypeId) (w : World) : (Instr.typeAssert (.iface 75 v) xT 97 true).run Try.prog w = .ok (.tuple #[.iface 75 v, .bool true]) w := run_typeAssert_hasB Try.underlying97 (by kernel_rfl) v xT w
theorem as_key_failing (v : Value) (xT : TypeId) (w : World) : (Instr.typeAssert (.iface 75 v) xT 100 true).run Try.prog w = .ok (.tuple #[.nilIface, .bool false]) w := run_typeAssert_lacksB Try.underlying100 (by kernel_rfl) (by kernel_rfl) v xT w
theorem as_key_opening (v : Value) (xT : TypeId) (w : World) : (Instr.typeAssert (.iface 75 v) xT 103 true).run Try.prog w = .ok (.tuple #[.nilIface, .bool false]) w := run_typeAssert_lacksB Try.underlying103 (by kernel_rfl) (by kernel_rfl) v xT w
theorem as_key_ordered (v : Value) (xT : TypeId) (w : World) : (Instr.typeAssert (.iface 75 v) xT 106 true).run Try.prog w = .ok (.tuple #[.iface 75 v, .bool true]) w := run_typeAssert_hasB Try.underlying106 (by kernel_rfl) v xT w
theorem as_key_adding (v : Value) (xT : TypeId) (w : World) : (Instr.typeAssert (.iface 75 v) xT 109 true).run Try.prog w = .ok (.tuple #[.nilIface, .bool false]) w := run_typeAssert_lacksB Try.underlying109 (by kernel_rfl) (by kernel_rfl) v xT w
theorem as_key_named (v : Value) (xT : TypeId) (w : World) : (Instr.typeAssert (.iface 75 v) xT 112 true).run Try.prog w = .ok (.tuple #[.nilIface, .bool false]) w := run_typeAssert_lacksB Try.underlying112 (by kernel_rfl) (by kernel_rfl) v xT w
theorem as_key_measured (v : Value) (xT : TypeId) (w : World) : (Instr.typeAssert (.iface 75 v) xT 115 true).run Try.prog w = .ok (.tuple #[.nilIface, .bool false]) w := run_typeAssert_lacksB Try.underlying115 (by kernel_rfl) (by kernel_rfl) v xT w
theorem as_key_numeric (v : Value) (xT : TypeId) (w : World) : (Instr.typeAssert (.iface 75 v) xT 118 true).run Try.prog w = .ok (.tuple #[.nilIface, .bool false]) w := run_typeAssert_lacksB Try.underlying118 (by kernel_rfl) (by kernel_rfl) v xT w
theorem as_key_whole (v : Value) (xT : TypeId) (w : World) : (Instr.typeAssert (.iface 75 v) xT 121 true).run Try.prog w = .ok (.tuple #[.nilIface, .bool false]) w := run_typeAssert_lacksB Try.underlying121 (by kernel_rfl) (by kernel_rfl) v xT w
theorem as_decimal_sized (v : Value) (xT : TypeId) (w : World) : (Instr.typeAssert (.iface 77 v) xT 94 true).run Try.prog w = .ok (.tuple #[.nilIface, .bool false]) w := run_typeAssert_lacksB Try.underlying94 (by kernel_rfl) (by kernel_rfl) v xT w
theorem as_decimal_labelled (v : Value) (xT : TypeId) (w : World) : (Instr.typeAssert (.iface 77 v) xT 97 true).run Try.prog w = .ok (.tuple #[.nilIface, .bool false]) w := run_typeAssert_lacksB Try.underlying97 (by kernel_rfl) (by kernel_rfl) v xT w
theorem as_decimal_failing (v : Value) (xT : TypeId) (w : World) : (Instr.typeAssert (.iface 77 v) xT 100 true).run Try.prog w = .ok (.tuple #[.nilIface, .bool false]) w := run_typeAssert_lacksB Try.underlying100 (by kernel_rfl) (by kernel_rfl) v xT w
theorem as_decimal_opening (v : Value) (xT : TypeId) (w : World) : (Instr.typeAssert (.iface 77 v) xT 103 true).run Try.prog w = .ok (.tuple #[.nilIface, .bool false]) w := run_typeAssert_lacksB Try.underlying103 (by kernel_rfl) (by kernel_rfl) v xT w
theorem as_decimal_ordered (v : Value) (xT : TypeId) (w : World) : (Instr.typeAssert (.iface 77 v) xT 106 true).run Try.prog w = .ok (.tuple #[.iface 77 v, .bool true]) w := run_typeAssert_hasB Try.underlying106 (by kernel_rfl) v xT w
theorem as_decimal_adding (v : Value) (xT : TypeId) (w : World) : (Instr.typeAssert (.iface 77 v) xT 109 true).run Try.prog w = .ok (.tuple #[.iface 77 v, .bool true]) w := run_typeAssert_hasB Try.underlying109 (by kernel_rfl) v xT w
theorem as_decimal_named (v : Value) (xT : TypeId) (w : World) : (Instr.typeAssert (.iface 77 v) xT 112 true).run Try.prog w = .ok (.tuple #[.nilIface, .bool false]) w := run_typeAssert_lacksB Try.underlying112 (by kernel_rfl) (by kernel_rfl) v xT w
theorem as_decimal_measured (v : Value) (xT : TypeId) (w : World) : (Instr.typeAssert (.iface 77 v) xT 115 true).run Try.prog w = .ok (.tuple #[.nilIface, .bool false]) w := run_typeAssert_lacksB Try.underlying115 (by kernel_rfl) (by kernel_rfl) v xT w
theorem as_decimal_numeric (v : Value) (xT : TypeId) (w : World) : (Instr.typeAssert (.iface 77 v) xT 118 true).run Try.prog w = .ok (.tuple #[.iface 77 v, .bool true]) w := run_typeAssert_hasB Try.underlying118 (by kernel_rfl) v xT w
theorem as_decimal_whole (v : Value) (xT : TypeId) (w : World) : (Instr.typeAssert (.iface 77 v) xT 121 true).run Try.prog w = .ok (.tuple #[.nilIface, .bool false]) w := run_typeAssert_lacksB Try.underlying121 (by kernel_rfl) (by kernel_rfl) v xT w
theorem as_text_sized (v : Value) (xT : TypeId) (w : World) : (Instr.typeAssert (.iface 78 v) xT 94 true).run Try.prog w = .ok (.tuple #[.iface 78 v, .bool true]) w := run_typeAssert_hasB Try.underlying94 (by kernel_rfl) v xT w
theorem as_text_labelled (v : Value) (xT : TypeId) (w : World) : (Instr.typeAssert (.iface 78 v) xT 97 true).run Try.prog w = .ok (.tuple #[.nilIface, .bool false]) w := run_typeAssert_lacksB Try.underlying97 (by kernel_rfl) (by kernel_rfl) v xT w
theorem as_text_failing (v : Value) (xT : TypeId) (w : World) : (Instr.typeAssert (.iface 78 v) xT 100 true).run Try.prog w = .ok (.tuple #[.nilIface, .bool false]) w := run_typeAssert_lacksB Try.underlying100 (by kernel_rfl) (by kernel_rfl) v xT w
theorem as_text_opening (v : Value) (xT : TypeId) (w : World) : (Instr.typeAssert (.iface 78 v) xT 103 true).run Try.prog w = .ok (.tuple #[.nilIface, .bool false]) w := run_typeAssert_lacksB Try.underlying103 (by kernel_rfl) (by kernel_rfl) v xT w
theorem as_text_ordered (v : Value) (xT : TypeId) (w : World) : (Instr.typeAssert (.iface 78 v) xT 106 true).run Try.prog w = .ok (.tuple #[.iface 78 v, .bool true]) w := run_typeAssert_hasB Try.underlying106 (by kernel_rfl) v xT w
theorem as_text_adding (v : Value) (xT : TypeId) (w : World) : (Instr.typeAssert (.iface 78 v) xT 109 true).run Try.prog w = .ok (.tuple #[.nilIface, .bool false]) w := run_typeAssert_lacksB Try.underlying109 (by kernel_rfl) (by kernel_rfl) v xT w
theorem as_text_named (v : Value) (xT : TypeId) (w : World) : (Instr.typeAssert (.iface 78 v) xT 112 true).run Try.prog w = .ok (.tuple #[.nilIface, .bool false]) w := run_typeAssert_lacksB Try.underlying112 (by kernel_rfl) (by kernel_rfl) v xT w
theorem as_text_measured (v : Value) (xT : TypeId) (w : World) : (Instr.typeAssert (.iface 78 v) xT 115 true).run Try.prog w = .ok (.tuple #[.iface 78 v, .bool true]) w := run_typeAssert_hasB Try.underlying115 (by kernel_rfl) v xT w
theorem as_text_numeric (v : Value) (xT : TypeId) (w : World) : (Instr.typeAssert (.iface 78 v) xT 118 true).run Try.prog w = .ok (.tuple #[.nilIface, .bool false]) w := run_typeAssert_lacksB Try.underlying118 (by kernel_rfl) (by kernel_rfl) v xT w
theorem as_text_whole (v : Value) (xT : TypeId) (w : World) : (Instr.typeAssert (.iface 78 v) xT 121 true).run Try.prog w = .ok (.tuple #[.nilIface, .bool false]) w := run_typeAssert_lacksB Try.underlying121 (by kernel_rfl) (by kernel_rfl) v xT w
theorem as_name_sized (v : Value) (xT : TypeId) (w : World) : (Instr.typeAssert (.iface 79 v) xT 94 true).run Try.prog w = .ok (.tuple #[.iface 79 v, .bool true]) w := run_typeAssert_hasB Try.underlying94 (by kernel_rfl) v xT w
theorem as_name_labelled (v : Value) (xT : TypeId) (w : World) : (Instr.typeAssert (.iface 79 v) xT 97 true).run Try.prog w = .ok (.tuple #[.iface 79 v, .bool true]) w := run_typeAssert_hasB Try.underlying97 (by kernel_rfl) v xT w
theorem as_name_failing (v : Value) (xT : TypeId) (w : World) : (Instr.typeAssert (.iface 79 v) xT 100 true).run Try.prog w = .ok (.tuple #[.nilIface, .bool false]) w := run_typeAssert_lacksB Try.underlying100 (by kernel_rfl) (by kernel_rfl) v xT w
theorem as_name_opening (v : Value) (xT : TypeId) (w : World) : (Instr.typeAssert (.iface 79 v) xT 103 true).run Try.prog w = .ok (.tuple #[.nilIface, .bool false]) w := run_typeAssert_lacksB Try.underlying103 (by kernel_rfl) (by kernel_rfl) v xT w
theorem as_name_ordered (v : Value) (xT : TypeId) (w : World) : (Instr.typeAssert (.iface 79 v) xT 106 true).run Try.prog w = .ok (.tuple #[.iface 79 v, .bool true]) w := run_typeAssert_hasB Try.underlying106 (by kernel_rfl) v xT w
theorem as_name_adding (v : Value) (xT : TypeId) (w : World) : (Instr.typeAssert (.iface 79 v) xT 109 true).run Try.prog w = .ok (.tuple #[.nilIface, .bool false]) w := run_typeAssert_lacksB Try.underlying109 (by kernel_rfl) (by kernel_rfl) v xT w
theorem as_name_named (v : Value) (xT : TypeId) (w : World) : (Instr.typeAssert (.iface 79 v) xT 112 true).run Try.prog w = .ok (.tuple #[.iface 79 v, .bool true]) w := run_typeAssert_hasB Try.underlying112 (by kernel_rfl) v xT w
theorem as_name_measured (v : Value) (xT : TypeId) (w : World) : (Instr.typeAssert (.iface 79 v) xT 115 true).run Try.prog w = .ok (.tuple #[.iface 79 v, .bool true]) w := run_typeAssert_hasB Try.underlying115 (by kernel_rfl) v xT w
theorem as_name_numeric (v : Value) (xT : TypeId) (w : World) : (Instr.typeAssert (.iface 79 v) xT 118 true).run Try.prog w = .ok (.tuple #[.nilIface, .bool false]) w := run_typeAssert_lacksB Try.underlying118 (by kernel_rfl) (by kernel_rfl) v xT w
theorem as_name_whole (v : Value) (xT : TypeId) (w : World) : (Instr.typeAssert (.iface 79 v) xT 121 true).run Try.prog w = .ok (.tuple #[.iface 79 v, .bool true]) w := run_typeAssert_hasB Try.underlying121 (by kernel_rfl) v xT w
theorem as_truth_sized (v : Value) (xT : TypeId) (w : World) : (Instr.typeAssert (.iface 80 v) xT 94 true).run Try.prog w = .ok (.tuple #[.nilIface, .bool false]) w := run_typeAssert_lacksB Try.underlying94 (by kernel_rfl) (by kernel_rfl) v xT w
theorem as_truth_labelled (v : Value) (xT : TypeId) (w : World) : (Instr.typeAssert (.iface 80 v) xT 97 true).run Try.prog w = .ok (.tuple #[.nilIface, .bool false]) w := run_typeAssert_lacksB Try.underlying97 (by kernel_rfl) (by kernel_rfl) v xT w
theorem as_truth_failing (v : Value) (xT : TypeId) (w : World) : (Instr.typeAssert (.iface 80 v) xT 100 true).run Try.prog w = .ok (.tuple #[.nilIface, .bool false]) w := run_typeAssert_lacksB Try.underlying100 (by kernel_rfl) (by kernel_rfl) v xT w
theorem as_truth_opening (v : Value) (xT : TypeId) (w : World) : (Instr.typeAssert (.iface 80 v) xT 103 true).run Try.prog w = .ok (.tuple #[.nilIface, .bool false]) w := run_typeAssert_lacksB Try.underlying103 (by kernel_rfl) (by kernel_rfl) v xT w
theorem as_truth_ordered (v : Value) (xT : TypeId) (w : World) : (Instr.typeAssert (.iface 80 v) xT 106 true).run Try.prog w = .ok (.tuple #[.nilIface, .bool false]) w := run_typeAssert_lacksB Try.underlying106 (by kernel_rfl) (by kernel_rfl) v xT w
theorem as_truth_adding (v : Value) (xT : TypeId) (w : World) : (Instr.typeAssert (.iface 80 v) xT 109 true).run Try.prog w = .ok (.tuple #[.nilIface, .bool false]) w := run_typeAssert_lacksB Try.underlying109 (by kernel_rfl) (by kernel_rfl) v xT w
theorem as_truth_named (v : Value) (xT : TypeId) (w : World) : (Instr.typeAssert (.iface 80 v) xT 112 true).run Try.prog w = .ok (.tuple #[.nilIface, .bool false]) w := run_typeAssert_lacksB Try.underlying112 (by kernel_rfl) (by kernel_rfl) v xT w
theorem as_truth_measured (v : Value) (xT : TypeId) (w : World) : (Instr.typeAssert (.iface 80 v) xT 115 true).run Try.prog w = .ok (.tuple #[.nilIface, .bool false]) w := run_typeAssert_lacksB Try.underlying115 (by kernel_rfl) (by kernel_rfl) v xT w
theorem as_truth_numeric (v : Value) (xT : TypeId) (w : World) : (Instr.typeAssert (.iface 80 v) xT 118 true).run Try.prog w = .ok (.tuple #[.nilIface, .bool false]) w := run_typeAssert_lacksB Try.underlying118 (by kernel_rfl) (by kernel_rfl) v xT w
theorem as_truth_whole (v : Value) (xT : TypeId) (w : World) : (Instr.typeAssert (.iface 80 v) xT 121 true).run Try.prog w = .ok (.tuple #[.nilIface, .bool false]) w := run_typeAssert_lacksB Try.underlying121 (by kernel_rfl) (by kernel_rfl) v xT w
theorem as_octets_sized (v : Value) (xT : TypeId) (w : World) : (Instr.typeAssert (.iface 82 v) xT 94 true).run Try.prog w = .ok (.tuple #[.iface 82 v, .bool true]) w := run_typeAssert_hasB Try.underlying94 (by kernel_rfl) v xT w
theorem as_octets_labelled (v : Value) (xT : TypeId) (w : World) : (Instr.typeAssert (.iface 82 v) xT 97 true).run Try.prog w = .ok (.tuple #[.nilIface, .bool false]) w := run_typeAssert_lacksB Try.underlying97 (by kernel_rfl) (by kernel_rfl) v xT w
theorem as_octets_failing (v : Value) (xT : TypeId) (w : World) : (Instr.typeAssert (.iface 82 v) xT 100 true).run Try.prog w = .ok (.tuple #[.nilIface, .bool false]) w := run_typeAssert_lacksB Try.underlying100 (by kernel_rfl) (by kernel_rfl) v xT w
theorem as_octets_opening (v : Value) (xT : TypeId) (w : World) : (Instr.typeAssert (.iface 82 v) xT 103 true).run Try.prog w = .ok (.tuple #[.nilIface, .bool false]) w := run_typeAssert_lacksB Try.underlying103 (by kernel_rfl) (by kernel_rfl) v xT w
theorem as_octets_ordered (v : Value) (xT : TypeId) (w : World) : (Instr.typeAssert (.iface 82 v) xT 106 true).run Try.prog w = .ok (.tuple #[.nilIface, .bool false]) w := run_typeAssert_lacksB Try.underlying106 (by kernel_rfl) (by kernel_rfl) v xT w
theorem as_octets_adding (v : Value) (xT : TypeId) (w : World) : (Instr.typeAssert (.iface 82 v) xT 109 true).run Try.prog w = .ok (.tuple #[.nilIface, .bool false]) w := run_typeAssert_lacksB Try.underlying109 (by kernel_rfl) (by kernel_rfl) v xT w
theorem as_octets_named (v : Value) (xT : TypeId) (w : World) : (Instr.typeAssert (.iface 82 v) xT 112 true).run Try.prog w = .ok (.tuple #[.nilIface, .bool false]) w := run_typeAssert_lacksB Try.underlying112 (by kernel_rfl) (by kernel_rfl) v xT w
theorem as_octets_measured (v : Value) (xT : TypeId) (w : World) : (Instr.typeAssert (.iface 82 v) xT 115 true).run Try.prog w = .ok (.tuple #[.nilIface, .bool false]) w := run_typeAssert_lacksB Try.underlying115 (by kernel_rfl) (by kernel_rfl) v xT w
theorem as_octets_numeric (v : Value) (xT : TypeId) (w : World) : (Instr.typeAssert (.iface 82 v) xT 118 true).run Try.prog w = .ok (.tuple #[.nilIface, .bool false]) w := run_typeAssert_lacksB Try.underlying118 (by kernel_rfl) (by kernel_rfl) v xT w
theorem as_octets_whole (v : Value) (xT : TypeId) (w : World) : (Instr.typeAssert (.iface 82 v) xT 121 true).run Try.prog w = .ok (.tuple #[.nilIface, .bool false]) w := run_typeAssert_lacksB Try.underlying121 (by kernel_rfl) (by kernel_rfl) v xT w
theorem as_list_sized (v : Value) (xT : TypeId) (w : World) : (Instr.typeAssert (.iface 84 v) xT 94 true).run Try.prog w = .ok (.tuple #[.iface 84 v, .bool true]) w := run_typeAssert_hasB Try.underlying94 (by kernel_rfl) v xT w
theorem as_list_labelled (v : Value) (xT : TypeId) (w : World) : (Instr.typeAssert (.iface 84 v) xT 97 true).run Try.prog w = .ok (.tuple #[.nilIface, .bool false]) w := run_typeAssert_lacksB Try.underlying97 (by kernel_rfl) (by kernel_rfl) v xT w
theorem as_list_failing (v : Value) (xT : TypeId) (w : World) : (Instr.typeAssert (.iface 84 v) xT 100 true).run Try.prog w = .ok (.tuple #[.nilIface, .bool false]) w := run_typeAssert_lacksB Try.underlying100 (by kernel_rfl) (by kernel_rfl) v xT w
theorem as_list_opening (v : Value) (xT : TypeId) (w : World) : (Instr.typeAssert (.iface 84 v) xT 103 true).run Try.prog w = .ok (.tuple #[.nilIface, .bool false]) w := run_typeAssert_lacksB Try.underlying103 (by kernel_rfl) (by kernel_rfl) v xT w
theorem as_list_ordered (v : Value) (xT : TypeId) (w : World) : (Instr.typeAssert (.iface 84 v) xT 106 true).run Try.prog w = .ok (.tuple #[.nilIface, .bool false]) w := run_typeAssert_lacksB Try.underlying106 (by kernel_rfl) (by kernel_rfl) v xT w
theorem as_list_adding (v : Value) (xT : TypeId) (w : World) : (Instr.typeAssert (.iface 84 v) xT 109 true).run Try.prog w = .ok (.tuple #[.nilIface, .bool false]) w := run_typeAssert_lacksB Try.underlying109 (by kernel_rfl) (by kernel_rfl) v xT w
theorem as_list_named (v : Value) (xT : TypeId) (w : World) : (Instr.typeAssert (.iface 84 v) xT 112 true).run Try.prog w = .ok (.tuple #[.nilIface, .bool false]) w := run_typeAssert_lacksB Try.underlying112 (by kernel_rfl) (by kernel_rfl) v xT w
theorem as_list_measured (v : Value) (xT : TypeId) (w : World) : (Instr.typeAssert (.iface 84 v) xT 115 true).run Try.prog w = .ok (.tuple #[.nilIface, .bool false]) w := run_typeAssert_lacksB Try.underlying115 (by kernel_rfl) (by kernel_rfl) v xT w
theorem as_list_numeric (v : Value) (xT : TypeId) (w : World) : (Instr.typeAssert (.iface 84 v) xT 118 true).run Try.prog w = .ok (.tuple #[.nilIface, .bool false]) w := run_typeAssert_lacksB Try.underlying118 (by kernel_rfl) (by kernel_rfl) v xT w
theorem as_list_whole (v : Value) (xT : TypeId) (w : World) : (Instr.typeAssert (.iface 84 v) xT 121 true).run Try.prog w = .ok (.tuple #[.nilIface, .bool false]) w := run_typeAssert_lacksB Try.underlying121 (by kernel_rfl) (by kernel_rfl) v xT w
theorem as_pair_sized (v : Value) (xT : TypeId) (w : World) : (Instr.typeAssert (.iface 86 v) xT 94 true).run Try.prog w = .ok (.tuple #[.iface 86 v, .bool true]) w := run_typeAssert_hasB Try.underlying94 (by kernel_rfl) v xT w
theorem as_pair_labelled (v : Value) (xT : TypeId) (w : World) : (Instr.typeAssert (.iface 86 v) xT 97 true).run Try.prog w = .ok (.tuple #[.nilIface, .bool false]) w := run_typeAssert_lacksB Try.underlying97 (by kernel_rfl) (by kernel_rfl) v xT w
theorem as_pair_failing (v : Value) (xT : TypeId) (w : World) : (Instr.typeAssert (.iface 86 v) xT 100 true).run Try.prog w = .ok (.tuple #[.nilIface, .bool false]) w := run_typeAssert_lacksB Try.underlying100 (by kernel_rfl) (by kernel_rfl) v xT w
theorem as_pair_opening (v : Value) (xT : TypeId) (w : World) : (Instr.typeAssert (.iface 86 v) xT 103 true).run Try.prog w = .ok (.tuple #[.nilIface, .bool false]) w := run_typeAssert_lacksB Try.underlying103 (by kernel_rfl) (by kernel_rfl) v xT w
theorem as_pair_ordered (v : Value) (xT : TypeId) (w : World) : (Instr.typeAssert (.iface 86 v) xT 106 true).run Try.prog w = .ok (.tuple #[.nilIface, .bool false]) w := run_typeAssert_lacksB Try.underlying106 (by kernel_rfl) (by kernel_rfl) v xT w
theorem as_pair_adding (v : Value) (xT : TypeId) (w : World) : (Instr.typeAssert (.iface 86 v) xT 109 true).run Try.prog w = .ok (.tuple #[.nilIface, .bool false]) w := run_typeAssert_lacksB Try.underlying109 (by kernel_rfl) (by kernel_rfl) v xT w
theorem as_pair_named (v : Value) (xT : TypeId) (w : World) : (Instr.typeAssert (.iface 86 v) xT 112 true).run Try.prog w = .ok (.tuple #[.nilIface, .bool false]) w := run_typeAssert_lacksB Try.underlying112 (by kernel_rfl) (by kernel_rfl) v xT w
theorem as_pair_measured (v : Value) (xT : TypeId) (w : World) : (Instr.typeAssert (.iface 86 v) xT 115 true).run Try.prog w = .ok (.tuple #[.nilIface, .bool false]) w := run_typeAssert_lacksB Try.underlying115 (by kernel_rfl) (by kernel_rfl) v xT w
theorem as_pair_numeric (v : Value) (xT : TypeId) (w : World) : (Instr.typeAssert (.iface 86 v) xT 118 true).run Try.prog w = .ok (.tuple #[.nilIface, .bool false]) w := run_typeAssert_lacksB Try.underlying118 (by kernel_rfl) (by kernel_rfl) v xT w
theorem as_pair_whole (v : Value) (xT : TypeId) (w : World) : (Instr.typeAssert (.iface 86 v) xT 121 true).run Try.prog w = .ok (.tuple #[.nilIface, .bool false]) w := run_typeAssert_lacksB Try.underlying121 (by kernel_rfl) (by kernel_rfl) v xT w
theorem as_failure_sized (v : Value) (xT : TypeId) (w : World) : (Instr.typeAssert (.iface 88 v) xT 94 true).run Try.prog w = .ok (.tuple #[.nilIface, .bool false]) w := run_typeAssert_lacksB Try.underlying94 (by kernel_rfl) (by kernel_rfl) v xT w
theorem as_failure_labelled (v : Value) (xT : TypeId) (w : World) : (Instr.typeAssert (.iface 88 v) xT 97 true).run Try.prog w = .ok (.tuple #[.iface 88 v, .bool true]) w := run_typeAssert_hasB Try.underlying97 (by kernel_rfl) v xT w
theorem as_failure_failing (v : Value) (xT : TypeId) (w : World) : (Instr.typeAssert (.iface 88 v) xT 100 true).run Try.prog w = .ok (.tuple #[.iface 88 v, .bool true]) w := run_typeAssert_hasB Try.underlying100 (by kernel_rfl) v xT w
theorem as_failure_opening (v : Value) (xT : TypeId) (w : World) : (Instr.typeAssert (.iface 88 v) xT 103 true).run Try.prog w = .ok (.tuple #[.nilIface, .bool false]) w := run_typeAssert_lacksB Try.underlying103 (by kernel_rfl) (by kernel_rfl) v xT w
theorem as_failure_ordered (v : Value) (xT : TypeId) (w : World) : (Instr.typeAssert (.iface 88 v) xT 106 true).run Try.prog w = .ok (.tuple #[.nilIface, .bool false]) w := run_typeAssert_lacksB Try.underlying106 (by kernel_rfl) (by kernel_rfl) v xT w
theorem as_failure_adding (v : Value) (xT : TypeId) (w : World) : (Instr.typeAssert (.iface 88 v) xT 109 true).run Try.prog w = .ok (.tuple #[.nilIface, .bool false]) w := run_typeAssert_lacksB Try.underlying109 (by kernel_rfl) (by kernel_rfl) v xT w
theorem as_failure_named (v : Value) (xT : TypeId) (w : World) : (Instr.typeAssert (.iface 88 v) xT 112 true).run Try.prog w = .ok (.tuple #[.nilIface, .bool false]) w := run_typeAssert_lacksB Try.underlying112 (by kernel_rfl) (by kernel_rfl) v xT w
theorem as_failure_measured (v : Value) (xT : TypeId) (w : World) : (Instr.typeAssert (.iface 88 v) xT 115 true).run Try.prog w = .ok (.tuple #[.nilIface, .bool false]) w := run_typeAssert_lacksB Try.underlying115 (by kernel_rfl) (by kernel_rfl) v xT w
theorem as_failure_numeric (v : Value) (xT : TypeId) (w : World) : (Instr.typeAssert (.iface 88 v) xT 118 true).run Try.prog w = .ok (.tuple #[.nilIface, .bool false]) w := run_typeAssert_lacksB Try.underlying118 (by kernel_rfl) (by kernel_rfl) v xT w
theorem as_failure_whole (v : Value) (xT : TypeId) (w : World) : (Instr.typeAssert (.iface 88 v) xT 121 true).run Try.prog w = .ok (.tuple #[.nilIface, .bool false]) w := run_typeAssert_lacksB Try.underlying121 (by kernel_rfl) (by kernel_rfl) v xT w
theorem as_pbox_sized (v : Value) (xT : TypeId) (w : World) : (Instr.typeAssert (.iface 72 v) xT 94 true).run Try.prog w = .ok (.tuple #[.iface 72 v, .bool true]) w := run_typeAssert_hasB Try.underlying94 (by kernel_rfl) v xT w
theorem as_pbox_labelled (v : Value) (xT : TypeId) (w : World) : (Instr.typeAssert (.iface 72 v) xT 97 true).run Try.prog w = .ok (.tuple #[.nilIface, .bool false]) w := run_typeAssert_lacksB Try.underlying97 (by kernel_rfl) (by kernel_rfl) v xT w
theorem as_pbox_failing (v : Value) (xT : TypeId) (w : World) : (Instr.typeAssert (.iface 72 v) xT 100 true).run Try.prog w = .ok (.tuple #[.iface 72 v, .bool true]) w := run_typeAssert_hasB Try.underlying100 (by kernel_rfl) v xT w
theorem as_pbox_opening (v : Value) (xT : TypeId) (w : World) : (Instr.typeAssert (.iface 72 v) xT 103 true).run Try.prog w = .ok (.tuple #[.iface 72 v, .bool true]) w := run_typeAssert_hasB Try.underlying103 (by kernel_rfl) v xT w
theorem as_pbox_ordered (v : Value) (xT : TypeId) (w : World) : (Instr.typeAssert (.iface 72 v) xT 106 true).run Try.prog w = .ok (.tuple #[.nilIface, .bool false]) w := run_typeAssert_lacksB Try.underlying106 (by kernel_rfl) (by kernel_rfl) v xT w
theorem as_pbox_adding (v : Value) (xT : TypeId) (w : World) : (Instr.typeAssert (.iface 72 v) xT 109 true).run Try.prog w = .ok (.tuple #[.nilIface, .bool false]) w := run_typeAssert_lacksB Try.underlying109 (by kernel_rfl) (by kernel_rfl) v xT w
theorem as_pbox_named (v : Value) (xT : TypeId) (w : World) : (Instr.typeAssert (.iface 72 v) xT 112 true).run Try.prog w = .ok (.tuple #[.nilIface, .bool false]) w := run_typeAssert_lacksB Try.underlying112 (by kernel_rfl) (by kernel_rfl) v xT w
theorem as_pbox_measured (v : Value) (xT : TypeId) (w : World) : (Instr.typeAssert (.iface 72 v) xT 115 true).run Try.prog w = .ok (.tuple #[.nilIface, .bool false]) w := run_typeAssert_lacksB Try.underlying115 (by kernel_rfl) (by kernel_rfl) v xT w
theorem as_pbox_numeric (v : Value) (xT : TypeId) (w : World) : (Instr.typeAssert (.iface 72 v) xT 118 true).run Try.prog w = .ok (.tuple #[.nilIface, .bool false]) w := run_typeAssert_lacksB Try.underlying118 (by kernel_rfl) (by kernel_rfl) v xT w
theorem as_pbox_whole (v : Value) (xT : TypeId) (w : World) : (Instr.typeAssert (.iface 72 v) xT 121 true).run Try.prog w = .ok (.tuple #[.nilIface, .bool false]) w := run_typeAssert_lacksB Try.underlying121 (by kernel_rfl) (by kernel_rfl) v xT w
theorem as_unit_sized (v : Value) (xT : TypeId) (w : World) : (Instr.typeAssert (.iface 92 v) xT 94 true).run Try.prog w = .ok (.tuple #[.nilIface, .bool false]) w := run_typeAssert_lacksB Try.underlying94 (by kernel_rfl) (by kernel_rfl) v xT w
theorem as_unit_labelled (v : Value) (xT : TypeId) (w : World) : (Instr.typeAssert (.iface 92 v) xT 97 true).run Try.prog w = .ok (.tuple #[.nilIface, .bool false]) w := run_typeAssert_lacksB Try.underlying97 (by kernel_rfl) (by kernel_rfl) v xT w
theorem as_unit_failing (v : Value) (xT : TypeId) (w : World) : (Instr.typeAssert (.iface 92 v) xT 100 true).run Try.prog w = .ok (.tuple #[.nilIface, .bool false]) w := run_typeAssert_lacksB Try.underlying100 (by kernel_rfl) (by kernel_rfl) v xT w
theorem as_unit_opening (v : Value) (xT : TypeId) (w : World) : (Instr.typeAssert (.iface 92 v) xT 103 true).run Try.prog w = .ok (.tuple #[.nilIface, .bool false]) w := run_typeAssert_lacksB Try.underlying103 (by kernel_rfl) (by kernel_rfl) v xT w
theorem as_unit_ordered (v : Value) (xT : TypeId) (w : World) : (Instr.typeAssert (.iface 92 v) xT 106 true).run Try.prog w = .ok (.tuple #[.nilIface, .bool false]) w := run_typeAssert_lacksB Try.underlying106 (by kernel_rfl) (by kernel_rfl) v xT w
theorem as_unit_adding (v : Value) (xT : TypeId) (w : World) : (Instr.typeAssert (.iface 92 v) xT 109 true).run Try.prog w = .ok (.tuple #[.nilIface, .bool false]) w := run_typeAssert_lacksB Try.underlying109 (by kernel_rfl) (by kernel_rfl) v xT w
theorem as_unit_named (v : Value) (xT : TypeId) (w : World) : (Instr.typeAssert (.iface 92 v) xT 112 true).run Try.prog w = .ok (.tuple #[.nilIface, .bool false]) w := run_typeAssert_lacksB Try.underlying112 (by kernel_rfl) (by kernel_rfl) v xT w
theorem as_unit_measured (v : Value) (xT : TypeId) (w : World) : (Instr.typeAssert (.iface 92 v) xT 115 true).run Try.prog w = .ok (.tuple #[.nilIface, .bool false]) w := run_typeAssert_lacksB Try.underlying115 (by kernel_rfl) (by kernel_rfl) v xT w
theorem as_unit_numeric (v : Value) (xT : TypeId) (w : World) : (Instr.typeAssert (.iface 92 v) xT 118 true).run Try.prog w = .ok (.tuple #[.nilIface, .bool false]) w := run_typeAssert_lacksB Try.underlying118 (by kernel_rfl) (by kernel_rfl) v xT w
theorem as_unit_whole (v : Value) (xT : TypeId) (w : World) : (Instr.typeAssert (.iface 92 v) xT 121 true).run Try.prog w = .ok (.tuple #[.nilIface, .bool false]) w := run_typeAssert_lacksB Try.underlying121 (by kernel_rfl) (by kernel_rfl) v xT w
theorem as_nil_sized (xT : TypeId) (w : World) : (Instr.typeAssert .nilIface xT 94 true).run Try.prog w = .ok (.tuple #[.nilIface, .bool false]) w := by
  obtain ⟨j, hj, hz⟩ := Option.map_eq_some_iff.1 (show (Try.prog.info? 94).map (·.zero) = some (some .nilIface) by kernel_rfl)
  simp [Instr.typeAssert, run_underlying Try.underlying94, zeroValue, typeInfo, hj, hz]
theorem as_nil_labelled (xT : TypeId) (w : World) : (Instr.typeAssert .nilIface xT 97 true).run Try.prog w = .ok (.tuple #[.nilIface, .bool false]) w := by
  obtain ⟨j, hj, hz⟩ := Option.map_eq_some_iff.1 (show (Try.prog.info? 97).map (·.zero) = some (some .nilIface) by kernel_rfl)
  simp [Instr.typeAssert, run_underlying Try.underlying97, zeroValue, typeInfo, hj, hz]
theorem as_nil_failing (xT : TypeId) (w : World) : (Instr.typeAssert .nilIface xT 100 true).run Try.prog w = .ok (.tuple #[.nilIface, .bool false]) w := by
  obtain ⟨j, hj, hz⟩ := Option.map_eq_some_iff.1 (show (Try.prog.info? 100).map (·.zero) = some (some .nilIface) by kernel_rfl)
  simp [Instr.typeAssert, run_underlying Try.underlying100, zeroValue, typeInfo, hj, hz]
theorem as_nil_opening (xT : TypeId) (w : World) : (Instr.typeAssert .nilIface xT 103 true).run Try.prog w = .ok (.tuple #[.nilIface, .bool false]) w := by
  obtain ⟨j, hj, hz⟩ := Option.map_eq_some_iff.1 (show (Try.prog.info? 103).map (·.zero) = some (some .nilIface) by kernel_rfl)
  simp [Instr.typeAssert, run_underlying Try.underlying103, zeroValue, typeInfo, hj, hz]
theorem as_nil_ordered (xT : TypeId) (w : World) : (Instr.typeAssert .nilIface xT 106 true).run Try.prog w = .ok (.tuple #[.nilIface, .bool false]) w := by
  obtain ⟨j, hj, hz⟩ := Option.map_eq_some_iff.1 (show (Try.prog.info? 106).map (·.zero) = some (some .nilIface) by kernel_rfl)
  simp [Instr.typeAssert, run_underlying Try.underlying106, zeroValue, typeInfo, hj, hz]
theorem as_nil_adding (xT : TypeId) (w : World) : (Instr.typeAssert .nilIface xT 109 true).run Try.prog w = .ok (.tuple #[.nilIface, .bool false]) w := by
  obtain ⟨j, hj, hz⟩ := Option.map_eq_some_iff.1 (show (Try.prog.info? 109).map (·.zero) = some (some .nilIface) by kernel_rfl)
  simp [Instr.typeAssert, run_underlying Try.underlying109, zeroValue, typeInfo, hj, hz]
theorem as_nil_named (xT : TypeId) (w : World) : (Instr.typeAssert .nilIface xT 112 true).run Try.prog w = .ok (.tuple #[.nilIface, .bool false]) w := by
  obtain ⟨j, hj, hz⟩ := Option.map_eq_some_iff.1 (show (Try.prog.info? 112).map (·.zero) = some (some .nilIface) by kernel_rfl)
  simp [Instr.typeAssert, run_underlying Try.underlying112, zeroValue, typeInfo, hj, hz]
theorem as_nil_measured (xT : TypeId) (w : World) : (Instr.typeAssert .nilIface xT 115 true).run Try.prog w = .ok (.tuple #[.nilIface, .bool false]) w := by
  obtain ⟨j, hj, hz⟩ := Option.map_eq_some_iff.1 (show (Try.prog.info? 115).map (·.zero) = some (some .nilIface) by kernel_rfl)
  simp [Instr.typeAssert, run_underlying Try.underlying115, zeroValue, typeInfo, hj, hz]
theorem as_nil_numeric (xT : TypeId) (w : World) : (Instr.typeAssert .nilIface xT 118 true).run Try.prog w = .ok (.tuple #[.nilIface, .bool false]) w := by
  obtain ⟨j, hj, hz⟩ := Option.map_eq_some_iff.1 (show (Try.prog.info? 118).map (·.zero) = some (some .nilIface) by kernel_rfl)
  simp [Instr.typeAssert, run_underlying Try.underlying118, zeroValue, typeInfo, hj, hz]
theorem as_nil_whole (xT : TypeId) (w : World) : (Instr.typeAssert .nilIface xT 121 true).run Try.prog w = .ok (.tuple #[.nilIface, .bool false]) w := by
  obtain ⟨j, hj, hz⟩ := Option.map_eq_some_iff.1 (show (Try.prog.info? 121).map (·.zero) = some (some .nilIface) by kernel_rfl)
  simp [Instr.typeAssert, run_underlying Try.underlying121, zeroValue, typeInfo, hj, hz]

/-- The methods of an interface. -/
def methL (f : Int) : List Int :=
  if f = 0 then [0] else if f = 1 then [1] else if f = 2 then [2] else if f = 3 then [3] else if f = 4 then [4] else if f = 5 then [5] else if f = 6 then [0, 1] else if f = 7 then [0, 4] else if f = 8 then [4, 5] else if f = 9 then [0, 1, 4] else []
/-- Has a kind a method? -/
def hasM (k m : Int) : Bool :=
  if m = 0 then decide (k = 4 ∨ k = 5 ∨ k = 7 ∨ k = 8 ∨ k = 9 ∨ k = 11 ∨ k = 12) else if m = 1 then decide (k = 5 ∨ k = 2 ∨ k = 10) else if m = 2 then decide (k = 10 ∨ k = 11 ∨ k = 12)
  else if m = 3 then decide (k = 11 ∨ k = 12) else if m = 4 then decide (k = 1 ∨ k = 2 ∨ k = 3 ∨ k = 4 ∨ k = 5) else if m = 5 then decide (k = 1 ∨ k = 3) else false
def faceT (k f : Int) : Bool := !(methL f).isEmpty && (methL f).all (hasM k)

set_option maxRecDepth 100000 in
set_option maxHeartbeats 4000000 in
theorem face_1 (_g : Nat) (f : Int) (w : World) : Calls Try.prog 52 #[.iface 74 (.int .i64 0), .int .i64 f] w fun e w' => e = .returned (.bool (faceT 1 f)) ∧ w = w' := by
  have h0 := as_number_sized
  have h1 := as_number_labelled
  have h2 := as_number_failing
  have h3 := as_number_opening
  have h4 := as_number_ordered
  have h5 := as_number_adding
  have h6 := as_number_named
  have h7 := as_number_measured
  have h8 := as_number_numeric
  have h9 := as_number_whole
  go_enter Try.func52, Try.ntmps52
  go_wp2_with fail
  all_goals
    go_ret
    refine ⟨congrArg Ending.returned (congrArg Value.bool ?_), rfl⟩
    clear h0 h1 h2 h3 h4 h5 h6 h7 h8 h9
    simp_all [faceT, methL, hasM]

set_option maxRecDepth 100000 in
set_option maxHeartbeats 4000000 in
theorem face_2 (_g : Nat) (f : Int) (w : World) : Calls Try.prog 52 #[.iface 75 (.int .i64 0), .int .i64 f] w fun e w' => e = .returned (.bool (faceT 2 f)) ∧ w = w' := by
  have h0 := as_key_sized
  have h1 := as_key_labelled
  have h2 := as_key_failing
  have h3 := as_key_opening
  have h4 := as_key_ordered
  have h5 := as_key_adding
  have h6 := as_key_named
  have h7 := as_key_measured
  have h8 := as_key_numeric
  have h9 := as_key_whole
  go_enter Try.func52, Try.ntmps52
  go_wp2_with fail
  all_goals
    go_ret
    refine ⟨congrArg Ending.returned (congrArg Value.bool ?_), rfl⟩
    clear h0 h1 h2 h3 h4 h5 h6 h7 h8 h9
    simp_all [faceT, methL, hasM]

set_option maxRecDepth 100000 in
set_option maxHeartbeats 4000000 in
theorem face_3 (_g : Nat) (f : Int) (w : World) : Calls Try.prog 52 #[.iface 77 (.float .f64 0), .int .i64 f] w fun e w' => e = .returned (.bool (faceT 3 f)) ∧ w = w' := by
  have h0 := as_decimal_sized
  have h1 := as_decimal_labelled
  have h2 := as_decimal_failing
  have h3 := as_decimal_opening
  have h4 := as_decimal_ordered
  have h5 := as_decimal_adding
  have h6 := as_decimal_named
  have h7 := as_decimal_measured
  have h8 := as_decimal_numeric
  have h9 := as_decimal_whole
  go_enter Try.func52, Try.ntmps52
  go_wp2_with fail
  all_goals
    go_ret
    refine ⟨congrArg Ending.returned (congrArg Value.bool ?_), rfl⟩
    clear h0 h1 h2 h3 h4 h5 h6 h7 h8 h9
    simp_all [faceT, methL, hasM]

set_option maxRecDepth 100000 in
set_option maxHeartbeats 4000000 in
theorem face_4 (_g : Nat) (f : Int) (w : World) : Calls Try.prog 52 #[.iface 78 (.string ByteArray.empty), .int .i64 f] w fun e w' => e = .returned (.bool (faceT 4 f)) ∧ w = w' := by
  have h0 := as_text_sized
  have h1 := as_text_labelled
  have h2 := as_text_failing
  have h3 := as_text_opening
  have h4 := as_text_ordered
  have h5 := as_text_adding
  have h6 := as_text_named
  have h7 := as_text_measured
  have h8 := as_text_numeric
  have h9 := as_text_whole
  go_enter Try.func52, Try.ntmps52
  go_wp2_with fail
  all_goals
    go_ret
    refine ⟨congrArg Ending.returned (congrArg Value.bool ?_), rfl⟩
    clear h0 h1 h2 h3 h4 h5 h6 h7 h8 h9
    simp_all [faceT, methL, hasM]

set_option maxRecDepth 100000 in
set_option maxHeartbeats 4000000 in
theorem face_5 (_g : Nat) (f : Int) (w : World) : Calls Try.prog 52 #[.iface 79 (.string ByteArray.empty), .int .i64 f] w fun e w' => e = .returned (.bool (faceT 5 f)) ∧ w = w' := by
  have h0 := as_name_sized
  have h1 := as_name_labelled
  have h2 := as_name_failing
  have h3 := as_name_opening
  have h4 := as_name_ordered
  have h5 := as_name_adding
  have h6 := as_name_named
  have h7 := as_name_measured
  have h8 := as_name_numeric
  have h9 := as_name_whole
  go_enter Try.func52, Try.ntmps52
  go_wp2_with fail
  all_goals
    go_ret
    refine ⟨congrArg Ending.returned (congrArg Value.bool ?_), rfl⟩
    clear h0 h1 h2 h3 h4 h5 h6 h7 h8 h9
    simp_all [faceT, methL, hasM]

set_option maxRecDepth 100000 in
set_option maxHeartbeats 4000000 in
theorem face_6 (_g : Nat) (f : Int) (w : World) : Calls Try.prog 52 #[.iface 80 (.bool false), .int .i64 f] w fun e w' => e = .returned (.bool (faceT 6 f)) ∧ w = w' := by
  have h0 := as_truth_sized
  have h1 := as_truth_labelled
  have h2 := as_truth_failing
  have h3 := as_truth_opening
  have h4 := as_truth_ordered
  have h5 := as_truth_adding
  have h6 := as_truth_named
  have h7 := as_truth_measured
  have h8 := as_truth_numeric
  have h9 := as_truth_whole
  go_enter Try.func52, Try.ntmps52
  go_wp2_with fail
  all_goals
    go_ret
    refine ⟨congrArg Ending.returned (congrArg Value.bool ?_), rfl⟩
    clear h0 h1 h2 h3 h4 h5 h6 h7 h8 h9
    simp_all [faceT, methL, hasM]

set_option maxRecDepth 100000 in
set_option maxHeartbeats 4000000 in
theorem face_7 (_g : Nat) (f : Int) (w : World) : Calls Try.prog 52 #[.iface 82 (.slice none 0 0), .int .i64 f] w fun e w' => e = .returned (.bool (faceT 7 f)) ∧ w = w' := by
  have h0 := as_octets_sized
  have h1 := as_octets_labelled
  have h2 := as_octets_failing
  have h3 := as_octets_opening
  have h4 := as_octets_ordered
  have h5 := as_octets_adding
  have h6 := as_octets_named
  have h7 := as_octets_measured
  have h8 := as_octets_numeric
  have h9 := as_octets_whole
  go_enter Try.func52, Try.ntmps52
  go_wp2_with fail
  all_goals
    go_ret
    refine ⟨congrArg Ending.returned (congrArg Value.bool ?_), rfl⟩
    clear h0 h1 h2 h3 h4 h5 h6 h7 h8 h9
    simp_all [faceT, methL, hasM]

set_option maxRecDepth 100000 in
set_option maxHeartbeats 4000000 in
theorem face_8 (_g : Nat) (f : Int) (w : World) : Calls Try.prog 52 #[.iface 84 (.slice none 0 0), .int .i64 f] w fun e w' => e = .returned (.bool (faceT 8 f)) ∧ w = w' := by
  have h0 := as_list_sized
  have h1 := as_list_labelled
  have h2 := as_list_failing
  have h3 := as_list_opening
  have h4 := as_list_ordered
  have h5 := as_list_adding
  have h6 := as_list_named
  have h7 := as_list_measured
  have h8 := as_list_numeric
  have h9 := as_list_whole
  go_enter Try.func52, Try.ntmps52
  go_wp2_with fail
  all_goals
    go_ret
    refine ⟨congrArg Ending.returned (congrArg Value.bool ?_), rfl⟩
    clear h0 h1 h2 h3 h4 h5 h6 h7 h8 h9
    simp_all [faceT, methL, hasM]

set_option maxRecDepth 100000 in
set_option maxHeartbeats 4000000 in
theorem face_9 (_g : Nat) (f : Int) (w : World) : Calls Try.prog 52 #[.iface 86 (.agg #[.nilIface, .nilIface]), .int .i64 f] w fun e w' => e = .returned (.bool (faceT 9 f)) ∧ w = w' := by
  have h0 := as_pair_sized
  have h1 := as_pair_labelled
  have h2 := as_pair_failing
  have h3 := as_pair_opening
  have h4 := as_pair_ordered
  have h5 := as_pair_adding
  have h6 := as_pair_named
  have h7 := as_pair_measured
  have h8 := as_pair_numeric
  have h9 := as_pair_whole
  go_enter Try.func52, Try.ntmps52
  go_wp2_with fail
  all_goals
    go_ret
    refine ⟨congrArg Ending.returned (congrArg Value.bool ?_), rfl⟩
    clear h0 h1 h2 h3 h4 h5 h6 h7 h8 h9
    simp_all [faceT, methL, hasM]

set_option maxRecDepth 100000 in
set_option maxHeartbeats 4000000 in
theorem face_10 (_g : Nat) (f : Int) (w : World) : Calls Try.prog 52 #[.iface 88 (.agg #[.int .i64 0]), .int .i64 f] w fun e w' => e = .returned (.bool (faceT 10 f)) ∧ w = w' := by
  have h0 := as_failure_sized
  have h1 := as_failure_labelled
  have h2 := as_failure_failing
  have h3 := as_failure_opening
  have h4 := as_failure_ordered
  have h5 := as_failure_adding
  have h6 := as_failure_named
  have h7 := as_failure_measured
  have h8 := as_failure_numeric
  have h9 := as_failure_whole
  go_enter Try.func52, Try.ntmps52
  go_wp2_with fail
  all_goals
    go_ret
    refine ⟨congrArg Ending.returned (congrArg Value.bool ?_), rfl⟩
    clear h0 h1 h2 h3 h4 h5 h6 h7 h8 h9
    simp_all [faceT, methL, hasM]

set_option maxRecDepth 100000 in
set_option maxHeartbeats 4000000 in
theorem face_11 (g : Nat) (f : Int) (w : World) : Calls Try.prog 52 #[.iface 72 (.pointer (some ⟨g, 0, none⟩)), .int .i64 f] w fun e w' => e = .returned (.bool (faceT 11 f)) ∧ w = w' := by
  have h0 := as_pbox_sized
  have h1 := as_pbox_labelled
  have h2 := as_pbox_failing
  have h3 := as_pbox_opening
  have h4 := as_pbox_ordered
  have h5 := as_pbox_adding
  have h6 := as_pbox_named
  have h7 := as_pbox_measured
  have h8 := as_pbox_numeric
  have h9 := as_pbox_whole
  go_enter Try.func52, Try.ntmps52
  go_wp2_with fail
  all_goals
    go_ret
    refine ⟨congrArg Ending.returned (congrArg Value.bool ?_), rfl⟩
    clear h0 h1 h2 h3 h4 h5 h6 h7 h8 h9
    simp_all [faceT, methL, hasM]

set_option maxRecDepth 100000 in
set_option maxHeartbeats 4000000 in
theorem face_12 (_g : Nat) (f : Int) (w : World) : Calls Try.prog 52 #[.iface 72 (.pointer none), .int .i64 f] w fun e w' => e = .returned (.bool (faceT 12 f)) ∧ w = w' := by
  have h0 := as_pbox_sized
  have h1 := as_pbox_labelled
  have h2 := as_pbox_failing
  have h3 := as_pbox_opening
  have h4 := as_pbox_ordered
  have h5 := as_pbox_adding
  have h6 := as_pbox_named
  have h7 := as_pbox_measured
  have h8 := as_pbox_numeric
  have h9 := as_pbox_whole
  go_enter Try.func52, Try.ntmps52
  go_wp2_with fail
  all_goals
    go_ret
    refine ⟨congrArg Ending.returned (congrArg Value.bool ?_), rfl⟩
    clear h0 h1 h2 h3 h4 h5 h6 h7 h8 h9
    simp_all [faceT, methL, hasM]

set_option maxRecDepth 100000 in
set_option maxHeartbeats 4000000 in
theorem face_13 (_g : Nat) (f : Int) (w : World) : Calls Try.prog 52 #[.iface 92 (.agg #[]), .int .i64 f] w fun e w' => e = .returned (.bool (faceT 13 f)) ∧ w = w' := by
  have h0 := as_unit_sized
  have h1 := as_unit_labelled
  have h2 := as_unit_failing
  have h3 := as_unit_opening
  have h4 := as_unit_ordered
  have h5 := as_unit_adding
  have h6 := as_unit_named
  have h7 := as_unit_measured
  have h8 := as_unit_numeric
  have h9 := as_unit_whole
  go_enter Try.func52, Try.ntmps52
  go_wp2_with fail
  all_goals
    go_ret
    refine ⟨congrArg Ending.returned (congrArg Value.bool ?_), rfl⟩
    clear h0 h1 h2 h3 h4 h5 h6 h7 h8 h9
    simp_all [faceT, methL, hasM]

set_option maxRecDepth 100000 in
set_option maxHeartbeats 4000000 in
theorem face_nil (_g : Nat) (f : Int) (w : World) : Calls Try.prog 52 #[.nilIface, .int .i64 f] w fun e w' => e = .returned (.bool (faceT 0 f)) ∧ w = w' := by
  have h0 := as_nil_sized
  have h1 := as_nil_labelled
  have h2 := as_nil_failing
  have h3 := as_nil_opening
  have h4 := as_nil_ordered
  have h5 := as_nil_adding
  have h6 := as_nil_named
  have h7 := as_nil_measured
  have h8 := as_nil_numeric
  have h9 := as_nil_whole
  go_enter Try.func52, Try.ntmps52
  go_wp2_with fail
  all_goals
    go_ret
    refine ⟨congrArg Ending.returned (congrArg Value.bool ?_), rfl⟩
    clear h0 h1 h2 h3 h4 h5 h6 h7 h8 h9
    simp_all [faceT, methL, hasM]

theorem face_any (k : Int) (g : Nat) (f : Int) (w : World) : Calls Try.prog 52 #[sampleV g k, .int .i64 f] w fun e w' => e = .returned (.bool (faceT k f)) ∧ w = w' := by
  unfold sampleV
  by_cases h1 : k = 1
  · subst h1; exact face_1 g f w
  by_cases h2 : k = 2
  · subst h2; simpa using face_2 g f w
  by_cases h3 : k = 3
  · subst h3; simpa using face_3 g f w
  by_cases h4 : k = 4
  · subst h4; simpa using face_4 g f w
  by_cases h5 : k = 5
  · subst h5; simpa using face_5 g f w
  by_cases h6 : k = 6
  · subst h6; simpa using face_6 g f w
  by_cases h7 : k = 7
  · subst h7; simpa using face_7 g f w
  by_cases h8 : k = 8
  · subst h8; simpa using face_8 g f w
  by_cases h9 : k = 9
  · subst h9; simpa using face_9 g f w
  by_cases h10 : k = 10
  · subst h10; simpa using face_10 g f w
  by_cases h11 : k = 11
  · subst h11; simpa using face_11 g f w
  by_cases h12 : k = 12
  · subst h12; simpa using face_12 g f w
  by_cases h13 : k = 13
  · subst h13; simpa using face_13 g f w
  have e : faceT k f = faceT 0 f := by
    unfold faceT
    congr 1
    congr 1
    funext m
    have z1 : hasM k m = false := by
      unfold hasM
      repeat' split
      all_goals first | rfl | (rw [decide_eq_false_iff_not]; omega)
    have z2 : hasM 0 m = false := by
      unfold hasM
      repeat' split
      all_goals first | rfl | (rw [decide_eq_false_iff_not]; omega)
    rw [z1, z2]
  simp only [h1, h2, h3, h4, h5, h6, h7, h8, h9, h10, h11, h12, h13, if_false]
  rw [e]
  exact face_nil g f w
end Go.Proofs.Ytpemgccocmdmbaa
