/- Shut: a result without a body, cloned. -/
import Derived.Test.YtmkbdjekidcfaaaShB
import Derived.Test.YtmkbdjekidcfaaaWt
import Derived.Test.YtmkbdjekidcfaaaApp
namespace Go.Proofs.Ytmkbdjekidcfaaa
open Go.RowKit
attribute [local go_sem ↓] Go.wp_at_zero Go.wp_at_succ
attribute [local go_sem] Go.undef

/-- The zero Datum. -/
abbrev zD : List Value := [.int .i64 0, .int .i64 0, .int .u64 0, .string ByteArray.empty, .slice none 0 0]
theorem resC {P : Program} {w : World} {fn : Func} {tmps : Array Value} {a g : Nat} {t : TypeId} {v : Value} (hr : fn.results = #[.cell a t]) (ha : tmps.getD a undef = .pointer (some ⟨g, 0, none⟩)) (hl : (loadVar t ⟨g, 0, none⟩).run P w = .ok v w) : (results fn tmps).run P w = .ok v w := by
  rw [Array.getD_eq_getD_getElem?] at ha
  simp [results, hr, ha, asAddr, hl]
theorem Blk.all {w : World} {g : Nat} {t : TypeId} {cs : List Value} (h : Blk w g t cs.toArray) : w.rangeAt g 0 cs := fun j v hv => by
  rw [Nat.zero_add]
  exact (h.cell j).trans (by simpa using hv)
theorem sizeD : (Try.prog.info? 39).map (·.size) = some 5 := by kernel_rfl
set_option maxHeartbeats 4000000 in
theorem clone_zero (w : World) : Calls Try.prog 23 #[.agg #[.int .i64 0, .int .i64 0, .int .u64 0, .string ByteArray.empty, .slice none 0 0]] w fun e w' => e = .returned (.agg #[.int .i64 0, .int .i64 0, .int .u64 0, .string ByteArray.empty, .slice none 0 0]) ∧ Below w.heap.size w w' := by
  go_enter Try.func23, Try.ntmps23
  simp only [Go.undef]
  go_upto_region 4 with fail
  go_loop [11] (fun iv => iv = .int .i64 0) (fun _ => 0)
  case atStart => rfl
  case round =>
    obtain rfl := hrel
    go_wp2_with fail
    have h2 := Blk.new' (w.alloc (.cells #[.int .i64 0, .int .i64 0, .int .u64 0, .string ByteArray.empty, .slice none 0 0] 39)) 39 #[.int .i64 0, .int .i64 0, .int .u64 0, .string ByteArray.empty, .slice none 0 0] (n := w.heap.size + 1) (by simp)
    have hb := h2.all
    clear h2
    refine bodyPost_ret (resC rfl rfl (run_loadVar_mid _ (w.heap.size + 1) 0 39 zD _ hb Try.underlying39 rfl sizeD)) rfl ⟨rfl, ?_⟩
    repeat (first | exact Below.refl _ _ | refine Below.setCell ?_ (by simp) _ | refine Below.alloc ?_ (by simp) _)
end Go.Proofs.Ytmkbdjekidcfaaa
