/- The contract of awake. -/
import Derived.Test.YtmkbdjekidcfaaaI
namespace Go.Proofs.Ytmkbdjekidcfaaa
open Go.RowKit

theorem awake_rows {w : World} {a b : Nat} {c1 c2 : Nat} (h0 : w.cell? ⟨a, 0, none⟩ = some (.int .i64 1)) (h1 : w.cell? ⟨b, 0, none⟩ = some (.slice (some ⟨a, 0, none⟩) 1 c1)) (h2 : w.cell? ⟨b, 1, none⟩ = some (.slice none 0 0)) :
    RowsAt w (.slice (some ⟨b, 0, none⟩) 2 c2) [[1], []] := by
  refine ⟨_, _, rfl, by decide, fun r hr => ?_⟩
  match r, hr with
  | 0, _ =>
    refine ⟨b, 0, _, rfl, h1, _, _, rfl, by decide, fun j hj => ?_⟩
    match j, hj with
    | 0, _ => exact ⟨a, 0, rfl, h0, by decide⟩
  | 1, _ => exact ⟨b, 0, _, rfl, h2, _, _, rfl, by decide, fun j hj => absurd hj (by simp [rowOf])⟩

theorem awake_order : ordOf [[1], []] = [1, 0] ∧ cycOf [[1], []] = [] := by decide

set_option maxHeartbeats 2000000 in
theorem awake_any (w : World) : Calls Try.prog 8 #[] w fun e w' => e = .returned (.bool true) ∧ Below w.heap.size w w' := by
  go_enter Try.func8, Try.ntmps8
  go_wp2_with fail
  have hr : RowsAt ((w.alloc (.cells #[.int .i64 1] 3)).alloc (.cells #[.slice (some ⟨w.heap.size, 0, none⟩) 1 1, .slice none 0 0] 25)) (.slice (some ⟨w.heap.size + 1, 0, none⟩) 2 2) [[1], []] := awake_rows (a := w.heap.size) (b := w.heap.size + 1) (c1 := 1) (c2 := 2) (by simp) (by simp) (by simp)
  refine (order_any _ _ _ hr (by decide)).mono ?_
  rintro e w1 ⟨vo, vc, rfl, ho, hc, hb1⟩
  rw [awake_order.1] at ho
  rw [awake_order.2] at hc
  obtain ⟨g, cap, rfl, x0, -⟩ := own_at ho (j := 0) (by decide)
  obtain ⟨g', cap', e', x1, -⟩ := own_at ho (j := 1) (by decide)
  obtain ⟨ac, cc, rfl⟩ := own_len hc
  simp only [Value.slice.injEq, Option.some.injEq, Addr.mk.injEq] at e'
  obtain ⟨⟨rfl, -, -⟩, -, -⟩ := e'
  have hg := (ho.lt g rfl).2
  have hs := hb1.size
  simp only [World.size_alloc] at hs
  have hB : Below w.heap.size w w1 := below_via (by go_grown) hb1 (by simp; omega)
  clear hr ho hc hb1
  simp at x0 x1
  go_wp2_with fail
  go_ret
  exact ⟨rfl, by go_grown⟩
end Go.Proofs.Ytmkbdjekidcfaaa
