/- The contract of limit.Take. -/
import Derived.Test.YtcinjfafjekdlaaA
namespace Go.Proofs.Ytcinjfafjekdlaa
open Go.RowKit
set_option maxHeartbeats 1000000 in
theorem take_any (a b lv ls now : Int) (w : World) (ha : 1 ≤ a) (ha' : a ≤ 1000000) (hb : 1 ≤ b) (hb' : b ≤ 1000000) (hl : 0 ≤ lv) (hl' : lv ≤ a * b)
    (hs : 0 ≤ ls) (hs' : ls ≤ 1099511627776) (hn : 0 ≤ now) (hn' : now ≤ 1099511627776) :
    Calls Try.prog 11 #[.agg #[.int .i64 lv, .int .i64 ls], .int .i64 a, .int .i64 b, .int .i64 now] w fun e w' =>
      e = .returned (.tuple #[.agg #[.int .i64 (tkLv a b lv ls now), .int .i64 (max ls now)], .bool (tk a b lv ls now)]) ∧ Below w.heap.size w w' := by
  have hab := ab_bd a b ha ha' hb hb'
  have hL := lvAt_bd a b lv ls now ha hb hl hl'
  have hC := fun w => at_any a b lv ls now w ha ha' hb hb' hl hl' hs hs' hn hn'
  unfold tk tkLv
  generalize lvAt a b lv ls now = L at *
  have HC := Lib.hid hC
  clear hC
  by_cases h : L < b
  · have e1 : (if b ≤ L then L - b else L) = L := if_neg (by omega)
    have e2 : decide (b ≤ L) = false := by simp; omega
    rw [e1, e2]
    clear e1 e2
    go_enter Try.func11, Try.ntmps11
    go_wp2_with (go_at_call 17; refine (HC.out _).mono ?_; rintro e w1 ⟨rfl, hb1⟩; obtain ⟨hc, hf⟩ := bcell hb1; simp only [World.size_alloc] at hc hf; have hz : w.heap.size + 1 < w1.heap.size := (by have := hb1.size; simp at this; omega); have hbw := below_via (B := w.heap.size) (w := w) (by go_grown) hb1 (by simp; omega))
    exact bodyPost_ret (v := .tuple #[.agg #[.int .i64 L, .int .i64 (max ls now)], .bool false]) (by simp [results, Try.results11, go_sem, hc, hf, hz]) rfl ⟨rfl, by go_grown⟩
  · have e1 : (if b ≤ L then L - b else L) = L - b := if_pos (by omega)
    have e2 : decide (b ≤ L) = true := by simp; omega
    rw [e1, e2]
    clear e1 e2
    go_enter Try.func11, Try.ntmps11
    go_wp2_with (go_at_call 17; refine (HC.out _).mono ?_; rintro e w1 ⟨rfl, hb1⟩; obtain ⟨hc, hf⟩ := bcell hb1; simp only [World.size_alloc] at hc hf; have hz : w.heap.size + 1 < w1.heap.size := (by have := hb1.size; simp at this; omega); have hbw := below_via (B := w.heap.size) (w := w) (by go_grown) hb1 (by simp; omega))
    exact bodyPost_ret (v := .tuple #[.agg #[.int .i64 (L - b), .int .i64 (max ls now)], .bool true]) (by simp [results, Try.results11, go_sem, hc, hf, hz]) rfl ⟨rfl, by go_grown⟩

end Go.Proofs.Ytcinjfafjekdlaa
