/- Lists of lists in memory; contracts: small, ints, waits. -/
import Derived.Test.YtmkbdjekidcfaaaP
namespace Go.Proofs.Ytmkbdjekidcfaaa
open Go.RowKit

/-- A value that is a list of ints. -/
def RowAt (w : World) (v : Value) (l : List Int) : Prop :=
  ∃ a c, v = .slice a l.length c ∧ l.length ≤ 140737488351232 ∧ ∀ j, j < l.length → ∃ b o, a = some ⟨b, o, none⟩ ∧ w.cell? ⟨b, o + j, none⟩ = some (.int .i64 (l.getD j 0)) ∧ (Lit.int .i64 (l.getD j 0)).wf = true
/-- A value that is a list of such. -/
def RowsAt (w : World) (v : Value) (rows : List (List Int)) : Prop :=
  ∃ a c, v = .slice a rows.length c ∧ rows.length ≤ 140737488351232 ∧ ∀ r, r < rows.length → ∃ b o rv, a = some ⟨b, o, none⟩ ∧ w.cell? ⟨b, o + r, none⟩ = some rv ∧ RowAt w rv (rowOf rows r)

theorem RowAt.below {w w' : World} {v : Value} {l : List Int} (h : RowAt w v l) (hb : Below w.heap.size w w') : RowAt w' v l := by
  obtain ⟨a, c, rfl, hl, hx⟩ := h
  refine ⟨a, c, rfl, hl, fun j hj => ?_⟩
  obtain ⟨b, o, rfl, hc, hw⟩ := hx j hj
  exact ⟨b, o, rfl, cell_over hb (World.block_lt_of_cell? _ _ hc) hc, hw⟩
theorem RowsAt.below {w w' : World} {v : Value} {rows : List (List Int)} (h : RowsAt w v rows) (hb : Below w.heap.size w w') : RowsAt w' v rows := by
  obtain ⟨a, c, rfl, hl, hx⟩ := h
  refine ⟨a, c, rfl, hl, fun j hj => ?_⟩
  obtain ⟨b, o, rv, rfl, hc, hw⟩ := hx j hj
  exact ⟨b, o, rv, rfl, cell_over hb (World.block_lt_of_cell? _ _ hc) hc, hw.below hb⟩

set_option maxHeartbeats 1000000 in
theorem small_any (v : Value) (rows : List (List Int)) (w : World) (h : RowsAt w v rows) :
    Calls Try.prog 7 #[v] w fun e w' => e = .returned (.bool (smallB rows)) ∧ w = w' := by
  obtain ⟨a, c, rfl, hl, hx⟩ := h
  have HX := Lib.hid hx
  clear hx
  have HT : Hid (∀ k, k < rows.length → tot (rows.take (k + 1)) = tot (rows.take k) + ((rowOf rows k).length + 1)) := fun k hk => tot_take_succ rows k hk
  have HL : Hid (∀ k, tot (rows.take k) ≤ tot rows) := tot_take_le rows
  go_enter Try.func7, Try.ntmps7
  go_wp2_with fail
  go_loop [8, 3] (fun i n => ∃ k : Nat, k ≤ rows.length ∧ i = .int .i64 k ∧ n = .int .i64 (tot (rows.take k)) ∧ tot (rows.take k) ≤ 400) (fun i _ => rows.length - (intOf i).toNat)
  case atStart => exact ⟨0, Nat.zero_le _, rfl, rfl, by simp [tot]⟩
  case round =>
    obtain ⟨k, hk, rfl, rfl, ht⟩ := hrel
    by_cases hlt : k < rows.length
    · obtain ⟨b, o, rv, rfl, hc, a', c', rfl, hl', -⟩ := HX.out k hlt
      have ht2 := HT.out k hlt
      have ht3 := HL.out (k + 1)
      have hrow : (rowOf rows k).length ≤ 140737488351232 := hl'
      generalize hN : (rowOf rows k).length = N at *
      have HN := Lib.hid hN
      have HT2 := Lib.hid ht2
      clear hN ht2
      generalize tot (rows.take k) = T at *
      by_cases hbig : T + (N + 1) ≤ 400
      · go_wp2_with fail
        go_round
        case rel => exact ⟨k + 1, by omega, by go_num, by rw [HT2.out]; go_num, by rw [HT2.out]; omega⟩
        case measure => simp [intOf]; omega
      · go_wp2_with fail
        go_ret
        have hf : smallB rows = false := decide_eq_false (by have := HT2.out; omega)
        rw [hf]
        exact ⟨rfl, rfl⟩
    · have hf : Hid (smallB rows = true) := decide_eq_true (by rw [tot_all (by omega)] at ht; exact ht)
      go_wp2_with fail
      go_ret
      rw [hf.out]
      exact ⟨rfl, rfl⟩

end Go.Proofs.Ytmkbdjekidcfaaa
