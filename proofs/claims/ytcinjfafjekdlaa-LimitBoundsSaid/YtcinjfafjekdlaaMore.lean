/- LimitMore: the walk, and the plain law beneath it. -/
import Derived.Test.YtcinjfafjekdlaaWaits
namespace Go.Proofs.Ytcinjfafjekdlaa
open Go.RowKit

/-- A slice of integers that came in. -/
def IsRow (k : IntKind) (w : World) (a : Option Addr) (len cap : Nat) (zs : List Int) : Prop :=
  (a = none ∧ len = 0 ∧ cap = 0 ∧ zs = []) ∨
  ∃ x, a = some x ∧ len ≤ cap ∧ cap ≤ maxLen ∧ zs.length = cap ∧ (∀ i, i < zs.length → w.cell? (x.add i) = some (.int k (zs.getD i 0))) ∧ ∀ n ∈ zs, (Lit.int k n).wf = true

theorem IsRow.at {k : IntKind} {w : World} {a : Option Addr} {len cap : Nat} {zs : List Int} (h : IsRow k w a len cap zs) {i : Nat} (hi : i < len) :
    ∃ b off, a = some ⟨b, off, none⟩ ∧ w.cell? ⟨b, off + i, none⟩ = some (.int k (zs.getD i 0)) ∧ (Lit.int k (zs.getD i 0)).wf = true ∧ len ≤ cap ∧ cap ≤ maxLen := by
  rcases h with ⟨_, rfl, _⟩ | ⟨x, rfl, hl, hm, hz, hc, hw⟩
  · omega
  · have h0 := hc i (by omega)
    obtain ⟨b, off, spot⟩ := x
    have hs : spot = none := by simpa [Addr.add] using World.cell?_spot (hc 0 (by omega))
    subst hs
    have e : (⟨b, off, none⟩ : Addr).add i = ⟨b, off + i, none⟩ := by
      by_cases hi0 : i = 0
      · subst hi0; simp [Addr.add]
      · simp only [Addr.add, if_neg hi0]
    rw [e] at h0
    refine ⟨b, off, rfl, h0, hw _ ?_, hl, hm⟩
    rw [List.getD_eq_getElem?_getD, List.getElem?_eq_getElem (by omega)]
    exact List.getElem_mem _

theorem IsRow.len_le {k : IntKind} {w : World} {a : Option Addr} {len cap : Nat} {zs : List Int} (h : IsRow k w a len cap zs) : len ≤ 9223372036854775807 := by
  rcases h with ⟨_, rfl, _⟩ | ⟨x, rfl, hl, hm, _⟩
  · omega
  · unfold maxLen at hm; omega

structure MoreInv (a b lv ls xl xs : Int) : Prop where
  p0 : 0 ≤ lv
  p1 : lv ≤ a * b
  p2 : 0 ≤ xl
  p3 : xl ≤ a * b
  p4 : 0 ≤ xs
  p5 : xs ≤ ls
  p6 : ls ≤ 1099511627776
  p7 : lv ≤ xl + (ls - xs) * a

theorem more_le {a b lv ls xl xs : Int} (h : MoreInv a b lv ls xl xs) (ha : 1 ≤ a) (t : Int) (ht : ls ≤ t) : lvAt a b lv ls t ≤ lvAt a b xl xs t := by
  obtain ⟨p0, p1, p2, p3, p4, p5, p6, p7⟩ := h
  rw [lvAt_from a b lv ls t ha p0 p1 ht, lvAt_from a b xl xs t ha p2 p3 (by omega)]
  have : (t - xs) * a = (t - ls) * a + (ls - xs) * a := by rw [← Int.add_mul]; congr 1; omega
  omega

theorem more_yes {a b lv ls xl xs : Int} (h : MoreInv a b lv ls xl xs) (ha : 1 ≤ a) (hb : 1 ≤ b) (t : Int) (ht : ls ≤ t) (ht' : t ≤ 1099511627776) (hk : tk a b lv ls t = true) :
    tk a b xl xs t = true ∧ MoreInv a b (tkLv a b lv ls t) t (tkLv a b xl xs t) t := by
  have hle := more_le h ha t ht
  obtain ⟨p0, p1, p2, p3, p4, p5, p6, p7⟩ := h
  have hk := of_decide_eq_true hk
  have b1 := tkLv_bd a b lv ls t ha hb p0 p1
  have b2 := tkLv_bd a b xl xs t ha hb p2 p3
  refine ⟨decide_eq_true (by omega), b1.1, b1.2, b2.1, b2.2, by omega, by omega, by omega, ?_⟩
  unfold tkLv
  rw [if_pos hk, if_pos (by omega)]
  rw [Int.sub_self, Int.zero_mul]
  omega

theorem more_no {a b lv ls xl xs : Int} (h : MoreInv a b lv ls xl xs) (ha : 1 ≤ a) (hb : 1 ≤ b) (t : Int) (ht : ls ≤ t) (ht' : t ≤ 1099511627776) (hk : tk a b lv ls t = false) :
    MoreInv a b (tkLv a b lv ls t) t xl xs := by
  obtain ⟨p0, p1, p2, p3, p4, p5, p6, p7⟩ := h
  have hk := of_decide_eq_false hk
  have b1 := tkLv_bd a b lv ls t ha hb p0 p1
  refine ⟨b1.1, b1.2, p2, p3, by omega, by omega, by omega, ?_⟩
  unfold tkLv
  rw [if_neg hk, lvAt_from a b lv ls t ha p0 p1 ht]
  have : (t - xs) * a = (t - ls) * a + (ls - xs) * a := by rw [← Int.add_mul]; congr 1; omega
  omega

theorem take_more {a b lv ls xl xs : Int} (h : MoreInv a b lv ls xl xs) (h1 : 1 ≤ a) (h2 : a ≤ 1000000) (h3 : 1 ≤ b) (h4 : b ≤ 1000000) (t : Int) (ht : ls ≤ t) (ht' : t ≤ 1099511627776) :
    ∃ V T, (∀ w : World, Calls Try.prog 11 #[.agg #[.int .i64 lv, .int .i64 ls], .int .i64 a, .int .i64 b, .int .i64 t] w fun e w' =>
        e = .returned (.tuple #[.agg #[.int .i64 V, .int .i64 t], .bool T]) ∧ Below w.heap.size w w') ∧
      (T = false → MoreInv a b V t xl xs) ∧
      (T = true → ∃ V', (∀ w : World, Calls Try.prog 11 #[.agg #[.int .i64 xl, .int .i64 xs], .int .i64 a, .int .i64 b, .int .i64 t] w fun e w' =>
        e = .returned (.tuple #[.agg #[.int .i64 V', .int .i64 t], .bool true]) ∧ Below w.heap.size w w') ∧ MoreInv a b V t V' t) := by
  have p5 := h.p5
  have p4 := h.p4
  refine ⟨tkLv a b lv ls t, tk a b lv ls t, fun w => ?_, fun hk => more_no h h1 h3 t ht ht' hk, fun hk => ⟨tkLv a b xl xs t, fun w => ?_, (more_yes h h1 h3 t ht ht' hk).2⟩⟩
  · have := take_any a b lv ls t w h1 h2 h3 h4 h.p0 h.p1 (by omega) (by omega) (by omega) ht'
    rwa [Int.max_eq_right ht] at this
  · have := take_any a b xl xs t w h1 h2 h3 h4 h.p2 h.p3 (by omega) (by omega) (by omega) ht'
    rwa [Int.max_eq_right (show xs ≤ t by omega), (more_yes h h1 h3 t ht ht' hk).1] at this

def MoreRel (a b : Int) (w : World) (len B X : Nat) (i now : Value) (wr : World) : Prop :=
  ∃ (k : Nat) (lv ls xl xs : Int), k ≤ len ∧ i = .int .i64 k ∧ now = .int .i64 ls ∧ MoreInv a b lv ls xl xs ∧
    wr.cell? ⟨B, 0, none⟩ = some (.int .i64 lv) ∧ wr.cell? ⟨B, 1, none⟩ = some (.int .i64 ls) ∧ wr.cell? ⟨X, 0, none⟩ = some (.int .i64 xl) ∧ wr.cell? ⟨X, 1, none⟩ = some (.int .i64 xs) ∧
    wr.frozen? ⟨B, 0, none⟩ = false ∧ wr.frozen? ⟨B, 1, none⟩ = false ∧ wr.frozen? ⟨X, 0, none⟩ = false ∧ wr.frozen? ⟨X, 1, none⟩ = false ∧ Below w.heap.size w wr ∧ X < wr.heap.size

set_option maxHeartbeats 4000000 in
set_option maxRecDepth 100000 in
theorem more_go (lv ls m a b : Int) (ad : Option Addr) (len cap : Nat) (zs : List Int) (w : World) (hm : (Lit.int .i64 m).wf = true) (hr : IsRow .i64 w ad len cap zs) (hf : fitB a b lv ls = true) :
    Calls Try.prog 5 #[.agg #[.int .i64 lv, .int .i64 ls], .int .i64 m, .int .i64 a, .int .i64 b, .slice ad len cap] w fun e w' => e = .returned (.bool true) ∧ Below w.heap.size w w' := by
  obtain ⟨h1, h2, h3, h4, h5, h6, h7, h8⟩ := fitB_true hf
  have hlen := hr.len_le
  have HR := Lib.hid hr
  clear hf hr
  have hab := ab_bd a b h1 h2 h3 h4
  go_enter Try.func5, Try.ntmps5
  go_wp2_with fail
  refine (fit_yes a b lv ls _ h1 h2 h3 h4 h5 h6 h7 h8).mono ?_
  rintro e w1 ⟨rfl, hb1⟩
  have hs1 : w.heap.size < w1.heap.size := by have := hb1.size; simp at this; omega
  have c0 : w1.cell? ⟨w.heap.size, 0, none⟩ = some (.int .i64 lv) := cell_over hb1 (by simp) (by simp)
  have c1 : w1.cell? ⟨w.heap.size, 1, none⟩ = some (.int .i64 ls) := cell_over hb1 (by simp) (by simp)
  have g0 : w1.frozen? ⟨w.heap.size, 0, none⟩ = false := free_over hb1 (by simp) (by simp)
  have g1 : w1.frozen? ⟨w.heap.size, 1, none⟩ = false := free_over hb1 (by simp) (by simp)
  have hB1 : Below w.heap.size w w1 := below_via (by go_grown) hb1 (by simp)
  clear hb1
  go_wp2_with fail
  have q1 : IntKind.i64.wrap (a * b) = a * b := IntWalk.i64_in _ (by omega)
  have q2 : IntKind.i64.wrap (a * b + 1) = a * b + 1 := IntWalk.i64_in _ (by omega)
  have q3 : IntKind.u64.wrap (a * b + 1) = a * b + 1 := IntWalk.u64_in _ (by omega)
  obtain ⟨U, hU⟩ : ∃ U, IntKind.u64.wrap m = U := ⟨_, rfl⟩
  have hU0 : 0 ≤ U := by have := IntKind.wrap_u64 m; omega
  obtain ⟨R, hR⟩ : ∃ R, U.tmod (a * b + 1) = R := ⟨_, rfl⟩
  have hR0 : 0 ≤ R ∧ R ≤ a * b := by
    rw [← hR, Int.tmod_eq_emod_of_nonneg hU0]
    exact ⟨Int.emod_nonneg _ (by omega), by have := Int.emod_lt_of_pos U (show 0 < a * b + 1 by omega); omega⟩
  have q4 : ¬ a * b + 1 = 0 := by omega
  have q5 : IntKind.i64.wrap R = R := IntWalk.i64_in _ (by omega)
  have q6 : IntKind.i64.wrap (lv + R) = lv + R := IntWalk.i64_in _ (by omega)
  obtain ⟨X, hX⟩ : ∃ X, (if lv + R < a * b then lv + R else a * b) = X := ⟨_, rfl⟩
  have hX0 : lv ≤ X ∧ X ≤ a * b := by rw [← hX]; split <;> omega
  refine wp_region_still_tail 17 (by kernel_rfl) (by kernel_rfl) ?_
  simp only [List.take_succ_cons, List.take_zero, List.drop_succ_cons, List.drop_zero]
  change wpStill _ _ (World.drew _) (fun a' => wpList _ _ _ _ a' (World.drew _)) _ _
  repeat still_step
  refine wpStill_nil ?_
  clear hX q1 q2 q3 q4 q5 q6 hU hR
  go_wp2_with fail
  go_loopw [45, 12] (MoreRel a b w len w.heap.size w1.heap.size) (fun i _ _ => len - (intOf i).toNat)
  case atStart => exact ⟨0, lv, ls, X, ls, by omega, rfl, rfl, ⟨by omega, by omega, by omega, by omega, by omega, by omega, by omega, by rw [Int.sub_self, Int.zero_mul]; omega⟩, by go_cell, by go_cell, by simp, by simp, by rw [World.frozen?_drew]; rw [World.frozen?_alloc_old _ _ _ (Nat.ne_of_lt hs1)]; exact g0, by rw [World.frozen?_drew]; rw [World.frozen?_alloc_old _ _ _ (Nat.ne_of_lt hs1)]; exact g1, by simp, by simp, by go_grown, by simp⟩
  case round =>
    obtain ⟨k, lv, ls, xl, xs, hk, rfl, rfl, hI, d0, d1, e0, e1, i0, i1, j0, j1, hB, hs⟩ := hrel
    clear hB1 c0 c1 g0 g1
    have hp := hI.p5
    have hp2 := hI.p6
    have hp3 := hI.p4
    have HI := Lib.hid hI
    clear hI
    by_cases hlt : k < len
    · obtain ⟨sb, so, rfl, hcell, hwf, -, -⟩ := HR.out.at hlt
      have hcell2 : wr.cell? ⟨sb, so + k, none⟩ = some (.int .i64 (zs.getD k 0)) := cell_over hB (World.block_lt_of_cell? _ _ hcell) hcell
      generalize zs.getD k 0 = z at *
      by_cases h100 : 100 ≤ k
      · go_wp2_with fail
        refine (awake_any _).mono ?_
        rintro e w4 ⟨rfl, hb4⟩
        have hB4 : Below w.heap.size w w4 := below_via hB hb4 (by omega)
        go_wp2
        go_ret
        exact ⟨rfl, hB4⟩
      · have hZ0 : 0 ≤ IntKind.u64.wrap z := by have := IntKind.wrap_u64 z; omega
        by_cases hcap : 1099511627776 < ls + IntKind.u64.wrap z % 1000
        · obtain ⟨V, T, hT, hN, hY⟩ := take_more HI.out h1 h2 h3 h4 (1099511627776) (by omega) (by omega)
          have HT := Lib.hid hT
          have HN := Lib.hid hN
          have HY := Lib.hid hY
          clear hT hN hY
          go_wp2_with fail
          refine (HT.out _).mono ?_
          rintro e w4 ⟨rfl, hb4⟩
          have hX4 : w1.heap.size < w4.heap.size := by have := hb4.size; omega
          have k0 : w4.cell? ⟨w.heap.size, 0, none⟩ = some (.int .i64 lv) := cell_over hb4 (by omega) (by go_cell)
          have k1 : w4.cell? ⟨w.heap.size, 1, none⟩ = some (.int .i64 ls) := cell_over hb4 (by omega) (by go_cell)
          have x0 : w4.cell? ⟨w1.heap.size, 0, none⟩ = some (.int .i64 xl) := cell_over hb4 hs (by go_cell)
          have x1 : w4.cell? ⟨w1.heap.size, 1, none⟩ = some (.int .i64 xs) := cell_over hb4 hs (by go_cell)
          have l0 : w4.frozen? ⟨w.heap.size, 0, none⟩ = false := free_over hb4 (by omega) i0
          have l1 : w4.frozen? ⟨w.heap.size, 1, none⟩ = false := free_over hb4 (by omega) i1
          have y0 : w4.frozen? ⟨w1.heap.size, 0, none⟩ = false := free_over hb4 hs j0
          have y1 : w4.frozen? ⟨w1.heap.size, 1, none⟩ = false := free_over hb4 hs j1
          have hB4 : Below w.heap.size w w4 := below_via hB hb4 (by omega)
          clear hb4 d0 d1 e0 e1 i0 i1 j0 j1 hB hcell hcell2 hwf
          cases T with
          | false =>
            go_wp2_with fail
            go_roundw
            case rel => exact ⟨k + 1, V, 1099511627776, xl, xs, by omega, by go_num, rfl, HN.out (by first | trivial | rfl), by go_cell, by go_cell, by go_cell, by go_cell, by simp [l0], by simp [l1], by simp [y0], by simp [y1], by go_grown, by simp; omega⟩
            case measure => simp [intOf]; omega
          | true =>
            obtain ⟨V', hT', hI'⟩ := HY.out rfl
            have HT' := Lib.hid hT'
            have HI' := Lib.hid hI'
            clear hT' hI'
            go_wp2_with fail
            refine (HT'.out _).mono ?_
            rintro e w5 ⟨rfl, hb5⟩
            have hX5 : w1.heap.size < w5.heap.size := by have := hb5.size; simp at this; omega
            have m0 : w5.cell? ⟨w.heap.size, 0, none⟩ = some (.int .i64 V) := cell_over hb5 (by simp; omega) (by go_cell)
            have m1 : w5.cell? ⟨w.heap.size, 1, none⟩ = some (.int .i64 (1099511627776)) := cell_over hb5 (by simp; omega) (by go_cell)
            have n0 : w5.cell? ⟨w1.heap.size, 0, none⟩ = some (.int .i64 xl) := cell_over hb5 (by simp; omega) (by go_cell)
            have n1 : w5.cell? ⟨w1.heap.size, 1, none⟩ = some (.int .i64 xs) := cell_over hb5 (by simp; omega) (by go_cell)
            have o0 : w5.frozen? ⟨w.heap.size, 0, none⟩ = false := free_over hb5 (by simp; omega) (by simp [l0])
            have o1 : w5.frozen? ⟨w.heap.size, 1, none⟩ = false := free_over hb5 (by simp; omega) (by simp [l1])
            have z0 : w5.frozen? ⟨w1.heap.size, 0, none⟩ = false := free_over hb5 (by simp; omega) (by simp [y0])
            have z1 : w5.frozen? ⟨w1.heap.size, 1, none⟩ = false := free_over hb5 (by simp; omega) (by simp [y1])
            have hB5 : Below w.heap.size w w5 := below_via (by go_grown) hb5 (by simp; omega)
            clear hb5 k0 k1 x0 x1 l0 l1 y0 y1 hB4
            go_wp2_with fail
            go_roundw
            case rel => exact ⟨k + 1, V, 1099511627776, V', 1099511627776, by omega, by go_num, rfl, HI'.out, by go_cell, by go_cell, by go_cell, by go_cell, by simp [o0], by simp [o1], by simp [z0], by simp [z1], by go_grown, by simp; omega⟩
            case measure => simp [intOf]; omega
        · obtain ⟨V, T, hT, hN, hY⟩ := take_more HI.out h1 h2 h3 h4 (ls + IntKind.u64.wrap z % 1000) (by omega) (by omega)
          have HT := Lib.hid hT
          have HN := Lib.hid hN
          have HY := Lib.hid hY
          clear hT hN hY
          go_wp2_with fail
          refine (HT.out _).mono ?_
          rintro e w4 ⟨rfl, hb4⟩
          have hX4 : w1.heap.size < w4.heap.size := by have := hb4.size; omega
          have k0 : w4.cell? ⟨w.heap.size, 0, none⟩ = some (.int .i64 lv) := cell_over hb4 (by omega) (by go_cell)
          have k1 : w4.cell? ⟨w.heap.size, 1, none⟩ = some (.int .i64 ls) := cell_over hb4 (by omega) (by go_cell)
          have x0 : w4.cell? ⟨w1.heap.size, 0, none⟩ = some (.int .i64 xl) := cell_over hb4 hs (by go_cell)
          have x1 : w4.cell? ⟨w1.heap.size, 1, none⟩ = some (.int .i64 xs) := cell_over hb4 hs (by go_cell)
          have l0 : w4.frozen? ⟨w.heap.size, 0, none⟩ = false := free_over hb4 (by omega) i0
          have l1 : w4.frozen? ⟨w.heap.size, 1, none⟩ = false := free_over hb4 (by omega) i1
          have y0 : w4.frozen? ⟨w1.heap.size, 0, none⟩ = false := free_over hb4 hs j0
          have y1 : w4.frozen? ⟨w1.heap.size, 1, none⟩ = false := free_over hb4 hs j1
          have hB4 : Below w.heap.size w w4 := below_via hB hb4 (by omega)
          clear hb4 d0 d1 e0 e1 i0 i1 j0 j1 hB hcell hcell2 hwf
          cases T with
          | false =>
            go_wp2_with fail
            go_roundw
            case rel => exact ⟨k + 1, V, ls + IntKind.u64.wrap z % 1000, xl, xs, by omega, by go_num, rfl, HN.out (by first | trivial | rfl), by go_cell, by go_cell, by go_cell, by go_cell, by simp [l0], by simp [l1], by simp [y0], by simp [y1], by go_grown, by simp; omega⟩
            case measure => simp [intOf]; omega
          | true =>
            obtain ⟨V', hT', hI'⟩ := HY.out rfl
            have HT' := Lib.hid hT'
            have HI' := Lib.hid hI'
            clear hT' hI'
            go_wp2_with fail
            refine (HT'.out _).mono ?_
            rintro e w5 ⟨rfl, hb5⟩
            have hX5 : w1.heap.size < w5.heap.size := by have := hb5.size; simp at this; omega
            have m0 : w5.cell? ⟨w.heap.size, 0, none⟩ = some (.int .i64 V) := cell_over hb5 (by simp; omega) (by go_cell)
            have m1 : w5.cell? ⟨w.heap.size, 1, none⟩ = some (.int .i64 (ls + IntKind.u64.wrap z % 1000)) := cell_over hb5 (by simp; omega) (by go_cell)
            have n0 : w5.cell? ⟨w1.heap.size, 0, none⟩ = some (.int .i64 xl) := cell_over hb5 (by simp; omega) (by go_cell)
            have n1 : w5.cell? ⟨w1.heap.size, 1, none⟩ = some (.int .i64 xs) := cell_over hb5 (by simp; omega) (by go_cell)
            have o0 : w5.frozen? ⟨w.heap.size, 0, none⟩ = false := free_over hb5 (by simp; omega) (by simp [l0])
            have o1 : w5.frozen? ⟨w.heap.size, 1, none⟩ = false := free_over hb5 (by simp; omega) (by simp [l1])
            have z0 : w5.frozen? ⟨w1.heap.size, 0, none⟩ = false := free_over hb5 (by simp; omega) (by simp [y0])
            have z1 : w5.frozen? ⟨w1.heap.size, 1, none⟩ = false := free_over hb5 (by simp; omega) (by simp [y1])
            have hB5 : Below w.heap.size w w5 := below_via (by go_grown) hb5 (by simp; omega)
            clear hb5 k0 k1 x0 x1 l0 l1 y0 y1 hB4
            go_wp2_with fail
            go_roundw
            case rel => exact ⟨k + 1, V, ls + IntKind.u64.wrap z % 1000, V', ls + IntKind.u64.wrap z % 1000, by omega, by go_num, rfl, HI'.out, by go_cell, by go_cell, by go_cell, by go_cell, by simp [o0], by simp [o1], by simp [z0], by simp [z1], by go_grown, by simp; omega⟩
            case measure => simp [intOf]; omega
    · go_wp2_with fail
      refine (awake_any _).mono ?_
      rintro e w4 ⟨rfl, hb4⟩
      have hB4 : Below w.heap.size w w4 := below_via hB hb4 (by omega)
      go_wp2
      go_ret
      exact ⟨rfl, hB4⟩

set_option maxHeartbeats 4000000 in
theorem walk_LimitMore (lv ls m a b : Int) (ad : Option Addr) (len cap : Nat) (zs : List Int) (w : World) (wm : (Lit.int .i64 m).wf = true) (_ : (Lit.int .i64 a).wf = true) (_ : (Lit.int .i64 b).wf = true) (hr : IsRow .i64 w ad len cap zs) :
    Calls Try.prog 5 #[.agg #[.int .i64 lv, .int .i64 ls], .int .i64 m, .int .i64 a, .int .i64 b, .slice ad len cap] w fun e w' => e = .returned (.bool true) ∧ Below w.heap.size w w' := by
  cases hf : fitB a b lv ls with
  | true => exact more_go lv ls m a b ad len cap zs w wm hr hf
  | false =>
    clear hr
    go_enter Try.func5, Try.ntmps5
    go_wp2_with fail
    refine (fit_no a b lv ls _ hf).mono ?_
    rintro e w1 ⟨rfl, hb1⟩
    have hs1 : w.heap.size < w1.heap.size := by have := hb1.size; simp at this; omega
    have hB1 : Below w.heap.size w w1 := below_via (by go_grown) hb1 (by simp)
    clear hb1
    go_wp2_with fail
    refine (awake_any _).mono ?_
    rintro e w2 ⟨rfl, hb2⟩
    have hB2 : Below w.heap.size w w2 := below_via hB1 hb2 (by omega)
    go_wp2
    go_ret
    exact ⟨rfl, hB2⟩

end Go.Proofs.Ytcinjfafjekdlaa
