/- Timer: two rows of what fired, compared. -/
import Derived.Test.YtcgchccppoignaaTmP
namespace Go.Proofs.Ytcgchccppoignaa
open Go.RowKit
attribute [local go_sem ↓] Go.wp_at_zero Go.wp_at_succ
attribute [local go_sem] Go.undef

abbrev Pr := Int × Int
def FE (p : Pr) (cs : List Value) : Prop := cs = [.int .i64 p.1, .int .i64 p.2]
theorem RowsOf.fe {w : World} {S : Nat → Prop} {l : List Pr} {a : Option Addr} {n c j : Nat} (h : RowsOf FE 2 w S l a n c) (hj : j < n) :
    ∃ g o p, a = some ⟨g, o, none⟩ ∧ S g ∧ l[j]? = some p ∧ w.cell? ⟨g, o + j * 2, none⟩ = some (.int .i64 p.1) ∧ w.cell? ⟨g, o + j * 2 + 1, none⟩ = some (.int .i64 p.2) := by
  obtain ⟨rfl, h1, h2, h3⟩ := h
  obtain ⟨g, o, e, hS, hr⟩ := h3 (by omega)
  obtain ⟨cs, rfl, -, hc⟩ := hr j _ (List.getElem?_eq_getElem hj)
  exact ⟨g, o, _, e, hS, List.getElem?_eq_getElem hj, hc 0 _ rfl, hc 1 _ rfl⟩
set_option maxHeartbeats 4000000 in
theorem same_any (l1 l2 : List Pr) (a1 a2 : Option Addr) (n1 n2 c1 c2 : Nat) (S1 S2 : Nat → Prop) (w : World) (h1 : RowsOf FE 2 w S1 l1 a1 n1 c1) (h2 : RowsOf FE 2 w S2 l2 a2 n2 c2) :
    Calls Try.prog 11 #[.slice a1 n1 c1, .slice a2 n2 c2] w fun e w' => e = .returned (.bool (decide (l1 = l2))) ∧ ∃ nn, w' = w.drewN nn := by
  have hz1 : n1 ≤ c1 := h1.2.1
  have hz2 : n2 ≤ c2 := h2.2.1
  have hz3 : c1 ≤ maxLen := h1.2.2.1
  have hz4 : c2 ≤ maxLen := h2.2.2.1
  unfold maxLen at hz3 hz4
  have HL1 := Lib.hid h1.1
  have HL2 := Lib.hid h2.1
  have H1 := Lib.hid h1
  have H2 := Lib.hid h2
  clear h1 h2
  go_enter Try.func11, Try.ntmps11
  by_cases hn : n1 = n2
  · subst hn
    have hb : (((n1 : Nat) : Int) != (n1 : Int)) = false := by simp
    go_upto_region 4 with fail
    clear hb
    simp only [Go.undef]
    go_loopw [5] (fun iv wr => ∃ j nn : Nat, iv = .int .i64 j ∧ j ≤ n1 ∧ (∀ i, i < j → l1[i]? = l2[i]?) ∧ wr = w.drewN nn) (fun iv _ => n1 - (intOf iv).toNat)
    case atStart => exact ⟨0, 0, rfl, by omega, fun i hi => by omega, rfl⟩
    case round =>
      obtain ⟨j, nn, rfl, hj, hs, rfl⟩ := hrel
      have HS := Lib.hid hs
      clear hs
      by_cases hlt : j < n1
      · obtain ⟨g1, o1, p1, rfl, -, e1, d1, d2⟩ := H1.out.fe hlt
        obtain ⟨g2, o2, p2, rfl, -, e2, d3, d4⟩ := H2.out.fe hlt
        have HE1 := Lib.hid e1
        have HE2 := Lib.hid e2
        clear e1 e2
        obtain ⟨x1, y1⟩ := p1
        obtain ⟨x2, y2⟩ := p2
        simp only at d1 d2 d3 d4
        by_cases hx : x1 = x2
        · subst hx
          have hx2 : (x1 == x1) = true := by simp
          by_cases hy : y1 = y2
          · subst hy
            have hy2 : (y1 == y1) = true := by simp
            go_wp2_with fail
            go_quiet (fail)
            go_wp2_with fail
            go_roundw
            case rel => exact ⟨j + 1, _, by go_num, by omega, fun i hi => by
              by_cases e : i = j
              · subst e; rw [HE1.out, HE2.out]
              · exact HS.out i (by omega), by first | rfl | exact World.drewN_drewN _ _ _⟩
            case measure => simp [intOf]; omega
          · have hy2 : (y1 == y2) = false := beq_eq_false_iff_ne.2 hy
            have HY := Lib.hid hy
            clear hy
            go_wp2_with fail
            go_quiet (fail)
            go_wp2_with fail
            go_ret
            refine ⟨?_, _, by first | rfl | exact World.drewN_drewN _ _ _⟩
            rw [decide_eq_false fun e => HY.out (by have := HE1.out.symm.trans (e ▸ HE2.out); simpa using this)]
            rfl
        · have hx2 : (x1 == x2) = false := beq_eq_false_iff_ne.2 hx
          have HY := Lib.hid hx
          clear hx
          go_wp2_with fail
          go_quiet (fail)
          go_wp2_with fail
          go_ret
          refine ⟨?_, _, by first | rfl | exact World.drewN_drewN _ _ _⟩
          rw [decide_eq_false fun e => HY.out (by have := HE1.out.symm.trans (e ▸ HE2.out); simp at this; exact this.1)]
          rfl
      · obtain rfl : j = n1 := by omega
        go_wp2_with fail
        go_ret
        refine ⟨?_, nn, rfl⟩
        have e : l1 = l2 := by
          apply List.ext_getElem?
          intro i
          rcases Nat.lt_or_ge i j with h | h
          · exact HS.out i h
          · rw [List.getElem?_eq_none (by rw [← HL1.out]; exact h), List.getElem?_eq_none (by rw [← HL2.out]; exact h)]
        rw [decide_eq_true e]
        rfl
  · have hb : (((n1 : Nat) : Int) != (n2 : Int)) = true := by simp; omega
    have HN := Lib.hid hn
    clear hn
    go_wp2_with fail
    go_ret
    refine ⟨?_, 0, rfl⟩
    rw [decide_eq_false fun e => HN.out (by rw [HL1.out, HL2.out, e])]
    rfl
end Go.Proofs.Ytcgchccppoignaa
