/- Is a chain fit. -/
import Derived.Test.YtlnlefebcfnocaaSh
namespace Go.Proofs.Ytlnlefebcfnocaa
open Go.RowKit Go.Deep
attribute [local go_sem] Go.undef

/-- What of a fit chain is used. -/
def FitC (c : Nat) (ws : List (WX × Value)) : Prop := (c ≤ 2047 ∧ hasN c 10 = false) ∧ ws.length ≤ 8 ∧ ∀ p ∈ ws, p.1.caps ≤ 2047 ∧ hasN p.1.caps 10 = false
/-- The loop of Chain. -/
def LCH (w : World) (ws : List (WX × Value)) (u0 u1 u2 v : Value) (iv : Value) (wr : World) : Prop :=
  ∃ j : Nat, iv = .int .i64 j ∧ j ≤ ws.length ∧ (∀ i p, i < j → ws[i]? = some p → p.1.caps ≤ 2047 ∧ hasN p.1.caps 10 = false) ∧ Blk wr w.heap.size 28 #[u0, u1, u2, v] ∧ Below w.heap.size w wr

set_option maxRecDepth 100000 in
set_option maxHeartbeats 8000000 in
theorem chain_any (w : World) (S : Nat → Prop) (op num : Int) (c : Nat) (ws : List (WX × Value)) (a : Option Addr) (n d : Nat) (hr : Wraps w S ws a n d) (hS : ∀ b, S b → b < w.heap.size) (hc : c < 4294967296) :
    Calls Try.prog 9 #[.agg #[.int .i64 op, .int .i64 num, .int .u32 (c : Int), .slice a n d]] w fun e w' => TEL (FitC c ws) e w w' := by
  have hco := fun W => core_any W op num c hc
  have HCO := Lib.hid hco
  have HR := Lib.hid hr
  have HS := Lib.hid hS
  obtain rfl : n = ws.length := hr.1
  have hcl : d ≤ maxLen := hr.2.2.1
  have hlc : ws.length ≤ d := hr.2.1
  unfold maxLen at hcl
  clear hco hr hS
  go_enter Try.func9, Try.ntmps9
  go_wp2_with fail
  refine (HCO.out _).mono ?_
  rintro e w1 ⟨⟨b, rfl, hb⟩, hb1⟩
  have hB1 : Below w.heap.size w w1 := below_on hb1 (by go_grown)
  have HQ : Hid (Blk w1 w.heap.size 28 #[.int .i64 op, .int .i64 num, .int .u32 (c : Int), .slice a ws.length d]) := (Blk.new' _ _ _ (by simp)).under hb1 (by simp)
  have q3 := HQ.out.cell 3
  simp only [List.getElem?_toArray, List.getElem?_cons_succ, List.getElem?_cons_zero] at q3
  clear hb1
  cases b
  · go_wp2_with fail
    go_ret
    exact .no hB1
  have HC2 : Hid (c ≤ 2047 ∧ hasN c 10 = false) := Lib.hid (hb rfl)
  clear hb
  by_cases h8 : 8 < ws.length
  · go_wp2_with fail
    go_ret
    exact .no hB1
  go_wp2_with fail
  go_loopw [3] (fun iv wr => LCH w ws (.int .i64 op) (.int .i64 num) (.int .u32 (c : Int)) (.slice a ws.length d) iv wr) (fun i _ => ws.length - (intOf i).toNat)
  case atStart => exact ⟨0, rfl, Nat.zero_le _, fun i p h => absurd h (Nat.not_lt_zero _), HQ.out, hB1⟩
  case round =>
    obtain ⟨j, rfl, hj, hall, hB, hbel⟩ := hrel
    have c3 := hB.cell 3
    simp only [List.getElem?_toArray, List.getElem?_cons_succ, List.getElem?_cons_zero] at c3
    have hsz := hbel.size
    have HALL := Lib.hid hall
    clear hall q3
    by_cases hlt : j < ws.length
    · obtain ⟨g, o, p, cs, rfl, hSg, hp, he, hl, hat⟩ := RowsOf.get HR.out hlt
      obtain ⟨x, v⟩ := p
      have he2 := he.under hbel HS.out
      have hc := wrap_any x v wr S he2.2.1 he2.2.2 (fun y hy => Nat.lt_of_lt_of_le (HS.out y hy) hsz)
      have hnext : x.caps ≤ 2047 ∧ hasN x.caps 10 = false → ∀ i p, i < j + 1 → ws[i]? = some p → p.1.caps ≤ 2047 ∧ hasN p.1.caps 10 = false := by
        intro h i q hi hq
        rcases Nat.lt_or_ge i j with h1 | h1
        · exact HALL.out i q h1 hq
        · obtain rfl : i = j := by omega
          rw [hp] at hq
          cases hq
          exact h
      generalize (x.caps ≤ 2047 ∧ hasN x.caps 10 = false) = P at hc hnext
      obtain ⟨op', xa, xb, caps, want, opn⟩ := x
      obtain ⟨wo, wn, wl⟩ := want
      obtain ⟨rfl, hw, hcap⟩ := he
      obtain ⟨va, vc, ve, -⟩ := hw.open_
      obtain rfl : v = .slice va wl.length vc := by injection ve with _ ve; injection ve with _ ve; injection ve
      simp only [WX.cells, WT.op, WT.num] at hc
      have hat' : wr.rangeAt g (o + j * 8) _ := rangeAt_keep hat fun y => hbel.cell (p := ⟨g, y, none⟩) (HS.out g hSg)
      have d0 := hat' 0 _ rfl
      have d1 := hat' 1 _ rfl
      have d2 := hat' 2 _ rfl
      have d3 := hat' 3 _ rfl
      have d4 := hat' 4 _ rfl
      have d5 := hat' 5 _ rfl
      have d6 := hat' 6 _ rfl
      have d7 := hat' 7 _ rfl
      simp only [Nat.add_zero] at d0
      simp only [WT.op, WT.num] at d4 d5
      have HC := Lib.hid hc
      have HN := Lib.hid hnext
      have HB := Lib.hid hB
      have HBEL := Lib.hid hbel
      have hi0 : (0 : Int) ≤ (j : Int) := by omega
      have hi1 : (j : Int) < (ws.length : Int) := by omega
      clear hc hnext hB hbel hat hat' hw hcap hp hl ve he2
      go_wp2_with fail
      refine HC.out.mono ?_
      rintro e w2 ⟨⟨b, rfl, hb⟩, hb2⟩
      have hB2 := below_on hb2 HBEL.out
      have HB2 := Lib.hid (HB.out.under hb2 HB.out.lt)
      clear hb2 d0 d1 d2 d3 d4 d5 d6 d7 c3
      cases b
      · go_wp2_with fail
        go_ret
        exact .no hB2
      · have HP := Lib.hid (HN.out (hb rfl))
        clear hb
        go_wp2_with fail
        go_roundw
        case rel => exact ⟨j + 1, by go_num, by omega, HP.out, HB2.out, hB2⟩
        case measure => simp [intOf]; omega
    · obtain rfl : j = ws.length := by omega
      go_wp2_with fail
      go_ret
      refine .so ⟨HC2.out, by omega, fun p hp => ?_⟩ hbel
      obtain ⟨i, hi, rfl⟩ := List.getElem_of_mem hp
      exact HALL.out i _ hi (List.getElem?_eq_getElem hi)
end Go.Proofs.Ytlnlefebcfnocaa
