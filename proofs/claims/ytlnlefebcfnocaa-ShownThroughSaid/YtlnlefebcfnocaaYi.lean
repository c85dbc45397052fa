/- The walk of ShownExactly. -/
import Derived.Test.YtlnlefebcfnocaaYg
namespace Go.Proofs.Ytlnlefebcfnocaa
open Go.RowKit Go.Deep
attribute [local go_sem] Go.undef

theorem and_pow (a j : Nat) : a &&& 2 ^ j = if a.testBit j = true then 2 ^ j else 0 := by
  apply Nat.eq_of_testBit_eq
  intro i
  rw [Nat.testBit_and, Nat.testBit_two_pow]
  by_cases h : j = i
  · subst h
    cases a.testBit j <;> simp []
  · cases a.testBit j <;> simp [h]
theorem and_bit {a j : Nat} (ha : a < 4294967296) (hj : j < 11) : bits .and .u32 (a : Int) (2 ^ j % 4294967296) = if hasN a (j : Int) = true then ((2 ^ j : Nat) : Int) else 0 := by
  rw [two_pow_mod (pow_lt32 (by omega)), bits32_and ha (pow_lt32 (by omega)), and_pow]
  have hh : hasN a (j : Int) = a.testBit j := by unfold hasN; rw [decide_eq_true (by omega)]; simp
  rw [hh]
  cases a.testBit j <;> simp
theorem and_bit_no {a j : Nat} (ha : a < 4294967296) (hj : j < 11) (h : hasN a (j : Int) = false) : bits .and .u32 (a : Int) (2 ^ j % 4294967296) = 0 := by
  rw [and_bit ha hj, h, if_neg (by simp)]
theorem and_bit_so {a j : Nat} (ha : a < 4294967296) (hj : j < 11) (h : hasN a (j : Int) = true) : (bits .and .u32 (a : Int) (2 ^ j % 4294967296) == 0) = false ∧ (bits .and .u32 (a : Int) (2 ^ j % 4294967296) != 0) = true := by
  rw [and_bit ha hj, h, if_pos rfl]
  have : (2 ^ j : Nat) ≠ 0 := Nat.pos_iff_ne_zero.1 (Nat.pow_pos (by omega))
  have h2 : ((2 ^ j : Nat) : Int) ≠ 0 := by omega
  exact ⟨by rw [beq_eq_false_iff_ne]; exact h2, by rw [bne_iff_ne]; exact h2⟩

/-- What lies in memory in ShownExactly's loops. -/
def XM (w : World) (op num : Int) (c : Nat) (ws : List (WX × Value)) (s : Value) (g : Nat) (W : World) : Prop :=
  Blk W w.heap.size 28 #[.int .i64 op, .int .i64 num, .int .u32 (c : Int), s] ∧ (∀ j, j ≤ ws.length → W.cell? ⟨g, j, none⟩ = some (.int .u32 (sh c ws j : Int))) ∧ Below w.heap.size w W
theorem XM.on {w : World} {op num : Int} {c : Nat} {ws : List (WX × Value)} {s : Value} {g : Nat} {w1 w2 : World} (h : XM w op num c ws s g w1) (hb : Below w1.heap.size w1 w2) : XM w op num c ws s g w2 :=
  ⟨h.1.under hb h.1.lt, fun j hj => cell_on hb (h.2.1 j hj), below_on hb h.2.2⟩
theorem XM.cells {w : World} {op num : Int} {c : Nat} {ws : List (WX × Value)} {s : Value} {g : Nat} {w1 : World} (h : XM w op num c ws s g w1) :
    w1.cell? ⟨w.heap.size, 0, none⟩ = some (.int .i64 op) ∧ w1.cell? ⟨w.heap.size, 1, none⟩ = some (.int .i64 num) ∧ w1.cell? ⟨w.heap.size, 2, none⟩ = some (.int .u32 (c : Int)) ∧ w1.cell? ⟨w.heap.size, 3, none⟩ = some s :=
  ⟨h.1.cell 0, h.1.cell 1, h.1.cell 2, h.1.cell 3⟩

set_option maxRecDepth 100000 in
set_option maxHeartbeats 16000000 in
theorem exactly_go (w : World) (op num : Int) (c : Nat) (ws : List (WX × Value)) (a : Option Addr) (n d : Nat) (hr : Wraps w (· < w.heap.size) ws a n d) (hc : c < 4294967296) :
    Calls Try.prog 7 #[.agg #[.int .i64 op, .int .i64 num, .int .u32 (c : Int), .slice a n d]] w fun e w' => e = .returned (.bool true) ∧ Below w.heap.size w w' := by
  have hu := fun W (hW : Below w.heap.size w W) => hr.under hW (fun _ h => h)
  have hw := fun W (hW : Below w.heap.size w W) b (hb : b < w.heap.size) => Nat.lt_of_lt_of_le hb hW.size
  have hch := fun W (hW : Below w.heap.size w W) => chain_any W _ op num c ws a n d (hu W hW) (hw W hW) hc
  have hlv := fun (hn : n ≤ 8) W (hW : Below w.heap.size w W) => levels_go W _ op num c ws a n d (hu W hW) (hw W hW) (by omega) hc
  have hsn := fun (hn : n ≤ 8) W (hW : Below w.heap.size w W) => shown_any W _ op num c ws a n d (hu W hW) (hw W hW) (by omega) hc
  have hwo := fun (hn : n ≤ 8) k W (hW : Below w.heap.size w W) => Who_any W _ op num c ws a n d k (hu W hW) (hw W hW) (by omega) hc
  have hre := fun (hn : n ≤ 8) k W (hW : Below w.heap.size w W) => Reach_any W _ op num c ws a n d k (hu W hW) (hw W hW) (by omega) hc
  obtain rfl : n = ws.length := hr.1
  have HCH := Lib.hid hch
  have HLV := Lib.hid hlv
  have HSN := Lib.hid hsn
  have HWO := Lib.hid hwo
  have HRE := Lib.hid hre
  have HR := Lib.hid hr
  have hcl : d ≤ maxLen := hr.2.2.1
  have hlc : ws.length ≤ d := hr.2.1
  unfold maxLen at hcl
  have HA : Hid (∀ j, sh c ws j < 4294967296) := fun j => sh_lt hc hr.cap j
  clear hu hw hch hlv hsn hwo hre hr
  go_enter Try.func7, Try.ntmps7
  simp only [Go.undef]
  go_wp2_with fail
  refine (HCH.out _ (by go_grown)).mono ?_
  rintro e w1 ⟨⟨b, rfl, hf⟩, hb1⟩
  have HB1 : Hid (Blk w1 w.heap.size 28 #[.int .i64 op, .int .i64 num, .int .u32 (c : Int), .slice a ws.length d]) := (Blk.new' _ _ _ (by simp)).under hb1 (by simp)
  have hB1 : Below w.heap.size w w1 := below_on hb1 (by go_grown)
  have x0 := HB1.out.cell 0
  have x1 := HB1.out.cell 1
  have x2 := HB1.out.cell 2
  have x3 := HB1.out.cell 3
  simp only [List.getElem?_toArray, List.getElem?_cons_succ, List.getElem?_cons_zero] at x0 x1 x2 x3
  clear hb1
  cases b
  · go_wp2_with fail
    refine (awake_any _).mono ?_
    rintro e w2 ⟨rfl, hb2⟩
    have hB2 := below_on hb2 hB1
    go_wp2_with fail
    go_ret
    exact ⟨rfl, hB2⟩
  have h8 : ws.length ≤ 8 := (hf rfl).2.1
  clear hf
  go_wp2_with fail
  refine (HLV.out h8 _ hB1).mono ?_
  rintro e w2 ⟨g, p, rfl, hp, hcs, hb2⟩
  have HM : Hid (XM w op num c ws (.slice a ws.length d) g w2) := ⟨HB1.out.under hb2 HB1.out.lt, hcs, below_on hb2 hB1⟩
  clear x0 x1 x2 x3 hcs hb2 hB1
  obtain ⟨x0, x1, x2, x3⟩ := HM.out.cells
  go_wp2_with fail
  go_loopw [4] (fun iv wr => (∃ k : Nat, iv = .int .i64 (k : Int) ∧ k ≤ 11) ∧ XM w op num c ws (.slice a ws.length d) g wr) (fun iv _ => 11 - (intOf iv).toNat)
  case atStart => exact ⟨⟨0, rfl, Nat.zero_le _⟩, HM.out⟩
  case round =>
    clear x0 x1 x2 x3
    obtain ⟨⟨k, rfl, hk⟩, hM⟩ := hrel
    obtain ⟨x0, x1, x2, x3⟩ := hM.cells
    by_cases hlt : k < 11
    · have hi0 : (0 : Int) ≤ (k : Int) := by omega
      have HM := Lib.hid hM
      obtain ⟨a1, a2, a3, a4, a5, a6, a7⟩ := whoJ_law c ws (k : Int) ws.length (Nat.le_refl _)
      have hwj : whoW c ws (k : Int) = whoJ c ws (k : Int) ws.length := rfl
      have hrs := reach_shown (c := c) (ws := ws) (k := (k : Int))
      rw [hwj] at hrs
      have hcw := HWO.out h8 (k : Int)
      rw [hwj] at hcw
      have hcr := HRE.out h8 (k : Int)
      have HCW := Lib.hid hcw
      have HCR := Lib.hid hcr
      have HCS := Lib.hid (HSN.out h8)
      have hgen : ∃ V, V = whoJ c ws (k : Int) ws.length := ⟨_, rfl⟩
      obtain ⟨V, hV⟩ := hgen
      rw [← hV] at a1 a2 a3 a4 a5 a6 a7 hrs HCW
      have A5 := Lib.hid a5
      have A6 := Lib.hid a6
      have A7 := Lib.hid a7
      clear hM hcw hcr a5 a6 a7 hwj hV
      go_wp2_with fail
      refine (HCW.out _ HM.out.2.2).mono ?_
      rintro e w3 ⟨rfl, hb3⟩
      have HM3 := Lib.hid (HM.out.on hb3)
      clear x0 x1 x2 x3 hb3
      obtain ⟨x0, x1, x2, x3⟩ := HM3.out.cells
      have hs32 := HA.out ws.length
      cases hb : hasN (sh c ws ws.length) (k : Int) with
      | false =>
        have hV := a2 hb
        have e1 := and_bit_no hs32 hlt hb
        subst hV
        generalize sh c ws ws.length = SH at HCS e1
        clear a1 a2 a3 a4 hrs hb hs32
        go_wp2_with fail
        refine (HCS.out _ HM3.out.2.2).mono ?_
        rintro e w4 ⟨rfl, hb4⟩
        have HM4 := Lib.hid (HM3.out.on hb4)
        clear x0 x1 x2 x3 hb4
        obtain ⟨x0, x1, x2, x3⟩ := HM4.out.cells
        go_wp2_with fail
        go_roundw
        case rel => exact ⟨⟨k + 1, by go_num, by omega⟩, HM4.out⟩
        case measure => simp [intOf]; omega
      | true =>
        have hV := a1 hb
        have hR := hrs hb
        obtain ⟨e1, e2⟩ := and_bit_so hs32 hlt hb
        rw [hR] at HCR
        generalize sh c ws ws.length = SH at HCS e1 e2
        clear a1 a2 hrs hb hs32
        obtain ⟨v, rfl⟩ : ∃ v : Nat, V = (v : Int) := ⟨V.toNat, by omega⟩
        go_wp2_with fail
        refine (HCS.out _ HM3.out.2.2).mono ?_
        rintro e w4 ⟨rfl, hb4⟩
        have HM4 := Lib.hid (HM3.out.on hb4)
        clear x0 x1 x2 x3 hb4
        obtain ⟨x0, x1, x2, x3⟩ := HM4.out.cells
        by_cases hv0 : v = 0
        · subst hv0
          have hkc := A5.out rfl
          obtain ⟨f1, f2⟩ := and_bit_so hc hlt hkc
          clear hkc
          go_wp2_with fail
          refine (HCR.out _ HM4.out.2.2).mono ?_
          rintro e w6 ⟨rfl, hb6⟩
          have HM6 := Lib.hid (HM4.out.on hb6)
          clear x0 x1 x2 x3 hb6
          obtain ⟨x0, x1, x2, x3⟩ := HM6.out.cells
          go_wp2_with fail
          go_loopw [7] (fun iv wr => (∃ i : Nat, iv = .int .i64 (i : Int) ∧ 0 ≤ i ∧ i ≤ ws.length + 1) ∧ XM w op num c ws (.slice a ws.length d) g wr) (fun iv _ => ws.length + 1 - (intOf iv).toNat)
          case atStart => exact ⟨⟨0, rfl, Nat.le_refl _, by omega⟩, HM6.out⟩
          case round =>
            clear x0 x1 x2 x3
            obtain ⟨⟨i, rfl, hi1, hi2⟩, hM⟩ := hrel
            by_cases hlt2 : i < ws.length + 1
            · have z0 := hM.2.1 i (by omega)
              have hz := A7.out i (by omega) (by omega) (by omega)
              obtain ⟨y1, y2⟩ := and_bit_so (HA.out i) hlt hz
              have HM7 := Lib.hid hM
              generalize sh c ws i = SI at z0 y1 y2
              have hj0 : (0 : Int) ≤ (i : Int) := by omega
              have hj1 : (i : Int) < (ws.length : Int) + 1 := by omega
              clear hM hz
              go_wp2_with fail
              go_roundw
              case rel => exact ⟨⟨i + 1, by go_num, by omega, by omega⟩, HM7.out⟩
              case measure => simp [intOf]; omega
            · obtain rfl : i = ws.length + 1 := by omega
              have HM7 := Lib.hid hM
              clear hM
              go_wp2_with fail
              go_roundw
              case rel => exact ⟨⟨k + 1, by go_num, by omega⟩, HM7.out⟩
              case measure => simp [intOf]; omega
        · obtain ⟨m, rfl⟩ : ∃ m, v = m + 1 := ⟨v - 1, by omega⟩
          have hmn : m < ws.length := by omega
          obtain ⟨gr, o, q, cs, rfl, hSg, hq, he, hl, hat⟩ := RowsOf.get HR.out hmn
          have hgk := A6.out m q rfl hq
          obtain ⟨x, xv⟩ := q
          have hgv := fun W (hW : Below w.heap.size w W) => Gives_any W _ x xv (he.under hW (fun _ h => h)).2.1 he.2.2 (fun b hb => Nat.lt_of_lt_of_le hb hW.size)
          obtain ⟨f1, f2⟩ := and_bit_so (givesW_lt he.2.2) hlt hgk
          generalize givesW x = GW at hgv f1 f2
          obtain ⟨op', xa, xb, caps, want, opn⟩ := x
          obtain ⟨wo, wn, wl⟩ := want
          obtain ⟨rfl, hw, hcap⟩ := he
          obtain ⟨va, vc, ve, -⟩ := hw.open_
          obtain rfl : xv = .slice va wl.length vc := by injection ve with _ ve; injection ve with _ ve; injection ve
          simp only [WX.cells, WT.op, WT.num] at hgv
          have hat' : w4.rangeAt gr (o + m * 8) _ := rangeAt_keep hat fun y => HM4.out.2.2.cell (p := ⟨gr, y, none⟩) hSg
          have d0 := hat' 0 _ rfl
          have d1 := hat' 1 _ rfl
          have d2 := hat' 2 _ rfl
          have d3 := hat' 3 _ rfl
          have d4 := hat' 4 _ rfl
          have d5 := hat' 5 _ rfl
          have d6 := hat' 6 _ rfl
          have d7 := hat' 7 _ rfl
          simp only [Nat.add_zero] at d0
          simp only [WT.op, WT.num] at d4 d5
          have HGV := Lib.hid hgv
          have hj0 : (0 : Int) ≤ (m : Int) := by omega
          have hj1 : (m : Int) < (ws.length : Int) := by omega
          clear hgv hat hat' hw hcap hq hl ve hgk
          go_wp2_with fail
          refine (HGV.out _ HM4.out.2.2).mono ?_
          rintro e w5 ⟨rfl, hb5⟩
          have HM5 := Lib.hid (HM4.out.on hb5)
          clear x0 x1 x2 x3 d0 d1 d2 d3 d4 d5 d6 d7 hb5
          obtain ⟨x0, x1, x2, x3⟩ := HM5.out.cells
          go_wp2_with fail
          refine (HCR.out _ HM5.out.2.2).mono ?_
          rintro e w6 ⟨rfl, hb6⟩
          have HM6 := Lib.hid (HM5.out.on hb6)
          clear x0 x1 x2 x3 hb6
          obtain ⟨x0, x1, x2, x3⟩ := HM6.out.cells
          go_wp2_with fail
          go_loopw [7] (fun iv wr => (∃ i : Nat, iv = .int .i64 (i : Int) ∧ (m + 1) ≤ i ∧ i ≤ ws.length + 1) ∧ XM w op num c ws (.slice (some ⟨gr, o, none⟩) ws.length d) g wr) (fun iv _ => ws.length + 1 - (intOf iv).toNat)
          case atStart => exact ⟨⟨(m + 1), rfl, Nat.le_refl _, by omega⟩, HM6.out⟩
          case round =>
            clear x0 x1 x2 x3
            obtain ⟨⟨i, rfl, hi1, hi2⟩, hM⟩ := hrel
            by_cases hlt2 : i < ws.length + 1
            · have z0 := hM.2.1 i (by omega)
              have hz := A7.out i (by omega) (by omega) (by omega)
              obtain ⟨y1, y2⟩ := and_bit_so (HA.out i) hlt hz
              have HM7 := Lib.hid hM
              generalize sh c ws i = SI at z0 y1 y2
              have hj0 : (0 : Int) ≤ (i : Int) := by omega
              have hj1 : (i : Int) < (ws.length : Int) + 1 := by omega
              clear hM hz
              go_wp2_with fail
              go_roundw
              case rel => exact ⟨⟨i + 1, by go_num, by omega, by omega⟩, HM7.out⟩
              case measure => simp [intOf]; omega
            · obtain rfl : i = ws.length + 1 := by omega
              have HM7 := Lib.hid hM
              clear hM
              go_wp2_with fail
              go_roundw
              case rel => exact ⟨⟨k + 1, by go_num, by omega⟩, HM7.out⟩
              case measure => simp [intOf]; omega
    · obtain rfl : k = 11 := by omega
      have hB := hM.2.2
      go_wp2_with fail
      refine (awake_any _).mono ?_
      rintro e w3 ⟨rfl, hb3⟩
      have hB3 := below_on hb3 hB
      go_wp2_with fail
      go_ret
      exact ⟨rfl, hB3⟩
end Go.Proofs.Ytlnlefebcfnocaa
