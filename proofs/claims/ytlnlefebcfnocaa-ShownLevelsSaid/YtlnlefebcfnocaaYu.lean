/- The walk of ShownLevels. -/
import Derived.Test.YtlnlefebcfnocaaYt
namespace Go.Proofs.Ytlnlefebcfnocaa
open Go.RowKit Go.Deep
attribute [local go_sem] Go.undef

set_option maxRecDepth 100000 in
set_option maxHeartbeats 8000000 in
theorem same_any (w : World) (c n : Nat) (ws : List (WX × Value)) (g1 g2 p1 p2 : Nat) (h1 : ∀ j, j ≤ n → w.cell? ⟨g1, j, none⟩ = some (.int .u32 (sh c ws j : Int))) (h2 : ∀ j, j ≤ n → w.cell? ⟨g2, j, none⟩ = some (.int .u32 (sh c ws j : Int))) (_hp1 : n + 1 ≤ p1) (_hp2 : n + 1 ≤ p2) (hn : n ≤ 1048576) :
    Calls Try.prog 23 #[.slice (some ⟨g1, 0, none⟩) (n + 1) p1, .slice (some ⟨g2, 0, none⟩) (n + 1) p2] w fun e w' => e = .returned (.bool true) ∧ Below w.heap.size w w' := by
  have HC1 := Lib.hid h1
  have HC2 := Lib.hid h2
  clear h1 h2
  go_enter Try.func23, Try.ntmps23
  simp only [Go.undef]
  go_wp2_with fail
  go_loopw [13] (fun iv wr => (∃ j : Nat, iv = .int .i64 (j : Int) ∧ j ≤ n + 1) ∧ ∃ q, wr = w.drewN q) (fun iv _ => n + 1 - (intOf iv).toNat)
  case atStart => exact ⟨⟨0, rfl, Nat.zero_le _⟩, 0, rfl⟩
  case round =>
    obtain ⟨⟨j, rfl, hj⟩, q, rfl⟩ := hrel
    by_cases hlt : j < n + 1
    · have d1 := HC1.out j (by omega)
      have d2 := HC2.out j (by omega)
      generalize sh c ws j = A at d1 d2
      have hi0 : (0 : Int) ≤ (j : Int) := by omega
      have hi1 : (j : Int) < (n : Int) + 1 := by omega
      go_wp2_with fail
      go_quiet (fail)
      go_wp2_with fail
      go_roundw
      case rel => exact ⟨⟨j + 1, by go_num, by omega⟩, _, rfl⟩
      case measure => simp [intOf]; omega
    · obtain rfl : j = n + 1 := by omega
      go_wp2_with fail
      go_ret
      exact ⟨rfl, below_drewN (Below.refl _ _) _⟩

set_option maxRecDepth 100000 in
set_option maxHeartbeats 32000000 in
theorem shownlevels_go (w : World) (op num : Int) (c : Nat) (ws : List (WX × Value)) (a : Option Addr) (n d : Nat) (hr : Wraps w (· < w.heap.size) ws a n d) (hc : c < 4294967296) :
    Calls Try.prog 8 #[.agg #[.int .i64 op, .int .i64 num, .int .u32 (c : Int), .slice a n d]] w fun e w' => e = .returned (.bool true) ∧ Below w.heap.size w w' := by
  have hu := fun W (hW : Below w.heap.size w W) => hr.under hW (fun _ h => h)
  have hw := fun W (hW : Below w.heap.size w W) b (hb : b < w.heap.size) => Nat.lt_of_lt_of_le hb hW.size
  have hch := fun W (hW : Below w.heap.size w W) => chain_any W _ op num c ws a n d (hu W hW) (hw W hW) hc
  have h1 := fun (hn : n ≤ 8) W (hW : Below w.heap.size w W) => levels_go W _ op num c ws a n d (hu W hW) (hw W hW) (by omega) hc
  have h2 := fun (hn : n ≤ 8) W (hW : Below w.heap.size w W) => rlevels_any W _ op num c ws a n d (hu W hW) (hw W hW) (by omega) hc
  have h3 := fun (hn : n ≤ 8) W (hW : Below w.heap.size w W) => shown_any W _ op num c ws a n d (hu W hW) (hw W hW) (by omega) hc
  have h4 := fun (hn : n ≤ 8) W (hW : Below w.heap.size w W) => rshown_any W _ op num c ws a n d (hu W hW) (hw W hW) (by omega) hc
  have h5 := fun (hn : n ≤ 8) W (hW : Below w.heap.size w W) => Lost_any W _ op num c ws a n d (hu W hW) (hw W hW) (by omega) hc
  have h6 := fun (hf : FitC c ws) W (hW : Below w.heap.size w W) => rlost_any W _ op num c ws a n d hf (hu W hW) (hw W hW) hc
  obtain rfl : n = ws.length := hr.1
  have HCH := Lib.hid hch
  have G1 := Lib.hid h1
  have G2 := Lib.hid h2
  have G3 := Lib.hid h3
  have G4 := Lib.hid h4
  have G5 := Lib.hid h5
  have G6 := Lib.hid h6
  have HR := Lib.hid hr
  have hcl : d ≤ maxLen := hr.2.2.1
  have hlc : ws.length ≤ d := hr.2.1
  unfold maxLen at hcl
  clear hu hw hch h1 h2 h3 h4 h5 h6 hr
  go_enter Try.func8, Try.ntmps8
  simp only [Go.undef]
  go_wp2_with fail
  refine (HCH.out _ (by go_grown)).mono ?_
  rintro e w1 ⟨⟨b, rfl, hf⟩, hb1⟩
  have HB1 : Hid (Blk w1 w.heap.size 28 #[.int .i64 op, .int .i64 num, .int .u32 (c : Int), .slice a ws.length d]) := (Blk.new' _ _ _ (by simp)).under hb1 (by simp)
  have hbW : Below w.heap.size w w1 := below_on hb1 (by go_grown)
  have x0 := HB1.out.cell 0
  have x1 := HB1.out.cell 1
  have x2 := HB1.out.cell 2
  have x3 := HB1.out.cell 3
  simp only [List.getElem?_toArray, List.getElem?_cons_succ, List.getElem?_cons_zero] at x0 x1 x2 x3
  clear hb1
  cases b
  · go_wp2_with fail
    refine (awake_any _).mono ?_
    rintro e w2 ⟨rfl, hb2⟩
    have hB2 := below_on hb2 hbW
    go_wp2_with fail
    go_ret
    exact ⟨rfl, hB2⟩
  have HF := Lib.hid (hf rfl)
  clear hf
  have h8 : ws.length ≤ 8 := HF.out.2.1
  go_wp2_with fail
  go_loopw [12] (fun iv w' => (∃ q : Nat, iv = .int .i64 (q : Int) ∧ q ≤ ws.length) ∧ w'.cell? ⟨w.heap.size, 0, none⟩ = some (.int .i64 op) ∧ w'.cell? ⟨w.heap.size, 1, none⟩ = some (.int .i64 num) ∧ w'.cell? ⟨w.heap.size, 2, none⟩ = some (.int .u32 (c : Int)) ∧ w'.cell? ⟨w.heap.size, 3, none⟩ = some (.slice a ws.length d) ∧ Below w.heap.size w w') (fun iv _ => ws.length - (intOf iv).toNat)
  case atStart => exact ⟨⟨0, rfl, Nat.zero_le _⟩, x0, x1, x2, x3, hbW⟩
  case round =>
    clear x0 x1 x2 x3 hbW
    obtain ⟨⟨q, rfl, hq⟩, x0, x1, x2, x3, hbW⟩ := hrel
    by_cases hlt : q < ws.length
    · obtain ⟨gr, o, p, cs, rfl, hSg, hp, he, hl, hat⟩ := RowsOf.get HR.out hlt
      obtain ⟨x, v⟩ := p
      have hg1 := fun W (hW : Below w.heap.size w W) => Gives_any W _ x v (he.under hW (fun _ h => h)).2.1 he.2.2 (fun b hb => Nat.lt_of_lt_of_le hb hW.size)
      have hg2 := fun W => rgives_any W x v he.2.2
      generalize givesW x = GW at hg1 hg2
      obtain ⟨op', xa, xb, caps, want, opn⟩ := x
      obtain ⟨wo, wn, wl⟩ := want
      obtain ⟨rfl, hw, hcap⟩ := he
      obtain ⟨va, vc, ve, -⟩ := hw.open_
      obtain rfl : v = .slice va wl.length vc := by injection ve with _ ve; injection ve with _ ve; injection ve
      simp only [WX.cells, WT.op, WT.num] at hg1 hg2
      have hat' : wr.rangeAt gr (o + q * 8) _ := rangeAt_keep hat fun y => hbW.cell (p := ⟨gr, y, none⟩) hSg
      have d0 := hat' 0 _ rfl
      have d1 := hat' 1 _ rfl
      have d2 := hat' 2 _ rfl
      have d3 := hat' 3 _ rfl
      have d4 := hat' 4 _ rfl
      have d5 := hat' 5 _ rfl
      have d6 := hat' 6 _ rfl
      have d7 := hat' 7 _ rfl
      simp only [Nat.add_zero] at d0
      simp only [WT.op, WT.num] at d4 d5
      have P1 := Lib.hid hg1
      have P2 := Lib.hid hg2
      have hj0 : (0 : Int) ≤ (q : Int) := by omega
      have hj1 : (q : Int) < (ws.length : Int) := by omega
      have X0 := Lib.hid x0
      have X1 := Lib.hid x1
      have X2 := Lib.hid x2
      have X3 := Lib.hid x3
      have XB := Lib.hid hbW
      have hbs := hbW.size
      clear hg1 hg2 hat hat' hw hcap hp hl ve x0 x1 x2 x3 hbW
      go_wp2_with fail
      have hP : Blk (wr.alloc (.cells #[.int .i64 op', .int .i64 xa, .int .i64 xb, .int .u32 (caps : Int), .int .i64 wo, .int .i64 wn, .slice va wl.length vc, .bool opn] 37)) wr.heap.size 37 #[.int .i64 op', .int .i64 xa, .int .i64 xb, .int .u32 (caps : Int), .int .i64 wo, .int .i64 wn, .slice va wl.length vc, .bool opn] := Blk.new _ _ _
      have hA : Below w.heap.size w (wr.alloc (.cells #[.int .i64 op', .int .i64 xa, .int .i64 xb, .int .u32 (caps : Int), .int .i64 wo, .int .i64 wn, .slice va wl.length vc, .bool opn] 37)) := XB.out.alloc hbs _
      have hA2 : Below wr.heap.size wr (wr.alloc (.cells #[.int .i64 op', .int .i64 xa, .int .i64 xb, .int .u32 (caps : Int), .int .i64 wo, .int .i64 wn, .slice va wl.length vc, .bool opn] 37)) := (Below.refl _ _).alloc (Nat.le_refl _) _
      clear d0 d1 d2 d3 d4 d5 d6 d7
      generalize (wr.alloc (.cells #[.int .i64 op', .int .i64 xa, .int .i64 xb, .int .u32 (caps : Int), .int .i64 wo, .int .i64 wn, .slice va wl.length vc, .bool opn] 37)) = W at hP hA hA2 ⊢
      have x0 := hP.cell 0
      have x1 := hP.cell 1
      have x2 := hP.cell 2
      have x3 := hP.cell 3
      have x4 := hP.cell 4
      have x5 := hP.cell 5
      have x6 := hP.cell 6
      have x7 := hP.cell 7
      simp only [List.getElem?_toArray, List.getElem?_cons_succ, List.getElem?_cons_zero] at x0 x1 x2 x3 x4 x5 x6 x7
      clear hP
      go_region_held3 (fun w' => w'.cell? ⟨wr.heap.size, 0, none⟩ = some (.int .i64 op') ∧ w'.cell? ⟨wr.heap.size, 1, none⟩ = some (.int .i64 xa) ∧ w'.cell? ⟨wr.heap.size, 2, none⟩ = some (.int .i64 xb) ∧ w'.cell? ⟨wr.heap.size, 3, none⟩ = some (.int .u32 (caps : Int)) ∧ w'.cell? ⟨wr.heap.size, 4, none⟩ = some (.int .i64 wo) ∧ w'.cell? ⟨wr.heap.size, 5, none⟩ = some (.int .i64 wn) ∧ w'.cell? ⟨wr.heap.size, 6, none⟩ = some (.slice va wl.length vc) ∧ w'.cell? ⟨wr.heap.size, 7, none⟩ = some (.bool opn) ∧ Below w.heap.size w w' ∧ Below wr.heap.size wr w')
        (first
          | (exact ⟨x0, x1, x2, x3, x4, x5, x6, x7, hA.drew, hA2.drew⟩)
          | (go_split_ands; exact ⟨by assumption, by assumption, by assumption, by assumption, by assumption, by assumption, by assumption, by assumption, by assumption, by assumption⟩)
          | (go_split_ands; exact ⟨cell_on hb (by assumption), cell_on hb (by assumption), cell_on hb (by assumption), cell_on hb (by assumption), cell_on hb (by assumption), cell_on hb (by assumption), cell_on hb (by assumption), cell_on hb (by assumption), below_on hb (by assumption), below_on hb (by assumption)⟩))
        (first
          | (go_split_ands; go_at_call 21; refine (P1.out _ (by assumption)).mono ?_; rintro e w1 ⟨rfl, hb⟩)
          | (go_split_ands; go_at_call 22; refine (P2.out _).mono ?_; rintro e w1 ⟨rfl, hb⟩))
      go_split_ands
      go_wp2_with fail
      go_roundw
      case rel => exact ⟨⟨q + 1, by go_num, by omega⟩, cell_on (by assumption) X0.out, cell_on (by assumption) X1.out, cell_on (by assumption) X2.out, cell_on (by assumption) X3.out, by assumption⟩
      case measure => simp [intOf]; omega
    · obtain rfl : q = ws.length := by omega
      have P1 := Lib.hid (G1.out h8)
      have P2 := Lib.hid (G2.out h8)
      have P3 := Lib.hid (G3.out h8)
      have P4 := Lib.hid (G4.out h8)
      have P5 := Lib.hid (G5.out h8)
      have P6 := Lib.hid (G6.out HF.out)
      have hsm := fun (W : World) g1 g2 p1 p2 h1 h2 hp1 hp2 => same_any W c ws.length ws g1 g2 p1 p2 h1 h2 hp1 hp2 (by omega)
      have HSM := Lib.hid hsm
      clear hsm
      generalize sh c ws ws.length = SH at P3 P4
      generalize lostN c ws 11 = LO at P5 P6
      go_wp2_with fail
      go_region_held3 (fun w' => w'.cell? ⟨w.heap.size, 0, none⟩ = some (.int .i64 op) ∧ w'.cell? ⟨w.heap.size, 1, none⟩ = some (.int .i64 num) ∧ w'.cell? ⟨w.heap.size, 2, none⟩ = some (.int .u32 (c : Int)) ∧ w'.cell? ⟨w.heap.size, 3, none⟩ = some (.slice a ws.length d) ∧ Below w.heap.size w w')
        (first
          | (exact ⟨x0, x1, x2, x3, hbW.drew⟩)
          | (go_split_ands; exact ⟨by assumption, by assumption, by assumption, by assumption, by assumption⟩)
          | (go_split_ands; exact ⟨cell_on hb (by assumption), cell_on hb (by assumption), cell_on hb (by assumption), cell_on hb (by assumption), below_on hb (by assumption)⟩))
        (first
          | (go_split_ands; go_at_call 15; refine (P1.out _ (by assumption)).mono ?_; rintro e wa ⟨g1, p1, rfl, hp1, hc1, hb⟩; have HC1 := Lib.hid hc1; clear hc1)
          | (go_split_ands; go_at_call 24; refine (P2.out _ (by assumption)).mono ?_; rintro e wb ⟨g2, p2, rfl, hp2, hc2, hb⟩; have HC2 := Lib.hid hc2; have HC1b := Lib.hid (fun j hj => cell_on hb (HC1.out j hj)); clear hc2)
          | (go_split_ands; go_at_call 23; refine (HSM.out _ _ _ _ _ HC1b.out HC2.out hp1 hp2).mono ?_; rintro e wc ⟨rfl, hb⟩)
          | (go_split_ands; go_at_call 12; refine (P3.out _ (by assumption)).mono ?_; rintro e w1 ⟨rfl, hb⟩)
          | (go_split_ands; go_at_call 25; refine (P4.out _ (by assumption)).mono ?_; rintro e w1 ⟨rfl, hb⟩)
          | (go_split_ands; go_at_call 26; refine (P5.out _ (by assumption)).mono ?_; rintro e w1 ⟨rfl, hb⟩)
          | (go_split_ands; go_at_call 27; refine (P6.out _ (by assumption)).mono ?_; rintro e w1 ⟨rfl, hb⟩)
          | (go_split_ands; go_at_call 10; refine (awake_any _).mono ?_; rintro e w1 ⟨rfl, hb⟩))
      go_split_ands
      go_wp2_with fail
      go_ret
      exact ⟨rfl, by assumption⟩
end Go.Proofs.Ytlnlefebcfnocaa
