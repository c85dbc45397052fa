/- The walk of ShownWho. -/
import Derived.Test.YtlnlefebcfnocaaYs
namespace Go.Proofs.Ytlnlefebcfnocaa
open Go.RowKit Go.Deep
attribute [local go_sem] Go.undef

set_option maxRecDepth 100000 in
set_option maxHeartbeats 32000000 in
theorem shownwho_go (w : World) (op num : Int) (c : Nat) (k : Int) (ws : List (WX × Value)) (a : Option Addr) (n d : Nat) (hr : Wraps w (· < w.heap.size) ws a n d) (hc : c < 4294967296) :
    Calls Try.prog 5 #[.agg #[.int .i64 op, .int .i64 num, .int .u32 (c : Int), .slice a n d], .int .i64 k] w fun e w' => e = .returned (.bool true) ∧ Below w.heap.size w w' := by
  have hu := fun W (hW : Below w.heap.size w W) => hr.under hW (fun _ h => h)
  have hw := fun W (hW : Below w.heap.size w W) b (hb : b < w.heap.size) => Nat.lt_of_lt_of_le hb hW.size
  have hch := fun W (hW : Below w.heap.size w W) => chain_any W _ op num c ws a n d (hu W hW) (hw W hW) hc
  have h1 := fun (hn : n ≤ 8) k W (hW : Below w.heap.size w W) => Who_any W _ op num c ws a n d k (hu W hW) (hw W hW) (by omega) hc
  have h2 := fun (hn : n ≤ 8) k W (hW : Below w.heap.size w W) => rwho_any W _ op num c ws a n d k (hu W hW) (hw W hW) (by omega) hc
  have h3 := fun (hn : n ≤ 8) k W (hW : Below w.heap.size w W) => Reach_any W _ op num c ws a n d k (hu W hW) (hw W hW) (by omega) hc
  have h4 := fun (hf : FitC c ws) k W (hW : Below w.heap.size w W) => rreach_any W _ op num c ws a n d k hf (hu W hW) (hw W hW) hc
  obtain rfl : n = ws.length := hr.1
  have HCH := Lib.hid hch
  have G1 := Lib.hid h1
  have G2 := Lib.hid h2
  have G3 := Lib.hid h3
  have G4 := Lib.hid h4
  clear hu hw hch h1 h2 h3 h4 hr
  go_enter Try.func5, Try.ntmps5
  simp only [Go.undef]
  go_wp2_with fail
  refine (HCH.out _ (by go_grown)).mono ?_
  rintro e w1 ⟨⟨b, rfl, hf⟩, hb1⟩
  have HB1 : Hid (Blk w1 w.heap.size 28 #[.int .i64 op, .int .i64 num, .int .u32 (c : Int), .slice a ws.length d]) := (Blk.new' _ _ _ (by simp)).under hb1 (by simp)
  have hbW : Below w.heap.size w w1 := below_on hb1 (by go_grown)
  have x0 := HB1.out.cell 0
  have x1 := HB1.out.cell 1
  have x2 := HB1.out.cell 2
  have x3 := HB1.out.cell 3
  simp only [List.getElem?_toArray, List.getElem?_cons_succ, List.getElem?_cons_zero] at x0 x1 x2 x3
  clear hb1
  cases b
  · go_wp2_with fail
    refine (awake_any _).mono ?_
    rintro e w2 ⟨rfl, hb2⟩
    have hB2 := below_on hb2 hbW
    go_wp2_with fail
    go_ret
    exact ⟨rfl, hB2⟩
  have HF := Lib.hid (hf rfl)
  clear hf
  have h8 : ws.length ≤ 8 := HF.out.2.1
  go_wp2_with fail
  go_loopw [5] (fun iv w' => (∃ q : Nat, iv = .int .i64 (q : Int) ∧ q ≤ 11) ∧ w'.cell? ⟨w.heap.size, 0, none⟩ = some (.int .i64 op) ∧ w'.cell? ⟨w.heap.size, 1, none⟩ = some (.int .i64 num) ∧ w'.cell? ⟨w.heap.size, 2, none⟩ = some (.int .u32 (c : Int)) ∧ w'.cell? ⟨w.heap.size, 3, none⟩ = some (.slice a ws.length d) ∧ Below w.heap.size w w') (fun iv _ => 11 - (intOf iv).toNat)
  case atStart => exact ⟨⟨0, rfl, Nat.zero_le _⟩, x0, x1, x2, x3, hbW⟩
  case round =>
    clear x0 x1 x2 x3 hbW
    obtain ⟨⟨q, rfl, hq⟩, x0, x1, x2, x3, hbW⟩ := hrel
    by_cases hlt : q < 11
    · have P1 := Lib.hid (G1.out h8 (q : Int))
      have P2 := Lib.hid (G2.out h8 (q : Int))
      have P3 := Lib.hid (G3.out h8 (q : Int))
      have P4 := Lib.hid (G4.out HF.out (q : Int))
      generalize whoW c ws (q : Int) = V at P1 P2
      generalize reachW c ws (q : Int) = R at P3 P4
      go_wp2_with fail
      go_region_held3 (fun w' => w'.cell? ⟨w.heap.size, 0, none⟩ = some (.int .i64 op) ∧ w'.cell? ⟨w.heap.size, 1, none⟩ = some (.int .i64 num) ∧ w'.cell? ⟨w.heap.size, 2, none⟩ = some (.int .u32 (c : Int)) ∧ w'.cell? ⟨w.heap.size, 3, none⟩ = some (.slice a ws.length d) ∧ Below w.heap.size w w')
        (first
          | (exact ⟨x0, x1, x2, x3, hbW.drew⟩)
          | (go_split_ands; exact ⟨by assumption, by assumption, by assumption, by assumption, by assumption⟩)
          | (go_split_ands; exact ⟨cell_on hb (by assumption), cell_on hb (by assumption), cell_on hb (by assumption), cell_on hb (by assumption), below_on hb (by assumption)⟩))
        (first
          | (go_split_ands; go_at_call 16; refine (P1.out _ (by assumption)).mono ?_; rintro e w1 ⟨rfl, hb⟩)
          | (go_split_ands; go_at_call 17; refine (P2.out _ (by assumption)).mono ?_; rintro e w1 ⟨rfl, hb⟩)
          | (go_split_ands; go_at_call 18; refine (P3.out _ (by assumption)).mono ?_; rintro e w1 ⟨rfl, hb⟩)
          | (go_split_ands; go_at_call 19; refine (P4.out _ (by assumption)).mono ?_; rintro e w1 ⟨rfl, hb⟩))
      go_split_ands
      go_wp2_with fail
      go_roundw
      case rel => exact ⟨⟨q + 1, by go_num, by omega⟩, by assumption, by assumption, by assumption, by assumption, by assumption⟩
      case measure => simp [intOf]; omega
    · obtain rfl : q = 11 := by omega
      have P1 := Lib.hid (G1.out h8 k)
      have P2 := Lib.hid (G2.out h8 k)
      have P3 := Lib.hid (G3.out h8 k)
      have P4 := Lib.hid (G4.out HF.out k)
      generalize whoW c ws k = V at P1 P2
      generalize reachW c ws k = R at P3 P4
      go_wp2_with fail
      go_region_held3 (fun w' => w'.cell? ⟨w.heap.size, 0, none⟩ = some (.int .i64 op) ∧ w'.cell? ⟨w.heap.size, 1, none⟩ = some (.int .i64 num) ∧ w'.cell? ⟨w.heap.size, 2, none⟩ = some (.int .u32 (c : Int)) ∧ w'.cell? ⟨w.heap.size, 3, none⟩ = some (.slice a ws.length d) ∧ Below w.heap.size w w')
        (first
          | (exact ⟨x0, x1, x2, x3, hbW.drew⟩)
          | (go_split_ands; exact ⟨by assumption, by assumption, by assumption, by assumption, by assumption⟩)
          | (go_split_ands; exact ⟨cell_on hb (by assumption), cell_on hb (by assumption), cell_on hb (by assumption), cell_on hb (by assumption), below_on hb (by assumption)⟩))
        (first
          | (go_split_ands; go_at_call 16; refine (P1.out _ (by assumption)).mono ?_; rintro e w1 ⟨rfl, hb⟩)
          | (go_split_ands; go_at_call 17; refine (P2.out _ (by assumption)).mono ?_; rintro e w1 ⟨rfl, hb⟩)
          | (go_split_ands; go_at_call 18; refine (P3.out _ (by assumption)).mono ?_; rintro e w1 ⟨rfl, hb⟩)
          | (go_split_ands; go_at_call 19; refine (P4.out _ (by assumption)).mono ?_; rintro e w1 ⟨rfl, hb⟩)
          | (go_split_ands; go_at_call 10; refine (awake_any _).mono ?_; rintro e w1 ⟨rfl, hb⟩))
      go_split_ands
      go_wp2_with fail
      go_ret
      exact ⟨rfl, by assumption⟩
end Go.Proofs.Ytlnlefebcfnocaa
