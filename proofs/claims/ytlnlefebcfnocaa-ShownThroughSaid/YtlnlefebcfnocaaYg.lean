/- The walk of ShownGrows. -/
import Derived.Test.YtlnlefebcfnocaaYp
namespace Go.Proofs.Ytlnlefebcfnocaa
open Go.RowKit Go.Deep
attribute [local go_sem] Go.undef

theorem own_on {w w1 : World} {B E size : Nat} {v : Value} {n : Nat} {xs : List Value} (h : w.ownsRow B E size v n xs) (hk : ∀ g, g < w.heap.size → w1.heap[g]? = w.heap[g]?) : w1.ownsRow B E size v n xs :=
  own_keep h fun g hg => hk g (own_row h g hg).2
def LV (e : Ending) (c : Nat) (ws : List (WX × Value)) (n : Nat) (w w' : World) : Prop :=
  ∃ g cap, e = .returned (.slice (some ⟨g, 0, none⟩) (n + 1) cap) ∧ n + 1 ≤ cap ∧ (∀ j, j ≤ n → w'.cell? ⟨g, j, none⟩ = some (.int .u32 (sh c ws j : Int))) ∧ Below w.heap.size w w'
theorem levels_go (w : World) (S : Nat → Prop) (op num : Int) (c : Nat) (ws : List (WX × Value)) (a : Option Addr) (n d : Nat) (hr : Wraps w S ws a n d) (hS : ∀ b, S b → b < w.heap.size) (hn : n ≤ 1048576) (hc : c < 4294967296) :
    Calls Try.prog 15 #[.agg #[.int .i64 op, .int .i64 num, .int .u32 (c : Int), .slice a n d]] w fun e w' => LV e c ws n w w' := by
  refine (levels_any w S op num c ws a n d hr hS hn hc).mono ?_
  rintro e w1 ⟨a1, c1, rfl, hown, hb⟩
  obtain ⟨g, cap, e3, -, hcap, -⟩ := own_at hown (j := 0) (by omega)
  injection e3 with e3 _ e3'
  subst e3 e3'
  refine ⟨g, c1, rfl, hcap, fun j hj => ?_, hb⟩
  rw [hown.cellAt j (by omega), shv_at c ws (by omega)]

/-- What lies in memory of a chain that came in and of one that is grown. -/
def GM (w : World) (op num : Int) (c D : Nat) (s : Value) (w' : World) : Prop :=
  Blk w' w.heap.size 28 #[.int .i64 op, .int .i64 num, .int .u32 (c : Int), s] ∧ Blk w' (w.heap.size + 1) 28 #[.int .i64 op, .int .i64 num, .int .u32 (D : Int), s] ∧ Below w.heap.size w w'
theorem GM.on {w : World} {op num : Int} {c D : Nat} {s : Value} {w1 w2 : World} (h : GM w op num c D s w1) (hb : Below w1.heap.size w1 w2) : GM w op num c D s w2 :=
  ⟨h.1.under hb h.1.lt, h.2.1.under hb h.2.1.lt, below_on hb h.2.2⟩
theorem GM.start {w : World} {op num : Int} {c D : Nat} {s u : Value} {w1 : World} (hu : u = .int .u32 (D : Int))
    (hb : Below ((w.alloc (.cells #[.int .i64 op, .int .i64 num, .int .u32 (c : Int), s] 28)).alloc (.cells #[.int .i64 op, .int .i64 num, u, s] 28)).heap.size
      ((w.alloc (.cells #[.int .i64 op, .int .i64 num, .int .u32 (c : Int), s] 28)).alloc (.cells #[.int .i64 op, .int .i64 num, u, s] 28)) w1) : GM w op num c D s w1 := by
  subst hu
  refine ⟨?_, ?_, below_on hb (by go_grown)⟩
  · exact ((Blk.new w _ _).alloc _).under hb (by simp; omega)
  · exact (Blk.new' (n := w.heap.size + 1) _ _ _ (by simp)).under hb (by simp)
theorem GM.cells {w : World} {op num : Int} {c D : Nat} {s : Value} {w1 : World} (h : GM w op num c D s w1) :
    w1.cell? ⟨w.heap.size, 0, none⟩ = some (.int .i64 op) ∧ w1.cell? ⟨w.heap.size, 1, none⟩ = some (.int .i64 num) ∧ w1.cell? ⟨w.heap.size, 2, none⟩ = some (.int .u32 (c : Int)) ∧ w1.cell? ⟨w.heap.size, 3, none⟩ = some s ∧
    w1.cell? ⟨w.heap.size + 1, 0, none⟩ = some (.int .i64 op) ∧ w1.cell? ⟨w.heap.size + 1, 1, none⟩ = some (.int .i64 num) ∧ w1.cell? ⟨w.heap.size + 1, 2, none⟩ = some (.int .u32 (D : Int)) ∧ w1.cell? ⟨w.heap.size + 1, 3, none⟩ = some s :=
  ⟨h.1.cell 0, h.1.cell 1, h.1.cell 2, h.1.cell 3, h.2.1.cell 0, h.2.1.cell 1, h.2.1.cell 2, h.2.1.cell 3⟩

set_option maxRecDepth 100000 in
set_option maxHeartbeats 16000000 in
theorem grows_go (w : World) (op num : Int) (c m : Nat) (ws : List (WX × Value)) (a : Option Addr) (n d : Nat) (hr : Wraps w (· < w.heap.size) ws a n d) (hc : c < 4294967296) (hm : m < 4294967296) :
    Calls Try.prog 4 #[.agg #[.int .i64 op, .int .i64 num, .int .u32 (c : Int), .slice a n d], .int .u32 (m : Int)] w fun e w' => e = .returned (.bool true) ∧ Below w.heap.size w w' := by
  have e1 : bits .and .u32 (m : Int) 1023 = ((m &&& 1023 : Nat) : Int) := bits32_and (a := m) (b := 1023) hm (by omega)
  have hM : m &&& 1023 < 4294967296 := and_lt hm
  generalize m &&& 1023 = M at e1 hM
  have e2 := bits32_or (a := c) (b := M) hc hM
  have hD : c ||| M < 4294967296 := or_lt hc hM
  have hG := grows c M ws
  generalize c ||| M = D at e2 hD hG
  have hu := fun W (hW : Below w.heap.size w W) => hr.under hW (fun _ h => h)
  have hw := fun W (hW : Below w.heap.size w W) b (hb : b < w.heap.size) => Nat.lt_of_lt_of_le hb hW.size
  have hch := fun C (hC : C < 4294967296) W (hW : Below w.heap.size w W) => chain_any W _ op num C ws a n d (hu W hW) (hw W hW) hC
  have hlv := fun C (hC : C < 4294967296) (hn : n ≤ 8) W (hW : Below w.heap.size w W) => levels_go W _ op num C ws a n d (hu W hW) (hw W hW) (by omega) hC
  have hsn := fun C (hC : C < 4294967296) (hn : n ≤ 8) W (hW : Below w.heap.size w W) => shown_any W _ op num C ws a n d (hu W hW) (hw W hW) (by omega) hC
  obtain rfl : n = ws.length := hr.1
  have HC1 := Lib.hid (hch c hc)
  have HC2 := Lib.hid (hch D hD)
  have HL1 := Lib.hid (hlv c hc)
  have HL2 := Lib.hid (hlv D hD)
  have HS1 := Lib.hid (hsn c hc)
  have HS2 := Lib.hid (hsn D hD)
  have HG := Lib.hid hG
  have HA : Hid (∀ j, j ≤ ws.length → ws.length ≤ 8 → sh c ws j < 4294967296 ∧ sh D ws j < 4294967296) := fun j _ _ => ⟨sh_lt hc hr.cap j, sh_lt hD hr.cap j⟩
  clear hu hw hch hlv hsn hG hr hm hM
  go_enter Try.func4, Try.ntmps4
  simp only [Go.undef]
  go_wp2_with fail
  refine (HC1.out _ (by go_grown)).mono ?_
  rintro e w1 ⟨⟨b, rfl, hf⟩, hb1⟩
  have HM1 := Lib.hid (GM.start (D := D) (by rw [← e2, ← e1]) hb1)
  clear hb1
  have hB1 := HM1.out.2.2
  obtain ⟨x0, x1, x2, x3, y0, y1, y2, y3⟩ := HM1.out.cells
  cases b
  · go_wp2_with fail
    refine (awake_any _).mono ?_
    rintro e w2 ⟨rfl, hb2⟩
    have hB2 := below_on hb2 hB1
    go_wp2_with fail
    go_ret
    exact ⟨rfl, hB2⟩
  have HF := Lib.hid (hf rfl)
  clear hf
  have h8 : ws.length ≤ 8 := HF.out.2.1
  go_wp2_with fail
  refine (HC2.out _ hB1).mono ?_
  rintro e w2 ⟨⟨b, rfl, hf⟩, hb2⟩
  have HM2 := Lib.hid (HM1.out.on hb2)
  clear x0 x1 x2 x3 y0 y1 y2 y3 hb2 hf
  have hB2 := HM2.out.2.2
  obtain ⟨x0, x1, x2, x3, y0, y1, y2, y3⟩ := HM2.out.cells
  cases b
  · go_wp2_with fail
    refine (awake_any _).mono ?_
    rintro e w3 ⟨rfl, hb3⟩
    have hB3 := below_on hb3 hB2
    go_wp2_with fail
    go_ret
    exact ⟨rfl, hB3⟩
  go_wp2_with fail
  have HB2d : Hid (Below w.heap.size w w2.drew) := Lib.hid hB2.drew
  have HGM : Hid (∀ W', Below w2.drew.heap.size w2.drew W' → GM w op num c D (.slice a ws.length d) W') := fun W' hb => GM.on (w1 := w2.drew) ⟨HM2.out.1.drew, HM2.out.2.1.drew, HM2.out.2.2.drew⟩ hb
  have kb := Below.refl w2.drew.heap.size w2.drew
  clear hB1 hB2 HM1
  go_region_with (first
    | (go_at_call_of 15 (Value.int .u32 (c : Int)); refine (HL1.out h8 _ ?_).mono ?_; exact below_on kb HB2d.out; rintro e wz ⟨g1, p1, rfl, hp1, hc1, hbz⟩; have kb' := below_on hbz kb; clear kb; have kb := kb'; clear kb'; clear x0 x1 x2 x3 y0 y1 y2 y3; obtain ⟨x0, x1, x2, x3, y0, y1, y2, y3⟩ := (HGM.out _ kb).cells; have CC1 := Lib.hid hc1; clear hc1; try (have CC2' := Lib.hid (fun j hj => cell_on hbz (CC2.out j hj)); clear CC2; have CC2 := CC2'; clear CC2'))
    | (go_at_call_of 15 (Value.int .u32 (D : Int)); refine (HL2.out h8 _ ?_).mono ?_; exact below_on kb HB2d.out; rintro e wz ⟨g2, p2, rfl, hp2, hc2, hbz⟩; have kb' := below_on hbz kb; clear kb; have kb := kb'; clear kb'; clear x0 x1 x2 x3 y0 y1 y2 y3; obtain ⟨x0, x1, x2, x3, y0, y1, y2, y3⟩ := (HGM.out _ kb).cells; have CC2 := Lib.hid hc2; clear hc2; try (have CC1' := Lib.hid (fun j hj => cell_on hbz (CC1.out j hj)); clear CC1; have CC1 := CC1'; clear CC1')))
  all_goals
    have HZ := Lib.hid (HGM.out _ kb)
    clear kb hbz
    go_wp2_with fail
    go_loopw [38] (fun iv wr => (∃ j : Nat, iv = .int .i64 (j : Int) ∧ j ≤ ws.length + 1) ∧ ∃ q, wr = wz.drewN q) (fun iv _ => ws.length + 1 - (intOf iv).toNat)
    case atStart => exact ⟨⟨0, rfl, Nat.zero_le _⟩, 0, rfl⟩
    case round =>
      obtain ⟨⟨j, rfl, hj⟩, q, rfl⟩ := hrel
      by_cases hlt : j < ws.length + 1
      · have d1 := CC1.out j (by omega)
        have d2 := CC2.out j (by omega)
        have hlt32 := HA.out j (by omega) h8
        have e3 := bits32_clr hlt32.1 hlt32.2
        rw [HG.out j] at e3
        generalize sh c ws j = A at d1 e3
        generalize sh D ws j = B at d2 e3
        have e4 : bits .andNot .u32 (A : Int) (B : Int) = 0 := e3
        have hi0 : (0 : Int) ≤ (j : Int) := by omega
        have hi1 : (j : Int) < (ws.length : Int) + 1 := by omega
        clear hlt32 e3
        go_wp2_with fail
        go_quiet (fail)
        go_wp2_with fail
        go_roundw
        case rel => exact ⟨⟨j + 1, by go_num, by omega⟩, _, rfl⟩
        case measure => simp [intOf]; omega
      · obtain rfl : j = ws.length + 1 := by omega
        have hlt32 := HA.out ws.length (by omega) h8
        have e3 := bits32_clr hlt32.1 hlt32.2
        rw [HG.out ws.length] at e3
        have HSA := Lib.hid (HS1.out h8)
        have HSB := Lib.hid (HS2.out h8)
        generalize sh c ws ws.length = A at HSA e3
        generalize sh D ws ws.length = B at HSB e3
        have e4 : bits .andNot .u32 (A : Int) (B : Int) = 0 := e3
        have hq : GM w op num c D (.slice a ws.length d) (wz.drewN q) := HZ.out.on (below_drewN (Below.refl _ _) q)
        have HQ := Lib.hid hq
        generalize wz.drewN q = W at HQ ⊢
        clear e3 hlt32 x0 x1 x2 x3 y0 y1 y2 y3 hq
        obtain ⟨x0, x1, x2, x3, y0, y1, y2, y3⟩ := HQ.out.cells
        have hbW := HQ.out.2.2
        go_wp2_with fail
        go_region_held3 (fun w' => w'.cell? ⟨w.heap.size, 0, none⟩ = some (.int .i64 op) ∧ w'.cell? ⟨w.heap.size, 1, none⟩ = some (.int .i64 num) ∧ w'.cell? ⟨w.heap.size, 2, none⟩ = some (.int .u32 (c : Int)) ∧ w'.cell? ⟨w.heap.size, 3, none⟩ = some (.slice a ws.length d) ∧ w'.cell? ⟨w.heap.size + 1, 0, none⟩ = some (.int .i64 op) ∧ w'.cell? ⟨w.heap.size + 1, 1, none⟩ = some (.int .i64 num) ∧ w'.cell? ⟨w.heap.size + 1, 2, none⟩ = some (.int .u32 (D : Int)) ∧ w'.cell? ⟨w.heap.size + 1, 3, none⟩ = some (.slice a ws.length d) ∧ Below w.heap.size w w')
          (first
            | (exact ⟨x0, x1, x2, x3, y0, y1, y2, y3, hbW.drew⟩)
            | (go_split_ands; exact ⟨by assumption, by assumption, by assumption, by assumption, by assumption, by assumption, by assumption, by assumption, by assumption⟩)
            | (go_split_ands; exact ⟨cell_on hb (by assumption), cell_on hb (by assumption), cell_on hb (by assumption), cell_on hb (by assumption), cell_on hb (by assumption), cell_on hb (by assumption), cell_on hb (by assumption), cell_on hb (by assumption), below_on hb (by assumption)⟩))
          (first
            | (go_split_ands; go_at_call_of 12 (Value.int .u32 (c : Int)); refine (HSA.out _ (by assumption)).mono ?_; rintro e w1 ⟨rfl, hb⟩)
            | (go_split_ands; go_at_call_of 12 (Value.int .u32 (D : Int)); refine (HSB.out _ (by assumption)).mono ?_; rintro e w1 ⟨rfl, hb⟩)
            | (go_at_call 10; refine (awake_any _).mono ?_; rintro e w1 ⟨rfl, hb⟩))
        go_split_ands
        go_wp2_with fail
        go_ret
        exact ⟨rfl, by assumption⟩
end Go.Proofs.Ytlnlefebcfnocaa
