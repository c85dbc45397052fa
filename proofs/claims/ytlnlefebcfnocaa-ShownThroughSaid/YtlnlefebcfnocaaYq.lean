/- The reference: Levels. -/
import Derived.Test.YtlnlefebcfnocaaYo
namespace Go.Proofs.Ytlnlefebcfnocaa
open Go.RowKit Go.Deep
attribute [local go_sem] Go.undef

/-- The state of the reference's loop. -/
def RLL (w : World) (op num : Int) (c : Nat) (s : Value) (ws : List (WX × Value)) (j : Nat) (s3 : Value) (wr : World) : Prop :=
  ∃ g c3, s3 = .slice (some ⟨g, 0, none⟩) (j + 1) c3 ∧ wr.ownsRow (w.heap.size + 1) 23 1 (.slice (some ⟨g, 0, none⟩) (j + 1) c3) (j + 1) (shv c ws (j + 1)) ∧ Below w.heap.size w wr ∧ Blk wr w.heap.size 28 #[.int .i64 op, .int .i64 num, .int .u32 (c : Int), s]
theorem shv_one (c : Nat) (ws : List (WX × Value)) : shv c ws 1 = [.int .u32 (c : Int)] := rfl

set_option maxRecDepth 100000 in
set_option maxHeartbeats 32000000 in
theorem rlevels_any (w : World) (S : Nat → Prop) (op num : Int) (c : Nat) (ws : List (WX × Value)) (a : Option Addr) (n d : Nat) (hr : Wraps w S ws a n d) (hS : ∀ b, S b → b < w.heap.size) (hn : n ≤ 1048576) (hc : c < 4294967296) :
    Calls Try.prog 24 #[.agg #[.int .i64 op, .int .i64 num, .int .u32 (c : Int), .slice a n d]] w fun e w' => LV e c ws n w w' := by
  obtain ⟨i0, hi0, hz0, hz1, hz2⟩ := info_parts infoC
  have hsh32 := fun j => sh_lt hc hr.cap j
  have HSH := Lib.hid hsh32
  have HR := Lib.hid hr
  have HS := Lib.hid hS
  obtain rfl : n = ws.length := hr.1
  have hcl : d ≤ maxLen := hr.2.2.1
  have hlc : ws.length ≤ d := hr.2.1
  unfold maxLen at hcl
  clear hr hS hsh32
  go_enter Try.func24, Try.ntmps24
  simp only [Go.undef]
  go_wp2_with fail
  go_loopw [3, 13] (fun s3 iv wr => ∃ j : Nat, iv = .int .i64 (j : Int) ∧ j ≤ ws.length ∧ RLL w op num c (.slice a ws.length d) ws j s3 wr) (fun _ i _ => ws.length - (intOf i).toNat)
  case atStart =>
    refine ⟨0, rfl, Nat.zero_le _, _, _, rfl, ?_, by go_grown, (Blk.new w _ _).alloc _⟩
    exact ⟨rfl, .inr ⟨w.heap.size + 1, 1, #[.int .u32 (c : Int)], by simp, by omega, Blk.new' _ _ _ (by simp), Nat.le_refl _, by decide, rfl, rfl⟩⟩
  case round =>
    obtain ⟨j, rfl, hj, g, c3, rfl, h3, h4, hB⟩ := hrel
    by_cases hlt : j < ws.length
    · obtain ⟨gr, o, p, cs, rfl, hSg, hp, he, hl, hat⟩ := RowsOf.get HR.out hlt
      have hsucc := sh_succ (c := c) hp
      obtain ⟨x, v⟩ := p
      have hx : Cap x := he.2.2
      have hrg := fun W => rgives_any W x v hx
      have hrk := fun W => keeps_any W x v (sh c ws j) (HSH.out j) hx
      have hst : sh c ws (j + 1) = givesW x ||| keptN x (sh c ws j) := by
        rw [hsucc]
        show (givenN x ||| keptN x (sh c ws j)) ||| opnN x = (givenN x ||| opnN x) ||| keptN x (sh c ws j)
        rw [Nat.or_assoc, Nat.or_assoc, Nat.or_comm (keptN x _)]
      have eor : bits .or .u32 ((givesW x : Nat) : Int) ((keptN x (sh c ws j) : Nat) : Int) = ((sh c ws (j + 1) : Nat) : Int) := by
        rw [hst]; exact bits32_or (givesW_lt hx) (keptN_lt _ (HSH.out j))
      have hsv := shv_succ c ws (j + 1)
      have HSV := Lib.hid hsv
      have dl := h3.cellAt j (by omega)
      rw [shv_at c ws (by omega)] at dl
      generalize givesW x = GW at hrg eor
      generalize keptN x (sh c ws j) = KW at hrk eor
      generalize sh c ws (j + 1) = S1 at eor HSV
      generalize sh c ws j = S0 at hrk dl
      clear hst hsucc hsv
      obtain ⟨op', xa, xb, caps, want, opn⟩ := x
      obtain ⟨wo, wn, wl⟩ := want
      obtain ⟨rfl, hw, hcap⟩ := he
      obtain ⟨va, vc, ve, -⟩ := hw.open_
      obtain rfl : v = .slice va wl.length vc := by injection ve with _ ve; injection ve with _ ve; injection ve
      simp only [WX.cells, WT.op, WT.num] at hrg hrk
      have hat' : wr.rangeAt gr (o + j * 8) _ := rangeAt_keep hat fun y => h4.cell (p := ⟨gr, y, none⟩) (HS.out gr hSg)
      have d0 := hat' 0 _ rfl
      have d1 := hat' 1 _ rfl
      have d2 := hat' 2 _ rfl
      have d3 := hat' 3 _ rfl
      have d4 := hat' 4 _ rfl
      have d5 := hat' 5 _ rfl
      have d6 := hat' 6 _ rfl
      have d7 := hat' 7 _ rfl
      simp only [Nat.add_zero] at d0
      simp only [WT.op, WT.num] at d4 d5
      have HRG := Lib.hid hrg
      have HRK := Lib.hid hrk
      have H3 := Lib.hid h3
      have H4 := Lib.hid h4
      have HB := Lib.hid hB
      have hsz := h4.size
      have hg3 := own_row h3 g rfl
      have hlB := hB.lt
      have hi0' : (0 : Int) ≤ (j : Int) := by omega
      have hi1 : (j : Int) < (ws.length : Int) := by omega
      have hi2 : (j : Int) < (j : Int) + 1 := by omega
      clear hrg hrk hat hat' hw hcap hp hl ve h3 h4 hB hx
      go_wp2_with fail
      have hP : Blk (wr.alloc (.cells #[.int .i64 op', .int .i64 xa, .int .i64 xb, .int .u32 (caps : Int), .int .i64 wo, .int .i64 wn, .slice va wl.length vc, .bool opn] 37)) wr.heap.size 37 #[.int .i64 op', .int .i64 xa, .int .i64 xb, .int .u32 (caps : Int), .int .i64 wo, .int .i64 wn, .slice va wl.length vc, .bool opn] := Blk.new _ _ _
      have hO := H3.out.alloc (.cells #[.int .i64 op', .int .i64 xa, .int .i64 xb, .int .u32 (caps : Int), .int .i64 wo, .int .i64 wn, .slice va wl.length vc, .bool opn] 37)
      have hB := HB.out.alloc (.cells #[.int .i64 op', .int .i64 xa, .int .i64 xb, .int .u32 (caps : Int), .int .i64 wo, .int .i64 wn, .slice va wl.length vc, .bool opn] 37)
      have hbel := H4.out.alloc hsz (.cells #[.int .i64 op', .int .i64 xa, .int .i64 xb, .int .u32 (caps : Int), .int .i64 wo, .int .i64 wn, .slice va wl.length vc, .bool opn] 37)
      have hsW : (wr.alloc (.cells #[.int .i64 op', .int .i64 xa, .int .i64 xb, .int .u32 (caps : Int), .int .i64 wo, .int .i64 wn, .slice va wl.length vc, .bool opn] 37)).heap.size = wr.heap.size + 1 := by simp
      have dl' := (cell_alloc (.cells #[.int .i64 op', .int .i64 xa, .int .i64 xb, .int .u32 (caps : Int), .int .i64 wo, .int .i64 wn, .slice va wl.length vc, .bool opn] 37) dl)
      clear d0 d1 d2 d3 d4 d5 d6 d7 dl H3 H4 HB
      generalize (wr.alloc (.cells #[.int .i64 op', .int .i64 xa, .int .i64 xb, .int .u32 (caps : Int), .int .i64 wo, .int .i64 wn, .slice va wl.length vc, .bool opn] 37)) = W at hP hO hB hbel hsW dl' ⊢
      have HCELLS : Hid (∀ W', Below W.drew.heap.size W.drew W' → W'.cell? ⟨wr.heap.size, 0, none⟩ = some (.int .i64 op') ∧ W'.cell? ⟨wr.heap.size, 1, none⟩ = some (.int .i64 xa) ∧ W'.cell? ⟨wr.heap.size, 2, none⟩ = some (.int .i64 xb) ∧ W'.cell? ⟨wr.heap.size, 3, none⟩ = some (.int .u32 (caps : Int)) ∧
          W'.cell? ⟨wr.heap.size, 4, none⟩ = some (.int .i64 wo) ∧ W'.cell? ⟨wr.heap.size, 5, none⟩ = some (.int .i64 wn) ∧ W'.cell? ⟨wr.heap.size, 6, none⟩ = some (.slice va wl.length vc) ∧ W'.cell? ⟨wr.heap.size, 7, none⟩ = some (.bool opn) ∧ W'.cell? ⟨g, j, none⟩ = some (.int .u32 (S0 : Int))) := fun W' hb => by
        have h := hP.drew.under hb hP.lt
        exact ⟨h.cell 0, h.cell 1, h.cell 2, h.cell 3, h.cell 4, h.cell 5, h.cell 6, h.cell 7, cell_on hb dl'⟩
      have HO : Hid (W.drew.ownsRow (w.heap.size + 1) 23 1 (.slice (some ⟨g, 0, none⟩) (j + 1) c3) (j + 1) (shv c ws (j + 1))) := hO
      have HBB := Lib.hid hB
      have HBEL : Hid (Below w.heap.size w W.drew) := Lib.hid hbel.drew
      have kb := Below.refl W.drew.heap.size W.drew
      obtain ⟨x0, x1, x2, x3, x4, x5, x6, x7, dl⟩ := HCELLS.out _ kb
      have hsW2 : w.heap.size + 1 ≤ W.drew.heap.size := by show _ ≤ W.heap.size; omega
      clear hP hO hB hbel dl'
      go_region_law (first
        | (go_simp; go_at_call 22; refine (HRG.out _).mono ?_; rintro e wz ⟨rfl, hbz⟩; have kb' := below_on hbz kb; clear kb; have kb := kb'; clear kb'; clear x0 x1 x2 x3 x4 x5 x6 x7 dl; obtain ⟨x0, x1, x2, x3, x4, x5, x6, x7, dl⟩ := HCELLS.out _ kb)
        | (go_simp; go_at_call 36; refine (HRK.out _).mono ?_; rintro e wz ⟨rfl, hbz⟩; have kb' := below_on hbz kb; clear kb; have kb := kb'; clear kb'; clear x0 x1 x2 x3 x4 x5 x6 x7 dl; obtain ⟨x0, x1, x2, x3, x4, x5, x6, x7, dl⟩ := HCELLS.out _ kb)
        | (refine step_append_lies _ (by rfl) _ _ _ (by rfl) (w.heap.size + 1) 23 i0 _ 1 4 Try.underlying40 hi0 hz0 hz1 hz2 rfl (by omega) _ (j + 1) (shv c ws (j + 1)) (by rfl) ((own_on HO.out kb.block).alloc _)
            ⟨wz.heap.size, 0, none⟩ 1 1 [.int .u32 (S1 : Int)] (by rfl) (by rfl) (one_new rfl) (fun u hu => by rw [List.mem_singleton.1 hu]; rfl)
            (by omega) (by unfold maxLen; omega) (by omega) (by have := kb.size; simp; omega) (wz.heap.size + 1) (by simp) ?_
           intro g2 cap2 w2 hown2 hgrow hat2 hlt2
           have HO2 := Lib.hid hown2
           have HGR := Lib.hid hgrow
           clear hown2 hat2 hgrow))
      all_goals
        have hown2 : w2.ownsRow (w.heap.size + 1) 23 1 (.slice (some ⟨g2, 0, none⟩) (j + 1 + 1) cap2) (j + 1 + 1) (shv c ws (j + 1 + 1)) := by rw [HSV.out]; exact HO2.out
        have hbz2 : Below w.heap.size w wz := below_on kb HBEL.out
        have hgo := (own_row HO.out g rfl).1
        have hbel2 : Below w.heap.size w w2 := (hbz2.alloc hbz2.size _).grown HGR.out (by have := hbz2.size; simp; omega) (fun k hk => by have := (own_row HO.out k hk).1; omega)
        have hB2 : Blk w2 w.heap.size 28 #[.int .i64 op, .int .i64 num, .int .u32 (c : Int), _] := ((HBB.out.drew.under kb HBB.out.lt).alloc _).grown HGR.out (fun e => by have := (own_row HO.out _ e.symm).1; omega)
        have HH := Lib.hid hown2
        have HBL2 := Lib.hid hbel2
        have HBB2 := Lib.hid hB2
        clear hown2 hbz2 hbel2 hB2 x0 x1 x2 x3 x4 x5 x6 x7 dl kb
        go_wp2_with fail
        go_roundw
        case rel => exact ⟨j + 1, by go_num, by omega, g2, cap2, rfl, HH.out, HBL2.out, HBB2.out⟩
        case measure => simp [intOf]; omega
    · obtain rfl : j = ws.length := by omega
      go_wp2_with fail
      go_ret
      obtain ⟨g', cap, e3, -, hcap, -⟩ := own_at h3 (j := 0) (by omega)
      refine ⟨g, c3, rfl, ?_, fun i hi => ?_, h4⟩
      · injection e3 with _ _ e3; omega
      · rw [h3.cellAt i (by omega), shv_at c ws (by omega)]
end Go.Proofs.Ytlnlefebcfnocaa
