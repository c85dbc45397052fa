/- The reference: Reach, Lost. -/
import Derived.Test.YtlnlefebcfnocaaYr
import Derived.Test.YtlnlefebcfnocaaYl
namespace Go.Proofs.Ytlnlefebcfnocaa
open Go.RowKit Go.Deep
attribute [local go_sem] Go.undef

def reachJ (c : Nat) (ws : List (WX × Value)) (k : Int) (j : Nat) : Int := reachL c k ((rv ws j).map Prod.fst)
theorem reachJ_succ {c : Nat} {ws : List (WX × Value)} {k : Int} {j : Nat} {p : WX × Value} (h : ws[j]? = some p) :
    reachJ c ws k (j + 1) = if hasN (sh c ws (j + 1)) k = true then whoJ c ws k (j + 1) else if p.1.opn = true ∧ 0 ≤ k then reachJ c ws k j else -1 := by
  rw [reachJ, rv_succ h, List.map_cons, reachL, ← sh_succ h, whoJ, rv_succ h, List.map_cons]
  rfl
theorem reachJ_shown {c : Nat} {ws : List (WX × Value)} {k : Int} {j : Nat} (hj : j ≤ ws.length) (h : hasN (sh c ws j) k = true) : reachJ c ws k j = whoJ c ws k j := by
  cases j with
  | zero =>
    have h' : hasN c k = true := h
    rw [whoJ_zero, if_pos h']
    show reachL c k [] = 0
    rw [reachL, if_pos h']
  | succ m =>
    have hp : ws[m]? = some ws[m] := List.getElem?_eq_getElem (by omega)
    rw [reachJ_succ hp, if_pos h]
theorem has_out {a : Nat} {k : Int} (h : k < 0 ∨ 11 ≤ k) : hasN a k = false := by
  unfold hasN
  rw [decide_eq_false (by omega)]
  rfl
theorem reachJ_out {c : Nat} {ws : List (WX × Value)} {k : Int} (h : k < 0 ∨ 11 ≤ k) : ∀ {j : Nat}, j ≤ ws.length → reachJ c ws k j = -1
  | 0, _ => by show reachL c k [] = -1; rw [reachL, has_out h]; rfl
  | m + 1, hj => by
    have hp : ws[m]? = some ws[m] := List.getElem?_eq_getElem (by omega)
    rw [reachJ_succ hp, has_out h, if_neg (by simp)]
    split
    · exact reachJ_out h (by omega)
    · rfl
theorem has10 (a : Nat) : hasN a 10 = a.testBit 10 := by unfold hasN; rw [decide_eq_true (by omega)]; rfl
theorem given10 {x : WX} (h : hasN x.caps 10 = false) : hasN (givenN x) 10 = false := by
  rw [has10] at h
  rw [has10]
  unfold givenN
  repeat' split
  · exact h
  all_goals decide
theorem kept10 (x : WX) (b : Nat) : hasN (keptN x b) 10 = false := by
  rw [has10]
  unfold keptN
  repeat' split
  all_goals simp [bit_clr, bit_1024, Nat.testBit_and]
/-- A level shows that it opens just if it is open. -/
theorem sh_open {c : Nat} {ws : List (WX × Value)} (hf : FitC c ws) {j : Nat} {p : WX × Value} (h : ws[j]? = some p) : hasN (sh c ws (j + 1)) 10 = p.1.opn := by
  rw [sh_succ h, showsN, has_or, has_or, given10 (hf.2.2 p (List.mem_of_getElem? h)).2, kept10]
  unfold opnN
  cases p.1.opn <;> decide
theorem sh_open0 {c : Nat} {ws : List (WX × Value)} (hf : FitC c ws) : hasN (sh c ws 0) 10 = false := hf.1.2

set_option maxRecDepth 100000 in
set_option maxHeartbeats 8000000 in
theorem rreach_any (w : World) (S : Nat → Prop) (op num : Int) (c : Nat) (ws : List (WX × Value)) (a : Option Addr) (n d : Nat) (k : Int) (hfit : FitC c ws) (hr : Wraps w S ws a n d) (hS : ∀ b, S b → b < w.heap.size) (hc : c < 4294967296) :
    Calls Try.prog 19 #[.agg #[.int .i64 op, .int .i64 num, .int .u32 (c : Int), .slice a n d], .int .i64 k] w fun e w' => e = .returned (.int .i64 (reachW c ws k)) ∧ Below w.heap.size w w' := by
  obtain rfl : n = ws.length := hr.1
  have h8 : ws.length ≤ 8 := hfit.2.1
  have hl := fun W (hb : Below w.heap.size w W) => rlevels_any W S op num c ws a ws.length d (hr.under hb hS) (fun b h => Nat.lt_of_lt_of_le (hS b h) hb.size) (by omega) hc
  have hf := fun lev (hlev : lev ≤ ws.length) W (hb : Below w.heap.size w W) => from_any W S op num c ws a ws.length d lev k hlev (hr.under hb hS) (fun b h => Nat.lt_of_lt_of_le (hS b h) hb.size) (by omega) hc
  have HL := Lib.hid hl
  have HF := Lib.hid hf
  have HSH : Hid (∀ j, sh c ws j < 4294967296) := fun j => sh_lt hc hr.cap j
  have HFIT := Lib.hid hfit
  have hXX : reachW c ws k = reachJ c ws k ws.length := rfl
  rw [hXX]
  obtain ⟨X, hX⟩ : ∃ X, X = reachJ c ws k ws.length := ⟨_, rfl⟩
  rw [← hX]
  have HX := Lib.hid hX
  clear hl hf hr hS hX hfit hXX
  go_enter Try.func19, Try.ntmps19
  simp only [Go.undef]
  go_wp2_with fail
  refine (HL.out _ (by go_grown)).mono ?_
  rintro e w1 ⟨g, p, rfl, hp, hcs, hb⟩
  have HM : Hid (XM w op num c ws (.slice a ws.length d) g w1) := ⟨(Blk.new' _ _ _ (by simp)).under hb (by simp), hcs, below_on hb (by go_grown)⟩
  obtain ⟨x0, x1, x2, x3⟩ := HM.out.cells
  clear hb hcs
  go_wp2_with fail
  go_loopw [6] (fun lv wr => (∃ j : Nat, lv = .int .i64 (j : Int) ∧ j ≤ ws.length ∧ reachJ c ws k j = X) ∧ XM w op num c ws (.slice a ws.length d) g wr) (fun lv _ => (intOf lv).toNat)
  case atStart => exact ⟨⟨ws.length, rfl, Nat.le_refl _, HX.out.symm⟩, HM.out⟩
  case round =>
    clear x0 x1 x2 x3
    obtain ⟨⟨j, rfl, hj, hrj⟩, hM⟩ := hrel
    obtain ⟨x0, x1, x2, x3⟩ := hM.cells
    have HM := Lib.hid hM
    have hi0 : (0 : Int) ≤ (j : Int) := by omega
    have hi1 : (j : Int) < (ws.length : Int) + 1 := by omega
    obtain ⟨a1, a2, a3, a4, -⟩ := whoJ_law c ws k j hj
    have dl := hM.2.1 j hj
    have hcf := HF.out j hj
    have hhh := fun W => rhas_any W (sh c ws j) 10 (HSH.out j)
    have HRJ := Lib.hid hrj
    clear hM hrj
    cases hb : hasN (sh c ws j) k with
    | true =>
      have hr1 := reachJ_shown hj hb
      have h0 := a1 hb
      have HRS : Hid (X = whoJ c ws k j) := Lib.hid (by rw [← HRJ.out, hr1])
      generalize whoJ c ws k j = V at hcf h0 HRS
      have HCF := Lib.hid hcf
      clear a1 a2 a3 a4 hr1 hcf hb hhh
      go_wp2_with fail
      refine (HCF.out _ HM.out.2.2).mono ?_
      rintro e w2 ⟨rfl, hb2⟩
      have hB2 := below_on hb2 HM.out.2.2
      clear hb2
      go_wp2_with fail
      go_ret
      exact ⟨ret_i HRS.out.symm, hB2⟩
    | false =>
      have h0 := a2 hb
      rw [h0] at hcf
      have HCF := Lib.hid hcf
      have HBF := Lib.hid hb
      have HHH := Lib.hid hhh
      clear a1 a2 a3 a4 hcf hb hhh h0
      by_cases hk0 : k < 0
      · have hout := reachJ_out (c := c) (ws := ws) (.inl hk0) hj
        have HXV : Hid (X = -1) := Lib.hid (by rw [← HRJ.out, hout])
        clear hout
        go_wp2_with fail
        refine (HCF.out _ HM.out.2.2).mono ?_
        rintro e w2 ⟨rfl, hb2⟩
        have hB2 := below_on hb2 HM.out.2.2
        clear hb2
        go_wp2_with fail
        go_ret
        exact ⟨ret_i HXV.out.symm, hB2⟩
      by_cases hk1 : 11 ≤ k
      · have hout := reachJ_out (c := c) (ws := ws) (.inr hk1) hj
        have HXV : Hid (X = -1) := Lib.hid (by rw [← HRJ.out, hout])
        clear hout
        go_wp2_with fail
        refine (HCF.out _ HM.out.2.2).mono ?_
        rintro e w2 ⟨rfl, hb2⟩
        have hB2 := below_on hb2 HM.out.2.2
        clear hb2
        go_wp2_with fail
        go_ret
        exact ⟨ret_i HXV.out.symm, hB2⟩
      have hnext : (hasN (sh c ws j) 10 = false → X = -1) ∧ (hasN (sh c ws j) 10 = true → ∃ m, j = m + 1 ∧ reachJ c ws k m = X) := by
        cases j with
        | zero =>
          refine ⟨fun _ => ?_, fun h => ?_⟩
          · rw [← HRJ.out]
            show reachL c k [] = -1
            rw [reachL, show hasN c k = false from HBF.out]
            rfl
          · rw [sh_open0 HFIT.out] at h; cases h
        | succ m =>
          have hp : ws[m]? = some ws[m] := List.getElem?_eq_getElem (by omega)
          have h1 := sh_open HFIT.out hp
          have h2 := reachJ_succ (c := c) (k := k) hp
          rw [HBF.out, if_neg (by simp)] at h2
          refine ⟨fun h => ?_, fun h => ⟨m, rfl, ?_⟩⟩
          · rw [h] at h1
            rw [← HRJ.out, h2, if_neg (fun h => by rw [← h1] at h; simp at h)]
          · rw [h] at h1
            rw [← HRJ.out, h2, if_pos ⟨h1.symm, by omega⟩]
      have HNX := Lib.hid hnext
      clear hnext
      generalize sh c ws j = SJ at dl HHH HNX HBF
      generalize hasN SJ 10 = ob at HHH HNX
      go_wp2_with fail
      refine (HCF.out _ HM.out.2.2).mono ?_
      rintro e w2 ⟨rfl, hb2⟩
      have HM2 := Lib.hid (HM.out.on hb2)
      have dl2 := cell_on hb2 dl
      clear x0 x1 x2 x3 dl
      obtain ⟨x0, x1, x2, x3⟩ := HM2.out.cells
      clear hb2
      go_wp2_with fail
      refine (HHH.out _).mono ?_
      rintro e w3 ⟨rfl, rfl⟩
      cases ob
      · have HXV := Lib.hid (HNX.out.1 (by trivial))
        go_wp2_with fail
        go_ret
        exact ⟨ret_i HXV.out.symm, HM2.out.2.2⟩
      · obtain ⟨m, rfl, hm⟩ := HNX.out.2 (by trivial)
        have HMX := Lib.hid hm
        clear hm
        go_wp2_with fail
        go_roundw
        case rel => exact ⟨⟨m, by go_num, by omega, HMX.out⟩, HM2.out⟩
        case measure => simp [intOf]

set_option maxRecDepth 100000 in
set_option maxHeartbeats 8000000 in
theorem rlost_any (w : World) (S : Nat → Prop) (op num : Int) (c : Nat) (ws : List (WX × Value)) (a : Option Addr) (n d : Nat) (hfit : FitC c ws) (hr : Wraps w S ws a n d) (hS : ∀ b, S b → b < w.heap.size) (hc : c < 4294967296) :
    Calls Try.prog 27 #[.agg #[.int .i64 op, .int .i64 num, .int .u32 (c : Int), .slice a n d]] w fun e w' => e = .returned (.int .u32 (lostN c ws 11 : Int)) ∧ Below w.heap.size w w' := by
  have hb := fun W (hb : Below w.heap.size w W) k => rreach_any W S op num c ws a n d k hfit (hr.under hb hS) (fun b h => Nat.lt_of_lt_of_le (hS b h) hb.size) hc
  have HR := Lib.hid hb
  clear hb hr hS hfit
  go_enter Try.func27, Try.ntmps27
  simp only [Go.undef]
  go_wp2_with fail
  go_loopw [3, 4] (fun sl si wr => LLO w c ws (.int .i64 op) (.int .i64 num) (.slice a n d) sl si wr) (fun _ si _ => 11 - (intOf si).toNat)
  case atStart => exact ⟨0, rfl, rfl, by omega, Blk.new _ _ _, by go_grown⟩
  case round =>
    obtain ⟨j, rfl, rfl, hj, hB, hbel⟩ := hrel
    by_cases hlt : j < 11
    · have c0 := hB.cell 0
      have c1 := hB.cell 1
      have c2 := hB.cell 2
      have c3 := hB.cell 3
      simp only [List.getElem?_toArray, List.getElem?_cons_succ, List.getElem?_cons_zero] at c0 c1 c2 c3
      have HB := Lib.hid hB
      have HBEL := Lib.hid hbel
      have h1 := fun W => rhas_any W c (j : Int) hc
      have h2 := fun W hW => HR.out W hW (j : Int)
      have h3 := fun W => bit_any W j (by omega)
      have hs := lostN_lt c ws (show j ≤ 11 by omega)
      have e1 : bits .or .u32 ((lostN c ws j : Nat) : Int) ((2 ^ j : Nat) : Int) = ((lostN c ws j ||| 2 ^ j : Nat) : Int) := bits32_or hs (pow_lt32 (by omega))
      have hL : Hid (lostN c ws (j + 1) = if hasN c (j : Int) = true ∧ reachW c ws (j : Int) ≠ 0 then lostN c ws j ||| 2 ^ j else lostN c ws j) := Lib.hid rfl
      have H1 := Lib.hid h1
      have H2 := Lib.hid h2
      have E1 := Lib.hid e1
      generalize 2 ^ j = PJ at h3 E1 hL
      have H3 := Lib.hid h3
      generalize lostN c ws j = L0 at *
      generalize hasN c (j : Int) = b1 at *
      generalize reachW c ws (j : Int) = rr at *
      clear h1 h2 h3 hB hbel hs e1
      have hi0 : (0 : Int) ≤ (j : Int) := by omega
      go_wp2_with fail
      refine (H1.out _).mono ?_
      rintro e w1 ⟨rfl, rfl⟩
      cases b1
      · go_wp2_with fail
        go_roundw
        case rel => exact ⟨j + 1, by rw [hL.out]; simp, by go_num, by omega, HB.out, HBEL.out⟩
        case measure => simp [intOf]; omega
      · go_wp2_with fail
        refine (H2.out _ HBEL.out).mono ?_
        rintro e w2 ⟨rfl, hb2⟩
        have hB2 := below_on hb2 HBEL.out
        have HB2 := Lib.hid (HB.out.under hb2 HB.out.lt)
        clear hb2 c0 c1 c2 c3
        by_cases hr0 : rr = 0
        · go_wp2_with fail
          go_roundw
          case rel => exact ⟨j + 1, by rw [hL.out]; simp [hr0], by go_num, by omega, HB2.out, hB2⟩
          case measure => simp [intOf]; omega
        · have hr1 : (rr != 0) = true := by simp; exact hr0
          have e9 := E1.out
          generalize hLP : L0 ||| PJ = LP at e9
          have HLP := Lib.hid hLP
          clear hLP
          go_wp2_with fail
          refine (H3.out _).mono ?_
          rintro e w3 ⟨rfl, rfl⟩
          go_wp2_with fail
          go_roundw
          case rel => exact ⟨j + 1, by rw [hL.out, if_pos ⟨by trivial, hr0⟩, HLP.out], by go_num, by omega, HB2.out, hB2⟩
          case measure => simp [intOf]; omega
    · obtain rfl : j = 11 := by omega
      go_wp2_with fail
      go_ret
      exact ⟨rfl, hbel⟩
end Go.Proofs.Ytlnlefebcfnocaa
