/- The walk of ShownMasks. -/
import Derived.Test.YtlnlefebcfnocaaYl
namespace Go.Proofs.Ytlnlefebcfnocaa
open Go.RowKit Go.Deep
attribute [local go_sem] Go.undef

set_option maxRecDepth 100000 in
set_option maxHeartbeats 32000000 in
theorem masks_go (w : World) (op num : Int) (c m1 m2 : Nat) (ws : List (WX × Value)) (a : Option Addr) (n d : Nat) (hr : Wraps w (· < w.heap.size) ws a n d) (hc : c < 4294967296) (hm1 : m1 < 4294967296) (hm2 : m2 < 4294967296) :
    Calls Try.prog 3 #[.agg #[.int .i64 op, .int .i64 num, .int .u32 (c : Int), .slice a n d], .int .u32 (m1 : Int), .int .u32 (m2 : Int)] w fun e w' => e = .returned (.bool true) ∧ Below w.heap.size w w' := by
  have e1 : bits .and .u32 (m1 : Int) 1023 = ((m1 &&& 1023 : Nat) : Int) := bits32_and (a := m1) (b := 1023) hm1 (by omega)
  have e2 : bits .and .u32 (m2 : Int) 1023 = ((m2 &&& 1023 : Nat) : Int) := bits32_and (a := m2) (b := 1023) hm2 (by omega)
  have hA : m1 &&& 1023 < 1024 := Nat.lt_succ_of_le Nat.and_le_right
  have hB : m2 &&& 1023 < 1024 := Nat.lt_succ_of_le Nat.and_le_right
  generalize m1 &&& 1023 = A at e1 hA
  generalize m2 &&& 1023 = B at e2 hB
  have hA32 : A < 4294967296 := by omega
  have hB32 : B < 4294967296 := by omega
  obtain ⟨AB, hAB⟩ : ∃ r, r = A &&& B := ⟨_, rfl⟩
  have eAB : bits .and .u32 (A : Int) (B : Int) = (AB : Int) := by rw [hAB]; exact bits32_and hA32 hB32
  have hAB32 : AB < 4294967296 := by rw [hAB]; exact and_lt hA32
  have hS32 := sh_lt hc hr.cap n
  have hch := fun W (hW : Below w.heap.size w W) => chain_any W _ op num c ws a n d (hr.under hW (fun _ h => h)) (fun b hb => Nat.lt_of_lt_of_le hb hW.size) hc
  have hsn := fun (hn : n ≤ 8) W (hW : Below w.heap.size w W) => shown_any W _ op num c ws a n d (hr.under hW (fun _ h => h)) (fun b hb => Nat.lt_of_lt_of_le hb hW.size) (by omega) hc
  obtain rfl : n = ws.length := hr.1
  have hS : FitC c ws → sh c ws ws.length < 2048 := fun h => sh2048 h _
  have w1 := fun (h : ws.length ≤ 8) (o : Int) (m : Nat) (hm : m < 4294967296) => with_one (op := op) (num := num) hr h hc o m hm
  have w2 := fun (h : ws.length ≤ 8) (o o' : Int) (m m' : Nat) (hm : m < 4294967296) (hm' : m' < 4294967296) => with_two (op := op) (num := num) hr h hc o o' m m' hm hm'
  generalize sh c ws ws.length = S at hS32 hsn hS w1 w2
  obtain ⟨s, hs⟩ : ∃ r, r = clr S 1024 := ⟨_, rfl⟩
  have hs32 : s < 4294967296 := by rw [hs]; exact clr_lt hS32
  have es : bits .andNot .u32 (S : Int) 1024 = (s : Int) := by rw [hs]; exact bits32_clr (a := S) (b := 1024) hS32 (by omega)
  obtain ⟨sA, hsA⟩ : ∃ r, r = s &&& A := ⟨_, rfl⟩
  have hsA32 : sA < 4294967296 := by rw [hsA]; exact and_lt hs32
  have esA : bits .and .u32 (s : Int) (A : Int) = (sA : Int) := by rw [hsA]; exact bits32_and hs32 hA32
  obtain ⟨R1, hR1⟩ : ∃ r, r = sA &&& B := ⟨_, rfl⟩
  have eR1 : bits .and .u32 (sA : Int) (B : Int) = (R1 : Int) := by rw [hR1]; exact bits32_and hsA32 hB32
  obtain ⟨sO, hsO⟩ : ∃ r, r = s ||| A := ⟨_, rfl⟩
  have hsO32 : sO < 4294967296 := by rw [hsO]; exact or_lt hs32 hA32
  have esO : bits .or .u32 (s : Int) (A : Int) = (sO : Int) := by rw [hsO]; exact bits32_or hs32 hA32
  obtain ⟨R4, hR4⟩ : ∃ r, r = sO ||| B := ⟨_, rfl⟩
  have eR4 : bits .or .u32 (sO : Int) (B : Int) = (R4 : Int) := by rw [hR4]; exact bits32_or hsO32 hB32
  obtain ⟨R6, hR6⟩ : ∃ r, r = sA ||| B := ⟨_, rfl⟩
  have eR6 : bits .or .u32 (sA : Int) (B : Int) = (R6 : Int) := by rw [hR6]; exact bits32_or hsA32 hB32
  obtain ⟨R7, hR7⟩ : ∃ r, r = A ||| clr S 1024 := ⟨_, rfl⟩
  have C1 : Hid (ws.length ≤ 8 → ∀ W, KM w op num c (.slice a ws.length d) W → Calls Try.prog 11 #[.slice (some ⟨W.heap.size, 0, none⟩) 2 2, .pointer (some ⟨w.heap.size, 0, none⟩)] (W.alloc (.cells #[.int .i64 2, .int .i64 0, .int .i64 0, .int .u32 (A : Int), .int .i64 0, .int .i64 0, .slice none 0 0, .bool false, .int .i64 2, .int .i64 0, .int .i64 0, .int .u32 (B : Int), .int .i64 0, .int .i64 0, .slice none 0 0, .bool false] 37)) fun e w' => e = .returned (.int .u32 (R1 : Int)) ∧ KM w op num c (.slice a ws.length d) w') := fun h8 W hK => by
    have h := w2 h8 2 2 A B hA32 hB32 W hK
    rw [show stepN (plainW 2 B false).1 (stepN (plainW 2 A false).1 S) = R1 by rw [step_mask, step_mask, mask_mask', hR1, hsA, hs]] at h
    exact h
  have C2 : Hid (ws.length ≤ 8 → ∀ W, KM w op num c (.slice a ws.length d) W → Calls Try.prog 11 #[.slice (some ⟨W.heap.size, 0, none⟩) 1 1, .pointer (some ⟨w.heap.size, 0, none⟩)] (W.alloc (.cells #[.int .i64 2, .int .i64 0, .int .i64 0, .int .u32 (AB : Int), .int .i64 0, .int .i64 0, .slice none 0 0, .bool false] 37)) fun e w' => e = .returned (.int .u32 (R1 : Int)) ∧ KM w op num c (.slice a ws.length d) w') := fun h8 W hK => by
    have h := w1 h8 2 AB hAB32 W hK
    rw [show stepN (plainW 2 AB false).1 S = R1 by rw [step_mask, hAB, ← mask_mask, mask_mask', hR1, hsA, hs]] at h
    exact h
  have C3 : Hid (ws.length ≤ 8 → FitC c ws → ∀ W, KM w op num c (.slice a ws.length d) W → Calls Try.prog 11 #[.slice (some ⟨W.heap.size, 0, none⟩) 1 1, .pointer (some ⟨w.heap.size, 0, none⟩)] (W.alloc (.cells #[.int .i64 2, .int .i64 0, .int .i64 0, .int .u32 1023, .int .i64 0, .int .i64 0, .slice none 0 0, .bool false] 37)) fun e w' => e = .returned (.int .u32 (s : Int)) ∧ KM w op num c (.slice a ws.length d) w') := fun h8 hfit W hK => by
    have h := w1 h8 2 1023 (by omega) W hK
    rw [show stepN (plainW 2 1023 false).1 S = s by rw [step_mask, mask_all (hS hfit), hs]] at h
    exact h
  have C4 : Hid (ws.length ≤ 8 → ∀ W, KM w op num c (.slice a ws.length d) W → Calls Try.prog 11 #[.slice (some ⟨W.heap.size, 0, none⟩) 2 2, .pointer (some ⟨w.heap.size, 0, none⟩)] (W.alloc (.cells #[.int .i64 4, .int .i64 0, .int .i64 0, .int .u32 (A : Int), .int .i64 0, .int .i64 0, .slice none 0 0, .bool false, .int .i64 4, .int .i64 0, .int .i64 0, .int .u32 (B : Int), .int .i64 0, .int .i64 0, .slice none 0 0, .bool false] 37)) fun e w' => e = .returned (.int .u32 (R4 : Int)) ∧ KM w op num c (.slice a ws.length d) w') := fun h8 W hK => by
    have h := w2 h8 4 4 A B hA32 hB32 W hK
    rw [show stepN (plainW 4 B false).1 (stepN (plainW 4 A false).1 S) = R4 by rw [step_give, step_give, give_give hA, hR4, hsO, hs]] at h
    exact h
  have C5 : Hid (ws.length ≤ 8 → ∀ W, KM w op num c (.slice a ws.length d) W → Calls Try.prog 11 #[.slice (some ⟨W.heap.size, 0, none⟩) 2 2, .pointer (some ⟨w.heap.size, 0, none⟩)] (W.alloc (.cells #[.int .i64 4, .int .i64 0, .int .i64 0, .int .u32 (A : Int), .int .i64 0, .int .i64 0, .slice none 0 0, .bool false, .int .i64 2, .int .i64 0, .int .i64 0, .int .u32 (A : Int), .int .i64 0, .int .i64 0, .slice none 0 0, .bool false] 37)) fun e w' => e = .returned (.int .u32 (A : Int)) ∧ KM w op num c (.slice a ws.length d) w') := fun h8 W hK => by
    have h := w2 h8 4 2 A A hA32 hA32 W hK
    rw [show stepN (plainW 2 A false).1 (stepN (plainW 4 A false).1 S) = A by rw [step_mask, step_give, give_mask hA]] at h
    exact h
  have C6 : Hid (ws.length ≤ 8 → ∀ W, KM w op num c (.slice a ws.length d) W → Calls Try.prog 11 #[.slice (some ⟨W.heap.size, 0, none⟩) 2 2, .pointer (some ⟨w.heap.size, 0, none⟩)] (W.alloc (.cells #[.int .i64 2, .int .i64 0, .int .i64 0, .int .u32 (A : Int), .int .i64 0, .int .i64 0, .slice none 0 0, .bool false, .int .i64 4, .int .i64 0, .int .i64 0, .int .u32 (B : Int), .int .i64 0, .int .i64 0, .slice none 0 0, .bool false] 37)) fun e w' => e = .returned (.int .u32 (R6 : Int)) ∧ KM w op num c (.slice a ws.length d) w') := fun h8 W hK => by
    have h := w2 h8 2 4 A B hA32 hB32 W hK
    rw [show stepN (plainW 4 B false).1 (stepN (plainW 2 A false).1 S) = R6 by rw [step_give, step_mask, mask_give, hR6, hsA, hs]] at h
    exact h
  have C7 : Hid (ws.length ≤ 8 → ∀ W, KM w op num c (.slice a ws.length d) W → Calls Try.prog 11 #[.slice (some ⟨W.heap.size, 0, none⟩) 2 2, .pointer (some ⟨w.heap.size, 0, none⟩)] (W.alloc (.cells #[.int .i64 4, .int .i64 0, .int .i64 0, .int .u32 (A : Int), .int .i64 0, .int .i64 0, .slice none 0 0, .bool false, .int .i64 4, .int .i64 0, .int .i64 0, .int .u32 (A : Int), .int .i64 0, .int .i64 0, .slice none 0 0, .bool false] 37)) fun e w' => e = .returned (.int .u32 (R7 : Int)) ∧ KM w op num c (.slice a ws.length d) w') := fun h8 W hK => by
    have h := w2 h8 4 4 A A hA32 hA32 W hK
    rw [show stepN (plainW 4 A false).1 (stepN (plainW 4 A false).1 S) = R7 by rw [step_give, step_give, give_same hA, hR7]] at h
    exact h
  have C8 : Hid (ws.length ≤ 8 → ∀ W, KM w op num c (.slice a ws.length d) W → Calls Try.prog 11 #[.slice (some ⟨W.heap.size, 0, none⟩) 1 1, .pointer (some ⟨w.heap.size, 0, none⟩)] (W.alloc (.cells #[.int .i64 4, .int .i64 0, .int .i64 0, .int .u32 (A : Int), .int .i64 0, .int .i64 0, .slice none 0 0, .bool false] 37)) fun e w' => e = .returned (.int .u32 (R7 : Int)) ∧ KM w op num c (.slice a ws.length d) w') := fun h8 W hK => by
    have h := w1 h8 4 A hA32 W hK
    rw [show stepN (plainW 4 A false).1 S = R7 by rw [step_give, hR7]] at h
    exact h
  have HCH := Lib.hid hch
  have HSN := Lib.hid hsn
  have hmf : ∀ (fn : Fn) (first cap : Array Value) (w : World), (Instr.makeFunc fn first cap).run Try.prog w = .ok (.func fn first cap) w := fun _ _ _ _ => rfl
  have hcl : d ≤ maxLen := hr.2.2.1
  have hlc : ws.length ≤ d := hr.2.1
  unfold maxLen at hcl
  have E1 := Lib.hid es
  have E2 := Lib.hid esA
  have E3 := Lib.hid eR1
  have E4 := Lib.hid esO
  have E5 := Lib.hid eR4
  have E6 := Lib.hid eR6
  clear es esA eR1 esO eR4 eR6
  clear hch hsn hS w1 w2 hr hAB hs hsA hR1 hsO hR4 hR6 hR7 hA32 hB32 hAB32 hS32 hs32 hsA32 hsO32 hm1 hm2
  go_enter Try.func3, Try.ntmps3
  go_wp2_with fail
  refine (HCH.out _ (by go_grown)).mono ?_
  rintro e w1 ⟨⟨b, rfl, hf⟩, hb1⟩
  have K1 : Hid (KM w op num c (.slice a ws.length d) w1) := ⟨(Blk.new' _ _ _ (by simp)).under hb1 (by simp), below_on hb1 (by go_grown)⟩
  have x0 := K1.out.1.cell 0
  have x1 := K1.out.1.cell 1
  have x2 := K1.out.1.cell 2
  have x3 := K1.out.1.cell 3
  simp only [List.getElem?_toArray, List.getElem?_cons_succ, List.getElem?_cons_zero] at x0 x1 x2 x3
  clear hb1
  cases b
  · go_wp2_with fail
    refine (awake_any _).mono ?_
    rintro e w2 ⟨rfl, hb2⟩
    have hB2 := below_on hb2 K1.out.2
    go_wp2_with fail
    go_ret
    exact ⟨rfl, hB2⟩
  have HF := Lib.hid (hf rfl)
  clear hf
  have h8 : ws.length ≤ 8 := HF.out.2.1
  by_cases h : 6 < ws.length
  · go_wp2_with fail
    refine (awake_any _).mono ?_
    rintro e w2 ⟨rfl, hb2⟩
    have hB2 := below_on hb2 K1.out.2
    go_wp2_with fail
    go_ret
    exact ⟨rfl, hB2⟩
  have h6 : ws.length ≤ 6 := by omega
  clear h
  by_cases h : A = 0
  · subst h
    go_wp2_with fail
    refine (awake_any _).mono ?_
    rintro e w2 ⟨rfl, hb2⟩
    have hB2 := below_on hb2 K1.out.2
    go_wp2_with fail
    go_ret
    exact ⟨rfl, hB2⟩
  have hA0 : ((A : Int) == 0) = false := by simp; exact h
  clear h
  by_cases h : B = 0
  · subst h
    go_wp2_with fail
    refine (awake_any _).mono ?_
    rintro e w2 ⟨rfl, hb2⟩
    have hB2 := below_on hb2 K1.out.2
    go_wp2_with fail
    go_ret
    exact ⟨rfl, hB2⟩
  have hB0 : ((B : Int) == 0) = false := by simp; exact h
  clear h
  by_cases h : AB = 0
  · subst h
    go_wp2_with fail
    refine (awake_any _).mono ?_
    rintro e w2 ⟨rfl, hb2⟩
    have hB2 := below_on hb2 K1.out.2
    go_wp2_with fail
    go_ret
    exact ⟨rfl, hB2⟩
  have hAB0 : ((AB : Int) == 0) = false := by simp; exact h
  clear h
  go_wp2_with fail
  refine (HSN.out h8 _ K1.out.2).mono ?_
  rintro e w2 ⟨rfl, hb2⟩
  have K2 := Lib.hid (K1.out.on hb2)
  clear hb2 x0 x1 x2 x3 hA0 hB0 hAB0
  have es := E1.out
  have esA := E2.out
  have eR1 := E3.out
  have esO := E4.out
  have eR4 := E5.out
  have eR6 := E6.out
  go_wp2_with fail
  refine (mask_any _ _).mono ?_
  rintro e w3 ⟨rfl, hb3⟩
  have K3 := Lib.hid (K2.out.on hb3)
  clear hb3 K2
  go_wp2_with fail
  refine (mask_any _ _).mono ?_
  rintro e w4 ⟨rfl, hb4⟩
  have K4 := Lib.hid (K3.out.on hb4)
  clear hb4 K3
  go_wp2_with fail
  refine (C1.out h8 _ K4.out).mono ?_
  rintro e w5 ⟨rfl, hK5⟩
  have K5 := Lib.hid hK5
  clear hK5 K4
  go_wp2_with fail
  refine (mask_any _ _).mono ?_
  rintro e w6 ⟨rfl, hb6⟩
  have K6 := Lib.hid (K5.out.on hb6)
  clear hb6 K5
  go_wp2_with fail
  refine (C2.out h8 _ K6.out).mono ?_
  rintro e w7 ⟨rfl, hK7⟩
  have K7 := Lib.hid hK7
  clear hK7 K6
  go_wp2_with fail
  refine (mask_any _ _).mono ?_
  rintro e w8 ⟨rfl, hb8⟩
  have K8 := Lib.hid (K7.out.on hb8)
  clear hb8 K7
  go_wp2_with fail
  refine (mask_any _ _).mono ?_
  rintro e w9 ⟨rfl, hb9⟩
  have K9 := Lib.hid (K8.out.on hb9)
  clear hb9 K8
  go_wp2_with fail
  refine (C1.out h8 _ K9.out).mono ?_
  rintro e w10 ⟨rfl, hK10⟩
  have K10 := Lib.hid hK10
  clear hK10 K9
  go_wp2_with fail
  refine (mask_any _ _).mono ?_
  rintro e w11 ⟨rfl, hb11⟩
  have K11 := Lib.hid (K10.out.on hb11)
  clear hb11 K10
  go_wp2_with fail
  refine (C3.out h8 HF.out _ K11.out).mono ?_
  rintro e w12 ⟨rfl, hK12⟩
  have K12 := Lib.hid hK12
  clear hK12 K11
  go_wp2_with fail
  refine (give_any _ _).mono ?_
  rintro e w13 ⟨rfl, hb13⟩
  have K13 := Lib.hid (K12.out.on hb13)
  clear hb13 K12
  go_wp2_with fail
  refine (give_any _ _).mono ?_
  rintro e w14 ⟨rfl, hb14⟩
  have K14 := Lib.hid (K13.out.on hb14)
  clear hb14 K13
  go_wp2_with fail
  refine (C4.out h8 _ K14.out).mono ?_
  rintro e w15 ⟨rfl, hK15⟩
  have K15 := Lib.hid hK15
  clear hK15 K14
  go_wp2_with fail
  refine (give_any _ _).mono ?_
  rintro e w16 ⟨rfl, hb16⟩
  have K16 := Lib.hid (K15.out.on hb16)
  clear hb16 K15
  go_wp2_with fail
  refine (mask_any _ _).mono ?_
  rintro e w17 ⟨rfl, hb17⟩
  have K17 := Lib.hid (K16.out.on hb17)
  clear hb17 K16
  go_wp2_with fail
  refine (C5.out h8 _ K17.out).mono ?_
  rintro e w18 ⟨rfl, hK18⟩
  have K18 := Lib.hid hK18
  clear hK18 K17
  go_wp2_with fail
  refine (mask_any _ _).mono ?_
  rintro e w19 ⟨rfl, hb19⟩
  have K19 := Lib.hid (K18.out.on hb19)
  clear hb19 K18
  go_wp2_with fail
  refine (give_any _ _).mono ?_
  rintro e w20 ⟨rfl, hb20⟩
  have K20 := Lib.hid (K19.out.on hb20)
  clear hb20 K19
  go_wp2_with fail
  refine (C6.out h8 _ K20.out).mono ?_
  rintro e w21 ⟨rfl, hK21⟩
  have K21 := Lib.hid hK21
  clear hK21 K20
  go_wp2_with fail
  refine (give_any _ _).mono ?_
  rintro e w22 ⟨rfl, hb22⟩
  have K22 := Lib.hid (K21.out.on hb22)
  clear hb22 K21
  go_wp2_with fail
  refine (give_any _ _).mono ?_
  rintro e w23 ⟨rfl, hb23⟩
  have K23 := Lib.hid (K22.out.on hb23)
  clear hb23 K22
  go_wp2_with fail
  refine (C7.out h8 _ K23.out).mono ?_
  rintro e w24 ⟨rfl, hK24⟩
  have K24 := Lib.hid hK24
  clear hK24 K23
  go_wp2_with fail
  refine (give_any _ _).mono ?_
  rintro e w25 ⟨rfl, hb25⟩
  have K25 := Lib.hid (K24.out.on hb25)
  clear hb25 K24
  go_wp2_with fail
  refine (C8.out h8 _ K25.out).mono ?_
  rintro e w26 ⟨rfl, hK26⟩
  have K26 := Lib.hid hK26
  clear hK26 K25
  go_wp2_with fail
  refine (awake_any _).mono ?_
  rintro e wz ⟨rfl, hbz⟩
  have hBz := below_on hbz K26.out.2
  go_wp2_with fail
  go_ret
  exact ⟨rfl, hBz⟩
end Go.Proofs.Ytlnlefebcfnocaa
