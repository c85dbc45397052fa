/- The walk of JournalTwo. -/
import Derived.Test.YtknjloffkiidhaaJ7p
namespace Go.Proofs.Ytknjloffkiidhaa
open Go.RowKit Go.Deep
attribute [local go_sem] Go.undef

set_option maxRecDepth 100000 in
set_option maxHeartbeats 16000000 in
theorem two_go (ra rb : List (List Nat)) (rest : List Nat) (a b t : Option Addr) (n c m d x y : Nat) (W : World) (hn : ra.length = n) (hs : n ≤ 1048576) (h : RB W (· < W.heap.size) a ra)
    (hm : rb.length = m) (hsm : m ≤ 1048576) (h' : RB W (· < W.heap.size) b rb) (ht : rest.length = x) (hx : x ≤ 1048576) (hxy : x ≤ y) (hym : y ≤ 9223372036854775807) (h'' : BY W (· < W.heap.size) t rest) (hb : ∀ x ∈ ra ++ rb, Bytes x) :
    Calls Try.prog 7 #[.slice a n c, .slice b m d, .slice t x y] W fun e w' => e = .returned (.bool true) ∧ Below W.heap.size W w' := by
  obtain ⟨i0, hi0, hz0, hz1, hz2⟩ := info_parts infoB
  obtain ⟨i8, hi8, hy0, hy1, hy2⟩ := info_parts info8
  obtain ⟨va, v1, v2, v3⟩ := h.vals
  obtain ⟨vb, u1, u2, u3⟩ := h'.vals
  have HBY := Lib.hid hb
  have HT := Lib.hid h''
  have HTL := Lib.hid ht
  have V1 := Lib.hid v1
  have U1 := Lib.hid u1
  have vl := v1.1
  have ul := u1.1
  have V2 : Hid (∀ w, Below W.heap.size W w → ∀ ad, a = some ad → ∀ (j : Nat) (u : Value), va[j]? = some u → w.cell? (ad.add j) = some u) := fun w hb ad had j u hu => by
    have h0 : 0 < ra.length := by have := (List.getElem?_eq_some_iff.1 hu).1; omega
    obtain ⟨-, g, o, e, hS⟩ := v3 h0
    have h1 := v2 ad had j u hu
    rw [had] at e
    injection e with e
    subst e
    rw [Addr.add_mid] at h1 ⊢
    exact (hb.cell (p := ⟨g, o + j, none⟩) hS).trans h1
  have U2 : Hid (∀ w, Below W.heap.size W w → ∀ ad, b = some ad → ∀ (j : Nat) (u : Value), vb[j]? = some u → w.cell? (ad.add j) = some u) := fun w hb ad had j u hu => by
    have h0 : 0 < rb.length := by have := (List.getElem?_eq_some_iff.1 hu).1; omega
    obtain ⟨-, g, o, e, hS⟩ := u3 h0
    have h1 := u2 ad had j u hu
    rw [had] at e
    injection e with e
    subst e
    rw [Addr.add_mid] at h1 ⊢
    exact (hb.cell (p := ⟨g, o + j, none⟩) hS).trans h1
  have V3 : Hid (0 < n → a.isSome = true) := fun h0 => (v3 (by omega)).1
  have U3 : Hid (0 < m → b.isSome = true) := fun h0 => (u3 (by omega)).1
  have VL : Hid (va.length = n * 1) := Lib.hid (by omega)
  have UL : Hid (vb.length = m * 1) := Lib.hid (by omega)
  have HN := Lib.hid hn
  have HM := Lib.hid hm
  clear h h' h'' hb v1 v2 v3 u1 u2 u3 ht vl ul hn hm
  go_enter Try.func7, Try.ntmps7
  go_wp2_with fail
  refine (new_by _).mono ?_
  rintro e w1 ⟨rfl, y1, b1⟩
  have Y1 := Lib.hid y1
  have B1 := Lib.hid b1
  clear y1 b1
  go_wp2_with fail
  refine (new_by _).mono ?_
  rintro e w2 ⟨rfl, y2, b2⟩
  have hs1 := B1.out.size
  have hs2 := b2.size
  have Y1' := Lib.hid (Y1.out.under b2 (fun b hb => hb.2))
  have Y2 := Lib.hid y2
  have B2 := Lib.hid (below_on b2 B1.out)
  clear y2 b2 Y1
  go_wp2_with (at_builtin; refine wpList_append_any _ rfl _ _ 23 rfl w2.heap.size 22 i0 _ 1 24 Try.underlying23 hi0 hz0 hz1 hz2 rfl (by omega) _ 0 [] rfl (World.ownsRow_made w2 #[] 0 (Nat.le_refl _) (by decide) rfl) a n c va rfl V3.out VL.out (V2.out _ (B2.out.alloc (by omega) _)) V1.out.one ?a4 ?a5 ?a6 ?_)
  case a4 => unfold maxLen; omega
  case a5 => omega
  case a6 => simp
  intro v3 w3 hown3 hgr3
  obtain ⟨a3, c3, rfl⟩ := own_slice hown3
  have hb3 : Below w2.heap.size w2 w3 := ((Below.refl _ _).alloc (Nat.le_refl _) _).grown hgr3 (by simp) (fun k hk => by cases hk; exact Nat.le_refl _)
  have B3 := Lib.hid (below_on hb3 B2.out)
  have hs3 := hb3.size
  have HO3 := Lib.hid hown3
  have B23 := Lib.hid hb3
  clear hown3 hgr3 hb3
  go_wp2_with (at_builtin; refine wpList_append_any _ rfl _ _ 23 rfl w2.heap.size 22 i0 _ 1 24 Try.underlying23 hi0 hz0 hz1 hz2 rfl (by omega) _ n va rfl HO3.out b m d vb rfl U3.out UL.out (U2.out _ B3.out) U1.out.one ?b4 ?b5 ?b6 ?_)
  case b4 => unfold maxLen; omega
  case b5 => omega
  case b6 => omega
  intro v4 w4 hown4 hgr4
  obtain ⟨a4, c4, rfl⟩ := own_slice hown4
  have hb4 : Below w2.heap.size w2 w4 := B23.out.grown hgr4 (by omega) (fun k hk => (own_row HO3.out k hk).1)
  have hB4 := below_on hb4 B2.out
  have hs4 := hb4.size
  have hrv : RV w4 (· < W.heap.size) (ra ++ rb) (va ++ vb) := (V1.out.app U1.out).under hB4 (fun b hb => hb)
  have hst : CW w4 (ra ++ rb) (va ++ vb) 0 (.slice (some ⟨W.heap.size, 0, none⟩) 5 5) (.slice (some ⟨w1.heap.size, 0, none⟩) 5 5) (.int .i64 0) (.slice none 0 0) w4 := by
    refine ⟨Nat.zero_le _, by omega, (fun r hr => by simp at hr), ⟨_, 5, rfl, by rw [List.take_zero]; decide, by decide, ?_⟩, ⟨_, 5, rfl, by rw [List.take_zero]; decide, by decide, ?_⟩, rfl, ⟨rfl, .inl ⟨rfl, rfl⟩⟩, Below.refl _ _⟩
    · exact (Y1'.out.under hb4 (fun b hb => by omega)).mono fun b hb => ⟨by omega, by simp [Value.ownBlock]⟩
    · exact (Y2.out.under hb4 (fun b hb => by omega)).mono fun b hb => ⟨by omega, by simp [Value.ownBlock]⟩
  have HST := Lib.hid hst
  have HRV := Lib.hid hrv
  have HO4 := Lib.hid hown4
  have HB4 := Lib.hid hB4
  have hL : (ra ++ rb).length = n + m := by rw [List.length_append, HN.out, HM.out]
  clear hst hrv hown4 hgr4 hb4 hB4 V1 V2 V3 VL U1 U2 U3 UL HO3 B23 B3 Y1' Y2
  generalize ra ++ rb = rs at HST HRV HBY hL
  generalize va ++ vb = vs at HST HRV HO4
  have HL := Lib.hid hL
  clear hL
  obtain ⟨L, hLL⟩ : ∃ L, n + m = L := ⟨_, rfl⟩
  rw [hLL] at HL HO4 ⊢
  go_upto_block 0 with fail
  go_cut [7, 8, 9, 10, 11, 12, 13] from 25 to 64 (fun s7 s8 s9 s10 s11 s12 s13 wx => ∃ k, CW w4 rs vs k s7 s8 s9 s10 wx)
  case first =>
    go_wp2_with fail
    go_loopw [7, 8, 9, 10, 25] (fun s7 s8 s9 s10 iv wr => ∃ j : Nat, iv = .int .i64 j ∧ CW w4 rs vs j s7 s8 s9 s10 wr) (fun _ _ _ _ i _ => L - (intOf i).toNat)
    case atStart => exact ⟨0, rfl, HST.out⟩
    case round =>
      obtain ⟨j, rfl, hcs⟩ := hrel
      have hjn : j ≤ L := by have := hcs.1; have := HL.out; omega
      have hj30 : j ≤ 30 := hcs.2.1
      obtain rfl := hcs.2.2.2.2.2.1
      have HCS := Lib.hid hcs
      clear hcs
      by_cases hlt : j < L
      · have hrx : rs[j]? = some (rs[j]'(by rw [HL.out]; exact hlt)) := List.getElem?_eq_getElem _
        generalize rs[j]'(by rw [HL.out]; exact hlt) = r at hrx
        obtain ⟨a', c', hv, hrc, hcm, hbyr⟩ := HRV.out.2 j r hrx
        obtain ⟨g, cap, e1, -, -⟩ := HO4.out.form (by omega)
        injection e1 with e1 _ e2
        subst e1 e2
        have hB := HCS.out.2.2.2.2.2.2.2
        have hc := (own_below HO4.out hB).cellAt j (by omega)
        rw [hv] at hc
        obtain ⟨q, hm1⟩ : ∃ q : Nat, r.length = q := ⟨_, rfl⟩
        rw [hm1] at hc hrc hv
        have hi0' : (0 : Int) ≤ (j : Int) := by omega
        have hi1 : (j : Int) < (L : Int) := by omega
        unfold maxLen at hcm
        have HR := Lib.hid hrx
        have HQ := Lib.hid hm1
        have HV := Lib.hid hv
        have HBR := Lib.hid hbyr
        have HB := Lib.hid hB
        clear hrx hm1 hbyr hB hv
        by_cases h30 : j < 30
        · have g30 : decide ((30 : Int) ≤ (j : Int)) = false := by simp; omega
          by_cases h6 : q ≤ 4000
          · have g6 : decide ((4000 : Int) < (q : Int)) = false := by simp; omega
            obtain ⟨-, -, k3, ⟨a7, c7, rfl, k5, k6, k7⟩, ⟨a8, c8, rfl, l5, l6, l7⟩, -, k10, -⟩ := HCS.out
            have hbt : ∀ x ∈ rs.take j, Bytes x := fun x hx => HBY.out x (List.mem_of_mem_take hx)
            have hsml : Small (rs.take j) := fun x hx => by have := k3 x hx; omega
            have htold := told_JL' hsml hbt
            have htold2 := told_JL hsml hbt (tornL_not rest)
            have hln := HCS.out.len
            have hjb := JL_bytes hbt
            have HT1 := Lib.hid htold
            have HT2 := Lib.hid htold2
            have HK7 := Lib.hid k7
            have HL7 := Lib.hid l7
            have hsW := HB.out.size
            have HL10 := Lib.hid (own_row k10)
            have HK10 := Lib.hid k10
            have HJB := Lib.hid hjb
            have HBW := Lib.hid (HB4.out.trans (HB.out.mono HB4.out.size))
            have hs4W := HB4.out.size
            unfold maxLen at k6 l6
            generalize hN : (JL (rs.take j)).length = N0 at HT1 HT2 hln k5 l5 ⊢
            have HN0 := Lib.hid hN
            clear k3 k7 l7 htold htold2 hbt hsml k10 hN hjb
            go_wp2_with (at_builtin; refine wpList_append_lies _ rfl _ _ 23 rfl w4.heap.size 22 i0 _ 1 24 Try.underlying23 hi0 hz0 hz1 hz2 rfl (by omega) _ j (vs.take j) rfl (HK10.out.alloc _) ⟨wr.heap.size, 0, none⟩ 1 1 [.slice a' q c'] rfl rfl (one_new rfl) ?b3 (by omega) ?b4 ?b5 ?b6 (wr.heap.size + 1) (by simp) ?_)
            case b3 => rfl
            case b4 => unfold maxLen; omega
            case b5 => omega
            case b6 => omega
            intro g2 cap2 w5 hown5 hgr5 hat5 hlt5
            have hs5 : wr.heap.size + 1 ≤ w5.heap.size := by have := hgr5.size; simpa using this
            have hB5 : Below w4.heap.size w4 w5 := (HB.out.alloc hsW _).grown hgr5 (by simp; omega) fun k hk => (HL10.out k hk).1
            have hB5W : Below W.heap.size W w5 := below_on hB5 HB4.out
            have hkeep : ∀ b : Nat, b < wr.heap.size → u10.ownBlock ≠ some b → w5.heap[b]? = wr.heap[b]? := fun b h1 h2 => by
              rw [hgr5.block b (by simp; omega) (fun e => h2 e.symm)]
              exact Below.heap_alloc wr _ b h1
            have kx : BY w5 (fun b => b < wr.heap.size) a7 (JL (rs.take j)) := HK7.out.keep (fun b hb => hb.1) fun b hb i => World.cell?_of_block (a := ⟨b, i, none⟩) (hkeep b hb.1 hb.2)
            have ky : BY w5 (fun b => b < wr.heap.size) a8 (JL (rs.take j)) := HL7.out.keep (fun b hb => hb.1) fun b hb i => World.cell?_of_block (a := ⟨b, i, none⟩) (hkeep b hb.1 hb.2)
            have hap := append_any w5 _ _ a7 a' (JL (rs.take j)) r N0 c7 q c' HN0.out k5 (by omega) (by omega) kx (fun b hb => by omega) HQ.out (by omega) (HBR.out.under hB5 (fun b hb => by have := HBW.out.size; omega)) (fun b hb => by have := hB5W.size; omega)
            have HAP := Lib.hid hap
            have HKY := Lib.hid ky
            have HO5 := Lib.hid hown5
            have HG5 := Lib.hid hgr5
            have HB5 := Lib.hid hB5
            have HB5W := Lib.hid hB5W
            clear hap kx ky hown5 hgr5 hat5 hlt5 hB5 hB5W hkeep
            go_wp2_with fail
            refine HAP.out.mono ?_
            intro e w6 hq6
            rw [← HN0.out] at HT1
            obtain ⟨a6, c6, rfl, hown6, hb6⟩ := hq6.good HT1.out (by rw [HQ.out]; omega)
            rw [← take_snoc HR.out] at hown6 ⊢
            have hnn : (JL (rs.take (j + 1))).length = N0 + q + 8 := by rw [take_snoc HR.out, JL_snoc_len, HQ.out, HN0.out]
            generalize hN1 : (JL (rs.take (j + 1))).length = N1 at hown6 hnn ⊢
            have HN1 := Lib.hid hN1
            have hnb : N1 ≤ 140000 := by omega
            clear hnn
            have HO6 := Lib.hid hown6
            have HB6 := Lib.hid hb6
            have hs6 := hb6.size
            have HB6W := Lib.hid (below_on hb6 HB5W.out)
            have hky6 : BY (w6.alloc (.cells #[] 5)) (fun b => b < wr.heap.size) a8 (JL (rs.take j)) := (HKY.out.under hb6 (fun b hb => by omega)).under ((Below.refl w6.heap.size _).alloc (Nat.le_refl w6.heap.size) _) (fun b hb => by omega)
            have HKY6 := Lib.hid hky6
            have hvl : (VB (JL (rs.take j))).length = N0 * 1 := by rw [VB_len, HN0.out, Nat.mul_one]
            have hso : 0 < N0 → a8.isSome = true := fun h0 => hky6.some (by rw [HN0.out]; exact h0)
            have HVL := Lib.hid hvl
            have HSO := Lib.hid hso
            clear hq6 hown6 hb6 hN1 hky6 hvl hso
            go_wp2_with (at_builtin; refine wpList_append_any _ rfl _ _ 22 rfl w6.heap.size 5 i8 _ 1 1 Try.underlying22 hi8 hy0 hy1 hy2 rfl (by omega) _ 0 [] rfl (World.ownsRow_made w6 #[] 0 (Nat.le_refl _) (by decide) rfl) a8 N0 c8 (VB (JL (rs.take j))) rfl HSO.out HVL.out HKY6.out.news (VB_one _) ?d4 ?d5 ?d6 ?_)
            case d4 => unfold maxLen; omega
            case d5 => omega
            case d6 => simp
            intro v7 w7 hown7 hgr7
            obtain ⟨a9, c9, rfl⟩ := own_slice hown7
            have hb7 : Below w6.heap.size w6 w7 := ((Below.refl _ _).alloc (Nat.le_refl _) _).grown hgr7 (by simp) (fun k hk => by cases hk; exact Nat.le_refl _)
            have hb7W := below_on hb7 HB6W.out
            have hto := torn_any w7 _ t rest x y HTL.out hxy hym (HT.out.under hb7W (fun b hb => hb)) (fun b hb => by have := hb7W.size; omega)
            have HTO := Lib.hid hto
            have HO7 := Lib.hid hown7
            have HB7 := Lib.hid hb7
            have HB7W := Lib.hid hb7W
            have hs7 := hb7.size
            clear hto hown7 hgr7 hb7 hb7W
            go_wp2_with fail
            refine HTO.out.mono ?_
            rintro e w8 ⟨ta, tn, tc, tl, rfl, hownT, hbT⟩
            have htl54 : tn ≤ 54 := by
              rw [← tl, tornL, List.length_append, List.length_take]
              simp
              omega
            have hown8 := own_below HO7.out hbT
            have htb := tornL_bytes HT.out.1
            obtain ⟨tb1, -, -, -⟩ := BY.own hownT htb
            have hb8 := below_on hbT HB7.out
            have hs8 := hbT.size
            have htvl : (VB (tornL rest)).length = tn * 1 := by rw [VB_len, tl, Nat.mul_one]
            have htso : 0 < tn → ta.isSome = true := fun h0 => tb1.some (by omega)
            have HO8 := Lib.hid hown8
            have HTB := Lib.hid htb
            have HTB1 := Lib.hid tb1
            have HB8 := Lib.hid hb8
            have HTV := Lib.hid htvl
            have HTS := Lib.hid htso
            have HTN := Lib.hid tl
            clear hown8 htb tb1 hownT hb8 htvl htso tl hbT
            go_wp2_with (at_builtin; refine wpList_append_any _ rfl _ _ 22 rfl w6.heap.size 5 i8 _ 1 1 Try.underlying22 hi8 hy0 hy1 hy2 rfl (by omega) _ N0 (VB (JL (rs.take j))) rfl HO8.out ta tn tc (VB (tornL rest)) rfl HTS.out HTV.out HTB1.out.news (VB_one _) ?e4 ?e5 ?e6 ?_)
            case e4 => unfold maxLen; omega
            case e5 => omega
            case e6 => omega
            intro v9 w9 hown9 hgr9
            obtain ⟨aA, cA, rfl⟩ := own_slice hown9
            have hb9 : Below w6.heap.size w6 w9 := HB8.out.grown hgr9 (by omega) (fun k hk => (own_row HO8.out k hk).1)
            rw [← VB_app] at hown9
            obtain ⟨z1, z2, z3, z4⟩ := BY.own hown9 (HJB.out.app HTB.out)
            have hb9W := below_on hb9 HB6W.out
            have hs9 := hb9.size
            unfold maxLen at z4
            have hb49 := below_on hb9 (below_on HB6.out HB5.out)
            have hb4s := HB4.out.size
            have hap := append_any w9 _ _ aA a' (JL (rs.take j) ++ tornL rest) r (N0 + tn) cA q c' z2 z3 z4 (by omega) z1 (fun b hb => hb.2) HQ.out (by omega) (HBR.out.under hb49 (fun b hb => by omega)) (fun b hb => by have := hb9W.size; omega)
            have HAP := Lib.hid hap
            have HB9 := Lib.hid hb9
            clear hap z1 z2 z3 z4 hown9 hgr9 hb9 hb9W hb49
            go_wp2_with fail
            refine HAP.out.mono ?_
            intro e w10 hq
            rw [← HN0.out] at HT2
            obtain ⟨aB, cB, rfl, hown10, hb10⟩ := hq.good HT2.out (by rw [HQ.out]; omega)
            rw [← take_snoc HR.out, HN1.out] at hown10 ⊢
            have hcs := HCS.out.step HR.out h30 (by rw [HQ.out]; exact h6) HBY.out HV.out HO5.out HG5.out HN1.out HO6.out HB6.out (below_on hb10 HB9.out) (own_mono hown10 hs9)
            have HCS2 := Lib.hid hcs
            clear hq hown10 hb10 hcs
            go_wp2_with fail
            go_roundw
            case rel => exact ⟨j + 1, by go_num, HCS2.out⟩
            case measure => simp [intOf]; omega
          · have g6 : decide ((4000 : Int) < (q : Int)) = true := by simp; omega
            go_wp2_with fail
            go_meet
            exact ⟨j, HCS.out⟩
        · have g30 : decide ((30 : Int) ≤ (j : Int)) = true := by simp; omega
          go_wp2_with fail
          go_meet
          exact ⟨j, HCS.out⟩
      · go_wp2_with fail
        go_meet
        exact ⟨j, HCS.out⟩
  case rest =>
    obtain ⟨k, hcs⟩ := hcut
    have hln := hcs.len
    obtain ⟨k1, k2, k3, ⟨a7, c7, rfl, k5, k6, k7⟩, ⟨a8, c8, rfl, l5, l6, l7⟩, rfl, k10, k11⟩ := hcs
    obtain ⟨aa, ca, rfl⟩ := own_slice k10
    have hbt : ∀ x ∈ rs.take k, Bytes x := fun x hx => HBY.out x (List.mem_of_mem_take hx)
    have htold := told_JL' (fun x hx => by have := k3 x hx; omega) hbt
    have hkl : (rs.take k).length = k := by rw [List.length_take]; omega
    have HBC := Lib.hid (below_on k11 HB4.out)
    have hop := open_any wc _ a7 (JL (rs.take k)) _ c7 rfl k5 (by unfold maxLen at k6; omega) (by omega) k7 (fun b hb => hb.1)
    have HT1 := Lib.hid htold
    have HOP := Lib.hid hop
    have HK7 := Lib.hid k7
    have HL7 := Lib.hid l7
    have HK10 := Lib.hid k10
    have HK11 := Lib.hid k11
    have HKL := Lib.hid hkl
    have hs11 := k11.size
    have hs4 := HB4.out.size
    clear hop htold hbt k3 k7 l7 k10 k11 hkl k1
    generalize hNN : (JL (rs.take k)).length = N at HOP HT1 hln k5 l5 ⊢
    have HNN := Lib.hid hNN
    clear hNN
    go_wp2_with fail
    refine HOP.out.mono ?_
    intro e w5 hq
    obtain ⟨a9, c9, rfl, z8, z8', z9, hb5⟩ := hq.good HT1.out
    rw [HKL.out] at z8 ⊢
    have HB5 := Lib.hid (below_on hb5 HBC.out)
    have HK10' := own_below HK10.out hb5
    have hrv := (HRV.out.take k).under (below_on hb5 HK11.out) (fun b hb => by omega)
    have hrb := hrv.rb HK10' (fun b hb => by have := hb5.size; omega)
    have hsm := same_by w5 _ _ a9 aa (rs.take k) (rs.take k) k k c9 ca HKL.out HKL.out (by omega) z9 hrb
    rw [decide_eq_true rfl] at hsm
    have HSM := Lib.hid hsm
    have HK7' := Lib.hid (HK7.out.under hb5 (fun b hb => hb.1))
    have HL7' := Lib.hid (HL7.out.under hb5 (fun b hb => hb.1))
    have hs5 := hb5.size
    clear hq hb5 hsm z9 hrb hrv HK10'
    go_wp2_with fail
    refine HSM.out.mono ?_
    rintro e w6 ⟨rfl, hb6⟩
    have HB6 := Lib.hid (below_on hb6 HB5.out)
    have x1 := (HK7'.out.under hb6 (fun b hb => by omega)).conv HNN.out c7
    have x2 := (HL7'.out.under hb6 (fun b hb => by omega)).conv HNN.out c8
    clear hb6
    go_wp2_with fail
    refine (awake_any _).mono ?_
    rintro e w7 ⟨rfl, hb7⟩
    have HB7 := Lib.hid (below_on hb7 HB6.out)
    clear hb7
    go_wp2_with fail
    go_ret
    exact ⟨rfl, HB7.out⟩
/-- What JournalTwo is given, opened. -/
theorem walk_JournalTwo {H : Type} {enc : TypeId × Value → H} {base : Nat} (v v' v'' : Value) {d d' d'' : DataW H} {p p' p'' : List MemPlace} {ds : List (DataW H)} (W : World) (ok : Value.okWide Try.prog W .any base 23 v)
    (tr : DataW.Trod enc Try.prog W 0 (fun _ => true) true 23 v d p) (ok' : Value.okWide Try.prog W .any base 23 v')
    (tr' : DataW.Trod enc Try.prog W 0 (fun _ => true) true 23 v' d' p') (ok'' : Value.okWide Try.prog W .any base 22 v'')
    (tr'' : DataW.Trod enc Try.prog W 0 (fun _ => true) true 22 v'' d'' p'') (hk : Rows.uptoSmall H ds = true) (hd : d ∈ ds) (hd' : d' ∈ ds) (hd'' : d'' ∈ ds) : Calls Try.prog 7 #[v, v', v''] W fun e w' => e = .returned (.bool true) ∧ Below W.heap.size W w' := by
  obtain ⟨ra, a, n, c, rfl, h1, -, -, h4, h5⟩ := rows_arg ok tr
  obtain ⟨rb, b, m, e, rfl, k1, -, -, k4, k5⟩ := rows_arg ok' tr'
  obtain ⟨l, t, x, y, rfl, l1, l2, l3, l4, l5⟩ := bytes_arg ok'' tr''
  unfold maxLen at l3
  exact two_go ra rb l a b t n c m e x y W h1 (Nat.le_trans h5 (bulk_bound hk hd)) h4 k1 (Nat.le_trans k5 (bulk_bound hk hd')) k4 l1 (Nat.le_trans l5 (bulk_bound hk hd'')) l2 (by omega) l4 (fun x hx => (List.mem_append.1 hx).elim (h4.bytes x) (k4.bytes x))
end Go.Proofs.Ytknjloffkiidhaa
