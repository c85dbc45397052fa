/- Timer: the walk of TimerPieces. -/
import Derived.Test.YtcgchccppoignaaRfM
namespace Go.Proofs.Ytcgchccppoignaa
open Go.RowKit Go.ChangeShapes Go.WideShapes
attribute [local go_sem ↓] Go.wp_at_zero Go.wp_at_succ
attribute [local go_sem] Go.undef

def gP (p : Pr) : Nat := p.1.toNat
theorem gP_prT (x : Tm) : gP (prT x) = atT x := rfl
theorem Wh.fires {w : World} {B b m T sq : Nat} {L : List Tm} {ρ : Nat → List Tm} (h : Wh w B b m T sq L ρ) : Fires gP T (L.map prT) [] (L.map prT) := h.idle.map (p := prT) gP_prT
/-- A row, read. -/
theorem row_src {w : World} {B E sz n : Nat} {v : Value} {xs : List Value} (h : w.ownsRow B E sz v n xs) : ∃ a c, v = .slice a n c ∧ (0 < n → a.isSome = true) ∧ ∀ ad, a = some ad → ∀ j u, xs[j]? = some u → w.cell? (ad.add j) = some u := by
  rcases h.2 with ⟨e, hn⟩ | ⟨g, cap, cur, e, -⟩
  · subst e hn
    exact ⟨none, 0, rfl, fun h => absurd h (by omega), fun ad had => by cases had⟩
  · subst e
    refine ⟨_, cap, rfl, fun _ => rfl, fun ad had => ?_⟩
    injection had with had
    subst had
    exact h.cells (g := g) rfl
structure PcX (w : World) (N0 N1 N2 T0 s2 : Nat) (P0 : List Pr) (Lb : List Tm) (ρb : Nat → List Tm) (ov : Value) (e : Int) (Ta sq : Nat) (L : List Tm) (ρ : Nat → List Tm) (Fo : List Tm) (wr : World) : Prop where
  wf : (Lit.int .i64 e).wf = true
  ta : Ta = tkF T0 e
  le : T0 ≤ Ta
  wa : Wh wr N0 (N0 + 1) N0 Ta sq L ρ
  oa : ∀ g, Own (N0 + 1) N0 L g → g < N1
  wb : Wh wr N1 (N1 + 1) N1 T0 s2 Lb ρb
  ob : ∀ g, Own (N1 + 1) N1 Lb g → g < N2
  fi : Fires gP Ta P0 (Fo.map prT) (L.map prT)
  ro : wr.ownsRow N2 45 2 ov Fo.length (fcs Fo)
  be : Below N0 w wr
  sz : N2 ≤ wr.heap.size
section
variable {w wr w3 w4 : World} {N0 N1 N2 T0 s2 Ta sq : Nat} {P0 : List Pr} {Lb L Fo F R : List Tm} {ρb ρ ρ' : Nat → List Tm} {ov v4 : Value} {e : Int}
theorem PcX.draw (h : PcX w N0 N1 N2 T0 s2 P0 Lb ρb ov e Ta sq L ρ Fo wr) (n : Nat) : PcX w N0 N1 N2 T0 s2 P0 Lb ρb ov e Ta sq L ρ Fo (wr.drewN n) :=
  ⟨h.wf, h.ta, h.le, h.wa.far fun _ _ => rfl, h.oa, h.wb.far fun _ _ => rfl, h.ob, h.fi, own_keep h.ro fun _ _ => rfl, belowN h.be n, h.sz⟩
theorem PcX.len (h : PcX w N0 N1 N2 T0 s2 P0 Lb ρb ov e Ta sq L ρ Fo wr) : Fo.length + L.length = P0.length := by simpa using h.fi.len
theorem tk_far {s : Int} (hT : T0 ≤ Ta) (hM : Ta ≤ MT) : tkF Ta (farF Ta s) = tkF T0 (farF Ta s) ∧ Ta ≤ tkF Ta (farF Ta s) := by
  have h1 := Int.emod_nonneg s (b := 4398046511104) (by decide)
  unfold tkF farF
  unfold MT at hM ⊢
  omega
/-- One piece. -/
theorem PcX.step {s : Int} (h : PcX w N0 N1 N2 T0 s2 P0 Lb ρb ov e Ta sq L ρ Fo wr) (h12 : N0 ≤ N1 ∧ N1 ≤ N2) (hf : Fires atT (tkF Ta (farF Ta s)) L F R) (hw : Wh w3 N0 (N0 + 1) N0 (tkF Ta (farF Ta s)) sq R ρ') (ht : WT (Own (N0 + 1) N0 L) wr w3)
    (hown : w4.ownsRow N2 45 2 v4 (Fo.length + F.length) (fcs Fo ++ fcs F)) (hgr : w3.grownBy w4 ov.ownBlock) : PcX w N0 N1 N2 T0 s2 P0 Lb ρb v4 (farF Ta s) (tkF Ta (farF Ta s)) sq R ρ' (Fo ++ F) w4 where
  wf := farF_wf h.wa.nm s
  ta := (tk_far h.le h.wa.nm).1
  le := Nat.le_trans h.le (tk_far h.le h.wa.nm).2
  wa := hw.far fun g hg => hgr.block g (hw.whl.own_lt hg).2 fun k => by have h1 := (own_ge h.ro k.symm).1; have h2 := h.oa g (own_of_fires hf hg); omega
  oa := fun g hg => h.oa g (own_of_fires hf hg)
  wb := (h.wb.far (w1 := w3) fun g hg => ht.far g (h.wb.whl.own_lt hg).2 fun k => by have h1 := h.oa g k; have h2 := (h.wb.whl.own_lt hg).1; omega).far fun g hg => hgr.block g (Nat.lt_of_lt_of_le (h.wb.whl.own_lt hg).2 ht.size) fun k => by
    have h1 := (own_ge h.ro k.symm).1
    have h2 := h.ob g hg
    omega
  ob := h.ob
  fi := by rw [List.map_append]; exact h.fi.append (tk_far h.le h.wa.nm).2 (hf.map (p := prT) gP_prT)
  ro := by rw [List.length_append, fcs_append]; exact hown
  be := (h.be.trans (ht.below (Nat.le_trans (Nat.le_trans h12.1 h12.2) h.sz) fun g hg => (h.wa.whl.own_lt hg).1)).grown hgr (Nat.le_trans (Nat.le_trans (Nat.le_trans h12.1 h12.2) h.sz) ht.size) fun q hq => by have := (own_ge h.ro hq).1; omega
  sz := Nat.le_trans h.sz (Nat.le_trans ht.size hgr.size)
end
abbrev St := Int
def IE (z : Int) (cs : List Value) : Prop := cs = [.int .i64 z] ∧ (Lit.int .i64 z).wf = true
theorem RowsOf.ie {w : World} {S : Nat → Prop} {l : List Int} {a : Option Addr} {n c j : Nat} (h : RowsOf IE 1 w S l a n c) (hj : j < n) :
    ∃ (g o : Nat) (z : Int), a = some ⟨g, o, none⟩ ∧ S g ∧ (Lit.int .i64 z).wf = true ∧ w.cell? ⟨g, o + j, none⟩ = some (.int .i64 z) := by
  obtain ⟨rfl, -, -, h4⟩ := h
  obtain ⟨g, o, e, hS, hr⟩ := h4 (by omega)
  obtain ⟨cs, ⟨rfl, w1⟩, -, hc⟩ := hr j l[j] (List.getElem?_eq_getElem hj)
  exact ⟨g, o, l[j], e, hS, w1, by have := hc 0 _ rfl; rw [Nat.mul_one] at this; exact this⟩
theorem rows_keep3 {w w' : World} {S : Nat → Prop} {l : List Ac} {a : Option Addr} {n c : Nat} (h : RowsOf AE 3 w S l a n c) (he : ∀ g, S g → w'.heap[g]? = w.heap[g]?) : RowsOf AE 3 w' S l a n c := by
  obtain ⟨h1, h2, h3, h4⟩ := h
  refine ⟨h1, h2, h3, fun h0 => ?_⟩
  obtain ⟨g, o, e, hS, hr⟩ := h4 h0
  refine ⟨g, o, e, hS, fun j x hx => ?_⟩
  obtain ⟨cs, hE, hl, hc⟩ := hr j x hx
  exact ⟨cs, hE, hl, fun i v hv => (World.cell?_of_block (a := ⟨g, o + j * 3 + i, none⟩) (he g hS)).trans (hc i v hv)⟩
section
variable {w : World}
set_option maxRecDepth 100000 in
set_option maxHeartbeats 16000000 in
theorem pieces_go (now : Int) (hn : (Lit.int .i64 now).wf = true) (l : List Ac) (a : Option Addr) (n c : Nat) (l2 : List Int) (a2 : Option Addr) (n2 c2 : Nat) (w : World) (h : RowsOf AE 3 w (· < w.heap.size) l a n c) (hl : n ≤ 5864062014805) (h2 : RowsOf IE 1 w (· < w.heap.size) l2 a2 n2 c2) :
    Calls Try.prog 3 #[.int .i64 now, .slice a n c, .slice a2 n2 c2] w fun e w' => e = .returned (.bool true) ∧ Below w.heap.size w w' := by
  obtain ⟨iF, hiF, hzF, hzF1, hzF2⟩ := info_parts infoF
  have hz1 : n2 ≤ c2 := h2.2.1
  have hz2 : c2 ≤ maxLen := h2.2.2.1
  unfold maxLen at hz2
  have H := Lib.hid h
  have H2 := Lib.hid h2
  have HN : Hid (n = l.length) := h.1
  clear h h2
  obtain ⟨T0, hT0⟩ : ∃ T, T = nowF now := ⟨_, rfl⟩
  have HSA := Lib.hid (set_any now hn l a n c _ w H.out (fun g hg => hg) hl)
  rw [← hT0] at HSA
  go_enter Try.func3, Try.ntmps3
  simp only [Go.undef]
  go_wp2_with fail
  refine HSA.out.mono ?_
  rintro e w1 ⟨rfl, s1, La, ρa, hwa, hea, hq1, hla, hb1⟩
  have h01 := hb1.size
  have HSB := Lib.hid (set_any now hn l a n c _ w1 (rows_keep3 H.out fun g hg => hb1.block g hg) (fun g hg => Nat.lt_of_lt_of_le hg h01) hl)
  rw [← hT0] at HSB
  have HA1 := Lib.hid (And.intro hwa (And.intro hea (And.intro hq1 (And.intro hla hb1))))
  clear hwa hea hq1 hla hb1 HSA
  go_wp2_with fail
  refine HSB.out.mono ?_
  rintro e w2 ⟨rfl, s2, Lb, ρb, hwb, heb, hq2, hlb, hb2⟩
  obtain ⟨N0, hN0⟩ : ∃ N, N = w.heap.size := ⟨_, rfl⟩
  obtain ⟨N1, hN1⟩ : ∃ N, N = w1.heap.size := ⟨_, rfl⟩
  obtain ⟨N2, hN2⟩ : ∃ N, N = w2.heap.size := ⟨_, rfl⟩
  have h12 := hb2.size
  have HN12 : Hid (N0 ≤ N1 ∧ N1 ≤ N2) := ⟨by omega, by omega⟩
  have hlt : l.take n = l := by rw [HN.out, List.take_length]
  rw [hlt] at HA1 heb
  have hT00 : tkF T0 (T0 : Int) = T0 := by have := HA1.out.1.nm; unfold tkF; unfold MT at this ⊢; omega
  have HX2 : Hid (PcX w N0 N1 N2 T0 s2 (setP T0 l) Lb ρb (.slice none 0 0) T0 T0 s1 La ρa [] w2) := by
    subst hN0 hN1 hN2
    exact ⟨by have := HA1.out.1.nm; unfold MT at this; rw [show (T0 : Int) = wrap64 T0 from (IntWalk.wrap64_in _ (by omega)).symm]; exact wrap64_wf _, hT00.symm, Nat.le_refl _,
      HA1.out.1.far fun g hg => hb2.block g (HA1.out.1.whl.own_lt hg).2, fun g hg => (HA1.out.1.whl.own_lt hg).2, hwb, fun g hg => (hwb.whl.own_lt hg).2, by rw [← HA1.out.2.1]; exact HA1.out.1.fires, World.ownsRow_nil _ _ _ _, HA1.out.2.2.2.2.trans (hb2.mono HA1.out.2.2.2.2.size), Nat.le_refl _⟩
  have HPL : Hid ((setP T0 l).length ≤ 5864062014805 ∧ Lb.map prT = setP T0 l ∧ Lb.length ≤ 5864062014805) := ⟨by rw [← HA1.out.2.1, List.length_map]; have := HA1.out.2.2.2.1; omega, heb, by omega⟩
  have HNW := Lib.hid (now_any HX2.out.wa.whl)
  have HNE := Lib.hid hN0
  rw [← hN0, ← hN1]
  clear hwb heb hq2 hlb hb2 hN0 hN1 hN2 h12 h01 hT0 hT00 hlt HA1 HSB HN
  go_wp2_with fail
  refine HNW.out.mono ?_
  rintro e w3 ⟨rfl, rfl⟩
  clear HNW
  go_upto_region 6 with fail
  go_loopw [9, 10, 11] (fun ov ev iv wr => ∃ i : Nat, iv = .int .i64 i ∧ i ≤ n2 ∧ ∃ (o : Value) (e : Int) (Ta sq : Nat) (L : List Tm) (ρ : Nat → List Tm) (Fo : List Tm), o = ov ∧ ev = .int .i64 e ∧ PcX w N0 N1 N2 T0 s2 (setP T0 l) Lb ρb o e Ta sq L ρ Fo wr) (fun _ _ iv _ => n2 - (intOf iv).toNat)
  case atStart => exact ⟨0, rfl, by omega, _, _, _, _, _, _, _, rfl, rfl, HX2.out⟩
  case round =>
    obtain ⟨i, rfl, hi, ov, e, Ta, sq, L, ρ, Fo, rfl, rfl, hx⟩ := hrel
    by_cases hlt : i < n2
    · obtain ⟨g, o, z, rfl, hg, wz, d1⟩ := H2.out.ie hlt
      have hbw : Below w.heap.size w wr := HNE.out ▸ hx.be
      have c1 := cell_over hbw hg d1
      have hx0 : (0 : Int) ≤ (i : Int) := by omega
      have hx1 : (i : Int) < (n2 : Int) := by omega
      have hx1' := hx.draw 1
      have HNW := Lib.hid (now_any hx1'.wa.whl)
      have HFAR := Lib.hid (far_any hx1'.wa.nm z wr.drew)
      have hlen := hx1'.len
      have HG := Lib.hid (go_any hx1'.wa (by have := HPL.out.1; omega) (farF Ta z) (farF_wf hx1'.wa.nm z))
      have HX := Lib.hid (And.intro hx1' hlen)
      clear hx hx1' hlen wz d1 hg hbw
      go_upto_region 8 with fail
      refine wp_region_held_drew (S := (fun w' => w'.cell? ⟨g, o + i, none⟩ = some (.int .i64 z))) (by kernel_rfl) c1 (fun hHeld => ?_)
      refine wpAnyH_take (i := 0) (v := ?_) rfl (by kernel_rfl) (by kernel_rfl) (by kernel_rfl) (fun _ _ _ h => h) (Or.inl ⟨by rfl, ?_⟩) hHeld ?_
      rotate_left
      · rintro w hS1
        first | (go_simp; done) | (go_simp; with_reducible rfl)
      try simp only [Act.put, List.getElem_toArray, List.getElem_cons_zero, List.setIfInBounds_toArray, List.set_cons_zero, List.set_cons_succ]
      refine wpAnyH_take (i := 2) (v := ?_) rfl (by kernel_rfl) (by kernel_rfl) (by kernel_rfl) (fun _ _ _ h => h) (Or.inl ⟨by rfl, ?_⟩) hHeld ?_
      rotate_left
      · rintro w hS1
        first | (go_simp; done) | (go_simp; with_reducible rfl)
      try simp only [Act.put, List.getElem_toArray, List.getElem_cons_zero, List.getElem_cons_succ, List.setIfInBounds_toArray, List.set_cons_zero, List.set_cons_succ]
      refine wpAnyH_take (i := 3) (v := ?_) rfl (by kernel_rfl) (by kernel_rfl) (by kernel_rfl) (fun _ _ _ h => h) (Or.inl ⟨by rfl, ?_⟩) hHeld ?_
      rotate_left
      · rintro w hS1
        first | (go_simp; done) | (go_simp; with_reducible rfl)
      try simp only [Act.put, List.getElem_toArray, List.getElem_cons_zero, List.getElem_cons_succ, List.setIfInBounds_toArray, List.set_cons_zero, List.set_cons_succ]
      refine wpAnyH_take (i := 4) (v := ?_) rfl (by kernel_rfl) (by kernel_rfl) (by kernel_rfl) (fun _ _ _ h => h) (Or.inl ⟨by rfl, ?_⟩) hHeld ?_
      rotate_left
      · rintro w hS1
        first | (go_simp; done) | (go_simp; with_reducible rfl)
      try simp only [Act.put, List.getElem_toArray, List.getElem_cons_zero, List.getElem_cons_succ, List.setIfInBounds_toArray, List.set_cons_zero, List.set_cons_succ]
      refine wpAnyH_take (i := 5) (v := ?_) rfl (by kernel_rfl) (by kernel_rfl) (by kernel_rfl) (fun _ _ _ h => h) (Or.inl ⟨by rfl, ?_⟩) hHeld ?_
      rotate_left
      · rintro w hS1
        first | (go_simp; done) | (go_simp; with_reducible rfl)
      try simp only [Act.put, List.getElem_toArray, List.getElem_cons_zero, List.getElem_cons_succ, List.setIfInBounds_toArray, List.set_cons_zero, List.set_cons_succ]
      refine wpAnyH_ready (rs := [1]) (by kernel_rfl) (by simp) ?_
      refine AllReadyH.cons rfl (fun K hK => ?_) AllReadyH.nil
      go_simp
      go_at_call 8
      refine (HNW.out).mono ?_
      rintro e w4 ⟨rfl, rfl⟩
      refine hK.out _ _ hHeld (fun hHeld2 => ?_)
      clear hHeld hK K
      have hHeld := hHeld2
      clear hHeld2
      try simp only [Act.put, List.getElem_toArray, List.getElem_cons_zero, List.getElem_cons_succ, List.setIfInBounds_toArray, List.set_cons_zero, List.set_cons_succ]
      refine wpAnyH_ready (rs := [6]) (by kernel_rfl) (by simp) ?_
      refine AllReadyH.cons rfl (fun K hK => ?_) AllReadyH.nil
      go_simp
      go_at_call 9
      refine (HFAR.out).mono ?_
      rintro e w4 ⟨rfl, rfl⟩
      refine hK.out _ _ hHeld (fun hHeld2 => ?_)
      clear hHeld hK K
      have hHeld := hHeld2
      clear hHeld2
      try simp only [Act.put, List.getElem_toArray, List.getElem_cons_zero, List.getElem_cons_succ, List.setIfInBounds_toArray, List.set_cons_zero, List.set_cons_succ]
      refine wpAnyH_take (i := 7) (v := ?_) rfl (by kernel_rfl) (by kernel_rfl) (by kernel_rfl) (fun _ _ _ h => h) (Or.inl ⟨by rfl, ?_⟩) hHeld ?_
      rotate_left
      · rintro w hS1
        first | (go_simp; done) | (go_simp; with_reducible rfl)
      try simp only [Act.put, List.getElem_toArray, List.getElem_cons_zero, List.getElem_cons_succ, List.setIfInBounds_toArray, List.set_cons_zero, List.set_cons_succ]
      refine wpAnyH_done (by kernel_rfl) ?_ _
      clear hHeld c1 HNW HFAR
      go_wp2_with fail
      refine HG.out.mono ?_
      rintro e' w3 ⟨v3, F, R, ρ', rfl, hf, hw3, hor3, ht3⟩
      obtain ⟨a3, c3, rfl, hsome, hsrc⟩ := row_src hor3
      have HO := Lib.hid (own_keep HX.out.1.ro (w' := w3) fun q hq => ht3.far q (own_ge HX.out.1.ro hq).2 fun k => by have h1 := (own_ge HX.out.1.ro hq).1; have h2 := HX.out.1.oa q k; have h3 := HN12.out.2; omega)
      have HSRC := Lib.hid hsrc
      have HS0 := Lib.hid hsome
      have hfl := hf.len
      have HL1 : Hid ((fcs F).length = F.length * 2 ∧ Fo.length + F.length ≤ maxLen ∧ (Fo.length + F.length + (Fo.length + F.length) / 4 + 192) * 16 ≤ 281474976710656) := by
        have h1 := HX.out.2
        have h2 := HPL.out.1
        exact ⟨by rw [fcs_len]; omega, by unfold maxLen; omega, by omega⟩
      have HSZ : Hid (N2 ≤ w3.heap.size) := Nat.le_trans HX.out.1.sz ht3.size
      have HR := Lib.hid (And.intro hf (And.intro hw3 ht3))
      clear hf hw3 hor3 ht3 hsome hsrc hfl HG
      go_wp2_with (at_builtin; refine wpList_append_any _ rfl _ _ 26 rfl N2 45 iF _ 2 16 Try.underlying26 hiF hzF hzF1 hzF2 rfl (by decide) ov Fo.length (fcs Fo) rfl HO.out a3 F.length c3 (fcs F) rfl HS0.out HL1.out.1 HSRC.out (fcs_one _) HL1.out.2.1 HL1.out.2.2 HSZ.out ?_; intro v4 w4 hown4 hgr4; have HX4 := Lib.hid (HX.out.1.step HN12.out HR.out.1 HR.out.2.1 HR.out.2.2 hown4 hgr4); clear hown4 hgr4)
      go_roundw
      case rel => exact ⟨i + 1, by go_num, by omega, _, _, _, _, _, _, _, rfl, rfl, HX4.out⟩
      case measure => simp [intOf]; omega
    · obtain rfl : i = n2 := by omega
      have hG := go_any hx.wb (by have := HPL.out.2.2; omega) e hx.wf
      rw [← hx.ta] at hG
      have HG := Lib.hid hG
      have HX := Lib.hid hx
      clear hx hG
      go_wp2_with fail
      refine HG.out.mono ?_
      rintro e' w3 ⟨v3, F, R, ρ', rfl, hf, hw3, hor3, ht3⟩
      have hm := hf.map (p := prT) gP_prT
      rw [HPL.out.2.1] at hm
      obtain ⟨hF, hR⟩ := hm.det HX.out.fi
      have hor := own_keep HX.out.ro (w' := w3) fun q hq => ht3.far q (own_ge HX.out.ro hq).2 fun k => by have h1 := (own_ge HX.out.ro hq).1; have h2 := HX.out.ob q k; omega
      obtain ⟨av, cv, rfl, hr⟩ := fired_rows hor
      obtain ⟨av3, cv3, rfl, hr3⟩ := fired_rows hor3
      have hwa3 := HX.out.wa.far (w1 := w3) fun q hq => ht3.far q (HX.out.wa.whl.own_lt hq).2 fun k => by have h1 := HX.out.oa q hq; have h2 := (HX.out.wb.whl.own_lt k).1; omega
      have hRl : R.length = L.length := by have := congrArg List.length hR; simpa using this
      have HSM := Lib.hid (same_any _ _ _ _ _ _ _ _ _ _ w3 hr hr3)
      have HDE : Hid (decide (Fo.map prT = F.map prT) = true) := decide_eq_true hF.symm
      have HB3 : Hid (Below N0 w w3) := HX.out.be.trans (ht3.below (Nat.le_trans (Nat.le_trans HN12.out.1 HN12.out.2) HX.out.sz) fun g hg => Nat.le_trans HN12.out.1 (HX.out.wb.whl.own_lt hg).1)
      have HW3 := Lib.hid (And.intro hwa3 hw3)
      clear hf hw3 hor3 ht3 hm hF hR hor hr hr3 hwa3 HG
      go_wp2_with fail
      refine HSM.out.mono ?_
      rintro e' w4 ⟨rfl, n4, hw4⟩
      rw [HDE.out]
      have hA4 : Wh w4 N0 (N0 + 1) N0 Ta sq L ρ := by rw [hw4]; exact HW3.out.1.far fun _ _ => rfl
      have hB4 : Wh w4 N1 (N1 + 1) N1 Ta s2 R ρ' := by rw [hw4]; exact HW3.out.2.far fun _ _ => rfl
      have HNA := Lib.hid (now_any hA4.whl)
      have HNB := Lib.hid (now_any hB4.whl)
      have HLA := Lib.hid (len_any hA4.whl)
      have hlB := len_any hB4.whl
      rw [hRl] at hlB
      have HLB := Lib.hid hlB
      have HB4 : Hid (Below N0 w w4) := by show Below _ _ _; rw [hw4]; exact belowN HB3.out n4
      clear hw4 hA4 hB4 hlB HSM
      go_wp2_with fail
      refine HNA.out.mono ?_
      rintro e' w5 ⟨rfl, rfl⟩
      go_wp2_with fail
      refine HNB.out.mono ?_
      rintro e' w5 ⟨rfl, rfl⟩
      go_wp2_with fail
      refine HLA.out.mono ?_
      rintro e' w5 ⟨rfl, rfl⟩
      go_wp2_with fail
      refine HLB.out.mono ?_
      rintro e' w5 ⟨rfl, rfl⟩
      go_wp2_with fail
      refine (awake_any _).mono ?_
      rintro e' w5 ⟨rfl, hb5⟩
      have HB5 := Lib.hid hb5
      clear hb5
      go_wp2_with fail
      go_ret
      rw [← HNE.out]
      exact ⟨rfl, below_via HB4.out HB5.out (by rw [HNE.out]; exact HB4.out.size)⟩
end
section
variable {H : Type} {enc : TypeId × Value → H} {w : World} {spare : Nat → Bool} {held : Bool}
theorem open_step (fuel : Nat) (cs : List Value) (x : DataW H × List MemPlace) (h : DataW.trod enc Try.prog w 0 spare held fuel 2 cs = some x) : ∃ t : Int, IE t cs := by
  obtain ⟨i0, h0, -, k0⟩ := DataW.trod_int Try.underlying2 h
  exact ⟨i0, h0, k0⟩
end
theorem steps_open {H : Type} {enc : TypeId × Value → H} {base : Nat} {v : Value} {d : DataW H} {p : List MemPlace} {W : World} (ok : Value.okWide Try.prog W .any base 23 v) (tr : DataW.Trod enc Try.prog W 0 (fun _ => true) true 23 v d p) :
    ∃ l a n c, v = .slice a n c ∧ RowsOf IE 1 W (· < W.heap.size) l a n c := by
  obtain ⟨x, n, c, rfl⟩ := okWide_slice Try.underlying23 ok
  obtain ⟨fuel, hf⟩ := tr
  obtain ⟨l, a1, n1, c1, hc, hr⟩ := open_rows (E := IE) (sz := 1) Try.underlying23 qcI64 (fun m cs x _ h => open_step m cs x h) hf (by omega)
  simp [Value.cells] at hc
  obtain ⟨rfl, rfl, rfl⟩ := hc
  exact ⟨l, _, _, _, rfl, hr⟩
theorem walk_TimerPieces {H : Type} {enc : TypeId × Value → H} {base : Nat} {d d2 : DataW H} {p p2 : List MemPlace} (now : Int) (v v2 : Value) (W : World) (hn : (Lit.int .i64 now).wf = true) (ok : Value.okWide Try.prog W .any base 22 v)
    (tr : DataW.Trod enc Try.prog W 0 (fun _ => true) true 22 v d p) (hsz : ∀ n ∈ d.weights Try.prog 22, n ≤ reachBytes)
    (ok2 : Value.okWide Try.prog W .any base 23 v2) (tr2 : DataW.Trod enc Try.prog W 0 (fun _ => true) true 23 v2 d2 p2) (_ : ∀ n ∈ d2.weights Try.prog 23, n ≤ reachBytes) :
    Calls Try.prog 3 #[.int .i64 now, v, v2] W fun e w' => e = .returned (.bool true) ∧ Below W.heap.size W w' := by
  obtain ⟨l, a, n, c, rfl, hr, hl⟩ := script_open ok tr hsz
  obtain ⟨l2, a2, n2, c2, rfl, hr2⟩ := steps_open ok2 tr2
  exact pieces_go now hn l a n c l2 a2 n2 c2 W hr hl hr2
end Go.Proofs.Ytcgchccppoignaa
