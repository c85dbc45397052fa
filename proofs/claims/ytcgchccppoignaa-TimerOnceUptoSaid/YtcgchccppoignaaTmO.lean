/- Timer: the wheel's Go. -/
import Derived.Test.YtcgchccppoignaaTmN
namespace Go.Proofs.Ytcgchccppoignaa
open Go.RowKit
attribute [local go_sem ↓] Go.wp_at_zero Go.wp_at_succ
attribute [local go_sem] Go.undef

/-- A wheel between calls. -/
structure Wh (w : World) (B b m now sq : Nat) (L : List Tm) (ρ : Nat → List Tm) : Prop where
  whl : Whl w B b m now sq L ρ
  inv : Inv now L ρ
  gt : ∀ x, x ∈ L → now < x.at_
  srt : Srt L
  dst : Dst L
  sq : ∀ x, x ∈ L → x.seq ≤ sq
  nm : now ≤ MT
def tkF (now : Nat) (a : Int) : Nat := max now (min a MT).toNat
def GoR (w : World) (B b m now sq T : Nat) (L : List Tm) (g : Nat) (ov : Value) (wr : World) : Prop :=
  ∃ (c : Nat) (Lr : List Tm) (ρr : Nat → List Tm) (fired : List Tm), now ≤ c ∧ g + c = T ∧ Wh wr B b m c sq Lr ρr ∧ (∀ F R, Fires (fun x : Tm => x.at_) T Lr F R → Fires (fun x : Tm => x.at_) T L (fired ++ F) R) ∧ (∀ x, x ∈ Lr → x ∈ L) ∧ fired.length + Lr.length = L.length ∧
    wr.ownsRow w.heap.size 45 2 ov fired.length (fcs fired) ∧ WT (Own b m L) w wr
def GoPost (w : World) (B b m sq : Nat) (L : List Tm) (T : Nat) (e : Ending) (w' : World) : Prop :=
  ∃ (v : Value) (F R : List Tm) (ρ' : Nat → List Tm), e = .returned v ∧ Fires (fun x : Tm => x.at_) T L F R ∧ Wh w' B b m T sq R ρ' ∧ w'.ownsRow w.heap.size 45 2 v F.length (fcs F) ∧ WT (Own b m L) w w'
section
variable {w : World} {B b m now sq : Nat} {L : List Tm} {ρ : Nat → List Tm}
theorem filter_len {α : Type} (p : α → Bool) : ∀ l : List α, (l.filter p).length + (l.filter fun x => !p x).length = l.length
  | [] => rfl
  | a :: r => by
    have := filter_len p r
    cases h : p a <;> simp [h] <;> omega
theorem Wh.idle (h : Wh w B b m now sq L ρ) : Fires (fun x : Tm => x.at_) now L [] L := .done h.gt
theorem Wh.with {w' : World} {c : Nat} {ρ' : Nat → List Tm} (h : Wh w B b m now sq L ρ) (hw : Whl w' B b m c sq L ρ') (hi : Inv c L ρ') (hg : ∀ x, x ∈ L → c < x.at_) (hn : c ≤ MT) : Wh w' B b m c sq L ρ' := ⟨hw, hi, hg, h.srt, h.dst, h.sq, hn⟩
theorem step_to {T : Nat} {t : Int} (ht : (T : Int) = t) (h : Wh w B b m now sq L ρ) (hc : now ≤ T) (hT : T ≤ MT) (hg : ∀ x, x ∈ L → T ≤ x.at_) (hL : L.length ≤ 8796093022208) :
    Calls Try.prog 22 #[pt b 0, .int .i64 t] w fun e w' => e = .returned (.tuple #[]) ∧ ∃ ρ', Whl w' B b m T sq L ρ' ∧ Inv T L ρ' ∧ WT (Own b m L) w w' := by
  subst ht
  exact step_any h.whl h.inv hc hT hg hL
theorem own_ge {B' E size n : Nat} {v : Value} {xs : List Value} (h : w.ownsRow B' E size v n xs) {q : Nat} (hq : v.ownBlock = some q) : B' ≤ q ∧ q < w.heap.size := h.lt q hq
theorem rest_sub {T : Nat} {F R : List Tm} (h : Fires (fun x : Tm => x.at_) T L F R) : R.Sublist L := by
  induction h with
  | done => exact List.Sublist.refl _
  | step _ _ _ _ ih => exact ih.trans (List.eraseIdx_sublist _ _)
theorem Srt.sub {L' : List Tm} (h : Srt L) (hs : L'.Sublist L) : Srt L' := List.Pairwise.sublist hs h
theorem Dst.sub {L' : List Tm} (h : Dst L) (hs : L'.Sublist L) : Dst L' := ⟨h.nd.sublist hs, fun x y hx hy => h.id x y (hs.subset hx) (hs.subset hy), fun x hx => h.wf x (hs.subset hx)⟩
set_option maxRecDepth 100000 in
set_option maxHeartbeats 16000000 in
theorem go_any (h : Wh w B b m now sq L ρ) (hL : L.length ≤ 8796093022208) (a : Int) (_ha : (Lit.int .i64 a).wf = true) :
    Calls Try.prog 10 #[pt b 0, .int .i64 a] w (GoPost w B b m sq L (tkF now a)) := by
  have HN := Lib.hid (no_any b w h.whl.made)
  obtain ⟨T, hT⟩ : ∃ T, T = tkF now a := ⟨_, rfl⟩
  rw [← hT]
  have HTK : Hid (T = max now (if a < 1099511627776 then a else 1099511627776).toNat) := by
    show T = _
    rw [hT, tkF, MT]
    congr 1
    rw [Int.min_def]
    split <;> split <;> omega
  clear hT
  have HH := Lib.hid h
  have HLL := Lib.hid hL
  have c1 := h.whl.now
  have HOL : Hid (∀ q, Own b m L q → q < w.heap.size) := fun q hq => (h.whl.own_lt hq).2
  have HREL : Hid (∀ T, now ≤ T → GoR w B b m now sq T L (T - now) (.slice none 0 0) w) := fun T hT => ⟨now, L, ρ, [], Nat.le_refl _, by omega, h, fun F R hf => hf, fun _ hx => hx, by simp, World.ownsRow_nil _ _ _ _, WT.refl _ _⟩
  clear h hL c1
  by_cases hm : a < 1099511627776
  · go_enter Try.func10, Try.ntmps10
    go_wp2_with fail
    go_step3
    go_wp2_with fail
    refine HN.out.mono ?_
    rintro e w1 ⟨rfl, rfl⟩
    go_wp2_with fail
    go_step3
    obtain ⟨t, htt⟩ : ∃ t, t = a := ⟨_, rfl⟩
    rw [← htt]
    have HT : Hid (T = max now t.toNat ∧ t ≤ 1099511627776) := by
      show T = max now t.toNat ∧ t ≤ 1099511627776
      rw [HTK.out, if_pos (show a < 1099511627776 by omega), ← htt]
      exact ⟨rfl, by omega⟩
    clear htt HTK hm
    have HT1 : Hid (now ≤ T) := by show now ≤ T; rw [HT.out.1]; omega
    have HT2 : Hid (T ≤ MT) := by show T ≤ MT; have := HT.out.2; have := HH.out.nm; unfold MT at *; rw [HT.out.1]; omega
    have HT3 : Hid (t ≤ (T : Int) ∧ (now < T → (T : Int) = t)) := by
      show t ≤ (T : Int) ∧ (now < T → (T : Int) = t)
      rw [HT.out.1]
      exact ⟨by omega, fun h => by omega⟩
    clear HT
    go_upto_region 5 with fail
    go_loopg [5] (T - now) (fun g ov wr => GoR w B b m now sq T L g ov wr)
    case atStart => exact HREL.out T HT1.out
    case round =>
      obtain ⟨c, Lr, ρr, fired, hnc, hgc, hwh, hfr, hsub, hlen, hor, htr⟩ := hrel
      have c1 := hwh.whl.now
      have HWH := Lib.hid hwh
      have HFR := Lib.hid hfr
      have HSUB := Lib.hid hsub
      have HLEN := Lib.hid hlen
      have HOR := Lib.hid hor
      have HTR := Lib.hid htr
      have HGC := Lib.hid hgc
      have NOWC : Hid (now ≤ c) := hnc
      clear hwh hfr hsub hlen hor htr hgc hnc
      obtain ⟨ov, rfl⟩ : ∃ ov, ov = u5 := ⟨_, rfl⟩
      by_cases hcT : (c : Int) < t
      · have hb : decide ((c : Int) < t) = true := decide_eq_true hcT
        have hcT2 : c < T := by have := HT3.out.1; omega
        have HTT : Hid ((T : Int) = t) := HT3.out.2 (by
          have := HTR.out; have h1 := HGC.out; have h2 := HT3.out.1
          rcases Nat.lt_or_ge now T with h | h
          · exact h
          · exact absurd (NOWC.out) (by omega))
        have HNX := Lib.hid (next_any HWH.out.whl HWH.out.inv HWH.out.nm)
        have HLL2 : Hid (Lr.length ≤ 8796093022208) := by show Lr.length ≤ _; have := HLEN.out; have := HLL.out; omega
        clear hcT
        go_wp2_with fail
        refine HNX.out.mono ?_
        rintro e w2 ⟨hres, rfl⟩
        have HWO : Hid (∀ q, Own b m Lr q → Own b m L q) := fun q hq => own_sub HSUB.out hq
        rcases hres with ⟨hnil, rfl⟩ | ⟨v, hle, rfl⟩
        · have HST := Lib.hid (step_to HTT.out HWH.out (Nat.le_of_lt hcT2) HT2.out (fun x hx => by rw [hnil] at hx; cases hx) HLL2.out)
          have HGT : Hid (∀ x, x ∈ Lr → T < x.at_) := fun x hx => by rw [hnil] at hx; cases hx
          clear hnil HNX
          go_wp2_with fail
          refine HST.out.mono ?_
          rintro e w3 ⟨rfl, ρ3, hw3, hi3, ht3⟩
          have HPO : Hid (GoPost w B b m sq L T (.returned ov) w3) := ⟨ov, fired, Lr, ρ3, rfl, by have := HFR.out [] Lr (.done HGT.out); rwa [List.append_nil] at this, HWH.out.with hw3 hi3 HGT.out HT2.out,
            own_keep HOR.out fun q hq => ht3.far q (own_ge HOR.out hq).2 fun ho => by have := HOL.out q (HWO.out q ho); have := (own_ge HOR.out hq).1; omega, HTR.out.trans ht3 fun q hq => .inl (HWO.out q hq)⟩
          clear HST hw3 hi3 ht3
          go_wp2_with fail
          rw [Exit.noGoto_ret]
          go_ret
          exact HPO.out
        · have HLE := Lib.hid hle
          by_cases hvT : v ≤ T
          · have hb2 : decide (t < (v : Int)) = false := decide_eq_false (by have := HTT.out; omega)
            have hcv : c < v := by
              obtain ⟨⟨x, hx, e⟩, -⟩ := HLE.out
              have := HWH.out.gt x hx
              omega
            have HST := Lib.hid (step_to (t := (v : Int)) rfl HWH.out (Nat.le_of_lt hcv) (Nat.le_trans hvT HT2.out) (fun x hx => HLE.out.2 x hx) HLL2.out)
            clear hle HNX
            go_wp2_with fail
            refine HST.out.mono ?_
            rintro e w3 ⟨rfl, ρ3, hw3, hi3, ht3⟩
            have HW3 := Lib.hid hw3
            have HI3 := Lib.hid hi3
            have HT4 := Lib.hid ht3
            have HOR3 : Hid (w3.ownsRow w.heap.size 45 2 ov fired.length (fcs fired)) := own_keep HOR.out fun q hq => ht3.far q (own_ge HOR.out hq).2 fun ho => by have := HOL.out q (HWO.out q ho); have := (own_ge HOR.out hq).1; omega
            have hsz : w.heap.size ≤ w3.heap.size := Nat.le_trans HTR.out.size ht3.size
            have HFI := Lib.hid (fire_any HW3.out HI3.out HWH.out.srt HWH.out.dst (Nat.le_trans hvT HT2.out) ov fired.length (fcs fired) HOR3.out hsz (fun q hq ho => by have := HOL.out q (HWO.out q ho); have := (own_ge HOR3.out hq).1; omega) (by have := HLEN.out; have := HLL.out; omega))
            clear hw3 hi3 ht3 HST
            go_wp2_with fail
            refine HFI.out.mono ?_
            rintro e w4 ⟨v4, ρ4, rfl, hw4, hi4, ho4, hb4, ht4⟩
            have HREL2 : Hid (GoR w B b m now sq T L (T - v) v4 w4) := by
              refine ⟨v, Lr.filter fun x => !isNow v x, ρ4, fired ++ Lr.filter (isNow v), by have := NOWC.out; omega, by omega, ⟨hw4, hi4, fun x hx => ?_, List.Pairwise.filter _ HWH.out.srt, HWH.out.dst.sub (List.filter_sublist), fun x hx => HWH.out.sq x ((List.mem_filter.1 hx).1), Nat.le_trans hvT HT2.out⟩, fun F R hf => ?_, fun x hx => HSUB.out x ((List.mem_filter.1 hx).1), ?_, ?_, ?_⟩
              · obtain ⟨h1, h2⟩ := List.mem_filter.1 hx
                have := HLE.out.2 x h1
                simp [isNow] at h2
                omega
              · have := HFR.out _ _ (Fires.least (f := fun x : Tm => x.at_) hvT _ rfl (fun y hy => HLE.out.2 y hy) hf)
                rw [← List.append_assoc] at this
                exact this
              · rw [List.length_append, ← HLEN.out]
                have := filter_len (isNow v) Lr
                omega
              · rw [List.length_append, fcs_append]
                exact ho4
              · refine (HTR.out.trans HT4.out fun q hq => .inl (HWO.out q hq)).trans ht4 fun q hq => ?_
                rcases hq with hq | hq
                · exact .inl (HWO.out q hq)
                · exact .inr (own_ge HOR.out hq).1
            clear HFI hw4 hi4 ho4 hb4 ht4
            go_wp2_with fail
            go_roundg (T - v)
            case measure => have := HGC.out; omega
            case rel => exact HREL2.out
          · have hb2 : decide (t < (v : Int)) = true := decide_eq_true (by have := HTT.out; omega)
            have HST := Lib.hid (step_to HTT.out HWH.out (Nat.le_of_lt hcT2) HT2.out (fun x hx => by have := HLE.out.2 x hx; omega) HLL2.out)
            have HGT : Hid (∀ x, x ∈ Lr → T < x.at_) := fun x hx => by have := HLE.out.2 x hx; omega
            clear hle HNX
            go_wp2_with fail
            refine HST.out.mono ?_
            rintro e w3 ⟨rfl, ρ3, hw3, hi3, ht3⟩
            have HPO : Hid (GoPost w B b m sq L T (.returned ov) w3) := ⟨ov, fired, Lr, ρ3, rfl, by have := HFR.out [] Lr (.done HGT.out); rwa [List.append_nil] at this, HWH.out.with hw3 hi3 HGT.out HT2.out,
              own_keep HOR.out fun q hq => ht3.far q (own_ge HOR.out hq).2 fun ho => by have := HOL.out q (HWO.out q ho); have := (own_ge HOR.out hq).1; omega, HTR.out.trans ht3 fun q hq => .inl (HWO.out q hq)⟩
            clear HST hw3 hi3 ht3
            go_wp2_with fail
            rw [Exit.noGoto_ret]
            go_ret
            exact HPO.out
      · have hb : decide ((c : Int) < t) = false := decide_eq_false hcT
        have hcT2 : c = T := by
          have h1 := HGC.out
          have h2 := NOWC.out
          have h3 := HT3.out
          rcases Nat.lt_or_ge now T with h | h
          · have := h3.2 h; omega
          · omega
        have HCT := Lib.hid hcT2
        clear hcT hcT2
        go_wp2_with fail
        rw [Exit.noGoto_ret]
        go_ret
        have hw := HWH.out
        rw [HCT.out] at hw
        exact ⟨ov, fired, Lr, ρr, rfl, by have := HFR.out [] Lr (.done hw.gt); rwa [List.append_nil] at this, hw, HOR.out, HTR.out⟩
  by_cases hm2 : 1099511627776 < a
  · clear hm
    have hm : ¬ a < 1099511627776 := by omega
    have hm3 : ¬ a ≤ 1099511627776 := by omega
    go_enter Try.func10, Try.ntmps10
    go_wp2_with fail
    go_step3
    go_wp2_with fail
    refine HN.out.mono ?_
    rintro e w1 ⟨rfl, rfl⟩
    go_wp2_with fail
    go_step3
    obtain ⟨t, htt⟩ : ∃ t, t = (1099511627776 : Int) := ⟨_, rfl⟩
    rw [← htt]
    have HT : Hid (T = max now t.toNat ∧ t ≤ 1099511627776) := by
      show T = max now t.toNat ∧ t ≤ 1099511627776
      rw [HTK.out, if_neg (show ¬ a < 1099511627776 by omega), ← htt]
      exact ⟨rfl, by omega⟩
    clear htt HTK hm
    have HT1 : Hid (now ≤ T) := by show now ≤ T; rw [HT.out.1]; omega
    have HT2 : Hid (T ≤ MT) := by show T ≤ MT; have := HT.out.2; have := HH.out.nm; unfold MT at *; rw [HT.out.1]; omega
    have HT3 : Hid (t ≤ (T : Int) ∧ (now < T → (T : Int) = t)) := by
      show t ≤ (T : Int) ∧ (now < T → (T : Int) = t)
      rw [HT.out.1]
      exact ⟨by omega, fun h => by omega⟩
    clear HT
    go_upto_region 5 with fail
    go_loopg [5] (T - now) (fun g ov wr => GoR w B b m now sq T L g ov wr)
    case atStart => exact HREL.out T HT1.out
    case round =>
      obtain ⟨c, Lr, ρr, fired, hnc, hgc, hwh, hfr, hsub, hlen, hor, htr⟩ := hrel
      have c1 := hwh.whl.now
      have HWH := Lib.hid hwh
      have HFR := Lib.hid hfr
      have HSUB := Lib.hid hsub
      have HLEN := Lib.hid hlen
      have HOR := Lib.hid hor
      have HTR := Lib.hid htr
      have HGC := Lib.hid hgc
      have NOWC : Hid (now ≤ c) := hnc
      clear hwh hfr hsub hlen hor htr hgc hnc
      obtain ⟨ov, rfl⟩ : ∃ ov, ov = u5 := ⟨_, rfl⟩
      by_cases hcT : (c : Int) < t
      · have hb : decide ((c : Int) < t) = true := decide_eq_true hcT
        have hcT2 : c < T := by have := HT3.out.1; omega
        have HTT : Hid ((T : Int) = t) := HT3.out.2 (by
          have := HTR.out; have h1 := HGC.out; have h2 := HT3.out.1
          rcases Nat.lt_or_ge now T with h | h
          · exact h
          · exact absurd (NOWC.out) (by omega))
        have HNX := Lib.hid (next_any HWH.out.whl HWH.out.inv HWH.out.nm)
        have HLL2 : Hid (Lr.length ≤ 8796093022208) := by show Lr.length ≤ _; have := HLEN.out; have := HLL.out; omega
        clear hcT
        go_wp2_with fail
        refine HNX.out.mono ?_
        rintro e w2 ⟨hres, rfl⟩
        have HWO : Hid (∀ q, Own b m Lr q → Own b m L q) := fun q hq => own_sub HSUB.out hq
        rcases hres with ⟨hnil, rfl⟩ | ⟨v, hle, rfl⟩
        · have HST := Lib.hid (step_to HTT.out HWH.out (Nat.le_of_lt hcT2) HT2.out (fun x hx => by rw [hnil] at hx; cases hx) HLL2.out)
          have HGT : Hid (∀ x, x ∈ Lr → T < x.at_) := fun x hx => by rw [hnil] at hx; cases hx
          clear hnil HNX
          go_wp2_with fail
          refine HST.out.mono ?_
          rintro e w3 ⟨rfl, ρ3, hw3, hi3, ht3⟩
          have HPO : Hid (GoPost w B b m sq L T (.returned ov) w3) := ⟨ov, fired, Lr, ρ3, rfl, by have := HFR.out [] Lr (.done HGT.out); rwa [List.append_nil] at this, HWH.out.with hw3 hi3 HGT.out HT2.out,
            own_keep HOR.out fun q hq => ht3.far q (own_ge HOR.out hq).2 fun ho => by have := HOL.out q (HWO.out q ho); have := (own_ge HOR.out hq).1; omega, HTR.out.trans ht3 fun q hq => .inl (HWO.out q hq)⟩
          clear HST hw3 hi3 ht3
          go_wp2_with fail
          rw [Exit.noGoto_ret]
          go_ret
          exact HPO.out
        · have HLE := Lib.hid hle
          by_cases hvT : v ≤ T
          · have hb2 : decide (t < (v : Int)) = false := decide_eq_false (by have := HTT.out; omega)
            have hcv : c < v := by
              obtain ⟨⟨x, hx, e⟩, -⟩ := HLE.out
              have := HWH.out.gt x hx
              omega
            have HST := Lib.hid (step_to (t := (v : Int)) rfl HWH.out (Nat.le_of_lt hcv) (Nat.le_trans hvT HT2.out) (fun x hx => HLE.out.2 x hx) HLL2.out)
            clear hle HNX
            go_wp2_with fail
            refine HST.out.mono ?_
            rintro e w3 ⟨rfl, ρ3, hw3, hi3, ht3⟩
            have HW3 := Lib.hid hw3
            have HI3 := Lib.hid hi3
            have HT4 := Lib.hid ht3
            have HOR3 : Hid (w3.ownsRow w.heap.size 45 2 ov fired.length (fcs fired)) := own_keep HOR.out fun q hq => ht3.far q (own_ge HOR.out hq).2 fun ho => by have := HOL.out q (HWO.out q ho); have := (own_ge HOR.out hq).1; omega
            have hsz : w.heap.size ≤ w3.heap.size := Nat.le_trans HTR.out.size ht3.size
            have HFI := Lib.hid (fire_any HW3.out HI3.out HWH.out.srt HWH.out.dst (Nat.le_trans hvT HT2.out) ov fired.length (fcs fired) HOR3.out hsz (fun q hq ho => by have := HOL.out q (HWO.out q ho); have := (own_ge HOR3.out hq).1; omega) (by have := HLEN.out; have := HLL.out; omega))
            clear hw3 hi3 ht3 HST
            go_wp2_with fail
            refine HFI.out.mono ?_
            rintro e w4 ⟨v4, ρ4, rfl, hw4, hi4, ho4, hb4, ht4⟩
            have HREL2 : Hid (GoR w B b m now sq T L (T - v) v4 w4) := by
              refine ⟨v, Lr.filter fun x => !isNow v x, ρ4, fired ++ Lr.filter (isNow v), by have := NOWC.out; omega, by omega, ⟨hw4, hi4, fun x hx => ?_, List.Pairwise.filter _ HWH.out.srt, HWH.out.dst.sub (List.filter_sublist), fun x hx => HWH.out.sq x ((List.mem_filter.1 hx).1), Nat.le_trans hvT HT2.out⟩, fun F R hf => ?_, fun x hx => HSUB.out x ((List.mem_filter.1 hx).1), ?_, ?_, ?_⟩
              · obtain ⟨h1, h2⟩ := List.mem_filter.1 hx
                have := HLE.out.2 x h1
                simp [isNow] at h2
                omega
              · have := HFR.out _ _ (Fires.least (f := fun x : Tm => x.at_) hvT _ rfl (fun y hy => HLE.out.2 y hy) hf)
                rw [← List.append_assoc] at this
                exact this
              · rw [List.length_append, ← HLEN.out]
                have := filter_len (isNow v) Lr
                omega
              · rw [List.length_append, fcs_append]
                exact ho4
              · refine (HTR.out.trans HT4.out fun q hq => .inl (HWO.out q hq)).trans ht4 fun q hq => ?_
                rcases hq with hq | hq
                · exact .inl (HWO.out q hq)
                · exact .inr (own_ge HOR.out hq).1
            clear HFI hw4 hi4 ho4 hb4 ht4
            go_wp2_with fail
            go_roundg (T - v)
            case measure => have := HGC.out; omega
            case rel => exact HREL2.out
          · have hb2 : decide (t < (v : Int)) = true := decide_eq_true (by have := HTT.out; omega)
            have HST := Lib.hid (step_to HTT.out HWH.out (Nat.le_of_lt hcT2) HT2.out (fun x hx => by have := HLE.out.2 x hx; omega) HLL2.out)
            have HGT : Hid (∀ x, x ∈ Lr → T < x.at_) := fun x hx => by have := HLE.out.2 x hx; omega
            clear hle HNX
            go_wp2_with fail
            refine HST.out.mono ?_
            rintro e w3 ⟨rfl, ρ3, hw3, hi3, ht3⟩
            have HPO : Hid (GoPost w B b m sq L T (.returned ov) w3) := ⟨ov, fired, Lr, ρ3, rfl, by have := HFR.out [] Lr (.done HGT.out); rwa [List.append_nil] at this, HWH.out.with hw3 hi3 HGT.out HT2.out,
              own_keep HOR.out fun q hq => ht3.far q (own_ge HOR.out hq).2 fun ho => by have := HOL.out q (HWO.out q ho); have := (own_ge HOR.out hq).1; omega, HTR.out.trans ht3 fun q hq => .inl (HWO.out q hq)⟩
            clear HST hw3 hi3 ht3
            go_wp2_with fail
            rw [Exit.noGoto_ret]
            go_ret
            exact HPO.out
      · have hb : decide ((c : Int) < t) = false := decide_eq_false hcT
        have hcT2 : c = T := by
          have h1 := HGC.out
          have h2 := NOWC.out
          have h3 := HT3.out
          rcases Nat.lt_or_ge now T with h | h
          · have := h3.2 h; omega
          · omega
        have HCT := Lib.hid hcT2
        clear hcT hcT2
        go_wp2_with fail
        rw [Exit.noGoto_ret]
        go_ret
        have hw := HWH.out
        rw [HCT.out] at hw
        exact ⟨ov, fired, Lr, ρr, rfl, by have := HFR.out [] Lr (.done hw.gt); rwa [List.append_nil] at this, hw, HOR.out, HTR.out⟩
  · obtain rfl : a = 1099511627776 := by omega
    clear hm2
    go_enter Try.func10, Try.ntmps10
    go_wp2_with fail
    go_step3
    go_wp2_with fail
    refine HN.out.mono ?_
    rintro e w1 ⟨rfl, rfl⟩
    go_wp2_with fail
    go_step3
    obtain ⟨t, htt⟩ : ∃ t, t = (1099511627776 : Int) := ⟨_, rfl⟩
    rw [← htt]
    have HT : Hid (T = max now t.toNat ∧ t ≤ 1099511627776) := by
      show T = max now t.toNat ∧ t ≤ 1099511627776
      rw [HTK.out, if_neg (show ¬ (1099511627776 : Int) < 1099511627776 by omega), ← htt]
      exact ⟨rfl, by omega⟩
    clear htt HTK hm
    have HT1 : Hid (now ≤ T) := by show now ≤ T; rw [HT.out.1]; omega
    have HT2 : Hid (T ≤ MT) := by show T ≤ MT; have := HT.out.2; have := HH.out.nm; unfold MT at *; rw [HT.out.1]; omega
    have HT3 : Hid (t ≤ (T : Int) ∧ (now < T → (T : Int) = t)) := by
      show t ≤ (T : Int) ∧ (now < T → (T : Int) = t)
      rw [HT.out.1]
      exact ⟨by omega, fun h => by omega⟩
    clear HT
    go_upto_region 5 with fail
    go_loopg [5] (T - now) (fun g ov wr => GoR w B b m now sq T L g ov wr)
    case atStart => exact HREL.out T HT1.out
    case round =>
      obtain ⟨c, Lr, ρr, fired, hnc, hgc, hwh, hfr, hsub, hlen, hor, htr⟩ := hrel
      have c1 := hwh.whl.now
      have HWH := Lib.hid hwh
      have HFR := Lib.hid hfr
      have HSUB := Lib.hid hsub
      have HLEN := Lib.hid hlen
      have HOR := Lib.hid hor
      have HTR := Lib.hid htr
      have HGC := Lib.hid hgc
      have NOWC : Hid (now ≤ c) := hnc
      clear hwh hfr hsub hlen hor htr hgc hnc
      obtain ⟨ov, rfl⟩ : ∃ ov, ov = u5 := ⟨_, rfl⟩
      by_cases hcT : (c : Int) < t
      · have hb : decide ((c : Int) < t) = true := decide_eq_true hcT
        have hcT2 : c < T := by have := HT3.out.1; omega
        have HTT : Hid ((T : Int) = t) := HT3.out.2 (by
          have := HTR.out; have h1 := HGC.out; have h2 := HT3.out.1
          rcases Nat.lt_or_ge now T with h | h
          · exact h
          · exact absurd (NOWC.out) (by omega))
        have HNX := Lib.hid (next_any HWH.out.whl HWH.out.inv HWH.out.nm)
        have HLL2 : Hid (Lr.length ≤ 8796093022208) := by show Lr.length ≤ _; have := HLEN.out; have := HLL.out; omega
        clear hcT
        go_wp2_with fail
        refine HNX.out.mono ?_
        rintro e w2 ⟨hres, rfl⟩
        have HWO : Hid (∀ q, Own b m Lr q → Own b m L q) := fun q hq => own_sub HSUB.out hq
        rcases hres with ⟨hnil, rfl⟩ | ⟨v, hle, rfl⟩
        · have HST := Lib.hid (step_to HTT.out HWH.out (Nat.le_of_lt hcT2) HT2.out (fun x hx => by rw [hnil] at hx; cases hx) HLL2.out)
          have HGT : Hid (∀ x, x ∈ Lr → T < x.at_) := fun x hx => by rw [hnil] at hx; cases hx
          clear hnil HNX
          go_wp2_with fail
          refine HST.out.mono ?_
          rintro e w3 ⟨rfl, ρ3, hw3, hi3, ht3⟩
          have HPO : Hid (GoPost w B b m sq L T (.returned ov) w3) := ⟨ov, fired, Lr, ρ3, rfl, by have := HFR.out [] Lr (.done HGT.out); rwa [List.append_nil] at this, HWH.out.with hw3 hi3 HGT.out HT2.out,
            own_keep HOR.out fun q hq => ht3.far q (own_ge HOR.out hq).2 fun ho => by have := HOL.out q (HWO.out q ho); have := (own_ge HOR.out hq).1; omega, HTR.out.trans ht3 fun q hq => .inl (HWO.out q hq)⟩
          clear HST hw3 hi3 ht3
          go_wp2_with fail
          rw [Exit.noGoto_ret]
          go_ret
          exact HPO.out
        · have HLE := Lib.hid hle
          by_cases hvT : v ≤ T
          · have hb2 : decide (t < (v : Int)) = false := decide_eq_false (by have := HTT.out; omega)
            have hcv : c < v := by
              obtain ⟨⟨x, hx, e⟩, -⟩ := HLE.out
              have := HWH.out.gt x hx
              omega
            have HST := Lib.hid (step_to (t := (v : Int)) rfl HWH.out (Nat.le_of_lt hcv) (Nat.le_trans hvT HT2.out) (fun x hx => HLE.out.2 x hx) HLL2.out)
            clear hle HNX
            go_wp2_with fail
            refine HST.out.mono ?_
            rintro e w3 ⟨rfl, ρ3, hw3, hi3, ht3⟩
            have HW3 := Lib.hid hw3
            have HI3 := Lib.hid hi3
            have HT4 := Lib.hid ht3
            have HOR3 : Hid (w3.ownsRow w.heap.size 45 2 ov fired.length (fcs fired)) := own_keep HOR.out fun q hq => ht3.far q (own_ge HOR.out hq).2 fun ho => by have := HOL.out q (HWO.out q ho); have := (own_ge HOR.out hq).1; omega
            have hsz : w.heap.size ≤ w3.heap.size := Nat.le_trans HTR.out.size ht3.size
            have HFI := Lib.hid (fire_any HW3.out HI3.out HWH.out.srt HWH.out.dst (Nat.le_trans hvT HT2.out) ov fired.length (fcs fired) HOR3.out hsz (fun q hq ho => by have := HOL.out q (HWO.out q ho); have := (own_ge HOR3.out hq).1; omega) (by have := HLEN.out; have := HLL.out; omega))
            clear hw3 hi3 ht3 HST
            go_wp2_with fail
            refine HFI.out.mono ?_
            rintro e w4 ⟨v4, ρ4, rfl, hw4, hi4, ho4, hb4, ht4⟩
            have HREL2 : Hid (GoR w B b m now sq T L (T - v) v4 w4) := by
              refine ⟨v, Lr.filter fun x => !isNow v x, ρ4, fired ++ Lr.filter (isNow v), by have := NOWC.out; omega, by omega, ⟨hw4, hi4, fun x hx => ?_, List.Pairwise.filter _ HWH.out.srt, HWH.out.dst.sub (List.filter_sublist), fun x hx => HWH.out.sq x ((List.mem_filter.1 hx).1), Nat.le_trans hvT HT2.out⟩, fun F R hf => ?_, fun x hx => HSUB.out x ((List.mem_filter.1 hx).1), ?_, ?_, ?_⟩
              · obtain ⟨h1, h2⟩ := List.mem_filter.1 hx
                have := HLE.out.2 x h1
                simp [isNow] at h2
                omega
              · have := HFR.out _ _ (Fires.least (f := fun x : Tm => x.at_) hvT _ rfl (fun y hy => HLE.out.2 y hy) hf)
                rw [← List.append_assoc] at this
                exact this
              · rw [List.length_append, ← HLEN.out]
                have := filter_len (isNow v) Lr
                omega
              · rw [List.length_append, fcs_append]
                exact ho4
              · refine (HTR.out.trans HT4.out fun q hq => .inl (HWO.out q hq)).trans ht4 fun q hq => ?_
                rcases hq with hq | hq
                · exact .inl (HWO.out q hq)
                · exact .inr (own_ge HOR.out hq).1
            clear HFI hw4 hi4 ho4 hb4 ht4
            go_wp2_with fail
            go_roundg (T - v)
            case measure => have := HGC.out; omega
            case rel => exact HREL2.out
          · have hb2 : decide (t < (v : Int)) = true := decide_eq_true (by have := HTT.out; omega)
            have HST := Lib.hid (step_to HTT.out HWH.out (Nat.le_of_lt hcT2) HT2.out (fun x hx => by have := HLE.out.2 x hx; omega) HLL2.out)
            have HGT : Hid (∀ x, x ∈ Lr → T < x.at_) := fun x hx => by have := HLE.out.2 x hx; omega
            clear hle HNX
            go_wp2_with fail
            refine HST.out.mono ?_
            rintro e w3 ⟨rfl, ρ3, hw3, hi3, ht3⟩
            have HPO : Hid (GoPost w B b m sq L T (.returned ov) w3) := ⟨ov, fired, Lr, ρ3, rfl, by have := HFR.out [] Lr (.done HGT.out); rwa [List.append_nil] at this, HWH.out.with hw3 hi3 HGT.out HT2.out,
              own_keep HOR.out fun q hq => ht3.far q (own_ge HOR.out hq).2 fun ho => by have := HOL.out q (HWO.out q ho); have := (own_ge HOR.out hq).1; omega, HTR.out.trans ht3 fun q hq => .inl (HWO.out q hq)⟩
            clear HST hw3 hi3 ht3
            go_wp2_with fail
            rw [Exit.noGoto_ret]
            go_ret
            exact HPO.out
      · have hb : decide ((c : Int) < t) = false := decide_eq_false hcT
        have hcT2 : c = T := by
          have h1 := HGC.out
          have h2 := NOWC.out
          have h3 := HT3.out
          rcases Nat.lt_or_ge now T with h | h
          · have := h3.2 h; omega
          · omega
        have HCT := Lib.hid hcT2
        clear hcT hcT2
        go_wp2_with fail
        rw [Exit.noGoto_ret]
        go_ret
        have hw := HWH.out
        rw [HCT.out] at hw
        exact ⟨ov, fired, Lr, ρr, rfl, by have := HFR.out [] Lr (.done hw.gt); rwa [List.append_nil] at this, hw, HOR.out, HTR.out⟩
end
end Go.Proofs.Ytcgchccppoignaa
