/- Timer: fire. -/
import Derived.Test.YtcgchccppoignaaTmL
namespace Go.Proofs.Ytcgchccppoignaa
open Go.RowKit
attribute [local go_sem ↓] Go.wp_at_zero Go.wp_at_succ
attribute [local go_sem] Go.undef

/-- Between two that fire. -/
def FireR (w : World) (B B' b m now sq : Nat) (L : List Tm) (v : Value) (n : Nat) (xs : List Value) (g : Nat) (ov : Value) (wr : World) : Prop :=
  ∃ (Lr : List Tm) (ρr : Nat → List Tm) (fired : List Tm), g = Lr.length ∧ Whl wr B b m now sq Lr ρr ∧ Inv now Lr ρr ∧ FireI now L Lr fired ∧ wr.ownsRow B' 45 2 ov (n + fired.length) (xs ++ fcs fired) ∧
    (∀ q, ov.ownBlock = some q → (v.ownBlock = some q ∨ w.heap.size ≤ q) ∧ ¬ Own b m Lr q) ∧ WT (fun q => Own b m L q ∨ v.ownBlock = some q) w wr
section
variable {w : World} {B B' b m now sq k : Nat} {L : List Tm} {ρ : Nat → List Tm}
theorem fire_step {wo w4 w5 : World} {Lr fired : List Tm} {ρ4 : Nat → List Tm} {f : Tm} {v ov : Value} {n g5 cap5 : Nat} {xs : List Value} {ob : Obj} (hw4 : Whl w4 B b m now sq (rmT Lr f) ρ4) (hi : Inv now (rmT Lr f) ρ4) (hf : FireI now L (rmT Lr f) (fired ++ [f])) (hsub : ∀ x, x ∈ Lr → x ∈ L)
    (hown : w5.ownsRow B' 45 2 (.slice (some ⟨g5, 0, none⟩) (n + fired.length + 1) cap5) (n + fired.length + 1) (xs ++ fcs fired ++ [.int .i64 f.at_, .int .i64 f.id])) (hgrow : (w4.alloc ob).grownBy w5 ov.ownBlock) (hat : ov.ownBlock = some g5 ∨ g5 = w4.heap.size + 1)
    (hbr : ∀ q, ov.ownBlock = some q → (v.ownBlock = some q ∨ w.heap.size ≤ q) ∧ ¬ Own b m Lr q) (ht4 : WT (Own b m Lr) wo w4) (ht : WT (fun q => Own b m L q ∨ v.ownBlock = some q) w wo) :
    FireR w B B' b m now sq L v n xs (rmT Lr f).length (.slice (some ⟨g5, 0, none⟩) (n + fired.length + 1) cap5) w5 := by
  have hs1 := ht4.size
  have hs2 := ht.size
  have hrm : ∀ q, Own b m (rmT Lr f) q → Own b m Lr q := fun q hq => own_sub (fun x hx => (mem_rm.1 hx).1) hq
  refine ⟨_, ρ4, fired ++ [f], rfl, hw4.far fun q hq => far_block hgrow (hw4.own_lt hq).2 fun e => (hbr q e).2 (hrm q hq), hi, hf, ?_, fun q hq => ?_, ?_⟩
  · rw [List.length_append, fcs_snoc, ← List.append_assoc]
    exact hown
  · have e : g5 = q := by simpa [Value.ownBlock] using hq
    subst e
    rcases hat with h | h
    · exact ⟨(hbr g5 h).1, fun ho => (hbr g5 h).2 (hrm g5 ho)⟩
    · exact ⟨.inr (by omega), fun ho => by have := (hw4.own_lt ho).2; omega⟩
  · have h1 : WT (fun q => Own b m Lr q ∨ ov.ownBlock = some q) wo w5 := (ht4.more (W' := fun q => Own b m Lr q ∨ ov.ownBlock = some q) fun q hq => .inl hq).trans ((WT.of_below ((Below.refl _ _).alloc (Nat.le_refl _) _) (W := fun q => ov.ownBlock = some q)).trans (WT.of_grown hgrow (W := fun q => ov.ownBlock = some q) fun q hq => hq) fun q hq => .inl hq) fun q hq => .inl (.inr hq)
    exact ht.trans h1 fun q hq => by
      rcases hq with hq | hq
      · exact .inl (.inl (own_sub hsub hq))
      · rcases (hbr q hq).1 with h | h
        · exact .inl (.inr h)
        · exact .inr h
set_option maxRecDepth 100000 in
set_option maxHeartbeats 16000000 in
theorem fire_any (h : Whl w B b m now sq L ρ) (hi : Inv now L ρ) (hs : Srt L) (hd : Dst L) (hn : now ≤ MT) (v : Value) (n : Nat) (xs : List Value) (hown : w.ownsRow B' 45 2 v n xs) (hB : B' ≤ w.heap.size) (hv : ∀ q, v.ownBlock = some q → ¬ Own b m L q) (hL : n + L.length ≤ 8796093022208) :
    Calls Try.prog 23 #[pt b 0, v] w fun e w' => ∃ (v' : Value) (ρ' : Nat → List Tm), e = .returned v' ∧ Whl w' B b m now sq (L.filter fun x => !isNow now x) ρ' ∧ Inv now (L.filter fun x => !isNow now x) ρ' ∧
      w'.ownsRow B' 45 2 v' (n + (L.filter (isNow now)).length) (xs ++ fcs (L.filter (isNow now))) ∧ (∀ q, v'.ownBlock = some q → (v.ownBlock = some q ∨ w.heap.size ≤ q) ∧ ¬ Own b m (L.filter fun x => !isNow now x) q) ∧ WT (fun q => Own b m L q ∨ v.ownBlock = some q) w w' := by
  obtain ⟨iF, hiF, hzF, hzF1, hzF2⟩ := info_parts infoF
  have HREL : Hid (∀ nn, FireR w B B' b m now sq L v n xs L.length v (w.drewN nn)) := fun nn => ⟨L, ρ, [], rfl, h.drewN nn, hi, FireI.start hs hd, own_keep (w := w) (show w.ownsRow B' 45 2 v (n + 0) (xs ++ fcs []) by rw [show xs ++ fcs [] = xs by simp [fcs]]; exact hown) (fun _ _ => rfl), fun q hq => ⟨.inl hq, hv q hq⟩, (WT.refl _ _).draws nn⟩
  have c1 := h.now
  obtain ⟨s, hsn⟩ : ∃ s, s = slot 0 now := ⟨_, rfl⟩
  have hs64 : s < 64 := by rw [hsn]; exact slot_lt 0 now
  have HSN := Lib.hid hsn
  have q5 : bits .and .i64 ((now : Nat) : Int) 63 = ((s : Nat) : Int) := by
    have := and63 (up 0 now) (up_small 0 (by unfold MT at hn; omega))
    rw [hsn, slot, ← this, up_zero]
  obtain ⟨o, ho⟩ : ∃ o, 3 + s * 5 = o := ⟨_, rfl⟩
  have HO : Hid (3 + 5 * s = o ∧ s < 448) := ⟨by omega, by omega⟩
  have HLL := Lib.hid hL
  clear h hi hs hd hown hv hsn hL
  go_enter Try.func23, Try.ntmps23
  simp only [Go.undef]
  go_wp2_with fail
  go_quiet (fail)
  go_upto_region 2 with fail
  go_loopg [1] L.length (fun g ov wr => FireR w B B' b m now sq L v n xs g ov wr)
  case atStart => exact HREL.out _
  case round =>
    obtain ⟨Lr, ρr, fired, hgk, hwr, hir, hfi, hor, hbr, htr⟩ := hrel
    have HW := Lib.hid hwr
    have HI := Lib.hid hir
    have HF := Lib.hid hfi
    have HOR := Lib.hid hor
    have HBR := Lib.hid hbr
    have HT := Lib.hid htr
    have HGK := Lib.hid hgk
    have cf := hwr.rg.first HO.out.2
    rw [show 3 + 5 * s + 1 = o + 1 by rw [HO.out.1]] at cf
    clear hwr hir hfi hor hbr htr hgk
    obtain ⟨l, hl⟩ : ∃ l, l = ρr s := ⟨_, rfl⟩
    rw [← hl] at cf
    have HL := Lib.hid hl
    clear hl
    obtain ⟨ov, rfl⟩ : ∃ ov, ov = u1 := ⟨_, rfl⟩
    cases l with
    | nil =>
      replace cf : wr.cell? ⟨b, o + 1, none⟩ = some (.pointer (some ⟨b, o, none⟩)) := by rw [cf, ← HO.out.1]; rfl
      have hnq := neq_same wr ⟨b, o, none⟩
      have HE : Hid (ρr s = []) := HL.out.symm
      clear HL
      go_wp2_with fail
      go_ret
      have hnone : ∀ x, x ∈ Lr → x.at_ ≠ now := fun x hx e => by
        have : x ∈ ρr (slot 0 now) := (HI.out.now_ring hn x).2 ⟨hx, e⟩
        rw [← HSN.out, HE.out] at this
        simp at this
      obtain ⟨e1, e2⟩ := HF.out.done hnone
      refine ⟨ov, ρr, rfl, by rw [← e2]; exact HW.out, by rw [← e2]; exact HI.out, by rw [← e1]; exact HOR.out, fun q hq => ?_, HT.out⟩
      rw [← e2]
      exact HBR.out q hq
    | cons x0 l0 =>
      have hx0 : (ρr s)[0]? = some x0 := by rw [← HL.out]; rfl
      replace cf : wr.cell? ⟨b, o + 1, none⟩ = some (.pointer (some ⟨x0.g, 0, none⟩)) := cf
      have hxl := HW.out.rg.ok.mem s HO.out.2 x0 (List.mem_of_getElem? hx0)
      have hnq := neq_other (o := 0) (o' := o) (HW.out.rg.ok.xb x0 hxl) (HW.out.rg.dat x0 hxl).p HW.out.rg.pb
      have d2 := HW.out.rg.next HO.out.2 hx0
      have HLQ : Hid (LeastQ (ρr s) 1 x0) := ⟨Nat.le_refl _, by rw [← HL.out]; simp, fun y hy => by rw [← HL.out] at hy; simp at hy; rw [hy]; exact Nat.le_refl _⟩
      have HLN : Hid ((ρr s).length = l0.length + 1) := by show (ρr s).length = _; rw [← HL.out]; rfl
      clear hx0 hxl
      go_upto_region 5 with fail
      clear cf hnq d2
      obtain ⟨wo, rfl⟩ : ∃ wo : World, wo = wr := ⟨_, rfl⟩
      go_loopg [6, 7] l0.length (fun g fv ev w2 => ∃ (i nn : Nat) (f : Tm), fv = .pointer (some ⟨f.g, 0, none⟩) ∧ ev = pa (nodeAt b s (ρr s) i) ∧ g + i = (ρr s).length ∧ LeastQ (ρr s) i f ∧ w2 = wo.drewN nn)
      case atStart => exact ⟨1, 0, x0, rfl, rfl, by rw [HLN.out], HLQ.out, rfl⟩
      case round =>
        obtain ⟨i, nn, f, rfl, rfl, hg, hq, rfl⟩ := hrel
        have HQ := Lib.hid hq
        have hfl := HW.out.rg.ok.mem s HO.out.2 f (List.mem_of_mem_take hq.2.1)
        clear hq
        by_cases hlt : i < (ρr s).length
        · obtain ⟨x, hx⟩ : ∃ x, (ρr s)[i]? = some x := ⟨_, List.getElem?_eq_getElem hlt⟩
          have hxl := HW.out.rg.ok.mem s HO.out.2 x (List.mem_of_getElem? hx)
          have hnq := neq_other (w := wo.drewN nn) (o := 0) (o' := o) (HW.out.rg.ok.xb x hxl) (HW.out.rg.dat x hxl).p HW.out.rg.pb
          have d1 := (HW.out.rg.dat x hxl).s
          have d2 := (HW.out.rg.dat f hfl).s
          have d3 := HW.out.rg.next HO.out.2 hx
          obtain ⟨nd, hnd⟩ : ∃ nd, nd = nodeAt b s (ρr s) (i + 1) := ⟨_, rfl⟩
          rw [← hnd] at d3
          rw [nodeAt_some hx, show pa (ad x) = .pointer (some ⟨x.g, 0, none⟩) from rfl]
          have HND := Lib.hid hnd
          have HX := Lib.hid hx
          clear hnd hx hxl hfl
          by_cases hlq : x.seq < f.seq
          · have hlq2 : decide ((x.seq : Int) < (f.seq : Int)) = true := decide_eq_true (by omega)
            have HQ2 := Lib.hid (HQ.out.take HX.out hlq)
            go_wp2_with fail
            go_quiet (fail)
            go_wp2_with fail
            go_roundg (gk - 1)
            case measure => omega
            case rel => exact ⟨i + 1, _, x, rfl, by rw [HND.out], by omega, HQ2.out, rfl⟩
          · have hlq2 : decide ((x.seq : Int) < (f.seq : Int)) = false := decide_eq_false (by omega)
            have HQ2 := Lib.hid (HQ.out.keep HX.out hlq)
            go_wp2_with fail
            go_quiet (fail)
            go_wp2_with fail
            go_roundg (gk - 1)
            case measure => omega
            case rel => exact ⟨i + 1, _, f, rfl, by rw [HND.out], by omega, HQ2.out, rfl⟩
        · obtain rfl : i = (ρr s).length := by omega
          rw [nodeAt_end, show pa (hd b s) = .pointer (some ⟨b, o, none⟩) by rw [← HO.out.1]; rfl]
          have hnq := neq_same (wo.drewN nn) ⟨b, o, none⟩
          have hq1 := HQ.out.2.1
          rw [List.take_length] at hq1
          have HFM := Lib.hid hq1
          have HLV := Lib.hid (leave_rg (HW.out.drewN nn).rg HO.out.2 hq1)
          have HMIN : Hid (∀ y, y ∈ Lr → y.at_ = now → f.seq ≤ y.seq) := fun y hy e => HQ.out.2.2 y (by rw [List.take_length, HSN.out]; exact (HI.out.now_ring hn y).2 ⟨hy, e⟩)
          have HNOW : Hid (f.at_ = now) := ((HI.out.now_ring hn f).1 (by rw [← HSN.out]; exact hq1)).2
          have HFL := Lib.hid hfl
          clear hq1 hfl hlt hg HQ
          go_wp2_with fail
          refine HLV.out.mono ?_
          rintro e w2 ⟨rfl, hr2, hl2⟩
          have HW2 := Lib.hid ((HW.out.drewN nn).lw hr2 hl2)
          have HL2 := Lib.hid hl2
          have d1 := HW2.out.by_
          have d2 := (HW2.out.rg.dat f HFL.out).i
          clear HLV hr2 hl2 hnq
          go_upto_region 10 with fail
          go_still_tail 8, (by kernel_rfl)
          change wpList _ _ _ _ _ w2.drew
          obtain ⟨w3, hdel, hw3, ht3⟩ := whl_del (w := w2.drew) (HW2.out.far fun _ _ => rfl) HF.out.dst HFL.out (HW.out.rg.ok.out HO.out.2 HFM.out) 0
          have HW3 := Lib.hid hw3
          have HT3 := Lib.hid ht3
          clear d1 d2 hw3 ht3
          have e1 := (HW2.out.rg.dat f HFL.out).t
          have e2 := (HW2.out.rg.dat f HFL.out).i
          have hfm : f.g ≠ m := HW.out.xm f HFL.out
          have d3 : w3.cell? ⟨f.g, 2, none⟩ = some (.int .i64 f.at_) := (World.cell?_of_block (a := ⟨f.g, 2, none⟩) (turned_far HT3.out hfm)).trans e1
          have d4 : w3.cell? ⟨f.g, 4, none⟩ = some (.int .i64 f.id) := (World.cell?_of_block (a := ⟨f.g, 4, none⟩) (turned_far HT3.out hfm)).trans e2
          clear e1 e2 hfm
          have HWT : Hid (WT (Own b m Lr) wo w3) := ((WT.drewN wo nn (W := Own b m Lr)).trans (WT.of_lw HL2.out (W := Own b m Lr) fun a ha => nodes_own ha) fun g hg => .inl hg).trans (((WT.refl (Own b m Lr) w2).draws 1).trans (WT.of_turn HT3.out (W := Own b m Lr) (.inr (.inl rfl))) fun g hg => .inl hg) fun g hg => .inl hg
          have HOR3 : Hid (w3.ownsRow B' 45 2 ov (n + fired.length) (xs ++ fcs fired)) := own_keep HOR.out fun q hq => HWT.out.far q (HOR.out.lt q hq).2 (HBR.out q hq).2
          clear HT3 HL2 HW2
          generalize w2.drew = w2' at hdel ⊢
          go_wp2_with fail
          have HW4 : Hid (Whl w3.drew B b m now sq (rmT Lr f) (dropR ρr s f)) := HW3.out.far fun _ _ => rfl
          have HT4 : Hid (WT (Own b m Lr) wo w3.drew) := HWT.out.draws 1
          have HOR4 : Hid (w3.drew.ownsRow B' 45 2 ov (n + fired.length) (xs ++ fcs fired)) := own_keep HOR3.out (fun _ _ => rfl)
          have hsz : wo.heap.size ≤ w3.heap.size := HT4.out.size
          have hwos : w.heap.size ≤ wo.heap.size := HT.out.size
          have hfl : fired.length + Lr.length = L.length := HF.out.len
          have hpos : 0 < Lr.length := List.length_pos_of_mem HFL.out
          clear HW3 HWT HOR3 hdel
          have hq1 : n + fired.length + 1 ≤ maxLen := by have := HLL.out; unfold maxLen; omega
          have hq2 : (n + fired.length + 1) * 16 ≤ 140737488355328 := by have := HLL.out; omega
          have HQ1 := Lib.hid hq1
          have HQ2 := Lib.hid hq2
          have HNEWS : Hid (∀ j u, ([.int .i64 f.at_, .int .i64 f.id] : List Value)[j]? = some u → (w3.drew.alloc (.cells #[.int .i64 f.at_, .int .i64 f.id] 45)).cell? ((⟨w3.heap.size, 0, none⟩ : Addr).add j) = some u) := World.news_of_block (cs := #[.int .i64 f.at_, .int .i64 f.id]) (t := 45) (fr := (0, 0)) (heap_alloc_new w3.drew _)
          clear hq1 hq2
          go_region_law (refine step_append_lies _ (by rfl) _ _ _ (by rfl) B' 45 iF _ 2 16 Try.underlying26 hiF hzF hzF1 hzF2 rfl (by omega) ov (n + fired.length) (xs ++ fcs fired) (by rfl) (HOR4.out.alloc _) ⟨w3.heap.size, 0, none⟩ 1 1 [.int .i64 f.at_, .int .i64 f.id] (by rfl) (by rfl) HNEWS.out (by simp [Value.oneCell']) Nat.one_pos HQ1.out HQ2.out (by simp; omega) (w3.heap.size + 1) (by simp) ?_
                         intro g5 cap5 w5 hown5 hgrow hat hlt5
                         have HOWN5 := Lib.hid hown5
                         have HGR := Lib.hid hgrow
                         have HAT := Lib.hid hat
                         clear hown5 hgrow hat hlt5)
          all_goals
            have HR := Lib.hid (fire_step (v := v) HW4.out (HI.out.leave HW.out.rg.ok HO.out.2 HFM.out) (HF.out.step HFL.out HNOW.out (fun y hy e => HW.out.rg.ok.inj y f hy HFL.out e) HMIN.out) HF.out.sub HOWN5.out HGR.out HAT.out HBR.out HT4.out HT.out)
            go_wp2_with fail
            go_roundg ((rmT Lr f).length)
            case measure => have := rm_len HFL.out HF.out.dst.nd (fun y hy e => HW.out.rg.ok.inj y f hy HFL.out e); have := HGK.out; omega
            case rel => exact HR.out
end
end Go.Proofs.Ytcgchccppoignaa
