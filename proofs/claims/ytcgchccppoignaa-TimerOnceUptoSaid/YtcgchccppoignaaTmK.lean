/- Timer: time goes on. -/
import Derived.Test.YtcgchccppoignaaTmJ
namespace Go.Proofs.Ytcgchccppoignaa
open Go.RowKit
attribute [local go_sem ↓] Go.wp_at_zero Go.wp_at_succ
attribute [local go_sem] Go.undef

/-- What has come down when the levels above l are done. -/
def Mv (was now l : Nat) (x : Tm) : Prop := l < lvl was x.at_ ∧ up (lvl was x.at_) was ≠ up (lvl was x.at_) now ∧ slot (lvl was x.at_) x.at_ = slot (lvl was x.at_) now
def StepR (was now l : Nat) (L : List Tm) (ρ : Nat → List Tm) : Prop := ∀ j, j < 448 → ∀ x, x ∈ ρ j ↔ x ∈ L ∧ ((Mv was now l x ∧ ring now x.at_ = j) ∨ (¬ Mv was now l x ∧ ring was x.at_ = j))
section
variable {w : World} {B b m was now sq k l : Nat} {L : List Tm} {ρ ρ' : Nat → List Tm}
theorem StepR.start (hi : Inv was L ρ) (hw : was < 2 ^ 42) : StepR was now 6 L ρ := fun j hj x => by
  rw [hi.ring j hj x]
  have hno : x ∈ L → ¬ Mv was now 6 x := fun hx h => by
    have h1 := (lvl_spec (now := was) (a := x.at_) hw (by have := (hi.ge x hx).2; unfold MT at this; omega)).1
    have := h.1
    omega
  constructor
  · rintro ⟨h1, h2⟩
    exact ⟨h1, .inr ⟨hno h1, h2⟩⟩
  · rintro ⟨h1, ⟨h2, -⟩ | ⟨-, h3⟩⟩
    · exact absurd h2 (hno h1)
    · exact ⟨h1, h3⟩
/-- A level whose turn has not begun anew. -/
theorem StepR.same (h : StepR was now (l + 1) L ρ) (he : up (l + 1) was = up (l + 1) now) : StepR was now l L ρ := fun j hj x => by
  have e : Mv was now l x ↔ Mv was now (l + 1) x := by
    unfold Mv
    constructor
    · rintro ⟨h1, h2, h3⟩
      refine ⟨?_, h2, h3⟩
      by_cases e : lvl was x.at_ = l + 1
      · rw [e] at h2; exact absurd he h2
      · omega
    · rintro ⟨h1, h2⟩
      exact ⟨by omega, h2⟩
  rw [h j hj x, e]
theorem StepR.move (h : StepR was now (l + 1) L ρ) (hl : l < 6) (hw : was < 2 ^ 42) (hn : now < 2 ^ 42) (hat : ∀ x, x ∈ L → x.at_ < 2 ^ 42) (hne : up (l + 1) was ≠ up (l + 1) now) (hm : Moved now (64 * (l + 1) + slot (l + 1) now) ρ ρ' (ρ (64 * (l + 1) + slot (l + 1) now))) : StepR was now l L ρ' := fun j hj x => by
  have hs := slot_lt (l + 1) now
  have hk : 64 * (l + 1) + slot (l + 1) now < 448 := by omega
  rw [hm j hj x, h _ hk x, h j hj x]
  by_cases hx : x ∈ L
  rotate_left
  · simp [hx]
  have ha := hat x hx
  obtain ⟨w1, w2, w3⟩ := lvl_spec (now := was) (a := x.at_) hw ha
  obtain ⟨n1, n2, n3⟩ := lvl_spec (now := now) (a := x.at_) hn ha
  -- whoever is in the ring comes from that level
  have key : ((Mv was now (l + 1) x ∧ ring now x.at_ = 64 * (l + 1) + slot (l + 1) now) ∨ (¬ Mv was now (l + 1) x ∧ ring was x.at_ = 64 * (l + 1) + slot (l + 1) now)) ↔ lvl was x.at_ = l + 1 ∧ slot (l + 1) x.at_ = slot (l + 1) now := by
    constructor
    · rintro (⟨h1, h2⟩ | ⟨h1, h2⟩)
      · exfalso
        obtain ⟨e1, e2⟩ := ring_parts hs h2
        rw [e1] at n2
        refine n3 l (by omega) ?_
        rw [up_slot (l + 1) x.at_, up_slot (l + 1) now, n2, e2]
      · obtain ⟨e1, e2⟩ := ring_parts hs h2
        exact ⟨e1, e2⟩
    · rintro ⟨e1, e2⟩
      refine .inr ⟨fun h => by have := h.1; omega, ?_⟩
      rw [ring, e1, e2]
  rw [key]
  by_cases c : lvl was x.at_ = l + 1 ∧ slot (l + 1) x.at_ = slot (l + 1) now
  · have hmv : Mv was now l x := ⟨by omega, by rw [c.1]; exact hne, by rw [c.1]; exact c.2⟩
    have hmv2 : ¬ Mv was now (l + 1) x := fun h => by have := h.1; omega
    simp [c, hx, hmv]
  · have e : Mv was now l x ↔ Mv was now (l + 1) x := by
      unfold Mv
      constructor
      · rintro ⟨h1, h2, h3⟩
        refine ⟨?_, h2, h3⟩
        by_cases e : lvl was x.at_ = l + 1
        · rw [e] at h3; exact absurd ⟨e, h3⟩ c
        · omega
      · rintro ⟨h1, h2⟩
        exact ⟨by omega, h2⟩
    simp [c, hx, e]
theorem StepR.done (h : StepR was now 0 L ρ) (hw : was ≤ now) (hn : now ≤ MT) (hge : ∀ x, x ∈ L → now ≤ x.at_ ∧ x.at_ ≤ MT) : Inv now L ρ where
  ge := hge
  ring := fun k hk x => by
    rw [h k hk x]
    have hMT : MT < 2 ^ 42 := by decide
    constructor
    · rintro ⟨hx, ⟨-, h2⟩ | ⟨h1, h2⟩⟩
      · exact ⟨hx, h2⟩
      · refine ⟨hx, ?_⟩
        have := hge x hx
        rw [ring_stays (was := was) (now := now) (a := x.at_) (by omega) (by omega) (by omega) hw this.1 ?_]
        · exact h2
        · by_cases e0 : lvl was x.at_ = 0
          · exact .inl e0
          · by_cases e1 : up (lvl was x.at_) was = up (lvl was x.at_) now
            · exact .inr (.inl e1)
            · exact .inr (.inr fun e2 => h1 ⟨by omega, e1, e2⟩)
    · rintro ⟨hx, h2⟩
      refine ⟨hx, ?_⟩
      by_cases hm : Mv was now 0 x
      · exact .inl ⟨hm, h2⟩
      · refine .inr ⟨hm, ?_⟩
        have := hge x hx
        rw [← ring_stays (was := was) (now := now) (a := x.at_) (by omega) (by omega) (by omega) hw this.1 ?_]
        · exact h2
        · by_cases e0 : lvl was x.at_ = 0
          · exact .inl e0
          · by_cases e1 : up (lvl was x.at_) was = up (lvl was x.at_) now
            · exact .inr (.inl e1)
            · exact .inr (.inr fun e2 => hm ⟨by omega, e1, e2⟩)
/-- The tick is written. -/
theorem Whl.setNow (h : Whl w B b m was sq L ρ) (n : Nat) : Whl (w.setCell ⟨b, 1, none⟩ (.int .i64 n)) B b m n sq L ρ := by
  have cb : ∀ o, o ≠ 1 → (w.setCell ⟨b, 1, none⟩ (.int .i64 n)).cell? ⟨b, o, none⟩ = w.cell? ⟨b, o, none⟩ := fun o ho => World.cell?_setCell_other _ _ _ _ fun e => ho (congrArg Addr.off e).symm
  have fb : ∀ a, (w.setCell ⟨b, 1, none⟩ (.int .i64 n)).frozen? a = w.frozen? a := fun a => World.frozen?_setCell _ _ _ _
  have eb : ∀ g, g ≠ b → (w.setCell ⟨b, 1, none⟩ (.int .i64 n)).heap[g]? = w.heap[g]? := fun g hg => RowKit.Below.heap_setCell _ _ _ _ hg
  have cx : ∀ g, g ≠ b → ∀ o, (w.setCell ⟨b, 1, none⟩ (.int .i64 n)).cell? ⟨g, o, none⟩ = w.cell? ⟨g, o, none⟩ := fun g hg o => World.cell?_of_block (a := ⟨g, o, none⟩) (eb g hg)
  refine ⟨(cb 0 (by omega)).trans h.made, World.cell?_setCell_same _ _ _ h.now, (fb _).trans h.fnow, (cb 2 (by omega)).trans h.sq, (fb _).trans h.fsq, (cb _ (by omega)).trans h.by_, ⟨h.rg.ok, h.rg.pb.set _ _, fun y hy => ?_, ?_⟩, h.mp.far (eb m (Ne.symm h.bm)), h.bm, h.xm, h.lo⟩
  · have := h.rg.dat y hy
    have hyb := h.rg.ok.xb y hy
    exact ⟨(cx _ hyb 2).trans this.t, (cx _ hyb 3).trans this.s, (cx _ hyb 4).trans this.i, this.p.set _ _⟩
  · obtain ⟨nx, pv, h1, h2⟩ := h.rg.lk
    refine ⟨nx, pv, h1.lw fun a ha => ?_, h2⟩
    rcases ha with ⟨k, hk, rfl⟩ | ⟨y, hy, rfl⟩
    · exact ⟨cb _ (by show 3 + 5 * k ≠ 1; omega), cb _ (by show 3 + 5 * k + 1 ≠ 1; omega), fb _, fb _⟩
    · exact ⟨cx _ (h.rg.ok.xb y hy) _, cx _ (h.rg.ok.xb y hy) _, fb _, fb _⟩

theorem WT.draws {W : Nat → Prop} {w w' : World} (h : WT W w w') (n : Nat) : WT W w (w'.drewN n) := ⟨h.os, h.tape, h.output, h.size, h.far⟩
theorem down_at {w0 : World} (l s : Nat) (h : Whl w B b m now sq L ρ) (h0 : WT (Own b m L) w0 w) (hl : l + 1 ≤ 6) (hs : s < 64) (hn : now ≤ MT) (hat : ∀ x, x ∈ L → now ≤ x.at_ ∧ x.at_ ≤ MT) (hL : L.length ≤ 8796093022208) :
    Calls Try.prog 32 #[pt b 0, .pointer (some ⟨b, 3 + (l + 1) * 320 + s * 5, none⟩)] w fun e w' => e = .returned (.tuple #[]) ∧ ∃ ρ', Whl w' B b m now sq L ρ' ∧ Moved now (64 * (l + 1) + s) ρ ρ' (ρ (64 * (l + 1) + s)) ∧ WT (Own b m L) w0 w' := by
  have := down_any (k := 64 * (l + 1) + s) h (by omega) hn (fun x hx => (hat x hx).2) hL
  rw [hd, show 3 + 5 * (64 * (l + 1) + s) = 3 + (l + 1) * 320 + s * 5 by omega] at this
  refine this.mono ?_
  rintro e w' ⟨rfl, ρ', h1, h2, h3⟩
  exact ⟨rfl, ρ', h1, h2, h0.trans h3 fun g hg => .inl hg⟩
set_option maxRecDepth 100000 in
set_option maxHeartbeats 16000000 in
theorem step_any (h : Whl w B b m was sq L ρ) (hi : Inv was L ρ) (hwn : was ≤ now) (hn : now ≤ MT) (hge : ∀ x, x ∈ L → now ≤ x.at_) (hL : L.length ≤ 8796093022208) :
    Calls Try.prog 22 #[pt b 0, .int .i64 now] w fun e w' => e = .returned (.tuple #[]) ∧ ∃ ρ', Whl w' B b m now sq L ρ' ∧ Inv now L ρ' ∧ WT (Own b m L) w w' := by
  have c1 := h.now
  have f1 := h.fnow
  have H := Lib.hid (h.setNow now)
  have HI := Lib.hid hi
  have HGE : Hid (∀ x, x ∈ L → now ≤ x.at_ ∧ x.at_ ≤ MT) := fun x hx => ⟨hge x hx, (hi.ge x hx).2⟩
  have HLL := Lib.hid hL
  have HT0 : Hid (WT (Own b m L) w (w.setCell ⟨b, 1, none⟩ (.int .i64 now))) := WT.set w (.inl rfl) _
  have HMT : Hid (MT < 2 ^ 42) := by show MT < 2 ^ 42; decide
  clear h hi hge hL
  go_enter Try.func22, Try.ntmps22
  simp only [Go.undef]
  go_upto_region 3 with fail
  obtain ⟨w1, hw1⟩ : ∃ w1, w1 = w.setCell ⟨b, 1, none⟩ (.int .i64 now) := ⟨_, rfl⟩
  rw [← hw1]
  rw [← hw1] at H HT0
  clear hw1 c1 f1
  go_loopw [5] (fun iv wr => ∃ (l : Nat) (ρl : Nat → List Tm), iv = .int .i64 l ∧ l ≤ 6 ∧ Whl wr B b m now sq L ρl ∧ StepR was now l L ρl ∧ WT (Own b m L) w wr) (fun iv _ => (intOf iv).toNat)
  case atStart => exact ⟨6, ρ, rfl, Nat.le_refl _, H.out, StepR.start HI.out (by have := HMT.out; omega), HT0.out⟩
  case round =>
    obtain ⟨l, ρl, rfl, hl, hwl, hsl, htl⟩ := hrel
    have HWL := Lib.hid hwl
    have HSL := Lib.hid hsl
    have HTL := Lib.hid htl
    clear hwl hsl htl
    cases l with
    | zero =>
      go_wp2_with fail
      exact bodyPost_end (results_none rfl _ _ _) rfl ⟨rfl, _, HWL.out, HSL.out.done hwn hn HGE.out, HTL.out⟩
    | succ l =>
      have q4 : IntKind.i64.wrap (6 * ((l : Int) + 1)) = 6 * ((l : Int) + 1) := by rw [IntKind.wrap_i64]; omega
      have q1 : (was : Int) / 2 ^ (6 * ((l : Int) + 1)).toNat = ((up (l + 1) was : Nat) : Int) := by rw [show (6 * ((l : Int) + 1)).toNat = 6 * (l + 1) by omega, up_int]
      have q2 : (now : Int) / 2 ^ (6 * ((l : Int) + 1)).toNat = ((up (l + 1) now : Nat) : Int) := by rw [show (6 * ((l : Int) + 1)).toNat = 6 * (l + 1) by omega, up_int]
      by_cases he : up (l + 1) was = up (l + 1) now
      · have hb2 : (((up (l + 1) was : Nat) : Int) != ((up (l + 1) now : Nat) : Int)) = false := by rw [he]; simp
        have HS2 := Lib.hid (HSL.out.same he)
        clear he
        go_wp2_with fail
        go_quiet (fail)
        go_wp2_with fail
        go_roundw
        case rel => exact ⟨l, _, by go_num, by omega, HWL.out.drewN _, HS2.out, HTL.out.trans (WT.drewN wr _ (W := Own b m L)) fun g hg => .inl hg⟩
        case measure => simp [intOf]; try omega
      · have hb2 : (((up (l + 1) was : Nat) : Int) != ((up (l + 1) now : Nat) : Int)) = true := by simp; omega
        have HNE := Lib.hid he
        have q5 : bits .and .i64 ((up (l + 1) now : Nat) : Int) 63 = ((slot (l + 1) now : Nat) : Int) := and63 _ (up_small (l + 1) (by have := HMT.out; omega))
        have hs := slot_lt (l + 1) now
        obtain ⟨s, hsn⟩ : ∃ s, s = slot (l + 1) now := ⟨_, rfl⟩
        rw [← hsn] at q5 hs
        have HSN := Lib.hid hsn
        clear he hsn
        go_wp2_with fail
        go_quiet (fail)
        go_wp2_with fail
        have HDN : Hid (∀ n, Calls Try.prog 32 #[pt b 0, .pointer (some ⟨b, 3 + (l + 1) * 320 + s * 5, none⟩)] (wr.drewN n) fun e w' => e = .returned (.tuple #[]) ∧ ∃ ρ', Whl w' B b m now sq L ρ' ∧ Moved now (64 * (l + 1) + s) ρl ρ' (ρl (64 * (l + 1) + s)) ∧ WT (Own b m L) w w') := fun n => down_at (w0 := w) l s (HWL.out.drewN n) (HTL.out.draws n) hl hs hn HGE.out HLL.out
        go_region_with (go_at_call 32; refine (HDN.out _).mono ?_; rintro e w2 ⟨rfl, ρ2, hw2, hm2, ht2⟩)
        have HS2 : Hid (StepR was now l L ρ2) := by
          show StepR was now l L ρ2
          rw [HSN.out] at hm2
          have := HMT.out
          exact HSL.out.move (by omega) (by omega) (by omega) (fun x hx => by have := (HGE.out x hx).2; omega) HNE.out hm2
        have HW2 := Lib.hid hw2
        have HT2 := Lib.hid ht2
        clear hw2 hm2 ht2
        go_wp2_with fail
        go_roundw
        case rel => exact ⟨l, ρ2, by go_num, by omega, HW2.out, HS2.out, HT2.out⟩
        case measure => simp [intOf]; try omega
end
end Go.Proofs.Ytcgchccppoignaa
