/- Timer: a wheel and a list of the same timers. -/
import Derived.Test.YtcgchccppoignaaRfE
namespace Go.Proofs.Ytcgchccppoignaa
open Go.RowKit
attribute [local go_sem ↓] Go.wp_at_zero Go.wp_at_succ
attribute [local go_sem] Go.undef

def farF (T : Nat) (a : Int) : Int := (T : Int) + a % 4398046511104
theorem farF_wf {T : Nat} (hT : T ≤ MT) (a : Int) : (Lit.int .i64 (farF T a)).wf = true := by
  have h1 := Int.emod_nonneg a (b := 4398046511104) (by decide)
  have h2 := Int.emod_lt_of_pos a (b := 4398046511104) (by decide)
  unfold MT at hT
  rw [show farF T a = wrap64 (farF T a) from (IntWalk.wrap64_in _ (by unfold farF; omega)).symm]
  exact wrap64_wf _
theorem far_val {T : Nat} (hT : T ≤ MT) (a : Int) : wrap64 ((T : Int) + wrap64 ((IntKind.u64.wrap a).tmod 4398046511104)) = farF T a := by
  have h1 := Int.emod_nonneg a (b := 4398046511104) (by decide)
  have h2 := Int.emod_lt_of_pos a (b := 4398046511104) (by decide)
  unfold MT at hT
  have e1 : (IntKind.u64.wrap a).tmod 4398046511104 = a % 4398046511104 := by
    have h3 := Int.emod_nonneg a (b := 18446744073709551616) (by decide)
    rw [show IntKind.u64.wrap a = a % 18446744073709551616 from by simp [IntKind.wrap, IntKind.bits, IntKind.signed], Int.tmod_eq_emod_of_nonneg h3]
    exact Int.emod_emod_of_dvd a (by decide)
  rw [e1, IntWalk.wrap64_in (a % 4398046511104) (by omega), IntWalk.wrap64_in _ (by omega), farF]
section
variable {w : World}
set_option maxHeartbeats 4000000 in
theorem far_any {T : Nat} (hT : T ≤ MT) (a : Int) (w : World) :
    Calls Try.prog 9 #[.int .i64 T, .int .i64 a] w fun e w' => e = .returned (.int .i64 (farF T a)) ∧ w = w' := by
  have HV := Lib.hid (far_val hT a)
  clear hT
  go_enter Try.func9, Try.ntmps9
  go_wp2_with fail
  rw [HV.out]
  go_ret
  exact ⟨rfl, rfl⟩
end
theorem LeastOf.uniq {L : List Tm} {x y : Nat} (h : LeastOf L x) (h' : LeastOf L y) : x = y := by
  obtain ⟨⟨a, ha, rfl⟩, h1⟩ := h
  obtain ⟨⟨c, hc, rfl⟩, h2⟩ := h'
  have := h1 c hc
  have := h2 a ha
  omega
structure JS (w : World) (B b m lb T sq : Nat) (L : List Tm) (ρ : Nat → List Tm) (v : Value) : Prop where
  wh : Wh w B b m T sq L ρ
  ls : IsL w B lb T L v
  ap : ∀ g, Own b m L g → ¬ OwnL lb v g
section
variable {w w1 w2 : World} {B b m lb T sq T' sq' : Nat} {L L' : List Tm} {ρ ρ' : Nat → List Tm} {v v' : Value}
theorem Wh.far (h : Wh w B b m T sq L ρ) (he : ∀ g, Own b m L g → w1.heap[g]? = w.heap[g]?) : Wh w1 B b m T sq L ρ := ⟨h.whl.far he, h.inv, h.gt, h.srt, h.dst, h.sq, h.nm⟩
theorem JS.far (h : JS w B b m lb T sq L ρ v) (he : ∀ g, g < w.heap.size → w1.heap[g]? = w.heap[g]?) : JS w1 B b m lb T sq L ρ v :=
  ⟨h.wh.far fun g hg => he g (h.wh.whl.own_lt hg).2, h.ls.far fun g hg => he g (h.ls.own_lt hg).2, h.ap⟩
theorem JS.drewN (h : JS w B b m lb T sq L ρ v) (n : Nat) : JS (w.drewN n) B b m lb T sq L ρ v := h.far fun _ _ => rfl
/-- What a step of both leaves of the other blocks. -/
structure JX (w : World) (b m lb : Nat) (L L' : List Tm) (v v' : Value) (w' : World) : Prop where
  wt : WT (fun g => Own b m L g ∨ OwnL lb v g) w w'
  gr : ∀ g, Own b m L' g ∨ OwnL lb v' g → (Own b m L g ∨ OwnL lb v g) ∨ w.heap.size ≤ g
theorem JX.refl (w : World) (n b m lb : Nat) (L : List Tm) (v : Value) : JX w b m lb L L v v (w.drewN n) := ⟨WT.drewN _ _, fun _ h => .inl h⟩
theorem JX.trans {L'' : List Tm} {v'' : Value} (h : JX w b m lb L L' v v' w1) (h' : JX w1 b m lb L' L'' v' v'' w2) : JX w b m lb L L'' v v'' w2 :=
  ⟨h.wt.trans h'.wt fun g hg => h.gr g hg, fun g hg => (h'.gr g hg).elim (fun k => h.gr g k) fun k => .inr (Nat.le_trans h.wt.size k)⟩
theorem JS.below (h : JS w B b m lb T sq L ρ v) (hB : B ≤ w.heap.size) (hx : JX w b m lb L L' v v' w1) : Below B w w1 :=
  hx.wt.below hB fun _g hg => hg.elim (fun k => (h.wh.whl.own_lt k).1) fun k => (h.ls.own_lt k).1
/-- The list, behind a step of the wheel. -/
theorem JS.list (h : JS w B b m lb T sq L ρ v) (ht : WT (Own b m L) w w1) : IsL w1 B lb T L v := h.ls.wt ht fun g hg ho => h.ap g ho hg
theorem JS.step (h : JS w B b m lb T sq L ρ v) (hw : Wh w1 B b m T' sq' L' ρ') (ht : WT (Own b m L) w w1) (ho : ∀ g, Own b m L' g → Own b m L g ∨ w.heap.size ≤ g) (hl : IsL w2 B lb T' L' v') (hs : LStep w1 lb v v' w2) :
    JS w2 B b m lb T' sq' L' ρ' v' ∧ JX w b m lb L L' v v' w2 := by
  have hap : ∀ g, Own b m L' g → ¬ OwnL lb v g := fun g h1 h2 => by
    rcases ho g h1 with h3 | h3
    · exact h.ap g h3 h2
    · have := (h.ls.own_lt h2).2; omega
  have hv' : ∀ g, OwnL lb v' g → OwnL lb v g ∨ w1.heap.size ≤ g := fun g hg => by
    rcases hg with rfl | hg
    · exact .inl (.inl rfl)
    · rcases hs.2 g hg with h3 | h3
      · exact .inl (.inr h3)
      · exact .inr h3
  refine ⟨⟨hw.far fun g hg => hs.1.far g (hw.whl.own_lt hg).2 (hap g hg), hl, fun g h1 h2 => ?_⟩, (ht.more (W' := fun g => Own b m L g ∨ OwnL lb v g) fun _ hg => .inl hg).trans hs.1 (fun g hg => .inl (.inr hg)), fun g hg => ?_⟩
  · rcases hv' g h2 with h3 | h3
    · exact hap g h1 h3
    · have := (hw.whl.own_lt h1).2; omega
  · rcases hg with hg | hg
    · exact (ho g hg).imp .inl id
    · exact (hv' g hg).imp .inr fun k => Nat.le_trans ht.size k
end
end Go.Proofs.Ytcgchccppoignaa
