/- Timer: one call, done to both. -/
import Derived.Test.YtcgchccppoignaaRfG
import Derived.Deep.RegionHeld3
namespace Go.Proofs.Ytcgchccppoignaa
open Go.RowKit
attribute [local go_sem ↓] Go.wp_at_zero Go.wp_at_succ
attribute [local go_sem] Go.undef

def ActPost (w : World) (B b m lb sq : Nat) (L : List Tm) (e : Ending) (w' : World) : Prop :=
  e = .returned (.bool true) ∧ ∃ (T' sq' : Nat) (L' : List Tm) (ρ' : Nat → List Tm) (v' : Value), JS w' B b m lb T' sq' L' ρ' v' ∧ sq' ≤ sq + 1 ∧ L'.length ≤ L.length + 1 ∧ Below B w w'
/-- What the box of a call holds, and the list's tick. -/
def BoxS (g lb : Nat) (T : Nat) (a q : Int) (w : World) : Prop := w.cell? ⟨g, 1, none⟩ = some (.int .i64 a) ∧ w.cell? ⟨g, 2, none⟩ = some (.int .i64 q) ∧ w.cell? ⟨lb, 0, none⟩ = some (.int .i64 T)
section
variable {w : World} {B b m lb T sq : Nat} {L : List Tm} {ρ : Nat → List Tm} {v : Value}
theorem BoxS.wt {w1 w2 : World} {g : Nat} {a q : Int} {W : Nat → Prop} (h : BoxS g lb T a q w1) (ht : WT W w1 w2) (hw : ¬ W g) (hl : ¬ W lb) : BoxS g lb T a q w2 := ⟨ht.cell hw h.1, ht.cell hw h.2.1, ht.cell hl h.2.2⟩
set_option maxRecDepth 100000 in
set_option maxHeartbeats 8000000 in
theorem act_add (h : JS w B b m lb T sq L ρ v) (hsq : sq < 9223372036854775800) (hL : L.length < 8796093022208) (hB : B ≤ w.heap.size) (a q : Int) (ha : (Lit.int .i64 a).wf = true) (hq : (Lit.int .i64 q).wf = true) :
    Calls Try.prog 16 #[pt b 0, pt lb 0, .agg #[.int .i64 1, .int .i64 a, .int .i64 q]] w (ActPost w B b m lb sq L) := by
  have HJ := Lib.hid h
  clear h
  go_enter Try.func16, Try.ntmps16
  simp only [Go.undef]
  go_upto_region 3 with (first
    | (refine wpList_box1 rfl 39 _ rfl _ rfl #[.int .i64 1, .int .i64 a, .int .i64 q] _ rfl rfl ?_; intro w1 hb1 hbe1; have HB1 := Lib.hid hb1; have HBE1 := Lib.hid hbe1; have c0 : w1.cell? ⟨w.heap.size, 0, none⟩ = some (.int .i64 1) := hb1.cell 0; clear hb1 hbe1))
  have hj1 := (HJ.out.far (w1 := w1) fun g hg => HBE1.out.block g hg).drewN 1
  have hs1 : B ≤ (w1.drewN 1).heap.size := Nat.le_trans hB HBE1.out.size
  have HBE : Hid (Below B w w1.drew) := belowN ((WT.of_below (W := fun _ => False) HBE1.out).below hB fun _ h => h.elim) 1
  have HNO : Hid (¬ Own b m L w.heap.size ∧ ¬ OwnL lb v w.heap.size ∧ ¬ Own b m L lb) := ⟨fun k => by have := (HJ.out.wh.whl.own_lt k).2; omega, fun k => by have := (HJ.out.ls.own_lt k).2; omega, fun k => HJ.out.ap lb k (.inl rfl)⟩
  cases hab : addB T L (a) q with
  | false =>
    have HA : Hid (Calls Try.prog 20 #[pt b 0, .int .i64 (a), .int .i64 q] w1.drew fun e w' => e = .returned (.bool false) ∧ w1.drew = w') := (add_wh hj1.wh hsq (by unfold maxLen; omega) hs1 (a) q ha hq).mono fun e w' h => by
      rcases h with ⟨-, h2, h3⟩ | ⟨h1, -⟩
      · exact ⟨h2, h3⟩
      · rw [hab] at h1; cases h1
    have HB : Hid (Calls Try.prog 25 #[pt lb 0, .int .i64 (a), .int .i64 q] w1.drew fun e w' => e = .returned (.bool false) ∧ w1.drew = w') := (ladd_any hj1.ls hj1.wh.nm hL hs1 (a) q).mono fun e w' h => by
      rcases h with ⟨-, h2, h3⟩ | ⟨h1, -⟩
      · exact ⟨h2, h3⟩
      · rw [hab] at h1; cases h1
    refine wp_region_held_drew (S := (fun w' => BoxS w.heap.size lb T a q w')) (by kernel_rfl) ⟨HB1.out.cell 1, HB1.out.cell 2, hj1.ls.t⟩ (fun hHeld => ?_)
    have HJ1 := Lib.hid hj1
    clear hj1 hs1 hab
    refine wpAnyH_take (i := 0) (v := ?_) rfl (by kernel_rfl) (by kernel_rfl) (by kernel_rfl) (fun _ _ _ h => h) (Or.inl ⟨by rfl, ?_⟩) hHeld ?_
    rotate_left
    · rintro w ⟨hS1, hS2, hS3⟩
      first | (go_simp; done) | (go_simp; with_reducible rfl)
    try simp only [Act.put, List.getElem_toArray, List.getElem_cons_zero, List.setIfInBounds_toArray, List.set_cons_zero, List.set_cons_succ]
    refine wpAnyH_take (i := 1) (v := ?_) rfl (by kernel_rfl) (by kernel_rfl) (by kernel_rfl) (fun _ _ _ h => h) (Or.inl ⟨by rfl, ?_⟩) hHeld ?_
    rotate_left
    · rintro w ⟨hS1, hS2, hS3⟩
      first | (go_simp; done) | (go_simp; with_reducible rfl)
    try simp only [Act.put, List.getElem_toArray, List.getElem_cons_zero, List.getElem_cons_succ, List.setIfInBounds_toArray, List.set_cons_zero, List.set_cons_succ]
    refine wpAnyH_take (i := 2) (v := ?_) rfl (by kernel_rfl) (by kernel_rfl) (by kernel_rfl) (fun _ _ _ h => h) (Or.inl ⟨by rfl, ?_⟩) hHeld ?_
    rotate_left
    · rintro w ⟨hS1, hS2, hS3⟩
      first | (go_simp; done) | (go_simp; with_reducible rfl)
    try simp only [Act.put, List.getElem_toArray, List.getElem_cons_zero, List.getElem_cons_succ, List.setIfInBounds_toArray, List.set_cons_zero, List.set_cons_succ]
    refine wpAnyH_take (i := 3) (v := ?_) rfl (by kernel_rfl) (by kernel_rfl) (by kernel_rfl) (fun _ _ _ h => h) (Or.inl ⟨by rfl, ?_⟩) hHeld ?_
    rotate_left
    · rintro w ⟨hS1, hS2, hS3⟩
      first | (go_simp; done) | (go_simp; with_reducible rfl)
    try simp only [Act.put, List.getElem_toArray, List.getElem_cons_zero, List.getElem_cons_succ, List.setIfInBounds_toArray, List.set_cons_zero, List.set_cons_succ]
    refine wpAnyH_take (i := 4) (v := ?_) rfl (by kernel_rfl) (by kernel_rfl) (by kernel_rfl) (fun _ _ _ h => h) (Or.inl ⟨by rfl, ?_⟩) hHeld ?_
    rotate_left
    · rintro w ⟨hS1, hS2, hS3⟩
      first | (go_simp; done) | (go_simp; with_reducible rfl)
    try simp only [Act.put, List.getElem_toArray, List.getElem_cons_zero, List.getElem_cons_succ, List.setIfInBounds_toArray, List.set_cons_zero, List.set_cons_succ]
    refine wpAnyH_take (i := 6) (v := ?_) rfl (by kernel_rfl) (by kernel_rfl) (by kernel_rfl) (fun _ _ _ h => h) (Or.inl ⟨by rfl, ?_⟩) hHeld ?_
    rotate_left
    · rintro w ⟨hS1, hS2, hS3⟩
      first | (go_simp; done) | (go_simp; with_reducible rfl)
    try simp only [Act.put, List.getElem_toArray, List.getElem_cons_zero, List.getElem_cons_succ, List.setIfInBounds_toArray, List.set_cons_zero, List.set_cons_succ]
    refine wpAnyH_take (i := 7) (v := ?_) rfl (by kernel_rfl) (by kernel_rfl) (by kernel_rfl) (fun _ _ _ h => h) (Or.inl ⟨by rfl, ?_⟩) hHeld ?_
    rotate_left
    · rintro w ⟨hS1, hS2, hS3⟩
      first | (go_simp; done) | (go_simp; with_reducible rfl)
    try simp only [Act.put, List.getElem_toArray, List.getElem_cons_zero, List.getElem_cons_succ, List.setIfInBounds_toArray, List.set_cons_zero, List.set_cons_succ]
    refine wpAnyH_take (i := 8) (v := ?_) rfl (by kernel_rfl) (by kernel_rfl) (by kernel_rfl) (fun _ _ _ h => h) (Or.inl ⟨by rfl, ?_⟩) hHeld ?_
    rotate_left
    · rintro w ⟨hS1, hS2, hS3⟩
      first | (go_simp; done) | (go_simp; with_reducible rfl)
    try simp only [Act.put, List.getElem_toArray, List.getElem_cons_zero, List.getElem_cons_succ, List.setIfInBounds_toArray, List.set_cons_zero, List.set_cons_succ]
    refine wpAnyH_take (i := 9) (v := ?_) rfl (by kernel_rfl) (by kernel_rfl) (by kernel_rfl) (fun _ _ _ h => h) (Or.inl ⟨by rfl, ?_⟩) hHeld ?_
    rotate_left
    · rintro w ⟨hS1, hS2, hS3⟩
      first | (go_simp; done) | (go_simp; with_reducible rfl)
    try simp only [Act.put, List.getElem_toArray, List.getElem_cons_zero, List.getElem_cons_succ, List.setIfInBounds_toArray, List.set_cons_zero, List.set_cons_succ]
    refine wpAnyH_take (i := 10) (v := ?_) rfl (by kernel_rfl) (by kernel_rfl) (by kernel_rfl) (fun _ _ _ h => h) (Or.inl ⟨by rfl, ?_⟩) hHeld ?_
    rotate_left
    · rintro w ⟨hS1, hS2, hS3⟩
      first | (go_simp; done) | (go_simp; with_reducible rfl)
    try simp only [Act.put, List.getElem_toArray, List.getElem_cons_zero, List.getElem_cons_succ, List.setIfInBounds_toArray, List.set_cons_zero, List.set_cons_succ]
    refine wpAnyH_ready (rs := [5]) (by kernel_rfl) (by simp) ?_
    refine AllReadyH.cons rfl (fun K hK => ?_) AllReadyH.nil
    go_simp
    go_at_call 20
    refine (HA.out).mono ?_
    rintro e w2 ⟨rfl, rfl⟩
    refine hK.out _ _ hHeld (fun hHeld2 => ?_)
    clear hHeld hK K
    have hHeld := hHeld2
    clear hHeld2
    try simp only [Act.put, List.getElem_toArray, List.getElem_cons_zero, List.getElem_cons_succ, List.setIfInBounds_toArray, List.set_cons_zero, List.set_cons_succ]
    refine wpAnyH_ready (rs := [11]) (by kernel_rfl) (by simp) ?_
    refine AllReadyH.cons rfl (fun K hK => ?_) AllReadyH.nil
    go_simp
    go_at_call 25
    refine (HB.out).mono ?_
    rintro e w2 ⟨rfl, rfl⟩
    refine hK.out _ _ hHeld (fun hHeld2 => ?_)
    clear hHeld hK K
    have hHeld := hHeld2
    clear hHeld2
    try simp only [Act.put, List.getElem_toArray, List.getElem_cons_zero, List.getElem_cons_succ, List.setIfInBounds_toArray, List.set_cons_zero, List.set_cons_succ]
    refine wpAnyH_take (i := 12) (v := ?_) rfl (by kernel_rfl) (by kernel_rfl) (by kernel_rfl) (fun _ _ _ h => h) (Or.inl ⟨by rfl, ?_⟩) hHeld ?_
    rotate_left
    · rintro w ⟨hS1, hS2, hS3⟩
      first | (go_simp; done) | (go_simp; with_reducible rfl)
    try simp only [Act.put, List.getElem_toArray, List.getElem_cons_zero, List.getElem_cons_succ, List.setIfInBounds_toArray, List.set_cons_zero, List.set_cons_succ]
    refine wpAnyH_take (i := 13) (v := ?_) rfl (by kernel_rfl) (by kernel_rfl) (by kernel_rfl) (fun _ _ _ h => h) (Or.inl ⟨by rfl, ?_⟩) hHeld ?_
    rotate_left
    · rintro w ⟨hS1, hS2, hS3⟩
      first | (go_simp; done) | (go_simp; with_reducible rfl)
    try simp only [Act.put, List.getElem_toArray, List.getElem_cons_zero, List.getElem_cons_succ, List.setIfInBounds_toArray, List.set_cons_zero, List.set_cons_succ]
    refine wpAnyH_done (by kernel_rfl) ?_ _
    go_wp2_with fail
    go_ret
    exact ⟨rfl, _, _, _, _, _, HJ1.out, by omega, by omega, HBE.out⟩
  | true =>
    have HA : Hid (Calls Try.prog 20 #[pt b 0, .int .i64 (a), .int .i64 q] w1.drew fun e w' => e = .returned (.bool true) ∧ ∃ (x : Tm) (ρ' : Nat → List Tm), Wh w' B b m T (sq + 1) (L ++ [x]) ρ' ∧ WT (Own b m L) w1.drew w' ∧ (∀ g, Own b m (L ++ [x]) g → Own b m L g ∨ w1.drew.heap.size ≤ g) ∧
        Calls Try.prog 25 #[pt lb 0, .int .i64 (a), .int .i64 q] w' fun e w'' => e = .returned (.bool true) ∧ ∃ v', LStep w' lb v v' w'' ∧ IsL w'' B lb T (L ++ [x]) v') := (add_wh hj1.wh hsq (by unfold maxLen; omega) hs1 (a) q ha hq).mono fun e w' h => by
      rcases h with ⟨h1, -⟩ | ⟨-, h2, x, ρ', h3, h4, h5, h6, h7⟩
      · rw [hab] at h1; cases h1
      · refine ⟨h2, x, ρ', h5, h6, h7, (ladd_any (hj1.list h6) hj1.wh.nm hL (Nat.le_trans hs1 h6.size) (a) q).mono fun e w'' h => ?_⟩
        rcases h with ⟨h1, -⟩ | ⟨-, h8, v', h9, h10⟩
        · rw [hab] at h1; cases h1
        · exact ⟨h8, v', h9, h10 x h3 h4⟩
    refine wp_region_held_drew (S := (fun w' => BoxS w.heap.size lb T a q w')) (by kernel_rfl) ⟨HB1.out.cell 1, HB1.out.cell 2, hj1.ls.t⟩ (fun hHeld => ?_)
    have HJ1 := Lib.hid hj1
    have HS1 := Lib.hid hs1
    clear hj1 hs1 hab
    refine wpAnyH_take (i := 0) (v := ?_) rfl (by kernel_rfl) (by kernel_rfl) (by kernel_rfl) (fun _ _ _ h => h) (Or.inl ⟨by rfl, ?_⟩) hHeld ?_
    rotate_left
    · rintro w ⟨hS1, hS2, hS3⟩
      first | (go_simp; done) | (go_simp; with_reducible rfl)
    try simp only [Act.put, List.getElem_toArray, List.getElem_cons_zero, List.setIfInBounds_toArray, List.set_cons_zero, List.set_cons_succ]
    refine wpAnyH_take (i := 1) (v := ?_) rfl (by kernel_rfl) (by kernel_rfl) (by kernel_rfl) (fun _ _ _ h => h) (Or.inl ⟨by rfl, ?_⟩) hHeld ?_
    rotate_left
    · rintro w ⟨hS1, hS2, hS3⟩
      first | (go_simp; done) | (go_simp; with_reducible rfl)
    try simp only [Act.put, List.getElem_toArray, List.getElem_cons_zero, List.getElem_cons_succ, List.setIfInBounds_toArray, List.set_cons_zero, List.set_cons_succ]
    refine wpAnyH_take (i := 2) (v := ?_) rfl (by kernel_rfl) (by kernel_rfl) (by kernel_rfl) (fun _ _ _ h => h) (Or.inl ⟨by rfl, ?_⟩) hHeld ?_
    rotate_left
    · rintro w ⟨hS1, hS2, hS3⟩
      first | (go_simp; done) | (go_simp; with_reducible rfl)
    try simp only [Act.put, List.getElem_toArray, List.getElem_cons_zero, List.getElem_cons_succ, List.setIfInBounds_toArray, List.set_cons_zero, List.set_cons_succ]
    refine wpAnyH_take (i := 3) (v := ?_) rfl (by kernel_rfl) (by kernel_rfl) (by kernel_rfl) (fun _ _ _ h => h) (Or.inl ⟨by rfl, ?_⟩) hHeld ?_
    rotate_left
    · rintro w ⟨hS1, hS2, hS3⟩
      first | (go_simp; done) | (go_simp; with_reducible rfl)
    try simp only [Act.put, List.getElem_toArray, List.getElem_cons_zero, List.getElem_cons_succ, List.setIfInBounds_toArray, List.set_cons_zero, List.set_cons_succ]
    refine wpAnyH_take (i := 4) (v := ?_) rfl (by kernel_rfl) (by kernel_rfl) (by kernel_rfl) (fun _ _ _ h => h) (Or.inl ⟨by rfl, ?_⟩) hHeld ?_
    rotate_left
    · rintro w ⟨hS1, hS2, hS3⟩
      first | (go_simp; done) | (go_simp; with_reducible rfl)
    try simp only [Act.put, List.getElem_toArray, List.getElem_cons_zero, List.getElem_cons_succ, List.setIfInBounds_toArray, List.set_cons_zero, List.set_cons_succ]
    refine wpAnyH_take (i := 6) (v := ?_) rfl (by kernel_rfl) (by kernel_rfl) (by kernel_rfl) (fun _ _ _ h => h) (Or.inl ⟨by rfl, ?_⟩) hHeld ?_
    rotate_left
    · rintro w ⟨hS1, hS2, hS3⟩
      first | (go_simp; done) | (go_simp; with_reducible rfl)
    try simp only [Act.put, List.getElem_toArray, List.getElem_cons_zero, List.getElem_cons_succ, List.setIfInBounds_toArray, List.set_cons_zero, List.set_cons_succ]
    refine wpAnyH_take (i := 7) (v := ?_) rfl (by kernel_rfl) (by kernel_rfl) (by kernel_rfl) (fun _ _ _ h => h) (Or.inl ⟨by rfl, ?_⟩) hHeld ?_
    rotate_left
    · rintro w ⟨hS1, hS2, hS3⟩
      first | (go_simp; done) | (go_simp; with_reducible rfl)
    try simp only [Act.put, List.getElem_toArray, List.getElem_cons_zero, List.getElem_cons_succ, List.setIfInBounds_toArray, List.set_cons_zero, List.set_cons_succ]
    refine wpAnyH_take (i := 8) (v := ?_) rfl (by kernel_rfl) (by kernel_rfl) (by kernel_rfl) (fun _ _ _ h => h) (Or.inl ⟨by rfl, ?_⟩) hHeld ?_
    rotate_left
    · rintro w ⟨hS1, hS2, hS3⟩
      first | (go_simp; done) | (go_simp; with_reducible rfl)
    try simp only [Act.put, List.getElem_toArray, List.getElem_cons_zero, List.getElem_cons_succ, List.setIfInBounds_toArray, List.set_cons_zero, List.set_cons_succ]
    refine wpAnyH_take (i := 9) (v := ?_) rfl (by kernel_rfl) (by kernel_rfl) (by kernel_rfl) (fun _ _ _ h => h) (Or.inl ⟨by rfl, ?_⟩) hHeld ?_
    rotate_left
    · rintro w ⟨hS1, hS2, hS3⟩
      first | (go_simp; done) | (go_simp; with_reducible rfl)
    try simp only [Act.put, List.getElem_toArray, List.getElem_cons_zero, List.getElem_cons_succ, List.setIfInBounds_toArray, List.set_cons_zero, List.set_cons_succ]
    refine wpAnyH_take (i := 10) (v := ?_) rfl (by kernel_rfl) (by kernel_rfl) (by kernel_rfl) (fun _ _ _ h => h) (Or.inl ⟨by rfl, ?_⟩) hHeld ?_
    rotate_left
    · rintro w ⟨hS1, hS2, hS3⟩
      first | (go_simp; done) | (go_simp; with_reducible rfl)
    try simp only [Act.put, List.getElem_toArray, List.getElem_cons_zero, List.getElem_cons_succ, List.setIfInBounds_toArray, List.set_cons_zero, List.set_cons_succ]
    refine wpAnyH_ready (rs := [5]) (by kernel_rfl) (by simp) ?_
    refine AllReadyH.cons rfl (fun K hK => ?_) AllReadyH.nil
    go_simp
    go_at_call 20
    refine (HA.out).mono ?_
    rintro e w2 ⟨rfl, x, ρ', hw2, ht2, ho2, hlc⟩
    have HLC := Lib.hid hlc
    have HW2 := Lib.hid (And.intro hw2 (And.intro ht2 ho2))
    have hk2 := hHeld.wt ht2 HNO.out.1 HNO.out.2.2
    clear hw2 ht2 ho2 hlc
    refine hK.out _ _ hk2 (fun hHeld2 => ?_)
    clear hHeld hK K
    have hHeld := hHeld2
    clear hHeld2
    try simp only [Act.put, List.getElem_toArray, List.getElem_cons_zero, List.getElem_cons_succ, List.setIfInBounds_toArray, List.set_cons_zero, List.set_cons_succ]
    refine wpAnyH_ready (rs := [11]) (by kernel_rfl) (by simp) ?_
    refine AllReadyH.cons rfl (fun K hK => ?_) AllReadyH.nil
    go_simp
    go_at_call 25
    refine (HLC.out).mono ?_
    rintro e w3 ⟨rfl, v', hs3, hl3⟩
    have hk3 : BoxS w.heap.size lb T a q w3 := ⟨hs3.1.cell HNO.out.2.1 hHeld.1, hs3.1.cell HNO.out.2.1 hHeld.2.1, hl3.t⟩
    have HL3 := Lib.hid (And.intro hl3 hs3)
    clear hl3 hs3
    refine hK.out _ _ hk3 (fun hHeld2 => ?_)
    clear hHeld hK K
    have hHeld := hHeld2
    clear hHeld2
    try simp only [Act.put, List.getElem_toArray, List.getElem_cons_zero, List.getElem_cons_succ, List.setIfInBounds_toArray, List.set_cons_zero, List.set_cons_succ]
    refine wpAnyH_take (i := 12) (v := ?_) rfl (by kernel_rfl) (by kernel_rfl) (by kernel_rfl) (fun _ _ _ h => h) (Or.inl ⟨by rfl, ?_⟩) hHeld ?_
    rotate_left
    · rintro w ⟨hS1, hS2, hS3⟩
      first | (go_simp; done) | (go_simp; with_reducible rfl)
    try simp only [Act.put, List.getElem_toArray, List.getElem_cons_zero, List.getElem_cons_succ, List.setIfInBounds_toArray, List.set_cons_zero, List.set_cons_succ]
    refine wpAnyH_take (i := 13) (v := ?_) rfl (by kernel_rfl) (by kernel_rfl) (by kernel_rfl) (fun _ _ _ h => h) (Or.inl ⟨by rfl, ?_⟩) hHeld ?_
    rotate_left
    · rintro w ⟨hS1, hS2, hS3⟩
      first | (go_simp; done) | (go_simp; with_reducible rfl)
    try simp only [Act.put, List.getElem_toArray, List.getElem_cons_zero, List.getElem_cons_succ, List.setIfInBounds_toArray, List.set_cons_zero, List.set_cons_succ]
    refine wpAnyH_done (by kernel_rfl) ?_ _
    go_wp2_with fail
    go_ret
    obtain ⟨hj3, hx3⟩ := HJ1.out.step HW2.out.1 HW2.out.2.1 HW2.out.2.2 HL3.out.1 HL3.out.2
    exact ⟨rfl, _, _, _, _, _, hj3, by omega, by simp, HBE.out.trans (HJ1.out.below HS1.out hx3)⟩
set_option maxRecDepth 100000 in
set_option maxHeartbeats 8000000 in
theorem act_soon (h : JS w B b m lb T sq L ρ v) (hsq : sq < 9223372036854775800) (hL : L.length < 8796093022208) (hB : B ≤ w.heap.size) (a q : Int) (_ha : (Lit.int .i64 a).wf = true) (hq : (Lit.int .i64 q).wf = true) :
    Calls Try.prog 16 #[pt b 0, pt lb 0, .agg #[.int .i64 2, .int .i64 a, .int .i64 q]] w (ActPost w B b m lb sq L) := by
  have HJ := Lib.hid h
  clear h
  go_enter Try.func16, Try.ntmps16
  simp only [Go.undef]
  go_upto_region 5 with (first
    | (refine wpList_box1 rfl 39 _ rfl _ rfl #[.int .i64 2, .int .i64 a, .int .i64 q] _ rfl rfl ?_; intro w1 hb1 hbe1; have HB1 := Lib.hid hb1; have HBE1 := Lib.hid hbe1; have c0 : w1.cell? ⟨w.heap.size, 0, none⟩ = some (.int .i64 2) := hb1.cell 0; clear hb1 hbe1))
  have hj1 := (HJ.out.far (w1 := w1) fun g hg => HBE1.out.block g hg).drewN 1
  have hs1 : B ≤ (w1.drewN 1).heap.size := Nat.le_trans hB HBE1.out.size
  have HBE : Hid (Below B w w1.drew) := belowN ((WT.of_below (W := fun _ => False) HBE1.out).below hB fun _ h => h.elim) 1
  have HNO : Hid (¬ Own b m L w.heap.size ∧ ¬ OwnL lb v w.heap.size ∧ ¬ Own b m L lb) := ⟨fun k => by have := (HJ.out.wh.whl.own_lt k).2; omega, fun k => by have := (HJ.out.ls.own_lt k).2; omega, fun k => HJ.out.ap lb k (.inl rfl)⟩
  cases hab : addB T L (farF T a) q with
  | false =>
    have HA : Hid (Calls Try.prog 20 #[pt b 0, .int .i64 (farF T a), .int .i64 q] w1.drew fun e w' => e = .returned (.bool false) ∧ w1.drew = w') := (add_wh hj1.wh hsq (by unfold maxLen; omega) hs1 (farF T a) q (farF_wf hj1.wh.nm a) hq).mono fun e w' h => by
      rcases h with ⟨-, h2, h3⟩ | ⟨h1, -⟩
      · exact ⟨h2, h3⟩
      · rw [hab] at h1; cases h1
    have HB : Hid (Calls Try.prog 25 #[pt lb 0, .int .i64 (farF T a), .int .i64 q] w1.drew fun e w' => e = .returned (.bool false) ∧ w1.drew = w') := (ladd_any hj1.ls hj1.wh.nm hL hs1 (farF T a) q).mono fun e w' h => by
      rcases h with ⟨-, h2, h3⟩ | ⟨h1, -⟩
      · exact ⟨h2, h3⟩
      · rw [hab] at h1; cases h1
    have HFAR : Hid (∀ w' : World, Calls Try.prog 9 #[.int .i64 T, .int .i64 a] w' fun e w'' => e = .returned (.int .i64 (farF T a)) ∧ w' = w'') := fun w' => far_any hj1.wh.nm a w'
    refine wp_region_held_drew (S := (fun w' => BoxS w.heap.size lb T a q w')) (by kernel_rfl) ⟨HB1.out.cell 1, HB1.out.cell 2, hj1.ls.t⟩ (fun hHeld => ?_)
    have HJ1 := Lib.hid hj1
    clear hj1 hs1 hab
    refine wpAnyH_take (i := 0) (v := ?_) rfl (by kernel_rfl) (by kernel_rfl) (by kernel_rfl) (fun _ _ _ h => h) (Or.inl ⟨by rfl, ?_⟩) hHeld ?_
    rotate_left
    · rintro w ⟨hS1, hS2, hS3⟩
      first | (go_simp; done) | (go_simp; with_reducible rfl)
    try simp only [Act.put, List.getElem_toArray, List.getElem_cons_zero, List.setIfInBounds_toArray, List.set_cons_zero, List.set_cons_succ]
    refine wpAnyH_take (i := 1) (v := ?_) rfl (by kernel_rfl) (by kernel_rfl) (by kernel_rfl) (fun _ _ _ h => h) (Or.inl ⟨by rfl, ?_⟩) hHeld ?_
    rotate_left
    · rintro w ⟨hS1, hS2, hS3⟩
      first | (go_simp; done) | (go_simp; with_reducible rfl)
    try simp only [Act.put, List.getElem_toArray, List.getElem_cons_zero, List.getElem_cons_succ, List.setIfInBounds_toArray, List.set_cons_zero, List.set_cons_succ]
    refine wpAnyH_take (i := 2) (v := ?_) rfl (by kernel_rfl) (by kernel_rfl) (by kernel_rfl) (fun _ _ _ h => h) (Or.inl ⟨by rfl, ?_⟩) hHeld ?_
    rotate_left
    · rintro w ⟨hS1, hS2, hS3⟩
      first | (go_simp; done) | (go_simp; with_reducible rfl)
    try simp only [Act.put, List.getElem_toArray, List.getElem_cons_zero, List.getElem_cons_succ, List.setIfInBounds_toArray, List.set_cons_zero, List.set_cons_succ]
    refine wpAnyH_take (i := 3) (v := ?_) rfl (by kernel_rfl) (by kernel_rfl) (by kernel_rfl) (fun _ _ _ h => h) (Or.inl ⟨by rfl, ?_⟩) hHeld ?_
    rotate_left
    · rintro w ⟨hS1, hS2, hS3⟩
      first | (go_simp; done) | (go_simp; with_reducible rfl)
    try simp only [Act.put, List.getElem_toArray, List.getElem_cons_zero, List.getElem_cons_succ, List.setIfInBounds_toArray, List.set_cons_zero, List.set_cons_succ]
    refine wpAnyH_take (i := 4) (v := ?_) rfl (by kernel_rfl) (by kernel_rfl) (by kernel_rfl) (fun _ _ _ h => h) (Or.inl ⟨by rfl, ?_⟩) hHeld ?_
    rotate_left
    · rintro w ⟨hS1, hS2, hS3⟩
      first | (go_simp; done) | (go_simp; with_reducible rfl)
    try simp only [Act.put, List.getElem_toArray, List.getElem_cons_zero, List.getElem_cons_succ, List.setIfInBounds_toArray, List.set_cons_zero, List.set_cons_succ]
    refine wpAnyH_take (i := 5) (v := ?_) rfl (by kernel_rfl) (by kernel_rfl) (by kernel_rfl) (fun _ _ _ h => h) (Or.inl ⟨by rfl, ?_⟩) hHeld ?_
    rotate_left
    · rintro w ⟨hS1, hS2, hS3⟩
      first | (go_simp; done) | (go_simp; with_reducible rfl)
    try simp only [Act.put, List.getElem_toArray, List.getElem_cons_zero, List.getElem_cons_succ, List.setIfInBounds_toArray, List.set_cons_zero, List.set_cons_succ]
    refine wpAnyH_take (i := 6) (v := ?_) rfl (by kernel_rfl) (by kernel_rfl) (by kernel_rfl) (fun _ _ _ h => h) (Or.inl ⟨by rfl, ?_⟩) hHeld ?_
    rotate_left
    · rintro w ⟨hS1, hS2, hS3⟩
      first | (go_simp; done) | (go_simp; with_reducible rfl)
    try simp only [Act.put, List.getElem_toArray, List.getElem_cons_zero, List.getElem_cons_succ, List.setIfInBounds_toArray, List.set_cons_zero, List.set_cons_succ]
    refine wpAnyH_take (i := 8) (v := ?_) rfl (by kernel_rfl) (by kernel_rfl) (by kernel_rfl) (fun _ _ _ h => h) (Or.inl ⟨by rfl, ?_⟩) hHeld ?_
    rotate_left
    · rintro w ⟨hS1, hS2, hS3⟩
      first | (go_simp; done) | (go_simp; with_reducible rfl)
    try simp only [Act.put, List.getElem_toArray, List.getElem_cons_zero, List.getElem_cons_succ, List.setIfInBounds_toArray, List.set_cons_zero, List.set_cons_succ]
    refine wpAnyH_take (i := 9) (v := ?_) rfl (by kernel_rfl) (by kernel_rfl) (by kernel_rfl) (fun _ _ _ h => h) (Or.inl ⟨by rfl, ?_⟩) hHeld ?_
    rotate_left
    · rintro w ⟨hS1, hS2, hS3⟩
      first | (go_simp; done) | (go_simp; with_reducible rfl)
    try simp only [Act.put, List.getElem_toArray, List.getElem_cons_zero, List.getElem_cons_succ, List.setIfInBounds_toArray, List.set_cons_zero, List.set_cons_succ]
    refine wpAnyH_take (i := 11) (v := ?_) rfl (by kernel_rfl) (by kernel_rfl) (by kernel_rfl) (fun _ _ _ h => h) (Or.inl ⟨by rfl, ?_⟩) hHeld ?_
    rotate_left
    · rintro w ⟨hS1, hS2, hS3⟩
      first | (go_simp; done) | (go_simp; with_reducible rfl)
    try simp only [Act.put, List.getElem_toArray, List.getElem_cons_zero, List.getElem_cons_succ, List.setIfInBounds_toArray, List.set_cons_zero, List.set_cons_succ]
    refine wpAnyH_take (i := 12) (v := ?_) rfl (by kernel_rfl) (by kernel_rfl) (by kernel_rfl) (fun _ _ _ h => h) (Or.inl ⟨by rfl, ?_⟩) hHeld ?_
    rotate_left
    · rintro w ⟨hS1, hS2, hS3⟩
      first | (go_simp; done) | (go_simp; with_reducible rfl)
    try simp only [Act.put, List.getElem_toArray, List.getElem_cons_zero, List.getElem_cons_succ, List.setIfInBounds_toArray, List.set_cons_zero, List.set_cons_succ]
    refine wpAnyH_take (i := 13) (v := ?_) rfl (by kernel_rfl) (by kernel_rfl) (by kernel_rfl) (fun _ _ _ h => h) (Or.inl ⟨by rfl, ?_⟩) hHeld ?_
    rotate_left
    · rintro w ⟨hS1, hS2, hS3⟩
      first | (go_simp; done) | (go_simp; with_reducible rfl)
    try simp only [Act.put, List.getElem_toArray, List.getElem_cons_zero, List.getElem_cons_succ, List.setIfInBounds_toArray, List.set_cons_zero, List.set_cons_succ]
    refine wpAnyH_take (i := 14) (v := ?_) rfl (by kernel_rfl) (by kernel_rfl) (by kernel_rfl) (fun _ _ _ h => h) (Or.inl ⟨by rfl, ?_⟩) hHeld ?_
    rotate_left
    · rintro w ⟨hS1, hS2, hS3⟩
      first | (go_simp; done) | (go_simp; with_reducible rfl)
    try simp only [Act.put, List.getElem_toArray, List.getElem_cons_zero, List.getElem_cons_succ, List.setIfInBounds_toArray, List.set_cons_zero, List.set_cons_succ]
    refine wpAnyH_take (i := 15) (v := ?_) rfl (by kernel_rfl) (by kernel_rfl) (by kernel_rfl) (fun _ _ _ h => h) (Or.inl ⟨by rfl, ?_⟩) hHeld ?_
    rotate_left
    · rintro w ⟨hS1, hS2, hS3⟩
      first | (go_simp; done) | (go_simp; with_reducible rfl)
    try simp only [Act.put, List.getElem_toArray, List.getElem_cons_zero, List.getElem_cons_succ, List.setIfInBounds_toArray, List.set_cons_zero, List.set_cons_succ]
    refine wpAnyH_take (i := 16) (v := ?_) rfl (by kernel_rfl) (by kernel_rfl) (by kernel_rfl) (fun _ _ _ h => h) (Or.inl ⟨by rfl, ?_⟩) hHeld ?_
    rotate_left
    · rintro w ⟨hS1, hS2, hS3⟩
      first | (go_simp; done) | (go_simp; with_reducible rfl)
    try simp only [Act.put, List.getElem_toArray, List.getElem_cons_zero, List.getElem_cons_succ, List.setIfInBounds_toArray, List.set_cons_zero, List.set_cons_succ]
    refine wpAnyH_take (i := 17) (v := ?_) rfl (by kernel_rfl) (by kernel_rfl) (by kernel_rfl) (fun _ _ _ h => h) (Or.inl ⟨by rfl, ?_⟩) hHeld ?_
    rotate_left
    · rintro w ⟨hS1, hS2, hS3⟩
      first | (go_simp; done) | (go_simp; with_reducible rfl)
    try simp only [Act.put, List.getElem_toArray, List.getElem_cons_zero, List.getElem_cons_succ, List.setIfInBounds_toArray, List.set_cons_zero, List.set_cons_succ]
    refine wpAnyH_take (i := 19) (v := ?_) rfl (by kernel_rfl) (by kernel_rfl) (by kernel_rfl) (fun _ _ _ h => h) (Or.inl ⟨by rfl, ?_⟩) hHeld ?_
    rotate_left
    · rintro w ⟨hS1, hS2, hS3⟩
      first | (go_simp; done) | (go_simp; with_reducible rfl)
    try simp only [Act.put, List.getElem_toArray, List.getElem_cons_zero, List.getElem_cons_succ, List.setIfInBounds_toArray, List.set_cons_zero, List.set_cons_succ]
    refine wpAnyH_take (i := 20) (v := ?_) rfl (by kernel_rfl) (by kernel_rfl) (by kernel_rfl) (fun _ _ _ h => h) (Or.inl ⟨by rfl, ?_⟩) hHeld ?_
    rotate_left
    · rintro w ⟨hS1, hS2, hS3⟩
      first | (go_simp; done) | (go_simp; with_reducible rfl)
    try simp only [Act.put, List.getElem_toArray, List.getElem_cons_zero, List.getElem_cons_succ, List.setIfInBounds_toArray, List.set_cons_zero, List.set_cons_succ]
    refine wpAnyH_ready (rs := [7]) (by kernel_rfl) (by simp) ?_
    refine AllReadyH.cons rfl (fun K hK => ?_) AllReadyH.nil
    go_simp
    go_at_call 9
    refine (HFAR.out _).mono ?_
    rintro e w5 ⟨rfl, rfl⟩
    refine hK.out _ _ hHeld (fun hHeld2 => ?_)
    clear hHeld hK K
    have hHeld := hHeld2
    clear hHeld2
    try simp only [Act.put, List.getElem_toArray, List.getElem_cons_zero, List.getElem_cons_succ, List.setIfInBounds_toArray, List.set_cons_zero, List.set_cons_succ]
    refine wpAnyH_ready (rs := [10]) (by kernel_rfl) (by simp) ?_
    refine AllReadyH.cons rfl (fun K hK => ?_) AllReadyH.nil
    go_simp
    go_at_call 20
    refine (HA.out).mono ?_
    rintro e w2 ⟨rfl, rfl⟩
    refine hK.out _ _ hHeld (fun hHeld2 => ?_)
    clear hHeld hK K
    have hHeld := hHeld2
    clear hHeld2
    try simp only [Act.put, List.getElem_toArray, List.getElem_cons_zero, List.getElem_cons_succ, List.setIfInBounds_toArray, List.set_cons_zero, List.set_cons_succ]
    refine wpAnyH_ready (rs := [18]) (by kernel_rfl) (by simp) ?_
    refine AllReadyH.cons rfl (fun K hK => ?_) AllReadyH.nil
    go_simp
    go_at_call 9
    refine (HFAR.out _).mono ?_
    rintro e w5 ⟨rfl, rfl⟩
    refine hK.out _ _ hHeld (fun hHeld2 => ?_)
    clear hHeld hK K
    have hHeld := hHeld2
    clear hHeld2
    try simp only [Act.put, List.getElem_toArray, List.getElem_cons_zero, List.getElem_cons_succ, List.setIfInBounds_toArray, List.set_cons_zero, List.set_cons_succ]
    refine wpAnyH_ready (rs := [21]) (by kernel_rfl) (by simp) ?_
    refine AllReadyH.cons rfl (fun K hK => ?_) AllReadyH.nil
    go_simp
    go_at_call 25
    refine (HB.out).mono ?_
    rintro e w2 ⟨rfl, rfl⟩
    refine hK.out _ _ hHeld (fun hHeld2 => ?_)
    clear hHeld hK K
    have hHeld := hHeld2
    clear hHeld2
    try simp only [Act.put, List.getElem_toArray, List.getElem_cons_zero, List.getElem_cons_succ, List.setIfInBounds_toArray, List.set_cons_zero, List.set_cons_succ]
    refine wpAnyH_take (i := 22) (v := ?_) rfl (by kernel_rfl) (by kernel_rfl) (by kernel_rfl) (fun _ _ _ h => h) (Or.inl ⟨by rfl, ?_⟩) hHeld ?_
    rotate_left
    · rintro w ⟨hS1, hS2, hS3⟩
      first | (go_simp; done) | (go_simp; with_reducible rfl)
    try simp only [Act.put, List.getElem_toArray, List.getElem_cons_zero, List.getElem_cons_succ, List.setIfInBounds_toArray, List.set_cons_zero, List.set_cons_succ]
    refine wpAnyH_take (i := 23) (v := ?_) rfl (by kernel_rfl) (by kernel_rfl) (by kernel_rfl) (fun _ _ _ h => h) (Or.inl ⟨by rfl, ?_⟩) hHeld ?_
    rotate_left
    · rintro w ⟨hS1, hS2, hS3⟩
      first | (go_simp; done) | (go_simp; with_reducible rfl)
    try simp only [Act.put, List.getElem_toArray, List.getElem_cons_zero, List.getElem_cons_succ, List.setIfInBounds_toArray, List.set_cons_zero, List.set_cons_succ]
    refine wpAnyH_done (by kernel_rfl) ?_ _
    go_wp2_with fail
    go_ret
    exact ⟨rfl, _, _, _, _, _, HJ1.out, by omega, by omega, HBE.out⟩
  | true =>
    have HA : Hid (Calls Try.prog 20 #[pt b 0, .int .i64 (farF T a), .int .i64 q] w1.drew fun e w' => e = .returned (.bool true) ∧ ∃ (x : Tm) (ρ' : Nat → List Tm), Wh w' B b m T (sq + 1) (L ++ [x]) ρ' ∧ WT (Own b m L) w1.drew w' ∧ (∀ g, Own b m (L ++ [x]) g → Own b m L g ∨ w1.drew.heap.size ≤ g) ∧
        Calls Try.prog 25 #[pt lb 0, .int .i64 (farF T a), .int .i64 q] w' fun e w'' => e = .returned (.bool true) ∧ ∃ v', LStep w' lb v v' w'' ∧ IsL w'' B lb T (L ++ [x]) v') := (add_wh hj1.wh hsq (by unfold maxLen; omega) hs1 (farF T a) q (farF_wf hj1.wh.nm a) hq).mono fun e w' h => by
      rcases h with ⟨h1, -⟩ | ⟨-, h2, x, ρ', h3, h4, h5, h6, h7⟩
      · rw [hab] at h1; cases h1
      · refine ⟨h2, x, ρ', h5, h6, h7, (ladd_any (hj1.list h6) hj1.wh.nm hL (Nat.le_trans hs1 h6.size) (farF T a) q).mono fun e w'' h => ?_⟩
        rcases h with ⟨h1, -⟩ | ⟨-, h8, v', h9, h10⟩
        · rw [hab] at h1; cases h1
        · exact ⟨h8, v', h9, h10 x h3 h4⟩
    have HFAR : Hid (∀ w' : World, Calls Try.prog 9 #[.int .i64 T, .int .i64 a] w' fun e w'' => e = .returned (.int .i64 (farF T a)) ∧ w' = w'') := fun w' => far_any hj1.wh.nm a w'
    refine wp_region_held_drew (S := (fun w' => BoxS w.heap.size lb T a q w')) (by kernel_rfl) ⟨HB1.out.cell 1, HB1.out.cell 2, hj1.ls.t⟩ (fun hHeld => ?_)
    have HJ1 := Lib.hid hj1
    have HS1 := Lib.hid hs1
    clear hj1 hs1 hab
    refine wpAnyH_take (i := 0) (v := ?_) rfl (by kernel_rfl) (by kernel_rfl) (by kernel_rfl) (fun _ _ _ h => h) (Or.inl ⟨by rfl, ?_⟩) hHeld ?_
    rotate_left
    · rintro w ⟨hS1, hS2, hS3⟩
      first | (go_simp; done) | (go_simp; with_reducible rfl)
    try simp only [Act.put, List.getElem_toArray, List.getElem_cons_zero, List.setIfInBounds_toArray, List.set_cons_zero, List.set_cons_succ]
    refine wpAnyH_take (i := 1) (v := ?_) rfl (by kernel_rfl) (by kernel_rfl) (by kernel_rfl) (fun _ _ _ h => h) (Or.inl ⟨by rfl, ?_⟩) hHeld ?_
    rotate_left
    · rintro w ⟨hS1, hS2, hS3⟩
      first | (go_simp; done) | (go_simp; with_reducible rfl)
    try simp only [Act.put, List.getElem_toArray, List.getElem_cons_zero, List.getElem_cons_succ, List.setIfInBounds_toArray, List.set_cons_zero, List.set_cons_succ]
    refine wpAnyH_take (i := 2) (v := ?_) rfl (by kernel_rfl) (by kernel_rfl) (by kernel_rfl) (fun _ _ _ h => h) (Or.inl ⟨by rfl, ?_⟩) hHeld ?_
    rotate_left
    · rintro w ⟨hS1, hS2, hS3⟩
      first | (go_simp; done) | (go_simp; with_reducible rfl)
    try simp only [Act.put, List.getElem_toArray, List.getElem_cons_zero, List.getElem_cons_succ, List.setIfInBounds_toArray, List.set_cons_zero, List.set_cons_succ]
    refine wpAnyH_take (i := 3) (v := ?_) rfl (by kernel_rfl) (by kernel_rfl) (by kernel_rfl) (fun _ _ _ h => h) (Or.inl ⟨by rfl, ?_⟩) hHeld ?_
    rotate_left
    · rintro w ⟨hS1, hS2, hS3⟩
      first | (go_simp; done) | (go_simp; with_reducible rfl)
    try simp only [Act.put, List.getElem_toArray, List.getElem_cons_zero, List.getElem_cons_succ, List.setIfInBounds_toArray, List.set_cons_zero, List.set_cons_succ]
    refine wpAnyH_take (i := 4) (v := ?_) rfl (by kernel_rfl) (by kernel_rfl) (by kernel_rfl) (fun _ _ _ h => h) (Or.inl ⟨by rfl, ?_⟩) hHeld ?_
    rotate_left
    · rintro w ⟨hS1, hS2, hS3⟩
      first | (go_simp; done) | (go_simp; with_reducible rfl)
    try simp only [Act.put, List.getElem_toArray, List.getElem_cons_zero, List.getElem_cons_succ, List.setIfInBounds_toArray, List.set_cons_zero, List.set_cons_succ]
    refine wpAnyH_take (i := 5) (v := ?_) rfl (by kernel_rfl) (by kernel_rfl) (by kernel_rfl) (fun _ _ _ h => h) (Or.inl ⟨by rfl, ?_⟩) hHeld ?_
    rotate_left
    · rintro w ⟨hS1, hS2, hS3⟩
      first | (go_simp; done) | (go_simp; with_reducible rfl)
    try simp only [Act.put, List.getElem_toArray, List.getElem_cons_zero, List.getElem_cons_succ, List.setIfInBounds_toArray, List.set_cons_zero, List.set_cons_succ]
    refine wpAnyH_take (i := 6) (v := ?_) rfl (by kernel_rfl) (by kernel_rfl) (by kernel_rfl) (fun _ _ _ h => h) (Or.inl ⟨by rfl, ?_⟩) hHeld ?_
    rotate_left
    · rintro w ⟨hS1, hS2, hS3⟩
      first | (go_simp; done) | (go_simp; with_reducible rfl)
    try simp only [Act.put, List.getElem_toArray, List.getElem_cons_zero, List.getElem_cons_succ, List.setIfInBounds_toArray, List.set_cons_zero, List.set_cons_succ]
    refine wpAnyH_take (i := 8) (v := ?_) rfl (by kernel_rfl) (by kernel_rfl) (by kernel_rfl) (fun _ _ _ h => h) (Or.inl ⟨by rfl, ?_⟩) hHeld ?_
    rotate_left
    · rintro w ⟨hS1, hS2, hS3⟩
      first | (go_simp; done) | (go_simp; with_reducible rfl)
    try simp only [Act.put, List.getElem_toArray, List.getElem_cons_zero, List.getElem_cons_succ, List.setIfInBounds_toArray, List.set_cons_zero, List.set_cons_succ]
    refine wpAnyH_take (i := 9) (v := ?_) rfl (by kernel_rfl) (by kernel_rfl) (by kernel_rfl) (fun _ _ _ h => h) (Or.inl ⟨by rfl, ?_⟩) hHeld ?_
    rotate_left
    · rintro w ⟨hS1, hS2, hS3⟩
      first | (go_simp; done) | (go_simp; with_reducible rfl)
    try simp only [Act.put, List.getElem_toArray, List.getElem_cons_zero, List.getElem_cons_succ, List.setIfInBounds_toArray, List.set_cons_zero, List.set_cons_succ]
    refine wpAnyH_take (i := 11) (v := ?_) rfl (by kernel_rfl) (by kernel_rfl) (by kernel_rfl) (fun _ _ _ h => h) (Or.inl ⟨by rfl, ?_⟩) hHeld ?_
    rotate_left
    · rintro w ⟨hS1, hS2, hS3⟩
      first | (go_simp; done) | (go_simp; with_reducible rfl)
    try simp only [Act.put, List.getElem_toArray, List.getElem_cons_zero, List.getElem_cons_succ, List.setIfInBounds_toArray, List.set_cons_zero, List.set_cons_succ]
    refine wpAnyH_take (i := 12) (v := ?_) rfl (by kernel_rfl) (by kernel_rfl) (by kernel_rfl) (fun _ _ _ h => h) (Or.inl ⟨by rfl, ?_⟩) hHeld ?_
    rotate_left
    · rintro w ⟨hS1, hS2, hS3⟩
      first | (go_simp; done) | (go_simp; with_reducible rfl)
    try simp only [Act.put, List.getElem_toArray, List.getElem_cons_zero, List.getElem_cons_succ, List.setIfInBounds_toArray, List.set_cons_zero, List.set_cons_succ]
    refine wpAnyH_take (i := 13) (v := ?_) rfl (by kernel_rfl) (by kernel_rfl) (by kernel_rfl) (fun _ _ _ h => h) (Or.inl ⟨by rfl, ?_⟩) hHeld ?_
    rotate_left
    · rintro w ⟨hS1, hS2, hS3⟩
      first | (go_simp; done) | (go_simp; with_reducible rfl)
    try simp only [Act.put, List.getElem_toArray, List.getElem_cons_zero, List.getElem_cons_succ, List.setIfInBounds_toArray, List.set_cons_zero, List.set_cons_succ]
    refine wpAnyH_take (i := 14) (v := ?_) rfl (by kernel_rfl) (by kernel_rfl) (by kernel_rfl) (fun _ _ _ h => h) (Or.inl ⟨by rfl, ?_⟩) hHeld ?_
    rotate_left
    · rintro w ⟨hS1, hS2, hS3⟩
      first | (go_simp; done) | (go_simp; with_reducible rfl)
    try simp only [Act.put, List.getElem_toArray, List.getElem_cons_zero, List.getElem_cons_succ, List.setIfInBounds_toArray, List.set_cons_zero, List.set_cons_succ]
    refine wpAnyH_take (i := 15) (v := ?_) rfl (by kernel_rfl) (by kernel_rfl) (by kernel_rfl) (fun _ _ _ h => h) (Or.inl ⟨by rfl, ?_⟩) hHeld ?_
    rotate_left
    · rintro w ⟨hS1, hS2, hS3⟩
      first | (go_simp; done) | (go_simp; with_reducible rfl)
    try simp only [Act.put, List.getElem_toArray, List.getElem_cons_zero, List.getElem_cons_succ, List.setIfInBounds_toArray, List.set_cons_zero, List.set_cons_succ]
    refine wpAnyH_take (i := 16) (v := ?_) rfl (by kernel_rfl) (by kernel_rfl) (by kernel_rfl) (fun _ _ _ h => h) (Or.inl ⟨by rfl, ?_⟩) hHeld ?_
    rotate_left
    · rintro w ⟨hS1, hS2, hS3⟩
      first | (go_simp; done) | (go_simp; with_reducible rfl)
    try simp only [Act.put, List.getElem_toArray, List.getElem_cons_zero, List.getElem_cons_succ, List.setIfInBounds_toArray, List.set_cons_zero, List.set_cons_succ]
    refine wpAnyH_take (i := 17) (v := ?_) rfl (by kernel_rfl) (by kernel_rfl) (by kernel_rfl) (fun _ _ _ h => h) (Or.inl ⟨by rfl, ?_⟩) hHeld ?_
    rotate_left
    · rintro w ⟨hS1, hS2, hS3⟩
      first | (go_simp; done) | (go_simp; with_reducible rfl)
    try simp only [Act.put, List.getElem_toArray, List.getElem_cons_zero, List.getElem_cons_succ, List.setIfInBounds_toArray, List.set_cons_zero, List.set_cons_succ]
    refine wpAnyH_take (i := 19) (v := ?_) rfl (by kernel_rfl) (by kernel_rfl) (by kernel_rfl) (fun _ _ _ h => h) (Or.inl ⟨by rfl, ?_⟩) hHeld ?_
    rotate_left
    · rintro w ⟨hS1, hS2, hS3⟩
      first | (go_simp; done) | (go_simp; with_reducible rfl)
    try simp only [Act.put, List.getElem_toArray, List.getElem_cons_zero, List.getElem_cons_succ, List.setIfInBounds_toArray, List.set_cons_zero, List.set_cons_succ]
    refine wpAnyH_take (i := 20) (v := ?_) rfl (by kernel_rfl) (by kernel_rfl) (by kernel_rfl) (fun _ _ _ h => h) (Or.inl ⟨by rfl, ?_⟩) hHeld ?_
    rotate_left
    · rintro w ⟨hS1, hS2, hS3⟩
      first | (go_simp; done) | (go_simp; with_reducible rfl)
    try simp only [Act.put, List.getElem_toArray, List.getElem_cons_zero, List.getElem_cons_succ, List.setIfInBounds_toArray, List.set_cons_zero, List.set_cons_succ]
    refine wpAnyH_ready (rs := [7]) (by kernel_rfl) (by simp) ?_
    refine AllReadyH.cons rfl (fun K hK => ?_) AllReadyH.nil
    go_simp
    go_at_call 9
    refine (HFAR.out _).mono ?_
    rintro e w5 ⟨rfl, rfl⟩
    refine hK.out _ _ hHeld (fun hHeld2 => ?_)
    clear hHeld hK K
    have hHeld := hHeld2
    clear hHeld2
    try simp only [Act.put, List.getElem_toArray, List.getElem_cons_zero, List.getElem_cons_succ, List.setIfInBounds_toArray, List.set_cons_zero, List.set_cons_succ]
    refine wpAnyH_ready (rs := [10]) (by kernel_rfl) (by simp) ?_
    refine AllReadyH.cons rfl (fun K hK => ?_) AllReadyH.nil
    go_simp
    go_at_call 20
    refine (HA.out).mono ?_
    rintro e w2 ⟨rfl, x, ρ', hw2, ht2, ho2, hlc⟩
    have HLC := Lib.hid hlc
    have HW2 := Lib.hid (And.intro hw2 (And.intro ht2 ho2))
    have hk2 := hHeld.wt ht2 HNO.out.1 HNO.out.2.2
    clear hw2 ht2 ho2 hlc
    refine hK.out _ _ hk2 (fun hHeld2 => ?_)
    clear hHeld hK K
    have hHeld := hHeld2
    clear hHeld2
    try simp only [Act.put, List.getElem_toArray, List.getElem_cons_zero, List.getElem_cons_succ, List.setIfInBounds_toArray, List.set_cons_zero, List.set_cons_succ]
    refine wpAnyH_ready (rs := [18]) (by kernel_rfl) (by simp) ?_
    refine AllReadyH.cons rfl (fun K hK => ?_) AllReadyH.nil
    go_simp
    go_at_call 9
    refine (HFAR.out _).mono ?_
    rintro e w5 ⟨rfl, rfl⟩
    refine hK.out _ _ hHeld (fun hHeld2 => ?_)
    clear hHeld hK K
    have hHeld := hHeld2
    clear hHeld2
    try simp only [Act.put, List.getElem_toArray, List.getElem_cons_zero, List.getElem_cons_succ, List.setIfInBounds_toArray, List.set_cons_zero, List.set_cons_succ]
    refine wpAnyH_ready (rs := [21]) (by kernel_rfl) (by simp) ?_
    refine AllReadyH.cons rfl (fun K hK => ?_) AllReadyH.nil
    go_simp
    go_at_call 25
    refine (HLC.out).mono ?_
    rintro e w3 ⟨rfl, v', hs3, hl3⟩
    have hk3 : BoxS w.heap.size lb T a q w3 := ⟨hs3.1.cell HNO.out.2.1 hHeld.1, hs3.1.cell HNO.out.2.1 hHeld.2.1, hl3.t⟩
    have HL3 := Lib.hid (And.intro hl3 hs3)
    clear hl3 hs3
    refine hK.out _ _ hk3 (fun hHeld2 => ?_)
    clear hHeld hK K
    have hHeld := hHeld2
    clear hHeld2
    try simp only [Act.put, List.getElem_toArray, List.getElem_cons_zero, List.getElem_cons_succ, List.setIfInBounds_toArray, List.set_cons_zero, List.set_cons_succ]
    refine wpAnyH_take (i := 22) (v := ?_) rfl (by kernel_rfl) (by kernel_rfl) (by kernel_rfl) (fun _ _ _ h => h) (Or.inl ⟨by rfl, ?_⟩) hHeld ?_
    rotate_left
    · rintro w ⟨hS1, hS2, hS3⟩
      first | (go_simp; done) | (go_simp; with_reducible rfl)
    try simp only [Act.put, List.getElem_toArray, List.getElem_cons_zero, List.getElem_cons_succ, List.setIfInBounds_toArray, List.set_cons_zero, List.set_cons_succ]
    refine wpAnyH_take (i := 23) (v := ?_) rfl (by kernel_rfl) (by kernel_rfl) (by kernel_rfl) (fun _ _ _ h => h) (Or.inl ⟨by rfl, ?_⟩) hHeld ?_
    rotate_left
    · rintro w ⟨hS1, hS2, hS3⟩
      first | (go_simp; done) | (go_simp; with_reducible rfl)
    try simp only [Act.put, List.getElem_toArray, List.getElem_cons_zero, List.getElem_cons_succ, List.setIfInBounds_toArray, List.set_cons_zero, List.set_cons_succ]
    refine wpAnyH_done (by kernel_rfl) ?_ _
    go_wp2_with fail
    go_ret
    obtain ⟨hj3, hx3⟩ := HJ1.out.step HW2.out.1 HW2.out.2.1 HW2.out.2.2 HL3.out.1 HL3.out.2
    exact ⟨rfl, _, _, _, _, _, hj3, by omega, by simp, HBE.out.trans (HJ1.out.below HS1.out hx3)⟩
end
end Go.Proofs.Ytcgchccppoignaa
