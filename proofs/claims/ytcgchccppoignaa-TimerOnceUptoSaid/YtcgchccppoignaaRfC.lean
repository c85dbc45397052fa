/- Timer: the reference's Add. -/
import Derived.Test.YtcgchccppoignaaRfB
namespace Go.Proofs.Ytcgchccppoignaa
open Go.RowKit
attribute [local go_sem ↓] Go.wp_at_zero Go.wp_at_succ
attribute [local go_sem] Go.undef

theorem placeT_any {L : List Tm} {q : Int} : (L.any (fun x => x.id == q) = false → placeT L q = -1) ∧ (L.any (fun x => x.id == q) = true → 0 ≤ placeT L q) := by
  constructor
  · intro h
    refine placeT_none fun i y hy e => ?_
    have := List.any_eq_false.1 h y (List.mem_of_getElem? hy)
    simp [e] at this
  · intro h
    unfold placeT
    cases hf : L.findIdx? (fun x => x.id == q) with
    | some k => simp
    | none =>
      rw [List.findIdx?_eq_none_iff] at hf
      obtain ⟨x, hx, he⟩ := List.any_eq_true.1 h
      rw [hf x hx] at he
      cases he
def LStep (w : World) (lb : Nat) (v v' : Value) (w' : World) : Prop := WT (OwnL lb v) w w' ∧ ∀ g, v'.ownBlock = some g → v.ownBlock = some g ∨ w.heap.size ≤ g
section
variable {w w5 : World} {B lb T : Nat} {L : List Tm} {v : Value}
theorem LStep.refl (w : World) (lb : Nat) (v : Value) : LStep w lb v v w := ⟨WT.refl _ _, fun _ h => .inl h⟩
theorem LStep.drewN (w : World) (lb : Nat) (v : Value) (n : Nat) : LStep w lb v v (w.drewN n) := ⟨WT.drewN _ _, fun _ h => .inl h⟩
theorem LStep.trans {w' w'' : World} {v' v'' : Value} (h : LStep w lb v v' w') (h' : LStep w' lb v' v'' w'') : LStep w lb v v'' w'' := by
  refine ⟨h.1.trans h'.1 fun g hg => ?_, fun g hg => ?_⟩
  · rcases hg with rfl | hg
    · exact .inl (.inl rfl)
    · rcases h.2 g hg with h2 | h2
      · exact .inl (.inr h2)
      · exact .inr h2
  · rcases h'.2 g hg with h2 | h2
    · exact h.2 g h2
    · exact .inr (Nat.le_trans h.1.size h2)
theorem IsL.setRow {v' : Value} {L' : List Tm} (h : IsL w B lb T L v) (hs : LStep w lb v v' w5) (hc : w5.cell? ⟨lb, 0, none⟩ = some (.int .i64 T)) (hc1 : ∃ u, w5.cell? ⟨lb, 1, none⟩ = some u) (hf : w5.frozen? ⟨lb, 0, none⟩ = false ∧ w5.frozen? ⟨lb, 1, none⟩ = false) (hown : w5.ownsRow B 45 2 v' L'.length (fcs L')) :
    IsL (w5.setCell ⟨lb, 1, none⟩ v') B lb T L' v' ∧ LStep w lb v v' (w5.setCell ⟨lb, 1, none⟩ v') := by
  have hne : v'.ownBlock ≠ some lb := fun e => by
    rcases hs.2 lb e with h2 | h2
    · exact h.ne h2
    · have := cell_lt h.t; omega
  obtain ⟨u, hc1⟩ := hc1
  refine ⟨⟨(World.cell?_setCell_other _ _ _ _ fun e => by have := congrArg Addr.off e; simp at this).trans hc, (World.frozen?_setCell _ _ _ _).trans hf.1, World.cell?_setCell_same _ _ _ hc1, (World.frozen?_setCell _ _ _ _).trans hf.2,
    own_keep hown fun g hg => RowKit.Below.heap_setCell _ _ _ _ fun e => hne (by rw [← show g = lb from e]; exact hg), hne, h.lo⟩, hs.1.trans (WT.set w5 (W := fun g => g = lb) rfl v') fun g hg => .inl (.inl hg), hs.2⟩
theorem IsL.grown {ob : Obj} {g5 cap5 n5 : Nat} (h : IsL w B lb T L v) (hgrow : (w.alloc ob).grownBy w5 v.ownBlock) (hat : v.ownBlock = some g5 ∨ g5 = w.heap.size + 1) :
    LStep w lb v (.slice (some ⟨g5, 0, none⟩) n5 cap5) w5 ∧ w5.cell? ⟨lb, 0, none⟩ = some (.int .i64 T) ∧ w5.cell? ⟨lb, 1, none⟩ = some v ∧ w5.frozen? ⟨lb, 0, none⟩ = false ∧ w5.frozen? ⟨lb, 1, none⟩ = false := by
  have hlt := cell_lt h.t
  refine ⟨⟨(WT.of_below (W := fun _ => False) ((Below.refl w.heap.size w).alloc (Nat.le_refl _) ob)).more (fun _ h => h.elim) |>.trans (WT.of_grown hgrow (W := fun g => v.ownBlock = some g) fun g hg => hg) fun g hg => .inl (.inr hg), fun g hg => ?_⟩, ?_, ?_, ?_, ?_⟩
  · have e : g5 = g := by simpa [Value.ownBlock] using hg
    subst e
    rcases hat with h2 | h2
    · exact .inl h2
    · exact .inr (by omega)
  · exact (far_cell hgrow hlt h.ne).trans h.t
  · exact (far_cell hgrow hlt h.ne).trans h.l
  · exact (far_free hgrow hlt h.ne).trans h.ft
  · exact (far_free hgrow hlt h.ne).trans h.fl
def LAddPost (w : World) (B lb T : Nat) (L : List Tm) (v : Value) (a q : Int) (e : Ending) (w' : World) : Prop :=
  (addB T L a q = false ∧ e = .returned (.bool false) ∧ w = w') ∨
  (addB T L a q = true ∧ e = .returned (.bool true) ∧ ∃ v', LStep w lb v v' w' ∧ ∀ x : Tm, (x.at_ : Int) = atF T a → x.id = q → IsL w' B lb T (L ++ [x]) v')
set_option maxRecDepth 100000 in
set_option maxHeartbeats 8000000 in
theorem ladd_any (h : IsL w B lb T L v) (hT : T ≤ MT) (hL : L.length < 8796093022208) (hB : B ≤ w.heap.size) (a q : Int) :
    Calls Try.prog 25 #[pt lb 0, .int .i64 a, .int .i64 q] w (LAddPost w B lb T L v a q) := by
  obtain ⟨iF, hiF, hzF, hzF1, hzF2⟩ := info_parts infoF
  have HPL := Lib.hid (lplace_any h q (Nat.le_of_lt hL))
  have c1 := h.t
  have c2 := h.l
  have H := Lib.hid h
  have HL := Lib.hid hL
  obtain ⟨av, cv, rfl, -, -⟩ := h.form
  unfold MT at hT
  clear h hL
  go_enter Try.func25, Try.ntmps25
  by_cases hle : a ≤ T
  · have hat : atF T a = (T : Int) + 1 := if_pos hle
    have HAT := Lib.hid hat
    clear hat
    by_cases hmt : (T : Int) + 1 ≤ 1099511627776
    · have hmd : decide ((1099511627776 : Int) < (T : Int) + 1) = false := decide_eq_false (by omega)
      have HMT := Lib.hid hmt
      clear hmt
      cases hany : L.any (fun x => x.id == q) with
      | true =>
        have HNO : Hid (addB T L a q = false) := by show addB T L a q = false; simp [addB, hany]
        have hp := placeT_any.2 hany
        go_wp2_with fail
        refine HPL.out.mono ?_
        rintro e w1 ⟨rfl, rfl⟩
        generalize placeT L q = pk at hp ⊢
        have hpd : decide ((0 : Int) ≤ pk) = true := decide_eq_true hp
        clear hp
        go_wp2_with fail
        go_ret
        exact .inl ⟨HNO.out, rfl, rfl⟩
      | false =>
        have HYES : Hid (addB T L a q = true) := by show addB T L a q = true; simp only [addB, hany, HAT.out, MT]; simpa using HMT.out
        have hp := placeT_any.1 hany
        rw [hp] at HPL
        obtain ⟨t, ht⟩ : ∃ t : Nat, (t : Int) = (T : Int) + 1 := ⟨((T : Int) + 1).toNat, by have := HMT.out; omega⟩
        have HT := Lib.hid ht
        have hsz : B ≤ (w.alloc (.cells #[.int .i64 ((T : Int) + 1), .int .i64 q] 45)).heap.size := by simp; omega
        have HQ : Hid (L.length + 1 ≤ maxLen ∧ (L.length + 1) * 16 ≤ 140737488355328) := by show _ ∧ _; have := HL.out; unfold maxLen; omega
        have HNEWS : Hid (∀ j u, ([.int .i64 ((T : Int) + 1), .int .i64 q] : List Value)[j]? = some u → (w.alloc (.cells #[.int .i64 ((T : Int) + 1), .int .i64 q] 45)).cell? ((⟨w.heap.size, 0, none⟩ : Addr).add j) = some u) := World.news_of_block (cs := #[.int .i64 ((T : Int) + 1), .int .i64 q]) (t := 45) (fr := (0, 0)) (heap_alloc_new w _)
        clear hany hp ht
        go_wp2_with fail
        refine HPL.out.mono ?_
        rintro e w1 ⟨rfl, rfl⟩
        go_wp2_with (at_builtin; refine wpList_append_lies _ rfl _ _ 26 rfl B 45 iF _ 2 16 Try.underlying26 hiF hzF hzF1 hzF2 rfl (by decide) (.slice av L.length cv) L.length (fcs L) rfl (H.out.row.alloc _) ⟨w.heap.size, 0, none⟩ 1 1 [.int .i64 ((T : Int) + 1), .int .i64 q] rfl rfl HNEWS.out (by simp [Value.oneCell']) Nat.one_pos HQ.out.1 HQ.out.2 hsz (w.heap.size + 1) (by simp) ?_
                     intro g5 cap5 w5 hown5 hgrow hat5 hlt5
                     obtain ⟨hst, e0, e1, f0, f1⟩ := H.out.grown (n5 := L.length + 1) (cap5 := cap5) hgrow hat5
                     have HST := Lib.hid hst
                     have HOW := Lib.hid hown5
                     have HE0 := Lib.hid (And.intro e0 (And.intro e1 (And.intro f0 f1)))
                     clear hown5 hgrow hat5 hlt5 hst e0 f0)
        go_wp2_with fail
        go_ret
        refine .inr ⟨HYES.out, rfl, _, (H.out.setRow (L' := L ++ [⟨0, t, 0, q⟩]) HST.out HE0.out.1 ⟨_, HE0.out.2.1⟩ HE0.out.2.2 (by rw [List.length_append, fcs_snoc]; rw [← HT.out] at HOW; exact HOW.out)).2, fun x hxa hxi => ?_⟩
        exact (H.out.setRow HST.out HE0.out.1 ⟨_, HE0.out.2.1⟩ HE0.out.2.2 (by rw [List.length_append, fcs_snoc, hxa, hxi, HAT.out]; exact HOW.out)).1
    · have HNO : Hid (addB T L a q = false) := by show addB T L a q = false; simp only [addB, HAT.out, MT]; simp; intro _; omega
      have hmd : decide ((1099511627776 : Int) < (T : Int) + 1) = true := decide_eq_true (by omega)
      clear hmt HPL
      go_wp2_with fail
      go_ret
      exact .inl ⟨HNO.out, rfl, rfl⟩
  · have hat : atF T a = a := if_neg hle
    have HAT := Lib.hid hat
    clear hat
    by_cases hmt : a ≤ 1099511627776
    · have hmd : decide ((1099511627776 : Int) < a) = false := decide_eq_false (by omega)
      have HMT := Lib.hid hmt
      clear hmt
      cases hany : L.any (fun x => x.id == q) with
      | true =>
        have HNO : Hid (addB T L a q = false) := by show addB T L a q = false; simp [addB, hany]
        have hp := placeT_any.2 hany
        go_wp2_with fail
        refine HPL.out.mono ?_
        rintro e w1 ⟨rfl, rfl⟩
        generalize placeT L q = pk at hp ⊢
        have hpd : decide ((0 : Int) ≤ pk) = true := decide_eq_true hp
        clear hp
        go_wp2_with fail
        go_ret
        exact .inl ⟨HNO.out, rfl, rfl⟩
      | false =>
        have HYES : Hid (addB T L a q = true) := by show addB T L a q = true; simp only [addB, hany, HAT.out, MT]; simpa using HMT.out
        have hp := placeT_any.1 hany
        rw [hp] at HPL
        obtain ⟨t, ht⟩ : ∃ t : Nat, (t : Int) = a := ⟨(a).toNat, by have := HMT.out; omega⟩
        have HT := Lib.hid ht
        have hsz : B ≤ (w.alloc (.cells #[.int .i64 (a), .int .i64 q] 45)).heap.size := by simp; omega
        have HQ : Hid (L.length + 1 ≤ maxLen ∧ (L.length + 1) * 16 ≤ 140737488355328) := by show _ ∧ _; have := HL.out; unfold maxLen; omega
        have HNEWS : Hid (∀ j u, ([.int .i64 (a), .int .i64 q] : List Value)[j]? = some u → (w.alloc (.cells #[.int .i64 (a), .int .i64 q] 45)).cell? ((⟨w.heap.size, 0, none⟩ : Addr).add j) = some u) := World.news_of_block (cs := #[.int .i64 (a), .int .i64 q]) (t := 45) (fr := (0, 0)) (heap_alloc_new w _)
        clear hany hp ht
        go_wp2_with fail
        refine HPL.out.mono ?_
        rintro e w1 ⟨rfl, rfl⟩
        go_wp2_with (at_builtin; refine wpList_append_lies _ rfl _ _ 26 rfl B 45 iF _ 2 16 Try.underlying26 hiF hzF hzF1 hzF2 rfl (by decide) (.slice av L.length cv) L.length (fcs L) rfl (H.out.row.alloc _) ⟨w.heap.size, 0, none⟩ 1 1 [.int .i64 (a), .int .i64 q] rfl rfl HNEWS.out (by simp [Value.oneCell']) Nat.one_pos HQ.out.1 HQ.out.2 hsz (w.heap.size + 1) (by simp) ?_
                     intro g5 cap5 w5 hown5 hgrow hat5 hlt5
                     obtain ⟨hst, e0, e1, f0, f1⟩ := H.out.grown (n5 := L.length + 1) (cap5 := cap5) hgrow hat5
                     have HST := Lib.hid hst
                     have HOW := Lib.hid hown5
                     have HE0 := Lib.hid (And.intro e0 (And.intro e1 (And.intro f0 f1)))
                     clear hown5 hgrow hat5 hlt5 hst e0 f0)
        go_wp2_with fail
        go_ret
        refine .inr ⟨HYES.out, rfl, _, (H.out.setRow (L' := L ++ [⟨0, t, 0, q⟩]) HST.out HE0.out.1 ⟨_, HE0.out.2.1⟩ HE0.out.2.2 (by rw [List.length_append, fcs_snoc]; rw [← HT.out] at HOW; exact HOW.out)).2, fun x hxa hxi => ?_⟩
        exact (H.out.setRow HST.out HE0.out.1 ⟨_, HE0.out.2.1⟩ HE0.out.2.2 (by rw [List.length_append, fcs_snoc, hxa, hxi, HAT.out]; exact HOW.out)).1
    · have HNO : Hid (addB T L a q = false) := by show addB T L a q = false; simp only [addB, HAT.out, MT]; simp; intro _; omega
      have hmd : decide ((1099511627776 : Int) < a) = true := decide_eq_true (by omega)
      clear hmt HPL
      go_wp2_with fail
      go_ret
      exact .inl ⟨HNO.out, rfl, rfl⟩
end
end Go.Proofs.Ytcgchccppoignaa
