/- Timer: the reference's out, Cancel. -/
import Derived.Test.YtcgchccppoignaaRfC
namespace Go.Proofs.Ytcgchccppoignaa
open Go.RowKit
attribute [local go_sem ↓] Go.wp_at_zero Go.wp_at_succ
attribute [local go_sem] Go.undef

theorem fcs_len (l : List Tm) : (fcs l).length = 2 * l.length := by
  induction l with
  | nil => rfl
  | cons a r ih => rw [show a :: r = [a] ++ r from rfl, fcs_append, List.length_append, ih]; simp [fcs]; omega
theorem fcs_one (l : List Tm) : ∀ u ∈ fcs l, u.oneCell' = true := by
  intro u hu
  obtain ⟨c, hc, hu⟩ := List.mem_flatten.1 hu
  obtain ⟨x, -, rfl⟩ := List.mem_map.1 hc
  simp at hu
  rcases hu with rfl | rfl <;> rfl
theorem fcs_at {L : List Tm} {k : Nat} {x : Tm} (hx : L[k]? = some x) : (fcs L)[k * 2]? = some (.int .i64 x.at_) ∧ (fcs L)[k * 2 + 1]? = some (.int .i64 x.id) := by
  have key := flat_get (css := L.map fun x : Tm => [Value.int .i64 x.at_, Value.int .i64 x.id]) (sz := 2) (fun c hc => by obtain ⟨y, -, rfl⟩ := List.mem_map.1 hc; rfl) (j := k) (cs := [.int .i64 x.at_, .int .i64 x.id]) (by simp [hx])
  exact ⟨key 0 _ rfl, key 1 _ rfl⟩
theorem fcs_get {L : List Tm} {k j : Nat} {u : Value} (h : (fcs (L.drop k))[j]? = some u) : (fcs L)[k * 2 + j]? = some u := by
  have e : fcs L = fcs (L.take k) ++ fcs (L.drop k) := by rw [← fcs_append, List.take_append_drop]
  by_cases hk : k ≤ L.length
  · have hl : (fcs (L.take k)).length = k * 2 := by rw [fcs_len, List.length_take]; omega
    rw [e, List.getElem?_append_right (by omega), hl, show k * 2 + j - k * 2 = j by omega]
    exact h
  · rw [List.drop_eq_nil_of_le (by omega)] at h
    simp [fcs] at h
theorem fcs_pre {L : List Tm} {k j : Nat} {u : Value} (h : (fcs (L.take k))[j]? = some u) : (fcs L)[j]? = some u := by
  have e : fcs L = fcs (L.take k) ++ fcs (L.drop k) := by rw [← fcs_append, List.take_append_drop]
  rw [e, List.getElem?_append_left (List.getElem?_eq_some_iff.1 h).1]
  exact h
theorem erase_split {L : List Tm} {k : Nat} (hk : k < L.length) : fcs (L.take k) ++ fcs (L.drop (k + 1)) = fcs (L.eraseIdx k) ∧ (L.eraseIdx k).length = k + (L.length - (k + 1)) := by
  rw [← fcs_append, ← List.eraseIdx_eq_take_drop_succ, List.length_eraseIdx, if_pos hk]
  exact ⟨rfl, by omega⟩
theorem sizeFd : (Try.prog.info? 45).map (·.size) = some 2 := by kernel_rfl
theorem blk_range2 {w : World} {g : Nat} {t : TypeId} {a b : Value} (h : Blk w g t #[a, b]) : w.rangeAt g 0 [a, b] := by
  intro j v hv
  match j, hv with
  | 0, hv => rw [Nat.zero_add]; exact (h.cell 0).trans (by simpa using hv)
  | 1, hv => exact (h.cell 1).trans (by simpa using hv)
theorem resC {P : Program} {w : World} {fn : Func} {tmps : Array Value} {a g : Nat} {t : TypeId} {v : Value} (hr : fn.results = #[.cell a t]) (ha : tmps.getD a undef = .pointer (some ⟨g, 0, none⟩)) (hl : (loadVar t ⟨g, 0, none⟩).run P w = .ok v w) : (results fn tmps).run P w = .ok v w := by
  rw [Array.getD_eq_getD_getElem?] at ha
  simp [results, hr, ha, asAddr, hl]
section
variable {w : World} {B lb T : Nat} {L : List Tm} {v : Value}
/-- All cells. -/
theorem IsL.cells (h : IsL w B lb T L v) (h0 : 0 < L.length) : ∃ g c, v = .slice (some ⟨g, 0, none⟩) L.length c ∧ L.length ≤ c ∧ c ≤ 9223372036854775807 ∧ g < w.heap.size ∧ ∀ j u, (fcs L)[j]? = some u → w.cell? ⟨g, j, none⟩ = some u := by
  obtain ⟨g, c, rfl, -, hlt⟩ := h.row.form h0
  have h1 := h.row.cells (g := g) rfl
  obtain ⟨a, c', e, hc1, hc2⟩ := h.form
  injection e with _ _ e3
  subst e3
  exact ⟨g, c, rfl, hc1, hc2, hlt, fun j u hu => by have := h1 j u hu; rw [Addr.add_mid] at this; simpa using this⟩
set_option maxRecDepth 100000 in
set_option maxHeartbeats 8000000 in
theorem lout_any (h : IsL w B lb T L v) (k : Nat) (x : Tm) (hx : L[k]? = some x) (hL : L.length ≤ 8796093022208) (hB : B ≤ w.heap.size) :
    Calls Try.prog 34 #[pt lb 0, .int .i64 k] w fun e w' => ∃ v', e = .returned (.agg #[.int .i64 x.at_, .int .i64 x.id]) ∧ IsL w' B lb T (L.eraseIdx k) v' ∧ LStep w lb v v' w' := by
  obtain ⟨iF, hiF, hzF, hzF1, hzF2⟩ := info_parts infoF
  have hk := (List.getElem?_eq_some_iff.1 hx).1
  obtain ⟨g, c, rfl, hc1, hc2, hg, hcell⟩ := h.cells (by omega)
  have d1 : w.cell? ⟨g, k * 2, none⟩ = some (.int .i64 x.at_) := hcell _ _ (fcs_at hx).1
  have d2 : w.cell? ⟨g, k * 2 + 1, none⟩ = some (.int .i64 x.id) := hcell _ _ (fcs_at hx).2
  have c1 := h.l
  have hlb := cell_lt h.t
  have H := Lib.hid h
  have HX := Lib.hid hx
  have HC := Lib.hid hcell
  clear h hx hcell
  go_enter Try.func34, Try.ntmps34
  go_upto_region 3 with fail
  obtain ⟨w1, hw1⟩ : ∃ w1, w1 = ((w.alloc (.cells #[.int .i64 0, .int .i64 0] 45)).alloc (.cells #[.int .i64 x.at_, .int .i64 x.id] 45)) := ⟨_, rfl⟩
  have hb1 : Below w.heap.size w w1 := by rw [hw1]; exact ((Below.refl _ _).alloc (Nat.le_refl _) _).alloc (by simp) _
  have hr1 : Blk w1 w.heap.size 45 #[.int .i64 0, .int .i64 0] := by rw [hw1]; exact (Blk.new _ _ _).alloc _
  have hr2 : Blk w1 (w.heap.size + 1) 45 #[.int .i64 x.at_, .int .i64 x.id] := by rw [hw1]; exact Blk.new' _ _ _ (by simp)
  have hs1 : w1.heap.size = w.heap.size + 2 := by rw [hw1]; simp
  rw [← hw1]
  have HB1 := Lib.hid hb1
  have HR1 := Lib.hid hr1
  have HR2 := Lib.hid hr2
  have HS1 := Lib.hid hs1
  have c1' : w1.cell? ⟨lb, 1, none⟩ = some (.slice (some ⟨g, 0, none⟩) L.length c) := cell_over hb1 hlb c1
  have HC1 : Hid (∀ j u, (fcs L)[j]? = some u → w1.cell? ⟨g, j, none⟩ = some u) := fun j u hu => cell_over hb1 hg (HC.out j u hu)
  have HK := Lib.hid (And.intro hk hL)
  clear hw1 hb1 hr1 hr2 hs1 c1 d1 d2
  have HN1 : Hid (∀ ad : Addr, (some ⟨g, 0, none⟩ : Option Addr) = some ad → ∀ j u, (fcs (L.take k))[j]? = some u → w1.cell? (ad.add j) = some u) := fun ad had j u hu => by
    injection had with had
    subst had
    rw [Addr.add_mid, Nat.zero_add]
    exact HC1.out j u (fcs_pre hu)
  have HL1 : Hid ((fcs (L.take k)).length = k * 2 ∧ 0 + k ≤ maxLen ∧ (0 + k + (0 + k) / 4 + 192) * 16 ≤ 281474976710656) := by
    refine ⟨by rw [fcs_len, List.length_take]; omega, by unfold maxLen; omega, by omega⟩
  have HL2 : Hid ((fcs (L.drop (k + 1))).length = (L.length - (k + 1)) * 2 ∧ k + (L.length - (k + 1)) ≤ maxLen ∧ (k + (L.length - (k + 1)) + (k + (L.length - (k + 1))) / 4 + 192) * 16 ≤ 281474976710656) := by
    refine ⟨by rw [fcs_len, List.length_drop]; omega, by unfold maxLen; omega, by omega⟩
  go_upto_region 4 with (at_builtin; refine wpList_append_any _ rfl _ _ 26 rfl w1.heap.size 45 iF _ 2 16 Try.underlying26 hiF hzF hzF1 hzF2 rfl (by decide) (.slice none 0 0) 0 [] rfl (World.ownsRow_nil _ _ _ _) (some ⟨g, 0, none⟩) k c (fcs (L.take k)) rfl (fun _ => rfl) HL1.out.1 HN1.out (fcs_one _) HL1.out.2.1 HL1.out.2.2 (Nat.le_refl _) ?_; intro v1 w2 hown2 hgr2; have HO2 := Lib.hid hown2; have HG2 := Lib.hid hgr2; clear hown2 hgr2)
  have hb2 : Below w1.heap.size w1 w2 := (Below.refl _ _).grown HG2.out (Nat.le_refl _) (fun q hq => by simp [Value.ownBlock] at hq)
  have hlb1 : lb < w1.heap.size := Nat.lt_of_lt_of_le hlb HB1.out.size
  have hg1 : g < w1.heap.size := Nat.lt_of_lt_of_le hg HB1.out.size
  have c2' : w2.cell? ⟨lb, 1, none⟩ = some (.slice (some ⟨g, 0, none⟩) L.length c) := cell_over hb2 hlb1 c1'
  have HC2 : Hid (∀ j u, (fcs L)[j]? = some u → w2.cell? ⟨g, j, none⟩ = some u) := fun j u hu => cell_over hb2 hg1 (HC1.out j u hu)
  have HB2 := Lib.hid hb2
  clear hb2 c1'
  obtain ⟨ad, had, hsrc⟩ : ∃ ad : Addr, (if c = k + 1 then some (⟨g, 0, none⟩ : Addr) else some ⟨g, (k + 1) * 2, none⟩) = some ad ∧ Hid (∀ j u, (fcs (L.drop (k + 1)))[j]? = some u → w2.cell? (ad.add j) = some u) := by
    by_cases e : c = k + 1
    · rw [if_pos e]
      refine ⟨_, rfl, fun j u hu => ?_⟩
      rw [List.drop_eq_nil_of_le (by omega)] at hu
      simp [fcs] at hu
    · rw [if_neg e]
      refine ⟨_, rfl, fun j u hu => ?_⟩
      rw [Addr.add_mid]
      exact HC2.out _ _ (fcs_get hu)
  have HN2 : Hid (∀ ad' : Addr, (some ad : Option Addr) = some ad' → ∀ j u, (fcs (L.drop (k + 1)))[j]? = some u → w2.cell? (ad'.add j) = some u) := fun ad' h j u hu => by
    injection h with h
    subst h
    exact hsrc.out j u hu
  have hkc : k ≤ c := by omega
  have hk0 : (0 : Int) ≤ (k : Int) := by omega
  have hk1 : (0 : Int) ≤ (k : Int) + 1 := by omega
  have hk2 : (k : Int) + 1 ≤ (L.length : Int) := by omega
  obtain ⟨g2, c2, hv1⟩ := own_len HO2.out
  have HO2' : Hid (w2.ownsRow w1.heap.size 45 2 v1 k (fcs (L.take k))) := by have := HO2.out; rw [List.nil_append, Nat.zero_add] at this; exact this
  have HF : Hid (w2.frozen? ⟨lb, 0, none⟩ = false ∧ w2.frozen? ⟨lb, 1, none⟩ = false ∧ w2.cell? ⟨lb, 0, none⟩ = some (.int .i64 T)) :=
    ⟨free_over HB2.out hlb1 (free_over HB1.out hlb H.out.ft), free_over HB2.out hlb1 (free_over HB1.out hlb H.out.fl), cell_over HB2.out hlb1 (cell_over HB1.out hlb H.out.t)⟩
  have hs2 : w1.heap.size ≤ w2.heap.size := HB2.out.size
  have HCL : Hid (w1.cell? ⟨lb, 1, none⟩ = some (.slice (some ⟨g, 0, none⟩) L.length c)) := cell_over HB1.out hlb H.out.l
  clear hsrc hv1 g2 c2
  go_upto_region 5 with (at_builtin; refine wpList_append_any _ rfl _ _ 26 rfl w1.heap.size 45 iF _ 2 16 Try.underlying26 hiF hzF hzF1 hzF2 rfl (by decide) v1 k (fcs (L.take k)) rfl HO2'.out (some ad) (L.length - (k + 1)) (c - (k + 1)) (fcs (L.drop (k + 1))) rfl (fun _ => rfl) HL2.out.1 HN2.out (fcs_one _) HL2.out.2.1 HL2.out.2.2 hs2 ?_
                         intro v2 w3 hown3 hgr3
                         obtain ⟨a3, c3, rfl⟩ := own_len hown3
                         have hb3 : Below w1.heap.size w1 w3 := HB2.out.grown hgr3 hs2 (fun q hq => row_past HO2'.out q hq)
                         have c3' : w3.cell? ⟨lb, 1, none⟩ = some (.slice (some ⟨g, 0, none⟩) L.length c) := cell_over hb3 hlb1 HCL.out
                         have f3' : w3.frozen? ⟨lb, 1, none⟩ = false := free_over hb3 hlb1 (free_over HB1.out hlb H.out.fl)
                         have HO3 := Lib.hid hown3
                         have HB3 := Lib.hid hb3
                         clear hown3 hgr3 hb3)
  clear c3' f3'
  have hsz1 : w.heap.size + 2 = w1.heap.size := HS1.out.symm
  have hst : LStep w lb (.slice (some ⟨g, 0, none⟩) L.length c) (.slice a3 (k + (L.length - (k + 1))) c3) w3 := by
    refine ⟨WT.of_below ⟨HB3.out.os.trans HB1.out.os, HB3.out.tape.trans HB1.out.tape, HB3.out.output.trans HB1.out.output, Nat.le_trans HB1.out.size HB3.out.size, fun q hq => (HB3.out.block q (by omega)).trans (HB1.out.block q hq)⟩, fun q hq => .inr ?_⟩
    have := (own_ge HO3.out hq).1
    omega
  have hfin := H.out.setRow (L' := L.eraseIdx k) hst (cell_over HB3.out hlb1 (cell_over HB1.out hlb H.out.t)) ⟨_, cell_over HB3.out hlb1 HCL.out⟩ ⟨free_over HB3.out hlb1 (free_over HB1.out hlb H.out.ft), free_over HB3.out hlb1 (free_over HB1.out hlb H.out.fl)⟩ (by
    rw [← (erase_split hk).1, (erase_split hk).2]
    exact own_mono HO3.out (by omega))
  have HFIN := Lib.hid hfin
  have r1 := (HR2.out.under HB3.out (by omega)).far (p := ⟨lb, 1, none⟩) (show w.heap.size + 1 ≠ lb by omega) (.slice a3 (k + (L.length - (k + 1))) c3)
  have r2 := (HR1.out.under HB3.out (by omega)).far (p := ⟨lb, 1, none⟩) (show w.heap.size ≠ lb by omega) (.slice a3 (k + (L.length - (k + 1))) c3)
  generalize w3.setCell ⟨lb, 1, none⟩ (.slice a3 (k + (L.length - (k + 1))) c3) = w4 at HFIN r1 r2 ⊢
  have e1 := r1.cell 0
  have e2 := r1.cell 1
  have e3 := r2.cell 0
  have e4 := r2.cell 1
  have e5 := r2.free 0
  have e6 := r2.free 1
  have HR := Lib.hid r2
  clear r1 r2 hst hfin
  simp at e1 e2 e3 e4
  go_wp2_with fail
  have hbE := ((HR.out.set 0 (.int .i64 x.at_)).set 1 (.int .i64 x.id))
  simp only [List.setIfInBounds_toArray, List.set_cons_zero, List.set_cons_succ] at hbE
  refine bodyPost_ret (resC rfl rfl (run_loadVar_mid _ w.heap.size 0 45 [.int .i64 x.at_, .int .i64 x.id] _ (blk_range2 hbE) Try.underlying45 rfl sizeFd)) rfl ?_
  have hWE : WT (fun q => q = w.heap.size) w4 ((w4.setCell ⟨w.heap.size, 0, none⟩ (.int .i64 x.at_)).setCell ⟨w.heap.size, 1, none⟩ (.int .i64 x.id)) := (WT.set w4 (W := fun q => q = w.heap.size) rfl _).trans (WT.set _ (W := fun q => q = w.heap.size) rfl _) fun q hq => .inl hq
  refine ⟨_, rfl, HFIN.out.1.wt hWE fun q hq e => ?_, HFIN.out.2.1.trans hWE fun q hq => .inr (by rw [hq]; exact Nat.le_refl _), HFIN.out.2.2⟩
  rcases hq with hq | hq
  · omega
  · have := (own_ge HO3.out hq).1
    omega
end
end Go.Proofs.Ytcgchccppoignaa
