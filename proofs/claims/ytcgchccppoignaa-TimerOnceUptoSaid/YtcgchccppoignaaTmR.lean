/- Timer: the chapter's first example. -/
import Derived.Test.YtcgchccppoignaaTmQ
namespace Go.Proofs.Ytcgchccppoignaa
open Go.RowKit
attribute [local go_sem ↓] Go.wp_at_zero Go.wp_at_succ
attribute [local go_sem] Go.undef

def prT (x : Tm) : Pr := (x.at_, x.id)
theorem fired_rows {w : World} {B' : Nat} {v : Value} {F : List Tm} (h : w.ownsRow B' 45 2 v F.length (fcs F)) :
    ∃ a c, v = .slice a F.length c ∧ RowsOf FE 2 w (fun g => B' ≤ g ∧ g < w.heap.size) (F.map prT) a F.length c := by
  obtain ⟨a, c, rfl⟩ := own_len h
  refine ⟨a, c, rfl, rows_of_own h (by simp) (by simp) (fun cs hcs => ?_) (fun j x hx => ?_) (fun g h1 h2 _ => ⟨h1, h2⟩)⟩
  · obtain ⟨y, -, rfl⟩ := List.mem_map.1 hcs
    rfl
  · rw [List.getElem?_map, Option.map_eq_some_iff] at hx
    obtain ⟨y, hy, rfl⟩ := hx
    exact ⟨[.int .i64 y.at_, .int .i64 y.id], by simp [hy], rfl⟩
theorem rows_keep {w w' : World} {S : Nat → Prop} {l : List Pr} {a : Option Addr} {n c : Nat} (h : RowsOf FE 2 w S l a n c) (he : ∀ g, S g → w'.heap[g]? = w.heap[g]?) : RowsOf FE 2 w' S l a n c := by
  obtain ⟨h1, h2, h3, h4⟩ := h
  refine ⟨h1, h2, h3, fun h0 => ?_⟩
  obtain ⟨g, o, e, hS, hr⟩ := h4 h0
  refine ⟨g, o, e, hS, fun j x hx => ?_⟩
  obtain ⟨cs, hE, hl, hc⟩ := hr j x hx
  exact ⟨cs, hE, hl, fun i v hv => (World.cell?_of_block (a := ⟨g, o + j * 2 + i, none⟩) (he g hS)).trans (hc i v hv)⟩
section
variable {w : World} {B b m now sq : Nat} {L : List Tm} {ρ : Nat → List Tm}
def AddW (w : World) (B b m now sq : Nat) (L : List Tm) (_ρ : Nat → List Tm) (a q : Int) (e : Ending) (w' : World) : Prop :=
  (addB now L a q = false ∧ e = .returned (.bool false) ∧ w = w') ∨
  (addB now L a q = true ∧ e = .returned (.bool true) ∧ ∃ (x : Tm) (ρ' : Nat → List Tm), (x.at_ : Int) = atF now a ∧ x.id = q ∧ Wh w' B b m now (sq + 1) (L ++ [x]) ρ' ∧ WT (Own b m L) w w' ∧ ∀ g, Own b m (L ++ [x]) g → Own b m L g ∨ w.heap.size ≤ g)
theorem add_wh (h : Wh w B b m now sq L ρ) (hsq : sq < 9223372036854775800) (hl : L.length < maxLen) (hB : B ≤ w.heap.size) (a q : Int) (ha : (Lit.int .i64 a).wf = true) (hq : (Lit.int .i64 q).wf = true) :
    Calls Try.prog 20 #[pt b 0, .int .i64 a, .int .i64 q] w (AddW w B b m now sq L ρ a q) := by
  refine (add_any h.whl h.nm hsq hl hB a q ha hq).mono ?_
  rintro e w' (⟨h1, rfl, rfl⟩ | ⟨h1, rfl, x, hg, hat, hseq, hid, hw, ht⟩)
  · exact .inl ⟨h1, rfl, rfl⟩
  · have hb := h1
    simp only [addB, Bool.and_eq_true, Bool.not_eq_true', decide_eq_true_eq] at hb
    have hgt : now < x.at_ := by
      have : atF now a = x.at_ := hat.symm
      unfold atF at this
      split at this <;> omega
    have hmt : x.at_ ≤ MT := by omega
    have hMT : MT < 2 ^ 42 := by decide
    have hnm := h.nm
    have hnew : ∀ y, y ∈ L → y.g ≠ x.g := fun y hy e => by
      have := (h.whl.own_lt (.inr (.inr ⟨y, hy, rfl⟩))).2
      omega
    have hxl : x ∉ L := fun hx => hnew x hx rfl
    refine .inr ⟨h1, rfl, x, _, hat, hid, ⟨hw, ⟨fun k hk y => ?_, fun y hy => ?_⟩, fun y hy => ?_, ?_, ⟨?_, fun y z hy hz e => ?_, fun y hy => ?_⟩, fun y hy => ?_, h.nm⟩, ht, fun g hg => ?_⟩
    · have hk0 := ring_lt (now := now) (a := x.at_) (by omega) (by omega)
      unfold putR
      split
      · rename_i e
        rw [List.mem_append, List.mem_append, h.inv.ring k hk y, List.mem_singleton]
        constructor
        · rintro (⟨h1, h2⟩ | h1)
          · exact ⟨.inl h1, h2⟩
          · exact ⟨.inr h1, by rw [h1, e]⟩
        · rintro ⟨h1 | h1, h2⟩
          · exact .inl ⟨h1, h2⟩
          · exact .inr h1
      · rename_i e
        rw [List.mem_append, h.inv.ring k hk y, List.mem_singleton]
        constructor
        · rintro ⟨h1, h2⟩
          exact ⟨.inl h1, h2⟩
        · rintro ⟨h1 | h1, h2⟩
          · exact ⟨h1, h2⟩
          · exact absurd (by rw [← h2, h1]) e
    · rcases List.mem_append.1 hy with hy | hy
      · exact h.inv.ge y hy
      · rw [List.mem_singleton.1 hy]; exact ⟨by omega, hmt⟩
    · rcases List.mem_append.1 hy with hy | hy
      · exact h.gt y hy
      · rw [List.mem_singleton.1 hy]; exact hgt
    · refine List.pairwise_append.2 ⟨h.srt, List.pairwise_singleton _ _, fun y hy z hz => ?_⟩
      rw [List.mem_singleton.1 hz, hseq]
      have := h.sq y hy
      omega
    · refine List.nodup_append.2 ⟨h.dst.nd, by simp, fun y hy z hz e => ?_⟩
      rw [List.mem_singleton.1 hz] at e
      exact hxl (e ▸ hy)
    · have key : ∀ u, u ∈ L → u.id ≠ q := fun u hu e => by
        have := List.any_eq_false.1 hb.1 u hu
        simp [e] at this
      rcases List.mem_append.1 hy with hy | hy <;> rcases List.mem_append.1 hz with hz | hz
      · exact h.dst.id y z hy hz e
      · rw [List.mem_singleton.1 hz, hid] at e; exact absurd e (key y hy)
      · rw [List.mem_singleton.1 hy, hid] at e; exact absurd e.symm (key z hz)
      · rw [List.mem_singleton.1 hy, List.mem_singleton.1 hz]
    · rcases List.mem_append.1 hy with hy | hy
      · exact h.dst.wf y hy
      · rw [List.mem_singleton.1 hy, hid]; exact hq
    · rcases List.mem_append.1 hy with hy | hy
      · have := h.sq y hy; omega
      · rw [List.mem_singleton.1 hy, hseq]; exact Nat.le_refl _
    · rcases hg with hg | hg | ⟨y, hy, rfl⟩
      · exact .inl (.inl hg)
      · exact .inl (.inr (.inl hg))
      · rcases List.mem_append.1 hy with hy | hy
        · exact .inl (.inr (.inr ⟨y, hy, rfl⟩))
        · rw [List.mem_singleton.1 hy, hg]; exact .inr (Nat.le_refl _)
theorem own_of_fires {T : Nat} {F R : List Tm} (h : Fires (fun x : Tm => x.at_) T L F R) {g : Nat} (hg : Own b m R g) : Own b m L g := own_sub (fun x hx => (h.rest x hx).1) hg
end
end Go.Proofs.Ytcgchccppoignaa
