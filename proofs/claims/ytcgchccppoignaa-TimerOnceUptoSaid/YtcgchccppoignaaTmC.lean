/- Timer: links in memory; behind and leave in the rings' words. -/
import Derived.Test.YtcgchccppoignaaTmA
import Derived.Test.YtcgchccppoignaaTmB
namespace Go.Proofs.Ytcgchccppoignaa
open Go.RowKit

abbrev NA := Nat × Nat
abbrev pa (a : NA) : Value := .pointer (some ⟨a.1, a.2, none⟩)
/-- Nodes stand apart from one another. -/
def Sep (N : NA → Prop) : Prop := ∀ a b, N a → N b → a.1 = b.1 → a.2 = b.2 ∨ a.2 + 5 ≤ b.2 ∨ b.2 + 5 ≤ a.2
/-- The links of all nodes. -/
def Lk (w : World) (N : NA → Prop) (nx pv : NA → NA) : Prop := ∀ a, N a → Nd w a.1 a.2 (pa (pv a)) (pa (nx a))
/-- A block of plain cells. -/
def Pl (w : World) (g : Nat) : Prop := ∃ cs t, w.heap[g]? = some (.cells cs t (0, 0))
theorem Pl.set {w : World} {g : Nat} (h : Pl w g) (p : Addr) (v : Value) : Pl (w.setCell p v) g := by
  obtain ⟨cs, t, h⟩ := h
  by_cases e : g = p.block
  · subst e
    exact ⟨_, t, by simp only [World.setCell, Array.getElem?_modify, h, if_pos, Option.map_some]; rfl⟩
  · exact ⟨cs, t, (RowKit.Below.heap_setCell _ _ _ _ e).trans h⟩
theorem Pl.far {w w' : World} {g : Nat} (h : Pl w g) (he : w'.heap[g]? = w.heap[g]?) : Pl w' g := by
  obtain ⟨cs, t, h⟩ := h
  exact ⟨cs, t, he.trans h⟩
/-- Links alone are written. -/
structure LW (N : NA → Prop) (w w' : World) : Prop where
  size : w'.heap.size = w.heap.size
  cell : ∀ b o, (∀ a, N a → b = a.1 → o ≠ a.2 ∧ o ≠ a.2 + 1) → w'.cell? ⟨b, o, none⟩ = w.cell? ⟨b, o, none⟩
  block : ∀ b, (∀ a, N a → a.1 ≠ b) → w'.heap[b]? = w.heap[b]?
  frz : ∀ c, w'.frozen? c = w.frozen? c
  below : ∀ B, (∀ a, N a → B ≤ a.1) → Below B w w'
  pl : ∀ g, Pl w g → Pl w' g
section
variable {N N' : NA → Prop} {w w' w'' : World} {nx pv : NA → NA}
theorem LW.refl (N : NA → Prop) (w : World) : LW N w w := ⟨rfl, fun _ _ _ => rfl, fun _ _ => rfl, fun _ => rfl, fun _B _ => Below.refl _ _, fun _ h => h⟩
theorem LW.trans (h : LW N w w') (h' : LW N w' w'') : LW N w w'' :=
  ⟨h'.size.trans h.size, fun b o ha => (h'.cell b o ha).trans (h.cell b o ha), fun b hb => (h'.block b hb).trans (h.block b hb), fun c => (h'.frz c).trans (h.frz c), fun B hB => (h.below B hB).trans (h'.below B hB), fun g hg => h'.pl g (h.pl g hg)⟩
theorem LW.drew (h : LW N w w') : LW N w w'.drew := ⟨h.size, h.cell, h.block, h.frz, fun B hB => (h.below B hB).drew, fun g hg => (h.pl g hg).far rfl⟩
theorem LW.more (h : LW N w w') (hN : ∀ a, N a → N' a) : LW N' w w' :=
  ⟨h.size, fun b o ha => h.cell b o fun a hN2 => ha a (hN a hN2), fun b hb => h.block b fun a ha => hb a (hN a ha), h.frz, fun B hB => h.below B fun a ha => hB a (hN a ha), h.pl⟩
theorem LW.set (h : LW N w w') {a : NA} (ha : N a) {o : Nat} (ho : o = a.2 ∨ o = a.2 + 1) (v : Value) : LW N w (w'.setCell ⟨a.1, o, none⟩ v) := by
  refine ⟨by simpa using h.size, fun b p hb => ?_, fun b hb => ?_, fun c => ?_, fun B hB => (h.below B hB).setCell (hB a ha) v, fun g hg => (h.pl g hg).set _ _⟩
  · rw [World.cell?_setCell_other _ _ _ _ ?_, h.cell b p hb]
    intro e
    have e1 : a.1 = b := congrArg Addr.block e
    have e2 : o = p := congrArg Addr.off e
    have := hb a ha e1.symm
    rcases ho with ho | ho <;> omega
  · rw [RowKit.Below.heap_setCell _ _ _ _ (Ne.symm (hb a ha))]; exact h.block b hb
  · rw [World.frozen?_setCell]; exact h.frz c
theorem Sep.ne {N : NA → Prop} (hs : Sep N) {a b : NA} (ha : N a) (hb : N b) (h : a ≠ b) : ¬ (a.1 = b.1 ∧ a.2 = b.2) ∧ ¬ (a.1 = b.1 ∧ a.2 = b.2 + 1) ∧ ¬ (a.1 = b.1 ∧ a.2 + 1 = b.2) ∧ ¬ (a.1 = b.1 ∧ a.2 + 1 = b.2 + 1) := by
  have hne : ¬ (a.1 = b.1 ∧ a.2 = b.2) := fun ⟨x, y⟩ => h (Prod.ext x y)
  refine ⟨hne, fun ⟨x, y⟩ => ?_, fun ⟨x, y⟩ => ?_, fun ⟨x, y⟩ => hne ⟨x, by omega⟩⟩
  · have := hs a b ha hb x
    omega
  · have := hs a b ha hb x
    omega
theorem Lk.setN (h : Lk w N nx pv) (hs : Sep N) {a x : NA} (ha : N a) : Lk (w.setCell ⟨a.1, a.2 + 1, none⟩ (pa x)) N (upd nx a x) pv := by
  intro b hb
  by_cases e : b = a
  · subst e
    rw [upd_self]
    exact (h b hb).setN _
  · rw [upd_off e]
    obtain ⟨-, -, h3, h4⟩ := hs.ne ha hb (Ne.symm e)
    exact (h b hb).setOff h3 h4
theorem Lk.setP (h : Lk w N nx pv) (hs : Sep N) {a x : NA} (ha : N a) : Lk (w.setCell ⟨a.1, a.2, none⟩ (pa x)) N nx (upd pv a x) := by
  intro b hb
  by_cases e : b = a
  · subst e
    rw [upd_self]
    exact (h b hb).setP _
  · rw [upd_off e]
    obtain ⟨h1, h2, -, -⟩ := hs.ne ha hb (Ne.symm e)
    exact (h b hb).setOff h1 h2
theorem Lk.drew (h : Lk w N nx pv) : Lk w.drew N nx pv := fun a ha => (h a ha).drew
theorem Lk.lw (h : Lk w N nx pv) (hs : ∀ a, N a → w'.cell? ⟨a.1, a.2, none⟩ = w.cell? ⟨a.1, a.2, none⟩ ∧ w'.cell? ⟨a.1, a.2 + 1, none⟩ = w.cell? ⟨a.1, a.2 + 1, none⟩ ∧ w'.frozen? ⟨a.1, a.2, none⟩ = w.frozen? ⟨a.1, a.2, none⟩ ∧ w'.frozen? ⟨a.1, a.2 + 1, none⟩ = w.frozen? ⟨a.1, a.2 + 1, none⟩) : Lk w' N nx pv := fun a ha => by
  obtain ⟨h1, h2, h3, h4⟩ := hs a ha
  have := h a ha
  exact ⟨h1.trans this.p, h2.trans this.n, h3.trans this.fp, h4.trans this.fn⟩
/-- behind, of all links. -/
theorem behind_lk (hs : Sep N) {e h : NA} {p n : Value} (hl : Lk w (fun a => N a ∧ a ≠ e) nx pv) (he : N e) (hh : N h) (hp : N (pv h)) (hne : Nd w e.1 e.2 p n) (h1 : h ≠ e) (h2 : pv h ≠ e) :
    Calls Try.prog 30 #[pa e, pa h] w fun x w' => x = .returned (.tuple #[]) ∧ Lk w' N (upd (upd nx e h) (pv h) e) (upd (upd pv e (pv h)) h e) ∧ LW N w w' := by
  have n1 := hs.ne he hh (Ne.symm h1)
  have n2 := hs.ne he hp (Ne.symm h2)
  have nd1 := hl h ⟨hh, h1⟩
  have nd2 := hl (pv h) ⟨hp, h2⟩
  have h5 : ¬ ((pv h).1 = h.1 ∧ (pv h).2 + 1 = h.2) := fun ⟨x, y⟩ => by have := hs _ _ hp hh x; omega
  refine (behind_any e.1 e.2 h.1 h.2 (pv h).1 (pv h).2 p n _ _ _ w hne nd1 nd2 (fun e0 => n1.1 (by simpa using e0)) (fun e0 => n2.1 (by simpa using e0)) (fun e0 => n1.2.2.1 (by simpa using e0)) (fun e0 => n2.2.1 (by simpa using e0)) (fun e0 => h5 (by simpa using e0)) (fun e0 => n2.2.2.1 (by simpa using e0))).mono ?_
  rintro x w' ⟨rfl, rfl⟩
  refine ⟨rfl, ?_, ((((LW.refl N w).set he (.inl rfl) _).set he (.inr rfl) _).set hp (.inr rfl) _).set hh (.inl rfl) _⟩
  have hl2 : Lk ((w.setCell ⟨e.1, e.2, none⟩ (pa (pv h))).setCell ⟨e.1, e.2 + 1, none⟩ (pa h)) N (upd nx e h) (upd pv e (pv h)) := by
    intro b hb
    by_cases eb : b = e
    · subst eb
      rw [upd_self, upd_self]
      exact (hne.setP _).setN _
    · rw [upd_off eb, upd_off eb]
      obtain ⟨m1, m2, m3, m4⟩ := hs.ne he hb (Ne.symm eb)
      exact ((hl b ⟨hb, eb⟩).setOff m1 m2).setOff m3 m4
  exact (hl2.setN hs hp).setP hs hh
/-- leave, of all links. -/
theorem leave_lk (hs : Sep N) {e : NA} (hl : Lk w N nx pv) (he : N e) (hp : N (pv e)) (hn : N (nx e)) (h1 : pv e ≠ e) (h2 : nx e ≠ e) :
    Calls Try.prog 29 #[pa e] w fun x w' => x = .returned (.tuple #[]) ∧ Lk w' N (upd (upd nx (pv e) (nx e)) e e) (upd (upd pv (nx e) (pv e)) e e) ∧ LW N w w' := by
  have n1 := hs.ne he hp (Ne.symm h1)
  have n2 := hs.ne he hn (Ne.symm h2)
  have h5 : ¬ ((pv e).1 = (nx e).1 ∧ (pv e).2 + 1 = (nx e).2) := fun ⟨x, y⟩ => by have := hs _ _ hp hn x; omega
  refine (leave_any e.1 e.2 (pv e).1 (pv e).2 (nx e).1 (nx e).2 _ _ _ _ w (hl e he) (hl _ hp) (hl _ hn) n1.1 n2.1 n1.2.1 n2.2.2.1 h5).mono ?_
  rintro x w' ⟨rfl, rfl⟩
  refine ⟨rfl, ?_, ((((LW.refl N w).set hp (.inr rfl) _).set hn (.inl rfl) _).drew.set he (.inl rfl) _).set he (.inr rfl) _⟩
  have := ((((hl.setN hs (x := nx e) hp).setP hs (x := pv e) hn).drew).setP hs (x := e) he).setN hs (x := e) he
  exact this
end
end Go.Proofs.Ytcgchccppoignaa
