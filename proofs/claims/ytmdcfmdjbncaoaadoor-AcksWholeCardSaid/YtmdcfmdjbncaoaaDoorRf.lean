/- Ranges over a function: what a round keeps. -/
import Derived.RangeFuncNested
import Derived.RangeFuncBound
import Derived.RangeFuncCalls
import Derived.RangeFuncLeaves
import Derived.Shelf.Abstract
import Derived.Shelf.RegionOpen
import Derived.WalkKit
import Derived.OwnWalkIn
import Derived.TacticsInMore
import Derived.LoopNIn
import Derived.LoopIn
import Derived.Test.YtmdcfmdjbncaoaaDoorV
namespace Go.Proofs.YtmdcfmdjbncaoaaDoor
open Go.RowKit

/-- Whatever is cells, but the blocks of Z, lies as it lay. -/
structure KC (Z : Nat → Prop) (A B : World) : Prop where
  os : B.os = A.os
  tape : B.tape = A.tape
  output : B.output = A.output
  size : A.heap.size ≤ B.heap.size
  block : ∀ (b : Nat) (o : Obj), ¬ Z b → A.heap[b]? = some o → o.isCells = true → B.heap[b]? = some o

theorem KC.refl (Z : Nat → Prop) (A : World) : KC Z A A := ⟨rfl, rfl, rfl, Nat.le_refl _, fun _ _ _ h _ => h⟩
theorem KC.trans {Z : Nat → Prop} {A B C : World} (h : KC Z A B) (k : KC Z B C) : KC Z A C :=
  ⟨k.os.trans h.os, k.tape.trans h.tape, k.output.trans h.output, Nat.le_trans h.size k.size, fun b o hz hb ho => k.block b o hz (h.block b o hz hb ho) ho⟩
theorem KC.of_below {Z : Nat → Prop} {A B : World} (h : Below A.heap.size A B) : KC Z A B :=
  ⟨h.os, h.tape, h.output, h.size, fun b _ _ hb _ => (h.block b (Array.getElem?_eq_some_iff.1 hb).1).trans hb⟩
theorem KC.alloc {Z : Nat → Prop} {A B : World} (h : KC Z A B) (o : Obj) : KC Z A (B.alloc o) := h.trans (KC.of_below ((Below.refl _ _).alloc (Nat.le_refl _) o))
theorem KC.setCell {Z : Nat → Prop} {A B : World} (h : KC Z A B) {p : Addr} (hp : Z p.block) (v : Value) : KC Z A (B.setCell p v) :=
  h.trans ⟨rfl, rfl, rfl, by simp, fun b o hz hb _ => (heap_set (fun e => hz (by rw [e]; exact hp))).trans hb⟩
theorem kc_b {Z : Nat → Prop} {N : Nat} (W : World) (l : Nat) (o o' : Obj) (_ : N ≤ l) (h : W.heap[l]? = some o) (hc : o.isCells = false) (_ : o.isWalk = false) : KC Z W (W.putObj l o') :=
  ⟨rfl, rfl, rfl, by simp, fun b o2 _ hb ho => by
    by_cases e : b = l
    · subst e; rw [h] at hb; cases hb; rw [hc] at ho; cases ho
    · exact (World.putObj_heap_other (fun e' => e e')).trans hb⟩
theorem KC.cell {Z : Nat → Prop} {A B : World} (h : KC Z A B) {b q : Nat} {v : Value} (hz : ¬ Z b) (hc : A.cell? ⟨b, q, none⟩ = some v) : B.cell? ⟨b, q, none⟩ = some v := by
  obtain ⟨o, ho, hoc⟩ := cells_of_cell hc
  have := h.block b o hz ho hoc
  rw [World.cell?_of_block (w := A) (w' := B) (a := ⟨b, q, none⟩) (this.trans ho.symm)]
  exact hc
theorem KC.blk {Z : Nat → Prop} {A B : World} (h : KC Z A B) {b : Nat} {t : TypeId} {cs : Array Value} (hz : ¬ Z b) (hb : Blk A b t cs) : Blk B b t cs := h.block b _ hz hb rfl
theorem KC.range {Z : Nat → Prop} {A B : World} (h : KC Z A B) {b o : Nat} {cs : List Value} (hz : ¬ Z b) (hb : A.rangeAt b o cs) : B.rangeAt b o cs := fun j v hv => h.cell hz (hb j v hv)
theorem grown_of_below {A B : World} (h : Below A.heap.size A B) : A.grownBy B none := ⟨h.os, h.tape, h.output, h.size, fun k hk _ => h.block k hk⟩
theorem abides_below {β : Type} {N : Nat} {J : β → World → Prop} (hJ : AbidesFrom N J) {s : β} {A B : World} (h : Below A.heap.size A B) (hs : J s A) : J s B := hJ s A B none hs (grown_of_below h) (fun r e => by cases e)
def setAll (W : World) (g : Nat) : Nat → List Value → World
  | _, [] => W
  | i, u :: r => setAll (W.setCell ⟨g, i, none⟩ u) g (i + 1) r
theorem setAll_blk {g : Nat} {T : TypeId} : ∀ (us : List Value) (W : World) (i : Nat) (pre old : List Value), Blk W g T (pre ++ old).toArray → pre.length = i → old.length = us.length → Blk (setAll W g i us) g T (pre ++ us).toArray
  | [], W, i, pre, old, h, _, ho => by
    have : old = [] := List.length_eq_zero_iff.1 ho
    subst this
    exact h
  | u :: r, W, i, pre, [], _, _, ho => by simp at ho
  | u :: r, W, i, pre, o :: old, h, hp, ho => by
    have h1 := h.set i u
    rw [List.setIfInBounds_toArray, List.set_append_right _ _ (by omega), hp, Nat.sub_self, List.set_cons_zero] at h1
    have e1 : pre ++ u :: old = (pre ++ [u]) ++ old := by simp
    have e2 : pre ++ u :: r = (pre ++ [u]) ++ r := by simp
    rw [e1] at h1
    rw [e2]
    exact setAll_blk r _ (i + 1) (pre ++ [u]) old h1 (by simp [hp]) (by simpa using ho)
theorem setAll_far {g b : Nat} (hb : b ≠ g) : ∀ (us : List Value) (W : World) (i : Nat), (setAll W g i us).heap[b]? = W.heap[b]?
  | [], _, _ => rfl
  | _ :: r, _, i => (setAll_far hb r _ (i + 1)).trans (heap_set hb)
theorem setAll_size {g : Nat} : ∀ (us : List Value) (W : World) (i : Nat), (setAll W g i us).heap.size = W.heap.size
  | [], _, _ => rfl
  | _ :: r, _, i => (setAll_size r _ (i + 1)).trans (size_set _ _ _)
theorem setAll_others {g : Nat} : ∀ (us : List Value) (W : World) (i : Nat), KeepsOthers W (setAll W g i us)
  | [], _, _ => KeepsOthers.refl _
  | _ :: r, _, i => (KeepsOthers.setCell _ _ _).trans (setAll_others r _ (i + 1))
theorem setAll_below {g B : Nat} (hB : B ≤ g) : ∀ (us : List Value) (W : World) (i : Nat), Below B W (setAll W g i us)
  | [], _, _ => Below.refl _ _
  | u :: r, W, i => ((Below.refl B W).setCell (p := ⟨g, i, none⟩) hB u).trans (setAll_below hB r _ (i + 1))
theorem setAll_kc {Z : Nat → Prop} {g : Nat} (hz : Z g) : ∀ (us : List Value) (W : World) (i : Nat), KC Z W (setAll W g i us)
  | [], _, _ => KC.refl _ _
  | u :: r, W, i => ((KC.refl Z W).setCell (p := ⟨g, i, none⟩) hz u).trans (setAll_kc hz r _ (i + 1))
/-- A whole block is written anew. -/
theorem setAll_new {W : World} {g : Nat} {T : TypeId} {cs us : List Value} (h : Blk W g T cs.toArray) (hl : cs.length = us.length) : Blk (setAll W g 0 us) g T us.toArray := setAll_blk us W 0 [] cs h rfl hl
/-- Two blocks are written, and an order is drawn. -/
theorem two_sets (w2 : World) (g1 g0 i : Nat) (L1 L0 : List Value) : ∃ WF : World, (setAll (setAll w2 g1 i L1) g0 0 L0).drew = WF ∧ (∀ q, q ≠ g0 → q ≠ g1 → WF.heap[q]? = w2.heap[q]?) ∧
    (∀ (T : TypeId) (cs : List Value), Blk w2 g0 T cs.toArray → g0 ≠ g1 → cs.length = L0.length → Blk WF g0 T L0.toArray) ∧ WF.heap.size = w2.heap.size ∧ (∀ B, B ≤ g0 → B ≤ g1 → Below B w2 WF) :=
  ⟨_, rfl, fun _ h0 h1 => (setAll_far h0 L0 _ 0).trans (setAll_far h1 L1 w2 i), fun T cs h hne hl => setAll_new (cs := cs) (us := L0) (T := T) ((setAll_far hne L1 w2 i).trans h) hl,
    (setAll_size L0 _ 0).trans (setAll_size L1 w2 i), fun _ h0 h1 => ((setAll_below h1 L1 w2 i).trans (setAll_below h0 L0 _ 0)).drew⟩
/-- A block of the caller's own, over what an iterator and the loop do. -/
theorem blk_own {β : Type} (g : Nat) (t : TypeId) (cs : β → Array Value) : Own (fun (s : β) W => Blk W g t (cs s)) := fun _ _ _ _ hs hg hr => (grownBy_keeps_cells hg hr hs rfl).trans hs
theorem ownFrom_blk {β : Type} (N g : Nat) (t : TypeId) (cs : β → Array Value) : OwnFrom N (fun (s : β) W => Blk W g t (cs s)) := Own.from (blk_own g t cs) _
end Go.Proofs.YtmdcfmdjbncaoaaDoor
