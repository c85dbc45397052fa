/- Blocks known whole; rows of the call's own of structs. -/
import Derived.Test.YtmkbdjekidcfaaaU
import Derived.Deep.AppendLies
import Derived.Deep.RegionHeld3
import Derived.Deep.DrawnRows
import Derived.Deep.RegionLaw
namespace Go.Proofs.Ytmkbdjekidcfaaa
open Go.RowKit

def Blk (w : World) (g : Nat) (t : TypeId) (cs : Array Value) : Prop := w.heap[g]? = some (.cells cs t (0, 0))
section
variable {w w' : World} {g : Nat} {t : TypeId} {cs : Array Value}
theorem Blk.lt (h : Blk w g t cs) : g < w.heap.size := (Array.getElem?_eq_some_iff.1 h).1
theorem Blk.cell (h : Blk w g t cs) (i : Nat) : w.cell? ⟨g, i, none⟩ = cs[i]? := cell_of_row w g i cs t (0, 0) h
theorem Blk.free (h : Blk w g t cs) (i : Nat) : w.frozen? ⟨g, i, none⟩ = false := by
  unfold Blk at h
  simp [World.frozen?, h]
theorem Blk.under {B : Nat} (h : Blk w g t cs) (hb : Below B w w') (hg : g < B) : Blk w' g t cs := (hb.block g hg).trans h
theorem Blk.alloc (h : Blk w g t cs) (o : Obj) : Blk (w.alloc o) g t cs := (Below.heap_alloc w o g h.lt).trans h
theorem Blk.new (w : World) (t : TypeId) (cs : Array Value) : Blk (w.alloc (.cells cs t)) w.heap.size t cs := heap_alloc_new w _
theorem Blk.new' (w : World) (t : TypeId) (cs : Array Value) {n : Nat} (hn : n = w.heap.size) : Blk (w.alloc (.cells cs t)) n t cs := by subst hn; exact heap_alloc_new w _
theorem Blk.drew (h : Blk w g t cs) : Blk w.drew g t cs := h
theorem Blk.drewN (h : Blk w g t cs) (n : Nat) : Blk (w.drewN n) g t cs := h
theorem Blk.set (h : Blk w g t cs) (i : Nat) (u : Value) : Blk (w.setCell ⟨g, i, none⟩ u) g t (cs.setIfInBounds i u) := by
  unfold Blk at h ⊢
  simp [World.setCell, Array.getElem?_modify, h]
theorem Blk.far (h : Blk w g t cs) {p : Addr} (hp : g ≠ p.block) (u : Value) : Blk (w.setCell p u) g t cs := (Below.heap_setCell w p u g hp).trans h
theorem Blk.grown {row : Option Nat} (h : Blk w g t cs) (hb : w.grownBy w' row) (hg : some g ≠ row) : Blk w' g t cs := (hb.block g h.lt hg).trans h
end

/-- A row of the call's own over a call that keeps what lay below its mark. -/
theorem own_keep {w w' : World} {B E size : Nat} {v : Value} {n : Nat} {xs : List Value} (h : w.ownsRow B E size v n xs) (hk : ∀ g, v.ownBlock = some g → w'.heap[g]? = w.heap[g]?) : w'.ownsRow B E size v n xs := by
  refine ⟨h.1, ?_⟩
  rcases h.2 with h0 | ⟨g, cap, cur, hv, hg, hh, rest⟩
  · exact .inl h0
  · subst hv
    exact .inr ⟨g, cap, cur, rfl, hg, by rw [hk g rfl]; exact hh, rest⟩

theorem alloc_old' {w : World} {o : Obj} {n : Nat} (hn : n < w.heap.size) : (w.alloc o).heap[n]? = w.heap[n]? := Below.heap_alloc w o n hn
theorem alloc_cell {w : World} {o : Obj} {b q : Nat} (hn : b < w.heap.size) : (w.alloc o).cell? ⟨b, q, none⟩ = w.cell? ⟨b, q, none⟩ := World.cell?_of_block (a := ⟨b, q, none⟩) (alloc_old' hn)
theorem alloc_free {w : World} {o : Obj} {b q : Nat} (hn : b < w.heap.size) : (w.alloc o).frozen? ⟨b, q, none⟩ = w.frozen? ⟨b, q, none⟩ := World.frozen?_of_block (a := ⟨b, q, none⟩) (alloc_old' hn)
/-- A block behind an append to another row (what is appended was laid in a block of its own first). -/
theorem far_block {w1 w2 : World} {o : Obj} {row : Option Nat} (hg : (w1.alloc o).grownBy w2 row) {b : Nat} (hlt : b < w1.heap.size) (hne : row ≠ some b) : w2.heap[b]? = w1.heap[b]? :=
  (hg.block b (by simp; omega) (fun e => hne e.symm)).trans (alloc_old' hlt)
theorem far_cell {w1 w2 : World} {o : Obj} {row : Option Nat} (hg : (w1.alloc o).grownBy w2 row) {b q : Nat} (hlt : b < w1.heap.size) (hne : row ≠ some b) : w2.cell? ⟨b, q, none⟩ = w1.cell? ⟨b, q, none⟩ :=
  World.cell?_of_block (a := ⟨b, q, none⟩) (far_block hg hlt hne)
theorem far_free {w1 w2 : World} {o : Obj} {row : Option Nat} (hg : (w1.alloc o).grownBy w2 row) {b q : Nat} (hlt : b < w1.heap.size) (hne : row ≠ some b) : w2.frozen? ⟨b, q, none⟩ = w1.frozen? ⟨b, q, none⟩ :=
  World.frozen?_of_block (a := ⟨b, q, none⟩) (far_block hg hlt hne)
theorem own_row {w : World} {B E size : Nat} {v : Value} {n : Nat} {xs : List Value} (h : w.ownsRow B E size v n xs) : ∀ g, v.ownBlock = some g → B ≤ g ∧ g < w.heap.size := fun g hg => h.lt g hg

/-- The cells of the rows of structs, one after another. -/
theorem flat_get {css : List (List Value)} {sz : Nat} (h : ∀ cs ∈ css, cs.length = sz) {j : Nat} {cs : List Value} (hj : css[j]? = some cs) : ∀ m v, cs[m]? = some v → css.flatten[j * sz + m]? = some v := by
  induction css generalizing j with
  | nil => simp at hj
  | cons c r ih =>
    intro m v hv
    have hc := h c (by simp)
    cases j with
    | zero =>
      simp at hj
      subst hj
      have hm : m < c.length := (List.getElem?_eq_some_iff.1 hv).1
      rw [Nat.zero_mul, Nat.zero_add, List.flatten_cons, List.getElem?_append_left hm]
      exact hv
    | succ j =>
      simp at hj
      have := ih (fun cs hcs => h cs (by simp [hcs])) hj m v hv
      rw [List.flatten_cons, List.getElem?_append_right (by rw [hc, Nat.succ_mul]; omega)]
      rw [← this]
      congr 1
      rw [hc, Nat.succ_mul]
      omega
theorem flat_snoc (css : List (List Value)) (cs : List Value) : css.flatten ++ cs = (css ++ [cs]).flatten := by simp

theorem IsD.drew {w : World} {S : Nat → Prop} {t : Tree} {cs : List Value} (h : IsD w S t cs) : IsD w.drew S t cs := h.keep (w := w) (w' := w.drew) (fun _ h => h) (fun _ _ _ => rfl)
theorem IsD.drewN {w : World} {S : Nat → Prop} {t : Tree} {cs : List Value} (h : IsD w S t cs) (n : Nat) : IsD (w.drewN n) S t cs := h.keep (w := w) (w' := w.drewN n) (fun _ h => h) (fun _ _ _ => rfl)

/-- The elements of a row of the call's own, read as a row of structs. -/
theorem rows_of_own {α : Type} {E : α → List Value → Prop} {sz B T : Nat} {w : World} {S : Nat → Prop} {l : List α} {a : Option Addr} {n c : Nat} {css : List (List Value)}
    (h : w.ownsRow B T sz (.slice a n c) n css.flatten) (hn : n = l.length) (hl : css.length = n) (hsz : ∀ cs ∈ css, cs.length = sz) (hE : ∀ (j : Nat) (x : α), l[j]? = some x → ∃ cs : List Value, css[j]? = some cs ∧ E x cs)
    (hS : ∀ g, B ≤ g → g < w.heap.size → a = some ⟨g, 0, none⟩ → S g) : RowsOf E sz w S l a n c := by
  subst hn
  have hc : l.length ≤ c ∧ c ≤ maxLen := by
    rcases h.2 with ⟨h1, h2⟩ | ⟨g, cap, cur, hv, _, _, h3, h4, _⟩
    · injection h1 with _ h5 h6
      subst h6
      rw [h5]
      exact ⟨by omega, by unfold maxLen; omega⟩
    · injection hv with _ _ h6
      subst h6
      exact ⟨h3, h4⟩
  refine ⟨rfl, hc.1, hc.2, fun h0 => ?_⟩
  obtain ⟨g, cap, hv, hg, hlt⟩ := h.form h0
  have ha : a = some ⟨g, 0, none⟩ := by injection hv
  refine ⟨g, 0, ha, hS g hg hlt ha, fun j x hx => ?_⟩
  obtain ⟨cs, hcs, he⟩ := hE j x hx
  refine ⟨cs, he, hsz cs (List.mem_of_getElem? hcs), fun m v hm => ?_⟩
  have := h.cells (g := g) (by rw [ha]; rfl) (j * sz + m) v (flat_get hsz hcs m v hm)
  rw [Nat.zero_add]
  rw [Addr.add_mid] at this
  simpa using this

end Go.Proofs.Ytmkbdjekidcfaaa
