/- Blocks known whole; rows of the call's own of structs; what a copy of a Datum is. -/
import Derived.Test.YtmdcfmdjbncaoaaDoorU
import Derived.Deep.AppendLies
import Derived.Deep.RegionHeld3
import Derived.Deep.DrawnRows
import Derived.Deep.RegionLaw
namespace Go.Proofs.YtmdcfmdjbncaoaaDoor
open Go.RowKit

def Blk (w : World) (g : Nat) (t : TypeId) (cs : Array Value) : Prop := w.heap[g]? = some (.cells cs t (0, 0))
section
variable {w w' : World} {g : Nat} {t : TypeId} {cs : Array Value}
theorem Blk.lt (h : Blk w g t cs) : g < w.heap.size := (Array.getElem?_eq_some_iff.1 h).1
theorem Blk.cell (h : Blk w g t cs) (i : Nat) : w.cell? ⟨g, i, none⟩ = cs[i]? := cell_of_row w g i cs t (0, 0) h
theorem Blk.free (h : Blk w g t cs) (i : Nat) : w.frozen? ⟨g, i, none⟩ = false := by
  unfold Blk at h
  simp [World.frozen?, h]
theorem Blk.under {B : Nat} (h : Blk w g t cs) (hb : Below B w w') (hg : g < B) : Blk w' g t cs := (hb.block g hg).trans h
theorem Blk.alloc (h : Blk w g t cs) (o : Obj) : Blk (w.alloc o) g t cs := (Below.heap_alloc w o g h.lt).trans h
theorem Blk.new (w : World) (t : TypeId) (cs : Array Value) : Blk (w.alloc (.cells cs t)) w.heap.size t cs := heap_alloc_new w _
theorem Blk.new' (w : World) (t : TypeId) (cs : Array Value) {n : Nat} (hn : n = w.heap.size) : Blk (w.alloc (.cells cs t)) n t cs := by subst hn; exact heap_alloc_new w _
theorem Blk.drew (h : Blk w g t cs) : Blk w.drew g t cs := h
theorem Blk.drewN (h : Blk w g t cs) (n : Nat) : Blk (w.drewN n) g t cs := h
theorem Blk.set (h : Blk w g t cs) (i : Nat) (u : Value) : Blk (w.setCell ⟨g, i, none⟩ u) g t (cs.setIfInBounds i u) := by
  unfold Blk at h ⊢
  simp [World.setCell, Array.getElem?_modify, h]
theorem Blk.far (h : Blk w g t cs) {p : Addr} (hp : g ≠ p.block) (u : Value) : Blk (w.setCell p u) g t cs := (Below.heap_setCell w p u g hp).trans h
theorem Blk.grown {row : Option Nat} (h : Blk w g t cs) (hb : w.grownBy w' row) (hg : some g ≠ row) : Blk w' g t cs := (hb.block g h.lt hg).trans h
end

/-- A row of the call's own over a call that keeps what lay below its mark. -/
theorem own_keep {w w' : World} {B E size : Nat} {v : Value} {n : Nat} {xs : List Value} (h : w.ownsRow B E size v n xs) (hk : ∀ g, v.ownBlock = some g → w'.heap[g]? = w.heap[g]?) : w'.ownsRow B E size v n xs := by
  refine ⟨h.1, ?_⟩
  rcases h.2 with h0 | ⟨g, cap, cur, hv, hg, hh, rest⟩
  · exact .inl h0
  · subst hv
    exact .inr ⟨g, cap, cur, rfl, hg, by rw [hk g rfl]; exact hh, rest⟩

theorem alloc_old' {w : World} {o : Obj} {n : Nat} (hn : n < w.heap.size) : (w.alloc o).heap[n]? = w.heap[n]? := Below.heap_alloc w o n hn
theorem alloc_cell {w : World} {o : Obj} {b q : Nat} (hn : b < w.heap.size) : (w.alloc o).cell? ⟨b, q, none⟩ = w.cell? ⟨b, q, none⟩ := World.cell?_of_block (a := ⟨b, q, none⟩) (alloc_old' hn)
theorem alloc_free {w : World} {o : Obj} {b q : Nat} (hn : b < w.heap.size) : (w.alloc o).frozen? ⟨b, q, none⟩ = w.frozen? ⟨b, q, none⟩ := World.frozen?_of_block (a := ⟨b, q, none⟩) (alloc_old' hn)
/-- A block behind an append to another row (what is appended was laid in a block of its own first). -/
theorem far_block {w1 w2 : World} {o : Obj} {row : Option Nat} (hg : (w1.alloc o).grownBy w2 row) {b : Nat} (hlt : b < w1.heap.size) (hne : row ≠ some b) : w2.heap[b]? = w1.heap[b]? :=
  (hg.block b (by simp; omega) (fun e => hne e.symm)).trans (alloc_old' hlt)
theorem far_cell {w1 w2 : World} {o : Obj} {row : Option Nat} (hg : (w1.alloc o).grownBy w2 row) {b q : Nat} (hlt : b < w1.heap.size) (hne : row ≠ some b) : w2.cell? ⟨b, q, none⟩ = w1.cell? ⟨b, q, none⟩ :=
  World.cell?_of_block (a := ⟨b, q, none⟩) (far_block hg hlt hne)
theorem far_free {w1 w2 : World} {o : Obj} {row : Option Nat} (hg : (w1.alloc o).grownBy w2 row) {b q : Nat} (hlt : b < w1.heap.size) (hne : row ≠ some b) : w2.frozen? ⟨b, q, none⟩ = w1.frozen? ⟨b, q, none⟩ :=
  World.frozen?_of_block (a := ⟨b, q, none⟩) (far_block hg hlt hne)
theorem own_row {w : World} {B E size : Nat} {v : Value} {n : Nat} {xs : List Value} (h : w.ownsRow B E size v n xs) : ∀ g, v.ownBlock = some g → B ≤ g ∧ g < w.heap.size := fun g hg => h.lt g hg

/-- The cells of the rows of structs, one after another. -/
theorem flat_get {css : List (List Value)} {sz : Nat} (h : ∀ cs ∈ css, cs.length = sz) {j : Nat} {cs : List Value} (hj : css[j]? = some cs) : ∀ m v, cs[m]? = some v → css.flatten[j * sz + m]? = some v := by
  induction css generalizing j with
  | nil => simp at hj
  | cons c r ih =>
    intro m v hv
    have hc := h c (by simp)
    cases j with
    | zero =>
      simp at hj
      subst hj
      have hm : m < c.length := (List.getElem?_eq_some_iff.1 hv).1
      rw [Nat.zero_mul, Nat.zero_add, List.flatten_cons, List.getElem?_append_left hm]
      exact hv
    | succ j =>
      simp at hj
      have := ih (fun cs hcs => h cs (by simp [hcs])) hj m v hv
      rw [List.flatten_cons, List.getElem?_append_right (by rw [hc, Nat.succ_mul]; omega)]
      rw [← this]
      congr 1
      rw [hc, Nat.succ_mul]
      omega
theorem flat_snoc (css : List (List Value)) (cs : List Value) : css.flatten ++ cs = (css ++ [cs]).flatten := by simp

theorem IsD.drew {w : World} {S : Nat → Prop} {t : Tree} {cs : List Value} (h : IsD w S t cs) : IsD w.drew S t cs := h.keep (w := w) (w' := w.drew) (fun _ h => h) (fun _ _ _ => rfl)
theorem IsD.drewN {w : World} {S : Nat → Prop} {t : Tree} {cs : List Value} (h : IsD w S t cs) (n : Nat) : IsD (w.drewN n) S t cs := h.keep (w := w) (w' := w.drewN n) (fun _ h => h) (fun _ _ _ => rfl)

/-- The elements of a row of the call's own, read as a row of structs. -/
theorem rows_of_own {α : Type} {E : α → List Value → Prop} {sz B T : Nat} {w : World} {S : Nat → Prop} {l : List α} {a : Option Addr} {n c : Nat} {css : List (List Value)}
    (h : w.ownsRow B T sz (.slice a n c) n css.flatten) (hn : n = l.length) (hl : css.length = n) (hsz : ∀ cs ∈ css, cs.length = sz) (hE : ∀ (j : Nat) (x : α), l[j]? = some x → ∃ cs : List Value, css[j]? = some cs ∧ E x cs)
    (hS : ∀ g, B ≤ g → g < w.heap.size → a = some ⟨g, 0, none⟩ → S g) : RowsOf E sz w S l a n c := by
  subst hn
  have hc : l.length ≤ c ∧ c ≤ maxLen := by
    rcases h.2 with ⟨h1, h2⟩ | ⟨g, cap, cur, hv, _, _, h3, h4, _⟩
    · injection h1 with _ h5 h6
      subst h6
      rw [h5]
      exact ⟨by omega, by unfold maxLen; omega⟩
    · injection hv with _ _ h6
      subst h6
      exact ⟨h3, h4⟩
  refine ⟨rfl, hc.1, hc.2, fun h0 => ?_⟩
  obtain ⟨g, cap, hv, hg, hlt⟩ := h.form h0
  have ha : a = some ⟨g, 0, none⟩ := by injection hv
  refine ⟨g, 0, ha, hS g hg hlt ha, fun j x hx => ?_⟩
  obtain ⟨cs, hcs, he⟩ := hE j x hx
  refine ⟨cs, he, hsz cs (List.mem_of_getElem? hcs), fun m v hm => ?_⟩
  have := h.cells (g := g) (by rw [ha]; rfl) (j * sz + m) v (flat_get hsz hcs m v hm)
  rw [Nat.zero_add]
  rw [Addr.add_mid] at this
  simpa using this

/-- A copy of a Datum, in memory of its own. -/
def Copied (w : World) (t : Tree) (e : Ending) (w' : World) : Prop :=
  ∃ k i b s a n c xs, e = .returned (.agg #[.int .i64 k, .int .i64 i, .int .u64 b, .string s, .slice a n c]) ∧
    IsD w' (Btw w.heap.size w'.heap.size) t [.int .i64 k, .int .i64 i, .int .u64 b, .string s, .slice a n c] ∧ w'.ownsRow w.heap.size 28 5 (.slice a n c) n xs ∧ Below w.heap.size w w'

/-- The state of a copy's loop: a box in block o with the row so far, the result's box; the rows from block p on. -/
def OW (w : World) (o p : Nat) (cells : Value → Array Value) (l : List Tree) (iv : Value) (wr : World) : Prop :=
  ∃ (j : Nat) (v : Value) (T : Nat → Prop) (css : List (List Value)),
    iv = .int .i64 j ∧ j ≤ l.length ∧ Blk wr (w.heap.size + o) 28 (cells v) ∧ Blk wr (w.heap.size + 1) 28 #[.int .i64 0, .int .i64 0, .int .u64 0, .string ByteArray.empty, .slice none 0 0] ∧
    css.length = j ∧ wr.ownsRow (w.heap.size + p) 28 5 v j css.flatten ∧ (∀ b, T b → w.heap.size + p ≤ b ∧ b < wr.heap.size ∧ v.ownBlock ≠ some b) ∧
    (∀ cs ∈ css, cs.length = 5) ∧ (∀ (m : Nat) (x : Tree), m < j → l[m]? = some x → ∃ cs : List Value, css[m]? = some cs ∧ IsD wr T x cs) ∧ Below w.heap.size w wr

theorem heap_set {w : World} {p : Addr} {u : Value} {b : Nat} (h : b ≠ p.block) : (w.setCell p u).heap[b]? = w.heap[b]? := Below.heap_setCell w p u b h
theorem size_set (w : World) (p : Addr) (u : Value) : (w.setCell p u).heap.size = w.heap.size := by simp

theorem ow_step {w wr W0 w1 w2 : World} {o p j : Nat} {cells : Value → Array Value} {l : List Tree} {v : Value} {T : Nat → Prop} {css : List (List Value)} {x : Tree} {cs1 : List Value} {ob : Obj} {g2 cap2 : Nat}
    (ho : o < p) (hp : 1 < p) (ho1 : o ≠ 1) (hcells : ∀ u u', (cells u).setIfInBounds 4 u' = cells u') (hx : l[j]? = some x)
    (hB0 : Blk wr (w.heap.size + o) 28 (cells v)) (hB1 : Blk wr (w.heap.size + 1) 28 #[.int .i64 0, .int .i64 0, .int .u64 0, .string ByteArray.empty, .slice none 0 0])
    (hcl : css.length = j) (hown : wr.ownsRow (w.heap.size + p) 28 5 v j css.flatten) (hT : ∀ b, T b → w.heap.size + p ≤ b ∧ b < wr.heap.size ∧ v.ownBlock ≠ some b)
    (h5 : ∀ cs ∈ css, cs.length = 5) (hE : ∀ (m : Nat) (x : Tree), m < j → l[m]? = some x → ∃ cs : List Value, css[m]? = some cs ∧ IsD wr T x cs) (hbel : Below w.heap.size w wr)
    (hW : Below wr.heap.size wr W0) (hpW : w.heap.size + p ≤ W0.heap.size) (hb1 : Below W0.heap.size W0 w1) (hD1 : IsD w1 (Btw W0.heap.size w1.heap.size) x cs1)
    (hown2 : w2.ownsRow (w.heap.size + p) 28 5 (.slice (some ⟨g2, 0, none⟩) (j + 1) cap2) (j + 1) (css.flatten ++ cs1)) (hgrow : (w1.alloc ob).grownBy w2 v.ownBlock) (hat : v.ownBlock = some g2 ∨ g2 = w1.heap.size + 1) :
    OW w o p cells l (.int .i64 (j + 1 : Nat)) (w2.setCell ⟨w.heap.size + o, 4, none⟩ (.slice (some ⟨g2, 0, none⟩) (j + 1) cap2)) := by
  have s0 := hbel.size
  have s1 := hW.size
  have s2 := hb1.size
  have s3 : w1.heap.size + 1 ≤ w2.heap.size := by have := hgrow.size; simpa using this
  have b0 := hB0.lt
  have b1 := hB1.lt
  have hj : j < l.length := (List.getElem?_eq_some_iff.1 hx).1
  have hvo : ∀ g, v.ownBlock = some g → w.heap.size + p ≤ g ∧ g < wr.heap.size := own_row hown
  have hg2 := own_row hown2 g2 rfl
  have keep2 : ∀ b, b < w1.heap.size → v.ownBlock ≠ some b → w2.heap[b]? = w1.heap[b]? := fun b h1 h2 => far_block hgrow h1 h2
  have keep1 : ∀ b, b < wr.heap.size → w1.heap[b]? = wr.heap[b]? := fun b h => (hb1.block b (by omega)).trans (hW.block b h)
  have keepT : ∀ b, w.heap.size + p ≤ b → b < wr.heap.size → v.ownBlock ≠ some b → (w2.setCell ⟨w.heap.size + o, 4, none⟩ (.slice (some ⟨g2, 0, none⟩) (j + 1) cap2)).heap[b]? = wr.heap[b]? :=
    fun b h0 h1 h2 => (heap_set (by simp; omega)).trans ((keep2 b (by omega) h2).trans (keep1 b h1))
  refine ⟨j + 1, .slice (some ⟨g2, 0, none⟩) (j + 1) cap2, fun b => T b ∨ Btw W0.heap.size w1.heap.size b, css ++ [cs1], rfl, by omega, ?_, ?_, by simp [hcl], ?_, ?_, ?_, ?_, ?_⟩
  · have h1 : Blk w2 (w.heap.size + o) 28 (cells v) := (keep2 _ (by omega) (fun h => by have := hvo _ h; omega)).trans ((keep1 _ b0).trans hB0)
    rw [← hcells v]
    exact h1.set 4 _
  · have h1 : Blk w2 (w.heap.size + 1) 28 _ := (keep2 _ (by omega) (fun h => by have := hvo _ h; omega)).trans ((keep1 _ b1).trans hB1)
    exact h1.far (by simp; omega) _
  · rw [← flat_snoc]
    exact own_keep hown2 fun g hg => heap_set (by have : g2 = g := by simpa [Value.ownBlock] using hg
                                                  subst this
                                                  simp; omega)
  · intro b hb
    rw [size_set]
    rcases hb with hb | hb
    · obtain ⟨h1, h2, h3⟩ := hT b hb
      refine ⟨h1, by omega, fun h => ?_⟩
      have : g2 = b := by simpa [Value.ownBlock] using h
      subst this
      rcases hat with h4 | h4
      · exact h3 h4
      · omega
    · obtain ⟨h1, h2⟩ := hb
      refine ⟨by omega, by omega, fun h => ?_⟩
      have : g2 = b := by simpa [Value.ownBlock] using h
      subst this
      rcases hat with h4 | h4
      · have := hvo _ h4; omega
      · omega
  · intro cs hcs
    rcases List.mem_append.1 hcs with h | h
    · exact h5 cs h
    · rw [List.mem_singleton.1 h]; exact hD1.len
  · intro m y hm hy
    by_cases e : m = j
    · subst e
      rw [hx] at hy
      cases hy
      refine ⟨cs1, by rw [List.getElem?_append_right (by omega), hcl]; simp, ?_⟩
      refine hD1.keep (fun b hb => .inr hb) fun b hb q => World.cell?_of_block (a := ⟨b, q, none⟩) ?_
      obtain ⟨h1, h2⟩ := hb
      exact (heap_set (by simp; omega)).trans (keep2 b h2 (fun h => by have := hvo _ h; omega))
    · obtain ⟨cs, h1, h2⟩ := hE m y (by omega) hy
      refine ⟨cs, by rw [List.getElem?_append_left (by have := (List.getElem?_eq_some_iff.1 h1).1; omega)]; exact h1, ?_⟩
      exact h2.keep (fun b hb => .inl hb) fun b hb q => World.cell?_of_block (a := ⟨b, q, none⟩) (keepT b (hT b hb).1 (hT b hb).2.1 (hT b hb).2.2)
  · have h1 : Below w.heap.size w w1 := (hbel.trans (hW.mono s0)).trans (hb1.mono (by omega))
    have h2 : Below w.heap.size w w2 := (h1.alloc (by omega) ob).grown hgrow (by simp; omega) (fun g hg => by have := hvo g hg; omega)
    exact h2.setCell (by simp) _

/-- Another block of the call's own, over the same step. -/
theorem ow_keep {w wr W0 w1 w2 : World} {o p j : Nat} {v : Value} {xs : List Value} {ob : Obj} {u : Value} {b : Nat} (hb : b < p) (hbo : b ≠ o) (hlt : w.heap.size + b < wr.heap.size)
    (hown : wr.ownsRow (w.heap.size + p) 28 5 v j xs) (hW : Below wr.heap.size wr W0) (hb1 : Below W0.heap.size W0 w1) (hgrow : (w1.alloc ob).grownBy w2 v.ownBlock) :
    (w2.setCell ⟨w.heap.size + o, 4, none⟩ u).heap[w.heap.size + b]? = wr.heap[w.heap.size + b]? := by
  have s1 := hW.size
  have s2 := hb1.size
  refine (heap_set (by simp; omega)).trans ((far_block hgrow (by omega) (fun h => ?_)).trans ((hb1.block _ (by omega)).trans (hW.block _ hlt)))
  have := own_row hown _ h
  omega

/-- What the loop has made is a copy. -/
theorem ow_end {w wr : World} {p : Nat} {v : Value} {T : Nat → Prop} {css : List (List Value)} {k i b : Int} {t : ByteArray} {l : List Tree} (hk : (Lit.int .i64 k).wf = true) (hi : (Lit.int .i64 i).wf = true) (hb : (Lit.int .u64 b).wf = true) (ht : t.size ≤ maxLen)
    (hcl : css.length = l.length) (hown : wr.ownsRow (w.heap.size + p) 28 5 v l.length css.flatten) (hT : ∀ b, T b → w.heap.size + p ≤ b ∧ b < wr.heap.size ∧ v.ownBlock ≠ some b)
    (h5 : ∀ cs ∈ css, cs.length = 5) (hE : ∀ (m : Nat) (x : Tree), m < l.length → l[m]? = some x → ∃ cs : List Value, css[m]? = some cs ∧ IsD wr T x cs) :
    ∃ a c, v = .slice a l.length c ∧ IsD wr (Btw (w.heap.size + p) wr.heap.size) (.node k i b t l) [.int .i64 k, .int .i64 i, .int .u64 b, .string t, .slice a l.length c] ∧ wr.ownsRow (w.heap.size + p) 28 5 (.slice a l.length c) l.length css.flatten := by
  obtain ⟨a, c, rfl⟩ := own_len hown
  refine ⟨a, c, rfl, IsD.shut hk hi hb ht ?_, hown⟩
  refine rows_of_own hown rfl hcl h5 (fun j x hj => ?_) (fun g h1 h2 _ => ⟨h1, h2⟩)
  obtain ⟨cs, h1, h2⟩ := hE j x (List.getElem?_eq_some_iff.1 hj).1 hj
  exact ⟨cs, h1, h2.mono fun b hb => ⟨by have := hT b hb; omega, (hT b hb).2.1⟩⟩

/-- The result's box is written: a copy is a copy still. -/
theorem copied_end {w wr : World} {p : Nat} {k i b : Int} {s : ByteArray} {a : Option Addr} {n c : Nat} {xs : List Value} {v0 v1 v2 v3 v4 : Value} {t : Tree} (hp : 1 < p) (hb : Below w.heap.size w wr)
    (hD : IsD wr (Btw (w.heap.size + p) wr.heap.size) t [.int .i64 k, .int .i64 i, .int .u64 b, .string s, .slice a n c]) (hO : wr.ownsRow (w.heap.size + p) 28 5 (.slice a n c) n xs) :
    Copied w t (.returned (.agg #[.int .i64 k, .int .i64 i, .int .u64 b, .string s, .slice a n c]))
      (((((wr.setCell ⟨w.heap.size + 1, 0, none⟩ v0).setCell ⟨w.heap.size + 1, 1, none⟩ v1).setCell ⟨w.heap.size + 1, 2, none⟩ v2).setCell ⟨w.heap.size + 1, 3, none⟩ v3).setCell ⟨w.heap.size + 1, 4, none⟩ v4) := by
  have hk : ∀ g, g ≠ w.heap.size + 1 → (((((wr.setCell ⟨w.heap.size + 1, 0, none⟩ v0).setCell ⟨w.heap.size + 1, 1, none⟩ v1).setCell ⟨w.heap.size + 1, 2, none⟩ v2).setCell ⟨w.heap.size + 1, 3, none⟩ v3).setCell ⟨w.heap.size + 1, 4, none⟩ v4).heap[g]? = wr.heap[g]? :=
    fun g h => (heap_set h).trans ((heap_set h).trans ((heap_set h).trans ((heap_set h).trans (heap_set h))))
  refine ⟨k, i, b, s, a, n, c, xs, rfl, ?_, ?_, ?_⟩
  · refine hD.keep (fun g hg => ⟨by have := hg.1; omega, by simp only [size_set]; exact hg.2⟩) fun g hg q => World.cell?_of_block (a := ⟨g, q, none⟩) (hk g (by have := hg.1; omega))
  · exact own_mono (own_keep hO fun g hg => hk g (by have := own_row hO g hg; omega)) (by omega)
  · exact ((((hb.setCell (by simp) _).setCell (by simp) _).setCell (by simp) _).setCell (by simp) _).setCell (by simp) _

theorem infoD : (Tryd.prog.info? 28).map (fun i => (i.zero, i.size, i.bytes)) = some (some (.agg #[.int .i64 0, .int .i64 0, .int .u64 0, .string ByteArray.empty, .slice none 0 0]), 5, 64) := by kernel_rfl
end Go.Proofs.YtmdcfmdjbncaoaaDoor
