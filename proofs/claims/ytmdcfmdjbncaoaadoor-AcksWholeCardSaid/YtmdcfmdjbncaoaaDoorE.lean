/- Rows of the call's own whose elements have memory: what keeps them, one more behind, other rows beside. -/
import Derived.Test.YtmdcfmdjbncaoaaDoorV
import Derived.Test.YtmdcfmdjbncaoaaDoorApp
namespace Go.Proofs.YtmdcfmdjbncaoaaDoor
open Go.RowKit

theorem below_on {w W w1 : World} (hb : Below W.heap.size W w1) (h : Below w.heap.size w W) : Below w.heap.size w w1 := h.trans (hb.mono h.size)
theorem cell_on {W w1 : World} (hb : Below W.heap.size W w1) {b o : Nat} {v : Value} (h : W.cell? ⟨b, o, none⟩ = some v) : w1.cell? ⟨b, o, none⟩ = some v := cell_over hb (World.block_lt_of_cell? _ _ h) h
/-- What an element is stays where its blocks stay. -/
def Keeps {α : Type} (E : World → (Nat → Prop) → α → List Value → Prop) : Prop :=
  ∀ (w w' : World) (S S' : Nat → Prop) (x : α) (cs : List Value), (∀ b, S b → S' b) → (∀ b, S b → w'.heap[b]? = w.heap[b]?) → E w S x cs → E w' S' x cs

structure OwnE {α : Type} (E : World → (Nat → Prop) → α → List Value → Prop) (T sz : Nat) (w : World) (B : Nat) (l : List α) (v : Value) (S : Nat → Prop) (css : List (List Value)) : Prop where
  len : css.length = l.length
  row : w.ownsRow B T sz v l.length css.flatten
  far : ∀ b, S b → B ≤ b ∧ b < w.heap.size ∧ v.ownBlock ≠ some b
  wide : ∀ cs ∈ css, cs.length = sz
  at_ : ∀ (j : Nat) (x : α), l[j]? = some x → ∃ cs : List Value, css[j]? = some cs ∧ E w S x cs

section
variable {α : Type} {E : World → (Nat → Prop) → α → List Value → Prop} {T sz : Nat} {w w' : World} {B : Nat} {l : List α} {v : Value} {S : Nat → Prop} {css : List (List Value)}

theorem OwnE.nil (w : World) (B : Nat) : OwnE E T sz w B ([] : List α) (.slice none 0 0) (fun _ => False) [] :=
  ⟨rfl, World.ownsRow_nil _ _ _ _, fun _ h => h.elim, fun _ h => absurd h (by simp), fun _ _ h => by simp at h⟩
theorem OwnE.keep (hE : Keeps E) (h : OwnE E T sz w B l v S css) (hsz : w.heap.size ≤ w'.heap.size) (hk : ∀ b, S b ∨ v.ownBlock = some b → w'.heap[b]? = w.heap[b]?) : OwnE E T sz w' B l v S css := by
  refine ⟨h.len, own_keep h.row fun g hg => hk g (.inr hg), fun b hb => ?_, h.wide, fun j x hx => ?_⟩
  · obtain ⟨h1, h2, h3⟩ := h.far b hb
    exact ⟨h1, by omega, h3⟩
  · obtain ⟨cs, h1, h2⟩ := h.at_ j x hx
    exact ⟨cs, h1, hE w w' S S x cs (fun _ h => h) (fun b hb => hk b (.inl hb)) h2⟩
theorem OwnE.below (hE : Keeps E) (h : OwnE E T sz w B l v S css) {C : Nat} (hb : Below C w w') (hC : w.heap.size ≤ C) : OwnE E T sz w' B l v S css :=
  h.keep hE hb.size fun b hx => hb.block b (by
    rcases hx with hx | hx
    · exact Nat.lt_of_lt_of_le (h.far b hx).2.1 hC
    · exact Nat.lt_of_lt_of_le (own_row h.row b hx).2 hC)
theorem OwnE.alloc (hE : Keeps E) (h : OwnE E T sz w B l v S css) (o : Obj) : OwnE E T sz (w.alloc o) B l v S css := h.below hE ((Below.refl w.heap.size w).alloc (Nat.le_refl _) o) (Nat.le_refl _)
theorem OwnE.drew (h : OwnE E T sz w B l v S css) (hE : Keeps E) : OwnE E T sz w.drew B l v S css := h.keep hE (Nat.le_refl _) fun _ _ => rfl
theorem OwnE.drewN (h : OwnE E T sz w B l v S css) (hE : Keeps E) (n : Nat) : OwnE E T sz (w.drewN n) B l v S css := h.keep hE (Nat.le_refl _) fun _ _ => rfl
theorem OwnE.set (hE : Keeps E) (h : OwnE E T sz w B l v S css) {p : Addr} {u : Value} (h1 : ¬ S p.block) (h2 : v.ownBlock ≠ some p.block) : OwnE E T sz (w.setCell p u) B l v S css :=
  h.keep hE (by simp) fun b hx => heap_set (by
    rintro rfl
    rcases hx with hx | hx
    · exact h1 hx
    · exact h2 hx)
theorem OwnE.mono {B' : Nat} (h : OwnE E T sz w B l v S css) (hB : B' ≤ B) : OwnE E T sz w B' l v S css :=
  ⟨h.len, own_mono h.row hB, fun b hb => by obtain ⟨h1, h2, h3⟩ := h.far b hb; exact ⟨by omega, h2, h3⟩, h.wide, h.at_⟩
theorem OwnE.imp {E' : World → (Nat → Prop) → α → List Value → Prop} (h : OwnE E T sz w B l v S css) (hE : ∀ x cs, E w S x cs → E' w S x cs) : OwnE E' T sz w B l v S css :=
  ⟨h.len, h.row, h.far, h.wide, fun j x hx => by obtain ⟨cs, h1, h2⟩ := h.at_ j x hx; exact ⟨cs, h1, hE x cs h2⟩⟩
theorem OwnE.slice (h : OwnE E T sz w B l v S css) : ∃ a c, v = .slice a l.length c := own_len h.row
theorem OwnE.rows {a : Option Addr} {n c : Nat} (hE : Keeps E) (h : OwnE E T sz w B l (.slice a n c) S css) : RowsOf (E w (Btw B w.heap.size)) sz w (Btw B w.heap.size) l a n c := by
  obtain ⟨a', c', he⟩ := own_len h.row
  injection he with ha hn hc
  subst ha hc hn
  refine rows_of_own h.row rfl h.len h.wide (fun j x hx => ?_) (fun g h1 h2 _ => ⟨h1, h2⟩)
  obtain ⟨cs, h1, h2⟩ := h.at_ j x hx
  exact ⟨cs, h1, hE w w S _ x cs (fun b hb => ⟨(h.far b hb).1, (h.far b hb).2.1⟩) (fun _ _ => rfl) h2⟩
theorem OwnE.far_lt (h : OwnE E T sz w B l v S css) (b : Nat) (hb : v.ownBlock = some b) : B ≤ b ∧ b < w.heap.size := own_row h.row b hb

/-- One more behind. -/
theorem OwnE.snoc {w1 w2 : World} {Sx : Nat → Prop} {x : α} {cs1 : List Value} {g2 n2 cap2 : Nat} {ob : Obj} (hE : Keeps E) (h : OwnE E T sz w1 B l v S css) (hx : E w1 Sx x cs1) (hcs : cs1.length = sz)
    (hSx : ∀ b, Sx b → B ≤ b ∧ b < w1.heap.size ∧ v.ownBlock ≠ some b) (hown : w2.ownsRow B T sz (.slice (some ⟨g2, 0, none⟩) n2 cap2) n2 (css.flatten ++ cs1)) (hn : n2 = l.length + 1)
    (hgrow : (w1.alloc ob).grownBy w2 v.ownBlock) (hat : v.ownBlock = some g2 ∨ g2 = w1.heap.size + 1) : OwnE E T sz w2 B (l ++ [x]) (.slice (some ⟨g2, 0, none⟩) n2 cap2) (fun b => S b ∨ Sx b) (css ++ [cs1]) := by
  have hs : w1.heap.size + 1 ≤ w2.heap.size := by have := hgrow.size; simpa using this
  have hnb : ∀ b, b < w1.heap.size → v.ownBlock ≠ some b → (Value.slice (some ⟨g2, 0, none⟩) n2 cap2).ownBlock ≠ some b := by
    intro b h1 h2 h3
    have : g2 = b := by simpa [Value.ownBlock] using h3
    subst this
    rcases hat with h4 | h4
    · exact h2 h4
    · omega
  have hk : ∀ b, b < w1.heap.size → v.ownBlock ≠ some b → w2.heap[b]? = w1.heap[b]? := fun b h1 h2 => far_block hgrow h1 h2
  refine ⟨by simp [h.len], ?_, fun b hb => ?_, fun cs hc => ?_, fun j y hy => ?_⟩
  · rw [← flat_snoc, List.length_append, List.length_singleton, ← hn]; exact hown
  · rcases hb with hb | hb
    · obtain ⟨h1, h2, h3⟩ := h.far b hb
      exact ⟨h1, by omega, hnb b h2 h3⟩
    · obtain ⟨h1, h2, h3⟩ := hSx b hb
      exact ⟨h1, by omega, hnb b h2 h3⟩
  · rcases List.mem_append.1 hc with hc | hc
    · exact h.wide cs hc
    · rw [List.mem_singleton.1 hc]; exact hcs
  · rcases Nat.lt_trichotomy j l.length with hj | hj | hj
    · rw [List.getElem?_append_left hj] at hy
      obtain ⟨cs, h1, h2⟩ := h.at_ j y hy
      refine ⟨cs, by rw [List.getElem?_append_left (by rw [h.len]; exact hj)]; exact h1, ?_⟩
      exact hE w1 w2 S _ y cs (fun b hb => .inl hb) (fun b hb => hk b (h.far b hb).2.1 (h.far b hb).2.2) h2
    · rw [List.getElem?_append_right (by omega), hj, Nat.sub_self] at hy
      have hxy : x = y := by simpa using hy
      subst hxy
      refine ⟨cs1, by rw [List.getElem?_append_right (by rw [h.len]; omega), h.len, hj, Nat.sub_self]; rfl, ?_⟩
      exact hE w1 w2 Sx _ x cs1 (fun b hb => .inr hb) (fun b hb => hk b (hSx b hb).2.1 (hSx b hb).2.2) hx
    · rw [List.getElem?_eq_none (by simp; omega)] at hy
      cases hy
theorem OwnE.row_at {wr W0 w2 : World} (h : OwnE E T sz wr B l v S css) (hE : Keeps E) (hW : Below wr.heap.size wr W0) (hb : Below W0.heap.size W0 w2) : OwnE E T sz w2 B l v S css :=
  h.below hE (hW.trans (hb.mono hW.size)) (Nat.le_refl _)
/-- An element is made and put behind: all that stands behind it. -/
theorem OwnE.grow {wr W0 w2 w5 : World} {x : α} {cs1 : List Value} {g5 n5 cap5 : Nat} {ob : Obj} (hE : Keeps E) (h : OwnE E T sz wr B l v S css) (hW : Below wr.heap.size wr W0) (hb : Below W0.heap.size W0 w2) (hB : B ≤ wr.heap.size)
    (hx : E w2 (Btw W0.heap.size w2.heap.size) x cs1) (hcs : cs1.length = sz) (hown : w5.ownsRow B T sz (.slice (some ⟨g5, 0, none⟩) n5 cap5) n5 (css.flatten ++ cs1)) (hn : n5 = l.length + 1)
    (hgrow : (w2.alloc ob).grownBy w5 v.ownBlock) (hat : v.ownBlock = some g5 ∨ g5 = w2.heap.size + 1) :
    OwnE E T sz w5 B (l ++ [x]) (.slice (some ⟨g5, 0, none⟩) n5 cap5) (fun b => S b ∨ Btw W0.heap.size w2.heap.size b) (css ++ [cs1]) ∧ (∀ q, q < wr.heap.size → v.ownBlock ≠ some q → w5.heap[q]? = wr.heap[q]?) ∧ wr.heap.size < w5.heap.size ∧
      (∀ C, C ≤ B → Below C wr w5) := by
  have h2 := h.row_at hE hW hb
  have s1 := hW.size
  have s2 := hb.size
  have s5 : w2.heap.size + 1 ≤ w5.heap.size := by have := hgrow.size; simpa using this
  have hvo := h.far_lt
  refine ⟨OwnE.snoc hE h2 hx hcs (fun b hb => ⟨by have := hb.1; omega, hb.2, fun e => by have := (hvo b e).2; have := hb.1; omega⟩) hown hn hgrow hat, fun q h1 h3 => ?_, by omega, fun C hC => ?_⟩
  · exact (far_block hgrow (by omega) h3).trans ((hb.block q (by omega)).trans (hW.block q h1))
  · exact (((hW.mono (by omega)).trans (hb.mono (by omega))).alloc (by omega) ob).grown hgrow (by simp; omega) (fun g hg => by have := (hvo g hg).1; omega)
/-- Another row beside one that grows. -/
theorem OwnE.aside {w1 w2 : World} {row : Option Nat} {ob : Obj} (hE : Keeps E) (h : OwnE E T sz w1 B l v S css) (hgrow : (w1.alloc ob).grownBy w2 row) (h1 : ∀ b, S b → row ≠ some b) (h2 : ∀ b, v.ownBlock = some b → row ≠ some b) : OwnE E T sz w2 B l v S css :=
  h.keep hE (by have := hgrow.size; simp at this; omega) fun b hb => by
    rcases hb with hb | hb
    · exact far_block hgrow (h.far b hb).2.1 (h1 b hb)
    · exact far_block hgrow (own_row h.row b hb).2 (h2 b hb)
end
end Go.Proofs.YtmdcfmdjbncaoaaDoor
