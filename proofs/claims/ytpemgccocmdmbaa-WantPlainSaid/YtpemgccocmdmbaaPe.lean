/- Plain: what stands in memory at its ends. -/
import Derived.Test.YtpemgccocmdmbaaPw
namespace Go.Proofs.Ytpemgccocmdmbaa
open Go.RowKit Go.Deep

/-- A pattern of two parts or fewer in a block of the call's own. -/
theorem own_made {w W : World} {op num : Int} {g : Nat} {T : TypeId} {l : List WT} {css : List (List Value)} (hB : Below w.heap.size w W) (hb : Blk W g T css.flatten.toArray) (hg : w.heap.size ≤ g) (hm : l.length ≤ maxLen)
    (hE : ∀ (j : Nat) (x : WT), l[j]? = some x → ∃ cs : List Value, css[j]? = some cs ∧ IsW W (Btw w.heap.size W.heap.size) x cs) (hl : css.length = l.length) {n : Nat} (hn : n = l.length) (hs : n * 3 ≤ css.flatten.length) :
    OwnW w (.node op num l) [.int .i64 op, .int .i64 num, .slice (some ⟨g, 0, none⟩) n n] W :=
  ⟨IsW.made hb ⟨hg, hb.lt⟩ hm hE hl hn, ⟨op, num, _, n, n, rfl, fun _ => ⟨g, T, _, rfl, hg, hb, by simpa using hs⟩⟩, hB⟩

theorem two_in {w : World} {S : Nat → Prop} {x y : WT} {cx cy : List Value} (hx : IsW w S x cx) (hy : IsW w S y cy) : ∀ (j : Nat) (z : WT), [x, y][j]? = some z → ∃ cs : List Value, [cx, cy][j]? = some cs ∧ IsW w S z cs := fun j z hz => by
  match j, hz with
  | 0, hz => simp at hz; subst hz; exact ⟨_, rfl, hx⟩
  | 1, hz => simp at hz; subst hz; exact ⟨_, rfl, hy⟩
theorem one_in {w : World} {S : Nat → Prop} {x : WT} {cx : List Value} (hx : IsW w S x cx) : ∀ (j : Nat) (z : WT), [x][j]? = some z → ∃ cs : List Value, [cx][j]? = some cs ∧ IsW w S z cs := fun j z hz => by
  match j, hz with
  | 0, hz => simp at hz; subst hz; exact ⟨_, rfl, hx⟩

theorem end_pair {w W : World} {g g2 : Nat} {T T' : TypeId} {x : WT} {u0 u1 u2 : Value} (o n : Int) (hB : Below w.heap.size w W) (hg : w.heap.size ≤ g) (hg2 : w.heap.size ≤ g2) (hx : IsW W (Btw w.heap.size W.heap.size) x [u0, u1, u2])
    (h1 : Blk W g T #[.int .i64 o, .int .i64 n, .slice none 0 0]) (h2 : Blk W g2 T' #[u0, u1, u2, .int .i64 6, .int .i64 0, .slice (some ⟨g, 0, none⟩) 1 1]) :
    OwnW w (.node 5 0 [x, .node 6 0 [.node o n []]]) [.int .i64 5, .int .i64 0, .slice (some ⟨g2, 0, none⟩) 2 2] W := by
  have hn : IsW W (Btw w.heap.size W.heap.size) (.node 6 0 [.node o n []]) [.int .i64 6, .int .i64 0, .slice (some ⟨g, 0, none⟩) 1 1] :=
    IsW.made (l := [.node o n []]) (css := [[.int .i64 o, .int .i64 n, .slice none 0 0]]) (by simpa using h1) ⟨hg, h1.lt⟩ (show 1 ≤ maxLen by decide) (one_in (IsW.leaf _ _ o n)) rfl rfl
  exact own_made (l := [x, .node 6 0 [.node o n []]]) (css := [[u0, u1, u2], [.int .i64 6, .int .i64 0, .slice (some ⟨g, 0, none⟩) 1 1]]) hB (by simpa using h2) hg2 (show 2 ≤ maxLen by decide) (two_in hx hn) rfl rfl (by simp)

theorem end_zero {w W : World} {g g2 : Nat} {T T' : TypeId} (hB : Below w.heap.size w W) (hg : w.heap.size ≤ g) (hg2 : w.heap.size ≤ g2) (h1 : Blk W g T #[.int .i64 1, .int .i64 0, .slice none 0 0])
    (h2 : Blk W g2 T' #[.int .i64 1, .int .i64 0, .slice none 0 0, .int .i64 6, .int .i64 0, .slice (some ⟨g, 0, none⟩) 1 1]) :
    OwnW w (ofT 0) [.int .i64 5, .int .i64 0, .slice (some ⟨g2, 0, none⟩) 2 2] W := by
  rw [ofT, if_pos rfl]
  exact end_pair 1 0 hB hg hg2 (IsW.leaf _ _ 1 0) h1 h2

theorem end_over {w W : World} {s g g2 : Nat} {T T' : TypeId} {u0 u1 u2 : Value} (hs : s ≠ 0) (ho : overB s = true) (hB : Below w.heap.size w W) (hg : w.heap.size ≤ g) (hg2 : w.heap.size ≤ g2) (hx : IsW W (Btw w.heap.size W.heap.size) (baseT s) [u0, u1, u2])
    (h1 : Blk W g T #[.int .i64 2, .int .i64 12, .slice none 0 0]) (h2 : Blk W g2 T' #[u0, u1, u2, .int .i64 6, .int .i64 0, .slice (some ⟨g, 0, none⟩) 1 1]) :
    OwnW w (ofT s) [.int .i64 5, .int .i64 0, .slice (some ⟨g2, 0, none⟩) 2 2] W := by
  rw [ofT, if_neg hs, if_pos ho]
  exact end_pair 2 12 hB hg hg2 hx h1 h2

theorem end_many {w W : World} {s B : Nat} {a : Option Addr} {c : Nat} (hl : 1 < (plainK s 14).length) (hB : Below w.heap.size w W) (hb : w.heap.size ≤ B) (h : W.ownsRow B 24 3 (.slice a (plainK s 14).length c) (plainK s 14).length (flatC (plainK s 14))) :
    OwnW w (baseT s) [.int .i64 4, .int .i64 0, .slice a (plainK s 14).length c] W := by
  refine ⟨?_, ⟨4, 0, a, _, c, rfl, fun h0 => ?_⟩, hB⟩
  · rw [baseT, if_pos hl]
    exact (IsW.shut (row_leaves h)).mono fun q hq => ⟨Nat.le_trans hb hq.1, hq.2⟩
  · rcases h.2 with ⟨_, h2⟩ | ⟨g, cap, cur, hv, hg, hh, h3, _, h5, _⟩
    · omega
    · injection hv with e1 e2 e3
      subst e1 e3
      refine ⟨g, _, cur, rfl, Nat.le_trans hb hg, hh, ?_⟩
      rw [h5]
      exact Nat.mul_le_mul_right 3 h3
theorem many_is {W : World} {s B : Nat} {a : Option Addr} {c : Nat} (hl : 1 < (plainK s 14).length) (h : W.ownsRow B 24 3 (.slice a (plainK s 14).length c) (plainK s 14).length (flatC (plainK s 14))) :
    IsW W (Btw B W.heap.size) (baseT s) [.int .i64 4, .int .i64 0, .slice a (plainK s 14).length c] := by
  rw [baseT, if_pos hl]
  exact IsW.shut (row_leaves h)
theorem one_is {W : World} {S : Nat → Prop} {s k : Nat} (hl : plainK s 14 = [k]) : IsW W S (baseT s) [.int .i64 2, .int .i64 k, .slice none 0 0] := by
  have e : baseT s = leafW k := by rw [baseT, hl]; simp
  rw [e]
  exact IsW.leaf _ _ 2 k
theorem cell_set3 {w : World} {B b j : Nat} {x y z : Value} (hne : b ≠ B) : (((w.setCell ⟨B, 0, none⟩ x).setCell ⟨B, 1, none⟩ y).setCell ⟨B, 2, none⟩ z).cell? ⟨b, j, none⟩ = w.cell? ⟨b, j, none⟩ :=
  World.cell?_of_block (a := ⟨b, j, none⟩) ((heap_set hne).trans ((heap_set hne).trans (heap_set hne)))
theorem end_one {w W : World} {s k : Nat} (hl : plainK s 14 = [k]) (hB : Below w.heap.size w W) : OwnW w (baseT s) [.int .i64 2, .int .i64 k, .slice none 0 0] W := by
  have e : baseT s = leafW k := by rw [baseT, hl]; simp
  rw [e]
  exact ⟨IsW.leaf _ _ 2 k, ⟨2, k, _, 0, _, rfl, fun h0 => by omega⟩, hB⟩
theorem end_base {w W : World} {s : Nat} {cs : List Value} (hs : s ≠ 0) (ho : overB s = false) (h : OwnW w (baseT s) cs W) : OwnW w (ofT s) cs W := by
  rw [ofT, if_neg hs, ho]
  exact h
end Go.Proofs.Ytpemgccocmdmbaa
