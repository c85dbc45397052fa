/- slices.Delete of one element: what a row of the call's own is behind it. -/
import Derived.Test.YtmdcfmdjbncaoaaE
import Derived.Test.YtmdcfmdjbncaoaaBw
namespace Go.Proofs.Ytmdcfmdjbncaoaa
open Go.RowKit

theorem zero_one (cells : List Value) (_h : 0 < cells.length) : (Builtin.zeroCells cells.toArray 1).toList = cells := by
  simp only [Builtin.zeroCells, List.size_toArray, Nat.one_mul]
  apply List.ext_getElem
  · simp
  · intro i h1 h2
    simp at h1
    simp [Nat.mod_eq_of_lt h2, h2]
theorem run_clear_one {P : Program} (w : World) (t e ty : TypeId) (z : Value) (cells : List Value) (ht : P.underlying t = some (.slice e)) (hv : ∀ w, (zeroValue e).run P w = .ok z w) (hz : z.cells = cells.toArray) (h0 : 0 < cells.length) (h1 : ∀ v ∈ cells, v.oneCell' = true) (b o c : Nat)
    (hth : w.there b o cells.length) : (Builtin.clear_ #[t] ty #[.slice (some ⟨b, o, none⟩) 1 c]).run P w = .ok (.tuple #[]) (w.setCells b o cells) := by
  have hzc : (Builtin.zeroCells z.cells 1).toList = cells := by rw [hz]; exact zero_one cells h0
  have hst := run_storeCells_cells (P := P) b o cells 0 w (fun j hj => by simpa using (hth j hj).1) (fun j hj => by simpa using (hth j hj).2) h1
  simp only [Nat.add_zero] at hst
  simp [Builtin.clear_, run_underlying ht, hv, hzc, hst]

section
variable {α : Type} {E : World → (Nat → Prop) → α → List Value → Prop} {T sz : Nat} {w w' : World} {B : Nat} {l : List α} {S : Nat → Prop} {css : List (List Value)} {n c b : Nat} {a : Option Addr}
/-- What a row's block holds: what stands ahead of the k-th, it, what stands behind, what is spare. -/
theorem OwnE.parts (h : OwnE E T sz w B l (.slice a n c) S css) {k : Nat} (hk : k < n) : ∃ b X spare, a = some ⟨b, 0, none⟩ ∧ n = l.length ∧ css[k]? = some X ∧ X.length = sz ∧ spare.length = (c - n) * sz ∧ n ≤ c ∧ c ≤ maxLen ∧ B ≤ b ∧
    Blk w b T ((css.take k).flatten ++ X ++ (css.drop (k + 1)).flatten ++ spare).toArray ∧ (css.take k).flatten.length = k * sz ∧ (css.drop (k + 1)).flatten.length = (n - (k + 1)) * sz := by
  obtain ⟨a', c', he⟩ := own_len h.row
  injection he with h1 h2 h3
  subst h1 h2 h3
  have hl := h.len
  obtain ⟨hx, hr⟩ := h.row
  rcases hr with ⟨_, h0⟩ | ⟨g, cap, cur, hv, hg, hh, hnc, hcm, hcs, htake⟩
  · omega
  injection hv with h1 _ h3
  subst h1 h3
  have hX : css[k]? = some (css[k]'(by omega)) := List.getElem?_eq_getElem (by omega)
  have hXl := h.wide _ (List.mem_of_getElem? hX)
  have hflat : ∀ cs : List (List Value), (∀ x ∈ cs, x.length = sz) → cs.flatten.length = cs.length * sz := fun cs hw => flatten_len hw
  have hcss : css = css.take k ++ css[k]'(by omega) :: css.drop (k + 1) := by
    rw [← List.drop_eq_getElem_cons (by omega), List.take_append_drop]
  have h4 : css.flatten = (css.take k).flatten ++ css[k]'(by omega) ++ (css.drop (k + 1)).flatten := by
    conv => lhs; rw [hcss]
    simp only [List.flatten_append, List.flatten_cons, List.append_assoc]
  refine ⟨g, _, cur.toList.drop (l.length * sz), rfl, rfl, hX, hXl, ?_, hnc, hcm, hg, ?_, ?_, ?_⟩
  · rw [List.length_drop, Array.length_toList, hcs, Nat.sub_mul]
  · rw [← h4, ← htake, List.take_append_drop]
    exact hh
  · rw [hflat _ (fun x hx => h.wide x (List.mem_of_mem_take hx)), List.length_take, Nat.min_eq_left (by omega)]
  · rw [hflat _ (fun x hx => h.wide x (List.mem_of_mem_drop hx)), List.length_drop, hl]

theorem OwnE.erase (hE : Keeps E) (h : OwnE E T sz w B l (.slice (some ⟨b, 0, none⟩) n c) S css) {k : Nat} (hk : k < n) {spare zs : List Value} (hn : n = l.length) (hnc : n ≤ c) (hcm : c ≤ maxLen) (hB : B ≤ b) (hzs : zs.length = sz) (hsp : spare.length = (c - n) * sz)
    (hb : Blk w' b T ((css.take k).flatten ++ (css.drop (k + 1)).flatten ++ zs ++ spare).toArray) (hfar : ∀ q, q ≠ b → w'.heap[q]? = w.heap[q]?) (hsize : w'.heap.size = w.heap.size)
    (h1 : (css.take k).flatten.length = k * sz) (h2 : (css.drop (k + 1)).flatten.length = (n - (k + 1)) * sz) : OwnE E T sz w' B (l.eraseIdx k) (.slice (some ⟨b, 0, none⟩) (n - 1) c) S (css.eraseIdx k) := by
  have hl := h.len
  have hle : (l.eraseIdx k).length = n - 1 := by rw [List.length_eraseIdx]; split <;> omega
  have hfl : (css.eraseIdx k).flatten = (css.take k).flatten ++ (css.drop (k + 1)).flatten := by rw [List.eraseIdx_eq_take_drop_succ, List.flatten_append]
  have hfll : (css.eraseIdx k).flatten.length = (n - 1) * sz := by
    rw [hfl, List.length_append, h1, h2, ← Nat.add_mul]
    congr 1
    omega
  refine ⟨by rw [hle, List.length_eraseIdx]; split <;> omega, ?_, fun q hq => ?_, fun cs hcs => h.wide cs (List.mem_of_mem_eraseIdx hcs), fun j x hx => ?_⟩
  · rw [hle]
    refine ⟨hfll, .inr ⟨b, c, _, rfl, hB, hb, by omega, hcm, ?_, ?_⟩⟩
    · rw [List.size_toArray, List.length_append, List.length_append, ← hfl, hfll, hzs, hsp]
      have e : c = (n - 1) + 1 + (c - n) := by omega
      conv => rhs; rw [e, Nat.add_mul, Nat.add_mul, Nat.one_mul]
    · rw [List.toList_toArray, ← hfl, List.append_assoc, List.take_left' hfll]
  · obtain ⟨g1, g2, g3⟩ := h.far q hq
    exact ⟨g1, by omega, g3⟩
  · have hne : ∀ q, S q → q ≠ b := fun q hq e => (h.far q hq).2.2 (by rw [e]; rfl)
    rw [List.getElem?_eraseIdx] at hx
    rw [List.getElem?_eraseIdx]
    split
    · rename_i hj
      rw [if_pos hj] at hx
      obtain ⟨cs, g1, g2⟩ := h.at_ j x hx
      exact ⟨cs, g1, hE w w' S S x cs (fun _ h => h) (fun q hq i => World.cell?_of_block (a := ⟨q, i, none⟩) (hfar q (hne q hq))) g2⟩
    · rename_i hj
      rw [if_neg hj] at hx
      obtain ⟨cs, g1, g2⟩ := h.at_ (j + 1) x hx
      exact ⟨cs, g1, hE w w' S S x cs (fun _ h => h) (fun q hq i => World.cell?_of_block (a := ⟨q, i, none⟩) (hfar q (hne q hq))) g2⟩
end
end Go.Proofs.Ytmdcfmdjbncaoaa
