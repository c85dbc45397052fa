/- Shut: rows of structs as arguments; what a closing has done so far. -/
import Derived.Test.YtmkbdjekidcfaaaShF
import Derived.Test.YtmkbdjekidcfaaaOrders
namespace Go.Proofs.Ytmkbdjekidcfaaa
open Go.RowKit

/-- A row of structs, each of sz cells. -/
def StAt {α : Type} (f : α → List Value) (sz : Nat) (w : World) (v : Value) (l : List α) : Prop :=
  ∃ a c, v = .slice a l.length c ∧ l.length ≤ c ∧ c ≤ maxLen ∧ ∀ (j : Nat) (x : α), l[j]? = some x → ∃ g, a = some ⟨g, 0, none⟩ ∧ g < w.heap.size ∧ w.rangeAt g (j * sz) (f x)
section
variable {α : Type} {f : α → List Value} {sz : Nat} {w w' : World} {v : Value} {l : List α}
theorem StAt.wt {W : Nat → Prop} (h : StAt f sz w v l) (ht : WT W w w') (hW : ∀ g, v.ownBlock = some g → ¬ W g) : StAt f sz w' v l := by
  obtain ⟨a, c, rfl, h1, h2, h3⟩ := h
  refine ⟨a, c, rfl, h1, h2, fun j x hj => ?_⟩
  obtain ⟨g, rfl, hg, hr⟩ := h3 j x hj
  exact ⟨g, rfl, Nat.lt_of_lt_of_le hg ht.size, fun k u hu => ht.cell (hW g rfl) (hr k u hu)⟩
theorem StAt.below (h : StAt f sz w v l) (hb : Below w.heap.size w w') : StAt f sz w' v l := h.wt (WT.of_below (W := fun _ => False) hb) fun _ _ e => e
theorem StAt.own_lt (h : StAt f sz w v l) (hl : l ≠ []) : ∀ g, v.ownBlock = some g → g < w.heap.size := fun g hg => by
  obtain ⟨a, c, rfl, h1, h2, h3⟩ := h
  cases l with
  | nil => exact absurd rfl hl
  | cons x r =>
    obtain ⟨g', rfl, hg', -⟩ := h3 0 x rfl
    simp [Value.ownBlock] at hg
    subst hg
    exact hg'
theorem StAt.of_own {B T : Nat} (h : w.ownsRow B T sz v l.length (l.map f).flatten) (hsz : ∀ x, (f x).length = sz) : StAt f sz w v l := by
  obtain ⟨a, c, rfl⟩ := own_len h
  have hc : l.length ≤ c ∧ c ≤ maxLen := by
    rcases h.2 with ⟨h1, h2⟩ | ⟨g, cap, cur, hv, _, _, h3, h4, _⟩
    · injection h1 with _ h5 h6
      subst h6
      rw [h5]
      exact ⟨by omega, by unfold maxLen; omega⟩
    · injection hv with _ _ h6
      subst h6
      exact ⟨h3, h4⟩
  refine ⟨a, c, rfl, hc.1, hc.2, fun j x hj => ?_⟩
  have h0 : 0 < l.length := by have := (List.getElem?_eq_some_iff.1 hj).1; omega
  obtain ⟨g, cap, hv, hg, hlt⟩ := h.form h0
  have ha : a = some ⟨g, 0, none⟩ := by injection hv
  refine ⟨g, ha, hlt, fun m u hm => ?_⟩
  have := h.cells (g := g) (by rw [ha]; rfl) (j * sz + m) u (flat_get (sz := sz) (fun cs hcs => by obtain ⟨y, -, rfl⟩ := List.mem_map.1 hcs; exact hsz y) (by rw [List.getElem?_map, hj]; rfl) m u hm)
  rw [Addr.add_mid] at this
  simpa using this
/-- The element at j. -/
theorem StAt.get (h : StAt f sz w v l) {j : Nat} (hj : j < l.length) : ∃ g c, v = .slice (some ⟨g, 0, none⟩) l.length c ∧ g < w.heap.size ∧ w.rangeAt g (j * sz) (f l[j]) := by
  obtain ⟨a, c, rfl, h1, h2, h3⟩ := h
  obtain ⟨g, rfl, hg, hr⟩ := h3 j l[j] (List.getElem?_eq_getElem hj)
  exact ⟨g, c, rfl, hg, hr⟩
end
theorem rcs_len (r : Rs) : (rcs r).length = 10 := rfl
theorem dcs_len (d : Int × Rs) : (dcs d).length = 11 := rfl

/-- A result of which nothing is known. -/
def zr : Rs := ⟨0, 0, 0, 0, false⟩
def outAt (outs : List Rs) (i : Nat) : Rs := outs.getD i zr
def dsOf (outs : List Rs) (L : List Nat) : List (Int × Rs) := L.map fun i : Nat => ((i : Int), outAt outs i)
def goodOf (outs : List Rs) (L : List Nat) : Bool := L.all fun i => decide ((outAt outs i).err = 0)
theorem dsOf_snoc (outs : List Rs) (L : List Nat) (i : Nat) : dsOf outs (L ++ [i]) = dsOf outs L ++ [((i : Int), outAt outs i)] := by simp [dsOf]
theorem goodOf_snoc (outs : List Rs) (L : List Nat) (i : Nat) : goodOf outs (L ++ [i]) = (goodOf outs L && decide ((outAt outs i).err = 0)) := by simp [goodOf]
theorem dsOf_length (outs : List Rs) (L : List Nat) : (dsOf outs L).length = L.length := by simp [dsOf]

/-- What is done: the things of L are closed. -/
structure CS (W2 wr : World) (outs : List Rs) (Bk : Nat → Nat) (C : Nat) (L : List Nat) (v : Value) : Prop where
  clo : Clo wr W2.heap.size C (dsOf outs L) (goodOf outs L) v
  wt : WT (fun g => g = C ∨ ∃ i ∈ L, g = Bk i) W2 wr
section
variable {W2 wr w1 w2 : World} {outs : List Rs} {Bk Mk : Nat → Nat} {C n : Nat} {L : List Nat} {v v' : Value}
theorem CS.thing (h : CS W2 wr outs Bk C L v) {i : Nat} (hi : i < n) (hL : ∀ j ∈ L, j < n) (hn : i ∉ L) (hobj : ∀ i, i < n → W2.heap[Bk i]? = some (thingObj i (Mk i))) (hinj : ∀ i j, i < n → j < n → Bk i = Bk j → i = j) (hC : ∀ i, i < n → Bk i ≠ C) : wr.heap[Bk i]? = some (thingObj i (Mk i)) :=
  (h.wt.far _ (Array.getElem?_eq_some_iff.1 (hobj i hi)).1 fun e => by
    rcases e with e | ⟨j, hj, e⟩
    · exact hC i hi e
    · exact hn (hinj i j hi (hL j hj) e ▸ hj)).trans (hobj i hi)
theorem CS.close (h : CS W2 wr outs Bk C L v) (hb : Below wr.heap.size wr w1) {i : Nat} (hcl : Clo w2 W2.heap.size C (dsOf outs L ++ [((i : Int), outAt outs i)]) (goodOf outs L && decide ((outAt outs i).err = 0)) v')
    (ht : WT (fun g => g = C ∨ v.ownBlock = some g ∨ g = Bk i) w1 w2) : CS W2 w2 outs Bk C (L ++ [i]) v' where
  clo := by rw [dsOf_snoc, goodOf_snoc]; exact hcl
  wt := by
    refine ((h.wt.more (W' := fun g => g = C ∨ ∃ j ∈ L ++ [i], g = Bk j) fun g e => e.imp (fun e => e) fun ⟨j, hj, e⟩ => ⟨j, by simp [hj], e⟩).trans (WT.of_below (W := fun _ => False) hb) fun _ e => e.elim).trans ht fun g e => ?_
    rcases e with e | e | e
    · exact .inl (.inl e)
    · exact .inr (own_row h.clo.row g e).1
    · exact .inl (.inr ⟨i, by simp, e⟩)
end
theorem int_at {w : World} {B : Nat} {a : Option Addr} {c : Nat} {L : List Nat} (h : OwnInts w B (.slice a L.length c) L) {j : Nat} (hj : j < L.length) :
    ∃ g, a = some ⟨g, 0, none⟩ ∧ g < w.heap.size ∧ B ≤ g ∧ w.cell? ⟨g, j, none⟩ = some (.int .i64 ((L[j] : Nat) : Int)) := by
  obtain ⟨g, cap, e, hc, -⟩ := own_at h hj
  simp only [Value.slice.injEq] at e
  obtain ⟨rfl, -, -⟩ := e
  exact ⟨g, rfl, (own_row h g rfl).2, (own_row h g rfl).1, by rw [hc]; simp [hj]⟩

/-- The things in the order of closing. -/
def FL (rows : List (List Int)) : List Nat := ordOf rows ++ cycOf rows
def rowK (rows : List (List Int)) (k : Nat) : List Nat := if k = 0 then ordOf rows else cycOf rows
def preK (rows : List (List Int)) (k : Nat) : List Nat := if k = 0 then [] else if k = 1 then ordOf rows else FL rows
theorem FL_nodup (rows : List (List Int)) : (FL rows).Nodup := by
  unfold FL
  rw [List.nodup_append]
  refine ⟨(ordOf_inv rows).1, ?_, fun a ha b hb e => ?_⟩
  · unfold cycOf List.Nodup
    exact List.Pairwise.filter _ List.nodup_range
  · subst e
    unfold cycOf at hb
    have := (List.mem_filter.1 hb).2
    simp at this
    exact this ha
theorem FL_lt (rows : List (List Int)) : ∀ i ∈ FL rows, i < rows.length := fun i hi => by
  unfold FL at hi
  exact (List.mem_append.1 hi).elim ((ordOf_inv rows).2 i) (cycOf_lt rows i)
theorem FL_length (rows : List (List Int)) : (FL rows).length ≤ rows.length := nodup_le _ _ (FL_nodup rows) (FL_lt rows)
theorem preK_step {rows : List (List Int)} {k : Nat} (hk : k < 2) : preK rows k ++ rowK rows k = preK rows (k + 1) := by
  obtain rfl | rfl : k = 0 ∨ k = 1 := by omega
  · rfl
  · rfl
theorem preK_two (rows : List (List Int)) : preK rows 2 = FL rows := rfl
theorem sub_FL {rows : List (List Int)} {k j : Nat} (hk : k < 2) : ∃ r, FL rows = preK rows k ++ (rowK rows k).take j ++ r := by
  obtain rfl | rfl : k = 0 ∨ k = 1 := by omega
  · exact ⟨(ordOf rows).drop j ++ cycOf rows, by simp [preK, rowK, FL, ← List.append_assoc]⟩
  · exact ⟨(cycOf rows).drop j, by simp [preK, rowK, FL]⟩
theorem next_fresh {rows : List (List Int)} {k j : Nat} (hk : k < 2) (hj : j < (rowK rows k).length) :
    (rowK rows k)[j] ∉ preK rows k ++ (rowK rows k).take j ∧ (rowK rows k)[j] < rows.length ∧ (∀ i ∈ preK rows k ++ (rowK rows k).take j, i < rows.length) ∧ (preK rows k ++ (rowK rows k).take j).length ≤ rows.length ∧
      preK rows k ++ (rowK rows k).take (j + 1) = preK rows k ++ (rowK rows k).take j ++ [(rowK rows k)[j]] := by
  obtain ⟨r, hr⟩ := sub_FL (rows := rows) (j := j + 1) hk
  have e : preK rows k ++ (rowK rows k).take (j + 1) = preK rows k ++ (rowK rows k).take j ++ [(rowK rows k)[j]] := by rw [List.take_succ_eq_append_getElem hj, List.append_assoc]
  rw [e] at hr
  have hn := FL_nodup rows
  have hl := FL_lt rows
  have hz := FL_length rows
  rw [hr] at hn hl hz
  refine ⟨?_, hl _ (List.mem_append_left _ (List.mem_append_right _ (List.mem_singleton.2 rfl))), fun i hi => hl i (by simp only [List.append_assoc, List.mem_append] at hi ⊢; rcases hi with h | h; exact .inl h; exact .inr (.inl h)), by simp only [List.length_append] at hz ⊢; omega, e⟩
  intro hm
  rw [List.append_assoc, List.nodup_append] at hn
  exact hn.2.2 _ hm _ (List.mem_append_left _ (List.mem_singleton.2 rfl)) rfl
end Go.Proofs.Ytmkbdjekidcfaaa
