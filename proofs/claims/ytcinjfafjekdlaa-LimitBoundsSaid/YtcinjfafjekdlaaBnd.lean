/- LimitBounds: the plain law; the walk of the first loop. -/
import Derived.Test.YtcinjfafjekdlaaMore
import Derived.OwnWalk
import Derived.Deep.CutBlock
import Derived.Deep.DeepCutAuto
namespace Go.Proofs.Ytcinjfafjekdlaa
open Go.RowKit

/-- What is known of the ticks of the Takes that were true so far, and of the bucket. -/
structure BInv (a b lv ls : Int) (l : List Int) : Prop where
  p0 : 0 ≤ lv
  p1 : lv ≤ a * b
  p2 : 0 ≤ ls
  p3 : ls ≤ 1099511627776
  nn : ∀ k, k < l.length → 0 ≤ l.getD k 0
  pot : ∀ k, k < l.length → lv + ((l.length : Int) - k) * b ≤ a * b + (ls - l.getD k 0) * a ∧ l.getD k 0 ≤ ls
  good : ∀ i k, i < l.length → k ≤ i → ((i : Int) - k + 1) * b ≤ a * b + (l.getD i 0 - l.getD k 0) * a ∧ l.getD k 0 ≤ l.getD i 0

theorem bnd_start {a b lv ls : Int} (p0 : 0 ≤ lv) (p1 : lv ≤ a * b) (p2 : 0 ≤ ls) (p3 : ls ≤ 1099511627776) : BInv a b lv ls [] :=
  ⟨p0, p1, p2, p3, fun _ h => absurd h (by simp), fun _ h => absurd h (by simp), fun _ _ h => absurd h (by simp)⟩

theorem bnd_no {a b lv ls : Int} {l : List Int} (h : BInv a b lv ls l) (ha : 1 ≤ a) (hb : 1 ≤ b) (t : Int) (ht : ls ≤ t) (ht' : t ≤ 1099511627776) (hk : tk a b lv ls t = false) :
    BInv a b (tkLv a b lv ls t) t l := by
  obtain ⟨p0, p1, p2, p3, nn, pot, good⟩ := h
  have hk := of_decide_eq_false hk
  have b1 := tkLv_bd a b lv ls t ha hb p0 p1
  refine ⟨b1.1, b1.2, by omega, ht', nn, fun k hkl => ?_, good⟩
  obtain ⟨q, q'⟩ := pot k hkl
  refine ⟨?_, by omega⟩
  unfold tkLv
  rw [if_neg hk, lvAt_from a b lv ls t ha p0 p1 ht]
  have : (t - l.getD k 0) * a = (t - ls) * a + (ls - l.getD k 0) * a := by rw [← Int.add_mul]; congr 1; omega
  omega

theorem bnd_yes {a b lv ls : Int} {l : List Int} (h : BInv a b lv ls l) (ha : 1 ≤ a) (hb : 1 ≤ b) (t : Int) (ht : ls ≤ t) (ht' : t ≤ 1099511627776) (hk : tk a b lv ls t = true) :
    BInv a b (tkLv a b lv ls t) t (l ++ [t]) := by
  obtain ⟨p0, p1, p2, p3, nn, pot, good⟩ := h
  have hk := of_decide_eq_true hk
  have b1 := tkLv_bd a b lv ls t ha hb p0 p1
  have e1 : ∀ k, k < l.length → (l ++ [t]).getD k 0 = l.getD k 0 := fun k hkl => by simp [List.getElem?_append_left hkl]
  have e2 : (l ++ [t]).getD l.length 0 = t := by simp
  have e3 : tkLv a b lv ls t = lvAt a b lv ls t - b := if_pos hk
  have e4 := lvAt_from a b lv ls t ha p0 p1 ht
  have hpot : ∀ k, k < l.length → tkLv a b lv ls t + ((l.length : Int) + 1 - k) * b ≤ a * b + (t - l.getD k 0) * a ∧ l.getD k 0 ≤ t := fun k hkl => by
    obtain ⟨q, q'⟩ := pot k hkl
    refine ⟨?_, by omega⟩
    have h1 : (t - l.getD k 0) * a = (t - ls) * a + (ls - l.getD k 0) * a := by rw [← Int.add_mul]; congr 1; omega
    have h2 : ((l.length : Int) + 1 - k) * b = ((l.length : Int) - k) * b + b := by rw [show ((l.length : Int) + 1 - k) = ((l.length : Int) - k) + 1 by omega, Int.add_mul, Int.one_mul]
    rw [e3, e4, h1, h2]
    omega
  refine ⟨b1.1, b1.2, by omega, ht', fun k hkl => ?_, fun k hkl => ?_, fun i k hi hki => ?_⟩
  · simp only [List.length_append, List.length_cons, List.length_nil] at hkl
    by_cases hc : k < l.length
    · rw [e1 k hc]; exact nn k hc
    · obtain rfl : k = l.length := by omega
      rw [e2]; omega
  · simp only [List.length_append, List.length_cons, List.length_nil] at hkl ⊢
    by_cases hc : k < l.length
    · rw [e1 k hc]
      have := hpot k hc
      simpa using this
    · obtain rfl : k = l.length := by omega
      rw [e2, Int.sub_self, Int.zero_mul]
      have : ((l.length + (0 + 1) : Nat) : Int) - l.length = 1 := by omega
      rw [this, Int.one_mul]
      omega
  · simp only [List.length_append, List.length_cons, List.length_nil] at hi
    by_cases hc : i < l.length
    · rw [e1 i hc, e1 k (by omega)]; exact good i k hc hki
    · obtain rfl : i = l.length := by omega
      rw [e2]
      by_cases hc2 : k < l.length
      · rw [e1 k hc2]
        have := hpot k hc2
        have h3 : ((l.length : Int) - k + 1) * b = ((l.length : Int) + 1 - k) * b := by congr 1; omega
        rw [h3]
        omega
      · obtain rfl : k = l.length := by omega
        rw [e2, Int.sub_self, Int.sub_self, Int.zero_mul]
        have : 1 * b ≤ a * b := Int.mul_le_mul_of_nonneg_right ha (by omega)
        omega

theorem bnd_end {a b lv ls : Int} {l : List Int} (h : BInv a b lv ls l) (ha : 1 ≤ a) (ha' : a ≤ 1000000) (hb : 1 ≤ b) {i k : Nat} (hi : i < l.length) (hk : k ≤ i) :
    (i : Int) - k + 1 ≤ a + ((l.getD i 0 - l.getD k 0) * a) / b ∧ 0 ≤ (l.getD i 0 - l.getD k 0) * a ∧ (l.getD i 0 - l.getD k 0) * a ≤ 1099511627776000000 ∧
      0 ≤ ((l.getD i 0 - l.getD k 0) * a) / b ∧ ((l.getD i 0 - l.getD k 0) * a) / b ≤ 1099511627776000000 ∧ 0 ≤ l.getD k 0 ∧ l.getD k 0 ≤ l.getD i 0 ∧ l.getD i 0 ≤ 1099511627776 := by
  obtain ⟨p0, p1, p2, p3, nn, pot, good⟩ := h
  obtain ⟨g1, g2⟩ := good i k hi hk
  have n1 := nn k (by omega)
  have n2 := (pot i hi).2
  have m1 : 0 ≤ (l.getD i 0 - l.getD k 0) * a := Int.mul_nonneg (by omega) (by omega)
  have m2 : (l.getD i 0 - l.getD k 0) * a ≤ 1099511627776 * 1000000 := Int.mul_le_mul (by omega) ha' (by omega) (by omega)
  have m3 : 0 ≤ ((l.getD i 0 - l.getD k 0) * a) / b := Int.ediv_nonneg m1 (by omega)
  have m4 : ((l.getD i 0 - l.getD k 0) * a) / b ≤ (l.getD i 0 - l.getD k 0) * a := Int.ediv_le_self _ m1
  refine ⟨?_, m1, by omega, m3, by omega, n1, g2, by omega⟩
  have : (((i : Int) - k + 1) - a) * b ≤ (l.getD i 0 - l.getD k 0) * a := by rw [Int.sub_mul]; omega
  have := (Int.le_ediv_iff_mul_le (show 0 < b by omega)).2 this
  omega

theorem take_bnd {a b lv ls : Int} {l : List Int} (h : BInv a b lv ls l) (h1 : 1 ≤ a) (h2 : a ≤ 1000000) (h3 : 1 ≤ b) (h4 : b ≤ 1000000) (t : Int) (ht : ls ≤ t) (ht' : t ≤ 1099511627776) :
    ∃ V T, (∀ w : World, Calls Try.prog 11 #[.agg #[.int .i64 lv, .int .i64 ls], .int .i64 a, .int .i64 b, .int .i64 t] w fun e w' =>
        e = .returned (.tuple #[.agg #[.int .i64 V, .int .i64 t], .bool T]) ∧ Below w.heap.size w w') ∧
      (T = false → BInv a b V t l) ∧ (T = true → BInv a b V t (l ++ [t])) := by
  have p2 := h.p2
  refine ⟨tkLv a b lv ls t, tk a b lv ls t, fun w => ?_, fun hk => bnd_no h h1 h3 t ht ht' hk, fun hk => bnd_yes h h1 h3 t ht ht' hk⟩
  have := take_any a b lv ls t w h1 h2 h3 h4 h.p0 h.p1 h.p2 (by omega) (by omega) ht'
  rwa [Int.max_eq_right ht] at this

/-- An element of a row of the call's own. -/
theorem own_at {w : World} {B E : Nat} {v : Value} {n : Nat} {xs : List Value} (h : w.ownsRow B E 1 v n xs) {j : Nat} (hj : j < n) :
    ∃ g cap, v = .slice (some ⟨g, 0, none⟩) n cap ∧ w.cell? ⟨g, j, none⟩ = xs[j]? ∧ n ≤ cap ∧ cap ≤ maxLen := by
  have h' := h
  rcases h.2 with ⟨_, h0⟩ | ⟨g, cap, cur, rfl, _, _, hn, hm, _, _⟩
  · omega
  · exact ⟨g, cap, rfl, h'.cellAt j (by omega), hn, hm⟩
theorem own_len {w : World} {B E : Nat} {v : Value} {n : Nat} {xs : List Value} (h : w.ownsRow B E 1 v n xs) : ∃ a cap, v = .slice a n cap := by
  rcases h.2 with ⟨rfl, rfl⟩ | ⟨g, cap, cur, rfl, _⟩
  · exact ⟨_, _, rfl⟩
  · exact ⟨_, _, rfl⟩

/-- A row of the call's own stays over a call that writes nothing that was there. -/
theorem own_below {w w1 : World} {B E size : Nat} {v : Value} {n : Nat} {xs : List Value} (h : w.ownsRow B E size v n xs) (hb : Below w.heap.size w w1) : w1.ownsRow B E size v n xs := by
  refine ⟨h.1, ?_⟩
  rcases h.2 with h0 | ⟨g, cap, cur, hv, hg, hh, rest⟩
  · exact .inl h0
  · have hlt : g < w.heap.size := (Array.getElem?_eq_some_iff.1 hh).1
    exact .inr ⟨g, cap, cur, hv, hg, by rw [hb.block g hlt]; exact hh, rest⟩

/-- A cell ahead of the call's own row, behind a law that ends in 'grownBy'. -/
theorem cell_grown {w w' : World} {row : Option Nat} {b o : Nat} {v : Value} (hg : w.grownBy w' row) (hlt : b < w.heap.size) (hr : ∀ k, row = some k → b < k) (h : w.cell? ⟨b, o, none⟩ = some v) : w'.cell? ⟨b, o, none⟩ = some v := by
  rw [World.cell?_of_block (w := w) (a := ⟨b, o, none⟩) (hg.block b hlt (fun e => by have := hr b e.symm; omega))]; exact h
theorem free_grown {w w' : World} {row : Option Nat} {b o : Nat} (hg : w.grownBy w' row) (hlt : b < w.heap.size) (hr : ∀ k, row = some k → b < k) (h : w.frozen? ⟨b, o, none⟩ = false) : w'.frozen? ⟨b, o, none⟩ = false := by
  rw [World.frozen?_of_block (w := w) (a := ⟨b, o, none⟩) (hg.block b hlt (fun e => by have := hr b e.symm; omega))]; exact h
theorem row_past {w : World} {B E size : Nat} {v : Value} {n : Nat} {xs : List Value} (h : w.ownsRow B E size v n xs) : ∀ k, v.ownBlock = some k → B ≤ k := fun k hk => (h.lt k hk).1

theorem one_new {w : World} {x : Value} {t : TypeId} {n : Nat} (hn : n = w.heap.size) : ∀ j u, [x][j]? = some u → (w.alloc (.cells #[x] t)).cell? ((⟨n, 0, none⟩ : Addr).add j) = some u := by
  subst hn
  intro j u hj
  match j, hj with
  | 0, hj =>
    simp at hj
    subst hj
    simp [Addr.add]

theorem ints_at2 {w : World} {B : Nat} {ad : Option Addr} {cap n : Nat} {l : List Int} (h : w.ownsRow B 2 1 (.slice ad n cap) l.length (l.map (Value.int .i64))) {j k : Nat} (hj : j < l.length) (hk : k < l.length) :
    ∃ g, ad = some ⟨g, 0, none⟩ ∧ w.cell? ⟨g, j, none⟩ = some (.int .i64 (l.getD j 0)) ∧ w.cell? ⟨g, k, none⟩ = some (.int .i64 (l.getD k 0)) := by
  obtain ⟨g, cap', e, c1, _, _⟩ := own_at h hj
  obtain ⟨g', cap'', e', c2, _, _⟩ := own_at h hk
  simp only [Value.slice.injEq] at e e'
  obtain ⟨rfl, -, -⟩ := e
  have : g' = g := by have := e'.1; simp at this; omega
  subst this
  refine ⟨g', rfl, ?_, ?_⟩
  · rw [c1]; simp [hj]
  · rw [c2]; simp [hk]

theorem info2 : (Try.prog.info? 2).map (fun i => (i.zero, i.size, i.bytes)) = some (some (.int .i64 0), 1, 8) := by kernel_rfl

def BRel (a b : Int) (w : World) (len : Nat) (i now s10 : Value) (wr : World) : Prop :=
  ∃ (k : Nat) (lv ls : Int) (l : List Int), k ≤ len ∧ k ≤ 60 ∧ l.length ≤ k ∧ i = .int .i64 k ∧ now = .int .i64 ls ∧ BInv a b lv ls l ∧ wr.ownsRow (w.heap.size + 1) 2 1 s10 l.length (l.map (Value.int .i64)) ∧
    wr.cell? ⟨w.heap.size, 0, none⟩ = some (.int .i64 lv) ∧ wr.cell? ⟨w.heap.size, 1, none⟩ = some (.int .i64 ls) ∧
    wr.frozen? ⟨w.heap.size, 0, none⟩ = false ∧ wr.frozen? ⟨w.heap.size, 1, none⟩ = false ∧ Below w.heap.size w wr ∧ w.heap.size < wr.heap.size

def BDone (a b : Int) (w : World) (s10 : Value) (wr : World) : Prop :=
  ∃ (lv ls : Int) (l : List Int), l.length ≤ 60 ∧ BInv a b lv ls l ∧ wr.ownsRow (w.heap.size + 1) 2 1 s10 l.length (l.map (Value.int .i64)) ∧ Below w.heap.size w wr ∧ w.heap.size < wr.heap.size

end Go.Proofs.Ytcinjfafjekdlaa
