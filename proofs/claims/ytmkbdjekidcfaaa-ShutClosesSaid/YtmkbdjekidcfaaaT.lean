/- Trees of plain data: what a Datum is, apart from memory; count, right, Valid as functions of a tree. -/
namespace Go.Proofs.Ytmkbdjekidcfaaa

inductive Tree where
  | node (k i b : Int) (t : ByteArray) (l : List Tree)

def Tree.kind : Tree → Int | .node k _ _ _ _ => k
def Tree.kids : Tree → List Tree | .node _ _ _ _ l => l

mutual
def Tree.size : Tree → Nat
  | .node _ _ _ _ l => 1 + sizes l
def sizes : List Tree → Nat
  | [] => 0
  | x :: r => x.size + sizes r
end
mutual
def Tree.high : Tree → Nat
  | .node _ _ _ _ l => 1 + highs l
def highs : List Tree → Nat
  | [] => 0
  | x :: r => max x.high (highs r)
end
theorem Tree.size_node (k i b : Int) (t : ByteArray) (l : List Tree) : (Tree.node k i b t l).size = 1 + sizes l := by rw [Tree.size]
theorem Tree.high_node (k i b : Int) (t : ByteArray) (l : List Tree) : (Tree.node k i b t l).high = 1 + highs l := by rw [Tree.high]
theorem sizes_nil : sizes [] = 0 := by rw [sizes]
theorem sizes_cons (x : Tree) (r : List Tree) : sizes (x :: r) = x.size + sizes r := by rw [sizes]
theorem highs_cons (x : Tree) (r : List Tree) : highs (x :: r) = max x.high (highs r) := by rw [highs]
theorem Tree.size_pos (x : Tree) : 1 ≤ x.size := by cases x; rw [Tree.size_node]; omega
theorem sizes_ge (l : List Tree) : l.length ≤ sizes l := by
  induction l with
  | nil => simp
  | cons x r ih => rw [sizes_cons, List.length_cons]; have := x.size_pos; omega
theorem sizes_append (l r : List Tree) : sizes (l ++ r) = sizes l + sizes r := by
  induction l with
  | nil => simp [sizes_nil]
  | cons x l ih => rw [List.cons_append, sizes_cons, sizes_cons, ih]; omega
theorem size_mem {l : List Tree} {x : Tree} (h : x ∈ l) : x.size ≤ sizes l := by
  induction l with
  | nil => cases h
  | cons y r ih =>
    rw [sizes_cons]
    rcases List.mem_cons.1 h with rfl | h
    · omega
    · have := ih h; omega
theorem high_mem {l : List Tree} {x : Tree} (h : x ∈ l) : x.high ≤ highs l := by
  induction l with
  | nil => cases h
  | cons y r ih =>
    rw [highs_cons]
    rcases List.mem_cons.1 h with rfl | h
    · omega
    · have := ih h; omega

/-! count -/
mutual
def countT : Tree → Int → Int → Int × Int
  | .node _ _ _ _ l, deep, left => if 16 < deep ∨ left ≤ 0 then (4097, deep) else countL l deep left 1 deep
def countL : List Tree → Int → Int → Int → Int → Int × Int
  | [], _, _, n, most => (n, most)
  | x :: r, deep, left, n, most =>
    if left < n + (countT x (deep + 1) (left - n)).1 ∨ 16 < max most (countT x (deep + 1) (left - n)).2 then (4097, max most (countT x (deep + 1) (left - n)).2)
    else countL r deep left (n + (countT x (deep + 1) (left - n)).1) (max most (countT x (deep + 1) (left - n)).2)
end
theorem countT_node (k i b : Int) (t : ByteArray) (l : List Tree) (deep left : Int) : countT (.node k i b t l) deep left = if 16 < deep ∨ left ≤ 0 then (4097, deep) else countL l deep left 1 deep := by rw [countT]
theorem countL_nil (deep left n most : Int) : countL [] deep left n most = (n, most) := by rw [countL]
theorem countL_cons (x : Tree) (r : List Tree) (deep left n most : Int) : countL (x :: r) deep left n most =
    if left < n + (countT x (deep + 1) (left - n)).1 ∨ 16 < max most (countT x (deep + 1) (left - n)).2 then (4097, max most (countT x (deep + 1) (left - n)).2)
    else countL r deep left (n + (countT x (deep + 1) (left - n)).1) (max most (countT x (deep + 1) (left - n)).2) := by rw [countL]

/-- What count gives lies in bounds; and is the size where it is no more than what was left. -/
theorem count_bd : ∀ (m : Nat) (t : Tree), t.high ≤ m → ∀ deep left : Int, 1 ≤ deep → deep ≤ 17 → left ≤ 4096 →
    (1 ≤ (countT t deep left).1 ∧ (countT t deep left).1 ≤ 4097 ∧ deep ≤ (countT t deep left).2 ∧ (countT t deep left).2 ≤ 17 ∧ ((countT t deep left).1 ≤ 4096 → (countT t deep left).1 = t.size ∧ 0 < left)) := by
  intro m
  induction m with
  | zero => intro t ht; cases t; rw [Tree.high_node] at ht; omega
  | succ m ih =>
    intro t ht deep left h1 h2 h3
    cases t with
    | node k i b s l =>
    rw [countT_node]
    by_cases hc : 16 < deep ∨ left ≤ 0
    · rw [if_pos hc]; refine ⟨by simp, by simp, by simp, by simpa using h2, fun h => ?_⟩; simp at h
    · rw [if_neg hc]
      have hl : highs l ≤ m := by rw [Tree.high_node] at ht; omega
      clear ht
      rw [Tree.size_node]
      suffices H : ∀ (l : List Tree) (n : Int) (most : Int), highs l ≤ m → 1 ≤ n → n ≤ left → deep ≤ most → most ≤ 16 →
          (1 ≤ (countL l deep left n most).1 ∧ (countL l deep left n most).1 ≤ 4097 ∧ deep ≤ (countL l deep left n most).2 ∧ (countL l deep left n most).2 ≤ 17 ∧ ((countL l deep left n most).1 ≤ 4096 → (countL l deep left n most).1 = n + sizes l)) by
        obtain ⟨a, b, c, d, e⟩ := H l 1 deep hl (by omega) (by omega) (by omega) (by omega)
        exact ⟨a, b, c, d, fun h => ⟨by have := e h; omega, by omega⟩⟩
      intro l
      induction l with
      | nil => intro n most _ a b c d; rw [countL_nil, sizes_nil]; refine ⟨a, by show n ≤ 4097; omega, c, by show most ≤ 17; omega, fun _ => by simp⟩
      | cons x r ihr =>
        intro n most hm a b c d
        rw [highs_cons] at hm
        rw [countL_cons, sizes_cons]
        obtain ⟨q1, q2, q3, q4, q5⟩ := ih x (by omega) (deep + 1) (left - n) (by omega) (by omega) (by omega)
        generalize countT x (deep + 1) (left - n) = p at *
        by_cases hx : left < n + p.1 ∨ 16 < max most p.2
        · rw [if_pos hx]
          refine ⟨by simp, by simp, by simp; omega, by simp; omega, fun h => ?_⟩
          simp at h
        · rw [if_neg hx]
          obtain ⟨s1, s2, s3, s4, s5⟩ := ihr (n + p.1) (max most p.2) (by omega) (by omega) (by omega) (by omega) (by omega)
          refine ⟨s1, s2, s3, s4, fun h => ?_⟩
          have := s5 h
          have := (q5 (by omega)).1
          omega

/-! right -/
/-- What a kind has: a number, bits, a text; how many parts (-1: any). -/
def shp (k : Int) : Option (Bool × Bool × Bool × Int) :=
  if k = 0 ∨ k = 12 ∨ k = 13 then some (false, false, false, 0)
  else if k = 1 ∨ k = 2 ∨ k = 6 then some (true, false, false, 0)
  else if k = 3 then some (false, true, false, 0)
  else if k = 4 ∨ k = 5 ∨ k = 7 then some (false, false, true, 0)
  else if k = 8 then some (false, false, false, -1)
  else if k = 9 then some (false, false, false, 2)
  else if k = 10 then some (true, false, true, 0)
  else if k = 11 then some (true, false, false, 1)
  else none
/-- The test behind the switch. -/
def fieldsB (hi hb ht : Bool) (p i b : Int) (t : ByteArray) (n : Nat) : Bool :=
  (hi || decide (i = 0)) && (hb || decide (b = 0)) && (ht || decide (t.toList = [])) && (decide (p < 0) || decide ((n : Int) = p)) && decide (t.size ≤ 65535)
def numB (k i : Int) : Bool := (!decide (k = 6) || decide (i = 0 ∨ i = 1)) && (!decide (k = 11) || decide (1 ≤ i))
def rightN (k i b : Int) (t : ByteArray) (n : Nat) : Bool :=
  match shp k with
  | none => false
  | some (hi, hb, ht, p) => numB k i && fieldsB hi hb ht p i b t n
mutual
def rightT : Tree → Bool
  | .node k i b t l => rightN k i b t l.length && rightL l
def rightL : List Tree → Bool
  | [] => true
  | x :: r => rightT x && rightL r
end
theorem rightT_node (k i b : Int) (t : ByteArray) (l : List Tree) : rightT (.node k i b t l) = (rightN k i b t l.length && rightL l) := by rw [rightT]
theorem rightL_cons (x : Tree) (r : List Tree) : rightL (x :: r) = (rightT x && rightL r) := by rw [rightL]
theorem rightL_nil : rightL [] = true := by rw [rightL]
theorem rightL_iff (l : List Tree) : rightL l = true ↔ ∀ x ∈ l, rightT x = true := by
  induction l with
  | nil => simp [rightL_nil]
  | cons x r ih => rw [rightL_cons]; simp [ih]

def validT (t : Tree) : Bool := decide ((countT t 1 4096).1 ≤ 4096) && decide ((countT t 1 4096).2 ≤ 16) && rightT t

theorem validT_size {t : Tree} (h : validT t = true) : t.size ≤ 4096 := by
  unfold validT at h
  simp only [Bool.and_eq_true, decide_eq_true_eq] at h
  have := count_bd _ t (Nat.le_refl _) 1 4096 (by omega) (by omega) (by omega)
  omega
theorem validT_right {t : Tree} (h : validT t = true) : rightT t = true := by
  unfold validT at h
  simp only [Bool.and_eq_true] at h
  exact h.2
theorem shp_kind {k : Int} {x} (h : shp k = some x) : 0 ≤ k ∧ k ≤ 13 := by
  unfold shp at h
  repeat' split at h
  all_goals first | omega | cases h
theorem rightN_kind {k i b : Int} {t : ByteArray} {n : Nat} (h : rightN k i b t n = true) : 0 ≤ k ∧ k ≤ 13 := by
  unfold rightN at h
  split at h
  · cases h
  · rename_i e; exact shp_kind e
theorem rightT_kind {t : Tree} (h : rightT t = true) : 0 ≤ t.kind ∧ t.kind ≤ 13 := by
  cases t
  rw [rightT_node, Bool.and_eq_true] at h
  exact rightN_kind h.1
end Go.Proofs.Ytmkbdjekidcfaaa
