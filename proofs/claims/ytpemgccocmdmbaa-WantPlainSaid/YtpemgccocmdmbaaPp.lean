/- The plain pattern of a set of kinds: the plain law. -/
import Derived.Test.YtpemgccocmdmbaaSt
namespace Go.Proofs.Ytpemgccocmdmbaa
open Go.RowKit

def keepB (s k : Nat) : Bool := s.testBit k && !(k == 12 && s.testBit 11)
/-- The kinds that the plain pattern names, of the first j. -/
def plainK (s : Nat) : Nat → List Nat
  | 0 => []
  | j + 1 => if keepB s j = true then plainK s j ++ [j] else plainK s j
def leafW (k : Nat) : WT := .node 2 k []
def leafC (k : Nat) : List Value := [.int .i64 2, .int .i64 k, .slice none 0 0]
def overB (s : Nat) : Bool := s.testBit 11 && !s.testBit 12
def baseT (s : Nat) : WT := if 1 < (plainK s 14).length then .node 4 0 ((plainK s 14).map leafW) else leafW ((plainK s 14).headD 0)
def ofT (s : Nat) : WT :=
  if s = 0 then .node 5 0 [.node 1 0 [], .node 6 0 [.node 1 0 []]] else if overB s = true then .node 5 0 [baseT s, .node 6 0 [.node 2 12 []]] else baseT s

theorem plainK_mem (s : Nat) : ∀ (j k : Nat), k ∈ plainK s j ↔ k < j ∧ keepB s k = true
  | 0, k => by simp [plainK]
  | j + 1, k => by
    rw [plainK]
    split
    · rename_i h
      rw [List.mem_append, plainK_mem s j k, List.mem_singleton]
      constructor
      · rintro (⟨h1, h2⟩ | rfl)
        · exact ⟨by omega, h2⟩
        · exact ⟨by omega, h⟩
      · rintro ⟨h1, h2⟩
        by_cases e : k = j
        · exact .inr e
        · exact .inl ⟨by omega, h2⟩
    · rename_i h
      rw [plainK_mem s j k]
      constructor
      · rintro ⟨h1, h2⟩
        exact ⟨by omega, h2⟩
      · rintro ⟨h1, h2⟩
        by_cases e : k = j
        · subst e; exact absurd h2 h
        · exact ⟨by omega, h2⟩
theorem plainK_len (s : Nat) : ∀ j : Nat, (plainK s j).length ≤ j
  | 0 => by simp [plainK]
  | j + 1 => by
    have := plainK_len s j
    rw [plainK]
    split
    · rw [List.length_append, List.length_singleton]; omega
    · omega
theorem plainK_some {s : Nat} (h : s ≠ 0) (hl : s < 16384) : 0 < (plainK s 14).length := by
  have hb : ∃ i, i < 14 ∧ s.testBit i = true := by
    have hc : ¬ ∀ i, s.testBit i = false := fun hn => h (Nat.eq_of_testBit_eq (fun i => by rw [hn i, Nat.zero_testBit]))
    have hd : ∃ i, s.testBit i ≠ false := Classical.not_forall.1 hc
    obtain ⟨i, hi⟩ := hd
    refine ⟨i, ?_, by simpa using hi⟩
    rcases Nat.lt_or_ge i 14 with h1 | h1
    · exact h1
    · exact absurd (bit_out hl (by omega)) hi
  have hm : ∃ k, k ∈ plainK s 14 := by
    obtain ⟨i, h1, h2⟩ := hb
    by_cases h11 : s.testBit 11 = true
    · exact ⟨11, (plainK_mem s 14 11).2 ⟨by omega, by simp [keepB, h11]⟩⟩
    · exact ⟨i, (plainK_mem s 14 i).2 ⟨h1, by simp [keepB, h2, h11]⟩⟩
  obtain ⟨k, hk⟩ := hm
  exact List.length_pos_of_mem hk

/-! its kinds -/
theorem leaf_kinds (k : Nat) : kindsW (leafW k) = ksetN (kindP 2 k) 14 := by rw [leafW, kindsW_node, if_neg (by decide), if_neg (by decide), if_neg (by decide)]
theorem leaf_bit (k i : Nat) : (kindsW (leafW k)).testBit i = (decide (i < 14) && (decide (i = k) || decide (k = 11 ∧ i = 12))) := by
  rw [leaf_kinds, ksetN_bit]
  congr 1
  by_cases h : k = 11
  · subst h
    rw [show kindP 2 ((11 : Nat) : Int) (i : Int) = decide ((i : Int) = 11 ∨ (i : Int) = 12) from rfl]
    rw [Bool.eq_iff_iff]
    simp
    omega
  · have e : kindP 2 (k : Int) (i : Int) = decide ((k : Int) = (i : Int)) := by
      unfold kindP
      rw [if_neg (by decide), if_pos rfl, if_neg (by omega)]
    rw [e]
    have e2 : decide (k = 11 ∧ i = 12) = false := decide_eq_false (fun c => h c.1)
    rw [e2, Bool.or_false, decide_eq_decide]
    omega
theorem orW_bit (i : Nat) : ∀ (l : List WT) (s : Nat), (orW l s).testBit i = (s.testBit i || l.any (fun x => (kindsW x).testBit i))
  | [], s => by rw [orW_nil]; simp
  | x :: r, s => by rw [orW_cons, orW_bit i r, Nat.testBit_or, List.any_cons, Bool.or_assoc]
theorem any_leaf (s i : Nat) (hi : i < 14) : ((plainK s 14).map leafW).any (fun x => (kindsW x).testBit i) = (s.testBit i || decide (i = 12) && s.testBit 11) := by
  rw [Bool.eq_iff_iff, List.any_eq_true]
  constructor
  · rintro ⟨x, hx, h⟩
    obtain ⟨k, hk, rfl⟩ := List.mem_map.1 hx
    obtain ⟨_, h2⟩ := (plainK_mem s 14 k).1 hk
    rw [leaf_bit] at h
    simp [keepB] at h h2 ⊢
    rcases h.2 with rfl | ⟨rfl, rfl⟩
    · exact .inl h2.1
    · exact .inr ⟨rfl, h2.1⟩
  · intro h
    by_cases h12 : i = 12
    · subst h12
      by_cases h11 : s.testBit 11 = true
      · exact ⟨leafW 11, List.mem_map.2 ⟨11, (plainK_mem s 14 11).2 ⟨by omega, by simp [keepB, h11]⟩, rfl⟩, by rw [leaf_bit]; decide⟩
      · simp [h11] at h
        exact ⟨leafW 12, List.mem_map.2 ⟨12, (plainK_mem s 14 12).2 ⟨by omega, by simp [keepB, h, h11]⟩, rfl⟩, by rw [leaf_bit]; decide⟩
    · simp [h12] at h
      exact ⟨leafW i, List.mem_map.2 ⟨i, (plainK_mem s 14 i).2 ⟨hi, by simp [keepB, h, h12]⟩, rfl⟩, by rw [leaf_bit]; simp [hi]⟩
theorem base_bit {s : Nat} (h : s ≠ 0) (hl : s < 16384) (i : Nat) (hi : i < 14) : (kindsW (baseT s)).testBit i = (s.testBit i || decide (i = 12) && s.testBit 11) := by
  rw [← any_leaf s i hi]
  unfold baseT
  split
  · rw [kindsW_node, if_pos rfl, orW_bit, Nat.zero_testBit, Bool.false_or]
  · rename_i h1
    have h0 := plainK_some h hl
    cases hk : plainK s 14 with
    | nil => rw [hk] at h0; simp at h0
    | cons k r =>
      rw [hk] at h1
      have hr : r = [] := by cases r with
        | nil => rfl
        | cons y z => simp at h1
      subst hr
      simp
theorem base_lt (s : Nat) : kindsW (baseT s) < 16384 := kindsW_lt _
theorem ofT_kinds (s : Nat) (hl : s < 16384) : kindsW (ofT s) = s := by
  unfold ofT
  split
  · rename_i h
    subst h
    rw [kinds_both, kinds_no, kindsW_node]
    decide
  · rename_i h
    apply Nat.eq_of_testBit_eq
    intro i
    by_cases hi : i < 14
    · split
      · rename_i ho
        rw [kinds_both, kinds_no, Nat.testBit_and, Nat.testBit_xor, base_bit h hl i hi, bit_all]
        have e12 : (kindsW (.node 2 12 [])).testBit i = decide (i = 12) := by
          have := leaf_bit 12 i
          rw [leafW] at this
          rw [show ((12 : Nat) : Int) = 12 from rfl] at this
          rw [this]
          simp [hi]
        rw [e12]
        unfold overB at ho
        by_cases h12 : i = 12
        · subst h12
          simp at ho ⊢
          simp [ho]
        · simp [h12, hi]
      · rename_i ho
        rw [base_bit h hl i hi]
        by_cases h12 : i = 12
        · subst h12
          simp [overB] at ho ⊢
          exact ho
        · simp [h12]
    · rw [bit_out (kindsW_lt _) hi, bit_out hl hi]

/-! it is a pattern -/
theorem look_leaf (k : Nat) (hk : k < 14) (deep seen : Int) (h1 : deep ≤ 128) (h2 : seen ≤ 16384) : lookW (leafW k) deep seen = seen := by
  rw [leafW, lookW_node, if_neg (by omega), if_pos (by simp [okN]; omega), lookL_nil]
theorem look_leaves (deep : Int) (h1 : deep ≤ 127) : ∀ (l : List Nat) (seen : Int), (∀ k ∈ l, k < 14) → 0 ≤ seen → seen + l.length ≤ 16384 → lookL (l.map leafW) deep seen = seen + l.length
  | [], seen, _, _, _ => by simp [lookL_nil]
  | k :: l, seen, hk, h0, h2 => by
    simp only [List.length_cons] at h2
    rw [List.map_cons, lookL_cons, look_leaf k (hk k (by simp)) _ _ (by omega) (by omega), if_neg (by omega), look_leaves deep h1 l (seen + 1) (fun x hx => hk x (by simp [hx])) (by omega) (by omega), List.length_cons]
    omega
theorem base_look {s : Nat} (h : s ≠ 0) (hl : s < 16384) (deep seen : Int) (h1 : deep ≤ 120) (h0 : 0 ≤ seen) (h2 : seen ≤ 1000) : ∃ n : Int, lookW (baseT s) deep seen = n ∧ seen ≤ n ∧ n ≤ seen + 14 := by
  have hlen := plainK_len s 14
  have hmem : ∀ k ∈ plainK s 14, k < 14 := fun k hk => ((plainK_mem s 14 k).1 hk).1
  have h3 := plainK_some h hl
  unfold baseT
  split
  · rename_i h4
    refine ⟨seen + (plainK s 14).length, ?_, by omega, by omega⟩
    rw [lookW_node, if_neg (by omega), if_pos (by simp [okN]; omega)]
    exact look_leaves deep (by omega) _ seen hmem h0 (by omega)
  · refine ⟨seen, ?_, by omega, by omega⟩
    refine look_leaf _ ?_ _ _ (by omega) (by omega)
    cases hk : plainK s 14 with
    | nil => rw [hk] at h3; simp at h3
    | cons k r => exact hmem k (by rw [hk]; simp)
theorem ofT_fit (s : Nat) (hl : s < 16384) : fitW (ofT s) = true := by
  unfold fitW
  rw [decide_eq_true_eq]
  unfold ofT
  split
  · rw [lookW_node, lookL_cons, lookW_node, lookL_nil, lookL_cons, lookW_node, lookL_cons, lookW_node, lookL_nil, lookL_nil, lookL_nil]
    decide
  · rename_i h
    split
    · obtain ⟨n, hn, h1, h2⟩ := base_look h hl 2 2 (by omega) (by omega) (by omega)
      have h12 : lookW (.node 2 12 []) 3 (n + 2) = n + 2 := look_leaf 12 (by omega) 3 (n + 2) (by omega) (by omega)
      have h6 : lookW (.node 6 0 [.node 2 12 []]) 2 (n + 1) = n + 2 := by
        rw [lookW_node, if_neg (by omega), if_pos (by simp [okN]), lookL_cons, show (2 : Int) + 1 = 3 from rfl, show n + 1 + 1 = n + 2 by omega, h12, if_neg (by omega), lookL_nil]
      rw [lookW_node, if_neg (by omega), if_pos (by simp [okN]), lookL_cons, show (1 : Int) + 1 = 2 from rfl, hn, if_neg (by omega), lookL_cons, show (1 : Int) + 1 = 2 from rfl, h6, if_neg (by omega), lookL_nil]
      omega
    · obtain ⟨n, hn, h1, h2⟩ := base_look h hl 1 1 (by omega) (by omega) (by omega)
      rw [hn]; omega
end Go.Proofs.Ytpemgccocmdmbaa
