/- Lists of bools of the call's own; the reference's order: what a round keeps. -/
import Derived.Test.YtmkbdjekidcfaaaB
namespace Go.Proofs.Ytmkbdjekidcfaaa
open Go.RowKit

def inG (G : List Nat) (j : Nat) : Bool := G.contains j

theorem ready_eq {rows : List (List Int)} {G : List Nat} {i : Nat} : ready rows G i = (!inG G i && !waitsB rows i (inG G)) := by
  unfold ready waitsB
  congr 1
  rw [Bool.eq_iff_iff, Bool.not_eq_true', List.all_eq_true, List.any_eq_false]
  constructor
  · intro h x hx
    unfold tst
    by_cases h0 : 0 ≤ x
    · obtain ⟨m, rfl⟩ := Int.eq_ofNat_of_zero_le h0
      by_cases h1 : (m : Int) < rows.length
      · by_cases h2 : (m : Int) = i
        · simp [h2]
        · have := h m (List.mem_range.2 (by omega))
          have hc : (rowOf rows i).contains (m : Int) = true := by simpa using hx
          unfold nd at this
          rw [hc] at this
          simp [h1, h2] at this
          simp [inG, this]
      · simp [h1]
    · simp [h0]
  · intro h k hk
    have hk := List.mem_range.1 hk
    unfold nd
    by_cases hc : (rowOf rows i).contains (k : Int) = true
    · have := h k (by simpa using hc)
      unfold tst at this
      by_cases h2 : (k : Int) = i
      · simp [h2]
      · simp [h2, inG] at this
        simp
        right
        exact this (by omega)
    · simp at hc
      simp [hc]

/-- n bools. -/
def bl (n : Nat) (f : Nat → Bool) : List Value := (List.range n).map (fun j => Value.bool (f j))
theorem bl_length (n : Nat) (f : Nat → Bool) : (bl n f).length = n := by simp [bl]
theorem bl_at {n : Nat} {f : Nat → Bool} {j : Nat} (hj : j < n) : (bl n f)[j]? = some (.bool (f j)) := by simp [bl, hj]
theorem bl_set {n : Nat} {f : Nat → Bool} {j : Nat} (x : Bool) (g : Nat → Bool) (hg : ∀ k, k < n → g k = if k = j then x else f k) : (bl n f).set j (.bool x) = bl n g := by
  apply List.ext_getElem?
  intro k
  rw [List.getElem?_set]
  by_cases hk : k < n
  · rw [bl_at hk, bl_at hk, bl_length, hg k hk]
    by_cases e : j = k
    · subst e; simp [hk]
    · rw [if_neg e, if_neg (fun h => e h.symm)]
  · have h1 : (bl n f)[k]? = none := by simp [bl]; omega
    have h2 : (bl n g)[k]? = none := by simp [bl]; omega
    rw [h1, h2, bl_length]
    split
    · rename_i e; subst e; rw [if_neg hk]
    · rfl
theorem bl_made (n : Nat) : (madeCells #[Value.bool false] n).toList = bl n (fun _ => false) := by
  apply List.ext_getElem?
  intro k
  simp [bl, madeCells]
  by_cases hk : k < n <;> simp [hk, Nat.mod_one]
theorem inG_snoc (G : List Nat) (i k : Nat) : inG (G ++ [i]) k = if k = i then true else inG G k := by
  unfold inG
  by_cases h : k = i
  · simp [h]
  · rw [if_neg h]
    rw [Bool.eq_iff_iff]
    simp [h]

/-- A row of bools of the call's own. -/
def OwnBools (w : World) (B : Nat) (v : Value) (n : Nat) (f : Nat → Bool) : Prop := w.ownsRow B 4 1 v n (bl n f)
/-- A row of ints of the call's own. -/
def OwnInts (w : World) (B : Nat) (v : Value) (G : List Nat) : Prop := w.ownsRow B 3 1 v G.length (G.map fun i : Nat => Value.int .i64 (i : Int))

theorem OwnBools.boolsAt {w : World} {B : Nat} {v : Value} {n : Nat} {f : Nat → Bool} (h : OwnBools w B v n f) : BoolsAt w v n f := by
  obtain ⟨a, c, rfl⟩ := own_len h
  refine ⟨a, c, rfl, fun j hj => ?_⟩
  obtain ⟨g, cap, e, hc, _⟩ := own_at h hj
  simp only [Value.slice.injEq] at e
  rw [bl_at hj] at hc
  exact ⟨g, 0, e.1, by simpa using hc⟩
theorem OwnInts.rowAt {w : World} {B : Nat} {v : Value} {G : List Nat} (h : OwnInts w B v G) (hl : G.length ≤ 1000) (hG : ∀ i ∈ G, i < 1000) : RowAt w v (G.map fun i : Nat => (i : Int)) := by
  obtain ⟨a, c, rfl⟩ := own_len h
  refine ⟨a, c, by simp, by simp; omega, fun j hj => ?_⟩
  simp only [List.length_map] at hj
  obtain ⟨g, cap, e, hc, _⟩ := own_at h hj
  simp only [Value.slice.injEq] at e
  have e2 : (G.map fun i : Nat => Value.int .i64 (i : Int))[j]? = some (.int .i64 ((G.map fun i : Nat => (i : Int)).getD j 0)) := by simp [hj]
  rw [e2] at hc
  refine ⟨g, 0, e.1, by simpa using hc, ?_⟩
  have : (G.map fun i : Nat => (i : Int)).getD j 0 = ((G[j]'hj : Nat) : Int) := by simp [hj]
  rw [this]
  have := hG _ (List.getElem_mem hj)
  exact WalkArith.wf_i64 (by omega)

theorem info4 : (Try.prog.info? 4).map (fun i => (i.zero, i.size, i.bytes)) = some (some (.bool false), 1, 1) := by kernel_rfl
theorem info3 : (Try.prog.info? 3).map (fun i => (i.zero, i.size, i.bytes)) = some (some (.int .i64 0), 1, 8) := by kernel_rfl
end Go.Proofs.Ytmkbdjekidcfaaa
