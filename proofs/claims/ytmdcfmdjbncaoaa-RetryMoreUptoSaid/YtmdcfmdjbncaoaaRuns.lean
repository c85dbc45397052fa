/- RetryRuns: Run is the reference's, of any results; what comes has memory of its own. -/
import Derived.Test.YtmdcfmdjbncaoaaVal
namespace Go.Proofs.Ytmdcfmdjbncaoaa
open Go.RowKit Go.ChangeShapes Go.WideShapes Go.Deep
attribute [local go_sem ↓] Go.wp_at_zero Go.wp_at_succ
attribute [local go_sem] Go.undef

theorem rows_fst {w : World} {S : Nat → Prop} {ps : List (RV × Tree)} {a : Option Addr} {n c : Nat} (h : RowsOf (ER w S) 10 w S ps a n c) : RowsOf (fun (r : RV) cs => cs = r.cells) 10 w S (ps.map (·.1)) a n c := by
  obtain ⟨h1, h2, h3, h4⟩ := h
  refine ⟨by simpa using h1, h2, h3, fun h0 => ?_⟩
  obtain ⟨g, o, ha, hS, hj⟩ := h4 h0
  refine ⟨g, o, ha, hS, fun j x hx => ?_⟩
  rw [List.getElem?_map] at hx
  obtain ⟨p, hp, rfl⟩ := Option.map_eq_some_iff.1 hx
  obtain ⟨cs, ⟨hc, _⟩, hl, hr⟩ := hj j p hp
  exact ⟨cs, hc, hl, hr⟩
theorem rows_under {w w' : World} {S : Nat → Prop} {ps : List (RV × Tree)} {a : Option Addr} {n c B : Nat} (h : RowsOf (ER w S) 10 w S ps a n c) (hb : Below B w w') (hS : ∀ b, S b → b < B) : RowsOf (ER w' S) 10 w' S ps a n c :=
  h.under (fun _ _ _ hp => ⟨hp.1, hp.2.under hb hS⟩) hb hS

def lastP (ps : List (RV × Tree)) : RV × Tree := ps.getLast?.getD (zeroRV, zeroT)
theorem lastP_fst (ps : List (RV × Tree)) : lastIn (ps.map (·.1)) = (lastP ps).1 := by
  unfold lastIn lastP
  rw [List.getLast?_map]
  cases ps.getLast? <;> rfl
theorem lastP_mem (ps : List (RV × Tree)) : lastP ps = (zeroRV, zeroT) ∨ lastP ps ∈ ps := by
  unfold lastP
  cases h : ps.getLast? with
  | none => exact .inl rfl
  | some p => exact .inr (List.mem_of_getLast? h)
theorem lastP_take {ps : List (RV × Tree)} {k : Nat} (hk : k < ps.length) : ps[k]? = some (lastP (ps.take (k + 1))) := by
  unfold lastP
  rw [List.getLast?_take]
  simp [hk]

/-- The tree of the last one. -/
theorem lastP_is {w : World} {S : Nat → Prop} {ps : List (RV × Tree)} {a : Option Addr} {n c : Nat} (h : RowsOf (ER w S) 10 w S ps a n c) (hv : validL ps = true) (k : Nat) :
    IsD w S (lastP (ps.take k)).2 (lastP (ps.take k)).1.body ∧ (lastP (ps.take k)).2.size ≤ 4096 := by
  rcases lastP_mem (ps.take k) with e | e
  · rw [e]; exact ⟨zeroT_is _ _, zeroT_size⟩
  · have hm := List.mem_of_mem_take e
    obtain ⟨j, hj, he⟩ := List.getElem_of_mem hm
    have hjn : j < n := by have := h.1; omega
    obtain ⟨g, o, p, cs, _, _, hp, ⟨_, hD⟩, _, _⟩ := h.get hjn
    rw [List.getElem?_eq_getElem hj] at hp
    injection hp with hp
    rw [← he, hp]
    exact ⟨hD, validT_size ((validL_iff ps).1 hv p (by rw [← hp]; exact List.getElem_mem hj))⟩

theorem tryN_pos {M : Int} {vs : List RV} (h : vs ≠ []) : 1 ≤ tryN M 0 vs := by
  cases vs with
  | nil => exact absurd rfl h
  | cons r l => rw [tryN]; split <;> omega
theorem tryN_cons (M : Int) (i : Nat) (x : RV) (l : List RV) : tryN M i (x :: l) = if x.again = true ∧ (i : Int) + 1 < M then 1 + tryN M (i + 1) l else 1 := by rw [tryN]
theorem tryN_again {M : Int} : ∀ (vs : List RV) (i j : Nat) (r : RV), vs[j]? = some r → j + 1 < tryN M i vs → r.again = true := by
  intro vs
  induction vs with
  | nil => intro i j r h _; simp at h
  | cons x l ih =>
    intro i j r h hlt
    rw [tryN_cons] at hlt
    by_cases hc : x.again = true ∧ (i : Int) + 1 < M
    · rw [if_pos hc] at hlt
      cases j with
      | zero => simp at h; subst h; exact hc.1
      | succ j =>
        simp at h
        exact ih (i + 1) j r h (by omega)
    · rw [if_neg hc] at hlt
      omega

theorem own_blk {w : World} {B T sz : Nat} {a : Option Addr} {n c : Nat} {xs : List Value} (h : w.ownsRow B T sz (.slice a n c) n xs) (hn : 0 < n) : ∃ g cur, a = some ⟨g, 0, none⟩ ∧ B ≤ g ∧ Blk w g T cur ∧ n * sz ≤ cur.size := by
  rcases h.2 with ⟨_, h0⟩ | ⟨g, cap, cur, hv, hg, hh, hc, _, hs, _⟩
  · omega
  · injection hv with ha
    exact ⟨g, cur, ha, hg, hh, by rw [hs]; exact Nat.mul_le_mul_right _ hc⟩
end Go.Proofs.Ytmdcfmdjbncaoaa
