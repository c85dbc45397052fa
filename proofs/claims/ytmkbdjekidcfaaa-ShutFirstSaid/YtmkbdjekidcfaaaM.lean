/- The plain laws of the order: nothing ahead of what it waits for; stuck at the end; fewer demands, no fewer in order. -/
import Derived.Test.YtmkbdjekidcfaaaL
namespace Go.Proofs.Ytmkbdjekidcfaaa

theorem ready_mem {rows : List (List Int)} {G : List Nat} {i : Nat} (h : ready rows G i = true) : i ∉ G ∧ ∀ k : Nat, nd rows i k = true → k ∈ G := by
  obtain ⟨h1, h2⟩ := ready_iff.1 h
  refine ⟨by simpa [inG] using h1, fun k hk => ?_⟩
  have := h2 k
  unfold sG at this
  rw [hk] at this
  simpa [inG] using this
theorem ready_of {rows : List (List Int)} {G : List Nat} {i : Nat} (h1 : i ∉ G) (h2 : ∀ k : Nat, nd rows i k = true → k ∈ G) : ready rows G i = true := by
  refine ready_iff.2 ⟨by simpa [inG] using h1, fun q => ?_⟩
  unfold sG
  cases hn : nd rows i q with
  | false => rfl
  | true =>
    have hq : 0 ≤ q := by unfold nd at hn; simp at hn; exact hn.1.1.1
    obtain ⟨m, rfl⟩ := Int.eq_ofNat_of_zero_le hq
    have := h2 m hn
    simp [inG]
    exact this

/-- Each thing of the row has all that it waits for ahead of it. -/
def Ahead (rows : List (List Int)) (G : List Nat) : Prop := ∀ p (hp : p < G.length) (k : Nat), nd rows G[p] k = true → k ∈ G.take p

theorem ahead_step {rows : List (List Int)} {G : List Nat} {i : Nat} (h : Ahead rows G) (hr : ready rows G i = true) : Ahead rows (G ++ [i]) := by
  intro p hp k hk
  simp only [List.length_append, List.length_cons, List.length_nil] at hp
  by_cases hlt : p < G.length
  · rw [List.getElem_append_left hlt] at hk
    rw [List.take_append_of_le_length (by omega)]
    exact h p hlt k hk
  · obtain rfl : p = G.length := by omega
    rw [List.getElem_append_right (by omega)] at hk
    simp only [Nat.sub_self, List.getElem_cons_zero] at hk
    rw [List.take_append_of_le_length (Nat.le_refl _), List.take_length]
    exact (ready_mem hr).2 k hk

theorem ordN_ahead {rows : List (List Int)} : ∀ (f : Nat) (G : List Nat), Ahead rows G → Ahead rows (ordN rows f G)
  | 0, _, h => h
  | f + 1, G, h => by
    rw [ordN]
    cases hn : nextOf rows G with
    | none => exact h
    | some i => exact ordN_ahead f _ (ahead_step h (nextOf_some hn).2.1)
theorem ordOf_ahead (rows : List (List Int)) : Ahead rows (ordOf rows) := ordN_ahead _ _ (fun p hp => absurd hp (by simp))

theorem full_mem {n : Nat} {G : List Nat} (h1 : G.Nodup) (h2 : ∀ i ∈ G, i < n) (h3 : n ≤ G.length) {i : Nat} (hi : i < n) : i ∈ G := by
  apply Classical.byContradiction
  intro hni
  have := nodup_le n (i :: G) (List.nodup_cons.2 ⟨hni, h1⟩) (fun x hx => by
    rcases List.mem_cons.1 hx with rfl | hx
    · exact hi
    · exact h2 x hx)
  simp at this
  omega

theorem ordN_stuck {rows : List (List Int)} : ∀ (f : Nat) (G : List Nat), G.Nodup → (∀ i ∈ G, i < rows.length) → rows.length ≤ f + G.length → nextOf rows (ordN rows f G) = none
  | 0, G, h1, h2, h3 => by
    refine nextOf_eq_none (fun i hi => ?_)
    have := full_mem h1 h2 (by omega) hi
    cases h : ready rows G i with
    | false => exact h
    | true => exact absurd this (ready_mem h).1
  | f + 1, G, h1, h2, h3 => by
    rw [ordN]
    cases hn : nextOf rows G with
    | none => exact hn
    | some i =>
      obtain ⟨q1, q2, _⟩ := nextOf_some hn
      have hni := (ready_mem q2).1
      refine ordN_stuck f (G ++ [i]) ?_ ?_ (by simp; omega)
      · rw [List.nodup_append]
        exact ⟨h1, by simp, fun a ha b hb => by simp at hb; subst hb; exact fun e => hni (e ▸ ha)⟩
      · intro x hx
        simp only [List.mem_append, List.mem_singleton] at hx
        rcases hx with hx | rfl
        · exact h2 x hx
        · exact q1
theorem ordOf_stuck (rows : List (List Int)) {i : Nat} (hi : i < rows.length) (hni : i ∉ ordOf rows) : ∃ k : Nat, k < rows.length ∧ nd rows i k = true ∧ k ∉ ordOf rows := by
  have h := nextOf_none (ordN_stuck rows.length [] List.nodup_nil (by simp) (by simp)) i hi
  apply Classical.byContradiction
  intro hno
  have : ready rows (ordOf rows) i = true := ready_of hni (fun k hk => by
    apply Classical.byContradiction
    intro hk2
    have : k < rows.length := by unfold nd at hk; simp at hk; exact hk.1.1
    exact hno ⟨k, this, hk, hk2⟩)
  rw [show ordOf rows = ordN rows rows.length [] from rfl] at this
  rw [h] at this
  cases this

/-- Fewer demands: what was in order is in order. -/
theorem ord_fewer {rows rows' : List (List Int)} (hl : rows'.length = rows.length) (hnd : ∀ i k : Nat, nd rows' i k = true → nd rows i k = true) : ∀ i ∈ ordOf rows, i ∈ ordOf rows' := by
  have key : ∀ p (hp : p < (ordOf rows).length), (ordOf rows)[p] ∈ ordOf rows' := by
    intro p
    induction p using Nat.strongRecOn with
    | _ p ih =>
      intro hp
      apply Classical.byContradiction
      intro hni
      obtain ⟨k, hk1, hk2, hk3⟩ := ordOf_stuck rows' (i := (ordOf rows)[p]) (by rw [hl]; exact (ordOf_inv rows).2 _ (List.getElem_mem _)) hni
      have h1 := ordOf_ahead rows p hp k (hnd _ _ hk2)
      obtain ⟨q, hq, hq2⟩ := List.getElem_of_mem h1
      rw [List.length_take] at hq
      rw [List.getElem_take] at hq2
      exact hk3 (hq2 ▸ ih q (by omega) (by omega))
  intro i hi
  obtain ⟨p, hp, rfl⟩ := List.getElem_of_mem hi
  exact key p hp

/-- The list at k struck. -/
def less (rows : List (List Int)) (k : Nat) : List (List Int) := rows.set k []
theorem less_length (rows : List (List Int)) (k : Nat) : (less rows k).length = rows.length := by simp [less]
theorem less_row {rows : List (List Int)} {k i : Nat} : rowOf (less rows k) i = if i = k then [] else rowOf rows i := by
  unfold less rowOf
  by_cases e : i = k
  · subst e
    rw [if_pos rfl, List.getD_eq_getElem?_getD, List.getElem?_set]
    by_cases h : i < rows.length <;> simp [h]
  · rw [if_neg e, List.getD_eq_getElem?_getD, List.getElem?_set, if_neg (fun h => e h.symm)]
    rfl
theorem less_nd {rows : List (List Int)} {k i j : Nat} (h : nd (less rows k) i j = true) : nd rows i j = true := by
  unfold nd at *
  rw [less_length, less_row] at h
  by_cases e : i = k
  · rw [if_pos e] at h; simp at h
  · rw [if_neg e] at h; exact h
theorem less_ord {rows : List (List Int)} {k : Nat} : ∀ i ∈ ordOf rows, i ∈ ordOf (less rows k) := ord_fewer (less_length rows k) (fun i j h => less_nd h)
theorem less_has {rows : List (List Int)} {k : Nat} (hk : k < rows.length) : k ∈ ordOf (less rows k) := by
  apply Classical.byContradiction
  intro hni
  obtain ⟨j, _, hj, _⟩ := ordOf_stuck (less rows k) (i := k) (by rw [less_length]; exact hk) hni
  unfold nd at hj
  rw [less_row, if_pos rfl] at hj
  simp at hj

theorem tot_set (rows : List (List Int)) : ∀ k, tot (rows.set k []) ≤ tot rows := by
  unfold tot
  induction rows with
  | nil => intro k; simp
  | cons r rest ih =>
    intro k
    cases k with
    | zero => simp
    | succ k => simp only [List.set_cons_succ, List.map_cons, List.sum_cons]; have := ih k; omega
theorem less_small {rows : List (List Int)} {k : Nat} (h : smallB rows = true) : smallB (less rows k) = true := by
  have h := of_decide_eq_true h
  exact decide_eq_true (Nat.le_trans (tot_set rows k) h)

theorem ord_cyc (rows : List (List Int)) : (ordOf rows).length + (cycOf rows).length = rows.length := by
  have h := ordOf_inv rows
  have e : ((List.range rows.length).filter fun i => (ordOf rows).contains i).length = (ordOf rows).length := by
    apply Nat.le_antisymm
    · have hn : ((List.range rows.length).filter fun i => (ordOf rows).contains i).Nodup := List.nodup_range.filter _
      have : ∀ (l m : List Nat), l.Nodup → (∀ x ∈ l, x ∈ m) → l.length ≤ m.length := by
        intro l
        induction l with
        | nil => intro m _ _; simp
        | cons a r ih =>
          intro m hnd hsub
          have ha := hsub a (by simp)
          have := ih (m.erase a) (List.nodup_cons.1 hnd).2 (fun x hx => by
            have hx' := hsub x (by simp [hx])
            have hne : x ≠ a := fun e => (List.nodup_cons.1 hnd).1 (by rw [← e]; exact hx)
            exact (List.mem_erase_of_ne hne).2 hx')
          rw [List.length_erase_of_mem ha] at this
          have : 0 < m.length := List.length_pos_of_mem ha
          simp
          omega
      exact this _ _ hn (fun x hx => by simpa using (List.mem_filter.1 hx).2)
    · have : ∀ (l m : List Nat), l.Nodup → (∀ x ∈ l, x ∈ m) → l.length ≤ m.length := by
        intro l
        induction l with
        | nil => intro m _ _; simp
        | cons a r ih =>
          intro m hnd hsub
          have ha := hsub a (by simp)
          have := ih (m.erase a) (List.nodup_cons.1 hnd).2 (fun x hx => by
            have hx' := hsub x (by simp [hx])
            have hne : x ≠ a := fun e => (List.nodup_cons.1 hnd).1 (by rw [← e]; exact hx)
            exact (List.mem_erase_of_ne hne).2 hx')
          rw [List.length_erase_of_mem ha] at this
          have : 0 < m.length := List.length_pos_of_mem ha
          simp
          omega
      exact this _ _ h.1 (fun x hx => List.mem_filter.2 ⟨List.mem_range.2 (h.2 x hx), by simpa using hx⟩)
  have hsplit : ∀ (l : List Nat) (p : Nat → Bool), (l.filter p).length + (l.filter fun i => !p i).length = l.length := by
    intro l p
    induction l with
    | nil => rfl
    | cons a r ih => cases hp : p a <;> simp [hp] <;> omega
  have := hsplit (List.range rows.length) (fun i => (ordOf rows).contains i)
  unfold cycOf
  rw [e] at this
  simpa using this

end Go.Proofs.Ytmkbdjekidcfaaa
