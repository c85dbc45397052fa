/- The plain law of QueueLoses: of a row of Puts and Takes each message was taken, told or waits; of one priority they are taken in order. -/
import Derived.Test.YtmdcfmdjbncaoaaQp
namespace Go.Proofs.Ytmdcfmdjbncaoaa

theorem up_ne {l : List MX} (h : l.Pairwise (fun x y => x.id < y.id)) {i j : Nat} {x y : MX} (hi : l[i]? = some x) (hj : l[j]? = some y) (hij : i < j) : x.id < y.id := by
  obtain ⟨h1, rfl⟩ := List.getElem?_eq_some_iff.1 hi
  obtain ⟨h2, rfl⟩ := List.getElem?_eq_some_iff.1 hj
  exact List.pairwise_iff_getElem.1 h i j h1 h2 hij

/-- Of messages 1 .. i just those are marked, once, that do not wait in l. -/
structure Fair (l : List MX) (F : Nat → Int) (i : Nat) : Prop where
  up : l.Pairwise (fun x y => x.id < y.id)
  lo : ∀ x ∈ l, 1 ≤ x.id ∧ x.id ≤ i
  wait : ∀ x ∈ l, F (x.id - 1).toNat = 0
  gone : ∀ k : Nat, k < i → (∀ x ∈ l, x.id ≠ k + 1) → F k = 1
  off : ∀ k, i ≤ k → F k = 0
def bump (F : Nat → Int) (j : Nat) : Nat → Int := fun k => if k = j then F k + 1 else F k

theorem Fair.nil : Fair [] (fun _ => 0) 0 := ⟨List.Pairwise.nil, fun _ h => absurd h (by simp), fun _ h => absurd h (by simp), fun _ h => absurd h (by omega), fun _ _ => rfl⟩
theorem Fair.push {l : List MX} {F : Nat → Int} {i : Nat} {x : MX} (h : Fair l F i) (hx : x.id = i + 1) : Fair (l ++ [x]) F (i + 1) := by
  refine ⟨?_, ?_, ?_, ?_, fun k hk => h.off k (by omega)⟩
  · refine List.pairwise_append.2 ⟨h.up, List.pairwise_singleton _ _, fun a ha b hb => ?_⟩
    rw [List.mem_singleton.1 hb, hx]
    have := (h.lo a ha).2
    omega
  · intro y hy
    rcases List.mem_append.1 hy with hy | hy
    · have := h.lo y hy
      omega
    · rw [List.mem_singleton.1 hy, hx]
      omega
  · intro y hy
    rcases List.mem_append.1 hy with hy | hy
    · exact h.wait y hy
    · rw [List.mem_singleton.1 hy, hx]
      exact h.off _ (by omega)
  · intro k hk hn
    have h1 : x.id ≠ k + 1 := hn x (by simp)
    refine h.gone k (by omega) fun y hy => hn y (by simp [hy])
theorem Fair.pull {l : List MX} {F : Nat → Int} {i j : Nat} {x : MX} (h : Fair l F i) (hx : l[j]? = some x) : Fair (l.eraseIdx j) (bump F (x.id - 1).toNat) i := by
  have hxm : x ∈ l := List.mem_of_getElem? hx
  have hx1 := h.lo x hxm
  have sub : ∀ y, y ∈ l.eraseIdx j → y ∈ l ∧ y.id ≠ x.id := by
    intro y hy
    obtain ⟨k, hk, hy⟩ := List.mem_eraseIdx_iff_getElem?.1 hy
    refine ⟨List.mem_of_getElem? hy, ?_⟩
    rcases Nat.lt_or_gt_of_ne hk with hlt | hgt
    · have := up_ne h.up hy hx hlt
      omega
    · have := up_ne h.up hx hy hgt
      omega
  refine ⟨h.up.sublist (List.eraseIdx_sublist _ _), fun y hy => h.lo y (sub y hy).1, fun y hy => ?_, fun k hk hn => ?_, fun k hk => ?_⟩
  · obtain ⟨h1, h2⟩ := sub y hy
    have hy1 := h.lo y h1
    rw [bump, if_neg (by omega)]
    exact h.wait y h1
  · by_cases hkx : k = (x.id - 1).toNat
    · subst hkx
      rw [bump, if_pos rfl, h.wait x hxm]
      rfl
    · rw [bump, if_neg hkx]
      refine h.gone k hk fun y hy e => ?_
      by_cases hyx : y = x
      · subst hyx
        omega
      · obtain ⟨q, hq⟩ := List.mem_iff_getElem?.1 hy
        refine hn y (List.mem_eraseIdx_iff_getElem?.2 ⟨q, fun e2 => hyx ?_, hq⟩) e
        subst e2
        rw [hx] at hq
        injection hq with hq
        exact hq.symm
  · rw [bump, if_neg (by omega)]
    exact h.off k hk
theorem Fair.all {F : Nat → Int} {i : Nat} (h : Fair [] F i) (k : Nat) (hk : k < i) : F k = 1 := h.gone k hk fun _ hx => absurd hx (by simp)

/-- Of each priority the last one taken is ahead of those that wait. -/
structure Lasty (l : List MX) (L : Int → Int) (i : Nat) : Prop where
  top : ∀ p, L p ≤ i
  bot : ∀ p, 0 ≤ L p
  ahead : ∀ x ∈ l, L x.prio < x.id
theorem Lasty.nil : Lasty [] (fun _ => 0) 0 := ⟨fun _ => by simp, fun _ => by simp, fun _ h => absurd h (by simp)⟩
theorem Lasty.push {l : List MX} {L : Int → Int} {i : Nat} {x : MX} (h : Lasty l L i) (hx : x.id = i + 1) : Lasty (l ++ [x]) L (i + 1) := by
  refine ⟨fun p => by have := h.top p; omega, h.bot, fun y hy => ?_⟩
  rcases List.mem_append.1 hy with hy | hy
  · exact h.ahead y hy
  · rw [List.mem_singleton.1 hy, hx]
    have := h.top x.prio
    omega
theorem Lasty.sub {l : List MX} {L : Int → Int} {i j : Nat} (h : Lasty l L i) : Lasty (l.eraseIdx j) L i := ⟨h.top, h.bot, fun y hy => h.ahead y ((List.eraseIdx_sublist _ _).subset hy)⟩
theorem Lasty.up {l : List MX} {L : Int → Int} {i : Nat} (h : Lasty l L i) : Lasty l L (i + 1) := ⟨fun p => by have := h.top p; omega, h.bot, h.ahead⟩

theorem high_max (l : List MX) : ∀ (n k : Nat), k < n → (atM l k).prio ≤ (atM l (highI l n)).prio
  | 0, _, h => absurd h (by omega)
  | n + 1, k, hk => by
    rw [highI]
    split
    · rename_i h1
      rcases Nat.lt_or_ge k n with h2 | h2
      · have := high_max l n k h2
        omega
      · obtain rfl : k = n := by omega
        exact Int.le_refl _
    · rename_i h1
      rcases Nat.lt_or_ge k n with h2 | h2
      · exact high_max l n k h2
      · obtain rfl : k = n := by omega
        omega
theorem high_first (l : List MX) : ∀ (n k : Nat), k < highI l n → (atM l k).prio < (atM l (highI l n)).prio
  | 0, _, h => absurd h (by rw [highI]; omega)
  | n + 1, k, hk => by
    rw [highI] at hk ⊢
    split at hk
    · rename_i h1
      rw [if_pos h1]
      have := high_max l n k hk
      omega
    · rename_i h1
      rw [if_neg h1]
      exact high_first l n k hk
/-- The one of the greatest priority is taken. -/
theorem Lasty.take {l : List MX} {F : Nat → Int} {L : Int → Int} {i : Nat} (h : Lasty l L i) (hf : Fair l F i) (hl : 0 < l.length) :
    L (atM l (highI l l.length)).prio < (atM l (highI l l.length)).id ∧
    Lasty (l.eraseIdx (highI l l.length)) (fun p => if p = (atM l (highI l l.length)).prio then (atM l (highI l l.length)).id else L p) i := by
  have hx := atM_mem (l := l) (highI_lt hl (Nat.le_refl _))
  have hfst := high_first l l.length
  generalize highI l l.length = j at hx hfst
  have hxm := List.mem_of_getElem? hx
  have hlo := hf.lo _ hxm
  refine ⟨h.ahead _ hxm, fun p => ?_, fun p => ?_, fun y hy => ?_⟩
  · split
    · exact hlo.2
    · exact h.top p
  · split
    · omega
    · exact h.bot p
  · obtain ⟨k, hk, hy⟩ := List.mem_eraseIdx_iff_getElem?.1 hy
    split
    · rename_i hp
      rcases Nat.lt_or_gt_of_ne hk with hlt | hgt
      · have := hfst k hlt
        rw [atM_get hy] at this
        omega
      · exact up_ne hf.up hx hy hgt
    · exact h.ahead y (List.mem_of_getElem? hy)

theorem putQ_mem {q : QX} {room drop : Int} {m x : MX} (h : x ∈ (putQ q room drop m).1.l) : x ∈ q.l ∨ x = m := by
  unfold putQ at h
  split at h
  · simpa using h
  · split at h
    · exact .inl h
    · split at h
      · have := (List.eraseIdx_sublist _ _).subset h
        simpa using this
      · exact .inl h
theorem putQ_rd {q : QX} {room drop : Int} {m : MX} : q.r ≤ (putQ q room drop m).1.r ∧ (putQ q room drop m).1.r ≤ q.r + 1 ∧ q.d ≤ (putQ q room drop m).1.d ∧ (putQ q room drop m).1.d ≤ q.d + 1 := by
  unfold putQ
  split
  · dsimp only; omega
  · split
    · dsimp only; omega
    · split
      · dsimp only; omega
      · dsimp only; omega
/-- What a Put does to the marks. -/
theorem put_step {q : QX} {F : Nat → Int} {L : Int → Int} {i : Nat} {room drop : Int} {m : MX} (h : Fair q.l F i) (hL : Lasty q.l L i) (hm : m.id = i + 1) (hr : (q.l.length : Int) ≤ room) :
    Lasty (putQ q room drop m).1.l L (i + 1) ∧ ((putQ q room drop m).1.l.length : Int) ≤ room ∧
    (((putQ q room drop m).2.2.1 = false ∧ (putQ q room drop m).2.2.2 = 0 ∧ Fair (putQ q room drop m).1.l F (i + 1)) ∨
     ((putQ q room drop m).2.2.1 = true ∧ (putQ q room drop m).2.2.2 = 0 ∧ 1 ≤ (putQ q room drop m).2.1.id ∧ (putQ q room drop m).2.1.id ≤ i + 1 ∧ F ((putQ q room drop m).2.1.id - 1).toNat = 0 ∧ Fair (putQ q room drop m).1.l (bump F ((putQ q room drop m).2.1.id - 1).toNat) (i + 1)) ∨
     ((putQ q room drop m).2.2.1 = false ∧ (putQ q room drop m).2.2.2 = 190 ∧ Fair (putQ q room drop m).1.l (bump F i) (i + 1))) := by
  have hp := h.push hm
  have hlast : (q.l ++ [m])[q.l.length]? = some m := by simp
  have hdrop := hp.pull hlast
  have hne : (q.l ++ [m]).eraseIdx q.l.length = q.l := by simp [List.eraseIdx_append_of_length_le]
  rw [hne] at hdrop
  unfold putQ
  split
  · rename_i hlt
    exact ⟨hL.push hm, by simp; omega, .inl ⟨rfl, rfl, hp⟩⟩
  · rename_i hlt
    split
    · exact ⟨hL.up, hr, .inr (.inl ⟨rfl, rfl, by show 1 ≤ m.id; omega, by show m.id ≤ _; omega, hp.wait m (by simp), hdrop⟩)⟩
    · split
      · have hl' : (q.l ++ [m]).length = q.l.length + 1 := by simp
        have hk : lowI (q.l ++ [m]) (q.l.length + 1) < (q.l ++ [m]).length := lowI_lt (by omega) (by omega)
        have hx := atM_mem hk
        have hlo := hp.lo _ (List.mem_of_getElem? hx)
        refine ⟨(hL.push hm).sub, ?_, .inr (.inl ⟨rfl, rfl, hlo.1, by have := hlo.2; show _ ≤ (i : Int) + 1; push_cast at this; omega, hp.wait _ (List.mem_of_getElem? hx), hp.pull hx⟩)⟩
        show ((((q.l ++ [m]).eraseIdx _).length : Nat) : Int) ≤ room
        rw [List.length_eraseIdx_of_lt hk, hl']
        omega
      · refine ⟨hL.up, hr, .inr (.inr ⟨rfl, rfl, ?_⟩)⟩
        have : (m.id - 1).toNat = i := by omega
        rw [this] at hdrop
        exact hdrop
/-- What a Take does. -/
theorem take_step {q : QX} {F : Nat → Int} {L : Int → Int} {i : Nat} (h : Fair q.l F i) (hL : Lasty q.l L i) (hn : 0 < q.l.length) :
    takeQ q = (⟨q.l.eraseIdx (highI q.l q.l.length), q.r, q.d⟩, atM q.l (highI q.l q.l.length), true) ∧ 1 ≤ (atM q.l (highI q.l q.l.length)).id ∧ (atM q.l (highI q.l q.l.length)).id ≤ i ∧
    Fair (q.l.eraseIdx (highI q.l q.l.length)) (bump F ((atM q.l (highI q.l q.l.length)).id - 1).toNat) i ∧ L (atM q.l (highI q.l q.l.length)).prio < (atM q.l (highI q.l q.l.length)).id ∧
    Lasty (q.l.eraseIdx (highI q.l q.l.length)) (fun p => if p = (atM q.l (highI q.l q.l.length)).prio then (atM q.l (highI q.l q.l.length)).id else L p) i := by
  have hx := atM_mem (l := q.l) (highI_lt hn (Nat.le_refl _))
  have hlo := h.lo _ (List.mem_of_getElem? hx)
  exact ⟨by rw [takeQ, if_neg (by omega)], hlo.1, hlo.2, h.pull hx, (hL.take h hn).1, (hL.take h hn).2⟩
/-- The first one of those that are left is marked. -/
theorem Fair.next {l : List MX} {x : MX} {F : Nat → Int} {i : Nat} (h : Fair (x :: l) F i) : Fair l (bump F (x.id - 1).toNat) i := by
  have := h.pull (j := 0) (x := x) rfl
  simpa using this
end Go.Proofs.Ytmdcfmdjbncaoaa
