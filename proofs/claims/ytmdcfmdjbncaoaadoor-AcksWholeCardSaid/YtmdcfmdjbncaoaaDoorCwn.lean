/- AcksWhole: the plain law. AcksWhole: the rows of its own; place. AcksWhole: the state within a turn. -/
import Derived.Test.YtmdcfmdjbncaoaaDoorCqx
import Derived.Test.YtmdcfmdjbncaoaaDoorCum
import Derived.Great.Walk
namespace Go.Proofs.YtmdcfmdjbncaoaaDoor

/-- Where an Id was sent; -1: nowhere. -/
def placeI : List Int → Int → Int
  | [], _ => -1
  | x :: l, id => if x = id then 0 else (if placeI l id = -1 then -1 else placeI l id + 1)
theorem placeI_ge (l : List Int) (id : Int) : -1 ≤ placeI l id := by
  induction l with
  | nil => exact Int.le_refl _
  | cons x l ih => unfold placeI; split; omega; split <;> omega
theorem placeI_hit {l : List Int} {id : Int} {j : Nat} (hx : l[j]? = some id) (hb : ∀ (i : Nat) (y : Int), i < j → l[i]? = some y → y ≠ id) : placeI l id = j := by
  induction l generalizing j with
  | nil => simp at hx
  | cons y l ih =>
    cases j with
    | zero =>
      simp at hx
      subst hx
      rw [placeI, if_pos rfl]
      rfl
    | succ j =>
      have h0 := hb 0 y (by omega) rfl
      have h1 := ih (j := j) (by simpa using hx) (fun i z hi hz => hb (i + 1) z (by omega) (by simpa using hz))
      rw [placeI, if_neg h0, h1, if_neg (by omega)]
      omega
theorem placeI_miss {l : List Int} {id : Int} (hb : ∀ (i : Nat) (y : Int), l[i]? = some y → y ≠ id) : placeI l id = -1 := by
  induction l with
  | nil => rfl
  | cons y l ih =>
    have h0 := hb 0 y rfl
    have h1 := ih fun i z hz => hb (i + 1) z (by simpa using hz)
    rw [placeI, if_neg h0, if_pos h1]
theorem placeI_some {l : List Int} {id : Int} (h : ¬ placeI l id < 0) : ∃ k : Nat, placeI l id = (k : Int) ∧ l[k]? = some id := by
  induction l with
  | nil => exact absurd (show (-1 : Int) < 0 by decide) h
  | cons y l ih =>
    unfold placeI at h ⊢
    by_cases h0 : y = id
    · rw [if_pos h0]; exact ⟨0, rfl, by rw [h0]; rfl⟩
    · rw [if_neg h0] at h ⊢
      by_cases h1 : placeI l id = -1
      · rw [if_pos h1] at h; exact absurd (by decide) h
      · rw [if_neg h1] at h ⊢
        have := placeI_ge l id
        obtain ⟨k, h2, h3⟩ := ih (by omega)
        exact ⟨k + 1, by rw [h2]; rfl, by simpa using h3⟩
theorem placeI_neg {l : List Int} {id : Int} (h : placeI l id < 0) : id ∉ l := by
  induction l with
  | nil => simp
  | cons y l ih =>
    unfold placeI at h
    by_cases h0 : y = id
    · rw [if_pos h0] at h; omega
    · rw [if_neg h0] at h
      by_cases h1 : placeI l id = -1
      · have := ih (by omega)
        simp [Ne.symm h0, this]
      · rw [if_neg h1] at h
        have := placeI_ge l id
        omega
/-- No Id twice. -/
def Once (ids : List Int) : Prop := ∀ (i j : Nat) (a : Int), ids[i]? = some a → ids[j]? = some a → i = j
theorem placeI_at {ids : List Int} (h : Once ids) {k : Nat} {id : Int} (hk : ids[k]? = some id) : placeI ids id = k := placeI_hit hk fun i y hi hy e => by
  subst e
  have := h i k y hy hk
  omega
/-- No Id waits twice. -/
def OnceS (l : List SX) : Prop := l.Pairwise fun x y => x.m.id ≠ y.m.id
theorem OnceS.eq {l : List SX} (h : OnceS l) {x y : SX} (hx : x ∈ l) (hy : y ∈ l) (e : x.m.id = y.m.id) : x = y := by
  unfold OnceS at h
  induction l with
  | nil => cases hx
  | cons z l ih =>
    obtain ⟨hz, hl⟩ := List.pairwise_cons.1 h
    rcases List.mem_cons.1 hx with e1 | hx'
    · rcases List.mem_cons.1 hy with e2 | hy'
      · rw [e1, e2]
      · rw [e1] at e; exact absurd e (hz y hy')
    · rcases List.mem_cons.1 hy with e2 | hy'
      · rw [e2] at e; exact absurd e.symm (hz x hx')
      · exact ih hl hx' hy'

/-- Those Ids marked. -/
def mark (f : Int → Int) (on ids xs : List Int) : List Int := List.zipWith (fun i t => if i ∈ on then f t else t) ids xs
theorem mark_len {f : Int → Int} {on ids xs : List Int} (h : xs.length = ids.length) : (mark f on ids xs).length = ids.length := by
  rw [mark, List.length_zipWith, h, Nat.min_self]
theorem mark_at {f : Int → Int} {on ids xs : List Int} {k : Nat} {i t : Int} (hi : ids[k]? = some i) (hx : xs[k]? = some t) : (mark f on ids xs)[k]? = some (if i ∈ on then f t else t) := by
  rw [mark, List.getElem?_zipWith, hi, hx]
theorem mark_off {f : Int → Int} {on ids xs : List Int} {k : Nat} {i t : Int} (hi : ids[k]? = some i) (hx : xs[k]? = some t) (h : i ∉ on) : (mark f on ids xs)[k]? = some t := by rw [mark_at hi hx, if_neg h]
theorem mark_on {f : Int → Int} {on ids xs : List Int} {k : Nat} {i t : Int} (hi : ids[k]? = some i) (hx : xs[k]? = some t) (h : i ∈ on) : (mark f on ids xs)[k]? = some (f t) := by rw [mark_at hi hx, if_pos h]
theorem mark_nil (f : Int → Int) {ids xs : List Int} (h : xs.length = ids.length) : mark f [] ids xs = xs := by
  refine List.ext_getElem? fun j => ?_
  rw [mark, List.getElem?_zipWith]
  rcases Nat.lt_or_ge j ids.length with hj | hj
  · rw [List.getElem?_eq_getElem hj, List.getElem?_eq_getElem (by omega : j < xs.length)]; simp
  · rw [List.getElem?_eq_none hj, List.getElem?_eq_none (by omega : xs.length ≤ j)]
theorem mark_step {f : Int → Int} {on ids xs : List Int} (ho : Once ids) {k : Nat} {i t : Int} (hi : ids[k]? = some i) (hx : xs[k]? = some t) (_hn : i ∉ on) : (mark f on ids xs).set k (f t) = mark f (on ++ [i]) ids xs := by
  refine List.ext_getElem? fun j => ?_
  by_cases hj : j = k
  · subst hj
    have hl : j < (mark f on ids xs).length := (List.getElem?_eq_some_iff.1 (mark_at hi hx)).1
    rw [List.getElem?_set_self hl, mark_on hi hx (by simp)]
  · rw [List.getElem?_set_ne (fun e => hj e.symm), mark, mark, List.getElem?_zipWith, List.getElem?_zipWith]
    cases h1 : ids[j]? with
    | none => rfl
    | some a =>
      cases h2 : xs[j]? with
      | none => rfl
      | some b =>
        have hne : a ≠ i := fun e => hj (ho j k i (by rw [← e]; exact h1) hi)
        simp [hne]

/-- The class of one. -/
abbrev clS (p : PX) (now : Int) (x : SX) : Nat := clsS x.m.til x.due x.tries p now
theorem cls_four (p : PX) (now : Int) (x : SX) : clS p now x = 0 ∨ clS p now x = 1 ∨ clS p now x = 2 ∨ clS p now x = 3 := by
  unfold clS clsS
  split
  · exact .inl rfl
  · split
    · exact .inr (.inl rfl)
    · split
      · exact .inr (.inr (.inl rfl))
      · exact .inr (.inr (.inr rfl))
def keepO (p : PX) (now : Int) (x : SX) : Option SX := if clS p now x = 1 then some x else if clS p now x = 3 then some (againS x p now) else none
theorem dueS_gen (p : PX) (now : Int) : ∀ (l : List SX) (D : DS), l.foldl (addD p now) D = ⟨D.rest ++ l.filterMap (keepO p now), D.again ++ (l.filter fun x => clS p now x = 3).map (·.m), D.dead ++ (l.filter fun x => clS p now x = 2).map (·.m), D.late ++ (l.filter fun x => clS p now x = 0).map (·.m)⟩ := by
  intro l
  induction l with
  | nil => intro D; simp
  | cons x l ih =>
    intro D
    rw [List.foldl_cons, ih]
    rcases cls_four p now x with h | h | h | h <;> simp [addD, keepO, show clsS x.m.til x.due x.tries p now = _ from h]
theorem dueS_eq (l : List SX) (p : PX) (now : Int) : dueS l p now = ⟨l.filterMap (keepO p now), (l.filter fun x => clS p now x = 3).map (·.m), (l.filter fun x => clS p now x = 2).map (·.m), (l.filter fun x => clS p now x = 0).map (·.m)⟩ := by
  rw [dueS, dueS_gen]; simp
theorem mem_again {l : List SX} {p : PX} {now : Int} {m : MX} : m ∈ (dueS l p now).again ↔ ∃ x ∈ l, clS p now x = 3 ∧ x.m = m := by rw [dueS_eq]; simp [and_assoc]
theorem mem_dead {l : List SX} {p : PX} {now : Int} {m : MX} : m ∈ (dueS l p now).dead ↔ ∃ x ∈ l, clS p now x = 2 ∧ x.m = m := by rw [dueS_eq]; simp [and_assoc]
theorem mem_late {l : List SX} {p : PX} {now : Int} {m : MX} : m ∈ (dueS l p now).late ↔ ∃ x ∈ l, clS p now x = 0 ∧ x.m = m := by rw [dueS_eq]; simp [and_assoc]
theorem mem_rest {l : List SX} {p : PX} {now : Int} {y : SX} : y ∈ (dueS l p now).rest ↔ ∃ x ∈ l, (clS p now x = 1 ∧ y = x) ∨ (clS p now x = 3 ∧ y = againS x p now) := by
  rw [dueS_eq, List.mem_filterMap]
  constructor
  · rintro ⟨x, hx, h⟩
    unfold keepO at h
    split at h
    · injection h with h; exact ⟨x, hx, .inl ⟨by assumption, h.symm⟩⟩
    · split at h
      · injection h with h; exact ⟨x, hx, .inr ⟨by assumption, h.symm⟩⟩
      · cases h
  · rintro ⟨x, hx, ⟨h1, rfl⟩ | ⟨h1, rfl⟩⟩
    · exact ⟨_, hx, if_pos h1⟩
    · exact ⟨x, hx, by rw [keepO, if_neg (by omega), if_pos h1]⟩
theorem once_rest {l : List SX} {p : PX} {now : Int} (h : OnceS l) : OnceS (dueS l p now).rest := by
  rw [dueS_eq]
  unfold OnceS at h ⊢
  refine List.Pairwise.filterMap (keepO p now) (fun x y hxy x' hx y' hy => ?_) h
  have hid : ∀ (x x' : SX), keepO p now x = some x' → x'.m.id = x.m.id := by
    intro x x' hx
    unfold keepO at hx
    split at hx
    · injection hx with hx; rw [hx]
    · split at hx
      · injection hx with hx; rw [← hx]; rfl
      · cases hx
  rw [hid x x' hx, hid y y' hy]
  exact hxy
/-- No Id twice in a row of messages. -/
def OnceM (l : List MX) : Prop := ∀ (i : Nat) (m : MX), l[i]? = some m → m.id ∉ (l.take i).map (·.id)
theorem onceM_of {l : List SX} (h : OnceS l) (q : SX → Bool) : OnceM ((l.filter q).map (·.m)) := by
  have hp : ((l.filter q).map (·.m)).Pairwise fun a b => a.id ≠ b.id := by
    rw [List.pairwise_map]
    exact List.Pairwise.filter q h
  intro i m hm hmem
  obtain ⟨m', hm', he⟩ := List.mem_map.1 hmem
  obtain ⟨j, hj⟩ := List.getElem?_of_mem hm'
  rw [List.getElem?_take] at hj
  split at hj
  · rename_i hji
    have hi := List.getElem?_eq_some_iff.1 hm
    have hj2 := List.getElem?_eq_some_iff.1 hj
    have := List.pairwise_iff_getElem.1 hp j i hj2.1 hi.1 hji
    rw [hi.2, hj2.2] at this
    exact this he
  · cases hj
theorem wait_pos {p : PX} (hp : FitP p) (k : Int) : 1 ≤ waitF k p.base p.most ∧ waitF k p.base p.most ≤ 1000000 := by
  obtain ⟨_, _, h3, h4, h5, h6⟩ := hp
  rw [waitF_eq]
  have h1 : (1 : Int) ≤ 2 ^ k.toNat := one_le_pow2
  have h2 : max p.base 0 * 1 ≤ max p.base 0 * 2 ^ k.toNat := Int.mul_le_mul_of_nonneg_left h1 (by omega)
  omega

/-- What holds between two things done. -/
structure Whole (p : PX) (lo : Int) (l : List SX) (ids times last ends : List Int) : Prop where
  nt : times.length = ids.length
  na : last.length = ids.length
  ne : ends.length = ids.length
  nl : l.length ≤ ids.length
  once : Once ids
  onceS : OnceS l
  waits : ∀ x ∈ l, ∃ (k : Nat) (t : Int), ids[k]? = some x.m.id ∧ ends[k]? = some 0 ∧ times[k]? = some x.tries ∧ last[k]? = some t ∧ x.due = t + waitF (x.tries - 1) p.base p.most
  tries : ∀ x ∈ l, 1 ≤ x.tries ∧ x.tries ≤ p.tries
  fit : ∀ x ∈ l, FitX x.m
  opens : ∀ (k : Nat) (i : Int), ids[k]? = some i → ends[k]? = some 0 → ∃ x ∈ l, x.m.id = i
  due : ∀ x ∈ l, lo ≤ x.due
  bound : ∀ x ∈ l, x.due ≤ lo + 1000000
section
variable {p : PX} {lo now : Int} {l : List SX} {ids times last ends : List Int}
theorem Whole.nil (p : PX) : Whole p 0 [] [] [] [] [] where
  nt := rfl
  na := rfl
  ne := rfl
  nl := Nat.le_refl _
  once := fun i j a h => by simp at h
  onceS := List.Pairwise.nil
  waits := fun x h => by cases h
  tries := fun x h => by cases h
  fit := fun x h => by cases h
  opens := fun k i h => by simp at h
  due := fun x h => by cases h
  bound := fun x h => by cases h
theorem Whole.again (h : Whole p now l ids times last ends) (hp : FitP p) {m : MX} (hm : m ∈ (dueS l p now).again) : ∃ (k : Nat) (c t : Int), ids[k]? = some m.id ∧ ends[k]? = some 0 ∧ times[k]? = some c ∧ last[k]? = some t ∧ 1 ≤ c ∧ c ≤ 16 ∧ now - t = waitF (c - 1) p.base p.most := by
  obtain ⟨x, hx, hc, rfl⟩ := mem_again.1 hm
  obtain ⟨k, t, h1, h2, h3, h4, h5⟩ := h.waits x hx
  have hd := h.due x hx
  have ht := h.tries x hx
  have hpt := hp.2.1
  refine ⟨k, x.tries, t, h1, h2, h3, h4, ht.1, by omega, ?_⟩
  have h6 : x.due ≤ now := by
    unfold clS clsS at hc
    split at hc
    · omega
    · split at hc
      · omega
      · omega
  omega
theorem Whole.dead (h : Whole p now l ids times last ends) {m : MX} (hm : m ∈ (dueS l p now).dead) : ∃ k : Nat, ids[k]? = some m.id ∧ ends[k]? = some 0 ∧ times[k]? = some p.tries := by
  obtain ⟨x, hx, hc, rfl⟩ := mem_dead.1 hm
  obtain ⟨k, t, h1, h2, h3, h4, h5⟩ := h.waits x hx
  have ht := h.tries x hx
  have h6 : p.tries ≤ x.tries := by
    unfold clS clsS at hc
    split at hc
    · omega
    · split at hc
      · omega
      · split at hc
        · assumption
        · omega
  exact ⟨k, h1, h2, by rw [h3]; congr 1; omega⟩
theorem Whole.late (h : Whole p now l ids times last ends) {m : MX} (hm : m ∈ (dueS l p now).late) : ∃ k : Nat, ids[k]? = some m.id ∧ ends[k]? = some 0 ∧ m.til ≠ 0 ∧ m.til < now := by
  obtain ⟨x, hx, hc, rfl⟩ := mem_late.1 hm
  obtain ⟨k, t, h1, h2, -⟩ := h.waits x hx
  unfold clS clsS at hc
  split at hc
  · rename_i h0; exact ⟨k, h1, h2, h0⟩
  · split at hc
    · omega
    · split at hc <;> omega
/-- Of one Id at a tick there is one thing alone to tell. -/
theorem Whole.apart (h : Whole p now l ids times last ends) {x y : SX} (hx : x ∈ l) (hy : y ∈ l) (he : x.m.id = y.m.id) {i j : Nat} (h1 : clS p now x = i) (h2 : clS p now y = j) : i = j := by
  have := h.onceS.eq hx hy he
  subst this
  omega
def idsOf (l : List MX) : List Int := l.map (·.id)
theorem Whole.not_ad (h : Whole p now l ids times last ends) {m : MX} (hm : m ∈ (dueS l p now).dead) : m.id ∉ idsOf (dueS l p now).again := fun hi => by
  obtain ⟨m', hm', he⟩ := List.mem_map.1 hi
  obtain ⟨x, hx, hc, rfl⟩ := mem_dead.1 hm
  obtain ⟨y, hy, hd, rfl⟩ := mem_again.1 hm'
  have := h.apart hx hy he.symm hc hd
  omega
theorem Whole.not_dl (h : Whole p now l ids times last ends) {m : MX} (hm : m ∈ (dueS l p now).late) : m.id ∉ idsOf (dueS l p now).dead := fun hi => by
  obtain ⟨m', hm', he⟩ := List.mem_map.1 hi
  obtain ⟨x, hx, hc, rfl⟩ := mem_late.1 hm
  obtain ⟨y, hy, hd, rfl⟩ := mem_dead.1 hm'
  have := h.apart hx hy he.symm hc hd
  omega
theorem Whole.onceA (h : Whole p now l ids times last ends) : OnceM (dueS l p now).again := by rw [dueS_eq]; exact onceM_of h.onceS _
theorem Whole.onceD (h : Whole p now l ids times last ends) : OnceM (dueS l p now).dead := by rw [dueS_eq]; exact onceM_of h.onceS _
theorem Whole.onceL (h : Whole p now l ids times last ends) : OnceM (dueS l p now).late := by rw [dueS_eq]; exact onceM_of h.onceS _
/-- Behind Due. -/
theorem Whole.tick (h : Whole p now l ids times last ends) (hp : FitP p) : Whole p (now + 1) (dueS l p now).rest ids (mark (fun t => t + 1) (idsOf (dueS l p now).again) ids times) (mark (fun _ => now) (idsOf (dueS l p now).again) ids last) (mark (fun _ => 2) (idsOf (dueS l p now).late) ids (mark (fun _ => 1) (idsOf (dueS l p now).dead) ids ends)) := by
  have hno : ∀ (x : SX) (i : Nat), x ∈ l → clS p now x = i → (i ≠ 3 → x.m.id ∉ idsOf (dueS l p now).again) ∧ (i ≠ 2 → x.m.id ∉ idsOf (dueS l p now).dead) ∧ (i ≠ 0 → x.m.id ∉ idsOf (dueS l p now).late) := by
    intro x i hx hc
    refine ⟨fun hi hm => ?_, fun hi hm => ?_, fun hi hm => ?_⟩
    · obtain ⟨m', hm', he⟩ := List.mem_map.1 hm
      obtain ⟨y, hy, hd, rfl⟩ := mem_again.1 hm'
      exact hi (h.apart hx hy he.symm hc hd)
    · obtain ⟨m', hm', he⟩ := List.mem_map.1 hm
      obtain ⟨y, hy, hd, rfl⟩ := mem_dead.1 hm'
      exact hi (h.apart hx hy he.symm hc hd)
    · obtain ⟨m', hm', he⟩ := List.mem_map.1 hm
      obtain ⟨y, hy, hd, rfl⟩ := mem_late.1 hm'
      exact hi (h.apart hx hy he.symm hc hd)
  refine ⟨mark_len h.nt, mark_len h.na, mark_len (mark_len h.ne), Nat.le_trans (dueS_len l p now).1 h.nl, h.once, once_rest h.onceS, fun y hy => ?_, fun y hy => ?_, fun y hy => ?_, fun k i hk he => ?_, fun y hy => ?_, fun y hy => ?_⟩
  · obtain ⟨x, hx, ⟨hc, rfl⟩ | ⟨hc, rfl⟩⟩ := mem_rest.1 hy
    · obtain ⟨k, t, h1, h2, h3, h4, h5⟩ := h.waits y hx
      obtain ⟨n3, n2, n0⟩ := hno y 1 hx hc
      exact ⟨k, t, h1, mark_off h1 (mark_off h1 h2 (n2 (by omega))) (n0 (by omega)), mark_off h1 h3 (n3 (by omega)), mark_off h1 h4 (n3 (by omega)), h5⟩
    · obtain ⟨k, t, h1, h2, h3, h4, h5⟩ := h.waits x hx
      obtain ⟨-, n2, n0⟩ := hno x 3 hx hc
      have hin : x.m.id ∈ idsOf (dueS l p now).again := List.mem_map.2 ⟨x.m, mem_again.2 ⟨x, hx, hc, rfl⟩, rfl⟩
      refine ⟨k, now, h1, mark_off h1 (mark_off h1 h2 (n2 (by omega))) (n0 (by omega)), mark_on h1 h3 hin, mark_on h1 h4 hin, ?_⟩
      show now + waitF x.tries p.base p.most = now + waitF (x.tries + 1 - 1) p.base p.most
      rw [Int.add_sub_cancel]
  · obtain ⟨x, hx, ⟨hc, rfl⟩ | ⟨hc, rfl⟩⟩ := mem_rest.1 hy
    · exact h.tries y hx
    · have ht := h.tries x hx
      have : x.tries < p.tries := by
        unfold clS clsS at hc
        split at hc
        · omega
        · split at hc
          · omega
          · split at hc <;> omega
      exact ⟨by show 1 ≤ x.tries + 1; omega, by show x.tries + 1 ≤ p.tries; omega⟩
  · obtain ⟨x, hx, ⟨hc, rfl⟩ | ⟨hc, rfl⟩⟩ := mem_rest.1 hy
    · exact h.fit y hx
    · exact h.fit x hx
  · obtain ⟨e0, he0⟩ : ∃ e0, ends[k]? = some e0 := ⟨_, List.getElem?_eq_getElem (by rw [h.ne]; exact (List.getElem?_eq_some_iff.1 hk).1)⟩
    by_cases hl : i ∈ idsOf (dueS l p now).late
    · by_cases hd : i ∈ idsOf (dueS l p now).dead
      · rw [mark_on hk (mark_on hk he0 hd) hl] at he
        injection he with he
        exact absurd he (by decide)
      · rw [mark_on hk (mark_off hk he0 hd) hl] at he
        injection he with he
        exact absurd he (by decide)
    · by_cases hd : i ∈ idsOf (dueS l p now).dead
      · rw [mark_off hk (mark_on hk he0 hd) hl] at he
        injection he with he
        exact absurd he (by decide)
      · rw [mark_off hk (mark_off hk he0 hd) hl] at he
        obtain ⟨x, hx, hxi⟩ := h.opens k i hk (by rw [he0]; exact he)
        rcases cls_four p now x with hc | hc | hc | hc
        · exact absurd (List.mem_map.2 ⟨x.m, mem_late.2 ⟨x, hx, hc, rfl⟩, hxi⟩) hl
        · exact ⟨x, mem_rest.2 ⟨x, hx, .inl ⟨hc, rfl⟩⟩, hxi⟩
        · exact absurd (List.mem_map.2 ⟨x.m, mem_dead.2 ⟨x, hx, hc, rfl⟩, hxi⟩) hd
        · exact ⟨againS x p now, mem_rest.2 ⟨x, hx, .inr ⟨hc, rfl⟩⟩, hxi⟩
  · obtain ⟨x, hx, ⟨hc, rfl⟩ | ⟨hc, rfl⟩⟩ := mem_rest.1 hy
    · unfold clS clsS at hc
      split at hc
      · omega
      · split at hc
        · omega
        · split at hc <;> omega
    · have := (wait_pos hp x.tries).1
      show now + 1 ≤ now + waitF x.tries p.base p.most
      omega
  · obtain ⟨x, hx, ⟨hc, rfl⟩ | ⟨hc, rfl⟩⟩ := mem_rest.1 hy
    · have := h.bound y hx
      omega
    · have := (wait_pos hp x.tries).2
      show now + waitF x.tries p.base p.most ≤ now + 1 + 1000000
      omega
theorem Whole.place_none (h : Whole p lo l ids times last ends) {id : Int} (hi : placeI ids id < 0) : placeS l id < 0 := by
  have := placeS_miss (l := l) (id := id) fun i y hy e => by
    obtain ⟨k, t, h1, -⟩ := h.waits y (List.mem_of_getElem? hy)
    exact placeI_neg hi (by rw [← e]; exact List.mem_of_getElem? h1)
  omega
theorem Whole.send (h : Whole p (now + 1) l ids times last ends) (hp : FitP p) {m : MX} (hf : FitX m) (hi : placeI ids m.id < 0) : Whole p (now + 1) (l ++ [⟨m, 1, now + waitF 0 p.base p.most⟩]) (ids ++ [m.id]) (times ++ [1]) (last ++ [now]) (ends ++ [0]) := by
  have hn := placeI_neg hi
  have w0 := wait_pos hp 0
  have hlt : ∀ {xs : List Int} {k : Nat} {x : Int} (u : Int), xs[k]? = some x → (xs ++ [u])[k]? = some x := fun {xs k x} u hx => by rw [List.getElem?_append_left (List.getElem?_eq_some_iff.1 hx).1]; exact hx
  have hcase : ∀ {xs : List Int} {k : Nat} {x u : Int}, (xs ++ [u])[k]? = some x → xs[k]? = some x ∨ (k = xs.length ∧ x = u) := fun {xs k x u} hx => by
    rcases Nat.lt_or_ge k xs.length with hk | hk
    · rw [List.getElem?_append_left hk] at hx; exact .inl hx
    · rw [List.getElem?_append_right hk] at hx
      rcases Nat.eq_zero_or_pos (k - xs.length) with h0 | h0
      · rw [h0] at hx; simp at hx; exact .inr ⟨by omega, hx.symm⟩
      · rw [List.getElem?_eq_none (by simp; omega)] at hx; cases hx
  have hlast : ∀ {xs : List Int} (u : Int), xs.length = ids.length → (xs ++ [u])[ids.length]? = some u := fun {xs} u he => by rw [← he]; simp
  refine ⟨by simp [h.nt], by simp [h.na], by simp [h.ne], by have := h.nl; simp; omega, fun i j a h1 h2 => ?_, ?_, fun x hx => ?_, fun x hx => ?_, fun x hx => ?_, fun k i h1 h2 => ?_, fun x hx => ?_, fun x hx => ?_⟩
  · rcases hcase h1 with h1 | ⟨h1, e1⟩ <;> rcases hcase h2 with h2 | ⟨h2, e2⟩
    · exact h.once i j a h1 h2
    · exact absurd (List.mem_of_getElem? h1) (by rw [e2]; exact hn)
    · exact absurd (List.mem_of_getElem? h2) (by rw [e1]; exact hn)
    · omega
  · refine List.pairwise_append.2 ⟨h.onceS, List.pairwise_singleton _ _, fun x hx y hy => ?_⟩
    rw [List.mem_singleton.1 hy]
    intro e
    obtain ⟨k, t, h1, -⟩ := h.waits x hx
    exact hn (by rw [← show x.m.id = m.id from e]; exact List.mem_of_getElem? h1)
  · rcases List.mem_append.1 hx with hx | hx
    · obtain ⟨k, t, h1, h2, h3, h4, h5⟩ := h.waits x hx
      exact ⟨k, t, hlt _ h1, hlt _ h2, hlt _ h3, hlt _ h4, h5⟩
    · rw [List.mem_singleton.1 hx]
      exact ⟨ids.length, now, hlast _ rfl, hlast _ h.ne, hlast _ h.nt, hlast _ h.na, rfl⟩
  · rcases List.mem_append.1 hx with hx | hx
    · exact h.tries x hx
    · rw [List.mem_singleton.1 hx]
      exact ⟨Int.le_refl _, hp.1⟩
  · rcases List.mem_append.1 hx with hx | hx
    · exact h.fit x hx
    · rw [List.mem_singleton.1 hx]
      exact hf
  · rcases hcase h1 with h1 | ⟨h1, e1⟩
    · rcases hcase h2 with h2 | ⟨h2, -⟩
      · obtain ⟨x, hx, he⟩ := h.opens k i h1 h2
        exact ⟨x, List.mem_append_left _ hx, he⟩
      · have := (List.getElem?_eq_some_iff.1 h1).1
        have := h.ne
        omega
    · exact ⟨_, List.mem_append_right _ (List.mem_singleton.2 rfl), e1.symm⟩
  · rcases List.mem_append.1 hx with hx | hx
    · exact h.due x hx
    · rw [List.mem_singleton.1 hx]
      show now + 1 ≤ now + waitF 0 p.base p.most
      omega
  · rcases List.mem_append.1 hx with hx | hx
    · exact h.bound x hx
    · rw [List.mem_singleton.1 hx]
      show now + waitF 0 p.base p.most ≤ now + 1 + 1000000
      omega
/-- What waits stands open. -/
theorem Whole.place_open (h : Whole p lo l ids times last ends) {k : Nat} {id e : Int} (hk : ids[k]? = some id) (he : ends[k]? = some e) : e = 0 ↔ ¬ placeS l id < 0 := by
  constructor
  · intro h0 hneg
    obtain ⟨x, hx, hxi⟩ := h.opens k id hk (by rw [he, h0])
    obtain ⟨j, hj⟩ := List.getElem?_of_mem hx
    by_cases hh : ∀ (i : Nat) (y : SX), i < j → l[i]? = some y → y.m.id ≠ id
    · have := placeS_hit hj hxi hh; omega
    · have hh2 : ∀ (i : Nat) (y : SX), i < j → l[i]? = some y → y.m.id ≠ id := fun i y hi hy e => by
        have hp := h.onceS
        have hi2 := List.getElem?_eq_some_iff.1 hy
        have hj2 := List.getElem?_eq_some_iff.1 hj
        have := List.pairwise_iff_getElem.1 hp i j hi2.1 hj2.1 hi
        rw [hi2.2, hj2.2] at this
        exact this (e.trans hxi.symm)
      exact hh hh2
  · intro hn
    obtain ⟨j, x, -, -, hx, hxi⟩ := placeS_some hn
    obtain ⟨k', t, h1, h2, -⟩ := h.waits x (List.mem_of_getElem? hx)
    have := h.once k k' id hk (by rw [← hxi]; exact h1)
    subst this
    rw [he] at h2
    injection h2
theorem Whole.ack (h : Whole p lo l ids times last ends) {k j : Nat} {id : Int} (hk : ids[k]? = some id) (_hj : placeS l id = (j : Int)) (hjl : j < l.length) {x : SX} (hx : l[j]? = some x) (hxi : x.m.id = id) : Whole p lo (l.eraseIdx j) ids times last (ends.set k 3) := by
  have hkl : k < ends.length := by rw [h.ne]; exact (List.getElem?_eq_some_iff.1 hk).1
  have hsub : ∀ y, y ∈ l.eraseIdx j → y ∈ l := fun y hy => List.mem_of_mem_eraseIdx hy
  have hmem : ∀ y, y ∈ l.eraseIdx j → y.m.id ≠ id := by
    intro y hy e
    obtain ⟨i, hi⟩ := List.getElem?_of_mem hy
    rw [List.getElem?_eraseIdx] at hi
    have hp := h.onceS
    have hj2 := List.getElem?_eq_some_iff.1 hx
    split at hi
    · rename_i hij
      have hi2 := List.getElem?_eq_some_iff.1 hi
      have := List.pairwise_iff_getElem.1 hp i j hi2.1 hj2.1 hij
      rw [hi2.2, hj2.2] at this
      exact this (e.trans hxi.symm)
    · have hi2 := List.getElem?_eq_some_iff.1 hi
      have := List.pairwise_iff_getElem.1 hp j (i + 1) hj2.1 hi2.1 (by omega)
      rw [hi2.2, hj2.2] at this
      exact this (hxi.trans e.symm)
  refine ⟨h.nt, h.na, by rw [List.length_set]; exact h.ne, by have := h.nl; rw [List.length_eraseIdx]; split <;> omega, h.once, h.onceS.sublist (List.eraseIdx_sublist _ _), fun y hy => ?_, fun y hy => h.tries y (hsub y hy), fun y hy => h.fit y (hsub y hy), fun k' i h1 h2 => ?_, fun y hy => h.due y (hsub y hy), fun y hy => h.bound y (hsub y hy)⟩
  · obtain ⟨k', t, h1, h2, h3⟩ := h.waits y (hsub y hy)
    have hne : k ≠ k' := fun e => by
      rw [← e, hk] at h1
      injection h1 with h1
      exact hmem y hy h1.symm
    exact ⟨k', t, h1, by rw [List.getElem?_set_ne hne]; exact h2, h3⟩
  · by_cases e : k = k'
    · subst e
      rw [List.getElem?_set_self hkl] at h2
      injection h2 with h2
      exact absurd h2 (by decide)
    · rw [List.getElem?_set_ne e] at h2
      obtain ⟨y, hy, hyi⟩ := h.opens k' i h1 h2
      have hyx : y.m.id ≠ id := fun e2 => e (h.once k k' id hk (by rw [h1, ← hyi, e2]))
      obtain ⟨i2, hi2⟩ := List.getElem?_of_mem hy
      have hij : i2 ≠ j := fun e2 => hyx (by rw [e2, hx] at hi2; injection hi2 with hi2; rw [← hi2]; exact hxi)
      refine ⟨y, ?_, hyi⟩
      rcases Nat.lt_or_ge i2 j with hlt | hge
      · exact List.mem_of_getElem? (i := i2) (by rw [List.getElem?_eraseIdx, if_pos hlt]; exact hi2)
      · exact List.mem_of_getElem? (i := i2 - 1) (by rw [List.getElem?_eraseIdx, if_neg (by omega), show i2 - 1 + 1 = i2 by omega]; exact hi2)
end
end Go.Proofs.YtmdcfmdjbncaoaaDoor
namespace Go.Proofs.YtmdcfmdjbncaoaaDoor
open Go.RowKit
attribute [local go_sem ↓] Go.wp_at_zero Go.wp_at_succ
attribute [local go_sem] Go.undef

theorem infoI : (Tryd.prog.info? 2).map (fun i => (i.zero, i.size, i.bytes)) = some (some (.int .i64 0), 1, 8) := by kernel_rfl
theorem infoN : (Tryd.prog.info? 3).map (fun i => (i.zero, i.size, i.bytes)) = some (some (.int .i64 0), 1, 8) := by kernel_rfl
/-- A message of which the Id alone is told. -/
def HeadE (i : Int) (cs : List Value) : Prop := cs[0]? = some (.int .i64 i)
theorem RS.stay {w w' : World} {S : Nat → Prop} {l : List SX} {a : Option Addr} {n c : Nat} (h : RS w S l a n c) (hk : ∀ b, S b → w'.heap[b]? = w.heap[b]?) : RS w' S l a n c :=
  RowsOf.map h (fun _ _ _ hm => keepsS _ _ _ _ _ _ (fun _ h => h) hk hm) (fun _ h => h) fun b hb j => World.cell?_of_block (a := ⟨b, j, none⟩) (hk b hb)
theorem RM.stay {w w' : World} {S : Nat → Prop} {l : List MX} {a : Option Addr} {n c : Nat} (h : RM w S l a n c) (hk : ∀ b, S b → w'.heap[b]? = w.heap[b]?) : RM w' S l a n c :=
  RowsOf.map h (fun _ _ _ hm => keepsM _ _ _ _ _ _ (fun _ h => h) hk hm) (fun _ h => h) fun b hb j => World.cell?_of_block (a := ⟨b, j, none⟩) (hk b hb)

/-- The four rows of the call's own, apart from one another. -/
structure WM (w : World) (B : Nat) (ids times last ends : List Int) (sv tv av ev : Value) (css : List (List Value)) : Prop where
  s : w.ownsRow B 30 13 sv ids.length css.flatten
  sw : ∀ cs ∈ css, cs.length = 13
  sl : css.length = ids.length
  sc : ∀ (j : Nat) (i : Int), ids[j]? = some i → ∃ cs, css[j]? = some cs ∧ HeadE i cs
  t : w.ownsRow B 2 1 tv times.length (times.map (Value.int .i64))
  a : w.ownsRow B 2 1 av last.length (last.map (Value.int .i64))
  e : w.ownsRow B 3 1 ev ends.length (ends.map (Value.int .i64))
  st : ∀ b, sv.ownBlock = some b → tv.ownBlock ≠ some b
  sa : ∀ b, sv.ownBlock = some b → av.ownBlock ≠ some b
  se : ∀ b, sv.ownBlock = some b → ev.ownBlock ≠ some b
  ta : ∀ b, tv.ownBlock = some b → av.ownBlock ≠ some b
  te : ∀ b, tv.ownBlock = some b → ev.ownBlock ≠ some b
  ae : ∀ b, av.ownBlock = some b → ev.ownBlock ≠ some b
section
variable {w w' w5 : World} {B : Nat} {ids times last ends : List Int} {sv tv av ev : Value} {css : List (List Value)}
theorem WM.nil (w : World) (B : Nat) : WM w B [] [] [] [] (.slice none 0 0) (.slice none 0 0) (.slice none 0 0) (.slice none 0 0) [] :=
  ⟨World.ownsRow_nil _ _ _ _, (fun _ h => by cases h), rfl, (fun j i h => by simp at h), World.ownsRow_nil _ _ _ _, World.ownsRow_nil _ _ _ _, World.ownsRow_nil _ _ _ _, (fun b h => by simp [Value.ownBlock] at h), (fun b h => by simp [Value.ownBlock] at h), (fun b h => by simp [Value.ownBlock] at h), (fun b h => by simp [Value.ownBlock] at h), (fun b h => by simp [Value.ownBlock] at h), (fun b h => by simp [Value.ownBlock] at h)⟩
theorem WM.lt (h : WM w B ids times last ends sv tv av ev css) {b : Nat} (hb : (sv.ownBlock = some b ∨ tv.ownBlock = some b ∨ av.ownBlock = some b ∨ ev.ownBlock = some b)) : B ≤ b ∧ b < w.heap.size := by
  rcases hb with hb | hb | hb | hb
  · exact h.s.lt b hb
  · exact h.t.lt b hb
  · exact h.a.lt b hb
  · exact h.e.lt b hb
theorem WM.keep (h : WM w B ids times last ends sv tv av ev css) (hk : ∀ b, (sv.ownBlock = some b ∨ tv.ownBlock = some b ∨ av.ownBlock = some b ∨ ev.ownBlock = some b) → w'.heap[b]? = w.heap[b]?) : WM w' B ids times last ends sv tv av ev css :=
  ⟨own_keep h.s (fun g hg => hk g (.inl hg)), h.sw, h.sl, h.sc, own_keep h.t (fun g hg => hk g (.inr (.inl hg))), own_keep h.a (fun g hg => hk g (.inr (.inr (.inl hg)))), own_keep h.e (fun g hg => hk g (.inr (.inr (.inr hg)))), h.st, h.sa, h.se, h.ta, h.te, h.ae⟩
theorem WM.below (h : WM w B ids times last ends sv tv av ev css) (hb : Below w.heap.size w w') : WM w' B ids times last ends sv tv av ev css := h.keep fun b hb2 => hb.block b (h.lt hb2).2
/-- The Ids as a row to look in. -/
theorem WM.rows (h : WM w B ids times last ends sv tv av ev css) : ∃ a c, sv = .slice a ids.length c ∧ RowsOf HeadE 13 w (Btw B w.heap.size) ids a ids.length c := by
  obtain ⟨a, c, rfl⟩ := own_len h.s
  exact ⟨a, c, rfl, rows_of_own h.s rfl h.sl h.sw h.sc fun g h1 h2 _ => ⟨h1, h2⟩⟩
theorem WM.setT {g c k : Nat} {u : Int} (h : WM w B ids times last ends sv (.slice (some ⟨g, 0, none⟩) times.length c) av ev css) : WM (w.setCell ⟨g, k, none⟩ (.int .i64 u)) B ids (times.set k u) last ends sv (.slice (some ⟨g, 0, none⟩) times.length c) av ev css := by
  have hk : ∀ b, b ≠ g → (w.setCell ⟨g, k, none⟩ (.int .i64 u)).heap[b]? = w.heap[b]? := fun b hb => heap_set hb
  refine ⟨own_keep h.s (fun b hb => hk b fun e => h.st b hb (by rw [e]; rfl)), h.sw, h.sl, h.sc, ?_, own_keep h.a (fun b hb => hk b fun e => h.ta g rfl (by rw [← e]; exact hb)), own_keep h.e (fun b hb => hk b fun e => h.te g rfl (by rw [← e]; exact hb)), h.st, h.sa, h.se, h.ta, h.te, h.ae⟩
  rw [List.length_set, List.map_set]
  exact (h.t.stored k (.int .i64 u)).1
theorem WM.setA {g c k : Nat} {u : Int} (h : WM w B ids times last ends sv tv (.slice (some ⟨g, 0, none⟩) last.length c) ev css) : WM (w.setCell ⟨g, k, none⟩ (.int .i64 u)) B ids times (last.set k u) ends sv tv (.slice (some ⟨g, 0, none⟩) last.length c) ev css := by
  have hk : ∀ b, b ≠ g → (w.setCell ⟨g, k, none⟩ (.int .i64 u)).heap[b]? = w.heap[b]? := fun b hb => heap_set hb
  refine ⟨own_keep h.s (fun b hb => hk b fun e => h.sa b hb (by rw [e]; rfl)), h.sw, h.sl, h.sc, own_keep h.t (fun b hb => hk b fun e => h.ta b hb (by rw [e]; rfl)), ?_, own_keep h.e (fun b hb => hk b fun e => h.ae g rfl (by rw [← e]; exact hb)), h.st, h.sa, h.se, h.ta, h.te, h.ae⟩
  rw [List.length_set, List.map_set]
  exact (h.a.stored k (.int .i64 u)).1
theorem WM.setE {g c k : Nat} {u : Int} (h : WM w B ids times last ends sv tv av (.slice (some ⟨g, 0, none⟩) ends.length c) css) : WM (w.setCell ⟨g, k, none⟩ (.int .i64 u)) B ids times last (ends.set k u) sv tv av (.slice (some ⟨g, 0, none⟩) ends.length c) css := by
  have hk : ∀ b, b ≠ g → (w.setCell ⟨g, k, none⟩ (.int .i64 u)).heap[b]? = w.heap[b]? := fun b hb => heap_set hb
  refine ⟨own_keep h.s (fun b hb => hk b fun e => h.se b hb (by rw [e]; rfl)), h.sw, h.sl, h.sc, own_keep h.t (fun b hb => hk b fun e => h.te b hb (by rw [e]; rfl)), own_keep h.a (fun b hb => hk b fun e => h.ae b hb (by rw [e]; rfl)), ?_, h.st, h.sa, h.se, h.ta, h.te, h.ae⟩
  rw [List.length_set, List.map_set]
  exact (h.e.stored k (.int .i64 u)).1
theorem WM.growS {ob : Obj} {u : Int} {cs1 : List Value} {g5 n5 cap5 : Nat} (h : WM w B ids times last ends sv tv av ev css) (h13 : cs1.length = 13) (hc1 : HeadE u cs1) (hown : w5.ownsRow B 30 13 (.slice (some ⟨g5, 0, none⟩) n5 cap5) n5 (css.flatten ++ cs1)) (hn : n5 = ids.length + 1) (hgrow : (w.alloc ob).grownBy w5 sv.ownBlock) (hat : sv.ownBlock = some g5 ∨ g5 = w.heap.size + 1) :
    WM w5 B (ids ++ [u]) times last ends (.slice (some ⟨g5, 0, none⟩) n5 cap5) tv av ev (css ++ [cs1]) := by
  have hk : ∀ b, b < w.heap.size → sv.ownBlock ≠ some b → w5.heap[b]? = w.heap[b]? := fun b h1 h2 => far_block hgrow h1 h2
  have hne : ∀ b, (sv.ownBlock = some b ∨ tv.ownBlock = some b ∨ av.ownBlock = some b ∨ ev.ownBlock = some b) → sv.ownBlock ≠ some b → (Value.slice (some ⟨g5, 0, none⟩) n5 cap5).ownBlock ≠ some b := fun b hb h2 h3 => by
    have e : g5 = b := by simpa [Value.ownBlock] using h3
    rcases hat with h4 | h4
    · exact h2 (by rw [h4, e])
    · have := (h.lt hb).2; omega
  subst hn
  refine ⟨?_, ?_, ?_, ?_, own_keep h.t (fun b hb => hk b (h.t.lt b hb).2 (fun e => h.st b e hb)), own_keep h.a (fun b hb => hk b (h.a.lt b hb).2 (fun e => h.sa b e hb)), own_keep h.e (fun b hb => hk b (h.e.lt b hb).2 (fun e => h.se b e hb)), fun b e hb => hne b (.inr (.inl hb)) (fun e2 => h.st b e2 hb) e, fun b e hb => hne b (.inr (.inr (.inl hb))) (fun e2 => h.sa b e2 hb) e, fun b e hb => hne b (.inr (.inr (.inr hb))) (fun e2 => h.se b e2 hb) e, h.ta, h.te, h.ae⟩
  · rw [List.length_append, List.length_singleton, ← flat_snoc]; exact hown
  · intro cs hc
    rcases List.mem_append.1 hc with hc | hc
    · exact h.sw cs hc
    · rw [List.mem_singleton.1 hc]; exact h13
  · rw [List.length_append, List.length_append, h.sl]; rfl
  · intro j i hi
    rcases Nat.lt_or_ge j ids.length with hj | hj
    · rw [List.getElem?_append_left hj] at hi
      obtain ⟨cs, h1, h2⟩ := h.sc j i hi
      exact ⟨cs, by rw [List.getElem?_append_left (by rw [h.sl]; exact hj)]; exact h1, h2⟩
    · rw [List.getElem?_append_right hj] at hi
      rcases Nat.eq_zero_or_pos (j - ids.length) with h0 | h0
      · rw [h0] at hi
        injection hi with hi
        subst hi
        exact ⟨cs1, by rw [List.getElem?_append_right (by rw [h.sl]; exact hj), h.sl, h0]; rfl, hc1⟩
      · rw [List.getElem?_eq_none (by simp; omega)] at hi; cases hi
theorem WM.growT {ob : Obj} {u : Int} {g5 n5 cap5 : Nat} (h : WM w B ids times last ends sv tv av ev css) (hown : w5.ownsRow B 2 1 (.slice (some ⟨g5, 0, none⟩) n5 cap5) n5 (times.map (Value.int .i64) ++ [.int .i64 u])) (hn : n5 = times.length + 1) (hgrow : (w.alloc ob).grownBy w5 tv.ownBlock) (hat : tv.ownBlock = some g5 ∨ g5 = w.heap.size + 1) :
    WM w5 B ids (times ++ [u]) last ends sv (.slice (some ⟨g5, 0, none⟩) n5 cap5) av ev css := by
  have hk : ∀ b, b < w.heap.size → tv.ownBlock ≠ some b → w5.heap[b]? = w.heap[b]? := fun b h1 h2 => far_block hgrow h1 h2
  have hne : ∀ b, (sv.ownBlock = some b ∨ tv.ownBlock = some b ∨ av.ownBlock = some b ∨ ev.ownBlock = some b) → tv.ownBlock ≠ some b → (Value.slice (some ⟨g5, 0, none⟩) n5 cap5).ownBlock ≠ some b := fun b hb h2 h3 => by
    have e : g5 = b := by simpa [Value.ownBlock] using h3
    rcases hat with h4 | h4
    · exact h2 (by rw [h4, e])
    · have := (h.lt hb).2; omega
  subst hn
  refine ⟨own_keep h.s (fun b hb => hk b (h.s.lt b hb).2 (h.st b hb)), h.sw, h.sl, h.sc, ?_, own_keep h.a (fun b hb => hk b (h.a.lt b hb).2 (fun e => h.ta b e hb)), own_keep h.e (fun b hb => hk b (h.e.lt b hb).2 (fun e => h.te b e hb)), fun b hb e => hne b (.inl hb) (h.st b hb) e, h.sa, h.se, fun b e hb => hne b (.inr (.inr (.inl hb))) (fun e2 => h.ta b e2 hb) e, fun b e hb => hne b (.inr (.inr (.inr hb))) (fun e2 => h.te b e2 hb) e, h.ae⟩
  rw [List.length_append, List.length_singleton, List.map_append]
  exact hown
theorem WM.growA {ob : Obj} {u : Int} {g5 n5 cap5 : Nat} (h : WM w B ids times last ends sv tv av ev css) (hown : w5.ownsRow B 2 1 (.slice (some ⟨g5, 0, none⟩) n5 cap5) n5 (last.map (Value.int .i64) ++ [.int .i64 u])) (hn : n5 = last.length + 1) (hgrow : (w.alloc ob).grownBy w5 av.ownBlock) (hat : av.ownBlock = some g5 ∨ g5 = w.heap.size + 1) :
    WM w5 B ids times (last ++ [u]) ends sv tv (.slice (some ⟨g5, 0, none⟩) n5 cap5) ev css := by
  have hk : ∀ b, b < w.heap.size → av.ownBlock ≠ some b → w5.heap[b]? = w.heap[b]? := fun b h1 h2 => far_block hgrow h1 h2
  have hne : ∀ b, (sv.ownBlock = some b ∨ tv.ownBlock = some b ∨ av.ownBlock = some b ∨ ev.ownBlock = some b) → av.ownBlock ≠ some b → (Value.slice (some ⟨g5, 0, none⟩) n5 cap5).ownBlock ≠ some b := fun b hb h2 h3 => by
    have e : g5 = b := by simpa [Value.ownBlock] using h3
    rcases hat with h4 | h4
    · exact h2 (by rw [h4, e])
    · have := (h.lt hb).2; omega
  subst hn
  refine ⟨own_keep h.s (fun b hb => hk b (h.s.lt b hb).2 (h.sa b hb)), h.sw, h.sl, h.sc, own_keep h.t (fun b hb => hk b (h.t.lt b hb).2 (h.ta b hb)), ?_, own_keep h.e (fun b hb => hk b (h.e.lt b hb).2 (fun e => h.ae b e hb)), h.st, fun b hb e => hne b (.inl hb) (h.sa b hb) e, h.se, fun b hb e => hne b (.inr (.inl hb)) (h.ta b hb) e, h.te, fun b e hb => hne b (.inr (.inr (.inr hb))) (fun e2 => h.ae b e2 hb) e⟩
  rw [List.length_append, List.length_singleton, List.map_append]
  exact hown
theorem WM.growE {ob : Obj} {u : Int} {g5 n5 cap5 : Nat} (h : WM w B ids times last ends sv tv av ev css) (hown : w5.ownsRow B 3 1 (.slice (some ⟨g5, 0, none⟩) n5 cap5) n5 (ends.map (Value.int .i64) ++ [.int .i64 u])) (hn : n5 = ends.length + 1) (hgrow : (w.alloc ob).grownBy w5 ev.ownBlock) (hat : ev.ownBlock = some g5 ∨ g5 = w.heap.size + 1) :
    WM w5 B ids times last (ends ++ [u]) sv tv av (.slice (some ⟨g5, 0, none⟩) n5 cap5) css := by
  have hk : ∀ b, b < w.heap.size → ev.ownBlock ≠ some b → w5.heap[b]? = w.heap[b]? := fun b h1 h2 => far_block hgrow h1 h2
  have hne : ∀ b, (sv.ownBlock = some b ∨ tv.ownBlock = some b ∨ av.ownBlock = some b ∨ ev.ownBlock = some b) → ev.ownBlock ≠ some b → (Value.slice (some ⟨g5, 0, none⟩) n5 cap5).ownBlock ≠ some b := fun b hb h2 h3 => by
    have e : g5 = b := by simpa [Value.ownBlock] using h3
    rcases hat with h4 | h4
    · exact h2 (by rw [h4, e])
    · have := (h.lt hb).2; omega
  subst hn
  refine ⟨own_keep h.s (fun b hb => hk b (h.s.lt b hb).2 (h.se b hb)), h.sw, h.sl, h.sc, own_keep h.t (fun b hb => hk b (h.t.lt b hb).2 (h.te b hb)), own_keep h.a (fun b hb => hk b (h.a.lt b hb).2 (h.ae b hb)), ?_, h.st, h.sa, fun b hb e => hne b (.inl hb) (h.se b hb) e, h.ta, fun b hb e => hne b (.inr (.inl hb)) (h.te b hb) e, fun b hb e => hne b (.inr (.inr (.inl hb))) (h.ae b hb) e⟩
  rw [List.length_append, List.length_singleton, List.map_append]
  exact hown
end

set_option maxHeartbeats 4000000 in
set_option maxRecDepth 100000 in
theorem placei_any (l : List Int) (id : Int) (a : Option Addr) (n c : Nat) (S : Nat → Prop) (w : World) (hrow : RowsOf HeadE 13 w S l a n c) :
    Calls Tryd.prog 35 #[.slice a n c, .int .i64 id] w fun e w' => e = .returned (.int .i64 (placeI l id)) ∧ w = w' := by
  have hcl : c ≤ maxLen := hrow.2.2.1
  have hlc : n ≤ c := hrow.2.1
  obtain rfl : n = l.length := hrow.1
  unfold maxLen at hcl
  have HROW := Lib.hid hrow
  clear hrow
  go_enter Tryd.func35, Tryd.ntmps35
  go_wp2_with fail
  go_loopw [5] (fun iv wr => ∃ j : Nat, iv = .int .i64 j ∧ j ≤ l.length ∧ (∀ i y, i < j → l[i]? = some y → y ≠ id) ∧ w = wr) (fun i _ => l.length - (intOf i).toNat)
  case atStart => exact ⟨0, rfl, Nat.zero_le _, fun i y h => by omega, rfl⟩
  case round =>
    obtain ⟨j, rfl, hj, hb, rfl⟩ := hrel
    have HB := Lib.hid hb
    clear hb
    by_cases hlt : j < l.length
    · obtain ⟨g, o, x, xs, rfl, hSg, hx, hm0, hxl, hr⟩ := HROW.out.get hlt
      have c0 : w.cell? ⟨g, o + j * 13, none⟩ = some (.int .i64 x) := hr 0 _ hm0
      have HX := Lib.hid hx
      have hj0 : (0 : Int) ≤ (j : Int) := by omega
      have hj1 : (j : Int) < (l.length : Int) := by omega
      clear hr hx hxl hSg hm0
      by_cases he : x = id
      · have he0 : (x == id) = true := by rw [he]; exact beq_self_eq_true _
        have hP := Lib.hid (placeI_hit (by rw [HX.out, he]) HB.out)
        clear he
        go_wp2_with fail
        go_ret
        exact ⟨by rw [hP.out]; rfl, rfl⟩
      · have he0 : (x == id) = false := beq_eq_false_iff_ne.2 he
        have HN : Hid (∀ i y, i < j + 1 → l[i]? = some y → y ≠ id) := fun i y hi hy => by
          by_cases e : i = j
          · subst e
            rw [HX.out] at hy
            injection hy with hy
            rw [← hy]
            exact he
          · exact HB.out i y (by omega) hy
        clear he
        go_wp2_with fail
        go_roundw
        case rel => exact ⟨j + 1, by go_num, by omega, HN.out, trivial⟩
        case measure => simp [intOf]; omega
    · obtain rfl : j = l.length := by omega
      have hP := Lib.hid (placeI_miss (l := l) (id := id) fun i y hy => HB.out i y (List.getElem?_eq_some_iff.1 hy).1 hy)
      go_wp2_with fail
      go_ret
      exact ⟨by rw [hP.out]; rfl, rfl⟩
end Go.Proofs.YtmdcfmdjbncaoaaDoor
namespace Go.Proofs.YtmdcfmdjbncaoaaDoor
open Go.RowKit

structure AFt (w1 w : World) (g : Nat) (cst : Array Value) (l : List SX) (a : Option Addr) (c : Nat) (S : Nat → Prop) (ids times last ends : List Int) (sv tv av ev : Value) (css : List (List Value)) : Prop where
  wm : WM w w1.heap.size ids times last ends sv tv av ev css
  rs : RS w S l a l.length c
  sa : ∀ b, S b → b < w.heap.size ∧ sv.ownBlock ≠ some b ∧ tv.ownBlock ≠ some b ∧ av.ownBlock ≠ some b ∧ ev.ownBlock ≠ some b
  be : Below w1.heap.size w1 w
  bt : Blk w g 77 cst
  ga : sv.ownBlock ≠ some g ∧ tv.ownBlock ≠ some g ∧ av.ownBlock ≠ some g ∧ ev.ownBlock ≠ some g
  gl : w1.heap.size ≤ g
section
variable {w1 w w' : World} {g : Nat} {cst : Array Value} {l l' : List SX} {a a' : Option Addr} {c c' : Nat} {S S' : Nat → Prop} {ids times last ends : List Int} {sv tv av ev : Value} {css : List (List Value)}
theorem AFt.sent (h : AFt w1 w g cst l a c S ids times last ends sv tv av ev css) (hb : Below w.heap.size w w') (hr : RS w' S' l' a' l'.length c') (hS : ∀ b, S' b → w.heap.size ≤ b ∧ b < w'.heap.size) : AFt w1 w' g cst l' a' c' S' ids times last ends sv tv av ev css where
  wm := h.wm.below hb
  rs := hr
  sa := fun b hb2 => by
    obtain ⟨h1, h2⟩ := hS b hb2
    refine ⟨h2, fun e => ?_, fun e => ?_, fun e => ?_, fun e => ?_⟩
    · have := (h.wm.lt (.inl e)).2; omega
    · have := (h.wm.lt (.inr (.inl e))).2; omega
    · have := (h.wm.lt (.inr (.inr (.inl e)))).2; omega
    · have := (h.wm.lt (.inr (.inr (.inr e)))).2; omega
  be := h.be.trans (hb.mono h.be.size)
  bt := Blk.on h.bt hb
  ga := h.ga
  gl := h.gl
theorem AFt.call (h : AFt w1 w g cst l a c S ids times last ends sv tv av ev css) (hb : Below w.heap.size w w') : AFt w1 w' g cst l a c S ids times last ends sv tv av ev css where
  wm := h.wm.below hb
  rs := RS.under h.rs hb (fun b hb => (h.sa b hb).1)
  sa := fun b hb2 => ⟨Nat.lt_of_lt_of_le (h.sa b hb2).1 hb.size, (h.sa b hb2).2⟩
  be := h.be.trans (hb.mono h.be.size)
  bt := Blk.on h.bt hb
  ga := h.ga
  gl := h.gl
variable {ob : Obj} {u : Int} {g5 n5 cap5 : Nat}
theorem grow_be {w1 w w' : World} {ob : Obj} {row : Option Nat} (h : Below w1.heap.size w1 w) (hg : (w.alloc ob).grownBy w' row) (hr : ∀ k, row = some k → w1.heap.size ≤ k) : Below w1.heap.size w1 w' :=
  (h.alloc h.size ob).grown hg (by have := h.size; simp; omega) hr
theorem grow_ne {v : Value} {g5 n5 cap5 k b : Nat} (hat : v.ownBlock = some g5 ∨ g5 = k + 1) (hb : b < k) (hne : v.ownBlock ≠ some b) : (Value.slice (some ⟨g5, 0, none⟩) n5 cap5).ownBlock ≠ some b := fun e => by
  have e : g5 = b := by simpa [Value.ownBlock] using e
  rcases hat with h | h
  · exact hne (by rw [h, e])
  · omega
theorem AFt.growS {cs1 : List Value} (h : AFt w1 w g cst l a c S ids times last ends sv tv av ev css) (h13 : cs1.length = 13) (hc1 : HeadE u cs1) (hown : w'.ownsRow w1.heap.size 30 13 (.slice (some ⟨g5, 0, none⟩) n5 cap5) n5 (css.flatten ++ cs1)) (hn : n5 = ids.length + 1) (hgrow : (w.alloc ob).grownBy w' sv.ownBlock) (hat : sv.ownBlock = some g5 ∨ g5 = w.heap.size + 1) :
    AFt w1 w' g cst l a c S (ids ++ [u]) times last ends (.slice (some ⟨g5, 0, none⟩) n5 cap5) tv av ev (css ++ [cs1]) where
  wm := h.wm.growS h13 hc1 hown hn hgrow hat
  rs := RS.stay h.rs fun b hb => far_block hgrow (h.sa b hb).1 (h.sa b hb).2.1
  sa := fun b hb => ⟨Nat.lt_of_lt_of_le (h.sa b hb).1 (by have := hgrow.size; simp at this; omega), grow_ne hat (h.sa b hb).1 (h.sa b hb).2.1, (h.sa b hb).2.2⟩
  be := grow_be h.be hgrow fun k hk => (h.wm.lt (.inl hk)).1
  bt := (far_block hgrow h.bt.lt h.ga.1).trans h.bt
  ga := ⟨grow_ne hat h.bt.lt h.ga.1, h.ga.2⟩
  gl := h.gl
theorem AFt.growT (h : AFt w1 w g cst l a c S ids times last ends sv tv av ev css) (hown : w'.ownsRow w1.heap.size 2 1 (.slice (some ⟨g5, 0, none⟩) n5 cap5) n5 (times.map (Value.int .i64) ++ [.int .i64 u])) (hn : n5 = times.length + 1) (hgrow : (w.alloc ob).grownBy w' tv.ownBlock) (hat : tv.ownBlock = some g5 ∨ g5 = w.heap.size + 1) :
    AFt w1 w' g cst l a c S ids (times ++ [u]) last ends sv (.slice (some ⟨g5, 0, none⟩) n5 cap5) av ev css where
  wm := h.wm.growT hown hn hgrow hat
  rs := RS.stay h.rs fun b hb => far_block hgrow (h.sa b hb).1 (h.sa b hb).2.2.1
  sa := fun b hb => ⟨Nat.lt_of_lt_of_le (h.sa b hb).1 (by have := hgrow.size; simp at this; omega), (h.sa b hb).2.1, grow_ne hat (h.sa b hb).1 (h.sa b hb).2.2.1, (h.sa b hb).2.2.2⟩
  be := grow_be h.be hgrow fun k hk => (h.wm.lt (.inr (.inl hk))).1
  bt := (far_block hgrow h.bt.lt h.ga.2.1).trans h.bt
  ga := ⟨h.ga.1, grow_ne hat h.bt.lt h.ga.2.1, h.ga.2.2⟩
  gl := h.gl
theorem AFt.growA (h : AFt w1 w g cst l a c S ids times last ends sv tv av ev css) (hown : w'.ownsRow w1.heap.size 2 1 (.slice (some ⟨g5, 0, none⟩) n5 cap5) n5 (last.map (Value.int .i64) ++ [.int .i64 u])) (hn : n5 = last.length + 1) (hgrow : (w.alloc ob).grownBy w' av.ownBlock) (hat : av.ownBlock = some g5 ∨ g5 = w.heap.size + 1) :
    AFt w1 w' g cst l a c S ids times (last ++ [u]) ends sv tv (.slice (some ⟨g5, 0, none⟩) n5 cap5) ev css where
  wm := h.wm.growA hown hn hgrow hat
  rs := RS.stay h.rs fun b hb => far_block hgrow (h.sa b hb).1 (h.sa b hb).2.2.2.1
  sa := fun b hb => ⟨Nat.lt_of_lt_of_le (h.sa b hb).1 (by have := hgrow.size; simp at this; omega), (h.sa b hb).2.1, (h.sa b hb).2.2.1, grow_ne hat (h.sa b hb).1 (h.sa b hb).2.2.2.1, (h.sa b hb).2.2.2.2⟩
  be := grow_be h.be hgrow fun k hk => (h.wm.lt (.inr (.inr (.inl hk)))).1
  bt := (far_block hgrow h.bt.lt h.ga.2.2.1).trans h.bt
  ga := ⟨h.ga.1, h.ga.2.1, grow_ne hat h.bt.lt h.ga.2.2.1, h.ga.2.2.2⟩
  gl := h.gl
theorem AFt.growE (h : AFt w1 w g cst l a c S ids times last ends sv tv av ev css) (hown : w'.ownsRow w1.heap.size 3 1 (.slice (some ⟨g5, 0, none⟩) n5 cap5) n5 (ends.map (Value.int .i64) ++ [.int .i64 u])) (hn : n5 = ends.length + 1) (hgrow : (w.alloc ob).grownBy w' ev.ownBlock) (hat : ev.ownBlock = some g5 ∨ g5 = w.heap.size + 1) :
    AFt w1 w' g cst l a c S ids times last (ends ++ [u]) sv tv av (.slice (some ⟨g5, 0, none⟩) n5 cap5) css where
  wm := h.wm.growE hown hn hgrow hat
  rs := RS.stay h.rs fun b hb => far_block hgrow (h.sa b hb).1 (h.sa b hb).2.2.2.2
  sa := fun b hb => ⟨Nat.lt_of_lt_of_le (h.sa b hb).1 (by have := hgrow.size; simp at this; omega), (h.sa b hb).2.1, (h.sa b hb).2.2.1, (h.sa b hb).2.2.2.1, grow_ne hat (h.sa b hb).1 (h.sa b hb).2.2.2.2⟩
  be := grow_be h.be hgrow fun k hk => (h.wm.lt (.inr (.inr (.inr hk)))).1
  bt := (far_block hgrow h.bt.lt h.ga.2.2.2).trans h.bt
  ga := ⟨h.ga.1, h.ga.2.1, h.ga.2.2.1, grow_ne hat h.bt.lt h.ga.2.2.2⟩
  gl := h.gl
/-- An end is marked. -/
theorem AFt.setE {ge N ce k : Nat} (h : AFt w1 w g cst l a c S ids times last ends sv tv av (.slice (some ⟨ge, 0, none⟩) N ce) css) (hN : ends.length = N) (u : Int) :
    AFt w1 (w.setCell ⟨ge, k, none⟩ (.int .i64 u)) g cst l a c S ids times last (ends.set k u) sv tv av (.slice (some ⟨ge, 0, none⟩) N ce) css where
  wm := by subst hN; exact h.wm.setE
  rs := RS.stay h.rs fun b hb => heap_set (p := ⟨ge, k, none⟩) fun e => (h.sa b hb).2.2.2.2 (by rw [e]; rfl)
  sa := fun b hb => by rw [size_set]; exact h.sa b hb
  be := by have hh : w1.heap.size ≤ ge := (h.wm.lt (.inr (.inr (.inr rfl)))).1; exact h.be.setCell (show w1.heap.size ≤ (⟨ge, k, none⟩ : Addr).block from hh) _
  bt := (heap_set (p := ⟨ge, k, none⟩) fun e => h.ga.2.2.2 (by rw [e]; rfl)).trans h.bt
  ga := h.ga
  gl := h.gl
end
theorem WM.rowsAt {w : World} {B : Nat} {ids times last ends : List Int} {a : Option Addr} {n c : Nat} {tv av ev : Value} {css : List (List Value)} (h : WM w B ids times last ends (.slice a n c) tv av ev css) : RowsOf HeadE 13 w (Btw B w.heap.size) ids a n c := by
  obtain ⟨a', c', e, hr⟩ := h.rows
  injection e with e1 e2 e3
  subst e1 e2 e3
  exact hr
theorem built_msg (i k n t ti c pr h : Int) (b : Int) (tp st rp : ByteArray) (a : Option Addr) (ln cp : Nat) :
    Tryd.prog.builtSlice 30 1 [(0, .agg #[.int .i64 i, .string tp, .int .i64 k, .int .i64 n, .int .u64 b, .string st, .slice a ln cp, .int .i64 t, .int .i64 ti, .string rp, .int .i64 c, .int .i64 pr, .int .i64 h])] =
      some #[.int .i64 i, .string tp, .int .i64 k, .int .i64 n, .int .u64 b, .string st, .slice a ln cp, .int .i64 t, .int .i64 ti, .string rp, .int .i64 c, .int .i64 pr, .int .i64 h] := by
  kernel_rfl
/-- A whole struct out of its block, its value behind a letter. -/
theorem wpList_load_hid {P : Program} {w : World} {ops : Array Oper} {rest : List Oper} {op : Oper} {a : Act} {Q : Exit → Act → World → Prop} (hgd : op.guard = none) (ty : TypeId) (x : Operand) (ho : op.op = .load ty x) (g o : Nat) (hx : a.eval x = .pointer (some ⟨g, o, none⟩)) (cs : List Value) (d : TypeDesc) (hc : w.rangeAt g o cs)
    (hu : P.underlying ty = some d) (hd : d.isRow = true) (hi : (P.info? ty).map (·.size) = some cs.length) (h : ∀ V, V = Value.agg cs.toArray → wpList P ops Q rest (a.put op.dst V) w) : wpList P ops Q (op :: rest) a w :=
  wpList_load_blk hgd ty x ho g o hx cs d hc hu hd hi (h _ rfl)
/-- A slice literal of one element, whose value is known. -/
theorem wpList_buildSlice1 {P : Program} {w : World} {ops : Array Oper} {rest : List Oper} {o : Oper} {a : Act} {Q : Exit → Act → World → Prop} (hg : o.guard = none) (t e : TypeId) (x : Operand) (ho : o.op = .buildSlice t 1 #[(0, x)])
    (N : Nat) (hN : w.heap.size = N) (dst : Option Tmp) (hdst : o.dst = dst) (hu : P.underlying t = some (.slice e)) (cells : Array Value) (V : Value) (hx : a.eval x = V) (hf : P.builtSlice e 1 [(0, V)] = some cells)
    (h : wpList P ops Q rest (a.put dst (.slice (some ⟨N, 0, none⟩) 1 1)) (w.alloc (.cells cells e))) : wpList P ops Q (o :: rest) a w :=
  Go.Great.wpList_buildSliceTo hg t e 1 #[(0, x)] ho N hN dst hdst hu cells (by rw [← hx] at hf; simpa using hf) h
theorem send_ok {l : List SX} {m : MX} {p : PX} {now : Int} (h1 : l.length ≤ 40) (h2 : placeS l m.id < 0) : sendS l m p now = (l ++ [⟨m, 1, now + waitF 0 p.base p.most⟩], 0) := by
  rw [sendS, if_neg (by omega), if_neg (by omega)]
theorem ack_no {l : List SX} {id : Int} (h : placeS l id < 0) : ackS l id = (l, 221) := if_pos h
theorem ack_yes {l : List SX} {id : Int} (h : ¬ placeS l id < 0) : ackS l id = (l.eraseIdx (placeS l id).toNat, 0) := if_neg h
theorem Whole.send' {p : PX} {now : Nat} {l : List SX} {ids times last ends : List Int} (h : Whole p ((now + 1 : Nat) : Int) l ids times last ends) (hp : FitP p) {m : MX} (hf : FitX m) (hi : placeI ids m.id < 0) : Whole p ((now + 1 : Nat) : Int) (l ++ [⟨m, 1, now + waitF 0 p.base p.most⟩]) (ids ++ [m.id]) (times ++ [1]) (last ++ [(now : Int)]) (ends ++ [0]) := by
  have e : ((now + 1 : Nat) : Int) = (now : Int) + 1 := by omega
  rw [e] at h ⊢
  exact h.send hp hf hi
theorem Whole.ack' {p : PX} {lo : Int} {l : List SX} {ids times last ends : List Int} (h : Whole p lo l ids times last ends) {k : Nat} {id : Int} (hk : ids[k]? = some id) (hs : ¬ placeS l id < 0) : Whole p lo (l.eraseIdx (placeS l id).toNat) ids times last (ends.set k 3) := by
  obtain ⟨j, x, h1, h2, h3, h4⟩ := placeS_some hs
  rw [h1, Int.toNat_natCast]
  exact h.ack hk h1 h2 h3 h4
end Go.Proofs.YtmdcfmdjbncaoaaDoor
