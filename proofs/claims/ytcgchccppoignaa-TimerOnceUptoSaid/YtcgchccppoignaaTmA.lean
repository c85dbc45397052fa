/- Timer: the digits of ticks; rings in two functions. -/
import Derived.Test.YtcgchccppoignaaK
namespace Go.Proofs.Ytcgchccppoignaa
/-- The ticks' digits. -/
def up (l x : Nat) : Nat := x / 64 ^ l
theorem up_zero (x : Nat) : up 0 x = x := by simp [up]
theorem up_succ (l x : Nat) : up (l + 1) x = up l x / 64 := by rw [up, up, Nat.pow_succ, Nat.div_div_eq_div_mul]
theorem up_mono {l x y : Nat} (h : x ≤ y) : up l x ≤ up l y := Nat.div_le_div_right h
theorem up_more {l x y : Nat} (h : up l x = up l y) : up (l + 1) x = up (l + 1) y := by rw [up_succ, up_succ, h]
theorem up_le {l k x y : Nat} (hk : l ≤ k) (h : up l x = up l y) : up k x = up k y := by
  induction hk with
  | refl => exact h
  | step _ ih => exact up_more ih
theorem up_top {x : Nat} (h : x < 2 ^ 42) : up 7 x = 0 := Nat.div_eq_of_lt h
def slot (l x : Nat) : Nat := up l x % 64
theorem slot_lt (l x : Nat) : slot l x < 64 := Nat.mod_lt _ (by decide)
theorem up_slot (l x : Nat) : up l x = 64 * up (l + 1) x + slot l x := by rw [up_succ, slot]; omega
/-- The level at which a tick waits. -/
def lvlF (now at_ : Nat) : Nat → Nat → Nat
  | 0, l => l
  | n + 1, l => if up (l + 1) at_ = up (l + 1) now then l else lvlF now at_ n (l + 1)
def lvl (now at_ : Nat) : Nat := lvlF now at_ 6 0
theorem lvlF_step {now a n l : Nat} (h : up (l + 1) a ≠ up (l + 1) now) : lvlF now a (n + 1) l = lvlF now a n (l + 1) := if_neg h
theorem lvlF_stop {now a n l : Nat} (h : up (l + 1) a = up (l + 1) now) : lvlF now a n l = l := by
  cases n with
  | zero => rfl
  | succ n => exact if_pos h
theorem lvlF_spec {now a : Nat} (h7 : up 7 a = up 7 now) : ∀ (n l : Nat), l + n = 6 → (∀ k, k < l → up (k + 1) a ≠ up (k + 1) now) → lvlF now a n l ≤ 6 ∧ up (lvlF now a n l + 1) a = up (lvlF now a n l + 1) now ∧ ∀ k, k < lvlF now a n l → up (k + 1) a ≠ up (k + 1) now := by
  intro n
  induction n with
  | zero => intro l hl hb; obtain rfl : l = 6 := by omega
            exact ⟨Nat.le_refl _, h7, hb⟩
  | succ n ih =>
    intro l hl hb
    by_cases h : up (l + 1) a = up (l + 1) now
    · rw [lvlF_stop h]; exact ⟨by omega, h, hb⟩
    · rw [lvlF_step h]
      refine ih (l + 1) (by omega) fun k hk => ?_
      by_cases e : k = l
      · rw [e]; exact h
      · exact hb k (by omega)
theorem lvl_spec {now a : Nat} (h1 : now < 2 ^ 42) (h2 : a < 2 ^ 42) : lvl now a ≤ 6 ∧ up (lvl now a + 1) a = up (lvl now a + 1) now ∧ ∀ k, k < lvl now a → up (k + 1) a ≠ up (k + 1) now :=
  lvlF_spec (by rw [up_top h1, up_top h2]) 6 0 rfl fun k hk => by omega
theorem lvl_eq {now a l : Nat} (h1 : now < 2 ^ 42) (h2 : a < 2 ^ 42) (he : up (l + 1) a = up (l + 1) now) (hn : ∀ k, k < l → up (k + 1) a ≠ up (k + 1) now) : lvl now a = l := by
  obtain ⟨-, b, c⟩ := lvl_spec h1 h2
  rcases Nat.lt_trichotomy (lvl now a) l with h | h | h
  · exact absurd b (hn _ h)
  · exact h
  · exact absurd he (c _ h)
/-- The ring at which a tick waits. -/
def ring (now a : Nat) : Nat := 64 * lvl now a + slot (lvl now a) a
theorem ring_lt {now a : Nat} (h1 : now < 2 ^ 42) (h2 : a < 2 ^ 42) : ring now a < 448 := by
  have := (lvl_spec h1 h2).1
  have := slot_lt (lvl now a) a
  unfold ring
  omega
theorem ring_parts {l s now a : Nat} (hs : s < 64) (h : ring now a = 64 * l + s) : lvl now a = l ∧ slot l a = s := by
  have := slot_lt (lvl now a) a
  unfold ring at h
  have h1 : lvl now a = l := by omega
  subst h1
  exact ⟨rfl, by omega⟩
/-- What waits at a slot waits not behind that of now. -/
theorem slot_from {now a : Nat} (h1 : now < 2 ^ 42) (h2 : a < 2 ^ 42) (h : now ≤ a) : slot (lvl now a) now ≤ slot (lvl now a) a := by
  obtain ⟨-, b, -⟩ := lvl_spec h1 h2
  have := up_mono (l := lvl now a) h
  rw [up_slot, up_slot (lvl now a) a, b] at this
  omega
theorem ring_before {now a b : Nat} (h1 : now < 2 ^ 42) (h2 : a < 2 ^ 42) (h3 : b < 2 ^ 42) (hb : now ≤ b) (h : lvl now a < lvl now b) : a < b := by
  obtain ⟨-, a1, -⟩ := lvl_spec h1 h2
  obtain ⟨-, -, b2⟩ := lvl_spec h1 h3
  obtain ⟨k, hk⟩ : ∃ k, lvl now b = k + 1 := ⟨lvl now b - 1, by omega⟩
  have e : up (k + 1) a = up (k + 1) now := up_le (by omega) a1
  have n := b2 k (by omega)
  have m := up_mono (l := k + 1) hb
  apply Nat.lt_of_not_le
  intro hle
  have := up_mono (l := k + 1) hle
  omega
theorem slot_before {now a b : Nat} (h1 : now < 2 ^ 42) (h2 : a < 2 ^ 42) (h3 : b < 2 ^ 42) (hl : lvl now a = lvl now b) (h : slot (lvl now a) a < slot (lvl now a) b) : a < b := by
  obtain ⟨-, a1, -⟩ := lvl_spec h1 h2
  obtain ⟨-, b1, -⟩ := lvl_spec h1 h3
  rw [← hl] at b1
  apply Nat.lt_of_not_le
  intro hle
  have := up_mono (l := lvl now a) hle
  rw [up_slot (lvl now a) a, up_slot (lvl now a) b, a1, b1] at this
  omega
/-- In the ring of now on the lowest level waits what is due. -/
theorem ring_now {now a : Nat} (h1 : now < 2 ^ 42) (h2 : a < 2 ^ 42) (h : ring now a = slot 0 now) : a = now := by
  obtain ⟨hl, hs⟩ := ring_parts (l := 0) (now := now) (a := a) (slot_lt 0 now) (by omega)
  obtain ⟨-, b, -⟩ := lvl_spec h1 h2
  rw [hl] at b
  have e1 := up_slot 0 a
  have e2 := up_slot 0 now
  rw [up_zero] at e1 e2
  omega
theorem ring_self {now : Nat} (h1 : now < 2 ^ 42) : ring now now = slot 0 now := by
  have : lvl now now = 0 := lvl_eq h1 h1 rfl fun k hk => by omega
  rw [ring, this]; omega
/-- Time goes on: what has to come down, and what has not. -/
theorem ring_stays {was now a : Nat} (h1 : was < 2 ^ 42) (h2 : now < 2 ^ 42) (h3 : a < 2 ^ 42) (hw : was ≤ now) (hn : now ≤ a) (h : lvl was a = 0 ∨ up (lvl was a) was = up (lvl was a) now ∨ slot (lvl was a) a ≠ slot (lvl was a) now) : ring now a = ring was a := by
  obtain ⟨-, b, c⟩ := lvl_spec h1 h3
  have m1 := up_mono (l := lvl was a + 1) hw
  have m2 := up_mono (l := lvl was a + 1) hn
  have e : up (lvl was a + 1) a = up (lvl was a + 1) now := by omega
  have hl : lvl now a = lvl was a := by
    refine lvl_eq h2 h3 e fun k hk => ?_
    rcases h with h | h | h
    · omega
    · intro he
      have hh := up_le (k := lvl was a) (by omega) he
      obtain ⟨j, hj⟩ : ∃ j, lvl was a = j + 1 := ⟨lvl was a - 1, by omega⟩
      have := c j (by omega)
      rw [hj] at h hh
      omega
    · intro he
      have hh := up_le (k := lvl was a) (by omega) he
      exact h (by rw [slot, slot, hh])
  rw [ring, hl, ring]
theorem lvl_down {was now a : Nat} (h1 : was < 2 ^ 42) (h2 : now < 2 ^ 42) (h3 : a < 2 ^ 42) (hw : was ≤ now) (hn : now ≤ a) (h : slot (lvl was a) a = slot (lvl was a) now) (h0 : 0 < lvl was a) : lvl now a < lvl was a := by
  obtain ⟨-, b, c⟩ := lvl_spec h1 h3
  have m1 := up_mono (l := lvl was a + 1) hw
  have m2 := up_mono (l := lvl was a + 1) hn
  have e : up (lvl was a + 1) a = up (lvl was a + 1) now := by omega
  have e2 : up (lvl was a) a = up (lvl was a) now := by rw [up_slot, up_slot (lvl was a) now, e, h]
  obtain ⟨-, -, d⟩ := lvl_spec h2 h3
  apply Nat.lt_of_not_le
  intro hle
  have := d (lvl was a - 1) (by omega)
  rw [show lvl was a - 1 + 1 = lvl was a by omega] at this
  exact this e2
/-- Links: a ring in two functions. -/
def Seg {α : Type} (nx pv : α → α) (a : α) : List α → α → Prop
  | [], z => nx a = z ∧ pv z = a
  | x :: l, z => nx a = x ∧ pv x = a ∧ Seg nx pv x l z
section
variable {α : Type} {nx pv nx' pv' : α → α}
theorem Seg.split {a z x : α} {l1 l2 : List α} : Seg nx pv a (l1 ++ x :: l2) z ↔ Seg nx pv a l1 x ∧ Seg nx pv x l2 z := by
  induction l1 generalizing a with
  | nil => exact ⟨fun ⟨h1, h2, h3⟩ => ⟨⟨h1, h2⟩, h3⟩, fun ⟨⟨h1, h2⟩, h3⟩ => ⟨h1, h2, h3⟩⟩
  | cons y l ih => exact ⟨fun ⟨h1, h2, h3⟩ => ⟨⟨h1, h2, (ih.1 h3).1⟩, (ih.1 h3).2⟩, fun ⟨⟨h1, h2, h3⟩, h4⟩ => ⟨h1, h2, ih.2 ⟨h3, h4⟩⟩⟩
theorem Seg.keep {a z : α} {l : List α} (h : Seg nx pv a l z) (h1 : ∀ x, x = a ∨ x ∈ l → nx' x = nx x) (h2 : ∀ x, x ∈ l ∨ x = z → pv' x = pv x) : Seg nx' pv' a l z := by
  induction l generalizing a with
  | nil => exact ⟨(h1 a (.inl rfl)).trans h.1, (h2 z (.inr rfl)).trans h.2⟩
  | cons y l ih =>
    obtain ⟨c1, c2, c3⟩ := h
    refine ⟨(h1 a (.inl rfl)).trans c1, (h2 y (.inl (by simp))).trans c2, ih c3 (fun x hx => h1 x (.inr ?_)) (fun x hx => h2 x ?_)⟩
    · rcases hx with rfl | hx
      · simp
      · simp [hx]
    · rcases hx with hx | hx
      · exact .inl (by simp [hx])
      · exact .inr hx
theorem Seg.last {a z : α} : ∀ {l : List α}, Seg nx pv a l z → pv z = (a :: l).getLast (by simp) := by
  intro l
  induction l generalizing a with
  | nil => intro h; exact h.2
  | cons y l ih => intro h; rw [List.getLast_cons (by simp)]; exact ih h.2.2
theorem Seg.first {a z : α} {l : List α} (h : Seg nx pv a l z) : nx a = (l ++ [z]).head (by simp) := by
  cases l with
  | nil => exact h.1
  | cons y l => exact h.1
/-- The node at a place, and the one behind it. -/
theorem Seg.step {a z x : α} {l1 l2 : List α} (h : Seg nx pv a (l1 ++ x :: l2) z) : nx x = (l2 ++ [z]).head (by simp) := (Seg.split.1 h).2.first
end
section
variable {α : Type} [DecidableEq α] {nx pv : α → α}
def upd (f : α → α) (a b : α) : α → α := fun x => if x = a then b else f x
theorem upd_self (f : α → α) (a b : α) : upd f a b a = b := if_pos rfl
theorem upd_off {f : α → α} {a b x : α} (h : x ≠ a) : upd f a b x = f x := if_neg h
/-- Tied to the end of a ring. -/
theorem Seg.behind {h e : α} {l : List α} (hs : Seg nx pv h l h) (hn : (h :: l).Nodup) (he : e ∉ h :: l) :
    Seg (upd (upd nx e h) (pv h) e) (upd (upd pv e (pv h)) h e) h (l ++ [e]) h := by
  have heh : e ≠ h := fun x => he (by simp [x])
  have hel : e ∉ l := fun x => he (by simp [x])
  rcases List.eq_nil_or_concat l with rfl | ⟨l0, p, rfl⟩
  · obtain ⟨h1, h2⟩ := hs
    refine ⟨?_, ?_, ?_, ?_⟩
    · rw [h2, upd_self]
    · rw [upd_off heh, upd_self, h2]
    · rw [h2, upd_off heh, upd_self]
    · rw [upd_self]
  · rw [List.concat_eq_append] at *
    obtain ⟨s1, s2⟩ := Seg.split.1 hs
    have hp : pv h = p := s2.2
    have hph : p ≠ h := fun x => by rw [x] at hn; simp at hn
    have hpe : e ≠ p := fun x => hel (by simp [x])
    have hpl : p ∉ l0 := fun x => by
      have := (List.nodup_cons.1 hn).2
      exact (List.nodup_append.1 this).2.2 p x p (by simp) rfl
    rw [hp, List.append_assoc]
    refine Seg.split.2 ⟨s1.keep (fun x hx => ?_) (fun x hx => ?_), ?_⟩
    · have h1 : x ≠ p := by
        rcases hx with rfl | hx
        · exact Ne.symm hph
        · exact fun e => hpl (e ▸ hx)
      have h2 : x ≠ e := by
        rcases hx with rfl | hx
        · exact Ne.symm heh
        · exact fun e => hel (by simp [← e, hx])
      rw [upd_off h1, upd_off h2]
    · have h1 : x ≠ h := by
        rcases hx with hx | rfl
        · intro e
          exact (List.nodup_cons.1 hn).1 (by simp [← e, hx])
        · exact hph
      have h2 : x ≠ e := by
        rcases hx with hx | rfl
        · exact fun e => hel (by simp [← e, hx])
        · exact Ne.symm hpe
      rw [upd_off h1, upd_off h2]
    · refine ⟨by rw [upd_self], by rw [upd_off heh, upd_self], by rw [upd_off hpe, upd_self], by rw [upd_self]⟩
/-- Out of a ring. -/
theorem Seg.leave {h e : α} {l1 l2 : List α} (hs : Seg nx pv h (l1 ++ e :: l2) h) (hn : (h :: (l1 ++ e :: l2)).Nodup) (u v : α) :
    Seg (upd (upd nx (pv e) (nx e)) e u) (upd (upd pv (nx e) (pv e)) e v) h (l1 ++ l2) h := by
  obtain ⟨hn1, hn2⟩ := List.nodup_cons.1 hn
  obtain ⟨n1, n2, n3⟩ := List.nodup_append.1 hn2
  obtain ⟨n4, n5⟩ := List.nodup_cons.1 n2
  have heh : e ≠ h := fun x => hn1 (by simp [x])
  have he1 : e ∉ l1 := fun x => n3 e x e (by simp) rfl
  have hh1 : h ∉ l1 := fun x => hn1 (by simp [x])
  have hh2 : h ∉ l2 := fun x => hn1 (by simp [x])
  have h12 : ∀ x, x ∈ l1 → x ∉ l2 := fun x a b => n3 x a x (by simp [b]) rfl
  obtain ⟨s1, s2⟩ := Seg.split.1 hs
  -- the node ahead
  have key : ∀ (p n : α), pv e = p → nx e = n → p ≠ e → n ≠ e → (∀ (l : List α) (b : α), (∀ x, x = b ∨ x ∈ l → x ≠ p ∧ x ≠ e) → ∀ c, (∀ x, x ∈ l ∨ x = c → x ≠ n ∧ x ≠ e) → Seg nx pv b l c → Seg (upd (upd nx p n) e u) (upd (upd pv n p) e v) b l c) := by
    intro p n _ _ _ _ l b hb c hc hseg
    exact hseg.keep (fun x hx => by rw [upd_off (hb x hx).2, upd_off (hb x hx).1]) (fun x hx => by rw [upd_off (hc x hx).2, upd_off (hc x hx).1])
  have atp : ∀ (p n : α), p ≠ e → upd (upd nx p n) e u p = n := fun p n hp => by rw [upd_off hp, upd_self]
  have atn : ∀ (p n : α), n ≠ e → upd (upd pv n p) e v n = p := fun p n hp => by rw [upd_off hp, upd_self]
  rcases List.eq_nil_or_concat l1 with rfl | ⟨l0, p, rfl⟩
  · obtain ⟨-, e1⟩ := s1
    rw [e1]
    cases l2 with
    | nil =>
      obtain ⟨e2, -⟩ := s2
      rw [e2]
      exact ⟨atp _ _ (Ne.symm heh), atn _ _ (Ne.symm heh)⟩
    | cons n l2 =>
      obtain ⟨e2, -, s3⟩ := s2
      rw [e2]
      have hne : n ≠ e := fun x => n4 (by simp [x])
      have hnl : n ∉ l2 := (List.nodup_cons.1 n5).1
      refine ⟨atp _ _ (Ne.symm heh), atn _ _ hne, key h n e1 e2 (Ne.symm heh) hne _ _ (fun x hx => ?_) _ (fun x hx => ?_) s3⟩
      · rcases hx with rfl | hx
        · exact ⟨fun x => hh2 (by simp [← x]), hne⟩
        · exact ⟨fun e => hh2 (by simp [← e, hx]), fun e => n4 (by simp [← e, hx])⟩
      · rcases hx with hx | rfl
        · exact ⟨fun e => hnl (e ▸ hx), fun e => n4 (by simp [← e, hx])⟩
        · exact ⟨fun x => hh2 (by simp [x]), Ne.symm heh⟩
  · rw [List.concat_eq_append] at *
    obtain ⟨s0, -, e1⟩ := Seg.split.1 s1
    rw [e1]
    have hpe : p ≠ e := fun x => he1 (by simp [x])
    have hp0 : p ∉ l0 := fun x => (List.nodup_append.1 n1).2.2 p x p (by simp) rfl
    have hph : p ≠ h := fun x => hh1 (by simp [← x])
    have hp2 : p ∉ l2 := h12 p (by simp)
    have he0 : e ∉ l0 := fun x => he1 (by simp [x])
    rw [List.append_assoc]
    cases l2 with
    | nil =>
      obtain ⟨e2, -⟩ := s2
      rw [e2]
      refine Seg.split.2 ⟨key p h e1 e2 hpe (Ne.symm heh) _ _ (fun x hx => ?_) _ (fun x hx => ?_) s0, atp _ _ hpe, atn _ _ (Ne.symm heh)⟩
      · rcases hx with rfl | hx
        · exact ⟨Ne.symm hph, Ne.symm heh⟩
        · exact ⟨fun e => hp0 (e ▸ hx), fun e => he0 (e ▸ hx)⟩
      · rcases hx with hx | rfl
        · exact ⟨fun e => hh1 (by simp [← e, hx]), fun e => he0 (e ▸ hx)⟩
        · exact ⟨hph, hpe⟩
    | cons n l2 =>
      obtain ⟨e2, -, s3⟩ := s2
      rw [e2]
      have hne : n ≠ e := fun x => n4 (by simp [x])
      have hnl : n ∉ l2 := (List.nodup_cons.1 n5).1
      have hn0 : n ∉ l0 := fun x => h12 n (by simp [x]) (by simp)
      have hpn : p ≠ n := fun x => hp2 (by simp [x])
      refine Seg.split.2 ⟨key p n e1 e2 hpe hne _ _ (fun x hx => ?_) _ (fun x hx => ?_) s0, atp _ _ hpe, atn _ _ hne, key p n e1 e2 hpe hne _ _ (fun x hx => ?_) _ (fun x hx => ?_) s3⟩
      · rcases hx with rfl | hx
        · exact ⟨Ne.symm hph, Ne.symm heh⟩
        · exact ⟨fun e => hp0 (e ▸ hx), fun e => he0 (e ▸ hx)⟩
      · rcases hx with hx | rfl
        · exact ⟨fun e => hn0 (e ▸ hx), fun e => he0 (e ▸ hx)⟩
        · exact ⟨hpn, hpe⟩
      · rcases hx with rfl | hx
        · exact ⟨Ne.symm hpn, hne⟩
        · exact ⟨fun e => hp2 (by simp [← e, hx]), fun e => n4 (by simp [← e, hx])⟩
      · rcases hx with hx | rfl
        · exact ⟨fun e => hnl (e ▸ hx), fun e => n4 (by simp [← e, hx])⟩
        · exact ⟨fun x => hh2 (by simp [x]), Ne.symm heh⟩
end
end Go.Proofs.Ytcgchccppoignaa
