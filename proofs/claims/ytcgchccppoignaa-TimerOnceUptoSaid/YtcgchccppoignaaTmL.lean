/- Timer: what is due is taken out. -/
import Derived.Test.YtcgchccppoignaaTmK
namespace Go.Proofs.Ytcgchccppoignaa
open Go.RowKit
attribute [local go_sem ↓] Go.wp_at_zero Go.wp_at_succ
attribute [local go_sem] Go.undef

theorem infoF : (Try.prog.info? 45).map (fun i => (i.zero, i.size, i.bytes)) = some (some (.agg #[.int .i64 0, .int .i64 0]), 2, 16) := by kernel_rfl
/-- The cells of what has fired. -/
def fcs (l : List Tm) : List Value := (l.map fun x => [Value.int .i64 x.at_, Value.int .i64 x.id]).flatten
theorem fcs_snoc (l : List Tm) (x : Tm) : fcs (l ++ [x]) = fcs l ++ [.int .i64 x.at_, .int .i64 x.id] := by simp [fcs]
theorem fcs_append (l l' : List Tm) : fcs (l ++ l') = fcs l ++ fcs l' := by simp [fcs]
theorem rm_split {l1 l2 : List Tm} {x : Tm} (hn : (l1 ++ x :: l2).Nodup) (hi : ∀ y, y ∈ l1 ++ x :: l2 → y.g = x.g → y = x) : rmT (l1 ++ x :: l2) x = l1 ++ l2 := by
  obtain ⟨n1, n2, n3⟩ := List.nodup_append.1 hn
  have key : ∀ l : List Tm, (∀ y, y ∈ l → y ∈ l1 ++ x :: l2) → x ∉ l → l.filter (fun y => y.g != x.g) = l := fun l hl hx => List.filter_eq_self.2 fun y hy => by
    simp only [bne_iff_ne, ne_eq]
    intro eg
    exact hx (by rw [← hi y (hl y hy) eg]; exact hy)
  rw [rmT, List.filter_append, List.filter_cons, if_neg (by simp), key l1 (fun y hy => by simp [hy]) (fun hx => n3 x hx x (by simp) rfl), key l2 (fun y hy => by simp [hy]) (List.nodup_cons.1 n2).1]
/-- The timers in the order in which they were added. -/
def Srt (L : List Tm) : Prop := L.Pairwise fun x y => x.seq < y.seq
theorem Srt.rm {L : List Tm} (h : Srt L) (x : Tm) : Srt (rmT L x) := List.Pairwise.filter _ h
theorem Dst.rm {L : List Tm} (h : Dst L) (x : Tm) : Dst (rmT L x) := ⟨h.nd.filter _, fun y z hy hz => h.id y z (mem_rm.1 hy).1 (mem_rm.1 hz).1, fun y hy => h.wf y (mem_rm.1 hy).1⟩
/-- The first one of a kind, taken out. -/
theorem due_first {L : List Tm} {x : Tm} {p : Tm → Bool} (hx : x ∈ L) (hp : p x = true) (hs : Srt L) (hd : Dst L) (hi : ∀ y, y ∈ L → y.g = x.g → y = x) (hm : ∀ y, y ∈ L → p y = true → x.seq ≤ y.seq) :
    L.filter p = x :: (rmT L x).filter p ∧ L.filter (fun y => !p y) = (rmT L x).filter (fun y => !p y) := by
  obtain ⟨l1, l2, rfl⟩ := List.append_of_mem hx
  rw [rm_split hd.nd hi]
  have h1 : l1.filter p = [] := List.filter_eq_nil_iff.2 fun y hy hpy => by
    have h2 := hm y (by simp [hy]) hpy
    have h3 := (List.pairwise_append.1 hs).2.2 y hy x (by simp)
    omega
  constructor
  · rw [List.filter_append, List.filter_cons, if_pos hp, List.filter_append, h1, List.nil_append, List.nil_append]
  · rw [List.filter_append, List.filter_cons, if_neg (by simp [hp]), List.filter_append]
def isNow (now : Nat) (x : Tm) : Bool := decide (x.at_ = now)
section
variable {w : World} {B b m now sq k : Nat} {L : List Tm} {ρ : Nat → List Tm}
theorem whl_del {x : Tm} (h : Whl w B b m now sq L ρ) (hd : Dst L) (hx : x ∈ L) (ho : ∀ k, k < 448 → x ∉ ρ k) (ty : TypeId) :
    ∃ w2, (Builtin.delete_ #[54, 2] ty #[.map (some m), .int .i64 x.id]).run Try.prog w = .ok (.tuple #[]) w2 ∧ Whl w2 B b m now sq (rmT L x) ρ ∧ w.mapTurned w2 m := by
  obtain ⟨w2, r1, r2, r3⟩ := h.mp.del hx hd.nd (hd.wf x hx) (fun y hy e => h.rg.ok.inj y x hy hx e) (fun y hy e => hd.id y x hy hx e) ty
  exact ⟨w2, r1, h.turn (h.rg.rm hx ho) r3 r2 (fun y hy => ⟨h.xm y (mem_rm.1 hy).1, h.lo.2.2 y (mem_rm.1 hy).1⟩), r3⟩
theorem Inv.leave {x : Tm} (h : Inv now L ρ) (hok : Ok b L ρ) (hk : k < 448) (hx : x ∈ ρ k) : Inv now (rmT L x) (dropR ρ k x) where
  ge := fun y hy => h.ge y (mem_rm.1 hy).1
  ring := fun j hj y => by
    have hxl := hok.mem k hk x hx
    constructor
    · intro hy
      have h1 := (h.ring j hj y).1 (drop_sub hy)
      refine ⟨mem_rm.2 ⟨h1.1, fun e => ?_⟩, h1.2⟩
      have := hok.inj y x h1.1 hxl e
      subst this
      exact hok.out hk hx j hj hy
    · rintro ⟨h1, h2⟩
      obtain ⟨h3, h4⟩ := mem_rm.1 h1
      have h5 := (h.ring j hj y).2 ⟨h3, h2⟩
      unfold dropR
      split
      · exact List.mem_filter.2 ⟨h5, by simpa using h4⟩
      · exact h5
/-- The ring of now on the lowest level. -/
theorem Inv.now_ring (h : Inv now L ρ) (hn : now ≤ MT) (x : Tm) : x ∈ ρ (slot 0 now) ↔ x ∈ L ∧ x.at_ = now := by
  have hMT : MT < 2 ^ 42 := by decide
  have hs := slot_lt 0 now
  rw [h.ring _ (by omega) x]
  constructor
  · rintro ⟨hx, he⟩
    exact ⟨hx, ring_now (by omega) (by have := (h.ge x hx).2; omega) he⟩
  · rintro ⟨hx, he⟩
    exact ⟨hx, by rw [he]; exact ring_self (by omega)⟩
/-- What has fired of L, and what is left. -/
structure FireI (now : Nat) (L Lr fired : List Tm) : Prop where
  due : fired ++ Lr.filter (isNow now) = L.filter (isNow now)
  rest : Lr.filter (fun x => !isNow now x) = L.filter (fun x => !isNow now x)
  sub : ∀ x, x ∈ Lr → x ∈ L
  srt : Srt Lr
  dst : Dst Lr
  len : fired.length + Lr.length = L.length
theorem FireI.start (h1 : Srt L) (h2 : Dst L) : FireI now L L [] := ⟨rfl, rfl, fun _ h => h, h1, h2, by simp⟩
theorem FireI.step {Lr fired : List Tm} {x : Tm} (h : FireI now L Lr fired) (hx : x ∈ Lr) (he : x.at_ = now) (hi : ∀ y, y ∈ Lr → y.g = x.g → y = x) (hm : ∀ y, y ∈ Lr → y.at_ = now → x.seq ≤ y.seq) : FireI now L (rmT Lr x) (fired ++ [x]) := by
  obtain ⟨e1, e2⟩ := due_first (p := isNow now) hx (by simp [isNow, he]) h.srt h.dst hi (fun y hy hp => hm y hy (by simpa [isNow] using hp))
  refine ⟨?_, e2.symm.trans h.rest, fun y hy => h.sub y (mem_rm.1 hy).1, h.srt.rm x, h.dst.rm x, ?_⟩
  · rw [List.append_assoc, ← h.due, e1]; rfl
  · have := rm_len hx h.dst.nd hi
    have := h.len
    simp
    omega
theorem FireI.done {Lr fired : List Tm} (h : FireI now L Lr fired) (hn : ∀ x, x ∈ Lr → x.at_ ≠ now) : fired = L.filter (isNow now) ∧ Lr = L.filter (fun x => !isNow now x) := by
  have e1 : Lr.filter (isNow now) = [] := List.filter_eq_nil_iff.2 fun y hy hp => hn y hy (by simpa [isNow] using hp)
  have e2 : Lr.filter (fun x => !isNow now x) = Lr := List.filter_eq_self.2 fun y hy => by simpa [isNow] using hn y hy
  exact ⟨by rw [← h.due, e1, List.append_nil], by rw [← h.rest, e2]⟩
theorem own_sub {Lr : List Tm} (hs : ∀ x, x ∈ Lr → x ∈ L) {g : Nat} (h : Own b m Lr g) : Own b m L g := by
  rcases h with h | h | ⟨x, hx, h⟩
  · exact .inl h
  · exact .inr (.inl h)
  · exact .inr (.inr ⟨x, hs x hx, h⟩)
/-- The least number among the first i of a ring. -/
def LeastQ (l : List Tm) (i : Nat) (f : Tm) : Prop := 1 ≤ i ∧ f ∈ l.take i ∧ ∀ y, y ∈ l.take i → f.seq ≤ y.seq
theorem LeastQ.take {l : List Tm} {i : Nat} {f x : Tm} (h : LeastQ l i f) (hx : l[i]? = some x) (hc : x.seq < f.seq) : LeastQ l (i + 1) x := by
  obtain ⟨h1, h2, h3⟩ := h
  refine ⟨by omega, by rw [← take_snocT hx]; simp, fun y hy => ?_⟩
  rw [← take_snocT hx] at hy
  rcases List.mem_append.1 hy with hy | hy
  · have := h3 y hy; omega
  · rw [List.mem_singleton.1 hy]; exact Nat.le_refl _
theorem LeastQ.keep {l : List Tm} {i : Nat} {f x : Tm} (h : LeastQ l i f) (hx : l[i]? = some x) (hc : ¬ x.seq < f.seq) : LeastQ l (i + 1) f := by
  obtain ⟨h1, h2, h3⟩ := h
  refine ⟨by omega, by rw [← take_snocT hx]; simp [h2], fun y hy => ?_⟩
  rw [← take_snocT hx] at hy
  rcases List.mem_append.1 hy with hy | hy
  · exact h3 y hy
  · rw [List.mem_singleton.1 hy]; omega
end
end Go.Proofs.Ytcgchccppoignaa
