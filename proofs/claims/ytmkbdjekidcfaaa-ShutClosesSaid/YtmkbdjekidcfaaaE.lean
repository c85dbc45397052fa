/- Sets of ints in memory; the things of package shut in memory. -/
import Derived.Test.YtmkbdjekidcfaaaD
import Derived.Maps.OwnSet
import Derived.Maps.Ext
namespace Go.Proofs.Ytmkbdjekidcfaaa
open Go.RowKit
open Go.Maps (Keyed has Tidy)

theorem keyed3 : Keyed Try.prog 3 := Maps.int_keyed Try.underlying3
theorem key3 {q : Int} (h : (Lit.int .i64 q).wf = true) : keyOf Try.prog 3 (.int .i64 q) = some (.int .i64 q) := Maps.keyOf_int_mk Try.underlying3 h

/-- Block m is a map whose keys are the ints that s holds of; at most N of them. -/
def SetAt (w : World) (m N : Nat) (s : Int → Bool) : Prop :=
  ∃ D : DataW Unit, w.ownsMap Try.prog 3 (plainElem Try.prog 4) m N D ∧ ∀ kl, has D kl = true ↔ ∃ q : Int, kl = .int .i64 q ∧ s q = true

theorem SetAt.congr {w : World} {m N : Nat} {s s' : Int → Bool} (h : SetAt w m N s) (he : ∀ q, s q = s' q) : SetAt w m N s' := by
  have : s = s' := funext he
  exact this ▸ h
theorem SetAt.mono {w : World} {m N N' : Nat} {s : Int → Bool} (h : SetAt w m N s) (hN : N ≤ N') : SetAt w m N' s := by
  obtain ⟨D, h1, h2⟩ := h
  exact ⟨D, h1.mono hN, h2⟩
theorem SetAt.of_block {w w' : World} {m N : Nat} {s : Int → Bool} (h : SetAt w m N s) (hb : w'.heap[m]? = w.heap[m]?) : SetAt w' m N s := by
  obtain ⟨D, ⟨es, clock, h1, h3⟩, h2⟩ := h
  exact ⟨D, ⟨es, clock, hb.trans h1, h3⟩, h2⟩
theorem SetAt.lt {w : World} {m N : Nat} {s : Int → Bool} (h : SetAt w m N s) : m < w.heap.size := by
  obtain ⟨D, h1, _⟩ := h
  exact h1.lt
theorem SetAt.made (w : World) : SetAt (w.alloc (.map #[] 0)) w.heap.size 0 (fun _ => false) :=
  ⟨.map [], World.ownsMap_made _ _ _ _, fun kl => by simp [has]⟩

theorem size_zero {w : World} {m N : Nat} {D : DataW Unit} {s : Int → Bool} (h1 : w.ownsMap Try.prog 3 (plainElem Try.prog 4) m N D) (h2 : ∀ kl, has D kl = true ↔ ∃ q : Int, kl = .int .i64 q ∧ s q = true) :
    (Maps.size D = 0) ↔ ∀ q, s q = false := by
  obtain ⟨es, rfl, hs, hk⟩ := h1.canon keyed3
  rw [Maps.size_eq]
  constructor
  · intro h0 q
    have : es = [] := List.length_eq_zero_iff.1 h0
    subst this
    cases hq : s q with
    | false => rfl
    | true =>
      have := (h2 (.int .i64 q)).2 ⟨q, rfl, hq⟩
      simp [Maps.has_eq] at this
  · intro h0
    cases es with
    | nil => rfl
    | cons p r =>
      exfalso
      have hp := hk p (by simp)
      have : has (.map (p :: r) : DataW Unit) p.1 = true := by
        rw [Maps.has_eq]
        simp only [List.any_cons, Bool.or_eq_true]
        left
        exact WideAt.sameKey_self hp
      obtain ⟨q, _, hq⟩ := (h2 p.1).1 this
      rw [h0 q] at hq
      cases hq

theorem set_put {w : World} {m N : Nat} {D : DataW Unit} {d : DataW Unit} {s : Int → Bool} {q : Int} {w0 : World} {N0 : Nat} (h1 : w0.ownsMap Try.prog 3 (plainElem Try.prog 4) m N0 D) (h2 : ∀ kl, has D kl = true ↔ ∃ q : Int, kl = .int .i64 q ∧ s q = true)
    (h : w.ownsMap Try.prog 3 (plainElem Try.prog 4) m N (D.put (.int .i64 q) d)) : SetAt w m N (fun x => s x || decide (x = q)) := by
  refine ⟨_, h, fun kl => ?_⟩
  by_cases e : kl = .int .i64 q
  · subst e
    rw [Maps.has_put_same h1.isMap (by simp [WideAt.IsKeyLit])]
    simp
  · rw [Maps.has_put_other e, h2]
    constructor
    · rintro ⟨x, rfl, hx⟩
      exact ⟨x, rfl, by simp [hx]⟩
    · rintro ⟨x, rfl, hx⟩
      refine ⟨x, rfl, ?_⟩
      have : x ≠ q := fun h => e (by rw [h])
      simpa [this] using hx

theorem set_del {w : World} {m N : Nat} {D : DataW Unit} {s : Int → Bool} {q : Int} (h2 : ∀ kl, has D kl = true ↔ ∃ q : Int, kl = .int .i64 q ∧ s q = true)
    (h : w.ownsMap Try.prog 3 (plainElem Try.prog 4) m N (D.del (.int .i64 q))) : SetAt w m N (fun x => s x && !decide (x = q)) := by
  refine ⟨_, h, fun kl => ?_⟩
  by_cases e : kl = .int .i64 q
  · subst e
    rw [Maps.has_del_same]
    simp
  · rw [Maps.has_del_other e, h2]
    constructor
    · rintro ⟨x, rfl, hx⟩
      have : x ≠ q := fun h => e (by rw [h])
      exact ⟨x, rfl, by simp [hx, this]⟩
    · rintro ⟨x, rfl, hx⟩
      exact ⟨x, rfl, by simp at hx; exact hx.1⟩

theorem alloc_new {w : World} {o : Obj} {n : Nat} (hn : n = w.heap.size) : (w.alloc o).heap[n]? = some o := by
  subst hn
  exact (MapKept.heap_alloc w o).1
theorem alloc_old {w : World} {o : Obj} {n : Nat} (hn : n < w.heap.size) : (w.alloc o).heap[n]? = w.heap[n]? := Below.heap_alloc w o n hn

/-- A thing's block. -/
def thingObj (i m : Nat) : Obj := .cells #[.int .i64 (i : Int), .map (some m), .int .u32 0, .int .i32 0, .int .u32 0] 65
/-- The blocks of n things: thing i in block Bk i, what it waits for in the map Mk i. -/
structure TB (w : World) (B U n N : Nat) (Bk Mk : Nat → Nat) (S : Nat → Int → Bool) : Prop where
  obj : ∀ i, i < n → w.heap[Bk i]? = some (thingObj i (Mk i))
  set : ∀ i, i < n → SetAt w (Mk i) N (S i)
  lo : ∀ i, i < n → B ≤ Bk i ∧ B ≤ Mk i
  hi : ∀ i, i < n → Bk i < U ∧ Mk i < U
  injM : ∀ i j, i < n → j < n → Mk i = Mk j → i = j
  injB : ∀ i j, i < n → j < n → Bk i = Bk j → i = j

theorem TB.of_blocks {w w' : World} {B U n N : Nat} {Bk Mk : Nat → Nat} {S : Nat → Int → Bool} (h : TB w B U n N Bk Mk S) (hb : ∀ i, i < n → w'.heap[Bk i]? = w.heap[Bk i]? ∧ w'.heap[Mk i]? = w.heap[Mk i]?) : TB w' B U n N Bk Mk S :=
  ⟨fun i hi => (hb i hi).1.trans (h.obj i hi), fun i hi => (h.set i hi).of_block (hb i hi).2, h.lo, h.hi, h.injM, h.injB⟩
theorem TB.of_low {w w' : World} {B U n N : Nat} {Bk Mk : Nat → Nat} {S : Nat → Int → Bool} (h : TB w B U n N Bk Mk S) (hb : ∀ k, k < U → w'.heap[k]? = w.heap[k]?) : TB w' B U n N Bk Mk S :=
  h.of_blocks fun i hi => ⟨hb _ (h.hi i hi).1, hb _ (h.hi i hi).2⟩

/-- The row of pointers to things. -/
def ptrs (n : Nat) (Bk : Nat → Nat) : List Value := (List.range n).map fun i => .pointer (some ⟨Bk i, 0, none⟩)
theorem ptrs_at {n i : Nat} {Bk : Nat → Nat} (hi : i < n) : (ptrs n Bk)[i]? = some (.pointer (some ⟨Bk i, 0, none⟩)) := by simp [ptrs, hi]

theorem cell_thing0 {w : World} {b i m : Nat} (h : w.heap[b]? = some (thingObj i m)) : w.cell? ⟨b, 0, none⟩ = some (.int .i64 (i : Int)) := by simp [World.cell?, h, thingObj]
theorem cell_thing1 {w : World} {b i m : Nat} (h : w.heap[b]? = some (thingObj i m)) : w.cell? ⟨b, 1, none⟩ = some (.map (some m)) := by simp [World.cell?, h, thingObj]

theorem row_block {w : World} {B E size : Nat} {v : Value} {n : Nat} {xs : List Value} (h : w.ownsRow B E size v n xs) {g : Nat} (hg : v.ownBlock = some g) : ∃ cur, w.heap[g]? = some (.cells cur E (0, 0)) := by
  rcases h.2 with ⟨rfl, _⟩ | ⟨g', cap, cur, rfl, _, hh, _⟩
  · simp [Value.ownBlock] at hg
  · simp [Value.ownBlock] at hg
    subst hg
    exact ⟨cur, hh⟩

theorem set_block {w : World} {m N : Nat} {s : Int → Bool} (h : SetAt w m N s) : ∃ es c, w.heap[m]? = some (.map es c) := by
  obtain ⟨D, ⟨es, clock, h1, _⟩, _⟩ := h
  exact ⟨es, clock, h1⟩

/-- One thing more. -/
theorem TB.push {wo wr w5 : World} {B k N : Nat} {Bk Mk : Nat → Nat} {S : Nat → Int → Bool} {v : Value} {o : Obj} (h : TB wo B wo.heap.size k N Bk Mk S) (hBo : B ≤ wo.heap.size)
    (hrow : wo.ownsRow B 50 1 v k (ptrs k Bk)) (hb : Below wo.heap.size wo wr) (hobj : wr.heap[wo.heap.size + 1]? = some (thingObj k wo.heap.size)) (hset : SetAt wr wo.heap.size N (S k))
    (hg : (wr.alloc o).grownBy w5 v.ownBlock) :
    TB w5 B w5.heap.size (k + 1) N (fun i => if i = k then wo.heap.size + 1 else Bk i) (fun i => if i = k then wo.heap.size else Mk i) S := by
  have hlt := (Array.getElem?_eq_some_iff.1 hobj).1
  have hs5 := hg.size
  simp only [World.size_alloc] at hs5
  have low : ∀ b, b < wo.heap.size → (∀ g, v.ownBlock = some g → b ≠ g) → w5.heap[b]? = wo.heap[b]? := fun b hb1 hb2 =>
    (hg.block b (by simp; omega) (fun e => hb2 b e.symm rfl)).trans ((alloc_old (by omega)).trans (hb.block b hb1))
  have hv : ∀ g, v.ownBlock = some g → g < wo.heap.size := fun g hgv => (hrow.lt g hgv).2
  have neB : ∀ i, i < k → ∀ g, v.ownBlock = some g → Bk i ≠ g := fun i hi g hgv e => by
    obtain ⟨cur, hc⟩ := row_block hrow hgv
    have := h.obj i hi
    rw [e, hc] at this
    simp [thingObj] at this
  have neM : ∀ i, i < k → ∀ g, v.ownBlock = some g → Mk i ≠ g := fun i hi g hgv e => by
    obtain ⟨cur, hc⟩ := row_block hrow hgv
    obtain ⟨es, c, hm⟩ := set_block (h.set i hi)
    rw [e, hc] at hm
    simp at hm
  have up : ∀ b, wo.heap.size ≤ b → b < wr.heap.size → w5.heap[b]? = wr.heap[b]? := fun b hb1 hb2 =>
    (hg.block b (by simp; omega) (fun e => by have := hv b e.symm; omega)).trans (alloc_old hb2)
  refine ⟨fun i hi => ?_, fun i hi => ?_, fun i hi => ?_, fun i hi => ?_, fun i j hi hj => ?_, fun i j hi hj => ?_⟩
  · by_cases e : i = k
    · subst e
      simp only [if_true]
      exact (up _ (by omega) hlt).trans hobj
    · simp only [if_neg e]
      exact (low _ (h.hi i (by omega)).1 (neB i (by omega))).trans (h.obj i (by omega))
  · by_cases e : i = k
    · subst e
      simp only [if_true]
      exact hset.of_block (up _ (Nat.le_refl _) (by omega))
    · simp only [if_neg e]
      exact (h.set i (by omega)).of_block (low _ (h.hi i (by omega)).2 (neM i (by omega)))
  · by_cases e : i = k
    · subst e; simp only [if_true]; omega
    · simp only [if_neg e]; exact h.lo i (by omega)
  · by_cases e : i = k
    · subst e; simp only [if_true]; omega
    · simp only [if_neg e]; have := h.hi i (by omega); omega
  · by_cases e : i = k
    · by_cases e' : j = k
      · intro _; omega
      · simp only [if_pos e, if_neg e']; intro h1; have := (h.hi j (by omega)).2; omega
    · by_cases e' : j = k
      · simp only [if_neg e, if_pos e']; intro h1; have := (h.hi i (by omega)).2; omega
      · simp only [if_neg e, if_neg e']; exact h.injM i j (by omega) (by omega)
  · by_cases e : i = k
    · by_cases e' : j = k
      · intro _; omega
      · simp only [if_pos e, if_neg e']; intro h1; have := (h.hi j (by omega)).1; omega
    · by_cases e' : j = k
      · simp only [if_neg e, if_pos e']; intro h1; have := (h.hi i (by omega)).1; omega
      · simp only [if_neg e, if_neg e']; exact h.injB i j (by omega) (by omega)

theorem ptrs_snoc {k : Nat} {Bk : Nat → Nat} {b : Nat} : ptrs k Bk ++ [.pointer (some ⟨b, 0, none⟩)] = ptrs (k + 1) (fun i => if i = k then b else Bk i) := by
  unfold ptrs
  rw [List.range_succ, List.map_append]
  simp only [List.map_cons, List.map_nil, if_true]
  congr 1
  apply List.map_congr_left
  intro i hi
  have := List.mem_range.1 hi
  rw [if_neg (by omega)]

end Go.Proofs.Ytmkbdjekidcfaaa
