/- What the rounds of Order keep. -/
import Derived.Test.YtmkbdjekidcfaaaG
namespace Go.Proofs.Ytmkbdjekidcfaaa
open Go.RowKit
open Go.Maps (Keyed has Tidy)

structure SO (w wr : World) (n L D Gd : Nat) (vl : Value) (Bk : Nat → Nat) (G : List Nat) (vo vc : Value) : Prop where
  z0 : ∃ u, wr.cell? ⟨w.heap.size, 0, none⟩ = some u
  z1 : ∃ u, wr.cell? ⟨w.heap.size, 1, none⟩ = some u
  y0 : wr.frozen? ⟨w.heap.size, 0, none⟩ = false
  y1 : wr.frozen? ⟨w.heap.size, 1, none⟩ = false
  c0 : wr.cell? ⟨w.heap.size + 1, 0, none⟩ = some vo
  c1 : wr.cell? ⟨w.heap.size + 1, 1, none⟩ = some vc
  f0 : wr.frozen? ⟨w.heap.size + 1, 0, none⟩ = false
  f1 : wr.frozen? ⟨w.heap.size + 1, 1, none⟩ = false
  l0 : wr.cell? ⟨L, 0, none⟩ = some vl
  g0 : wr.cell? ⟨Gd, 0, none⟩ = some (.slice (some ⟨D, 0, none⟩) n n)
  row : wr.ownsRow (w.heap.size + 2) 50 1 vl n (ptrs n Bk)
  low : ∀ k, vl.ownBlock = some k → k < L
  don : OwnBools wr (w.heap.size + 2) (.slice (some ⟨D, 0, none⟩) n n) n (inG G)
  ord : OwnInts wr (Gd + 1) vo G
  bel : Below w.heap.size w wr
  hL : w.heap.size + 1 < L
  hD : L < D
  hG : D < Gd
  sz : Gd < wr.heap.size

theorem TB.of_mid {w w' : World} {B U n N : Nat} {Bk Mk : Nat → Nat} {S : Nat → Int → Bool} (h : TB w B U n N Bk Mk S) (hb : ∀ k, B ≤ k → k < U → w'.heap[k]? = w.heap[k]?) : TB w' B U n N Bk Mk S :=
  h.of_blocks fun i hi => ⟨hb _ (h.lo i hi).1 (h.hi i hi).1, hb _ (h.lo i hi).2 (h.hi i hi).2⟩
theorem TB.congr {w : World} {B U n N : Nat} {Bk Mk : Nat → Nat} {S S' : Nat → Int → Bool} (h : TB w B U n N Bk Mk S) (he : ∀ i, i < n → ∀ q, S i q = S' i q) : TB w B U n N Bk Mk S' :=
  ⟨h.obj, fun i hi => (h.set i hi).congr (he i hi), h.lo, h.hi, h.injM, h.injB⟩
theorem TB.wider {w : World} {B U U' n N : Nat} {Bk Mk : Nat → Nat} {S : Nat → Int → Bool} (h : TB w B U n N Bk Mk S) (hU : U ≤ U') : TB w B U' n N Bk Mk S :=
  ⟨h.obj, h.set, h.lo, fun i hi => by have := h.hi i hi; omega, h.injM, h.injB⟩

theorem setCell_block {w : World} {a : Addr} {u : Value} {k : Nat} (h : k ≠ a.block) : (w.setCell a u).heap[k]? = w.heap[k]? := Below.heap_setCell w a u k h

theorem cell_cells {w : World} {b o : Nat} {v : Value} (h : w.cell? ⟨b, o, none⟩ = some v) : ∃ c t f, w.heap[b]? = some (.cells c t f) := by
  unfold World.cell? at h
  split at h
  · rename_i cs _ _ he
    exact ⟨_, _, _, he⟩
  · cases h

theorem SO.push {w wr w3 : World} {n L D Gd : Nat} {vl vo vc v' : Value} {Bk : Nat → Nat} {G : List Nat} {i : Nat} (h : SO w wr n L D Gd vl Bk G vo vc) (_hi : i < n)
    (hown : w3.ownsRow (Gd + 1) 3 1 v' (G.length + 1) ((G.map fun i : Nat => Value.int .i64 (i : Int)) ++ [.int .i64 (i : Int)]))
    (hg : ((wr.setCell ⟨D, i, none⟩ (.bool true)).alloc (.cells #[.int .i64 (i : Int)] 3)).grownBy w3 vo.ownBlock) :
    SO w (w3.setCell ⟨w.heap.size + 1, 0, none⟩ v') n L D Gd vl Bk (G ++ [i]) v' vc ∧ ∀ k, w.heap.size + 2 ≤ k → k < L → (w3.setCell ⟨w.heap.size + 1, 0, none⟩ v').heap[k]? = wr.heap[k]? := by
  obtain ⟨⟨u0, z0⟩, ⟨u1, z1⟩, y0, y1, c0, c1, f0, f1, l0, g0, row, low, don, ord, bel, hL, hD, hG, sz⟩ := h
  have hpast := row_past ord
  have hsz : (((wr.setCell ⟨D, i, none⟩ (.bool true)).alloc (.cells #[.int .i64 (i : Int)] 3))).heap.size = wr.heap.size + 1 := by simp
  have hs3 := hg.size
  rw [hsz] at hs3
  have blk : ∀ b, b ≤ Gd → b ≠ D → w3.heap[b]? = wr.heap[b]? := fun b h1 h2 =>
    (hg.block b (by rw [hsz]; omega) (fun e => by have := hpast b e.symm; omega)).trans ((alloc_old (by simp; omega)).trans (setCell_block h2))
  have old : ∀ b o u, b ≤ Gd → b ≠ D → wr.cell? ⟨b, o, none⟩ = some u → w3.cell? ⟨b, o, none⟩ = some u := fun b o u h1 h2 h3 => by
    rw [World.cell?_of_block (w := wr) (a := ⟨b, o, none⟩) (blk b h1 h2)]; exact h3
  have oldf : ∀ b o, b ≤ Gd → b ≠ D → wr.frozen? ⟨b, o, none⟩ = false → w3.frozen? ⟨b, o, none⟩ = false := fun b o h1 h2 h3 => by
    rw [World.frozen?_of_block (w := wr) (a := ⟨b, o, none⟩) (blk b h1 h2)]; exact h3
  have C0 := old _ 0 _ (by omega) (by omega) c0
  have C1 := old _ 1 _ (by omega) (by omega) c1
  have Z0 := old _ 0 _ (by omega) (by omega) z0
  have Z1 := old _ 1 _ (by omega) (by omega) z1
  have hst := (World.ownsRow.stored (w := wr) don i (.bool true)).1
  rw [bl_set true (inG (G ++ [i])) (fun k _ => inG_snoc G i k)] at hst
  have hdon : w3.ownsRow (w.heap.size + 2) 4 1 (.slice (some ⟨D, 0, none⟩) n n) n (bl n (inG (G ++ [i]))) := (hst.alloc _).kept hg (Or.inr (by
    intro e
    have := hpast D (by rw [← e]; rfl)
    omega))
  have hrow : w3.ownsRow (w.heap.size + 2) 50 1 vl n (ptrs n Bk) := by
    refine ⟨row.1, ?_⟩
    rcases row.2 with h0 | ⟨g, cap, cur, hv, hg1, hh, rest⟩
    · exact .inl h0
    · have := low g (by rw [hv]; rfl)
      exact .inr ⟨g, cap, cur, hv, hg1, (blk g (by omega) (by omega)).trans hh, rest⟩
  refine ⟨⟨⟨_, by rw [cell_set_ne (by simp)]; exact Z0⟩, ⟨_, by rw [cell_set_ne (by simp)]; exact Z1⟩, by simpa using oldf _ 0 (by omega) (by omega) y0, by simpa using oldf _ 1 (by omega) (by omega) y1,
    World.cell?_setCell_same _ _ _ C0, by rw [cell_set_ne (by simp)]; exact C1, by simpa using oldf _ 0 (by omega) (by omega) f0, by simpa using oldf _ 1 (by omega) (by omega) f1,
    by rw [cell_set_ne (fun e => by have := congrArg Addr.block e; simp at this; omega)]; exact old L 0 _ (by omega) (by omega) l0, by rw [cell_set_ne (fun e => by have := congrArg Addr.block e; simp at this; omega)]; exact old Gd 0 _ (by omega) (by omega) g0,
    ownsRow_setCell_below hrow (by show w.heap.size + 1 < _; omega) _, low, ownsRow_setCell_below hdon (by show w.heap.size + 1 < _; omega) _, ints_snoc (ownsRow_setCell_below hown (by show w.heap.size + 1 < _; omega) _), ?_, hL, hD, hG, by simp; omega⟩, fun k h1 h2 => ?_⟩
  · exact Below.setCell (Below.grown (Below.alloc (Below.setCell bel (by show _ ≤ D; omega) _) (by simp; omega) _) hg (by rw [hsz]; omega) (fun k hk => by have := hpast k hk; omega)) (by show _ ≤ w.heap.size + 1; omega) _
  · exact (setCell_block (by show k ≠ w.heap.size + 1; omega)).trans (blk k (by omega) (by omega))

theorem SO.turned {w wr w1 : World} {n L D Gd m : Nat} {vl vo vc : Value} {Bk : Nat → Nat} {G : List Nat} (h : SO w wr n L D Gd vl Bk G vo vc) (hm : ∃ es c, wr.heap[m]? = some (.map es c)) (hmB : w.heap.size ≤ m) (hg : wr.grownBy w1 (some m)) :
    SO w w1 n L D Gd vl Bk G vo vc := by
  obtain ⟨⟨u0, z0⟩, ⟨u1, z1⟩, y0, y1, c0, c1, f0, f1, l0, g0, row, low, don, ord, bel, hL, hD, hG, sz⟩ := h
  obtain ⟨es, c, hm⟩ := hm
  have hs := hg.size
  have ne : ∀ b o v, wr.cell? ⟨b, o, none⟩ = some v → b ≠ m := fun b o v hv e => by
    obtain ⟨c', t, f, h'⟩ := cell_cells hv
    rw [e, hm] at h'
    cases h'
  have old : ∀ b o u, wr.cell? ⟨b, o, none⟩ = some u → w1.cell? ⟨b, o, none⟩ = some u := fun b o u h3 =>
    cell_grown hg (World.block_lt_of_cell? _ _ h3) (fun k hk => by cases hk; exact ne b o u h3) h3
  have oldf : ∀ b o u, wr.cell? ⟨b, o, none⟩ = some u → ∀ o', wr.frozen? ⟨b, o', none⟩ = false → w1.frozen? ⟨b, o', none⟩ = false := fun b o u h3 o' h4 =>
    free_grown hg (World.block_lt_of_cell? _ _ h3) (fun k hk => by cases hk; exact ne b o u h3) h4
  have rows : ∀ {B E : Nat} {v : Value} {n : Nat} {xs : List Value}, wr.ownsRow B E 1 v n xs → w1.ownsRow B E 1 v n xs := fun {B E v n xs} hr => hr.kept hg (by
    cases hv : v.ownBlock with
    | none => exact Or.inl rfl
    | some g =>
      refine Or.inr (fun e => ?_)
      obtain ⟨cur, hc⟩ := row_block hr hv
      cases e
      rw [hm] at hc
      cases hc)
  exact ⟨⟨_, old _ _ _ z0⟩, ⟨_, old _ _ _ z1⟩, oldf _ _ _ z0 _ y0, oldf _ _ _ z0 _ y1, old _ _ _ c0, old _ _ _ c1, oldf _ _ _ c0 _ f0, oldf _ _ _ c0 _ f1, old _ _ _ l0, old _ _ _ g0, rows row, low, rows don, rows ord,
    Below.grown bel hg bel.size (fun k hk => by cases hk; exact hmB), hL, hD, hG, by omega⟩

/-- One of the maps is turned. -/
theorem TB.turn {w w1 : World} {B U n N m : Nat} {Bk Mk : Nat → Nat} {S S' : Nat → Int → Bool} (h : TB w B U n N Bk Mk S) (hm : m < n) (hg : w.grownBy w1 (some (Mk m))) (hset : SetAt w1 (Mk m) N (S' m)) (he : ∀ i, i < n → i ≠ m → ∀ q, S i q = S' i q) :
    TB w1 B U n N Bk Mk S' := by
  have hlt : ∀ i, i < n → Bk i < w.heap.size := fun i hi => (Array.getElem?_eq_some_iff.1 (h.obj i hi)).1
  refine ⟨fun i hi => ?_, fun i hi => ?_, h.lo, h.hi, h.injM, h.injB⟩
  · refine (hg.block _ (hlt i hi) (fun e => ?_)).trans (h.obj i hi)
    have e' : Bk i = Mk m := by simpa using e
    obtain ⟨es, c, h1⟩ := set_block (h.set m hm)
    have h2 := h.obj i hi
    rw [e', h1] at h2
    simp [thingObj] at h2
  · by_cases e : i = m
    · subst e; exact hset
    · exact ((h.set i hi).of_block (hg.block _ (h.set i hi).lt (fun e' => e (h.injM i m hi hm (by simpa using e'))))).congr (he i hi e)

theorem sG_snoc {rows : List (List Int)} {G : List Nat} {i k : Nat} (q : Int) : (sG rows G i q && !decide (q = k)) = sG rows (G ++ [k]) i q := by
  unfold sG
  cases hn : nd rows i q with
  | false => rfl
  | true =>
    have hq : 0 ≤ q := by unfold nd at hn; simp at hn; exact hn.1.1.1
    obtain ⟨m, rfl⟩ := Int.eq_ofNat_of_zero_le hq
    rw [Int.toNat_natCast, inG_snoc]
    by_cases e : m = k
    · subst e; simp
    · have : ¬ ((m : Int) = k) := by omega
      simp [e, this]
theorem sG_nil {rows : List (List Int)} {i : Nat} (q : Int) : nd rows i q = sG rows [] i q := by unfold sG inG; simp

end Go.Proofs.Ytmkbdjekidcfaaa
