/- JournalTwo: the state of its loop. -/
import Derived.Test.YtknjloffkiidhaaJ6
namespace Go.Proofs.Ytknjloffkiidhaa
open Go.RowKit Go.Deep

/-- The values that stand for a row of records. -/
def RV (w : World) (S : Nat → Prop) (rs : List (List Nat)) (vs : List Value) : Prop :=
  vs.length = rs.length ∧ ∀ (i : Nat) (r : List Nat), rs[i]? = some r → ∃ a c, vs[i]? = some (.slice a r.length c) ∧ r.length ≤ c ∧ c ≤ maxLen ∧ BY w S a r
theorem RV.under {w w' : World} {S : Nat → Prop} {B : Nat} {rs : List (List Nat)} {vs : List Value} (h : RV w S rs vs) (hb : Below B w w') (hS : ∀ b, S b → b < B) : RV w' S rs vs :=
  ⟨h.1, fun i r hr => by obtain ⟨a, c, h1, h2, h3, h4⟩ := h.2 i r hr; exact ⟨a, c, h1, h2, h3, h4.under hb hS⟩⟩
theorem RV.one {w : World} {S : Nat → Prop} {rs : List (List Nat)} {vs : List Value} (h : RV w S rs vs) : ∀ u ∈ vs, u.oneCell' = true := fun u hu => by
  obtain ⟨i, hi, rfl⟩ := List.getElem_of_mem hu
  have hi' : i < rs.length := by have := h.1; omega
  obtain ⟨a, c, h1, -⟩ := h.2 i _ (List.getElem?_eq_getElem hi')
  rw [List.getElem?_eq_getElem hi] at h1
  injection h1 with h1
  rw [h1]; rfl
theorem RV.app {w : World} {S : Nat → Prop} {rs ss : List (List Nat)} {vs us : List Value} (h : RV w S rs vs) (h' : RV w S ss us) : RV w S (rs ++ ss) (vs ++ us) := by
  refine ⟨by simp [h.1, h'.1], fun i r hr => ?_⟩
  by_cases hi : i < rs.length
  · rw [List.getElem?_append_left hi] at hr
    rw [List.getElem?_append_left (by rw [h.1]; exact hi)]
    exact h.2 i r hr
  · rw [List.getElem?_append_right (by omega)] at hr
    rw [List.getElem?_append_right (by rw [h.1]; omega), h.1]
    exact h'.2 _ r hr
theorem RV.take {w : World} {S : Nat → Prop} {rs : List (List Nat)} {vs : List Value} (h : RV w S rs vs) (k : Nat) : RV w S (rs.take k) (vs.take k) := by
  refine ⟨by simp [h.1], fun i r hr => ?_⟩
  rw [List.getElem?_take] at hr ⊢
  split at hr
  · rename_i hlt
    rw [if_pos hlt]
    exact h.2 i r hr
  · cases hr
theorem RV.rb {w : World} {S : Nat → Prop} {B n c : Nat} {a : Option Addr} {rs : List (List Nat)} {vs : List Value} (h : RV w S rs vs) (ho : w.ownsRow B 22 1 (.slice a n c) n vs) (hS : ∀ b, S b → b < w.heap.size) : RB w (· < w.heap.size) a rs := fun h0 => by
  have hn : vs.length = n := by simpa using ho.1
  obtain ⟨g, cap, hv, hg, hlt⟩ := ho.form (by have := h.1; omega)
  have ha : a = some ⟨g, 0, none⟩ := by injection hv
  refine ⟨g, 0, ha, hlt, fun i r hr => ?_⟩
  obtain ⟨a', c', g1, g2, g3, g4⟩ := h.2 i r hr
  refine ⟨a', c', ?_, g2, g3, g4.mono hS⟩
  have := ho.cells (g := g) (by rw [ha]; rfl) i _ g1
  rw [Addr.add_mid] at this
  simpa using this
theorem RB.vals {w : World} {S : Nat → Prop} {a : Option Addr} {rs : List (List Nat)} (h : RB w S a rs) : ∃ vs, RV w S rs vs ∧ (∀ ad, a = some ad → ∀ (j : Nat) (u : Value), vs[j]? = some u → w.cell? (ad.add j) = some u) ∧ (0 < rs.length → a.isSome = true ∧ ∃ g o, a = some ⟨g, o, none⟩ ∧ S g) := by
  rcases Nat.eq_zero_or_pos rs.length with e | e
  · obtain rfl : rs = [] := List.eq_nil_of_length_eq_zero e
    exact ⟨[], ⟨rfl, fun i r hr => by simp at hr⟩, fun ad _ j u hu => by simp at hu, fun h => absurd h (by simp)⟩
  · obtain ⟨g, o, ha, hs, hc⟩ := h e
    have hv : ∀ i, i < rs.length → ((List.range rs.length).map fun i => (w.cell? ⟨g, o + i, none⟩).getD undef)[i]? = some ((w.cell? ⟨g, o + i, none⟩).getD undef) := fun i hi => by simp [hi]
    refine ⟨(List.range rs.length).map fun i => (w.cell? ⟨g, o + i, none⟩).getD undef, ⟨by simp, fun i r hr => ?_⟩, fun ad had j u hu => ?_, fun _ => ⟨by rw [ha]; rfl, g, o, ha, hs⟩⟩
    · obtain ⟨a', c', h1, h2, h3, h4⟩ := hc i r hr
      exact ⟨a', c', by rw [hv i (List.getElem?_eq_some_iff.1 hr).1, h1]; rfl, h2, h3, h4⟩
    · have hj : j < rs.length := by have := (List.getElem?_eq_some_iff.1 hu).1; simpa using this
      rw [hv j hj] at hu
      obtain ⟨a', c', h1, -⟩ := hc j _ (List.getElem?_eq_getElem hj)
      rw [h1] at hu
      rw [ha] at had
      injection had with had
      subst had
      rw [Addr.add_mid, h1]
      exact hu

theorem sum_bound {m : Nat} : ∀ l : List (List Nat), (∀ r ∈ l, r.length ≤ m) → sumLen l ≤ m * l.length
  | [], _ => by simp [sumLen]
  | r :: l, h => by
    have h7 := sum_bound l fun x hx => h x (by simp [hx])
    have h8 := h r (by simp)
    simp only [sumLen, List.map_cons, List.sum_cons, List.length_cons, Nat.mul_add] at h7 ⊢
    omega

/-- A journal in memory, in one value. -/
def XJ (w : World) (s10 : Value) (v : Value) (l : List Nat) : Prop := ∃ a c, v = .slice a l.length c ∧ l.length ≤ c ∧ c ≤ maxLen ∧ BY w (fun b => b < w.heap.size ∧ s10.ownBlock ≠ some b) a l
/-- The state of the loop of JournalTwo. -/
def CW (w4 : World) (rs : List (List Nat)) (vs : List Value) (k : Nat) (s7 s8 s9 s10 : Value) (wr : World) : Prop :=
  k ≤ rs.length ∧ k ≤ 30 ∧ (∀ r ∈ rs.take k, r.length ≤ 4000) ∧ XJ wr s10 s7 (JL (rs.take k)) ∧ XJ wr s10 s8 (JL (rs.take k)) ∧ s9 = .int .i64 (k : Int) ∧
  wr.ownsRow w4.heap.size 22 1 s10 k (vs.take k) ∧ Below w4.heap.size w4 wr
theorem CW.len {w4 wr : World} {rs : List (List Nat)} {vs : List Value} {k : Nat} {s7 s8 s9 s10 : Value} (h : CW w4 rs vs k s7 s8 s9 s10 wr) : (JL (rs.take k)).length ≤ 130000 := by
  obtain ⟨h1, h2, h3, -⟩ := h
  have h4 := JL_sum (rs.take k)
  have h5 : (rs.take k).length ≤ 30 := by rw [List.length_take]; omega
  have h7 := sum_bound _ h3
  omega
theorem CW.step {w4 wr w2 w3 w8 : World} {rs : List (List Nat)} {vs : List Value} {j : Nat} {s7 s8 s9 s10 : Value} {r : List Nat} {a3 a8 : Option Addr} {c3 c8 g cap N : Nat} {v : Value} {ob : Obj} (h : CW w4 rs vs j s7 s8 s9 s10 wr) (hr : rs[j]? = some r) (h30 : j < 30) (hr4 : r.length ≤ 4000) (hb : ∀ x ∈ rs, Bytes x) (hv : vs[j]? = some v)
    (hown : w2.ownsRow w4.heap.size 22 1 (.slice (some ⟨g, 0, none⟩) (j + 1) cap) (j + 1) (vs.take j ++ [v])) (hgr : (wr.alloc ob).grownBy w2 s10.ownBlock) (hN : (JL (rs.take (j + 1))).length = N)
    (hx : w3.ownsRow w2.heap.size 5 1 (.slice a3 N c3) N (VB (JL (rs.take (j + 1))))) (hb3 : Below w2.heap.size w2 w3) (hb8 : Below w3.heap.size w3 w8)
    (hy : w8.ownsRow w3.heap.size 5 1 (.slice a8 N c8) N (VB (JL (rs.take (j + 1))))) :
    CW w4 rs vs (j + 1) (.slice a3 N c3) (.slice a8 N c8) (.int .i64 ((j : Int) + 1)) (.slice (some ⟨g, 0, none⟩) (j + 1) cap) w8 := by
  obtain ⟨h1, h2, h3, -, -, -, h6, h7⟩ := h
  have hj : j < rs.length := (List.getElem?_eq_some_iff.1 hr).1
  have hbt : ∀ x ∈ rs.take (j + 1), Bytes x := fun x hx => hb x (List.mem_of_mem_take hx)
  obtain ⟨y1, -, y2, y3⟩ := BY.own hx (JL_bytes hbt)
  obtain ⟨z1, -, z2, z3⟩ := BY.own hy (JL_bytes hbt)
  have hs7 := h7.size
  have hs3 := hb3.size
  have hs8 := hb8.size
  have hlt6 := own_row h6
  have hgl := own_row hown g rfl
  have hs2 : wr.heap.size + 1 ≤ w2.heap.size := by have := hgr.size; simpa using this
  have hB2 : Below w4.heap.size w4 w2 := (h7.alloc hs7 _).grown hgr (by simp; omega) fun k hk => (hlt6 k hk).1
  refine ⟨hj, h30, ?_, ⟨a3, c3, by rw [hN], by rw [hN]; exact y2, y3, ?_⟩, ⟨a8, c8, by rw [hN], by rw [hN]; exact z2, z3, ?_⟩, by simp, ?_, below_on hb8 (below_on hb3 hB2)⟩
  · rw [take_snoc hr]
    intro x hx
    rcases List.mem_append.1 hx with hx | hx
    · exact h3 x hx
    · rw [List.mem_singleton.1 hx]; exact hr4
  · refine (y1.under hb8 (fun b hb => hb.2)).mono fun b hb => ⟨by omega, fun e => ?_⟩
    have e : g = b := by simpa [Value.ownBlock] using e
    subst e
    omega
  · refine z1.mono fun b hb => ⟨hb.2, fun e => ?_⟩
    have e : g = b := by simpa [Value.ownBlock] using e
    subst e
    omega
  · rw [List.take_add_one, hv]
    exact own_below (own_below hown hb3) hb8
end Go.Proofs.Ytknjloffkiidhaa
