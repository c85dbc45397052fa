/- JournalTurned: the plain law; the state of its loop. -/
import Derived.Test.YtknjloffkiidhaaJ5
namespace Go.Proofs.Ytknjloffkiidhaa
open Go.RowKit Go.Deep

/-- A frame of whose length a byte is another does not stand whole. -/
theorem turned_frame {r t : List Nat} {i x y : Nat} (hi : i < 4) (hx : (frameL r ++ t)[i]? = some x) (hxy : y ≠ x) (hy : y < 256) (hr : r.length ≤ 65535) : wholeL ((frameL r ++ t).set i y) = false := by
  rw [Bool.eq_false_iff]
  intro hw
  obtain ⟨-, ⟨h2, h3⟩, -, -⟩ := (wholeL_iff _).1 hw
  have e : frameL r ++ t = (r.length % 256) :: (r.length / 256 % 256) :: (255 - r.length % 256) :: (255 - r.length / 256 % 256) :: (r ++ (le4 (sumL r) ++ t)) := by
    simp [frameL, pre4]
  rw [e] at h2 h3 hx
  have hi' : i = 0 ∨ i = 1 ∨ i = 2 ∨ i = 3 := by omega
  rcases hi' with rfl | rfl | rfl | rfl <;> simp at h2 h3 hx <;> omega
theorem turned_told {rs : List (List Nat)} {k p i x y : Nat} (hs : Small (rs.take k)) (hb : ∀ r ∈ rs.take k, Bytes r) (hk : k ≤ rs.length) (hp : p < k) (hi : i < 4) (hx : (JL (rs.take k))[(JL (rs.take p)).length + i]? = some x) (hxy : y ≠ x) (hy : y < 256) :
    Told ((JL (rs.take k)).set ((JL (rs.take p)).length + i) y) (rs.take p) (JL (rs.take p)).length := by
  have htt : (rs.take k).take p = rs.take p := by rw [List.take_take, Nat.min_eq_left (by omega)]
  have hs' : Small (rs.take p) := fun r hr => hs r (by rw [← htt] at hr; exact List.mem_of_mem_take hr)
  have hb' : ∀ r ∈ rs.take p, Bytes r := fun r hr => hb r (by rw [← htt] at hr; exact List.mem_of_mem_take hr)
  have e : rs.take k = rs.take p ++ (rs.take k).drop p := by rw [← htt, List.take_append_drop]
  have hlt : p < rs.length := by omega
  have hr : rs[p]? = some rs[p] := List.getElem?_eq_getElem hlt
  generalize rs[p] = r at hr
  have hd : (rs.take k).drop p = r :: ((rs.take k).drop (p + 1)) := by
    have h1 : (rs.take k)[p]? = some r := by rw [List.getElem?_take, if_pos (by omega), hr]
    have h2 := List.drop_eq_getElem_cons (l := rs.take k) (i := p) (by rw [List.length_take]; omega)
    rw [h2]
    have h3 := List.getElem?_eq_getElem (l := rs.take k) (i := p) (by rw [List.length_take]; omega)
    rw [h3] at h1
    injection h1 with h1
    rw [h1]
  have hr6 : r.length ≤ 65535 := hs r (by rw [e, hd]; simp)
  have e2 : JL (rs.take k) = JL (rs.take p) ++ (frameL r ++ frames ((rs.take k).drop (p + 1))) := by
    conv => lhs; rw [e, hd, JL_app, frames_cons]
  rw [e2] at hx ⊢
  rw [List.getElem?_append_right (by omega), Nat.add_sub_cancel_left] at hx
  rw [List.set_append_right _ _ (by omega), Nat.add_sub_cancel_left]
  exact told_JL hs' hb' (turned_frame hi hx hxy hy hr6)
/-- A bit is turned. -/
theorem bit_turned {x j : Nat} (hx : x < 256) (hj : j < 8) : x ^^^ 2 ^ j < 256 ∧ x ^^^ 2 ^ j ≠ x := by
  have h2 : 2 ^ j < 256 := Nat.pow_lt_pow_of_lt (by omega) (show j < 8 by omega)
  refine ⟨Nat.xor_lt_two_pow (n := 8) hx h2, fun h => ?_⟩
  have h3 : x ^^^ (x ^^^ 2 ^ j) = x ^^^ x := by rw [h]
  rw [← Nat.xor_assoc, Nat.xor_self, Nat.zero_xor] at h3
  have : 0 < 2 ^ j := Nat.pow_pos (by omega)
  omega
theorem bits8_xor {a b : Nat} (ha : a < 256) (hb : b < 256) : bits .xor .u8 (a : Int) (b : Int) = ((a ^^^ b : Nat) : Int) := by
  have h := Nat.xor_lt_two_pow (n := 8) ha hb
  have e : (BitVec.ofInt 8 (a : Int) ^^^ BitVec.ofInt 8 (b : Int)).toNat = a ^^^ b := by
    rw [BitVec.toNat_xor, BitVec.ofInt_natCast, BitVec.ofInt_natCast, BitVec.toNat_ofNat, BitVec.toNat_ofNat, Nat.mod_eq_of_lt (by omega), Nat.mod_eq_of_lt (by omega)]
  show IntKind.u8.wrap ((BitVec.ofInt 8 (a : Int) ^^^ BitVec.ofInt 8 (b : Int)).toNat : Int) = _
  rw [e, IntKind.wrap_u8']
  omega

theorem rem_num (x : Int) {m : Int} (hm : 0 < m) (hM : m ≤ 9223372036854775807) : ∃ p : Nat, wrap64 ((IntKind.u64.wrap x).tmod m) = (p : Int) ∧ (p : Int) < m := by
  have h0 : 0 ≤ IntKind.u64.wrap x := wrap_u64_nonneg x
  generalize IntKind.u64.wrap x = y at h0
  have h1 : 0 ≤ y.tmod m := Int.tmod_nonneg _ h0
  have h2 : y.tmod m < m := Int.tmod_lt_of_pos _ hm
  generalize y.tmod m = z at h1 h2
  rw [IntWalk.wrap64_in z (by omega)]
  exact ⟨z.toNat, by omega, by omega⟩

/-- The starts of the first k frames. -/
def startsV (rs : List (List Nat)) (k : Nat) : List Value := (List.range k).map fun i => Value.int .i64 (((JL (rs.take i)).length : Nat) : Int)
theorem startsV_succ (rs : List (List Nat)) (k : Nat) : startsV rs (k + 1) = startsV rs k ++ [.int .i64 (((JL (rs.take k)).length : Nat) : Int)] := by simp [startsV, List.range_succ]
theorem startsV_at {rs : List (List Nat)} {k i : Nat} (h : i < k) : (startsV rs k)[i]? = some (.int .i64 (((JL (rs.take i)).length : Nat) : Int)) := by simp [startsV, h]

/-- The state of the loop of JournalTurned. -/
def CT (W : World) (rs : List (List Nat)) (k : Nat) (s7 s8 : Value) (wr : World) : Prop :=
  k ≤ rs.length ∧ k ≤ 20 ∧ (∀ r ∈ rs.take k, r.length ≤ 2000) ∧ (∃ a7 c7, s7 = .slice a7 (JL (rs.take k)).length c7 ∧ (JL (rs.take k)).length ≤ c7 ∧ c7 ≤ maxLen ∧
    BY wr (fun b => W.heap.size ≤ b ∧ b < wr.heap.size ∧ s8.ownBlock ≠ some b) a7 (JL (rs.take k)) ∧ (0 < k → wr.ownsRow W.heap.size 5 1 (.slice a7 (JL (rs.take k)).length c7) (JL (rs.take k)).length (VB (JL (rs.take k))))) ∧
  wr.ownsRow W.heap.size 3 1 s8 k (startsV rs k) ∧ Below W.heap.size W wr
theorem CT.len {W wr : World} {rs : List (List Nat)} {k : Nat} {s7 s8 : Value} (h : CT W rs k s7 s8 wr) : (JL (rs.take k)).length ≤ 50000 ∧ 5 ≤ (JL (rs.take k)).length := by
  obtain ⟨h1, h2, h3, -⟩ := h
  have h4 := JL_sum (rs.take k)
  have h5 : (rs.take k).length ≤ 20 := by rw [List.length_take]; omega
  have h6 : ∀ l : List (List Nat), (∀ r ∈ l, r.length ≤ 2000) → sumLen l ≤ 2000 * l.length := by
    intro l
    induction l with
    | nil => intro _; simp [sumLen]
    | cons r l ih =>
      intro h
      have h7 := ih fun x hx => h x (by simp [hx])
      have h8 := h r (by simp)
      simp only [sumLen, List.map_cons, List.sum_cons, List.length_cons] at h7 ⊢
      omega
  have h7 := h6 _ h3
  omega
theorem CT.step {W wr w1 w2 : World} {rs : List (List Nat)} {j : Nat} {s7 s8 : Value} {r : List Nat} {a2 : Option Addr} {c2 g cap N : Nat} {ob : Obj} (h : CT W rs j s7 s8 wr) (hr : rs[j]? = some r) (h20 : j < 20) (hr6 : r.length ≤ 2000) (hb : ∀ x ∈ rs, Bytes x)
    (hown : w1.ownsRow W.heap.size 3 1 (.slice (some ⟨g, 0, none⟩) (j + 1) cap) (j + 1) (startsV rs j ++ [.int .i64 (((JL (rs.take j)).length : Nat) : Int)])) (hgr : (wr.alloc ob).grownBy w1 s8.ownBlock)
    (hN : (JL (rs.take (j + 1))).length = N) (ho : w2.ownsRow w1.heap.size 5 1 (.slice a2 N c2) N (VB (JL (rs.take (j + 1))))) (hb1 : Below w1.heap.size w1 w2) :
    CT W rs (j + 1) (.slice a2 N c2) (.slice (some ⟨g, 0, none⟩) (j + 1) cap) w2 := by
  obtain ⟨h1, h2, h3, -, h6, h7⟩ := h
  have hj : j < rs.length := (List.getElem?_eq_some_iff.1 hr).1
  have hbt : ∀ x ∈ rs.take (j + 1), Bytes x := fun x hx => hb x (List.mem_of_mem_take hx)
  obtain ⟨y1, -, y2, y3⟩ := BY.own ho (JL_bytes hbt)
  have hs7 := h7.size
  have hs2 : wr.heap.size + 1 ≤ w1.heap.size := by have := hgr.size; simpa using this
  have hlt6 := own_row h6
  have hB1 : Below W.heap.size W w1 := (h7.alloc hs7 _).grown hgr (by simp; omega) fun k hk => (hlt6 k hk).1
  refine ⟨hj, h20, ?_, ⟨a2, c2, by rw [hN], by rw [hN]; exact y2, y3, ?_, fun _ => by rw [hN]; exact own_mono ho (by omega)⟩, ?_, below_on hb1 hB1⟩
  · rw [take_snoc hr]
    intro x hx
    rcases List.mem_append.1 hx with hx | hx
    · exact h3 x hx
    · rw [List.mem_singleton.1 hx]; exact hr6
  · refine y1.mono fun b hb => ⟨by omega, hb.2, fun e => ?_⟩
    have e : g = b := by simpa [Value.ownBlock] using e
    subst e
    have := own_row hown g rfl
    omega
  · have := own_below hown hb1
    rw [startsV_succ]; exact this
end Go.Proofs.Ytknjloffkiidhaa
