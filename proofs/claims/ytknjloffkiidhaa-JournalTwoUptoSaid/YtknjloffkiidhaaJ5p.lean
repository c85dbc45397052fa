/- JournalCuts: the plain law; the state of its loop. -/
import Derived.Test.YtknjloffkiidhaaJ4
import Derived.Laws.Shifts
namespace Go.Proofs.Ytknjloffkiidhaa
open Go.RowKit Go.Deep

def sumLen (rs : List (List Nat)) : Nat := (rs.map List.length).sum
theorem sumLen_snoc (rs : List (List Nat)) (r : List Nat) : sumLen (rs ++ [r]) = sumLen rs + r.length := by simp [sumLen]
theorem frames_len : ∀ rs : List (List Nat), (frames rs).length = sumLen rs + 8 * rs.length
  | [] => by simp [frames, sumLen]
  | r :: rs => by
    have := frames_len rs
    rw [frames_cons, List.length_append, frameL_len, this, sumLen, sumLen, List.map_cons, List.sum_cons, List.length_cons]
    omega
theorem JL_sum (rs : List (List Nat)) : (JL rs).length = 5 + sumLen rs + 8 * rs.length := by rw [JL_len, frames_len]; omega
theorem take_snoc {rs : List (List Nat)} {j : Nat} {r : List Nat} (h : rs[j]? = some r) : rs.take (j + 1) = rs.take j ++ [r] := by rw [List.take_add_one, h]; rfl
theorem JL_app (rs ss : List (List Nat)) : JL (rs ++ ss) = JL rs ++ frames ss := by rw [JL, JL, frames_app, List.append_assoc]

/-- Cut off anywhere: those whose frames lie in what is left. -/
theorem cut_told {rs : List (List Nat)} {k q at' : Nat} (hs : Small (rs.take k)) (hb : ∀ r ∈ rs.take k, Bytes r) (hk : k ≤ rs.length) (hq : q ≤ k) (hlo : (JL (rs.take q)).length ≤ at') (hhi : at' ≤ (JL (rs.take k)).length)
    (hn : q = k ∨ at' < (JL (rs.take (q + 1))).length) : Told ((JL (rs.take k)).take at') (rs.take q) (JL (rs.take q)).length := by
  have htt : (rs.take k).take q = rs.take q := by rw [List.take_take, Nat.min_eq_left hq]
  have hs' : Small (rs.take q) := fun r hr => hs r (by rw [← htt] at hr; exact List.mem_of_mem_take hr)
  have hb' : ∀ r ∈ rs.take q, Bytes r := fun r hr => hb r (by rw [← htt] at hr; exact List.mem_of_mem_take hr)
  have e : rs.take k = rs.take q ++ (rs.take k).drop q := by rw [← htt, List.take_append_drop]
  by_cases h : q = k
  · subst h
    have : at' = (JL (rs.take q)).length := by omega
    subst this
    rw [List.take_length]
    exact told_JL' hs hb
  · have hat := hn.resolve_left h
    have hlt : q < rs.length := by omega
    have hr : rs[q]? = some rs[q] := List.getElem?_eq_getElem hlt
    generalize rs[q] = r at hr
    have hd : (rs.take k).drop q = r :: ((rs.take k).drop (q + 1)) := by
      have h1 : (rs.take k)[q]? = some r := by rw [List.getElem?_take, if_pos (by omega), hr]
      have h2 := List.drop_eq_getElem_cons (l := rs.take k) (i := q) (by rw [List.length_take]; omega)
      rw [h2]
      have h3 := List.getElem?_eq_getElem (l := rs.take k) (i := q) (by rw [List.length_take]; omega)
      rw [h3] at h1
      injection h1 with h1
      rw [h1]
    rw [take_snoc hr, JL_snoc_len] at hat
    have hr6 : r.length ≤ 65535 := hs r (by rw [e, hd]; simp)
    have e2 : (JL (rs.take k)).take at' = JL (rs.take q) ++ (frameL r ++ frames ((rs.take k).drop (q + 1))).take (at' - (JL (rs.take q)).length) := by
      conv => lhs; rw [e, hd, JL_app, frames_cons]
      rw [List.take_append, List.take_of_length_le hlo]
    rw [e2]
    exact told_JL hs' hb' (cut_frame hr6 (by omega))

/-- The ends of the first k frames. -/
def endsV (rs : List (List Nat)) (k : Nat) : List Value := (List.range k).map fun i => Value.int .i64 (((JL (rs.take (i + 1))).length : Nat) : Int)
theorem endsV_succ (rs : List (List Nat)) (k : Nat) : endsV rs (k + 1) = endsV rs k ++ [.int .i64 (((JL (rs.take (k + 1))).length : Nat) : Int)] := by simp [endsV, List.range_succ]
theorem endsV_at {rs : List (List Nat)} {k i : Nat} (h : i < k) : (endsV rs k)[i]? = some (.int .i64 (((JL (rs.take (i + 1))).length : Nat) : Int)) := by simp [endsV, h]
theorem info3 : (Try.prog.info? 3).map (fun i => (i.zero, i.size, i.bytes)) = some (some (.int .i64 0), 1, 8) := by kernel_rfl

/-- The place of the cut. -/
theorem at_num (cut : Int) {N : Nat} (h : 5 ≤ N) (hN : N ≤ 9223372036854775807) : ∃ p : Nat, wrap64 (5 + wrap64 ((IntKind.u64.wrap cut).tmod ((N : Int) - 4))) = (p : Int) ∧ 5 ≤ p ∧ p ≤ N := by
  have h0 : 0 ≤ IntKind.u64.wrap cut := wrap_u64_nonneg cut
  generalize IntKind.u64.wrap cut = x at h0
  have h1 : 0 ≤ x.tmod ((N : Int) - 4) := Int.tmod_nonneg _ h0
  have h2 : x.tmod ((N : Int) - 4) < (N : Int) - 4 := Int.tmod_lt_of_pos _ (by omega)
  generalize x.tmod ((N : Int) - 4) = y at h1 h2
  rw [IntWalk.wrap64_in y (by omega), IntWalk.wrap64_in (5 + y) (by omega)]
  exact ⟨(5 + y).toNat, by omega, by omega, by omega⟩

/-- The state of the loop of JournalCuts. -/
def CS (W : World) (rs : List (List Nat)) (k : Nat) (s5 s6 : Value) (wr : World) : Prop :=
  k ≤ rs.length ∧ k ≤ 30 ∧ Small (rs.take k) ∧ sumLen (rs.take k) ≤ 1048576 ∧ (∃ a5 c5, s5 = .slice a5 (JL (rs.take k)).length c5 ∧ (JL (rs.take k)).length ≤ c5 ∧ c5 ≤ maxLen ∧
    BY wr (fun b => W.heap.size ≤ b ∧ b < wr.heap.size ∧ s6.ownBlock ≠ some b) a5 (JL (rs.take k))) ∧ wr.ownsRow W.heap.size 3 1 s6 k (endsV rs k) ∧ Below W.heap.size W wr
theorem CS.step {W wr w1 w2 : World} {rs : List (List Nat)} {j : Nat} {s5 s6 : Value} {r : List Nat} {a1 : Option Addr} {c1 g cap N : Nat} {ob : Obj} (h : CS W rs j s5 s6 wr) (hr : rs[j]? = some r) (h30 : j < 30) (hr6 : r.length ≤ 65535) (hsum : sumLen (rs.take j) + r.length ≤ 1048576) (hb : ∀ x ∈ rs, Bytes x)
    (hN : (JL (rs.take (j + 1))).length = N) (ho : w1.ownsRow wr.heap.size 5 1 (.slice a1 N c1) N (VB (JL (rs.take (j + 1))))) (hb1 : Below wr.heap.size wr w1)
    (hown : w2.ownsRow W.heap.size 3 1 (.slice (some ⟨g, 0, none⟩) (j + 1) cap) (j + 1) (endsV rs j ++ [.int .i64 ((N : Nat) : Int)])) (hgr : (w1.alloc ob).grownBy w2 s6.ownBlock) (hat : s6.ownBlock = some g ∨ g = w1.heap.size + 1) :
    CS W rs (j + 1) (.slice a1 N c1) (.slice (some ⟨g, 0, none⟩) (j + 1) cap) w2 := by
  obtain ⟨h1, h2, h3, h4, -, h6, h7⟩ := h
  have hj : j < rs.length := (List.getElem?_eq_some_iff.1 hr).1
  have hbt : ∀ x ∈ rs.take (j + 1), Bytes x := fun x hx => hb x (List.mem_of_mem_take hx)
  obtain ⟨y1, -, y2, y3⟩ := BY.own ho (JL_bytes hbt)
  have hs1 := hb1.size
  have hs7 := h7.size
  have hs2 : w1.heap.size + 1 ≤ w2.heap.size := by have := hgr.size; simpa using this
  have hlt6 := own_row h6
  have hB1 := below_on hb1 h7
  refine ⟨hj, h30, ?_, ?_, ⟨a1, c1, by rw [hN], by rw [hN]; exact y2, y3, ?_⟩, ?_, (hB1.alloc hB1.size _).grown hgr (by simp; omega) fun k hk => (hlt6 k hk).1⟩
  · rw [take_snoc hr]
    intro x hx
    rcases List.mem_append.1 hx with hx | hx
    · exact h3 x hx
    · rw [List.mem_singleton.1 hx]; exact hr6
  · rw [take_snoc hr, sumLen_snoc]; exact hsum
  · refine y1.keep (fun b hb => ⟨by omega, by omega, fun e => ?_⟩) fun b hb i => World.cell?_of_block (a := ⟨b, i, none⟩) ?_
    · have e : g = b := by simpa [Value.ownBlock] using e
      subst e
      rcases hat with h | h
      · have := hlt6 _ h; omega
      · omega
    · rw [hgr.block b (by simp; omega) (fun e => by have := hlt6 b e.symm; omega)]
      exact Below.heap_alloc w1 ob b hb.2
  · rw [endsV_succ, hN]; exact hown
end Go.Proofs.Ytknjloffkiidhaa
