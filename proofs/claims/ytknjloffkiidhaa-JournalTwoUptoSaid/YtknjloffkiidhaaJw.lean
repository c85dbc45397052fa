/- What is told of journals; law 27's awake. -/
import Derived.Test.YtknjloffkiidhaaJt
namespace Go.Proofs.Ytknjloffkiidhaa
open Go.RowKit Go.Deep
attribute [local go_sem] Go.undef

/-- A journal of records. -/
def JL (rs : List (List Nat)) : List Nat := headL ++ frames rs
theorem JL_nil : JL [] = headL := by simp [JL, frames]
theorem JL_len (rs : List (List Nat)) : (JL rs).length = 5 + (frames rs).length := by rw [JL, List.length_append]; rfl
theorem JL_snoc (rs : List (List Nat)) (r : List Nat) : JL (rs ++ [r]) = JL rs ++ frameL r := by simp [JL, frames]
theorem JL_snoc_len (rs : List (List Nat)) (r : List Nat) : (JL (rs ++ [r])).length = (JL rs).length + r.length + 8 := by rw [JL_snoc, List.length_append, frameL_len, Nat.add_assoc]
theorem frames_bytes : ∀ {rs : List (List Nat)}, (∀ r ∈ rs, Bytes r) → Bytes (frames rs)
  | [], _ => by intro x hx; simp [frames] at hx
  | r :: rs, h => by
    rw [frames_cons]
    exact (frameL_bytes (h r (by simp))).app (frames_bytes fun x hx => h x (by simp [hx]))
theorem JL_bytes {rs : List (List Nat)} (h : ∀ r ∈ rs, Bytes r) : Bytes (JL rs) := headL_bytes.app (frames_bytes h)
theorem whole_nil : wholeL [] = false := by decide
theorem told_JL {rs : List (List Nat)} (h : Small rs) (hb : ∀ r ∈ rs, Bytes r) {t : List Nat} (ht : wholeL t = false) : Told (JL rs ++ t) rs (JL rs).length := by
  have e5 : (JL rs ++ t).drop 5 = frames rs ++ t := by rw [JL, List.append_assoc]; rfl
  have e : (JL rs ++ t).drop (JL rs).length = t := List.drop_left
  refine ⟨by rw [JL, List.append_assoc]; rfl, by rw [e5, e], JL_len rs, h, hb, by rw [e]; exact ht⟩
theorem told_JL' {rs : List (List Nat)} (h : Small rs) (hb : ∀ r ∈ rs, Bytes r) : Told (JL rs) rs (JL rs).length := by
  have := told_JL h hb whole_nil
  rwa [List.append_nil] at this
theorem Told.take {l : List Nat} {rs : List (List Nat)} {at' : Nat} (h : Told l rs at') : l.take at' = JL rs ∧ at' = (JL rs).length := by
  obtain ⟨h1, h2, h3, -⟩ := h
  have hl : at' = (JL rs).length := by rw [JL_len, h3]
  refine ⟨?_, hl⟩
  have e : l = JL rs ++ l.drop at' := by
    conv => lhs; rw [← List.take_append_drop 5 l, h1, h2]
    rw [JL, List.append_assoc]
  rw [e]
  exact hl ▸ List.take_left
/-- What Append leaves, where it can. -/
theorem AppQ.good {w : World} {l r : List Nat} {rs : List (List Nat)} {at' : Nat} {e : Ending} {w' : World} (h : AppQ w l r e w') (ht : Told l rs at') (hr : r.length ≤ 65535) :
    ∃ a' c', e = .returned (.tuple #[.slice a' (JL (rs ++ [r])).length c', .int .i64 0]) ∧ w'.ownsRow w.heap.size 5 1 (.slice a' (JL (rs ++ [r])).length c') (JL (rs ++ [r])).length (VB (JL (rs ++ [r]))) ∧ Below w.heap.size w w' := by
  rcases h with ⟨h1, -⟩ | ⟨-, h1, -⟩ | ⟨-, rs', at2, a', c', h1, h2, h3, h4⟩
  · exact absurd ht.1 h1
  · omega
  · obtain ⟨rfl, rfl⟩ := h1.one ht
    obtain ⟨q1, q2⟩ := h1.take
    have e1 : (JL (rs' ++ [r])).length = at2 + r.length + 8 := by rw [JL_snoc_len, q2]
    rw [q1, ← JL_snoc] at h3
    rw [e1]
    exact ⟨a', c', h2, h3, h4⟩
/-- What Open leaves, where it can. -/
theorem OpenQ.good {w : World} {l : List Nat} {rs : List (List Nat)} {at' : Nat} {e : Ending} {w' : World} (h : OpenQ w l e w') (ht : Told l rs at') :
    ∃ a c, e = .returned (.tuple #[.slice a rs.length c, .int .i64 (at' : Int), .int .i64 0]) ∧ rs.length ≤ c ∧ c ≤ maxLen ∧ RB w' (fun b => w.heap.size ≤ b ∧ b < w'.heap.size) a rs ∧ Below w.heap.size w w' := by
  rcases h with ⟨h1, -⟩ | ⟨rs', at2, v, h1, h2, h3, h4⟩
  · exact absurd ht.1 h1
  · obtain ⟨rfl, rfl⟩ := h1.one ht
    obtain ⟨a, c, rfl, q1, q2, q3⟩ := h2.rb
    exact ⟨a, c, h3, q1, q2, q3, h4⟩

theorem sum_digits : sumL [49, 50, 51, 52, 53, 54, 55, 56, 57] = 3421780262 := by decide +kernel

/-- A literal's bytes. -/
theorem lit_here (W : World) {l : List Nat} (hl : Bytes l) (fr : Nat × Nat) : BY (W.alloc (.cells (VB l).toArray 5 fr)) (fun b => W.heap.size ≤ b ∧ b < W.heap.size + 1) (some ⟨W.heap.size, 0, none⟩) l :=
  ⟨hl, fun _ => ⟨W.heap.size, 0, rfl, ⟨Nat.le_refl _, by omega⟩, fun i x hx => by
    rw [Nat.zero_add, cell_of_row _ W.heap.size i _ _ _ (heap_alloc_new W _), List.getElem?_toArray, VB, List.getElem?_map, hx]; rfl⟩⟩
theorem SB_a : SB [97] = ⟨#[97]⟩ := by decide +kernel

set_option maxRecDepth 100000 in
set_option maxHeartbeats 4000000 in
theorem awake_any (w : World) : Calls Try.prog 15 #[] w fun e w' => e = .returned (.bool true) ∧ Below w.heap.size w w' := by
  have h1 : Bytes [97] := by intro x hx; simp only [List.mem_cons, List.not_mem_nil, or_false] at hx; omega
  have h9 : Bytes [49, 50, 51, 52, 53, 54, 55, 56, 57] := by intro x hx; simp only [List.mem_cons, List.not_mem_nil, or_false] at hx; omega
  have ht0 : Told headL [] 5 := by
    have := told_JL' (rs := []) (fun r h => absurd h (by simp)) (fun r h => absurd h (by simp))
    rwa [JL_nil] at this
  have ht1 : Told (JL [[97]]) [[97]] (JL [[97]]).length := told_JL' (fun r h => by rw [List.mem_singleton.1 h]; decide) (fun r h => by rw [List.mem_singleton.1 h]; exact h1)
  have hjb : Bytes (JL [[97]]) := JL_bytes fun r h => by rw [List.mem_singleton.1 h]; exact h1
  have hl14 : (JL [[97]]).length = 14 := by rw [JL_len]; simp [frames, frameL_len]
  have kc := fun (w : World) (C : Array Value) (n c : Nat) => Lib.run_convert_bytes_const (P := Try.prog) w 22 5 C n c Try.underlying22 Try.underlying5
  go_enter Try.func15, Try.ntmps15
  go_wp2_with fail
  refine (new_any _).mono ?_
  rintro e w1 ⟨rfl, rfl⟩
  have hhd := NewQ.by (w := w)
  have hB1 : Below w.heap.size w (w.alloc (.cells #[.int .u8 67, .int .u8 78, .int .u8 68, .int .u8 74, .int .u8 1] 5 (5, 6))) := by go_grown
  have hsz : Hid ((w.alloc (.cells #[.int .u8 67, .int .u8 78, .int .u8 68, .int .u8 74, .int .u8 1] 5 (5, 6))).heap.size = w.heap.size + 1) := Lib.hid (by simp)
  generalize w.alloc (.cells #[.int .u8 67, .int .u8 78, .int .u8 68, .int .u8 74, .int .u8 1] 5 (5, 6)) = W at hhd hB1 hsz ⊢
  go_wp2_with fail
  have hap := append_any (W.alloc (.cells #[.int .u8 97] 5 (1, 2))) _ _ _ _ headL [97] 5 5 1 1 rfl (by decide) (by decide) (by decide) (hhd.under ((Below.refl _ _).alloc (Nat.le_refl W.heap.size) _) (fun b hb => by have := hsz.out; omega)) (fun b hb => by have := hsz.out; simp; omega) rfl (by decide) (lit_here W h1 (1, 2)) (fun b hb => by simp; omega)
  refine hap.mono ?_
  intro e w2 hq
  obtain ⟨a2, c2, rfl, hown2, hb2⟩ := hq.good ht0 (by decide)
  rw [List.nil_append] at hown2 ⊢
  have hb2' : Below w.heap.size w w2 := below_on hb2 (hB1.alloc hB1.size _)
  obtain ⟨y1, y2, y3, y4⟩ := BY.own hown2 hjb
  have hop := open_any w2 _ a2 (JL [[97]]) 14 c2 hl14 (by omega) (by unfold maxLen at y4; omega) (by decide) y1 (fun b hb => hb.2)
  rw [hl14] at ht1 ⊢
  have HOP := Lib.hid hop
  have HB2 := Lib.hid hb2'
  clear hop y1 y2 y3 y4 hown2 hap hb2 hb2' hsz hhd hB1
  go_wp2_with fail
  refine HOP.out.mono ?_
  intro e w3 hq
  obtain ⟨a3, c3, rfl, -, -, hrb, hb3⟩ := hq.good ht1
  obtain ⟨g, o, r, a', c', rfl, -, hr, hc, -, -, hby⟩ := hrb.at (i := 0) (by decide)
  obtain rfl : [97] = r := by simpa using hr
  have hcv := hby.conv (n := 1) rfl c'
  rw [SB_a] at hcv
  rw [Nat.add_zero, show [97].length = 1 from rfl] at hc
  have hb3' := below_on hb3 HB2.out
  have HB3 := Lib.hid hb3'
  clear hb3 hrb hq hr hb3' hby
  go_wp2_with fail
  have hsm := sum_any (w3.alloc (.cells #[.int .u8 49, .int .u8 50, .int .u8 51, .int .u8 52, .int .u8 53, .int .u8 54, .int .u8 55, .int .u8 56, .int .u8 57] 5 (9, 10))) _ _ _ 9 9 rfl (by decide) (lit_here w3 h9 (9, 10))
  rw [sum_digits] at hsm
  refine hsm.mono ?_
  rintro e w4 ⟨rfl, rfl⟩
  have hb4 : Below w.heap.size w (w3.alloc (.cells #[.int .u8 49, .int .u8 50, .int .u8 51, .int .u8 52, .int .u8 53, .int .u8 54, .int .u8 55, .int .u8 56, .int .u8 57] 5 (9, 10))) := HB3.out.alloc HB3.out.size _
  clear hsm
  go_wp2_with fail
  go_ret
  exact ⟨rfl, hb4⟩
end Go.Proofs.Ytknjloffkiidhaa
