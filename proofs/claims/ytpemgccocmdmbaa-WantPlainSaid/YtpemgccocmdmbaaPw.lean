/- Plain, of a fit pattern. -/
import Derived.Test.YtpemgccocmdmbaaPp
import Derived.Test.YtpemgccocmdmbaaApp
import Derived.Test.YtpemgccocmdmbaaMy
namespace Go.Proofs.Ytpemgccocmdmbaa
open Go.RowKit Go.Deep
attribute [local go_sem] Go.undef

theorem infoW : (Try.prog.info? 24).map (fun i => (i.zero, i.size, i.bytes)) = some (some (.agg #[.int .i64 0, .int .i64 0, .slice none 0 0]), 3, 40) := by kernel_rfl

/-- A pattern in memory of its own, whose list may be written. -/
def OwnW (w : World) (t : WT) (cs : List Value) (w' : World) : Prop :=
  IsW w' (Btw w.heap.size w'.heap.size) t cs ∧ (∃ o n a m c, cs = [.int .i64 o, .int .i64 n, .slice a m c] ∧ (0 < m → ∃ g T cur, a = some ⟨g, 0, none⟩ ∧ w.heap.size ≤ g ∧ Blk w' g T cur ∧ m * 3 ≤ cur.size)) ∧ Below w.heap.size w w'
def Plained (w : World) (t : WT) (e : Ending) (w' : World) : Prop := ∃ cs : List Value, e = .returned (.agg cs.toArray) ∧ OwnW w t cs w'

set_option maxRecDepth 100000 in
theorem kind_want (k : Int) (w : World) : Calls Try.prog 55 #[.int .i64 k] w fun e w' => e = .returned (.agg #[.int .i64 2, .int .i64 k, .slice none 0 0]) ∧ Below w.heap.size w w' := by
  go_enter Try.func55, Try.ntmps55
  go_wp2_with fail
  refine bodyPost_ret (v := .agg #[.int .i64 2, .int .i64 k, .slice none 0 0]) (by simp [results, Try.results55, go_sem]) rfl ⟨rfl, by go_grown⟩
set_option maxRecDepth 100000 in
theorem kind_ref (k : Int) (w : World) : Calls Try.prog 58 #[.int .i64 k] w fun e w' => e = .returned (.agg #[.int .i64 2, .int .i64 k, .slice none 0 0]) ∧ Below w.heap.size w w' := by
  go_enter Try.func58, Try.ntmps58
  go_wp2_with fail
  refine bodyPost_ret (v := .agg #[.int .i64 2, .int .i64 k, .slice none 0 0]) (by simp [results, Try.results58, go_sem]) rfl ⟨rfl, by go_grown⟩

theorem w3cells {W : World} {B : Nat} {T : TypeId} {u0 u1 u2 : Value} (h : Blk W B T #[u0, u1, u2]) : W.cell? ⟨B, 0, none⟩ = some u0 ∧ W.cell? ⟨B, 1, none⟩ = some u1 ∧ W.cell? ⟨B, 2, none⟩ = some u2 := ⟨h.cell 0, h.cell 1, h.cell 2⟩

/-! What the machine asks of the set -/
theorem bit_asked (s j : Nat) (hs : s < 16384) : (bits BinOp.and IntKind.u32 ((s : Int) / 2 ^ j) 1 == 1) = s.testBit j := by
  have h1 : ((s : Int) / 2 ^ j) = ((s / 2 ^ j : Nat) : Int) := by simp
  have h2 : s / 2 ^ j < 16384 := Nat.lt_of_le_of_lt (Nat.div_le_self _ _) hs
  rw [h1, show (1 : Int) = ((1 : Nat) : Int) from rfl, bits_and_nat h2 (by omega), Nat.and_one_is_mod]
  rw [Nat.testBit_eq_decide_div_mod_eq]
  rw [Bool.eq_iff_iff]
  simp
  omega
theorem both_val (s : Nat) (hs : s < 16384) : bits BinOp.and IntKind.u32 (s : Int) 6144 = ((s &&& 6144 : Nat) : Int) := bits_and_nat (b := 6144) hs (by omega)
theorem six_bit (i : Nat) : Nat.testBit 6144 i = (decide (i = 11) || decide (i = 12)) := by
  rw [show (6144 : Nat) = 2 ^ 11 ||| 2 ^ 12 by decide, Nat.testBit_or, Nat.testBit_two_pow, Nat.testBit_two_pow]
  simp [eq_comm]
theorem and_six (s : Nat) : s &&& 6144 = (if s.testBit 11 = true then 2048 else 0) + (if s.testBit 12 = true then 4096 else 0) := by
  apply Nat.eq_of_testBit_eq
  intro i
  rw [Nat.testBit_and, six_bit]
  by_cases h1 : i = 11
  · subst h1
    cases ha : s.testBit 11 <;> cases hb : s.testBit 12 <;> simp <;> decide
  · by_cases h2 : i = 12
    · subst h2
      cases ha : s.testBit 11 <;> cases hb : s.testBit 12 <;> simp <;> decide
    · simp only [h1, h2, decide_false, Bool.or_false, Bool.and_false]
      have e1 : Nat.testBit 2048 i = false := by rw [show (2048 : Nat) = 2 ^ 11 by decide, Nat.testBit_two_pow]; simp; omega
      have e2 : Nat.testBit 4096 i = false := by rw [show (4096 : Nat) = 2 ^ 12 by decide, Nat.testBit_two_pow]; simp; omega
      have e3 : Nat.testBit 6144 i = false := by rw [six_bit]; simp [h1, h2]
      cases ha : s.testBit 11 <;> cases hb : s.testBit 12 <;> simp [e1, e2, e3]
theorem both_asked (s : Nat) (hs : s < 16384) : (bits BinOp.and IntKind.u32 (s : Int) 6144 != 6144) = !(s.testBit 11 && s.testBit 12) := by
  rw [both_val s hs, and_six]
  cases ha : s.testBit 11 <;> cases hb : s.testBit 12 <;> simp
theorem over_asked (s : Nat) (hs : s < 16384) : (bits BinOp.and IntKind.u32 (s : Int) 6144 == 2048) = overB s := by
  unfold overB
  rw [both_val s hs, and_six]
  cases ha : s.testBit 11 <;> cases hb : s.testBit 12 <;> simp

def flatC (l : List Nat) : List Value := (l.map leafC).flatten
theorem flatC_snoc (l : List Nat) (k : Nat) : flatC l ++ leafC k = flatC (l ++ [k]) := by simp [flatC]

/-- The loop of Plain: the row so far. -/
def PLW (w : World) (s p : Nat) (lv iv : Value) (wr : World) : Prop :=
  ∃ j : Nat, iv = .int .i64 j ∧ j ≤ 14 ∧ wr.ownsRow (w.heap.size + (p + 1)) 24 3 lv (plainK s j).length (flatC (plainK s j)) ∧ Blk wr (w.heap.size + p) 24 #[.int .i64 0, .int .i64 0, .slice none 0 0] ∧ Below w.heap.size w wr

/-- The row that the loop has made, read as patterns. -/
theorem row_leaves {w : World} {B : Nat} {l : List Nat} {a : Option Addr} {c : Nat} (h : w.ownsRow B 24 3 (.slice a l.length c) l.length (flatC l)) : RowsOf (IsW w (Btw B w.heap.size)) 3 w (Btw B w.heap.size) (l.map leafW) a l.length c := by
  refine rows_of_own (css := l.map leafC) h (by simp) (by simp) (fun cs hcs => ?_) (fun j x hx => ?_) (fun g h1 h2 _ => ⟨h1, h2⟩)
  · obtain ⟨k, _, rfl⟩ := List.mem_map.1 hcs
    rfl
  · rw [List.getElem?_map] at hx
    obtain ⟨k, hk, rfl⟩ := Option.map_eq_some_iff.1 hx
    exact ⟨leafC k, by rw [List.getElem?_map, hk]; rfl, IsW.leaf _ _ 2 k⟩
end Go.Proofs.Ytpemgccocmdmbaa
