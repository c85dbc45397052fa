/- Levels: as values; what they give and show. -/
import Derived.Test.YtlnlefebcfnocaaSw
namespace Go.Proofs.Ytlnlefebcfnocaa
open Go.RowKit Go.Deep
attribute [local go_sem] Go.undef

structure WX where
  op : Int
  a : Int
  b : Int
  caps : Nat
  want : WT
  opn : Bool
def WX.cells (x : WX) (v : Value) : List Value := [.int .i64 x.op, .int .i64 x.a, .int .i64 x.b, .int .u32 (x.caps : Int), .int .i64 x.want.op, .int .i64 x.want.num, v, .bool x.opn]

/-! Bits -/
def clr (a m : Nat) : Nat := a ^^^ (a &&& m)
theorem bits32_or {a b : Nat} (ha : a < 4294967296) (hb : b < 4294967296) : bits .or .u32 (a : Int) (b : Int) = ((a ||| b : Nat) : Int) := by
  have h := Nat.or_lt_two_pow (n := 32) ha hb
  have e : (BitVec.ofInt 32 (a : Int) ||| BitVec.ofInt 32 (b : Int)).toNat = a ||| b := by
    rw [BitVec.toNat_or, BitVec.ofInt_natCast, BitVec.ofInt_natCast, BitVec.toNat_ofNat, BitVec.toNat_ofNat, Nat.mod_eq_of_lt (by omega), Nat.mod_eq_of_lt (by omega)]
  show IntKind.u32.wrap ((BitVec.ofInt 32 (a : Int) ||| BitVec.ofInt 32 (b : Int)).toNat : Int) = _
  rw [e, IntKind.wrap_u32']
  omega
theorem and_lt {a b n : Nat} (ha : a < n) : a &&& b < n := Nat.lt_of_le_of_lt Nat.and_le_left ha
theorem bits32_and {a b : Nat} (ha : a < 4294967296) (hb : b < 4294967296) : bits .and .u32 (a : Int) (b : Int) = ((a &&& b : Nat) : Int) := by
  have h := and_lt (b := b) ha
  have e : (BitVec.ofInt 32 (a : Int) &&& BitVec.ofInt 32 (b : Int)).toNat = a &&& b := by
    rw [BitVec.toNat_and, BitVec.ofInt_natCast, BitVec.ofInt_natCast, BitVec.toNat_ofNat, BitVec.toNat_ofNat, Nat.mod_eq_of_lt (by omega), Nat.mod_eq_of_lt (by omega)]
  show IntKind.u32.wrap ((BitVec.ofInt 32 (a : Int) &&& BitVec.ofInt 32 (b : Int)).toNat : Int) = _
  rw [e, IntKind.wrap_u32']
  omega
theorem clr_lt {a m : Nat} (ha : a < 4294967296) : clr a m < 4294967296 := Nat.xor_lt_two_pow (n := 32) ha (and_lt ha)
theorem bits32_clr {a b : Nat} (ha : a < 4294967296) (_hb : b < 4294967296) : bits .andNot .u32 (a : Int) (b : Int) = ((clr a b : Nat) : Int) := by
  have h := clr_lt (m := b) ha
  have e : (BitVec.ofInt 32 (a : Int) &&& ~~~ BitVec.ofInt 32 (b : Int)).toNat = clr a b := by
    apply Nat.eq_of_testBit_eq
    intro i
    have e1 : (BitVec.ofInt 32 (a : Int) &&& ~~~ BitVec.ofInt 32 (b : Int)).toNat.testBit i = (BitVec.ofInt 32 (a : Int) &&& ~~~ BitVec.ofInt 32 (b : Int)).getLsbD i := rfl
    rw [e1, BitVec.getLsbD_and, BitVec.getLsbD_not, BitVec.ofInt_natCast, BitVec.ofInt_natCast, BitVec.getLsbD_ofNat, BitVec.getLsbD_ofNat, clr, Nat.testBit_xor, Nat.testBit_and]
    by_cases hi : i < 32
    · simp [hi]
      cases a.testBit i <;> cases b.testBit i <;> rfl
    · have h2 : a.testBit i = false := Nat.testBit_lt_two_pow (Nat.lt_of_lt_of_le ha (Nat.pow_le_pow_right (n := 2) (by omega) (show 32 ≤ i by omega)))
      simp [hi, h2]
  show IntKind.u32.wrap ((BitVec.ofInt 32 (a : Int) &&& ~~~ BitVec.ofInt 32 (b : Int)).toNat : Int) = _
  rw [e, IntKind.wrap_u32']
  omega

/-! What a wrapper gives and keeps -/
def givenN (x : WX) : Nat := if x.op = 4 then x.caps else if x.op = 7 then 16 else if x.op = 8 then 32 else if x.op = 9 then 5 else if x.op = 12 then 512 else 0
def keptN (x : WX) (b : Nat) : Nat := if x.op = 1 ∨ x.op = 4 ∨ x.op = 9 ∨ x.op = 12 then clr b 1024 else if x.op = 2 then clr b 1024 &&& x.caps else if x.op = 3 then 0 else clr (clr b 1024) 4
def opnN (x : WX) : Nat := if x.opn = true then 1024 else 0
/-- What levels show, the outermost one first. -/
def showsN (c : Nat) : List WX → Nat
  | [] => c
  | x :: r => (givenN x ||| keptN x (showsN c r)) ||| opnN x
def givesN (c : Nat) : List WX → Nat
  | [] => c
  | x :: _ => givenN x ||| opnN x
def Cap (x : WX) : Prop := x.caps < 4294967296
theorem givenN_lt {x : WX} (h : Cap x) : givenN x < 4294967296 := by unfold givenN; unfold Cap at h; (repeat' split) <;> omega
theorem keptN_lt {x : WX} (b : Nat) (hb : b < 4294967296) : keptN x b < 4294967296 := by
  unfold keptN
  repeat' split
  · exact clr_lt hb
  · exact and_lt (clr_lt hb)
  · omega
  · exact clr_lt (clr_lt hb)
theorem opnN_lt (x : WX) : opnN x < 4294967296 := by unfold opnN; (split) <;> omega
theorem or_lt {a b : Nat} (ha : a < 4294967296) (hb : b < 4294967296) : a ||| b < 4294967296 := Nat.or_lt_two_pow (n := 32) ha hb
theorem showsN_lt {c : Nat} (hc : c < 4294967296) : ∀ {r : List WX}, (∀ x ∈ r, Cap x) → showsN c r < 4294967296
  | [], _ => hc
  | x :: _, h => or_lt (or_lt (givenN_lt (h x (by simp))) (keptN_lt _ (showsN_lt hc fun y hy => h y (by simp [hy])))) (opnN_lt x)

/-- Levels as values, the outermost one first. -/
def lvV (c : Nat) : List (WX × Value) → Value
  | [] => .iface 80 (.agg #[.int .u32 (c : Int)])
  | p :: r => .iface (if p.1.opn = true then 84 else 82) (.agg (lvV c r :: p.1.cells p.2).toArray)

set_option maxRecDepth 100000 in
set_option maxHeartbeats 4000000 in
theorem given_any (w : World) (x : WX) (v : Value) : Calls Try.prog 79 #[.agg (x.cells v).toArray] w fun e w' => e = .returned (.int .u32 (givenN x : Int)) ∧ Below w.heap.size w w' := by
  obtain ⟨op, a, b, caps, want, opn⟩ := x
  have hg : Hid (givenN ⟨op, a, b, caps, want, opn⟩ = if op = 4 then caps else if op = 7 then 16 else if op = 8 then 32 else if op = 9 then 5 else if op = 12 then 512 else 0) := Lib.hid rfl
  generalize givenN ⟨op, a, b, caps, want, opn⟩ = G at hg ⊢
  simp only [WX.cells]
  go_enter Try.func79, Try.ntmps79
  go_wp2_with fail
  all_goals
    go_ret
    refine ⟨?_, by go_grown⟩
    have h := hg.out
    simp_all

set_option maxRecDepth 100000 in
set_option maxHeartbeats 4000000 in
theorem kept_any (w : World) (x : WX) (v : Value) (b : Nat) (hb : b < 4294967296) (hx : Cap x) : Calls Try.prog 80 #[.agg (x.cells v).toArray, .int .u32 (b : Int)] w fun e w' => e = .returned (.int .u32 (keptN x b : Int)) ∧ Below w.heap.size w w' := by
  obtain ⟨op, a, b', caps, want, opn⟩ := x
  have hg : Hid (keptN ⟨op, a, b', caps, want, opn⟩ b = if op = 1 ∨ op = 4 ∨ op = 9 ∨ op = 12 then clr b 1024 else if op = 2 then clr b 1024 &&& caps else if op = 3 then 0 else clr (clr b 1024) 4) := Lib.hid rfl
  generalize keptN ⟨op, a, b', caps, want, opn⟩ b = G at hg ⊢
  have e1 := bits32_clr hb (b := 1024) (by omega)
  have hl := clr_lt (m := 1024) hb
  have e2 := bits32_clr hl (b := 4) (by omega)
  have e3 := bits32_and hl hx
  generalize clr b 1024 = b1 at *
  generalize clr b1 4 = b2 at *
  simp only [] at e3 hg
  generalize b1 &&& caps = b3 at *
  simp only [WX.cells]
  go_enter Try.func80, Try.ntmps80
  go_wp2_with fail
  all_goals
    go_ret
    refine ⟨?_, by go_grown⟩
    have h := hg.out
    simp_all
end Go.Proofs.Ytlnlefebcfnocaa
