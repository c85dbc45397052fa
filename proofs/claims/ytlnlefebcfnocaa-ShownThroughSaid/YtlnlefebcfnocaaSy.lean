/- Lost and Gives of the program. -/
import Derived.Test.YtlnlefebcfnocaaSx
namespace Go.Proofs.Ytlnlefebcfnocaa
open Go.RowKit Go.Deep
attribute [local go_sem] Go.undef

/-- What is lost of the first j capabilities. -/
def lostN (c : Nat) (ws : List (WX × Value)) : Nat → Nat
  | 0 => 0
  | j + 1 => if hasN c (j : Int) = true ∧ reachW c ws (j : Int) ≠ 0 then lostN c ws j ||| 2 ^ j else lostN c ws j
theorem pow_lt32 {j : Nat} (h : j ≤ 11) : 2 ^ j < 4294967296 := Nat.lt_of_le_of_lt (Nat.pow_le_pow_right (by omega) h) (by decide)
theorem lostN_lt (c : Nat) (ws : List (WX × Value)) : ∀ {j : Nat}, j ≤ 11 → lostN c ws j < 4294967296
  | 0, _ => by rw [lostN]; omega
  | j + 1, h => by
    rw [lostN]
    split
    · exact or_lt (lostN_lt c ws (by omega)) (pow_lt32 (by omega))
    · exact lostN_lt c ws (by omega)
theorem two_pow_mod {j : Nat} (h : 2 ^ j < 4294967296) : (2 ^ j % 4294967296 : Int) = ((2 ^ j : Nat) : Int) := by
  have e : (2 ^ j : Int) = ((2 ^ j : Nat) : Int) := by simp
  rw [e]
  generalize 2 ^ j = P at h ⊢
  omega
/-- The loop of Lost. -/
def LLO (w : World) (c : Nat) (ws : List (WX × Value)) (u0 u1 v : Value) (sl si : Value) (wr : World) : Prop :=
  ∃ j : Nat, sl = .int .u32 (lostN c ws j : Int) ∧ si = .int .i64 (j : Int) ∧ j ≤ 11 ∧ Blk wr w.heap.size 28 #[u0, u1, .int .u32 (c : Int), v] ∧ Below w.heap.size w wr

set_option maxRecDepth 100000 in
set_option maxHeartbeats 8000000 in
theorem Lost_any (w : World) (S : Nat → Prop) (op num : Int) (c : Nat) (ws : List (WX × Value)) (a : Option Addr) (n d : Nat) (hr : Wraps w S ws a n d) (hS : ∀ b, S b → b < w.heap.size) (hn : n ≤ 1048575) (hc : c < 4294967296) :
    Calls Try.prog 26 #[.agg #[.int .i64 op, .int .i64 num, .int .u32 (c : Int), .slice a n d]] w fun e w' => e = .returned (.int .u32 (lostN c ws 11 : Int)) ∧ Below w.heap.size w w' := by
  have hb := fun W (hb : Below w.heap.size w W) k => Reach_any W S op num c ws a n d k (hr.under hb hS) (fun b h => Nat.lt_of_lt_of_le (hS b h) hb.size) hn hc
  have HR := Lib.hid hb
  clear hb hr hS
  go_enter Try.func26, Try.ntmps26
  simp only [Go.undef]
  go_wp2_with fail
  go_loopw [3, 5] (fun sl si wr => LLO w c ws (.int .i64 op) (.int .i64 num) (.slice a n d) sl si wr) (fun _ si _ => 11 - (intOf si).toNat)
  case atStart => exact ⟨0, rfl, rfl, by omega, Blk.new _ _ _, by go_grown⟩
  case round =>
    obtain ⟨j, rfl, rfl, hj, hB, hbel⟩ := hrel
    by_cases hlt : j < 11
    · have c0 := hB.cell 0
      have c1 := hB.cell 1
      have c2 := hB.cell 2
      have c3 := hB.cell 3
      simp only [List.getElem?_toArray, List.getElem?_cons_succ, List.getElem?_cons_zero] at c0 c1 c2 c3
      have HB := Lib.hid hB
      have HBEL := Lib.hid hbel
      have h1 := fun W => has_any W c (j : Int) hc
      have h2 := fun W hW => HR.out W hW (j : Int)
      have hs := lostN_lt c ws (show j ≤ 11 by omega)
      have e1 : bits .or .u32 ((lostN c ws j : Nat) : Int) ((2 ^ j : Nat) : Int) = ((lostN c ws j ||| 2 ^ j : Nat) : Int) := bits32_or hs (pow_lt32 (by omega))
      have hL : Hid (lostN c ws (j + 1) = if hasN c (j : Int) = true ∧ reachW c ws (j : Int) ≠ 0 then lostN c ws j ||| 2 ^ j else lostN c ws j) := Lib.hid rfl
      have h2j := pow_lt32 (show j ≤ 11 by omega)
      have e2 : Hid ((2 ^ j % 4294967296 : Int) = ((2 ^ j : Nat) : Int)) := Lib.hid (two_pow_mod h2j)
      have E1 := Lib.hid e1
      have hsh := lostN_lt c ws (show j + 1 ≤ 11 by omega)
      have H1 := Lib.hid h1
      have H2 := Lib.hid h2
      generalize lostN c ws j = L0 at *
      generalize hasN c (j : Int) = b1 at *
      generalize reachW c ws (j : Int) = rr at *
      clear h1 h2 hB hbel hs hsh h2j e1
      have hi0 : (0 : Int) ≤ (j : Int) := by omega
      go_wp2_with fail
      refine (H1.out _).mono ?_
      rintro e w1 ⟨rfl, rfl⟩
      cases b1
      · go_wp2_with fail
        go_roundw
        case rel => exact ⟨j + 1, by rw [hL.out]; simp, by go_num, by omega, HB.out, HBEL.out⟩
        case measure => simp [intOf]; omega
      · go_wp2_with fail
        refine (H2.out _ HBEL.out).mono ?_
        rintro e w2 ⟨rfl, hb2⟩
        have hB2 := below_on hb2 HBEL.out
        have HB2 := Lib.hid (HB.out.under hb2 HB.out.lt)
        clear hb2 c0 c1 c2 c3
        by_cases hr0 : rr = 0
        · go_wp2_with fail
          go_roundw
          case rel => exact ⟨j + 1, by rw [hL.out]; simp [hr0], by go_num, by omega, HB2.out, hB2⟩
          case measure => simp [intOf]; omega
        · have hr1 : (rr != 0) = true := by simp; exact hr0
          go_wp2_with fail
          go_roundw
          case rel => exact ⟨j + 1, by rw [hL.out, if_pos ⟨by trivial, hr0⟩, ← E1.out, e2.out], by go_num, by omega, HB2.out, hB2⟩
          case measure => simp [intOf]; omega
    · obtain rfl : j = 11 := by omega
      go_wp2_with fail
      go_ret
      exact ⟨rfl, hbel⟩
end Go.Proofs.Ytlnlefebcfnocaa
