/- Sets of capabilities: Valid, Has, proper, Fix of the reference. -/
import Derived.Test.YtlnlefebcfnocaaSl
namespace Go.Proofs.Ytlnlefebcfnocaa
open Go.RowKit Go.Deep
attribute [local go_sem] Go.undef

def hasN (c : Nat) (k : Int) : Bool := decide (0 ≤ k ∧ k < 11) && c.testBit k.toNat
theorem bit_one {c j : Nat} (hc : c < 4294967296) : bits .and .u32 ((c : Int) / 2 ^ j) 1 = if c.testBit j = true then 1 else 0 := by
  have h1 : (c : Int) / 2 ^ j = ((c / 2 ^ j : Nat) : Int) := by simp
  have h2 := bits32_and (a := c / 2 ^ j) (b := 1) (Nat.lt_of_le_of_lt (Nat.div_le_self _ _) hc) (by omega)
  have h3 : c / 2 ^ j &&& 1 = if c.testBit j = true then 1 else 0 := by
    rw [Nat.and_one_is_mod, Nat.testBit_eq_decide_div_mod_eq]
    by_cases h : c / 2 ^ j % 2 = 1
    · simp [h]
    · simp [h]; omega
  rw [h1]
  refine h2.trans ?_
  rw [h3]
  split <;> rfl

set_option maxRecDepth 100000 in
set_option maxHeartbeats 4000000 in
theorem rhas_any (w : World) (c : Nat) (k : Int) (hc : c < 4294967296) : Calls Try.prog 34 #[.int .u32 (c : Int), .int .i64 k] w fun e w' => e = .returned (.bool (hasN c k)) ∧ w = w' := by
  by_cases h0 : 0 ≤ k
  · have d0 : decide (0 ≤ k) = true := decide_eq_true h0
    by_cases h1 : k < 11
    · have d1 : decide (k < 11) = true := decide_eq_true h1
      obtain ⟨j, rfl⟩ : ∃ j : Nat, k = (j : Int) := ⟨k.toNat, by omega⟩
      have hb := bit_one (j := j) hc
      have hh : hasN c (j : Int) = c.testBit j := by unfold hasN; rw [decide_eq_true ⟨h0, h1⟩]; simp
      rw [hh]
      cases ht : c.testBit j with
      | true =>
        rw [ht, if_pos rfl] at hb
        go_enter Try.func34, Try.ntmps34
        go_wp2_with fail
        go_ret
        exact ⟨rfl, rfl⟩
      | false =>
        rw [ht, if_neg (by simp)] at hb
        go_enter Try.func34, Try.ntmps34
        go_wp2_with fail
        go_ret
        exact ⟨rfl, rfl⟩
    · have d1 : decide (k < 11) = false := decide_eq_false h1
      have hh : hasN c k = false := by unfold hasN; rw [decide_eq_false (by omega)]; rfl
      rw [hh]
      go_enter Try.func34, Try.ntmps34
      go_wp2_with fail
      go_ret
      exact ⟨rfl, rfl⟩
  · have d0 : decide (0 ≤ k) = false := decide_eq_false h0
    have hh : hasN c k = false := by unfold hasN; rw [decide_eq_false (by omega)]; rfl
    rw [hh]
    go_enter Try.func34, Try.ntmps34
    go_wp2_with fail
    go_ret
    exact ⟨rfl, rfl⟩

theorem rvalid_any (w : World) (c : Nat) : Calls Try.prog 37 #[.int .u32 (c : Int)] w fun e w' => e = .returned (.bool (decide (c ≤ 2047))) ∧ w = w' := by
  by_cases h : c ≤ 2047
  · have hd : decide (c ≤ 2047) = true := decide_eq_true h
    have h2 : (c : Int) ≤ 2047 := by omega
    rw [hd]
    go_enter Try.func37, Try.ntmps37
    go_wp2_with fail
    go_ret
    exact ⟨by simp [], rfl⟩
  · have hd : decide (c ≤ 2047) = false := decide_eq_false h
    have h2 : ¬ (c : Int) ≤ 2047 := by omega
    rw [hd]
    go_enter Try.func37, Try.ntmps37
    go_wp2_with fail
    go_ret
    exact ⟨by simp [], rfl⟩

/-- One answer of Has, as some truth. -/
theorem rhas_some (w : World) (c : Nat) (k : Int) (hc : c < 4294967296) : Calls Try.prog 34 #[.int .u32 (c : Int), .int .i64 k] w fun e w' => (e = .returned (.bool true) ∨ e = .returned (.bool false)) ∧ w = w' :=
  (rhas_any w c k hc).mono fun e w' h => ⟨by cases hh : hasN c k <;> rw [hh] at h <;> simp [h.1], h.2⟩

set_option maxRecDepth 100000 in
set_option maxHeartbeats 8000000 in
theorem rproper_any (w : World) (c : Nat) (hc : c < 4294967296) : Calls Try.prog 50 #[.int .u32 (c : Int)] w fun e w' => (∃ b, e = .returned (.bool b)) ∧ w = w' := by
  have hh := fun w k => rhas_some w c k hc
  have HH := Lib.hid hh
  clear hh
  go_enter Try.func50, Try.ntmps50
  go_wp2_with fail
  iterate 8
    all_goals first
      | (go_ret; exact ⟨⟨_, rfl⟩, rfl⟩)
      | (refine (HH.out _ _).mono ?_
         rintro e w1 ⟨rfl | rfl, rfl⟩
         all_goals go_wp2_with fail)
  all_goals first
    | (go_ret; exact ⟨⟨_, rfl⟩, rfl⟩)

/-- The loop of Fix. -/
def FX (w : World) (s3 s4 : Value) (wr : World) : Prop := ∃ o x : Nat, s3 = .int .u32 (o : Int) ∧ s4 = .int .u32 (x : Int) ∧ o < 4294967296 ∧ x ≤ 2048 ∧ wr = w

set_option maxRecDepth 100000 in
set_option maxHeartbeats 8000000 in
theorem rfix_any (w : World) (c : Nat) (hc : c < 4294967296) : Calls Try.prog 45 #[.int .u32 (c : Int)] w fun e w' => (∃ v : Nat, e = .returned (.int .u32 (v : Int))) ∧ w = w' := by
  go_enter Try.func45, Try.ntmps45
  simp only [Go.undef]
  go_wp2_with fail
  go_loopw [3, 4] (FX w) (fun _ i _ => 2048 - (intOf i).toNat)
  case atStart => exact ⟨0, 0, rfl, rfl, by omega, by omega, rfl⟩
  case round =>
    obtain ⟨o, x, rfl, rfl, ho, hx, rfl⟩ := hrel
    by_cases hlt : x ≤ 2047
    · have hlt' : (x : Int) ≤ 2047 := by omega
      have e1 := bits32_clr (a := x) (b := c) (by omega) hc
      have e2 := bits32_or (a := o) (b := x) ho (by omega)
      have hor := or_lt ho (show x < 4294967296 by omega)
      have hp := fun w => rproper_any w x (by omega)
      have HP := Lib.hid hp
      clear hp
      by_cases hz : clr x c = 0
      · rw [hz] at e1
        generalize (o ||| x) = ox at *
        go_wp2_with fail
        refine (HP.out _).mono ?_
        rintro e w1 ⟨⟨b, rfl⟩, rfl⟩
        cases b
        all_goals go_wp2_with fail
        all_goals go_roundw
        · exact ⟨o, x + 1, rfl, by go_num, ho, by omega, rfl⟩
        · simp [intOf]; omega
        · exact ⟨ox, x + 1, rfl, by go_num, hor, by omega, rfl⟩
        · simp [intOf]; omega
      · have hz' : (((clr x c : Nat) : Int) == 0) = false := by simp; exact hz
        generalize (o ||| x) = ox at *
        generalize clr x c = cx at *
        go_wp2_with fail
        all_goals go_roundw
        · exact ⟨o, x + 1, rfl, by go_num, ho, by omega, rfl⟩
        · simp [intOf]; omega
    · obtain rfl : x = 2048 := by omega
      go_wp2_with fail
      go_ret
      exact ⟨⟨o, rfl⟩, rfl⟩
end Go.Proofs.Ytlnlefebcfnocaa
