/- Names (conduitref03): what Name answers is some bool; ticks. -/
import Derived.Test.YtmdcfmdjbncaoaaDoorBl
import Derived.Test.YtmdcfmdjbncaoaaDoorBm
import Derived.Test.YtmdcfmdjbncaoaaDoorVd
namespace Go.Proofs.YtmdcfmdjbncaoaaDoor
open Go.RowKit
attribute [local go_sem ↓] Go.wp_at_zero Go.wp_at_succ
attribute [local go_sem] Go.undef

def tickB (x : Int) : Bool := decide (0 ≤ x) && decide (x ≤ 1099511627776)
theorem tick_any (x : Int) (w : World) : Calls Tryd.prog 46 #[.int .i64 x] w fun e w' => e = .returned (.bool (tickB x)) ∧ w = w' := by
  by_cases h0 : 0 ≤ x
  · by_cases h1 : x ≤ 1099511627776
    · have ht : tickB x = true := by simp [tickB, h0, h1]
      rw [ht]
      clear ht
      go_enter Tryd.func46, Tryd.ntmps46
      go_wp2_with fail
      go_ret
      exact ⟨rfl, rfl⟩
    · have ht : tickB x = false := by simp [tickB]; omega
      rw [ht]
      clear ht
      go_enter Tryd.func46, Tryd.ntmps46
      go_wp2_with fail
      go_ret
      exact ⟨rfl, rfl⟩
  · have ht : tickB x = false := by simp [tickB]; omega
    rw [ht]
    clear ht
    go_enter Tryd.func46, Tryd.ntmps46
    go_wp2_with fail
    go_ret
    exact ⟨rfl, rfl⟩

/-- Some answer. -/
def SomeB (e : Ending) : Prop := ∃ r, e = .returned (.bool r)
theorem SomeB.mk (r : Bool) : SomeB (.returned (.bool r)) := ⟨r, rfl⟩
theorem has_any (s : ByteArray) (a b : Int) (w : World) (hs : s.size ≤ maxLen) : Calls Tryd.prog 64 #[.string s, .int .u8 a, .int .u8 b] w fun e w' => SomeB e ∧ w = w' := by
  unfold maxLen at hs
  go_enter Tryd.func64, Tryd.ntmps64
  go_wp2_with fail
  go_loop [7] (fun v => ∃ k : Nat, v = .int .i64 k ∧ k ≤ s.size) (fun v => s.size - (intOf v).toNat)
  case atStart => exact ⟨0, rfl, Nat.zero_le _⟩
  case round =>
    obtain ⟨k, rfl, hk⟩ := hrel
    by_cases hlt : k < s.size
    · have hk0 : (0 : Int) ≤ (k : Int) := by omega
      have hk1 : (k : Int) < (s.size : Int) := by omega
      obtain ⟨x, hx⟩ : ∃ x : Int, x = (((s[k]'hlt).toNat : Nat) : Int) := ⟨_, rfl⟩
      by_cases h1 : x = a
      · have e1 : ((x : Int) == a) = true := by rw [h1]; exact beq_self_eq_true _
        rw [hx] at e1
        go_wp2_with fail
        go_ret
        exact ⟨SomeB.mk _, rfl⟩
      · have e1 : ((x : Int) == a) = false := beq_eq_false_iff_ne.2 h1
        by_cases h2 : x = b
        · have e2 : ((x : Int) == b) = true := by rw [h2]; exact beq_self_eq_true _
          rw [hx] at e1 e2
          go_wp2_with fail
          go_ret
          exact ⟨SomeB.mk _, rfl⟩
        · have e2 : ((x : Int) == b) = false := beq_eq_false_iff_ne.2 h2
          rw [hx] at e1 e2
          go_wp2_with fail
          go_round
          case rel => first | exact ⟨k + 1, by go_num, by omega⟩ | ((repeat apply Exists.intro); exact ⟨⟨k + 1, by go_num, by omega⟩, by first | rfl | exact ⟨rfl, rfl⟩⟩)
          case measure => simp [intOf]; omega
    · obtain rfl : k = s.size := by omega
      go_wp2_with fail
      go_ret
      exact ⟨SomeB.mk _, rfl⟩

theorem plain_any (s : ByteArray) (w : World) (hs : s.size ≤ maxLen) (hT : Tabs w) : Calls Tryd.prog 63 #[.string s] w fun e w' => SomeB e ∧ Below w.heap.size w w' := by
  unfold maxLen at hs
  have HV := Lib.hid (valid_str s w (by omega) hT)
  clear hT
  generalize Lib.validD s.data.toList = V at HV
  go_enter Tryd.func63, Tryd.ntmps63
  cases h0 : s.toList.isEmpty with
  | true =>
    go_wp2_with fail
    go_ret
    exact ⟨SomeB.mk _, Below.refl _ _⟩
  | false =>
    by_cases h1 : (65535 : Int) < (s.size : Int)
    · go_wp2_with fail
      go_ret
      exact ⟨SomeB.mk _, Below.refl _ _⟩
    · go_wp2_with fail
      refine HV.out.mono ?_
      rintro e w1 ⟨rfl, hb⟩
      clear HV
      cases V with
      | false =>
        go_wp2_with fail
        go_ret
        exact ⟨SomeB.mk _, hb⟩
      | true =>
        go_wp2_with fail
        go_loop [3] (fun v => ∃ k : Nat, v = .int .i64 k ∧ k ≤ s.size) (fun v => s.size - (intOf v).toNat)
        case atStart => exact ⟨0, rfl, Nat.zero_le _⟩
        case round =>
          obtain ⟨k, rfl, hk⟩ := hrel
          by_cases hlt : k < s.size
          · have hk0 : (0 : Int) ≤ (k : Int) := by omega
            have hk1 : (k : Int) < (s.size : Int) := by omega
            obtain ⟨x, hx⟩ : ∃ x : Int, x = (((s[k]'hlt).toNat : Nat) : Int) := ⟨_, rfl⟩
            by_cases h3 : x = 0
            · rw [hx] at h3
              go_wp2_with fail
              go_ret
              exact ⟨SomeB.mk _, hb⟩
            · rw [hx] at h3
              go_wp2_with fail
              go_round
              case rel => first | exact ⟨k + 1, by go_num, by omega⟩ | ((repeat apply Exists.intro); exact ⟨⟨k + 1, by go_num, by omega⟩, by first | rfl | exact ⟨rfl, rfl⟩⟩)
              case measure => simp [intOf]; omega
          · obtain rfl : k = s.size := by omega
            go_wp2_with fail
            go_ret
            exact ⟨SomeB.mk _, hb⟩
theorem name_any (s : ByteArray) (w : World) (hs : s.size ≤ maxLen) (hT : Tabs w) : Calls Tryd.prog 45 #[.string s] w fun e w' => SomeB e ∧ Below w.heap.size w w' := by
  have HP := Lib.hid (plain_any s w hs hT)
  go_enter Tryd.func45, Tryd.ntmps45
  go_wp2_with fail
  refine HP.out.mono ?_
  rintro e w1 ⟨⟨r, rfl⟩, hb⟩
  cases r with
  | false =>
    go_wp2_with fail
    go_ret
    exact ⟨SomeB.mk _, hb⟩
  | true =>
    go_wp2_with fail
    refine (has_any s 43 35 w1 hs).mono ?_
    rintro e w2 ⟨⟨r, rfl⟩, rfl⟩
    go_wp2_with fail
    go_ret
    exact ⟨SomeB.mk _, hb⟩
end Go.Proofs.YtmdcfmdjbncaoaaDoor
