/- Lacks, Missing, Implements: what a kind lacks of an interface. -/
import Derived.Test.YtpemgccocmdmbaaHas
namespace Go.Proofs.Ytpemgccocmdmbaa
open Go.RowKit

theorem below_on {w W w1 : World} (hb : Below W.heap.size W w1) (h : Below w.heap.size w W) : Below w.heap.size w w1 := h.trans (hb.mono h.size)
theorem cell_on {W w1 : World} (hb : Below W.heap.size W w1) {b o : Nat} {v : Value} (h : W.cell? ⟨b, o, none⟩ = some v) : w1.cell? ⟨b, o, none⟩ = some v := cell_over hb (World.block_lt_of_cell? _ _ h) h
theorem ret_i {a b : Int} (h : a = b) : Ending.returned (.int .i64 a) = .returned (.int .i64 b) := by rw [h]

/-- The loop over a list of methods. -/
def LW (k : Int) (L : List Int) (iv : Value) (w0 wr : World) : Prop := ∃ j : Nat, iv = .int .i64 j ∧ j ≤ L.length ∧ lackL k L = lackL k (L.drop j) ∧ Below w0.heap.size w0 wr

set_option maxRecDepth 100000 in
set_option maxHeartbeats 4000000 in
theorem lacks_any (k f : Int) (w : World) : Calls Try.prog 35 #[.int .i64 k, .int .i64 f] w fun e w' => e = .returned (.int .i64 (lacksT k f)) ∧ Below w.heap.size w w' := by
  by_cases hk : k < 0 ∨ 14 ≤ k
  · have hT : lacksT k f = -1 := by unfold lacksT; rw [if_pos hk]
    rw [hT]
    clear hT
    go_enter Try.func35, Try.ntmps35
    rcases hk with h | h
    · go_wp2_with fail
      go_ret
      exact ⟨rfl, Below.refl _ _⟩
    · have h2 : ¬ k < 0 := by omega
      go_wp2_with fail
      go_ret
      exact ⟨rfl, Below.refl _ _⟩
  · have hT : lacksT k f = lackL k (methL f) := by unfold lacksT; rw [if_neg hk]
    rw [hT]
    have h1 : ¬ k < 0 := by omega
    have h2 : ¬ 14 ≤ k := by omega
    have hl3 := methL_len f
    have hM := methods_ref f w
    generalize methL f = L at hM hl3
    have HM := Lib.hid hM
    clear hT hk hM
    go_enter Try.func35, Try.ntmps35
    go_wp2_with fail
    refine HM.out.mono ?_
    rintro e w1 ⟨a, n, c, rfl, hrow, hb1⟩
    have hnl : n = L.length := hrow.1
    subst hnl
    have HROW := Lib.hid hrow
    clear hrow
    go_wp2_with fail
    go_loopw [6] (fun iv wr => LW k L iv w wr ∧ wr = w1) (fun i _ => L.length - (intOf i).toNat)
    case atStart => exact ⟨⟨0, rfl, Nat.zero_le _, rfl, hb1⟩, rfl⟩
    case round =>
      obtain ⟨⟨j, rfl, hj, hkeep, hbel⟩, rfl⟩ := hrel
      have HK := Lib.hid hkeep
      clear hkeep
      by_cases hlt : j < L.length
      · obtain ⟨g, o, x, cs, rfl, hSg, hx, rfl, hxl, hr⟩ := HROW.out.get hlt
        have d0 := hr 0 _ rfl
        simp only [Nat.add_zero, Nat.mul_one] at d0
        have hd := lack_drop (k := k) hx
        have hh := has_any k x wr
        have HX := Lib.hid hx
        clear hr hxl hx
        cases hm : hasM k x with
        | true =>
          rw [hm] at hh hd
          have HD := Lib.hid hd
          have HH := Lib.hid hh
          clear hd hh hm
          go_wp2_with fail
          refine HH.out.mono ?_
          rintro e w2 ⟨rfl, rfl⟩
          go_wp2_with fail
          go_roundw
          case rel => exact ⟨⟨j + 1, by go_num, by omega, by rw [HK.out, HD.out]; rfl, hbel⟩, by first | rfl | trivial⟩
          case measure => simp [intOf]; omega
        | false =>
          rw [hm] at hh hd
          have HD := Lib.hid hd
          have HH := Lib.hid hh
          clear hd hh hm
          go_wp2_with fail
          refine HH.out.mono ?_
          rintro e w2 ⟨rfl, rfl⟩
          go_wp2_with fail
          go_ret
          exact ⟨ret_i (by rw [HK.out, HD.out]; rfl), hbel⟩
      · obtain rfl : j = L.length := by omega
        go_wp2_with fail
        go_ret
        exact ⟨ret_i (by rw [HK.out]; simp [lackL]), hbel⟩

theorem faceT_one (k m : Int) (h : 0 ≤ m ∧ m < 6) : faceT k m = hasM k m := by
  have : m = 0 ∨ m = 1 ∨ m = 2 ∨ m = 3 ∨ m = 4 ∨ m = 5 := by omega
  rcases this with rfl | rfl | rfl | rfl | rfl | rfl <;> simp [faceT, methL]

set_option maxRecDepth 100000 in
set_option maxHeartbeats 4000000 in
theorem method_any (g : Nat) (k m : Int) (hm : 0 ≤ m ∧ m < 6) (w : World) : Calls Try.prog 53 #[sampleV g k, .int .i64 m] w fun e w' => e = .returned (.bool (hasM k m)) ∧ Below w.heap.size w w' := by
  have hf := fun W => face_any k g m W
  rw [faceT_one k m hm] at hf
  have HF := Lib.hid hf
  clear hf
  generalize sampleV g k = v at HF ⊢
  have h6 : m = 0 ∨ m = 1 ∨ m = 2 ∨ m = 3 ∨ m = 4 ∨ m = 5 := by omega
  clear hm
  rcases h6 with rfl | rfl | rfl | rfl | rfl | rfl
  all_goals
    go_enter Try.func53, Try.ntmps53
    go_wp2_with fail
    refine (HF.out _).mono ?_
    rintro e w1 ⟨rfl, rfl⟩
    go_wp2_with fail
    go_ret
    exact ⟨rfl, by go_grown⟩

set_option maxRecDepth 100000 in
set_option maxHeartbeats 4000000 in
theorem missing_any (k f : Int) (w : World) : Calls Try.prog 34 #[.int .i64 k, .int .i64 f] w fun e w' => e = .returned (.int .i64 (lacksT k f)) ∧ Below w.heap.size w w' := by
  by_cases hk : k < 0 ∨ 14 ≤ k
  · have hT : lacksT k f = -1 := by unfold lacksT; rw [if_pos hk]
    rw [hT]
    clear hT
    go_enter Try.func34, Try.ntmps34
    rcases hk with h | h
    · go_wp2_with fail
      go_ret
      exact ⟨rfl, Below.refl _ _⟩
    · have h2 : ¬ k < 0 := by omega
      go_wp2_with fail
      go_ret
      exact ⟨rfl, Below.refl _ _⟩
  · have hT : lacksT k f = lackL k (methL f) := by unfold lacksT; rw [if_neg hk]
    rw [hT]
    have h1 : ¬ k < 0 := by omega
    have h2 : ¬ 14 ≤ k := by omega
    have hl3 := methL_len f
    have hM := methods_any f w
    have hbd := methL_bd f
    generalize methL f = L at hM hl3 hbd
    have HM := Lib.hid hM
    have HBD := Lib.hid hbd
    clear hT hk hM hbd
    go_enter Try.func34, Try.ntmps34
    go_wp2_with fail
    refine HM.out.mono ?_
    rintro e w1 ⟨a, n, c, rfl, hrow, hb1⟩
    have hnl : n = L.length := hrow.1
    subst hnl
    have HROW := Lib.hid hrow
    clear hrow
    go_wp2_with fail
    go_loopw [16] (fun iv wr => LW k L iv w wr ∧ Below w1.heap.size w1 wr) (fun i _ => L.length - (intOf i).toNat)
    case atStart => exact ⟨⟨0, rfl, Nat.zero_le _, rfl, hb1⟩, Below.refl _ _⟩
    case round =>
      obtain ⟨⟨j, rfl, hj, hkeep, hbel⟩, hbe1⟩ := hrel
      have HK := Lib.hid hkeep
      clear hkeep
      by_cases hlt : j < L.length
      · obtain ⟨g, o, x, cs, rfl, hSg, hx, rfl, hxl, hr⟩ := HROW.out.get hlt
        have d0 : wr.cell? ⟨g, o + j, none⟩ = some (.int .i64 x) := cell_over hbe1 hSg.2 (by have := hr 0 _ rfl; simpa using this)
        have hd := lack_drop (k := k) hx
        have hx6 := HBD.out x (List.mem_of_getElem? hx)
        have hh := fun g W => method_any g k x hx6 W
        have HX := Lib.hid hx
        clear hr hxl hx hx6
        cases hm : hasM k x with
        | true =>
          rw [hm] at hh hd
          have HD := Lib.hid hd
          have HH := Lib.hid hh
          clear hd hh hm
          go_wp2_with fail
          refine (sample_any k wr).mono ?_
          rintro e w2 ⟨⟨g2, rfl⟩, hb2⟩
          generalize hv : sampleV g2 k = v2
          have HHv := Lib.hid (HH.out g2)
          rw [hv] at HHv
          clear hv
          go_wp2_with fail
          refine (HHv.out _).mono ?_
          rintro e w3 ⟨rfl, hb3⟩
          have hB3 := below_on hb3 (below_on hb2 hbel)
          have hB4 := below_on hb3 (below_on hb2 hbe1)
          clear hb2 hb3 d0
          go_wp2_with fail
          go_roundw
          case rel => exact ⟨⟨j + 1, by go_num, by omega, by rw [HK.out, HD.out]; rfl, hB3⟩, hB4⟩
          case measure => simp [intOf]; omega
        | false =>
          rw [hm] at hh hd
          have HD := Lib.hid hd
          have HH := Lib.hid hh
          clear hd hh hm
          go_wp2_with fail
          refine (sample_any k wr).mono ?_
          rintro e w2 ⟨⟨g2, rfl⟩, hb2⟩
          generalize hv : sampleV g2 k = v2
          have HHv := Lib.hid (HH.out g2)
          rw [hv] at HHv
          clear hv
          go_wp2_with fail
          refine (HHv.out _).mono ?_
          rintro e w3 ⟨rfl, hb3⟩
          have hB3 := below_on hb3 (below_on hb2 hbel)
          clear hb2 hb3 d0
          go_wp2_with fail
          go_ret
          exact ⟨ret_i (by rw [HK.out, HD.out]; rfl), hB3⟩
      · obtain rfl : j = L.length := by omega
        go_wp2_with fail
        go_ret
        exact ⟨ret_i (by rw [HK.out]; simp [lackL]), hbel⟩

theorem implements_any (k f : Int) (w : World) : Calls Try.prog 32 #[.int .i64 k, .int .i64 f] w fun e w' => e = .returned (.bool (faceT k f)) ∧ Below w.heap.size w w' := by
  go_enter Try.func32, Try.ntmps32
  go_wp2_with fail
  refine (sample_any k w).mono ?_
  rintro e w2 ⟨⟨g2, rfl⟩, hb2⟩
  have HF := Lib.hid (face_any k g2 f w2)
  generalize sampleV g2 k = v2 at HF ⊢
  go_wp2_with fail
  refine HF.out.mono ?_
  rintro e w3 ⟨rfl, rfl⟩
  go_wp2_with fail
  go_ret
  exact ⟨rfl, hb2⟩

/-- Implements, by what is lacking. -/
theorem faceT_lacks (k f : Int) : faceT k f = (decide (0 < k ∧ k < 14) && decide (0 < (methL f).length) && decide (lacksT k f = -1)) := by
  by_cases hk : 0 < k ∧ k < 14
  · unfold faceT lacksT
    rw [if_neg (by omega)]
    rw [Bool.eq_iff_iff]
    simp [hk, lackL_all k (methL f) (fun m hm => (methL_bd f m hm).1), List.length_pos_iff]
  · have : faceT k f = false := by
      unfold faceT
      cases h : methL f with
      | nil => rfl
      | cons m l => simp [hasM_out (show k ≤ 0 ∨ 14 ≤ k by omega)]
    rw [this]
    simp [hk]

set_option maxRecDepth 100000 in
set_option maxHeartbeats 4000000 in
theorem implements_ref (k f : Int) (w : World) : Calls Try.prog 33 #[.int .i64 k, .int .i64 f] w fun e w' => e = .returned (.bool (faceT k f)) ∧ Below w.heap.size w w' := by
  have hT := faceT_lacks k f
  by_cases h1 : 0 < k
  · by_cases h2 : k < 14
    · rw [decide_eq_true (show 0 < k ∧ k < 14 from ⟨h1, h2⟩), Bool.true_and] at hT
      have hM := methods_ref f w
      have hL := fun W => lacks_any k f W
      generalize hz : lacksT k f = z at hT hL
      cases hl : methL f with
      | nil =>
        rw [hl] at hT hM
        rw [hT]
        have HM := Lib.hid hM
        clear hT hM hL hl hz
        go_enter Try.func33, Try.ntmps33
        go_wp2_with fail
        refine HM.out.mono ?_
        rintro e w1 ⟨a, n, c, rfl, hrow, hb1⟩
        obtain rfl : n = 0 := hrow.1
        clear hrow
        go_wp2_with fail
        go_ret
        exact ⟨rfl, hb1⟩
      | cons x r =>
        rw [hl] at hT hM
        have e0 : decide (0 < (x :: r).length) = true := decide_eq_true (by simp)
        rw [e0, Bool.true_and] at hT
        rw [hT]
        have HM := Lib.hid hM
        have HL := Lib.hid hL
        clear hT hM hL hl hz e0
        go_enter Try.func33, Try.ntmps33
        go_wp2_with fail
        refine HM.out.mono ?_
        rintro e w1 ⟨a, n, c, rfl, hrow, hb1⟩
        have hn : 0 < n := by rw [hrow.1]; simp
        have hn2 : (0 : Int) < n := by omega
        clear hrow
        go_wp2_with fail
        refine (HL.out _).mono ?_
        rintro e w2 ⟨rfl, hb2⟩
        have hB2 := below_on hb2 hb1
        clear hb2 hb1
        by_cases h3 : z = -1
        · subst h3
          go_wp2_with fail
          go_ret
          exact ⟨by simp, hB2⟩
        · go_wp2_with fail
          go_ret
          exact ⟨by simp [h3], hB2⟩
    · rw [decide_eq_false (show ¬ (0 < k ∧ k < 14) from fun h => h2 h.2), Bool.false_and, Bool.false_and] at hT
      rw [hT]
      clear hT
      go_enter Try.func33, Try.ntmps33
      go_wp2_with fail
      go_ret
      exact ⟨rfl, Below.refl _ _⟩
  · rw [decide_eq_false (show ¬ (0 < k ∧ k < 14) from fun h => h1 h.1), Bool.false_and, Bool.false_and] at hT
    rw [hT]
    clear hT
    go_enter Try.func33, Try.ntmps33
    go_wp2_with fail
    go_ret
    exact ⟨rfl, Below.refl _ _⟩
end Go.Proofs.Ytpemgccocmdmbaa
