/- kinds: the kinds of a pattern without parts. -/
import Derived.Test.YtpemgccocmdmbaaKi
namespace Go.Proofs.Ytpemgccocmdmbaa
open Go.RowKit

theorem sampleV_kind (g : Nat) (k : Int) : ((1 ≤ k ∧ k ≤ 13) ∧ ∃ t x, sampleV g k = .iface t x ∧ (t = 72 ↔ (k = 11 ∨ k = 12))) ∨ (¬ (1 ≤ k ∧ k ≤ 13) ∧ sampleV g k = .nilIface) := by
  unfold sampleV
  by_cases h1 : k = 1
  · subst h1; exact .inl ⟨by decide, _, _, rfl, by decide⟩
  by_cases h2 : k = 2
  · subst h2; exact .inl ⟨by decide, _, _, rfl, by decide⟩
  by_cases h3 : k = 3
  · subst h3; exact .inl ⟨by decide, _, _, rfl, by decide⟩
  by_cases h4 : k = 4
  · subst h4; exact .inl ⟨by decide, _, _, rfl, by decide⟩
  by_cases h5 : k = 5
  · subst h5; exact .inl ⟨by decide, _, _, rfl, by decide⟩
  by_cases h6 : k = 6
  · subst h6; exact .inl ⟨by decide, _, _, rfl, by decide⟩
  by_cases h7 : k = 7
  · subst h7; exact .inl ⟨by decide, _, _, rfl, by decide⟩
  by_cases h8 : k = 8
  · subst h8; exact .inl ⟨by decide, _, _, rfl, by decide⟩
  by_cases h9 : k = 9
  · subst h9; exact .inl ⟨by decide, _, _, rfl, by decide⟩
  by_cases h10 : k = 10
  · subst h10; exact .inl ⟨by decide, _, _, rfl, by decide⟩
  by_cases h11 : k = 11
  · subst h11; exact .inl ⟨by decide, _, _, rfl, by decide⟩
  by_cases h12 : k = 12
  · subst h12; exact .inl ⟨by decide, _, _, rfl, by decide⟩
  by_cases h13 : k = 13
  · subst h13; exact .inl ⟨by decide, _, _, rfl, by decide⟩
  exact .inr ⟨by omega, by simp only [h1, h2, h3, h4, h5, h6, h7, h8, h9, h10, h11, h12, h13, if_false]⟩

theorem neq_nil (k : Int) (g : Nat) (w : World) : (binOp .neq 20 (sampleV g k) .nilIface).run Try.prog w = .ok (.bool (decide (1 ≤ k ∧ k ≤ 13))) w := by
  rcases sampleV_kind g k with ⟨h, t, x, e, _⟩ | ⟨h, e⟩
  · rw [e, decide_eq_true h]; simp [go_sem]
  · rw [e, decide_eq_false h]; simp [go_sem]
theorem guard_nil (k : Int) (g : Nat) (a : Operand) (w : World) : (eqGuard .neq 20 a (.const .nilIface) (sampleV g k) .nilIface).run Try.prog w = .ok () w := by
  rcases sampleV_kind g k with ⟨h, t, x, e, _⟩ | ⟨h, e⟩
  · rw [e]; simp [go_sem, eqGuard]
  · rw [e]; simp [go_sem, eqGuard]
theorem assert_nil (xT : TypeId) (w : World) : (Instr.typeAssert .nilIface xT 72 true).run Try.prog w = .ok (.tuple #[.pointer none, .bool false]) w := by
  obtain ⟨j, hj, hz⟩ := Option.map_eq_some_iff.1 (show (Try.prog.info? 72).map (·.zero) = some (some (.pointer none)) by kernel_rfl)
  simp [Instr.typeAssert, run_underlying Try.underlying72, zeroValue, typeInfo, hj, hz]
theorem assert_box (k : Int) (g : Nat) : ∃ x, ∀ w : World, (Instr.typeAssert (sampleV g k) 20 72 true).run Try.prog w = .ok (.tuple #[x, .bool (decide (k = 11 ∨ k = 12))]) w := by
  rcases sampleV_kind g k with ⟨h, t, x, e, ht⟩ | ⟨h, e⟩
  · by_cases hk : k = 11 ∨ k = 12
    · have := ht.2 hk
      subst this
      rw [e, decide_eq_true hk]
      exact ⟨_, fun w => is_pbox _ _ w⟩
    · rw [e, decide_eq_false hk]
      exact ⟨_, fun w => isnt_pbox (fun h => hk (ht.1 h)) _ _ w⟩
  · rw [e, decide_eq_false (by omega)]
    exact ⟨_, fun w => assert_nil _ w⟩
theorem shl_val (j : Nat) (h : j < 14) : (2 ^ ((j : Int).toNat) % 4294967296 : Int) = ((2 ^ j : Nat) : Int) := by
  have h1 : (2 : Nat) ^ j < 2 ^ 14 := Nat.pow_lt_pow_right (by omega) h
  rw [Int.toNat_natCast]
  have h2 : ((2 ^ j : Nat) : Int) = (2 : Int) ^ j := by simp
  rw [← h2]
  generalize 2 ^ j = q at *
  omega
/-- One kind more. -/
theorem kset_more {P : Int → Bool} {j : Nat} (hj : j < 14) (h : P j = true) : bits .or .u32 (ksetN P j : Int) (2 ^ j % 4294967296) = (ksetN P (j + 1) : Nat) := by
  have h1 := shl_val j hj
  rw [Int.toNat_natCast] at h1
  rw [h1, bits_or_nat (Nat.lt_of_lt_of_le (ksetN_lt P j) (show 2 ^ j ≤ 2 ^ 14 from Nat.pow_le_pow_right (by omega) (by omega))) (show 2 ^ j < 2 ^ 14 from Nat.pow_lt_pow_right (by omega) hj), ksetN, if_pos h]
theorem kset_skip {P : Int → Bool} {j : Nat} (h : P j = false) : ksetN P (j + 1) = ksetN P j := by rw [ksetN, if_neg (by simp [h])]

def KLW (w : World) (P : Int → Bool) (cs : Array Value) (sv iv : Value) (wr : World) : Prop :=
  ∃ j : Nat, iv = .int .i64 j ∧ sv = .int .u32 (ksetN P j) ∧ j ≤ 14 ∧ Blk wr w.heap.size 24 cs ∧ Below w.heap.size w wr
theorem ret_u {a b : Int} (h : a = b) : Ending.returned (.int .u32 a) = .returned (.int .u32 b) := by rw [h]
theorem kindP_out {o n k : Int} (h1 : ¬ o = 1) (h2 : ¬ o = 2) (h3 : ¬ o = 3) : kindP o n k = false := by unfold kindP; rw [if_neg h1, if_neg h2, if_neg h3]

set_option maxHeartbeats 8000000 in
set_option maxRecDepth 100000 in
theorem kinds_leaf (o n : Int) (v : Value) (w : World) : Calls Try.prog 45 #[.agg #[.int .i64 o, .int .i64 n, v]] w fun e w' => e = .returned (.int .u32 (ksetN (kindP o n) 14)) ∧ Below w.heap.size w w' := by
  go_enter Try.func45, Try.ntmps45
  go_wp2_with fail
  go_loopw [3, 7] (KLW w (kindP o n) #[.int .i64 o, .int .i64 n, v]) (fun _ i _ => 14 - (intOf i).toNat)
  case atStart => exact ⟨0, rfl, rfl, by omega, Blk.new _ _ _, by go_grown⟩
  case round =>
    obtain ⟨j, rfl, rfl, hj, hB, hbel⟩ := hrel
    have c0 := hB.cell 0
    have c1 := hB.cell 1
    simp only [List.getElem?_toArray, List.getElem?_cons_succ, List.getElem?_cons_zero] at c0 c1
    have HB := Lib.hid hB
    clear hB
    by_cases hlt : j < 14
    · go_wp2_with fail
      refine (sample_any j wr).mono ?_
      rintro e w1 ⟨⟨g, rfl⟩, hb1⟩
      have hnn := neq_nil j g
      have hgd := guard_nil j g
      have hff := face_any j g n w1
      obtain ⟨xb, hab⟩ := assert_box j g
      generalize sampleV g j = sv at hnn hgd hff hab ⊢
      have HFF := Lib.hid hff
      have HNN := Lib.hid hnn
      have HGD := Lib.hid hgd
      have HAB := Lib.hid hab
      have HB1 : Hid (Blk w1 w.heap.size 24 _) := HB.out.under hb1 HB.out.lt
      have hB1 := below_on hb1 hbel
      have d0 := cell_on hb1 c0
      have d1 := cell_on hb1 c1
      clear c0 c1 hff hnn hgd hab hb1
      by_cases h1 : o = 1
      · subst h1
        have hP : kindP 1 n j = decide (1 ≤ (j : Int) ∧ (j : Int) ≤ 13) := by simp [kindP]
        have hnn := HNN.out
        have hgd := HGD.out
        cases hb : kindP 1 n j with
        | true =>
          rw [← hP, hb] at hnn
          have HX := Lib.hid (kset_more hlt hb)
          clear hP hb
          go_wp2_with fail
          go_roundw
          case rel => exact ⟨j + 1, by go_num, by rw [HX.out], by omega, HB1.out, hB1⟩
          case measure => simp [intOf]; omega
        | false =>
          rw [← hP, hb] at hnn
          have HX := Lib.hid (kset_skip hb)
          clear hP hb
          go_wp2_with fail
          go_roundw
          case rel => exact ⟨j + 1, by go_num, by rw [HX.out], by omega, HB1.out, hB1⟩
          case measure => simp [intOf]; omega
      by_cases h2 : o = 2
      · subst h2
        by_cases hn : n = 11
        · subst hn
          have hP : kindP 2 11 j = decide ((j : Int) = 11 ∨ (j : Int) = 12) := by simp [kindP]
          have hab := HAB.out
          cases hb : kindP 2 11 j with
          | true =>
            rw [← hP, hb] at hab
            have HX := Lib.hid (kset_more hlt hb)
            clear hP hb
            go_wp2_with fail
            all_goals
              go_roundw
              case rel => exact ⟨j + 1, by go_num, by rw [HX.out], by omega, HB1.out, hB1⟩
              case measure => simp [intOf]; omega
          | false =>
            rw [← hP, hb] at hab
            have HX := Lib.hid (kset_skip hb)
            clear hP hb
            go_wp2_with fail
            all_goals
              go_roundw
              case rel => exact ⟨j + 1, by go_num, by rw [HX.out], by omega, HB1.out, hB1⟩
              case measure => simp [intOf]; omega
        · have hP : kindP 2 n j = decide (n = (j : Int)) := by simp [kindP, hn]
          by_cases hj2 : n = (j : Int)
          · subst hj2
            have HX := Lib.hid (kset_more (P := kindP 2 (j : Int)) hlt (by rw [hP]; simp))
            have hn2 : ¬ (j : Int) = 11 := hn
            clear hP
            go_wp2_with fail
            go_roundw
            case rel => exact ⟨j + 1, by go_num, by rw [HX.out], by omega, HB1.out, hB1⟩
            case measure => simp [intOf]; omega
          · have HX := Lib.hid (kset_skip (P := kindP 2 n) (j := j) (by rw [hP]; simp [hj2]))
            clear hP
            go_wp2_with fail
            go_roundw
            case rel => exact ⟨j + 1, by go_num, by rw [HX.out], by omega, HB1.out, hB1⟩
            case measure => simp [intOf]; omega
      by_cases h3 : o = 3
      · subst h3
        have hP : kindP 3 n j = faceT j n := by simp [kindP]
        have hff := HFF.out
        cases hb : kindP 3 n j with
        | true =>
          rw [← hP, hb] at hff
          have HFF2 := Lib.hid hff
          have HX := Lib.hid (kset_more hlt hb)
          clear hP hb hff
          go_wp2_with fail
          refine HFF2.out.mono ?_
          rintro e w2 ⟨rfl, rfl⟩
          go_wp2_with fail
          go_roundw
          case rel => exact ⟨j + 1, by go_num, by rw [HX.out], by omega, HB1.out, hB1⟩
          case measure => simp [intOf]; omega
        | false =>
          rw [← hP, hb] at hff
          have HFF2 := Lib.hid hff
          have HX := Lib.hid (kset_skip hb)
          clear hP hb hff
          go_wp2_with fail
          refine HFF2.out.mono ?_
          rintro e w2 ⟨rfl, rfl⟩
          go_wp2_with fail
          go_roundw
          case rel => exact ⟨j + 1, by go_num, by rw [HX.out], by omega, HB1.out, hB1⟩
          case measure => simp [intOf]; omega
      have HX := Lib.hid (kset_skip (P := kindP o n) (j := j) (kindP_out h1 h2 h3))
      go_wp2_with fail
      go_roundw
      case rel => exact ⟨j + 1, by go_num, by rw [HX.out], by omega, HB1.out, hB1⟩
      case measure => simp [intOf]; omega
    · obtain rfl : j = 14 := by omega
      go_wp2_with fail
      go_ret
      exact ⟨rfl, hbel⟩
end Go.Proofs.Ytpemgccocmdmbaa
