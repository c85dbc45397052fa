/- best, by each of the two orders. -/
import Derived.Test.YtmdcfmdjbncaoaaMt
namespace Go.Proofs.Ytmdcfmdjbncaoaa
open Go.RowKit
attribute [local go_sem ↓] Go.wp_at_zero Go.wp_at_succ

set_option maxHeartbeats 4000000 in
set_option maxRecDepth 100000 in
theorem cmp_low (m m' : MX) (w : World) (S S' : Nat → Prop) (cs cs' : List Value) (hm : IsM w S m cs) (hm' : IsM w S' m' cs') (v : Bool) (hv : decide (m.prio < m'.prio) = v) :
    Calls Try.prog 42 #[.agg cs.toArray, .agg cs'.toArray] w fun e w' => e = .returned (.bool v) ∧ Below w.heap.size w w' := by
  obtain ⟨k, i, b, s, a, n, c, rfl, -, -, -⟩ := hm
  obtain ⟨k1, i1, b1, s1, a1, n1, c1, rfl, -, -, -⟩ := hm'
  have HV := Lib.hid hv
  clear hv
  go_enter Try.func42, Try.ntmps42
  go_wp2_with fail
  go_ret
  refine ⟨?_, by go_grown⟩
  rw [← HV.out]
  rfl

set_option maxHeartbeats 4000000 in
set_option maxRecDepth 100000 in
theorem best_low (l : List MX) (a : Option Addr) (n c : Nat) (S : Nat → Prop) (w : World) (hrow : RM w S l a n c) (hS : ∀ b, S b → b < w.heap.size) :
    Calls Try.prog 41 #[.slice a n c, .func (.func 42) #[] #[]] w fun e w' => e = .returned (.int .i64 (lowI l n : Nat)) ∧ Below w.heap.size w w' := by
  have hcl : c ≤ maxLen := hrow.2.2.1
  have hlc : n ≤ c := hrow.2.1
  obtain rfl : n = l.length := hrow.1
  unfold maxLen at hcl
  have HROW := Lib.hid hrow
  have HS := Lib.hid hS
  clear hrow hS
  go_enter Try.func41, Try.ntmps41
  go_wp2_with fail
  go_loopw [5, 9] (fun kv iv wr => ∃ j t : Nat, iv = .int .i64 j ∧ kv = .int .i64 t ∧ t = lowI l j ∧ j ≤ l.length ∧ Below w.heap.size w wr) (fun _ i _ => l.length - (intOf i).toNat)
  case atStart => exact ⟨0, 0, rfl, rfl, rfl, Nat.zero_le _, Below.refl _ _⟩
  case round =>
    obtain ⟨j, t, rfl, rfl, ht, hj, hbel⟩ := hrel
    have HT := Lib.hid ht
    clear ht
    have hsz := hbel.size
    by_cases hlt : j < l.length
    · have htl : t < l.length := by rw [HT.out]; exact lowI_lt (by omega) hj
      obtain ⟨g, o, x, xs, ha, hSg, hx, hm, hxl, hr⟩ := HROW.out.get hlt
      obtain ⟨g', o', y, ys, ha', hSg', hy, hm', hyl, hr'⟩ := HROW.out.get htl
      have hgo : g' = g ∧ o' = o := by rw [ha] at ha'; injection ha' with h; injection h with h1 h2; exact ⟨h1.symm, h2.symm⟩
      obtain ⟨rfl, rfl⟩ := hgo
      subst ha
      have hr2 : wr.rangeAt g' (o' + j * 13) xs := rangeAt_keep hr fun q => hbel.cell (p := ⟨g', q, none⟩) (HS.out g' hSg)
      have hr3 : wr.rangeAt g' (o' + t * 13) ys := rangeAt_keep hr' fun q => hbel.cell (p := ⟨g', q, none⟩) (HS.out g' hSg')
      obtain ⟨k1, i1, b1, s1, a1, n1, c1, rfl, -, -, -⟩ := id hm
      obtain ⟨k2, i2, b2, s2, a2, n2, c2, rfl, -, -, -⟩ := id hm'
      have hstep : lowI l (j + 1) = if x.prio < y.prio then j else t := by
        rw [lowI, ← HT.out, atM_get hx, atM_get hy]
      have HST := Lib.hid hstep
      have hc := fun v hv => cmp_low x y wr.drew S S _ _ (hm.under hbel HS.out).drew (hm'.under hbel HS.out).drew v hv
      obtain ⟨d0, d1, d2, d3, d4, d5, d6, d7, d8, d9, d10, d11, d12⟩ := range13 hr2
      obtain ⟨e0, e1, e2, e3, e4, e5, e6, e7, e8, e9, e10, e11, e12⟩ := range13 hr3
      have hg : g' < wr.heap.size := Nat.lt_of_lt_of_le (HS.out g' hSg') hsz
      have hj0 : (0 : Int) ≤ (j : Int) := by omega
      have hj1 : (j : Int) < (l.length : Int) := by omega
      have hj2 : (0 : Int) ≤ (t : Int) := by omega
      have hj3 : (t : Int) < (l.length : Int) := by omega
      clear hr hr' hm hm' hx hy hr2 hr3 hstep hxl hyl
      by_cases hp : x.prio < y.prio
      · have HC := Lib.hid (hc true (decide_eq_true hp))
        have HP := Lib.hid hp
        clear hc hp
        go_wp2_with fail
        go_region_held3 (fun w' => w'.cell? ⟨g', o' + j * 13, none⟩ = some (.int .i64 x.id) ∧ w'.cell? ⟨g', o' + j * 13 + 1, none⟩ = some (.string x.topic) ∧ w'.cell? ⟨g', o' + j * 13 + 2, none⟩ = some (.int .i64 k1) ∧ w'.cell? ⟨g', o' + j * 13 + 3, none⟩ = some (.int .i64 i1) ∧ w'.cell? ⟨g', o' + j * 13 + 4, none⟩ = some (.int .u64 b1) ∧ w'.cell? ⟨g', o' + j * 13 + 5, none⟩ = some (.string s1) ∧ w'.cell? ⟨g', o' + j * 13 + 6, none⟩ = some (.slice a1 n1 c1) ∧ w'.cell? ⟨g', o' + j * 13 + 7, none⟩ = some (.int .i64 x.tat) ∧ w'.cell? ⟨g', o' + j * 13 + 8, none⟩ = some (.int .i64 x.til) ∧ w'.cell? ⟨g', o' + j * 13 + 9, none⟩ = some (.string x.reply) ∧ w'.cell? ⟨g', o' + j * 13 + 10, none⟩ = some (.int .i64 x.corr) ∧ w'.cell? ⟨g', o' + j * 13 + 11, none⟩ = some (.int .i64 x.prio) ∧ w'.cell? ⟨g', o' + j * 13 + 12, none⟩ = some (.int .i64 x.hops) ∧ w'.cell? ⟨g', o' + t * 13, none⟩ = some (.int .i64 y.id) ∧ w'.cell? ⟨g', o' + t * 13 + 1, none⟩ = some (.string y.topic) ∧ w'.cell? ⟨g', o' + t * 13 + 2, none⟩ = some (.int .i64 k2) ∧ w'.cell? ⟨g', o' + t * 13 + 3, none⟩ = some (.int .i64 i2) ∧ w'.cell? ⟨g', o' + t * 13 + 4, none⟩ = some (.int .u64 b2) ∧ w'.cell? ⟨g', o' + t * 13 + 5, none⟩ = some (.string s2) ∧ w'.cell? ⟨g', o' + t * 13 + 6, none⟩ = some (.slice a2 n2 c2) ∧ w'.cell? ⟨g', o' + t * 13 + 7, none⟩ = some (.int .i64 y.tat) ∧ w'.cell? ⟨g', o' + t * 13 + 8, none⟩ = some (.int .i64 y.til) ∧ w'.cell? ⟨g', o' + t * 13 + 9, none⟩ = some (.string y.reply) ∧ w'.cell? ⟨g', o' + t * 13 + 10, none⟩ = some (.int .i64 y.corr) ∧ w'.cell? ⟨g', o' + t * 13 + 11, none⟩ = some (.int .i64 y.prio) ∧ w'.cell? ⟨g', o' + t * 13 + 12, none⟩ = some (.int .i64 y.hops))
          (first
            | (exact ⟨d0, d1, d2, d3, d4, d5, d6, d7, d8, d9, d10, d11, d12, e0, e1, e2, e3, e4, e5, e6, e7, e8, e9, e10, e11, e12⟩)
            | (exact ⟨cell_over hb1 hg d0, cell_over hb1 hg d1, cell_over hb1 hg d2, cell_over hb1 hg d3, cell_over hb1 hg d4, cell_over hb1 hg d5, cell_over hb1 hg d6, cell_over hb1 hg d7, cell_over hb1 hg d8, cell_over hb1 hg d9, cell_over hb1 hg d10, cell_over hb1 hg d11, cell_over hb1 hg d12, cell_over hb1 hg e0, cell_over hb1 hg e1, cell_over hb1 hg e2, cell_over hb1 hg e3, cell_over hb1 hg e4, cell_over hb1 hg e5, cell_over hb1 hg e6, cell_over hb1 hg e7, cell_over hb1 hg e8, cell_over hb1 hg e9, cell_over hb1 hg e10, cell_over hb1 hg e11, cell_over hb1 hg e12⟩))
          (first | (go_at_call 42; refine HC.out.mono ?_; rintro e w1 ⟨rfl, hb1⟩))
        have hB1 : Below w.heap.size w w1 := hbel.trans (((Below.refl _ _).drew.trans hb1).mono hsz)
        clear d0 d1 d2 d3 d4 d5 d6 d7 d8 d9 d10 d11 d12 e0 e1 e2 e3 e4 e5 e6 e7 e8 e9 e10 e11 e12 hb1
        go_wp2_with fail
        go_roundw
        case rel => exact ⟨j + 1, j, by go_num, rfl, by rw [HST.out, if_pos (HP.out)], by omega, hB1⟩
        case measure => simp [intOf]; omega
      · have HC := Lib.hid (hc false (decide_eq_false hp))
        have HP := Lib.hid hp
        clear hc hp
        go_wp2_with fail
        go_region_held3 (fun w' => w'.cell? ⟨g', o' + j * 13, none⟩ = some (.int .i64 x.id) ∧ w'.cell? ⟨g', o' + j * 13 + 1, none⟩ = some (.string x.topic) ∧ w'.cell? ⟨g', o' + j * 13 + 2, none⟩ = some (.int .i64 k1) ∧ w'.cell? ⟨g', o' + j * 13 + 3, none⟩ = some (.int .i64 i1) ∧ w'.cell? ⟨g', o' + j * 13 + 4, none⟩ = some (.int .u64 b1) ∧ w'.cell? ⟨g', o' + j * 13 + 5, none⟩ = some (.string s1) ∧ w'.cell? ⟨g', o' + j * 13 + 6, none⟩ = some (.slice a1 n1 c1) ∧ w'.cell? ⟨g', o' + j * 13 + 7, none⟩ = some (.int .i64 x.tat) ∧ w'.cell? ⟨g', o' + j * 13 + 8, none⟩ = some (.int .i64 x.til) ∧ w'.cell? ⟨g', o' + j * 13 + 9, none⟩ = some (.string x.reply) ∧ w'.cell? ⟨g', o' + j * 13 + 10, none⟩ = some (.int .i64 x.corr) ∧ w'.cell? ⟨g', o' + j * 13 + 11, none⟩ = some (.int .i64 x.prio) ∧ w'.cell? ⟨g', o' + j * 13 + 12, none⟩ = some (.int .i64 x.hops) ∧ w'.cell? ⟨g', o' + t * 13, none⟩ = some (.int .i64 y.id) ∧ w'.cell? ⟨g', o' + t * 13 + 1, none⟩ = some (.string y.topic) ∧ w'.cell? ⟨g', o' + t * 13 + 2, none⟩ = some (.int .i64 k2) ∧ w'.cell? ⟨g', o' + t * 13 + 3, none⟩ = some (.int .i64 i2) ∧ w'.cell? ⟨g', o' + t * 13 + 4, none⟩ = some (.int .u64 b2) ∧ w'.cell? ⟨g', o' + t * 13 + 5, none⟩ = some (.string s2) ∧ w'.cell? ⟨g', o' + t * 13 + 6, none⟩ = some (.slice a2 n2 c2) ∧ w'.cell? ⟨g', o' + t * 13 + 7, none⟩ = some (.int .i64 y.tat) ∧ w'.cell? ⟨g', o' + t * 13 + 8, none⟩ = some (.int .i64 y.til) ∧ w'.cell? ⟨g', o' + t * 13 + 9, none⟩ = some (.string y.reply) ∧ w'.cell? ⟨g', o' + t * 13 + 10, none⟩ = some (.int .i64 y.corr) ∧ w'.cell? ⟨g', o' + t * 13 + 11, none⟩ = some (.int .i64 y.prio) ∧ w'.cell? ⟨g', o' + t * 13 + 12, none⟩ = some (.int .i64 y.hops))
          (first
            | (exact ⟨d0, d1, d2, d3, d4, d5, d6, d7, d8, d9, d10, d11, d12, e0, e1, e2, e3, e4, e5, e6, e7, e8, e9, e10, e11, e12⟩)
            | (exact ⟨cell_over hb1 hg d0, cell_over hb1 hg d1, cell_over hb1 hg d2, cell_over hb1 hg d3, cell_over hb1 hg d4, cell_over hb1 hg d5, cell_over hb1 hg d6, cell_over hb1 hg d7, cell_over hb1 hg d8, cell_over hb1 hg d9, cell_over hb1 hg d10, cell_over hb1 hg d11, cell_over hb1 hg d12, cell_over hb1 hg e0, cell_over hb1 hg e1, cell_over hb1 hg e2, cell_over hb1 hg e3, cell_over hb1 hg e4, cell_over hb1 hg e5, cell_over hb1 hg e6, cell_over hb1 hg e7, cell_over hb1 hg e8, cell_over hb1 hg e9, cell_over hb1 hg e10, cell_over hb1 hg e11, cell_over hb1 hg e12⟩))
          (first | (go_at_call 42; refine HC.out.mono ?_; rintro e w1 ⟨rfl, hb1⟩))
        have hB1 : Below w.heap.size w w1 := hbel.trans (((Below.refl _ _).drew.trans hb1).mono hsz)
        clear d0 d1 d2 d3 d4 d5 d6 d7 d8 d9 d10 d11 d12 e0 e1 e2 e3 e4 e5 e6 e7 e8 e9 e10 e11 e12 hb1
        go_wp2_with fail
        go_roundw
        case rel => exact ⟨j + 1, t, by go_num, rfl, by rw [HST.out, if_neg (by have := HP.out; omega)], by omega, hB1⟩
        case measure => simp [intOf]; omega
    · obtain rfl : j = l.length := by omega
      go_wp2_with fail
      go_ret
      exact ⟨ret_int (by rw [HT.out]), hbel⟩

set_option maxHeartbeats 4000000 in
set_option maxRecDepth 100000 in
theorem cmp_high (m m' : MX) (w : World) (S S' : Nat → Prop) (cs cs' : List Value) (hm : IsM w S m cs) (hm' : IsM w S' m' cs') (v : Bool) (hv : decide (m'.prio < m.prio) = v) :
    Calls Try.prog 45 #[.agg cs.toArray, .agg cs'.toArray] w fun e w' => e = .returned (.bool v) ∧ Below w.heap.size w w' := by
  obtain ⟨k, i, b, s, a, n, c, rfl, -, -, -⟩ := hm
  obtain ⟨k1, i1, b1, s1, a1, n1, c1, rfl, -, -, -⟩ := hm'
  have HV := Lib.hid hv
  clear hv
  go_enter Try.func45, Try.ntmps45
  go_wp2_with fail
  go_ret
  refine ⟨?_, by go_grown⟩
  rw [← HV.out]
  rfl

set_option maxHeartbeats 4000000 in
set_option maxRecDepth 100000 in
theorem best_high (l : List MX) (a : Option Addr) (n c : Nat) (S : Nat → Prop) (w : World) (hrow : RM w S l a n c) (hS : ∀ b, S b → b < w.heap.size) :
    Calls Try.prog 41 #[.slice a n c, .func (.func 45) #[] #[]] w fun e w' => e = .returned (.int .i64 (highI l n : Nat)) ∧ Below w.heap.size w w' := by
  have hcl : c ≤ maxLen := hrow.2.2.1
  have hlc : n ≤ c := hrow.2.1
  obtain rfl : n = l.length := hrow.1
  unfold maxLen at hcl
  have HROW := Lib.hid hrow
  have HS := Lib.hid hS
  clear hrow hS
  go_enter Try.func41, Try.ntmps41
  go_wp2_with fail
  go_loopw [5, 9] (fun kv iv wr => ∃ j t : Nat, iv = .int .i64 j ∧ kv = .int .i64 t ∧ t = highI l j ∧ j ≤ l.length ∧ Below w.heap.size w wr) (fun _ i _ => l.length - (intOf i).toNat)
  case atStart => exact ⟨0, 0, rfl, rfl, rfl, Nat.zero_le _, Below.refl _ _⟩
  case round =>
    obtain ⟨j, t, rfl, rfl, ht, hj, hbel⟩ := hrel
    have HT := Lib.hid ht
    clear ht
    have hsz := hbel.size
    by_cases hlt : j < l.length
    · have htl : t < l.length := by rw [HT.out]; exact highI_lt (by omega) hj
      obtain ⟨g, o, x, xs, ha, hSg, hx, hm, hxl, hr⟩ := HROW.out.get hlt
      obtain ⟨g', o', y, ys, ha', hSg', hy, hm', hyl, hr'⟩ := HROW.out.get htl
      have hgo : g' = g ∧ o' = o := by rw [ha] at ha'; injection ha' with h; injection h with h1 h2; exact ⟨h1.symm, h2.symm⟩
      obtain ⟨rfl, rfl⟩ := hgo
      subst ha
      have hr2 : wr.rangeAt g' (o' + j * 13) xs := rangeAt_keep hr fun q => hbel.cell (p := ⟨g', q, none⟩) (HS.out g' hSg)
      have hr3 : wr.rangeAt g' (o' + t * 13) ys := rangeAt_keep hr' fun q => hbel.cell (p := ⟨g', q, none⟩) (HS.out g' hSg')
      obtain ⟨k1, i1, b1, s1, a1, n1, c1, rfl, -, -, -⟩ := id hm
      obtain ⟨k2, i2, b2, s2, a2, n2, c2, rfl, -, -, -⟩ := id hm'
      have hstep : highI l (j + 1) = if y.prio < x.prio then j else t := by
        rw [highI, ← HT.out, atM_get hx, atM_get hy]
      have HST := Lib.hid hstep
      have hc := fun v hv => cmp_high x y wr.drew S S _ _ (hm.under hbel HS.out).drew (hm'.under hbel HS.out).drew v hv
      obtain ⟨d0, d1, d2, d3, d4, d5, d6, d7, d8, d9, d10, d11, d12⟩ := range13 hr2
      obtain ⟨e0, e1, e2, e3, e4, e5, e6, e7, e8, e9, e10, e11, e12⟩ := range13 hr3
      have hg : g' < wr.heap.size := Nat.lt_of_lt_of_le (HS.out g' hSg') hsz
      have hj0 : (0 : Int) ≤ (j : Int) := by omega
      have hj1 : (j : Int) < (l.length : Int) := by omega
      have hj2 : (0 : Int) ≤ (t : Int) := by omega
      have hj3 : (t : Int) < (l.length : Int) := by omega
      clear hr hr' hm hm' hx hy hr2 hr3 hstep hxl hyl
      by_cases hp : y.prio < x.prio
      · have HC := Lib.hid (hc true (decide_eq_true hp))
        have HP := Lib.hid hp
        clear hc hp
        go_wp2_with fail
        go_region_held3 (fun w' => w'.cell? ⟨g', o' + j * 13, none⟩ = some (.int .i64 x.id) ∧ w'.cell? ⟨g', o' + j * 13 + 1, none⟩ = some (.string x.topic) ∧ w'.cell? ⟨g', o' + j * 13 + 2, none⟩ = some (.int .i64 k1) ∧ w'.cell? ⟨g', o' + j * 13 + 3, none⟩ = some (.int .i64 i1) ∧ w'.cell? ⟨g', o' + j * 13 + 4, none⟩ = some (.int .u64 b1) ∧ w'.cell? ⟨g', o' + j * 13 + 5, none⟩ = some (.string s1) ∧ w'.cell? ⟨g', o' + j * 13 + 6, none⟩ = some (.slice a1 n1 c1) ∧ w'.cell? ⟨g', o' + j * 13 + 7, none⟩ = some (.int .i64 x.tat) ∧ w'.cell? ⟨g', o' + j * 13 + 8, none⟩ = some (.int .i64 x.til) ∧ w'.cell? ⟨g', o' + j * 13 + 9, none⟩ = some (.string x.reply) ∧ w'.cell? ⟨g', o' + j * 13 + 10, none⟩ = some (.int .i64 x.corr) ∧ w'.cell? ⟨g', o' + j * 13 + 11, none⟩ = some (.int .i64 x.prio) ∧ w'.cell? ⟨g', o' + j * 13 + 12, none⟩ = some (.int .i64 x.hops) ∧ w'.cell? ⟨g', o' + t * 13, none⟩ = some (.int .i64 y.id) ∧ w'.cell? ⟨g', o' + t * 13 + 1, none⟩ = some (.string y.topic) ∧ w'.cell? ⟨g', o' + t * 13 + 2, none⟩ = some (.int .i64 k2) ∧ w'.cell? ⟨g', o' + t * 13 + 3, none⟩ = some (.int .i64 i2) ∧ w'.cell? ⟨g', o' + t * 13 + 4, none⟩ = some (.int .u64 b2) ∧ w'.cell? ⟨g', o' + t * 13 + 5, none⟩ = some (.string s2) ∧ w'.cell? ⟨g', o' + t * 13 + 6, none⟩ = some (.slice a2 n2 c2) ∧ w'.cell? ⟨g', o' + t * 13 + 7, none⟩ = some (.int .i64 y.tat) ∧ w'.cell? ⟨g', o' + t * 13 + 8, none⟩ = some (.int .i64 y.til) ∧ w'.cell? ⟨g', o' + t * 13 + 9, none⟩ = some (.string y.reply) ∧ w'.cell? ⟨g', o' + t * 13 + 10, none⟩ = some (.int .i64 y.corr) ∧ w'.cell? ⟨g', o' + t * 13 + 11, none⟩ = some (.int .i64 y.prio) ∧ w'.cell? ⟨g', o' + t * 13 + 12, none⟩ = some (.int .i64 y.hops))
          (first
            | (exact ⟨d0, d1, d2, d3, d4, d5, d6, d7, d8, d9, d10, d11, d12, e0, e1, e2, e3, e4, e5, e6, e7, e8, e9, e10, e11, e12⟩)
            | (exact ⟨cell_over hb1 hg d0, cell_over hb1 hg d1, cell_over hb1 hg d2, cell_over hb1 hg d3, cell_over hb1 hg d4, cell_over hb1 hg d5, cell_over hb1 hg d6, cell_over hb1 hg d7, cell_over hb1 hg d8, cell_over hb1 hg d9, cell_over hb1 hg d10, cell_over hb1 hg d11, cell_over hb1 hg d12, cell_over hb1 hg e0, cell_over hb1 hg e1, cell_over hb1 hg e2, cell_over hb1 hg e3, cell_over hb1 hg e4, cell_over hb1 hg e5, cell_over hb1 hg e6, cell_over hb1 hg e7, cell_over hb1 hg e8, cell_over hb1 hg e9, cell_over hb1 hg e10, cell_over hb1 hg e11, cell_over hb1 hg e12⟩))
          (first | (go_at_call 45; refine HC.out.mono ?_; rintro e w1 ⟨rfl, hb1⟩))
        have hB1 : Below w.heap.size w w1 := hbel.trans (((Below.refl _ _).drew.trans hb1).mono hsz)
        clear d0 d1 d2 d3 d4 d5 d6 d7 d8 d9 d10 d11 d12 e0 e1 e2 e3 e4 e5 e6 e7 e8 e9 e10 e11 e12 hb1
        go_wp2_with fail
        go_roundw
        case rel => exact ⟨j + 1, j, by go_num, rfl, by rw [HST.out, if_pos (HP.out)], by omega, hB1⟩
        case measure => simp [intOf]; omega
      · have HC := Lib.hid (hc false (decide_eq_false hp))
        have HP := Lib.hid hp
        clear hc hp
        go_wp2_with fail
        go_region_held3 (fun w' => w'.cell? ⟨g', o' + j * 13, none⟩ = some (.int .i64 x.id) ∧ w'.cell? ⟨g', o' + j * 13 + 1, none⟩ = some (.string x.topic) ∧ w'.cell? ⟨g', o' + j * 13 + 2, none⟩ = some (.int .i64 k1) ∧ w'.cell? ⟨g', o' + j * 13 + 3, none⟩ = some (.int .i64 i1) ∧ w'.cell? ⟨g', o' + j * 13 + 4, none⟩ = some (.int .u64 b1) ∧ w'.cell? ⟨g', o' + j * 13 + 5, none⟩ = some (.string s1) ∧ w'.cell? ⟨g', o' + j * 13 + 6, none⟩ = some (.slice a1 n1 c1) ∧ w'.cell? ⟨g', o' + j * 13 + 7, none⟩ = some (.int .i64 x.tat) ∧ w'.cell? ⟨g', o' + j * 13 + 8, none⟩ = some (.int .i64 x.til) ∧ w'.cell? ⟨g', o' + j * 13 + 9, none⟩ = some (.string x.reply) ∧ w'.cell? ⟨g', o' + j * 13 + 10, none⟩ = some (.int .i64 x.corr) ∧ w'.cell? ⟨g', o' + j * 13 + 11, none⟩ = some (.int .i64 x.prio) ∧ w'.cell? ⟨g', o' + j * 13 + 12, none⟩ = some (.int .i64 x.hops) ∧ w'.cell? ⟨g', o' + t * 13, none⟩ = some (.int .i64 y.id) ∧ w'.cell? ⟨g', o' + t * 13 + 1, none⟩ = some (.string y.topic) ∧ w'.cell? ⟨g', o' + t * 13 + 2, none⟩ = some (.int .i64 k2) ∧ w'.cell? ⟨g', o' + t * 13 + 3, none⟩ = some (.int .i64 i2) ∧ w'.cell? ⟨g', o' + t * 13 + 4, none⟩ = some (.int .u64 b2) ∧ w'.cell? ⟨g', o' + t * 13 + 5, none⟩ = some (.string s2) ∧ w'.cell? ⟨g', o' + t * 13 + 6, none⟩ = some (.slice a2 n2 c2) ∧ w'.cell? ⟨g', o' + t * 13 + 7, none⟩ = some (.int .i64 y.tat) ∧ w'.cell? ⟨g', o' + t * 13 + 8, none⟩ = some (.int .i64 y.til) ∧ w'.cell? ⟨g', o' + t * 13 + 9, none⟩ = some (.string y.reply) ∧ w'.cell? ⟨g', o' + t * 13 + 10, none⟩ = some (.int .i64 y.corr) ∧ w'.cell? ⟨g', o' + t * 13 + 11, none⟩ = some (.int .i64 y.prio) ∧ w'.cell? ⟨g', o' + t * 13 + 12, none⟩ = some (.int .i64 y.hops))
          (first
            | (exact ⟨d0, d1, d2, d3, d4, d5, d6, d7, d8, d9, d10, d11, d12, e0, e1, e2, e3, e4, e5, e6, e7, e8, e9, e10, e11, e12⟩)
            | (exact ⟨cell_over hb1 hg d0, cell_over hb1 hg d1, cell_over hb1 hg d2, cell_over hb1 hg d3, cell_over hb1 hg d4, cell_over hb1 hg d5, cell_over hb1 hg d6, cell_over hb1 hg d7, cell_over hb1 hg d8, cell_over hb1 hg d9, cell_over hb1 hg d10, cell_over hb1 hg d11, cell_over hb1 hg d12, cell_over hb1 hg e0, cell_over hb1 hg e1, cell_over hb1 hg e2, cell_over hb1 hg e3, cell_over hb1 hg e4, cell_over hb1 hg e5, cell_over hb1 hg e6, cell_over hb1 hg e7, cell_over hb1 hg e8, cell_over hb1 hg e9, cell_over hb1 hg e10, cell_over hb1 hg e11, cell_over hb1 hg e12⟩))
          (first | (go_at_call 45; refine HC.out.mono ?_; rintro e w1 ⟨rfl, hb1⟩))
        have hB1 : Below w.heap.size w w1 := hbel.trans (((Below.refl _ _).drew.trans hb1).mono hsz)
        clear d0 d1 d2 d3 d4 d5 d6 d7 d8 d9 d10 d11 d12 e0 e1 e2 e3 e4 e5 e6 e7 e8 e9 e10 e11 e12 hb1
        go_wp2_with fail
        go_roundw
        case rel => exact ⟨j + 1, t, by go_num, rfl, by rw [HST.out, if_neg (by have := HP.out; omega)], by omega, hB1⟩
        case measure => simp [intOf]; omega
    · obtain rfl : j = l.length := by omega
      go_wp2_with fail
      go_ret
      exact ⟨ret_int (by rw [HT.out]), hbel⟩
end Go.Proofs.Ytmdcfmdjbncaoaa
