/- The program's reader: frame. -/
import Derived.Test.YtknjloffkiidhaaJr
namespace Go.Proofs.Ytknjloffkiidhaa
open Go.RowKit Go.Deep
attribute [local go_sem] Go.undef

theorem Blk.drewN {w : World} {g : Nat} {t : TypeId} {cs : Array Value} (h : Blk w g t cs) (m : Nat) : Blk (w.drewN m) g t cs := h
theorem BY.drewN {w : World} {S : Nat → Prop} {a : Option Addr} {l : List Nat} (h : BY w S a l) (m : Nat) : BY (w.drewN m) S a l := h
theorem drewN_drewN (w : World) (m k : Nat) : (w.drewN m).drewN k = w.drewN (m + k) := World.drewN_drewN w m k

theorem BY.dropAt {w : World} {S : Nat → Prop} {g o : Nat} {l : List Nat} (h : BY w S (some ⟨g, o, none⟩) l) (at' : Nat) {i : Nat} (hi : at' + i < l.length) :
    w.cell? ⟨g, o + (at' + i), none⟩ = some (.int .u8 (((l.drop at').getD i 0 : Nat) : Int)) ∧ (l.drop at').getD i 0 < 256 := by
  obtain ⟨g', o', x, ha, -, hx, hx8, hc⟩ := h.at hi
  injection ha with ha
  injection ha with e1 e2
  subst e1 e2
  have e : (l.drop at').getD i 0 = x := by rw [List.getD_eq_getElem?_getD, List.getElem?_drop, hx]; rfl
  rw [e]
  exact ⟨hc, hx8⟩
theorem len_turned {a b c d : Nat} (ha : a < 256) (hb : b < 256) (hc : c < 256) (hd : d < 256) : (c = 255 - a ∧ d = 255 - b) ↔ c + 256 * d = 65535 - (a + 256 * b) := by omega

/-- What frame leaves. -/
def FQ (w : World) (B : Nat) (a : Option Addr) (l : List Nat) (c at' : Nat) (e : Ending) (w' : World) : Prop :=
  (wholeL (l.drop at') = false ∧ e = .returned (.tuple #[.slice none 0 0, .bool false]) ∧ ∃ m, w' = w.drewN m) ∨
  (wholeL (l.drop at') = true ∧ ∃ g o, a = some ⟨g, o, none⟩ ∧ e = .returned (.tuple #[.slice (some ⟨g, o + (at' + 4), none⟩) (lenL (l.drop at')) (c - (at' + 4)), .bool true]) ∧ ∃ m, w' = (w.drewN m).setCell ⟨B, 1, none⟩ (.int .i64 ((at' + lenL (l.drop at') + 8 : Nat) : Int)))

set_option maxRecDepth 100000 in
set_option maxHeartbeats 8000000 in
theorem frame_any (w : World) (B : Nat) (S : Nat → Prop) (a : Option Addr) (l : List Nat) (n c at' : Nat) (hb : Blk w B 51 #[.slice a n c, .int .i64 at']) (hby : BY w S a l) (hl : l.length = n) (hnc : n ≤ c) (hc : c ≤ 9223372036854775807) (hat : at' ≤ n) :
    Calls Try.prog 20 #[.pointer (some ⟨B, 0, none⟩)] w (FQ w B a l c at') := by
  have HB := Lib.hid hb
  have HBY := Lib.hid hby
  have HL := Lib.hid hl
  have hdl : (l.drop at').length = n - at' := by rw [List.length_drop, hl]
  by_cases h8 : n - at' < 8
  · have hw : wholeL (l.drop at') = false := by
      rw [Bool.eq_false_iff]
      intro h
      have := ((wholeL_iff _).1 h).1
      omega
    have HW := Lib.hid hw
    have h8' : ((n - at' : Nat) : Int) < 8 := by omega
    clear hb hby hl hdl hw
    go_enter Try.func20, Try.ntmps20
    go_wp2_with fail
    refine (left_any _ B n c at' a hat (HB.out.drewN 0) (by omega)).mono ?_
    rintro e w1 ⟨rfl, m1, rfl⟩
    go_wp2_with fail
    go_ret2
    exact .inl ⟨HW.out, rfl, _, rfl⟩
  · have h8' : (8 : Int) ≤ ((n - at' : Nat) : Int) := by omega
    obtain ⟨g, o, rfl, -, -⟩ := hby.2 (by omega)
    obtain ⟨c0, b0⟩ := hby.dropAt at' (i := 0) (by omega)
    obtain ⟨c1, b1⟩ := hby.dropAt at' (i := 1) (by omega)
    obtain ⟨c2, b2⟩ := hby.dropAt at' (i := 2) (by omega)
    obtain ⟨c3, b3⟩ := hby.dropAt at' (i := 3) (by omega)
    have hwi := wholeL_iff (l.drop at')
    rw [hdl] at hwi
    have hlen : lenL (l.drop at') = (l.drop at').getD 0 0 + 256 * (l.drop at').getD 1 0 := rfl
    have hturn := len_turned b0 b1 b2 b3
    rw [← hlen] at hturn
    have hN : lenL (l.drop at') < 65536 := by rw [hlen]; omega
    rw [hturn] at hwi
    have p0 := fun k => peek_any (w.drewN k) B n c at' 0 2 g o (by omega) (by omega) hnc hc (HB.out.drewN k)
    have q0 := fun k => pair_any (w.drewN k) g (o + (at' + 0)) 2 (c - (at' + 0)) _ _ (by omega) b0 b1 c0 c1
    have p2 := fun k => peek_any (w.drewN k) B n c at' 2 2 g o (by omega) (by omega) hnc hc (HB.out.drewN k)
    have q2 := fun k => pair_any (w.drewN k) g (o + (at' + 2)) 2 (c - (at' + 2)) _ _ (by omega) b2 b3 c2 c3
    rw [← hlen] at q0
    generalize hM : (l.drop at').getD 2 0 + 256 * (l.drop at').getD 3 0 = M at hwi q2
    have hM6 : M < 65536 := by omega
    have P0 := Lib.hid p0
    have Q0 := Lib.hid q0
    have P2 := Lib.hid p2
    have Q2 := Lib.hid q2
    have HWI := Lib.hid hwi
    clear hb hturn hlen c0 c1 c2 c3 b0 b1 b2 b3 hM p0 q0 p2 q2 hwi hby hl
    have hx := xor_ones hN
    by_cases hm : M = 65535 - lenL (l.drop at')
    · have hmb : ((M : Int) != ((65535 - lenL (l.drop at') : Nat) : Int)) = false := by simp; omega
      by_cases hr : n - at' < lenL (l.drop at') + 8
      · have hw : wholeL (l.drop at') = false := by
          rw [Bool.eq_false_iff]
          intro h
          have := (HWI.out.1 h).2.2.1
          omega
        have HW := Lib.hid hw
        generalize lenL (l.drop at') = N at *
        have hr' : ((n - at' : Nat) : Int) < (N : Int) + 8 := by omega
        clear hw hm hr
        go_enter Try.func20, Try.ntmps20
        go_wp2_with fail
        refine (left_any _ B n c at' _ hat (HB.out.drewN 0) (by omega)).mono ?_
        rintro e w1 ⟨rfl, m1, rfl⟩
        go_wp2_with fail
        refine (P0.out _).mono ?_
        rintro e w2 ⟨rfl, m2, rfl⟩
        rw [drewN_drewN]
        go_wp2_with fail
        refine (Q0.out _).mono ?_
        rintro e w3 ⟨rfl, m3, rfl⟩
        rw [drewN_drewN]
        go_wp2_with fail
        refine (P2.out _).mono ?_
        rintro e w4 ⟨rfl, m4, rfl⟩
        rw [drewN_drewN]
        go_wp2_with fail
        refine (Q2.out _).mono ?_
        rintro e w5 ⟨rfl, m5, rfl⟩
        rw [drewN_drewN]
        go_wp2_with fail
        refine (left_any _ B n c at' _ hat (HB.out.drewN _) (by omega)).mono ?_
        rintro e w6 ⟨rfl, m6, rfl⟩
        rw [drewN_drewN]
        go_wp2_with fail
        go_ret2
        exact .inl ⟨HW.out, rfl, _, rfl⟩
      · have hr' : (lenL (l.drop at') : Int) + 8 ≤ ((n - at' : Nat) : Int) := by omega
        have hl := HL.out
        have hby := HBY.out
        have hpc : BY w S (some ⟨g, o + (at' + 4), none⟩) (recL (l.drop at')) := by
          have h := hby.piece (at' + 4) (lenL (l.drop at'))
          rw [recL, List.drop_drop]
          exact h
        have hrl : (recL (l.drop at')).length = lenL (l.drop at') := recL_len (by rw [hdl]; omega)
        have hwi := HWI.out
        rw [List.drop_drop] at hwi
        obtain ⟨c0, b0⟩ := hby.dropAt (at' + (4 + lenL (l.drop at'))) (i := 0) (by omega)
        obtain ⟨c1, b1⟩ := hby.dropAt (at' + (4 + lenL (l.drop at'))) (i := 1) (by omega)
        obtain ⟨c2, b2⟩ := hby.dropAt (at' + (4 + lenL (l.drop at'))) (i := 2) (by omega)
        obtain ⟨c3, b3⟩ := hby.dropAt (at' + (4 + lenL (l.drop at'))) (i := 3) (by omega)
        unfold num4 at hwi
        have hs := fun k => sum_any (w.drewN k) S _ _ _ (c - (at' + 4)) hrl (by omega) (hpc.drewN k)
        have hslt := sumL_lt (recL (l.drop at'))
        have hwb : wholeL (l.drop at') = decide (sumL (recL (l.drop at')) = (l.drop (at' + (4 + lenL (l.drop at')))).getD 0 0 + 256 * (l.drop (at' + (4 + lenL (l.drop at')))).getD 1 0 + 65536 * (l.drop (at' + (4 + lenL (l.drop at')))).getD 2 0 + 16777216 * (l.drop (at' + (4 + lenL (l.drop at')))).getD 3 0) := by
          rw [Bool.eq_iff_iff, decide_eq_true_eq, hwi]
          exact ⟨fun h => h.2.2.2, fun h => ⟨by omega, hm, by omega, h⟩⟩
        generalize sumL (recL (l.drop at')) = sm at hs hslt hwb
        generalize (l.drop (at' + (4 + lenL (l.drop at')))).getD 0 0 = y0 at *
        generalize (l.drop (at' + (4 + lenL (l.drop at')))).getD 1 0 = y1 at *
        generalize (l.drop (at' + (4 + lenL (l.drop at')))).getD 2 0 = y2 at *
        generalize (l.drop (at' + (4 + lenL (l.drop at')))).getD 3 0 = y3 at *
        generalize hNN : lenL (l.drop at') = N at *
        have HNN := Lib.hid hNN
        clear hNN
        have p4 := fun k => peek_any (w.drewN k) B n c at' 4 N g o (by omega) (by omega) hnc hc (HB.out.drewN k)
        have p5 := fun k => peek_any (w.drewN k) B n c at' (4 + N) 4 g o (by omega) (by omega) hnc hc (HB.out.drewN k)
        have e4 : ((4 + N : Nat) : Int) = 4 + (N : Int) := by simp
        rw [e4] at p5
        have qa := fun k => pair_any (w.drewN k) g (o + (at' + (4 + N))) 4 (c - (at' + (4 + N))) y0 y1 (by omega) b0 b1 c0 c1
        have qb := fun k => pair_any (w.drewN k) g (o + (at' + (4 + N)) + 2) 2 (c - (at' + (4 + N)) - 2) y2 y3 (by omega) b2 b3 c2 c3
        have ho := or_pair (show y0 + 256 * y1 < 65536 by omega) (show y2 + 256 * y3 < 65536 by omega)
        have P4 := Lib.hid p4
        have P5 := Lib.hid p5
        have QA := Lib.hid qa
        have QB := Lib.hid qb
        have HSM := Lib.hid hs
        have HWB := Lib.hid hwb
        clear hs hwb hwi hpc hrl hby hl p4 p5 qa qb e4 c0 c1 c2 c3 hm hr
        have ha : y0 + 256 * y1 < 65536 := by omega
        have hb : y2 + 256 * y3 < 65536 := by omega
        generalize hA : y0 + 256 * y1 = A at *
        generalize hBB : y2 + 256 * y3 = Bq at *
        go_enter Try.func20, Try.ntmps20
        go_wp2_with fail
        refine (left_any _ B n c at' _ hat (HB.out.drewN 0) (by omega)).mono ?_
        rintro e w1 ⟨rfl, m1, rfl⟩
        go_wp2_with fail
        refine (P0.out _).mono ?_
        rintro e w2 ⟨rfl, m2, rfl⟩
        rw [drewN_drewN]
        go_wp2_with fail
        refine (Q0.out _).mono ?_
        rintro e w3 ⟨rfl, m3, rfl⟩
        rw [drewN_drewN]
        go_wp2_with fail
        refine (P2.out _).mono ?_
        rintro e w4 ⟨rfl, m4, rfl⟩
        rw [drewN_drewN]
        go_wp2_with fail
        refine (Q2.out _).mono ?_
        rintro e w5 ⟨rfl, m5, rfl⟩
        rw [drewN_drewN]
        go_wp2_with fail
        refine (left_any _ B n c at' _ hat (HB.out.drewN _) (by omega)).mono ?_
        rintro e w6 ⟨rfl, m6, rfl⟩
        rw [drewN_drewN]
        go_wp2_with fail
        refine (P4.out _).mono ?_
        rintro e w7 ⟨rfl, m7, rfl⟩
        rw [drewN_drewN]
        go_wp2_with fail
        refine (P5.out _).mono ?_
        rintro e w8 ⟨rfl, m8, rfl⟩
        rw [drewN_drewN]
        generalize hW1 : w.drewN (m1 + m2 + m3 + m4 + m5 + m6 + m7 + m8) = W1
        have HSM1 : Hid (∀ k, Calls Try.prog 10 #[.slice (some ⟨g, o + (at' + 4), none⟩) N (c - (at' + 4))] (W1.drewN k) fun e w' => e = .returned (.int .u32 sm) ∧ w' = W1.drewN k) := fun k => by
          rw [← hW1, drewN_drewN]
          exact (HSM.out _).mono fun _ _ h => ⟨h.1, h.2.symm⟩
        have QA1 : Hid (∀ k, Calls Try.prog 26 #[.slice (some ⟨g, o + (at' + (4 + N)), none⟩) 4 (c - (at' + (4 + N)))] (W1.drewN k) fun e w' => e = .returned (.int .i64 A) ∧ ∃ m, w' = (W1.drewN k).drewN m) := fun k => by
          rw [← hW1, drewN_drewN]
          exact QA.out _
        have QB1 : Hid (∀ k, Calls Try.prog 26 #[.slice (some ⟨g, o + (at' + (4 + N)) + 2, none⟩) 2 (c - (at' + (4 + N)) - 2)] (W1.drewN k) fun e w' => e = .returned (.int .i64 Bq) ∧ ∃ m, w' = (W1.drewN k).drewN m) := fun k => by
          rw [← hW1, drewN_drewN]
          exact QB.out _
        have HW1 := Lib.hid hW1
        clear hW1
        have hct : 2 ≤ c - (at' + (4 + N)) := by omega
        have hct2 : 2 < c - (at' + (4 + N)) := by omega
        by_cases hq : sm = A + 65536 * Bq
        · have hqb : ((sm : Int) != (A : Int) + 65536 * (Bq : Int)) = false := by simp; omega
          have hw : wholeL (l.drop at') = true := by rw [HWB.out, decide_eq_true_eq]; omega
          have HW := Lib.hid hw
          clear hw hq hA hBB
          go_upto_region 8 with fail
          go_quiet (first
            | (go_at_call 10; refine Calls.quiet_of_same (HSM1.out _))
            | (go_at_call 26; with_reducible refine Calls.quiet_of (QA1.out _))
            | (go_at_call 26; with_reducible refine Calls.quiet_of (QB1.out _)))
          have hB1 : Blk W1 B 51 #[.slice (some ⟨g, o, none⟩) n c, .int .i64 at'] := by rw [← HW1.out]; exact HB.out
          have z1 : W1.cell? ⟨B, 1, none⟩ = some (.int .i64 at') := hB1.cell 1
          have f1 := hB1.free 1
          clear hB1
          go_wp2_with fail
          go_ret2
          have hmm : ∀ k, W1.drewN k = w.drewN (m1 + m2 + m3 + m4 + m5 + m6 + m7 + m8 + k) := fun k => by rw [← HW1.out, drewN_drewN]
          have hai : (at' : Int) + ((N : Int) + 8) = ((at' + N + 8 : Nat) : Int) := by omega
          rw [hmm, hai]
          refine .inr ⟨HW.out, g, o, rfl, ?e1, ?mm, ?e2⟩
          case e2 => rw [HNN.out]
          case e1 => rw [HNN.out]; rfl
        · have hqb : ((sm : Int) != (A : Int) + 65536 * (Bq : Int)) = true := by simp; omega
          have hw : wholeL (l.drop at') = false := by rw [HWB.out, decide_eq_false_iff_not]; omega
          have HW := Lib.hid hw
          clear hw hq hA hBB
          go_upto_region 8 with fail
          go_quiet (first
            | (go_at_call 10; refine Calls.quiet_of_same (HSM1.out _))
            | (go_at_call 26; with_reducible refine Calls.quiet_of (QA1.out _))
            | (go_at_call 26; with_reducible refine Calls.quiet_of (QB1.out _)))
          go_wp2_with fail
          go_ret2
          exact .inl ⟨HW.out, rfl, _, by rw [← HW1.out, drewN_drewN]⟩
    · have hw : wholeL (l.drop at') = false := by
        rw [Bool.eq_false_iff]
        intro h
        exact hm (HWI.out.1 h).2.1
      have hmb : ((M : Int) != ((65535 - lenL (l.drop at') : Nat) : Int)) = true := by simp; omega
      have HW := Lib.hid hw
      generalize lenL (l.drop at') = N at *
      clear hw hm
      go_enter Try.func20, Try.ntmps20
      go_wp2_with fail
      refine (left_any _ B n c at' _ hat (HB.out.drewN 0) (by omega)).mono ?_
      rintro e w1 ⟨rfl, m1, rfl⟩
      go_wp2_with fail
      refine (P0.out _).mono ?_
      rintro e w2 ⟨rfl, m2, rfl⟩
      rw [drewN_drewN]
      go_wp2_with fail
      refine (Q0.out _).mono ?_
      rintro e w3 ⟨rfl, m3, rfl⟩
      rw [drewN_drewN]
      go_wp2_with fail
      refine (P2.out _).mono ?_
      rintro e w4 ⟨rfl, m4, rfl⟩
      rw [drewN_drewN]
      go_wp2_with fail
      refine (Q2.out _).mono ?_
      rintro e w5 ⟨rfl, m5, rfl⟩
      rw [drewN_drewN]
      go_wp2_with fail
      go_ret2
      exact .inl ⟨HW.out, rfl, _, rfl⟩
end Go.Proofs.Ytknjloffkiidhaa
