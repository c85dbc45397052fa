/- The counter's valid, of any pattern; Valid and Fit. -/
import Derived.Test.YtpemgccocmdmbaaLo
import Derived.IntWalk
namespace Go.Proofs.Ytpemgccocmdmbaa
open Go.RowKit

theorem Below.drewN' {B : Nat} {a w : World} (h : Below B a w) (n : Nat) : Below B a (w.drewN n) := ⟨h.os, h.tape, h.output, h.size, h.block⟩

/-- What valid leaves: the answer; what is left lies in the counter's block b. -/
def VP (w : World) (b : Nat) (Z : Int) (e : Ending) (w' : World) : Prop :=
  e = .returned (.bool (decide (0 ≤ Z))) ∧ (0 ≤ Z → Blk w' b 56 #[.int .i64 (16384 - Z)]) ∧ w.heap.size ≤ w'.heap.size ∧ Below b w w'
theorem VP.no {w w' : World} {b : Nat} (h : w.heap.size ≤ w'.heap.size) (hb : Below b w w') : VP w b (-1) (.returned (.bool false)) w' := ⟨rfl, fun h => absurd h (by omega), h, hb⟩
theorem VP.yes {w w' : World} {b : Nat} {Z : Int} (hz : 0 ≤ Z) (hB : Blk w' b 56 #[.int .i64 (16384 - Z)]) (h : w.heap.size ≤ w'.heap.size) (hb : Below b w w') : VP w b Z (.returned (.bool true)) w' := ⟨by rw [decide_eq_true hz], fun _ => hB, h, hb⟩

/-- The loop of valid. -/
def VLW (w : World) (b : Nat) (l : List WT) (deep X : Int) (iv : Value) (wr : World) : Prop :=
  ∃ (j : Nat) (s : Int), iv = .int .i64 j ∧ j ≤ l.length ∧ 0 ≤ s ∧ s ≤ 16384 ∧ lookL (l.drop j) deep s = X ∧ Blk wr b 56 #[.int .i64 (16384 - s)] ∧ w.heap.size ≤ wr.heap.size ∧ Below b w wr

set_option maxHeartbeats 8000000 in
set_option maxRecDepth 100000 in
theorem valid_in : ∀ (m : Nat) (t : WT), t.high ≤ m → ∀ (w : World) (S : Nat → Prop) (cs : List Value) (b : Nat) (deep seen : Int), IsW w S t cs → (∀ q, S q → q < b) → Blk w b 56 #[.int .i64 (16385 - seen)] → 0 ≤ deep → deep ≤ 129 → 0 ≤ seen → seen ≤ 16385 →
    Calls Try.prog 41 #[.pointer (some ⟨b, 0, none⟩), .agg cs.toArray, .int .i64 deep] w (VP w b (lookW t deep seen)) := by
  intro m
  induction m with
  | zero => intro t ht; cases t; rw [WT.high_node] at ht; omega
  | succ m ih =>
    intro t ht w S cs b deep seen hd hS hblk hd0 hd1 hs0 hs1
    obtain ⟨o, n, l⟩ := t
    obtain ⟨a, c, rfl, hrow⟩ := hd.open_
    have HH : Hid (∀ x ∈ l, x.high ≤ m) := fun x hx => by have := whigh_mem hx; rw [WT.high_node] at ht; omega
    have hT := lookW_node o n l deep seen
    generalize lookW (.node o n l) deep seen = X at hT ⊢
    have hbw := hblk.lt
    have b0 := hblk.cell 0
    have f0 := hblk.free 0
    simp only [List.getElem?_toArray, List.getElem?_cons_zero] at b0
    have HBLK : Hid (Blk ((w.setCell ⟨b, 0, none⟩ (.int .i64 (16384 - seen))).alloc (.cells #[.int .i64 o, .int .i64 n, .slice a l.length c] 24)) b 56 #[.int .i64 (16384 - seen)]) := (hblk.set 0 _).alloc _
    have HROW := Lib.hid hrow
    have HS := Lib.hid hS
    have IH := Lib.hid ih
    have hcl : c ≤ maxLen := hrow.2.2.1
    have hlc : l.length ≤ c := hrow.2.1
    unfold maxLen at hcl
    have hwr : IntKind.i64.wrap (16385 - seen - 1) = 16384 - seen := by rw [show 16385 - seen - 1 = 16384 - seen by omega]; exact IntWalk.i64_in _ (by omega)
    have hB0 : Below b w ((w.setCell ⟨b, 0, none⟩ (.int .i64 (16384 - seen))).alloc (.cells #[.int .i64 o, .int .i64 n, .slice a l.length c] 24)) := ((Below.refl b w).setCell (Nat.le_refl _) _).alloc (by simp; omega) _
    have hsz0 : w.heap.size ≤ ((w.setCell ⟨b, 0, none⟩ (.int .i64 (16384 - seen))).alloc (.cells #[.int .i64 o, .int .i64 n, .slice a l.length c] 24)).heap.size := by simp
    have HB0 := Lib.hid hB0
    have HSZ0 := Lib.hid hsz0
    clear ht hd hrow hS ih hblk hB0 hsz0
    by_cases h1 : 128 < deep
    · rw [if_pos (.inl h1)] at hT
      rw [hT]
      clear hT
      go_enter Try.func41, Try.ntmps41
      go_wp2_with fail
      go_ret
      exact VP.no HSZ0.out HB0.out
    by_cases h2 : 16384 < seen
    · rw [if_pos (.inr h2)] at hT
      rw [hT]
      clear hT
      go_enter Try.func41, Try.ntmps41
      go_wp2_with fail
      go_ret
      exact VP.no HSZ0.out HB0.out
    have h2' : ¬ 16384 - seen < 0 := by omega
    rw [if_neg (by omega)] at hT
    cases hok : okN o n l.length with
    | false =>
      rw [hok, if_neg (by simp)] at hT
      rw [hT]
      have HOK := Lib.hid hok
      clear hT hok
      by_cases h45 : o = 4 ∨ o = 5
      · rcases h45 with rfl | rfl
        all_goals
          go_enter Try.func41, Try.ntmps41
          go_wp2_with fail
          go_quiet (fail)
          go_wp2_with fail
          all_goals first
            | (go_ret; exact VP.no HSZ0.out (Below.drewN' HB0.out _))
            | (exfalso; have hh := HOK.out; simp_all [okN]; done)
            | (exfalso; have hh := HOK.out; simp_all [okN]; omega)
      · have h4 : ¬ o = 4 := fun e => h45 (.inl e)
        have h5 : ¬ o = 5 := fun e => h45 (.inr e)
        clear h45
        go_enter Try.func41, Try.ntmps41
        go_wp2_with fail
        all_goals first
          | (go_ret; exact VP.no HSZ0.out HB0.out)
          | (exfalso; have hh := HOK.out; simp_all [okN]; done)
          | (exfalso; have hh := HOK.out; simp_all [okN]; omega)
    | true =>
      rw [hok, if_pos rfl] at hT
      have HOK := Lib.hid hok
      have HT := Lib.hid hT
      clear hT hok
      by_cases h45 : o = 4 ∨ o = 5
      · obtain ⟨hn0, hl2⟩ : n = 0 ∧ 2 ≤ l.length := by
          have hh := HOK.out
          rcases h45 with rfl | rfl <;> simpa [okN] using hh
        subst hn0
        have e1 : decide ((l.length : Int) < 2) = false := decide_eq_false (by omega)
        have e2 : decide (0 < (l.length : Int)) = true := decide_eq_true (by omega)
        have e3 : 0 < l.length := by omega
        clear hl2
        rcases h45 with rfl | rfl
        all_goals
          go_enter Try.func41, Try.ntmps41
          go_wp2_with fail
          go_quiet (fail)
          go_wp2_with fail
          clear hwr b0 f0
          go_loopw [86] (VLW w b l deep X) (fun i _ => l.length - (intOf i).toNat)
          case atStart => exact ⟨0, seen, rfl, Nat.zero_le _, hs0, by omega, HT.out.symm, HBLK.out.drewN _, HSZ0.out, Below.drewN' HB0.out _⟩
          case round =>
            obtain ⟨j, s, rfl, hj, hq0, hq1, hkeep, hB, hsz, hbel⟩ := hrel
            have HK := Lib.hid hkeep
            have HB := Lib.hid hB
            clear hkeep hB
            by_cases hlt : j < l.length
            · obtain ⟨g, q, x, xs, rfl, hSg, hx, hD, hxl, hr⟩ := HROW.out.get hlt
              have hr2 : wr.rangeAt g (q + j * 3) xs := rangeAt_keep hr fun y => hbel.cell (p := ⟨g, y, none⟩) (HS.out g hSg)
              have hD2 := hD.under hbel HS.out
              have hbd := look_bd _ x (Nat.le_refl _) (deep + 1) (s + 1) (by omega)
              have hdr := look_drop hx deep s
              obtain ⟨ox, nx, lx⟩ := x
              obtain ⟨ax, cx, rfl, -⟩ := hD.open_
              have d0 := hr2 0 _ rfl
              have d1 := hr2 1 _ rfl
              have d2 := hr2 2 _ rfl
              simp only [Nat.add_zero] at d0
              have hwb : b < wr.heap.size := by omega
              have hba : Below b wr (wr.alloc (.cells #[.int .i64 ox, .int .i64 nx, .slice ax lx.length cx] 24)) := (Below.refl _ _).alloc (by omega) _
              have hc := IH.out (.node ox nx lx) (HH.out _ (List.mem_of_getElem? hx)) (wr.alloc (.cells #[.int .i64 ox, .int .i64 nx, .slice ax lx.length cx] 24)) S _ b (deep + 1) (s + 1) (hD2.under hba HS.out) HS.out (by have := HB.out.alloc (.cells #[.int .i64 ox, .int .i64 nx, .slice ax lx.length cx] 24); rw [show (16385 - (s + 1) : Int) = 16384 - s by omega]; exact this) (by omega) (by omega) (by omega) (by omega)
              generalize lookW (.node ox nx lx) (deep + 1) (s + 1) = z at hc hbd hdr
              have HC := Lib.hid hc
              have HDR := Lib.hid hdr
              have HBEL := Lib.hid (hbel.trans hba)
              have hsz1 : wr.heap.size ≤ (wr.alloc (.cells #[.int .i64 ox, .int .i64 nx, .slice ax lx.length cx] 24)).heap.size := by simp
              have HSZ1 := Lib.hid hsz1
              clear hr hr2 hD hD2 hx hxl hc hdr hbel hba hsz1
              go_wp2_with fail
              refine HC.out.mono ?_
              rintro e w1 ⟨rfl, hyes, hs2, hb1⟩
              have hB1 := Lib.hid (HBEL.out.trans hb1)
              have hs3 : w.heap.size ≤ w1.heap.size := Nat.le_trans hsz (Nat.le_trans HSZ1.out hs2)
              have HY := Lib.hid hyes
              clear d0 d1 d2 hb1 hyes hs2
              by_cases hz : 0 ≤ z
              · have hdz : decide (0 ≤ z) = true := decide_eq_true hz
                rw [hdz]
                have hz2 : ¬ z < 0 := by omega
                clear hdz
                go_wp2_with fail
                go_roundw
                case rel => exact ⟨j + 1, z, by go_num, by omega, hz, by omega, by rw [← HK.out, HDR.out, if_neg (by omega)], HY.out hz, hs3, hB1.out⟩
                case measure => simp [intOf]; omega
              · have hdz : decide (0 ≤ z) = false := decide_eq_false hz
                rw [hdz]
                have hz2 : z < 0 := by omega
                clear hdz
                go_wp2_with fail
                go_ret
                rw [show X = -1 by rw [← HK.out, HDR.out, if_pos hz2]]
                exact VP.no hs3 hB1.out
            · obtain rfl : j = l.length := by omega
              have hX : X = s := by rw [← HK.out]; simp [lookL_nil]
              subst hX
              go_wp2_with fail
              go_ret
              exact VP.yes hq0 HB.out hsz hbel
      · have hop : (l = [] ∧ ((o = 1 ∧ n = 0) ∨ (o = 2 ∧ 0 ≤ n ∧ n < 14) ∨ (o = 3 ∧ 0 ≤ n ∧ n < 10))) ∨ (o = 6 ∧ n = 0 ∧ l.length = 1) := by
          have hh := HOK.out
          by_cases h1 : o = 1
          · subst h1
            have : n = 0 ∧ l = [] := by simpa [okN] using hh
            exact .inl ⟨this.2, .inl ⟨rfl, this.1⟩⟩
          by_cases h2 : o = 2
          · subst h2
            have : (0 ≤ n ∧ n < 14) ∧ l = [] := by simpa [okN] using hh
            exact .inl ⟨this.2, .inr (.inl ⟨rfl, this.1⟩)⟩
          by_cases h3 : o = 3
          · subst h3
            have : (0 ≤ n ∧ n < 10) ∧ l = [] := by simpa [okN] using hh
            exact .inl ⟨this.2, .inr (.inr ⟨rfl, this.1⟩)⟩
          by_cases h6 : o = 6
          · subst h6
            have : n = 0 ∧ l.length = 1 := by simpa [okN] using hh
            exact .inr ⟨rfl, this⟩
          · exact absurd hh (by simp [okN, h1, h2, h3, h45, h6])
        clear h45 HOK
        rcases hop with ⟨hl, hop⟩ | ⟨rfl, hn0, hl1⟩
        · subst hl
          have hX : X = seen := by rw [HT.out, lookL_nil]
          subst hX
          clear HT
          have e1 : decide (n < 0) = decide (n < 0) := rfl
          rcases hop with ⟨rfl, rfl⟩ | ⟨rfl, hn0, hn1⟩ | ⟨rfl, hn0, hn1⟩
          all_goals
            go_enter Try.func41, Try.ntmps41
            go_wp2_with fail
            clear hwr b0 f0
            go_loopw [86] (fun iv wr => iv = .int .i64 0 ∧ Blk wr b 56 #[.int .i64 (16384 - X)] ∧ w.heap.size ≤ wr.heap.size ∧ Below b w wr) (fun _ _ => 0)
            case atStart => exact ⟨rfl, HBLK.out, HSZ0.out, HB0.out⟩
            case round =>
              obtain ⟨rfl, hB, hsz, hbel⟩ := hrel
              have HB := Lib.hid hB
              clear hB
              go_wp2_with fail
              go_ret
              exact VP.yes hs0 HB.out hsz hbel
        · subst hn0
          obtain ⟨x0, rfl⟩ : ∃ x0, l = [x0] := List.length_eq_one_iff.1 hl1
          clear hl1
          go_enter Try.func41, Try.ntmps41
          go_wp2_with fail
          clear hwr b0 f0
          go_loopw [86] (VLW w b [x0] deep X) (fun i _ => [x0].length - (intOf i).toNat)
          case atStart => exact ⟨0, seen, rfl, Nat.zero_le _, hs0, by omega, HT.out.symm, HBLK.out, HSZ0.out, HB0.out⟩
          case round =>
            obtain ⟨j, s, rfl, hj, hq0, hq1, hkeep, hB, hsz, hbel⟩ := hrel
            have HK := Lib.hid hkeep
            have HB := Lib.hid hB
            clear hkeep hB
            by_cases hlt : j < [x0].length
            · obtain ⟨g, q, x, xs, rfl, hSg, hx, hD, hxl, hr⟩ := HROW.out.get hlt
              have hr2 : wr.rangeAt g (q + j * 3) xs := rangeAt_keep hr fun y => hbel.cell (p := ⟨g, y, none⟩) (HS.out g hSg)
              have hD2 := hD.under hbel HS.out
              have hbd := look_bd _ x (Nat.le_refl _) (deep + 1) (s + 1) (by omega)
              have hdr := look_drop hx deep s
              obtain ⟨ox, nx, lx⟩ := x
              obtain ⟨ax, cx, rfl, -⟩ := hD.open_
              have d0 := hr2 0 _ rfl
              have d1 := hr2 1 _ rfl
              have d2 := hr2 2 _ rfl
              simp only [Nat.add_zero] at d0
              have hwb : b < wr.heap.size := by omega
              have hba : Below b wr (wr.alloc (.cells #[.int .i64 ox, .int .i64 nx, .slice ax lx.length cx] 24)) := (Below.refl _ _).alloc (by omega) _
              have hc := IH.out (.node ox nx lx) (HH.out _ (List.mem_of_getElem? hx)) (wr.alloc (.cells #[.int .i64 ox, .int .i64 nx, .slice ax lx.length cx] 24)) S _ b (deep + 1) (s + 1) (hD2.under hba HS.out) HS.out (by have := HB.out.alloc (.cells #[.int .i64 ox, .int .i64 nx, .slice ax lx.length cx] 24); rw [show (16385 - (s + 1) : Int) = 16384 - s by omega]; exact this) (by omega) (by omega) (by omega) (by omega)
              generalize lookW (.node ox nx lx) (deep + 1) (s + 1) = z at hc hbd hdr
              have hj1 : ¬ (1 ≤ (j : Int)) := by simp at hlt; omega
              have HC := Lib.hid hc
              have HDR := Lib.hid hdr
              have HBEL := Lib.hid (hbel.trans hba)
              have hsz1 : wr.heap.size ≤ (wr.alloc (.cells #[.int .i64 ox, .int .i64 nx, .slice ax lx.length cx] 24)).heap.size := by simp
              have HSZ1 := Lib.hid hsz1
              clear hr hr2 hD hD2 hx hxl hc hdr hbel hba hsz1
              go_wp2_with fail
              refine HC.out.mono ?_
              rintro e w1 ⟨rfl, hyes, hs2, hb1⟩
              have hB1 := Lib.hid (HBEL.out.trans hb1)
              have hs3 : w.heap.size ≤ w1.heap.size := Nat.le_trans hsz (Nat.le_trans HSZ1.out hs2)
              have HY := Lib.hid hyes
              clear d0 d1 d2 hb1 hyes hs2
              by_cases hz : 0 ≤ z
              · have hdz : decide (0 ≤ z) = true := decide_eq_true hz
                rw [hdz]
                have hz2 : ¬ z < 0 := by omega
                clear hdz
                go_wp2_with fail
                go_roundw
                case rel => exact ⟨j + 1, z, by go_num, by omega, hz, by omega, by rw [← HK.out, HDR.out, if_neg (by omega)], HY.out hz, hs3, hB1.out⟩
                case measure => simp [intOf]; omega
              · have hdz : decide (0 ≤ z) = false := decide_eq_false hz
                rw [hdz]
                have hz2 : z < 0 := by omega
                clear hdz
                go_wp2_with fail
                go_ret
                rw [show X = -1 by rw [← HK.out, HDR.out, if_pos hz2]]
                exact VP.no hs3 hB1.out
            · obtain rfl : j = 1 := by simp at hlt hj; omega
              have hX : X = s := by rw [← HK.out]; simp [lookL_nil]
              subst hX
              go_wp2_with fail
              go_ret
              exact VP.yes hq0 HB.out hsz hbel
end Go.Proofs.Ytpemgccocmdmbaa
