/- Parts of a pattern, counted; parentheses; is a pattern one of the words. -/
import Derived.Test.YtlnlefebcfnocaaSc
namespace Go.Proofs.Ytlnlefebcfnocaa
open Go.RowKit Go.Deep
attribute [local go_sem] Go.undef

def parB (o i : Int) : Bool := if o = 5 ∨ o = 6 then decide (i = 4 ∨ i = 5) else decide (i = 4)
set_option maxRecDepth 100000 in
set_option maxHeartbeats 4000000 in
theorem parens_any (w : World) (o i : Int) : Calls Try.prog 58 #[.int .i64 o, .int .i64 i] w fun e w' => e = .returned (.bool (parB o i)) ∧ w' = w := by
  have hp : Hid (parB o i = if o = 5 ∨ o = 6 then decide (i = 4 ∨ i = 5) else decide (i = 4)) := Lib.hid rfl
  generalize parB o i = r at hp ⊢
  by_cases h4 : i = 4
  · subst h4
    go_enter Try.func58, Try.ntmps58
    go_wp2_with fail
    all_goals
      go_ret
      refine ⟨?_, rfl⟩
      have h := hp.out
      simp_all
  · by_cases h5 : i = 5
    · subst h5
      go_enter Try.func58, Try.ntmps58
      go_wp2_with fail
      all_goals
        go_ret
        refine ⟨?_, rfl⟩
        have h := hp.out
        simp_all
    · have h4' : (i == 4) = false := by simp; exact h4
      have h5' : (i == 5) = false := by simp; exact h5
      go_enter Try.func58, Try.ntmps58
      go_wp2_with fail
      all_goals
        go_ret
        refine ⟨?_, rfl⟩
        have h := hp.out
        simp_all

def CNT (e : Ending) (w w' : World) : Prop := (∃ v : Int, e = .returned (.int .i64 v) ∧ 1 ≤ v ∧ v ≤ 16385) ∧ Below w.heap.size w w'
/-- The loop of count. -/
def LOC (w : World) (n : Nat) (left : Int) (v : Value) (sv iv : Value) (wr : World) : Prop :=
  ∃ (j : Nat) (s : Int), iv = .int .i64 j ∧ sv = .int .i64 s ∧ j ≤ n ∧ 1 ≤ s ∧ s ≤ left ∧ (∃ u0 u1, Blk wr w.heap.size 35 #[u0, u1, v]) ∧ Below w.heap.size w wr

set_option maxHeartbeats 8000000 in
set_option maxRecDepth 100000 in
theorem wcount_any : ∀ (m : Nat) (t : WT), t.high ≤ m → ∀ (w : World) (S : Nat → Prop) (cs : List Value) (deep left : Int), IsW w S t cs → (∀ b, S b → b < w.heap.size) → 0 ≤ deep → deep ≤ 69 → 0 ≤ left → left ≤ 16384 →
    Calls Try.prog 54 #[.agg cs.toArray, .int .i64 deep, .int .i64 left] w fun e w' => CNT e w w' := by
  intro m
  induction m with
  | zero => intro t ht; cases t; rw [WT.high_node] at ht; omega
  | succ m ih =>
    intro t ht w S cs deep left hd hS hd0 hd1 hs0 hs1
    obtain ⟨o, n, l⟩ := t
    obtain ⟨a, c, rfl, hrow⟩ := hd.open_
    have HH : Hid (∀ x ∈ l, x.high ≤ m) := fun x hx => by have := whigh_mem hx; rw [WT.high_node] at ht; omega
    have HROW := Lib.hid hrow
    have HS := Lib.hid hS
    have IH := Lib.hid ih
    have hcl : c ≤ maxLen := hrow.2.2.1
    have hlc : l.length ≤ c := hrow.2.1
    unfold maxLen at hcl
    clear ht hd hrow hS ih
    by_cases h1 : 68 < deep
    · go_enter Try.func54, Try.ntmps54
      go_wp2_with fail
      go_ret
      exact ⟨⟨_, rfl, by omega, by omega⟩, by go_grown⟩
    by_cases h2 : left ≤ 0
    · go_enter Try.func54, Try.ntmps54
      go_wp2_with fail
      go_ret
      exact ⟨⟨_, rfl, by omega, by omega⟩, by go_grown⟩
    go_enter Try.func54, Try.ntmps54
    simp only [Go.undef]
    go_wp2_with fail
    go_loopw [7, 18] (LOC w l.length left (.slice a l.length c)) (fun _ i _ => l.length - (intOf i).toNat)
    case atStart => exact ⟨0, 1, rfl, rfl, Nat.zero_le _, by omega, by omega, ⟨_, _, Blk.new _ _ _⟩, by go_grown⟩
    case round =>
      obtain ⟨j, s, rfl, rfl, hj, hq0, hq1, ⟨u0, u1, hB⟩, hbel⟩ := hrel
      have c2 := hB.cell 2
      simp only [List.getElem?_toArray, List.getElem?_cons_succ, List.getElem?_cons_zero] at c2
      have HB := Lib.hid hB
      have hsz := hbel.size
      clear hB
      by_cases hlt : j < l.length
      · obtain ⟨g, q, x, xs, rfl, hSg, hx, hD, hxl, hr⟩ := HROW.out.get hlt
        have hr2 : wr.rangeAt g (q + j * 3) xs := rangeAt_keep hr fun y => hbel.cell (p := ⟨g, y, none⟩) (HS.out g hSg)
        have hD2 := hD.under hbel HS.out
        have hc := IH.out x (HH.out x (List.mem_of_getElem? hx)) wr S xs (deep + 1) (left - s) hD2 (fun y hy => Nat.lt_of_lt_of_le (HS.out y hy) hsz) (by omega) (by omega) (by omega) (by omega)
        obtain ⟨ox, nx, lx⟩ := x
        obtain ⟨ax, cx, rfl, -⟩ := hD.open_
        have d0 := hr2 0 _ rfl
        have d1 := hr2 1 _ rfl
        have d2 := hr2 2 _ rfl
        simp only [Nat.add_zero] at d0
        have HC := Lib.hid hc
        clear hr hr2 hD hD2 hx hxl hc
        go_wp2_with fail
        refine HC.out.mono ?_
        rintro e w1 ⟨⟨z, rfl, hz0, hz1⟩, hb1⟩
        have hB1 : Below w.heap.size w w1 := hbel.trans (hb1.mono hsz)
        have HB1 : Hid (Blk w1 w.heap.size 35 _) := HB.out.under hb1 HB.out.lt
        clear c2 d0 d1 d2 hb1
        by_cases hz : left < s + z
        · go_wp2_with fail
          go_ret
          exact ⟨⟨_, rfl, by omega, by omega⟩, hB1⟩
        · go_wp2_with fail
          go_roundw
          case rel => exact ⟨j + 1, s + z, by go_num, rfl, by omega, by omega, by omega, ⟨_, _, HB1.out⟩, hB1⟩
          case measure => simp [intOf]; omega
      · obtain rfl : j = l.length := by omega
        go_wp2_with fail
        go_ret
        exact ⟨⟨_, rfl, by omega, by omega⟩, hbel⟩

def BOO (e : Ending) (w w' : World) : Prop := (∃ b, e = .returned (.bool b)) ∧ Below w.heap.size w w'
/-- The loop of Pattern. -/
def LOP (w : World) (n : Nat) (u0 u1 v : Value) (iv : Value) (wr : World) : Prop :=
  ∃ j : Nat, iv = .int .i64 j ∧ j ≤ n ∧ Blk wr w.heap.size 35 #[u0, u1, v] ∧ Below w.heap.size w wr
theorem LOP.drewN {w : World} {n : Nat} {u0 u1 v iv : Value} {wr : World} (h : LOP w n u0 u1 v iv wr) (m : Nat) : LOP w n u0 u1 v iv (wr.drewN m) := by
  obtain ⟨j, h1, h2, h3, h4⟩ := h
  exact ⟨j, h1, h2, h3.drewN m, below_drewN h4 m⟩

set_option maxHeartbeats 16000000 in
set_option maxRecDepth 100000 in
theorem pattern_any : ∀ (m : Nat) (t : WT), t.high ≤ m → ∀ (w : World) (S : Nat → Prop) (cs : List Value) (deep : Int), IsW w S t cs → (∀ b, S b → b < w.heap.size) → 0 ≤ deep → deep ≤ 36 →
    Calls Try.prog 55 #[.agg cs.toArray, .int .i64 deep] w fun e w' => BOO e w w' := by
  intro m
  induction m with
  | zero => intro t ht; cases t; rw [WT.high_node] at ht; omega
  | succ m ih =>
    intro t ht w S cs deep hd hS hd0 hd1
    obtain ⟨o, n, l⟩ := t
    obtain ⟨a, c, rfl, hrow⟩ := hd.open_
    have HH : Hid (∀ x ∈ l, x.high ≤ m) := fun x hx => by have := whigh_mem hx; rw [WT.high_node] at ht; omega
    have HROW := Lib.hid hrow
    have HS := Lib.hid hS
    have IH := Lib.hid ih
    have hcl : c ≤ maxLen := hrow.2.2.1
    have hlc : l.length ≤ c := hrow.2.1
    unfold maxLen at hcl
    clear ht hd hrow hS ih
    by_cases h1 : 32 < deep
    · go_enter Try.func55, Try.ntmps55
      go_wp2_with fail
      go_ret
      exact ⟨⟨_, rfl⟩, by go_grown⟩
    by_cases ho : o = 4 ∨ o = 5 ∨ o = 6
    · by_cases hn : n = 0
      · by_cases h6 : o = 6
        · by_cases hl : l.length = 1
          · have hl0 : 0 < l.length := by omega
            obtain ⟨g, q, x, xs, rfl, hSg, hx, hD, hxl, hr⟩ := HROW.out.get hl0
            have HX := Lib.hid (HH.out x (List.mem_of_getElem? hx))
            obtain ⟨ox, nx, lx⟩ := x
            obtain ⟨ax, cx, rfl, -⟩ := hD.open_
            have d0 := hr 0 _ rfl
            have d1 := hr 1 _ rfl
            have d2 := hr 2 _ rfl
            simp only [Nat.add_zero, Nat.zero_mul] at d0 d1 d2
            have hgs := HS.out g hSg
            have HD := Lib.hid hD
            have HP := Lib.hid (fun W => parens_any W o ox)
            generalize parB o ox = pb at HP
            have hi0 : (0 : Int) < (l.length : Int) := by omega
            clear hr hD hx hxl
            subst h6
            rw [hl] at *
            go_enter Try.func55, Try.ntmps55
            go_wp2_with fail
            go_quiet (first | (go_at_call 58; refine Calls.quiet_of_same (HP.out _)))
            have hc := fun W (hW : Below w.heap.size w W) dd (h0 : 0 ≤ dd) (h1 : dd ≤ 36) => IH.out _ HX.out W S _ dd (HD.out.under hW HS.out) (fun y hy => Nat.lt_of_lt_of_le (HS.out y hy) hW.size) h0 h1
            have HC := Lib.hid hc
            clear hc
            cases pb
            · go_wp2_with fail
              refine (HC.out _ (below_drewN (by go_grown) _) _ (by omega) (by omega)).mono ?_
              rintro e w1 ⟨⟨b, rfl⟩, hb1⟩
              have hB1 : Below w.heap.size w w1 := below_on hb1 (below_drewN (by go_grown) _)
              go_wp2_with fail
              go_ret
              exact ⟨⟨_, rfl⟩, hB1⟩
            · go_wp2_with fail
              refine (HC.out _ (below_drewN (by go_grown) _) _ (by omega) (by omega)).mono ?_
              rintro e w1 ⟨⟨b, rfl⟩, hb1⟩
              have hB1 : Below w.heap.size w w1 := below_on hb1 (below_drewN (by go_grown) _)
              go_wp2_with fail
              go_ret
              exact ⟨⟨_, rfl⟩, hB1⟩
          · have hl' : ((l.length : Int) != 1) = true := by simp; omega
            go_enter Try.func55, Try.ntmps55
            go_wp2_with fail
            go_ret
            exact ⟨⟨_, rfl⟩, by go_grown⟩
        · by_cases hl : l.length < 2
          · rcases ho with rfl | rfl | rfl
            · go_enter Try.func55, Try.ntmps55
              go_wp2_with fail
              go_ret
              exact ⟨⟨_, rfl⟩, by go_grown⟩
            · go_enter Try.func55, Try.ntmps55
              go_wp2_with fail
              go_ret
              exact ⟨⟨_, rfl⟩, by go_grown⟩
            · exact absurd rfl h6
          · rcases ho with rfl | rfl | rfl
            · subst hn
              go_enter Try.func55, Try.ntmps55
              simp only [Go.undef]
              go_wp2_with fail
              go_loopw [70] (fun iv wr => LOP w l.length (.int .i64 4) (.int .i64 0) (.slice a l.length c) iv wr) (fun i _ => l.length - (intOf i).toNat)
              case atStart => exact ⟨0, rfl, Nat.zero_le _, Blk.new _ _ _, by go_grown⟩
              case round =>
                obtain ⟨j, rfl, hj, hB, hbel⟩ := hrel
                have c0 := hB.cell 0
                have c2 := hB.cell 2
                simp only [List.getElem?_toArray, List.getElem?_cons_succ, List.getElem?_cons_zero] at c0 c2
                have HL := Lib.hid (fun m => LOP.drewN ⟨j, rfl, hj, hB, hbel⟩ m)
                have hsz := hbel.size
                by_cases hlt : j < l.length
                · obtain ⟨g, q, x, xs, rfl, hSg, hx, hD, hxl, hr⟩ := HROW.out.get hlt
                  have hr2 : wr.rangeAt g (q + j * 3) xs := rangeAt_keep hr fun y => hbel.cell (p := ⟨g, y, none⟩) (HS.out g hSg)
                  have hD2 := hD.under hbel HS.out
                  have hc := fun k dd (h0 : 0 ≤ dd) (h1 : dd ≤ 36) => IH.out x (HH.out x (List.mem_of_getElem? hx)) (wr.drewN k) S xs dd (hD2.under (below_drewN (Below.refl _ _) k) (fun y hy => Nat.lt_of_lt_of_le (HS.out y hy) hsz)) (fun y hy => Nat.lt_of_lt_of_le (HS.out y hy) hsz) h0 h1
                  obtain ⟨ox, nx, lx⟩ := x
                  obtain ⟨ax, cx, rfl, -⟩ := hD.open_
                  have d0 := hr2 0 _ rfl
                  have d1 := hr2 1 _ rfl
                  have d2 := hr2 2 _ rfl
                  simp only [Nat.add_zero] at d0
                  have HC := Lib.hid hc
                  have HB := Lib.hid hB
                  have HBEL := Lib.hid hbel
                  have HP := Lib.hid (fun W => parens_any W 4 ox)
                  generalize parB 4 ox = pb at HP
                  have hi0 : (0 : Int) ≤ (j : Int) := by omega
                  have hi1 : (j : Int) < (l.length : Int) := by omega
                  clear hr hr2 hD hD2 hx hxl hc hB hbel
                  go_wp2_with fail
                  go_quiet (first | (go_at_call 58; refine Calls.quiet_of_same (HP.out _)))
                  cases pb
                  · go_wp2_with fail
                    refine (HC.out _ _ (by omega) (by omega)).mono ?_
                    rintro e w1 ⟨⟨b, rfl⟩, hb1⟩
                    have hB1 : Below w.heap.size w w1 := below_on hb1 (below_drewN HBEL.out _)
                    have HB1 : Hid (Blk w1 w.heap.size 35 _) := (HB.out.drewN _).under hb1 HB.out.lt
                    clear hb1
                    cases b
                    · go_wp2_with fail
                      go_ret
                      exact ⟨⟨_, rfl⟩, hB1⟩
                    · go_wp2_with fail
                      go_roundw
                      case rel => exact ⟨j + 1, by go_num, by omega, HB1.out, hB1⟩
                      case measure => simp [intOf]; omega
                  · go_wp2_with fail
                    refine (HC.out _ _ (by omega) (by omega)).mono ?_
                    rintro e w1 ⟨⟨b, rfl⟩, hb1⟩
                    have hB1 : Below w.heap.size w w1 := below_on hb1 (below_drewN HBEL.out _)
                    have HB1 : Hid (Blk w1 w.heap.size 35 _) := (HB.out.drewN _).under hb1 HB.out.lt
                    clear hb1
                    cases b
                    · go_wp2_with fail
                      go_ret
                      exact ⟨⟨_, rfl⟩, hB1⟩
                    · go_wp2_with fail
                      go_roundw
                      case rel => exact ⟨j + 1, by go_num, by omega, HB1.out, hB1⟩
                      case measure => simp [intOf]; omega
                · obtain rfl : j = l.length := by omega
                  go_wp2_with fail
                  go_ret
                  exact ⟨⟨_, rfl⟩, hbel⟩
            · subst hn
              go_enter Try.func55, Try.ntmps55
              simp only [Go.undef]
              go_wp2_with fail
              go_loopw [70] (fun iv wr => LOP w l.length (.int .i64 5) (.int .i64 0) (.slice a l.length c) iv wr) (fun i _ => l.length - (intOf i).toNat)
              case atStart => exact ⟨0, rfl, Nat.zero_le _, Blk.new _ _ _, by go_grown⟩
              case round =>
                obtain ⟨j, rfl, hj, hB, hbel⟩ := hrel
                have c0 := hB.cell 0
                have c2 := hB.cell 2
                simp only [List.getElem?_toArray, List.getElem?_cons_succ, List.getElem?_cons_zero] at c0 c2
                have HL := Lib.hid (fun m => LOP.drewN ⟨j, rfl, hj, hB, hbel⟩ m)
                have hsz := hbel.size
                by_cases hlt : j < l.length
                · obtain ⟨g, q, x, xs, rfl, hSg, hx, hD, hxl, hr⟩ := HROW.out.get hlt
                  have hr2 : wr.rangeAt g (q + j * 3) xs := rangeAt_keep hr fun y => hbel.cell (p := ⟨g, y, none⟩) (HS.out g hSg)
                  have hD2 := hD.under hbel HS.out
                  have hc := fun k dd (h0 : 0 ≤ dd) (h1 : dd ≤ 36) => IH.out x (HH.out x (List.mem_of_getElem? hx)) (wr.drewN k) S xs dd (hD2.under (below_drewN (Below.refl _ _) k) (fun y hy => Nat.lt_of_lt_of_le (HS.out y hy) hsz)) (fun y hy => Nat.lt_of_lt_of_le (HS.out y hy) hsz) h0 h1
                  obtain ⟨ox, nx, lx⟩ := x
                  obtain ⟨ax, cx, rfl, -⟩ := hD.open_
                  have d0 := hr2 0 _ rfl
                  have d1 := hr2 1 _ rfl
                  have d2 := hr2 2 _ rfl
                  simp only [Nat.add_zero] at d0
                  have HC := Lib.hid hc
                  have HB := Lib.hid hB
                  have HBEL := Lib.hid hbel
                  have HP := Lib.hid (fun W => parens_any W 5 ox)
                  generalize parB 5 ox = pb at HP
                  have hi0 : (0 : Int) ≤ (j : Int) := by omega
                  have hi1 : (j : Int) < (l.length : Int) := by omega
                  clear hr hr2 hD hD2 hx hxl hc hB hbel
                  go_wp2_with fail
                  go_quiet (first | (go_at_call 58; refine Calls.quiet_of_same (HP.out _)))
                  cases pb
                  · go_wp2_with fail
                    refine (HC.out _ _ (by omega) (by omega)).mono ?_
                    rintro e w1 ⟨⟨b, rfl⟩, hb1⟩
                    have hB1 : Below w.heap.size w w1 := below_on hb1 (below_drewN HBEL.out _)
                    have HB1 : Hid (Blk w1 w.heap.size 35 _) := (HB.out.drewN _).under hb1 HB.out.lt
                    clear hb1
                    cases b
                    · go_wp2_with fail
                      go_ret
                      exact ⟨⟨_, rfl⟩, hB1⟩
                    · go_wp2_with fail
                      go_roundw
                      case rel => exact ⟨j + 1, by go_num, by omega, HB1.out, hB1⟩
                      case measure => simp [intOf]; omega
                  · go_wp2_with fail
                    refine (HC.out _ _ (by omega) (by omega)).mono ?_
                    rintro e w1 ⟨⟨b, rfl⟩, hb1⟩
                    have hB1 : Below w.heap.size w w1 := below_on hb1 (below_drewN HBEL.out _)
                    have HB1 : Hid (Blk w1 w.heap.size 35 _) := (HB.out.drewN _).under hb1 HB.out.lt
                    clear hb1
                    cases b
                    · go_wp2_with fail
                      go_ret
                      exact ⟨⟨_, rfl⟩, hB1⟩
                    · go_wp2_with fail
                      go_roundw
                      case rel => exact ⟨j + 1, by go_num, by omega, HB1.out, hB1⟩
                      case measure => simp [intOf]; omega
                · obtain rfl : j = l.length := by omega
                  go_wp2_with fail
                  go_ret
                  exact ⟨⟨_, rfl⟩, hbel⟩
            · exact absurd rfl h6
      · have hn' : (n != 0) = true := by simp; exact hn
        rcases ho with rfl | rfl | rfl
        all_goals
          go_enter Try.func55, Try.ntmps55
          go_wp2_with fail
          go_ret
          exact ⟨⟨_, rfl⟩, by go_grown⟩
    · have h4 : (o == 4) = false := by simp; omega
      have h5 : (o == 5) = false := by simp; omega
      have h6 : (o == 6) = false := by simp; omega
      go_enter Try.func55, Try.ntmps55
      go_wp2_with fail
      all_goals
        go_ret
        exact ⟨⟨_, rfl⟩, by go_grown⟩
end Go.Proofs.Ytlnlefebcfnocaa
