/- The reference's look, of any pattern. -/
import Derived.Test.YtpemgccocmdmbaaW
namespace Go.Proofs.Ytpemgccocmdmbaa
open Go.RowKit

/-- The loop of look. -/
def LOW (w : World) (l : List WT) (deep X : Int) (v : Value) (sv iv : Value) (wr : World) : Prop :=
  ∃ (j : Nat) (s : Int), iv = .int .i64 j ∧ sv = .int .i64 s ∧ j ≤ l.length ∧ 0 ≤ s ∧ s ≤ 16384 ∧ lookL (l.drop j) deep s = X ∧ (∃ u0 u1, Blk wr w.heap.size 24 #[u0, u1, v]) ∧ Below w.heap.size w wr

set_option maxHeartbeats 8000000 in
set_option maxRecDepth 100000 in
theorem look_any : ∀ (m : Nat) (t : WT), t.high ≤ m → ∀ (w : World) (S : Nat → Prop) (cs : List Value) (deep seen : Int), IsW w S t cs → (∀ b, S b → b < w.heap.size) → 0 ≤ deep → deep ≤ 129 → 0 ≤ seen → seen ≤ 16385 →
    Calls Try.prog 42 #[.agg cs.toArray, .int .i64 deep, .int .i64 seen] w fun e w' => e = .returned (.int .i64 (lookW t deep seen)) ∧ Below w.heap.size w w' := by
  intro m
  induction m with
  | zero => intro t ht; cases t; rw [WT.high_node] at ht; omega
  | succ m ih =>
    intro t ht w S cs deep seen hd hS hd0 hd1 hs0 hs1
    obtain ⟨o, n, l⟩ := t
    obtain ⟨a, c, rfl, hrow⟩ := hd.open_
    have HH : Hid (∀ x ∈ l, x.high ≤ m) := fun x hx => by have := whigh_mem hx; rw [WT.high_node] at ht; omega
    have hT := lookW_node o n l deep seen
    have HROW := Lib.hid hrow
    have HS := Lib.hid hS
    have IH := Lib.hid ih
    have hcl : c ≤ maxLen := hrow.2.2.1
    have hlc : l.length ≤ c := hrow.2.1
    unfold maxLen at hcl
    clear ht hd hrow hS ih
    by_cases h1 : 128 < deep
    · rw [if_pos (.inl h1)] at hT
      rw [hT]
      clear hT
      go_enter Try.func42, Try.ntmps42
      go_wp2_with fail
      go_ret
      exact ⟨rfl, by go_grown⟩
    by_cases h2 : 16384 < seen
    · rw [if_pos (.inr h2)] at hT
      rw [hT]
      clear hT
      go_enter Try.func42, Try.ntmps42
      go_wp2_with fail
      go_ret
      exact ⟨rfl, by go_grown⟩
    rw [if_neg (by omega)] at hT
    cases hok : okN o n l.length with
    | false =>
      rw [hok, if_neg (by simp)] at hT
      rw [hT]
      have HOK := Lib.hid hok
      clear hT hok
      go_enter Try.func42, Try.ntmps42
      go_wp2_with fail
      all_goals first
        | (go_ret; exact ⟨rfl, by go_grown⟩)
        | (exfalso; have hh := HOK.out; simp_all [okN]; done)
        | (exfalso; have hh := HOK.out; simp_all [okN]; omega)
    | true =>
      rw [hok, if_pos rfl] at hT
      have HOK := Lib.hid hok
      have HT := Lib.hid hT
      clear hT hok
      go_enter Try.func42, Try.ntmps42
      go_wp2_with fail
      all_goals first
        | (exfalso; have hh := HOK.out; simp_all [okN]; done)
        | (exfalso; have hh := HOK.out; simp_all [okN]; omega)
        | skip
      all_goals
        go_loopw [2, 8] (LOW w l deep (lookW (.node o n l) deep seen) (.slice a l.length c)) (fun _ i _ => l.length - (intOf i).toNat)
        case atStart => exact ⟨0, seen, rfl, rfl, Nat.zero_le _, hs0, by omega, HT.out.symm, ⟨_, _, Blk.new _ _ _⟩, by go_grown⟩
        case round =>
          obtain ⟨j, s, rfl, rfl, hj, hq0, hq1, hkeep, ⟨u0, u1, hB⟩, hbel⟩ := hrel
          have HK := Lib.hid hkeep
          have c2 := hB.cell 2
          simp only [List.getElem?_toArray, List.getElem?_cons_succ, List.getElem?_cons_zero] at c2
          have HB := Lib.hid hB
          have hsz := hbel.size
          clear hkeep hB
          by_cases hlt : j < l.length
          · obtain ⟨g, q, x, xs, rfl, hSg, hx, hD, hxl, hr⟩ := HROW.out.get hlt
            have hr2 : wr.rangeAt g (q + j * 3) xs := rangeAt_keep hr fun y => hbel.cell (p := ⟨g, y, none⟩) (HS.out g hSg)
            have hD2 := hD.under hbel HS.out
            have hbd := look_bd _ x (Nat.le_refl _) (deep + 1) (s + 1) (by omega)
            have hdr := look_drop hx deep s
            have hc := IH.out x (HH.out x (List.mem_of_getElem? hx)) wr S xs (deep + 1) (s + 1) hD2 (fun y hy => Nat.lt_of_lt_of_le (HS.out y hy) hsz) (by omega) (by omega) (by omega) (by omega)
            generalize lookW x (deep + 1) (s + 1) = z at hc hbd hdr
            obtain ⟨ox, nx, lx⟩ := x
            obtain ⟨ax, cx, rfl, -⟩ := hD.open_
            have d0 := hr2 0 _ rfl
            have d1 := hr2 1 _ rfl
            have d2 := hr2 2 _ rfl
            simp only [Nat.add_zero] at d0
            have HC := Lib.hid hc
            have HDR := Lib.hid hdr
            clear hr hr2 hD hD2 hx hxl hc hdr
            go_wp2_with fail
            refine HC.out.mono ?_
            rintro e w1 ⟨rfl, hb1⟩
            have hB1 : Below w.heap.size w w1 := hbel.trans (hb1.mono hsz)
            have HB1 : Hid (Blk w1 w.heap.size 24 _) := HB.out.under hb1 HB.out.lt
            clear c2 d0 d1 d2 hb1
            by_cases hz : z < 0
            · go_wp2_with fail
              go_ret
              exact ⟨ret_i (by rw [← HK.out, HDR.out, if_pos hz]), hB1⟩
            · go_wp2_with fail
              go_roundw
              case rel => exact ⟨j + 1, z, by go_num, rfl, by omega, by omega, by omega, by rw [← HK.out, HDR.out, if_neg (by omega)], ⟨_, _, HB1.out⟩, hB1⟩
              case measure => simp [intOf]; omega
          · obtain rfl : j = l.length := by omega
            go_wp2_with fail
            go_ret
            exact ⟨ret_i (by rw [← HK.out]; simp [lookL_nil]), hbel⟩
end Go.Proofs.Ytpemgccocmdmbaa
