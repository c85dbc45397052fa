/- valid of a list of results; the reference's Run; SameResult of two results that are one. -/
import Derived.Test.YtmdcfmdjbncaoaaTells
import Derived.Test.YtmdcfmdjbncaoaaSam
namespace Go.Proofs.Ytmdcfmdjbncaoaa
open Go.RowKit Go.ChangeShapes Go.WideShapes Go.Deep
attribute [local go_sem ↓] Go.wp_at_zero Go.wp_at_succ

def ER (w : World) (S : Nat → Prop) (p : RV × Tree) (cs : List Value) : Prop := cs = p.1.cells ∧ IsD w S p.2 p.1.body
def validL (ps : List (RV × Tree)) : Bool := ps.all fun p => validT p.2
theorem validL_iff (ps : List (RV × Tree)) : validL ps = true ↔ ∀ p ∈ ps, validT p.2 = true := by simp [validL]

def VW (w : World) (ps : List (RV × Tree)) (iv : Value) (wr : World) : Prop :=
  ∃ j : Nat, iv = .int .i64 j ∧ j ≤ ps.length ∧ (∀ (q : Nat) (p : RV × Tree), q < j → ps[q]? = some p → validT p.2 = true) ∧ Below w.heap.size w wr

set_option maxHeartbeats 4000000 in
set_option maxRecDepth 100000 in
theorem validl_any (ps : List (RV × Tree)) (a : Option Addr) (n c : Nat) (S : Nat → Prop) (w : World) (hrow : RowsOf (ER w S) 10 w S ps a n c) (hS : ∀ b, S b → b < w.heap.size) :
    Calls Try.prog 14 #[.slice a n c] w fun e w' => e = .returned (.bool (validL ps)) ∧ Below w.heap.size w w' := by
  have hcl : c ≤ maxLen := hrow.2.2.1
  have hlc : n ≤ c := hrow.2.1
  have hnl : n = ps.length := hrow.1
  subst hnl
  unfold maxLen at hcl
  have HROW := Lib.hid hrow
  have HS := Lib.hid hS
  clear hrow hS
  go_enter Try.func14, Try.ntmps14
  go_wp2_with fail
  go_loopw [3] (VW w ps) (fun i _ => ps.length - (intOf i).toNat)
  case atStart => exact ⟨0, rfl, Nat.zero_le _, fun _ _ h => absurd h (by omega), Below.refl _ _⟩
  case round =>
    obtain ⟨j, rfl, hj, hall, hbel⟩ := hrel
    have HALL := Lib.hid hall
    have hsz := hbel.size
    clear hall
    by_cases hlt : j < ps.length
    · obtain ⟨g, o, p, xs, rfl, hSg, hx, ⟨rfl, hD⟩, hxl, hr⟩ := HROW.out.get hlt
      have hr2 : wr.rangeAt g (o + j * 10) p.1.cells := rangeAt_keep hr fun q => hbel.cell (p := ⟨g, q, none⟩) (HS.out g hSg)
      have hv := valid_any p.2 wr S p.1.body (hD.under hbel HS.out) (fun q hq => Nat.lt_of_lt_of_le (HS.out q hq) hsz)
      have HX := Lib.hid hx
      have d5 := hr2 5 _ rfl
      have d6 := hr2 6 _ rfl
      have d7 := hr2 7 _ rfl
      have d8 := hr2 8 _ rfl
      have d9 := hr2 9 _ rfl
      clear hr hr2 hD hxl hx
      cases hb : validT p.2 with
      | true =>
        rw [hb] at hv
        have HV := Lib.hid hv
        have HB := Lib.hid hb
        clear hv hb
        go_wp2_with fail
        refine HV.out.mono ?_
        rintro e w1 ⟨rfl, hb1⟩
        have hB1 : Below w.heap.size w w1 := hbel.trans (hb1.mono hsz)
        clear d5 d6 d7 d8 d9 hb1
        go_wp2_with fail
        go_roundw
        case rel =>
          refine ⟨j + 1, by go_num, by omega, fun q y hq hy => ?_, hB1⟩
          by_cases e : q = j
          · subst e; rw [HX.out] at hy; cases hy; exact HB.out
          · exact HALL.out q y (by omega) hy
        case measure => simp [intOf]; omega
      | false =>
        have hX : validL ps = false := by
          cases hL : validL ps with
          | false => rfl
          | true => rw [validL_iff] at hL; have := hL p (List.mem_of_getElem? HX.out); rw [hb] at this; cases this
        rw [hb] at hv
        have HV := Lib.hid hv
        have HXX := Lib.hid hX
        clear hv hb hX
        go_wp2_with fail
        refine HV.out.mono ?_
        rintro e w1 ⟨rfl, hb1⟩
        have hB1 : Below w.heap.size w w1 := hbel.trans (hb1.mono hsz)
        clear d5 d6 d7 d8 d9 hb1
        go_wp2_with fail
        go_ret
        exact ⟨ret_no HXX.out, hB1⟩
    · have hX : validL ps = true := by
        rw [validL_iff]
        intro p hp
        obtain ⟨q, hq, rfl⟩ := List.getElem_of_mem hp
        exact HALL.out q _ (by omega) (List.getElem?_eq_getElem hq)
      have HXX := Lib.hid hX
      clear hX
      go_wp2_with fail
      go_ret
      exact ⟨ret_yes HXX.out, hbel⟩

def UW (w : World) (M : Int) (vs : List RV) (iv : Value) (wr : World) : Prop :=
  ∃ j : Nat, iv = .int .i64 j ∧ j ≤ vs.length ∧ (0 < j → j < vs.length) ∧ j + tryN M j (vs.drop j) = tryN M 0 vs ∧ Below w.heap.size w wr

theorem tryN_one {M : Int} {l : List RV} {i : Nat} (h : i + 1 = l.length) : tryN M i (l.drop i) = 1 := by
  have hx : l[i]? = some (l[i]'(by omega)) := List.getElem?_eq_getElem (by omega)
  by_cases hc : (l[i]'(by omega)).again = true ∧ (i : Int) + 1 < M
  · rw [tryN_more hx hc.1 hc.2, List.drop_eq_nil_of_le (by omega)]
    simp [tryN]
  · exact tryN_stop hx hc

theorem ret_i {a b : Int} (h : a = b) : Ending.returned (.int .i64 a) = .returned (.int .i64 b) := by rw [h]

set_option maxHeartbeats 4000000 in
set_option maxRecDepth 100000 in
theorem refrun_any (most : Int) (vs : List RV) (a : Option Addr) (n c : Nat) (S : Nat → Prop) (w : World) (hm : most ≤ 9223372036854775807) (hrow : RowsOf (fun (r : RV) cs => cs = r.cells) 10 w S vs a n c) (hS : ∀ b, S b → b < w.heap.size) :
    Calls Try.prog 16 #[.int .i64 most, .slice a n c] w fun e w' => e = .returned (.int .i64 ((tryN (max most 1) 0 vs : Int) - 1)) ∧ Below w.heap.size w w' := by
  have hcl : c ≤ maxLen := hrow.2.2.1
  have hlc : n ≤ c := hrow.2.1
  have hnl : n = vs.length := hrow.1
  subst hnl
  unfold maxLen at hcl
  have HROW := Lib.hid hrow
  have HS := Lib.hid hS
  clear hrow hS
  by_cases h1 : 1 ≤ most
  all_goals
    obtain ⟨M, hM⟩ : ∃ M, M = max most 1 := ⟨_, rfl⟩
    rw [← hM]
    have HM := Lib.hid hM
    have hM1 : 1 ≤ M := by omega
    clear hM
    go_enter Try.func16, Try.ntmps16
    go_wp2_with fail
    go_loopw [5] (UW w M vs) (fun i _ => vs.length - (intOf i).toNat)
    case atStart => exact ⟨0, rfl, Nat.zero_le _, fun h => absurd h (by omega), by simp, Below.refl _ _⟩
    case round =>
      obtain ⟨j, rfl, hj, hj2, htr, hbel⟩ := hrel
      have HTR := Lib.hid htr
      have hsz := hbel.size
      clear htr
      by_cases hlt : j < vs.length
      · obtain ⟨g, o, x, xs, rfl, hSg, hx, rfl, hxl, hr⟩ := HROW.out.get hlt
        have hr2 : wr.rangeAt g (o + j * 10) x.cells := rangeAt_keep hr fun q => hbel.cell (p := ⟨g, q, none⟩) (HS.out g hSg)
        have HX := Lib.hid hx
        have d0 := hr2 0 _ rfl
        have d1 := hr2 1 _ rfl
        have d2 := hr2 2 _ rfl
        have d3 := hr2 3 _ rfl
        have d4 := hr2 4 _ rfl
        have d5 := hr2 5 _ rfl
        have d6 := hr2 6 _ rfl
        have d7 := hr2 7 _ rfl
        have d8 := hr2 8 _ rfl
        have d9 := hr2 9 _ rfl
        simp only [Nat.add_zero] at d0
        have hag := again_ref x.err x.code x.pk x.pn x.has (.int .i64 x.k) (.int .i64 x.i) (.int .u64 x.b) (.string x.s) (.slice x.a x.n x.c) wr
        clear hr hr2 hx hxl
        cases hb : x.again with
        | false =>
          have hb' : againB x.err x.code x.pk = false := hb
          rw [hb'] at hag
          have hX : (j : Int) = (tryN M 0 vs : Int) - 1 := by rw [← HTR.out, tryN_stop HX.out (by rw [hb]; simp)]; omega
          have HXX := Lib.hid hX
          have HAG := Lib.hid hag
          clear hX hb hb' hag
          go_wp2_with fail
          refine HAG.out.mono ?_
          rintro e w1 ⟨rfl, hb1⟩
          have hB1 : Below w.heap.size w w1 := hbel.trans (hb1.mono hsz)
          clear d0 d1 d2 d3 d4 d5 d6 d7 d8 d9 hb1
          go_wp2_with fail
          go_ret
          exact ⟨ret_i HXX.out, hB1⟩
        | true =>
          have hb' : againB x.err x.code x.pk = true := hb
          rw [hb'] at hag
          have HAG := Lib.hid hag
          have HB := Lib.hid hb
          clear hb hb' hag
          go_wp2_with fail
          refine HAG.out.mono ?_
          rintro e w1 ⟨rfl, hb1⟩
          have hB1 : Below w.heap.size w w1 := hbel.trans (hb1.mono hsz)
          clear d0 d1 d2 d3 d4 d5 d6 d7 d8 d9 hb1
          by_cases hl1 : j + 1 = vs.length
          · have hX : (j : Int) = (tryN M 0 vs : Int) - 1 := by rw [← HTR.out, tryN_one hl1]; omega
            have HXX := Lib.hid hX
            have hl2 : ((j : Int) + 1 == (vs.length : Int)) = true := by simp; omega
            have HL1 := Lib.hid hl1
            clear hX hl1
            go_wp2_with fail
            go_ret
            exact ⟨ret_i HXX.out, hB1⟩
          · have hl2 : ((j : Int) + 1 == (vs.length : Int)) = false := by simp; omega
            by_cases hl3 : M ≤ (j : Int) + 1
            · have hX : (j : Int) = (tryN M 0 vs : Int) - 1 := by rw [← HTR.out, tryN_stop HX.out (by omega)]; omega
              have HXX := Lib.hid hX
              have hl4 : most ≤ (j : Int) + 1 := by have := HM.out; omega
              clear hX hl3
              go_wp2_with fail
              go_ret
              exact ⟨ret_i HXX.out, hB1⟩
            · first | (exfalso; have := HM.out; omega) | skip
              all_goals
                have htr2 : (j + 1) + tryN M (j + 1) (vs.drop (j + 1)) = tryN M 0 vs := by rw [← HTR.out, tryN_more HX.out HB.out (by omega)]; omega
                have HTR2 := Lib.hid htr2
                have hl4 : decide (most ≤ (j : Int) + 1) = false := by have := HM.out; simp; omega
                have hl5 : ¬ ((j : Int) + 1 ≤ 0) := by omega
                have HM3 := Lib.hid hl3
                clear htr2 hl3
                go_wp2_with fail
                go_roundw
                case rel => exact ⟨j + 1, by go_num, by omega, fun _ => by omega, HTR2.out, hB1⟩
                case measure => simp [intOf]; omega
      · obtain rfl : j = 0 := by omega
        have hX : (-1 : Int) = (tryN M 0 vs : Int) - 1 := by
          have : vs = [] := List.length_eq_zero_iff.1 (by omega)
          rw [this]
          simp [tryN]
        have HXX := Lib.hid hX
        clear hX
        go_wp2_with fail
        go_ret
        exact ⟨ret_i HXX.out, hbel⟩

set_option maxHeartbeats 4000000 in
set_option maxRecDepth 100000 in
theorem sameres_any (r q : RV) (t : Tree) (S S' : Nat → Prop) (w : World) (h1 : q.err = r.err) (h2 : q.code = r.code) (h3 : q.pk = r.pk) (h4 : q.pn = r.pn) (h5 : q.has = r.has) (hr : IsD w S t r.body) (hq : IsD w S' t q.body)
    (hS : ∀ b, S b → b < w.heap.size) (hS' : ∀ b, S' b → b < w.heap.size) :
    Calls Try.prog 17 #[r.val, q.val] w fun e w' => e = .returned (.bool true) ∧ Below w.heap.size w w' := by
  obtain ⟨e1, e2, e3, e4, e5, k, i, b, s, a, n, c⟩ := r
  obtain ⟨e1', e2', e3', e4', e5', k', i', b', s', a', n', c'⟩ := q
  simp only at h1 h2 h3 h4 h5
  subst h1 h2 h3 h4 h5
  have hW : Below w.heap.size w ((w.alloc (.cells (RV.cells ⟨e1', e2', e3', e4', e5', k, i, b, s, a, n, c⟩).toArray 30)).alloc (.cells (RV.cells ⟨e1', e2', e3', e4', e5', k', i', b', s', a', n', c'⟩).toArray 30)) := by go_grown
  have hsz : ((w.alloc (.cells (RV.cells ⟨e1', e2', e3', e4', e5', k, i, b, s, a, n, c⟩).toArray 30)).alloc (.cells (RV.cells ⟨e1', e2', e3', e4', e5', k', i', b', s', a', n', c'⟩).toArray 30)).heap.size = w.heap.size + 2 := by simp
  have hs := same_yes _ t (Nat.le_refl _) _ S S' _ _ (hr.under hW hS) (hq.under hW hS') (fun x hx => by rw [hsz]; have := hS x hx; omega) (fun x hx => by rw [hsz]; have := hS' x hx; omega)
  have HS := Lib.hid hs
  have HSZ := Lib.hid hsz
  have HW := Lib.hid hW
  clear hs hr hq hS hS' hW hsz
  go_enter Try.func17, Try.ntmps17
  simp only [RV.val]
  go_wp2_with fail
  refine HS.out.mono ?_
  rintro e w1 ⟨rfl, hb1⟩
  have hB1 : Below w.heap.size w w1 := HW.out.trans (hb1.mono (by rw [HSZ.out]; omega))
  clear hb1
  go_wp2_with fail
  go_ret
  exact ⟨rfl, hB1⟩
end Go.Proofs.Ytmdcfmdjbncaoaa
