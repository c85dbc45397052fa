/- Is a wrapper fit; is a chain fit. -/
import Derived.Test.YtlnlefebcfnocaaSg
import Derived.Test.YtlnlefebcfnocaaSe
import Derived.Test.YtlnlefebcfnocaaSq
namespace Go.Proofs.Ytlnlefebcfnocaa
open Go.RowKit Go.Deep
attribute [local go_sem] Go.undef

/-- Some truth; of which follows so much. -/
def TEL (P : Prop) (e : Ending) (w w' : World) : Prop := (∃ b, e = .returned (.bool b) ∧ (b = true → P)) ∧ Below w.heap.size w w'
theorem TEL.no {P : Prop} {w w' : World} (h : Below w.heap.size w w') : TEL P (.returned (.bool false)) w w' := ⟨⟨_, rfl, fun h => nomatch h⟩, h⟩
theorem TEL.so {P : Prop} {w w' : World} {b : Bool} (hp : P) (h : Below w.heap.size w w') : TEL P (.returned (.bool b)) w w' := ⟨⟨_, rfl, fun _ => hp⟩, h⟩

set_option maxRecDepth 100000 in
set_option maxHeartbeats 4000000 in
theorem right_any (t : WT) (w : World) (S : Nat → Prop) (cs : List Value) (hd : IsW w S t cs) (hS : ∀ q, S q → q < w.heap.size) :
    Calls Try.prog 52 #[.agg cs.toArray] w fun e w' => BOO e w w' := by
  have hc := fun W (hW : Below w.heap.size w W) => wcount_any _ t (Nat.le_refl _) W S cs 0 16384 (hd.under hW hS) (fun q hq => Nat.lt_of_lt_of_le (hS q hq) hW.size) (by omega) (by omega) (by omega) (by omega)
  have hp := fun W (hW : Below w.heap.size w W) => pattern_any _ t (Nat.le_refl _) W S cs 0 (hd.under hW hS) (fun q hq => Nat.lt_of_lt_of_le (hS q hq) hW.size) (by omega) (by omega)
  obtain ⟨o, n, l⟩ := t
  obtain ⟨a, c, rfl, -⟩ := hd.open_
  have HC := Lib.hid hc
  have HP := Lib.hid hp
  clear hc hp hd hS
  go_enter Try.func52, Try.ntmps52
  go_wp2_with fail
  refine (HC.out _ (by go_grown)).mono ?_
  rintro e w1 ⟨⟨z, rfl, hz0, hz1⟩, hb1⟩
  have hB1 : Below w.heap.size w w1 := below_on hb1 (by go_grown)
  have HQ : Hid (Blk w1 w.heap.size 35 #[.int .i64 o, .int .i64 n, .slice a l.length c]) := (Blk.new' _ _ _ (by simp)).under hb1 (by simp)
  have q0 := HQ.out.cell 0
  have q1 := HQ.out.cell 1
  have q2 := HQ.out.cell 2
  simp only [List.getElem?_toArray, List.getElem?_cons_succ, List.getElem?_cons_zero] at q0 q1 q2
  clear hb1
  by_cases hz : z ≤ 16384
  · go_wp2_with fail
    refine (HP.out _ hB1).mono ?_
    rintro e w2 ⟨⟨b, rfl⟩, hb2⟩
    have hB2 := below_on hb2 hB1
    go_wp2_with fail
    go_ret
    exact ⟨⟨_, rfl⟩, hB2⟩
  · go_wp2_with fail
    go_ret
    exact ⟨⟨_, rfl⟩, hB1⟩

set_option maxRecDepth 100000 in
set_option maxHeartbeats 4000000 in
theorem text_any (t : WT) (hf : fitW t = true) (w : World) (S : Nat → Prop) (cs : List Value) (hd : IsW w S t cs) (hS : ∀ q, S q → q < w.heap.size) :
    Calls Try.prog 49 #[.agg cs.toArray] w fun e w' => (∃ s, e = .returned (.string s)) ∧ Below w.heap.size w w' := by
  obtain ⟨hk, hz⟩ := fit_size hf
  have hc := fun W (hW : Below w.heap.size w W) => right_any t W S cs (hd.under hW hS) (fun q hq => Nat.lt_of_lt_of_le (hS q hq) hW.size)
  have hp := fun W (hW : Below w.heap.size w W) => written_any _ t (Nat.le_refl _) hk hz W S cs (hd.under hW hS) (fun q hq => Nat.lt_of_lt_of_le (hS q hq) hW.size)
  obtain ⟨o, n, l⟩ := t
  obtain ⟨a, c, rfl, -⟩ := hd.open_
  have HC := Lib.hid hc
  have HP := Lib.hid hp
  clear hc hp hd hS hf hk hz
  go_enter Try.func49, Try.ntmps49
  go_wp2_with fail
  refine (HC.out _ (by go_grown)).mono ?_
  rintro e w1 ⟨⟨b, rfl⟩, hb1⟩
  have hB1 : Below w.heap.size w w1 := below_on hb1 (by go_grown)
  have HQ : Hid (Blk w1 w.heap.size 35 #[.int .i64 o, .int .i64 n, .slice a l.length c]) := (Blk.new' _ _ _ (by simp)).under hb1 (by simp)
  have q0 := HQ.out.cell 0
  have q1 := HQ.out.cell 1
  have q2 := HQ.out.cell 2
  simp only [List.getElem?_toArray, List.getElem?_cons_succ, List.getElem?_cons_zero] at q0 q1 q2
  clear hb1
  cases b
  · go_wp2_with fail
    go_ret
    exact ⟨⟨_, rfl⟩, hB1⟩
  · go_wp2_with fail
    refine (HP.out _ hB1).mono ?_
    rintro e w2 ⟨⟨s, rfl, -⟩, hb2⟩
    have hB2 := below_on hb2 hB1
    go_wp2_with fail
    go_ret
    exact ⟨⟨_, rfl⟩, hB2⟩

set_option maxRecDepth 100000 in
set_option maxHeartbeats 4000000 in
theorem kwritten_any (t : WT) (w : World) (S : Nat → Prop) (cs : List Value) (hd : IsW w S t cs) (hS : ∀ q, S q → q < w.heap.size) :
    Calls Try.prog 43 #[.agg cs.toArray] w fun e w' => BOO e w w' := by
  have hc := fun W (hW : Below w.heap.size w W) => want_fit t W S cs (hd.under hW hS) (fun q hq => Nat.lt_of_lt_of_le (hS q hq) hW.size)
  have hp := fun (hf : fitW t = true) W (hW : Below w.heap.size w W) => text_any t hf W S cs (hd.under hW hS) (fun q hq => Nat.lt_of_lt_of_le (hS q hq) hW.size)
  generalize fitW t = fb at hc hp
  obtain ⟨o, n, l⟩ := t
  obtain ⟨a, c, rfl, -⟩ := hd.open_
  have HC := Lib.hid hc
  have HP := Lib.hid hp
  clear hc hp hd hS
  go_enter Try.func43, Try.ntmps43
  go_wp2_with fail
  refine (HC.out _ (by go_grown)).mono ?_
  rintro e w1 ⟨rfl, hb1⟩
  have hB1 : Below w.heap.size w w1 := below_on hb1 (by go_grown)
  have HQ : Hid (Blk w1 w.heap.size 35 #[.int .i64 o, .int .i64 n, .slice a l.length c]) := (Blk.new' _ _ _ (by simp)).under hb1 (by simp)
  have q0 := HQ.out.cell 0
  have q1 := HQ.out.cell 1
  have q2 := HQ.out.cell 2
  simp only [List.getElem?_toArray, List.getElem?_cons_succ, List.getElem?_cons_zero] at q0 q1 q2
  clear hb1
  cases fb
  · go_wp2_with fail
    go_ret
    exact ⟨⟨_, rfl⟩, hB1⟩
  · go_wp2_with fail
    refine (HP.out (by trivial) _ hB1).mono ?_
    rintro e w2 ⟨⟨s, rfl⟩, hb2⟩
    have hB2 := below_on hb2 hB1
    go_wp2_with fail
    go_ret
    exact ⟨⟨_, rfl⟩, hB2⟩

set_option maxRecDepth 100000 in
set_option maxHeartbeats 16000000 in
theorem wrap_any (x : WX) (v : Value) (w : World) (S : Nat → Prop) (hw : IsW w S x.want [.int .i64 x.want.op, .int .i64 x.want.num, v]) (hx : Cap x) (hS : ∀ q, S q → q < w.heap.size) :
    Calls Try.prog 29 #[.agg (x.cells v).toArray] w fun e w' => TEL (x.caps ≤ 2047 ∧ hasN x.caps 10 = false) e w w' := by
  obtain ⟨op, A, B, cp, want, opn⟩ := x
  have hwr := fun W (hW : Below w.heap.size w W) => kwritten_any want W S _ (hw.under hW hS) (fun q hq => Nat.lt_of_lt_of_le (hS q hq) hW.size)
  have HWR := Lib.hid hwr
  obtain ⟨wo, wn, wl⟩ := want
  obtain ⟨va, vc, ve, -⟩ := hw.open_
  obtain rfl : v = .slice va wl.length vc := by injection ve with _ ve; injection ve with _ ve; injection ve
  have hv := fun W => rvalid_any W cp
  have hp := fun W => rhas_any W cp 10 hx
  have HV := Lib.hid hv
  have HP := Lib.hid hp
  clear hv hp hw ve hwr hS
  simp only [WX.cells, WT.op, WT.num] at HWR ⊢
  generalize hasN cp 10 = t at HP ⊢
  by_cases h0 : op < 1
  · go_enter Try.func29, Try.ntmps29
    go_wp2_with fail
    go_ret
    exact .no (by go_grown)
  by_cases h1 : 13 ≤ op
  · go_enter Try.func29, Try.ntmps29
    go_wp2_with fail
    go_ret
    exact .no (by go_grown)
  go_enter Try.func29, Try.ntmps29
  go_wp2_with fail
  refine (HV.out _).mono ?_
  rintro e w1 ⟨rfl, rfl⟩
  by_cases h2 : cp ≤ 2047
  rotate_left
  · rw [decide_eq_false h2]
    go_wp2_with fail
    go_ret
    exact .no (by go_grown)
  rw [decide_eq_true h2]
  go_wp2_with fail
  refine (HP.out _).mono ?_
  rintro e w1 ⟨rfl, rfl⟩
  cases t
  rotate_left
  · go_wp2_with fail
    go_ret
    exact .no (by go_grown)
  have H3 : Hid (cp ≤ 2047 ∧ false = false) := Lib.hid ⟨h2, rfl⟩
  go_wp2_with fail
  refine (row_any _ _).mono ?_
  rintro e w1 ⟨⟨v, rfl, n, l0, l1, h0, h1, c, wh, s, rfl⟩, hb1⟩
  have hB1 : Below w.heap.size w w1 := below_on hb1 (by go_grown)
  have HX : Hid (Blk w1 w.heap.size 37 #[.int .i64 op, .int .i64 A, .int .i64 B, .int .u32 (cp : Int), .int .i64 wo, .int .i64 wn, .slice va wl.length vc, .bool opn]) := (Blk.new' _ _ _ (by simp)).under hb1 (by simp)
  have x0 := HX.out.cell 0
  have x1 := HX.out.cell 1
  have x2 := HX.out.cell 2
  have x3 := HX.out.cell 3
  have x4 := HX.out.cell 4
  have x5 := HX.out.cell 5
  have x6 := HX.out.cell 6
  have x7 := HX.out.cell 7
  simp only [List.getElem?_toArray, List.getElem?_cons_succ, List.getElem?_cons_zero] at x0 x1 x2 x3 x4 x5 x6 x7
  have hlx := HX.out.lt
  have hB1a : Below w.heap.size w (w1.alloc (.cells #[.int .i64 n, .int .i64 l0, .int .i64 l1, .int .i64 h0, .int .i64 h1, .bool c, .bool wh, .bool s] 73)) := hB1.alloc hB1.size _
  clear hb1
  cases s
  · have hB1b : Hid (Below w.heap.size w (w1.alloc (.cells #[.int .i64 n, .int .i64 l0, .int .i64 l1, .int .i64 h0, .int .i64 h1, .bool c, .bool wh, .bool false] 73))) := Lib.hid hB1a
    clear hB1a
    by_cases g : A < l0
    · go_wp2_with fail
      go_ret
      exact .no hB1b.out
    replace g : (decide (A < l0)) = false := decide_eq_false g
    by_cases g : h0 < A
    · go_wp2_with fail
      go_ret
      exact .no hB1b.out
    replace g : (decide (h0 < A)) = false := decide_eq_false g
    by_cases g : B < l1
    · go_wp2_with fail
      go_ret
      exact .no hB1b.out
    replace g : (decide (B < l1)) = false := decide_eq_false g
    by_cases g : h1 < B
    · go_wp2_with fail
      go_ret
      exact .no hB1b.out
    replace g : (decide (h1 < B)) = false := decide_eq_false g
    obtain ⟨z, hz⟩ : ∃ z, ((cp : Int) != 0) = z := ⟨_, rfl⟩
    cases z <;> cases c
    · cases wh
      · go_wp2_with fail
        refine (none_any _ _ _ _ _ _).mono ?_
        rintro e w9 ⟨⟨b, rfl⟩, hb9⟩
        have hB9 := below_on hb9 hB1b.out
        go_wp2_with fail
        go_ret
        first | exact .so H3.out hB9 | exact .so trivial hB9
      · go_wp2_with fail
        refine (HWR.out _ hB1b.out).mono ?_
        rintro e w9 ⟨⟨b, rfl⟩, hb9⟩
        have hB9 := below_on hb9 hB1b.out
        go_wp2_with fail
        go_ret
        first | exact .so H3.out hB9 | exact .so trivial hB9
    · go_wp2_with fail
      go_ret
      exact .no hB1b.out
    · go_wp2_with fail
      go_ret
      exact .no hB1b.out
    · cases wh
      · go_wp2_with fail
        refine (none_any _ _ _ _ _ _).mono ?_
        rintro e w9 ⟨⟨b, rfl⟩, hb9⟩
        have hB9 := below_on hb9 hB1b.out
        go_wp2_with fail
        go_ret
        first | exact .so H3.out hB9 | exact .so trivial hB9
      · go_wp2_with fail
        refine (HWR.out _ hB1b.out).mono ?_
        rintro e w9 ⟨⟨b, rfl⟩, hb9⟩
        have hB9 := below_on hb9 hB1b.out
        go_wp2_with fail
        go_ret
        first | exact .so H3.out hB9 | exact .so trivial hB9
  · go_wp2_with fail
    refine (maps_any _).mono ?_
    rintro e w2 ⟨⟨ma, mc, rfl⟩, hb2⟩
    have hB2 := below_on hb2 hB1a
    have HX2 : Hid (Blk w2 w.heap.size 37 #[.int .i64 op, .int .i64 A, .int .i64 B, .int .u32 (cp : Int), .int .i64 wo, .int .i64 wn, .slice va wl.length vc, .bool opn]) := (HX.out.alloc _).under hb2 (by simp; omega)
    have HR2 : Hid (Blk w2 w1.heap.size 73 #[.int .i64 n, .int .i64 l0, .int .i64 l1, .int .i64 h0, .int .i64 h1, .bool c, .bool wh, .bool true]) := (Blk.new' _ _ _ (by simp)).under hb2 (by simp)
    go_wp2_with fail
    refine (one_any _ _ _).mono ?_
    rintro e w3 ⟨⟨v, rfl, N, L0, L1, H0, H1, C, WH, s, rfl⟩, hb3⟩
    have hB3 := below_on hb3 hB2
    have HX3 := Lib.hid (HX2.out.under hb3 HX2.out.lt)
    have HR3 := Lib.hid (HR2.out.under hb3 HR2.out.lt)
    have hg1 := HR3.out.lt
    clear x0 x1 x2 x3 x4 x5 x6 x7
    have x0 := HX3.out.cell 0
    have x1 := HX3.out.cell 1
    have x2 := HX3.out.cell 2
    have x3 := HX3.out.cell 3
    have x4 := HX3.out.cell 4
    have x5 := HX3.out.cell 5
    have x6 := HX3.out.cell 6
    have x7 := HX3.out.cell 7
    simp only [List.getElem?_toArray, List.getElem?_cons_succ, List.getElem?_cons_zero] at x0 x1 x2 x3 x4 x5 x6 x7
    have r0 := HR3.out.cell 0
    have s0 := HR3.out.free 0
    have r1 := HR3.out.cell 1
    have s1 := HR3.out.free 1
    have r2 := HR3.out.cell 2
    have s2 := HR3.out.free 2
    have r3 := HR3.out.cell 3
    have s3 := HR3.out.free 3
    have r4 := HR3.out.cell 4
    have s4 := HR3.out.free 4
    have r5 := HR3.out.cell 5
    have s5 := HR3.out.free 5
    have r6 := HR3.out.cell 6
    have s6 := HR3.out.free 6
    have r7 := HR3.out.cell 7
    have s7 := HR3.out.free 7
    simp only [List.getElem?_toArray, List.getElem?_cons_succ, List.getElem?_cons_zero] at r0 r1 r2 r3 r4 r5 r6 r7 s0
    clear hb2 hb3 HX HX2 HR2
    have hB4 := Lib.hid hB3
    by_cases g : A < L0
    · go_wp2_with fail
      go_ret
      exact .no (((((((((hB3.setCell (by simp; omega) _).setCell (by simp; omega) _).setCell (by simp; omega) _).setCell (by simp; omega) _).setCell (by simp; omega) _).setCell (by simp; omega) _).setCell (by simp; omega) _).setCell (by simp; omega) _))
    replace g : (decide (A < L0)) = false := decide_eq_false g
    by_cases g : H0 < A
    · go_wp2_with fail
      go_ret
      exact .no (((((((((hB3.setCell (by simp; omega) _).setCell (by simp; omega) _).setCell (by simp; omega) _).setCell (by simp; omega) _).setCell (by simp; omega) _).setCell (by simp; omega) _).setCell (by simp; omega) _).setCell (by simp; omega) _))
    replace g : (decide (H0 < A)) = false := decide_eq_false g
    by_cases g : B < L1
    · go_wp2_with fail
      go_ret
      exact .no (((((((((hB3.setCell (by simp; omega) _).setCell (by simp; omega) _).setCell (by simp; omega) _).setCell (by simp; omega) _).setCell (by simp; omega) _).setCell (by simp; omega) _).setCell (by simp; omega) _).setCell (by simp; omega) _))
    replace g : (decide (B < L1)) = false := decide_eq_false g
    by_cases g : H1 < B
    · go_wp2_with fail
      go_ret
      exact .no (((((((((hB3.setCell (by simp; omega) _).setCell (by simp; omega) _).setCell (by simp; omega) _).setCell (by simp; omega) _).setCell (by simp; omega) _).setCell (by simp; omega) _).setCell (by simp; omega) _).setCell (by simp; omega) _))
    replace g : (decide (H1 < B)) = false := decide_eq_false g
    obtain ⟨z, hz⟩ : ∃ z, ((cp : Int) != 0) = z := ⟨_, rfl⟩
    cases z <;> cases C
    · cases WH
      · go_wp2_with fail
        refine (none_any _ _ _ _ _ _).mono ?_
        rintro e w9 ⟨⟨b, rfl⟩, hb9⟩
        have hB9 := below_on hb9 (((((((((hB3.setCell (by simp; omega) _).setCell (by simp; omega) _).setCell (by simp; omega) _).setCell (by simp; omega) _).setCell (by simp; omega) _).setCell (by simp; omega) _).setCell (by simp; omega) _).setCell (by simp; omega) _))
        go_wp2_with fail
        go_ret
        first | exact .so H3.out hB9 | exact .so trivial hB9
      · go_wp2_with fail
        refine (HWR.out _ (((((((((hB3.setCell (by simp; omega) _).setCell (by simp; omega) _).setCell (by simp; omega) _).setCell (by simp; omega) _).setCell (by simp; omega) _).setCell (by simp; omega) _).setCell (by simp; omega) _).setCell (by simp; omega) _))).mono ?_
        rintro e w9 ⟨⟨b, rfl⟩, hb9⟩
        have hB9 := below_on hb9 (((((((((hB3.setCell (by simp; omega) _).setCell (by simp; omega) _).setCell (by simp; omega) _).setCell (by simp; omega) _).setCell (by simp; omega) _).setCell (by simp; omega) _).setCell (by simp; omega) _).setCell (by simp; omega) _))
        go_wp2_with fail
        go_ret
        first | exact .so H3.out hB9 | exact .so trivial hB9
    · go_wp2_with fail
      go_ret
      exact .no (((((((((hB3.setCell (by simp; omega) _).setCell (by simp; omega) _).setCell (by simp; omega) _).setCell (by simp; omega) _).setCell (by simp; omega) _).setCell (by simp; omega) _).setCell (by simp; omega) _).setCell (by simp; omega) _))
    · go_wp2_with fail
      go_ret
      exact .no (((((((((hB3.setCell (by simp; omega) _).setCell (by simp; omega) _).setCell (by simp; omega) _).setCell (by simp; omega) _).setCell (by simp; omega) _).setCell (by simp; omega) _).setCell (by simp; omega) _).setCell (by simp; omega) _))
    · cases WH
      · go_wp2_with fail
        refine (none_any _ _ _ _ _ _).mono ?_
        rintro e w9 ⟨⟨b, rfl⟩, hb9⟩
        have hB9 := below_on hb9 (((((((((hB3.setCell (by simp; omega) _).setCell (by simp; omega) _).setCell (by simp; omega) _).setCell (by simp; omega) _).setCell (by simp; omega) _).setCell (by simp; omega) _).setCell (by simp; omega) _).setCell (by simp; omega) _))
        go_wp2_with fail
        go_ret
        first | exact .so H3.out hB9 | exact .so trivial hB9
      · go_wp2_with fail
        refine (HWR.out _ (((((((((hB3.setCell (by simp; omega) _).setCell (by simp; omega) _).setCell (by simp; omega) _).setCell (by simp; omega) _).setCell (by simp; omega) _).setCell (by simp; omega) _).setCell (by simp; omega) _).setCell (by simp; omega) _))).mono ?_
        rintro e w9 ⟨⟨b, rfl⟩, hb9⟩
        have hB9 := below_on hb9 (((((((((hB3.setCell (by simp; omega) _).setCell (by simp; omega) _).setCell (by simp; omega) _).setCell (by simp; omega) _).setCell (by simp; omega) _).setCell (by simp; omega) _).setCell (by simp; omega) _).setCell (by simp; omega) _))
        go_wp2_with fail
        go_ret
        first | exact .so H3.out hB9 | exact .so trivial hB9
end Go.Proofs.Ytlnlefebcfnocaa

