/- WantCovers, WantFirst, WantFaces. -/
import Derived.Test.YtpemgccocmdmbaaLa
namespace Go.Proofs.Ytpemgccocmdmbaa
open Go.RowKit Go.ChangeShapes Go.WideShapes Go.Deep
attribute [local go_sem] Go.undef

set_option maxRecDepth 100000 in
set_option maxHeartbeats 8000000 in
theorem covers_go (t u : WT) (cs ds : List Value) (w : World) (hd : IsW w (· < w.heap.size) t cs) (hdd : IsW w (· < w.heap.size) u ds) :
    Calls Try.prog 6 #[.agg cs.toArray, .agg ds.toArray] w fun e w' => e = .returned (.bool true) ∧ Below w.heap.size w w' := by
  have hf := fun W (hW : Below w.heap.size w W) => want_fit t W _ cs (hd.under hW (fun _ h => h)) (fun q hq => Nat.lt_of_lt_of_le hq hW.size)
  have hv := fun W (hW : Below w.heap.size w W) => want_fit u W _ ds (hdd.under hW (fun _ h => h)) (fun q hq => Nat.lt_of_lt_of_le hq hW.size)
  cases hfb : fitW t with
  | false =>
    rw [hfb] at hf
    have HF := Lib.hid hf
    obtain ⟨o, n, l⟩ := t
    obtain ⟨a, c, rfl, -⟩ := hd.open_
    obtain ⟨o', n', l'⟩ := u
    obtain ⟨a', c', rfl, -⟩ := hdd.open_
    clear hf hv hd hdd hfb
    go_enter Try.func6, Try.ntmps6
    go_wp2_with fail
    refine (HF.out _ (by go_grown)).mono ?_
    rintro e w1 ⟨rfl, hb1⟩
    have hB1 : Below w.heap.size w w1 := below_on hb1 (by go_grown)
    clear hb1
    go_wp2_with fail
    refine (awake_any _).mono ?_
    rintro e w2 ⟨rfl, hb2⟩
    have hB2 := below_on hb2 hB1
    clear hb2
    go_wp2_with fail
    go_ret
    exact ⟨rfl, hB2⟩
  | true =>
    rw [hfb] at hf
    cases hvb : fitW u with
    | false =>
      rw [hvb] at hv
      have HF := Lib.hid hf
      have HV := Lib.hid hv
      obtain ⟨o, n, l⟩ := t
      obtain ⟨a, c, rfl, -⟩ := hd.open_
      obtain ⟨o', n', l'⟩ := u
      obtain ⟨a', c', rfl, -⟩ := hdd.open_
      clear hf hv hd hdd hfb hvb
      go_enter Try.func6, Try.ntmps6
      go_wp2_with fail
      refine (HF.out _ (by go_grown)).mono ?_
      rintro e w1 ⟨rfl, hb1⟩
      have hB1 : Below w.heap.size w w1 := below_on hb1 (by go_grown)
      have HX1 : Hid (Blk w1 (w.heap.size + 1) 24 #[.int .i64 o', .int .i64 n', .slice a' l'.length c']) := (Blk.new' _ _ _ (by simp)).under hb1 (by simp)
      have x0 := HX1.out.cell 0
      have x1 := HX1.out.cell 1
      have x2 := HX1.out.cell 2
      simp only [List.getElem?_toArray, List.getElem?_cons_succ, List.getElem?_cons_zero] at x0 x1 x2
      clear hb1
      go_wp2_with fail
      refine (HV.out _ hB1).mono ?_
      rintro e w2 ⟨rfl, hb2⟩
      have hB2 := below_on hb2 hB1
      clear hb2 x0 x1 x2
      go_wp2_with fail
      refine (awake_any _).mono ?_
      rintro e w3 ⟨rfl, hb3⟩
      have hB3 := below_on hb3 hB2
      clear hb3
      go_wp2_with fail
      go_ret
      exact ⟨rfl, hB3⟩
    | true =>
      rw [hvb] at hv
      have hok := fit_ok hfb
      have hok' := fit_ok hvb
      have hka := fun W (hW : Below w.heap.size w W) => kinds_want _ t (Nat.le_refl _) hok W _ cs (hd.under hW (fun _ h => h)) (fun q hq => Nat.lt_of_lt_of_le hq hW.size)
      have hkb := fun W (hW : Below w.heap.size w W) => kinds_want _ u (Nat.le_refl _) hok' W _ ds (hdd.under hW (fun _ h => h)) (fun q hq => Nat.lt_of_lt_of_le hq hW.size)
      have hcw := fun W (hW : Below w.heap.size w W) => covers_want t u W _ _ cs ds hok hok' (hd.under hW (fun _ h => h)) (fun q hq => Nat.lt_of_lt_of_le hq hW.size) (hdd.under hW (fun _ h => h)) (fun q hq => Nat.lt_of_lt_of_le hq hW.size)
      have hcr := fun W (hW : Below w.heap.size w W) => covers_ref t u W _ _ cs ds hok hok' (hd.under hW (fun _ h => h)) (fun q hq => Nat.lt_of_lt_of_le hq hW.size) (hdd.under hW (fun _ h => h)) (fun q hq => Nat.lt_of_lt_of_le hq hW.size)
      have hmw := fun W (hW : Below w.heap.size w W) => meets_want t u W _ _ cs ds hok hok' (hd.under hW (fun _ h => h)) (fun q hq => Nat.lt_of_lt_of_le hq hW.size) (hdd.under hW (fun _ h => h)) (fun q hq => Nat.lt_of_lt_of_le hq hW.size)
      have hmr := fun W (hW : Below w.heap.size w W) => meets_ref t u W _ _ cs ds hok hok' (hd.under hW (fun _ h => h)) (fun q hq => Nat.lt_of_lt_of_le hq hW.size) (hdd.under hW (fun _ h => h)) (fun q hq => Nat.lt_of_lt_of_le hq hW.size)
      generalize kindsW t = s at hka hcw hcr hmw hmr
      generalize kindsW u = r at hkb hcw hcr hmw hmr
      obtain ⟨o, n, l⟩ := t
      obtain ⟨a, c, rfl, -⟩ := hd.open_
      obtain ⟨o', n', l'⟩ := u
      obtain ⟨a', c', rfl, -⟩ := hdd.open_
      generalize hc1 : coversB s r = cb at hcw hcr
      generalize hc2 : meetsB s r = mb at hmw hmr
      have hx1 : (bits BinOp.andNot IntKind.u32 (r : Int) (s : Int) == 0) = cb := hc1
      have hx2 : (bits BinOp.and IntKind.u32 (s : Int) (r : Int) != 0) = mb := hc2
      have HF := Lib.hid hf
      have HV := Lib.hid hv
      have HKA := Lib.hid hka
      have HKB := Lib.hid hkb
      have HCW := Lib.hid hcw
      have HCR := Lib.hid hcr
      have HMW := Lib.hid hmw
      have HMR := Lib.hid hmr
      have HH1 := Lib.hid hx1
      have HH2 := Lib.hid hx2
      clear hf hv hd hdd hfb hvb hka hkb hcw hcr hmw hmr hok hok' hc1 hc2 hx1 hx2
      go_enter Try.func6, Try.ntmps6
      go_wp2_with fail
      refine (HF.out _ (by go_grown)).mono ?_
      rintro e w1 ⟨rfl, hb1⟩
      have hB1 : Below w.heap.size w w1 := below_on hb1 (by go_grown)
      have HX1 : Hid (Blk w1 (w.heap.size + 1) 24 #[.int .i64 o', .int .i64 n', .slice a' l'.length c']) := (Blk.new' _ _ _ (by simp)).under hb1 (by simp)
      have HY1 : Hid (Blk w1 w.heap.size 24 #[.int .i64 o, .int .i64 n, .slice a l.length c]) := ((Blk.new _ _ _).alloc _).under hb1 (by simp; omega)
      have x0 := HX1.out.cell 0
      have x1 := HX1.out.cell 1
      have x2 := HX1.out.cell 2
      simp only [List.getElem?_toArray, List.getElem?_cons_succ, List.getElem?_cons_zero] at x0 x1 x2
      clear hb1
      go_wp2_with fail
      refine (HV.out _ hB1).mono ?_
      rintro e w2 ⟨rfl, hb2⟩
      have hB2 := below_on hb2 hB1
      have HX2 : Hid (Blk w2 (w.heap.size + 1) 24 _) := HX1.out.under hb2 HX1.out.lt
      have HY2 : Hid (Blk w2 w.heap.size 24 _) := HY1.out.under hb2 HY1.out.lt
      clear hb2 x0 x1 x2
      have y0 := HY2.out.cell 0
      have y1 := HY2.out.cell 1
      have y2 := HY2.out.cell 2
      simp only [List.getElem?_toArray, List.getElem?_cons_succ, List.getElem?_cons_zero] at y0 y1 y2
      go_wp2_with fail
      refine (HKA.out _ hB2).mono ?_
      rintro e w3 ⟨rfl, hb3⟩
      have hB3 := below_on hb3 hB2
      have HX3 : Hid (Blk w3 (w.heap.size + 1) 24 _) := HX2.out.under hb3 HX2.out.lt
      have HY3 : Hid (Blk w3 w.heap.size 24 _) := HY2.out.under hb3 HY2.out.lt
      clear hb3 y0 y1 y2
      have x0 := HX3.out.cell 0
      have x1 := HX3.out.cell 1
      have x2 := HX3.out.cell 2
      simp only [List.getElem?_toArray, List.getElem?_cons_succ, List.getElem?_cons_zero] at x0 x1 x2
      go_wp2_with fail
      refine (HKB.out _ hB3).mono ?_
      rintro e w4 ⟨rfl, hb4⟩
      have hB4 := below_on hb4 hB3
      have HX4 : Hid (Blk w4 (w.heap.size + 1) 24 _) := HX3.out.under hb4 HX3.out.lt
      have HY4 : Hid (Blk w4 w.heap.size 24 _) := HY3.out.under hb4 HY3.out.lt
      clear hb4 x0 x1 x2
      have x0 := HX4.out.cell 0
      have x1 := HX4.out.cell 1
      have x2 := HX4.out.cell 2
      have y0 := HY4.out.cell 0
      have y1 := HY4.out.cell 1
      have y2 := HY4.out.cell 2
      simp only [List.getElem?_toArray, List.getElem?_cons_succ, List.getElem?_cons_zero] at x0 x1 x2 y0 y1 y2
      have hx1 := HH1.out
      have hx2 := HH2.out
      go_wp2_with fail
      go_region_held3 (fun w' => w'.cell? ⟨w.heap.size + 1, 0, none⟩ = some (.int .i64 o') ∧ w'.cell? ⟨w.heap.size + 1, 1, none⟩ = some (.int .i64 n') ∧ w'.cell? ⟨w.heap.size + 1, 2, none⟩ = some (.slice a' l'.length c') ∧ w'.cell? ⟨w.heap.size, 0, none⟩ = some (.int .i64 o) ∧ w'.cell? ⟨w.heap.size, 1, none⟩ = some (.int .i64 n) ∧ w'.cell? ⟨w.heap.size, 2, none⟩ = some (.slice a l.length c) ∧ Below w.heap.size w w')
        (first
          | (exact ⟨x0, x1, x2, y0, y1, y2, hB4.drew⟩)
          | (go_split_ands; exact ⟨by assumption, by assumption, by assumption, by assumption, by assumption, by assumption, by assumption⟩)
          | (go_split_ands; exact ⟨cell_on hb (by assumption), cell_on hb (by assumption), cell_on hb (by assumption), cell_on hb (by assumption), cell_on hb (by assumption), cell_on hb (by assumption), below_on hb (by assumption)⟩))
        (first
          | (go_split_ands; go_at_call 22; refine (HCW.out _ (by assumption)).mono ?_; rintro e w1 ⟨rfl, hb⟩)
          | (go_split_ands; go_at_call 23; refine (HCR.out _ (by assumption)).mono ?_; rintro e w1 ⟨rfl, hb⟩)
          | (go_split_ands; go_at_call 24; refine (HMW.out _ (by assumption)).mono ?_; rintro e w1 ⟨rfl, hb⟩)
          | (go_split_ands; go_at_call 25; refine (HMR.out _ (by assumption)).mono ?_; rintro e w1 ⟨rfl, hb⟩)
          | (go_at_call 14; refine (awake_any _).mono ?_; rintro e w1 ⟨rfl, hb⟩))
      go_split_ands
      go_wp2_with fail
      go_ret
      exact ⟨rfl, by assumption⟩

set_option maxRecDepth 100000 in
theorem walk_WantCovers {H : Type} {enc : TypeId × Value → H} {base : Nat} (v v' : Value) {d d' : DataW H} {p p' : List MemPlace} (W : World) (ok : Value.okWide Try.prog W .any base 24 v)
    (tr : DataW.Trod enc Try.prog W 0 (fun _ => true) true 24 v d p) (ok' : Value.okWide Try.prog W .any base 24 v')
    (tr' : DataW.Trod enc Try.prog W 0 (fun _ => true) true 24 v' d' p') : Calls Try.prog 6 #[v, v'] W fun e w' => e = .returned (.bool true) ∧ Below W.heap.size W w' := by
  obtain ⟨t, cs, rfl, hd⟩ := want_arg ok tr
  obtain ⟨u, ds, rfl, hdd⟩ := want_arg ok' tr'
  exact covers_go t u cs ds W hd hdd

/-- The loop over a list of patterns that are looked at. -/
def FTW (w : World) (ts : List WT) (ds : Array Value) (iv : Value) (wr : World) : Prop :=
  ∃ j : Nat, iv = .int .i64 j ∧ j ≤ ts.length ∧ (∀ (m : Nat) (x : WT), m < j → ts[m]? = some x → fitW x = true) ∧ Blk wr w.heap.size 30 ds ∧ Below w.heap.size w wr

set_option maxRecDepth 100000 in
set_option maxHeartbeats 8000000 in
theorem first_go (ts : List WT) (d : Tree) (a : Option Addr) (n c : Nat) (ds : List Value) (w : World) (hrow : RowsOf (IsW w (· < w.heap.size)) 3 w (· < w.heap.size) ts a n c) (hdd : IsD w (· < w.heap.size) d ds) :
    Calls Try.prog 5 #[.slice a n c, .agg ds.toArray] w fun e w' => e = .returned (.bool true) ∧ Below w.heap.size w w' := by
  have hcl : c ≤ maxLen := hrow.2.2.1
  have hlc : n ≤ c := hrow.2.1
  have hnl : n = ts.length := hrow.1
  subst hnl
  unfold maxLen at hcl
  have hv := fun W (hW : Below w.heap.size w W) => valid_any d W _ ds (hdd.under hW (fun _ h => h)) (fun q hq => Nat.lt_of_lt_of_le hq hW.size)
  have HDD := Lib.hid hdd
  obtain ⟨k, i, b, x, r⟩ := d
  obtain ⟨a', c', rfl, -⟩ := hdd.open_
  have HV := Lib.hid hv
  have HROW := Lib.hid hrow
  clear hrow hv hdd
  go_enter Try.func5, Try.ntmps5
  go_wp2_with fail
  go_loopw [5] (FTW w ts #[.int .i64 k, .int .i64 i, .int .u64 b, .string x, .slice a' r.length c']) (fun i _ => ts.length - (intOf i).toNat)
  case atStart => exact ⟨0, rfl, Nat.zero_le _, fun _ _ h => absurd h (by omega), Blk.new _ _ _, by go_grown⟩
  case round =>
    obtain ⟨j, rfl, hj, hall, hB, hbel⟩ := hrel
    have HALL := Lib.hid hall
    have HB := Lib.hid hB
    have hsz := hbel.size
    clear hall hB
    by_cases hlt : j < ts.length
    · obtain ⟨g, q, t, xs, rfl, hSg, hx, hD, hxl, hr⟩ := HROW.out.get hlt
      have hr2 : wr.rangeAt g (q + j * 3) xs := rangeAt_keep hr fun y => hbel.cell (p := ⟨g, y, none⟩) hSg
      have hf := want_fit t wr _ xs (hD.under hbel (fun _ h => h)) (fun y hy => Nat.lt_of_lt_of_le hy hsz)
      have HX := Lib.hid hx
      cases hfb : fitW t with
      | false =>
        rw [hfb] at hf
        have HF := Lib.hid hf
        obtain ⟨ox, nx, lx⟩ := t
        obtain ⟨ax, cx, rfl, -⟩ := hD.open_
        have d0 := hr2 0 _ rfl
        have d1 := hr2 1 _ rfl
        have d2 := hr2 2 _ rfl
        simp only [Nat.add_zero] at d0
        clear hr hr2 hD hx hxl hf hfb
        go_wp2_with fail
        refine HF.out.mono ?_
        rintro e w1 ⟨rfl, hb1⟩
        have hB1 := below_on hb1 hbel
        clear hb1 d0 d1 d2
        go_wp2_with fail
        refine (awake_any _).mono ?_
        rintro e w2 ⟨rfl, hb2⟩
        have hB2 := below_on hb2 hB1
        clear hb2
        go_wp2_with fail
        go_ret
        exact ⟨rfl, hB2⟩
      | true =>
        rw [hfb] at hf
        have HF := Lib.hid hf
        have HFB := Lib.hid hfb
        obtain ⟨ox, nx, lx⟩ := t
        obtain ⟨ax, cx, rfl, -⟩ := hD.open_
        have d0 := hr2 0 _ rfl
        have d1 := hr2 1 _ rfl
        have d2 := hr2 2 _ rfl
        simp only [Nat.add_zero] at d0
        clear hr hr2 hD hx hxl hf hfb
        go_wp2_with fail
        refine HF.out.mono ?_
        rintro e w1 ⟨rfl, hb1⟩
        have hB1 := below_on hb1 hbel
        have HB1 : Hid (Blk w1 w.heap.size 30 _) := HB.out.under hb1 HB.out.lt
        clear hb1 d0 d1 d2
        go_wp2_with fail
        go_roundw
        case rel =>
          refine ⟨j + 1, by go_num, by omega, fun m y hm hy => ?_, HB1.out, hB1⟩
          by_cases e : m = j
          · subst e
            rw [HX.out] at hy
            injection hy with hy
            rw [← hy]; exact HFB.out
          · exact HALL.out m y (by omega) hy
        case measure => simp [intOf]; omega
    · obtain rfl : j = ts.length := by omega
      have hok : ∀ t ∈ ts, okT t = true := fun t ht => by
        obtain ⟨m, hm, he⟩ := List.getElem_of_mem ht
        exact fit_ok (HALL.out m t hm (by rw [List.getElem?_eq_getElem hm, he]))
      have HOK := Lib.hid hok
      have x0 := HB.out.cell 0
      have x1 := HB.out.cell 1
      have x2 := HB.out.cell 2
      have x3 := HB.out.cell 3
      have x4 := HB.out.cell 4
      simp only [List.getElem?_toArray, List.getElem?_cons_succ, List.getElem?_cons_zero] at x0 x1 x2 x3 x4
      clear hok
      have hv := HV.out wr hbel
      cases hvb : validT (.node k i b x r) with
      | false =>
        rw [hvb] at hv
        have HV2 := Lib.hid hv
        clear hv hvb
        go_wp2_with fail
        refine HV2.out.mono ?_
        rintro e w1 ⟨rfl, hb1⟩
        have hB1 := below_on hb1 hbel
        clear hb1 x0 x1 x2 x3 x4
        go_wp2_with fail
        refine (awake_any _).mono ?_
        rintro e w2 ⟨rfl, hb2⟩
        have hB2 := below_on hb2 hB1
        clear hb2
        go_wp2_with fail
        go_ret
        exact ⟨rfl, hB2⟩
      | true =>
        rw [hvb] at hv
        obtain ⟨hk0, hk1⟩ := rightT_kind (validT_right hvb)
        have hfa := fun W (hW : Below w.heap.size w W) => first_any ts (.node k i b x r) a ts.length c W _ _ _ HOK.out (HROW.out.under (fun _ _ _ h => h.under hW (fun _ h => h)) hW (fun _ h => h)) (fun q hq => Nat.lt_of_lt_of_le hq hW.size) (HDD.out.under hW (fun _ h => h)) (fun q hq => Nat.lt_of_lt_of_le hq hW.size) hk0 hk1
        have hfr := fun W (hW : Below w.heap.size w W) => first_ref ts (.node k i b x r) a ts.length c W _ _ _ HOK.out (HROW.out.under (fun _ _ _ h => h.under hW (fun _ h => h)) hW (fun _ h => h)) (fun q hq => Nat.lt_of_lt_of_le hq hW.size) (HDD.out.under hW (fun _ h => h)) (fun q hq => Nat.lt_of_lt_of_le hq hW.size) hk0 hk1
        simp only [Tree.kind] at hk0 hk1 hfa hfr
        generalize firstN k ts 0 = z at hfa hfr
        have HV2 := Lib.hid hv
        have HFA := Lib.hid hfa
        have HFR := Lib.hid hfr
        clear hv hvb hfa hfr
        go_wp2_with fail
        refine HV2.out.mono ?_
        rintro e w1 ⟨rfl, hb1⟩
        have hB1 := below_on hb1 hbel
        have HB1 : Hid (Blk w1 w.heap.size 30 _) := HB.out.under hb1 HB.out.lt
        clear hb1 x0 x1 x2 x3 x4
        have x0 := HB1.out.cell 0
        have x1 := HB1.out.cell 1
        have x2 := HB1.out.cell 2
        have x3 := HB1.out.cell 3
        have x4 := HB1.out.cell 4
        simp only [List.getElem?_toArray, List.getElem?_cons_succ, List.getElem?_cons_zero] at x0 x1 x2 x3 x4
        go_wp2_with fail
        go_region_held3 (fun w' => w'.cell? ⟨w.heap.size, 0, none⟩ = some (.int .i64 k) ∧ w'.cell? ⟨w.heap.size, 1, none⟩ = some (.int .i64 i) ∧ w'.cell? ⟨w.heap.size, 2, none⟩ = some (.int .u64 b) ∧ w'.cell? ⟨w.heap.size, 3, none⟩ = some (.string x) ∧ w'.cell? ⟨w.heap.size, 4, none⟩ = some (.slice a' r.length c') ∧ Below w.heap.size w w')
          (first
            | (exact ⟨x0, x1, x2, x3, x4, hB1.drew⟩)
            | (go_split_ands; exact ⟨by assumption, by assumption, by assumption, by assumption, by assumption, by assumption⟩)
            | (go_split_ands; exact ⟨cell_on hb (by assumption), cell_on hb (by assumption), cell_on hb (by assumption), cell_on hb (by assumption), cell_on hb (by assumption), below_on hb (by assumption)⟩))
          (first
            | (go_split_ands; go_at_call 20; refine (HFA.out _ (by assumption)).mono ?_; rintro e w1 ⟨rfl, hb⟩)
            | (go_split_ands; go_at_call 21; refine (HFR.out _ (by assumption)).mono ?_; rintro e w1 ⟨rfl, hb⟩)
            | (go_at_call 14; refine (awake_any _).mono ?_; rintro e w1 ⟨rfl, hb⟩))
        go_split_ands
        go_wp2_with fail
        go_ret
        exact ⟨rfl, by assumption⟩

set_option maxRecDepth 100000 in
theorem walk_WantFirst {H : Type} {enc : TypeId × Value → H} {base : Nat} (v v' : Value) {d d' : DataW H} {p p' : List MemPlace} (W : World) (ok : Value.okWide Try.prog W .any base 22 v)
    (tr : DataW.Trod enc Try.prog W 0 (fun _ => true) true 22 v d p) (ok' : Value.okWide Try.prog W .any base 30 v')
    (tr' : DataW.Trod enc Try.prog W 0 (fun _ => true) true 30 v' d' p') : Calls Try.prog 5 #[v, v'] W fun e w' => e = .returned (.bool true) ∧ Below W.heap.size W w' := by
  obtain ⟨u, ds, rfl, hdd⟩ := datum_arg ok' tr'
  obtain ⟨a, n, c, rfl⟩ := okWide_slice Try.underlying22 ok
  obtain ⟨fuel, hf⟩ := tr
  obtain ⟨ts, a', n', c', hc, hr⟩ := open_rows (E := IsW W (· < W.heap.size)) (sz := 3) Try.underlying22 cellsW (fun m cs x _ h => open_want m cs x h) hf (by omega)
  simp [Value.cells] at hc
  obtain ⟨rfl, rfl, rfl⟩ := hc
  exact first_go ts u a n c ds W hr hdd
end Go.Proofs.Ytpemgccocmdmbaa
