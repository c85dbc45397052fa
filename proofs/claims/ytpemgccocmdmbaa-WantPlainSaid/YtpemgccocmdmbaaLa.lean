/- Arguments opened; WantFits, WantHolds, WantCovers. -/
import Derived.Test.YtpemgccocmdmbaaAw
namespace Go.Proofs.Ytpemgccocmdmbaa
open Go.RowKit Go.ChangeShapes Go.WideShapes Go.Deep
attribute [local go_sem] Go.undef

set_option maxRecDepth 100000 in
theorem want_arg {H : Type} {enc : TypeId × Value → H} {W : World} {base : Nat} {v : Value} {d : DataW H} {p : List MemPlace} (ok : Value.okWide Try.prog W .any base 24 v)
    (tr : DataW.Trod enc Try.prog W 0 (fun _ => true) true 24 v d p) : ∃ (t : WT) (cs : List Value), v = .agg cs.toArray ∧ IsW W (· < W.heap.size) t cs := by
  obtain ⟨cs, rfl, -⟩ := okWide_struct Try.underlying24 ok
  obtain ⟨fuel, hf⟩ := tr
  obtain ⟨t, hd⟩ := open_want fuel _ _ hf
  refine ⟨t, cs.toList, by simp, ?_⟩
  simpa [Value.cells] using hd
theorem cellsDat : Try.prog.cellsOf 30 = 5 := by kernel_rfl
set_option maxRecDepth 100000 in
theorem datum_arg {H : Type} {enc : TypeId × Value → H} {W : World} {base : Nat} {v : Value} {d : DataW H} {p : List MemPlace} (ok : Value.okWide Try.prog W .any base 30 v)
    (tr : DataW.Trod enc Try.prog W 0 (fun _ => true) true 30 v d p) : ∃ (t : Tree) (cs : List Value), v = .agg cs.toArray ∧ IsD W (· < W.heap.size) t cs := by
  obtain ⟨cs, rfl, -⟩ := okWide_struct Try.underlying30 ok
  obtain ⟨fuel, hf⟩ := tr
  obtain ⟨t, hd⟩ := open_tree Try.underlying30 (by kernel_rfl) cellsDat Try.underlying3 Try.underlying2 Try.underlying27 Try.underlying9 rfl Try.underlying28 fuel _ _ hf
  refine ⟨t, cs.toList, by simp, ?_⟩
  simpa [Value.cells] using hd

set_option maxRecDepth 100000 in
set_option maxHeartbeats 8000000 in
theorem fits_go (t : WT) (cs : List Value) (w : World) (hd : IsW w (· < w.heap.size) t cs) : Calls Try.prog 3 #[.agg cs.toArray] w fun e w' => e = .returned (.bool true) ∧ Below w.heap.size w w' := by
  have hv := fun W (hW : Below w.heap.size w W) => want_valid t W _ cs (hd.under hW (fun _ h => h)) (fun q hq => Nat.lt_of_lt_of_le hq hW.size)
  have hf := fun W (hW : Below w.heap.size w W) => want_fit t W _ cs (hd.under hW (fun _ h => h)) (fun q hq => Nat.lt_of_lt_of_le hq hW.size)
  generalize fitW t = fb at hv hf
  obtain ⟨o, n, l⟩ := t
  obtain ⟨a, c, rfl, -⟩ := hd.open_
  have HV := Lib.hid hv
  have HF := Lib.hid hf
  clear hv hf hd
  cases fb
  all_goals
    go_enter Try.func3, Try.ntmps3
    go_wp2_with fail
    have hbel : Below w.heap.size w (w.alloc (.cells #[.int .i64 o, .int .i64 n, .slice a l.length c] 24)) := by go_grown
    go_region_held3 (fun w' => w'.cell? ⟨w.heap.size, 0, none⟩ = some (.int .i64 o) ∧ w'.cell? ⟨w.heap.size, 1, none⟩ = some (.int .i64 n) ∧ w'.cell? ⟨w.heap.size, 2, none⟩ = some (.slice a l.length c) ∧ Below w.heap.size w w')
      (first
        | (exact ⟨by simp, by simp, by simp, hbel.drew⟩)
        | (go_split_ands; exact ⟨by assumption, by assumption, by assumption, by assumption⟩)
        | (go_split_ands; exact ⟨cell_on hb (by assumption), cell_on hb (by assumption), cell_on hb (by assumption), below_on hb (by assumption)⟩))
      (first
        | (go_split_ands; go_at_call 12; refine (HV.out _ (by assumption)).mono ?_; rintro e w1 ⟨rfl, hb⟩)
        | (go_split_ands; go_at_call 13; refine (HF.out _ (by assumption)).mono ?_; rintro e w1 ⟨rfl, hb⟩)
        | (go_at_call 14; refine (awake_any _).mono ?_; rintro e w1 ⟨rfl, hb⟩))
    go_split_ands
    go_wp2_with fail
    go_ret
    exact ⟨rfl, by assumption⟩
set_option maxRecDepth 100000 in
theorem walk_WantFits {H : Type} {enc : TypeId × Value → H} {base : Nat} (v : Value) {d : DataW H} {p : List MemPlace} (W : World) (ok : Value.okWide Try.prog W .any base 24 v)
    (tr : DataW.Trod enc Try.prog W 0 (fun _ => true) true 24 v d p) : Calls Try.prog 3 #[v] W fun e w' => e = .returned (.bool true) ∧ Below W.heap.size W w' := by
  obtain ⟨t, cs, rfl, hd⟩ := want_arg ok tr
  exact fits_go t cs W hd

set_option maxRecDepth 100000 in
set_option maxHeartbeats 8000000 in
theorem holds_go (t : WT) (d : Tree) (cs ds : List Value) (w : World) (hd : IsW w (· < w.heap.size) t cs) (hdd : IsD w (· < w.heap.size) d ds) :
    Calls Try.prog 4 #[.agg cs.toArray, .agg ds.toArray] w fun e w' => e = .returned (.bool true) ∧ Below w.heap.size w w' := by
  have hf := fun W (hW : Below w.heap.size w W) => want_fit t W _ cs (hd.under hW (fun _ h => h)) (fun q hq => Nat.lt_of_lt_of_le hq hW.size)
  have hv := fun W (hW : Below w.heap.size w W) => valid_any d W _ ds (hdd.under hW (fun _ h => h)) (fun q hq => Nat.lt_of_lt_of_le hq hW.size)
  have HD := Lib.hid hd
  have HDD := Lib.hid hdd
  cases hfb : fitW t with
  | false =>
    rw [hfb] at hf
    have HF := Lib.hid hf
    obtain ⟨o, n, l⟩ := t
    obtain ⟨a, c, rfl, -⟩ := hd.open_
    obtain ⟨k, i, b, x, r⟩ := d
    obtain ⟨a', c', rfl, -⟩ := hdd.open_
    clear hf hv hd hdd hfb
    go_enter Try.func4, Try.ntmps4
    go_wp2_with fail
    refine (HF.out _ (by go_grown)).mono ?_
    rintro e w1 ⟨rfl, hb1⟩
    have hB1 : Below w.heap.size w w1 := below_on hb1 (by go_grown)
    clear hb1
    go_wp2_with fail
    refine (awake_any _).mono ?_
    rintro e w2 ⟨rfl, hb2⟩
    have hB2 := below_on hb2 hB1
    clear hb2
    go_wp2_with fail
    go_ret
    exact ⟨rfl, hB2⟩
  | true =>
    rw [hfb] at hf
    cases hvb : validT d with
    | false =>
      rw [hvb] at hv
      have HF := Lib.hid hf
      have HV := Lib.hid hv
      obtain ⟨o, n, l⟩ := t
      obtain ⟨a, c, rfl, -⟩ := hd.open_
      obtain ⟨k, i, b, x, r⟩ := d
      obtain ⟨a', c', rfl, -⟩ := hdd.open_
      clear hf hv hd hdd hfb hvb
      go_enter Try.func4, Try.ntmps4
      go_wp2_with fail
      refine (HF.out _ (by go_grown)).mono ?_
      rintro e w1 ⟨rfl, hb1⟩
      have hB1 : Below w.heap.size w w1 := below_on hb1 (by go_grown)
      have hblk : Blk w1 (w.heap.size + 1) 30 #[.int .i64 k, .int .i64 i, .int .u64 b, .string x, .slice a' r.length c'] := (Blk.new' _ _ _ (by simp)).under hb1 (by simp)
      have x0 := hblk.cell 0
      have x1 := hblk.cell 1
      have x2 := hblk.cell 2
      have x3 := hblk.cell 3
      have x4 := hblk.cell 4
      simp only [List.getElem?_toArray, List.getElem?_cons_succ, List.getElem?_cons_zero] at x0 x1 x2 x3 x4
      clear hb1 hblk
      go_wp2_with fail
      refine (HV.out _ hB1).mono ?_
      rintro e w2 ⟨rfl, hb2⟩
      have hB2 := below_on hb2 hB1
      clear hb2 x0 x1 x2 x3 x4
      go_wp2_with fail
      refine (awake_any _).mono ?_
      rintro e w3 ⟨rfl, hb3⟩
      have hB3 := below_on hb3 hB2
      clear hb3
      go_wp2_with fail
      go_ret
      exact ⟨rfl, hB3⟩
    | true =>
      rw [hvb] at hv
      obtain ⟨hk0, hk1⟩ := rightT_kind (validT_right hvb)
      have hok := fit_ok hfb
      have hkw := fun W (hW : Below w.heap.size w W) => kinds_want _ t (Nat.le_refl _) hok W _ cs (hd.under hW (fun _ h => h)) (fun q hq => Nat.lt_of_lt_of_le hq hW.size)
      have hkr := fun W (hW : Below w.heap.size w W) => kinds_ref _ t (Nat.le_refl _) hok W _ cs (hd.under hW (fun _ h => h)) (fun q hq => Nat.lt_of_lt_of_le hq hW.size)
      have hho := fun W (hW : Below w.heap.size w W) => holds_want t d W _ _ cs ds hok (hd.under hW (fun _ h => h)) (fun q hq => Nat.lt_of_lt_of_le hq hW.size) (hdd.under hW (fun _ h => h)) hk0 hk1
      have hma := fun W (hW : Below w.heap.size w W) => match_ref t d W _ _ cs ds hok (hd.under hW (fun _ h => h)) (fun q hq => Nat.lt_of_lt_of_le hq hW.size) (hdd.under hW (fun _ h => h)) hk0 hk1
      generalize hs : kindsW t = s at hkw hkr hho hma
      obtain ⟨o, n, l⟩ := t
      obtain ⟨a, c, rfl, -⟩ := hd.open_
      obtain ⟨k, i, b, x, r⟩ := d
      obtain ⟨a', c', rfl, -⟩ := hdd.open_
      simp only [Tree.kind] at hk0 hk1 hho hma
      have hlt : s < 16384 := by rw [← hs]; exact kindsW_lt _
      have HF := Lib.hid hf
      have HV := Lib.hid hv
      have HKW := Lib.hid hkw
      have HKR := Lib.hid hkr
      generalize hhb : holdsB s k = hbv at hho hma
      have HHB : Hid (bits BinOp.and IntKind.u32 ((s : Int) / 2 ^ k.toNat) 1 == 1) = Hid (holdsB s k = true) ∨ True := .inr trivial
      have HHO := Lib.hid hho
      have HMA := Lib.hid hma
      have hhx : (bits BinOp.and IntKind.u32 ((s : Int) / 2 ^ k.toNat) 1 == 1) = hbv := hhb
      have HHX := Lib.hid hhx
      clear hf hv hd hdd hfb hvb hs hkw hkr hho hma hhb hok HHB hhx
      go_enter Try.func4, Try.ntmps4
      go_wp2_with fail
      refine (HF.out _ (by go_grown)).mono ?_
      rintro e w1 ⟨rfl, hb1⟩
      have hB1 : Below w.heap.size w w1 := below_on hb1 (by go_grown)
      have HX1 : Hid (Blk w1 (w.heap.size + 1) 30 #[.int .i64 k, .int .i64 i, .int .u64 b, .string x, .slice a' r.length c']) := (Blk.new' _ _ _ (by simp)).under hb1 (by simp)
      have HY1 : Hid (Blk w1 w.heap.size 24 #[.int .i64 o, .int .i64 n, .slice a l.length c]) := ((Blk.new _ _ _).alloc _).under hb1 (by simp; omega)
      have x0 := HX1.out.cell 0
      have x1 := HX1.out.cell 1
      have x2 := HX1.out.cell 2
      have x3 := HX1.out.cell 3
      have x4 := HX1.out.cell 4
      simp only [List.getElem?_toArray, List.getElem?_cons_succ, List.getElem?_cons_zero] at x0 x1 x2 x3 x4
      clear hb1
      go_wp2_with fail
      refine (HV.out _ hB1).mono ?_
      rintro e w2 ⟨rfl, hb2⟩
      have hB2 := below_on hb2 hB1
      have HX2 : Hid (Blk w2 (w.heap.size + 1) 30 _) := HX1.out.under hb2 HX1.out.lt
      have HY2 : Hid (Blk w2 w.heap.size 24 _) := HY1.out.under hb2 HY1.out.lt
      clear hb2 x0 x1 x2 x3 x4
      have y0 := HY2.out.cell 0
      have y1 := HY2.out.cell 1
      have y2 := HY2.out.cell 2
      simp only [List.getElem?_toArray, List.getElem?_cons_succ, List.getElem?_cons_zero] at y0 y1 y2
      go_wp2_with fail
      refine (HKW.out _ hB2).mono ?_
      rintro e w3 ⟨rfl, hb3⟩
      have hB3 := below_on hb3 hB2
      have HX3 : Hid (Blk w3 (w.heap.size + 1) 30 _) := HX2.out.under hb3 HX2.out.lt
      have HY3 : Hid (Blk w3 w.heap.size 24 _) := HY2.out.under hb3 HY2.out.lt
      clear hb3 y0 y1 y2
      have x0 := HX3.out.cell 0
      have x1 := HX3.out.cell 1
      have x2 := HX3.out.cell 2
      have x3 := HX3.out.cell 3
      have x4 := HX3.out.cell 4
      have y0 := HY3.out.cell 0
      have y1 := HY3.out.cell 1
      have y2 := HY3.out.cell 2
      simp only [List.getElem?_toArray, List.getElem?_cons_succ, List.getElem?_cons_zero] at x0 x1 x2 x3 x4 y0 y1 y2
      have hhx := HHX.out
      go_wp2_with fail
      go_region_held3 (fun w' => w'.cell? ⟨w.heap.size + 1, 0, none⟩ = some (.int .i64 k) ∧ w'.cell? ⟨w.heap.size + 1, 1, none⟩ = some (.int .i64 i) ∧ w'.cell? ⟨w.heap.size + 1, 2, none⟩ = some (.int .u64 b) ∧ w'.cell? ⟨w.heap.size + 1, 3, none⟩ = some (.string x) ∧ w'.cell? ⟨w.heap.size + 1, 4, none⟩ = some (.slice a' r.length c') ∧ w'.cell? ⟨w.heap.size, 0, none⟩ = some (.int .i64 o) ∧ w'.cell? ⟨w.heap.size, 1, none⟩ = some (.int .i64 n) ∧ w'.cell? ⟨w.heap.size, 2, none⟩ = some (.slice a l.length c) ∧ Below w.heap.size w w')
        (first
          | (exact ⟨x0, x1, x2, x3, x4, y0, y1, y2, hB3.drew⟩)
          | (go_split_ands; exact ⟨by assumption, by assumption, by assumption, by assumption, by assumption, by assumption, by assumption, by assumption, by assumption⟩)
          | (go_split_ands; exact ⟨cell_on hb (by assumption), cell_on hb (by assumption), cell_on hb (by assumption), cell_on hb (by assumption), cell_on hb (by assumption), cell_on hb (by assumption), cell_on hb (by assumption), cell_on hb (by assumption), below_on hb (by assumption)⟩))
        (first
          | (go_split_ands; go_at_call 17; refine (HHO.out _ (by assumption)).mono ?_; rintro e w1 ⟨rfl, hb⟩)
          | (go_split_ands; go_at_call 18; refine (HMA.out _ (by assumption)).mono ?_; rintro e w1 ⟨rfl, hb⟩)
          | (go_split_ands; go_at_call 19; refine (HKR.out _ (by assumption)).mono ?_; rintro e w1 ⟨rfl, hb⟩)
          | (go_at_call 14; refine (awake_any _).mono ?_; rintro e w1 ⟨rfl, hb⟩))
      go_split_ands
      go_wp2_with fail
      go_ret
      exact ⟨rfl, by assumption⟩

set_option maxRecDepth 100000 in
theorem walk_WantHolds {H : Type} {enc : TypeId × Value → H} {base : Nat} (v v' : Value) {d d' : DataW H} {p p' : List MemPlace} (W : World) (ok : Value.okWide Try.prog W .any base 24 v)
    (tr : DataW.Trod enc Try.prog W 0 (fun _ => true) true 24 v d p) (ok' : Value.okWide Try.prog W .any base 30 v')
    (tr' : DataW.Trod enc Try.prog W 0 (fun _ => true) true 30 v' d' p') : Calls Try.prog 4 #[v, v'] W fun e w' => e = .returned (.bool true) ∧ Below W.heap.size W w' := by
  obtain ⟨t, cs, rfl, hd⟩ := want_arg ok tr
  obtain ⟨u, ds, rfl, hdd⟩ := datum_arg ok' tr'
  exact holds_go t u cs ds W hd hdd
end Go.Proofs.Ytpemgccocmdmbaa
