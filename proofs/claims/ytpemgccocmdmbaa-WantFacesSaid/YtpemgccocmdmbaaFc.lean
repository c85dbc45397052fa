/- WantFaces, WantAsks. -/
import Derived.Test.YtpemgccocmdmbaaLa
import Derived.Test.YtpemgccocmdmbaaAs
namespace Go.Proofs.Ytpemgccocmdmbaa
open Go.RowKit Go.ChangeShapes Go.WideShapes Go.Deep
attribute [local go_sem] Go.undef

set_option maxRecDepth 100000 in
set_option maxHeartbeats 8000000 in
theorem faces_go (k f : Int) (w : World) : Calls Try.prog 9 #[.int .i64 k, .int .i64 f] w fun e w' => e = .returned (.bool true) ∧ Below w.heap.size w w' := by
  have h1 := methods_any f w
  have h2 := fun W => methods_ref f W
  have hi := fun W => implements_any k f W
  have hr := fun W => implements_ref k f W
  have hm := fun W => missing_any k f W
  have hl := fun W => lacks_any k f W
  have hlen := methL_len f
  generalize methL f = L at h1 h2 hlen
  generalize faceT k f = fb at hi hr
  generalize lacksT k f = z at hm hl
  have H1 := Lib.hid h1
  have H2 := Lib.hid h2
  have HI := Lib.hid hi
  have HR := Lib.hid hr
  have HM := Lib.hid hm
  have HL := Lib.hid hl
  clear h1 h2 hi hr hm hl
  go_enter Try.func9, Try.ntmps9
  go_wp2_with fail
  refine H1.out.mono ?_
  rintro e w1 ⟨a, n, c, rfl, hr1, hb1⟩
  obtain rfl : n = L.length := hr1.1
  have HR1 := Lib.hid hr1
  clear hr1
  go_wp2_with fail
  refine (H2.out w1).mono ?_
  rintro e w2 ⟨a', n', c', rfl, hr2, hb2⟩
  obtain rfl : n' = L.length := hr2.1
  have hB2 : Below w.heap.size w w2 := below_on hb2 hb1
  have HR2 := Lib.hid hr2
  have HB2 := Lib.hid hb2
  clear hr2 hb1 hb2
  go_wp2_with fail
  go_loopw [7] (fun iv wr => (∃ j : Nat, iv = .int .i64 j ∧ j ≤ L.length) ∧ ∃ nq, wr = w2.drewN nq) (fun i _ => L.length - (intOf i).toNat)
  case atStart => exact ⟨⟨0, rfl, Nat.zero_le _⟩, 0, rfl⟩
  case round =>
    obtain ⟨⟨j, rfl, hj⟩, nq, rfl⟩ := hrel
    by_cases hlt : j < L.length
    · obtain ⟨g, o, x, cs, rfl, hSg, hx, rfl, -, hq⟩ := HR1.out.get hlt
      obtain ⟨g', o', x', cs', rfl, hSg', hx', rfl, -, hq'⟩ := HR2.out.get hlt
      obtain rfl : x' = x := by rw [hx] at hx'; injection hx' with hx'; exact hx'.symm
      have d0 : w2.cell? ⟨g, o + j, none⟩ = some (.int .i64 x') := cell_over HB2.out hSg.2 (by have := hq 0 _ rfl; simpa using this)
      have d1 : w2.cell? ⟨g', o' + j, none⟩ = some (.int .i64 x') := by have := hq' 0 _ rfl; simpa using this
      have hi0 : (0 : Int) ≤ (j : Int) := by omega
      have hi1 : (j : Int) < (L.length : Int) := by omega
      clear hx hx' hq hq'
      go_wp2_with fail
      go_quiet (fail)
      go_wp2_with fail
      go_roundw
      case rel => exact ⟨⟨j + 1, by go_num, by omega⟩, _, rfl⟩
      case measure => simp [intOf]; omega
    · obtain rfl : j = L.length := by omega
      have hB3 : Below w.heap.size w (w2.drewN nq) := Below.drewN' hB2 _
      generalize w2.drewN nq = w3 at hB3 ⊢
      cases fb
      all_goals
        go_wp2_with fail
        refine (HI.out _).mono ?_
        rintro e w4 ⟨rfl, hb4⟩
        have hB4 := below_on hb4 hB3
        clear hb4
        go_wp2_with fail
        refine (HR.out _).mono ?_
        rintro e w5 ⟨rfl, hb5⟩
        have hB5 := below_on hb5 hB4
        clear hb5
        go_wp2_with fail
        refine (HM.out _).mono ?_
        rintro e w6 ⟨rfl, hb6⟩
        have hB6 := below_on hb6 hB5
        clear hb6
        go_wp2_with fail
        refine (HL.out _).mono ?_
        rintro e w7 ⟨rfl, hb7⟩
        have hB7 := below_on hb7 hB6
        clear hb7
        go_wp2_with fail
        refine (awake_any _).mono ?_
        rintro e w8 ⟨rfl, hb8⟩
        have hB8 := below_on hb8 hB7
        clear hb8
        go_wp2_with fail
        go_ret
        exact ⟨rfl, hB8⟩
theorem walk_WantFaces (k f : Int) (W : World) (_ : (Lit.int .i64 k).wf = true) (_ : (Lit.int .i64 f).wf = true) : Calls Try.prog 9 #[.int .i64 k, .int .i64 f] W fun e w' => e = .returned (.bool true) ∧ Below W.heap.size W w' := faces_go k f W

set_option maxRecDepth 100000 in
set_option maxHeartbeats 8000000 in
theorem asks_go (d : Tree) (f : Int) (ds : List Value) (w : World) (hdd : IsD w (· < w.heap.size) d ds) :
    Calls Try.prog 11 #[.agg ds.toArray, .int .i64 f] w fun e w' => e = .returned (.bool true) ∧ Below w.heap.size w w' := by
  have hv := fun W (hW : Below w.heap.size w W) => valid_any d W _ ds (hdd.under hW (fun _ h => h)) (fun q hq => Nat.lt_of_lt_of_le hq hW.size)
  obtain ⟨k, i, b, x, l⟩ := d
  obtain ⟨a, c, rfl, -⟩ := hdd.open_
  cases hvb : validT (.node k i b x l) with
  | false =>
    rw [hvb] at hv
    have HV := Lib.hid hv
    clear hv hvb hdd
    go_enter Try.func11, Try.ntmps11
    go_wp2_with fail
    refine (HV.out _ (by go_grown)).mono ?_
    rintro e w1 ⟨rfl, hb1⟩
    have hB1 : Below w.heap.size w w1 := below_on hb1 (by go_grown)
    clear hb1
    go_wp2_with fail
    refine (awake_any _).mono ?_
    rintro e w2 ⟨rfl, hb2⟩
    have hB2 := below_on hb2 hB1
    clear hb2
    go_wp2_with fail
    go_ret
    exact ⟨rfl, hB2⟩
  | true =>
    rw [hvb] at hv
    have hr := fun W => implements_ref k f W
    have hm := fun W => mustface_any k f i b x (.slice a l.length c) W
    have hf := fun W => face_d k f i b x (.slice a l.length c) W
    have hl := fun W => lacks_any k f W
    have e1 : mfH k f = if faceT k f = true then 0 else k := rfl
    have e2 : mfM k f = if faceT k f = true then 0 else if k = 0 then -1 else lacksT k f := rfl
    have e3 : mfE k f = if faceT k f = true then 0 else 20 := rfl
    rw [e1, e2, e3] at hm
    clear e1 e2 e3
    generalize faceT k f = fb at hr hm hf
    generalize lacksT k f = z at hm hl
    have HV := Lib.hid hv
    have HR := Lib.hid hr
    have HF := Lib.hid hf
    have HL := Lib.hid hl
    clear hv hvb hdd hr hf hl
    cases fb with
    | true =>
      simp only [if_true] at hm
      have HM := Lib.hid hm
      clear hm
      go_enter Try.func11, Try.ntmps11
      go_wp2_with fail
      refine (HV.out _ (by go_grown)).mono ?_
      rintro e w1 ⟨rfl, hb1⟩
      have hB1 : Below w.heap.size w w1 := below_on hb1 (by go_grown)
      have HX1 : Hid (Blk w1 w.heap.size 30 #[.int .i64 k, .int .i64 i, .int .u64 b, .string x, .slice a l.length c]) := (Blk.new _ _ _).under hb1 (by simp)
      obtain ⟨x0, x1, x2, x3, x4⟩ := dcells HX1.out
      clear hb1
      go_wp2_with fail
      refine (HR.out _).mono ?_
      rintro e w2 ⟨rfl, hb2⟩
      have hB2 := below_on hb2 hB1
      have HX2 : Hid (Blk w2 w.heap.size 30 _) := HX1.out.under hb2 HX1.out.lt
      clear hb2 x0 x1 x2 x3 x4
      obtain ⟨x0, x1, x2, x3, x4⟩ := dcells HX2.out
      go_wp2_with fail
      refine (HM.out _).mono ?_
      rintro e w3 ⟨rfl, hb3⟩
      have hB3 := below_on hb3 hB2
      have HX3 : Hid (Blk w3 w.heap.size 30 _) := HX2.out.under hb3 HX2.out.lt
      have l3 := HX3.out.lt
      clear hb3 x0 x1 x2 x3 x4
      obtain ⟨x0, x1, x2, x3, x4⟩ := dcells HX3.out
      go_wp2_with fail
      refine (HF.out _).mono ?_
      rintro e w4 ⟨rfl, hb4⟩
      have hB4 : Below w.heap.size w w4 := below_on hb4 (hB3.trans (by go_grown))
      have HX4 : Hid (Blk w4 w.heap.size 30 _) := (HX3.out.alloc _).under hb4 (by simp; omega)
      have HQ4 : Hid (Blk w4 w3.heap.size 41 #[.int .i64 0, .int .i64 (0)]) := (Blk.new _ _ _).under hb4 (by simp)
      clear hb4 x0 x1 x2 x3 x4
      obtain ⟨x0, x1, x2, x3, x4⟩ := dcells HX4.out
      have q0 := HQ4.out.cell 0
      have q1 := HQ4.out.cell 1
      simp only [List.getElem?_toArray, List.getElem?_cons_succ, List.getElem?_cons_zero] at q0 q1
      go_wp2_with fail
      refine (awake_any _).mono ?_
      rintro e w5 ⟨rfl, hb5⟩
      have hB5 := below_on hb5 hB4
      clear hb5
      go_wp2_with fail
      go_ret
      exact ⟨rfl, hB5⟩
    | false =>
      by_cases hk : k = 0
      · subst hk
        simp only [Bool.false_eq_true, if_false, if_true] at hm
        have HM := Lib.hid hm
        clear hm
        go_enter Try.func11, Try.ntmps11
        go_wp2_with fail
        refine (HV.out _ (by go_grown)).mono ?_
        rintro e w1 ⟨rfl, hb1⟩
        have hB1 : Below w.heap.size w w1 := below_on hb1 (by go_grown)
        have HX1 : Hid (Blk w1 w.heap.size 30 #[.int .i64 0, .int .i64 i, .int .u64 b, .string x, .slice a l.length c]) := (Blk.new _ _ _).under hb1 (by simp)
        obtain ⟨x0, x1, x2, x3, x4⟩ := dcells HX1.out
        clear hb1
        go_wp2_with fail
        refine (HR.out _).mono ?_
        rintro e w2 ⟨rfl, hb2⟩
        have hB2 := below_on hb2 hB1
        have HX2 : Hid (Blk w2 w.heap.size 30 _) := HX1.out.under hb2 HX1.out.lt
        clear hb2 x0 x1 x2 x3 x4
        obtain ⟨x0, x1, x2, x3, x4⟩ := dcells HX2.out
        go_wp2_with fail
        refine (HM.out _).mono ?_
        rintro e w3 ⟨rfl, hb3⟩
        have hB3 := below_on hb3 hB2
        have HX3 : Hid (Blk w3 w.heap.size 30 _) := HX2.out.under hb3 HX2.out.lt
        have l3 := HX3.out.lt
        clear hb3 x0 x1 x2 x3 x4
        obtain ⟨x0, x1, x2, x3, x4⟩ := dcells HX3.out
        go_wp2_with fail
        refine (HF.out _).mono ?_
        rintro e w4 ⟨rfl, hb4⟩
        have hB4 : Below w.heap.size w w4 := below_on hb4 (hB3.trans (by go_grown))
        have HX4 : Hid (Blk w4 w.heap.size 30 _) := (HX3.out.alloc _).under hb4 (by simp; omega)
        have HQ4 : Hid (Blk w4 w3.heap.size 41 #[.int .i64 0, .int .i64 (-1)]) := (Blk.new _ _ _).under hb4 (by simp)
        clear hb4 x0 x1 x2 x3 x4
        obtain ⟨x0, x1, x2, x3, x4⟩ := dcells HX4.out
        have q0 := HQ4.out.cell 0
        have q1 := HQ4.out.cell 1
        simp only [List.getElem?_toArray, List.getElem?_cons_succ, List.getElem?_cons_zero] at q0 q1
        go_wp2_with fail
        refine (awake_any _).mono ?_
        rintro e w5 ⟨rfl, hb5⟩
        have hB5 := below_on hb5 hB4
        clear hb5
        go_wp2_with fail
        go_ret
        exact ⟨rfl, hB5⟩
      · simp only [Bool.false_eq_true, if_false, if_neg hk] at hm
        have HM := Lib.hid hm
        clear hm
        go_enter Try.func11, Try.ntmps11
        go_wp2_with fail
        refine (HV.out _ (by go_grown)).mono ?_
        rintro e w1 ⟨rfl, hb1⟩
        have hB1 : Below w.heap.size w w1 := below_on hb1 (by go_grown)
        have HX1 : Hid (Blk w1 w.heap.size 30 #[.int .i64 k, .int .i64 i, .int .u64 b, .string x, .slice a l.length c]) := (Blk.new _ _ _).under hb1 (by simp)
        obtain ⟨x0, x1, x2, x3, x4⟩ := dcells HX1.out
        clear hb1
        go_wp2_with fail
        refine (HR.out _).mono ?_
        rintro e w2 ⟨rfl, hb2⟩
        have hB2 := below_on hb2 hB1
        have HX2 : Hid (Blk w2 w.heap.size 30 _) := HX1.out.under hb2 HX1.out.lt
        clear hb2 x0 x1 x2 x3 x4
        obtain ⟨x0, x1, x2, x3, x4⟩ := dcells HX2.out
        go_wp2_with fail
        refine (HM.out _).mono ?_
        rintro e w3 ⟨rfl, hb3⟩
        have hB3 := below_on hb3 hB2
        have HX3 : Hid (Blk w3 w.heap.size 30 _) := HX2.out.under hb3 HX2.out.lt
        have l3 := HX3.out.lt
        clear hb3 x0 x1 x2 x3 x4
        obtain ⟨x0, x1, x2, x3, x4⟩ := dcells HX3.out
        go_wp2_with fail
        refine (HF.out _).mono ?_
        rintro e w4 ⟨rfl, hb4⟩
        have hB4 : Below w.heap.size w w4 := below_on hb4 (hB3.trans (by go_grown))
        have HX4 : Hid (Blk w4 w.heap.size 30 _) := (HX3.out.alloc _).under hb4 (by simp; omega)
        have HQ4 : Hid (Blk w4 w3.heap.size 41 #[.int .i64 k, .int .i64 (z)]) := (Blk.new _ _ _).under hb4 (by simp)
        clear hb4 x0 x1 x2 x3 x4
        obtain ⟨x0, x1, x2, x3, x4⟩ := dcells HX4.out
        have q0 := HQ4.out.cell 0
        have q1 := HQ4.out.cell 1
        simp only [List.getElem?_toArray, List.getElem?_cons_succ, List.getElem?_cons_zero] at q0 q1
        go_wp2_with fail
        refine (HL.out _).mono ?_
        rintro e w5 ⟨rfl, hb5⟩
        have hB5 := below_on hb5 hB4
        have HX5 := HX4.out.under hb5 HX4.out.lt
        have HQ5 := HQ4.out.under hb5 HQ4.out.lt
        have x0 := HX5.cell 0
        have q0 := HQ5.cell 0
        have q1 := HQ5.cell 1
        simp only [List.getElem?_toArray, List.getElem?_cons_succ, List.getElem?_cons_zero] at x0 q0 q1
        clear hb5 HX5 HQ5
        go_wp2_with fail
        refine (awake_any _).mono ?_
        rintro e w6 ⟨rfl, hb6⟩
        have hB6 := below_on hb6 hB5
        clear hb6
        go_wp2_with fail
        go_ret
        exact ⟨rfl, hB6⟩

set_option maxRecDepth 100000 in
theorem walk_WantAsks {H : Type} {enc : TypeId × Value → H} {base : Nat} (v : Value) (f : Int) {d : DataW H} {p : List MemPlace} (W : World) (ok : Value.okWide Try.prog W .any base 30 v)
    (tr : DataW.Trod enc Try.prog W 0 (fun _ => true) true 30 v d p) (_ : (Lit.int .i64 f).wf = true) : Calls Try.prog 11 #[v, .int .i64 f] W fun e w' => e = .returned (.bool true) ∧ Below W.heap.size W w' := by
  obtain ⟨u, ds, rfl, hdd⟩ := datum_arg ok tr
  exact asks_go u f ds W hdd
end Go.Proofs.Ytpemgccocmdmbaa
