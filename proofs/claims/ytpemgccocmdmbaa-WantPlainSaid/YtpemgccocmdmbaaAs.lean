/- Face, MustFace, To and the reference's. -/
import Derived.Test.YtpemgccocmdmbaaMc
import Derived.Test.YtpemgccocmdmbaaSam
namespace Go.Proofs.Ytpemgccocmdmbaa
open Go.RowKit Go.Deep
attribute [local go_sem] Go.undef

set_option maxRecDepth 100000 in
set_option maxHeartbeats 4000000 in
theorem face_d (k q i b : Int) (x : ByteArray) (v : Value) (w : World) :
    Calls Try.prog 40 #[.agg #[.int .i64 k, .int .i64 i, .int .u64 b, .string x, v], .int .i64 q] w fun e w' => e = .returned (.bool (faceT k q)) ∧ Below w.heap.size w w' := by
  have HI := Lib.hid (fun W => implements_any k q W)
  go_enter Try.func40, Try.ntmps40
  go_wp2_with fail
  refine (HI.out _).mono ?_
  rintro e w1 ⟨rfl, hb1⟩
  have hB1 : Below w.heap.size w w1 := below_on hb1 (by go_grown)
  clear hb1
  go_wp2_with fail
  go_ret
  exact ⟨rfl, hB1⟩

/-- What MustFace tells. -/
def mfH (k q : Int) : Int := if faceT k q = true then 0 else k
def mfM (k q : Int) : Int := if faceT k q = true then 0 else if k = 0 then -1 else lacksT k q
def mfE (k q : Int) : Int := if faceT k q = true then 0 else 20

set_option maxRecDepth 100000 in
set_option maxHeartbeats 4000000 in
theorem mustface_any (k q i b : Int) (x : ByteArray) (v : Value) (w : World) :
    Calls Try.prog 39 #[.agg #[.int .i64 k, .int .i64 i, .int .u64 b, .string x, v], .int .i64 q] w fun e w' => e = .returned (.tuple #[.agg #[.int .i64 (mfH k q), .int .i64 (mfM k q)], .int .i64 (mfE k q)]) ∧ Below w.heap.size w w' := by
  have hf := fun W => face_d k q i b x v W
  have e1 : mfH k q = if faceT k q = true then 0 else k := rfl
  have e2 : mfM k q = if faceT k q = true then 0 else if k = 0 then -1 else lacksT k q := rfl
  have e3 : mfE k q = if faceT k q = true then 0 else 20 := rfl
  generalize faceT k q = fb at hf e1 e2 e3
  have HM := Lib.hid (fun W => missing_any k q W)
  have HF := Lib.hid hf
  clear hf
  cases fb with
  | true =>
    rw [if_pos rfl] at e1 e2 e3
    rw [e1, e2, e3]
    clear e1 e2 e3
    go_enter Try.func39, Try.ntmps39
    go_wp2_with fail
    refine (HF.out _).mono ?_
    rintro e w1 ⟨rfl, hb1⟩
    have hB1 : Below w.heap.size w w1 := below_on hb1 (by go_grown)
    have HQ : Hid (Blk w1 (w.heap.size + 1) 41 #[.int .i64 0, .int .i64 0]) := (Blk.new' _ _ _ (by simp)).under hb1 (by simp)
    have q0 := HQ.out.cell 0
    have q1 := HQ.out.cell 1
    have g0 := HQ.out.free 0
    have g1 := HQ.out.free 1
    simp only [List.getElem?_toArray, List.getElem?_cons_succ, List.getElem?_cons_zero] at q0 q1 g0
    clear hb1
    go_wp2_with fail
    refine bodyPost_ret (v := .tuple #[.agg #[.int .i64 0, .int .i64 0], .int .i64 0]) (by simp [results, Try.results39, go_sem, *]) rfl ⟨rfl, ?_⟩
    exact (hB1.setCell (by simp) _).setCell (by simp) _
  | false =>
    rw [if_neg (by simp)] at e1 e2 e3
    rw [e1, e2, e3]
    clear e1 e2 e3
    by_cases hk : k = 0
    · subst hk
      rw [if_pos rfl]
      go_enter Try.func39, Try.ntmps39
      go_wp2_with fail
      refine (HF.out _).mono ?_
      rintro e w1 ⟨rfl, hb1⟩
      have hB1 : Below w.heap.size w w1 := below_on hb1 (by go_grown)
      have HQ : Hid (Blk w1 (w.heap.size + 1) 41 #[.int .i64 0, .int .i64 0]) := (Blk.new' _ _ _ (by simp)).under hb1 (by simp)
      have x0 : w1.cell? ⟨w.heap.size, 0, none⟩ = some (.int .i64 0) := cell_over hb1 (by simp; omega) (by simp)
      have q0 := HQ.out.cell 0
      have q1 := HQ.out.cell 1
      have g0 := HQ.out.free 0
      have g1 := HQ.out.free 1
      simp only [List.getElem?_toArray, List.getElem?_cons_succ, List.getElem?_cons_zero] at q0 q1 g0
      clear hb1
      go_wp2_with fail
      refine bodyPost_ret (v := .tuple #[.agg #[.int .i64 0, .int .i64 (-1)], .int .i64 20]) (by simp [results, Try.results39, go_sem, *]) rfl ⟨rfl, ?_⟩
      exact (hB1.setCell (by simp) _).setCell (by simp) _
    · rw [if_neg hk]
      generalize lacksT k q = z at HM ⊢
      go_enter Try.func39, Try.ntmps39
      go_wp2_with fail
      refine (HF.out _).mono ?_
      rintro e w1 ⟨rfl, hb1⟩
      have hB1 : Below w.heap.size w w1 := below_on hb1 (by go_grown)
      have HQ : Hid (Blk w1 (w.heap.size + 1) 41 #[.int .i64 0, .int .i64 0]) := (Blk.new' _ _ _ (by simp)).under hb1 (by simp)
      have x0 : w1.cell? ⟨w.heap.size, 0, none⟩ = some (.int .i64 k) := cell_over hb1 (by simp; omega) (by simp)
      have l0 : w.heap.size < w1.heap.size := by have := hb1.size; simp at this; omega
      clear hb1
      go_wp2_with fail
      have HDR : Hid (Below w1.heap.size w1 w1.drew) := (Below.refl _ _).drew
      go_region_with (first | (go_at_call 34; refine (HM.out _).mono ?_; rintro e w2 ⟨rfl, hb2⟩; have y0 := cell_over hb2 l0 x0; have HQ2 := Lib.hid (HQ.out.under (below_on hb2 HDR.out) HQ.out.lt); have q0 := HQ2.out.cell 0; have q1 := HQ2.out.cell 1; have g0 := HQ2.out.free 0; have g1 := HQ2.out.free 1; simp only [List.getElem?_toArray, List.getElem?_cons_succ, List.getElem?_cons_zero] at q0 q1 g0))
      all_goals
        have hB2 : Below w.heap.size w w2 := below_on (below_on hb2 HDR.out) hB1
        go_wp2_with fail
        refine bodyPost_ret (v := .tuple #[.agg #[.int .i64 k, .int .i64 z], .int .i64 20]) (by simp [results, Try.results39, go_sem, *]) rfl ⟨rfl, ?_⟩
        exact (hB2.setCell (by simp) _).setCell (by simp) _

set_option maxRecDepth 100000 in
set_option maxHeartbeats 4000000 in
theorem to_ref (k q i b : Int) (x : ByteArray) (v : Value) (h0 : 0 ≤ k) (h1 : k ≤ 13) (w : World) :
    Calls Try.prog 28 #[.agg #[.int .i64 k, .int .i64 i, .int .u64 b, .string x, v], .int .i64 q] w fun e w' => e = .returned (.bool (isT k q)) ∧ Below w.heap.size w w' := by
  rw [isT_toB k q h0 h1]
  by_cases h2 : 0 < q
  · by_cases h3 : q < 14
    · have hT : toB k q = holdsB (ksetN (kindP 2 q) 14) k := by unfold toB; rw [decide_eq_true ⟨h2, h3⟩, Bool.true_and]
      rw [hT]
      have ht := fun W => typed_ref q (by omega) h3 W
      generalize ksetN (kindP 2 q) 14 = s at ht
      have HT := Lib.hid ht
      clear ht hT
      go_enter Try.func28, Try.ntmps28
      go_wp2_with fail
      have hbel : Below w.heap.size w (w.alloc (.cells #[.int .i64 k, .int .i64 i, .int .u64 b, .string x, v] 30)) := by go_grown
      go_region_held3 (fun w' => w'.cell? ⟨w.heap.size, 0, none⟩ = some (.int .i64 k) ∧ Below w.heap.size w w')
        (first
          | (exact ⟨by simp, hbel.drew⟩)
          | (go_split_ands; exact ⟨by assumption, by assumption⟩))
        (first | (go_split_ands; go_at_call 46; refine (HT.out _).mono ?_; rintro e w1 ⟨rfl, rfl⟩))
      go_split_ands
      go_wp2_with fail
      go_ret
      exact ⟨rfl, by assumption⟩
    · have hT : toB k q = false := by unfold toB; rw [decide_eq_false (fun h => h3 h.2), Bool.false_and]
      rw [hT]
      clear hT
      have e1 : decide (0 < q) = true := decide_eq_true h2
      have e2 : decide (q < 14) = false := decide_eq_false h3
      go_enter Try.func28, Try.ntmps28
      go_wp2_with fail
      go_quiet (fail)
      go_wp2_with fail
      go_ret
      exact ⟨rfl, Below.drewN' (by go_grown) _⟩
  · have hT : toB k q = false := by unfold toB; rw [decide_eq_false (fun h => h2 h.1), Bool.false_and]
    rw [hT]
    clear hT
    have e1 : decide (0 < q) = false := decide_eq_false h2
    go_enter Try.func28, Try.ntmps28
    go_wp2_with fail
    go_quiet (fail)
    go_wp2_with fail
    go_ret
    exact ⟨rfl, Below.drewN' (by go_grown) _⟩
/-- The value's box, and what the region of To asks. -/
theorem dcells {W : World} {B : Nat} {k i b : Int} {x : ByteArray} {v : Value} (h : Blk W B 30 #[.int .i64 k, .int .i64 i, .int .u64 b, .string x, v]) :
    W.cell? ⟨B, 0, none⟩ = some (.int .i64 k) ∧ W.cell? ⟨B, 1, none⟩ = some (.int .i64 i) ∧ W.cell? ⟨B, 2, none⟩ = some (.int .u64 b) ∧ W.cell? ⟨B, 3, none⟩ = some (.string x) ∧ W.cell? ⟨B, 4, none⟩ = some v :=
  ⟨h.cell 0, h.cell 1, h.cell 2, h.cell 3, h.cell 4⟩

set_option maxRecDepth 100000 in
set_option maxHeartbeats 4000000 in
theorem to_no (k q i b : Int) (x : ByteArray) (v : Value) (h : isT k q = false) (w : World) :
    Calls Try.prog 26 #[.agg #[.int .i64 k, .int .i64 i, .int .u64 b, .string x, v], .int .i64 q] w fun e w' => e = .returned (.tuple #[.agg #[.int .i64 0, .int .i64 0, .int .u64 0, .string ByteArray.empty, .slice none 0 0], .bool false]) ∧ Below w.heap.size w w' := by
  have hi := fun sv g hsv W => is_any k q i b x v sv g hsv W
  rw [h] at hi
  have HI := Lib.hid hi
  clear hi h
  go_enter Try.func26, Try.ntmps26
  go_wp2_with fail
  show Code.wp _ _ _ _ ((w.alloc (.cells #[.int .i64 k, .int .i64 i, .int .u64 b, .string x, v] 30)).alloc (.cells #[.int .i64 0, .int .i64 0, .int .u64 0, .string ByteArray.empty, .slice none 0 0] 30))
  generalize hW : ((w.alloc (.cells #[.int .i64 k, .int .i64 i, .int .u64 b, .string x, v] 30)).alloc (.cells #[.int .i64 0, .int .i64 0, .int .u64 0, .string ByteArray.empty, .slice none 0 0] 30)) = W0
  have hB0 : Below w.heap.size w W0 := by rw [← hW]; go_grown
  have HX : Hid (Blk W0 w.heap.size 30 #[.int .i64 k, .int .i64 i, .int .u64 b, .string x, v]) := by rw [← hW]; exact (Blk.new _ _ _).alloc _
  have HZ : Hid (Blk W0 (w.heap.size + 1) 30 #[.int .i64 0, .int .i64 0, .int .u64 0, .string ByteArray.empty, .slice none 0 0]) := by rw [← hW]; exact Blk.new' _ _ _ (by simp)
  obtain ⟨x0, x1, x2, x3, x4⟩ := dcells HX.out
  have l0 := HX.out.lt
  clear hW
  go_region_with (first
    | (go_at_call 48; refine (sample_any k _).mono ?_; rintro e w1 ⟨⟨g, rfl⟩, hb⟩; have y0 := cell_over hb l0 x0; have y1 := cell_over hb l0 x1; have y2 := cell_over hb l0 x2; have y3 := cell_over hb l0 x3; have y4 := cell_over hb l0 x4; generalize hsv : sampleV g k = sv; have HSV := Lib.hid hsv; clear hsv)
    | (go_at_call 47; refine (HI.out sv g HSV.out.symm _).mono ?_; rintro e w2 ⟨rfl, hb2⟩))
  all_goals
    have hb3 : Below W0.heap.size W0 w2 := below_on hb2 (below_on hb (Below.refl _ _).drew)
    have hB3 : Below w.heap.size w w2 := below_on hb3 hB0
    have HZ3 := HZ.out.under hb3 HZ.out.lt
    have q0 := HZ3.cell 0
    have q1 := HZ3.cell 1
    have q2 := HZ3.cell 2
    have q3 := HZ3.cell 3
    have q4 := HZ3.cell 4
    have g0 := HZ3.free 0
    have g1 := HZ3.free 1
    have g2 := HZ3.free 2
    have g3 := HZ3.free 3
    have g4 := HZ3.free 4
    simp only [List.getElem?_toArray, List.getElem?_cons_succ, List.getElem?_cons_zero] at q0 q1 q2 q3 q4 g0
    clear HZ3 x0 x1 x2 x3 x4 y0 y1 y2 y3 y4 hb hb2 hb3
    go_wp2_with fail
    refine bodyPost_ret (v := .tuple #[.agg #[.int .i64 0, .int .i64 0, .int .u64 0, .string ByteArray.empty, .slice none 0 0], .bool false]) (by simp [results, Try.results26, go_sem, *]; rfl) rfl ⟨rfl, ?_⟩
    exact ((((hB3.setCell (by simp) _).setCell (by simp) _).setCell (by simp) _).setCell (by simp) _).setCell (by simp) _

/-- A copy that is handed back with something more. -/
def CopyOf (w : World) (t : Tree) (f : Value → Value) (e : Ending) (w' : World) : Prop :=
  ∃ cs : List Value, e = .returned (f (.agg cs.toArray)) ∧ IsD w' (Btw w.heap.size w'.heap.size) t cs ∧ Below w.heap.size w w'

set_option maxRecDepth 100000 in
set_option maxHeartbeats 4000000 in
theorem to_yes (d : Tree) (hsz : d.size ≤ 4096) (q : Int) (cs : List Value) (S : Nat → Prop) (h : isT d.kind q = true) (w : World) (hd : IsD w S d cs) (hS : ∀ y, S y → y < w.heap.size) :
    Calls Try.prog 26 #[.agg cs.toArray, .int .i64 q] w (CopyOf w d (fun v => .tuple #[v, .bool true])) := by
  have hc := fun W (hW : Below w.heap.size w W) => own_want _ d (Nat.le_refl _) hsz W S cs (hd.under hW hS) (fun y hy => Nat.lt_of_lt_of_le (hS y hy) hW.size)
  obtain ⟨k, i, b, x, l⟩ := d
  obtain ⟨a, c, rfl, -⟩ := hd.open_
  simp only [Tree.kind] at h
  have hi := fun sv g hsv W => is_any k q i b x (.slice a l.length c) sv g hsv W
  rw [h] at hi
  have HI := Lib.hid hi
  have HC := Lib.hid hc
  clear hi h hc hd hS hsz
  go_enter Try.func26, Try.ntmps26
  go_wp2_with fail
  show Code.wp _ _ _ _ ((w.alloc (.cells #[.int .i64 k, .int .i64 i, .int .u64 b, .string x, .slice a l.length c] 30)).alloc (.cells #[.int .i64 0, .int .i64 0, .int .u64 0, .string ByteArray.empty, .slice none 0 0] 30))
  generalize hW : ((w.alloc (.cells #[.int .i64 k, .int .i64 i, .int .u64 b, .string x, .slice a l.length c] 30)).alloc (.cells #[.int .i64 0, .int .i64 0, .int .u64 0, .string ByteArray.empty, .slice none 0 0] 30)) = W0
  have hB0 : Below w.heap.size w W0 := by rw [← hW]; go_grown
  have HX : Hid (Blk W0 w.heap.size 30 #[.int .i64 k, .int .i64 i, .int .u64 b, .string x, .slice a l.length c]) := by rw [← hW]; exact (Blk.new _ _ _).alloc _
  have HZ : Hid (Blk W0 (w.heap.size + 1) 30 #[.int .i64 0, .int .i64 0, .int .u64 0, .string ByteArray.empty, .slice none 0 0]) := by rw [← hW]; exact Blk.new' _ _ _ (by simp)
  obtain ⟨x0, x1, x2, x3, x4⟩ := dcells HX.out
  have l0 := HX.out.lt
  clear hW
  go_region_with (first
    | (go_at_call 48; refine (sample_any k _).mono ?_; rintro e w1 ⟨⟨g, rfl⟩, hb⟩; have y0 := cell_over hb l0 x0; have y1 := cell_over hb l0 x1; have y2 := cell_over hb l0 x2; have y3 := cell_over hb l0 x3; have y4 := cell_over hb l0 x4; generalize hsv : sampleV g k = sv; have HSV := Lib.hid hsv; clear hsv)
    | (go_at_call 47; refine (HI.out sv g HSV.out.symm _).mono ?_; rintro e w2 ⟨rfl, hb2⟩))
  all_goals
    have hb3 : Below W0.heap.size W0 w2 := below_on hb2 (below_on hb (Below.refl _ _).drew)
    have hB3 : Below w.heap.size w w2 := below_on hb3 hB0
    have HZ3 := Lib.hid (HZ.out.under hb3 HZ.out.lt)
    have hs3 : w.heap.size + 2 ≤ w2.heap.size := by have := HZ3.out.lt; omega
    have hx3 := HX.out.under hb3 l0
    clear x0 x1 x2 x3 x4 y0 y1 y2 y3 y4 hb hb2 hb3
    obtain ⟨x0, x1, x2, x3, x4⟩ := dcells hx3
    clear hx3
    go_wp2_with fail
    refine (HC.out w2 hB3).mono ?_
    rintro e w4 ⟨k2, i2, b2, s2, a2, n2, c2, xs2, rfl, hD2, hO2, hb4⟩
    have hB4 : Below w.heap.size w w4 := below_on hb4 hB3
    have hq := HZ3.out.under hb4 (by omega)
    have q0 := hq.cell 0
    have q1 := hq.cell 1
    have q2 := hq.cell 2
    have q3 := hq.cell 3
    have q4 := hq.cell 4
    have g0 := hq.free 0
    have g1 := hq.free 1
    have g2 := hq.free 2
    have g3 := hq.free 3
    have g4 := hq.free 4
    simp only [List.getElem?_toArray, List.getElem?_cons_succ, List.getElem?_cons_zero] at q0 q1 q2 q3 q4 g0
    have HD := Lib.hid (hD2.mono (S' := Btw (w.heap.size + 2) w4.heap.size) (fun y hy => ⟨by have := hy.1; omega, hy.2⟩))
    have HO := Lib.hid (own_mono' hO2 hs3)
    clear hq hD2 hO2 hb4 x0 x1 x2 x3 x4
    go_wp2_with fail
    refine bodyPost_ret (v := .tuple #[.agg #[.int .i64 k2, .int .i64 i2, .int .u64 b2, .string s2, .slice a2 n2 c2], .bool true]) (by simp [results, Try.results26, go_sem, *]) rfl ?_
    obtain ⟨k', i', b', s', a', n', c', xs', he, hD', _, hb'⟩ := copied_end (t := .node k i b x l) (v0 := .int .i64 k2) (v1 := .int .i64 i2) (v2 := .int .u64 b2) (v3 := .string s2) (v4 := .slice a2 n2 c2) (by omega) hB4 HD.out HO.out
    injection he with he
    exact ⟨[.int .i64 k2, .int .i64 i2, .int .u64 b2, .string s2, .slice a2 n2 c2], rfl, by injection he with he; simp at he; obtain ⟨rfl, rfl, rfl, rfl, rfl, rfl, rfl⟩ := he; exact hD', hb'⟩
end Go.Proofs.Ytpemgccocmdmbaa
