/- WantAsserts: the walk. -/
import Derived.Test.YtpemgccocmdmbaaLa
import Derived.Test.YtpemgccocmdmbaaMy
namespace Go.Proofs.Ytpemgccocmdmbaa
open Go.RowKit Go.ChangeShapes Go.WideShapes Go.Deep
attribute [local go_sem] Go.undef

theorem IsD.five {w : World} {S : Nat → Prop} {t : Tree} {cs : List Value} (h : IsD w S t cs) : ∃ k i b s a n c, cs = [.int .i64 k, .int .i64 i, .int .u64 b, .string s, .slice a n c] := by
  obtain ⟨k, i, b, s, l⟩ := t
  obtain ⟨a, c, rfl, -⟩ := h.open_
  exact ⟨_, _, _, _, _, _, _, rfl⟩
theorem fcells {W : World} {B : Nat} {T : TypeId} {c0 c1 c2 c3 c4 : Value} (h : Blk W B T #[c0, c1, c2, c3, c4]) :
    W.cell? ⟨B, 0, none⟩ = some c0 ∧ W.cell? ⟨B, 1, none⟩ = some c1 ∧ W.cell? ⟨B, 2, none⟩ = some c2 ∧ W.cell? ⟨B, 3, none⟩ = some c3 ∧ W.cell? ⟨B, 4, none⟩ = some c4 := ⟨h.cell 0, h.cell 1, h.cell 2, h.cell 3, h.cell 4⟩

set_option maxRecDepth 100000 in
set_option maxHeartbeats 16000000 in
theorem asserts_go (d : Tree) (q : Int) (ds : List Value) (w : World) (hdd : IsD w (· < w.heap.size) d ds) :
    Calls Try.prog 8 #[.agg ds.toArray, .int .i64 q] w fun e w' => e = .returned (.bool true) ∧ Below w.heap.size w w' := by
  have hv := fun W (hW : Below w.heap.size w W) => valid_any d W _ ds (hdd.under hW (fun _ h => h)) (fun y hy => Nat.lt_of_lt_of_le hy hW.size)
  cases hvb : validT d with
  | false =>
    rw [hvb] at hv
    obtain ⟨k, i, b, x, l⟩ := d
    obtain ⟨a, c, rfl, -⟩ := hdd.open_
    have HV := Lib.hid hv
    clear hv hvb hdd
    go_enter Try.func8, Try.ntmps8
    go_wp2_with fail
    refine (HV.out _ (by go_grown)).mono ?_
    rintro e w1 ⟨rfl, hb1⟩
    have hB1 : Below w.heap.size w w1 := below_on hb1 (by go_grown)
    clear hb1
    go_wp2_with fail
    refine (awake_any _).mono ?_
    rintro e w2 ⟨rfl, hb2⟩
    have hB2 := below_on hb2 hB1
    clear hb2
    go_wp2_with fail
    go_ret
    exact ⟨rfl, hB2⟩
  | true =>
    rw [hvb] at hv
    obtain ⟨hk0, hk1⟩ := rightT_kind (validT_right hvb)
    have hsz := validT_size hvb
    obtain ⟨kd, hkd⟩ : ∃ kd, kd = d := ⟨_, rfl⟩
    have HDD : Hid (IsD w (· < w.heap.size) kd ds) := by rw [hkd]; exact hdd
    have HSM : Hid (∀ (W : World) (S S' : Nat → Prop) (cs cs' : List Value), IsD W S kd cs → IsD W S' kd cs' → (∀ y, S y → y < W.heap.size) → (∀ y, S' y → y < W.heap.size) → Calls Try.prog 29 #[.agg cs.toArray, .agg cs'.toArray] W fun e w' => e = .returned (.bool true) ∧ Below W.heap.size W w') := same_yes _ kd (Nat.le_refl _)
    cases ht : isT d.kind q with
    | true =>
      have hto := fun W (hW : Below w.heap.size w W) => to_yes kd (by rw [hkd]; exact hsz) q ds _ (by rw [hkd]; exact ht) W (HDD.out.under hW (fun _ h => h)) (fun y hy => Nat.lt_of_lt_of_le hy hW.size)
      have hmu := fun W (hW : Below w.heap.size w W) => Must_yes kd (by rw [hkd]; exact hsz) q ds _ (by rw [hkd]; exact ht) W (HDD.out.under hW (fun _ h => h)) (fun y hy => Nat.lt_of_lt_of_le hy hW.size)
      obtain ⟨k, i, b, x, l⟩ := d
      obtain ⟨a, c, rfl, -⟩ := hdd.open_
      simp only [Tree.kind] at ht hk0 hk1
      have hrf := fun W => to_ref k q i b x (.slice a l.length c) hk0 hk1 W
      rw [ht] at hrf
      have HV := Lib.hid hv
      have HTO := Lib.hid hto
      have HMU := Lib.hid hmu
      have HRF := Lib.hid hrf
      clear hv hvb hdd hk0 hk1 hsz hkd ht hto hmu hrf
      go_enter Try.func8, Try.ntmps8
      go_wp2_with fail
      refine (HV.out _ (by go_grown)).mono ?_
      rintro e w1 ⟨rfl, hb1⟩
      have hB1 : Below w.heap.size w w1 := below_on hb1 (by go_grown)
      have HX1 : Hid (Blk w1 w.heap.size 30 #[.int .i64 k, .int .i64 i, .int .u64 b, .string x, .slice a l.length c]) := (Blk.new _ _ _).under hb1 (by simp)
      obtain ⟨x0, x1, x2, x3, x4⟩ := fcells HX1.out
      clear hb1
      go_wp2_with fail
      refine (HTO.out _ hB1).mono ?_
      rintro e w2 ⟨cs2, rfl, hD2, hb2⟩
      obtain ⟨p0, p1, p2, p3, p4, p5, p6, rfl⟩ := hD2.five
      have hB2 := below_on hb2 hB1
      have HX2 : Hid (Blk w2 w.heap.size 30 _) := HX1.out.under hb2 HX1.out.lt
      have lx2 := HX2.out.lt
      have HD2 := Lib.hid hD2
      clear hb2 x0 x1 x2 x3 x4 hD2
      obtain ⟨x0, x1, x2, x3, x4⟩ := fcells HX2.out
      go_wp2_with fail
      refine (HMU.out _ (hB2.trans (by go_grown))).mono ?_
      rintro e w3 ⟨cs3, rfl, hD3, hb3⟩
      obtain ⟨r0, r1, r2, r3, r4, r5, r6, rfl⟩ := hD3.five
      have hB3 : Below w.heap.size w w3 := below_on hb3 (hB2.trans (by go_grown))
      have HX3 : Hid (Blk w3 w.heap.size 30 _) := (HX2.out.alloc _).under hb3 (by simp; omega)
      have HY3 : Hid (Blk w3 w2.heap.size 30 #[.int .i64 p0, .int .i64 p1, .int .u64 p2, .string p3, .slice p4 p5 p6]) := (Blk.new _ _ _).under hb3 (by simp)
      have HD2b : Hid (IsD w3 (· < w2.heap.size) kd [.int .i64 p0, .int .i64 p1, .int .u64 p2, .string p3, .slice p4 p5 p6]) := ((HD2.out.mono (S' := (· < w2.heap.size)) (fun y hy => hy.2)).under ((Below.refl w2.heap.size w2).alloc (Nat.le_refl _) _) (fun _ h => h)).under hb3 (fun y hy => by simp; omega)
      have HD3 : Hid (IsD w3 (· < w3.heap.size) kd [.int .i64 r0, .int .i64 r1, .int .u64 r2, .string r3, .slice r4 r5 r6]) := hD3.mono (fun y hy => hy.2)
      have lx3 := HX3.out.lt
      have ly3 := HY3.out.lt
      clear hb3 x0 x1 x2 x3 x4 hD3 HD2
      obtain ⟨x0, x1, x2, x3, x4⟩ := fcells HX3.out
      go_wp2_with fail
      refine (HRF.out _).mono ?_
      rintro e w4 ⟨rfl, hb4⟩
      have hB4 : Below w.heap.size w w4 := below_on hb4 (hB3.trans (by go_grown))
      have HX4 : Hid (Blk w4 w.heap.size 30 _) := ((HX3.out.alloc _).alloc _).under hb4 (by simp; omega)
      have HY4 : Hid (Blk w4 w2.heap.size 30 _) := ((HY3.out.alloc _).alloc _).under hb4 (by simp; omega)
      have HZ4 : Hid (Blk w4 w3.heap.size 30 #[.int .i64 r0, .int .i64 r1, .int .u64 r2, .string r3, .slice r4 r5 r6]) := ((Blk.new _ _ _).alloc _).under hb4 (by simp; omega)
      have HQ4 : Hid (Blk w4 (w3.heap.size + 1) 41 #[.int .i64 0, .int .i64 0]) := (Blk.new' _ _ _ (by simp)).under hb4 (by simp)
      have hbb4 : Below w3.heap.size w3 w4 := (((Below.refl w3.heap.size w3).alloc (Nat.le_refl _) _).alloc (by simp) _).trans (hb4.mono (by simp; omega))
      have HD4 : Hid (IsD w4 (· < w2.heap.size) kd [.int .i64 p0, .int .i64 p1, .int .u64 p2, .string p3, .slice p4 p5 p6]) := HD2b.out.under hbb4 (fun y hy => by omega)
      have HE4 : Hid (IsD w4 (· < w3.heap.size) kd [.int .i64 r0, .int .i64 r1, .int .u64 r2, .string r3, .slice r4 r5 r6]) := HD3.out.under hbb4 (fun _ h => h)
      have l4 := HQ4.out.lt
      clear hb4 x0 x1 x2 x3 x4 hbb4
      obtain ⟨x0, x1, x2, x3, x4⟩ := fcells HX4.out
      obtain ⟨y0, y1, y2, y3, y4⟩ := fcells HY4.out
      go_wp2_with fail
      refine (HSM.out w4 _ _ _ _ HD4.out (HDD.out.under hB4 (fun _ h => h)) (fun y hy => by omega) (fun y hy => by have := hB4.size; omega)).mono ?_
      rintro e w5 ⟨rfl, hb5⟩
      have hB5 := below_on hb5 hB4
      have HX5 : Hid (Blk w5 w.heap.size 30 _) := HX4.out.under hb5 HX4.out.lt
      have HZ5 : Hid (Blk w5 w3.heap.size 30 _) := HZ4.out.under hb5 HZ4.out.lt
      have HQ5 : Hid (Blk w5 (w3.heap.size + 1) 41 _) := HQ4.out.under hb5 HQ4.out.lt
      have HE5 : Hid (IsD w5 (· < w3.heap.size) kd [.int .i64 r0, .int .i64 r1, .int .u64 r2, .string r3, .slice r4 r5 r6]) := HE4.out.under hb5 (fun y hy => by omega)
      have l5 := HQ5.out.lt
      clear hb5 x0 x1 x2 x3 x4 y0 y1 y2 y3 y4
      obtain ⟨x0, x1, x2, x3, x4⟩ := fcells HX5.out
      obtain ⟨y0, y1, y2, y3, y4⟩ := fcells HZ5.out
      go_wp2_with fail
      refine (HSM.out w5 _ _ _ _ HE5.out (HDD.out.under hB5 (fun _ h => h)) (fun y hy => by omega) (fun y hy => by have := hB5.size; omega)).mono ?_
      rintro e w6 ⟨rfl, hb6⟩
      have hB6 := below_on hb6 hB5
      have HQ6 := HQ5.out.under hb6 HQ5.out.lt
      have q0 := HQ6.cell 0
      have q1 := HQ6.cell 1
      simp only [List.getElem?_toArray, List.getElem?_cons_succ, List.getElem?_cons_zero] at q0 q1
      clear hb6 x0 x1 x2 x3 x4 y0 y1 y2 y3 y4 HQ6
      go_wp2_with fail
      refine (awake_any _).mono ?_
      rintro e w7 ⟨rfl, hb7⟩
      have hB7 := below_on hb7 hB6
      clear hb7
      go_wp2_with fail
      go_ret
      exact ⟨rfl, hB7⟩
    | false =>
      have hmu := fun W (hW : Below w.heap.size w W) => Must_no kd q ds _ (by rw [hkd]; exact ht) W (HDD.out.under hW (fun _ h => h)) (fun y hy => Nat.lt_of_lt_of_le hy hW.size)
      obtain ⟨k, i, b, x, l⟩ := d
      obtain ⟨a, c, rfl, -⟩ := hdd.open_
      simp only [Tree.kind] at ht hk0 hk1
      have hk : kd.kind = k := by rw [hkd]; rfl
      rw [hk] at hmu
      have hto := fun W => to_no k q i b x (.slice a l.length c) ht W
      have hrf := fun W => to_ref k q i b x (.slice a l.length c) hk0 hk1 W
      rw [ht] at hrf
      have hz : ∀ W, Calls Try.prog 29 #[.agg #[.int .i64 0, .int .i64 0, .int .u64 0, .string ByteArray.empty, .slice none 0 0], .agg #[.int .i64 0, .int .i64 0, .int .u64 0, .string ByteArray.empty, .slice none 0 0]] W fun e w' => e = .returned (.bool true) ∧ Below W.heap.size W w' := fun W =>
        same_yes _ (.node 0 0 0 ByteArray.empty []) (Nat.le_refl _) W (fun _ => False) (fun _ => False) _ _ (IsD.leaf _ _ 0 0 0 ByteArray.empty (by decide) (by decide) (by decide) (by decide)) (IsD.leaf _ _ 0 0 0 ByteArray.empty (by decide) (by decide) (by decide) (by decide)) (fun _ h => h.elim) (fun _ h => h.elim)
      have HV := Lib.hid hv
      have HTO := Lib.hid hto
      have HMU := Lib.hid hmu
      have HRF := Lib.hid hrf
      have HSZ := Lib.hid hz
      clear hv hvb hdd hk0 hk1 hsz hkd ht hto hmu hrf hz hk HSM
      go_enter Try.func8, Try.ntmps8
      go_wp2_with fail
      refine (HV.out _ (by go_grown)).mono ?_
      rintro e w1 ⟨rfl, hb1⟩
      have hB1 : Below w.heap.size w w1 := below_on hb1 (by go_grown)
      have HX1 : Hid (Blk w1 w.heap.size 30 #[.int .i64 k, .int .i64 i, .int .u64 b, .string x, .slice a l.length c]) := (Blk.new _ _ _).under hb1 (by simp)
      obtain ⟨x0, x1, x2, x3, x4⟩ := fcells HX1.out
      clear hb1
      go_wp2_with fail
      refine (HTO.out _).mono ?_
      rintro e w2 ⟨rfl, hb2⟩
      have hB2 := below_on hb2 hB1
      have HX2 : Hid (Blk w2 w.heap.size 30 _) := HX1.out.under hb2 HX1.out.lt
      have lx2 := HX2.out.lt
      clear hb2 x0 x1 x2 x3 x4
      obtain ⟨x0, x1, x2, x3, x4⟩ := fcells HX2.out
      go_wp2_with fail
      refine (HMU.out _ (hB2.trans (by go_grown))).mono ?_
      rintro e w3 ⟨rfl, hb3⟩
      have hB3 : Below w.heap.size w w3 := below_on hb3 (hB2.trans (by go_grown))
      have HX3 : Hid (Blk w3 w.heap.size 30 _) := (HX2.out.alloc _).under hb3 (by simp; omega)
      have HY3 : Hid (Blk w3 w2.heap.size 30 #[.int .i64 0, .int .i64 0, .int .u64 0, .string ByteArray.empty, .slice none 0 0]) := (Blk.new _ _ _).under hb3 (by simp)
      have lx3 := HX3.out.lt
      have ly3 := HY3.out.lt
      clear hb3 x0 x1 x2 x3 x4
      obtain ⟨x0, x1, x2, x3, x4⟩ := fcells HX3.out
      go_wp2_with fail
      refine (HRF.out _).mono ?_
      rintro e w4 ⟨rfl, hb4⟩
      have hB4 : Below w.heap.size w w4 := below_on hb4 (hB3.trans (by go_grown))
      have HX4 : Hid (Blk w4 w.heap.size 30 _) := ((HX3.out.alloc _).alloc _).under hb4 (by simp; omega)
      have HY4 : Hid (Blk w4 w2.heap.size 30 _) := ((HY3.out.alloc _).alloc _).under hb4 (by simp; omega)
      have HZ4 : Hid (Blk w4 w3.heap.size 30 #[.int .i64 0, .int .i64 0, .int .u64 0, .string ByteArray.empty, .slice none 0 0]) := ((Blk.new _ _ _).alloc _).under hb4 (by simp; omega)
      have HQ4 : Hid (Blk w4 (w3.heap.size + 1) 41 #[.int .i64 k, .int .i64 (-1)]) := (Blk.new' _ _ _ (by simp)).under hb4 (by simp)
      clear hb4 x0 x1 x2 x3 x4
      obtain ⟨y0, y1, y2, y3, y4⟩ := fcells HY4.out
      go_wp2_with fail
      refine (HSZ.out w4).mono ?_
      rintro e w5 ⟨rfl, hb5⟩
      have hB5 := below_on hb5 hB4
      have HX5 : Hid (Blk w5 w.heap.size 30 _) := HX4.out.under hb5 HX4.out.lt
      have HZ5 : Hid (Blk w5 w3.heap.size 30 _) := HZ4.out.under hb5 HZ4.out.lt
      have HQ5 : Hid (Blk w5 (w3.heap.size + 1) 41 _) := HQ4.out.under hb5 HQ4.out.lt
      clear hb5 y0 y1 y2 y3 y4
      obtain ⟨y0, y1, y2, y3, y4⟩ := fcells HZ5.out
      go_wp2_with fail
      refine (HSZ.out w5).mono ?_
      rintro e w6 ⟨rfl, hb6⟩
      have hB6 := below_on hb6 hB5
      have HQ6 := HQ5.out.under hb6 HQ5.out.lt
      have HX6 := HX5.out.under hb6 HX5.out.lt
      have q0 := HQ6.cell 0
      have q1 := HQ6.cell 1
      have x0 := HX6.cell 0
      simp only [List.getElem?_toArray, List.getElem?_cons_succ, List.getElem?_cons_zero] at q0 q1 x0
      clear hb6 y0 y1 y2 y3 y4 HQ6 HX6
      go_wp2_with fail
      refine (awake_any _).mono ?_
      rintro e w7 ⟨rfl, hb7⟩
      have hB7 := below_on hb7 hB6
      clear hb7
      go_wp2_with fail
      go_ret
      exact ⟨rfl, hB7⟩

set_option maxRecDepth 100000 in
theorem walk_WantAsserts {H : Type} {enc : TypeId × Value → H} {base : Nat} (v : Value) (q : Int) {d : DataW H} {p : List MemPlace} (W : World) (ok : Value.okWide Try.prog W .any base 30 v)
    (tr : DataW.Trod enc Try.prog W 0 (fun _ => true) true 30 v d p) (_ : (Lit.int .i64 q).wf = true) : Calls Try.prog 8 #[v, .int .i64 q] W fun e w' => e = .returned (.bool true) ∧ Below W.heap.size W w' := by
  obtain ⟨u, ds, rfl, hdd⟩ := datum_arg ok tr
  exact asserts_go u q ds W hdd
end Go.Proofs.Ytpemgccocmdmbaa
