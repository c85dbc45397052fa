/- WantPlain: the walk. -/
import Derived.Test.YtpemgccocmdmbaaPs
import Derived.Test.YtpemgccocmdmbaaLa
namespace Go.Proofs.Ytpemgccocmdmbaa
open Go.RowKit Go.ChangeShapes Go.WideShapes Go.Deep
attribute [local go_sem] Go.undef

/-- The loop that spoils the plain pattern's parts: all else stays. -/
def SPW (w : World) (A B3 B4 g m : Nat) (S : Nat → Prop) (q : WT) (ca c3 c4 : List Value) (iv : Value) (wr : World) : Prop :=
  ∃ j : Nat, iv = .int .i64 j ∧ j ≤ m ∧ Blk wr A 24 ca.toArray ∧ Blk wr B3 24 c3.toArray ∧ Blk wr B4 24 c4.toArray ∧ (0 < m → ∃ T cur, Blk wr g T cur ∧ m * 3 ≤ cur.size) ∧ IsW wr S q c4 ∧ (∀ b, S b → b < wr.heap.size) ∧ Below w.heap.size w wr

set_option maxRecDepth 100000 in
set_option maxHeartbeats 16000000 in
theorem plain_go (t : WT) (cs : List Value) (w : World) (hd : IsW w (· < w.heap.size) t cs) : Calls Try.prog 10 #[.agg cs.toArray] w fun e w' => e = .returned (.bool true) ∧ Below w.heap.size w w' := by
  have hf := fun W (hW : Below w.heap.size w W) => want_fit t W _ cs (hd.under hW (fun _ h => h)) (fun q hq => Nat.lt_of_lt_of_le hq hW.size)
  cases hfb : fitW t with
  | false =>
    rw [hfb] at hf
    obtain ⟨o, n, l⟩ := t
    obtain ⟨a, c, rfl, -⟩ := hd.open_
    have HF := Lib.hid hf
    clear hf hd hfb
    go_enter Try.func10, Try.ntmps10
    go_wp2_with fail
    refine (HF.out _ (by go_grown)).mono ?_
    rintro e w1 ⟨rfl, hb1⟩
    have hB1 : Below w.heap.size w w1 := below_on hb1 (by go_grown)
    clear hb1
    go_wp2_with fail
    refine (awake_any _).mono ?_
    rintro e w2 ⟨rfl, hb2⟩
    have hB2 : Below w.heap.size w w2 := below_on hb2 hB1
    clear hb2
    go_wp2_with fail
    go_ret
    exact ⟨rfl, hB2⟩
  | true =>
    rw [hfb] at hf
    have hok := fit_ok hfb
    have hlt := kindsW_lt t
    have hpf := ofT_fit (kindsW t) hlt
    have hpk := ofT_kinds (kindsW t) hlt
    have hpo := fit_ok hpf
    have hp := fun W (hW : Below w.heap.size w W) => plain_any t W _ cs hok (hd.under hW (fun _ h => h)) (fun q hq => Nat.lt_of_lt_of_le hq hW.size)
    have hr := fun W (hW : Below w.heap.size w W) => plain_ref t W _ cs hok (hd.under hW (fun _ h => h)) (fun q hq => Nat.lt_of_lt_of_le hq hW.size)
    have hk := fun W (hW : Below w.heap.size w W) => kinds_want _ t (Nat.le_refl _) hok W _ cs (hd.under hW (fun _ h => h)) (fun q hq => Nat.lt_of_lt_of_le hq hW.size)
    generalize hu : ofT (kindsW t) = u at hpf hpk hpo hp hr
    generalize kindsW t = s at *
    obtain ⟨o, n, l⟩ := t
    obtain ⟨a, c, rfl, -⟩ := hd.open_
    have HF := Lib.hid hf
    have HP := Lib.hid hp
    have HR := Lib.hid hr
    have HK := Lib.hid hk
    have HPF := Lib.hid hpf
    have HPO := Lib.hid hpo
    have HPK := Lib.hid hpk
    have HU := Lib.hid hu
    clear hf hp hr hk hd hfb hok hlt hpf hpo hpk hu
    go_enter Try.func10, Try.ntmps10
    go_wp2_with fail
    refine (HF.out _ (by go_grown)).mono ?_
    rintro e w1 ⟨rfl, hb1⟩
    have hB1 : Below w.heap.size w w1 := below_on hb1 (by go_grown)
    have HA1 : Hid (Blk w1 w.heap.size 24 #[.int .i64 o, .int .i64 n, .slice a l.length c]) := (Blk.new _ _ _).under hb1 (by simp)
    have la := HA1.out.lt
    obtain ⟨x0, x1, x2⟩ := w3cells HA1.out
    clear hb1
    go_wp2_with fail
    refine (HP.out _ hB1).mono ?_
    rintro e w2 ⟨cs2, rfl, hw2, ⟨o2, n2, a2, m2, c2, rfl, hown⟩, hb2⟩
    have hB2 : Below w.heap.size w w2 := below_on hb2 hB1
    have HA2 : Hid (Blk w2 w.heap.size 24 _) := HA1.out.under hb2 la
    have HW2 := Lib.hid hw2
    have HOWN := Lib.hid hown
    have l2 := hb2.size
    clear x0 x1 x2 hb2 hown hw2
    go_upto_region 4 with fail
    show Code.wp _ _ _ _ (w2.alloc _)
    generalize hW3 : w2.alloc _ = w3
    have hB3 : Below w.heap.size w w3 := by rw [← hW3]; go_grown
    have h23 : Below w2.heap.size w2 w3 := by rw [← hW3]; go_grown
    have hsz3 : w3.heap.size = w2.heap.size + 1 := by rw [← hW3]; simp
    have HA3 : Hid (Blk w3 w.heap.size 24 #[.int .i64 o, .int .i64 n, .slice a l.length c]) := by rw [← hW3]; exact HA2.out.alloc _
    have HX3 : Hid (Blk w3 w2.heap.size 24 #[.int .i64 o2, .int .i64 n2, .slice a2 m2 c2]) := by rw [← hW3]; exact Blk.new _ _ _
    have HW3 : Hid (IsW w3 (Btw w1.heap.size w2.heap.size) u [.int .i64 o2, .int .i64 n2, .slice a2 m2 c2]) := HW2.out.under h23 (fun q hq => hq.2)
    have HO3 : Hid (0 < m2 → ∃ g T cur, a2 = some ⟨g, 0, none⟩ ∧ w1.heap.size ≤ g ∧ g < w2.heap.size ∧ Blk w3 g T cur ∧ m2 * 3 ≤ cur.size) := fun h0 => by
      obtain ⟨g, T, cur, h1, h2, h3, h4⟩ := HOWN.out h0
      exact ⟨g, T, cur, h1, h2, h3.lt, h3.under h23 h3.lt, h4⟩
    have HSA : Hid (∀ (W : World) (lo : Nat) (cs' : List Value), Below w3.heap.size w3 W → IsW W (Btw lo W.heap.size) u cs' → Calls Try.prog 37 #[.agg #[.int .i64 o2, .int .i64 n2, .slice a2 m2 c2], .agg cs'.toArray] W fun e w' => e = .returned (.bool true) ∧ Below W.heap.size W w') := fun W lo cs' hW h =>
      same_want _ u (Nat.le_refl _) W _ _ _ _ (HW3.out.under hW (fun q hq => by have := hq.2; omega)) h (fun q hq => by have := hq.2; have := hW.size; omega) (fun q hq => hq.2)
    have HVA : Hid (∀ W : World, Below w3.heap.size w3 W → Calls Try.prog 12 #[.agg #[.int .i64 o2, .int .i64 n2, .slice a2 m2 c2]] W fun e w' => e = .returned (.bool true) ∧ Below W.heap.size W w') := fun W hW => by
      have h := want_valid u W _ _ (HW3.out.under hW (fun q hq => by have := hq.2; omega)) (fun q hq => by have := hq.2; have := hW.size; omega)
      rw [HPF.out] at h
      exact h
    have HKA : Hid (∀ W : World, Below w3.heap.size w3 W → Calls Try.prog 16 #[.agg #[.int .i64 o2, .int .i64 n2, .slice a2 m2 c2]] W fun e w' => e = .returned (.int .u32 s) ∧ Below W.heap.size W w') := fun W hW => by
      have h := kinds_want _ u (Nat.le_refl _) HPO.out W _ _ (HW3.out.under hW (fun q hq => by have := hq.2; omega)) (fun q hq => by have := hq.2; have := hW.size; omega)
      rw [HPK.out] at h
      exact h
    have HKB : Hid (∀ W : World, Below w3.heap.size w3 W → Calls Try.prog 16 #[.agg #[.int .i64 o, .int .i64 n, .slice a l.length c]] W fun e w' => e = .returned (.int .u32 s) ∧ Below W.heap.size W w') := fun W hW => HK.out W (below_on hW hB3)
    have HRB : Hid (∀ W : World, Below w3.heap.size w3 W → Calls Try.prog 38 #[.agg #[.int .i64 o, .int .i64 n, .slice a l.length c]] W fun e w' => ∃ cs' : List Value, e = .returned (.agg cs'.toArray) ∧ IsW w' (Btw W.heap.size w'.heap.size) u cs' ∧ Below W.heap.size W w') := fun W hW => HR.out W (below_on hW hB3)
    have HPA : Hid (∀ W : World, Below w3.heap.size w3 W → Calls Try.prog 36 #[.agg #[.int .i64 o2, .int .i64 n2, .slice a2 m2 c2]] W (Plained W u)) := fun W hW => by
      have h := plain_any u W _ _ HPO.out (HW3.out.under hW (fun q hq => by have := hq.2; omega)) (fun q hq => by have := hq.2; have := hW.size; omega)
      rw [HPK.out, HU.out] at h
      exact h
    obtain ⟨x0, x1, x2⟩ := w3cells HA3.out
    obtain ⟨y0, y1, y2⟩ := w3cells HX3.out
    have hbel : Below w3.heap.size w3 w3.drew := (Below.refl _ _).drew
    clear hW3 h23
    go_region_held3 (fun w' => w'.cell? ⟨w.heap.size, 0, none⟩ = some (.int .i64 o) ∧ w'.cell? ⟨w.heap.size, 1, none⟩ = some (.int .i64 n) ∧ w'.cell? ⟨w.heap.size, 2, none⟩ = some (.slice a l.length c) ∧ w'.cell? ⟨w2.heap.size, 0, none⟩ = some (.int .i64 o2) ∧ w'.cell? ⟨w2.heap.size, 1, none⟩ = some (.int .i64 n2) ∧ w'.cell? ⟨w2.heap.size, 2, none⟩ = some (.slice a2 m2 c2) ∧ Below w3.heap.size w3 w')
      (first
        | (exact ⟨x0, x1, x2, y0, y1, y2, hbel⟩)
        | (go_split_ands; exact ⟨by assumption, by assumption, by assumption, by assumption, by assumption, by assumption, by assumption⟩)
        | (go_split_ands; exact ⟨cell_on hb (by assumption), cell_on hb (by assumption), cell_on hb (by assumption), cell_on hb (by assumption), cell_on hb (by assumption), cell_on hb (by assumption), below_on hb (by assumption)⟩))
      (first
        | (go_split_ands; go_at_call 38; refine (HRB.out _ (by assumption)).mono ?_; rintro e wq ⟨csq, rfl, hwq, hb⟩)
        | (go_split_ands; go_at_call 37; refine (HSA.out _ _ _ (by assumption) (by assumption)).mono ?_; rintro e wq ⟨rfl, hb⟩)
        | (go_split_ands; go_at_call 12; refine (HVA.out _ (by assumption)).mono ?_; rintro e wq ⟨rfl, hb⟩)
        | (go_split_ands; go_at_call 16; with_reducible refine (HKA.out _ (by assumption)).mono ?_; rintro e wq ⟨rfl, hb⟩)
        | (go_split_ands; go_at_call 16; with_reducible refine (HKB.out _ (by assumption)).mono ?_; rintro e wq ⟨rfl, hb⟩))
    go_split_ands
    go_wp2_with fail
    refine (HPA.out _ (by assumption)).mono ?_
    rintro e w5 ⟨cs5, rfl, hq5, ⟨o5, n5, a5, m5, c5, rfl, -⟩, hb5⟩
    obtain ⟨hB5, hQ5⟩ : Below w3.heap.size w3 w5 ∧ IsW w5 (Btw w3.heap.size w5.heap.size) u [.int .i64 o5, .int .i64 n5, .slice a5 m5 c5] := by
      obtain ⟨w4, h1, h2, h3⟩ : ∃ w4, Below w3.heap.size w3 w4 ∧ Below w4.heap.size w4 w5 ∧ IsW w5 (Btw w4.heap.size w5.heap.size) u [.int .i64 o5, .int .i64 n5, .slice a5 m5 c5] := ⟨_, by assumption, hb5, hq5⟩
      exact ⟨below_on h2 h1, h3.mono (fun q hq => ⟨Nat.le_trans h1.size hq.1, hq.2⟩)⟩
    have hm2 : m2 ≤ 9223372036854775807 := by
      obtain ⟨ou, nu, lu⟩ := u
      obtain ⟨a9, c9, h1, h2⟩ := HW3.out.open_
      have h3 := h2.2.2.1
      have h4 := h2.2.1
      injection h1 with _ h1
      injection h1 with _ h1
      injection h1 with h1 _
      injection h1 with _ h1 _
      unfold maxLen at h3
      omega
    have HA5 : Hid (Blk w5 w.heap.size 24 #[.int .i64 o, .int .i64 n, .slice a l.length c]) := HA3.out.under hB5 HA3.out.lt
    have HX5 : Hid (Blk w5 w2.heap.size 24 #[.int .i64 o2, .int .i64 n2, .slice a2 m2 c2]) := HX3.out.under hB5 HX3.out.lt
    obtain ⟨g, hg⟩ : ∃ g, 0 < m2 → ∃ T cur, a2 = some ⟨g, 0, none⟩ ∧ w1.heap.size ≤ g ∧ g < w2.heap.size ∧ Blk w5 g T cur ∧ m2 * 3 ≤ cur.size := by
      rcases Nat.eq_zero_or_pos m2 with h | h
      · exact ⟨0, fun h' => by omega⟩
      · obtain ⟨g, T, cur, h1, h2, h3, h4, h5⟩ := HO3.out h
        exact ⟨g, fun _ => ⟨T, cur, h1, h2, h3, h4.under hB5 h4.lt, h5⟩⟩
    have hBw5 : Below w.heap.size w w5 := below_on hB5 hB3
    have l5 := hB5.size
    have HG := Lib.hid hg
    have HQ5 := Lib.hid hQ5
    clear x0 x1 x2 y0 y1 y2 hbel hg hQ5 hq5 hb5
    go_wp2_with fail
    have hA6 : Blk (w5.alloc (.cells #[.int .i64 o5, .int .i64 n5, .slice a5 m5 c5] 24)) w.heap.size 24 #[.int .i64 o, .int .i64 n, .slice a l.length c] := HA5.out.alloc _
    go_loopw [5] (SPW w w.heap.size w2.heap.size w5.heap.size g m2 (Btw w3.heap.size w5.heap.size) u [.int .i64 o, .int .i64 n, .slice a l.length c] [.int .i64 o2, .int .i64 n2, .slice a2 m2 c2] [.int .i64 o5, .int .i64 n5, .slice a5 m5 c5]) (fun i _ => m2 - (intOf i).toNat)
    case atStart =>
      refine ⟨0, rfl, Nat.zero_le _, hA6, HX5.out.alloc _, Blk.new _ _ _, fun h0 => ?_, HQ5.out.under (B := w5.heap.size) (by go_grown) (fun q hq => hq.2), fun q hq => by have := hq.2; simp; omega, by go_grown⟩
      obtain ⟨T, cur, -, -, -, h4, h5⟩ := HG.out h0
      exact ⟨T, cur, h4.alloc _, h5⟩
    case round =>
      obtain ⟨j, rfl, hj, hA, hX, hQ, hown, hq, hS, hbel⟩ := hrel
      have HA := Lib.hid hA
      have HX := Lib.hid hX
      have HQ := Lib.hid hQ
      have HQW := Lib.hid hq
      have HS := Lib.hid hS
      obtain ⟨x0, x1, x2⟩ := w3cells hA
      obtain ⟨y0, y1, y2⟩ := w3cells hX
      obtain ⟨z0, z1, z2⟩ := w3cells hQ
      clear hA hX hQ hq hS
      by_cases hl : j < m2
      · obtain ⟨T, cur, hb, hc⟩ := hown (by omega)
        obtain ⟨T', cur', rfl, hg1, hg2, -, -⟩ := HG.out (by omega)
        obtain ⟨v0, hv0⟩ : ∃ v, cur[j * 3]? = some v := ⟨_, Array.getElem?_eq_getElem (show j * 3 < cur.size by omega)⟩
        have k0 : wr.cell? ⟨g, j * 3, none⟩ = some v0 := by rw [hb.cell, hv0]
        have k1 : wr.frozen? ⟨g, j * 3, none⟩ = false := hb.free _
        have HB := Lib.hid hb
        clear hb hown hv0
        go_wp2_with fail
        go_roundw
        case rel => exact ⟨j + 1, by go_num, by omega, HA.out.far (by simp; omega) _, HX.out.far (by simp; omega) _, HQ.out.far (by simp; omega) _, fun _ => ⟨T, _, HB.out.set _ _, by simpa using hc⟩, HQW.out.keep (fun _ h => h) (fun b hb q => World.cell?_of_block (a := ⟨b, q, none⟩) (heap_set (by have := hb.1; simp; omega))), fun b hb => by simpa using HS.out b hb, hbel.setCell (by simp; omega) _⟩
        case measure => simp [intOf]; omega
      · obtain rfl : j = m2 := by omega
        have HPB : Hid (∀ W : World, Below wr.heap.size wr W → Calls Try.prog 36 #[.agg #[.int .i64 o, .int .i64 n, .slice a l.length c]] W (Plained W u)) := fun W hW => HP.out W (below_on hW hbel)
        have HSB : Hid (∀ (W : World) (lo : Nat) (cs' : List Value), Below wr.heap.size wr W → IsW W (Btw lo W.heap.size) u cs' → Calls Try.prog 37 #[.agg #[.int .i64 o5, .int .i64 n5, .slice a5 m5 c5], .agg cs'.toArray] W fun e w' => e = .returned (.bool true) ∧ Below W.heap.size W w') := fun W lo cs' hW h =>
          same_want _ u (Nat.le_refl _) W _ _ _ _ (HQW.out.under hW HS.out) h (fun q hq => Nat.lt_of_lt_of_le (HS.out q hq) hW.size) (fun q hq => hq.2)
        have hd : Below wr.heap.size wr wr.drew := (Below.refl _ _).drew
        clear hown
        go_upto_region 11 with fail
        go_region_held3 (fun w' => w'.cell? ⟨w.heap.size, 0, none⟩ = some (.int .i64 o) ∧ w'.cell? ⟨w.heap.size, 1, none⟩ = some (.int .i64 n) ∧ w'.cell? ⟨w.heap.size, 2, none⟩ = some (.slice a l.length c) ∧ w'.cell? ⟨w5.heap.size, 0, none⟩ = some (.int .i64 o5) ∧ w'.cell? ⟨w5.heap.size, 1, none⟩ = some (.int .i64 n5) ∧ w'.cell? ⟨w5.heap.size, 2, none⟩ = some (.slice a5 m5 c5) ∧ Below wr.heap.size wr w')
          (first
            | (exact ⟨x0, x1, x2, z0, z1, z2, hd⟩)
            | (go_split_ands; exact ⟨by assumption, by assumption, by assumption, by assumption, by assumption, by assumption, by assumption⟩)
            | (go_split_ands; exact ⟨cell_on hb (by assumption), cell_on hb (by assumption), cell_on hb (by assumption), cell_on hb (by assumption), cell_on hb (by assumption), cell_on hb (by assumption), below_on hb (by assumption)⟩))
          (first
            | (go_split_ands; go_at_call 36; refine (HPB.out _ (by assumption)).mono ?_; rintro e wq ⟨csq, rfl, hwq, -, hb⟩)
            | (go_split_ands; go_at_call 37; refine (HSB.out _ _ _ (by assumption) (by assumption)).mono ?_; rintro e wq ⟨rfl, hb⟩)
            | (go_split_ands; go_at_call 14; refine (awake_any _).mono ?_; rintro e wq ⟨rfl, hb⟩))
        go_split_ands
        go_wp2_with fail
        go_ret
        exact ⟨rfl, below_on (by assumption) hbel⟩
set_option maxRecDepth 100000 in
theorem walk_WantPlain {H : Type} {enc : TypeId × Value → H} {base : Nat} (v : Value) {d : DataW H} {p : List MemPlace} (W : World) (ok : Value.okWide Try.prog W .any base 24 v)
    (tr : DataW.Trod enc Try.prog W 0 (fun _ => true) true 24 v d p) : Calls Try.prog 10 #[v] W fun e w' => e = .returned (.bool true) ∧ Below W.heap.size W w' := by
  obtain ⟨t, cs, rfl, hd⟩ := want_arg ok tr
  exact plain_go t cs W hd
end Go.Proofs.Ytpemgccocmdmbaa
