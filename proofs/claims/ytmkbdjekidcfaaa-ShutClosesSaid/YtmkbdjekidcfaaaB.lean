/- Contracts: ints, waits. -/
import Derived.Test.YtmkbdjekidcfaaaA
namespace Go.Proofs.Ytmkbdjekidcfaaa
open Go.RowKit

theorem take_eq_succ {l m : List Int} {k : Nat} (h : l.take k = m.take k) (h1 : k < l.length) (h2 : k < m.length) (he : l.getD k 0 = m.getD k 0) : l.take (k + 1) = m.take (k + 1) := by
  rw [List.take_succ_eq_append_getElem h1, List.take_succ_eq_append_getElem h2, h]
  simp [h1, h2] at he
  rw [he]

set_option maxHeartbeats 1000000 in
theorem ints_any (v1 v2 : Value) (l m : List Int) (w : World) (h1 : RowAt w v1 l) (h2 : RowAt w v2 m) :
    Calls Try.prog 11 #[v1, v2] w fun e w' => e = .returned (.bool (decide (l = m))) ∧ Below w.heap.size w w' := by
  obtain ⟨a1, c1, rfl, hl1, hx1⟩ := h1
  obtain ⟨a2, c2, rfl, hl2, hx2⟩ := h2
  have HX1 := Lib.hid hx1
  have HX2 := Lib.hid hx2
  clear hx1 hx2
  by_cases hlen : l.length = m.length
  · have HLen := Lib.hid hlen
    have hb : (((l.length : Int) != (m.length : Int))) = false := by simp [hlen]
    clear hlen
    go_enter Try.func11, Try.ntmps11
    go_wp2_with fail
    go_loopw [13] (fun i wr => ∃ k : Nat, k ≤ l.length ∧ i = .int .i64 k ∧ l.take k = m.take k ∧ Below w.heap.size w wr) (fun i _ => l.length - (intOf i).toNat)
    case atStart => exact ⟨0, Nat.zero_le _, rfl, rfl, Below.refl _ _⟩
    case round =>
      obtain ⟨k, hk, rfl, ht, hB⟩ := hrel
      have HT := Lib.hid ht
      clear ht
      by_cases hlt : k < l.length
      · have hlt2 : k < m.length := by have := HLen.out; omega
        obtain ⟨b1, o1, rfl, hc1, -⟩ := HX1.out k hlt
        obtain ⟨b2, o2, rfl, hc2, -⟩ := HX2.out k hlt2
        have d1 : wr.cell? ⟨b1, o1 + k, none⟩ = some (.int .i64 (l.getD k 0)) := cell_over hB (World.block_lt_of_cell? _ _ hc1) hc1
        have d2 : wr.cell? ⟨b2, o2 + k, none⟩ = some (.int .i64 (m.getD k 0)) := cell_over hB (World.block_lt_of_cell? _ _ hc2) hc2
        clear hc1 hc2
        have he := take_eq_succ HT.out hlt hlt2
        have hne : l.getD k 0 ≠ m.getD k 0 → l ≠ m := fun h e => h (by rw [e])
        have HE := Lib.hid he
        have HNE := Lib.hid hne
        clear he hne
        generalize l.getD k 0 = x at *
        generalize m.getD k 0 = y at *
        by_cases hxy : x = y
        · subst hxy
          go_wp2_with fail
          go_quiet (fail)
          go_wp2_with fail
          go_roundw
          case rel => exact ⟨k + 1, by omega, by go_num, HE.out (by first | rfl | trivial), ⟨hB.os, hB.tape, hB.output, hB.size, hB.block⟩⟩
          case measure => simp [intOf]; omega
        · have hb2 : (x != y) = true := by simp [hxy]
          go_wp2_with fail
          go_quiet (fail)
          go_wp2_with fail
          go_ret
          exact ⟨by rw [decide_eq_false (HNE.out hxy)]; rfl, ⟨hB.os, hB.tape, hB.output, hB.size, hB.block⟩⟩
      · have hf : Hid (decide (l = m) = true) := decide_eq_true (by
          have h := HT.out
          rw [List.take_of_length_le (by omega), List.take_of_length_le (by have := HLen.out; omega)] at h
          exact h)
        go_wp2_with fail
        go_ret
        exact ⟨by rw [hf.out]; rfl, hB⟩
  · have hb : (((l.length : Int) != (m.length : Int))) = true := by simp; omega
    have hf : Hid (decide (l = m) = false) := decide_eq_false (fun e => hlen (by rw [e]))
    go_enter Try.func11, Try.ntmps11
    go_wp2_with fail
    go_ret
    exact ⟨by rw [hf.out]; rfl, Below.refl _ _⟩

/-- A value that is a list of bools. -/
def BoolsAt (w : World) (v : Value) (n : Nat) (f : Nat → Bool) : Prop :=
  ∃ a c, v = .slice a n c ∧ ∀ j, j < n → ∃ b o, a = some ⟨b, o, none⟩ ∧ w.cell? ⟨b, o + j, none⟩ = some (.bool (f j))

/-- Is k one that must be closed first, and is not yet? -/
def tst (rows : List (List Int)) (i : Nat) (f : Nat → Bool) (x : Int) : Bool := decide (0 ≤ x) && decide (x < rows.length) && decide (x ≠ i) && !f x.toNat
def waitsB (rows : List (List Int)) (i : Nat) (f : Nat → Bool) : Bool := (rowOf rows i).any (tst rows i f)

theorem any_take_succ {l : List Int} {k : Nat} (p : Int → Bool) (hk : k < l.length) : (l.take (k + 1)).any p = ((l.take k).any p || p (l.getD k 0)) := by
  rw [List.take_succ_eq_append_getElem hk, List.any_append, List.getD_eq_getElem?_getD, List.getElem?_eq_getElem hk]
  simp only [List.any_cons, List.any_nil, Bool.or_false, Option.getD_some]
theorem any_of_take {l : List Int} {k : Nat} (p : Int → Bool) (h : (l.take k).any p = true) : l.any p = true := by
  rw [← List.take_append_drop k l, List.any_append, h]; rfl

set_option maxHeartbeats 2000000 in
theorem waits_any (v vd : Value) (rows : List (List Int)) (i : Nat) (f : Nat → Bool) (w : World) (h : RowsAt w v rows) (hi : i < rows.length) (hd : BoolsAt w vd rows.length f) :
    Calls Try.prog 20 #[v, .int .i64 i, vd] w fun e w' => e = .returned (.bool (waitsB rows i f)) ∧ w = w' := by
  obtain ⟨a, c, rfl, hl, hx⟩ := h
  obtain ⟨ad, cd, rfl, hxd⟩ := hd
  obtain ⟨b, o, rv, rfl, hc, ar, cr, rfl, hlr, hxr⟩ := hx i hi
  have HXD := Lib.hid hxd
  have HXR := Lib.hid hxr
  clear hxd hxr hx
  have HW : Hid (waitsB rows i f = (rowOf rows i).any (tst rows i f)) := rfl
  have HP : Hid (∀ x, tst rows i f x = (decide (0 ≤ x) && decide (x < rows.length) && decide (x ≠ i) && !f x.toNat)) := fun _ => rfl
  generalize hp : tst rows i f = p at *
  generalize rowOf rows i = row at *
  clear hp
  go_enter Try.func20, Try.ntmps20
  go_wp2_with fail
  go_loop [14] (fun t => ∃ k : Nat, k ≤ row.length ∧ t = .int .i64 k ∧ (row.take k).any p = false) (fun t => row.length - (intOf t).toNat)
  case atStart => exact ⟨0, Nat.zero_le _, rfl, rfl⟩
  case round =>
    obtain ⟨k, hk, rfl, ht⟩ := hrel
    have HT := Lib.hid ht
    clear ht
    by_cases hlt : k < row.length
    · obtain ⟨br, or', rfl, hcr, -⟩ := HXR.out k hlt
      have HS : Hid ((row.take (k + 1)).any p = p (row.getD k 0)) := by rw [any_take_succ p hlt, HT.out]; rfl
      have HA : Hid (p (row.getD k 0) = true → row.any p = true) := fun hh => any_of_take (k := k + 1) p (by rw [HS.out, hh])
      have HPx := Lib.hid (HP.out (row.getD k 0))
      generalize row.getD k 0 = x at *
      by_cases h0 : 0 ≤ x
      · obtain ⟨m, rfl⟩ := Int.eq_ofNat_of_zero_le h0
        by_cases h1 : (m : Int) < rows.length
        · by_cases h2 : (m : Int) = i
          · have hmi : m = i := by omega
            subst hmi
            have hb : ((m : Int) != (m : Int)) = false := by simp
            have hF : p (m : Int) = false := by rw [HPx.out]; simp
            have HF := Lib.hid hF
            clear hF
            go_wp2_with fail
            go_round
            case rel => exact ⟨k + 1, by omega, by go_num, by rw [HS.out, HF.out]⟩
            case measure => simp [intOf]; omega
          · have hb : ((m : Int) != (i : Int)) = true := by simp; omega
            obtain ⟨bd, od, rfl, hcd⟩ := HXD.out m (by omega)
            have hF : p (m : Int) = !f m := by rw [HPx.out]; simp [h1, h2]
            have HF := Lib.hid hF
            clear hF
            cases hfm : f m with
            | true =>
              rw [hfm] at hcd HF
              go_wp2_with fail
              go_round
              case rel => exact ⟨k + 1, by omega, by go_num, by rw [HS.out, HF.out]; rfl⟩
              case measure => simp [intOf]; omega
            | false =>
              rw [hfm] at hcd HF
              have HFin : Hid (waitsB rows i f = true) := by rw [HW.out]; exact HA.out (by rw [HF.out]; rfl)
              clear hfm
              go_wp2_with fail
              go_ret
              exact ⟨by rw [HFin.out]; rfl, rfl⟩
        · have hF : p (m : Int) = false := by rw [HPx.out]; simp [h1]
          have HF := Lib.hid hF
          clear hF
          go_wp2_with fail
          go_round
          case rel => exact ⟨k + 1, by omega, by go_num, by rw [HS.out, HF.out]⟩
          case measure => simp [intOf]; omega
      · have hF : p x = false := by rw [HPx.out]; simp [h0]
        have HF := Lib.hid hF
        clear hF
        go_wp2_with fail
        go_round
        case rel => exact ⟨k + 1, by omega, by go_num, by rw [HS.out, HF.out]⟩
        case measure => simp [intOf]; omega
    · have HFin : Hid (waitsB rows i f = false) := by
        rw [HW.out]
        have h := HT.out
        rwa [List.take_of_length_le (by omega)] at h
      go_wp2_with fail
      go_ret
      exact ⟨by rw [HFin.out]; rfl, rfl⟩

end Go.Proofs.Ytmkbdjekidcfaaa
