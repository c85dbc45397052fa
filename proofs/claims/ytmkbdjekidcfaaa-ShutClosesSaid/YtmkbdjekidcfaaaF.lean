/- The contract of things. -/
import Derived.Test.YtmkbdjekidcfaaaE
namespace Go.Proofs.Ytmkbdjekidcfaaa
open Go.RowKit
open Go.Maps (Keyed has Tidy)

def sN (rows : List (List Int)) (i k : Nat) (q : Int) : Bool := decide (0 ≤ q) && decide (q < rows.length) && decide (q ≠ i) && ((rowOf rows i).take k).contains q

theorem sN_zero (rows : List (List Int)) (i : Nat) (q : Int) : false = sN rows i 0 q := by simp [sN]
theorem sN_all {rows : List (List Int)} {i k : Nat} (hk : (rowOf rows i).length ≤ k) (q : Int) : sN rows i k q = nd rows i q := by unfold sN nd; rw [List.take_of_length_le hk]
theorem contains_take_succ {l : List Int} {k : Nat} (hk : k < l.length) (q : Int) : (l.take (k + 1)).contains q = ((l.take k).contains q || decide (q = l.getD k 0)) := by
  rw [List.take_succ_eq_append_getElem hk, List.getD_eq_getElem?_getD, List.getElem?_eq_getElem hk, Bool.eq_iff_iff]
  simp only [List.contains_eq_mem, List.mem_append, List.mem_singleton, Option.getD_some, decide_eq_true_eq, Bool.or_eq_true]
theorem sN_yes {rows : List (List Int)} {i k : Nat} (hk : k < (rowOf rows i).length) (h0 : 0 ≤ (rowOf rows i).getD k 0) (h1 : (rowOf rows i).getD k 0 < rows.length) (h2 : (rowOf rows i).getD k 0 ≠ i) (q : Int) :
    (sN rows i k q || decide (q = (rowOf rows i).getD k 0)) = sN rows i (k + 1) q := by
  unfold sN
  rw [contains_take_succ hk]
  by_cases e : q = (rowOf rows i).getD k 0
  · rw [e]; simp only [h0, h1, h2, decide_true, Bool.true_and, Bool.or_true, ne_eq, not_false_eq_true]
  · simp only [e, decide_false, Bool.or_false]
theorem sN_no {rows : List (List Int)} {i k : Nat} (hk : k < (rowOf rows i).length) (h : ¬ (0 ≤ (rowOf rows i).getD k 0 ∧ (rowOf rows i).getD k 0 < rows.length ∧ (rowOf rows i).getD k 0 ≠ i)) (q : Int) :
    sN rows i k q = sN rows i (k + 1) q := by
  unfold sN
  rw [contains_take_succ hk]
  by_cases e : q = (rowOf rows i).getD k 0
  · have : (decide (0 ≤ q) && decide (q < rows.length) && decide (q ≠ i)) = false := by
      rw [e]
      generalize (rowOf rows i).getD k 0 = x at *
      simp
      intro h0 h1
      by_cases h2 : x = i
      · exact h2
      · exact absurd ⟨h0, h1, h2⟩ h
    rw [this]
    rfl
  · simp only [e, decide_false, Bool.or_false]

theorem info50 : (Try.prog.info? 50).map (fun i => (i.zero, i.size, i.bytes)) = some (some (.pointer none), 1, 8) := by kernel_rfl

def T1 (rows : List (List Int)) (w : World) (i v : Value) (wr : World) : Prop :=
  ∃ (k : Nat) (Bk Mk : Nat → Nat), i = .int .i64 k ∧ k ≤ rows.length ∧ wr.ownsRow w.heap.size 50 1 v k (ptrs k Bk) ∧ TB wr w.heap.size wr.heap.size k 400 Bk Mk (nd rows) ∧ Below w.heap.size w wr

def T2 (rows : List (List Int)) (wr : World) (k : Nat) (i : Value) (wi : World) : Prop :=
  ∃ m : Nat, i = .int .i64 m ∧ m ≤ (rowOf rows k).length ∧ wi.heap[wr.heap.size + 1]? = some (thingObj k wr.heap.size) ∧ SetAt wi wr.heap.size m (sN rows k m) ∧ Below wr.heap.size wr wi

set_option maxHeartbeats 4000000 in
set_option maxRecDepth 100000 in
theorem things_any (v : Value) (rows : List (List Int)) (w : World) (h : RowsAt w v rows) (hs : smallB rows = true) :
    Calls Try.prog 18 #[v] w fun e w' => ∃ vl Bk Mk, e = .returned vl ∧ w'.ownsRow w.heap.size 50 1 vl rows.length (ptrs rows.length Bk) ∧ TB w' w.heap.size w'.heap.size rows.length 400 Bk Mk (nd rows) ∧ Below w.heap.size w w' := by
  obtain ⟨i50, hi, hz0, hz1, hz2⟩ := info_parts info50
  obtain ⟨hlen, hrow⟩ := smallB_true hs
  have HRL := Lib.hid hrow
  obtain ⟨a, c, rfl, hl, hx⟩ := h
  have HX := Lib.hid hx
  clear hx hs hl hrow
  have hmm := @run_makeMap Try.prog
  go_enter Try.func18, Try.ntmps18
  go_wp2_with fail
  go_loopw [11, 3] (T1 rows w) (fun i _ _ => rows.length - (intOf i).toNat)
  case atStart => exact ⟨0, fun _ => 0, fun _ => 0, rfl, Nat.zero_le _, ⟨by simp [ptrs], .inl ⟨rfl, rfl⟩⟩, ⟨fun _ h => absurd h (by omega), fun _ h => absurd h (by omega), fun _ h => absurd h (by omega), fun _ h => absurd h (by omega), fun _ _ h => absurd h (by omega), fun _ _ h => absurd h (by omega)⟩, Below.refl _ _⟩
  case round =>
    obtain ⟨k, Bk, Mk, rfl, hk, hown, hTB, hB⟩ := hrel
    have HO := Lib.hid hown
    have HTB := Lib.hid hTB
    clear hown hTB
    by_cases hlt : k < rows.length
    · obtain ⟨b, o, rv, rfl, hc, ar, cr, rfl, hlr, hxr⟩ := HX.out k hlt
      have hc2 : wr.cell? ⟨b, o + k, none⟩ = some (.slice ar (rowOf rows k).length cr) := cell_over hB (World.block_lt_of_cell? _ _ hc) hc
      have HXR := Lib.hid hxr
      clear hxr hc
      go_wp2_with fail
      have hset : SetAt (wr.alloc (.map #[] 0)) wr.heap.size 0 (sN rows k 0) := (SetAt.made wr).congr (sN_zero rows k)
      have HSet := Lib.hid hset
      clear hset
      have hmrow : (rowOf rows k).length ≤ 400 := HRL.out k hlt
      obtain ⟨wo, rfl⟩ : ∃ wo : World, wo = wr := ⟨_, rfl⟩
      go_loopw [22] (T2 rows wo k) (fun i _ => (rowOf rows k).length - (intOf i).toNat)
      case atStart =>
        refine ⟨0, rfl, Nat.zero_le _, ?_, ?_, ?_⟩
        · exact alloc_new (by simp)
        · exact HSet.out.of_block (alloc_old (by simp))
        · exact ((Below.refl _ _).alloc (Nat.le_refl _) _).alloc (by simp) _
      case round =>
        obtain ⟨m, rfl, hm, hobj, hset, hBi⟩ := hrel
        have hT1 := cell_thing1 hobj
        have hsz := hBi.size
        have HObj := Lib.hid hobj
        have HSet := Lib.hid hset
        have hMlt := hset.lt
        have hTlt : wo.heap.size + 1 < wr.heap.size := (Array.getElem?_eq_some_iff.1 hobj).1
        clear hobj hset
        by_cases hlt2 : m < (rowOf rows k).length
        · obtain ⟨b1, o1, rfl, hcx, hwf⟩ := HXR.out m hlt2
          have hcx2 : wr.cell? ⟨b1, o1 + m, none⟩ = some (.int .i64 ((rowOf rows k).getD m 0)) := by
            have h1 := World.block_lt_of_cell? _ _ hcx
            have h2 := cell_over hB h1 hcx
            exact cell_over hBi (World.block_lt_of_cell? _ _ h2) h2
          have HY := Lib.hid (sN_yes (rows := rows) hlt2)
          have HN := Lib.hid (sN_no (rows := rows) hlt2)
          clear hcx
          generalize (rowOf rows k).getD m 0 = x at *
          have HWf := Lib.hid hwf
          clear hwf
          by_cases h0 : 0 ≤ x
          · by_cases h1 : x < rows.length
            · by_cases h2 : x = k
              · have hb : (x != (k : Int)) = false := by simp [h2]
                have hs2 : Hid (SetAt wr wo.heap.size (m + 1) (sN rows k (m + 1))) := (HSet.out.mono (by omega)).congr (HN.out (fun h => h.2.2 h2))
                have h2' := Lib.hid h2
                clear h2
                go_wp2_with fail
                go_roundw
                case rel => exact ⟨m + 1, by go_num, by omega, HObj.out, hs2.out, hBi⟩
                case measure => simp [intOf]; omega
              · have hb : (x != (k : Int)) = true := by simp [h2]
                obtain ⟨D, hD1, hD2⟩ := HSet.out
                have HD1 := Lib.hid hD1
                have HD2 := Lib.hid hD2
                have hkey := key3 HWf.out
                have HK := Lib.hid hkey
                clear hD1 hD2 hkey
                go_wp2_with (at_mapUpdate; refine wpList_mapUpdate_own _ rfl _ _ _ 51 rfl 3 4 keyed3 Try.underlying51 _ wo.heap.size m D rfl HD1.out (by unfold maxLen; omega) _ _ _ rfl rfl HK.out _ [] (plainElem_bool Try.underlying4 true) ?_; intro w1 hown1 hgrow1)
                have hs2 : SetAt w1 wo.heap.size (m + 1) (sN rows k (m + 1)) := (set_put HD1.out HD2.out hown1).congr (HY.out h0 h1 h2)
                have HS2 := Lib.hid hs2
                have hobj1 : Hid (w1.heap[wo.heap.size + 1]? = some (thingObj k wo.heap.size)) := (hgrow1.block _ hTlt (by simp)).trans HObj.out
                have hB1 : Below wo.heap.size wo w1 := Below.grown hBi hgrow1 (by omega) (fun k hk => by cases hk; omega)
                clear hs2 hown1 hgrow1
                go_wp2_with fail
                go_roundw
                case rel => exact ⟨m + 1, by go_num, by omega, hobj1.out, HS2.out, hB1⟩
                case measure => simp [intOf]; omega
            · have hs2 : Hid (SetAt wr wo.heap.size (m + 1) (sN rows k (m + 1))) := (HSet.out.mono (by omega)).congr (HN.out (fun h => h1 h.2.1))
              go_wp2_with fail
              go_roundw
              case rel => exact ⟨m + 1, by go_num, by omega, HObj.out, hs2.out, hBi⟩
              case measure => simp [intOf]; omega
          · have hs2 : Hid (SetAt wr wo.heap.size (m + 1) (sN rows k (m + 1))) := (HSet.out.mono (by omega)).congr (HN.out (fun h => h0 h.1))
            go_wp2_with fail
            go_roundw
            case rel => exact ⟨m + 1, by go_num, by omega, HObj.out, hs2.out, hBi⟩
            case measure => simp [intOf]; omega
        · have HOi : Hid (wr.ownsRow w.heap.size 50 1 u3 k (ptrs k Bk)) := own_below HO.out hBi
          have HSetF : Hid (SetAt wr wo.heap.size 400 (nd rows k)) := (HSet.out.mono (by omega)).congr (sN_all (by omega))
          go_wp2_with (at_builtin; refine wpList_append_own _ rfl _ _ 48 rfl w.heap.size 50 i50 (.pointer none) 1 8 Try.underlying48 hi hz0 hz1 hz2 rfl (by decide) _ _ _ rfl (HOi.out.alloc _) ⟨wr.heap.size, 0, none⟩ 1 1 [.pointer (some ⟨wo.heap.size + 1, 0, none⟩)] rfl rfl ?c1 ?c2 ?c3 ?c4 ?c5 ?_)
          case c1 => exact one_new rfl
          case c2 => simp [Value.oneCell']
          case c3 => unfold maxLen; omega
          case c4 => omega
          case c5 => have := hB.size; simp; omega
          intro v' w5 hown5 hgrow _
          have hP := HTB.out.push hB.size HO.out hBi HObj.out HSetF.out hgrow
          have HP := Lib.hid hP
          have hO5 : Hid (w5.ownsRow w.heap.size 50 1 v' (k + 1) (ptrs (k + 1) (fun i => if i = k then wo.heap.size + 1 else Bk i))) := by
            rw [ptrs_snoc] at hown5
            exact hown5
          have hB5 : Below w.heap.size w w5 := Below.grown ((below_via hB hBi hB.size).alloc (by have := hB.size; omega) _) hgrow (by have := hB.size; simp; omega) (fun k hk => row_past HO.out k hk)
          clear hP hown5 hgrow
          go_wp2_with fail
          go_roundw
          case rel => exact ⟨k + 1, _, _, by go_num, by omega, hO5.out, HP.out, hB5⟩
          case measure => simp [intOf]; omega
    · obtain rfl : k = rows.length := by omega
      go_wp2_with fail
      go_ret
      exact ⟨_, Bk, Mk, rfl, HO.out, HTB.out, hB⟩

end Go.Proofs.Ytmkbdjekidcfaaa
