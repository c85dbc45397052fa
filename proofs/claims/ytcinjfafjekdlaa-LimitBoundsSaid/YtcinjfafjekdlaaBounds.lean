/- LimitBounds: the walk. -/
import Derived.Test.YtcinjfafjekdlaaBnd
namespace Go.Proofs.Ytcinjfafjekdlaa
open Go.RowKit

set_option maxHeartbeats 4000000 in
set_option maxRecDepth 100000 in
theorem bounds_go (lv ls a b : Int) (ad : Option Addr) (len cap : Nat) (zs : List Int) (w : World) (hr : IsRow .i64 w ad len cap zs) (hf : fitB a b lv ls = true) :
    Calls Try.prog 4 #[.agg #[.int .i64 lv, .int .i64 ls], .int .i64 a, .int .i64 b, .slice ad len cap] w fun e w' => e = .returned (.bool true) ∧ Below w.heap.size w w' := by
  obtain ⟨h1, h2, h3, h4, h5, h6, h7, h8⟩ := fitB_true hf
  obtain ⟨i0, hi, hz0, hz1, hz2⟩ := info_parts info2
  have hlen := hr.len_le
  have HR := Lib.hid hr
  clear hf hr
  have hab := ab_bd a b h1 h2 h3 h4
  go_enter Try.func4, Try.ntmps4
  go_wp2_with fail
  refine (fit_yes a b lv ls _ h1 h2 h3 h4 h5 h6 h7 h8).mono ?_
  rintro e w1 ⟨rfl, hb1⟩
  have hs1 : w.heap.size < w1.heap.size := by have := hb1.size; simp at this; omega
  have c0 : w1.cell? ⟨w.heap.size, 0, none⟩ = some (.int .i64 lv) := cell_over hb1 (by simp) (by simp)
  have c1 : w1.cell? ⟨w.heap.size, 1, none⟩ = some (.int .i64 ls) := cell_over hb1 (by simp) (by simp)
  have g0 : w1.frozen? ⟨w.heap.size, 0, none⟩ = false := free_over hb1 (by simp) (by simp)
  have g1 : w1.frozen? ⟨w.heap.size, 1, none⟩ = false := free_over hb1 (by simp) (by simp)
  have hB1 : Below w.heap.size w w1 := below_via (by go_grown) hb1 (by simp)
  clear hb1
  go_upto_block 0 with fail
  go_cut [10] (fun s10 wx => BDone a b w s10 wx)
  case first =>
    go_wp2_with fail
    go_loopw [27, 9, 10] (BRel a b w len) (fun i _ _ _ => len - (intOf i).toNat)
    case atStart => exact ⟨0, lv, ls, [], by omega, by omega, by simp, rfl, rfl, bnd_start h5 h6 h7 h8, ⟨by simp, .inl ⟨rfl, rfl⟩⟩, c0, c1, g0, g1, hB1, hs1⟩
    case round =>
      obtain ⟨k, lv, ls, l, hk, hk60, hlk, rfl, rfl, hI, hown, d0, d1, i1, i2, hB, hs⟩ := hrel
      clear hB1 c0 c1 g0 g1
      have hp2 := hI.p2
      have hp3 := hI.p3
      have HI := Lib.hid hI
      have HO := Lib.hid hown
      clear hI hown
      by_cases hlt : k < len
      · obtain ⟨sb, so, rfl, hcell, hwf, -, -⟩ := HR.out.at hlt
        have hcell2 : wr.cell? ⟨sb, so + k, none⟩ = some (.int .i64 (zs.getD k 0)) := cell_over hB (World.block_lt_of_cell? _ _ hcell) hcell
        generalize zs.getD k 0 = z at *
        by_cases h60 : 60 ≤ k
        · go_wp2_with fail
          go_meet
          case rel => exact ⟨lv, ls, l, by omega, HI.out, HO.out, hB, hs⟩
        · have hZ0 : 0 ≤ IntKind.u64.wrap z := by have := IntKind.wrap_u64 z; omega
          by_cases hcap : 1099511627776 < ls + IntKind.u64.wrap z % 1048576
          · go_wp2_with fail
            go_meet
            case rel => exact ⟨lv, ls, l, by omega, HI.out, HO.out, hB, hs⟩
          · obtain ⟨V, T, hT, hN, hY⟩ := take_bnd HI.out h1 h2 h3 h4 (ls + IntKind.u64.wrap z % 1048576) (by omega) (by omega)
            have HT := Lib.hid hT
            have HN := Lib.hid hN
            have HY := Lib.hid hY
            clear hT hN hY
            go_wp2_with fail
            refine (HT.out _).mono ?_
            rintro e w4 ⟨rfl, hb4⟩
            have hX4 : w.heap.size < w4.heap.size := by have := hb4.size; omega
            have k0 : w4.cell? ⟨w.heap.size, 0, none⟩ = some (.int .i64 lv) := cell_over hb4 hs (by go_cell)
            have k1 : w4.cell? ⟨w.heap.size, 1, none⟩ = some (.int .i64 ls) := cell_over hb4 hs (by go_cell)
            have l0 : w4.frozen? ⟨w.heap.size, 0, none⟩ = false := free_over hb4 hs i1
            have l1 : w4.frozen? ⟨w.heap.size, 1, none⟩ = false := free_over hb4 hs i2
            have hB4 : Below w.heap.size w w4 := below_via hB hb4 (by omega)
            have hO4 : Hid (w4.ownsRow (w.heap.size + 1) 2 1 u10 l.length (l.map (Value.int .i64))) := own_below HO.out hb4
            clear hb4 d0 d1 i1 i2 hB hcell hcell2 hwf HO
            have hO5 : Hid (((w4.setCell ⟨w.heap.size, 0, none⟩ (.int .i64 V)).setCell ⟨w.heap.size, 1, none⟩ (.int .i64 (ls + IntKind.u64.wrap z % 1048576))).ownsRow (w.heap.size + 1) 2 1 u10 l.length (l.map (Value.int .i64))) :=
              ownsRow_setCell_below (ownsRow_setCell_below hO4.out (by simp) _) (by simp) _
            clear hO4
            cases T with
            | false =>
              go_wp2_with fail
              go_roundw
              case rel => exact ⟨k + 1, V, ls + IntKind.u64.wrap z % 1048576, l, by omega, by omega, by omega, by go_num, rfl, HN.out (by first | trivial | rfl), hO5.out, by go_cell, by go_cell, by simp [l0], by simp [l1], by go_grown, by simp; omega⟩
              case measure => simp [intOf]; omega
            | true =>
              go_wp2_with (at_builtin; refine wpList_append_own _ rfl _ _ 31 rfl (w.heap.size + 1) 2 i0 (.int .i64 0) 1 8 Try.underlying31 hi hz0 hz1 hz2 rfl (by decide) _ _ _ rfl (hO5.out.alloc _) ⟨w4.heap.size, 0, none⟩ 1 1 [.int .i64 (ls + IntKind.u64.wrap z % 1048576)] rfl rfl ?c1 ?c2 ?c3 ?c4 ?c5 ?_)
              case c1 => exact one_new (by simp)
              case c2 => simp [Value.oneCell']
              case c3 => unfold maxLen; omega
              case c4 => omega
              case c5 => simp; omega
              intro v' w5 hown5 hgrow _
              have hpast := row_past hO5.out
              have hX5 : w.heap.size < w5.heap.size := by have := hgrow.size; simp at this; omega
              have m0 : w5.cell? ⟨w.heap.size, 0, none⟩ = some (.int .i64 V) := cell_grown hgrow (by simp; omega) (fun k hk => hpast k hk) (by go_cell)
              have m1 : w5.cell? ⟨w.heap.size, 1, none⟩ = some (.int .i64 (ls + IntKind.u64.wrap z % 1048576)) := cell_grown hgrow (by simp; omega) (fun k hk => hpast k hk) (by go_cell)
              have o0 : w5.frozen? ⟨w.heap.size, 0, none⟩ = false := free_grown hgrow (by simp; omega) (fun k hk => hpast k hk) (by rw [World.frozen?_alloc_old _ _ _ (by simp; omega)]; simp [l0])
              have o1 : w5.frozen? ⟨w.heap.size, 1, none⟩ = false := free_grown hgrow (by simp; omega) (fun k hk => hpast k hk) (by rw [World.frozen?_alloc_old _ _ _ (by simp; omega)]; simp [l1])
              have hB5 : Below w.heap.size w w5 := Below.grown (by go_grown) hgrow (by simp; omega) (fun k hk => by have := hpast k hk; omega)
              have hO6 : Hid (w5.ownsRow (w.heap.size + 1) 2 1 v' (l ++ [ls + IntKind.u64.wrap z % 1048576]).length ((l ++ [ls + IntKind.u64.wrap z % 1048576]).map (Value.int .i64))) := by
                have : (l ++ [ls + IntKind.u64.wrap z % 1048576]).length = l.length + 1 := by simp
                rw [this, List.map_append]
                exact hown5
              clear hown5 hgrow hO5 k0 k1 l0 l1 hB4 hpast
              go_wp2_with fail
              go_roundw
              case rel => exact ⟨k + 1, V, ls + IntKind.u64.wrap z % 1048576, l ++ [ls + IntKind.u64.wrap z % 1048576], by omega, by omega, by simp; omega, by go_num, rfl, HY.out (by first | trivial | rfl), hO6.out, m0, m1, o0, o1, hB5, hX5⟩
              case measure => simp [intOf]; omega
      · go_wp2_with fail
        go_meet
        case rel => exact ⟨lv, ls, l, by omega, HI.out, HO.out, hB, hs⟩
  case rest =>
    obtain ⟨lv, ls, l, hl, hI, hown, hB, hs⟩ := hcut
    clear hB1 c0 c1 g0 g1
    obtain ⟨ad2, cap2, rfl⟩ := own_len hown
    have HI := Lib.hid hI
    have HO := Lib.hid hown
    clear hI hown
    go_wp2_with fail
    go_loopw [58] (fun i wr => ∃ j : Nat, j ≤ l.length ∧ i = .int .i64 j ∧ wr.ownsRow (w.heap.size + 1) 2 1 (.slice ad2 l.length cap2) l.length (l.map (Value.int .i64)) ∧ Below w.heap.size w wr ∧ w.heap.size < wr.heap.size) (fun i _ => l.length - (intOf i).toNat)
    case atStart => exact ⟨0, by omega, rfl, HO.out, hB, hs⟩
    case round =>
      obtain ⟨j, hj, rfl, hown, hB', hs'⟩ := hrel
      clear hB hs
      have HO2 := Lib.hid hown
      clear hown
      by_cases hlt : j < l.length
      · go_wp2_with fail
        obtain ⟨wo, rfl⟩ : ∃ wo : World, wo = wr := ⟨_, rfl⟩
        go_loopw [15] (fun k wr => ∃ m : Nat, m ≤ j + 1 ∧ k = .int .i64 m ∧ wr.ownsRow (w.heap.size + 1) 2 1 (.slice ad2 l.length cap2) l.length (l.map (Value.int .i64)) ∧ Below w.heap.size w wr ∧ w.heap.size < wr.heap.size) (fun k _ => j + 1 - (intOf k).toNat)
        case atStart => exact ⟨0, by omega, rfl, HO2.out, hB', hs'⟩
        case round =>
          obtain ⟨m, hm, rfl, hown, hB, hs⟩ := hrel
          clear hB' hs'
          by_cases hle : m ≤ j
          · obtain ⟨g, rfl, x1, x2⟩ := ints_at2 hown hlt (k := m) (by omega)
            obtain ⟨e1, e2, e3, e4, e5, e6, e7, e8⟩ := bnd_end HI.out h1 h2 h3 hlt hle
            have HO3 := Lib.hid hown
            clear hown
            generalize l.getD j 0 = X at *
            generalize l.getD m 0 = Y at *
            go_wp2_with fail
            go_quiet (fail)
            go_wp2_with fail
            go_roundw
            case rel => exact ⟨m + 1, by omega, by go_num, HO3.out, ⟨hB.os, hB.tape, hB.output, hB.size, hB.block⟩, hs⟩
            case measure => simp [intOf]; omega
          · have HO3 := Lib.hid hown
            clear hown
            go_wp2_with fail
            go_roundw
            case rel => exact ⟨j + 1, by omega, by go_num, HO3.out, hB, hs⟩
            case measure => simp [intOf]; omega
      · go_wp2_with fail
        refine (awake_any _).mono ?_
        rintro e w6 ⟨rfl, hb6⟩
        have hB6 : Below w.heap.size w w6 := below_via hB' hb6 (by omega)
        go_wp2
        go_ret
        exact ⟨rfl, hB6⟩

set_option maxHeartbeats 4000000 in
theorem walk_LimitBounds (lv ls a b : Int) (ad : Option Addr) (len cap : Nat) (zs : List Int) (w : World) (_ : (Lit.int .i64 a).wf = true) (_ : (Lit.int .i64 b).wf = true) (hr : IsRow .i64 w ad len cap zs) :
    Calls Try.prog 4 #[.agg #[.int .i64 lv, .int .i64 ls], .int .i64 a, .int .i64 b, .slice ad len cap] w fun e w' => e = .returned (.bool true) ∧ Below w.heap.size w w' := by
  cases hf : fitB a b lv ls with
  | true => exact bounds_go lv ls a b ad len cap zs w hr hf
  | false =>
    clear hr
    go_enter Try.func4, Try.ntmps4
    go_wp2_with fail
    refine (fit_no a b lv ls _ hf).mono ?_
    rintro e w1 ⟨rfl, hb1⟩
    have hs1 : w.heap.size < w1.heap.size := by have := hb1.size; simp at this; omega
    have hB1 : Below w.heap.size w w1 := below_via (by go_grown) hb1 (by simp)
    clear hb1
    go_wp2_with fail
    refine (awake_any _).mono ?_
    rintro e w2 ⟨rfl, hb2⟩
    have hB2 : Below w.heap.size w w2 := below_via hB1 hb2 (by omega)
    go_wp2
    go_ret
    exact ⟨rfl, hB2⟩

end Go.Proofs.Ytcinjfafjekdlaa
