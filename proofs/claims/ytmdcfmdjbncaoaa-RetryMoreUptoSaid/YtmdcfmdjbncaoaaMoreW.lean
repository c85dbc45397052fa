/- RetryMore: the walk. -/
import Derived.Test.YtmdcfmdjbncaoaaMoreP
import Derived.IntWalk
namespace Go.Proofs.Ytmdcfmdjbncaoaa
open Go.RowKit Go.ChangeShapes Go.WideShapes Go.Deep
attribute [local go_sem ↓] Go.wp_at_zero Go.wp_at_succ
attribute [local go_sem] Go.undef

theorem infoR : (Try.prog.info? 30).map (fun i => (i.zero, i.size, i.bytes)) = some (some (.agg zeroRV.cells.toArray), 10, 104) := by kernel_rfl

set_option maxHeartbeats 8000000 in
set_option maxRecDepth 100000 in
theorem more_go (tries more : Int) (ps qs : List (RV × Tree)) (a a' : Option Addr) (n c n' c' : Nat) (w : World) (ht : tries ≤ 9223372036854775807) (hm : more ≤ 9223372036854775807) (hrow : RowsOf (ER w (· < w.heap.size)) 10 w (· < w.heap.size) ps a n c)
    (hrow' : RowsOf (ER w (· < w.heap.size)) 10 w (· < w.heap.size) qs a' n' c') (hn : n ≤ 1048576) (hn' : n' ≤ 1048576) :
    Calls Try.prog 5 #[.int .i64 tries, .int .i64 more, .slice a n c, .slice a' n' c'] w fun e w' => e = .returned (.bool true) ∧ Below w.heap.size w w' := by
  have hvl := validl_any ps a n c _ w hrow (fun _ h => h)
  cases hv : validL ps with
  | false =>
    rw [hv] at hvl
    have HVL := Lib.hid hvl
    clear hvl hv hrow hrow'
    go_enter Try.func5, Try.ntmps5
    go_wp2_with fail
    refine HVL.out.mono ?_
    rintro e w1 ⟨rfl, hb1⟩
    go_wp2_with fail
    refine (awake_any _).mono ?_
    rintro e w2 ⟨rfl, hb2⟩
    have hB2 : Below w.heap.size w w2 := below_on hb2 hb1
    clear hb1 hb2
    go_wp2_with fail
    go_ret
    exact ⟨rfl, hB2⟩
  | true =>
    rw [hv] at hvl
    have hvq := fun (W : World) (hb : Below w.heap.size w W) => validl_any qs a' n' c' _ W (rows_under hrow' hb (fun _ h => h)) (fun q hq => Nat.lt_of_lt_of_le hq hb.size)
    cases hv' : validL qs with
    | false =>
      rw [hv'] at hvq
      have HVL := Lib.hid hvl
      have HVQ := Lib.hid hvq
      clear hvl hv hrow hrow' hvq hv'
      go_enter Try.func5, Try.ntmps5
      go_wp2_with fail
      refine HVL.out.mono ?_
      rintro e w1 ⟨rfl, hb1⟩
      go_wp2_with fail
      refine (HVQ.out w1 hb1).mono ?_
      rintro e w1' ⟨rfl, hb1'⟩
      have hB1 : Below w.heap.size w w1' := below_on hb1' hb1
      clear hb1 hb1'
      go_wp2_with fail
      refine (awake_any _).mono ?_
      rintro e w2 ⟨rfl, hb2⟩
      have hB2 : Below w.heap.size w w2 := below_on hb2 hB1
      clear hB1 hb2
      go_wp2_with fail
      go_ret
      exact ⟨rfl, hB2⟩
    | true =>
      rw [hv'] at hvq
      have HVL := Lib.hid hvl
      have HVQ := Lib.hid hvq
      have HV := Lib.hid hv
      have HROW := Lib.hid hrow
      have HROW' := Lib.hid hrow'
      have hnl : n = ps.length := hrow.1
      obtain ⟨T, hT⟩ : ∃ T, T = tryN (max tries 1) 0 (ps.map (·.1)) := ⟨_, rfl⟩
      have hTn : T ≤ ps.length := by rw [hT]; simpa using tryN_le (max tries 1) (ps.map (·.1)) 0
      have hT9 : (T : Int) ≤ 9223372036854775807 := by omega
      obtain ⟨p, hp⟩ : ∃ p, p = lastP (ps.take T) := ⟨_, rfl⟩
      have hpl : lastIn ((ps.map (·.1)).take (tryN (max tries 1) 0 (ps.map (·.1)))) = p.1 := by rw [← hT, ← List.map_take, lastP_fst, hp]
      obtain ⟨hpD, hpS⟩ := lastP_is hrow hv T
      rw [← hp] at hpD hpS
      have HPD := Lib.hid hpD
      have HPL := Lib.hid hpl
      have HT := Lib.hid hT
      have HP := Lib.hid hp
      have HNL := Lib.hid hnl
      clear hvl hv hrow hpD hpl hT hp hnl hrow' hvq hv'
      go_enter Try.func5, Try.ntmps5
      go_wp2_with fail
      refine HVL.out.mono ?_
      rintro e w0 ⟨rfl, hb0⟩
      go_wp2_with fail
      refine (HVQ.out w0 hb0).mono ?_
      rintro e w1 ⟨rfl, hb1'⟩
      have hb1 : Below w.heap.size w w1 := below_on hb1' hb0
      clear hb1' hb0
      have hs1 := hb1.size
      go_wp2_with fail
      refine (run_any tries (ps.map (·.1)) a n c (· < w.heap.size) w1 p.2 ht (rows_fst (rows_under HROW.out hb1 (fun _ h => h))) (fun q hq => Nat.lt_of_lt_of_le hq hs1) (by rw [HPL.out]; exact HPD.out.under hb1 (fun _ h => h)) hpS).mono ?_
      rintro e w2 ⟨r, hr, k1, i1, b1, s1, a1, n1, c1, xs1, rfl, hD2, hO2, hb2⟩
      rw [HPL.out] at hr
      subst hr
      rw [← HT.out]
      have hB2 : Below w.heap.size w w2 := below_on hb2 hb1
      have hs2 := hB2.size
      have HD2 := Lib.hid hD2
      clear hb1 hb2 hD2 hO2
      by_cases hT0 : T = 0
      · subst hT0
        go_wp2_with fail
        refine (awake_any _).mono ?_
        rintro e w3 ⟨rfl, hb3⟩
        have hB3 : Below w.heap.size w w3 := below_on hb3 (hB2.alloc hs2 _)
        clear hb3
        go_wp2_with fail
        go_ret
        exact ⟨rfl, hB3⟩
      have hTz : ¬ ((T : Int) = 0) := by omega
      have hAG := fun W => again_any p.1.err p.1.code p.1.pk p.1.pn p.1.has (.int .i64 k1) (.int .i64 i1) (.int .u64 b1) (.string s1) (.slice a1 n1 c1) W
      obtain ⟨rr, hrr⟩ : ∃ rr : RV, rr = ⟨p.1.err, p.1.code, p.1.pk, p.1.pn, p.1.has, k1, i1, b1, s1, a1, n1, c1⟩ := ⟨_, rfl⟩
      cases hag : againB p.1.err p.1.code p.1.pk with
      | true =>
        rw [hag] at hAG
        have HAG := Lib.hid hAG
        clear hAG hag hrr
        go_wp2_with fail
        refine (HAG.out _).mono ?_
        rintro e w3 ⟨rfl, hb3⟩
        have hB3 : Below w.heap.size w w3 := below_on hb3 (hB2.alloc hs2 _)
        clear hb3
        go_wp2_with fail
        refine (awake_any _).mono ?_
        rintro e w4 ⟨rfl, hb4⟩
        have hB4 : Below w.heap.size w w4 := below_on hb4 hB3
        clear hb4
        go_wp2_with fail
        go_ret
        exact ⟨rfl, hB4⟩
      | false =>
        rw [hag] at hAG
        have HAG := Lib.hid hAG
        have HA := Lib.hid hag
        have HRR := Lib.hid hrr
        clear hAG hag hrr
        go_wp2_with fail
        refine (HAG.out _).mono ?_
        rintro e w3 ⟨rfl, hb3⟩
        have hB2' := hB2.alloc hs2 (.cells rr.cells.toArray 30)
        have hbox : Blk (w2.alloc (.cells rr.cells.toArray 30)) w2.heap.size 30 rr.cells.toArray := Blk.new _ _ _
        have hD2' : IsD (w2.alloc (.cells rr.cells.toArray 30)) (Btw w1.heap.size w2.heap.size) p.2 rr.body := by rw [HRR.out]; exact HD2.out.under ((Below.refl w2.heap.size w2).alloc (Nat.le_refl _) _) (fun _ h => h.2)
        have hsz2 : (w2.alloc (.cells rr.cells.toArray 30)).heap.size = w2.heap.size + 1 := by simp
        rw [show #[Value.int IntKind.i64 p.1.err, Value.int IntKind.i64 p.1.code, Value.int IntKind.i64 p.1.pk, Value.int IntKind.i64 p.1.pn, Value.bool p.1.has, Value.int IntKind.i64 k1, Value.int IntKind.i64 i1, Value.int IntKind.u64 b1, Value.string s1, Value.slice a1 n1 c1] = rr.cells.toArray by rw [HRR.out]; rfl] at hb3
        have hB3 : Below w.heap.size w w3 := below_on hb3 hB2'
        have hs3 := hb3.size
        rw [hsz2] at hs3
        have HBOX : Hid (Blk w3 w2.heap.size 30 rr.cells.toArray) := hbox.under hb3 (by rw [hsz2]; omega)
        have HD3 : Hid (IsD w3 (Btw w1.heap.size w2.heap.size) p.2 rr.body) := hD2'.under hb3 (fun _ h => by rw [hsz2]; have := h.2; omega)
        clear hB2' hbox hD2' hsz2 hb3 hB2
        obtain ⟨i0, hi0, hz0, hz1, hz2⟩ := info_parts infoR
        go_wp2_with (at_builtin; refine wpList_append_any _ rfl _ _ 34 rfl w3.heap.size 30 i0 _ 10 104 Try.underlying34 hi0 hz0 hz1 hz2 rfl (by omega) _ 0 [] rfl (World.ownsRow_nil _ _ _ _) a n c (ps.map (fun p => p.1.cells)).flatten rfl ?ca0 ?ca1 ?ca2 ?ca3 ?ca4 ?ca5 ?ca6 ?_)
        case ca0 => exact rows_some HROW.out
        case ca1 => rw [flatten_len (css_len ps), List.length_map, HNL.out]
        case ca2 => exact rows_news (rows_under HROW.out hB3 (fun _ h => h))
        case ca3 => exact css_one ps
        case ca4 => unfold maxLen; omega
        case ca5 => omega
        case ca6 => exact Nat.le_refl _
        intro v4 w4 hown4 hgr4
        obtain ⟨a4, c4, rfl⟩ := own_len hown4
        have hB43 : Below w3.heap.size w3 w4 := (Below.refl _ _).grown hgr4 (Nat.le_refl _) (fun g hg => by cases hg)
        have hB4 : Below w.heap.size w w4 := below_on hB43 hB3
        have HO4 := Lib.hid hown4
        clear hown4 hgr4
        go_wp2_with (at_builtin; refine wpList_append_any _ rfl _ _ 34 rfl w3.heap.size 30 i0 _ 10 104 Try.underlying34 hi0 hz0 hz1 hz2 rfl (by omega) _ n _ rfl HO4.out a' n' c' (qs.map (fun p => p.1.cells)).flatten rfl ?cb0 ?cb1 ?cb2 ?cb3 ?cb4 ?cb5 ?cb6 ?_)
        case cb0 => exact rows_some HROW'.out
        case cb1 => rw [flatten_len (css_len qs), List.length_map, HROW'.out.1]
        case cb2 => exact rows_news (rows_under HROW'.out hB4 (fun _ h => h))
        case cb3 => exact css_one qs
        case cb4 => unfold maxLen; omega
        case cb5 => omega
        case cb6 => exact hB43.size
        intro v5 w5 hown5 hgr5
        obtain ⟨a5, c5, rfl⟩ := own_len hown5
        have hB53 : Below w3.heap.size w3 w5 := hB43.grown hgr5 hB43.size (fun g hg => (own_row HO4.out g hg).1)
        have hB5 : Below w.heap.size w w5 := below_on hB53 hB3
        have hs5 := hB53.size
        have hrow5 : RowsOf (ER w5 (· < w5.heap.size)) 10 w5 (· < w5.heap.size) (ps ++ qs) a5 (n + n') c5 := by
          refine rows_of_own (css := (ps ++ qs).map (fun p => p.1.cells)) (by rw [List.map_append, List.flatten_append]; exact hown5) (by rw [List.length_append, HNL.out, HROW'.out.1]) (by rw [List.length_map, List.length_append, HNL.out, HROW'.out.1]) (css_len _) (fun j x hx => ?_) (fun g _ h _ => h)
          refine ⟨x.1.cells, by rw [List.getElem?_map, hx]; rfl, rfl, ?_⟩
          rw [List.getElem?_append] at hx
          have hq : IsD w (· < w.heap.size) x.2 x.1.body := by
            split at hx
            · have hj : j < n := by rw [HNL.out]; assumption
              obtain ⟨_, _, x', _, _, _, hx', ⟨_, hD⟩, _, _⟩ := HROW.out.get hj
              rw [hx] at hx'
              injection hx' with hx'
              rw [hx']; exact hD
            · have hj : j - ps.length < n' := by rw [HROW'.out.1]; exact (List.getElem?_eq_some_iff.1 hx).1
              obtain ⟨_, _, x', _, _, _, hx', ⟨_, hD⟩, _, _⟩ := HROW'.out.get hj
              rw [hx] at hx'
              injection hx' with hx'
              rw [hx']; exact hD
          exact (hq.under hB5 (fun _ h => h)).mono (fun b hb => Nat.lt_of_lt_of_le hb hB5.size)
        have hT5 : ∀ M, tries ≤ M → tryN (max M 1) 0 ((ps ++ qs).map (·.1)) = T := by
          intro M hM
          rw [List.map_append, tryN_ext (M := max tries 1) (by omega) _ _ _ (by intro e; have := List.map_eq_nil_iff.1 e; subst this; simp at hTn; exact hT0 hTn) (by rw [HPL.out]; exact HA.out), HT.out]
        have hL5 : ∀ M, tries ≤ M → lastIn (((ps ++ qs).map (·.1)).take (tryN (max M 1) 0 ((ps ++ qs).map (·.1)))) = p.1 := by
          intro M hM
          rw [hT5 M hM, List.map_append, List.take_append_of_le_length (by simpa using hTn), HT.out, HPL.out]
        have HROW5 := Lib.hid hrow5
        have HT5 := Lib.hid hT5
        have HL5 := Lib.hid hL5
        have HBOX5 : Hid (Blk w5 w2.heap.size 30 rr.cells.toArray) := HBOX.out.under hB53 (by omega)
        have HD5 : Hid (IsD w5 (Btw w1.heap.size w2.heap.size) p.2 rr.body) := HD3.out.under hB53 (fun _ h => by have := h.2; omega)
        have hs5' : w2.heap.size < w5.heap.size := by omega
        clear hrow5 hT5 hL5 hown5 hgr5 hB4 hB43 hB53 hB3 HBOX HD3 HO4 hs3
        go_wp2_with fail
        all_goals
          refine (run_any _ ((ps ++ qs).map (·.1)) a5 (n + n') c5 (· < w5.heap.size) w5 p.2 (by omega) (rows_fst HROW5.out) (fun _ h => h) (by rw [HL5.out _ (by omega)]; exact (HPD.out.under hB5 (fun _ h => h)).mono (fun b hb => Nat.lt_of_lt_of_le hb hB5.size)) hpS).mono ?_
          rintro e w6 ⟨r, hr, k2, i2, b2, s2, a2, n2, c2, xs2, rfl, hD6, hO6, hb6⟩
          rw [HL5.out _ (by omega)] at hr
          subst hr
          rw [HT5.out _ (by omega)]
          have hB6 : Below w.heap.size w w6 := below_on hb6 hB5
          have hs6 := hb6.size
          have HD6 : Hid (IsD (w6.alloc (.cells #[.int .i64 p.1.err, .int .i64 p.1.code, .int .i64 p.1.pk, .int .i64 p.1.pn, .bool p.1.has, .int .i64 k2, .int .i64 i2, .int .u64 b2, .string s2, .slice a2 n2 c2] 30)) (Btw w5.heap.size w6.heap.size) p.2 [.int .i64 k2, .int .i64 i2, .int .u64 b2, .string s2, .slice a2 n2 c2]) := hD6.under ((Below.refl w6.heap.size w6).alloc (Nat.le_refl _) _) (fun _ h => h.2)
          have hb7 : Below w6.heap.size w6 (w6.alloc (.cells #[.int .i64 p.1.err, .int .i64 p.1.code, .int .i64 p.1.pk, .int .i64 p.1.pn, .bool p.1.has, .int .i64 k2, .int .i64 i2, .int .u64 b2, .string s2, .slice a2 n2 c2] 30)) := (Below.refl w6.heap.size w6).alloc (Nat.le_refl _) _
          have hx := (HBOX5.out.under hb6 (by omega)).under hb7 (by omega)
          have hy := Blk.new w6 30 #[.int .i64 p.1.err, .int .i64 p.1.code, .int .i64 p.1.pk, .int .i64 p.1.pn, .bool p.1.has, .int .i64 k2, .int .i64 i2, .int .u64 b2, .string s2, .slice a2 n2 c2]
          have hd5 := (HD5.out.under hb6 (fun _ h => by have := h.2; omega)).under hb7 (fun _ h => by have := h.2; omega)
          have hB7 : Below w.heap.size w (w6.alloc (.cells #[.int .i64 p.1.err, .int .i64 p.1.code, .int .i64 p.1.pk, .int .i64 p.1.pn, .bool p.1.has, .int .i64 k2, .int .i64 i2, .int .u64 b2, .string s2, .slice a2 n2 c2] 30)) := hB6.alloc hB6.size _
          have hsz7 : (w6.alloc (.cells #[.int .i64 p.1.err, .int .i64 p.1.code, .int .i64 p.1.pk, .int .i64 p.1.pn, .bool p.1.has, .int .i64 k2, .int .i64 i2, .int .u64 b2, .string s2, .slice a2 n2 c2] 30)).heap.size = w6.heap.size + 1 := by simp
          rw [HRR.out] at hx hd5
          simp only [RV.cells] at hx
          simp only [RV.body] at hd5
          have HX := Lib.hid hx
          have HY := Lib.hid hy
          have HDA := Lib.hid hd5
          have HB7 := Lib.hid hB7
          have HSZ7 := Lib.hid hsz7
          clear hx hy hd5 hb7 hB7 hsz7 hb6 hB6 hD6 hO6
          go_upto_region 10 with fail
          generalize hW : (w6.alloc (.cells #[.int .i64 p.1.err, .int .i64 p.1.code, .int .i64 p.1.pk, .int .i64 p.1.pn, .bool p.1.has, .int .i64 k2, .int .i64 i2, .int .u64 b2, .string s2, .slice a2 n2 c2] 30)) = w7 at HX HY HDA HB7 HSZ7 HD6 ⊢
          clear hW
          have x0 := HX.out.cell 0
          have x1 := HX.out.cell 1
          have x2 := HX.out.cell 2
          have x3 := HX.out.cell 3
          have x4 := HX.out.cell 4
          have x5 := HX.out.cell 5
          have x6 := HX.out.cell 6
          have x7 := HX.out.cell 7
          have x8 := HX.out.cell 8
          have x9 := HX.out.cell 9
          have y0 := HY.out.cell 0
          have y1 := HY.out.cell 1
          have y2 := HY.out.cell 2
          have y3 := HY.out.cell 3
          have y4 := HY.out.cell 4
          have y5 := HY.out.cell 5
          have y6 := HY.out.cell 6
          have y7 := HY.out.cell 7
          have y8 := HY.out.cell 8
          have y9 := HY.out.cell 9
          simp only [List.getElem?_toArray, List.getElem?_cons_succ, List.getElem?_cons_zero] at x0 x1 x2 x3 x4 x5 x6 x7 x8 x9 y0 y1 y2 y3 y4 y5 y6 y7 y8 y9
          have HS0 : Hid (∀ q, Btw w1.heap.size w2.heap.size q → q < w7.heap.size) := fun q hq => by have := hq.2; have := HSZ7.out; omega
          have HS1 : Hid (∀ q, Btw w5.heap.size w6.heap.size q → q < w7.heap.size) := fun q hq => by have := hq.2; have := HSZ7.out; omega
          go_wp2_with fail
          refine (sameres_any ⟨p.1.err, p.1.code, p.1.pk, p.1.pn, p.1.has, k1, i1, b1, s1, a1, n1, c1⟩ ⟨p.1.err, p.1.code, p.1.pk, p.1.pn, p.1.has, k2, i2, b2, s2, a2, n2, c2⟩ p.2 (Btw w1.heap.size w2.heap.size) (Btw w5.heap.size w6.heap.size) w7 rfl rfl rfl rfl rfl HDA.out HD6.out HS0.out HS1.out).mono ?_
          rintro e w8 ⟨rfl, hb8⟩
          have hB8 : Below w.heap.size w w8 := below_on hb8 HB7.out
          clear hb8 x0 x1 x2 x3 x4 x5 x6 x7 x8 x9 y0 y1 y2 y3 y4 y5 y6 y7 y8 y9
          go_wp2_with fail
          refine (awake_any _).mono ?_
          rintro e w9 ⟨rfl, hb9⟩
          have hB9 : Below w.heap.size w w9 := below_on hb9 hB8
          clear hb9
          go_wp2_with fail
          go_ret
          exact ⟨rfl, hB9⟩
end Go.Proofs.Ytmdcfmdjbncaoaa
