/- The walk of JournalTurned. -/
import Derived.Test.YtknjloffkiidhaaJ6p
namespace Go.Proofs.Ytknjloffkiidhaa
open Go.RowKit Go.Deep
attribute [local go_sem] Go.undef

set_option maxRecDepth 100000 in
set_option maxHeartbeats 8000000 in
theorem turned_go (rs : List (List Nat)) (which bit : Int) (a : Option Addr) (n c : Nat) (W : World) (hn : rs.length = n) (hnc : n ≤ c) (hm : c ≤ 9223372036854775807) (hs : n ≤ 1048576) (h : RB W (· < W.heap.size) a rs) (hb : ∀ x ∈ rs, Bytes x) :
    Calls Try.prog 6 #[.slice a n c, .int .i64 which, .int .i64 bit] W fun e w' => e = .returned (.bool true) ∧ Below W.heap.size W w' := by
  obtain ⟨i0, hi0, hz0, hz1, hz2⟩ := info_parts info3
  have HH := Lib.hid h
  have HN := Lib.hid hn
  have HBY := Lib.hid hb
  clear h hn hb
  go_enter Try.func6, Try.ntmps6
  go_wp2_with fail
  refine (new_any _).mono ?_
  rintro e w1 ⟨rfl, rfl⟩
  have hby0 := NewQ.by (w := W)
  have hb0 : Below W.heap.size W (W.alloc (.cells #[.int .u8 67, .int .u8 78, .int .u8 68, .int .u8 74, .int .u8 1] 5 (5, 6))) := by go_grown
  have hsz0 : (W.alloc (.cells #[.int .u8 67, .int .u8 78, .int .u8 68, .int .u8 74, .int .u8 1] 5 (5, 6))).heap.size = W.heap.size + 1 := by simp
  have hst : CT W rs 0 (.slice (some ⟨W.heap.size, 0, none⟩) 5 5) (.slice none 0 0) (W.alloc (.cells #[.int .u8 67, .int .u8 78, .int .u8 68, .int .u8 74, .int .u8 1] 5 (5, 6))) :=
    ⟨Nat.zero_le _, by omega, (fun r hr => by simp at hr), ⟨_, 5, rfl, by rw [List.take_zero]; decide, by decide, hby0.mono fun b hb => ⟨hb.1, by omega, by simp [Value.ownBlock]⟩, fun h => absurd h (by omega)⟩, ⟨rfl, .inl ⟨rfl, rfl⟩⟩, hb0⟩
  have HST := Lib.hid hst
  clear hby0 hb0 hsz0 hst
  generalize W.alloc (.cells #[.int .u8 67, .int .u8 78, .int .u8 68, .int .u8 74, .int .u8 1] 5 (5, 6)) = w1 at HST ⊢
  go_upto_block 0 with fail
  go_cut [7, 8, 9, 10, 11, 12] from 21 to 58 (fun s7 s8 s9 s10 s11 s12 wx => ∃ k, CT W rs k s7 s8 wx)
  case first =>
    go_wp2_with fail
    go_loopw [7, 8, 21] (fun s7 s8 iv wr => ∃ j : Nat, iv = .int .i64 j ∧ CT W rs j s7 s8 wr) (fun _ _ i _ => n - (intOf i).toNat)
    case atStart => exact ⟨0, rfl, HST.out⟩
    case round =>
      obtain ⟨j, rfl, hcs⟩ := hrel
      have hjn : j ≤ n := by have := hcs.1; have := HN.out; omega
      have hj20 : j ≤ 20 := hcs.2.1
      have HCS := Lib.hid hcs
      clear hcs
      by_cases hlt : j < n
      · obtain ⟨g, o, r, a', c', rfl, -, hr, hc0, hrc, hcm, hby⟩ := HH.out.at (i := j) (by rw [HN.out]; exact hlt)
        have hB := HCS.out.2.2.2.2.2
        have hc := (hB.cell (p := ⟨g, o + j, none⟩) (World.block_lt_of_cell? _ _ hc0)).trans hc0
        obtain ⟨m, hm1⟩ : ∃ m : Nat, r.length = m := ⟨_, rfl⟩
        rw [hm1] at hc hrc
        have hi0' : (0 : Int) ≤ (j : Int) := by omega
        have hi1 : (j : Int) < (n : Int) := by omega
        unfold maxLen at hcm
        have HR := Lib.hid hr
        have HM := Lib.hid hm1
        have HBR := Lib.hid hby
        have HB := Lib.hid hB
        clear hc0 hr hm1 hby hB
        by_cases h20 : j < 20
        · have g20 : decide ((20 : Int) ≤ (j : Int)) = false := by simp; omega
          by_cases h6 : m ≤ 2000
          · have g6 : decide ((2000 : Int) < (m : Int)) = false := by simp; omega
            obtain ⟨-, -, k3, ⟨a5, c5, rfl, k5, k6, k7, -⟩, k8, -⟩ := HCS.out
            have hbt : ∀ x ∈ rs.take j, Bytes x := fun x hx => HBY.out x (List.mem_of_mem_take hx)
            have htold := told_JL' (fun x hx => by have := k3 x hx; omega) hbt
            have hln := HCS.out.len
            have hjs : (JL (rs.take (j + 1))).length = (JL (rs.take j)).length + m + 8 := by rw [take_snoc HR.out, JL_snoc_len, HM.out]
            have HT := Lib.hid htold
            have HK7 := Lib.hid k7
            have HJS := Lib.hid hjs
            have hsW := HB.out.size
            have hlt8 := own_row k8
            have HK8 := Lib.hid k8
            have HL8 := Lib.hid hlt8
            generalize hN : (JL (rs.take j)).length = N0 at HT HJS hln k5 ⊢
            have HN0 := Lib.hid hN
            clear k3 k7 htold hbt hjs k8 hlt8 hN
            go_wp2_with (at_builtin; refine wpList_append_lies _ rfl _ _ 40 rfl W.heap.size 3 i0 _ 1 8 Try.underlying40 hi0 hz0 hz1 hz2 rfl (by omega) _ j (startsV rs j) rfl (HK8.out.alloc _) ⟨wr.heap.size, 0, none⟩ 1 1 [.int .i64 ((N0 : Nat) : Int)] rfl rfl (one_new rfl) ?b3 (by omega) ?b4 ?b5 ?b6 (wr.heap.size + 1) (by simp) ?_)
            case b3 => intro u hu; rw [List.mem_singleton.1 hu]; rfl
            case b4 => unfold maxLen; omega
            case b5 => omega
            case b6 => simp; omega
            intro g2 cap2 w2 hown2 hgr2 hat2 hlt2
            have hs2 : wr.heap.size + 1 ≤ w2.heap.size := by have := hgr2.size; simpa using this
            have hB2 : Below W.heap.size W w2 := (HB.out.alloc hsW _).grown hgr2 (by simp; omega) fun k hk => (HL8.out k hk).1
            have hby2 : BY w2 (fun b => W.heap.size ≤ b ∧ b < wr.heap.size ∧ _) a5 (JL (rs.take j)) := HK7.out.keep (fun b hb => hb) fun b hb i => World.cell?_of_block (a := ⟨b, i, none⟩) (by
              rw [hgr2.block b (by simp; omega) (fun e => hb.2.2 e.symm)]
              exact Below.heap_alloc wr _ b hb.2.1)
            have hap := append_any w2 _ _ a5 a' (JL (rs.take j)) r N0 c5 m c' HN0.out k5 (by unfold maxLen at k6; omega) (by omega) hby2 (fun b hb => by omega) HM.out (by omega) (HBR.out.under hB2 (fun b hb => hb)) (fun b hb => Nat.lt_of_lt_of_le hb hB2.size)
            have HAP := Lib.hid hap
            have HO2 := Lib.hid hown2
            have HG2 := Lib.hid hgr2
            have HB2 := Lib.hid hB2
            clear hap hby2 hown2 hgr2 hat2 hlt2 hB2
            go_wp2_with fail
            refine HAP.out.mono ?_
            intro e w3 hq
            rw [← HN0.out] at HT
            obtain ⟨a3, c3, rfl, hown3, hb3⟩ := hq.good HT.out (by rw [HM.out]; omega)
            rw [← take_snoc HR.out] at hown3 ⊢
            have hct := HCS.out.step HR.out h20 (by rw [HM.out]; exact h6) HBY.out (by rw [HN0.out]; exact HO2.out) HG2.out rfl hown3 hb3
            have HCT := Lib.hid hct
            rw [HJS.out] at HCT ⊢
            clear hq hown3 hb3 hct
            go_wp2_with fail
            go_roundw
            case rel => exact ⟨j + 1, by go_num, HCT.out⟩
            case measure => simp [intOf]; omega
          · have g6 : decide ((2000 : Int) < (m : Int)) = true := by simp; omega
            go_wp2_with fail
            go_meet
            exact ⟨j, HCS.out⟩
        · have g20 : decide ((20 : Int) ≤ (j : Int)) = true := by simp; omega
          go_wp2_with fail
          go_meet
          exact ⟨j, HCS.out⟩
      · go_wp2_with fail
        go_meet
        exact ⟨j, HCS.out⟩
  case rest =>
    obtain ⟨k, hct⟩ := hcut
    have hlen := hct.len
    obtain ⟨k1, k2, k3, ⟨a7, c7, rfl, k5, k6, k7, k7'⟩, k8, k9⟩ := hct
    obtain ⟨a8, c8, rfl⟩ := own_slice k8
    by_cases hk0 : k = 0
    · subst hk0
      go_wp2_with fail
      refine (awake_any _).mono ?_
      rintro e w6 ⟨rfl, hb6⟩
      have HB6 := Lib.hid (below_on hb6 k9)
      clear hb6
      go_wp2_with fail
      go_ret
      exact ⟨rfl, HB6.out⟩
    · have hkb : ((k : Int) == 0) = false := by simp; omega
      have k10 := k7' (by omega)
      clear k7'
      have hkn : k ≤ n := by have := HN.out; omega
      have HK1 := Lib.hid k1
      have HK3 := Lib.hid k3
      have HK7 := Lib.hid k7
      have HK8 := Lib.hid k8
      have HK9 := Lib.hid k9
      have HK10 := Lib.hid k10
      clear k1 k3 k7 k8 k9 k10
      generalize hNN : (JL (rs.take k)).length = N at HK10 hlen k5 ⊢
      have HNN := Lib.hid hNN
      clear hNN
      go_upto_region 17 with fail
      obtain ⟨p, hp, hpk⟩ := rem_num which (m := (k : Int)) (by omega) (by omega)
      obtain ⟨q, hq, hq32⟩ := rem_num bit (m := 32) (by omega) (by omega)
      rw [hp, hq]
      clear hp hq
      have hpk' : p < k := by omega
      have hjk : (JL (rs.take p)).length + 8 ≤ N := by
        have h1 := JL_sum (rs.take p)
        have hpl : p < rs.length := by have := HK1.out; omega
        have hr : rs[p]? = some (rs[p]'hpl) := List.getElem?_eq_getElem hpl
        have h2 := JL_snoc_len (rs.take p) (rs[p]'hpl)
        rw [← take_snoc hr] at h2
        have h3 : rs.take k = rs.take (p + 1) ++ (rs.take k).drop (p + 1) := by
          have : rs.take (p + 1) = (rs.take k).take (p + 1) := by rw [List.take_take, Nat.min_eq_left (by omega)]
          rw [this, List.take_append_drop]
        have h4 := congrArg (fun l => (JL l).length) h3
        simp only [JL_app, List.length_append] at h4
        rw [HNN.out] at h4
        omega
      obtain ⟨g8, cap8, e8, -, -⟩ := HK8.out.form (by omega)
      injection e8 with e8 _ e8'
      subst e8 e8'
      obtain ⟨g7, cap7, e7, -, -⟩ := HK10.out.form (by omega)
      injection e7 with e7 _ e7'
      subst e7 e7'
      have d8 := HK8.out.cellAt p (by omega)
      rw [startsV_at hpk'] at d8
      generalize hM : (JL (rs.take p)).length = M at d8 hjk
      have HM := Lib.hid hM
      clear hM
      obtain ⟨d, j, hd4, hj8, hqd, hqm⟩ : ∃ d j : Nat, d < 4 ∧ j < 8 ∧ q / 8 = d ∧ q % 8 = j := ⟨q / 8, q % 8, by omega, by omega, rfl, rfl⟩
      have hx : (JL (rs.take k))[M + d]? = some ((JL (rs.take k))[M + d]'(by rw [HNN.out]; omega)) := List.getElem?_eq_getElem _
      generalize (JL (rs.take k))[M + d]'(by rw [HNN.out]; omega) = x at hx
      have hx8 : x < 256 := JL_bytes (fun r hr => HBY.out r (List.mem_of_mem_take hr)) x (List.mem_of_getElem? hx)
      have d7 := HK10.out.cellAt (M + d) (by omega)
      rw [show (VB (JL (rs.take k)))[M + d]? = some (.int .u8 (x : Int)) by rw [VB, List.getElem?_map, hx]; rfl] at d7
      have f7 := HK10.out.frozenAt (M + d)
      obtain ⟨z, hz256, hzx, hsx⟩ : ∃ z : Nat, z < 256 ∧ z ≠ x ∧ bits .xor .u8 (x : Int) ((2 : Int) ^ min j 8 % 256) = (z : Int) := by
        have hb2 : 2 ^ j < 256 := Nat.pow_lt_pow_of_lt (by omega) (show j < 8 by omega)
        refine ⟨x ^^^ 2 ^ j, (bit_turned hx8 hj8).1, (bit_turned hx8 hj8).2, ?_⟩
        rw [← bits8_xor hx8 hb2, Nat.min_eq_left (by omega)]
        congr 1
        have h1 : ((2 : Int) ^ j) = ((2 ^ j : Nat) : Int) := by simp
        rw [h1]
        exact Int.emod_eq_of_lt (Int.natCast_nonneg _) (Int.ofNat_lt.2 hb2)
      have HX := Lib.hid hx
      have HZ := Lib.hid hzx
      clear hx hzx
      have z1 : (q : Int) / 8 = (d : Int) := by omega
      have z2 : (q : Int) % 8 = (j : Int) := by omega
      have z3 : (q : Int).tdiv 8 = (d : Int) := by rw [Int.tdiv_eq_ediv_of_nonneg (by omega)]; exact z1
      have z4 : (q : Int).tmod 8 = (j : Int) := by rw [Int.tmod_eq_emod_of_nonneg (by omega)]; exact z2
      have z5 : IntKind.i64.wrap ((M : Int) + (d : Int)) = (M : Int) + (d : Int) := IntWalk.i64_in _ (by omega)
      have y1 : IntKind.i64.wrap (d : Int) = (d : Int) := IntWalk.i64_in _ (by omega)
      have y2 : IntKind.i64.wrap (j : Int) = (j : Int) := IntWalk.i64_in _ (by omega)
      have z6 : (0 : Int) ≤ (M : Int) + (d : Int) := by omega
      have z7 : (M : Int) + (d : Int) < (N : Int) := by omega
      have z8 : ((M : Int) + (d : Int)).toNat = M + d := by omega
      have z9 : (0 : Int) ≤ (p : Int) := by omega
      have hjb : (j : Int) < 8 := by omega
      go_still_tail 24, (by kernel_rfl)
      change wpList _ _ _ _ _ wc.drew
      clear d8 d7 f7
      have HK8 := Lib.hid HK8.out.drew
      have hk10 := HK10.out.drew
      have f7 := hk10.frozenAt (M + d)
      have d7 := hk10.cellAt (M + d) (by omega)
      rw [show (VB (JL (rs.take k)))[M + d]? = some (.int .u8 (x : Int)) by rw [VB, List.getElem?_map, HX.out]; rfl] at d7
      have HK10 := Lib.hid hk10
      have HK9 := Lib.hid HK9.out.drew
      clear hk10
      generalize wc.drew = wd at HK8 HK10 f7 d7 HK9 ⊢
      have hg78 : g8 ≠ g7 := by
        obtain ⟨g, o, e1, hS, -⟩ := HK7.out.2 (by rw [HNN.out]; omega)
        injection e1 with e1
        injection e1 with e1 e2
        subst e1
        intro e
        exact hS.2.2 (by rw [e]; rfl)
      have hst := (HK10.out.stored (M + d) (.int .u8 ((z : Nat) : Int))).1
      have hset : (VB (JL (rs.take k))).set (M + d) (.int .u8 ((z : Nat) : Int)) = VB ((JL (rs.take k)).set (M + d) z) := by simp [VB, List.map_set]
      rw [hset] at hst
      have hsl : Bytes ((JL (rs.take k)).set (M + d) z) := fun y hy => by
        rcases List.mem_or_eq_of_mem_set hy with hy | rfl
        · exact JL_bytes (fun r hr => HBY.out r (List.mem_of_mem_take hr)) y hy
        · exact hz256
      have hB3 : Below W.heap.size W (wd.setCell ⟨g7, M + d, none⟩ (.int .u8 ((z : Nat) : Int))) := HK9.out.setCell (by have := (own_row HK10.out g7 rfl).1; simpa using this) _
      have hK8 := own_keep HK8.out (w' := wd.setCell ⟨g7, M + d, none⟩ (.int .u8 ((z : Nat) : Int))) fun g hg => Below.heap_setCell wd _ _ g (by
        have e : g8 = g := by simpa [Value.ownBlock] using hg
        rw [← e]; exact hg78)
      have htold := turned_told (fun r hr => by have := HK3.out r hr; omega) (fun r hr => HBY.out r (List.mem_of_mem_take hr)) HK1.out hpk' hd4 (by rw [HM.out]; exact HX.out) HZ.out hz256
      rw [HM.out] at htold
      have HST := Lib.hid hst
      have HSL := Lib.hid hsl
      have HB3 := Lib.hid hB3
      have HK8 := Lib.hid hK8
      have HT := Lib.hid htold
      clear hst hset hsl hB3 hK8 htold
      go_wp2_with fail
      clear f7 d7
      generalize wd.setCell ⟨g7, M + d, none⟩ (.int .u8 ((z : Nat) : Int)) = w3 at HST HB3 HK8 ⊢
      obtain ⟨y1, -, y2, y3⟩ := BY.own HST.out HSL.out
      have hop := open_any w3 _ _ ((JL (rs.take k)).set (M + d) z) N c7 (by rw [List.length_set, HNN.out]) y2 (by unfold maxLen at y3; omega) (by omega) y1 (fun b hb => hb.2)
      have hpl : (rs.take p).length = p := by rw [List.length_take]; have := HK1.out; omega
      have HPL := Lib.hid hpl
      clear y1 y2 y3 hpl
      refine hop.mono ?_
      intro e w4 hq
      obtain ⟨a9, c9, rfl, z8, z8', z9, hb4⟩ := hq.good HT.out
      rw [HPL.out] at z8 ⊢
      have HB4 := Lib.hid (below_on hb4 HB3.out)
      have hK8 := own_below HK8.out hb4
      have d8 := hK8.cellAt p (by omega)
      rw [startsV_at hpk', HM.out] at d8
      have hsm := same_by w4 _ _ a9 a (rs.take p) (rs.take p) p p c9 c HPL.out HPL.out (by omega) z9 ((HH.out.under HB4.out (fun b hb => hb)).take p)
      rw [decide_eq_true rfl] at hsm
      have HSM := Lib.hid hsm
      clear hop hq hb4 hK8 hsm z9
      have i1 : (p : Int) < (k : Int) := by omega
      have i2 : p ≤ c := by omega
      go_wp2_with fail
      refine HSM.out.mono ?_
      rintro e w5 ⟨rfl, hb5⟩
      have HB5 := Lib.hid (below_on hb5 HB4.out)
      clear hb5
      go_wp2_with fail
      refine (awake_any _).mono ?_
      rintro e w6 ⟨rfl, hb6⟩
      have HB6 := Lib.hid (below_on hb6 HB5.out)
      clear hb6
      go_wp2_with fail
      go_ret
      exact ⟨rfl, HB6.out⟩
/-- What JournalTurned is given, opened. -/
theorem walk_JournalTurned {H : Type} {enc : TypeId × Value → H} {base : Nat} (v : Value) (which bit : Int) {d : DataW H} {p : List MemPlace} {ds : List (DataW H)} (W : World) (ok : Value.okWide Try.prog W .any base 23 v)
    (tr : DataW.Trod enc Try.prog W 0 (fun _ => true) true 23 v d p) (_ : (Lit.int .i64 which).wf = true) (_ : (Lit.int .i64 bit).wf = true) (hk : Rows.uptoSmall H ds = true) (hd : d ∈ ds) : Calls Try.prog 6 #[v, .int .i64 which, .int .i64 bit] W fun e w' => e = .returned (.bool true) ∧ Below W.heap.size W w' := by
  obtain ⟨rs, a, n, c, rfl, h1, h2, h3, h4, h5⟩ := rows_arg ok tr
  unfold maxLen at h3
  exact turned_go rs which bit a n c W h1 h2 (by omega) (Nat.le_trans h5 (bulk_bound hk hd)) h4 h4.bytes
end Go.Proofs.Ytknjloffkiidhaa
