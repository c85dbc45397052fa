/- The walk of JournalCuts. -/
import Derived.Test.YtknjloffkiidhaaJ5p
namespace Go.Proofs.Ytknjloffkiidhaa
open Go.RowKit Go.Deep
attribute [local go_sem] Go.undef

set_option maxRecDepth 100000 in
set_option maxHeartbeats 8000000 in
theorem cuts_go (rs : List (List Nat)) (cut : Int) (a : Option Addr) (n c : Nat) (W : World) (hn : rs.length = n) (hnc : n ≤ c) (hm : c ≤ 9223372036854775807) (hs : n ≤ 1048576) (h : RB W (· < W.heap.size) a rs)
    (hct : -9223372036854775808 ≤ cut ∧ cut ≤ 9223372036854775807) (hb : ∀ x ∈ rs, Bytes x) :
    Calls Try.prog 5 #[.slice a n c, .int .i64 cut] W fun e w' => e = .returned (.bool true) ∧ Below W.heap.size W w' := by
  obtain ⟨i0, hi0, hz0, hz1, hz2⟩ := info_parts info3
  have HH := Lib.hid h
  have HN := Lib.hid hn
  have HBY := Lib.hid hb
  clear h hn hb
  go_enter Try.func5, Try.ntmps5
  go_wp2_with fail
  refine (new_any _).mono ?_
  rintro e w1 ⟨rfl, rfl⟩
  have hby0 := NewQ.by (w := W)
  have hb0 : Below W.heap.size W (W.alloc (.cells #[.int .u8 67, .int .u8 78, .int .u8 68, .int .u8 74, .int .u8 1] 5 (5, 6))) := by go_grown
  have hsz0 : (W.alloc (.cells #[.int .u8 67, .int .u8 78, .int .u8 68, .int .u8 74, .int .u8 1] 5 (5, 6))).heap.size = W.heap.size + 1 := by simp
  have hst : CS W rs 0 (.slice (some ⟨W.heap.size, 0, none⟩) 5 5) (.slice none 0 0) (W.alloc (.cells #[.int .u8 67, .int .u8 78, .int .u8 68, .int .u8 74, .int .u8 1] 5 (5, 6))) :=
    ⟨Nat.zero_le _, by omega, (fun r hr => by simp at hr), by simp [sumLen], ⟨_, 5, rfl, by rw [List.take_zero]; decide, by decide, hby0.mono fun b hb => ⟨hb.1, by omega, by simp [Value.ownBlock]⟩⟩, ⟨rfl, .inl ⟨rfl, rfl⟩⟩, hb0⟩
  have HST := Lib.hid hst
  clear hby0 hb0 hsz0 hst
  generalize W.alloc (.cells #[.int .u8 67, .int .u8 78, .int .u8 68, .int .u8 74, .int .u8 1] 5 (5, 6)) = w1 at HST ⊢
  go_upto_block 0 with fail
  go_cut [5, 6, 7, 8, 9, 10, 11] from 20 to 57 (fun s5 s6 s7 s8 s9 s10 s11 wx => ∃ k, CS W rs k s5 s6 wx)
  case first =>
    go_wp2_with fail
    go_loopw [5, 6, 7, 20] (fun s5 s6 s7 iv wr => ∃ j : Nat, iv = .int .i64 j ∧ s7 = .int .i64 ((sumLen (rs.take j) : Nat) : Int) ∧ CS W rs j s5 s6 wr) (fun _ _ _ i _ => n - (intOf i).toNat)
    case atStart => exact ⟨0, rfl, by simp [sumLen], HST.out⟩
    case round =>
      obtain ⟨j, rfl, rfl, hcs⟩ := hrel
      have hjn : j ≤ n := by have := hcs.1; have := HN.out; omega
      have hsl : sumLen (rs.take j) ≤ 1048576 := hcs.2.2.2.1
      have hj30 : j ≤ 30 := hcs.2.1
      have HCS := Lib.hid hcs
      clear hcs
      generalize hsu : sumLen (rs.take j) = su at hsl ⊢
      have HSU := Lib.hid hsu
      clear hsu
      by_cases hlt : j < n
      · obtain ⟨g, o, r, a', c', rfl, -, hr, hc0, hrc, hcm, hby⟩ := HH.out.at (i := j) (by rw [HN.out]; exact hlt)
        have hB := HCS.out.2.2.2.2.2.2
        have hc := (hB.cell (p := ⟨g, o + j, none⟩) (World.block_lt_of_cell? _ _ hc0)).trans hc0
        obtain ⟨m, hm1⟩ : ∃ m : Nat, r.length = m := ⟨_, rfl⟩
        rw [hm1] at hc hrc
        have hi0' : (0 : Int) ≤ (j : Int) := by omega
        have hi1 : (j : Int) < (n : Int) := by omega
        unfold maxLen at hcm
        have HR := Lib.hid hr
        have HM := Lib.hid hm1
        have HBR := Lib.hid hby
        have HB := Lib.hid hB
        clear hc0 hr hm1 hby hB
        by_cases h30 : j < 30
        · have g30 : decide ((30 : Int) ≤ (j : Int)) = false := by simp; omega
          by_cases h6 : m ≤ 65535
          · have g6 : decide ((65535 : Int) < (m : Int)) = false := by simp; omega
            by_cases hsum : su + m ≤ 1048576
            · have gs : decide ((1048576 : Int) < (su : Int) + (m : Int)) = false := by simp; omega
              obtain ⟨-, -, k3, -, ⟨a5, c5, rfl, k5, k6, k7⟩, k8, -⟩ := HCS.out
              have hsj := JL_sum (rs.take j)
              rw [HSU.out] at hsj
              have hlj : (rs.take j).length ≤ 30 := by rw [List.length_take]; omega
              have hbt : ∀ x ∈ rs.take j, Bytes x := fun x hx => HBY.out x (List.mem_of_mem_take hx)
              have htold := told_JL' k3 hbt
              have hap := append_any wr _ _ a5 a' (JL (rs.take j)) r _ c5 m c' rfl k5 (by unfold maxLen at k6; omega) (by omega) k7 (fun b hb => hb.2.1) HM.out (by omega) (HBR.out.under HB.out (fun b hb => hb)) (fun b hb => Nat.lt_of_lt_of_le hb HB.out.size)
              have HAP := Lib.hid hap
              have HT := Lib.hid htold
              have hsn : (JL (rs.take (j + 1))).length = 5 + su + 8 * (rs.take j).length + m + 8 := by rw [take_snoc HR.out, JL_snoc_len, HM.out, hsj]
              have hsb : (JL (rs.take (j + 1))).length ≤ 1048576 + 1000 := by omega
              clear k3 k5 k6 k7 hap htold hbt hsj hsn hlj
              generalize (JL (rs.take j)).length = N0 at HAP HT ⊢
              go_wp2_with fail
              refine HAP.out.mono ?_
              intro e w2 hq
              obtain ⟨a2, c2, rfl, hown2, hb2⟩ := hq.good HT.out (by rw [HM.out]; exact h6)
              rw [← take_snoc HR.out] at hown2 ⊢
              generalize hN1 : (JL (rs.take (j + 1))).length = N1 at hsb hown2 ⊢
              have HN1 := Lib.hid hN1
              have HO2 := Lib.hid hown2
              have HB2 := Lib.hid hb2
              have k9 := own_below k8 hb2
              have hs2 := hb2.size
              have hsW := HB.out.size
              clear hq hown2 hb2 k8 hN1
              go_wp2_with (at_builtin; refine wpList_append_lies _ rfl _ _ 40 rfl W.heap.size 3 i0 _ 1 8 Try.underlying40 hi0 hz0 hz1 hz2 rfl (by omega) _ j (endsV rs j) rfl (k9.alloc _) ⟨w2.heap.size, 0, none⟩ 1 1 [.int .i64 ((N1 : Nat) : Int)] rfl rfl (one_new rfl) ?b3 (by omega) ?b4 ?b5 ?b6 (w2.heap.size + 1) (by simp) ?_)
              case b3 => intro u hu; rw [List.mem_singleton.1 hu]; rfl
              case b4 => unfold maxLen; omega
              case b5 => omega
              case b6 => simp; omega
              intro g2 cap2 w3 hown3 hgr3 hat3 hlt3
              have hcs3 := HCS.out.step HR.out h30 (by rw [HM.out]; exact h6) (by rw [HSU.out, HM.out]; exact hsum) HBY.out HN1.out HO2.out HB2.out hown3 hgr3 hat3
              have hsum3 : sumLen (rs.take (j + 1)) = su + m := by rw [take_snoc HR.out, sumLen_snoc, HSU.out, HM.out]
              have HCS3 := Lib.hid hcs3
              have HSUM3 := Lib.hid hsum3
              clear hcs3 hsum3 hown3 hgr3 hat3 hlt3 k9
              go_wp2_with fail
              go_roundw
              case rel => exact ⟨j + 1, by go_num, by rw [HSUM3.out]; go_num, HCS3.out⟩
              case measure => simp [intOf]; omega
            · have gs : decide ((1048576 : Int) < (su : Int) + (m : Int)) = true := by simp; omega
              go_wp2_with fail
              go_meet
              exact ⟨j, HCS.out⟩
          · have g6 : decide ((65535 : Int) < (m : Int)) = true := by simp; omega
            go_wp2_with fail
            go_meet
            exact ⟨j, HCS.out⟩
        · have g30 : decide ((30 : Int) ≤ (j : Int)) = true := by simp; omega
          go_wp2_with fail
          go_meet
          exact ⟨j, HCS.out⟩
      · go_wp2_with fail
        go_meet
        exact ⟨j, HCS.out⟩
  case rest =>
    obtain ⟨k, k1, k2, k3, k4, ⟨a5, c5, rfl, k5, k6, k7⟩, k8, k9⟩ := hcut
    obtain ⟨a6, c6, rfl⟩ := own_slice k8
    have hsj := JL_sum (rs.take k)
    have hkl : (rs.take k).length = k := by rw [List.length_take]; omega
    have hbt : ∀ x ∈ rs.take k, Bytes x := fun x hx => HBY.out x (List.mem_of_mem_take hx)
    have htold := told_JL' k3 hbt
    have hop := open_any wc _ a5 (JL (rs.take k)) _ c5 rfl k5 (by unfold maxLen at k6; omega) (by omega) k7 (fun b hb => hb.2.1)
    have hN5 : 5 ≤ (JL (rs.take k)).length := by omega
    have hNb : (JL (rs.take k)).length ≤ 1048576 + 1000 := by omega
    have hkn : k ≤ n := by have := HN.out; omega
    have hkc : k ≤ c := by omega
    have HT := Lib.hid htold
    have HOP := Lib.hid hop
    have HK3 := Lib.hid k3
    have HK7 := Lib.hid k7
    have HK8 := Lib.hid k8
    have HK9 := Lib.hid k9
    have HKL := Lib.hid hkl
    have HBT := Lib.hid hbt
    have HK1 := Lib.hid k1
    clear htold hop k3 k7 k8 k9 hsj hkl hbt k4 k1
    generalize hNN : (JL (rs.take k)).length = N at HT HOP hN5 hNb k5 ⊢
    have HNN := Lib.hid hNN
    clear hNN
    go_wp2_with fail
    refine HOP.out.mono ?_
    intro e w2 hq
    obtain ⟨a7, c7, rfl, z1, z2, z3, hb2⟩ := hq.good HT.out
    rw [HKL.out] at z1 ⊢
    have HB2 := Lib.hid (below_on hb2 HK9.out)
    have HK7' := Lib.hid (HK7.out.under hb2 (fun b hb => hb.2.1))
    have HK8' := Lib.hid (own_below HK8.out hb2)
    have hsm := same_by w2 _ _ a7 a (rs.take k) (rs.take k) k k c7 c HKL.out HKL.out (by omega) z3 ((HH.out.under HB2.out (fun b hb => hb)).take k)
    rw [decide_eq_true rfl] at hsm
    have HSM := Lib.hid hsm
    have hs2 := hb2.size
    clear hq hb2 hsm z3
    go_wp2_with fail
    refine HSM.out.mono ?_
    rintro e w3 ⟨rfl, hb3⟩
    have HB3 := Lib.hid (below_on hb3 HB2.out)
    have HK7 := Lib.hid (HK7'.out.under hb3 (fun b hb => by omega))
    have HK8 := Lib.hid (own_below HK8'.out hb3)
    have hs3 := hb3.size
    clear hb3 HK7' HK8'
    go_upto_block 2 with fail
    obtain ⟨p, hp, hp5, hpN⟩ := at_num cut hN5 (by omega)
    rw [hp]
    clear hp
    have HCUT := Lib.hid hct
    clear hct
    go_cut [16] from 93 to 106 (fun s16 wx => ∃ q : Nat, s16 = .int .i64 (q : Int) ∧ q ≤ k ∧ (JL (rs.take q)).length ≤ p ∧ (q = k ∨ p < (JL (rs.take (q + 1))).length) ∧ wx = w3)
    case first =>
      go_wp2_with fail
      go_loop [16] (fun iv => ∃ q : Nat, iv = .int .i64 (q : Int) ∧ q ≤ k ∧ (JL (rs.take q)).length ≤ p) (fun i => k - (intOf i).toNat)
      case atStart => exact ⟨0, rfl, Nat.zero_le _, by rw [List.take_zero]; exact hp5⟩
      case round =>
        obtain ⟨q, rfl, hq1, hq2⟩ := hrel
        have HQ2 := Lib.hid hq2
        clear hq2
        by_cases hlt : q < k
        · have hd : decide ((q : Int) < (k : Int)) = true := by simp; omega
          obtain ⟨g, cap, e1, -, -⟩ := HK8.out.form (by omega)
          injection e1 with e1 _ e2
          subst e1 e2
          have d0 := HK8.out.cellAt q (by omega)
          rw [endsV_at hlt] at d0
          have hi0' : (0 : Int) ≤ (q : Int) := by omega
          have hi1 : (q : Int) < (k : Int) := by omega
          generalize hE : (JL (rs.take (q + 1))).length = E at d0
          have HE := Lib.hid hE
          clear hE
          by_cases hle : E ≤ p
          · have hde : decide ((E : Int) ≤ (p : Int)) = true := by simp; omega
            go_wp2_with fail
            go_round
            case rel => exact ⟨q + 1, by go_num, by omega, by rw [HE.out]; exact hle⟩
            case measure => simp [intOf]; omega
          · have hde : decide ((E : Int) ≤ (p : Int)) = false := by simp; omega
            go_wp2_with fail
            go_meet
            exact ⟨q, rfl, hq1, HQ2.out, .inr (by rw [HE.out]; omega), rfl⟩
        · obtain rfl : q = k := by omega
          go_wp2_with fail
          go_meet
          exact ⟨q, rfl, hq1, HQ2.out, .inl rfl, rfl⟩
    case rest =>
      obtain ⟨q, rfl, hq1, hq2, hq3, rfl⟩ := hcut
      have hct := cut_told HK3.out HBT.out HK1.out hq1 hq2 (by rw [HNN.out]; exact hpN) hq3
      have htl : ((JL (rs.take k)).take p).length = p := by rw [List.length_take, HNN.out]; omega
      have hpc : p ≤ c5 := by omega
      have hop := open_any wc _ a5 ((JL (rs.take k)).take p) p c5 htl hpc (by unfold maxLen at k6; omega) (by omega) (HK7.out.front p) (fun b hb => by omega)
      have hqc : q ≤ c := by omega
      have hql : (rs.take q).length = q := by rw [List.length_take]; have := HK1.out; omega
      have HOP := Lib.hid hop
      have HCT := Lib.hid hct
      have HQL := Lib.hid hql
      have HM : Hid (q = 0 → (JL (rs.take q)).length = 5) := fun h => by rw [h, List.take_zero]; decide
      clear hop hct hq2 hq3 htl hql
      go_wp2_with fail
      refine HOP.out.mono ?_
      intro e w4 hq
      obtain ⟨a8, c8, rfl, z8, z8', z9, hb4⟩ := hq.good HCT.out
      rw [HQL.out] at z8 ⊢
      have HB4 := Lib.hid (below_on hb4 HB3.out)
      have HK8' := Lib.hid (own_below HK8.out hb4)
      have hsm := same_by w4 _ _ a8 a (rs.take q) (rs.take q) q q c8 c HQL.out HQL.out (by omega) z9 ((HH.out.under HB4.out (fun b hb => hb)).take q)
      rw [decide_eq_true rfl] at hsm
      have HSM := Lib.hid hsm
      have hs4 := hb4.size
      clear hq hb4 hsm z9
      by_cases hq0 : q = 0
      · subst hq0
        have hM := HM.out rfl
        rw [hM]
        clear hM
        go_wp2_with fail
        refine HSM.out.mono ?_
        rintro e w5 ⟨rfl, hb5⟩
        have HB5 := Lib.hid (below_on hb5 HB4.out)
        clear hb5
        go_wp2_with fail
        refine (awake_any _).mono ?_
        rintro e w6 ⟨rfl, hb6⟩
        have HB6 := Lib.hid (below_on hb6 HB5.out)
        clear hb6
        go_wp2_with fail
        go_ret
        exact ⟨rfl, HB6.out⟩
      · obtain ⟨q', rfl⟩ : ∃ q', q = q' + 1 := ⟨q - 1, by omega⟩
        go_wp2_with fail
        refine HSM.out.mono ?_
        rintro e w5 ⟨rfl, hb5⟩
        have HB5 := Lib.hid (below_on hb5 HB4.out)
        have HK8 := own_below HK8'.out hb5
        obtain ⟨g, cap, e1, -, -⟩ := HK8.form (by omega)
        injection e1 with e1 _ e2
        subst e1 e2
        have d0 := HK8.cellAt q' (by omega)
        rw [endsV_at (by omega)] at d0
        clear hb5 HK8
        generalize (JL (rs.take (q' + 1))).length = M at d0 ⊢
        go_wp2_with fail
        refine (awake_any _).mono ?_
        rintro e w6 ⟨rfl, hb6⟩
        have HB6 := Lib.hid (below_on hb6 HB5.out)
        clear hb6
        go_wp2_with fail
        go_ret
        exact ⟨rfl, HB6.out⟩

theorem RB.bytes {w : World} {S : Nat → Prop} {a : Option Addr} {rs : List (List Nat)} (h : RB w S a rs) : ∀ x ∈ rs, Bytes x := fun x hx => by
  obtain ⟨i, hi, rfl⟩ := List.getElem_of_mem hx
  obtain ⟨g, o, r, a', c', -, -, hr, -, -, -, hby⟩ := h.at hi
  rw [List.getElem?_eq_getElem hi] at hr
  injection hr with hr
  rw [hr]
  exact hby.1
/-- What JournalCuts is given, opened. -/
theorem walk_JournalCuts {H : Type} {enc : TypeId × Value → H} {base : Nat} (v : Value) (cut : Int) {d : DataW H} {p : List MemPlace} {ds : List (DataW H)} (W : World) (ok : Value.okWide Try.prog W .any base 23 v)
    (tr : DataW.Trod enc Try.prog W 0 (fun _ => true) true 23 v d p) (wc : (Lit.int .i64 cut).wf = true) (hk : Rows.uptoSmall H ds = true) (hd : d ∈ ds) : Calls Try.prog 5 #[v, .int .i64 cut] W fun e w' => e = .returned (.bool true) ∧ Below W.heap.size W w' := by
  obtain ⟨rs, a, n, c, rfl, h1, h2, h3, h4, h5⟩ := rows_arg ok tr
  unfold maxLen at h3
  exact cuts_go rs cut a n c W h1 h2 (by omega) (Nat.le_trans h5 (bulk_bound hk hd)) h4 (Go.bounds_i64 wc) h4.bytes
end Go.Proofs.Ytknjloffkiidhaa
