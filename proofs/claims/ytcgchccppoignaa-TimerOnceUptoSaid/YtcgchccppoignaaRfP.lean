/- Timer: the walk of TimerOnce. -/
import Derived.Test.YtcgchccppoignaaRfO
namespace Go.Proofs.Ytcgchccppoignaa
open Go.RowKit Go.ChangeShapes Go.WideShapes
attribute [local go_sem ↓] Go.wp_at_zero Go.wp_at_succ
attribute [local go_sem] Go.undef

/-- At the loop's head. -/
structure OnX (w : World) (N0 N1 n0 T sq : Nat) (L : List Tm) (ρ : Nat → List Tm) (idl : List Int) (o : Value) (wr : World) : Prop where
  wh : Wh wr N0 (N0 + 1) N0 T sq L ρ
  ow : ∀ g, Own (N0 + 1) N0 L g → g < N1
  il : idl.length + L.length = n0
  ro : wr.ownsRow N1 2 1 o idl.length (idv idl)
  no : ∀ y, y ∈ L → y.id ∉ idl
  be : Below N0 w wr
  sz : N1 ≤ wr.heap.size
/-- In the loop over what has fired. -/
structure OnY (w : World) (N0 N1 N3 N4 v sq : Nat) (F R : List Tm) (ρ : Nat → List Tm) (idl : List Int) (a2 : Option Addr) (c2 : Nat) (j : Nat) (o : Value) (wr : World) : Prop where
  wh : Wh wr N0 (N0 + 1) N0 v sq R ρ
  ow : ∀ g, Own (N0 + 1) N0 R g → g < N1
  ro : wr.ownsRow N1 2 1 o (idl.length + j) (idv (idl ++ fid (F.take j)))
  rl : RowsOf FE 2 wr (fun g => N3 ≤ g ∧ g < N4) (F.map prT) a2 F.length c2
  ap : ∀ q, o.ownBlock = some q → q < N3 ∨ N4 ≤ q
  be : Below N0 w wr
  sz : N4 ≤ wr.heap.size
section
variable {w wr w5 : World} {N0 N1 N3 N4 n0 v T sq : Nat} {L F R : List Tm} {ρ : Nat → List Tm} {idl : List Int} {a2 : Option Addr} {c2 j : Nat} {o : Value}
theorem OnY.draw (h : OnY w N0 N1 N3 N4 v sq F R ρ idl a2 c2 j o wr) (n : Nat) : OnY w N0 N1 N3 N4 v sq F R ρ idl a2 c2 j o (wr.drewN n) :=
  ⟨h.wh.far fun _ _ => rfl, h.ow, own_keep h.ro fun _ _ => rfl, rows_keep h.rl fun _ _ => rfl, h.ap, belowN h.be n, h.sz⟩
theorem OnY.row (h : OnY w N0 N1 N3 N4 v sq F R ρ idl a2 c2 j o wr) {i : Nat} (hi : i < F.length) :
    ∃ (g o2 : Nat) (x : Tm), a2 = some ⟨g, o2, none⟩ ∧ F[i]? = some x ∧ N3 ≤ g ∧ g < N4 ∧ wr.cell? ⟨g, o2 + i * 2, none⟩ = some (.int .i64 x.at_) ∧ wr.cell? ⟨g, o2 + i * 2 + 1, none⟩ = some (.int .i64 x.id) := by
  obtain ⟨g, o2, p, e, hS, e1, d1, d2⟩ := h.rl.fe hi
  rw [List.getElem?_map, List.getElem?_eq_getElem hi] at e1
  simp [prT] at e1
  subst e1
  exact ⟨g, o2, F[i], e, List.getElem?_eq_getElem hi, hS.1, hS.2, d1, d2⟩
theorem OnY.step {ob : Obj} {g5 cap5 m : Nat} {x : Tm} (h : OnY w N0 N1 N3 N4 v sq F R ρ idl a2 c2 j o wr) (hx : F[j]? = some x) (h13 : N0 ≤ N1 ∧ N1 ≤ N3 ∧ N3 ≤ N4) (hm : m = idl.length + j + 1)
    (hown : w5.ownsRow N1 2 1 (.slice (some ⟨g5, 0, none⟩) m cap5) m (idv (idl ++ fid (F.take j)) ++ [.int .i64 x.id])) (hgr : (wr.alloc ob).grownBy w5 o.ownBlock) (hat : o.ownBlock = some g5 ∨ g5 = wr.heap.size + 1) :
    OnY w N0 N1 N3 N4 v sq F R ρ idl a2 c2 (j + 1) (.slice (some ⟨g5, 0, none⟩) m cap5) w5 := by
  subst hm
  refine ⟨h.wh.far fun g hg => far_block hgr (h.wh.whl.own_lt hg).2 fun k => by have h1 := (own_ge h.ro k).1; have h2 := h.ow g hg; omega, h.ow, ?_, rows_keep h.rl fun g hg => far_block hgr (Nat.lt_of_lt_of_le hg.2 h.sz) fun k => by have := h.ap g k; omega, fun q hq => ?_, ?_, ?_⟩
  · rw [fid_take hx, ← List.append_assoc, idv_snoc]
    exact hown
  · have e : g5 = q := by simpa [Value.ownBlock] using hq
    subst e
    rcases hat with h1 | h1
    · exact h.ap _ h1
    · have := h.sz; omega
  · refine ((h.be.alloc (by have := h.sz; omega) ob)).grown hgr (by have := h.sz; simp; omega) fun q hq => by have := (own_ge h.ro hq).1; omega
  · have := hgr.size; simp at this; have := h.sz; omega
theorem OnY.done (h : OnY w N0 N1 N3 N4 v sq F R ρ idl a2 c2 F.length o wr) (h13 : N0 ≤ N1 ∧ N1 ≤ N3 ∧ N3 ≤ N4) (hf : Fires atT v L F R) (hn : ((F ++ R).map fun x => x.id).Nodup) (hno : ∀ y, y ∈ L → y.id ∉ idl) (hl : idl.length + L.length = n0) : OnX w N0 N1 n0 v sq R ρ (idl ++ fid F) o wr where
  wh := h.wh
  ow := h.ow
  il := by rw [List.length_append, fid, List.length_map]; have := hf.len; omega
  ro := by
    have := h.ro
    rw [List.take_length] at this
    rw [List.length_append, show (fid F).length = F.length from List.length_map _]
    exact this
  no := fid_keeps hn hno fun y hy => (hf.rest y hy).1
  be := h.be
  sz := by have := h.sz; omega
set_option maxRecDepth 100000 in
set_option maxHeartbeats 32000000 in
theorem once_go (now : Int) (hn : (Lit.int .i64 now).wf = true) (l : List Ac) (a : Option Addr) (n c : Nat) (w : World) (h : RowsOf AE 3 w (· < w.heap.size) l a n c) (hl : n ≤ 1048576) :
    Calls Try.prog 5 #[.int .i64 now, .slice a n c] w fun e w' => e = .returned (.bool true) ∧ Below w.heap.size w w' := by
  obtain ⟨iI, hiI, hzI, hzI1, hzI2⟩ := info_parts infoI
  have HSA := Lib.hid (set_any now hn l a n c _ w h (fun g hg => hg) (by omega))
  clear h
  go_enter Try.func5, Try.ntmps5
  simp only [Go.undef]
  go_wp2_with fail
  refine HSA.out.mono ?_
  rintro e w1 ⟨rfl, s1, L0, ρ0, hw1, -, hq1, hl1, hb1⟩
  obtain ⟨N0, hN0⟩ : ∃ N, N = w.heap.size := ⟨_, rfl⟩
  obtain ⟨N1, hN1⟩ : ∃ N, N = w1.heap.size := ⟨_, rfl⟩
  obtain ⟨n0, hn0⟩ : ∃ n, n = L0.length := ⟨_, rfl⟩
  obtain ⟨T0, hT0⟩ : ∃ n, n = nowF now := ⟨_, rfl⟩
  rw [← hN0, ← hT0] at hw1
  have HX1 : Hid (OnX w N0 N1 n0 T0 s1 L0 ρ0 [] (.slice none 0 0) w1) := ⟨hw1, fun g hg => by rw [hN1]; exact (hw1.whl.own_lt hg).2, by simp [hn0], World.ownsRow_nil _ _ _ _, (fun y _ hm => by cases hm), hN0 ▸ hb1, by omega⟩
  have HN : Hid (N0 ≤ N1 ∧ n0 ≤ 1048576) := ⟨by have := hb1.size; omega, by omega⟩
  have HNE := Lib.hid hN0
  have HLE := Lib.hid (len_any hw1.whl)
  rw [← hn0] at HLE
  have HNW := Lib.hid (now_any hw1.whl)
  rw [← hN0]
  clear hw1 hq1 hl1 hb1 hN0 hN1 hn0 hT0 HSA
  go_wp2_with fail
  refine HLE.out.mono ?_
  rintro e w2 ⟨rfl, rfl⟩
  go_wp2_with fail
  refine HNW.out.mono ?_
  rintro e w2 ⟨rfl, rfl⟩
  clear HLE HNW
  go_upto_region 6 with fail
  go_loopw [7, 8, 9] (fun fv lv iv wr => ∃ (T sq : Nat) (L : List Tm) (ρ : Nat → List Tm) (idl : List Int) (o : Value), fv = .int .i64 idl.length ∧ lv = .int .i64 T ∧ o = iv ∧ OnX w N0 N1 n0 T sq L ρ idl o wr) (fun fv _ _ _ => n0 - (intOf fv).toNat)
  case atStart => exact ⟨_, _, _, _, _, _, rfl, rfl, rfl, HX1.out⟩
  case round =>
    obtain ⟨T, sq, L, ρ, idl, ov, rfl, rfl, rfl, hx⟩ := hrel
    have HLE := Lib.hid (len_any hx.wh.whl)
    have HNX := Lib.hid (next_any hx.wh.whl hx.wh.inv hx.wh.nm)
    have HX := Lib.hid hx
    have hLn : L.length ≤ 1048576 := by have := hx.il; have := HN.out.2; omega
    have hIn : idl.length ≤ 1048576 := by have := hx.il; have := HN.out.2; omega
    by_cases h0 : 0 < L.length
    · have hgt : (0 : Int) < (L.length : Int) := by omega
      clear hx
      go_wp2_with fail
      refine HLE.out.mono ?_
      rintro e w2 ⟨rfl, rfl⟩
      go_wp2_with fail
      refine HNX.out.mono ?_
      rintro e w2 ⟨hE, rfl⟩
      rcases hE with ⟨hn, -⟩ | ⟨v, hv, rfl⟩
      · rw [hn] at h0; cases h0
      obtain ⟨hTv, hvM⟩ : T < v ∧ v ≤ MT := by
        obtain ⟨⟨x, hx, e⟩, -⟩ := hv
        have h1 := HX.out.wh.gt x hx
        have h2 := (HX.out.wh.inv.ge x hx).2
        omega
      unfold MT at hvM
      have hk1 : tkF T ((v : Int) - 1) = v - 1 := by unfold tkF MT; omega
      have hk2 : tkF (v - 1) (v : Int) = v := by unfold tkF MT; omega
      have hwv : (Lit.int .i64 (v : Int)).wf = true := by rw [show (v : Int) = wrap64 v from (IntWalk.wrap64_in _ (by omega)).symm]; exact wrap64_wf _
      have hwv1 : (Lit.int .i64 ((v : Int) - 1)).wf = true := by rw [show (v : Int) - 1 = wrap64 ((v : Int) - 1) from (IntWalk.wrap64_in _ (by omega)).symm]; exact wrap64_wf _
      have hG1 := go_any HX.out.wh (by omega) ((v : Int) - 1) hwv1
      rw [hk1] at hG1
      have HG1 := Lib.hid hG1
      have hdl : decide (v ≤ T) = false := decide_eq_false (by omega)
      have hv0 : (0 : Int) < (v : Int) := by omega
      have hv1 : (v : Int) ≤ 1099511627776 := by omega
      have HV := Lib.hid (And.intro hv (And.intro hTv (And.intro hk2 hwv)))
      clear hG1 hv hTv hvM hk1 hk2 hwv hwv1 HLE HNX
      go_wp2_with fail
      refine HG1.out.mono ?_
      rintro e w3 ⟨v1, F1, R1, ρ1, rfl, hf1, hw3, hor1, ht3⟩
      obtain ⟨rfl, rfl⟩ := fires_before HV.out.1 (by have := HV.out.2.1; omega) hf1
      obtain ⟨a1, c1, e1⟩ := own_len hor1
      rw [List.length_nil] at e1
      subst e1
      have hG2 := go_any hw3 (by omega) (v : Int) HV.out.2.2.2
      rw [HV.out.2.2.1] at hG2
      have HG2 := Lib.hid hG2
      have HW3 := Lib.hid (And.intro hw3 ht3)
      clear hf1 hw3 hor1 ht3 hG2 HG1
      go_wp2_with fail
      refine HG2.out.mono ?_
      rintro e w4 ⟨v2, F, R, ρ2, rfl, hf, hw4, hor2, ht4⟩
      obtain ⟨hF0, hFv, hFn⟩ := fires_least HW3.out.1.dst HV.out.1 hf
      obtain ⟨a2, c2, rfl, hr2⟩ := fired_rows hor2
      have hFl := hf.len
      have hFp : 0 < F.length := List.length_pos_iff.2 hF0
      have hF1 : ((F.length : Int) == 0) = false := beq_eq_false_iff_ne.2 (by omega)
      have hz1 := hr2.2.1
      have hz2 := hr2.2.2.1
      unfold maxLen at hz2
      obtain ⟨N3, hN3⟩ : ∃ N, N = w3.heap.size := ⟨_, rfl⟩
      obtain ⟨N4, hN4⟩ : ∃ N, N = w4.heap.size := ⟨_, rfl⟩
      have h13 : N0 ≤ N1 ∧ N1 ≤ N3 ∧ N3 ≤ N4 := ⟨HN.out.1, by have := HX.out.sz; have := HW3.out.2.size; omega, by have := ht4.size; omega⟩
      have HY4 : Hid (OnY w N0 N1 N3 N4 v sq F R ρ2 idl a2 c2 0 ov w4) := by
        have hro3 := own_keep HX.out.ro (w' := w3) fun q hq => HW3.out.2.far q (own_ge HX.out.ro hq).2 fun k => by have h1 := (own_ge HX.out.ro hq).1; have h2 := HX.out.ow q k; omega
        have hro4 := own_keep hro3 (w' := w4) fun q hq => ht4.far q (own_ge hro3 hq).2 fun k => by have h1 := (own_ge hro3 hq).1; have h2 := HX.out.ow q k; omega
        exact ⟨hw4, fun g hg => HX.out.ow g (own_of_fires hf hg), by simpa [fid] using hro4, by rw [hN3, hN4]; exact hr2, fun q hq => .inl (by have := (own_ge HX.out.ro hq).2; have := HW3.out.2.size; omega),
          (HX.out.be.trans (HW3.out.2.below (by have := HX.out.sz; omega) fun g hg => (HX.out.wh.whl.own_lt hg).1)).trans (ht4.below (by omega) fun g hg => (HX.out.wh.whl.own_lt hg).1), by omega⟩
      have HF := Lib.hid (And.intro hf (And.intro hFv (And.intro hFn hFl)))
      have H13 := Lib.hid h13
      clear hf hw4 hor2 ht4 hF0 hFv hFn hr2 hN3 hN4 h13 HG2 HW3
      go_upto_region 14 with fail
      go_loopw [9, 13] (fun iv jv wr => ∃ (j : Nat) (o : Value), jv = .int .i64 j ∧ j ≤ F.length ∧ o = iv ∧ OnY w N0 N1 N3 N4 v sq F R ρ2 idl a2 c2 j o wr) (fun _ jv _ => F.length - (intOf jv).toNat)
      case atStart => exact ⟨0, _, rfl, by omega, rfl, HY4.out⟩
      case round =>
        obtain ⟨j, o, rfl, hj, rfl, hy⟩ := hrel
        by_cases hlt : j < F.length
        · obtain ⟨wy, rfl⟩ : ∃ x, x = wr := ⟨_, rfl⟩
          obtain ⟨g, o2, x, rfl, hx, hg3, hg4, d1, d2⟩ := hy.row hlt
          have hxF := List.mem_of_getElem? hx
          rw [HF.out.2.1 x hxF] at d1
          have hil := HX.out.il
          have hfl := HF.out.2.2.2
          obtain ⟨m, hm⟩ : ∃ m, m = idl.length + j := ⟨_, rfl⟩
          have hro := hy.ro
          rw [← hm] at hro
          obtain ⟨ao, co, rfl⟩ := own_len hro
          have HRO := Lib.hid hro
          have HY := Lib.hid hy
          have HXJ := Lib.hid hx
          have HM := Lib.hid hm
          have HML : Hid (m + 1 ≤ maxLen ∧ (m + 1) * 8 ≤ 140737488355328) := ⟨by unfold maxLen; omega, by omega⟩
          have HWF := Lib.hid (HX.out.wh.dst.wf x (HF.out.1.le x hxF).1)
          have HAN := Lib.hid (fid_rest HF.out.2.2.1 hxF)
          have HSZ : Hid (N1 ≤ wy.heap.size) := by show N1 ≤ _; have := hy.sz; have := H13.out; omega
          have hj0 : (j : Int) < (F.length : Int) := by omega
          have hmb : m ≤ 2097152 := by omega
          clear hy hx hro hm hg3 hg4 hxF hil hfl
          go_upto_region 17 with fail
          go_loopw [14] (fun kv wk => ∃ k nn : Nat, kv = .int .i64 k ∧ k ≤ m ∧ wk = wy.drewN nn) (fun kv _ => m - (intOf kv).toNat)
          case atStart => exact ⟨0, 0, rfl, by omega, rfl⟩
          case round =>
            obtain ⟨k, nn, rfl, hk, rfl⟩ := hrel
            by_cases hkm : k < m
            · obtain ⟨gi, ci, e1, d3, -, -⟩ := own_at HRO.out hkm
              injection e1 with e1 e2 e3
              subst e1 e3
              obtain ⟨q, hq⟩ : ∃ q, (idl ++ fid (F.take j))[k]? = some q := ⟨_, List.getElem?_eq_getElem (by have := HM.out; rw [List.length_append, fid, List.length_map, List.length_take]; omega)⟩
              rw [idv_get hq] at d3
              have hqb : (q == x.id) = false := beq_eq_false_iff_ne.2 (fid_new HF.out.2.2.1 HX.out.no (fun y hy => (HF.out.1.le y hy).1) HXJ.out hq)
              clear hq e2
              go_wp2_with fail
              go_quiet (fail)
              go_wp2_with fail
              go_roundw
              case rel => exact ⟨k + 1, _, by go_num, by omega, by first | rfl | exact World.drewN_drewN _ _ _⟩
              case measure => simp [intOf]; omega
            · obtain rfl : k = m := by omega
              go_wp2_with (at_builtin; refine wpList_append_lies _ rfl _ _ 23 rfl N1 2 iI _ 1 8 Try.underlying23 hiI hzI hzI1 hzI2 rfl (by decide) (.slice ao k co) k (idv (idl ++ fid (F.take j))) rfl ((own_keep HRO.out (w' := wy.drewN nn) fun _ _ => rfl).alloc _) ⟨(wy.drewN nn).heap.size, 0, none⟩ 1 1 [.int .i64 x.id] rfl rfl (World.news_of_block (cs := #[.int .i64 x.id]) (t := 2) (fr := (0, 0)) (heap_alloc_new (wy.drewN nn) _)) (by simp [Value.oneCell']) Nat.one_pos HML.out.1 HML.out.2 (by have := HSZ.out; simp; omega) (wy.heap.size + 1) (by simp) ?_
                           intro g5 cap5 w5 hown5 hgrow hat5 hlt5
                           have HY5 := Lib.hid ((HY.out.draw nn).step HXJ.out H13.out (by rw [HM.out]) hown5 hgrow hat5)
                           obtain ⟨g', o', x', e', hx', -, -, d1', d2'⟩ := HY5.out.row hlt
                           have ex : x' = x := by have := hx'.symm.trans HXJ.out; injection this
                           subst ex
                           rw [HF.out.2.1 x' (List.mem_of_getElem? hx')] at d1'
                           injection e' with e'
                           injection e' with e1' e2' e3'
                           subst e1' e2'
                           clear hown5 hgrow hat5 hlt5 d1 d2 hx' e3')
              have HC := Lib.hid (cancel_wh HY5.out.wh x'.id HWF.out)
              go_wp2_with fail
              refine HC.out.mono ?_
              rintro e w6 (⟨-, rfl, rfl⟩ | ⟨y, _, h1, h2, -⟩)
              · go_wp2_with fail
                go_roundw
                case rel => exact ⟨j + 1, _, by go_num, by omega, rfl, HY5.out⟩
                case measure => simp [intOf]; omega
              · have := List.any_eq_false.1 HAN.out y h1
                simp [h2] at this
        · obtain rfl : j = F.length := by omega
          have HXN := Lib.hid (hy.done H13.out HF.out.1 HF.out.2.2.1 HX.out.no HX.out.il)
          clear hy
          go_wp2_with fail
          go_roundw
          case rel => exact ⟨_, _, _, _, _, _, by rw [List.length_append, fid, List.length_map]; go_num, rfl, rfl, HXN.out⟩
          case measure => have := HF.out.2.2.2; have := HX.out.il; simp [intOf]; omega
    · obtain rfl : L = [] := List.eq_nil_of_length_eq_zero (by omega)
      have hil := hx.il
      rw [List.length_nil, Nat.add_zero] at hil
      have hfn : ((idl.length : Int) == (n0 : Int)) = true := by rw [hil]; simp
      clear hx hil
      go_wp2_with fail
      refine HLE.out.mono ?_
      rintro e w2 ⟨rfl, rfl⟩
      go_wp2_with fail
      refine HNX.out.mono ?_
      rintro e w2 ⟨hE, rfl⟩
      rcases hE with ⟨-, rfl⟩ | ⟨v, ⟨⟨x, hx, -⟩, -⟩, -⟩
      · go_wp2_with fail
        refine (awake_any _).mono ?_
        rintro e' w5 ⟨rfl, hb5⟩
        have HB5 := Lib.hid hb5
        clear hb5
        go_wp2_with fail
        go_ret
        rw [← HNE.out]
        exact ⟨rfl, below_via HX.out.be HB5.out (by rw [HNE.out]; exact HX.out.be.size)⟩
      · cases hx
end
end Go.Proofs.Ytcgchccppoignaa
