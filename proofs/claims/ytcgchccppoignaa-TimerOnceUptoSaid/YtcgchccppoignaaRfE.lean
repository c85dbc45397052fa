/- Timer: the reference's Cancel, Go. -/
import Derived.Test.YtcgchccppoignaaRfD
namespace Go.Proofs.Ytcgchccppoignaa
open Go.RowKit
attribute [local go_sem ↓] Go.wp_at_zero Go.wp_at_succ
attribute [local go_sem] Go.undef

theorem placeT_spec {L : List Tm} {q : Int} (h : L.any (fun x => x.id == q) = true) : ∃ (k : Nat) (x : Tm), placeT L q = k ∧ L[k]? = some x ∧ x.id = q := by
  cases hf : L.findIdx? (fun x => x.id == q) with
  | none =>
    rw [List.findIdx?_eq_none_iff] at hf
    obtain ⟨x, hx, he⟩ := List.any_eq_true.1 h
    rw [hf x hx] at he
    cases he
  | some k =>
    obtain ⟨hk, he, -⟩ := List.findIdx?_eq_some_iff_getElem.1 hf
    exact ⟨k, L[k], by rw [placeT, hf], List.getElem?_eq_getElem hk, by simpa using he⟩
section
variable {w w5 : World} {B lb T : Nat} {L : List Tm} {v : Value}
def LCanPost (w : World) (B lb T : Nat) (L : List Tm) (v : Value) (q : Int) (e : Ending) (w' : World) : Prop :=
  (L.any (fun x => x.id == q) = false ∧ e = .returned (.bool false) ∧ w = w') ∨
  ∃ (k : Nat) (x : Tm) (v' : Value), L[k]? = some x ∧ x.id = q ∧ e = .returned (.bool true) ∧ IsL w' B lb T (L.eraseIdx k) v' ∧ LStep w lb v v' w'
set_option maxHeartbeats 8000000 in
theorem lcancel_any (h : IsL w B lb T L v) (hL : L.length ≤ 8796093022208) (hB : B ≤ w.heap.size) (q : Int) :
    Calls Try.prog 26 #[pt lb 0, .int .i64 q] w (LCanPost w B lb T L v q) := by
  have HPL := Lib.hid (lplace_any h q hL)
  cases hany : L.any (fun x => x.id == q) with
  | false =>
    rw [placeT_any.1 hany] at HPL
    have HANY := Lib.hid hany
    clear h hany
    go_enter Try.func26, Try.ntmps26
    go_wp2_with fail
    refine HPL.out.mono ?_
    rintro e w1 ⟨rfl, rfl⟩
    go_wp2_with fail
    go_ret
    exact .inl ⟨HANY.out, rfl, rfl⟩
  | true =>
    obtain ⟨k, x, hp, hx, hi⟩ := placeT_spec hany
    rw [hp] at HPL
    have HO := Lib.hid (lout_any h k x hx hL hB)
    have HX := Lib.hid (And.intro hx hi)
    have hkn : ¬ (k : Int) < 0 := by omega
    clear h hany hp hx hi
    go_enter Try.func26, Try.ntmps26
    go_wp2_with fail
    refine HPL.out.mono ?_
    rintro e w1 ⟨rfl, rfl⟩
    go_wp2_with fail
    refine HO.out.mono ?_
    rintro e w2 ⟨v', rfl, hl2, hs2⟩
    have HL2 := Lib.hid (And.intro hl2 hs2)
    clear hl2 hs2
    go_wp2_with fail
    go_ret
    exact .inr ⟨k, x, v', HX.out.1, HX.out.2, rfl, HL2.out.1, HL2.out.2⟩
/-- The tick is written. -/
theorem IsL.setT (h : IsL w B lb T L v) (n : Nat) : IsL (w.setCell ⟨lb, 0, none⟩ (.int .i64 n)) B lb n L v ∧ LStep w lb v v (w.setCell ⟨lb, 0, none⟩ (.int .i64 n)) :=
  ⟨⟨World.cell?_setCell_same _ _ _ h.t, (World.frozen?_setCell _ _ _ _).trans h.ft, (World.cell?_setCell_other _ _ _ _ fun e => by have := congrArg Addr.off e; simp at this).trans h.l, (World.frozen?_setCell _ _ _ _).trans h.fl,
    own_keep h.row fun g hg => RowKit.Below.heap_setCell _ _ _ _ fun e => h.ne (by rw [← show g = lb from e]; exact hg), h.ne, h.lo⟩, WT.set w (.inl rfl) _, fun _ hg => .inl hg⟩
theorem first_fires {T' k : Nat} {fired : List Tm} {Lr : List Tm} {x : Tm} (hf : ∀ F R, Fires atT T' Lr F R → Fires atT T' L (fired ++ F) R) (hk : IsFirst atT Lr k) (hx : Lr[k]? = some x) (hle : x.at_ ≤ T') : ∀ F R, Fires atT T' (Lr.eraseIdx k) F R → Fires atT T' L ((fired ++ [x]) ++ F) R := fun F R h => by
  have := hf _ _ (.step hk hx hle h)
  rw [List.append_assoc]
  exact this
def LGoR (w : World) (B lb T' : Nat) (L : List Tm) (v : Value) (g : Nat) (ov kv : Value) (wr : World) : Prop :=
  ∃ (Lr fired : List Tm) (vr : Value) (k : Int), g = Lr.length ∧ kv = .int .i64 k ∧ FstP Lr k ∧ IsL wr B lb T' Lr vr ∧ (∀ F R, Fires atT T' Lr F R → Fires atT T' L (fired ++ F) R) ∧ fired.length + Lr.length = L.length ∧
    wr.ownsRow w.heap.size 45 2 ov fired.length (fcs fired) ∧ (∀ q, ov.ownBlock = some q → vr.ownBlock ≠ some q) ∧ LStep w lb v vr wr
def LGoPost (w : World) (B lb : Nat) (L : List Tm) (v : Value) (T' : Nat) (e : Ending) (w' : World) : Prop :=
  ∃ (ov v' : Value) (F R : List Tm), e = .returned ov ∧ Fires atT T' L F R ∧ IsL w' B lb T' R v' ∧ w'.ownsRow w.heap.size 45 2 ov F.length (fcs F) ∧ (∀ q, ov.ownBlock = some q → v'.ownBlock ≠ some q) ∧ LStep w lb v v' w'
theorem isl_grown {wo w3 w4 : World} {T' j nf : Nat} {Lr : List Tm} {vr v' ov : Value} {xs : List Value} {ob : Obj} (h0 : IsL w B lb T L v) (_hlr : IsL wo B lb T' Lr vr) (hor : wo.ownsRow w.heap.size 45 2 ov nf xs) (hne : ∀ q, ov.ownBlock = some q → vr.ownBlock ≠ some q) (hst : LStep w lb v vr wo)
    (hl3 : IsL w3 B lb T' (Lr.eraseIdx j) v') (hs3 : LStep wo lb vr v' w3) (hgrow : (w3.alloc ob).grownBy w4 ov.ownBlock) : IsL w4 B lb T' (Lr.eraseIdx j) v' := by
  have hlb := cell_lt h0.t
  have hs1 := hst.1.size
  have hs2 := hs3.1.size
  refine hl3.far fun q hq => far_block hgrow (hl3.own_lt hq).2 fun e => ?_
  have h1 := own_ge hor e
  rcases hq with rfl | hq
  · omega
  · rcases hs3.2 q hq with h2 | h2
    · exact hne q e h2
    · omega
theorem lgo_step {wo w3 w4 : World} {T' j n4 g5 cap5 n5 : Nat} {Lr fired : List Tm} {vr v' ov : Value} {y : Tm} {k : Int} {ob : Obj} (h0 : IsL w B lb T L v) (hlr : IsL wo B lb T' Lr vr) (hy : Lr[j]? = some y) (hfst : IsFirst atT Lr j) (hle : y.at_ ≤ T')
    (hfr : ∀ F R, Fires atT T' Lr F R → Fires atT T' L (fired ++ F) R) (hlen : fired.length + Lr.length = L.length) (hor : wo.ownsRow w.heap.size 45 2 ov fired.length (fcs fired)) (hne : ∀ q, ov.ownBlock = some q → vr.ownBlock ≠ some q) (hst : LStep w lb v vr wo)
    (hl3 : IsL w3 B lb T' (Lr.eraseIdx j) v') (hs3 : LStep wo lb vr v' w3) (hn5 : n5 = fired.length + 1) (hown : w4.ownsRow w.heap.size 45 2 (.slice (some ⟨g5, 0, none⟩) n5 cap5) n5 (fcs fired ++ [.int .i64 y.at_, .int .i64 y.id])) (hgrow : (w3.alloc ob).grownBy w4 ov.ownBlock) (hat : ov.ownBlock = some g5 ∨ g5 = w3.heap.size + 1) (hk : FstP (Lr.eraseIdx j) k) :
    IsL w4 B lb T' (Lr.eraseIdx j) v' ∧ LGoR w B lb T' L v (Lr.eraseIdx j).length (.slice (some ⟨g5, 0, none⟩) n5 cap5) (.int .i64 k) (w4.drewN n4) := by
  subst hn5
  have hlb := cell_lt h0.t
  have hs1 := hst.1.size
  have hs2 := hs3.1.size
  have hap : ∀ q, OwnL lb v' q → ov.ownBlock ≠ some q := fun q hq e => by
    have h1 := own_ge hor e
    rcases hq with rfl | hq
    · omega
    · rcases hs3.2 q hq with h2 | h2
      · exact hne q e h2
      · omega
  have hl4 : IsL w4 B lb T' (Lr.eraseIdx j) v' := hl3.far fun q hq => far_block hgrow (hl3.own_lt hq).2 (hap q hq)
  have hj := (List.getElem?_eq_some_iff.1 hy).1
  have hwt : WT (fun q => ov.ownBlock = some q) w3 w4 := (WT.of_below ((Below.refl _ _).alloc (Nat.le_refl _) ob)).trans (WT.of_grown hgrow (W := fun q => ov.ownBlock = some q) fun q hq => hq) fun q hq => .inl hq
  refine ⟨hl4, Lr.eraseIdx j, fired ++ [y], v', k, rfl, rfl, hk, hl4.far fun _ _ => rfl, first_fires hfr hfst hy hle, ?_, ?_, fun q hq e => ?_, ?_⟩
  · rw [List.length_append, List.length_eraseIdx, if_pos hj]
    simp
    omega
  · rw [List.length_append, fcs_snoc]
    exact own_keep hown fun _ _ => rfl
  · have e5 : g5 = q := by simpa [Value.ownBlock] using hq
    subst e5
    rcases hat with h2 | h2
    · exact hap g5 (.inr e) h2
    · have := (hl3.own_lt (.inr e)).2
      omega
  · have h1 := hst.trans hs3
    exact ⟨(h1.1.trans hwt fun q hq => .inr (own_ge hor hq).1).draws n4, h1.2⟩
set_option maxRecDepth 100000 in
set_option maxHeartbeats 16000000 in
theorem lgo_any (h : IsL w B lb T L v) (hgt : ∀ x, x ∈ L → T < x.at_) (hT : T ≤ MT) (hL : L.length ≤ 8796093022208) (hB : B ≤ w.heap.size) (a : Int) :
    Calls Try.prog 27 #[pt lb 0, .int .i64 a] w (LGoPost w B lb L v (tkF T a)) := by
  obtain ⟨iF, hiF, hzF, hzF1, hzF2⟩ := info_parts infoF
  obtain ⟨T', hT'⟩ : ∃ T', T' = tkF T a := ⟨_, rfl⟩
  rw [← hT']
  obtain ⟨t, ht⟩ : ∃ t, min a 1099511627776 = t := ⟨_, rfl⟩
  have HTK : Hid (T' = max T t.toNat) := by
    show T' = _
    rw [hT', tkF, ← ht]
    rfl
  have c1 := h.t
  have f1 := h.ft
  have H := Lib.hid h
  have HLL := Lib.hid hL
  have HGT := Lib.hid hgt
  unfold MT at hT
  clear h hL hgt hT'
  by_cases hle : t ≤ T
  · have HE : Hid (T' = T) := by show T' = T; rw [HTK.out]; omega
    clear HTK
    go_enter Try.func27, Try.ntmps27
    go_wp2_with fail
    go_ret
    rw [HE.out]
    exact ⟨_, v, [], L, rfl, .done HGT.out, H.out, World.ownsRow_nil _ _ _ _, (fun q hq => by simp [Value.ownBlock] at hq), LStep.refl _ _ _⟩
  · have hlt : (T : Int) < t := by omega
    have hltd : decide (t ≤ (T : Int)) = false := decide_eq_false (by omega)
    have HE : Hid ((T' : Int) = t) := by show (T' : Int) = t; rw [HTK.out]; omega
    clear HTK hle
    obtain ⟨hs1, hs2⟩ := H.out.setT T'
    rw [HE.out] at hs1 hs2
    have HS1 := Lib.hid hs1
    have HS2 := Lib.hid hs2
    clear hs1 hs2
    go_enter Try.func27, Try.ntmps27
    simp only [Go.undef]
    go_upto_region 6 with fail
    obtain ⟨w1, hw1⟩ : ∃ w1, w1 = w.setCell ⟨lb, 0, none⟩ (.int .i64 t) := ⟨_, rfl⟩
    rw [← hw1] at HS1 HS2 ⊢
    have HFI := Lib.hid (lfirst_any HS1.out HLL.out)
    clear hw1 ht
    go_wp2_with fail
    refine HFI.out.mono ?_
    rintro e w2 ⟨k0, n2, rfl, hk0, rfl⟩
    have HK0 := Lib.hid hk0
    clear hk0 HFI c1 f1
    go_upto_region 7 with fail
    have HREL : Hid (LGoR w B lb T' L v L.length (.slice none 0 0) (.int .i64 k0) (w1.drewN n2)) := ⟨L, [], v, k0, rfl, rfl, HK0.out, HS1.out.far fun _ _ => rfl, fun F R h => h, by simp, World.ownsRow_nil _ _ _ _, (fun q hq => by simp [Value.ownBlock] at hq), HS2.out.trans (LStep.drewN _ _ _ _)⟩
    clear HK0
    go_loopg [5, 6] L.length (fun g ov kv wr => LGoR w B lb T' L v g ov kv wr)
    case atStart => exact HREL.out
    case round =>
      obtain ⟨Lr, fired, vr, k, hgk, rfl, hk, hlr, hfr, hlen, hor, hne, hst⟩ := hrel
      have HLR := Lib.hid hlr
      have HFR := Lib.hid hfr
      have HLEN := Lib.hid hlen
      have HOR := Lib.hid hor
      have HNE := Lib.hid hne
      have HST := Lib.hid hst
      have HGK := Lib.hid hgk
      have c1 := hlr.l
      obtain ⟨ov, rfl⟩ : ∃ ov, ov = u5 := ⟨_, rfl⟩
      rcases fst_least hk with ⟨h1, h2⟩ | ⟨j, x, rfl, hx, hfst, hle⟩
      · have hb : decide ((0 : Int) ≤ k) = false := decide_eq_false (by omega)
        have hd := HFR.out [] Lr (.done fun y hy => by rw [h1] at hy; cases hy)
        rw [List.append_nil] at hd
        have HD := Lib.hid hd
        clear hk h1 hlr hfr hlen hor hne hst hgk hd
        go_wp2_with fail
        go_ret
        exact ⟨ov, vr, fired, Lr, rfl, HD.out, HLR.out, HOR.out, HNE.out, HST.out⟩
      · have hj := (List.getElem?_eq_some_iff.1 hx).1
        obtain ⟨g, o, c, y, rfl, hy, d1, d2, hc1, hc2⟩ := hlr.at_ hj
        have e : y = x := by have := hy.symm.trans hx; injection this
        subst e
        have HX := Lib.hid hx
        have HFST := Lib.hid hfst
        have HLE := Lib.hid hle
        have hb : decide ((0 : Int) ≤ (j : Int)) = true := decide_eq_true (by omega)
        have hj1 : (j : Int) < (Lr.length : Int) := by omega
        clear hk hlr hfr hlen hor hne hst hgk hx hfst hle hy d2
        by_cases hfire : y.at_ ≤ T'
        · have hb2 : decide ((y.at_ : Int) ≤ t) = true := decide_eq_true (by have := HE.out; omega)
          have hLr : Lr.length ≤ L.length := by have := HLEN.out; omega
          have HOUT := Lib.hid (lout_any HLR.out j y HX.out (by have := HLL.out; omega) (by have := HST.out.1.size; omega))
          have HFIRE := Lib.hid hfire
          clear hfire
          go_wp2_with fail
          refine HOUT.out.mono ?_
          rintro e w3 ⟨v', rfl, hl3, hs3⟩
          have hor3 := own_keep HOR.out (w' := w3) fun q hq => hs3.1.far q (own_ge HOR.out hq).2 fun ho => by
            rcases ho with rfl | ho
            · have := (own_ge HOR.out hq).1
              have := cell_lt H.out.t
              omega
            · exact HNE.out q hq ho
          have HL3 := Lib.hid hl3
          have HS3 := Lib.hid hs3
          have HOR3 := Lib.hid hor3
          have hsz : w.heap.size ≤ w3.heap.size := Nat.le_trans HST.out.1.size hs3.1.size
          have HQ : Hid (fired.length + 1 ≤ maxLen ∧ (fired.length + 1) * 16 ≤ 140737488355328) := by show _ ∧ _; have := HLL.out; have := HLEN.out; unfold maxLen; omega
          clear hl3 hs3 hor3 HOUT c1 d1
          go_wp2_with (at_builtin; refine wpList_append_lies _ rfl _ _ 26 rfl w.heap.size 45 iF _ 2 16 Try.underlying26 hiF hzF hzF1 hzF2 rfl (by decide) ov fired.length (fcs fired) rfl (HOR3.out.alloc _) ⟨w3.heap.size, 0, none⟩ 1 1 [.int .i64 y.at_, .int .i64 y.id] rfl rfl (World.news_of_block (cs := #[.int .i64 y.at_, .int .i64 y.id]) (t := 45) (fr := (0, 0)) (heap_alloc_new w3 _)) (by simp [Value.oneCell']) Nat.one_pos HQ.out.1 HQ.out.2 (by simp; omega) (w3.heap.size + 1) (by simp) ?_
                       intro g5 cap5 w4 hown4 hgrow hat5 hlt5
                       have HOWN4 := Lib.hid hown4
                       have HGRW := Lib.hid hgrow
                       have HAT5 := Lib.hid hat5
                       have HL4 : Hid (IsL w4 B lb T' (Lr.eraseIdx j) v') := isl_grown H.out HLR.out HOR.out HNE.out HST.out HL3.out HS3.out hgrow
                       clear hown4 hgrow hat5 hlt5)
          have HFN := Lib.hid (lfirst_any HL4.out (by have := HLL.out; rw [List.length_eraseIdx]; split <;> omega))
          go_wp2_with fail
          refine HFN.out.mono ?_
          rintro e w5 ⟨k5, n5, rfl, hk5, rfl⟩
          have HR5 := Lib.hid (lgo_step (n4 := n5) H.out HLR.out HX.out HFST.out HFIRE.out HFR.out HLEN.out HOR.out HNE.out HST.out HL3.out HS3.out rfl HOWN4.out HGRW.out HAT5.out hk5).2
          clear hk5 HFN
          go_wp2_with fail
          go_roundg ((Lr.eraseIdx j).length)
          case measure => have := HGK.out; rw [List.length_eraseIdx, if_pos hj]; omega
          case rel => exact HR5.out
        · have hb2 : decide ((y.at_ : Int) ≤ t) = false := decide_eq_false (by have := HE.out; omega)
          have hd := HFR.out [] Lr (.done fun z hz => by have := HLE.out.2 z hz; show T' < z.at_; omega)
          rw [List.append_nil] at hd
          have HD := Lib.hid hd
          clear hd hfire
          go_wp2_with fail
          go_ret
          exact ⟨ov, _, fired, Lr, rfl, HD.out, HLR.out, HOR.out, HNE.out, HST.out⟩
end
end Go.Proofs.Ytcgchccppoignaa
