/- AcksWhole: the walk. -/
import Derived.Test.YtmdcfmdjbncaoaaDoorCwn
namespace Go.Proofs.YtmdcfmdjbncaoaaDoor
open Go.RowKit
attribute [local go_sem ↓] Go.wp_at_zero Go.wp_at_succ
attribute [local go_sem] Go.undef

/-- A turn of the script. -/
structure TnX where
  kind : Int
  m : MX
  id : Int
def IsT (w : World) (S : Nat → Prop) (t : TnX) (cs : List Value) : Prop := ∃ ms, IsM w S t.m ms ∧ cs = .int .i64 t.kind :: (ms ++ [.int .i64 t.id])
theorem sizeT : (Tryd.prog.info? 77).map (·.size) = some 15 := by kernel_rfl
theorem WM.tAt {w : World} {B : Nat} {ids times last ends : List Int} {sv tv av ev : Value} {css : List (List Value)} (h : WM w B ids times last ends sv tv av ev css) {N k : Nat} {x : Int} (hN : times.length = N) (hx : times[k]? = some x) :
    ∃ g c, tv = .slice (some ⟨g, 0, none⟩) N c ∧ w.cell? ⟨g, k, none⟩ = some (.int .i64 x) ∧ w.frozen? ⟨g, k, none⟩ = false ∧ N ≤ c ∧ c ≤ maxLen := by
  subst hN
  have hk := (List.getElem?_eq_some_iff.1 hx).1
  obtain ⟨g, c, rfl, hc, h1, h2⟩ := own_at h.t hk
  exact ⟨g, c, rfl, by rw [hc, List.getElem?_map, hx]; rfl, h.t.frozenAt k, h1, h2⟩
theorem WM.aAt {w : World} {B : Nat} {ids times last ends : List Int} {sv tv av ev : Value} {css : List (List Value)} (h : WM w B ids times last ends sv tv av ev css) {N k : Nat} {x : Int} (hN : last.length = N) (hx : last[k]? = some x) :
    ∃ g c, av = .slice (some ⟨g, 0, none⟩) N c ∧ w.cell? ⟨g, k, none⟩ = some (.int .i64 x) ∧ w.frozen? ⟨g, k, none⟩ = false ∧ N ≤ c ∧ c ≤ maxLen := by
  subst hN
  have hk := (List.getElem?_eq_some_iff.1 hx).1
  obtain ⟨g, c, rfl, hc, h1, h2⟩ := own_at h.a hk
  exact ⟨g, c, rfl, by rw [hc, List.getElem?_map, hx]; rfl, h.a.frozenAt k, h1, h2⟩
theorem WM.eAt {w : World} {B : Nat} {ids times last ends : List Int} {sv tv av ev : Value} {css : List (List Value)} (h : WM w B ids times last ends sv tv av ev css) {N k : Nat} {x : Int} (hN : ends.length = N) (hx : ends[k]? = some x) :
    ∃ g c, ev = .slice (some ⟨g, 0, none⟩) N c ∧ w.cell? ⟨g, k, none⟩ = some (.int .i64 x) ∧ w.frozen? ⟨g, k, none⟩ = false ∧ N ≤ c ∧ c ≤ maxLen := by
  subst hN
  have hk := (List.getElem?_eq_some_iff.1 hx).1
  obtain ⟨g, c, rfl, hc, h1, h2⟩ := own_at h.e hk
  exact ⟨g, c, rfl, by rw [hc, List.getElem?_map, hx]; rfl, h.e.frozenAt k, h1, h2⟩
theorem WM.setT' {w : World} {B : Nat} {ids times last ends : List Int} {sv av ev : Value} {css : List (List Value)} {g N c k : Nat} {u : Int} (h : WM w B ids times last ends sv (.slice (some ⟨g, 0, none⟩) N c) av ev css) (hN : times.length = N) : WM (w.setCell ⟨g, k, none⟩ (.int .i64 u)) B ids (times.set k u) last ends sv (.slice (some ⟨g, 0, none⟩) N c) av ev css := by
  subst hN; exact h.setT
theorem WM.setA' {w : World} {B : Nat} {ids times last ends : List Int} {sv tv ev : Value} {css : List (List Value)} {g N c k : Nat} {u : Int} (h : WM w B ids times last ends sv tv (.slice (some ⟨g, 0, none⟩) N c) ev css) (hN : last.length = N) : WM (w.setCell ⟨g, k, none⟩ (.int .i64 u)) B ids times (last.set k u) ends sv tv (.slice (some ⟨g, 0, none⟩) N c) ev css := by
  subst hN; exact h.setA
theorem WM.setE' {w : World} {B : Nat} {ids times last ends : List Int} {sv tv av : Value} {css : List (List Value)} {g N c k : Nat} {u : Int} (h : WM w B ids times last ends sv tv av (.slice (some ⟨g, 0, none⟩) N c) css) (hN : ends.length = N) : WM (w.setCell ⟨g, k, none⟩ (.int .i64 u)) B ids times last (ends.set k u) sv tv av (.slice (some ⟨g, 0, none⟩) N c) css := by
  subst hN; exact h.setE
theorem idsOf_snoc {A : List MX} {j : Nat} {m : MX} (h : A[j]? = some m) : idsOf (A.take (j + 1)) = idsOf (A.take j) ++ [m.id] := by
  rw [← take_snoc h, idsOf, List.map_append]; rfl

/-- Between two ticks. -/
def WhI (w1 : World) (p : PX) (lv sv tv av ev iv : Value) (wr : World) : Prop :=
  ∃ (now : Nat) (l : List SX) (ids times last ends : List Int) (css : List (List Value)) (a : Option Addr) (c : Nat) (S : Nat → Prop), iv = .int .i64 now ∧ now ≤ 260 ∧ lv = .slice a l.length c ∧ Whole p now l ids times last ends ∧ ids.length ≤ now ∧ ids.length ≤ 40 ∧ WM wr w1.heap.size ids times last ends sv tv av ev css ∧
    RS wr S l a l.length c ∧ (∀ b, S b → b < wr.heap.size ∧ sv.ownBlock ≠ some b ∧ tv.ownBlock ≠ some b ∧ av.ownBlock ≠ some b ∧ ev.ownBlock ≠ some b) ∧ Below w1.heap.size w1 wr
/-- What is sent again. -/
def AgI (w1 w4 : World) (lo : Nat) (A : List MX) (ids times last ends : List Int) (now : Int) (sv tv av ev : Value) (css : List (List Value)) (i : Value) (wr : World) : Prop :=
  ∃ j : Nat, i = .int .i64 j ∧ j ≤ A.length ∧ WM wr w1.heap.size ids (mark (fun t => t + 1) (idsOf (A.take j)) ids times) (mark (fun _ => now) (idsOf (A.take j)) ids last) ends sv tv av ev css ∧ (∀ b, lo ≤ b → wr.heap[b]? = w4.heap[b]?) ∧ wr.heap.size = w4.heap.size ∧ Below w1.heap.size w1 wr
/-- What ends. -/
def EnI (w1 w4 : World) (lo : Nat) (A : List MX) (ids times last ends : List Int) (v : Int) (sv tv av ev : Value) (css : List (List Value)) (i : Value) (wr : World) : Prop :=
  ∃ j : Nat, i = .int .i64 j ∧ j ≤ A.length ∧ WM wr w1.heap.size ids times last (mark (fun _ => v) (idsOf (A.take j)) ids ends) sv tv av ev css ∧ (∀ b, lo ≤ b → wr.heap[b]? = w4.heap[b]?) ∧ wr.heap.size = w4.heap.size ∧ Below w1.heap.size w1 wr

set_option maxHeartbeats 16000000 in
set_option maxRecDepth 100000 in
theorem awhole_go (p : PX) (ts : List TnX) (a0 : Option Addr) (n0 c0 : Nat) (w : World) (hrow : RowsOf (IsT w (· < w.heap.size)) 15 w (· < w.heap.size) ts a0 n0 c0) (hT : Tabs w) :
    Calls Tryd.prog 8 #[.agg #[.int .i64 p.tries, .int .i64 p.base, .int .i64 p.most], .slice a0 n0 c0] w fun e w' => e = .returned (.bool true) ∧ Below w.heap.size w w' := by
  obtain ⟨iM, hiM, hzM, hzM1, hzM2⟩ := info_parts infoM
  obtain ⟨iI, hiI, hzI, hzI1, hzI2⟩ := info_parts infoI
  obtain ⟨iN, hiN, hzN, hzN1, hzN2⟩ := info_parts infoN
  have hcl0 : c0 ≤ maxLen := hrow.2.2.1
  have hlc0 : n0 ≤ c0 := hrow.2.1
  obtain rfl : n0 = ts.length := hrow.1
  unfold maxLen at hcl0
  obtain ⟨W, hWd⟩ : ∃ W, W = w.alloc (.cells #[.int .i64 p.tries, .int .i64 p.base, .int .i64 p.most] 52) := ⟨_, rfl⟩
  have hW : Below w.heap.size w W := by rw [hWd]; go_grown
  have hs0 : w.heap.size + 1 ≤ W.heap.size := by rw [hWd]; simp
  have B5 : Hid (Blk W w.heap.size 52 #[.int .i64 p.tries, .int .i64 p.base, .int .i64 p.most]) := by show Blk _ _ _ _; rw [hWd]; exact Blk.new _ _ _
  have HROW := Lib.hid hrow
  have HTB := Lib.hid hT
  have T : Hid (Below w.heap.size w W) := hW
  have HWD := Lib.hid hWd
  clear hrow hT hW hWd
  go_enter Tryd.func8, Tryd.ntmps8
  go_upto_region 1 with fail
  show Code.wp _ _ _ _ (w.alloc (.cells #[.int .i64 p.tries, .int .i64 p.base, .int .i64 p.most] 52))
  rw [← HWD.out]
  clear HWD
  have HF := Lib.hid (fitpol_any p W)
  go_wp2_with (refine wpList_load_blk rfl 52 _ rfl (w.heap.size) 0 (by as_aux_lemma => rfl) [.int .i64 p.tries, .int .i64 p.base, .int .i64 p.most] _ (Blk.range (pre := []) (post := []) B5.out rfl) Tryd.underlying52 rfl sizeP ?_)
  refine HF.out.mono ?_
  rintro e w1 ⟨fb, rfl, hfb, hb1⟩
  clear HF
  replace hs0 := Nat.le_trans hs0 hb1.size
  replace B5 := Lib.hid (Blk.on B5.out hb1)
  replace T := Lib.hid (below_on hb1 T.out)
  clear hb1
  cases fb with
  | false =>
    clear hfb
    go_wp2_with fail
    refine (awakek_any _).mono ?_
    rintro e w2 ⟨rfl, hb2⟩
    replace T := Lib.hid (below_on hb2 T.out)
    clear hb2
    go_wp2_with fail
    go_ret
    exact ⟨rfl, T.out⟩
  | true =>
  have HP := Lib.hid (hfb rfl)
  have p2 := Blk.cell B5.out 2
  by_cases hm : 40 < p.most
  · clear hfb
    go_wp2_with fail
    refine (awakek_any _).mono ?_
    rintro e w2 ⟨rfl, hb2⟩
    replace T := Lib.hid (below_on hb2 T.out)
    clear hb2
    go_wp2_with fail
    go_ret
    exact ⟨rfl, T.out⟩
  clear hfb
  go_upto_region 9 with fail
  clear p2 hm
  have HSC : Hid (RowsOf (IsT w1 (· < w.heap.size)) 15 w1 (· < w.heap.size) ts a0 ts.length c0) := RowsOf.under HROW.out (fun _ _ _ ⟨ms, h1, h2⟩ => ⟨ms, h1.under T.out (fun _ h => h), h2⟩) T.out (fun _ h => h)
  have HTB1 : Hid (Tabs w1) := HTB.out.on T.out
  clear HROW HTB
  go_loopw [5, 6, 7, 8, 9, 10] (WhI w1 p) (fun _ _ _ _ _ i _ => 260 - (intOf i).toNat)
  case atStart => exact ⟨0, [], [], [], [], [], [], none, 0, fun _ => False, rfl, by omega, rfl, Whole.nil p, Nat.le_refl _, by simp, WM.nil _ _, RowsOf.nil none 0 (Nat.zero_le _), fun b h => h.elim, Below.refl _ _⟩
  case round =>
    obtain ⟨now, l, ids, times, last, ends, css, a, c, S, rfl, hnow, rfl, hwh, hi1, hi2, hwm, hrs, hS, hbel⟩ := hrel
    have HWH := Lib.hid hwh
    have HWM := Lib.hid hwm
    have HRS := Lib.hid hrs
    have HS := Lib.hid hS
    have TB := Lib.hid hbel
    have hnl := hwh.nl
    have hnt := hwh.nt
    have hna := hwh.na
    have hne := hwh.ne
    have hcl : c ≤ maxLen := hrs.2.2.1
    have hlc : l.length ≤ c := hrs.2.1
    unfold maxLen at hcl
    clear hwh hwm hrs hS hbel
    by_cases hlt : now < 260
    · have hnw1 : (0 : Int) ≤ (now : Int) := by omega
      have hnw2 : (now : Int) < 260 := by omega
      have hsm : smallS l := fun x hx => validT_size (HWH.out.fit x hx).1
      have hst : smallT l := fun x hx => by have h1 := HWH.out.tries x hx; have h2 := HP.out.2.1; exact ⟨by omega, by omega⟩
      have hD := duep_any l p now S a l.length c wr HRS.out (fun b hb => (HS.out b hb).1) hsm hst (by omega) HP.out (by omega) (by omega)
      obtain ⟨X, hX⟩ : ∃ X, X = dueS l p now := ⟨_, rfl⟩
      have hxl := dueS_len l p now
      rw [← hX] at hD hxl
      have HX := Lib.hid hX
      have HD := Lib.hid hD
      have B5r : Hid (Blk wr w.heap.size 52 #[.int .i64 p.tries, .int .i64 p.base, .int .i64 p.most]) := (TB.out.block _ (by omega)).trans B5.out
      obtain ⟨lo, hlo⟩ : ∃ lo, lo = wr.heap.size := ⟨_, rfl⟩
      have hlo1 : lo ≤ wr.heap.size := Nat.le_of_eq hlo
      have hlo2 : wr.heap.size ≤ lo := Nat.le_of_eq hlo.symm
      obtain ⟨hx6, hx7, hx8, hx9⟩ := hxl
      clear hX hD hsm hst
      go_wp2_with (refine wpList_load_blk rfl 52 _ rfl (w.heap.size) 0 (by as_aux_lemma => rfl) [.int .i64 p.tries, .int .i64 p.base, .int .i64 p.most] _ (Blk.range (pre := []) (post := []) B5r.out rfl) Tryd.underlying52 rfl sizeP ?_)
      refine HD.out.mono ?_
      rintro e w4 ⟨a6, c6, a7, c7, a8, c8, a9, c9, rfl, r6, r7, r8, r9, hb4⟩
      rw [← hlo] at r6 r7 r8 r9
      have HR6 := Lib.hid r6
      have HR7 := Lib.hid r7
      have HR8 := Lib.hid r8
      have HR9 := Lib.hid r9
      have hc7 : c7 ≤ maxLen := r7.2.2.1
      have hl7 : X.again.length ≤ c7 := r7.2.1
      have hc8 : c8 ≤ maxLen := r8.2.2.1
      have hl8 : X.dead.length ≤ c8 := r8.2.1
      have hc9 : c9 ≤ maxLen := r9.2.2.1
      have hl9 : X.late.length ≤ c9 := r9.2.1
      unfold maxLen at hc7 hc8 hc9
      have HWM4 := Lib.hid (HWM.out.below hb4)
      have TB4 : Hid (Below w1.heap.size w1 w4) := TB.out.trans (hb4.mono TB.out.size)
      have hl4 : lo ≤ w4.heap.size := Nat.le_trans hlo1 hb4.size
      have HLO : Hid (∀ b, (u6.ownBlock = some b ∨ u7.ownBlock = some b ∨ u8.ownBlock = some b ∨ u9.ownBlock = some b) → w1.heap.size ≤ b ∧ b < lo) := fun b hb => by have := HWM.out.lt hb; exact ⟨this.1, by omega⟩
      have hw1s : w.heap.size + 1 ≤ w1.heap.size := hs0
      clear HD B5r HRS HS TB HWM r6 r7 r8 r9 hb4 hlo
      go_upto_region 14 with fail
      go_loopw [15] (AgI w1 w4 lo X.again ids times last ends now u6 u7 u8 u9 css) (fun i _ => X.again.length - (intOf i).toNat)
      case atStart => exact ⟨0, rfl, Nat.zero_le _, by show WM w4 _ _ (mark _ [] ids times) (mark _ [] ids last) _ _ _ _ _ _; rw [mark_nil _ hnt, mark_nil _ hna]; exact HWM4.out, fun _ _ => rfl, rfl, TB4.out⟩
      case round =>
        obtain ⟨j, rfl, hj, hwm, hfar, hsz, hbel⟩ := hrel
        have HM := Lib.hid hwm
        have HFAR := Lib.hid hfar
        have TBr := Lib.hid hbel
        have hszr := hsz
        clear hwm hfar hbel hsz
        by_cases hltA : j < X.again.length
        · as_aux_lemma =>
          obtain ⟨g, o, m, cs, rfl, hSg, hx, hm, hl, hr⟩ := HR7.out.get hltA
          obtain ⟨k, q, t, hk1, hk2, hk3, hk4, hq1, hq2, heq⟩ := HWH.out.again HP.out (m := m) (by rw [← HX.out]; exact List.mem_of_getElem? hx)
          have hno : m.id ∉ idsOf (X.again.take j) := by have h := HWH.out.onceA j m (by rw [← HX.out]; exact hx); rw [← HX.out] at h; exact h
          obtain ⟨kx, ix, bx, sx, ax, nx, cx, rfl, -, -, -⟩ := hm
          have d0 : wr.cell? ⟨g, o + j * 13, none⟩ = some (.int .i64 m.id) := (World.cell?_of_block (a := ⟨g, o + j * 13, none⟩) (HFAR.out g hSg.1)).trans (hr 0 _ rfl)
          obtain ⟨as_, cs_, rfl, hir⟩ := HM.out.rows
          obtain ⟨ge, ce, rfl, qe, fe, -, -⟩ := HM.out.eAt hne hk2
          obtain ⟨gt, ct, rfl, qt, ft, ht1, ht2⟩ := HM.out.tAt (mark_len hnt) (mark_off (f := fun t => t + 1) hk1 hk3 hno)
          obtain ⟨gl, cl_, rfl, ql, fl, ha1, ha2⟩ := HM.out.aAt (mark_len hna) (mark_off (f := fun _ => (now : Int)) hk1 hk4 hno)
          unfold maxLen at ht2 ha2
          have hp := placei_any ids m.id as_ ids.length cs_ _ wr hir
          rw [placeI_at HWH.out.once hk1] at hp
          have HPL := Lib.hid hp
          have HK1 := Lib.hid hk1
          have HK3 := Lib.hid hk3
          have HK4 := Lib.hid hk4
          have HNO := Lib.hid hno
          have HXJ := Lib.hid hx
          have hkl : k < ids.length := (List.getElem?_eq_some_iff.1 hk1).1
          have hki0 : (0 : Int) ≤ (k : Int) := by omega
          have hki1 : (k : Int) < (ids.length : Int) := by omega
          have hkn : ¬ (k : Int) < 0 := by omega
          have hj0 : (0 : Int) ≤ (j : Int) := by omega
          have hj1 : (j : Int) < (X.again.length : Int) := by omega
          have HEQ := Lib.hid heq
          have hwt := wait_pos HP.out (q - 1)
          have hgl : w1.heap.size ≤ gl ∧ gl < lo := HLO.out gl (.inr (.inr (.inl rfl)))
          have hgt : w1.heap.size ≤ gt ∧ gt < lo := HLO.out gt (.inr (.inl rfl))
          clear hp hx hr hl hSg hir hk1 hk2 hk3 hk4 hno
          go_wp2_with fail
          refine HPL.out.mono ?_
          rintro e wz ⟨rfl, rfl⟩
          clear HPL d0
          have hw17a : IntKind.i64.wrap ((now : Int) - t) = (now : Int) - t := by rw [IntKind.wrap_i64]; omega
          have hw17b : IntKind.i64.wrap (q - 1) = q - 1 := by rw [IntKind.wrap_i64]; omega
          have hb17 : (((now : Int) - t) != waitF (q - 1) p.base p.most) = false := by rw [heq]; exact bne_self_eq_false _
          clear heq
          have B5s : Hid (Blk wr w.heap.size 52 #[.int .i64 p.tries, .int .i64 p.base, .int .i64 p.most]) := (TBr.out.block _ (by omega)).trans B5.out
          have p1 := Blk.cell B5s.out 1
          have p2 := Blk.cell B5s.out 2
          go_upto_region 17 with fail
          go_region_held3 (fun w' => w'.cell? ⟨ge, k, none⟩ = some (.int .i64 0) ∧ w'.cell? ⟨gl, k, none⟩ = some (.int .i64 t) ∧ w'.cell? ⟨gt, k, none⟩ = some (.int .i64 q) ∧ w'.cell? ⟨w.heap.size, 1, none⟩ = some (.int .i64 p.base) ∧ w'.cell? ⟨w.heap.size, 2, none⟩ = some (.int .i64 p.most))
            (first | (exact ⟨qe, ql, qt, p1, p2⟩))
            (first | (go_at_call 36; refine (rwait_any (q - 1) p.base p.most _ (by omega) (by have h := HP.out; unfold FitP at h; omega) (by have h := HP.out; unfold FitP at h; omega)).mono ?_; rintro e wz ⟨rfl, rfl⟩))
          obtain ⟨w5, hw5⟩ : ∃ w5, w5 = wr.drew := ⟨_, rfl⟩
          have hm5 := HM.out.keep (w' := w5) (fun _ _ => by rw [hw5]; rfl)
          have qt5 : w5.cell? ⟨gt, k, none⟩ = some (.int .i64 q) := by rw [hw5]; exact qt
          have ft5 : w5.frozen? ⟨gt, k, none⟩ = false := by rw [hw5]; exact ft
          have hfar5 : ∀ b, lo ≤ b → w5.heap[b]? = w4.heap[b]? := by rw [hw5]; exact HFAR.out
          have hsz5 : w5.heap.size = w4.heap.size := by rw [hw5]; exact hszr
          have tb5 : Below w1.heap.size w1 w5 := by rw [hw5]; exact TBr.out.drew
          rw [← hw5]
          have HM5 := Lib.hid hm5
          have HFAR5 := Lib.hid hfar5
          have TB5 := Lib.hid tb5
          have hw19 : IntKind.i64.wrap (q + 1) = q + 1 := by rw [IntKind.wrap_i64]; omega
          clear hw5 hm5 hfar5 tb5 HM HFAR TBr hszr qt ft ql fl qe fe p1 p2 B5s hw17a hw17b
          go_upto_region 20 with fail
          clear hb17
          obtain ⟨w6, hw6⟩ : ∃ w6, w6 = w5.setCell ⟨gt, k, none⟩ (.int .i64 (q + 1)) := ⟨_, rfl⟩
          rw [← hw6]
          have hm6 := HM5.out.setT' (k := k) (u := q + 1) (mark_len hnt)
          rw [← hw6, mark_step HWH.out.once HK1.out HK3.out HNO.out] at hm6
          obtain ⟨g', c', e', ql6, fl6, -, -⟩ := hm6.aAt (mark_len hna) (mark_off (f := fun _ => (now : Int)) HK1.out HK4.out HNO.out)
          injection e' with e' _ e2
          injection e' with e'
          injection e' with e'
          subst e' e2
          have hm7 := hm6.setA' (k := k) (u := (now : Int)) (mark_len hna)
          rw [mark_step HWH.out.once HK1.out HK4.out HNO.out, ← idsOf_snoc HXJ.out] at hm7
          have HM7 := Lib.hid hm7
          have HF7 : Hid (∀ b, lo ≤ b → (w6.setCell ⟨gl, k, none⟩ (.int .i64 now)).heap[b]? = w4.heap[b]?) := fun b hb => by rw [hw6]; exact (heap_set (p := ⟨gl, k, none⟩) (by show b ≠ gl; omega)).trans ((heap_set (p := ⟨gt, k, none⟩) (by show b ≠ gt; omega)).trans (HFAR5.out b hb))
          have HB7 : Hid (Below w1.heap.size w1 (w6.setCell ⟨gl, k, none⟩ (.int .i64 now))) := by show Below _ _ _; rw [hw6]; exact (TB5.out.setCell hgt.1 _).setCell hgl.1 _
          have hs7 : (w6.setCell ⟨gl, k, none⟩ (.int .i64 now)).heap.size = w4.heap.size := by rw [hw6]; simpa using hsz5
          clear hm6 hm7 hw6 HM5 HFAR5 TB5 hsz5 qt5 ft5 hw19
          go_wp2_with fail
          go_roundw
          case rel => first | exact ⟨j + 1, by go_num, by omega, HM7.out, HF7.out, hs7, HB7.out⟩ | ((repeat apply Exists.intro); exact ⟨⟨j + 1, by go_num, by omega, HM7.out, HF7.out, hs7, HB7.out⟩, by first | rfl | exact ⟨rfl, rfl⟩ | exact ⟨rfl, rfl, rfl⟩ | exact ⟨rfl, rfl, rfl, rfl⟩ | exact ⟨rfl, rfl, rfl, rfl, rfl⟩⟩)
          case measure => simp [intOf]; omega
        · as_aux_lemma =>
          obtain rfl : j = X.again.length := by omega
          obtain ⟨times2, htm⟩ : ∃ times2, times2 = mark (fun t => t + 1) (idsOf X.again) ids times := ⟨_, rfl⟩
          obtain ⟨last2, hla⟩ : ∃ last2, last2 = mark (fun _ => (now : Int)) (idsOf X.again) ids last := ⟨_, rfl⟩
          have hm2 := HM.out
          rw [List.take_length, ← htm, ← hla] at hm2
          have HM2 := Lib.hid hm2
          have HT2 := Lib.hid htm
          have HL2 := Lib.hid hla
          have hnt2 : times2.length = ids.length := by rw [htm]; exact mark_len hnt
          have hna2 : last2.length = ids.length := by rw [hla]; exact mark_len hna
          have HFAR2 := HFAR
          have TB2 := TBr
          have hsz2 := hszr
          clear hm2 htm hla HM HFAR TBr hszr HWM4 TB4 hj
          go_upto_region 22 with fail
          go_loopw [17] (EnI w1 w4 lo X.dead ids times2 last2 ends 1 u6 u7 u8 u9 css) (fun i _ => X.dead.length - (intOf i).toNat)
          case atStart => exact ⟨0, rfl, Nat.zero_le _, by show WM _ _ _ _ _ (mark _ [] ids ends) _ _ _ _ _; rw [mark_nil _ hne]; exact HM2.out, HFAR2.out, hsz2, TB2.out⟩
          case round =>
            obtain ⟨j, rfl, hj, hwm, hfar, hsz, hbel⟩ := hrel
            have HM := Lib.hid hwm
            have HFAR := Lib.hid hfar
            have TBr := Lib.hid hbel
            have hszr := hsz
            clear hwm hfar hbel hsz
            by_cases hltA : j < X.dead.length
            · as_aux_lemma =>
              obtain ⟨g, o, m, cs, rfl, hSg, hx, hm, hl, hr⟩ := HR8.out.get hltA
              have hmem : m ∈ (dueS l p now).dead := by rw [← HX.out]; exact List.mem_of_getElem? hx
              obtain ⟨k, hk1, hk2, hk3⟩ := HWH.out.dead hmem
              have hna3 := HWH.out.not_ad hmem
              rw [← HX.out] at hna3
              have hno : m.id ∉ idsOf (X.dead.take j) := by have h := HWH.out.onceD j m (by rw [← HX.out]; exact hx); rw [← HX.out] at h; exact h
              obtain ⟨kx, ix, bx, sx, ax, nx, cx, rfl, -, -, -⟩ := hm
              have d0 : wr.cell? ⟨g, o + j * 13, none⟩ = some (.int .i64 m.id) := (World.cell?_of_block (a := ⟨g, o + j * 13, none⟩) (HFAR.out g hSg.1)).trans (hr 0 _ rfl)
              have d8 : wr.cell? ⟨g, o + j * 13 + 8, none⟩ = some (.int .i64 m.til) := (World.cell?_of_block (a := ⟨g, o + j * 13 + 8, none⟩) (HFAR.out g hSg.1)).trans (hr 8 _ rfl)
              obtain ⟨as_, cs_, rfl, hir⟩ := HM.out.rows
              obtain ⟨ge, ce, rfl, qe, fe, hce1, hce2⟩ := HM.out.eAt (mark_len hne) (mark_off (f := fun _ => 1) hk1 hk2 hno)
              obtain ⟨gt, ct, rfl, qt, -, ht1, ht2⟩ := HM.out.tAt hnt2 (by rw [HT2.out]; exact mark_off (f := fun t => t + 1) hk1 hk3 hna3)
              have p0 : wr.cell? ⟨w.heap.size, 0, none⟩ = some (.int .i64 p.tries) := (World.cell?_of_block (a := ⟨w.heap.size, 0, none⟩) (TBr.out.block _ (show w.heap.size < w1.heap.size by omega))).trans (Blk.cell B5.out 0)
              unfold maxLen at ht2
              clear hk3 hna3
              unfold maxLen at hce2
              have hp := placei_any ids m.id as_ ids.length cs_ _ wr hir
              rw [placeI_at HWH.out.once hk1] at hp
              have HPL := Lib.hid hp
              have HK1 := Lib.hid hk1
              have HK2 := Lib.hid hk2
              have HNO := Lib.hid hno
              have HXJ := Lib.hid hx
              have hkl : k < ids.length := (List.getElem?_eq_some_iff.1 hk1).1
              have hki0 : (0 : Int) ≤ (k : Int) := by omega
              have hki1 : (k : Int) < (ids.length : Int) := by omega
              have hkn : ¬ (k : Int) < 0 := by omega
              have hj0 : (0 : Int) ≤ (j : Int) := by omega
              have hj1 : (j : Int) < (X.dead.length : Int) := by omega
              have hge : w1.heap.size ≤ ge ∧ ge < lo := HLO.out ge (.inr (.inr (.inr rfl)))
              clear hp hx hr hl hSg hir hk1 hk2 hno hmem
              go_wp2_with fail
              refine HPL.out.mono ?_
              rintro e wz ⟨rfl, rfl⟩
              clear HPL d0
              go_upto_region 25 with fail
              go_region_held3 (fun w' => w'.cell? ⟨ge, k, none⟩ = some (.int .i64 0) ∧ w'.cell? ⟨gt, k, none⟩ = some (.int .i64 p.tries) ∧ w'.cell? ⟨w.heap.size, 0, none⟩ = some (.int .i64 p.tries))
                (first | (exact ⟨qe, qt, p0⟩))
                (fail)
              obtain ⟨w5, hw5⟩ : ∃ w5, w5 = wr.drew := ⟨_, rfl⟩
              have hm5 := HM.out.keep (w' := w5) (fun _ _ => by rw [hw5]; rfl)
              have qe5 : w5.cell? ⟨ge, k, none⟩ = some (.int .i64 0) := by rw [hw5]; exact qe
              have fe5 : w5.frozen? ⟨ge, k, none⟩ = false := by rw [hw5]; exact fe
              have hfar5 : ∀ b, lo ≤ b → w5.heap[b]? = w4.heap[b]? := by rw [hw5]; exact HFAR.out
              have hsz5 : w5.heap.size = w4.heap.size := by rw [hw5]; exact hszr
              have tb5 : Below w1.heap.size w1 w5 := by rw [hw5]; exact TBr.out.drew
              rw [← hw5]
              have hm7 := hm5.setE' (k := k) (u := 1) (mark_len hne)
              rw [mark_step HWH.out.once HK1.out HK2.out HNO.out, ← idsOf_snoc HXJ.out] at hm7
              have HM7 := Lib.hid hm7
              have HF7 : Hid (∀ b, lo ≤ b → (w5.setCell ⟨ge, k, none⟩ (.int .i64 1)).heap[b]? = w4.heap[b]?) := fun b hb => (heap_set (p := ⟨ge, k, none⟩) (by show b ≠ ge; omega)).trans (hfar5 b hb)
              have HB7 : Hid (Below w1.heap.size w1 (w5.setCell ⟨ge, k, none⟩ (.int .i64 1))) := tb5.setCell hge.1 _
              have hs7 : (w5.setCell ⟨ge, k, none⟩ (.int .i64 1)).heap.size = w4.heap.size := by simpa using hsz5
              clear hw5 hm5 hm7 hfar5 tb5 HM HFAR TBr hszr qe fe hsz5 d8 qt p0
              go_wp2_with fail
              go_roundw
              case rel => first | exact ⟨j + 1, by go_num, by omega, HM7.out, HF7.out, hs7, HB7.out⟩ | ((repeat apply Exists.intro); exact ⟨⟨j + 1, by go_num, by omega, HM7.out, HF7.out, hs7, HB7.out⟩, by first | rfl | exact ⟨rfl, rfl⟩ | exact ⟨rfl, rfl, rfl⟩ | exact ⟨rfl, rfl, rfl, rfl⟩ | exact ⟨rfl, rfl, rfl, rfl, rfl⟩⟩)
              case measure => simp [intOf]; omega
            · as_aux_lemma =>
              obtain rfl : j = X.dead.length := by omega
              obtain ⟨ends2, hen⟩ : ∃ ends2, ends2 = mark (fun _ => 1) (idsOf X.dead) ids ends := ⟨_, rfl⟩
              have hm3 := HM.out
              rw [List.take_length, ← hen] at hm3
              have HM3 := Lib.hid hm3
              have HE2 := Lib.hid hen
              have hne2 : ends2.length = ids.length := by rw [hen]; exact mark_len hne
              have HFAR3 := HFAR
              have TB3 := TBr
              have hsz3 := hszr
              clear hm3 hen HM HFAR TBr hszr HM2 HFAR2 TB2 hsz2 hj
              go_upto_region 29 with fail
              go_loopw [19] (EnI w1 w4 lo X.late ids times2 last2 ends2 2 u6 u7 u8 u9 css) (fun i _ => X.late.length - (intOf i).toNat)
              case atStart => exact ⟨0, rfl, Nat.zero_le _, by show WM _ _ _ _ _ (mark _ [] ids ends2) _ _ _ _ _; rw [mark_nil _ hne2]; exact HM3.out, HFAR3.out, hsz3, TB3.out⟩
              case round =>
                obtain ⟨j, rfl, hj, hwm, hfar, hsz, hbel⟩ := hrel
                have HM := Lib.hid hwm
                have HFAR := Lib.hid hfar
                have TBr := Lib.hid hbel
                have hszr := hsz
                clear hwm hfar hbel hsz
                by_cases hltA : j < X.late.length
                · as_aux_lemma =>
                  obtain ⟨g, o, m, cs, rfl, hSg, hx, hm, hl, hr⟩ := HR9.out.get hltA
                  have hmem : m ∈ (dueS l p now).late := by rw [← HX.out]; exact List.mem_of_getElem? hx
                  obtain ⟨k, hk1, hk0, htl0, htl1⟩ := HWH.out.late hmem
                  have hnd3 := HWH.out.not_dl hmem
                  rw [← HX.out] at hnd3
                  have hk2 : ends2[k]? = some 0 := by rw [HE2.out]; exact mark_off (f := fun _ => 1) hk1 hk0 hnd3
                  have hno : m.id ∉ idsOf (X.late.take j) := by have h := HWH.out.onceL j m (by rw [← HX.out]; exact hx); rw [← HX.out] at h; exact h
                  obtain ⟨kx, ix, bx, sx, ax, nx, cx, rfl, -, -, -⟩ := hm
                  have d0 : wr.cell? ⟨g, o + j * 13, none⟩ = some (.int .i64 m.id) := (World.cell?_of_block (a := ⟨g, o + j * 13, none⟩) (HFAR.out g hSg.1)).trans (hr 0 _ rfl)
                  have d8 : wr.cell? ⟨g, o + j * 13 + 8, none⟩ = some (.int .i64 m.til) := (World.cell?_of_block (a := ⟨g, o + j * 13 + 8, none⟩) (HFAR.out g hSg.1)).trans (hr 8 _ rfl)
                  obtain ⟨as_, cs_, rfl, hir⟩ := HM.out.rows
                  obtain ⟨ge, ce, rfl, qe, fe, hce1, hce2⟩ := HM.out.eAt (mark_len hne2) (mark_off (f := fun _ => 2) hk1 hk2 hno)
                  have hb0 : (m.til == 0) = false := beq_eq_false_iff_ne.2 htl0
                  have hb1 : ¬ (now : Int) ≤ m.til := by omega
                  clear hk0 hnd3 htl0
                  unfold maxLen at hce2
                  have hp := placei_any ids m.id as_ ids.length cs_ _ wr hir
                  rw [placeI_at HWH.out.once hk1] at hp
                  have HPL := Lib.hid hp
                  have HK1 := Lib.hid hk1
                  have HK2 := Lib.hid hk2
                  have HNO := Lib.hid hno
                  have HXJ := Lib.hid hx
                  have hkl : k < ids.length := (List.getElem?_eq_some_iff.1 hk1).1
                  have hki0 : (0 : Int) ≤ (k : Int) := by omega
                  have hki1 : (k : Int) < (ids.length : Int) := by omega
                  have hkn : ¬ (k : Int) < 0 := by omega
                  have hj0 : (0 : Int) ≤ (j : Int) := by omega
                  have hj1 : (j : Int) < (X.late.length : Int) := by omega
                  have hge : w1.heap.size ≤ ge ∧ ge < lo := HLO.out ge (.inr (.inr (.inr rfl)))
                  clear hp hx hr hl hSg hir hk1 hk2 hno hmem
                  go_wp2_with fail
                  refine HPL.out.mono ?_
                  rintro e wz ⟨rfl, rfl⟩
                  clear HPL d0
                  go_upto_region 32 with fail
                  go_upto_region 34 with fail
                  obtain ⟨w5, hw5⟩ : ∃ w5, w5 = wr := ⟨_, rfl⟩
                  have hm5 := HM.out.keep (w' := w5) (fun _ _ => by rw [hw5])
                  have qe5 : w5.cell? ⟨ge, k, none⟩ = some (.int .i64 0) := by rw [hw5]; exact qe
                  have fe5 : w5.frozen? ⟨ge, k, none⟩ = false := by rw [hw5]; exact fe
                  have hfar5 : ∀ b, lo ≤ b → w5.heap[b]? = w4.heap[b]? := by rw [hw5]; exact HFAR.out
                  have hsz5 : w5.heap.size = w4.heap.size := by rw [hw5]; exact hszr
                  have tb5 : Below w1.heap.size w1 w5 := by rw [hw5]; exact TBr.out
                  rw [← hw5]
                  have hm7 := hm5.setE' (k := k) (u := 2) (mark_len hne2)
                  rw [mark_step HWH.out.once HK1.out HK2.out HNO.out, ← idsOf_snoc HXJ.out] at hm7
                  have HM7 := Lib.hid hm7
                  have HF7 : Hid (∀ b, lo ≤ b → (w5.setCell ⟨ge, k, none⟩ (.int .i64 2)).heap[b]? = w4.heap[b]?) := fun b hb => (heap_set (p := ⟨ge, k, none⟩) (by show b ≠ ge; omega)).trans (hfar5 b hb)
                  have HB7 : Hid (Below w1.heap.size w1 (w5.setCell ⟨ge, k, none⟩ (.int .i64 2))) := tb5.setCell hge.1 _
                  have hs7 : (w5.setCell ⟨ge, k, none⟩ (.int .i64 2)).heap.size = w4.heap.size := by simpa using hsz5
                  clear hw5 hm5 hm7 hfar5 tb5 HM HFAR TBr hszr qe fe hsz5 d8
                  go_wp2_with fail
                  go_roundw
                  case rel => first | exact ⟨j + 1, by go_num, by omega, HM7.out, HF7.out, hs7, HB7.out⟩ | ((repeat apply Exists.intro); exact ⟨⟨j + 1, by go_num, by omega, HM7.out, HF7.out, hs7, HB7.out⟩, by first | rfl | exact ⟨rfl, rfl⟩ | exact ⟨rfl, rfl, rfl⟩ | exact ⟨rfl, rfl, rfl, rfl⟩ | exact ⟨rfl, rfl, rfl, rfl, rfl⟩⟩)
                  case measure => simp [intOf]; omega
                · as_aux_lemma =>
                  obtain rfl : j = X.late.length := by omega
                  obtain ⟨ends3, he3⟩ : ∃ ends3, ends3 = mark (fun _ => 2) (idsOf X.late) ids ends2 := ⟨_, rfl⟩
                  have hm4 := HM.out
                  rw [List.take_length, ← he3] at hm4
                  have hwt := HWH.out.tick HP.out
                  rw [← HX.out, ← HT2.out, ← HL2.out, ← HE2.out, ← he3] at hwt
                  have hnc : ((now + 1 : Nat) : Int) = (now : Int) + 1 := by omega
                  have HW2 : Hid (Whole p ((now + 1 : Nat) : Int) X.rest ids times2 last2 ends3) := by show Whole _ _ _ _ _ _ _; rw [hnc]; exact hwt
                  have HMZ := Lib.hid hm4
                  have HRZ : Hid (RS wr (Btw lo w4.heap.size) X.rest a6 X.rest.length c6) := RS.stay HR6.out (fun b hb => HFAR.out b hb.1)
                  have HSZ : Hid (∀ b, Btw lo w4.heap.size b → b < wr.heap.size ∧ u6.ownBlock ≠ some b ∧ u7.ownBlock ≠ some b ∧ u8.ownBlock ≠ some b ∧ u9.ownBlock ≠ some b) := fun b hb => by
                    have h1 := hb.1
                    refine ⟨by rw [hszr]; exact hb.2, fun e => ?_, fun e => ?_, fun e => ?_, fun e => ?_⟩
                    · have := (HLO.out b (.inl e)).2; omega
                    · have := (HLO.out b (.inr (.inl e))).2; omega
                    · have := (HLO.out b (.inr (.inr (.inl e)))).2; omega
                    · have := (HLO.out b (.inr (.inr (.inr e)))).2; omega
                  have TZ := TBr
                  have hne3 : ends3.length = ids.length := by rw [he3]; exact mark_len hne2
                  have hc6 : c6 ≤ maxLen := HR6.out.2.2.1
                  have hl6 : X.rest.length ≤ c6 := HR6.out.2.1
                  unfold maxLen at hc6
                  clear hm4 he3 hwt HM HFAR TBr HM3 HFAR3 TB3 hsz3 HLO HR6 HR7 HR8 HR9 HT2 HL2 HE2 HX HWH hj hltA hc7 hl7 hc8 hl8 hc9 hl9
                  by_cases hend : (ts.length : Int) ≤ (now : Int)
                  · go_wp2_with fail
                    go_roundw
                    case rel => first | exact ⟨now + 1, X.rest, ids, times2, last2, ends3, css, a6, c6, Btw lo w4.heap.size, by go_num, by omega, rfl, HW2.out, by omega, hi2, HMZ.out, HRZ.out, HSZ.out, TZ.out⟩ | ((repeat apply Exists.intro); exact ⟨⟨now + 1, X.rest, ids, times2, last2, ends3, css, a6, c6, Btw lo w4.heap.size, by go_num, by omega, rfl, HW2.out, by omega, hi2, HMZ.out, HRZ.out, HSZ.out, TZ.out⟩, by first | rfl | exact ⟨rfl, rfl⟩ | exact ⟨rfl, rfl, rfl⟩ | exact ⟨rfl, rfl, rfl, rfl⟩ | exact ⟨rfl, rfl, rfl, rfl, rfl⟩⟩)
                    case measure => simp [intOf]; omega
                  have hend2 : (now : Int) < (ts.length : Int) := by omega
                  by_cases h40 : (40 : Int) ≤ (now : Int)
                  · go_wp2_with fail
                    go_roundw
                    case rel => first | exact ⟨now + 1, X.rest, ids, times2, last2, ends3, css, a6, c6, Btw lo w4.heap.size, by go_num, by omega, rfl, HW2.out, by omega, hi2, HMZ.out, HRZ.out, HSZ.out, TZ.out⟩ | ((repeat apply Exists.intro); exact ⟨⟨now + 1, X.rest, ids, times2, last2, ends3, css, a6, c6, Btw lo w4.heap.size, by go_num, by omega, rfl, HW2.out, by omega, hi2, HMZ.out, HRZ.out, HSZ.out, TZ.out⟩, by first | rfl | exact ⟨rfl, rfl⟩ | exact ⟨rfl, rfl, rfl⟩ | exact ⟨rfl, rfl, rfl, rfl⟩ | exact ⟨rfl, rfl, rfl, rfl, rfl⟩⟩)
                    case measure => simp [intOf]; omega
                  obtain ⟨gT, oT, tn, csT, rfl, hSg, hxT, ⟨msT, hmT, rfl⟩, hlT, hrT⟩ := HSC.out.get (show now < ts.length by omega)
                  have HMT : Hid (IsM wr (· < w.heap.size) tn.m msT) := hmT.under TZ.out (fun b hb => Nat.lt_of_lt_of_le hb (by omega))
                  obtain ⟨kT, iT, bT, sT, aT, nT, cT, rfl, -, -, -⟩ := hmT
                  have hrT2 : wr.rangeAt gT (oT + now * 15) [.int .i64 tn.kind, .int .i64 tn.m.id, .string tn.m.topic, .int .i64 kT, .int .i64 iT, .int .u64 bT, .string sT, .slice aT nT cT, .int .i64 tn.m.tat, .int .i64 tn.m.til, .string tn.m.reply, .int .i64 tn.m.corr, .int .i64 tn.m.prio, .int .i64 tn.m.hops, .int .i64 tn.id] := rangeAt_keep hrT fun q => TZ.out.cell (p := ⟨gT, q, none⟩) (Nat.lt_of_lt_of_le hSg (show w.heap.size ≤ w1.heap.size by omega))
                  have hnw3 : (now : Int) < 40 := by omega
                  clear hrT hxT hlT hSg
                  clear hszr
                  go_upto_region 36 with fail
                  go_upto_region 37 with (refine wpList_load_blk rfl 77 _ rfl gT (oT + now * 15) (by as_aux_lemma => rfl) [.int .i64 tn.kind, .int .i64 tn.m.id, .string tn.m.topic, .int .i64 kT, .int .i64 iT, .int .u64 bT, .string sT, .slice aT nT cT, .int .i64 tn.m.tat, .int .i64 tn.m.til, .string tn.m.reply, .int .i64 tn.m.corr, .int .i64 tn.m.prio, .int .i64 tn.m.hops, .int .i64 tn.id] _ hrT2 Tryd.underlying77 rfl sizeT ?_)
                  obtain ⟨w7, hw7⟩ : ∃ w7, w7 = wr.alloc (.cells #[.int .i64 tn.kind, .int .i64 tn.m.id, .string tn.m.topic, .int .i64 kT, .int .i64 iT, .int .u64 bT, .string sT, .slice aT nT cT, .int .i64 tn.m.tat, .int .i64 tn.m.til, .string tn.m.reply, .int .i64 tn.m.corr, .int .i64 tn.m.prio, .int .i64 tn.m.hops, .int .i64 tn.id] 77) := ⟨_, rfl⟩
                  rw [← hw7]
                  have bt7 : Blk w7 wr.heap.size 77 #[.int .i64 tn.kind, .int .i64 tn.m.id, .string tn.m.topic, .int .i64 kT, .int .i64 iT, .int .u64 bT, .string sT, .slice aT nT cT, .int .i64 tn.m.tat, .int .i64 tn.m.til, .string tn.m.reply, .int .i64 tn.m.corr, .int .i64 tn.m.prio, .int .i64 tn.m.hops, .int .i64 tn.id] := by rw [hw7]; exact Blk.new _ _ _
                  have hb7 : Below wr.heap.size wr w7 := by rw [hw7]; exact (Below.refl _ _).alloc (Nat.le_refl _) _
                  clear hw7
                  have BT := Lib.hid bt7
                  obtain ⟨gt7, hgt7⟩ : ∃ gt7, gt7 = wr.heap.size := ⟨_, rfl⟩
                  rw [← hgt7] at BT ⊢
                  have hg71 : gt7 ≤ wr.heap.size := Nat.le_of_eq hgt7
                  have hg72 : wr.heap.size ≤ gt7 := Nat.le_of_eq hgt7.symm
                  replace HMT : Hid (IsM w7 (· < w.heap.size) tn.m [.int .i64 tn.m.id, .string tn.m.topic, .int .i64 kT, .int .i64 iT, .int .u64 bT, .string sT, .slice aT nT cT, .int .i64 tn.m.tat, .int .i64 tn.m.til, .string tn.m.reply, .int .i64 tn.m.corr, .int .i64 tn.m.prio, .int .i64 tn.m.hops]) := HMT.out.under (hb7.mono TZ.out.size) (fun b hb => Nat.lt_of_lt_of_le hb (by omega))
                  have hgz := fun (b : Nat) (hb : u6.ownBlock = some b ∨ u7.ownBlock = some b ∨ u8.ownBlock = some b ∨ u9.ownBlock = some b) => (HMZ.out.lt hb).2
                  have hw17 : w1.heap.size ≤ gt7 := by have := TZ.out.size; omega
                  have AF : Hid (AFt w1 w7 gt7 #[.int .i64 tn.kind, .int .i64 tn.m.id, .string tn.m.topic, .int .i64 kT, .int .i64 iT, .int .u64 bT, .string sT, .slice aT nT cT, .int .i64 tn.m.tat, .int .i64 tn.m.til, .string tn.m.reply, .int .i64 tn.m.corr, .int .i64 tn.m.prio, .int .i64 tn.m.hops, .int .i64 tn.id] X.rest a6 c6 (Btw lo w4.heap.size) ids times2 last2 ends3 u6 u7 u8 u9 css) :=
                    { wm := HMZ.out.below hb7
                      rs := RS.under HRZ.out hb7 (fun b hb => (HSZ.out b hb).1)
                      sa := fun b hb => ⟨Nat.lt_of_lt_of_le (HSZ.out b hb).1 hb7.size, (HSZ.out b hb).2⟩
                      be := TZ.out.trans (hb7.mono TZ.out.size)
                      bt := BT.out
                      ga := ⟨fun e => (by have := hgz gt7 (.inl e); omega), fun e => (by have := hgz gt7 (.inr (.inl e)); omega), fun e => (by have := hgz gt7 (.inr (.inr (.inl e))); omega), fun e => (by have := hgz gt7 (.inr (.inr (.inr e))); omega)⟩
                      gl := hw17 }
                  have HW7 : Hid (w.heap.size ≤ w7.heap.size) := by have h1 := AF.out.be.size; show w.heap.size ≤ w7.heap.size; omega
                  have HTB7 : Hid (Tabs w7) := HTB1.out.on AF.out.be
                  have HSM : Hid (smallS X.rest) := fun x hx => validT_size (HW2.out.fit x hx).1
                  have hrl : X.rest.length ≤ 40 := by have := HW2.out.nl; omega
                  clear hb7 bt7 hgt7 hrT2 HMZ HRZ HSZ TZ hgz hg71 hg72 BT
                  have y0 := Blk.cell AF.out.bt 0
                  have y1 := Blk.cell AF.out.bt 1
                  have y2 := Blk.cell AF.out.bt 2
                  have y3 := Blk.cell AF.out.bt 3
                  have y4 := Blk.cell AF.out.bt 4
                  have y5 := Blk.cell AF.out.bt 5
                  have y6 := Blk.cell AF.out.bt 6
                  have y7 := Blk.cell AF.out.bt 7
                  have y8 := Blk.cell AF.out.bt 8
                  have y9 := Blk.cell AF.out.bt 9
                  have y10 := Blk.cell AF.out.bt 10
                  have y11 := Blk.cell AF.out.bt 11
                  have y12 := Blk.cell AF.out.bt 12
                  have y13 := Blk.cell AF.out.bt 13
                  have y14 := Blk.cell AF.out.bt 14
                  by_cases hk0 : tn.kind = 0
                  · as_aux_lemma =>
                    have hk1 : (tn.kind == 1) = false := by rw [hk0]; rfl
                    have hkb : (tn.kind == 0) = true := by rw [hk0]; rfl
                    clear hk0
                    have HF := Lib.hid (fitmsg_any tn.m w7 _ [.int .i64 tn.m.id, .string tn.m.topic, .int .i64 kT, .int .i64 iT, .int .u64 bT, .string sT, .slice aT nT cT, .int .i64 tn.m.tat, .int .i64 tn.m.til, .string tn.m.reply, .int .i64 tn.m.corr, .int .i64 tn.m.prio, .int .i64 tn.m.hops] HMT.out (fun b hb => Nat.lt_of_lt_of_le hb HW7.out) HTB7.out)
                    go_wp2_with fail
                    refine HF.out.mono ?_
                    rintro e w8 ⟨fb, rfl, hfb, hb8⟩
                    clear HF y0 y1 y2 y3 y4 y5 y6 y7 y8 y9 y10 y11 y12 y13 y14
                    replace AF := Lib.hid (AF.out.call hb8)
                    replace HMT := Lib.hid (HMT.out.under hb8 (fun b hb => Nat.lt_of_lt_of_le hb HW7.out))
                    clear hb8 HTB7 HW7
                    have y0 := Blk.cell AF.out.bt 0
                    have y1 := Blk.cell AF.out.bt 1
                    have y2 := Blk.cell AF.out.bt 2
                    have y3 := Blk.cell AF.out.bt 3
                    have y4 := Blk.cell AF.out.bt 4
                    have y5 := Blk.cell AF.out.bt 5
                    have y6 := Blk.cell AF.out.bt 6
                    have y7 := Blk.cell AF.out.bt 7
                    have y8 := Blk.cell AF.out.bt 8
                    have y9 := Blk.cell AF.out.bt 9
                    have y10 := Blk.cell AF.out.bt 10
                    have y11 := Blk.cell AF.out.bt 11
                    have y12 := Blk.cell AF.out.bt 12
                    have y13 := Blk.cell AF.out.bt 13
                    have y14 := Blk.cell AF.out.bt 14
                    obtain ⟨as2, cs2, rfl, hir⟩ := AF.out.wm.rows
                    have HIR := Lib.hid hir
                    clear hir
                    cases fb with
                    | false =>
                      clear hfb
                      have HPL := Lib.hid (placei_any ids tn.id as2 ids.length cs2 _ w8 HIR.out)
                      go_wp2_with fail
                      refine HPL.out.mono ?_
                      rintro e wz ⟨rfl, rfl⟩
                      clear HPL
                      go_wp2_with fail
                      go_roundw
                      case rel => first | exact ⟨now + 1, X.rest, ids, times2, last2, ends3, css, a6, c6, Btw lo w4.heap.size, by go_num, by omega, rfl, HW2.out, by omega, hi2, AF.out.wm, AF.out.rs, AF.out.sa, AF.out.be⟩ | ((repeat apply Exists.intro); exact ⟨⟨now + 1, X.rest, ids, times2, last2, ends3, css, a6, c6, Btw lo w4.heap.size, by go_num, by omega, rfl, HW2.out, by omega, hi2, AF.out.wm, AF.out.rs, AF.out.sa, AF.out.be⟩, by first | rfl | exact ⟨rfl, rfl⟩ | exact ⟨rfl, rfl, rfl⟩ | exact ⟨rfl, rfl, rfl, rfl⟩ | exact ⟨rfl, rfl, rfl, rfl, rfl⟩⟩)
                      case measure => simp [intOf]; omega
                    | true =>
                    have hz := validT_size (hfb rfl).1
                    have HFX := Lib.hid (hfb rfl)
                    clear hfb
                    have HPL := Lib.hid (placei_any ids tn.m.id as2 ids.length cs2 _ w8 HIR.out)
                    go_wp2_with fail
                    refine HPL.out.mono ?_
                    rintro e wz ⟨rfl, rfl⟩
                    clear HPL
                    obtain ⟨kx, hkx⟩ : ∃ kx, kx = placeI ids tn.m.id := ⟨_, rfl⟩
                    rw [← hkx]
                    by_cases hpl : kx < 0
                    rotate_left
                    · have HPL := Lib.hid (placei_any ids tn.id as2 ids.length cs2 _ w8 HIR.out)
                      clear hkx
                      go_wp2_with fail
                      refine HPL.out.mono ?_
                      rintro e wz ⟨rfl, rfl⟩
                      clear HPL
                      go_wp2_with fail
                      go_roundw
                      case rel => first | exact ⟨now + 1, X.rest, ids, times2, last2, ends3, css, a6, c6, Btw lo w4.heap.size, by go_num, by omega, rfl, HW2.out, by omega, hi2, AF.out.wm, AF.out.rs, AF.out.sa, AF.out.be⟩ | ((repeat apply Exists.intro); exact ⟨⟨now + 1, X.rest, ids, times2, last2, ends3, css, a6, c6, Btw lo w4.heap.size, by go_num, by omega, rfl, HW2.out, by omega, hi2, AF.out.wm, AF.out.rs, AF.out.sa, AF.out.be⟩, by first | rfl | exact ⟨rfl, rfl⟩ | exact ⟨rfl, rfl, rfl⟩ | exact ⟨rfl, rfl, rfl, rfl⟩ | exact ⟨rfl, rfl, rfl, rfl, rfl⟩⟩)
                      case measure => simp [intOf]; omega
                    as_aux_lemma =>
                    have HPX : Hid (placeI ids tn.m.id < 0) := by show placeI ids tn.m.id < 0; rw [← hkx]; exact hpl
                    have HW3 := Lib.hid (HW2.out.send' HP.out HFX.out HPX.out)
                    have hso := send_ok (p := p) (now := now) hrl (HW2.out.place_none HPX.out)
                    have hw8 : w.heap.size ≤ w8.heap.size := by have := AF.out.be.size; omega
                    have hp := sendp_any X.rest tn.m p now [.int .i64 tn.m.id, .string tn.m.topic, .int .i64 kT, .int .i64 iT, .int .u64 bT, .string sT, .slice aT nT cT, .int .i64 tn.m.tat, .int .i64 tn.m.til, .string tn.m.reply, .int .i64 tn.m.corr, .int .i64 tn.m.prio, .int .i64 tn.m.hops] a6 X.rest.length c6 (· < w8.heap.size) w8 (RS.mono AF.out.rs (fun b hb => (AF.out.sa b hb).1)) (fun _ h => h) HSM.out (by omega) (HMT.out.mono (fun b hb => Nat.lt_of_lt_of_le hb hw8)) hz HP.out (by omega) (by omega)
                    rw [hso] at hp
                    obtain ⟨L2, hL2⟩ : ∃ L2, L2 = X.rest ++ [⟨tn.m, 1, now + waitF 0 p.base p.most⟩] := ⟨_, rfl⟩
                    rw [← hL2] at hp
                    replace HW3 : Hid (Whole p ((now + 1 : Nat) : Int) L2 (ids ++ [tn.m.id]) (times2 ++ [1]) (last2 ++ [(now : Int)]) (ends3 ++ [0])) := by show Whole _ _ _ _ _ _ _; rw [hL2]; exact HW3.out
                    have HQ := Lib.hid hp
                    have HB5 : Hid (Blk w8 w.heap.size 52 #[.int .i64 p.tries, .int .i64 p.base, .int .i64 p.most]) := (AF.out.be.block _ (show w.heap.size < w1.heap.size by omega)).trans B5.out
                    clear hp hso hL2 hz HFX HPX hkx
                    go_wp2_with (first
                      | (refine wpList_load_blk rfl 30 _ rfl gt7 1 (by as_aux_lemma => rfl) [.int .i64 tn.m.id, .string tn.m.topic, .int .i64 kT, .int .i64 iT, .int .u64 bT, .string sT, .slice aT nT cT, .int .i64 tn.m.tat, .int .i64 tn.m.til, .string tn.m.reply, .int .i64 tn.m.corr, .int .i64 tn.m.prio, .int .i64 tn.m.hops] _ (by as_aux_lemma => exact Blk.range (pre := [.int .i64 tn.kind]) (post := [.int .i64 tn.id]) AF.out.bt rfl) Tryd.underlying30 rfl sizeM ?_)
                      | (refine wpList_load_blk rfl 52 _ rfl (w.heap.size) 0 (by as_aux_lemma => rfl) [.int .i64 p.tries, .int .i64 p.base, .int .i64 p.most] _ (Blk.range (pre := []) (post := []) HB5.out rfl) Tryd.underlying52 rfl sizeP ?_))
                    refine HQ.out.mono ?_
                    rintro e w9 ⟨a9, c9', S9, css9, rfl, ho, hb9⟩
                    have hr9 := ho.rows keepsS
                    have hcl9 : c9' ≤ maxLen := hr9.2.2.1
                    have hlc9 : L2.length ≤ c9' := hr9.2.1
                    unfold maxLen at hcl9
                    replace AF := Lib.hid (AF.out.sent hb9 hr9 (fun b hb => hb))
                    replace HMT := Lib.hid (HMT.out.under (hb9.mono hw8) (fun _ h => h))
                    clear HQ ho hr9 hw8 y0 y1 y2 y3 y4 y5 y6 y7 y8 y9 y10 y11 y12 y13 y14
                    have HONE := Lib.hid (HMT.out.one)
                    have y0 := Blk.cell AF.out.bt 0
                    have y1 := Blk.cell AF.out.bt 1
                    have y2 := Blk.cell AF.out.bt 2
                    have y3 := Blk.cell AF.out.bt 3
                    have y4 := Blk.cell AF.out.bt 4
                    have y5 := Blk.cell AF.out.bt 5
                    have y6 := Blk.cell AF.out.bt 6
                    have y7 := Blk.cell AF.out.bt 7
                    have y8 := Blk.cell AF.out.bt 8
                    have y9 := Blk.cell AF.out.bt 9
                    have y10 := Blk.cell AF.out.bt 10
                    have y11 := Blk.cell AF.out.bt 11
                    have y12 := Blk.cell AF.out.bt 12
                    have y13 := Blk.cell AF.out.bt 13
                    have y14 := Blk.cell AF.out.bt 14
                    have hsz9 := AF.out.be.size
                    have HQT : Hid (times2.length + 1 ≤ maxLen ∧ (times2.length + 1) * 8 ≤ 140737488355328) := by show _ ∧ _; unfold maxLen; omega
                    have HQA : Hid (last2.length + 1 ≤ maxLen ∧ (last2.length + 1) * 8 ≤ 140737488355328) := by show _ ∧ _; unfold maxLen; omega
                    have HQE : Hid (ends3.length + 1 ≤ maxLen ∧ (ends3.length + 1) * 8 ≤ 140737488355328) := by show _ ∧ _; unfold maxLen; omega
                    clear hnt2 hna2 hne3 hne2
                    obtain ⟨at2, ct2, rfl⟩ := own_len AF.out.wm.t
                    obtain ⟨aa2, ca2, rfl⟩ := own_len AF.out.wm.a
                    obtain ⟨ae2, ce2, rfl⟩ := own_len AF.out.wm.e
                    have HRW := Lib.hid (AF.out.wm.s)
                    go_upto_region 42 with fail
                    have Q1 : Hid (ids.length + 1 ≤ maxLen) := by show ids.length + 1 ≤ maxLen; unfold maxLen; omega
                    have Q2 : Hid ((ids.length + 1) * 144 ≤ 140737488355328) := by show (ids.length + 1) * 144 ≤ 140737488355328; omega
                    clear y0 y1 y2 y3 y4 y5 y6 y7 y8 y9 y10 y11 y12 y13 y14
                    go_upto_region 43 with (first
                      | (refine wpList_load_hid rfl 30 _ rfl gt7 1 (by as_aux_lemma => rfl) [.int .i64 tn.m.id, .string tn.m.topic, .int .i64 kT, .int .i64 iT, .int .u64 bT, .string sT, .slice aT nT cT, .int .i64 tn.m.tat, .int .i64 tn.m.til, .string tn.m.reply, .int .i64 tn.m.corr, .int .i64 tn.m.prio, .int .i64 tn.m.hops] _ (by as_aux_lemma => exact Blk.range (pre := [.int .i64 tn.kind]) (post := [.int .i64 tn.id]) AF.out.bt rfl) Tryd.underlying30 rfl sizeM ?_; intro V hV; have HV := Lib.hid hV; clear hV)
                      | (refine wpList_buildSlice1 rfl 22 30 _ rfl w9.heap.size rfl _ rfl Tryd.underlying22 #[.int .i64 tn.m.id, .string tn.m.topic, .int .i64 kT, .int .i64 iT, .int .u64 bT, .string sT, .slice aT nT cT, .int .i64 tn.m.tat, .int .i64 tn.m.til, .string tn.m.reply, .int .i64 tn.m.corr, .int .i64 tn.m.prio, .int .i64 tn.m.hops] V (by as_aux_lemma => rfl) (by as_aux_lemma => (rw [HV.out]; exact built_msg _ _ _ _ _ _ _ _ _ _ _ _ _ _ _)) ?_)
                      | (at_builtin
                         go_loud (refine wpList_append_lies _ rfl _ _ _ rfl w1.heap.size 30 iM _ 13 144 Tryd.underlying22 hiM hzM hzM1 hzM2 (by as_aux_lemma => rfl) (by decide) (.slice as2 ids.length cs2) ids.length css.flatten (by as_aux_lemma => rfl) (HRW.out.alloc _) ⟨w9.heap.size, 0, none⟩ 1 1 [.int .i64 tn.m.id, .string tn.m.topic, .int .i64 kT, .int .i64 iT, .int .u64 bT, .string sT, .slice aT nT cT, .int .i64 tn.m.tat, .int .i64 tn.m.til, .string tn.m.reply, .int .i64 tn.m.corr, .int .i64 tn.m.prio, .int .i64 tn.m.hops] (by as_aux_lemma => rfl) (by as_aux_lemma => rfl) (by as_aux_lemma => exact World.news_of_block (cs := #[.int .i64 tn.m.id, .string tn.m.topic, .int .i64 kT, .int .i64 iT, .int .u64 bT, .string sT, .slice aT nT cT, .int .i64 tn.m.tat, .int .i64 tn.m.til, .string tn.m.reply, .int .i64 tn.m.corr, .int .i64 tn.m.prio, .int .i64 tn.m.hops]) (t := 30) (fr := (0, 0)) (heap_alloc_new w9 _)) HONE.out Nat.one_pos Q1.out Q2.out (Nat.le_trans hsz9 (by simp)) (w9.heap.size + 1) (by simp) ?_)
                         intro g5 cap5 wA hown hgrow hat hlt
                         have HO := Lib.hid hown
                         have HG := Lib.hid hgrow
                         have HAT := Lib.hid hat
                         clear hown hgrow hat hlt))
                    replace AF := Lib.hid (AF.out.growS (u := tn.m.id) (cs1 := [.int .i64 tn.m.id, .string tn.m.topic, .int .i64 kT, .int .i64 iT, .int .u64 bT, .string sT, .slice aT nT cT, .int .i64 tn.m.tat, .int .i64 tn.m.til, .string tn.m.reply, .int .i64 tn.m.corr, .int .i64 tn.m.prio, .int .i64 tn.m.hops]) (by as_aux_lemma => rfl) (by as_aux_lemma => rfl) HO.out rfl HG.out HAT.out)
                    clear HO HG HAT HRW HONE hsz9 Q1 Q2
                    have hsz10 := AF.out.be.size
                    have HRW := Lib.hid (AF.out.wm.t)
                    go_upto_region 44 with (first
                      | (at_builtin
                         go_loud (refine wpList_append_lies _ rfl _ _ _ rfl w1.heap.size 2 iI _ 1 8 Tryd.underlying72 hiI hzI hzI1 hzI2 (by as_aux_lemma => rfl) (by decide) (.slice at2 times2.length ct2) times2.length (times2.map (Value.int .i64)) (by as_aux_lemma => rfl) (HRW.out.alloc _) ⟨wA.heap.size, 0, none⟩ 1 1 [.int .i64 1] (by as_aux_lemma => rfl) (by as_aux_lemma => rfl) (by as_aux_lemma => exact World.news_of_block (cs := #[.int .i64 1]) (t := 2) (fr := (0, 0)) (heap_alloc_new wA _)) (by simp [Value.oneCell']) Nat.one_pos HQT.out.1 HQT.out.2 (Nat.le_trans hsz10 (by simp)) (wA.heap.size + 1) (by simp) ?_)
                         intro g6 cap6 wB hown hgrow hat hlt
                         have HO := Lib.hid hown
                         have HG := Lib.hid hgrow
                         have HAT := Lib.hid hat
                         clear hown hgrow hat hlt))
                    replace AF := Lib.hid (AF.out.growT HO.out rfl HG.out HAT.out)
                    clear HO HG HAT HRW hsz10 HQT
                    have hsz11 := AF.out.be.size
                    have HRW := Lib.hid (AF.out.wm.a)
                    go_upto_region 45 with (first
                      | (at_builtin
                         go_loud (refine wpList_append_lies _ rfl _ _ _ rfl w1.heap.size 2 iI _ 1 8 Tryd.underlying72 hiI hzI hzI1 hzI2 (by as_aux_lemma => rfl) (by decide) (.slice aa2 last2.length ca2) last2.length (last2.map (Value.int .i64)) (by as_aux_lemma => rfl) (HRW.out.alloc _) ⟨wB.heap.size, 0, none⟩ 1 1 [.int .i64 now] (by as_aux_lemma => rfl) (by as_aux_lemma => rfl) (by as_aux_lemma => exact World.news_of_block (cs := #[.int .i64 now]) (t := 2) (fr := (0, 0)) (heap_alloc_new wB _)) (by simp [Value.oneCell']) Nat.one_pos HQA.out.1 HQA.out.2 (Nat.le_trans hsz11 (by simp)) (wB.heap.size + 1) (by simp) ?_)
                         intro g7 cap7 wC hown hgrow hat hlt
                         have HO := Lib.hid hown
                         have HG := Lib.hid hgrow
                         have HAT := Lib.hid hat
                         clear hown hgrow hat hlt))
                    replace AF := Lib.hid (AF.out.growA HO.out rfl HG.out HAT.out)
                    clear HO HG HAT HRW hsz11 HQA
                    have hsz12 := AF.out.be.size
                    have HRW := Lib.hid (AF.out.wm.e)
                    go_upto_region 46 with (first
                      | (at_builtin
                         go_loud (refine wpList_append_lies _ rfl _ _ _ rfl w1.heap.size 3 iN _ 1 8 Tryd.underlying73 hiN hzN hzN1 hzN2 (by as_aux_lemma => rfl) (by decide) (.slice ae2 ends3.length ce2) ends3.length (ends3.map (Value.int .i64)) (by as_aux_lemma => rfl) (HRW.out.alloc _) ⟨wC.heap.size, 0, none⟩ 1 1 [.int .i64 0] (by as_aux_lemma => rfl) (by as_aux_lemma => rfl) (by as_aux_lemma => exact World.news_of_block (cs := #[.int .i64 0]) (t := 3) (fr := (0, 0)) (heap_alloc_new wC _)) (by simp [Value.oneCell']) Nat.one_pos HQE.out.1 HQE.out.2 (Nat.le_trans hsz12 (by simp)) (wC.heap.size + 1) (by simp) ?_)
                         intro g8 cap8 wD hown hgrow hat hlt
                         have HO := Lib.hid hown
                         have HG := Lib.hid hgrow
                         have HAT := Lib.hid hat
                         clear hown hgrow hat hlt))
                    replace AF := Lib.hid (AF.out.growE HO.out rfl HG.out HAT.out)
                    clear HO HG HAT HRW hsz12 HQE
                    have y0 := Blk.cell AF.out.bt 0
                    have y1 := Blk.cell AF.out.bt 1
                    have y2 := Blk.cell AF.out.bt 2
                    have y3 := Blk.cell AF.out.bt 3
                    have y4 := Blk.cell AF.out.bt 4
                    have y5 := Blk.cell AF.out.bt 5
                    have y6 := Blk.cell AF.out.bt 6
                    have y7 := Blk.cell AF.out.bt 7
                    have y8 := Blk.cell AF.out.bt 8
                    have y9 := Blk.cell AF.out.bt 9
                    have y10 := Blk.cell AF.out.bt 10
                    have y11 := Blk.cell AF.out.bt 11
                    have y12 := Blk.cell AF.out.bt 12
                    have y13 := Blk.cell AF.out.bt 13
                    have y14 := Blk.cell AF.out.bt 14
                    have HPL := Lib.hid (placei_any (ids ++ [tn.m.id]) tn.id _ _ _ _ wD AF.out.wm.rowsAt)
                    go_wp2_with fail
                    refine HPL.out.mono ?_
                    rintro e wz ⟨rfl, rfl⟩
                    clear HPL
                    go_wp2_with fail
                    go_roundw
                    case rel => first | exact ⟨now + 1, L2, ids ++ [tn.m.id], times2 ++ [1], last2 ++ [(now : Int)], ends3 ++ [0], css ++ [[.int .i64 tn.m.id, .string tn.m.topic, .int .i64 kT, .int .i64 iT, .int .u64 bT, .string sT, .slice aT nT cT, .int .i64 tn.m.tat, .int .i64 tn.m.til, .string tn.m.reply, .int .i64 tn.m.corr, .int .i64 tn.m.prio, .int .i64 tn.m.hops]], a9, c9', Btw w8.heap.size w9.heap.size, by go_num, by omega, rfl, HW3.out, by rw [List.length_append, List.length_singleton]; omega, by rw [List.length_append, List.length_singleton]; omega, AF.out.wm, AF.out.rs, AF.out.sa, AF.out.be⟩ | ((repeat apply Exists.intro); exact ⟨⟨now + 1, L2, ids ++ [tn.m.id], times2 ++ [1], last2 ++ [(now : Int)], ends3 ++ [0], css ++ [[.int .i64 tn.m.id, .string tn.m.topic, .int .i64 kT, .int .i64 iT, .int .u64 bT, .string sT, .slice aT nT cT, .int .i64 tn.m.tat, .int .i64 tn.m.til, .string tn.m.reply, .int .i64 tn.m.corr, .int .i64 tn.m.prio, .int .i64 tn.m.hops]], a9, c9', Btw w8.heap.size w9.heap.size, by go_num, by omega, rfl, HW3.out, by rw [List.length_append, List.length_singleton]; omega, by rw [List.length_append, List.length_singleton]; omega, AF.out.wm, AF.out.rs, AF.out.sa, AF.out.be⟩, by first | rfl | exact ⟨rfl, rfl⟩ | exact ⟨rfl, rfl, rfl⟩ | exact ⟨rfl, rfl, rfl, rfl⟩ | exact ⟨rfl, rfl, rfl, rfl, rfl⟩⟩)
                    case measure => simp [intOf]; omega
                  have hkz : (tn.kind == 0) = false := beq_eq_false_iff_ne.2 hk0
                  clear hk0
                  as_aux_lemma =>
                  obtain ⟨as2, cs2, rfl, hir⟩ := AF.out.wm.rows
                  have HPL := Lib.hid (placei_any ids tn.id as2 ids.length cs2 _ w7 hir)
                  clear hir HMT HTB7 HW7
                  by_cases hk1 : tn.kind = 1
                  rotate_left
                  · have hkb : (tn.kind == 1) = false := beq_eq_false_iff_ne.2 hk1
                    clear hk1
                    go_wp2_with fail
                    refine HPL.out.mono ?_
                    rintro e wz ⟨rfl, rfl⟩
                    clear HPL
                    go_wp2_with fail
                    go_roundw
                    case rel => first | exact ⟨now + 1, X.rest, ids, times2, last2, ends3, css, a6, c6, Btw lo w4.heap.size, by go_num, by omega, rfl, HW2.out, by omega, hi2, AF.out.wm, AF.out.rs, AF.out.sa, AF.out.be⟩ | ((repeat apply Exists.intro); exact ⟨⟨now + 1, X.rest, ids, times2, last2, ends3, css, a6, c6, Btw lo w4.heap.size, by go_num, by omega, rfl, HW2.out, by omega, hi2, AF.out.wm, AF.out.rs, AF.out.sa, AF.out.be⟩, by first | rfl | exact ⟨rfl, rfl⟩ | exact ⟨rfl, rfl, rfl⟩ | exact ⟨rfl, rfl, rfl, rfl⟩ | exact ⟨rfl, rfl, rfl, rfl, rfl⟩⟩)
                    case measure => simp [intOf]; omega
                  have hkb : (tn.kind == 1) = true := by rw [hk1]; rfl
                  clear hk1
                  go_wp2_with fail
                  refine HPL.out.mono ?_
                  rintro e wz ⟨rfl, rfl⟩
                  clear HPL
                  by_cases hpl : placeI ids tn.id < 0
                  · obtain ⟨kx, hkx⟩ : ∃ kx, kx = placeI ids tn.id := ⟨_, rfl⟩
                    rw [← hkx] at hpl ⊢
                    clear hkx
                    go_wp2_with fail
                    go_roundw
                    case rel => first | exact ⟨now + 1, X.rest, ids, times2, last2, ends3, css, a6, c6, Btw lo w4.heap.size, by go_num, by omega, rfl, HW2.out, by omega, hi2, AF.out.wm, AF.out.rs, AF.out.sa, AF.out.be⟩ | ((repeat apply Exists.intro); exact ⟨⟨now + 1, X.rest, ids, times2, last2, ends3, css, a6, c6, Btw lo w4.heap.size, by go_num, by omega, rfl, HW2.out, by omega, hi2, AF.out.wm, AF.out.rs, AF.out.sa, AF.out.be⟩, by first | rfl | exact ⟨rfl, rfl⟩ | exact ⟨rfl, rfl, rfl⟩ | exact ⟨rfl, rfl, rfl, rfl⟩ | exact ⟨rfl, rfl, rfl, rfl, rfl⟩⟩)
                    case measure => simp [intOf]; omega
                  obtain ⟨k, hkq, hk2⟩ := placeI_some hpl
                  rw [hkq]
                  have HK2 := Lib.hid hk2
                  have hkl : k < ids.length := (List.getElem?_eq_some_iff.1 hk2).1
                  have hki0 : (0 : Int) ≤ (k : Int) := by omega
                  have hki1 : (k : Int) < (ids.length : Int) := by omega
                  have hkn : ¬ (k : Int) < 0 := by omega
                  obtain ⟨e0, he0⟩ : ∃ e0, ends3[k]? = some e0 := ⟨_, List.getElem?_eq_getElem (by omega)⟩
                  have HPO := Lib.hid (HW2.out.place_open hk2 he0)
                  have hp := ackp_any X.rest tn.id a6 X.rest.length c6 _ w7 AF.out.rs (fun b hb => (AF.out.sa b hb).1) HSM.out (by omega)
                  clear hkq hpl hk2
                  have HE0 := Lib.hid he0
                  clear he0
                  by_cases hps : placeS X.rest tn.id < 0
                  · rw [ack_no hps] at hp
                    have he00 : (e0 == 0) = false := beq_eq_false_iff_ne.2 fun e => HPO.out.1 e hps
                    have HQ := Lib.hid hp
                    clear hp hps
                    go_wp2_with fail
                    refine HQ.out.mono ?_
                    rintro e w8 ⟨a9, c9', S9, css9, rfl, ho, hb8⟩
                    have hr9 := ho.rows keepsS
                    replace AF := Lib.hid (AF.out.sent hb8 hr9 (fun b hb => hb))
                    clear HQ ho hr9 y0 y1 y2 y3 y4 y5 y6 y7 y8 y9 y10 y11 y12 y13 y14
                    obtain ⟨ge, ce, rfl, qe, fe, hce1, hce2⟩ := AF.out.wm.eAt hne3 HE0.out
                    unfold maxLen at hce2
                    go_wp2_with fail
                    go_roundw
                    case rel => first | exact ⟨now + 1, X.rest, ids, times2, last2, ends3, css, a9, c9', Btw w7.heap.size w8.heap.size, by go_num, by omega, rfl, HW2.out, by omega, hi2, AF.out.wm, AF.out.rs, AF.out.sa, AF.out.be⟩ | ((repeat apply Exists.intro); exact ⟨⟨now + 1, X.rest, ids, times2, last2, ends3, css, a9, c9', Btw w7.heap.size w8.heap.size, by go_num, by omega, rfl, HW2.out, by omega, hi2, AF.out.wm, AF.out.rs, AF.out.sa, AF.out.be⟩, by first | rfl | exact ⟨rfl, rfl⟩ | exact ⟨rfl, rfl, rfl⟩ | exact ⟨rfl, rfl, rfl, rfl⟩ | exact ⟨rfl, rfl, rfl, rfl, rfl⟩⟩)
                    case measure => simp [intOf]; omega
                  · rw [ack_yes hps] at hp
                    obtain rfl : e0 = 0 := HPO.out.2 hps
                    have HW3 := Lib.hid (HW2.out.ack' HK2.out hps)
                    obtain ⟨L2, hL2⟩ : ∃ L2, L2 = X.rest.eraseIdx (placeS X.rest tn.id).toNat := ⟨_, rfl⟩
                    rw [← hL2] at hp
                    replace HW3 : Hid (Whole p ((now + 1 : Nat) : Int) L2 ids times2 last2 (ends3.set k 3)) := by show Whole _ _ _ _ _ _ _; rw [hL2]; exact HW3.out
                    have HQ := Lib.hid hp
                    clear hp hps hL2 HPO
                    go_wp2_with fail
                    refine HQ.out.mono ?_
                    rintro e w8 ⟨a9, c9', S9, css9, rfl, ho, hb8⟩
                    have hr9 := ho.rows keepsS
                    replace AF := Lib.hid (AF.out.sent hb8 hr9 (fun b hb => hb))
                    clear HQ ho hr9 y0 y1 y2 y3 y4 y5 y6 y7 y8 y9 y10 y11 y12 y13 y14
                    obtain ⟨ge, ce, rfl, qe, fe, hce1, hce2⟩ := AF.out.wm.eAt hne3 HE0.out
                    unfold maxLen at hce2
                    have AF2 := Lib.hid (AF.out.setE (k := k) hne3 3)
                    go_wp2_with fail
                    go_roundw
                    case rel => first | exact ⟨now + 1, L2, ids, times2, last2, ends3.set k 3, css, a9, c9', Btw w7.heap.size w8.heap.size, by go_num, by omega, rfl, HW3.out, by omega, hi2, AF2.out.wm, AF2.out.rs, AF2.out.sa, AF2.out.be⟩ | ((repeat apply Exists.intro); exact ⟨⟨now + 1, L2, ids, times2, last2, ends3.set k 3, css, a9, c9', Btw w7.heap.size w8.heap.size, by go_num, by omega, rfl, HW3.out, by omega, hi2, AF2.out.wm, AF2.out.rs, AF2.out.sa, AF2.out.be⟩, by first | rfl | exact ⟨rfl, rfl⟩ | exact ⟨rfl, rfl, rfl⟩ | exact ⟨rfl, rfl, rfl, rfl⟩ | exact ⟨rfl, rfl, rfl, rfl, rfl⟩⟩)
                    case measure => simp [intOf]; omega
    · as_aux_lemma =>
      obtain rfl : now = 260 := by omega
      obtain ⟨as2, cs2, rfl, hir⟩ := HWM.out.rows
      have HIR := Lib.hid hir
      have hTend := T.out.trans (TB.out.mono (by omega))
      have T2 := Lib.hid hTend
      obtain ⟨wo, rfl⟩ : ∃ wo : World, wo = wr := ⟨_, rfl⟩
      have HNE := Lib.hid hne
      have HNL : Hid (ids.length ≤ 40) := hi2
      clear hir hTend B5 HTB1 HSC hnt hna hi1
      go_upto_region 55 with fail
      go_loopw [27] (fun iv w' => ∃ k : Nat, iv = .int .i64 k ∧ k ≤ ids.length ∧ wo = w') (fun i _ => ids.length - (intOf i).toNat)
      case atStart => exact ⟨0, rfl, Nat.zero_le _, rfl⟩
      case round =>
        obtain ⟨k, rfl, hk, rfl⟩ := hrel
        by_cases hltk : k < ids.length
        · obtain ⟨g, o, x, xs, rfl, hSg, hx, hm0, hxl, hr⟩ := HIR.out.get hltk
          have c0 : wo.cell? ⟨g, o + k * 13, none⟩ = some (.int .i64 x) := hr 0 _ hm0
          obtain ⟨e0, he0⟩ : ∃ e0, ends[k]? = some e0 := ⟨_, List.getElem?_eq_getElem (by rw [HNE.out]; exact hltk)⟩
          obtain ⟨ge, ce, rfl, qe, fe, hce1, hce2⟩ := HWM.out.eAt HNE.out he0
          unfold maxLen at hce2
          have HPO := Lib.hid (HWH.out.place_open hx he0)
          have HPL := Lib.hid (place_any l x a l.length c S wo HRS.out)
          have hki0 : (0 : Int) ≤ (k : Int) := by omega
          have hki1 : (k : Int) < (ids.length : Int) := by omega
          obtain ⟨r, hr2⟩ : ∃ r, r = placeS l x := ⟨_, rfl⟩
          rw [← hr2] at HPL
          have hpo : e0 = 0 ↔ ¬ r < 0 := by rw [hr2]; exact HPO.out
          clear hr hx hxl hSg hm0 he0 HPO hr2 fe
          by_cases he00 : e0 = 0
          · have hr0 : 0 ≤ r := by have := hpo.1 he00; omega
            have heb : (e0 == 0) = true := by rw [he00]; rfl
            clear hpo he00
            go_wp2_with fail
            refine HPL.out.mono ?_
            rintro e wz ⟨rfl, rfl⟩
            clear HPL c0
            go_wp2_with fail
            go_roundw
            case rel => first | exact ⟨k + 1, by go_num, by omega, by first | rfl | trivial⟩ | ((repeat apply Exists.intro); exact ⟨⟨k + 1, by go_num, by omega, by first | rfl | trivial⟩, by first | rfl | exact ⟨rfl, rfl⟩ | exact ⟨rfl, rfl, rfl⟩ | exact ⟨rfl, rfl, rfl, rfl⟩ | exact ⟨rfl, rfl, rfl, rfl, rfl⟩⟩)
            case measure => simp [intOf]; omega
          · have hr0 : r < 0 := by
              rcases Int.lt_or_le r 0 with h | h
              · exact h
              · exact absurd (hpo.2 (by omega)) he00
            have hr1 : ¬ 0 ≤ r := by omega
            have heb : (e0 == 0) = false := beq_eq_false_iff_ne.2 he00
            clear hpo he00
            go_wp2_with fail
            refine HPL.out.mono ?_
            rintro e wz ⟨rfl, rfl⟩
            clear HPL c0
            go_wp2_with fail
            go_roundw
            case rel => first | exact ⟨k + 1, by go_num, by omega, by first | rfl | trivial⟩ | ((repeat apply Exists.intro); exact ⟨⟨k + 1, by go_num, by omega, by first | rfl | trivial⟩, by first | rfl | exact ⟨rfl, rfl⟩ | exact ⟨rfl, rfl, rfl⟩ | exact ⟨rfl, rfl, rfl, rfl⟩ | exact ⟨rfl, rfl, rfl, rfl, rfl⟩⟩)
            case measure => simp [intOf]; omega
        · obtain rfl : k = ids.length := by omega
          obtain ⟨ae2, ce2, rfl⟩ := own_len HWM.out.e
          have hle : ((ends.length : Nat) : Int) = ((ids.length : Nat) : Int) := by rw [HNE.out]
          go_wp2_with fail
          refine (awakek_any _).mono ?_
          rintro e w2 ⟨rfl, hb2⟩
          go_wp2_with fail
          go_ret
          exact ⟨rfl, T2.out.trans (hb2.mono T2.out.size)⟩
end Go.Proofs.YtmdcfmdjbncaoaaDoor
