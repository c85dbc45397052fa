/- QueueLoses: the walk. -/
import Derived.Test.YtmdcfmdjbncaoaaMk
import Derived.Deep.OwnRows
namespace Go.Proofs.Ytmdcfmdjbncaoaa
open Go.RowKit
attribute [local go_sem ↓] Go.wp_at_zero Go.wp_at_succ
attribute [local go_sem] Go.undef

theorem room_ok (x : Int) : 1 ≤ wrap64 (1 + wrap64 ((IntKind.u64.wrap x).tmod 30)) ∧ wrap64 (1 + wrap64 ((IntKind.u64.wrap x).tmod 30)) ≤ 30 := by
  have hU : 0 ≤ IntKind.u64.wrap x := by rw [IntKind.wrap_u64]; omega
  have h1 := Int.tmod_nonneg 30 hU
  have h2 := Int.tmod_lt_of_pos (IntKind.u64.wrap x) (b := 30) (by omega)
  generalize (IntKind.u64.wrap x).tmod 30 = t at h1 h2
  have e : wrap64 (1 + wrap64 t) = 1 + t := by unfold wrap64; omega
  rw [e]
  omega
/-- What lies in blocks of the call's own from lo on. -/
abbrev RY (w : World) (lo : Nat) (l : List MX) (a : Option Addr) (n c : Nat) : Prop := RM w (Btw lo w.heap.size) l a n c
theorem RY.on {w w' : World} {lo : Nat} {l : List MX} {a : Option Addr} {n c : Nat} (h : RY w lo l a n c) (hb : Below w.heap.size w w') : RY w' lo l a n c := RM.mono (RM.under h hb (fun _ h => h.2)) (fun _ hy => ⟨hy.1, Nat.lt_of_lt_of_le hy.2 hb.size⟩)
theorem RY.gr {w w' : World} {lo g : Nat} {l : List MX} {a : Option Addr} {n c : Nat} (h : RY w lo l a n c) (hg : Gr g w w') (hlo : g < lo) : RY w' lo l a n c := RM.mono (hg.rm h (fun _ hy => ⟨hy.2, by have := hy.1; omega⟩)) (fun _ hy => ⟨hy.1, Nat.lt_of_lt_of_le hy.2 hg.below.size⟩)
theorem RY.upd {w w' : World} {lo g : Nat} {l : List MX} {a : Option Addr} {n c : Nat} (h : RY w lo l a n c) (U : Upd g w w') (hlo : g < lo) : RY w' lo l a n c := RM.mono (RM.upd h U (fun _ hy => by have := hy.1; omega)) (fun _ hy => ⟨hy.1, by rw [U.size]; exact hy.2⟩)
abbrev MY (w : World) (lo : Nat) (m : MX) (cs : List Value) : Prop := IsM w (Btw lo w.heap.size) m cs
theorem MY.on {w w' : World} {lo : Nat} {m : MX} {cs : List Value} (h : MY w lo m cs) (hb : Below w.heap.size w w') : MY w' lo m cs := (IsM.under h hb (fun _ h => h.2)).mono (fun _ hy => ⟨hy.1, Nat.lt_of_lt_of_le hy.2 hb.size⟩)
theorem MY.gr {w w' : World} {lo g : Nat} {m : MX} {cs : List Value} (h : MY w lo m cs) (hg : Gr g w w') (hlo : g < lo) : MY w' lo m cs := IsM.mono (hg.ism h (fun _ hy => ⟨hy.2, by have := hy.1; omega⟩)) (fun _ hy => ⟨hy.1, Nat.lt_of_lt_of_le hy.2 hg.below.size⟩)
theorem LastAt.gr {w w' : World} {g mb n : Nat} {L : Int → Int} (h : LastAt w mb n L) (hg : Gr g w w') (hne : mb ≠ g) : LastAt w' mb n L := h.far (hg.far mb h.lt hne)
def wfL (l : List MX) : Prop := ∀ x ∈ l, (Lit.int .i64 x.prio).wf = true

/-- The state of the rounds of Puts and Takes. -/
def QlW (w : World) (N : Nat) (R : Int) (iv : Value) (wr : World) : Prop :=
  ∃ (j : Nat) (q : QX) (F : Nat → Int) (L : Int → Int) (a : Option Addr) (n c : Nat), iv = .int .i64 j ∧ j ≤ N ∧ Fair q.l F j ∧ Lasty q.l L j ∧ (q.l.length : Int) ≤ R ∧ 0 ≤ q.r ∧ q.r ≤ j ∧ 0 ≤ q.d ∧ q.d ≤ j ∧ smallL q.l ∧ wfL q.l ∧
    Blk wr w.heap.size 46 #[.slice a n c, .int .i64 q.r, .int .i64 q.d] ∧ RY wr (w.heap.size + 4) q.l a n c ∧ Blk wr (w.heap.size + 2) 59 #[.slice (some ⟨w.heap.size + 1, 0, none⟩) N N] ∧ FateAt wr (w.heap.size + 1) N F ∧ LastAt wr (w.heap.size + 3) j L ∧
    Below w.heap.size w wr ∧ w.heap.size + 4 ≤ wr.heap.size
/-- The state of the loop over what waits at the end. -/
def QeW (w : World) (N : Nat) (l : List MX) (a : Option Addr) (n c : Nat) (iv : Value) (wr : World) : Prop :=
  ∃ (i : Nat) (F : Nat → Int), iv = .int .i64 i ∧ i ≤ l.length ∧ Fair (l.drop i) F N ∧ RY wr (w.heap.size + 4) l a n c ∧ Blk wr (w.heap.size + 2) 59 #[.slice (some ⟨w.heap.size + 1, 0, none⟩) N N] ∧ FateAt wr (w.heap.size + 1) N F ∧ Below w.heap.size w wr ∧ w.heap.size + 4 ≤ wr.heap.size

set_option maxHeartbeats 16000000 in
set_option maxRecDepth 100000 in
theorem qloses_go (room0 drop : Int) (ps : List Int) (a : Option Addr) (n c : Nat) (ts : List Bool) (at_ : Option Addr) (nt ct : Nat) (w : World) (hrow : RowsOf (fun (p : Int) cs => cs[11]? = some (.int .i64 p) ∧ (Lit.int .i64 p).wf = true) 13 w (· < w.heap.size) ps a n c)
    (htak : RowsOf (fun (b : Bool) cs => cs = [.bool b]) 1 w (· < w.heap.size) ts at_ nt ct) :
    Calls Try.prog 8 #[.int .i64 room0, .int .i64 drop, .slice a n c, .slice at_ nt ct] w fun e w' => e = .returned (.bool true) ∧ Below w.heap.size w w' := by
  have hcl : c ≤ maxLen := hrow.2.2.1
  have hlc : n ≤ c := hrow.2.1
  unfold maxLen at hcl
  have HROW := Lib.hid hrow
  have HTAK := Lib.hid htak
  clear hrow htak
  obtain ⟨hR1, hR2⟩ := room_ok room0
  obtain ⟨R, hR⟩ : ∃ R, wrap64 (1 + wrap64 ((IntKind.u64.wrap room0).tmod 30)) = R := ⟨_, rfl⟩
  rw [hR] at hR1 hR2
  obtain ⟨N, hN⟩ : ∃ N : Nat, N = min n 200 := ⟨_, rfl⟩
  have hN2 : N ≤ 200 := by omega
  have hNn : N ≤ n := by omega
  have hmin : (if (200 : Int) < (n : Int) then (200 : Int) else (n : Int)) = (N : Int) := by split <;> omega
  clear hN
  have hmk := run_make_row' (P := Try.prog) 59 3 (.int .i64 0) 8 Try.underlying59 (by kernel_rfl) rfl .i64 .i64 N (by omega) (by omega)
  have hmm := @run_makeMap Try.prog
  have hmf : ∀ (fn : Fn) (first cap : Array Value) (w : World), (Instr.makeFunc fn first cap).run Try.prog w = .ok (.func fn first cap) w := fun _ _ _ _ => rfl
  go_enter Try.func8, Try.ntmps8
  go_upto_region 3 with fail
  rw [hR]
  clear hR
  go_upto_region 7 with fail
  go_loopw [39] (QlW w N R) (fun i _ => N - (intOf i).toNat)
  case atStart =>
    refine ⟨0, ⟨[], 0, 0⟩, fun _ => 0, fun _ => 0, none, 0, 0, rfl, Nat.zero_le _, Fair.nil, Lasty.nil, (by simp; omega), Int.le_refl _, Int.le_refl _, Int.le_refl _, Int.le_refl _, fun _ h => absurd h (by simp), fun _ h => absurd h (by simp), ?_, RowsOf.nil _ _ (Nat.zero_le _), ?_, ?_, ?_, by go_grown, by simp⟩
    · exact (((Blk.new _ _ _).alloc _).alloc _).alloc _
    · exact (Blk.new' _ _ _ (by simp)).alloc _
    · exact ((FateAt.made' _ _ (by simp)).alloc _).alloc _
    · exact LastAt.made' _ (by simp)
  case round =>
    obtain ⟨j, q, F, L, aq, nq, cq, rfl, hj, hfair, hlasty, hlen, hr0, hr1, hd0, hd1, hsm, hwf, hBQ, hRQ, hPF, hFT, hLA, hbel, hsz⟩ := hrel
    have HFAIR := Lib.hid hfair
    have HLAST := Lib.hid hlasty
    have HWF := Lib.hid hwf
    have HSM := Lib.hid hsm
    have BQ := Lib.hid hBQ
    have RQ := Lib.hid hRQ
    have PF := Lib.hid hPF
    have FT := Lib.hid hFT
    have LA := Lib.hid hLA
    have T := Lib.hid hbel
    clear hfair hlasty hsm hwf hBQ hRQ hPF hFT hLA
    by_cases hlt : j < N
    · obtain ⟨g, o, p, xs, rfl, hSg, hx, ⟨hx11, hpw⟩, hxl, hr⟩ := HROW.out.get (j := j) (by omega)
      have cp : wr.cell? ⟨g, o + j * 13 + 11, none⟩ = some (.int .i64 p) := (hbel.cell (p := ⟨g, o + j * 13 + 11, none⟩) hSg).trans (hr 11 _ hx11)
      have HPW := Lib.hid hpw
      have hj0 : (0 : Int) ≤ (j : Int) := by omega
      have hj1 : (j : Int) < (n : Int) := by omega
      have hj2 : (j : Int) < (N : Int) := by omega
      clear hx hx11 hxl hr hpw hbel
      go_upto_region 10 with (refine wpList_store_blk (T := 48) rfl 48 _ _ rfl (wr.heap.size) 0 [] [.int .i64 0, .string ByteArray.empty, .int .i64 0, .int .i64 0, .int .u64 0, .string ByteArray.empty, .slice none 0 0, .int .i64 0, .int .i64 0, .string ByteArray.empty, .int .i64 0, .int .i64 0, .int .i64 0] [] [.int .i64 ((j : Int) + 1), .string ByteArray.empty, .int .i64 0, .int .i64 0, .int .u64 0, .string ByteArray.empty, .slice none 0 0, .int .i64 0, .int .i64 0, .string ByteArray.empty, .int .i64 0, .int .i64 p, .int .i64 0] rfl rfl (Blk.new wr _ _) rfl rfl sizeM (by simp [Value.oneCell']) ?_; intro w1 BX1 U1)
      have BX := Lib.hid BX1
      have hb1 : Below wr.heap.size wr w1 := ((Below.refl wr.heap.size wr).alloc (Nat.le_refl _) _).trans (U1.below _ (Nat.le_refl _))
      have hz1 : w.heap.size + 4 ≤ w1.heap.size := Nat.le_trans hsz hb1.size
      replace BQ := Lib.hid (Blk.on BQ.out hb1)
      replace RQ := Lib.hid (RY.on RQ.out hb1)
      replace PF := Lib.hid (Blk.on PF.out hb1)
      replace FT := Lib.hid (FateAt.on FT.out hb1)
      replace LA := Lib.hid (LastAt.on LA.out hb1)
      replace T := Lib.hid (below_on hb1 T.out)
      clear hb1
      clear BX1 U1 cp
      obtain ⟨x, gone, gn, en, hx⟩ : ∃ x gone gn en, putQ q R drop (numM ((j : Int) + 1) p) = (x, gone, gn, en) := ⟨_, _, _, _, rfl⟩
      have hp := putp_any q aq nq cq _ w1 R drop (numM ((j : Int) + 1) p) _ RQ.out (fun _ h => h.2) HSM.out (by have := RQ.out.1; omega) (numM_is _ _ _ _) (numM_size _ _) hr0 (by omega) hd0 (by omega)
      rw [hx] at hp
      have hst := put_step (m := numM ((j : Int) + 1) p) (drop := drop) HFAIR.out HLAST.out rfl hlen
      have hrd := putQ_rd (q := q) (room := R) (drop := drop) (m := numM ((j : Int) + 1) p)
      have hmem : ∀ y ∈ x.l, y ∈ q.l ∨ y = numM ((j : Int) + 1) p := fun y hy => putQ_mem (room := R) (drop := drop) (by rw [hx]; exact hy)
      rw [hx] at hst hrd
      dsimp only at hst hrd
      have hsmx : smallL x.l := fun y hy => (hmem y hy).elim (HSM.out y) (fun e => by rw [e]; exact numM_size _ _)
      have hwfx : wfL x.l := fun y hy => (hmem y hy).elim (HWF.out y) (fun e => by rw [e]; exact HPW.out)
      have HP := Lib.hid hp
      have HST := Lib.hid hst.2.2
      have HLX := Lib.hid hst.1
      have hlenx : (x.l.length : Int) ≤ R := hst.2.1
      have HSMX := Lib.hid hsmx
      have HWFX := Lib.hid hwfx
      obtain ⟨hrd1, hrd2, hrd3, hrd4⟩ := hrd
      clear hp hst hx hmem hsmx hwfx HSM HWF
      go_wp2_with (first
        | (refine wpList_load_blk rfl 46 _ rfl (w.heap.size) 0 rfl [.slice aq nq cq, .int .i64 q.r, .int .i64 q.d] _ (Blk.range (pre := []) (post := []) BQ.out rfl) Try.underlying46 rfl sizeI ?_)
        | (refine wpList_load_blk rfl 48 _ rfl (wr.heap.size) 0 rfl [.int .i64 ((j : Int) + 1), .string ByteArray.empty, .int .i64 0, .int .i64 0, .int .u64 0, .string ByteArray.empty, .slice none 0 0, .int .i64 0, .int .i64 0, .string ByteArray.empty, .int .i64 0, .int .i64 p, .int .i64 0] _ (Blk.range (pre := []) (post := []) BX.out rfl) Try.underlying48 rfl sizeM ?_))
      refine HP.out.mono ?_
      rintro e w2 ⟨a2, n2, c2, k2, i2, b2, s2, an2, nn2, cn2, rfl, hr2, hm2, hb2⟩
      dsimp only at hr2 hm2 ⊢
      have RX2 : Hid (RY w2 (w.heap.size + 4) x.l a2 n2 c2) := RM.mono hr2 (fun y hy => ⟨by have := hy.1; omega, hy.2⟩)
      have MX2 : Hid (MY w2 (w.heap.size + 4) gone [.int .i64 gone.id, .string gone.topic, .int .i64 k2, .int .i64 i2, .int .u64 b2, .string s2, .slice an2 nn2 cn2, .int .i64 gone.tat, .int .i64 gone.til, .string gone.reply, .int .i64 gone.corr, .int .i64 gone.prio, .int .i64 gone.hops]) := IsM.mono hm2 (fun y hy => ⟨by have := hy.1; omega, hy.2⟩)
      have hz2 : w.heap.size + 4 ≤ w2.heap.size := Nat.le_trans hz1 hb2.size
      clear hr2 hm2 HP RQ BX
      replace BQ := Lib.hid (Blk.on BQ.out hb2)
      replace PF := Lib.hid (Blk.on PF.out hb2)
      replace FT := Lib.hid (FateAt.on FT.out hb2)
      replace LA := Lib.hid (LastAt.on LA.out hb2)
      replace T := Lib.hid (below_on hb2 T.out)
      clear hb2
      have bia : Blk ((w2.alloc (.cells #[.slice none 0 0, .int .i64 0, .int .i64 0] 46)).alloc (.cells #[.int .i64 0, .string ByteArray.empty, .int .i64 0, .int .i64 0, .int .u64 0, .string ByteArray.empty, .slice none 0 0, .int .i64 0, .int .i64 0, .string ByteArray.empty, .int .i64 0, .int .i64 0, .int .i64 0] 48)) w2.heap.size 46 #[.slice none 0 0, .int .i64 0, .int .i64 0] := (Blk.new _ _ _).alloc _
      have bma : Blk ((w2.alloc (.cells #[.slice none 0 0, .int .i64 0, .int .i64 0] 46)).alloc (.cells #[.int .i64 0, .string ByteArray.empty, .int .i64 0, .int .i64 0, .int .u64 0, .string ByteArray.empty, .slice none 0 0, .int .i64 0, .int .i64 0, .string ByteArray.empty, .int .i64 0, .int .i64 0, .int .i64 0] 48)) (w2.heap.size + 1) 48 #[.int .i64 0, .string ByteArray.empty, .int .i64 0, .int .i64 0, .int .u64 0, .string ByteArray.empty, .slice none 0 0, .int .i64 0, .int .i64 0, .string ByteArray.empty, .int .i64 0, .int .i64 0, .int .i64 0] := Blk.new' _ _ _ (by simp)
      have HWB : Hid (Below w2.heap.size w2 ((w2.alloc (.cells #[.slice none 0 0, .int .i64 0, .int .i64 0] 46)).alloc (.cells #[.int .i64 0, .string ByteArray.empty, .int .i64 0, .int .i64 0, .int .u64 0, .string ByteArray.empty, .slice none 0 0, .int .i64 0, .int .i64 0, .string ByteArray.empty, .int .i64 0, .int .i64 0, .int .i64 0] 48))) := ((Below.refl _ _).alloc (Nat.le_refl _) _).alloc (by simp) _
      go_upto_region 11 with (first
        | (refine wpList_store_blk (T := 46) rfl 46 _ _ rfl (w2.heap.size) 0 [] [.slice none 0 0, .int .i64 0, .int .i64 0] [] [.slice a2 n2 c2, .int .i64 x.r, .int .i64 x.d] rfl rfl bia rfl rfl sizeI inb_one ?_; intro w3 b10 U3; have bmb := U3.blk bma (by omega))
        | (refine wpList_store_blk (T := 48) rfl 48 _ _ rfl (w2.heap.size + 1) 0 [] [.int .i64 0, .string ByteArray.empty, .int .i64 0, .int .i64 0, .int .u64 0, .string ByteArray.empty, .slice none 0 0, .int .i64 0, .int .i64 0, .string ByteArray.empty, .int .i64 0, .int .i64 0, .int .i64 0] [] [.int .i64 gone.id, .string gone.topic, .int .i64 k2, .int .i64 i2, .int .u64 b2, .string s2, .slice an2 nn2 cn2, .int .i64 gone.tat, .int .i64 gone.til, .string gone.reply, .int .i64 gone.corr, .int .i64 gone.prio, .int .i64 gone.hops] rfl rfl bmb rfl rfl sizeM (by simp [Value.oneCell']) ?_; intro w4 b11 U4; have b10' := U4.blk b10 (by omega)))
      have B15 := Lib.hid b10'
      have B16 := Lib.hid b11
      have b24 : Below w2.heap.size w2 w4 := (HWB.out.trans (U3.below _ (Nat.le_refl _))).trans (U4.below _ (Nat.le_succ _))
      have hz4 : w.heap.size + 4 ≤ w4.heap.size := Nat.le_trans hz2 b24.size
      replace BQ := Lib.hid (Blk.on BQ.out b24)
      replace PF := Lib.hid (Blk.on PF.out b24)
      replace FT := Lib.hid (FateAt.on FT.out b24)
      replace LA := Lib.hid (LastAt.on LA.out b24)
      replace RX2 := Lib.hid (RY.on RX2.out b24)
      replace MX2 := Lib.hid (MY.on MX2.out b24)
      replace T := Lib.hid (below_on b24 T.out)
      clear b24
      clear U3 U4 bia bma bmb b10 b10' b11 HWB
      have hF0 : F j = 0 := HFAIR.out.off j (Nat.le_refl _)
      have HF0 := Lib.hid hF0
      clear hF0
      by_cases hen : en = 0
      · have hbe : (en != 0) = false := by rw [hen]; rfl
        have HEN := Lib.hid hen
        clear hen
        go_upto_region 13 with fail
        obtain ⟨wc, hw⟩ : ∃ wc, wc = w4 := ⟨_, rfl⟩
        have hcut : wc = if en = 0 then w4 else w4.setCell ⟨w.heap.size + 1, j, none⟩ (.int .i64 1) := hw.trans (if_pos HEN.out).symm
        rw [← hw]
        clear hw hbe
        have hG : Gr (w.heap.size + 1) w4 wc := by
          rw [hcut]
          split
          · exact Gr.refl _ _
          · exact Gr.set _ _ _
        have FC : Hid (FateAt wc (w.heap.size + 1) N (if en = 0 then F else bump F j)) := by
          show FateAt _ _ _ _
          rw [hcut]
          by_cases hen : en = 0
          · rw [if_pos hen, if_pos hen]; exact FT.out
          · rw [if_neg hen, if_neg hen]; exact FT.out.bump hlt HF0.out
        have hzc : w.heap.size + 4 ≤ wc.heap.size := Nat.le_trans hz4 hG.below.size
        clear FT hcut
        replace BQ := Lib.hid (Gr.blk hG BQ.out (by omega))
        replace PF := Lib.hid (Gr.blk hG PF.out (by omega))
        replace LA := Lib.hid (LastAt.gr LA.out hG (by omega))
        replace RX2 := Lib.hid (RY.gr RX2.out hG (by omega))
        replace MX2 := Lib.hid (MY.gr MX2.out hG (by omega))
        replace B15 := Lib.hid (Gr.blk hG B15.out (by omega))
        replace B16 := Lib.hid (Gr.blk hG B16.out (by omega))
        replace T := Lib.hid (Below.trans T.out (Below.mono hG.below (by omega)))
        clear hG
        have c15 : wc.cell? ⟨w2.heap.size, 0, none⟩ = some (.slice a2 n2 c2) := Blk.cell B15.out 0
        obtain ⟨x0, x1, x2, x3, x4, x5, x6, x7, x8, x9, x10, x11, x12⟩ := Blk.cells13 B16.out
        have hn2 : (n2 : Int) ≤ R := by have := RX2.out.1; omega
        have hn3 : ¬ (R < (n2 : Int)) := by omega
        have hok : gn = true → 1 ≤ gone.id ∧ gone.id ≤ (N : Int) ∧ (if en = 0 then F else bump F j) (gone.id - 1).toNat = 0 := by
          intro hgn
          rcases HST.out with ⟨h1, -, -⟩ | ⟨-, h2, h3, h4, h5, -⟩ | ⟨h1, -, -⟩
          · rw [hgn] at h1; cases h1
          · rw [if_pos h2]
            refine ⟨h3, by omega, ?_⟩
            exact h5
          · rw [hgn] at h1; cases h1
        have HM := Lib.hid (mark_any gone [.int .i64 gone.id, .string gone.topic, .int .i64 k2, .int .i64 i2, .int .u64 b2, .string s2, .slice an2 nn2 cn2, .int .i64 gone.tat, .int .i64 gone.til, .string gone.reply, .int .i64 gone.corr, .int .i64 gone.prio, .int .i64 gone.hops] gn (w.heap.size + 2) (w.heap.size + 1) N _ _ wc MX2.out PF.out FC.out hok hN2)
        clear hok hn2
        go_wp2_with fail
        refine HM.out.mono ?_
        rintro e w5 ⟨rfl, hF2, hG5⟩
        have FD := Lib.hid hF2
        have hz5 : w.heap.size + 4 ≤ w5.heap.size := Nat.le_trans hzc hG5.below.size
        clear hF2 HM FC x0 x1 x2 x3 x4 x5 x6 x7 x8 x9 x10 x11 x12 c15 MX2
        replace BQ := Lib.hid (Gr.blk hG5 BQ.out (by omega))
        replace PF := Lib.hid (Gr.blk hG5 PF.out (by omega))
        replace LA := Lib.hid (LastAt.gr LA.out hG5 (by omega))
        replace RX2 := Lib.hid (RY.gr RX2.out hG5 (by omega))
        replace B15 := Lib.hid (Gr.blk hG5 B15.out (by omega))
        replace T := Lib.hid (Below.trans T.out (Below.mono hG5.below (by omega)))
        clear hG5
        obtain ⟨F2, hF2⟩ : ∃ F2, F2 = if gn = true then bump (if en = 0 then F else bump F j) (gone.id - 1).toNat else if en = 0 then F else bump F j := ⟨_, rfl⟩
        have FX : Hid (FateAt w5 (w.heap.size + 1) N F2) := by show FateAt _ _ _ _; rw [hF2]; exact FD.out
        have HFX : Hid (Fair x.l F2 (j + 1)) := by
          show Fair _ _ _
          rw [hF2]
          rcases HST.out with ⟨h1, h2, h3⟩ | ⟨h1, h2, -, -, -, h3⟩ | ⟨h1, h2, h3⟩
          · rw [h1, if_neg (by simp), if_pos h2]; exact h3
          · rw [h1, if_pos rfl, if_pos h2]; exact h3
          · rw [h1, if_neg (by simp), if_neg (by omega)]; exact h3
        clear hF2 FD HST
        go_upto_region 15 with fail
        go_upto_region 16 with (first
          | (refine wpList_load_blk rfl 46 _ rfl (w2.heap.size) 0 rfl [.slice a2 n2 c2, .int .i64 x.r, .int .i64 x.d] _ (Blk.range (pre := []) (post := []) B15.out rfl) Try.underlying46 rfl sizeI ?_)
          | (refine wpList_store_blk (T := 46) rfl 46 _ _ rfl (w.heap.size) 0 [] [.slice aq nq cq, .int .i64 q.r, .int .i64 q.d] [] [.slice a2 n2 c2, .int .i64 x.r, .int .i64 x.d] rfl rfl BQ.out rfl rfl sizeI inb_one ?_; intro w6 b6 U6))
        have hz6 : w.heap.size + 4 ≤ w6.heap.size := by rw [U6.size]; exact hz5
        have BQ6 := Lib.hid b6
        have RX6 := Lib.hid (RY.upd RX2.out U6 (by omega))
        have PF6 := Lib.hid (U6.blk PF.out (by omega))
        have FX6 := Lib.hid (FX.out.far (U6.far _ (by omega)))
        have LA6 := Lib.hid (LA.out.far (U6.far _ (by omega)))
        have T6 : Hid (Below w.heap.size w w6) := Below.trans T.out (U6.below _ (Nat.le_refl _))
        clear b6 U6 BQ RX2 PF FX LA T B15
        have hxr : 0 ≤ x.r := by omega
        have hxr1 : x.r ≤ ((j + 1 : Nat) : Int) := by omega
        have hxd : 0 ≤ x.d := by omega
        have hxd1 : x.d ≤ ((j + 1 : Nat) : Int) := by omega
        by_cases htk : j < nt
        · obtain ⟨gt, ot, tb, ys, rfl, hSt, -, hys, -, hrt⟩ := HTAK.out.get htk
          subst hys
          have ctk : w6.cell? ⟨gt, ot + j, none⟩ = some (.bool tb) := (T6.out.cell (p := ⟨gt, ot + j, none⟩) hSt).trans (by have := hrt 0 _ rfl; simpa using this)
          have htk1 : (j : Int) < (nt : Int) := by omega
          clear hrt
          cases tb with
          | false =>
            go_wp2_with fail
            go_roundw
            case rel => first | exact ⟨j + 1, x, F2, L, a2, n2, c2, by go_num, by omega, HFX.out, HLX.out, hlenx, hxr, hxr1, hxd, hxd1, HSMX.out, HWFX.out, BQ6.out, RX6.out, PF6.out, FX6.out, LastAt.mono LA6.out (by omega), T6.out, hz6⟩ | ((repeat apply Exists.intro); exact ⟨⟨j + 1, x, F2, L, a2, n2, c2, by go_num, by omega, HFX.out, HLX.out, hlenx, hxr, hxr1, hxd, hxd1, HSMX.out, HWFX.out, BQ6.out, RX6.out, PF6.out, FX6.out, LastAt.mono LA6.out (by omega), T6.out, hz6⟩, by first | rfl | exact ⟨rfl, rfl⟩ | exact ⟨rfl, rfl, rfl⟩ | exact ⟨rfl, rfl, rfl, rfl⟩ | exact ⟨rfl, rfl, rfl, rfl, rfl⟩ | exact ⟨rfl, rfl, rfl, rfl, rfl, rfl⟩⟩)
            case measure => simp [intOf]; omega
          | true =>
            have hp := takep_any x a2 n2 c2 _ w6 RX6.out (fun _ h => h.2) HSMX.out (by have := RX6.out.1; omega)
            by_cases h0 : x.l.length = 0
            · have hq : takeQ x = (x, zeroM, false) := by rw [takeQ, if_pos h0]
              rw [hq] at hp
              have HP := Lib.hid hp
              clear hp hq h0
              go_wp2_with (refine wpList_load_blk rfl 46 _ rfl (w.heap.size) 0 rfl [.slice a2 n2 c2, .int .i64 x.r, .int .i64 x.d] _ (Blk.range (pre := []) (post := []) BQ6.out rfl) Try.underlying46 rfl sizeI ?_)
              refine HP.out.mono ?_
              rintro e w7 ⟨a7, n7, c7, k7, i7, b7, s7, an7, nn7, cn7, rfl, hr7, hm7, hb7⟩
              dsimp only at hr7 hm7 ⊢
              have RX7 : Hid (RY w7 (w.heap.size + 4) x.l a7 n7 c7) := RM.mono hr7 (fun y hy => ⟨by have := hy.1; omega, hy.2⟩)
              have MX7 : Hid (MY w7 (w.heap.size + 4) zeroM [.int .i64 zeroM.id, .string zeroM.topic, .int .i64 k7, .int .i64 i7, .int .u64 b7, .string s7, .slice an7 nn7 cn7, .int .i64 zeroM.tat, .int .i64 zeroM.til, .string zeroM.reply, .int .i64 zeroM.corr, .int .i64 zeroM.prio, .int .i64 zeroM.hops]) := IsM.mono hm7 (fun y hy => ⟨by have := hy.1; omega, hy.2⟩)
              have hz7 : w.heap.size + 4 ≤ w7.heap.size := Nat.le_trans hz6 hb7.size
              clear hr7 hm7 HP
              replace BQ6 := Lib.hid (Blk.on BQ6.out hb7)
              replace PF6 := Lib.hid (Blk.on PF6.out hb7)
              replace FX6 := Lib.hid (FateAt.on FX6.out hb7)
              replace LA6 := Lib.hid (LastAt.on LA6.out hb7)
              replace T6 := Lib.hid (below_on hb7 T6.out)
              clear hb7
              have bia : Blk ((w7.alloc (.cells #[.slice none 0 0, .int .i64 0, .int .i64 0] 46)).alloc (.cells #[.int .i64 0, .string ByteArray.empty, .int .i64 0, .int .i64 0, .int .u64 0, .string ByteArray.empty, .slice none 0 0, .int .i64 0, .int .i64 0, .string ByteArray.empty, .int .i64 0, .int .i64 0, .int .i64 0] 48)) w7.heap.size 46 #[.slice none 0 0, .int .i64 0, .int .i64 0] := (Blk.new _ _ _).alloc _
              have bma : Blk ((w7.alloc (.cells #[.slice none 0 0, .int .i64 0, .int .i64 0] 46)).alloc (.cells #[.int .i64 0, .string ByteArray.empty, .int .i64 0, .int .i64 0, .int .u64 0, .string ByteArray.empty, .slice none 0 0, .int .i64 0, .int .i64 0, .string ByteArray.empty, .int .i64 0, .int .i64 0, .int .i64 0] 48)) (w7.heap.size + 1) 48 #[.int .i64 0, .string ByteArray.empty, .int .i64 0, .int .i64 0, .int .u64 0, .string ByteArray.empty, .slice none 0 0, .int .i64 0, .int .i64 0, .string ByteArray.empty, .int .i64 0, .int .i64 0, .int .i64 0] := Blk.new' _ _ _ (by simp)
              have HWB : Hid (Below w7.heap.size w7 ((w7.alloc (.cells #[.slice none 0 0, .int .i64 0, .int .i64 0] 46)).alloc (.cells #[.int .i64 0, .string ByteArray.empty, .int .i64 0, .int .i64 0, .int .u64 0, .string ByteArray.empty, .slice none 0 0, .int .i64 0, .int .i64 0, .string ByteArray.empty, .int .i64 0, .int .i64 0, .int .i64 0] 48))) := ((Below.refl _ _).alloc (Nat.le_refl _) _).alloc (by simp) _
              go_upto_region 18 with (first
                | (refine wpList_store_blk (T := 46) rfl 46 _ _ rfl (w7.heap.size) 0 [] [.slice none 0 0, .int .i64 0, .int .i64 0] [] [.slice a7 n7 c7, .int .i64 x.r, .int .i64 x.d] rfl rfl bia rfl rfl sizeI inb_one ?_; intro w8 b10 U8; have bmb := U8.blk bma (by omega))
                | (refine wpList_store_blk (T := 48) rfl 48 _ _ rfl (w7.heap.size + 1) 0 [] [.int .i64 0, .string ByteArray.empty, .int .i64 0, .int .i64 0, .int .u64 0, .string ByteArray.empty, .slice none 0 0, .int .i64 0, .int .i64 0, .string ByteArray.empty, .int .i64 0, .int .i64 0, .int .i64 0] [] [.int .i64 zeroM.id, .string zeroM.topic, .int .i64 k7, .int .i64 i7, .int .u64 b7, .string s7, .slice an7 nn7 cn7, .int .i64 zeroM.tat, .int .i64 zeroM.til, .string zeroM.reply, .int .i64 zeroM.corr, .int .i64 zeroM.prio, .int .i64 zeroM.hops] rfl rfl bmb rfl rfl sizeM (by simp [Value.oneCell']) ?_; intro w9 b11 U9; have b10' := U9.blk b10 (by omega)))
              have B19 := Lib.hid b10'
              have B20 := Lib.hid b11
              have b79 : Below w7.heap.size w7 w9 := (HWB.out.trans (U8.below _ (Nat.le_refl _))).trans (U9.below _ (Nat.le_succ _))
              have hz9 : w.heap.size + 4 ≤ w9.heap.size := Nat.le_trans hz7 b79.size
              replace BQ6 := Lib.hid (Blk.on BQ6.out b79)
              replace PF6 := Lib.hid (Blk.on PF6.out b79)
              replace FX6 := Lib.hid (FateAt.on FX6.out b79)
              replace LA6 := Lib.hid (LastAt.on LA6.out b79)
              replace RX7 := Lib.hid (RY.on RX7.out b79)
              replace MX7 := Lib.hid (MY.on MX7.out b79)
              replace T6 := Lib.hid (below_on b79 T6.out)
              clear b79
              clear U8 U9 bia bma bmb b10 b10' b11 HWB
              have HM := Lib.hid (mark_any zeroM [.int .i64 zeroM.id, .string zeroM.topic, .int .i64 k7, .int .i64 i7, .int .u64 b7, .string s7, .slice an7 nn7 cn7, .int .i64 zeroM.tat, .int .i64 zeroM.til, .string zeroM.reply, .int .i64 zeroM.corr, .int .i64 zeroM.prio, .int .i64 zeroM.hops] false (w.heap.size + 2) (w.heap.size + 1) N _ _ w9 MX7.out PF6.out FX6.out (fun h => by cases h) hN2)
              go_wp2_with (refine wpList_load_blk rfl 48 _ rfl (w7.heap.size + 1) 0 rfl [.int .i64 zeroM.id, .string zeroM.topic, .int .i64 k7, .int .i64 i7, .int .u64 b7, .string s7, .slice an7 nn7 cn7, .int .i64 zeroM.tat, .int .i64 zeroM.til, .string zeroM.reply, .int .i64 zeroM.corr, .int .i64 zeroM.prio, .int .i64 zeroM.hops] _ (Blk.range (pre := []) (post := []) B20.out rfl) Try.underlying48 rfl sizeM ?_)
              refine HM.out.mono ?_
              rintro e w10 ⟨rfl, hF2, hG5⟩
              have FD : Hid (FateAt w10 (w.heap.size + 1) N F2) := hF2
              have hz10 : w.heap.size + 4 ≤ w10.heap.size := Nat.le_trans hz9 hG5.below.size
              clear hF2 HM MX7
              replace BQ6 := Lib.hid (Gr.blk hG5 BQ6.out (by omega))
              replace PF6 := Lib.hid (Gr.blk hG5 PF6.out (by omega))
              replace LA6 := Lib.hid (LastAt.gr LA6.out hG5 (by omega))
              replace RX7 := Lib.hid (RY.gr RX7.out hG5 (by omega))
              replace B19 := Lib.hid (Gr.blk hG5 B19.out (by omega))
              replace T6 := Lib.hid (Below.trans T6.out (Below.mono hG5.below (by omega)))
              clear hG5
              go_upto_region 22 with fail
              go_upto_region 23 with (first
                | (refine wpList_load_blk rfl 46 _ rfl (w7.heap.size) 0 rfl [.slice a7 n7 c7, .int .i64 x.r, .int .i64 x.d] _ (Blk.range (pre := []) (post := []) B19.out rfl) Try.underlying46 rfl sizeI ?_)
                | (refine wpList_store_blk (T := 46) rfl 46 _ _ rfl (w.heap.size) 0 [] [.slice a2 n2 c2, .int .i64 x.r, .int .i64 x.d] [] [.slice a7 n7 c7, .int .i64 x.r, .int .i64 x.d] rfl rfl BQ6.out rfl rfl sizeI inb_one ?_; intro w11 b11 U11))
              have hze : w.heap.size + 4 ≤ w11.heap.size := by rw [U11.size]; exact hz10
              have BQE := Lib.hid b11
              have RXE := Lib.hid (RY.upd RX7.out U11 (by omega))
              have PFE := Lib.hid (U11.blk PF6.out (by omega))
              have FXE := Lib.hid (FD.out.far (U11.far _ (by omega)))
              have LAE := Lib.hid (LA6.out.far (U11.far _ (by omega)))
              have TE : Hid (Below w.heap.size w w11) := Below.trans T6.out (U11.below _ (Nat.le_refl _))
              clear b11 U11 BQ6 RX7 PF6 FD LA6 T6 B19
              go_wp2_with fail
              go_roundw
              case rel => first | exact ⟨j + 1, x, F2, L, a7, n7, c7, by go_num, by omega, HFX.out, HLX.out, hlenx, hxr, hxr1, hxd, hxd1, HSMX.out, HWFX.out, BQE.out, RXE.out, PFE.out, FXE.out, LastAt.mono LAE.out (by omega), TE.out, hze⟩ | ((repeat apply Exists.intro); exact ⟨⟨j + 1, x, F2, L, a7, n7, c7, by go_num, by omega, HFX.out, HLX.out, hlenx, hxr, hxr1, hxd, hxd1, HSMX.out, HWFX.out, BQE.out, RXE.out, PFE.out, FXE.out, LastAt.mono LAE.out (by omega), TE.out, hze⟩, by first | rfl | exact ⟨rfl, rfl⟩ | exact ⟨rfl, rfl, rfl⟩ | exact ⟨rfl, rfl, rfl, rfl⟩ | exact ⟨rfl, rfl, rfl, rfl, rfl⟩ | exact ⟨rfl, rfl, rfl, rfl, rfl, rfl⟩⟩)
              case measure => simp [intOf]; omega
            · obtain ⟨hq, ht1, ht2, htF, htL, htLa⟩ := take_step HFX.out HLX.out (by omega : 0 < x.l.length)
              obtain ⟨y, hy⟩ : ∃ y, y = atM x.l (highI x.l x.l.length) := ⟨_, rfl⟩
              obtain ⟨hi, hhi⟩ : ∃ hi, hi = highI x.l x.l.length := ⟨_, rfl⟩
              rw [← hy] at hq ht1 ht2 htF htL htLa
              rw [← hhi] at hq htF htLa
              rw [hq] at hp
              have hyw : (Lit.int .i64 y.prio).wf = true := HWFX.out y (by rw [hy]; exact List.mem_of_getElem? (atM_mem (highI_lt (by omega) (Nat.le_refl _))))
              have hyF : F2 (y.id - 1).toNat = 0 := HFX.out.wait y (by rw [hy]; exact List.mem_of_getElem? (atM_mem (highI_lt (by omega) (Nat.le_refl _))))
              have hidw : (Lit.int .i64 y.id).wf = true := wf_small (by omega) (by omega)
              have HP := Lib.hid hp
              have HTF := Lib.hid htF
              have HTL := Lib.hid htL
              have HTLA := Lib.hid htLa
              have HYW := Lib.hid hyw
              have HYF := Lib.hid hyF
              have HIDW := Lib.hid hidw
              clear hp hq h0 hy hhi htF htL htLa hyw hyF hidw
              go_wp2_with (refine wpList_load_blk rfl 46 _ rfl (w.heap.size) 0 rfl [.slice a2 n2 c2, .int .i64 x.r, .int .i64 x.d] _ (Blk.range (pre := []) (post := []) BQ6.out rfl) Try.underlying46 rfl sizeI ?_)
              refine HP.out.mono ?_
              rintro e w7 ⟨a7, n7, c7, k7, i7, b7, s7, an7, nn7, cn7, rfl, hr7, hm7, hb7⟩
              dsimp only at hr7 hm7 ⊢
              have RX7 : Hid (RY w7 (w.heap.size + 4) (x.l.eraseIdx hi) a7 n7 c7) := RM.mono hr7 (fun y hy => ⟨by have := hy.1; omega, hy.2⟩)
              have MX7 : Hid (MY w7 (w.heap.size + 4) y [.int .i64 y.id, .string y.topic, .int .i64 k7, .int .i64 i7, .int .u64 b7, .string s7, .slice an7 nn7 cn7, .int .i64 y.tat, .int .i64 y.til, .string y.reply, .int .i64 y.corr, .int .i64 y.prio, .int .i64 y.hops]) := IsM.mono hm7 (fun y hy => ⟨by have := hy.1; omega, hy.2⟩)
              have hz7 : w.heap.size + 4 ≤ w7.heap.size := Nat.le_trans hz6 hb7.size
              clear hr7 hm7 HP
              replace BQ6 := Lib.hid (Blk.on BQ6.out hb7)
              replace PF6 := Lib.hid (Blk.on PF6.out hb7)
              replace FX6 := Lib.hid (FateAt.on FX6.out hb7)
              replace LA6 := Lib.hid (LastAt.on LA6.out hb7)
              replace T6 := Lib.hid (below_on hb7 T6.out)
              clear hb7
              have bia : Blk ((w7.alloc (.cells #[.slice none 0 0, .int .i64 0, .int .i64 0] 46)).alloc (.cells #[.int .i64 0, .string ByteArray.empty, .int .i64 0, .int .i64 0, .int .u64 0, .string ByteArray.empty, .slice none 0 0, .int .i64 0, .int .i64 0, .string ByteArray.empty, .int .i64 0, .int .i64 0, .int .i64 0] 48)) w7.heap.size 46 #[.slice none 0 0, .int .i64 0, .int .i64 0] := (Blk.new _ _ _).alloc _
              have bma : Blk ((w7.alloc (.cells #[.slice none 0 0, .int .i64 0, .int .i64 0] 46)).alloc (.cells #[.int .i64 0, .string ByteArray.empty, .int .i64 0, .int .i64 0, .int .u64 0, .string ByteArray.empty, .slice none 0 0, .int .i64 0, .int .i64 0, .string ByteArray.empty, .int .i64 0, .int .i64 0, .int .i64 0] 48)) (w7.heap.size + 1) 48 #[.int .i64 0, .string ByteArray.empty, .int .i64 0, .int .i64 0, .int .u64 0, .string ByteArray.empty, .slice none 0 0, .int .i64 0, .int .i64 0, .string ByteArray.empty, .int .i64 0, .int .i64 0, .int .i64 0] := Blk.new' _ _ _ (by simp)
              have HWB : Hid (Below w7.heap.size w7 ((w7.alloc (.cells #[.slice none 0 0, .int .i64 0, .int .i64 0] 46)).alloc (.cells #[.int .i64 0, .string ByteArray.empty, .int .i64 0, .int .i64 0, .int .u64 0, .string ByteArray.empty, .slice none 0 0, .int .i64 0, .int .i64 0, .string ByteArray.empty, .int .i64 0, .int .i64 0, .int .i64 0] 48))) := ((Below.refl _ _).alloc (Nat.le_refl _) _).alloc (by simp) _
              go_upto_region 18 with (first
                | (refine wpList_store_blk (T := 46) rfl 46 _ _ rfl (w7.heap.size) 0 [] [.slice none 0 0, .int .i64 0, .int .i64 0] [] [.slice a7 n7 c7, .int .i64 x.r, .int .i64 x.d] rfl rfl bia rfl rfl sizeI inb_one ?_; intro w8 b10 U8; have bmb := U8.blk bma (by omega))
                | (refine wpList_store_blk (T := 48) rfl 48 _ _ rfl (w7.heap.size + 1) 0 [] [.int .i64 0, .string ByteArray.empty, .int .i64 0, .int .i64 0, .int .u64 0, .string ByteArray.empty, .slice none 0 0, .int .i64 0, .int .i64 0, .string ByteArray.empty, .int .i64 0, .int .i64 0, .int .i64 0] [] [.int .i64 y.id, .string y.topic, .int .i64 k7, .int .i64 i7, .int .u64 b7, .string s7, .slice an7 nn7 cn7, .int .i64 y.tat, .int .i64 y.til, .string y.reply, .int .i64 y.corr, .int .i64 y.prio, .int .i64 y.hops] rfl rfl bmb rfl rfl sizeM (by simp [Value.oneCell']) ?_; intro w9 b11 U9; have b10' := U9.blk b10 (by omega)))
              have B19 := Lib.hid b10'
              have B20 := Lib.hid b11
              have b79 : Below w7.heap.size w7 w9 := (HWB.out.trans (U8.below _ (Nat.le_refl _))).trans (U9.below _ (Nat.le_succ _))
              have hz9 : w.heap.size + 4 ≤ w9.heap.size := Nat.le_trans hz7 b79.size
              replace BQ6 := Lib.hid (Blk.on BQ6.out b79)
              replace PF6 := Lib.hid (Blk.on PF6.out b79)
              replace FX6 := Lib.hid (FateAt.on FX6.out b79)
              replace LA6 := Lib.hid (LastAt.on LA6.out b79)
              replace RX7 := Lib.hid (RY.on RX7.out b79)
              replace MX7 := Lib.hid (MY.on MX7.out b79)
              replace T6 := Lib.hid (below_on b79 T6.out)
              clear b79
              clear U8 U9 bia bma bmb b10 b10' b11 HWB
              have HM := Lib.hid (mark_any y [.int .i64 y.id, .string y.topic, .int .i64 k7, .int .i64 i7, .int .u64 b7, .string s7, .slice an7 nn7 cn7, .int .i64 y.tat, .int .i64 y.til, .string y.reply, .int .i64 y.corr, .int .i64 y.prio, .int .i64 y.hops] true (w.heap.size + 2) (w.heap.size + 1) N _ _ w9 MX7.out PF6.out FX6.out (fun _ => ⟨ht1, by omega, HYF.out⟩) hN2)
              go_wp2_with (refine wpList_load_blk rfl 48 _ rfl (w7.heap.size + 1) 0 rfl [.int .i64 y.id, .string y.topic, .int .i64 k7, .int .i64 i7, .int .u64 b7, .string s7, .slice an7 nn7 cn7, .int .i64 y.tat, .int .i64 y.til, .string y.reply, .int .i64 y.corr, .int .i64 y.prio, .int .i64 y.hops] _ (Blk.range (pre := []) (post := []) B20.out rfl) Try.underlying48 rfl sizeM ?_)
              refine HM.out.mono ?_
              rintro e w10 ⟨rfl, hF2, hG5⟩
              have FD : Hid (FateAt w10 (w.heap.size + 1) N (bump F2 (y.id - 1).toNat)) := hF2
              have hz10 : w.heap.size + 4 ≤ w10.heap.size := Nat.le_trans hz9 hG5.below.size
              clear hF2 HM MX7
              replace BQ6 := Lib.hid (Gr.blk hG5 BQ6.out (by omega))
              replace PF6 := Lib.hid (Gr.blk hG5 PF6.out (by omega))
              replace LA6 := Lib.hid (LastAt.gr LA6.out hG5 (by omega))
              replace RX7 := Lib.hid (RY.gr RX7.out hG5 (by omega))
              replace B19 := Lib.hid (Gr.blk hG5 B19.out (by omega))
              replace B20 := Lib.hid (Gr.blk hG5 B20.out (by omega))
              replace T6 := Lib.hid (Below.trans T6.out (Below.mono hG5.below (by omega)))
              clear hG5
              obtain ⟨D, hown, hat⟩ := LA6.out
              have HOWN := Lib.hid hown
              have HAT := Lib.hid hat
              have d0 : w10.cell? ⟨w7.heap.size + 1, 0, none⟩ = some (.int .i64 y.id) := Blk.cell B20.out 0
              have d11 : w10.cell? ⟨w7.heap.size + 1, 11, none⟩ = some (.int .i64 y.prio) := Blk.cell B20.out 11
              clear hown hat
              obtain ⟨cl, hrun, hcl2, -⟩ := HOWN.out.lookup_int keyedQ Try.underlying60 Try.underlying2 rfl (Maps.keyOf_int_mk Try.underlying3 HYW.out)
              have hcL : cl = L y.prio := by have h := (HAT.out y.prio HYW.out).symm.trans hcl2; injection h with h; injection h with _ h; exact h.symm
              have hlt2 : ¬ (y.id < cl) := by rw [hcL]; have := HTL.out; omega
              clear hcl2 hcL
              go_upto_region 21 with fail
              clear hrun
              go_upto_region 22 with (at_mapUpdate; refine wpList_mapUpdate_own _ rfl _ _ _ 60 rfl 3 2 keyedQ Try.underlying60 _ (w.heap.size + 3) _ D rfl HOWN.out (by unfold maxLen; omega) _ _ (.int .i64 y.prio) rfl rfl (Maps.keyOf_int_mk Try.underlying3 HYW.out) (.lit (.int .i64 y.id)) [] (plainElem_int Try.underlying2 HIDW.out) ?_; intro w11 hown11 hg11)
              have hA11 := last_put HOWN.out HAT.out hown11
              have hG11 := gr_of_grown hg11 (by omega)
              have hz11 : w.heap.size + 4 ≤ w11.heap.size := Nat.le_trans hz10 hG11.below.size
              have LA11 := Lib.hid hA11
              clear hg11 hown11 hA11 HOWN HAT D d0 d11 LA6
              replace BQ6 := Lib.hid (Gr.blk hG11 BQ6.out (by omega))
              replace PF6 := Lib.hid (Gr.blk hG11 PF6.out (by omega))
              replace FD := Lib.hid (FateAt.gr FD.out hG11 (by omega))
              replace RX7 := Lib.hid (RY.gr RX7.out hG11 (by omega))
              replace B19 := Lib.hid (Gr.blk hG11 B19.out (by omega))
              replace T6 := Lib.hid (Below.trans T6.out (Below.mono hG11.below (by omega)))
              clear hG11
              have LA6 := LA11
              go_upto_region 23 with (first
                | (refine wpList_load_blk rfl 46 _ rfl (w7.heap.size) 0 rfl [.slice a7 n7 c7, .int .i64 x.r, .int .i64 x.d] _ (Blk.range (pre := []) (post := []) B19.out rfl) Try.underlying46 rfl sizeI ?_)
                | (refine wpList_store_blk (T := 46) rfl 46 _ _ rfl (w.heap.size) 0 [] [.slice a2 n2 c2, .int .i64 x.r, .int .i64 x.d] [] [.slice a7 n7 c7, .int .i64 x.r, .int .i64 x.d] rfl rfl BQ6.out rfl rfl sizeI inb_one ?_; intro w12 b11 U11))
              have hze : w.heap.size + 4 ≤ w12.heap.size := by rw [U11.size]; exact hz11
              have BQE := Lib.hid b11
              have RXE := Lib.hid (RY.upd RX7.out U11 (by omega))
              have PFE := Lib.hid (U11.blk PF6.out (by omega))
              have FXE := Lib.hid (FD.out.far (U11.far _ (by omega)))
              have LAE := Lib.hid (LA6.out.far (U11.far _ (by omega)))
              have TE : Hid (Below w.heap.size w w12) := Below.trans T6.out (U11.below _ (Nat.le_refl _))
              clear b11 U11 BQ6 RX7 PF6 FD LA6 T6 B19
              have hlene : ((x.l.eraseIdx hi).length : Int) ≤ R := by have := erase_len (l := x.l) (ki := hi); omega
              have HSME : Hid (smallL (x.l.eraseIdx hi)) := fun z hz => HSMX.out z ((List.eraseIdx_sublist _ _).subset hz)
              have HWFE : Hid (wfL (x.l.eraseIdx hi)) := fun z hz => HWFX.out z ((List.eraseIdx_sublist _ _).subset hz)
              go_wp2_with fail
              go_roundw
              case rel => first | exact ⟨j + 1, ⟨x.l.eraseIdx hi, x.r, x.d⟩, _, _, a7, n7, c7, by go_num, by omega, HTF.out, HTLA.out, hlene, hxr, hxr1, hxd, hxd1, HSME.out, HWFE.out, BQE.out, RXE.out, PFE.out, FXE.out, LAE.out, TE.out, hze⟩ | ((repeat apply Exists.intro); exact ⟨⟨j + 1, ⟨x.l.eraseIdx hi, x.r, x.d⟩, _, _, a7, n7, c7, by go_num, by omega, HTF.out, HTLA.out, hlene, hxr, hxr1, hxd, hxd1, HSME.out, HWFE.out, BQE.out, RXE.out, PFE.out, FXE.out, LAE.out, TE.out, hze⟩, by first | rfl | exact ⟨rfl, rfl⟩ | exact ⟨rfl, rfl, rfl⟩ | exact ⟨rfl, rfl, rfl, rfl⟩ | exact ⟨rfl, rfl, rfl, rfl, rfl⟩ | exact ⟨rfl, rfl, rfl, rfl, rfl, rfl⟩⟩)
              case measure => simp [intOf]; omega
        · have htk1 : ¬ ((j : Int) < (nt : Int)) := by omega
          go_wp2_with fail
          go_roundw
          case rel => first | exact ⟨j + 1, x, F2, L, a2, n2, c2, by go_num, by omega, HFX.out, HLX.out, hlenx, hxr, hxr1, hxd, hxd1, HSMX.out, HWFX.out, BQ6.out, RX6.out, PF6.out, FX6.out, LastAt.mono LA6.out (by omega), T6.out, hz6⟩ | ((repeat apply Exists.intro); exact ⟨⟨j + 1, x, F2, L, a2, n2, c2, by go_num, by omega, HFX.out, HLX.out, hlenx, hxr, hxr1, hxd, hxd1, HSMX.out, HWFX.out, BQ6.out, RX6.out, PF6.out, FX6.out, LastAt.mono LA6.out (by omega), T6.out, hz6⟩, by first | rfl | exact ⟨rfl, rfl⟩ | exact ⟨rfl, rfl, rfl⟩ | exact ⟨rfl, rfl, rfl, rfl⟩ | exact ⟨rfl, rfl, rfl, rfl, rfl⟩ | exact ⟨rfl, rfl, rfl, rfl, rfl, rfl⟩⟩)
          case measure => simp [intOf]; omega
      · have hbe : (en != 0) = true := by rw [bne_iff_ne]; exact hen
        have HEN := Lib.hid hen
        have cpf : w4.cell? ⟨w.heap.size + 2, 0, none⟩ = some (.slice (some ⟨w.heap.size + 1, 0, none⟩) N N) := Blk.cell PF.out 0
        have cft := FT.out.cell hlt
        have fft := FT.out.free j
        rw [HF0.out] at cft
        clear hen
        go_upto_region 13 with fail
        obtain ⟨wc, hw⟩ : ∃ wc, wc = w4.setCell ⟨w.heap.size + 1, j, none⟩ (.int .i64 1) := ⟨_, rfl⟩
        have hcut : wc = if en = 0 then w4 else w4.setCell ⟨w.heap.size + 1, j, none⟩ (.int .i64 1) := hw.trans (if_neg HEN.out).symm
        rw [← hw]
        clear hw hbe cpf cft fft
        have hG : Gr (w.heap.size + 1) w4 wc := by
          rw [hcut]
          split
          · exact Gr.refl _ _
          · exact Gr.set _ _ _
        have FC : Hid (FateAt wc (w.heap.size + 1) N (if en = 0 then F else bump F j)) := by
          show FateAt _ _ _ _
          rw [hcut]
          by_cases hen : en = 0
          · rw [if_pos hen, if_pos hen]; exact FT.out
          · rw [if_neg hen, if_neg hen]; exact FT.out.bump hlt HF0.out
        have hzc : w.heap.size + 4 ≤ wc.heap.size := Nat.le_trans hz4 hG.below.size
        clear FT hcut
        replace BQ := Lib.hid (Gr.blk hG BQ.out (by omega))
        replace PF := Lib.hid (Gr.blk hG PF.out (by omega))
        replace LA := Lib.hid (LastAt.gr LA.out hG (by omega))
        replace RX2 := Lib.hid (RY.gr RX2.out hG (by omega))
        replace MX2 := Lib.hid (MY.gr MX2.out hG (by omega))
        replace B15 := Lib.hid (Gr.blk hG B15.out (by omega))
        replace B16 := Lib.hid (Gr.blk hG B16.out (by omega))
        replace T := Lib.hid (Below.trans T.out (Below.mono hG.below (by omega)))
        clear hG
        have c15 : wc.cell? ⟨w2.heap.size, 0, none⟩ = some (.slice a2 n2 c2) := Blk.cell B15.out 0
        obtain ⟨x0, x1, x2, x3, x4, x5, x6, x7, x8, x9, x10, x11, x12⟩ := Blk.cells13 B16.out
        have hn2 : (n2 : Int) ≤ R := by have := RX2.out.1; omega
        have hn3 : ¬ (R < (n2 : Int)) := by omega
        have hok : gn = true → 1 ≤ gone.id ∧ gone.id ≤ (N : Int) ∧ (if en = 0 then F else bump F j) (gone.id - 1).toNat = 0 := by
          intro hgn
          rcases HST.out with ⟨h1, -, -⟩ | ⟨-, h2, h3, h4, h5, -⟩ | ⟨h1, -, -⟩
          · rw [hgn] at h1; cases h1
          · rw [if_pos h2]
            refine ⟨h3, by omega, ?_⟩
            exact h5
          · rw [hgn] at h1; cases h1
        have HM := Lib.hid (mark_any gone [.int .i64 gone.id, .string gone.topic, .int .i64 k2, .int .i64 i2, .int .u64 b2, .string s2, .slice an2 nn2 cn2, .int .i64 gone.tat, .int .i64 gone.til, .string gone.reply, .int .i64 gone.corr, .int .i64 gone.prio, .int .i64 gone.hops] gn (w.heap.size + 2) (w.heap.size + 1) N _ _ wc MX2.out PF.out FC.out hok hN2)
        clear hok hn2
        go_wp2_with fail
        refine HM.out.mono ?_
        rintro e w5 ⟨rfl, hF2, hG5⟩
        have FD := Lib.hid hF2
        have hz5 : w.heap.size + 4 ≤ w5.heap.size := Nat.le_trans hzc hG5.below.size
        clear hF2 HM FC x0 x1 x2 x3 x4 x5 x6 x7 x8 x9 x10 x11 x12 c15 MX2
        replace BQ := Lib.hid (Gr.blk hG5 BQ.out (by omega))
        replace PF := Lib.hid (Gr.blk hG5 PF.out (by omega))
        replace LA := Lib.hid (LastAt.gr LA.out hG5 (by omega))
        replace RX2 := Lib.hid (RY.gr RX2.out hG5 (by omega))
        replace B15 := Lib.hid (Gr.blk hG5 B15.out (by omega))
        replace T := Lib.hid (Below.trans T.out (Below.mono hG5.below (by omega)))
        clear hG5
        obtain ⟨F2, hF2⟩ : ∃ F2, F2 = if gn = true then bump (if en = 0 then F else bump F j) (gone.id - 1).toNat else if en = 0 then F else bump F j := ⟨_, rfl⟩
        have FX : Hid (FateAt w5 (w.heap.size + 1) N F2) := by show FateAt _ _ _ _; rw [hF2]; exact FD.out
        have HFX : Hid (Fair x.l F2 (j + 1)) := by
          show Fair _ _ _
          rw [hF2]
          rcases HST.out with ⟨h1, h2, h3⟩ | ⟨h1, h2, -, -, -, h3⟩ | ⟨h1, h2, h3⟩
          · rw [h1, if_neg (by simp), if_pos h2]; exact h3
          · rw [h1, if_pos rfl, if_pos h2]; exact h3
          · rw [h1, if_neg (by simp), if_neg (by omega)]; exact h3
        clear hF2 FD HST
        go_upto_region 15 with fail
        go_upto_region 16 with (first
          | (refine wpList_load_blk rfl 46 _ rfl (w2.heap.size) 0 rfl [.slice a2 n2 c2, .int .i64 x.r, .int .i64 x.d] _ (Blk.range (pre := []) (post := []) B15.out rfl) Try.underlying46 rfl sizeI ?_)
          | (refine wpList_store_blk (T := 46) rfl 46 _ _ rfl (w.heap.size) 0 [] [.slice aq nq cq, .int .i64 q.r, .int .i64 q.d] [] [.slice a2 n2 c2, .int .i64 x.r, .int .i64 x.d] rfl rfl BQ.out rfl rfl sizeI inb_one ?_; intro w6 b6 U6))
        have hz6 : w.heap.size + 4 ≤ w6.heap.size := by rw [U6.size]; exact hz5
        have BQ6 := Lib.hid b6
        have RX6 := Lib.hid (RY.upd RX2.out U6 (by omega))
        have PF6 := Lib.hid (U6.blk PF.out (by omega))
        have FX6 := Lib.hid (FX.out.far (U6.far _ (by omega)))
        have LA6 := Lib.hid (LA.out.far (U6.far _ (by omega)))
        have T6 : Hid (Below w.heap.size w w6) := Below.trans T.out (U6.below _ (Nat.le_refl _))
        clear b6 U6 BQ RX2 PF FX LA T B15
        have hxr : 0 ≤ x.r := by omega
        have hxr1 : x.r ≤ ((j + 1 : Nat) : Int) := by omega
        have hxd : 0 ≤ x.d := by omega
        have hxd1 : x.d ≤ ((j + 1 : Nat) : Int) := by omega
        by_cases htk : j < nt
        · obtain ⟨gt, ot, tb, ys, rfl, hSt, -, hys, -, hrt⟩ := HTAK.out.get htk
          subst hys
          have ctk : w6.cell? ⟨gt, ot + j, none⟩ = some (.bool tb) := (T6.out.cell (p := ⟨gt, ot + j, none⟩) hSt).trans (by have := hrt 0 _ rfl; simpa using this)
          have htk1 : (j : Int) < (nt : Int) := by omega
          clear hrt
          cases tb with
          | false =>
            go_wp2_with fail
            go_roundw
            case rel => first | exact ⟨j + 1, x, F2, L, a2, n2, c2, by go_num, by omega, HFX.out, HLX.out, hlenx, hxr, hxr1, hxd, hxd1, HSMX.out, HWFX.out, BQ6.out, RX6.out, PF6.out, FX6.out, LastAt.mono LA6.out (by omega), T6.out, hz6⟩ | ((repeat apply Exists.intro); exact ⟨⟨j + 1, x, F2, L, a2, n2, c2, by go_num, by omega, HFX.out, HLX.out, hlenx, hxr, hxr1, hxd, hxd1, HSMX.out, HWFX.out, BQ6.out, RX6.out, PF6.out, FX6.out, LastAt.mono LA6.out (by omega), T6.out, hz6⟩, by first | rfl | exact ⟨rfl, rfl⟩ | exact ⟨rfl, rfl, rfl⟩ | exact ⟨rfl, rfl, rfl, rfl⟩ | exact ⟨rfl, rfl, rfl, rfl, rfl⟩ | exact ⟨rfl, rfl, rfl, rfl, rfl, rfl⟩⟩)
            case measure => simp [intOf]; omega
          | true =>
            have hp := takep_any x a2 n2 c2 _ w6 RX6.out (fun _ h => h.2) HSMX.out (by have := RX6.out.1; omega)
            by_cases h0 : x.l.length = 0
            · have hq : takeQ x = (x, zeroM, false) := by rw [takeQ, if_pos h0]
              rw [hq] at hp
              have HP := Lib.hid hp
              clear hp hq h0
              go_wp2_with (refine wpList_load_blk rfl 46 _ rfl (w.heap.size) 0 rfl [.slice a2 n2 c2, .int .i64 x.r, .int .i64 x.d] _ (Blk.range (pre := []) (post := []) BQ6.out rfl) Try.underlying46 rfl sizeI ?_)
              refine HP.out.mono ?_
              rintro e w7 ⟨a7, n7, c7, k7, i7, b7, s7, an7, nn7, cn7, rfl, hr7, hm7, hb7⟩
              dsimp only at hr7 hm7 ⊢
              have RX7 : Hid (RY w7 (w.heap.size + 4) x.l a7 n7 c7) := RM.mono hr7 (fun y hy => ⟨by have := hy.1; omega, hy.2⟩)
              have MX7 : Hid (MY w7 (w.heap.size + 4) zeroM [.int .i64 zeroM.id, .string zeroM.topic, .int .i64 k7, .int .i64 i7, .int .u64 b7, .string s7, .slice an7 nn7 cn7, .int .i64 zeroM.tat, .int .i64 zeroM.til, .string zeroM.reply, .int .i64 zeroM.corr, .int .i64 zeroM.prio, .int .i64 zeroM.hops]) := IsM.mono hm7 (fun y hy => ⟨by have := hy.1; omega, hy.2⟩)
              have hz7 : w.heap.size + 4 ≤ w7.heap.size := Nat.le_trans hz6 hb7.size
              clear hr7 hm7 HP
              replace BQ6 := Lib.hid (Blk.on BQ6.out hb7)
              replace PF6 := Lib.hid (Blk.on PF6.out hb7)
              replace FX6 := Lib.hid (FateAt.on FX6.out hb7)
              replace LA6 := Lib.hid (LastAt.on LA6.out hb7)
              replace T6 := Lib.hid (below_on hb7 T6.out)
              clear hb7
              have bia : Blk ((w7.alloc (.cells #[.slice none 0 0, .int .i64 0, .int .i64 0] 46)).alloc (.cells #[.int .i64 0, .string ByteArray.empty, .int .i64 0, .int .i64 0, .int .u64 0, .string ByteArray.empty, .slice none 0 0, .int .i64 0, .int .i64 0, .string ByteArray.empty, .int .i64 0, .int .i64 0, .int .i64 0] 48)) w7.heap.size 46 #[.slice none 0 0, .int .i64 0, .int .i64 0] := (Blk.new _ _ _).alloc _
              have bma : Blk ((w7.alloc (.cells #[.slice none 0 0, .int .i64 0, .int .i64 0] 46)).alloc (.cells #[.int .i64 0, .string ByteArray.empty, .int .i64 0, .int .i64 0, .int .u64 0, .string ByteArray.empty, .slice none 0 0, .int .i64 0, .int .i64 0, .string ByteArray.empty, .int .i64 0, .int .i64 0, .int .i64 0] 48)) (w7.heap.size + 1) 48 #[.int .i64 0, .string ByteArray.empty, .int .i64 0, .int .i64 0, .int .u64 0, .string ByteArray.empty, .slice none 0 0, .int .i64 0, .int .i64 0, .string ByteArray.empty, .int .i64 0, .int .i64 0, .int .i64 0] := Blk.new' _ _ _ (by simp)
              have HWB : Hid (Below w7.heap.size w7 ((w7.alloc (.cells #[.slice none 0 0, .int .i64 0, .int .i64 0] 46)).alloc (.cells #[.int .i64 0, .string ByteArray.empty, .int .i64 0, .int .i64 0, .int .u64 0, .string ByteArray.empty, .slice none 0 0, .int .i64 0, .int .i64 0, .string ByteArray.empty, .int .i64 0, .int .i64 0, .int .i64 0] 48))) := ((Below.refl _ _).alloc (Nat.le_refl _) _).alloc (by simp) _
              go_upto_region 18 with (first
                | (refine wpList_store_blk (T := 46) rfl 46 _ _ rfl (w7.heap.size) 0 [] [.slice none 0 0, .int .i64 0, .int .i64 0] [] [.slice a7 n7 c7, .int .i64 x.r, .int .i64 x.d] rfl rfl bia rfl rfl sizeI inb_one ?_; intro w8 b10 U8; have bmb := U8.blk bma (by omega))
                | (refine wpList_store_blk (T := 48) rfl 48 _ _ rfl (w7.heap.size + 1) 0 [] [.int .i64 0, .string ByteArray.empty, .int .i64 0, .int .i64 0, .int .u64 0, .string ByteArray.empty, .slice none 0 0, .int .i64 0, .int .i64 0, .string ByteArray.empty, .int .i64 0, .int .i64 0, .int .i64 0] [] [.int .i64 zeroM.id, .string zeroM.topic, .int .i64 k7, .int .i64 i7, .int .u64 b7, .string s7, .slice an7 nn7 cn7, .int .i64 zeroM.tat, .int .i64 zeroM.til, .string zeroM.reply, .int .i64 zeroM.corr, .int .i64 zeroM.prio, .int .i64 zeroM.hops] rfl rfl bmb rfl rfl sizeM (by simp [Value.oneCell']) ?_; intro w9 b11 U9; have b10' := U9.blk b10 (by omega)))
              have B19 := Lib.hid b10'
              have B20 := Lib.hid b11
              have b79 : Below w7.heap.size w7 w9 := (HWB.out.trans (U8.below _ (Nat.le_refl _))).trans (U9.below _ (Nat.le_succ _))
              have hz9 : w.heap.size + 4 ≤ w9.heap.size := Nat.le_trans hz7 b79.size
              replace BQ6 := Lib.hid (Blk.on BQ6.out b79)
              replace PF6 := Lib.hid (Blk.on PF6.out b79)
              replace FX6 := Lib.hid (FateAt.on FX6.out b79)
              replace LA6 := Lib.hid (LastAt.on LA6.out b79)
              replace RX7 := Lib.hid (RY.on RX7.out b79)
              replace MX7 := Lib.hid (MY.on MX7.out b79)
              replace T6 := Lib.hid (below_on b79 T6.out)
              clear b79
              clear U8 U9 bia bma bmb b10 b10' b11 HWB
              have HM := Lib.hid (mark_any zeroM [.int .i64 zeroM.id, .string zeroM.topic, .int .i64 k7, .int .i64 i7, .int .u64 b7, .string s7, .slice an7 nn7 cn7, .int .i64 zeroM.tat, .int .i64 zeroM.til, .string zeroM.reply, .int .i64 zeroM.corr, .int .i64 zeroM.prio, .int .i64 zeroM.hops] false (w.heap.size + 2) (w.heap.size + 1) N _ _ w9 MX7.out PF6.out FX6.out (fun h => by cases h) hN2)
              go_wp2_with (refine wpList_load_blk rfl 48 _ rfl (w7.heap.size + 1) 0 rfl [.int .i64 zeroM.id, .string zeroM.topic, .int .i64 k7, .int .i64 i7, .int .u64 b7, .string s7, .slice an7 nn7 cn7, .int .i64 zeroM.tat, .int .i64 zeroM.til, .string zeroM.reply, .int .i64 zeroM.corr, .int .i64 zeroM.prio, .int .i64 zeroM.hops] _ (Blk.range (pre := []) (post := []) B20.out rfl) Try.underlying48 rfl sizeM ?_)
              refine HM.out.mono ?_
              rintro e w10 ⟨rfl, hF2, hG5⟩
              have FD : Hid (FateAt w10 (w.heap.size + 1) N F2) := hF2
              have hz10 : w.heap.size + 4 ≤ w10.heap.size := Nat.le_trans hz9 hG5.below.size
              clear hF2 HM MX7
              replace BQ6 := Lib.hid (Gr.blk hG5 BQ6.out (by omega))
              replace PF6 := Lib.hid (Gr.blk hG5 PF6.out (by omega))
              replace LA6 := Lib.hid (LastAt.gr LA6.out hG5 (by omega))
              replace RX7 := Lib.hid (RY.gr RX7.out hG5 (by omega))
              replace B19 := Lib.hid (Gr.blk hG5 B19.out (by omega))
              replace T6 := Lib.hid (Below.trans T6.out (Below.mono hG5.below (by omega)))
              clear hG5
              go_upto_region 22 with fail
              go_upto_region 23 with (first
                | (refine wpList_load_blk rfl 46 _ rfl (w7.heap.size) 0 rfl [.slice a7 n7 c7, .int .i64 x.r, .int .i64 x.d] _ (Blk.range (pre := []) (post := []) B19.out rfl) Try.underlying46 rfl sizeI ?_)
                | (refine wpList_store_blk (T := 46) rfl 46 _ _ rfl (w.heap.size) 0 [] [.slice a2 n2 c2, .int .i64 x.r, .int .i64 x.d] [] [.slice a7 n7 c7, .int .i64 x.r, .int .i64 x.d] rfl rfl BQ6.out rfl rfl sizeI inb_one ?_; intro w11 b11 U11))
              have hze : w.heap.size + 4 ≤ w11.heap.size := by rw [U11.size]; exact hz10
              have BQE := Lib.hid b11
              have RXE := Lib.hid (RY.upd RX7.out U11 (by omega))
              have PFE := Lib.hid (U11.blk PF6.out (by omega))
              have FXE := Lib.hid (FD.out.far (U11.far _ (by omega)))
              have LAE := Lib.hid (LA6.out.far (U11.far _ (by omega)))
              have TE : Hid (Below w.heap.size w w11) := Below.trans T6.out (U11.below _ (Nat.le_refl _))
              clear b11 U11 BQ6 RX7 PF6 FD LA6 T6 B19
              go_wp2_with fail
              go_roundw
              case rel => first | exact ⟨j + 1, x, F2, L, a7, n7, c7, by go_num, by omega, HFX.out, HLX.out, hlenx, hxr, hxr1, hxd, hxd1, HSMX.out, HWFX.out, BQE.out, RXE.out, PFE.out, FXE.out, LastAt.mono LAE.out (by omega), TE.out, hze⟩ | ((repeat apply Exists.intro); exact ⟨⟨j + 1, x, F2, L, a7, n7, c7, by go_num, by omega, HFX.out, HLX.out, hlenx, hxr, hxr1, hxd, hxd1, HSMX.out, HWFX.out, BQE.out, RXE.out, PFE.out, FXE.out, LastAt.mono LAE.out (by omega), TE.out, hze⟩, by first | rfl | exact ⟨rfl, rfl⟩ | exact ⟨rfl, rfl, rfl⟩ | exact ⟨rfl, rfl, rfl, rfl⟩ | exact ⟨rfl, rfl, rfl, rfl, rfl⟩ | exact ⟨rfl, rfl, rfl, rfl, rfl, rfl⟩⟩)
              case measure => simp [intOf]; omega
            · obtain ⟨hq, ht1, ht2, htF, htL, htLa⟩ := take_step HFX.out HLX.out (by omega : 0 < x.l.length)
              obtain ⟨y, hy⟩ : ∃ y, y = atM x.l (highI x.l x.l.length) := ⟨_, rfl⟩
              obtain ⟨hi, hhi⟩ : ∃ hi, hi = highI x.l x.l.length := ⟨_, rfl⟩
              rw [← hy] at hq ht1 ht2 htF htL htLa
              rw [← hhi] at hq htF htLa
              rw [hq] at hp
              have hyw : (Lit.int .i64 y.prio).wf = true := HWFX.out y (by rw [hy]; exact List.mem_of_getElem? (atM_mem (highI_lt (by omega) (Nat.le_refl _))))
              have hyF : F2 (y.id - 1).toNat = 0 := HFX.out.wait y (by rw [hy]; exact List.mem_of_getElem? (atM_mem (highI_lt (by omega) (Nat.le_refl _))))
              have hidw : (Lit.int .i64 y.id).wf = true := wf_small (by omega) (by omega)
              have HP := Lib.hid hp
              have HTF := Lib.hid htF
              have HTL := Lib.hid htL
              have HTLA := Lib.hid htLa
              have HYW := Lib.hid hyw
              have HYF := Lib.hid hyF
              have HIDW := Lib.hid hidw
              clear hp hq h0 hy hhi htF htL htLa hyw hyF hidw
              go_wp2_with (refine wpList_load_blk rfl 46 _ rfl (w.heap.size) 0 rfl [.slice a2 n2 c2, .int .i64 x.r, .int .i64 x.d] _ (Blk.range (pre := []) (post := []) BQ6.out rfl) Try.underlying46 rfl sizeI ?_)
              refine HP.out.mono ?_
              rintro e w7 ⟨a7, n7, c7, k7, i7, b7, s7, an7, nn7, cn7, rfl, hr7, hm7, hb7⟩
              dsimp only at hr7 hm7 ⊢
              have RX7 : Hid (RY w7 (w.heap.size + 4) (x.l.eraseIdx hi) a7 n7 c7) := RM.mono hr7 (fun y hy => ⟨by have := hy.1; omega, hy.2⟩)
              have MX7 : Hid (MY w7 (w.heap.size + 4) y [.int .i64 y.id, .string y.topic, .int .i64 k7, .int .i64 i7, .int .u64 b7, .string s7, .slice an7 nn7 cn7, .int .i64 y.tat, .int .i64 y.til, .string y.reply, .int .i64 y.corr, .int .i64 y.prio, .int .i64 y.hops]) := IsM.mono hm7 (fun y hy => ⟨by have := hy.1; omega, hy.2⟩)
              have hz7 : w.heap.size + 4 ≤ w7.heap.size := Nat.le_trans hz6 hb7.size
              clear hr7 hm7 HP
              replace BQ6 := Lib.hid (Blk.on BQ6.out hb7)
              replace PF6 := Lib.hid (Blk.on PF6.out hb7)
              replace FX6 := Lib.hid (FateAt.on FX6.out hb7)
              replace LA6 := Lib.hid (LastAt.on LA6.out hb7)
              replace T6 := Lib.hid (below_on hb7 T6.out)
              clear hb7
              have bia : Blk ((w7.alloc (.cells #[.slice none 0 0, .int .i64 0, .int .i64 0] 46)).alloc (.cells #[.int .i64 0, .string ByteArray.empty, .int .i64 0, .int .i64 0, .int .u64 0, .string ByteArray.empty, .slice none 0 0, .int .i64 0, .int .i64 0, .string ByteArray.empty, .int .i64 0, .int .i64 0, .int .i64 0] 48)) w7.heap.size 46 #[.slice none 0 0, .int .i64 0, .int .i64 0] := (Blk.new _ _ _).alloc _
              have bma : Blk ((w7.alloc (.cells #[.slice none 0 0, .int .i64 0, .int .i64 0] 46)).alloc (.cells #[.int .i64 0, .string ByteArray.empty, .int .i64 0, .int .i64 0, .int .u64 0, .string ByteArray.empty, .slice none 0 0, .int .i64 0, .int .i64 0, .string ByteArray.empty, .int .i64 0, .int .i64 0, .int .i64 0] 48)) (w7.heap.size + 1) 48 #[.int .i64 0, .string ByteArray.empty, .int .i64 0, .int .i64 0, .int .u64 0, .string ByteArray.empty, .slice none 0 0, .int .i64 0, .int .i64 0, .string ByteArray.empty, .int .i64 0, .int .i64 0, .int .i64 0] := Blk.new' _ _ _ (by simp)
              have HWB : Hid (Below w7.heap.size w7 ((w7.alloc (.cells #[.slice none 0 0, .int .i64 0, .int .i64 0] 46)).alloc (.cells #[.int .i64 0, .string ByteArray.empty, .int .i64 0, .int .i64 0, .int .u64 0, .string ByteArray.empty, .slice none 0 0, .int .i64 0, .int .i64 0, .string ByteArray.empty, .int .i64 0, .int .i64 0, .int .i64 0] 48))) := ((Below.refl _ _).alloc (Nat.le_refl _) _).alloc (by simp) _
              go_upto_region 18 with (first
                | (refine wpList_store_blk (T := 46) rfl 46 _ _ rfl (w7.heap.size) 0 [] [.slice none 0 0, .int .i64 0, .int .i64 0] [] [.slice a7 n7 c7, .int .i64 x.r, .int .i64 x.d] rfl rfl bia rfl rfl sizeI inb_one ?_; intro w8 b10 U8; have bmb := U8.blk bma (by omega))
                | (refine wpList_store_blk (T := 48) rfl 48 _ _ rfl (w7.heap.size + 1) 0 [] [.int .i64 0, .string ByteArray.empty, .int .i64 0, .int .i64 0, .int .u64 0, .string ByteArray.empty, .slice none 0 0, .int .i64 0, .int .i64 0, .string ByteArray.empty, .int .i64 0, .int .i64 0, .int .i64 0] [] [.int .i64 y.id, .string y.topic, .int .i64 k7, .int .i64 i7, .int .u64 b7, .string s7, .slice an7 nn7 cn7, .int .i64 y.tat, .int .i64 y.til, .string y.reply, .int .i64 y.corr, .int .i64 y.prio, .int .i64 y.hops] rfl rfl bmb rfl rfl sizeM (by simp [Value.oneCell']) ?_; intro w9 b11 U9; have b10' := U9.blk b10 (by omega)))
              have B19 := Lib.hid b10'
              have B20 := Lib.hid b11
              have b79 : Below w7.heap.size w7 w9 := (HWB.out.trans (U8.below _ (Nat.le_refl _))).trans (U9.below _ (Nat.le_succ _))
              have hz9 : w.heap.size + 4 ≤ w9.heap.size := Nat.le_trans hz7 b79.size
              replace BQ6 := Lib.hid (Blk.on BQ6.out b79)
              replace PF6 := Lib.hid (Blk.on PF6.out b79)
              replace FX6 := Lib.hid (FateAt.on FX6.out b79)
              replace LA6 := Lib.hid (LastAt.on LA6.out b79)
              replace RX7 := Lib.hid (RY.on RX7.out b79)
              replace MX7 := Lib.hid (MY.on MX7.out b79)
              replace T6 := Lib.hid (below_on b79 T6.out)
              clear b79
              clear U8 U9 bia bma bmb b10 b10' b11 HWB
              have HM := Lib.hid (mark_any y [.int .i64 y.id, .string y.topic, .int .i64 k7, .int .i64 i7, .int .u64 b7, .string s7, .slice an7 nn7 cn7, .int .i64 y.tat, .int .i64 y.til, .string y.reply, .int .i64 y.corr, .int .i64 y.prio, .int .i64 y.hops] true (w.heap.size + 2) (w.heap.size + 1) N _ _ w9 MX7.out PF6.out FX6.out (fun _ => ⟨ht1, by omega, HYF.out⟩) hN2)
              go_wp2_with (refine wpList_load_blk rfl 48 _ rfl (w7.heap.size + 1) 0 rfl [.int .i64 y.id, .string y.topic, .int .i64 k7, .int .i64 i7, .int .u64 b7, .string s7, .slice an7 nn7 cn7, .int .i64 y.tat, .int .i64 y.til, .string y.reply, .int .i64 y.corr, .int .i64 y.prio, .int .i64 y.hops] _ (Blk.range (pre := []) (post := []) B20.out rfl) Try.underlying48 rfl sizeM ?_)
              refine HM.out.mono ?_
              rintro e w10 ⟨rfl, hF2, hG5⟩
              have FD : Hid (FateAt w10 (w.heap.size + 1) N (bump F2 (y.id - 1).toNat)) := hF2
              have hz10 : w.heap.size + 4 ≤ w10.heap.size := Nat.le_trans hz9 hG5.below.size
              clear hF2 HM MX7
              replace BQ6 := Lib.hid (Gr.blk hG5 BQ6.out (by omega))
              replace PF6 := Lib.hid (Gr.blk hG5 PF6.out (by omega))
              replace LA6 := Lib.hid (LastAt.gr LA6.out hG5 (by omega))
              replace RX7 := Lib.hid (RY.gr RX7.out hG5 (by omega))
              replace B19 := Lib.hid (Gr.blk hG5 B19.out (by omega))
              replace B20 := Lib.hid (Gr.blk hG5 B20.out (by omega))
              replace T6 := Lib.hid (Below.trans T6.out (Below.mono hG5.below (by omega)))
              clear hG5
              obtain ⟨D, hown, hat⟩ := LA6.out
              have HOWN := Lib.hid hown
              have HAT := Lib.hid hat
              have d0 : w10.cell? ⟨w7.heap.size + 1, 0, none⟩ = some (.int .i64 y.id) := Blk.cell B20.out 0
              have d11 : w10.cell? ⟨w7.heap.size + 1, 11, none⟩ = some (.int .i64 y.prio) := Blk.cell B20.out 11
              clear hown hat
              obtain ⟨cl, hrun, hcl2, -⟩ := HOWN.out.lookup_int keyedQ Try.underlying60 Try.underlying2 rfl (Maps.keyOf_int_mk Try.underlying3 HYW.out)
              have hcL : cl = L y.prio := by have h := (HAT.out y.prio HYW.out).symm.trans hcl2; injection h with h; injection h with _ h; exact h.symm
              have hlt2 : ¬ (y.id < cl) := by rw [hcL]; have := HTL.out; omega
              clear hcl2 hcL
              go_upto_region 21 with fail
              clear hrun
              go_upto_region 22 with (at_mapUpdate; refine wpList_mapUpdate_own _ rfl _ _ _ 60 rfl 3 2 keyedQ Try.underlying60 _ (w.heap.size + 3) _ D rfl HOWN.out (by unfold maxLen; omega) _ _ (.int .i64 y.prio) rfl rfl (Maps.keyOf_int_mk Try.underlying3 HYW.out) (.lit (.int .i64 y.id)) [] (plainElem_int Try.underlying2 HIDW.out) ?_; intro w11 hown11 hg11)
              have hA11 := last_put HOWN.out HAT.out hown11
              have hG11 := gr_of_grown hg11 (by omega)
              have hz11 : w.heap.size + 4 ≤ w11.heap.size := Nat.le_trans hz10 hG11.below.size
              have LA11 := Lib.hid hA11
              clear hg11 hown11 hA11 HOWN HAT D d0 d11 LA6
              replace BQ6 := Lib.hid (Gr.blk hG11 BQ6.out (by omega))
              replace PF6 := Lib.hid (Gr.blk hG11 PF6.out (by omega))
              replace FD := Lib.hid (FateAt.gr FD.out hG11 (by omega))
              replace RX7 := Lib.hid (RY.gr RX7.out hG11 (by omega))
              replace B19 := Lib.hid (Gr.blk hG11 B19.out (by omega))
              replace T6 := Lib.hid (Below.trans T6.out (Below.mono hG11.below (by omega)))
              clear hG11
              have LA6 := LA11
              go_upto_region 23 with (first
                | (refine wpList_load_blk rfl 46 _ rfl (w7.heap.size) 0 rfl [.slice a7 n7 c7, .int .i64 x.r, .int .i64 x.d] _ (Blk.range (pre := []) (post := []) B19.out rfl) Try.underlying46 rfl sizeI ?_)
                | (refine wpList_store_blk (T := 46) rfl 46 _ _ rfl (w.heap.size) 0 [] [.slice a2 n2 c2, .int .i64 x.r, .int .i64 x.d] [] [.slice a7 n7 c7, .int .i64 x.r, .int .i64 x.d] rfl rfl BQ6.out rfl rfl sizeI inb_one ?_; intro w12 b11 U11))
              have hze : w.heap.size + 4 ≤ w12.heap.size := by rw [U11.size]; exact hz11
              have BQE := Lib.hid b11
              have RXE := Lib.hid (RY.upd RX7.out U11 (by omega))
              have PFE := Lib.hid (U11.blk PF6.out (by omega))
              have FXE := Lib.hid (FD.out.far (U11.far _ (by omega)))
              have LAE := Lib.hid (LA6.out.far (U11.far _ (by omega)))
              have TE : Hid (Below w.heap.size w w12) := Below.trans T6.out (U11.below _ (Nat.le_refl _))
              clear b11 U11 BQ6 RX7 PF6 FD LA6 T6 B19
              have hlene : ((x.l.eraseIdx hi).length : Int) ≤ R := by have := erase_len (l := x.l) (ki := hi); omega
              have HSME : Hid (smallL (x.l.eraseIdx hi)) := fun z hz => HSMX.out z ((List.eraseIdx_sublist _ _).subset hz)
              have HWFE : Hid (wfL (x.l.eraseIdx hi)) := fun z hz => HWFX.out z ((List.eraseIdx_sublist _ _).subset hz)
              go_wp2_with fail
              go_roundw
              case rel => first | exact ⟨j + 1, ⟨x.l.eraseIdx hi, x.r, x.d⟩, _, _, a7, n7, c7, by go_num, by omega, HTF.out, HTLA.out, hlene, hxr, hxr1, hxd, hxd1, HSME.out, HWFE.out, BQE.out, RXE.out, PFE.out, FXE.out, LAE.out, TE.out, hze⟩ | ((repeat apply Exists.intro); exact ⟨⟨j + 1, ⟨x.l.eraseIdx hi, x.r, x.d⟩, _, _, a7, n7, c7, by go_num, by omega, HTF.out, HTLA.out, hlene, hxr, hxr1, hxd, hxd1, HSME.out, HWFE.out, BQE.out, RXE.out, PFE.out, FXE.out, LAE.out, TE.out, hze⟩, by first | rfl | exact ⟨rfl, rfl⟩ | exact ⟨rfl, rfl, rfl⟩ | exact ⟨rfl, rfl, rfl, rfl⟩ | exact ⟨rfl, rfl, rfl, rfl, rfl⟩ | exact ⟨rfl, rfl, rfl, rfl, rfl, rfl⟩⟩)
              case measure => simp [intOf]; omega
        · have htk1 : ¬ ((j : Int) < (nt : Int)) := by omega
          go_wp2_with fail
          go_roundw
          case rel => first | exact ⟨j + 1, x, F2, L, a2, n2, c2, by go_num, by omega, HFX.out, HLX.out, hlenx, hxr, hxr1, hxd, hxd1, HSMX.out, HWFX.out, BQ6.out, RX6.out, PF6.out, FX6.out, LastAt.mono LA6.out (by omega), T6.out, hz6⟩ | ((repeat apply Exists.intro); exact ⟨⟨j + 1, x, F2, L, a2, n2, c2, by go_num, by omega, HFX.out, HLX.out, hlenx, hxr, hxr1, hxd, hxd1, HSMX.out, HWFX.out, BQ6.out, RX6.out, PF6.out, FX6.out, LastAt.mono LA6.out (by omega), T6.out, hz6⟩, by first | rfl | exact ⟨rfl, rfl⟩ | exact ⟨rfl, rfl, rfl⟩ | exact ⟨rfl, rfl, rfl, rfl⟩ | exact ⟨rfl, rfl, rfl, rfl, rfl⟩ | exact ⟨rfl, rfl, rfl, rfl, rfl, rfl⟩⟩)
          case measure => simp [intOf]; omega
    · obtain rfl : N = j := by omega
      have cq0 : wr.cell? ⟨w.heap.size, 0, none⟩ = some (.slice aq nq cq) := Blk.cell BQ.out 0
      obtain rfl : nq = q.l.length := RQ.out.1
      have hlq : q.l.length ≤ 30 := by omega
      have hcq : cq ≤ maxLen := RQ.out.2.2.1
      have hlcq : q.l.length ≤ cq := RQ.out.2.1
      unfold maxLen at hcq
      clear hbel
      obtain ⟨we, rfl⟩ : ∃ we, we = wr := ⟨_, rfl⟩
      go_wp2_with fail
      go_loopw [125] (QeW w N q.l aq q.l.length cq) (fun i _ => q.l.length - (intOf i).toNat)
      case atStart => exact ⟨0, F, rfl, Nat.zero_le _, HFAIR.out, RQ.out, PF.out, FT.out, T.out, hsz⟩
      case round =>
        clear BQ RQ PF FT LA T hsz cq0
        obtain ⟨i, F', rfl, hi, hfair, hRQ, hPF, hFT, hbel, hsz⟩ := hrel
        have HFR := Lib.hid hfair
        have RQ := Lib.hid hRQ
        have PF := Lib.hid hPF
        have FT := Lib.hid hFT
        have T := Lib.hid hbel
        clear hfair hRQ hPF hFT hbel
        by_cases hlt2 : i < q.l.length
        · obtain ⟨g, o, x, xs, rfl, hSg, hx, hm, hxl, hr⟩ := RQ.out.get hlt2
          have HM0 := Lib.hid hm
          obtain ⟨kx, ix, bx, sx, ax, nx, cx, rfl, -, -, -⟩ := hm
          have HRR := Lib.hid hr
          have hfr := HFR.out
          rw [drop_cons hx] at hfr
          have HFC := Lib.hid hfr
          clear hr hx hxl hfr
          go_upto_region 27 with (first
            | (refine wpList_load_blk rfl 48 _ rfl g (o + i * 13) rfl [.int .i64 x.id, .string x.topic, .int .i64 kx, .int .i64 ix, .int .u64 bx, .string sx, .slice ax nx cx, .int .i64 x.tat, .int .i64 x.til, .string x.reply, .int .i64 x.corr, .int .i64 x.prio, .int .i64 x.hops] _ HRR.out Try.underlying48 rfl sizeM ?_)
            | (refine wpList_store_blk (T := 48) rfl 48 _ _ rfl (wr.heap.size) 0 [] [.int .i64 0, .string ByteArray.empty, .int .i64 0, .int .i64 0, .int .u64 0, .string ByteArray.empty, .slice none 0 0, .int .i64 0, .int .i64 0, .string ByteArray.empty, .int .i64 0, .int .i64 0, .int .i64 0] [] [.int .i64 x.id, .string x.topic, .int .i64 kx, .int .i64 ix, .int .u64 bx, .string sx, .slice ax nx cx, .int .i64 x.tat, .int .i64 x.til, .string x.reply, .int .i64 x.corr, .int .i64 x.prio, .int .i64 x.hops] rfl rfl (Blk.new _ _ _) rfl rfl sizeM (by simp [Value.oneCell']) ?_; intro w1 BX1 U1))
          have BX := Lib.hid BX1
          have hb1 : Below wr.heap.size wr w1 := ((Below.refl _ _).alloc (Nat.le_refl _) _).trans (U1.below _ (Nat.le_refl _))
          have hz1 : w.heap.size + 4 ≤ w1.heap.size := Nat.le_trans hsz hb1.size
          have MM : Hid (MY wr (w.heap.size + 4) x [.int .i64 x.id, .string x.topic, .int .i64 kx, .int .i64 ix, .int .u64 bx, .string sx, .slice ax nx cx, .int .i64 x.tat, .int .i64 x.til, .string x.reply, .int .i64 x.corr, .int .i64 x.prio, .int .i64 x.hops]) := HM0.out
          replace RQ := Lib.hid (RY.on RQ.out hb1)
          replace PF := Lib.hid (Blk.on PF.out hb1)
          replace FT := Lib.hid (FateAt.on FT.out hb1)
          replace MM := Lib.hid (MY.on MM.out hb1)
          replace T := Lib.hid (below_on hb1 T.out)
          clear hb1
          clear BX1 U1 HRR HM0
          have HM := Lib.hid (mark_any x [.int .i64 x.id, .string x.topic, .int .i64 kx, .int .i64 ix, .int .u64 bx, .string sx, .slice ax nx cx, .int .i64 x.tat, .int .i64 x.til, .string x.reply, .int .i64 x.corr, .int .i64 x.prio, .int .i64 x.hops] true (w.heap.size + 2) (w.heap.size + 1) N F' _ w1 MM.out PF.out FT.out (fun _ => ⟨(HFC.out.lo x (by simp)).1, (HFC.out.lo x (by simp)).2, HFC.out.wait x (by simp)⟩) hN2)
          go_wp2_with (refine wpList_load_blk rfl 48 _ rfl (wr.heap.size) 0 rfl [.int .i64 x.id, .string x.topic, .int .i64 kx, .int .i64 ix, .int .u64 bx, .string sx, .slice ax nx cx, .int .i64 x.tat, .int .i64 x.til, .string x.reply, .int .i64 x.corr, .int .i64 x.prio, .int .i64 x.hops] _ (Blk.range (pre := []) (post := []) BX.out rfl) Try.underlying48 rfl sizeM ?_)
          refine HM.out.mono ?_
          rintro e w2 ⟨rfl, hF2, hG⟩
          have FD : Hid (FateAt w2 (w.heap.size + 1) N (bump F' (x.id - 1).toNat)) := hF2
          have hz2 : w.heap.size + 4 ≤ w2.heap.size := Nat.le_trans hz1 hG.below.size
          clear hF2 HM MM BX FT
          replace RQ := Lib.hid (RY.gr RQ.out hG (by omega))
          replace PF := Lib.hid (Gr.blk hG PF.out (by omega))
          replace T := Lib.hid (Below.trans T.out (Below.mono hG.below (by omega)))
          clear hG
          go_wp2_with fail
          go_roundw
          case rel => first | exact ⟨i + 1, _, by go_num, by omega, HFC.out.next, RQ.out, PF.out, FD.out, T.out, hz2⟩ | ((repeat apply Exists.intro); exact ⟨⟨i + 1, _, by go_num, by omega, HFC.out.next, RQ.out, PF.out, FD.out, T.out, hz2⟩, by first | rfl | exact ⟨rfl, rfl⟩ | exact ⟨rfl, rfl, rfl⟩ | exact ⟨rfl, rfl, rfl, rfl⟩ | exact ⟨rfl, rfl, rfl, rfl, rfl⟩ | exact ⟨rfl, rfl, rfl, rfl, rfl, rfl⟩⟩)
          case measure => simp [intOf]; omega
        · obtain rfl : i = q.l.length := by omega
          have cpf : wr.cell? ⟨w.heap.size + 2, 0, none⟩ = some (.slice (some ⟨w.heap.size + 1, 0, none⟩) N N) := Blk.cell PF.out 0
          have hone : ∀ k, k < N → wr.cell? ⟨w.heap.size + 1, k, none⟩ = some (.int .i64 1) := fun k hk => by
            have h := HFR.out
            rw [List.drop_length] at h
            have hc := FT.out.cell hk
            rw [h.all k hk] at hc
            exact hc
          have HONE := Lib.hid hone
          clear hone
          go_wp2_with fail
          go_loop [136] (fun v => ∃ k : Nat, v = .int .i64 k ∧ k ≤ N) (fun v => N - (intOf v).toNat)
          case atStart => exact ⟨0, rfl, Nat.zero_le _⟩
          case round =>
            obtain ⟨k, rfl, hk⟩ := hrel
            by_cases hkn : k < N
            · have h1 := HONE.out k hkn
              have hk0 : (0 : Int) ≤ (k : Int) := by omega
              have hk1 : (k : Int) < (N : Int) := by omega
              go_wp2_with fail
              go_round
              case rel => first | exact ⟨k + 1, by go_num, by omega⟩ | ((repeat apply Exists.intro); exact ⟨⟨k + 1, by go_num, by omega⟩, by first | rfl | exact ⟨rfl, rfl⟩ | exact ⟨rfl, rfl, rfl⟩ | exact ⟨rfl, rfl, rfl, rfl⟩ | exact ⟨rfl, rfl, rfl, rfl, rfl⟩ | exact ⟨rfl, rfl, rfl, rfl, rfl, rfl⟩⟩)
              case measure => simp [intOf]; omega
            · obtain rfl : k = N := by omega
              go_wp2_with fail
              refine (awakeq_any _).mono ?_
              rintro e w19 ⟨rfl, hb19⟩
              replace T := Lib.hid (below_on hb19 T.out)
              clear hb19
              go_wp2_with fail
              go_ret
              exact ⟨rfl, T.out⟩
end Go.Proofs.Ytmdcfmdjbncaoaa
