/- BufferPuts: the walk. -/
import Derived.Test.YtmdcfmdjbncaoaaDoorBr
import Derived.Test.YtmdcfmdjbncaoaaDoorBs
namespace Go.Proofs.YtmdcfmdjbncaoaaDoor
open Go.RowKit
attribute [local go_sem ↓] Go.wp_at_zero Go.wp_at_succ
attribute [local go_sem] Go.undef

theorem fit_small {l : List MX} {since a : Int} (h : FitB l since a) : smallL l := fun m hm => validT_size (h.2.2.2.2 m hm).1
theorem put_len (l : List MX) (since a now : Int) (m : MX) : (putBuf l since a now m).1.1.length ≤ l.length + 1 ∧ (putBuf l since a now m).2.length ≤ l.length + 1 ∧ ((putBuf l since a now m).1.1 = [] ∨ (putBuf l since a now m).2 = []) := by
  unfold putBuf
  split
  · exact ⟨by simp, by simp, .inl rfl⟩
  · exact ⟨by simp, by simp, .inr rfl⟩
theorem rx_upd {w w' : World} {lo hi g : Nat} {l : List MX} {a : Option Addr} {n c : Nat} (h : RM w (Btw lo hi) l a n c) (U : Upd g w w') (hg : g < lo ∨ hi ≤ g) (hh : hi ≤ w.heap.size) : RX w' l a n c :=
  RM.mono (S := Btw lo hi) (RowsOf.map h (fun x _ _ hx => IsM.keep hx (fun _ h => h) fun b hb j => U.cell (by have := hb.1; have := hb.2; omega)) (fun _ h => h) fun b hb j => U.cell (by have := hb.1; have := hb.2; omega)) fun b hb => by rw [U.size]; exact Nat.lt_of_lt_of_le hb.2 hh

set_option maxHeartbeats 16000000 in
set_option maxRecDepth 100000 in
theorem bputs_go (l : List MX) (since a0 now : Int) (m : MX) (cs : List Value) (a : Option Addr) (n c : Nat) (w : World) (hrow : RX w l a n c) (hm : MXs w m cs) (hT : Tabs w) :
    Calls Tryd.prog 3 #[.agg #[.slice a n c, .int .i64 since], .int .i64 a0, .int .i64 now, .agg cs.toArray] w fun e w' => e = .returned (.bool true) ∧ Below w.heap.size w w' := by
  obtain rfl : n = l.length := hrow.1
  have hm0 := hm
  obtain ⟨k, i, b, s, am, nm, cm, rfl, -, -, -⟩ := hm
  obtain ⟨W, hWd⟩ : ∃ W, W = (w.alloc (.cells #[.slice a l.length c, .int .i64 since] 24)).alloc (.cells #[.int .i64 m.id, .string m.topic, .int .i64 k, .int .i64 i, .int .u64 b, .string s, .slice am nm cm, .int .i64 m.tat, .int .i64 m.til, .string m.reply, .int .i64 m.corr, .int .i64 m.prio, .int .i64 m.hops] 30) := ⟨_, rfl⟩
  have hW : Below w.heap.size w W := by rw [hWd]; go_grown
  have B4 : Hid (Blk W w.heap.size 24 #[.slice a l.length c, .int .i64 since]) := by show Blk _ _ _ _; rw [hWd]; exact (Blk.new _ _ _).alloc _
  have B7 : Hid (Blk W (w.heap.size + 1) 30 #[.int .i64 m.id, .string m.topic, .int .i64 k, .int .i64 i, .int .u64 b, .string s, .slice am nm cm, .int .i64 m.tat, .int .i64 m.til, .string m.reply, .int .i64 m.corr, .int .i64 m.prio, .int .i64 m.hops]) := by show Blk _ _ _ _; rw [hWd]; exact Blk.new' _ _ _ (by simp)
  have HROW := Lib.hid hrow
  have HM := Lib.hid hm0
  have HTB := Lib.hid hT
  have T : Hid (Below w.heap.size w W) := hW
  have HWD := Lib.hid hWd
  clear hrow hm0 hT hW hWd
  go_enter Tryd.func3, Tryd.ntmps3
  go_upto_region 1 with fail
  show Code.wp _ _ _ _ ((w.alloc (.cells #[.slice a l.length c, .int .i64 since] 24)).alloc (.cells #[.int .i64 m.id, .string m.topic, .int .i64 k, .int .i64 i, .int .u64 b, .string s, .slice am nm cm, .int .i64 m.tat, .int .i64 m.til, .string m.reply, .int .i64 m.corr, .int .i64 m.prio, .int .i64 m.hops] 30))
  rw [← HWD.out]
  clear HWD
  have HF := Lib.hid (fitlaw_any l since a0 0 now a l.length c W _ (HROW.out.on T.out) (fun _ h => h) (HTB.out.on T.out))
  go_wp2_with (refine wpList_load_blk rfl 24 _ rfl (w.heap.size) 0 rfl [.slice a l.length c, .int .i64 since] _ (Blk.range (pre := []) (post := []) B4.out rfl) Tryd.underlying24 rfl sizeB ?_)
  refine HF.out.mono ?_
  rintro e w1 ⟨fb, rfl, hfb, hb1⟩
  clear HF
  replace B4 := Lib.hid (Blk.on B4.out hb1)
  replace B7 := Lib.hid (Blk.on B7.out hb1)
  replace T := Lib.hid (below_on hb1 T.out)
  clear hb1
  cases fb with
  | false =>
    clear hfb
    go_wp2_with fail
    refine (awakeb_any _).mono ?_
    rintro e w2 ⟨rfl, hb2⟩
    replace T := Lib.hid (below_on hb2 T.out)
    clear hb2
    go_wp2_with fail
    go_ret
    exact ⟨rfl, T.out⟩
  | true =>
  obtain ⟨hf1, hf2, -, -, hf5, hf6, hf7⟩ := hfb rfl
  have FIT := Lib.hid hf7
  have hlen : (l.length : Int) < a0 := hf7.1
  have hln : l.length ≤ 999 := by omega
  clear hfb hf5 hf6 hf7
  have HF := Lib.hid (fitmsg_any m w1 _ [.int .i64 m.id, .string m.topic, .int .i64 k, .int .i64 i, .int .u64 b, .string s, .slice am nm cm, .int .i64 m.tat, .int .i64 m.til, .string m.reply, .int .i64 m.corr, .int .i64 m.prio, .int .i64 m.hops] (HM.out.on T.out) (fun _ h => h) (HTB.out.on T.out))
  obtain ⟨x0, x1, x2, x3, x4, x5, x6, x7, x8, x9, x10, x11, x12⟩ := Blk.cells13 B7.out
  go_wp2_with fail
  refine HF.out.mono ?_
  rintro e w2 ⟨fb, rfl, hfb, hb2⟩
  clear x0 x1 x2 x3 x4 x5 x6 x7 x8 x9 x10 x11 x12
  clear HF
  replace B4 := Lib.hid (Blk.on B4.out hb2)
  replace B7 := Lib.hid (Blk.on B7.out hb2)
  replace T := Lib.hid (below_on hb2 T.out)
  clear hb2
  cases fb with
  | false =>
    clear hfb
    go_wp2_with fail
    refine (awakeb_any _).mono ?_
    rintro e w3 ⟨rfl, hb3⟩
    replace T := Lib.hid (below_on hb3 T.out)
    clear hb3
    go_wp2_with fail
    go_ret
    exact ⟨rfl, T.out⟩
  | true =>
  have hz := validT_size (hfb rfl).1
  clear hfb
  go_upto_region 3 with fail
  rename_i KK hKK
  have REST : ∀ (G : Nat) (a3 : Option Addr) (c3 : Nat) (v14 v15 v16 v17 v18 v19 v20 v21 v22 v23 v24 v25 v26 v27 v28 v29 v30 : Value) (w3 : World), Blk w3 w.heap.size 24 #[.slice a l.length c, .int .i64 since] → Blk w3 (w.heap.size + 1) 30 #[.int .i64 m.id, .string m.topic, .int .i64 k, .int .i64 i, .int .u64 b, .string s, .slice am nm cm, .int .i64 m.tat, .int .i64 m.til, .string m.reply, .int .i64 m.corr, .int .i64 m.prio, .int .i64 m.hops] → Blk w3 G 24 #[.slice a3 l.length c3, .int .i64 since] → RX w3 l a3 l.length c3 → Below w.heap.size w w3 →
      KK ⟨#[.agg #[.slice a l.length c, .int .i64 since], .int .i64 a0, .int .i64 now, .agg #[.int .i64 m.id, .string m.topic, .int .i64 k, .int .i64 i, .int .u64 b, .string s, .slice am nm cm, .int .i64 m.tat, .int .i64 m.til, .string m.reply, .int .i64 m.corr, .int .i64 m.prio, .int .i64 m.hops], .pointer (some ⟨w.heap.size, 0, none⟩), .tuple #[], .tuple #[], .pointer (some ⟨w.heap.size + 1, 0, none⟩), .bool false, .pointer (some ⟨G, 0, none⟩), .tuple #[], .tuple #[], .tuple #[], .tuple #[], v14, v15, v16, v17, v18, v19, v20, v21, v22, v23, v24, v25, v26, v27, v28, v29, v30, .tuple #[], .tuple #[], .tuple #[], .tuple #[], .tuple #[], .tuple #[], .tuple #[], .tuple #[], .tuple #[], .tuple #[], .tuple #[], .tuple #[], .tuple #[], .tuple #[], .tuple #[], .tuple #[], .tuple #[], .tuple #[], .tuple #[], .tuple #[], .tuple #[], .tuple #[], .tuple #[], .tuple #[], .tuple #[], .tuple #[], .tuple #[], .tuple #[], .tuple #[], .tuple #[], .tuple #[], .tuple #[], .tuple #[], .tuple #[], .tuple #[], .tuple #[], .tuple #[], .tuple #[]], []⟩ w3 := by
    intro G a3 c3 v14 v15 v16 v17 v18 v19 v20 v21 v22 v23 v24 v25 v26 v27 v28 v29 v30 w3 b4 b7 b9 ro t3
    replace B4 := Lib.hid b4
    replace B7 := Lib.hid b7
    have B9 := Lib.hid b9
    have RO := Lib.hid ro
    replace T := Lib.hid t3
    have TT : Hid (Below w3.heap.size w3 w3) := Below.refl _ _
    clear b4 b7 b9 ro t3
    refine hKK _ _ ?_
    clear hKK
    go_upto_region 4 with fail
    rename_i K4 hK4
    obtain ⟨X, hX⟩ : ∃ X, X = putBuf l since a0 now m := ⟨_, rfl⟩
    have hXL := put_len l since a0 now m
    rw [← hX] at hXL
    obtain ⟨hx1, hx2, hx3⟩ := hXL
    have HX := Lib.hid hX
    have HXE := Lib.hid hx3
    clear hX hx3
    have REST4 : ∀ (G2 Bp Tp : Nat) (a4 : Option Addr) (c4 : Nat) (ao : Option Addr) (co : Nat) (v31 v32 v33 v34 v35 v36 v37 v38 v39 : Value) (w4 : World), w3.heap.size ≤ Bp → Below w3.heap.size w3 w4 → Blk w4 G2 24 #[.slice a4 X.1.1.length c4, .int .i64 X.1.2] → OwnT w4 Bp Tp X.1.1 (.slice a4 X.1.1.length c4) → OwnT w4 Bp Tp X.2 (.slice ao X.2.length co) →
        K4 ⟨#[.agg #[.slice a l.length c, .int .i64 since], .int .i64 a0, .int .i64 now, .agg #[.int .i64 m.id, .string m.topic, .int .i64 k, .int .i64 i, .int .u64 b, .string s, .slice am nm cm, .int .i64 m.tat, .int .i64 m.til, .string m.reply, .int .i64 m.corr, .int .i64 m.prio, .int .i64 m.hops], .pointer (some ⟨w.heap.size, 0, none⟩), .tuple #[], .tuple #[], .pointer (some ⟨w.heap.size + 1, 0, none⟩), .bool false, .pointer (some ⟨G, 0, none⟩), .pointer (some ⟨G2, 0, none⟩), .slice ao X.2.length co, .tuple #[], .tuple #[], v14, v15, v16, v17, v18, v19, v20, v21, v22, v23, v24, v25, v26, v27, v28, v29, v30, v31, v32, v33, v34, v35, v36, v37, v38, v39, .tuple #[], .tuple #[], .tuple #[], .tuple #[], .tuple #[], .tuple #[], .tuple #[], .tuple #[], .tuple #[], .tuple #[], .tuple #[], .tuple #[], .tuple #[], .tuple #[], .tuple #[], .tuple #[], .tuple #[], .tuple #[], .tuple #[], .tuple #[], .tuple #[], .tuple #[], .tuple #[], .tuple #[], .tuple #[], .tuple #[], .tuple #[], .tuple #[], .tuple #[]], []⟩ w4 := by
      intro G2 Bp Tp a4 c4 ao co v31 v32 v33 v34 v35 v36 v37 v38 v39 w4 hBp tt b10 os oo
      replace TT := Lib.hid tt
      have B10 := Lib.hid b10
      have OS := Lib.hid os
      have OO := Lib.hid oo
      have HBP := Lib.hid hBp
      clear tt b10 os oo hBp
      refine hK4 _ _ ?_
      clear hK4
      have hp := putbr_any l since a0 now m [.int .i64 m.id, .string m.topic, .int .i64 k, .int .i64 i, .int .u64 b, .string s, .slice am nm cm, .int .i64 m.tat, .int .i64 m.til, .string m.reply, .int .i64 m.corr, .int .i64 m.prio, .int .i64 m.hops] a l.length c _ w4 (HROW.out.on (T.out.trans (TT.out.mono T.out.size))) (fun _ h => h) (fit_small FIT.out) (by omega) (HM.out.on (T.out.trans (TT.out.mono T.out.size))) hz hlen
      rw [← HX.out] at hp
      have HP := Lib.hid hp
      have B4' := Lib.hid (Blk.on B4.out TT.out)
      have B7' := Lib.hid (Blk.on B7.out TT.out)
      clear hp HX
      go_wp2_with (first
        | (refine wpList_load_blk rfl 24 _ rfl (w.heap.size) 0 rfl [.slice a l.length c, .int .i64 since] _ (Blk.range (pre := []) (post := []) B4'.out rfl) Tryd.underlying24 rfl sizeB ?_)
        | (refine wpList_load_blk rfl 30 _ rfl (w.heap.size + 1) 0 rfl [.int .i64 m.id, .string m.topic, .int .i64 k, .int .i64 i, .int .u64 b, .string s, .slice am nm cm, .int .i64 m.tat, .int .i64 m.til, .string m.reply, .int .i64 m.corr, .int .i64 m.prio, .int .i64 m.hops] _ (Blk.range (pre := []) (post := []) B7'.out rfl) Tryd.underlying30 rfl sizeM ?_))
      refine HP.out.mono ?_
      rintro e w5 ⟨a6, c6, ao6, co6, rfl, hs6, ho6, hb5⟩
      clear HP B4' B7'
      have RT := Lib.hid (OwnM.rx hs6)
      have RW := Lib.hid (OwnM.rx ho6)
      clear hs6 ho6
      replace B10 := Lib.hid (Blk.on B10.out hb5)
      replace OS := Lib.hid (OwnT.on OS.out hb5)
      replace OO := Lib.hid (OwnT.on OO.out hb5)
      replace TT := Lib.hid (below_on hb5 TT.out)
      clear hb5
      have bn5 : Blk (w5.alloc (.cells #[.slice none 0 0, .int .i64 0] 24)) w5.heap.size 24 #[.slice none 0 0, .int .i64 0] := Blk.new _ _ _
      go_upto_region 6 with (refine wpList_store_blk (T := 24) rfl 24 _ _ rfl (w5.heap.size) 0 [] [.slice none 0 0, .int .i64 0] [] [.slice a6 X.1.1.length c6, .int .i64 X.1.2] rfl rfl bn5 rfl rfl sizeB buf_one' ?_; intro w6 b12 U6)
      have hb6 : Below w5.heap.size w5 w6 := ((Below.refl _ _).alloc (Nat.le_refl _) _).trans (U6.below _ (Nat.le_refl _))
      replace B10 := Lib.hid (Blk.on B10.out hb6)
      replace OS := Lib.hid (OwnT.on OS.out hb6)
      replace OO := Lib.hid (OwnT.on OO.out hb6)
      replace RT := Lib.hid (RX.on RT.out hb6)
      replace RW := Lib.hid (RX.on RW.out hb6)
      replace TT := Lib.hid (below_on hb6 TT.out)
      clear hb6
      have B12 := Lib.hid b12
      have HSB := Lib.hid (sameb_yes X.1.1 X.1.2 a4 a6 _ _ c4 c6 _ _ w6 (OwnM.rx OS.out.own) RT.out (fun _ h => h) (fun _ h => h) (by omega))
      clear b12 U6 bn5
      go_wp2_with (first
        | (refine wpList_load_blk rfl 24 _ rfl (G2) 0 rfl [.slice a4 X.1.1.length c4, .int .i64 X.1.2] _ (Blk.range (pre := []) (post := []) B10.out rfl) Tryd.underlying24 rfl sizeB ?_)
        | (refine wpList_load_blk rfl 24 _ rfl (w5.heap.size) 0 rfl [.slice a6 X.1.1.length c6, .int .i64 X.1.2] _ (Blk.range (pre := []) (post := []) B12.out rfl) Tryd.underlying24 rfl sizeB ?_))
      refine HSB.out.mono ?_
      rintro e w7 ⟨rfl, hb7⟩
      clear HSB B12 RT
      replace B10 := Lib.hid (Blk.on B10.out hb7)
      replace OS := Lib.hid (OwnT.on OS.out hb7)
      replace OO := Lib.hid (OwnT.on OO.out hb7)
      replace RW := Lib.hid (RX.on RW.out hb7)
      replace TT := Lib.hid (below_on hb7 TT.out)
      clear hb7
      have HSM := Lib.hid (samemsgs_yes X.2 ao ao6 _ _ co co6 _ _ w7 (OwnM.rx OO.out.own) RW.out (fun _ h => h) (fun _ h => h) (by omega))
      go_wp2_with fail
      refine HSM.out.mono ?_
      rintro e w8 ⟨rfl, hb8⟩
      clear HSM RW
      replace B10 := Lib.hid (Blk.on B10.out hb8)
      replace OS := Lib.hid (OwnT.on OS.out hb8)
      replace OO := Lib.hid (OwnT.on OO.out hb8)
      replace TT := Lib.hid (below_on hb8 TT.out)
      clear hb8
      have hsp : ∃ B1 T1, w3.heap.size ≤ B1 ∧ (0 < X.1.1.length → OwnT w8 B1 T1 X.1.1 (.slice a4 X.1.1.length c4)) ∧ (0 < X.2.length → Tp ≤ B1) := by
        rcases HXE.out with h | h
        · exact ⟨w8.heap.size, w8.heap.size, TT.out.size, fun h2 => by rw [h] at h2; exact absurd h2 (by simp), fun _ => OO.out.lt⟩
        · exact ⟨Bp, Tp, HBP.out, fun _ => OS.out, fun h2 => by rw [h] at h2; exact absurd h2 (by simp)⟩
      obtain ⟨B1, T1, hB1, hS1, hO1⟩ := hsp
      have HSP := Lib.hid (spoil_any X.1.1 a4 c4 B1 T1 w8 hS1 (by omega))
      have HB1 := Lib.hid hB1
      have HO1 := Lib.hid hO1
      have c10 := Blk.cell B10.out 0
      clear hS1 hB1 hO1 B10 OS
      go_wp2_with fail
      refine HSP.out.mono ?_
      rintro e w9 ⟨rfl, hk9⟩
      replace TT := Lib.hid (Below.trans TT.out (hk9.below.mono HB1.out))
      have HSP2 := Lib.hid (spoil_any X.2 ao co Bp Tp w9 (fun h => OO.out.spk hk9 (.inl (HO1.out h))) (by omega))
      clear HSP OO HO1 HB1 c10 hk9
      go_wp2_with fail
      refine HSP2.out.mono ?_
      rintro e w10 ⟨rfl, hk10⟩
      replace TT := Lib.hid (Below.trans TT.out (hk10.below.mono HBP.out))
      clear HSP2 hk10
      have B4' := Lib.hid (Blk.on B4.out TT.out)
      have B9' := Lib.hid (Blk.on B9.out TT.out)
      have HSB := Lib.hid (sameb_yes l since a3 a l.length l.length c3 c _ _ w10 (RX.on RO.out TT.out) (HROW.out.on (T.out.trans (TT.out.mono T.out.size))) (fun _ h => h) (fun _ h => h) (by omega))
      go_wp2_with (first
        | (refine wpList_load_blk rfl 24 _ rfl (G) 0 rfl [.slice a3 l.length c3, .int .i64 since] _ (Blk.range (pre := []) (post := []) B9'.out rfl) Tryd.underlying24 rfl sizeB ?_)
        | (refine wpList_load_blk rfl 24 _ rfl (w.heap.size) 0 rfl [.slice a l.length c, .int .i64 since] _ (Blk.range (pre := []) (post := []) B4'.out rfl) Tryd.underlying24 rfl sizeB ?_))
      refine HSB.out.mono ?_
      rintro e w11 ⟨rfl, hb11⟩
      clear HSB B4' B9'
      replace TT := Lib.hid (below_on hb11 TT.out)
      clear hb11
      go_wp2_with fail
      refine (awakeb_any _).mono ?_
      rintro e w12 ⟨rfl, hb12⟩
      replace TT := Lib.hid (below_on hb12 TT.out)
      clear hb12
      go_wp2_with fail
      go_ret
      exact ⟨rfl, T.out.trans (TT.out.mono T.out.size)⟩
    refine wp_region_held_drew (S := (fun w' => Blk w' (w.heap.size + 1) 30 #[.int .i64 m.id, .string m.topic, .int .i64 k, .int .i64 i, .int .u64 b, .string s, .slice am nm cm, .int .i64 m.tat, .int .i64 m.til, .string m.reply, .int .i64 m.corr, .int .i64 m.prio, .int .i64 m.hops] ∧ Blk w' G 24 #[.slice a3 l.length c3, .int .i64 since])) (by kernel_rfl) ?_ (fun hHeld => ?_)
    · exact ⟨B7.out.drew, B9.out.drew⟩
    obtain ⟨W1, hW1⟩ : ∃ W1, W1 = w3.drew := ⟨_, rfl⟩
    have tt := TT.out.drew
    rw [← hW1] at hHeld tt ⊢
    replace TT := Lib.hid tt
    have hs0 : w3.heap.size ≤ W1.heap.size := tt.size
    clear hW1 tt
    refine wpAnyH_take (i := 0) (v := .agg #[.slice a3 l.length c3, .int .i64 since]) rfl (by kernel_rfl) (by kernel_rfl) (by kernel_rfl) (fun _ _ _ h => h) (yieldsIf_load_mid (by rfl) 24 _ rfl (G) (0) (by rfl) [.slice a3 l.length c3, .int .i64 since] _ (fun w' h => Blk.range (pre := []) (post := []) h.2 rfl) Tryd.underlying24 rfl sizeB) hHeld ?_
    try simp only [Act.put, List.getElem_toArray, List.getElem_cons_zero, List.setIfInBounds_toArray, List.set_cons_zero, List.set_cons_succ]
    refine wpAnyH_take (i := 1) (v := ?_) rfl (by kernel_rfl) (by kernel_rfl) (by kernel_rfl) (fun _ _ _ h => h) (Or.inl ⟨by rfl, ?_⟩) hHeld ?_
    rotate_left
    · intro w hSw
      try dsimp only at hSw
      first | (go_simp; done) | (go_simp; with_reducible rfl)
    try simp only [Act.put, List.getElem_toArray, List.getElem_cons_zero, List.getElem_cons_succ, List.setIfInBounds_toArray, List.set_cons_zero, List.set_cons_succ]
    refine wpAnyH_take (i := 2) (v := ?_) rfl (by kernel_rfl) (by kernel_rfl) (by kernel_rfl) (fun _ _ _ h => h) (Or.inl ⟨by rfl, ?_⟩) hHeld ?_
    rotate_left
    · intro w hSw
      try dsimp only at hSw
      first | (go_simp; done) | (go_simp; with_reducible rfl)
    try simp only [Act.put, List.getElem_toArray, List.getElem_cons_zero, List.getElem_cons_succ, List.setIfInBounds_toArray, List.set_cons_zero, List.set_cons_succ]
    refine wpAnyH_take (i := 3) (v := .agg #[.int .i64 m.id, .string m.topic, .int .i64 k, .int .i64 i, .int .u64 b, .string s, .slice am nm cm, .int .i64 m.tat, .int .i64 m.til, .string m.reply, .int .i64 m.corr, .int .i64 m.prio, .int .i64 m.hops]) rfl (by kernel_rfl) (by kernel_rfl) (by kernel_rfl) (fun _ _ _ h => h) (yieldsIf_load_mid (by rfl) 30 _ rfl (w.heap.size + 1) (0) (by rfl) [.int .i64 m.id, .string m.topic, .int .i64 k, .int .i64 i, .int .u64 b, .string s, .slice am nm cm, .int .i64 m.tat, .int .i64 m.til, .string m.reply, .int .i64 m.corr, .int .i64 m.prio, .int .i64 m.hops] _ (fun w' h => Blk.range (pre := []) (post := []) h.1 rfl) Tryd.underlying30 rfl sizeM) hHeld ?_
    try simp only [Act.put, List.getElem_toArray, List.getElem_cons_zero, List.getElem_cons_succ, List.setIfInBounds_toArray, List.set_cons_zero, List.set_cons_succ]
    refine wpAnyH_ready (rs := [4, 9]) (by kernel_rfl) (by simp) ?_
    refine AllReadyH.cons rfl (fun K hK => ?_) (AllReadyH.cons rfl (fun K hK => ?_) AllReadyH.nil)
    · go_simp
      go_at_call 15
      refine (copymsg_any m W1 _ [.int .i64 m.id, .string m.topic, .int .i64 k, .int .i64 i, .int .u64 b, .string s, .slice am nm cm, .int .i64 m.tat, .int .i64 m.til, .string m.reply, .int .i64 m.corr, .int .i64 m.prio, .int .i64 m.hops] (HM.out.on (T.out.trans (TT.out.mono T.out.size))) (fun _ h => h) hz).mono ?_
      rintro e w5 ⟨k3, i3, b3, s3, am3, nm3, cm3, rfl, hm3, hb⟩
      have HM3 : Hid (MXs w5 m [.int .i64 m.id, .string m.topic, .int .i64 k3, .int .i64 i3, .int .u64 b3, .string s3, .slice am3 nm3 cm3, .int .i64 m.tat, .int .i64 m.til, .string m.reply, .int .i64 m.corr, .int .i64 m.prio, .int .i64 m.hops]) := IsM.mono hm3.ism (fun _ h => h.2)
      have hl4 := hb.size
      clear hm3
      refine hK.out _ _ ⟨Blk.on hHeld.1 hb, Blk.on hHeld.2 hb⟩ (fun hHeld2 => ?_)
      clear hHeld hK K
      have hHeld := hHeld2
      clear hHeld2
      try simp only [Act.put, List.getElem_toArray, List.getElem_cons_zero, List.getElem_cons_succ, List.setIfInBounds_toArray, List.set_cons_zero, List.set_cons_succ]
      replace TT := Lib.hid (below_on hb TT.out)
      clear hb
      refine wpAnyH_ready (rs := [5, 9]) (by kernel_rfl) (by simp) ?_
      refine AllReadyH.cons rfl (fun K hK => ?_) (AllReadyH.cons rfl (fun K hK => ?_) AllReadyH.nil)
      · have hp := putbp_any l since a0 now m [.int .i64 m.id, .string m.topic, .int .i64 k3, .int .i64 i3, .int .u64 b3, .string s3, .slice am3 nm3 cm3, .int .i64 m.tat, .int .i64 m.til, .string m.reply, .int .i64 m.corr, .int .i64 m.prio, .int .i64 m.hops] a3 l.length c3 _ w5 (RX.on RO.out TT.out) (fun _ h => h) (fit_small FIT.out) (by omega) HM3.out hz
        rw [← HX.out] at hp
        go_simp
        go_at_call 14
        refine hp.mono ?_
        clear hp
        rintro e w6 ⟨a4, c4, ao, co, rfl, os, oo, hb⟩
        have hl5 := hb.size
        have OS := Lib.hid (OwnT.of os rfl)
        have OO := Lib.hid (OwnT.of oo rfl)
        clear os oo
        refine hK.out _ _ ⟨Blk.on hHeld.1 hb, Blk.on hHeld.2 hb⟩ (fun hHeld2 => ?_)
        clear hHeld hK K
        have hHeld := hHeld2
        clear hHeld2
        try simp only [Act.put, List.getElem_toArray, List.getElem_cons_zero, List.getElem_cons_succ, List.setIfInBounds_toArray, List.set_cons_zero, List.set_cons_succ]
        replace TT := Lib.hid (below_on hb TT.out)
        clear hb
        refine wpAnyH_take (i := 6) (v := ?_) rfl (by kernel_rfl) (by kernel_rfl) (by kernel_rfl) (fun _ _ _ h => h) (Or.inl ⟨by rfl, ?_⟩) hHeld ?_
        rotate_left
        · intro w hSw
          try dsimp only at hSw
          first | (go_simp; done) | (go_simp; with_reducible rfl)
        try simp only [Act.put, List.getElem_toArray, List.getElem_cons_zero, List.getElem_cons_succ, List.setIfInBounds_toArray, List.set_cons_zero, List.set_cons_succ]
        refine wpAnyH_take (i := 7) (v := ?_) rfl (by kernel_rfl) (by kernel_rfl) (by kernel_rfl) (fun _ _ _ h => h) (Or.inl ⟨by rfl, ?_⟩) hHeld ?_
        rotate_left
        · intro w hSw
          try dsimp only at hSw
          first | (go_simp; done) | (go_simp; with_reducible rfl)
        try simp only [Act.put, List.getElem_toArray, List.getElem_cons_zero, List.getElem_cons_succ, List.setIfInBounds_toArray, List.set_cons_zero, List.set_cons_succ]
        refine wpAnyH_take (i := 8) (v := ?_) rfl (by kernel_rfl) (by kernel_rfl) (by kernel_rfl) (fun _ _ _ h => h) (Or.inl ⟨by rfl, ?_⟩) hHeld ?_
        rotate_left
        · intro w hSw
          try dsimp only at hSw
          first | (go_simp; done) | (go_simp; with_reducible rfl)
        try simp only [Act.put, List.getElem_toArray, List.getElem_cons_zero, List.getElem_cons_succ, List.setIfInBounds_toArray, List.set_cons_zero, List.set_cons_succ]
        refine wpAnyH_ready (rs := [9]) (by kernel_rfl) (by simp) ?_
        refine AllReadyH.cons rfl (fun K hK => ?_) AllReadyH.nil
        go_simp
        refine hK.out _ _ ⟨Blk.alloc hHeld.1 _, Blk.alloc hHeld.2 _⟩ (fun hHeld2 => ?_)
        clear hHeld hK K
        have hHeld := hHeld2
        clear hHeld2
        try simp only [Act.put, List.getElem_toArray, List.getElem_cons_zero, List.getElem_cons_succ, List.setIfInBounds_toArray, List.set_cons_zero, List.set_cons_succ]
        obtain ⟨wa, hwa⟩ : ∃ wa, wa = w6.alloc (.cells #[.slice none 0 0, .int .i64 0] 24) := ⟨_, rfl⟩
        rw [← hwa] at hHeld ⊢
        have hla : w6.heap.size + 1 ≤ wa.heap.size := by rw [hwa]; simp
        obtain ⟨G2, hG⟩ : ∃ G2, G2 = w6.heap.size := ⟨_, rfl⟩
        rw [← hG]
        have BG := Blk.new w6 24 #[.slice none 0 0, .int .i64 0]
        rw [← hwa] at BG
        rw [← hG] at BG
        replace BG := Lib.hid BG
        have hG1 := Nat.le_of_eq hG
        have hG2 := Nat.le_of_eq hG.symm
        have hba : Below w6.heap.size w6 wa := by rw [hwa]; exact (Below.refl _ _).alloc (Nat.le_refl _) _
        clear hG hwa
        replace TT := Lib.hid (below_on hba TT.out)
        replace OS := Lib.hid (OwnT.on OS.out hba)
        replace OO := Lib.hid (OwnT.on OO.out hba)
        clear hba
        refine wpAnyH_ready (rs := [10]) (by kernel_rfl) (by simp) ?_
        refine AllReadyH.cons rfl (fun K hK => ?_) AllReadyH.nil
        refine step_store_blk (T := 24) (by rfl) 24 _ _ (by rfl) G2 0 [] [.slice none 0 0, .int .i64 0] [] [.slice a4 X.1.1.length c4, .int .i64 X.1.2] (by rfl) (by rfl) BG.out rfl rfl sizeB buf_one' (fun w7 b7 U7 => ?_)
        have hne : G2 ≠ w.heap.size + 1 := by have := Blk.lt B7.out; omega
        have hne2 : G2 ≠ G := by have := Blk.lt B9.out; omega
        refine hK.out _ _ ⟨U7.blk hHeld.1 (Ne.symm hne), U7.blk hHeld.2 (Ne.symm hne2)⟩ (fun hHeld2 => ?_)
        clear hHeld hK K
        have hHeld := hHeld2
        clear hHeld2
        try simp only [Act.put, List.getElem_toArray, List.getElem_cons_zero, List.getElem_cons_succ]
        refine wpAnyH_take (i := 11) (v := ?_) rfl (by kernel_rfl) (by kernel_rfl) (by kernel_rfl) (fun _ _ _ h => h) (Or.inl ⟨by rfl, ?_⟩) hHeld ?_
        rotate_left
        · intro w hSw
          try dsimp only at hSw
          first | (go_simp; done) | (go_simp; with_reducible rfl)
        try simp only [Act.put, List.getElem_toArray, List.getElem_cons_zero, List.getElem_cons_succ, List.setIfInBounds_toArray, List.set_cons_zero, List.set_cons_succ]
        refine wpAnyH_done (by kernel_rfl) ?_ _
        refine REST4 G2 _ _ a4 c4 ao co _ _ _ _ _ _ _ _ _ w7 (by omega) (TT.out.trans (U7.below _ (by omega))) b7 (OS.out.upd U7 (by omega)) (OO.out.upd U7 (by omega))
      · go_simp
        refine hK.out _ _ ⟨Blk.alloc hHeld.1 _, Blk.alloc hHeld.2 _⟩ (fun hHeld2 => ?_)
        clear hHeld hK K
        have hHeld := hHeld2
        clear hHeld2
        try simp only [Act.put, List.getElem_toArray, List.getElem_cons_zero, List.getElem_cons_succ, List.setIfInBounds_toArray, List.set_cons_zero, List.set_cons_succ]
        obtain ⟨wa, hwa⟩ : ∃ wa, wa = w5.alloc (.cells #[.slice none 0 0, .int .i64 0] 24) := ⟨_, rfl⟩
        rw [← hwa] at hHeld ⊢
        have hla : w5.heap.size + 1 ≤ wa.heap.size := by rw [hwa]; simp
        obtain ⟨G2, hG⟩ : ∃ G2, G2 = w5.heap.size := ⟨_, rfl⟩
        rw [← hG]
        have BG := Blk.new w5 24 #[.slice none 0 0, .int .i64 0]
        rw [← hwa] at BG
        rw [← hG] at BG
        replace BG := Lib.hid BG
        have hG1 := Nat.le_of_eq hG
        have hG2 := Nat.le_of_eq hG.symm
        have hba : Below w5.heap.size w5 wa := by rw [hwa]; exact (Below.refl _ _).alloc (Nat.le_refl _) _
        clear hG hwa
        replace TT := Lib.hid (below_on hba TT.out)
        replace HM3 := Lib.hid (MXs.on HM3.out hba)
        clear hba
        refine wpAnyH_ready (rs := [5]) (by kernel_rfl) (by simp) ?_
        refine AllReadyH.cons rfl (fun K hK => ?_) AllReadyH.nil
        have hp := putbp_any l since a0 now m [.int .i64 m.id, .string m.topic, .int .i64 k3, .int .i64 i3, .int .u64 b3, .string s3, .slice am3 nm3 cm3, .int .i64 m.tat, .int .i64 m.til, .string m.reply, .int .i64 m.corr, .int .i64 m.prio, .int .i64 m.hops] a3 l.length c3 _ wa (RX.on RO.out TT.out) (fun _ h => h) (fit_small FIT.out) (by omega) HM3.out hz
        rw [← HX.out] at hp
        go_simp
        go_at_call 14
        refine hp.mono ?_
        clear hp
        rintro e w6 ⟨a4, c4, ao, co, rfl, os, oo, hb⟩
        have hl5 := hb.size
        have OS := Lib.hid (OwnT.of os rfl)
        have OO := Lib.hid (OwnT.of oo rfl)
        clear os oo
        refine hK.out _ _ ⟨Blk.on hHeld.1 hb, Blk.on hHeld.2 hb⟩ (fun hHeld2 => ?_)
        clear hHeld hK K
        have hHeld := hHeld2
        clear hHeld2
        try simp only [Act.put, List.getElem_toArray, List.getElem_cons_zero, List.getElem_cons_succ, List.setIfInBounds_toArray, List.set_cons_zero, List.set_cons_succ]
        replace TT := Lib.hid (below_on hb TT.out)
        replace BG := Lib.hid (Blk.on BG.out hb)
        clear hb
        refine wpAnyH_take (i := 6) (v := ?_) rfl (by kernel_rfl) (by kernel_rfl) (by kernel_rfl) (fun _ _ _ h => h) (Or.inl ⟨by rfl, ?_⟩) hHeld ?_
        rotate_left
        · intro w hSw
          try dsimp only at hSw
          first | (go_simp; done) | (go_simp; with_reducible rfl)
        try simp only [Act.put, List.getElem_toArray, List.getElem_cons_zero, List.getElem_cons_succ, List.setIfInBounds_toArray, List.set_cons_zero, List.set_cons_succ]
        refine wpAnyH_take (i := 7) (v := ?_) rfl (by kernel_rfl) (by kernel_rfl) (by kernel_rfl) (fun _ _ _ h => h) (Or.inl ⟨by rfl, ?_⟩) hHeld ?_
        rotate_left
        · intro w hSw
          try dsimp only at hSw
          first | (go_simp; done) | (go_simp; with_reducible rfl)
        try simp only [Act.put, List.getElem_toArray, List.getElem_cons_zero, List.getElem_cons_succ, List.setIfInBounds_toArray, List.set_cons_zero, List.set_cons_succ]
        refine wpAnyH_take (i := 8) (v := ?_) rfl (by kernel_rfl) (by kernel_rfl) (by kernel_rfl) (fun _ _ _ h => h) (Or.inl ⟨by rfl, ?_⟩) hHeld ?_
        rotate_left
        · intro w hSw
          try dsimp only at hSw
          first | (go_simp; done) | (go_simp; with_reducible rfl)
        try simp only [Act.put, List.getElem_toArray, List.getElem_cons_zero, List.getElem_cons_succ, List.setIfInBounds_toArray, List.set_cons_zero, List.set_cons_succ]
        refine wpAnyH_ready (rs := [10]) (by kernel_rfl) (by simp) ?_
        refine AllReadyH.cons rfl (fun K hK => ?_) AllReadyH.nil
        refine step_store_blk (T := 24) (by rfl) 24 _ _ (by rfl) G2 0 [] [.slice none 0 0, .int .i64 0] [] [.slice a4 X.1.1.length c4, .int .i64 X.1.2] (by rfl) (by rfl) BG.out rfl rfl sizeB buf_one' (fun w7 b7 U7 => ?_)
        have hne : G2 ≠ w.heap.size + 1 := by have := Blk.lt B7.out; omega
        have hne2 : G2 ≠ G := by have := Blk.lt B9.out; omega
        refine hK.out _ _ ⟨U7.blk hHeld.1 (Ne.symm hne), U7.blk hHeld.2 (Ne.symm hne2)⟩ (fun hHeld2 => ?_)
        clear hHeld hK K
        have hHeld := hHeld2
        clear hHeld2
        try simp only [Act.put, List.getElem_toArray, List.getElem_cons_zero, List.getElem_cons_succ]
        refine wpAnyH_take (i := 11) (v := ?_) rfl (by kernel_rfl) (by kernel_rfl) (by kernel_rfl) (fun _ _ _ h => h) (Or.inl ⟨by rfl, ?_⟩) hHeld ?_
        rotate_left
        · intro w hSw
          try dsimp only at hSw
          first | (go_simp; done) | (go_simp; with_reducible rfl)
        try simp only [Act.put, List.getElem_toArray, List.getElem_cons_zero, List.getElem_cons_succ, List.setIfInBounds_toArray, List.set_cons_zero, List.set_cons_succ]
        refine wpAnyH_done (by kernel_rfl) ?_ _
        refine REST4 G2 _ _ a4 c4 ao co _ _ _ _ _ _ _ _ _ w7 (by omega) (TT.out.trans (U7.below _ (by omega))) b7 (OS.out.upd U7 (by omega)) (OO.out.upd U7 (by omega))
    · go_simp
      refine hK.out _ _ ⟨Blk.alloc hHeld.1 _, Blk.alloc hHeld.2 _⟩ (fun hHeld2 => ?_)
      clear hHeld hK K
      have hHeld := hHeld2
      clear hHeld2
      try simp only [Act.put, List.getElem_toArray, List.getElem_cons_zero, List.getElem_cons_succ, List.setIfInBounds_toArray, List.set_cons_zero, List.set_cons_succ]
      obtain ⟨wa, hwa⟩ : ∃ wa, wa = W1.alloc (.cells #[.slice none 0 0, .int .i64 0] 24) := ⟨_, rfl⟩
      rw [← hwa] at hHeld ⊢
      have hla : W1.heap.size + 1 ≤ wa.heap.size := by rw [hwa]; simp
      obtain ⟨G2, hG⟩ : ∃ G2, G2 = W1.heap.size := ⟨_, rfl⟩
      rw [← hG]
      have BG := Blk.new W1 24 #[.slice none 0 0, .int .i64 0]
      rw [← hwa] at BG
      rw [← hG] at BG
      replace BG := Lib.hid BG
      have hG1 := Nat.le_of_eq hG
      have hG2 := Nat.le_of_eq hG.symm
      have hba : Below W1.heap.size W1 wa := by rw [hwa]; exact (Below.refl _ _).alloc (Nat.le_refl _) _
      clear hG hwa
      replace TT := Lib.hid (below_on hba TT.out)
      clear hba
      refine wpAnyH_ready (rs := [4]) (by kernel_rfl) (by simp) ?_
      refine AllReadyH.cons rfl (fun K hK => ?_) AllReadyH.nil
      go_simp
      go_at_call 15
      refine (copymsg_any m wa _ [.int .i64 m.id, .string m.topic, .int .i64 k, .int .i64 i, .int .u64 b, .string s, .slice am nm cm, .int .i64 m.tat, .int .i64 m.til, .string m.reply, .int .i64 m.corr, .int .i64 m.prio, .int .i64 m.hops] (HM.out.on (T.out.trans (TT.out.mono T.out.size))) (fun _ h => h) hz).mono ?_
      rintro e w5 ⟨k3, i3, b3, s3, am3, nm3, cm3, rfl, hm3, hb⟩
      have HM3 : Hid (MXs w5 m [.int .i64 m.id, .string m.topic, .int .i64 k3, .int .i64 i3, .int .u64 b3, .string s3, .slice am3 nm3 cm3, .int .i64 m.tat, .int .i64 m.til, .string m.reply, .int .i64 m.corr, .int .i64 m.prio, .int .i64 m.hops]) := IsM.mono hm3.ism (fun _ h => h.2)
      have hl4 := hb.size
      clear hm3
      refine hK.out _ _ ⟨Blk.on hHeld.1 hb, Blk.on hHeld.2 hb⟩ (fun hHeld2 => ?_)
      clear hHeld hK K
      have hHeld := hHeld2
      clear hHeld2
      try simp only [Act.put, List.getElem_toArray, List.getElem_cons_zero, List.getElem_cons_succ, List.setIfInBounds_toArray, List.set_cons_zero, List.set_cons_succ]
      replace TT := Lib.hid (below_on hb TT.out)
      replace BG := Lib.hid (Blk.on BG.out hb)
      clear hb
      refine wpAnyH_ready (rs := [5]) (by kernel_rfl) (by simp) ?_
      refine AllReadyH.cons rfl (fun K hK => ?_) AllReadyH.nil
      have hp := putbp_any l since a0 now m [.int .i64 m.id, .string m.topic, .int .i64 k3, .int .i64 i3, .int .u64 b3, .string s3, .slice am3 nm3 cm3, .int .i64 m.tat, .int .i64 m.til, .string m.reply, .int .i64 m.corr, .int .i64 m.prio, .int .i64 m.hops] a3 l.length c3 _ w5 (RX.on RO.out TT.out) (fun _ h => h) (fit_small FIT.out) (by omega) HM3.out hz
      rw [← HX.out] at hp
      go_simp
      go_at_call 14
      refine hp.mono ?_
      clear hp
      rintro e w6 ⟨a4, c4, ao, co, rfl, os, oo, hb⟩
      have hl5 := hb.size
      have OS := Lib.hid (OwnT.of os rfl)
      have OO := Lib.hid (OwnT.of oo rfl)
      clear os oo
      refine hK.out _ _ ⟨Blk.on hHeld.1 hb, Blk.on hHeld.2 hb⟩ (fun hHeld2 => ?_)
      clear hHeld hK K
      have hHeld := hHeld2
      clear hHeld2
      try simp only [Act.put, List.getElem_toArray, List.getElem_cons_zero, List.getElem_cons_succ, List.setIfInBounds_toArray, List.set_cons_zero, List.set_cons_succ]
      replace TT := Lib.hid (below_on hb TT.out)
      replace BG := Lib.hid (Blk.on BG.out hb)
      clear hb
      refine wpAnyH_take (i := 6) (v := ?_) rfl (by kernel_rfl) (by kernel_rfl) (by kernel_rfl) (fun _ _ _ h => h) (Or.inl ⟨by rfl, ?_⟩) hHeld ?_
      rotate_left
      · intro w hSw
        try dsimp only at hSw
        first | (go_simp; done) | (go_simp; with_reducible rfl)
      try simp only [Act.put, List.getElem_toArray, List.getElem_cons_zero, List.getElem_cons_succ, List.setIfInBounds_toArray, List.set_cons_zero, List.set_cons_succ]
      refine wpAnyH_take (i := 7) (v := ?_) rfl (by kernel_rfl) (by kernel_rfl) (by kernel_rfl) (fun _ _ _ h => h) (Or.inl ⟨by rfl, ?_⟩) hHeld ?_
      rotate_left
      · intro w hSw
        try dsimp only at hSw
        first | (go_simp; done) | (go_simp; with_reducible rfl)
      try simp only [Act.put, List.getElem_toArray, List.getElem_cons_zero, List.getElem_cons_succ, List.setIfInBounds_toArray, List.set_cons_zero, List.set_cons_succ]
      refine wpAnyH_take (i := 8) (v := ?_) rfl (by kernel_rfl) (by kernel_rfl) (by kernel_rfl) (fun _ _ _ h => h) (Or.inl ⟨by rfl, ?_⟩) hHeld ?_
      rotate_left
      · intro w hSw
        try dsimp only at hSw
        first | (go_simp; done) | (go_simp; with_reducible rfl)
      try simp only [Act.put, List.getElem_toArray, List.getElem_cons_zero, List.getElem_cons_succ, List.setIfInBounds_toArray, List.set_cons_zero, List.set_cons_succ]
      refine wpAnyH_ready (rs := [10]) (by kernel_rfl) (by simp) ?_
      refine AllReadyH.cons rfl (fun K hK => ?_) AllReadyH.nil
      refine step_store_blk (T := 24) (by rfl) 24 _ _ (by rfl) G2 0 [] [.slice none 0 0, .int .i64 0] [] [.slice a4 X.1.1.length c4, .int .i64 X.1.2] (by rfl) (by rfl) BG.out rfl rfl sizeB buf_one' (fun w7 b7 U7 => ?_)
      have hne : G2 ≠ w.heap.size + 1 := by have := Blk.lt B7.out; omega
      have hne2 : G2 ≠ G := by have := Blk.lt B9.out; omega
      refine hK.out _ _ ⟨U7.blk hHeld.1 (Ne.symm hne), U7.blk hHeld.2 (Ne.symm hne2)⟩ (fun hHeld2 => ?_)
      clear hHeld hK K
      have hHeld := hHeld2
      clear hHeld2
      try simp only [Act.put, List.getElem_toArray, List.getElem_cons_zero, List.getElem_cons_succ]
      refine wpAnyH_take (i := 11) (v := ?_) rfl (by kernel_rfl) (by kernel_rfl) (by kernel_rfl) (fun _ _ _ h => h) (Or.inl ⟨by rfl, ?_⟩) hHeld ?_
      rotate_left
      · intro w hSw
        try dsimp only at hSw
        first | (go_simp; done) | (go_simp; with_reducible rfl)
      try simp only [Act.put, List.getElem_toArray, List.getElem_cons_zero, List.getElem_cons_succ, List.setIfInBounds_toArray, List.set_cons_zero, List.set_cons_succ]
      refine wpAnyH_done (by kernel_rfl) ?_ _
      refine REST4 G2 _ _ a4 c4 ao co _ _ _ _ _ _ _ _ _ w7 (by omega) (TT.out.trans (U7.below _ (by omega))) b7 (OS.out.upd U7 (by omega)) (OO.out.upd U7 (by omega))
  refine wp_region_held_drew (S := (fun w' => Blk w' (w.heap.size) 24 #[.slice a l.length c, .int .i64 since] ∧ Blk w' (w.heap.size + 1) 30 #[.int .i64 m.id, .string m.topic, .int .i64 k, .int .i64 i, .int .u64 b, .string s, .slice am nm cm, .int .i64 m.tat, .int .i64 m.til, .string m.reply, .int .i64 m.corr, .int .i64 m.prio, .int .i64 m.hops])) (by kernel_rfl) ?_ (fun hHeld => ?_)
  · exact ⟨B4.out.drew, B7.out.drew⟩
  obtain ⟨W1, hW1⟩ : ∃ W1, W1 = w2.drew := ⟨_, rfl⟩
  have T := T.out.drew
  rw [← hW1] at hHeld T ⊢
  have T := Lib.hid T
  have hs0 : w.heap.size + 2 ≤ W1.heap.size := Blk.lt hHeld.2
  clear hW1 B4 B7
  refine wpAnyH_take (i := 0) (v := ?_) rfl (by kernel_rfl) (by kernel_rfl) (by kernel_rfl) (fun _ _ _ h => h) (Or.inl ⟨by rfl, ?_⟩) hHeld ?_
  rotate_left
  · intro w hSw
    try dsimp only at hSw
    first | (go_simp; done) | (go_simp; with_reducible rfl)
  try simp only [Act.put, List.getElem_toArray, List.getElem_cons_zero, List.setIfInBounds_toArray, List.set_cons_zero, List.set_cons_succ]
  refine wpAnyH_take (i := 1) (v := .slice a l.length c) rfl (by kernel_rfl) (by kernel_rfl) (by kernel_rfl) (fun _ _ _ h => h) (Or.inl ⟨by rfl, ?_⟩) hHeld ?_
  · intro w hSw
    have h4 := Blk.cell hSw.1 0
    first | (go_simp; done) | (go_simp; with_reducible rfl)
  try simp only [Act.put, List.getElem_toArray, List.getElem_cons_zero, List.getElem_cons_succ, List.setIfInBounds_toArray, List.set_cons_zero, List.set_cons_succ]
  refine wpAnyH_take (i := 3) (v := ?_) rfl (by kernel_rfl) (by kernel_rfl) (by kernel_rfl) (fun _ _ _ h => h) (Or.inl ⟨by rfl, ?_⟩) hHeld ?_
  rotate_left
  · intro w hSw
    try dsimp only at hSw
    first | (go_simp; done) | (go_simp; with_reducible rfl)
  try simp only [Act.put, List.getElem_toArray, List.getElem_cons_zero, List.getElem_cons_succ, List.setIfInBounds_toArray, List.set_cons_zero, List.set_cons_succ]
  refine wpAnyH_take (i := 4) (v := .int .i64 since) rfl (by kernel_rfl) (by kernel_rfl) (by kernel_rfl) (fun _ _ _ h => h) (Or.inl ⟨by rfl, ?_⟩) hHeld ?_
  · intro w hSw
    have h4 := Blk.cell hSw.1 1
    first | (go_simp; done) | (go_simp; with_reducible rfl)
  try simp only [Act.put, List.getElem_toArray, List.getElem_cons_zero, List.getElem_cons_succ, List.setIfInBounds_toArray, List.set_cons_zero, List.set_cons_succ]
  refine wpAnyH_ready (rs := [2, 6]) (by kernel_rfl) (by simp) ?_
  refine AllReadyH.cons rfl (fun K hK => ?_) (AllReadyH.cons rfl (fun K hK => ?_) AllReadyH.nil)
  · go_simp
    go_at_call 13
    refine (copyrow_any l a l.length c _ W1 (HROW.out.on T.out) (fun _ h => h) (fit_small FIT.out) (by omega)).mono ?_
    rintro e w3 ⟨a3, c3, S3, css3, rfl, hown, hb⟩
    have hl := hb.size
    have RO := Lib.hid (OwnM.rows ⟨_, _, hown⟩)
    clear hown
    refine hK.out _ _ ⟨Blk.on hHeld.1 hb, Blk.on hHeld.2 hb⟩ (fun hHeld2 => ?_)
    clear hHeld hK K
    have hHeld := hHeld2
    clear hHeld2
    try simp only [Act.put, List.getElem_toArray, List.getElem_cons_zero, List.getElem_cons_succ, List.setIfInBounds_toArray, List.set_cons_zero, List.set_cons_succ]
    replace T := Lib.hid (below_on hb T.out)
    clear hb
    refine wpAnyH_take (i := 5) (v := ?_) rfl (by kernel_rfl) (by kernel_rfl) (by kernel_rfl) (fun _ _ _ h => h) (Or.inl ⟨by rfl, ?_⟩) hHeld ?_
    rotate_left
    · intro w hSw
      try dsimp only at hSw
      first | (go_simp; done) | (go_simp; with_reducible rfl)
    try simp only [Act.put, List.getElem_toArray, List.getElem_cons_zero, List.getElem_cons_succ, List.setIfInBounds_toArray, List.set_cons_zero, List.set_cons_succ]
    refine wpAnyH_ready (rs := [6]) (by kernel_rfl) (by simp) ?_
    refine AllReadyH.cons rfl (fun K hK => ?_) AllReadyH.nil
    go_simp
    refine hK.out _ _ ⟨Blk.alloc hHeld.1 _, Blk.alloc hHeld.2 _⟩ (fun hHeld2 => ?_)
    clear hHeld hK K
    have hHeld := hHeld2
    clear hHeld2
    try simp only [Act.put, List.getElem_toArray, List.getElem_cons_zero, List.getElem_cons_succ, List.setIfInBounds_toArray, List.set_cons_zero, List.set_cons_succ]
    obtain ⟨wa, hwa⟩ : ∃ wa, wa = w3.alloc (.cells #[.slice none 0 0, .int .i64 0] 24) := ⟨_, rfl⟩
    rw [← hwa] at hHeld ⊢
    have hla : w3.heap.size + 1 ≤ wa.heap.size := by rw [hwa]; simp
    obtain ⟨G, hG⟩ : ∃ G, G = w3.heap.size := ⟨_, rfl⟩
    rw [← hG]
    have BG := Blk.new w3 24 #[.slice none 0 0, .int .i64 0]
    rw [← hwa] at BG
    rw [← hG] at BG
    replace BG := Lib.hid BG
    have hG1 := Nat.le_of_eq hG
    have hG2 := Nat.le_of_eq hG.symm
    have hba : Below w3.heap.size w3 wa := by rw [hwa]; exact (Below.refl _ _).alloc (Nat.le_refl _) _
    clear hG hwa
    replace T := Lib.hid (below_on hba T.out)
    replace RO := Lib.hid (RM.under RO.out hba (fun _ h => h.2))
    clear hba
    refine wpAnyH_ready (rs := [7]) (by kernel_rfl) (by simp) ?_
    refine AllReadyH.cons rfl (fun K hK => ?_) AllReadyH.nil
    refine step_store_blk (T := 24) (by rfl) 24 _ _ (by rfl) G 0 [] [.slice none 0 0, .int .i64 0] [] [.slice a3 l.length c3, .int .i64 since] (by rfl) (by rfl) BG.out rfl rfl sizeB buf_one' (fun w4 b4 U4 => ?_)
    refine hK.out _ _ ⟨U4.blk hHeld.1 (by omega), U4.blk hHeld.2 (by omega)⟩ (fun hHeld2 => ?_)
    clear hHeld hK K
    have hHeld := hHeld2
    clear hHeld2
    try simp only [Act.put, List.getElem_toArray, List.getElem_cons_zero, List.getElem_cons_succ]
    refine wpAnyH_done (by kernel_rfl) ?_ _
    refine REST G a3 c3 _ _ _ _ _ _ _ _ _ _ _ _ _ _ _ _ _ w4 hHeld.1 hHeld.2 b4 (rx_upd RO.out U4 (by omega) (by omega)) (T.out.trans (U4.below _ (by omega)))
  · go_simp
    refine hK.out _ _ ⟨Blk.alloc hHeld.1 _, Blk.alloc hHeld.2 _⟩ (fun hHeld2 => ?_)
    clear hHeld hK K
    have hHeld := hHeld2
    clear hHeld2
    try simp only [Act.put, List.getElem_toArray, List.getElem_cons_zero, List.getElem_cons_succ, List.setIfInBounds_toArray, List.set_cons_zero, List.set_cons_succ]
    obtain ⟨wa, hwa⟩ : ∃ wa, wa = W1.alloc (.cells #[.slice none 0 0, .int .i64 0] 24) := ⟨_, rfl⟩
    rw [← hwa] at hHeld ⊢
    have hla : W1.heap.size + 1 ≤ wa.heap.size := by rw [hwa]; simp
    obtain ⟨G, hG⟩ : ∃ G, G = W1.heap.size := ⟨_, rfl⟩
    rw [← hG]
    have BG := Blk.new W1 24 #[.slice none 0 0, .int .i64 0]
    rw [← hwa] at BG
    rw [← hG] at BG
    replace BG := Lib.hid BG
    have hG1 := Nat.le_of_eq hG
    have hG2 := Nat.le_of_eq hG.symm
    have hba : Below W1.heap.size W1 wa := by rw [hwa]; exact (Below.refl _ _).alloc (Nat.le_refl _) _
    clear hG hwa
    replace T := Lib.hid (below_on hba T.out)
    clear hba
    refine wpAnyH_ready (rs := [2]) (by kernel_rfl) (by simp) ?_
    refine AllReadyH.cons rfl (fun K hK => ?_) AllReadyH.nil
    go_simp
    go_at_call 13
    refine (copyrow_any l a l.length c _ wa (HROW.out.on T.out) (fun _ h => h) (fit_small FIT.out) (by omega)).mono ?_
    rintro e w3 ⟨a3, c3, S3, css3, rfl, hown, hb⟩
    have hl := hb.size
    have RO := Lib.hid (OwnM.rows ⟨_, _, hown⟩)
    clear hown
    refine hK.out _ _ ⟨Blk.on hHeld.1 hb, Blk.on hHeld.2 hb⟩ (fun hHeld2 => ?_)
    clear hHeld hK K
    have hHeld := hHeld2
    clear hHeld2
    try simp only [Act.put, List.getElem_toArray, List.getElem_cons_zero, List.getElem_cons_succ, List.setIfInBounds_toArray, List.set_cons_zero, List.set_cons_succ]
    replace T := Lib.hid (below_on hb T.out)
    replace BG := Lib.hid (Blk.on BG.out hb)
    clear hb
    refine wpAnyH_take (i := 5) (v := ?_) rfl (by kernel_rfl) (by kernel_rfl) (by kernel_rfl) (fun _ _ _ h => h) (Or.inl ⟨by rfl, ?_⟩) hHeld ?_
    rotate_left
    · intro w hSw
      try dsimp only at hSw
      first | (go_simp; done) | (go_simp; with_reducible rfl)
    try simp only [Act.put, List.getElem_toArray, List.getElem_cons_zero, List.getElem_cons_succ, List.setIfInBounds_toArray, List.set_cons_zero, List.set_cons_succ]
    refine wpAnyH_ready (rs := [7]) (by kernel_rfl) (by simp) ?_
    refine AllReadyH.cons rfl (fun K hK => ?_) AllReadyH.nil
    refine step_store_blk (T := 24) (by rfl) 24 _ _ (by rfl) G 0 [] [.slice none 0 0, .int .i64 0] [] [.slice a3 l.length c3, .int .i64 since] (by rfl) (by rfl) BG.out rfl rfl sizeB buf_one' (fun w4 b4 U4 => ?_)
    refine hK.out _ _ ⟨U4.blk hHeld.1 (by omega), U4.blk hHeld.2 (by omega)⟩ (fun hHeld2 => ?_)
    clear hHeld hK K
    have hHeld := hHeld2
    clear hHeld2
    try simp only [Act.put, List.getElem_toArray, List.getElem_cons_zero, List.getElem_cons_succ]
    refine wpAnyH_done (by kernel_rfl) ?_ _
    refine REST G a3 c3 _ _ _ _ _ _ _ _ _ _ _ _ _ _ _ _ _ w4 hHeld.1 hHeld.2 b4 (rx_upd RO.out U4 (by omega) (by omega)) (T.out.trans (U4.below _ (by omega)))
end Go.Proofs.YtmdcfmdjbncaoaaDoor
