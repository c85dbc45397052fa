/- BufferTicks: the walk. -/
import Derived.Test.YtmdcfmdjbncaoaaDoorBe
namespace Go.Proofs.YtmdcfmdjbncaoaaDoor
open Go.RowKit
attribute [local go_sem ↓] Go.wp_at_zero Go.wp_at_succ
attribute [local go_sem] Go.undef

theorem tick_len (l : List MX) (since b now : Int) : (tickBuf l since b now).1.1.length ≤ l.length ∧ (tickBuf l since b now).2.length ≤ l.length ∧ ((tickBuf l since b now).1.1 = [] ∨ (tickBuf l since b now).2 = []) := by
  unfold tickBuf
  split
  · exact ⟨by simp, by simp, .inl rfl⟩
  · exact ⟨by simp, by simp, .inr rfl⟩

set_option maxHeartbeats 16000000 in
set_option maxRecDepth 100000 in
theorem bticks_go (l : List MX) (since a0 b now : Int) (a : Option Addr) (n c : Nat) (w : World) (hrow : RX w l a n c) (hT : Tabs w) :
    Calls Tryd.prog 4 #[.agg #[.slice a n c, .int .i64 since], .int .i64 a0, .int .i64 b, .int .i64 now] w fun e w' => e = .returned (.bool true) ∧ Below w.heap.size w w' := by
  obtain rfl : n = l.length := hrow.1
  obtain ⟨W, hWd⟩ : ∃ W, W = w.alloc (.cells #[.slice a l.length c, .int .i64 since] 24) := ⟨_, rfl⟩
  have hW : Below w.heap.size w W := by rw [hWd]; go_grown
  have B4 : Hid (Blk W w.heap.size 24 #[.slice a l.length c, .int .i64 since]) := by show Blk _ _ _ _; rw [hWd]; exact Blk.new _ _ _
  have HROW := Lib.hid hrow
  have HTB := Lib.hid hT
  have T : Hid (Below w.heap.size w W) := hW
  have HWD := Lib.hid hWd
  clear hrow hT hW hWd
  go_enter Tryd.func4, Tryd.ntmps4
  go_upto_region 1 with fail
  show Code.wp _ _ _ _ (w.alloc (.cells #[.slice a l.length c, .int .i64 since] 24))
  rw [← HWD.out]
  clear HWD
  have HF := Lib.hid (fitlaw_any l since a0 b now a l.length c W _ (HROW.out.on T.out) (fun _ h => h) (HTB.out.on T.out))
  go_wp2_with (refine wpList_load_blk rfl 24 _ rfl (w.heap.size) 0 rfl [.slice a l.length c, .int .i64 since] _ (Blk.range (pre := []) (post := []) B4.out rfl) Tryd.underlying24 rfl sizeB ?_)
  refine HF.out.mono ?_
  rintro e w2 ⟨fb, rfl, hfb, hb1⟩
  clear HF
  replace B4 := Lib.hid (Blk.on B4.out hb1)
  replace T := Lib.hid (below_on hb1 T.out)
  clear hb1
  cases fb with
  | false =>
    clear hfb
    go_wp2_with fail
    refine (awakeb_any _).mono ?_
    rintro e w2 ⟨rfl, hb2⟩
    replace T := Lib.hid (below_on hb2 T.out)
    clear hb2
    go_wp2_with fail
    go_ret
    exact ⟨rfl, T.out⟩
  | true =>
  obtain ⟨hf1, hf2, hf3, hf4, hf5, hf6, hf7⟩ := hfb rfl
  have FIT := Lib.hid hf7
  have hln : l.length ≤ 999 := by have := hf7.1; omega
  have HS0 : Hid (0 ≤ since) := hf7.2.1
  have HS1 : Hid (since ≤ 1099511627776) := hf7.2.2.1
  have HB : Hid (b ≤ 1000000) := hf4
  clear hfb hf1 hf2 hf3 hf4 hf5 hf6 hf7
  go_upto_region 3 with fail
  rename_i KK hKK
  have REST : ∀ (G : Nat) (a3 : Option Addr) (c3 : Nat) (v20 v21 v22 v23 v24 v25 v26 v27 v28 v29 v30 v31 v32 : Value) (w3 : World), Blk w3 w.heap.size 24 #[.slice a l.length c, .int .i64 since] → Blk w3 G 24 #[.slice a3 l.length c3, .int .i64 since] → RX w3 l a3 l.length c3 → Below w.heap.size w w3 →
      KK ⟨#[.agg #[.slice a l.length c, .int .i64 since], .int .i64 a0, .int .i64 b, .int .i64 now, .pointer (some ⟨w.heap.size, 0, none⟩), .tuple #[], .tuple #[], .tuple #[], .bool false, .pointer (some ⟨G, 0, none⟩), .tuple #[], .tuple #[], .tuple #[], .tuple #[], .tuple #[], .tuple #[], .tuple #[], .tuple #[], .tuple #[], .tuple #[], v20, v21, v22, v23, v24, v25, v26, v27, v28, v29, v30, v31, v32, .tuple #[], .tuple #[], .tuple #[], .tuple #[], .tuple #[], .tuple #[], .tuple #[], .tuple #[], .tuple #[], .tuple #[], .tuple #[], .tuple #[], .tuple #[], .tuple #[], .tuple #[], .tuple #[], .tuple #[], .tuple #[], .tuple #[], .tuple #[], .tuple #[], .tuple #[], .tuple #[], .tuple #[], .tuple #[], .tuple #[], .tuple #[], .tuple #[], .tuple #[], .tuple #[], .tuple #[], .tuple #[], .tuple #[], .tuple #[], .tuple #[], .tuple #[], .tuple #[], .tuple #[], .tuple #[], .tuple #[], .tuple #[], .tuple #[], .tuple #[], .tuple #[], .tuple #[], .tuple #[], .tuple #[], .tuple #[], .tuple #[], .tuple #[], .tuple #[], .tuple #[], .tuple #[], .tuple #[], .tuple #[], .tuple #[], .tuple #[], .tuple #[], .tuple #[], .tuple #[], .tuple #[], .tuple #[], .tuple #[], .tuple #[], .tuple #[], .tuple #[], .tuple #[], .tuple #[], .tuple #[], .tuple #[], .tuple #[], .tuple #[], .tuple #[], .tuple #[], .tuple #[], .tuple #[], .tuple #[]], []⟩ w3 := by
    intro G a3 c3 v20 v21 v22 v23 v24 v25 v26 v27 v28 v29 v30 v31 v32 w3 b4 b9 ro t3
    replace B4 := Lib.hid b4
    have B9 := Lib.hid b9
    have RO := Lib.hid ro
    replace T := Lib.hid t3
    have TT : Hid (Below w3.heap.size w3 w3) := Below.refl _ _
    clear b4 b9 ro t3
    refine hKK _ _ ?_
    clear hKK
    obtain ⟨X, hX⟩ : ∃ X, X = tickBuf l since b now := ⟨_, rfl⟩
    obtain ⟨N1, hN1⟩ : ∃ x, x = nextB l since b := ⟨_, rfl⟩
    have hXL := tick_len l since b now
    rw [← hX] at hXL
    obtain ⟨hx1, hx2, hx3⟩ := hXL
    have HX := Lib.hid hX
    have HN1 := Lib.hid hN1
    have HXE := Lib.hid hx3
    clear hX hx3 hN1
    -- the program's Tick
    have hp := tickp_any l since b now a3 l.length c3 _ w3 RO.out (fun _ h => h) (fit_small FIT.out) (by omega) HS0.out HS1.out HB.out
    rw [← HX.out] at hp
    have HP := Lib.hid hp
    clear hp
    go_wp2_with (refine wpList_load_blk rfl 24 _ rfl (G) 0 rfl [.slice a3 l.length c3, .int .i64 since] _ (Blk.range (pre := []) (post := []) B9.out rfl) Tryd.underlying24 rfl sizeB ?_)
    refine HP.out.mono ?_
    rintro e w4 ⟨a4, c4, ao, co, rfl, os, oo, hb4⟩
    clear HP
    have OS := Lib.hid (OwnT.of os rfl)
    have OO := Lib.hid (OwnT.of oo rfl)
    obtain ⟨Bp, hBp⟩ : ∃ Bp, Bp = w3.heap.size := ⟨_, rfl⟩
    obtain ⟨Tp, hTp⟩ : ∃ Tp, Tp = w4.heap.size := ⟨_, rfl⟩
    rw [← hBp, ← hTp] at OS OO
    have HBP : Hid (w3.heap.size ≤ Bp) := Nat.le_of_eq hBp.symm
    have HTP : Hid (Tp ≤ w4.heap.size) := Nat.le_of_eq hTp
    clear os oo hBp hTp
    replace TT := Lib.hid (below_on hb4 TT.out)
    clear hb4
    have bn4 : Blk (w4.alloc (.cells #[.slice none 0 0, .int .i64 0] 24)) w4.heap.size 24 #[.slice none 0 0, .int .i64 0] := Blk.new _ _ _
    go_upto_region 5 with (refine wpList_store_blk (T := 24) rfl 24 _ _ rfl (w4.heap.size) 0 [] [.slice none 0 0, .int .i64 0] [] [.slice a4 X.1.1.length c4, .int .i64 X.1.2] rfl rfl bn4 rfl rfl sizeB buf_one' ?_; intro w5 b10 U5)
    have hb5 : Below w4.heap.size w4 w5 := ((Below.refl _ _).alloc (Nat.le_refl _) _).trans (U5.below _ (Nat.le_refl _))
    have B10 := Lib.hid b10
    replace HTP : Hid (Tp ≤ w5.heap.size) := Nat.le_trans HTP.out hb5.size
    replace OS := Lib.hid (OwnT.on OS.out hb5)
    replace OO := Lib.hid (OwnT.on OO.out hb5)
    replace TT := Lib.hid (below_on hb5 TT.out)
    clear hb5
    clear b10 U5 bn4
    -- the reference's Tick
    have hp := tickr_any l since b now a l.length c _ w5 (HROW.out.on (T.out.trans (TT.out.mono T.out.size))) (fun _ h => h) (fit_small FIT.out) (by omega) HS0.out HS1.out HB.out
    rw [← HX.out] at hp
    have HP := Lib.hid hp
    have B4' := Lib.hid (Blk.on B4.out TT.out)
    clear hp HX
    go_wp2_with (refine wpList_load_blk rfl 24 _ rfl (w.heap.size) 0 rfl [.slice a l.length c, .int .i64 since] _ (Blk.range (pre := []) (post := []) B4'.out rfl) Tryd.underlying24 rfl sizeB ?_)
    refine HP.out.mono ?_
    rintro e w6 ⟨a6, c6, ao6, co6, rfl, hs6, ho6, hb6⟩
    clear HP B4'
    have RT := Lib.hid (OwnM.rx hs6)
    have RW := Lib.hid (OwnM.rx ho6)
    replace HTP : Hid (Tp ≤ w6.heap.size) := Nat.le_trans HTP.out hb6.size
    clear hs6 ho6
    replace B10 := Lib.hid (Blk.on B10.out hb6)
    replace OS := Lib.hid (OwnT.on OS.out hb6)
    replace OO := Lib.hid (OwnT.on OO.out hb6)
    replace TT := Lib.hid (below_on hb6 TT.out)
    clear hb6
    have bn6 : Blk (w6.alloc (.cells #[.slice none 0 0, .int .i64 0] 24)) w6.heap.size 24 #[.slice none 0 0, .int .i64 0] := Blk.new _ _ _
    go_upto_region 6 with (refine wpList_store_blk (T := 24) rfl 24 _ _ rfl (w6.heap.size) 0 [] [.slice none 0 0, .int .i64 0] [] [.slice a6 X.1.1.length c6, .int .i64 X.1.2] rfl rfl bn6 rfl rfl sizeB buf_one' ?_; intro w7 b12 U7)
    have hb7 : Below w6.heap.size w6 w7 := ((Below.refl _ _).alloc (Nat.le_refl _) _).trans (U7.below _ (Nat.le_refl _))
    replace HTP : Hid (Tp ≤ w7.heap.size) := Nat.le_trans HTP.out hb7.size
    replace B10 := Lib.hid (Blk.on B10.out hb7)
    replace OS := Lib.hid (OwnT.on OS.out hb7)
    replace OO := Lib.hid (OwnT.on OO.out hb7)
    replace RT := Lib.hid (RX.on RT.out hb7)
    replace RW := Lib.hid (RX.on RW.out hb7)
    replace TT := Lib.hid (below_on hb7 TT.out)
    clear hb7
    have B12 := Lib.hid b12
    clear b12 U7 bn6
    -- Flush
    have HP := Lib.hid (flush_any l since a3 l.length c3 _ w7 (RX.on RO.out TT.out) (fun _ h => h) (fit_small FIT.out) (by omega))
    have B9' := Lib.hid (Blk.on B9.out TT.out)
    go_wp2_with (refine wpList_load_blk rfl 24 _ rfl (G) 0 rfl [.slice a3 l.length c3, .int .i64 since] _ (Blk.range (pre := []) (post := []) B9'.out rfl) Tryd.underlying24 rfl sizeB ?_)
    refine HP.out.mono ?_
    rintro e w8 ⟨a8, c8, aa, ca, rfl, hs8, oa, hb8⟩
    clear HP B9'
    have RU := Lib.hid (OwnM.rx hs8)
    have OA := Lib.hid (OwnT.of oa rfl)
    obtain ⟨Ba, hBa⟩ : ∃ Ba, Ba = w7.heap.size := ⟨_, rfl⟩
    obtain ⟨Ta, hTa⟩ : ∃ Ta, Ta = w8.heap.size := ⟨_, rfl⟩
    rw [← hBa, ← hTa] at OA
    have HTB : Hid (Tp ≤ Ba) := Nat.le_trans HTP.out (Nat.le_of_eq hBa.symm)
    have HBA : Hid (w3.heap.size ≤ Ba) := Nat.le_trans TT.out.size (Nat.le_of_eq hBa.symm)
    clear hs8 oa hBa hTa HTP
    replace B10 := Lib.hid (Blk.on B10.out hb8)
    replace OS := Lib.hid (OwnT.on OS.out hb8)
    replace OO := Lib.hid (OwnT.on OO.out hb8)
    replace RT := Lib.hid (RX.on RT.out hb8)
    replace RW := Lib.hid (RX.on RW.out hb8)
    replace B12 := Lib.hid (Blk.on B12.out hb8)
    replace TT := Lib.hid (below_on hb8 TT.out)
    clear hb8
    have bn8 : Blk (w8.alloc (.cells #[.slice none 0 0, .int .i64 0] 24)) w8.heap.size 24 #[.slice none 0 0, .int .i64 0] := Blk.new _ _ _
    go_upto_region 7 with (refine wpList_store_blk (T := 24) rfl 24 _ _ rfl (w8.heap.size) 0 [] [.slice none 0 0, .int .i64 0] [] [.slice a8 0 c8, .int .i64 0] rfl rfl bn8 rfl rfl sizeB buf_one' ?_; intro w9 b14 U9)
    have hb9 : Below w8.heap.size w8 w9 := ((Below.refl _ _).alloc (Nat.le_refl _) _).trans (U9.below _ (Nat.le_refl _))
    replace B10 := Lib.hid (Blk.on B10.out hb9)
    replace OS := Lib.hid (OwnT.on OS.out hb9)
    replace OO := Lib.hid (OwnT.on OO.out hb9)
    replace RT := Lib.hid (RX.on RT.out hb9)
    replace RW := Lib.hid (RX.on RW.out hb9)
    replace B12 := Lib.hid (Blk.on B12.out hb9)
    replace RU := Lib.hid (RX.on RU.out hb9)
    replace OA := Lib.hid (OwnT.on OA.out hb9)
    replace TT := Lib.hid (below_on hb9 TT.out)
    clear hb9
    have B14 := Lib.hid b14
    clear b14 U9 bn8
    -- both Nexts
    have hp := nextp_any l since b a3 c3 w9 HS0.out HS1.out HB.out
    rw [← HN1.out] at hp
    have HP := Lib.hid hp
    have B9' := Lib.hid (Blk.on B9.out TT.out)
    clear hp
    go_wp2_with (refine wpList_load_blk rfl 24 _ rfl (G) 0 rfl [.slice a3 l.length c3, .int .i64 since] _ (Blk.range (pre := []) (post := []) B9'.out rfl) Tryd.underlying24 rfl sizeB ?_)
    refine HP.out.mono ?_
    rintro e w10 ⟨rfl, hb10⟩
    clear HP B9'
    replace B10 := Lib.hid (Blk.on B10.out hb10)
    replace OS := Lib.hid (OwnT.on OS.out hb10)
    replace OO := Lib.hid (OwnT.on OO.out hb10)
    replace RT := Lib.hid (RX.on RT.out hb10)
    replace RW := Lib.hid (RX.on RW.out hb10)
    replace B12 := Lib.hid (Blk.on B12.out hb10)
    replace RU := Lib.hid (RX.on RU.out hb10)
    replace OA := Lib.hid (OwnT.on OA.out hb10)
    replace B14 := Lib.hid (Blk.on B14.out hb10)
    replace TT := Lib.hid (below_on hb10 TT.out)
    clear hb10
    have hp := nextr_any l since b a c w10 HS0.out HS1.out HB.out
    rw [← HN1.out] at hp
    have HP := Lib.hid hp
    have B4' := Lib.hid (Blk.on B4.out TT.out)
    clear hp HN1
    go_wp2_with (refine wpList_load_blk rfl 24 _ rfl (w.heap.size) 0 rfl [.slice a l.length c, .int .i64 since] _ (Blk.range (pre := []) (post := []) B4'.out rfl) Tryd.underlying24 rfl sizeB ?_)
    refine HP.out.mono ?_
    rintro e w11 ⟨rfl, hb11⟩
    clear HP B4'
    replace B10 := Lib.hid (Blk.on B10.out hb11)
    replace OS := Lib.hid (OwnT.on OS.out hb11)
    replace OO := Lib.hid (OwnT.on OO.out hb11)
    replace RT := Lib.hid (RX.on RT.out hb11)
    replace RW := Lib.hid (RX.on RW.out hb11)
    replace B12 := Lib.hid (Blk.on B12.out hb11)
    replace RU := Lib.hid (RX.on RU.out hb11)
    replace OA := Lib.hid (OwnT.on OA.out hb11)
    replace B14 := Lib.hid (Blk.on B14.out hb11)
    replace TT := Lib.hid (below_on hb11 TT.out)
    clear hb11
    have HSB := Lib.hid (sameb_yes X.1.1 X.1.2 a4 a6 _ _ c4 c6 _ _ w11 (OwnM.rx OS.out.own) RT.out (fun _ h => h) (fun _ h => h) (by omega))
    go_wp2_with (first
      | (refine wpList_load_blk rfl 24 _ rfl (w4.heap.size) 0 rfl [.slice a4 X.1.1.length c4, .int .i64 X.1.2] _ (Blk.range (pre := []) (post := []) B10.out rfl) Tryd.underlying24 rfl sizeB ?_)
      | (refine wpList_load_blk rfl 24 _ rfl (w6.heap.size) 0 rfl [.slice a6 X.1.1.length c6, .int .i64 X.1.2] _ (Blk.range (pre := []) (post := []) B12.out rfl) Tryd.underlying24 rfl sizeB ?_))
    refine HSB.out.mono ?_
    rintro e w12 ⟨rfl, hb12⟩
    clear HSB B12 RT
    replace B10 := Lib.hid (Blk.on B10.out hb12)
    replace OS := Lib.hid (OwnT.on OS.out hb12)
    replace OO := Lib.hid (OwnT.on OO.out hb12)
    replace RW := Lib.hid (RX.on RW.out hb12)
    replace RU := Lib.hid (RX.on RU.out hb12)
    replace OA := Lib.hid (OwnT.on OA.out hb12)
    replace B14 := Lib.hid (Blk.on B14.out hb12)
    replace TT := Lib.hid (below_on hb12 TT.out)
    clear hb12
    have HSM := Lib.hid (samemsgs_yes X.2 ao ao6 _ _ co co6 _ _ w12 (OwnM.rx OO.out.own) RW.out (fun _ h => h) (fun _ h => h) (by omega))
    go_wp2_with fail
    refine HSM.out.mono ?_
    rintro e w13 ⟨rfl, hb13⟩
    clear HSM RW
    replace B10 := Lib.hid (Blk.on B10.out hb13)
    replace OS := Lib.hid (OwnT.on OS.out hb13)
    replace OO := Lib.hid (OwnT.on OO.out hb13)
    replace RU := Lib.hid (RX.on RU.out hb13)
    replace OA := Lib.hid (OwnT.on OA.out hb13)
    replace B14 := Lib.hid (Blk.on B14.out hb13)
    replace TT := Lib.hid (below_on hb13 TT.out)
    clear hb13
    have HSB := Lib.hid (sameb_yes [] 0 a8 none 0 0 c8 0 _ (fun _ => False) w13 RU.out (RowsOf.nil none 0 (Nat.zero_le _)) (fun _ h => h) (fun _ h => h.elim) (by simp))
    have c0 := Blk.cell B14.out 0
    have c1 := Blk.cell B14.out 1
    go_wp2_with fail
    refine HSB.out.mono ?_
    rintro e w14 ⟨rfl, hb14⟩
    clear HSB B14 RU c0 c1
    replace B10 := Lib.hid (Blk.on B10.out hb14)
    replace OS := Lib.hid (OwnT.on OS.out hb14)
    replace OO := Lib.hid (OwnT.on OO.out hb14)
    replace OA := Lib.hid (OwnT.on OA.out hb14)
    replace TT := Lib.hid (below_on hb14 TT.out)
    clear hb14
    have HSM := Lib.hid (samemsgs_yes l aa a _ _ ca c _ _ w14 (OwnM.rx OA.out.own) (HROW.out.on (T.out.trans (TT.out.mono T.out.size))) (fun _ h => h) (fun _ h => h) (by omega))
    have c0 := Blk.cell (Blk.on B4.out TT.out) 0
    go_wp2_with fail
    refine HSM.out.mono ?_
    rintro e w15 ⟨rfl, hb15⟩
    clear HSM c0
    replace B10 := Lib.hid (Blk.on B10.out hb15)
    replace OS := Lib.hid (OwnT.on OS.out hb15)
    replace OO := Lib.hid (OwnT.on OO.out hb15)
    replace OA := Lib.hid (OwnT.on OA.out hb15)
    replace TT := Lib.hid (below_on hb15 TT.out)
    clear hb15
    have hsp : ∃ B1 T1, w3.heap.size ≤ B1 ∧ (0 < X.1.1.length → OwnT w15 B1 T1 X.1.1 (.slice a4 X.1.1.length c4)) ∧ (0 < X.2.length → Tp ≤ B1) ∧ (Ta ≤ B1 ∨ T1 ≤ Ba) := by
      rcases HXE.out with h | h
      · exact ⟨w15.heap.size, w15.heap.size, TT.out.size, fun h2 => by rw [h] at h2; exact absurd h2 (by simp), fun _ => OO.out.lt, .inl OA.out.lt⟩
      · exact ⟨Bp, Tp, HBP.out, fun _ => OS.out, fun h2 => by rw [h] at h2; exact absurd h2 (by simp), .inr HTB.out⟩
    obtain ⟨B1, T1, hB1, hS1, hO1, hA1⟩ := hsp
    have HSP := Lib.hid (spoil_any X.1.1 a4 c4 B1 T1 w15 hS1 (by omega))
    have HB1 := Lib.hid hB1
    have HO1 := Lib.hid hO1
    have HA1 := Lib.hid hA1
    have c10 := Blk.cell B10.out 0
    clear hS1 hB1 hO1 hA1 B10 OS
    go_wp2_with fail
    refine HSP.out.mono ?_
    rintro e w16 ⟨rfl, hk9⟩
    replace TT := Lib.hid (Below.trans TT.out (hk9.below.mono HB1.out))
    have HSP2 := Lib.hid (spoil_any X.2 ao co Bp Tp w16 (fun h => OO.out.spk hk9 (.inl (HO1.out h))) (by omega))
    replace OA := Lib.hid (OwnT.spk OA.out hk9 HA1.out)
    clear HSP OO HO1 HB1 c10 hk9 HA1
    go_wp2_with fail
    refine HSP2.out.mono ?_
    rintro e w17 ⟨rfl, hk10⟩
    replace TT := Lib.hid (Below.trans TT.out (hk10.below.mono HBP.out))
    have HSP3 := Lib.hid (spoil_any l aa ca Ba Ta w17 (fun _ => OwnT.spk OA.out hk10 (.inr HTB.out)) (by omega))
    clear HSP2 hk10 OA
    go_wp2_with fail
    refine HSP3.out.mono ?_
    rintro e w18 ⟨rfl, hk11⟩
    replace TT := Lib.hid (Below.trans TT.out (hk11.below.mono HBA.out))
    clear HSP3 hk11
    have B4' := Lib.hid (Blk.on B4.out TT.out)
    have B9' := Lib.hid (Blk.on B9.out TT.out)
    have HSB := Lib.hid (sameb_yes l since a3 a l.length l.length c3 c _ _ w18 (RX.on RO.out TT.out) (HROW.out.on (T.out.trans (TT.out.mono T.out.size))) (fun _ h => h) (fun _ h => h) (by omega))
    go_wp2_with (first
      | (refine wpList_load_blk rfl 24 _ rfl (G) 0 rfl [.slice a3 l.length c3, .int .i64 since] _ (Blk.range (pre := []) (post := []) B9'.out rfl) Tryd.underlying24 rfl sizeB ?_)
      | (refine wpList_load_blk rfl 24 _ rfl (w.heap.size) 0 rfl [.slice a l.length c, .int .i64 since] _ (Blk.range (pre := []) (post := []) B4'.out rfl) Tryd.underlying24 rfl sizeB ?_))
    refine HSB.out.mono ?_
    rintro e w19 ⟨rfl, hb19⟩
    clear HSB B4' B9'
    replace TT := Lib.hid (below_on hb19 TT.out)
    clear hb19
    go_wp2_with fail
    refine (awakeb_any _).mono ?_
    rintro e w20 ⟨rfl, hb20⟩
    replace TT := Lib.hid (below_on hb20 TT.out)
    clear hb20
    go_wp2_with fail
    go_ret
    exact ⟨rfl, T.out.trans (TT.out.mono T.out.size)⟩
  refine wp_region_held_drew (S := (fun w' => Blk w' (w.heap.size) 24 #[.slice a l.length c, .int .i64 since])) (by kernel_rfl) ?_ (fun hHeld => ?_)
  · exact B4.out.drew
  obtain ⟨W1, hW1⟩ : ∃ W1, W1 = w2.drew := ⟨_, rfl⟩
  have T := T.out.drew
  rw [← hW1] at hHeld T ⊢
  have T := Lib.hid T
  have hs0 : w.heap.size + 1 ≤ W1.heap.size := Blk.lt hHeld
  clear hW1 B4
  refine wpAnyH_take (i := 0) (v := ?_) rfl (by kernel_rfl) (by kernel_rfl) (by kernel_rfl) (fun _ _ _ h => h) (Or.inl ⟨by rfl, ?_⟩) hHeld ?_
  rotate_left
  · intro w hSw
    try dsimp only at hSw
    first | (go_simp; done) | (go_simp; with_reducible rfl)
  try simp only [Act.put, List.getElem_toArray, List.getElem_cons_zero, List.setIfInBounds_toArray, List.set_cons_zero, List.set_cons_succ]
  refine wpAnyH_take (i := 1) (v := .slice a l.length c) rfl (by kernel_rfl) (by kernel_rfl) (by kernel_rfl) (fun _ _ _ h => h) (Or.inl ⟨by rfl, ?_⟩) hHeld ?_
  · intro w hSw
    have h4 := Blk.cell hSw 0
    first | (go_simp; done) | (go_simp; with_reducible rfl)
  try simp only [Act.put, List.getElem_toArray, List.getElem_cons_zero, List.getElem_cons_succ, List.setIfInBounds_toArray, List.set_cons_zero, List.set_cons_succ]
  refine wpAnyH_take (i := 3) (v := ?_) rfl (by kernel_rfl) (by kernel_rfl) (by kernel_rfl) (fun _ _ _ h => h) (Or.inl ⟨by rfl, ?_⟩) hHeld ?_
  rotate_left
  · intro w hSw
    try dsimp only at hSw
    first | (go_simp; done) | (go_simp; with_reducible rfl)
  try simp only [Act.put, List.getElem_toArray, List.getElem_cons_zero, List.getElem_cons_succ, List.setIfInBounds_toArray, List.set_cons_zero, List.set_cons_succ]
  refine wpAnyH_take (i := 4) (v := .int .i64 since) rfl (by kernel_rfl) (by kernel_rfl) (by kernel_rfl) (fun _ _ _ h => h) (Or.inl ⟨by rfl, ?_⟩) hHeld ?_
  · intro w hSw
    have h4 := Blk.cell hSw 1
    first | (go_simp; done) | (go_simp; with_reducible rfl)
  try simp only [Act.put, List.getElem_toArray, List.getElem_cons_zero, List.getElem_cons_succ, List.setIfInBounds_toArray, List.set_cons_zero, List.set_cons_succ]
  refine wpAnyH_ready (rs := [2, 6]) (by kernel_rfl) (by simp) ?_
  refine AllReadyH.cons rfl (fun K hK => ?_) (AllReadyH.cons rfl (fun K hK => ?_) AllReadyH.nil)
  · go_simp
    go_at_call 13
    refine (copyrow_any l a l.length c _ W1 (HROW.out.on T.out) (fun _ h => h) (fit_small FIT.out) (by omega)).mono ?_
    rintro e w3 ⟨a3, c3, S3, css3, rfl, hown, hb⟩
    have hl := hb.size
    have RO := Lib.hid (OwnM.rows ⟨_, _, hown⟩)
    clear hown
    refine hK.out _ _ (Blk.on hHeld hb) (fun hHeld2 => ?_)
    clear hHeld hK K
    have hHeld := hHeld2
    clear hHeld2
    try simp only [Act.put, List.getElem_toArray, List.getElem_cons_zero, List.getElem_cons_succ, List.setIfInBounds_toArray, List.set_cons_zero, List.set_cons_succ]
    replace T := Lib.hid (below_on hb T.out)
    clear hb
    refine wpAnyH_take (i := 5) (v := ?_) rfl (by kernel_rfl) (by kernel_rfl) (by kernel_rfl) (fun _ _ _ h => h) (Or.inl ⟨by rfl, ?_⟩) hHeld ?_
    rotate_left
    · intro w hSw
      try dsimp only at hSw
      first | (go_simp; done) | (go_simp; with_reducible rfl)
    try simp only [Act.put, List.getElem_toArray, List.getElem_cons_zero, List.getElem_cons_succ, List.setIfInBounds_toArray, List.set_cons_zero, List.set_cons_succ]
    refine wpAnyH_ready (rs := [6]) (by kernel_rfl) (by simp) ?_
    refine AllReadyH.cons rfl (fun K hK => ?_) AllReadyH.nil
    go_simp
    refine hK.out _ _ (Blk.alloc hHeld _) (fun hHeld2 => ?_)
    clear hHeld hK K
    have hHeld := hHeld2
    clear hHeld2
    try simp only [Act.put, List.getElem_toArray, List.getElem_cons_zero, List.getElem_cons_succ, List.setIfInBounds_toArray, List.set_cons_zero, List.set_cons_succ]
    obtain ⟨wa, hwa⟩ : ∃ wa, wa = w3.alloc (.cells #[.slice none 0 0, .int .i64 0] 24) := ⟨_, rfl⟩
    rw [← hwa] at hHeld ⊢
    have hla : w3.heap.size + 1 ≤ wa.heap.size := by rw [hwa]; simp
    obtain ⟨G, hG⟩ : ∃ G, G = w3.heap.size := ⟨_, rfl⟩
    rw [← hG]
    have BG := Blk.new w3 24 #[.slice none 0 0, .int .i64 0]
    rw [← hwa] at BG
    rw [← hG] at BG
    replace BG := Lib.hid BG
    have hG1 := Nat.le_of_eq hG
    have hG2 := Nat.le_of_eq hG.symm
    have hba : Below w3.heap.size w3 wa := by rw [hwa]; exact (Below.refl _ _).alloc (Nat.le_refl _) _
    clear hG hwa
    replace T := Lib.hid (below_on hba T.out)
    replace RO := Lib.hid (RM.under RO.out hba (fun _ h => h.2))
    clear hba
    refine wpAnyH_ready (rs := [7]) (by kernel_rfl) (by simp) ?_
    refine AllReadyH.cons rfl (fun K hK => ?_) AllReadyH.nil
    refine step_store_blk (T := 24) (by rfl) 24 _ _ (by rfl) G 0 [] [.slice none 0 0, .int .i64 0] [] [.slice a3 l.length c3, .int .i64 since] (by rfl) (by rfl) BG.out rfl rfl sizeB buf_one' (fun w4 b4 U4 => ?_)
    refine hK.out _ _ (U4.blk hHeld (by omega)) (fun hHeld2 => ?_)
    clear hHeld hK K
    have hHeld := hHeld2
    clear hHeld2
    try simp only [Act.put, List.getElem_toArray, List.getElem_cons_zero, List.getElem_cons_succ]
    refine wpAnyH_done (by kernel_rfl) ?_ _
    refine REST G a3 c3 _ _ _ _ _ _ _ _ _ _ _ _ _ w4 hHeld b4 (rx_upd RO.out U4 (by omega) (by omega)) (T.out.trans (U4.below _ (by omega)))
  · go_simp
    refine hK.out _ _ (Blk.alloc hHeld _) (fun hHeld2 => ?_)
    clear hHeld hK K
    have hHeld := hHeld2
    clear hHeld2
    try simp only [Act.put, List.getElem_toArray, List.getElem_cons_zero, List.getElem_cons_succ, List.setIfInBounds_toArray, List.set_cons_zero, List.set_cons_succ]
    obtain ⟨wa, hwa⟩ : ∃ wa, wa = W1.alloc (.cells #[.slice none 0 0, .int .i64 0] 24) := ⟨_, rfl⟩
    rw [← hwa] at hHeld ⊢
    have hla : W1.heap.size + 1 ≤ wa.heap.size := by rw [hwa]; simp
    obtain ⟨G, hG⟩ : ∃ G, G = W1.heap.size := ⟨_, rfl⟩
    rw [← hG]
    have BG := Blk.new W1 24 #[.slice none 0 0, .int .i64 0]
    rw [← hwa] at BG
    rw [← hG] at BG
    replace BG := Lib.hid BG
    have hG1 := Nat.le_of_eq hG
    have hG2 := Nat.le_of_eq hG.symm
    have hba : Below W1.heap.size W1 wa := by rw [hwa]; exact (Below.refl _ _).alloc (Nat.le_refl _) _
    clear hG hwa
    replace T := Lib.hid (below_on hba T.out)
    clear hba
    refine wpAnyH_ready (rs := [2]) (by kernel_rfl) (by simp) ?_
    refine AllReadyH.cons rfl (fun K hK => ?_) AllReadyH.nil
    go_simp
    go_at_call 13
    refine (copyrow_any l a l.length c _ wa (HROW.out.on T.out) (fun _ h => h) (fit_small FIT.out) (by omega)).mono ?_
    rintro e w3 ⟨a3, c3, S3, css3, rfl, hown, hb⟩
    have hl := hb.size
    have RO := Lib.hid (OwnM.rows ⟨_, _, hown⟩)
    clear hown
    refine hK.out _ _ (Blk.on hHeld hb) (fun hHeld2 => ?_)
    clear hHeld hK K
    have hHeld := hHeld2
    clear hHeld2
    try simp only [Act.put, List.getElem_toArray, List.getElem_cons_zero, List.getElem_cons_succ, List.setIfInBounds_toArray, List.set_cons_zero, List.set_cons_succ]
    replace T := Lib.hid (below_on hb T.out)
    replace BG := Lib.hid (Blk.on BG.out hb)
    clear hb
    refine wpAnyH_take (i := 5) (v := ?_) rfl (by kernel_rfl) (by kernel_rfl) (by kernel_rfl) (fun _ _ _ h => h) (Or.inl ⟨by rfl, ?_⟩) hHeld ?_
    rotate_left
    · intro w hSw
      try dsimp only at hSw
      first | (go_simp; done) | (go_simp; with_reducible rfl)
    try simp only [Act.put, List.getElem_toArray, List.getElem_cons_zero, List.getElem_cons_succ, List.setIfInBounds_toArray, List.set_cons_zero, List.set_cons_succ]
    refine wpAnyH_ready (rs := [7]) (by kernel_rfl) (by simp) ?_
    refine AllReadyH.cons rfl (fun K hK => ?_) AllReadyH.nil
    refine step_store_blk (T := 24) (by rfl) 24 _ _ (by rfl) G 0 [] [.slice none 0 0, .int .i64 0] [] [.slice a3 l.length c3, .int .i64 since] (by rfl) (by rfl) BG.out rfl rfl sizeB buf_one' (fun w4 b4 U4 => ?_)
    refine hK.out _ _ (U4.blk hHeld (by omega)) (fun hHeld2 => ?_)
    clear hHeld hK K
    have hHeld := hHeld2
    clear hHeld2
    try simp only [Act.put, List.getElem_toArray, List.getElem_cons_zero, List.getElem_cons_succ]
    refine wpAnyH_done (by kernel_rfl) ?_ _
    refine REST G a3 c3 _ _ _ _ _ _ _ _ _ _ _ _ _ w4 hHeld b4 (rx_upd RO.out U4 (by omega) (by omega)) (T.out.trans (U4.below _ (by omega)))
end Go.Proofs.YtmdcfmdjbncaoaaDoor
