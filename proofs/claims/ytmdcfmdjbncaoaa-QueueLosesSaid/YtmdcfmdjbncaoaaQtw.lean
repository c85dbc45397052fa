/- QueueTakes: the walk. -/
import Derived.Test.YtmdcfmdjbncaoaaTr
import Derived.Test.YtmdcfmdjbncaoaaLr
import Derived.Test.YtmdcfmdjbncaoaaQpw
namespace Go.Proofs.Ytmdcfmdjbncaoaa
open Go.RowKit
attribute [local go_sem ↓] Go.wp_at_zero Go.wp_at_succ
attribute [local go_sem] Go.undef

abbrev RX (w : World) (l : List MX) (a : Option Addr) (n c : Nat) : Prop := RM w (· < w.heap.size) l a n c
theorem RX.on {w w' : World} {l : List MX} {a : Option Addr} {n c : Nat} (h : RX w l a n c) (hb : Below w.heap.size w w') : RX w' l a n c := RM.mono (RM.under h hb (fun _ h => h)) (fun _ hy => Nat.lt_of_lt_of_le hy hb.size)
abbrev MXs (w : World) (m : MX) (cs : List Value) : Prop := IsM w (· < w.heap.size) m cs
theorem MXs.on {w w' : World} {m : MX} {cs : List Value} (h : MXs w m cs) (hb : Below w.heap.size w w') : MXs w' m cs := (h.under hb (fun _ h => h)).mono (fun _ hy => Nat.lt_of_lt_of_le hy hb.size)
theorem Blk.on {w w' : World} {g : Nat} {T : TypeId} {cs : Array Value} (h : Blk w g T cs) (hb : Below w.heap.size w w') : Blk w' g T cs := h.under hb h.lt

set_option maxHeartbeats 8000000 in
set_option maxRecDepth 100000 in
theorem qtakes_go (q : QX) (a : Option Addr) (n c : Nat) (w : World) (now : Int) (hrow : RM w (· < w.heap.size) q.l a n c) :
    Calls Try.prog 9 #[.agg #[.slice a n c, .int .i64 q.r, .int .i64 q.d], .int .i64 now] w fun e w' => e = .returned (.bool true) ∧ Below w.heap.size w w' := by
  obtain rfl : n = q.l.length := hrow.1
  have hW : Below w.heap.size w (w.alloc (.cells #[.slice a q.l.length c, .int .i64 q.r, .int .i64 q.d] 46)) := by go_grown
  have B2 : Hid (Blk (w.alloc (.cells #[.slice a q.l.length c, .int .i64 q.r, .int .i64 q.d] 46)) w.heap.size 46 #[.slice a q.l.length c, .int .i64 q.r, .int .i64 q.d]) := Blk.new _ _ _
  have R0 := Lib.hid (RX.on hrow hW)
  have HF := Lib.hid (fitq_any q a q.l.length c _ _ R0.out (fun _ h => h))
  have T := Lib.hid hW
  clear hrow hW
  go_enter Try.func9, Try.ntmps9
  go_wp2_with fail
  refine HF.out.mono ?_
  rintro e w1 ⟨fb, rfl, hfb, hb1⟩
  replace B2 := Lib.hid (Blk.on B2.out hb1)
  replace R0 := Lib.hid (RX.on R0.out hb1)
  replace T := Lib.hid (below_on hb1 T.out)
  clear hb1
  clear HF
  cases fb with
  | false =>
    clear hfb
    go_wp2_with fail
    refine (awakeq_any _).mono ?_
    rintro e w2 ⟨rfl, hb2⟩
    replace T := Lib.hid (below_on hb2 T.out)
    clear hb2
    go_wp2_with fail
    go_ret
    exact ⟨rfl, T.out⟩
  | true =>
    have HFIT := Lib.hid (hfb rfl)
    clear hfb
    have LEN : Hid (q.l.length ≤ 65535) := by have := HFIT.out.len; show _ ≤ _; omega
    have LENX : Hid (q.l.length ≤ 65536) := by have := HFIT.out.len; show _ ≤ _; omega
    go_wp2_with (refine wpList_load_blk rfl 46 _ rfl (w.heap.size) 0 rfl [.slice a q.l.length c, .int .i64 q.r, .int .i64 q.d] _ (Blk.range (pre := []) (post := []) B2.out rfl) Try.underlying46 rfl sizeI ?_)
    refine (copyq_any q a q.l.length c _ w1 R0.out (fun _ h => h) HFIT.out.small LENX.out).mono ?_
    rintro e w3 ⟨a3, c3, S3, css3, rfl, hown3, hb3⟩
    have R3 : Hid (RX w3 q.l a3 q.l.length c3) := RM.mono (OwnE.rows keepsM hown3) (fun y hy => hy.2)
    clear hown3
    replace B2 := Lib.hid (Blk.on B2.out hb3)
    replace R0 := Lib.hid (RX.on R0.out hb3)
    replace T := Lib.hid (below_on hb3 T.out)
    clear hb3
    have bn3 : Blk (w3.alloc (.cells #[.slice none 0 0, .int .i64 0, .int .i64 0] 46)) w3.heap.size 46 #[.slice none 0 0, .int .i64 0, .int .i64 0] := Blk.new _ _ _
    go_upto_region 4 with (refine wpList_store_blk (T := 46) rfl 46 _ _ rfl (w3.heap.size) 0 [] [.slice none 0 0, .int .i64 0, .int .i64 0] [] [.slice a3 q.l.length c3, .int .i64 q.r, .int .i64 q.d] rfl rfl bn3 rfl rfl sizeI inb_one ?_; intro w4 b9 U4)
    have B5 := Lib.hid b9
    have b34 : Below w3.heap.size w3 w4 := ((Below.refl _ _).alloc (Nat.le_refl _) _).trans (U4.below _ (Nat.le_refl _))
    replace B2 := Lib.hid (Blk.on B2.out b34)
    replace R0 := Lib.hid (RX.on R0.out b34)
    replace R3 := Lib.hid (RX.on R3.out b34)
    replace T := Lib.hid (below_on b34 T.out)
    clear b34
    clear U4 bn3 b9
    obtain ⟨q2, m2, ok, hx⟩ : ∃ q2 m2 ok, takeQ q = (q2, m2, ok) := ⟨_, _, _, rfl⟩
    have HX := Lib.hid hx
    have hp := takep_any q a3 q.l.length c3 _ w4 R3.out (fun _ h => h) HFIT.out.small LENX.out
    rw [hx] at hp
    have HP := Lib.hid hp
    clear hp hx
    go_wp2_with (refine wpList_load_blk rfl 46 _ rfl (w3.heap.size) 0 rfl [.slice a3 q.l.length c3, .int .i64 q.r, .int .i64 q.d] _ (Blk.range (pre := []) (post := []) B5.out rfl) Try.underlying46 rfl sizeI ?_)
    refine HP.out.mono ?_
    rintro e w5 ⟨a5, n5, c5, k5, i5, b5, s5, an5, nn5, cn5, rfl, hr5, hm5, hb5⟩
    dsimp only at hr5 hm5 ⊢
    have R5 : Hid (RX w5 q2.l a5 n5 c5) := RM.mono hr5 (fun y hy => hy.2)
    have M5 : Hid (MXs w5 m2 [.int .i64 m2.id, .string m2.topic, .int .i64 k5, .int .i64 i5, .int .u64 b5, .string s5, .slice an5 nn5 cn5, .int .i64 m2.tat, .int .i64 m2.til, .string m2.reply, .int .i64 m2.corr, .int .i64 m2.prio, .int .i64 m2.hops]) := IsM.mono hm5 (fun y hy => hy.2)
    clear hr5 hm5 HP
    replace B2 := Lib.hid (Blk.on B2.out hb5)
    replace R0 := Lib.hid (RX.on R0.out hb5)
    replace R3 := Lib.hid (RX.on R3.out hb5)
    replace B5 := Lib.hid (Blk.on B5.out hb5)
    replace T := Lib.hid (below_on hb5 T.out)
    clear hb5
    have bia : Blk ((w5.alloc (.cells #[.slice none 0 0, .int .i64 0, .int .i64 0] 46)).alloc (.cells #[.int .i64 0, .string ByteArray.empty, .int .i64 0, .int .i64 0, .int .u64 0, .string ByteArray.empty, .slice none 0 0, .int .i64 0, .int .i64 0, .string ByteArray.empty, .int .i64 0, .int .i64 0, .int .i64 0] 48)) w5.heap.size 46 #[.slice none 0 0, .int .i64 0, .int .i64 0] := (Blk.new _ _ _).alloc _
    have bma : Blk ((w5.alloc (.cells #[.slice none 0 0, .int .i64 0, .int .i64 0] 46)).alloc (.cells #[.int .i64 0, .string ByteArray.empty, .int .i64 0, .int .i64 0, .int .u64 0, .string ByteArray.empty, .slice none 0 0, .int .i64 0, .int .i64 0, .string ByteArray.empty, .int .i64 0, .int .i64 0, .int .i64 0] 48)) (w5.heap.size + 1) 48 #[.int .i64 0, .string ByteArray.empty, .int .i64 0, .int .i64 0, .int .u64 0, .string ByteArray.empty, .slice none 0 0, .int .i64 0, .int .i64 0, .string ByteArray.empty, .int .i64 0, .int .i64 0, .int .i64 0] := Blk.new' _ _ _ (by simp)
    have HWB : Hid (Below w5.heap.size w5 ((w5.alloc (.cells #[.slice none 0 0, .int .i64 0, .int .i64 0] 46)).alloc (.cells #[.int .i64 0, .string ByteArray.empty, .int .i64 0, .int .i64 0, .int .u64 0, .string ByteArray.empty, .slice none 0 0, .int .i64 0, .int .i64 0, .string ByteArray.empty, .int .i64 0, .int .i64 0, .int .i64 0] 48))) := ((Below.refl _ _).alloc (Nat.le_refl _) _).alloc (by simp) _
    go_upto_region 5 with (first
      | (refine wpList_store_blk (T := 46) rfl 46 _ _ rfl (w5.heap.size) 0 [] [.slice none 0 0, .int .i64 0, .int .i64 0] [] [.slice a5 n5 c5, .int .i64 q2.r, .int .i64 q2.d] rfl rfl bia rfl rfl sizeI inb_one ?_; intro w6 b10 U6; have bmb := U6.blk bma (by omega))
      | (refine wpList_store_blk (T := 48) rfl 48 _ _ rfl (w5.heap.size + 1) 0 [] [.int .i64 0, .string ByteArray.empty, .int .i64 0, .int .i64 0, .int .u64 0, .string ByteArray.empty, .slice none 0 0, .int .i64 0, .int .i64 0, .string ByteArray.empty, .int .i64 0, .int .i64 0, .int .i64 0] [] [.int .i64 m2.id, .string m2.topic, .int .i64 k5, .int .i64 i5, .int .u64 b5, .string s5, .slice an5 nn5 cn5, .int .i64 m2.tat, .int .i64 m2.til, .string m2.reply, .int .i64 m2.corr, .int .i64 m2.prio, .int .i64 m2.hops] rfl rfl bmb rfl rfl sizeM (by simp [Value.oneCell']) ?_; intro w7 b11 U7; have b10' := U7.blk b10 (by omega)))
    have B6 := Lib.hid b10'
    have B7 := Lib.hid b11
    have b57 : Below w5.heap.size w5 w7 := (HWB.out.trans (U6.below _ (Nat.le_refl _))).trans (U7.below _ (Nat.le_succ _))
    replace B2 := Lib.hid (Blk.on B2.out b57)
    replace R0 := Lib.hid (RX.on R0.out b57)
    replace R3 := Lib.hid (RX.on R3.out b57)
    replace B5 := Lib.hid (Blk.on B5.out b57)
    replace R5 := Lib.hid (RX.on R5.out b57)
    replace M5 := Lib.hid (MXs.on M5.out b57)
    replace T := Lib.hid (below_on b57 T.out)
    clear b57
    clear U6 U7 bia bma bmb b10 b10' b11 HWB
    have hp := taker_any q a q.l.length c _ w7 R0.out (fun _ h => h) HFIT.out.small LENX.out
    rw [HX.out] at hp
    have HP := Lib.hid hp
    clear hp
    go_wp2_with (refine wpList_load_blk rfl 46 _ rfl (w.heap.size) 0 rfl [.slice a q.l.length c, .int .i64 q.r, .int .i64 q.d] _ (Blk.range (pre := []) (post := []) B2.out rfl) Try.underlying46 rfl sizeI ?_)
    refine HP.out.mono ?_
    rintro e w8 ⟨a8, n8, c8, k8, i8, b8, s8, an8, nn8, cn8, rfl, hr8, hm8, hb8⟩
    dsimp only at hr8 hm8 ⊢
    have R8 : Hid (RX w8 q2.l a8 n8 c8) := RM.mono hr8 (fun y hy => hy.2)
    have M8 : Hid (MXs w8 m2 [.int .i64 m2.id, .string m2.topic, .int .i64 k8, .int .i64 i8, .int .u64 b8, .string s8, .slice an8 nn8 cn8, .int .i64 m2.tat, .int .i64 m2.til, .string m2.reply, .int .i64 m2.corr, .int .i64 m2.prio, .int .i64 m2.hops]) := IsM.mono hm8 (fun y hy => hy.2)
    clear hr8 hm8 HP
    replace B2 := Lib.hid (Blk.on B2.out hb8)
    replace R0 := Lib.hid (RX.on R0.out hb8)
    replace R3 := Lib.hid (RX.on R3.out hb8)
    replace B5 := Lib.hid (Blk.on B5.out hb8)
    replace R5 := Lib.hid (RX.on R5.out hb8)
    replace M5 := Lib.hid (MXs.on M5.out hb8)
    replace B6 := Lib.hid (Blk.on B6.out hb8)
    replace B7 := Lib.hid (Blk.on B7.out hb8)
    replace T := Lib.hid (below_on hb8 T.out)
    clear hb8
    have bia : Blk ((w8.alloc (.cells #[.slice none 0 0, .int .i64 0, .int .i64 0] 46)).alloc (.cells #[.int .i64 0, .string ByteArray.empty, .int .i64 0, .int .i64 0, .int .u64 0, .string ByteArray.empty, .slice none 0 0, .int .i64 0, .int .i64 0, .string ByteArray.empty, .int .i64 0, .int .i64 0, .int .i64 0] 48)) w8.heap.size 46 #[.slice none 0 0, .int .i64 0, .int .i64 0] := (Blk.new _ _ _).alloc _
    have bma : Blk ((w8.alloc (.cells #[.slice none 0 0, .int .i64 0, .int .i64 0] 46)).alloc (.cells #[.int .i64 0, .string ByteArray.empty, .int .i64 0, .int .i64 0, .int .u64 0, .string ByteArray.empty, .slice none 0 0, .int .i64 0, .int .i64 0, .string ByteArray.empty, .int .i64 0, .int .i64 0, .int .i64 0] 48)) (w8.heap.size + 1) 48 #[.int .i64 0, .string ByteArray.empty, .int .i64 0, .int .i64 0, .int .u64 0, .string ByteArray.empty, .slice none 0 0, .int .i64 0, .int .i64 0, .string ByteArray.empty, .int .i64 0, .int .i64 0, .int .i64 0] := Blk.new' _ _ _ (by simp)
    have HWB : Hid (Below w8.heap.size w8 ((w8.alloc (.cells #[.slice none 0 0, .int .i64 0, .int .i64 0] 46)).alloc (.cells #[.int .i64 0, .string ByteArray.empty, .int .i64 0, .int .i64 0, .int .u64 0, .string ByteArray.empty, .slice none 0 0, .int .i64 0, .int .i64 0, .string ByteArray.empty, .int .i64 0, .int .i64 0, .int .i64 0] 48))) := ((Below.refl _ _).alloc (Nat.le_refl _) _).alloc (by simp) _
    go_upto_region 6 with (first
      | (refine wpList_store_blk (T := 46) rfl 46 _ _ rfl (w8.heap.size) 0 [] [.slice none 0 0, .int .i64 0, .int .i64 0] [] [.slice a8 n8 c8, .int .i64 q2.r, .int .i64 q2.d] rfl rfl bia rfl rfl sizeI inb_one ?_; intro w9 b14 U9; have bmb := U9.blk bma (by omega))
      | (refine wpList_store_blk (T := 48) rfl 48 _ _ rfl (w8.heap.size + 1) 0 [] [.int .i64 0, .string ByteArray.empty, .int .i64 0, .int .i64 0, .int .u64 0, .string ByteArray.empty, .slice none 0 0, .int .i64 0, .int .i64 0, .string ByteArray.empty, .int .i64 0, .int .i64 0, .int .i64 0] [] [.int .i64 m2.id, .string m2.topic, .int .i64 k8, .int .i64 i8, .int .u64 b8, .string s8, .slice an8 nn8 cn8, .int .i64 m2.tat, .int .i64 m2.til, .string m2.reply, .int .i64 m2.corr, .int .i64 m2.prio, .int .i64 m2.hops] rfl rfl bmb rfl rfl sizeM (by simp [Value.oneCell']) ?_; intro w10 b15 U10; have b14' := U10.blk b14 (by omega)))
    have B9 := Lib.hid b14'
    have B10 := Lib.hid b15
    have b810 : Below w8.heap.size w8 w10 := (HWB.out.trans (U9.below _ (Nat.le_refl _))).trans (U10.below _ (Nat.le_succ _))
    replace B2 := Lib.hid (Blk.on B2.out b810)
    replace R0 := Lib.hid (RX.on R0.out b810)
    replace R3 := Lib.hid (RX.on R3.out b810)
    replace B5 := Lib.hid (Blk.on B5.out b810)
    replace R5 := Lib.hid (RX.on R5.out b810)
    replace M5 := Lib.hid (MXs.on M5.out b810)
    replace B6 := Lib.hid (Blk.on B6.out b810)
    replace B7 := Lib.hid (Blk.on B7.out b810)
    replace R8 := Lib.hid (RX.on R8.out b810)
    replace M8 := Lib.hid (MXs.on M8.out b810)
    replace T := Lib.hid (below_on b810 T.out)
    clear b810
    clear U9 U10 bia bma bmb b14 b14' b15 HWB
    -- the late ones
    obtain ⟨q3, l3, hy⟩ : ∃ q3 l3, lateQ q now = (q3, l3) := ⟨_, _, rfl⟩
    have HY := Lib.hid hy
    have hp := latep_any q now a3 q.l.length c3 _ w10 R3.out (fun _ h => h) HFIT.out.small LENX.out HFIT.out.d0 HFIT.out.d1
    rw [hy] at hp
    have HP := Lib.hid hp
    clear hp hy
    go_wp2_with (refine wpList_load_blk rfl 46 _ rfl (w3.heap.size) 0 rfl [.slice a3 q.l.length c3, .int .i64 q.r, .int .i64 q.d] _ (Blk.range (pre := []) (post := []) B5.out rfl) Try.underlying46 rfl sizeI ?_)
    refine HP.out.mono ?_
    rintro e w11 ⟨a11, n11, c11, al, nl, cl, rfl, hr11, hl11, hb11⟩
    dsimp only at hr11 hl11 ⊢
    have R11 : Hid (RX w11 q3.l a11 n11 c11) := RM.mono hr11 (fun y hy => hy.2)
    have L11 : Hid (RX w11 l3 al nl cl) := RM.mono hl11 (fun y hy => hy.2)
    clear hr11 hl11 HP
    replace B2 := Lib.hid (Blk.on B2.out hb11)
    replace R0 := Lib.hid (RX.on R0.out hb11)
    replace R3 := Lib.hid (RX.on R3.out hb11)
    replace B5 := Lib.hid (Blk.on B5.out hb11)
    replace R5 := Lib.hid (RX.on R5.out hb11)
    replace M5 := Lib.hid (MXs.on M5.out hb11)
    replace B6 := Lib.hid (Blk.on B6.out hb11)
    replace B7 := Lib.hid (Blk.on B7.out hb11)
    replace R8 := Lib.hid (RX.on R8.out hb11)
    replace M8 := Lib.hid (MXs.on M8.out hb11)
    replace B9 := Lib.hid (Blk.on B9.out hb11)
    replace B10 := Lib.hid (Blk.on B10.out hb11)
    replace T := Lib.hid (below_on hb11 T.out)
    clear hb11
    have bn3 : Blk (w11.alloc (.cells #[.slice none 0 0, .int .i64 0, .int .i64 0] 46)) w11.heap.size 46 #[.slice none 0 0, .int .i64 0, .int .i64 0] := Blk.new _ _ _
    go_upto_region 7 with (refine wpList_store_blk (T := 46) rfl 46 _ _ rfl (w11.heap.size) 0 [] [.slice none 0 0, .int .i64 0, .int .i64 0] [] [.slice a11 n11 c11, .int .i64 q3.r, .int .i64 q3.d] rfl rfl bn3 rfl rfl sizeI inb_one ?_; intro w12 b9 U12)
    have B12 := Lib.hid b9
    have b1112 : Below w11.heap.size w11 w12 := ((Below.refl _ _).alloc (Nat.le_refl _) _).trans (U12.below _ (Nat.le_refl _))
    replace B2 := Lib.hid (Blk.on B2.out b1112)
    replace R0 := Lib.hid (RX.on R0.out b1112)
    replace R3 := Lib.hid (RX.on R3.out b1112)
    replace B5 := Lib.hid (Blk.on B5.out b1112)
    replace R5 := Lib.hid (RX.on R5.out b1112)
    replace M5 := Lib.hid (MXs.on M5.out b1112)
    replace B6 := Lib.hid (Blk.on B6.out b1112)
    replace B7 := Lib.hid (Blk.on B7.out b1112)
    replace R8 := Lib.hid (RX.on R8.out b1112)
    replace M8 := Lib.hid (MXs.on M8.out b1112)
    replace B9 := Lib.hid (Blk.on B9.out b1112)
    replace B10 := Lib.hid (Blk.on B10.out b1112)
    replace R11 := Lib.hid (RX.on R11.out b1112)
    replace L11 := Lib.hid (RX.on L11.out b1112)
    replace T := Lib.hid (below_on b1112 T.out)
    clear b1112
    clear U12 bn3 b9
    have hp := later_any q now a q.l.length c _ w12 R0.out (fun _ h => h) HFIT.out.small LENX.out HFIT.out.d0 HFIT.out.d1
    rw [HY.out] at hp
    have HP := Lib.hid hp
    clear hp
    go_wp2_with (refine wpList_load_blk rfl 46 _ rfl (w.heap.size) 0 rfl [.slice a q.l.length c, .int .i64 q.r, .int .i64 q.d] _ (Blk.range (pre := []) (post := []) B2.out rfl) Try.underlying46 rfl sizeI ?_)
    refine HP.out.mono ?_
    rintro e w13 ⟨a13, n13, c13, ak, nk, ck, rfl, hr13, hl13, hb13⟩
    dsimp only at hr13 hl13 ⊢
    have R13 : Hid (RX w13 q3.l a13 n13 c13) := RM.mono hr13 (fun y hy => hy.2)
    have L13 : Hid (RX w13 l3 ak nk ck) := RM.mono hl13 (fun y hy => hy.2)
    clear hr13 hl13 HP
    replace B2 := Lib.hid (Blk.on B2.out hb13)
    replace R0 := Lib.hid (RX.on R0.out hb13)
    replace R3 := Lib.hid (RX.on R3.out hb13)
    replace B5 := Lib.hid (Blk.on B5.out hb13)
    replace R5 := Lib.hid (RX.on R5.out hb13)
    replace M5 := Lib.hid (MXs.on M5.out hb13)
    replace B6 := Lib.hid (Blk.on B6.out hb13)
    replace B7 := Lib.hid (Blk.on B7.out hb13)
    replace R8 := Lib.hid (RX.on R8.out hb13)
    replace M8 := Lib.hid (MXs.on M8.out hb13)
    replace B9 := Lib.hid (Blk.on B9.out hb13)
    replace B10 := Lib.hid (Blk.on B10.out hb13)
    replace R11 := Lib.hid (RX.on R11.out hb13)
    replace L11 := Lib.hid (RX.on L11.out hb13)
    replace B12 := Lib.hid (Blk.on B12.out hb13)
    replace T := Lib.hid (below_on hb13 T.out)
    clear hb13
    have bn3 : Blk (w13.alloc (.cells #[.slice none 0 0, .int .i64 0, .int .i64 0] 46)) w13.heap.size 46 #[.slice none 0 0, .int .i64 0, .int .i64 0] := Blk.new _ _ _
    go_upto_region 8 with (refine wpList_store_blk (T := 46) rfl 46 _ _ rfl (w13.heap.size) 0 [] [.slice none 0 0, .int .i64 0, .int .i64 0] [] [.slice a13 n13 c13, .int .i64 q3.r, .int .i64 q3.d] rfl rfl bn3 rfl rfl sizeI inb_one ?_; intro w14 b9 U14)
    have B14 := Lib.hid b9
    have b1314 : Below w13.heap.size w13 w14 := ((Below.refl _ _).alloc (Nat.le_refl _) _).trans (U14.below _ (Nat.le_refl _))
    replace B2 := Lib.hid (Blk.on B2.out b1314)
    replace R0 := Lib.hid (RX.on R0.out b1314)
    replace R3 := Lib.hid (RX.on R3.out b1314)
    replace B5 := Lib.hid (Blk.on B5.out b1314)
    replace R5 := Lib.hid (RX.on R5.out b1314)
    replace M5 := Lib.hid (MXs.on M5.out b1314)
    replace B6 := Lib.hid (Blk.on B6.out b1314)
    replace B7 := Lib.hid (Blk.on B7.out b1314)
    replace R8 := Lib.hid (RX.on R8.out b1314)
    replace M8 := Lib.hid (MXs.on M8.out b1314)
    replace B9 := Lib.hid (Blk.on B9.out b1314)
    replace B10 := Lib.hid (Blk.on B10.out b1314)
    replace R11 := Lib.hid (RX.on R11.out b1314)
    replace L11 := Lib.hid (RX.on L11.out b1314)
    replace B12 := Lib.hid (Blk.on B12.out b1314)
    replace R13 := Lib.hid (RX.on R13.out b1314)
    replace L13 := Lib.hid (RX.on L13.out b1314)
    replace T := Lib.hid (below_on b1314 T.out)
    clear b1314
    clear U14 bn3 b9
    obtain rfl : nl = l3.length := L11.out.1
    obtain rfl : nk = l3.length := L13.out.1
    go_wp2_with (first
      | (refine wpList_load_blk rfl 46 _ rfl (w5.heap.size) 0 rfl [.slice a5 n5 c5, .int .i64 q2.r, .int .i64 q2.d] _ (Blk.range (pre := []) (post := []) B6.out rfl) Try.underlying46 rfl sizeI ?_)
      | (refine wpList_load_blk rfl 46 _ rfl (w8.heap.size) 0 rfl [.slice a8 n8 c8, .int .i64 q2.r, .int .i64 q2.d] _ (Blk.range (pre := []) (post := []) B9.out rfl) Try.underlying46 rfl sizeI ?_))
    refine (sameq_yes q2 a5 a8 n5 n8 c5 c8 _ _ w14 R5.out R8.out (fun _ h => h) (fun _ h => h)).mono ?_
    rintro e w15 ⟨rfl, hb15⟩
    clear B6 B9 R5 R8
    replace B2 := Lib.hid (Blk.on B2.out hb15)
    replace R0 := Lib.hid (RX.on R0.out hb15)
    replace R3 := Lib.hid (RX.on R3.out hb15)
    replace B5 := Lib.hid (Blk.on B5.out hb15)
    replace M5 := Lib.hid (MXs.on M5.out hb15)
    replace B7 := Lib.hid (Blk.on B7.out hb15)
    replace M8 := Lib.hid (MXs.on M8.out hb15)
    replace B10 := Lib.hid (Blk.on B10.out hb15)
    replace R11 := Lib.hid (RX.on R11.out hb15)
    replace L11 := Lib.hid (RX.on L11.out hb15)
    replace B12 := Lib.hid (Blk.on B12.out hb15)
    replace R13 := Lib.hid (RX.on R13.out hb15)
    replace L13 := Lib.hid (RX.on L13.out hb15)
    replace B14 := Lib.hid (Blk.on B14.out hb15)
    replace T := Lib.hid (below_on hb15 T.out)
    clear hb15
    obtain ⟨x0, x1, x2, x3, x4, x5, x6, x7, x8, x9, x10, x11, x12⟩ := Blk.cells13 B7.out
    obtain ⟨y0, y1, y2, y3, y4, y5, y6, y7, y8, y9, y10, y11, y12⟩ := Blk.cells13 B10.out
    go_wp2_with fail
    refine (samemsg_yes m2 w15 _ _ _ _ M5.out M8.out (fun _ h => h) (fun _ h => h)).mono ?_
    rintro e w16 ⟨rfl, hb16⟩
    clear x0 x1 x2 x3 x4 x5 x6 x7 x8 x9 x10 x11 x12 y0 y1 y2 y3 y4 y5 y6 y7 y8 y9 y10 y11 y12 B7 B10 M5 M8
    replace B2 := Lib.hid (Blk.on B2.out hb16)
    replace R0 := Lib.hid (RX.on R0.out hb16)
    replace R3 := Lib.hid (RX.on R3.out hb16)
    replace B5 := Lib.hid (Blk.on B5.out hb16)
    replace R11 := Lib.hid (RX.on R11.out hb16)
    replace L11 := Lib.hid (RX.on L11.out hb16)
    replace B12 := Lib.hid (Blk.on B12.out hb16)
    replace R13 := Lib.hid (RX.on R13.out hb16)
    replace L13 := Lib.hid (RX.on L13.out hb16)
    replace B14 := Lib.hid (Blk.on B14.out hb16)
    replace T := Lib.hid (below_on hb16 T.out)
    clear hb16
    obtain ⟨u0, u1, u2⟩ := Blk.cells3 B12.out
    obtain ⟨v0, v1, v2⟩ := Blk.cells3 B14.out
    have hbb : (ok != ok) = false := by cases ok <;> rfl
    go_wp2_with fail
    refine (sameq_yes q3 a11 a13 n11 n13 c11 c13 _ _ w16 R11.out R13.out (fun _ h => h) (fun _ h => h)).mono ?_
    rintro e w17 ⟨rfl, hb17⟩
    clear u0 u1 u2 v0 v1 v2 B12 B14 R11 R13
    have hl3 : l3.length ≤ 65536 := by
      have h : (lateQ q now).2 = l3 := congrArg Prod.snd HY.out
      rw [← h]
      exact Nat.le_trans (List.length_filter_le _ _) LENX.out
    replace B2 := Lib.hid (Blk.on B2.out hb17)
    replace R0 := Lib.hid (RX.on R0.out hb17)
    replace R3 := Lib.hid (RX.on R3.out hb17)
    replace B5 := Lib.hid (Blk.on B5.out hb17)
    replace L11 := Lib.hid (RX.on L11.out hb17)
    replace L13 := Lib.hid (RX.on L13.out hb17)
    replace T := Lib.hid (below_on hb17 T.out)
    clear hb17
    go_wp2_with fail
    go_loopw [77] (fun iv wr => ∃ j : Nat, iv = .int .i64 j ∧ j ≤ l3.length ∧ Below w17.heap.size w17 wr) (fun i _ => l3.length - (intOf i).toNat)
    case atStart => exact ⟨0, rfl, Nat.zero_le _, Below.refl _ _⟩
    case round =>
      obtain ⟨j, rfl, hj, hbel⟩ := hrel
      have HBL := Lib.hid hbel
      replace B2 := Lib.hid (Blk.on B2.out hbel)
      replace R0 := Lib.hid (RX.on R0.out hbel)
      replace R3 := Lib.hid (RX.on R3.out hbel)
      replace B5 := Lib.hid (Blk.on B5.out hbel)
      replace L11 := Lib.hid (RX.on L11.out hbel)
      replace L13 := Lib.hid (RX.on L13.out hbel)
      replace T := Lib.hid (below_on hbel T.out)
      clear hbel
      by_cases hlt : j < l3.length
      · obtain ⟨g, o, x, xs, rfl, hSg, hx, hm, hxl, hr⟩ := L11.out.get hlt
        obtain ⟨g', o', x', xs', rfl, hSg', hx', hm', hxl', hr'⟩ := L13.out.get hlt
        obtain rfl : x' = x := by rw [hx] at hx'; injection hx' with e; exact e.symm
        have HM := Lib.hid hm
        have HM' := Lib.hid hm'
        obtain ⟨kx, ix, bx, sx, ax, nx, cx, rfl, -, -, -⟩ := hm
        obtain ⟨ky, iy, bY, sy, ay, ny, cy, rfl, -, -, -⟩ := hm'
        have hj0 : (0 : Int) ≤ (j : Int) := by omega
        have hj1 : (j : Int) < (l3.length : Int) := by omega
        have HG := Lib.hid (And.intro hSg hSg')
        have HRR := Lib.hid (And.intro hr hr')
        clear hx hx' hr hr' hSg hSg' hxl hxl'
        go_upto_region 13 with fail
        refine wp_region_held_drew (S := (fun w' => w'.rangeAt g (o + j * 13) [.int .i64 x'.id, .string x'.topic, .int .i64 kx, .int .i64 ix, .int .u64 bx, .string sx, .slice ax nx cx, .int .i64 x'.tat, .int .i64 x'.til, .string x'.reply, .int .i64 x'.corr, .int .i64 x'.prio, .int .i64 x'.hops] ∧ w'.rangeAt g' (o' + j * 13) [.int .i64 x'.id, .string x'.topic, .int .i64 ky, .int .i64 iy, .int .u64 bY, .string sy, .slice ay ny cy, .int .i64 x'.tat, .int .i64 x'.til, .string x'.reply, .int .i64 x'.corr, .int .i64 x'.prio, .int .i64 x'.hops] ∧ g < w'.heap.size ∧ g' < w'.heap.size)) (by kernel_rfl) ?_ (fun hHeld => ?_)
        · exact ⟨HRR.out.1, HRR.out.2, HG.out.1, HG.out.2⟩
        refine wpAnyH_take (i := 0) (v := ?_) rfl (by kernel_rfl) (by kernel_rfl) (by kernel_rfl) (fun _ _ _ h => h) (Or.inl ⟨by rfl, ?_⟩) hHeld ?_
        rotate_left
        · intro w hSw
          try dsimp only at hSw
          first | (go_simp; done) | (go_simp; with_reducible rfl)
        try simp only [Act.put, List.getElem_toArray, List.getElem_cons_zero, List.setIfInBounds_toArray, List.set_cons_zero, List.set_cons_succ]
        refine wpAnyH_take (i := 1) (v := ?_) rfl (by kernel_rfl) (by kernel_rfl) (by kernel_rfl) (fun _ _ _ h => h) (Or.inl ⟨by rfl, ?_⟩) hHeld ?_
        rotate_left
        · intro w hSw
          try dsimp only at hSw
          first | (go_simp; done) | (go_simp; with_reducible rfl)
        try simp only [Act.put, List.getElem_toArray, List.getElem_cons_zero, List.getElem_cons_succ, List.setIfInBounds_toArray, List.set_cons_zero, List.set_cons_succ]
        refine wpAnyH_take (i := 2) (v := ?_) rfl (by kernel_rfl) (by kernel_rfl) (by kernel_rfl) (fun _ _ _ h => h) (Or.inl ⟨by rfl, ?_⟩) hHeld ?_
        rotate_left
        · intro w hSw
          try dsimp only at hSw
          first | (go_simp; done) | (go_simp; with_reducible rfl)
        try simp only [Act.put, List.getElem_toArray, List.getElem_cons_zero, List.getElem_cons_succ, List.setIfInBounds_toArray, List.set_cons_zero, List.set_cons_succ]
        refine wpAnyH_take (i := 3) (v := .agg #[.int .i64 x'.id, .string x'.topic, .int .i64 kx, .int .i64 ix, .int .u64 bx, .string sx, .slice ax nx cx, .int .i64 x'.tat, .int .i64 x'.til, .string x'.reply, .int .i64 x'.corr, .int .i64 x'.prio, .int .i64 x'.hops]) rfl (by kernel_rfl) (by kernel_rfl) (by kernel_rfl) (fun _ _ _ h => h) (yieldsIf_load_mid (by rfl) 48 _ rfl (g) (o + j * 13) (by rfl) [.int .i64 x'.id, .string x'.topic, .int .i64 kx, .int .i64 ix, .int .u64 bx, .string sx, .slice ax nx cx, .int .i64 x'.tat, .int .i64 x'.til, .string x'.reply, .int .i64 x'.corr, .int .i64 x'.prio, .int .i64 x'.hops] _ (fun w' h => h.1) Try.underlying48 rfl sizeM) hHeld ?_
        try simp only [Act.put, List.getElem_toArray, List.getElem_cons_zero, List.getElem_cons_succ, List.setIfInBounds_toArray, List.set_cons_zero, List.set_cons_succ]
        refine wpAnyH_take (i := 4) (v := ?_) rfl (by kernel_rfl) (by kernel_rfl) (by kernel_rfl) (fun _ _ _ h => h) (Or.inl ⟨by rfl, ?_⟩) hHeld ?_
        rotate_left
        · intro w hSw
          try dsimp only at hSw
          first | (go_simp; done) | (go_simp; with_reducible rfl)
        try simp only [Act.put, List.getElem_toArray, List.getElem_cons_zero, List.getElem_cons_succ, List.setIfInBounds_toArray, List.set_cons_zero, List.set_cons_succ]
        refine wpAnyH_take (i := 5) (v := ?_) rfl (by kernel_rfl) (by kernel_rfl) (by kernel_rfl) (fun _ _ _ h => h) (Or.inl ⟨by rfl, ?_⟩) hHeld ?_
        rotate_left
        · intro w hSw
          try dsimp only at hSw
          first | (go_simp; done) | (go_simp; with_reducible rfl)
        try simp only [Act.put, List.getElem_toArray, List.getElem_cons_zero, List.getElem_cons_succ, List.setIfInBounds_toArray, List.set_cons_zero, List.set_cons_succ]
        refine wpAnyH_take (i := 6) (v := ?_) rfl (by kernel_rfl) (by kernel_rfl) (by kernel_rfl) (fun _ _ _ h => h) (Or.inl ⟨by rfl, ?_⟩) hHeld ?_
        rotate_left
        · intro w hSw
          try dsimp only at hSw
          first | (go_simp; done) | (go_simp; with_reducible rfl)
        try simp only [Act.put, List.getElem_toArray, List.getElem_cons_zero, List.getElem_cons_succ, List.setIfInBounds_toArray, List.set_cons_zero, List.set_cons_succ]
        refine wpAnyH_take (i := 7) (v := .agg #[.int .i64 x'.id, .string x'.topic, .int .i64 ky, .int .i64 iy, .int .u64 bY, .string sy, .slice ay ny cy, .int .i64 x'.tat, .int .i64 x'.til, .string x'.reply, .int .i64 x'.corr, .int .i64 x'.prio, .int .i64 x'.hops]) rfl (by kernel_rfl) (by kernel_rfl) (by kernel_rfl) (fun _ _ _ h => h) (yieldsIf_load_mid (by rfl) 48 _ rfl (g') (o' + j * 13) (by rfl) [.int .i64 x'.id, .string x'.topic, .int .i64 ky, .int .i64 iy, .int .u64 bY, .string sy, .slice ay ny cy, .int .i64 x'.tat, .int .i64 x'.til, .string x'.reply, .int .i64 x'.corr, .int .i64 x'.prio, .int .i64 x'.hops] _ (fun w' h => h.2.1) Try.underlying48 rfl sizeM) hHeld ?_
        try simp only [Act.put, List.getElem_toArray, List.getElem_cons_zero, List.getElem_cons_succ, List.setIfInBounds_toArray, List.set_cons_zero, List.set_cons_succ]
        refine wpAnyH_ready (rs := [8]) (by kernel_rfl) (by simp) ?_
        refine AllReadyH.cons rfl (fun K hK => ?_) AllReadyH.nil
        go_simp
        go_at_call 26
        refine (samemsg_yes x' wr.drew _ _ [.int .i64 x'.id, .string x'.topic, .int .i64 kx, .int .i64 ix, .int .u64 bx, .string sx, .slice ax nx cx, .int .i64 x'.tat, .int .i64 x'.til, .string x'.reply, .int .i64 x'.corr, .int .i64 x'.prio, .int .i64 x'.hops] [.int .i64 x'.id, .string x'.topic, .int .i64 ky, .int .i64 iy, .int .u64 bY, .string sy, .slice ay ny cy, .int .i64 x'.tat, .int .i64 x'.til, .string x'.reply, .int .i64 x'.corr, .int .i64 x'.prio, .int .i64 x'.hops] (IsM.drew HM.out) (IsM.drew HM'.out) (fun _ h => h) (fun _ h => h)).mono ?_
        rintro e w6 ⟨rfl, hb6⟩
        refine hK.out _ _ ⟨range_over hb6 hHeld.2.2.1 hHeld.1, range_over hb6 hHeld.2.2.2 hHeld.2.1, Nat.lt_of_lt_of_le hHeld.2.2.1 hb6.size, Nat.lt_of_lt_of_le hHeld.2.2.2 hb6.size⟩ (fun hHeld2 => ?_)
        clear hHeld hK K
        have hHeld := hHeld2
        clear hHeld2
        try simp only [Act.put, List.getElem_toArray, List.getElem_cons_zero, List.getElem_cons_succ, List.setIfInBounds_toArray, List.set_cons_zero, List.set_cons_succ]
        have hB6 : Below w17.heap.size w17 w6 := below_on hb6 HBL.out.drew
        have HB6 := Lib.hid hB6
        clear hb6 hB6
        refine wpAnyH_take (i := 9) (v := ?_) rfl (by kernel_rfl) (by kernel_rfl) (by kernel_rfl) (fun _ _ _ h => h) (Or.inl ⟨by rfl, ?_⟩) hHeld ?_
        rotate_left
        · intro w hSw
          try dsimp only at hSw
          first | (go_simp; done) | (go_simp; with_reducible rfl)
        try simp only [Act.put, List.getElem_toArray, List.getElem_cons_zero, List.getElem_cons_succ, List.setIfInBounds_toArray, List.set_cons_zero, List.set_cons_succ]
        refine wpAnyH_done (by kernel_rfl) ?_ _
        clear hHeld
        go_wp2_with fail
        go_roundw
        case rel => first | exact ⟨j + 1, by go_num, by omega, HB6.out⟩ | ((repeat apply Exists.intro); exact ⟨⟨j + 1, by go_num, by omega, HB6.out⟩, rfl⟩)
        case measure => simp [intOf]; omega
      · obtain rfl : j = l3.length := by omega
        go_wp2_with (first
          | (refine wpList_load_blk rfl 46 _ rfl (w3.heap.size) 0 rfl [.slice a3 q.l.length c3, .int .i64 q.r, .int .i64 q.d] _ (Blk.range (pre := []) (post := []) B5.out rfl) Try.underlying46 rfl sizeI ?_)
          | (refine wpList_load_blk rfl 46 _ rfl (w.heap.size) 0 rfl [.slice a q.l.length c, .int .i64 q.r, .int .i64 q.d] _ (Blk.range (pre := []) (post := []) B2.out rfl) Try.underlying46 rfl sizeI ?_))
        refine (sameq_yes q a3 a q.l.length q.l.length c3 c _ _ wr R3.out R0.out (fun _ h => h) (fun _ h => h)).mono ?_
        rintro e w18 ⟨rfl, hb18⟩
        replace T := Lib.hid (below_on hb18 T.out)
        clear hb18
        go_wp2_with fail
        refine (awakeq_any _).mono ?_
        rintro e w19 ⟨rfl, hb19⟩
        replace T := Lib.hid (below_on hb19 T.out)
        clear hb19
        go_wp2_with fail
        go_ret
        exact ⟨rfl, T.out⟩
end Go.Proofs.Ytmdcfmdjbncaoaa
