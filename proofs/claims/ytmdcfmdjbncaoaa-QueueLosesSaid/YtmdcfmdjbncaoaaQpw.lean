/- QueuePuts: the walk. -/
import Derived.Test.YtmdcfmdjbncaoaaRp
import Derived.Test.YtmdcfmdjbncaoaaFq
import Derived.Test.YtmdcfmdjbncaoaaAq
namespace Go.Proofs.Ytmdcfmdjbncaoaa
open Go.RowKit
attribute [local go_sem ↓] Go.wp_at_zero Go.wp_at_succ
attribute [local go_sem] Go.undef

theorem Blk.cells3 {w : World} {g : Nat} {t : TypeId} {v0 v1 v2 : Value} (h : Blk w g t #[v0, v1, v2]) : w.cell? ⟨g, 0, none⟩ = some v0 ∧ w.cell? ⟨g, 1, none⟩ = some v1 ∧ w.cell? ⟨g, 2, none⟩ = some v2 := ⟨h.cell 0, h.cell 1, h.cell 2⟩

set_option maxHeartbeats 8000000 in
set_option maxRecDepth 100000 in
theorem qputs_go (q : QX) (a : Option Addr) (n c : Nat) (w : World) (room drop : Int) (m : MX) (cs : List Value) (hrow : RM w (· < w.heap.size) q.l a n c) (hm : IsM w (· < w.heap.size) m cs) :
    Calls Try.prog 7 #[.agg #[.slice a n c, .int .i64 q.r, .int .i64 q.d], .int .i64 room, .int .i64 drop, .agg cs.toArray] w fun e w' => e = .returned (.bool true) ∧ Below w.heap.size w w' := by
  obtain rfl : n = q.l.length := hrow.1
  have hm0 := hm
  obtain ⟨k, i, b, s, am, nm, cm, rfl, hD, -, -⟩ := hm
  have hW : Below w.heap.size w ((w.alloc (.cells #[.slice a q.l.length c, .int .i64 q.r, .int .i64 q.d] 46)).alloc (.cells #[.int .i64 m.id, .string m.topic, .int .i64 k, .int .i64 i, .int .u64 b, .string s, .slice am nm cm, .int .i64 m.tat, .int .i64 m.til, .string m.reply, .int .i64 m.corr, .int .i64 m.prio, .int .i64 m.hops] 48)) := by go_grown
  have hsz : ((w.alloc (.cells #[.slice a q.l.length c, .int .i64 q.r, .int .i64 q.d] 46)).alloc (.cells #[.int .i64 m.id, .string m.topic, .int .i64 k, .int .i64 i, .int .u64 b, .string s, .slice am nm cm, .int .i64 m.tat, .int .i64 m.til, .string m.reply, .int .i64 m.corr, .int .i64 m.prio, .int .i64 m.hops] 48)).heap.size = w.heap.size + 2 := by simp
  have b4 : Blk ((w.alloc (.cells #[.slice a q.l.length c, .int .i64 q.r, .int .i64 q.d] 46)).alloc (.cells #[.int .i64 m.id, .string m.topic, .int .i64 k, .int .i64 i, .int .u64 b, .string s, .slice am nm cm, .int .i64 m.tat, .int .i64 m.til, .string m.reply, .int .i64 m.corr, .int .i64 m.prio, .int .i64 m.hops] 48)) w.heap.size 46 #[.slice a q.l.length c, .int .i64 q.r, .int .i64 q.d] := (Blk.new _ _ _).alloc _
  have b7 : Blk ((w.alloc (.cells #[.slice a q.l.length c, .int .i64 q.r, .int .i64 q.d] 46)).alloc (.cells #[.int .i64 m.id, .string m.topic, .int .i64 k, .int .i64 i, .int .u64 b, .string s, .slice am nm cm, .int .i64 m.tat, .int .i64 m.til, .string m.reply, .int .i64 m.corr, .int .i64 m.prio, .int .i64 m.hops] 48)) (w.heap.size + 1) 48 #[.int .i64 m.id, .string m.topic, .int .i64 k, .int .i64 i, .int .u64 b, .string s, .slice am nm cm, .int .i64 m.tat, .int .i64 m.til, .string m.reply, .int .i64 m.corr, .int .i64 m.prio, .int .i64 m.hops] := Blk.new' _ _ _ (by simp)
  have hf := fitq_any q a q.l.length c _ _ (hrow.under hW (fun _ h => h)) (fun x hx => by rw [hsz]; have : x < w.heap.size := hx; omega)
  have HF := Lib.hid hf
  have HW := Lib.hid hW
  have HSZ := Lib.hid hsz
  have B4 := Lib.hid b4
  have B7 := Lib.hid b7
  have HROW := Lib.hid hrow
  have HM := Lib.hid hm0
  have HD := Lib.hid hD
  clear hrow hm0 hD hW hsz b4 b7 hf
  go_enter Try.func7, Try.ntmps7
  go_wp2_with fail
  refine HF.out.mono ?_
  rintro e w1 ⟨fb, rfl, hfb, hb1⟩
  have hB1 : Below w.heap.size w w1 := HW.out.trans (hb1.mono (by rw [HSZ.out]; omega))
  have b4 := B4.out.under hb1 (by rw [HSZ.out]; omega)
  have b7 := B7.out.under hb1 (by rw [HSZ.out]; omega)
  have hs1 : w.heap.size + 2 ≤ w1.heap.size := by have := hb1.size; rw [HSZ.out] at this; exact this
  clear hb1 B4 B7 HF
  cases fb with
  | false =>
    clear hfb
    go_wp2_with fail
    refine (awakeq_any _).mono ?_
    rintro e w2 ⟨rfl, hb2⟩
    have hB2 := below_on hb2 hB1
    clear hb2
    go_wp2_with fail
    go_ret
    exact ⟨rfl, hB2⟩
  | true =>
  have hfit := hfb rfl
  have HFIT := Lib.hid hfit
  clear hfb hfit
  by_cases hr1 : room < 1
  · go_wp2_with fail
    refine (awakeq_any _).mono ?_
    rintro e w2 ⟨rfl, hb2⟩
    have hB2 := below_on hb2 hB1
    clear hb2
    go_wp2_with fail
    go_ret
    exact ⟨rfl, hB2⟩
  by_cases hr2 : 1024 < room
  · go_wp2_with fail
    refine (awakeq_any _).mono ?_
    rintro e w2 ⟨rfl, hb2⟩
    have hB2 := below_on hb2 hB1
    clear hb2
    go_wp2_with fail
    go_ret
    exact ⟨rfl, hB2⟩
  have hv := valid_any m.body w1 (· < w.heap.size) _ (HD.out.under hB1 (fun _ h => h)) (fun x hx => Nat.lt_of_lt_of_le hx hB1.size)
  cases hvb : validT m.body with
  | false =>
    rw [hvb] at hv
    have HV := Lib.hid hv
    clear hv hvb
    obtain ⟨x0, x1, x2, x3, x4, x5, x6, x7, x8, x9, x10, x11, x12⟩ := Blk.cells13 b7
    go_wp2_with fail
    refine HV.out.mono ?_
    rintro e w2 ⟨rfl, hb2⟩
    have hB2 := below_on hb2 hB1
    clear hb2 x0 x1 x2 x3 x4 x5 x6 x7 x8 x9 x10 x11 x12
    go_wp2_with fail
    refine (awakeq_any _).mono ?_
    rintro e w3 ⟨rfl, hb3⟩
    have hB3 := below_on hb3 hB2
    clear hb3
    go_wp2_with fail
    go_ret
    exact ⟨rfl, hB3⟩
  | true =>
    have hz := validT_size hvb
    rw [hvb] at hv
    have HV := Lib.hid hv
    clear hv hvb
    obtain ⟨x0, x1, x2, x3, x4, x5, x6, x7, x8, x9, x10, x11, x12⟩ := Blk.cells13 b7
    go_wp2_with fail
    refine HV.out.mono ?_
    rintro e w2 ⟨rfl, hb2⟩
    have hB2 := below_on hb2 hB1
    have b4' := b4.under hb2 (by omega)
    have b7' := b7.under hb2 (by omega)
    have hs2 : w.heap.size + 2 ≤ w2.heap.size := Nat.le_trans hs1 hb2.size
    clear hb2 b4 b7 hs1 HV hB1 x0 x1 x2 x3 x4 x5 x6 x7 x8 x9 x10 x11 x12
    -- own
    go_wp2_with (refine wpList_load_blk rfl 46 _ rfl (w.heap.size) 0 rfl [.slice a q.l.length c, .int .i64 q.r, .int .i64 q.d] _ (Blk.range (pre := []) (post := []) b4' rfl) Try.underlying46 rfl sizeI ?_)
    refine (copyq_any q a q.l.length c _ w2 (HROW.out.under hB2 (fun _ h => h)) (fun x hx => Nat.lt_of_lt_of_le hx hB2.size) HFIT.out.small (by have := HFIT.out.len; omega)).mono ?_
    rintro e w3 ⟨a3, c3, S3, css3, rfl, hown3, hb3⟩
    have hB3 := below_on hb3 hB2
    have b4 := b4'.under hb3 (by omega)
    have b7 := b7'.under hb3 (by omega)
    have hs3 : w.heap.size + 2 ≤ w3.heap.size := Nat.le_trans hs2 hb3.size
    have hr3 := OwnE.rows keepsM hown3
    have HR3 := Lib.hid hr3
    clear hb3 b4' b7' hown3 hr3
    have bn3 : Blk (w3.alloc (.cells #[.slice none 0 0, .int .i64 0, .int .i64 0] 46)) w3.heap.size 46 #[.slice none 0 0, .int .i64 0, .int .i64 0] := Blk.new _ _ _
    go_upto_region 4 with (refine wpList_store_blk (T := 46) rfl 46 _ _ rfl (w3.heap.size) 0 [] [.slice none 0 0, .int .i64 0, .int .i64 0] [] [.slice a3 q.l.length c3, .int .i64 q.r, .int .i64 q.d] rfl rfl bn3 rfl rfl sizeI inb_one ?_; intro w4 b9 U4)
    have b34 : Below w3.heap.size w3 w4 := ((Below.refl _ _).alloc (Nat.le_refl _) _).trans (U4.below _ (Nat.le_refl _))
    have hs4 : w4.heap.size = w3.heap.size + 1 := by rw [U4.size]; simp
    have hB4 := below_on b34 hB3
    have b4' := b4.under b34 (by omega)
    have b7' := b7.under b34 (by omega)
    have hr4 : RM w4 _ q.l a3 q.l.length c3 := RM.under HR3.out b34 (fun x hx => hx.2)
    have HR4 := Lib.hid hr4
    obtain ⟨q2, m2, gn, en, hx⟩ : ∃ q2 m2 gn en, putQ q room drop m = (q2, m2, gn, en) := ⟨_, _, _, _, rfl⟩
    have hmw : IsM w4 (· < w4.heap.size) m [.int .i64 m.id, .string m.topic, .int .i64 k, .int .i64 i, .int .u64 b, .string s, .slice am nm cm, .int .i64 m.tat, .int .i64 m.til, .string m.reply, .int .i64 m.corr, .int .i64 m.prio, .int .i64 m.hops] := (HM.out.under hB4 (fun _ h => h)).mono (fun y hy => Nat.lt_of_lt_of_le hy hB4.size)
    have hp := putp_any q a3 q.l.length c3 (· < w4.heap.size) w4 room drop m [.int .i64 m.id, .string m.topic, .int .i64 k, .int .i64 i, .int .u64 b, .string s, .slice am nm cm, .int .i64 m.tat, .int .i64 m.til, .string m.reply, .int .i64 m.corr, .int .i64 m.prio, .int .i64 m.hops] (RM.mono hr4 (fun y hy => by rw [hs4]; have := hy.2; omega)) (fun _ h => h) HFIT.out.small (by have := HFIT.out.len; omega) hmw hz HFIT.out.r0 HFIT.out.r1 HFIT.out.d0 HFIT.out.d1
    rw [hx] at hp
    have HP := Lib.hid hp
    have HX := Lib.hid hx
    clear hp hx hmw hr4 b4 b7 U4 bn3 HR3
    go_wp2_with (first
      | (refine wpList_load_blk rfl 46 _ rfl (w3.heap.size) 0 rfl [.slice a3 q.l.length c3, .int .i64 q.r, .int .i64 q.d] _ (Blk.range (pre := []) (post := []) b9 rfl) Try.underlying46 rfl sizeI ?_)
      | (refine wpList_load_blk rfl 48 _ rfl (w.heap.size + 1) 0 rfl [.int .i64 m.id, .string m.topic, .int .i64 k, .int .i64 i, .int .u64 b, .string s, .slice am nm cm, .int .i64 m.tat, .int .i64 m.til, .string m.reply, .int .i64 m.corr, .int .i64 m.prio, .int .i64 m.hops] _ (Blk.range (pre := []) (post := []) b7' rfl) Try.underlying48 rfl sizeM ?_))
    refine HP.out.mono ?_
    rintro e w5 ⟨a5, n5, c5, k5, i5, b5, s5, an5, nn5, cn5, rfl, hr5, hm5, hb5⟩
    dsimp only at hr5 hm5 ⊢
    have hs5 := hb5.size
    have hB5 := below_on hb5 hB4
    have b4 := b4'.under hb5 (by omega)
    have b7 := b7'.under hb5 (by omega)
    have b9' := b9.under hb5 (by omega)
    have HR5 := Lib.hid hr5
    have HM5 := Lib.hid hm5
    have HR45 : Hid (RM w5 _ q.l a3 q.l.length c3) := RM.under HR4.out hb5 (fun y hy => by have := hy.2; omega)
    clear HP hb5 b4' b7' b9 hr5 hm5 HR4
    have bia : Blk ((w5.alloc (.cells #[.slice none 0 0, .int .i64 0, .int .i64 0] 46)).alloc (.cells #[.int .i64 0, .string ByteArray.empty, .int .i64 0, .int .i64 0, .int .u64 0, .string ByteArray.empty, .slice none 0 0, .int .i64 0, .int .i64 0, .string ByteArray.empty, .int .i64 0, .int .i64 0, .int .i64 0] 48)) w5.heap.size 46 #[.slice none 0 0, .int .i64 0, .int .i64 0] := (Blk.new _ _ _).alloc _
    have bma : Blk ((w5.alloc (.cells #[.slice none 0 0, .int .i64 0, .int .i64 0] 46)).alloc (.cells #[.int .i64 0, .string ByteArray.empty, .int .i64 0, .int .i64 0, .int .u64 0, .string ByteArray.empty, .slice none 0 0, .int .i64 0, .int .i64 0, .string ByteArray.empty, .int .i64 0, .int .i64 0, .int .i64 0] 48)) (w5.heap.size + 1) 48 #[.int .i64 0, .string ByteArray.empty, .int .i64 0, .int .i64 0, .int .u64 0, .string ByteArray.empty, .slice none 0 0, .int .i64 0, .int .i64 0, .string ByteArray.empty, .int .i64 0, .int .i64 0, .int .i64 0] := Blk.new' _ _ _ (by simp)
    have hwb : Below w5.heap.size w5 ((w5.alloc (.cells #[.slice none 0 0, .int .i64 0, .int .i64 0] 46)).alloc (.cells #[.int .i64 0, .string ByteArray.empty, .int .i64 0, .int .i64 0, .int .u64 0, .string ByteArray.empty, .slice none 0 0, .int .i64 0, .int .i64 0, .string ByteArray.empty, .int .i64 0, .int .i64 0, .int .i64 0] 48)) := ((Below.refl _ _).alloc (Nat.le_refl _) _).alloc (by simp) _
    have HWB := Lib.hid hwb
    clear hwb
    go_upto_region 5 with (first
      | (refine wpList_store_blk (T := 46) rfl 46 _ _ rfl (w5.heap.size) 0 [] [.slice none 0 0, .int .i64 0, .int .i64 0] [] [.slice a5 n5 c5, .int .i64 q2.r, .int .i64 q2.d] rfl rfl bia rfl rfl sizeI inb_one ?_; intro w6 b10 U6; have bmb := U6.blk bma (by omega))
      | (refine wpList_store_blk (T := 48) rfl 48 _ _ rfl (w5.heap.size + 1) 0 [] [.int .i64 0, .string ByteArray.empty, .int .i64 0, .int .i64 0, .int .u64 0, .string ByteArray.empty, .slice none 0 0, .int .i64 0, .int .i64 0, .string ByteArray.empty, .int .i64 0, .int .i64 0, .int .i64 0] [] [.int .i64 m2.id, .string m2.topic, .int .i64 k5, .int .i64 i5, .int .u64 b5, .string s5, .slice an5 nn5 cn5, .int .i64 m2.tat, .int .i64 m2.til, .string m2.reply, .int .i64 m2.corr, .int .i64 m2.prio, .int .i64 m2.hops] rfl rfl bmb rfl rfl sizeM (by simp [Value.oneCell']) ?_; intro w7 b11 U7; have b10' := U7.blk b10 (by omega)))
    have b57 : Below w5.heap.size w5 w7 := (HWB.out.trans (U6.below _ (Nat.le_refl _))).trans (U7.below _ (Nat.le_succ _))
    have hB7 := below_on b57 hB5
    have b4' := b4.under b57 (by omega)
    have b7' := b7.under b57 (by omega)
    have b9 := b9'.under b57 (by omega)
    have hs7 := b57.size
    have hsw7 : w5.heap.size + 1 < w7.heap.size := b11.lt
    have HR7 : Hid (RM w7 (Btw w4.heap.size w5.heap.size) q2.l a5 n5 c5) := RM.under HR5.out b57 (fun y hy => hy.2)
    have HM7 : Hid (IsM w7 (Btw w4.heap.size w5.heap.size) m2 [.int .i64 m2.id, .string m2.topic, .int .i64 k5, .int .i64 i5, .int .u64 b5, .string s5, .slice an5 nn5 cn5, .int .i64 m2.tat, .int .i64 m2.til, .string m2.reply, .int .i64 m2.corr, .int .i64 m2.prio, .int .i64 m2.hops]) := HM5.out.under b57 (fun y hy => hy.2)
    have HR47 : Hid (RM w7 _ q.l a3 q.l.length c3) := RM.under HR45.out b57 (fun y hy => by have := hy.2; omega)
    have hp := putr_any q a q.l.length c (· < w.heap.size) w7 room drop m [.int .i64 m.id, .string m.topic, .int .i64 k, .int .i64 i, .int .u64 b, .string s, .slice am nm cm, .int .i64 m.tat, .int .i64 m.til, .string m.reply, .int .i64 m.corr, .int .i64 m.prio, .int .i64 m.hops] (RM.under HROW.out hB7 (fun _ h => h)) (fun y hy => Nat.lt_of_lt_of_le hy hB7.size) HFIT.out.small (by have := HFIT.out.len; omega) (HM.out.under hB7 (fun _ h => h)) hz HFIT.out.r0 HFIT.out.r1 HFIT.out.d0 HFIT.out.d1
    rw [HX.out] at hp
    have HP := Lib.hid hp
    clear hp HR5 HM5 HR45 b4 b7 b9' U6 U7 bia bma bmb b10 HWB b57
    go_wp2_with (first
      | (refine wpList_load_blk rfl 46 _ rfl (w.heap.size) 0 rfl [.slice a q.l.length c, .int .i64 q.r, .int .i64 q.d] _ (Blk.range (pre := []) (post := []) b4' rfl) Try.underlying46 rfl sizeI ?_)
      | (refine wpList_load_blk rfl 48 _ rfl (w.heap.size + 1) 0 rfl [.int .i64 m.id, .string m.topic, .int .i64 k, .int .i64 i, .int .u64 b, .string s, .slice am nm cm, .int .i64 m.tat, .int .i64 m.til, .string m.reply, .int .i64 m.corr, .int .i64 m.prio, .int .i64 m.hops] _ (Blk.range (pre := []) (post := []) b7' rfl) Try.underlying48 rfl sizeM ?_))
    refine HP.out.mono ?_
    rintro e w8 ⟨a8, n8, c8, k8, i8, b8, s8, an8, nn8, cn8, rfl, hr8, hm8, hb8⟩
    dsimp only at hr8 hm8 ⊢
    have hs8 := hb8.size
    have hB8 := below_on hb8 hB7
    have b4 := b4'.under hb8 (by omega)
    have b9' := b9.under hb8 (by omega)
    have b10 := b10'.under hb8 (by omega)
    have b11' := b11.under hb8 (by omega)
    have HR8 := Lib.hid hr8
    have HM8 := Lib.hid hm8
    have HR78 : Hid (RM w8 (Btw w4.heap.size w5.heap.size) q2.l a5 n5 c5) := RM.under HR7.out hb8 (fun y hy => by have := hy.2; omega)
    have HM78 : Hid (IsM w8 (Btw w4.heap.size w5.heap.size) m2 [.int .i64 m2.id, .string m2.topic, .int .i64 k5, .int .i64 i5, .int .u64 b5, .string s5, .slice an5 nn5 cn5, .int .i64 m2.tat, .int .i64 m2.til, .string m2.reply, .int .i64 m2.corr, .int .i64 m2.prio, .int .i64 m2.hops]) := HM7.out.under hb8 (fun y hy => by have := hy.2; omega)
    have HR48 : Hid (RM w8 _ q.l a3 q.l.length c3) := RM.under HR47.out hb8 (fun y hy => by have := hy.2; omega)
    clear HP hb8 b4' b7' b9 b10' b11 hr8 hm8 HR7 HM7 HR47
    have bia : Blk ((w8.alloc (.cells #[.slice none 0 0, .int .i64 0, .int .i64 0] 46)).alloc (.cells #[.int .i64 0, .string ByteArray.empty, .int .i64 0, .int .i64 0, .int .u64 0, .string ByteArray.empty, .slice none 0 0, .int .i64 0, .int .i64 0, .string ByteArray.empty, .int .i64 0, .int .i64 0, .int .i64 0] 48)) w8.heap.size 46 #[.slice none 0 0, .int .i64 0, .int .i64 0] := (Blk.new _ _ _).alloc _
    have bma : Blk ((w8.alloc (.cells #[.slice none 0 0, .int .i64 0, .int .i64 0] 46)).alloc (.cells #[.int .i64 0, .string ByteArray.empty, .int .i64 0, .int .i64 0, .int .u64 0, .string ByteArray.empty, .slice none 0 0, .int .i64 0, .int .i64 0, .string ByteArray.empty, .int .i64 0, .int .i64 0, .int .i64 0] 48)) (w8.heap.size + 1) 48 #[.int .i64 0, .string ByteArray.empty, .int .i64 0, .int .i64 0, .int .u64 0, .string ByteArray.empty, .slice none 0 0, .int .i64 0, .int .i64 0, .string ByteArray.empty, .int .i64 0, .int .i64 0, .int .i64 0] := Blk.new' _ _ _ (by simp)
    have hwb : Below w8.heap.size w8 ((w8.alloc (.cells #[.slice none 0 0, .int .i64 0, .int .i64 0] 46)).alloc (.cells #[.int .i64 0, .string ByteArray.empty, .int .i64 0, .int .i64 0, .int .u64 0, .string ByteArray.empty, .slice none 0 0, .int .i64 0, .int .i64 0, .string ByteArray.empty, .int .i64 0, .int .i64 0, .int .i64 0] 48)) := ((Below.refl _ _).alloc (Nat.le_refl _) _).alloc (by simp) _
    have HWB := Lib.hid hwb
    clear hwb
    go_upto_region 6 with (first
      | (refine wpList_store_blk (T := 46) rfl 46 _ _ rfl (w8.heap.size) 0 [] [.slice none 0 0, .int .i64 0, .int .i64 0] [] [.slice a8 n8 c8, .int .i64 q2.r, .int .i64 q2.d] rfl rfl bia rfl rfl sizeI inb_one ?_; intro w9 b14 U9; have bmb := U9.blk bma (by omega))
      | (refine wpList_store_blk (T := 48) rfl 48 _ _ rfl (w8.heap.size + 1) 0 [] [.int .i64 0, .string ByteArray.empty, .int .i64 0, .int .i64 0, .int .u64 0, .string ByteArray.empty, .slice none 0 0, .int .i64 0, .int .i64 0, .string ByteArray.empty, .int .i64 0, .int .i64 0, .int .i64 0] [] [.int .i64 m2.id, .string m2.topic, .int .i64 k8, .int .i64 i8, .int .u64 b8, .string s8, .slice an8 nn8 cn8, .int .i64 m2.tat, .int .i64 m2.til, .string m2.reply, .int .i64 m2.corr, .int .i64 m2.prio, .int .i64 m2.hops] rfl rfl bmb rfl rfl sizeM (by simp [Value.oneCell']) ?_; intro w10 b15 U10; have b14' := U10.blk b14 (by omega)))
    have b810 : Below w8.heap.size w8 w10 := (HWB.out.trans (U9.below _ (Nat.le_refl _))).trans (U10.below _ (Nat.le_succ _))
    have hB10 := below_on b810 hB8
    have hs10 := b810.size
    have hsw10 : w8.heap.size + 1 < w10.heap.size := b15.lt
    have b4' := b4.under b810 (by omega)
    have b9 := b9'.under b810 (by omega)
    have b10' := b10.under b810 (by omega)
    have b11 := b11'.under b810 (by omega)
    have hr5 : RM w10 (Btw w4.heap.size w5.heap.size) q2.l a5 n5 c5 := RM.under HR78.out b810 (fun y hy => by have := hy.2; omega)
    have hr8 : RM w10 (Btw w7.heap.size w8.heap.size) q2.l a8 n8 c8 := RM.under HR8.out b810 (fun y hy => hy.2)
    have HM5 : Hid (IsM w10 (Btw w4.heap.size w5.heap.size) m2 [.int .i64 m2.id, .string m2.topic, .int .i64 k5, .int .i64 i5, .int .u64 b5, .string s5, .slice an5 nn5 cn5, .int .i64 m2.tat, .int .i64 m2.til, .string m2.reply, .int .i64 m2.corr, .int .i64 m2.prio, .int .i64 m2.hops]) := HM78.out.under b810 (fun y hy => by have := hy.2; omega)
    have HM8' : Hid (IsM w10 (Btw w7.heap.size w8.heap.size) m2 [.int .i64 m2.id, .string m2.topic, .int .i64 k8, .int .i64 i8, .int .u64 b8, .string s8, .slice an8 nn8 cn8, .int .i64 m2.tat, .int .i64 m2.til, .string m2.reply, .int .i64 m2.corr, .int .i64 m2.prio, .int .i64 m2.hops]) := HM8.out.under b810 (fun y hy => hy.2)
    have HR4X : Hid (RM w10 _ q.l a3 q.l.length c3) := RM.under HR48.out b810 (fun y hy => by have := hy.2; omega)
    have HSQ := Lib.hid (sameq_yes q2 a5 a8 n5 n8 c5 c8 _ _ w10 hr5 hr8 (fun y hy => by have := hy.2; omega) (fun y hy => by have := hy.2; omega))
    clear HR78 HM78 HR48 HR8 HM8 b4 b9' b10 b11' U9 U10 bia bma bmb b14 HWB b810 hr5 hr8
    go_wp2_with (first
      | (refine wpList_load_blk rfl 46 _ rfl (w5.heap.size) 0 rfl [.slice a5 n5 c5, .int .i64 q2.r, .int .i64 q2.d] _ (Blk.range (pre := []) (post := []) b10' rfl) Try.underlying46 rfl sizeI ?_)
      | (refine wpList_load_blk rfl 46 _ rfl (w8.heap.size) 0 rfl [.slice a8 n8 c8, .int .i64 q2.r, .int .i64 q2.d] _ (Blk.range (pre := []) (post := []) b14' rfl) Try.underlying46 rfl sizeI ?_))
    refine HSQ.out.mono ?_
    rintro e w11 ⟨rfl, hb11⟩
    have hB11 := below_on hb11 hB10
    have hs11 := hb11.size
    have b4 := b4'.under hb11 (by omega)
    have b9' := b9.under hb11 (by omega)
    obtain ⟨x0, x1, x2, x3, x4, x5, x6, x7, x8, x9, x10, x11, x12⟩ := Blk.cells13 (b11.under hb11 (by omega))
    obtain ⟨y0, y1, y2, y3, y4, y5, y6, y7, y8, y9, y10, y11, y12⟩ := Blk.cells13 (b15.under hb11 (by omega))
    have HSM := Lib.hid (samemsg_yes m2 w11 _ _ _ _ (HM5.out.under hb11 (fun y hy => by have := hy.2; omega)) (HM8'.out.under hb11 (fun y hy => by have := hy.2; omega)) (fun y hy => by have := hy.2; omega) (fun y hy => by have := hy.2; omega))
    have HR4Y : Hid (RM w11 _ q.l a3 q.l.length c3) := RM.under HR4X.out hb11 (fun y hy => by have := hy.2; omega)
    clear HSQ HM5 HM8' HR4X b4' b9 b10' b11 b15 b14' hb11
    go_wp2_with fail
    refine HSM.out.mono ?_
    rintro e w12 ⟨rfl, hb12⟩
    have hB12 := below_on hb12 hB11
    have hs12 := hb12.size
    obtain ⟨u0, u1, u2⟩ := Blk.cells3 (b4.under hb12 (by omega))
    obtain ⟨v0, v1, v2⟩ := Blk.cells3 (b9'.under hb12 (by omega))
    have HSQ := Lib.hid (sameq_yes q a3 a q.l.length q.l.length c3 c _ _ w12 (RM.under HR4Y.out hb12 (fun y hy => by have := hy.2; omega)) (RM.under HROW.out hB12 (fun _ h => h)) (fun y hy => by have := hy.2; omega) (fun y hy => Nat.lt_of_lt_of_le hy hB12.size))
    clear HSM HR4Y hb12 x0 x1 x2 x3 x4 x5 x6 x7 x8 x9 x10 x11 x12 y0 y1 y2 y3 y4 y5 y6 y7 y8 y9 y10 y11 y12 b4 b9'
    go_wp2_with fail
    refine HSQ.out.mono ?_
    rintro e w13 ⟨rfl, hb13⟩
    have hB13 := below_on hb13 hB12
    clear HSQ hb13 u0 u1 u2 v0 v1 v2
    go_wp2_with fail
    refine (awakeq_any _).mono ?_
    rintro e w14 ⟨rfl, hb14⟩
    have hB14 := below_on hb14 hB13
    clear hb14
    go_wp2_with fail
    go_ret
    exact ⟨rfl, hB14⟩
end Go.Proofs.Ytmdcfmdjbncaoaa
