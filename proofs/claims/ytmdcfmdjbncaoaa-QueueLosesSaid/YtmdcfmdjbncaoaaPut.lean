/- Put. -/
import Derived.Test.YtmdcfmdjbncaoaaDm
import Derived.Test.YtmdcfmdjbncaoaaMu2
import Derived.Test.YtmdcfmdjbncaoaaBx
namespace Go.Proofs.Ytmdcfmdjbncaoaa
open Go.RowKit
attribute [local go_sem ↓] Go.wp_at_zero Go.wp_at_succ
attribute [local go_sem] Go.undef

/-- An inbox, a message, whether, and a number: in memory of their own. -/
def PutPost (w : World) (x : QX × MX × Bool × Int) (e : Ending) (w' : World) : Prop :=
  ∃ a n c k i b s an nn cn, e = .returned (.tuple #[.agg #[.slice a n c, .int .i64 x.1.r, .int .i64 x.1.d], .agg #[.int .i64 x.2.1.id, .string x.2.1.topic, .int .i64 k, .int .i64 i, .int .u64 b, .string s, .slice an nn cn, .int .i64 x.2.1.tat, .int .i64 x.2.1.til, .string x.2.1.reply, .int .i64 x.2.1.corr, .int .i64 x.2.1.prio, .int .i64 x.2.1.hops], .bool x.2.2.1, .int .i64 x.2.2.2]) ∧
    RM w' (Btw w.heap.size w'.heap.size) x.1.l a n c ∧ IsM w' (Btw w.heap.size w'.heap.size) x.2.1 [.int .i64 x.2.1.id, .string x.2.1.topic, .int .i64 k, .int .i64 i, .int .u64 b, .string s, .slice an nn cn, .int .i64 x.2.1.tat, .int .i64 x.2.1.til, .string x.2.1.reply, .int .i64 x.2.1.corr, .int .i64 x.2.1.prio, .int .i64 x.2.1.hops] ∧ Below w.heap.size w w'
theorem rows_end {B0 B n c : Nat} {w4 w6 : World} {l : List MX} {a : Option Addr} {S : Nat → Prop} {css : List (List Value)} (hO : OwnE IsM 48 13 w4 B l (.slice a n c) S css) (hB : B0 ≤ B)
    (hfar : ∀ x, B ≤ x → w6.heap[x]? = w4.heap[x]?) (hsz : w4.heap.size ≤ w6.heap.size) : RM w6 (Btw B0 w6.heap.size) l a n c :=
  RM.mono (OwnE.rows keepsM (hO.keep keepsM hsz fun x hx => hfar x (by
    rcases hx with hx | hx
    · exact (hO.far x hx).1
    · exact (hO.far_lt x hx).1))) fun x hx => ⟨Nat.le_trans hB hx.1, hx.2⟩
theorem msg_end {B0 B : Nat} {w4 w6 : World} {m : MX} {cs : List Value} {S : Nat → Prop} (hM : IsM w4 S m cs) (hS : ∀ x, S x → B ≤ x ∧ x < w4.heap.size) (hB : B0 ≤ B)
    (hfar : ∀ x, B ≤ x → w6.heap[x]? = w4.heap[x]?) (hsz : w4.heap.size ≤ w6.heap.size) : IsM w6 (Btw B0 w6.heap.size) m cs :=
  hM.keep (fun x hx => ⟨Nat.le_trans hB (hS x hx).1, Nat.lt_of_lt_of_le (hS x hx).2 hsz⟩) fun x hx j => World.cell?_of_block (a := ⟨x, j, none⟩) (hfar x (hS x hx).1)

set_option maxHeartbeats 8000000 in
set_option maxRecDepth 100000 in
theorem putp_any (q : QX) (a : Option Addr) (n c : Nat) (S : Nat → Prop) (w : World) (room drop : Int) (m : MX) (cs : List Value) (hrow : RM w S q.l a n c) (hS : ∀ b, S b → b < w.heap.size) (hsm : smallL q.l) (hn : n ≤ 65536) (hm : IsM w S m cs) (hz : m.body.size ≤ 4096)
    (hr0 : 0 ≤ q.r) (hr1 : q.r ≤ 4611686018427387904) (hd0 : 0 ≤ q.d) (hd1 : q.d ≤ 4611686018427387904) :
    Calls Try.prog 23 #[.agg #[.slice a n c, .int .i64 q.r, .int .i64 q.d], .int .i64 room, .int .i64 drop, .agg cs.toArray] w (PutPost w (putQ q room drop m)) := by
  obtain ⟨i0, hi0, hz0, hz1, hz2⟩ := info_parts infoM
  obtain rfl : n = q.l.length := hrow.1
  obtain ⟨k, i, b, s, am, nm, cm, rfl, hD, ht, hr⟩ := hm
  have HT := Lib.hid (And.intro ht hr)
  obtain ⟨W, hWd⟩ : ∃ W, W = (((w.alloc (.cells #[.slice a q.l.length c, .int .i64 q.r, .int .i64 q.d] 46)).alloc (.cells #[.int .i64 m.id, .string m.topic, .int .i64 k, .int .i64 i, .int .u64 b, .string s, .slice am nm cm, .int .i64 m.tat, .int .i64 m.til, .string m.reply, .int .i64 m.corr, .int .i64 m.prio, .int .i64 m.hops] 48)).alloc (.cells #[.slice none 0 0, .int .i64 0, .int .i64 0] 46)).alloc (.cells #[.int .i64 0, .string ByteArray.empty, .int .i64 0, .int .i64 0, .int .u64 0, .string ByteArray.empty, .slice none 0 0, .int .i64 0, .int .i64 0, .string ByteArray.empty, .int .i64 0, .int .i64 0, .int .i64 0] 48) := ⟨_, rfl⟩
  have hW : Below w.heap.size w W := by rw [hWd]; go_grown
  have hsz : W.heap.size = w.heap.size + 4 := by rw [hWd]; simp
  have b0 : Blk W w.heap.size 46 #[.slice a q.l.length c, .int .i64 q.r, .int .i64 q.d] := by rw [hWd]; exact (((Blk.new _ _ _).alloc _).alloc _).alloc _
  have b1 : Blk W (w.heap.size + 1) 48 #[.int .i64 m.id, .string m.topic, .int .i64 k, .int .i64 i, .int .u64 b, .string s, .slice am nm cm, .int .i64 m.tat, .int .i64 m.til, .string m.reply, .int .i64 m.corr, .int .i64 m.prio, .int .i64 m.hops] := by rw [hWd]; exact ((Blk.new' _ _ _ (by simp)).alloc _).alloc _
  have b2 : Blk W (w.heap.size + 2) 46 #[.slice none 0 0, .int .i64 0, .int .i64 0] := by rw [hWd]; exact (Blk.new' _ _ _ (by simp)).alloc _
  have b3 : Blk W (w.heap.size + 3) 48 #[.int .i64 0, .string ByteArray.empty, .int .i64 0, .int .i64 0, .int .u64 0, .string ByteArray.empty, .slice none 0 0, .int .i64 0, .int .i64 0, .string ByteArray.empty, .int .i64 0, .int .i64 0, .int .i64 0] := by rw [hWd]; exact Blk.new' _ _ _ (by simp)
  have HC := Lib.hid (ownq_any q a q.l.length c S W (hrow.under hW hS) (fun x hx => by rw [hsz]; have := hS x hx; omega) hsm hn)
  have HD := Lib.hid (hD.under hW hS)
  have HS : Hid (∀ x, S x → x < W.heap.size) := fun x hx => by rw [hsz]; have := hS x hx; omega
  have HW := Lib.hid hW
  have HSW := Lib.hid hS
  have HSZ := Lib.hid hsz
  have BB0 := Lib.hid b0
  have BB1 := Lib.hid b1
  have BB2 := Lib.hid b2
  have BB3 := Lib.hid b3
  have HWD := Lib.hid hWd
  clear hrow hS hsm hD ht hr hW hsz b0 b1 b2 b3 hWd
  go_enter Try.func23, Try.ntmps23
  go_upto_region 1 with fail
  show Code.wp _ _ _ _ ((((w.alloc (.cells #[.slice a q.l.length c, .int .i64 q.r, .int .i64 q.d] 46)).alloc (.cells #[.int .i64 m.id, .string m.topic, .int .i64 k, .int .i64 i, .int .u64 b, .string s, .slice am nm cm, .int .i64 m.tat, .int .i64 m.til, .string m.reply, .int .i64 m.corr, .int .i64 m.prio, .int .i64 m.hops] 48)).alloc (.cells #[.slice none 0 0, .int .i64 0, .int .i64 0] 46)).alloc (.cells #[.int .i64 0, .string ByteArray.empty, .int .i64 0, .int .i64 0, .int .u64 0, .string ByteArray.empty, .slice none 0 0, .int .i64 0, .int .i64 0, .string ByteArray.empty, .int .i64 0, .int .i64 0, .int .i64 0] 48))
  rw [← HWD.out]
  have b0 := BB0.out
  go_wp2_with (refine wpList_load_blk rfl 46 _ rfl (w.heap.size) 0 rfl [.slice a q.l.length c, .int .i64 q.r, .int .i64 q.d] _ (Blk.range (pre := []) (post := []) b0 rfl) Try.underlying46 rfl sizeI ?_)
  refine HC.out.mono ?_
  rintro e w1 ⟨a1, c1, S1, css1, rfl, hown1, hb1⟩
  have hs1 := hb1.size
  have B1 : Below w.heap.size w w1 := HW.out.trans (hb1.mono (by rw [HSZ.out]; omega))
  have b0' := BB0.out.under hb1 (by rw [HSZ.out]; omega)
  have b1' := BB1.out.under hb1 (by rw [HSZ.out]; omega)
  have b2' := BB2.out.under hb1 (by rw [HSZ.out]; omega)
  have b3' := BB3.out.under hb1 (by rw [HSZ.out]; omega)
  have HD1 : Hid (IsD w1 S m.body [.int .i64 k, .int .i64 i, .int .u64 b, .string s, .slice am nm cm]) := HD.out.under hb1 HS.out
  have HS1 : Hid (∀ x, S x → x < w1.heap.size) := fun x hx => Nat.lt_of_lt_of_le (HS.out x hx) hs1
  rw [HSZ.out] at hs1
  have HOWN1 := Lib.hid hown1
  clear hown1 HD HC BB0 BB1 BB2 BB3 b0
  go_upto_region 2 with (refine wpList_store_blk (T := 46) rfl 46 _ _ rfl (w.heap.size) 0 [] [.slice a q.l.length c, .int .i64 q.r, .int .i64 q.d] [] [.slice a1 q.l.length c1, .int .i64 q.r, .int .i64 q.d] rfl rfl b0' rfl rfl sizeI inb_one ?_; intro w2 b0 U2)
  have b1 := U2.blk b1' (by omega)
  have b2 := U2.blk b2' (by omega)
  have b3 := U2.blk b3' (by omega)
  have hs2 : w.heap.size + 4 ≤ w2.heap.size := by rw [U2.size]; exact hs1
  have HOWN2 : Hid (OwnE IsM 48 13 w2 (w.heap.size + 4) q.l (.slice a1 q.l.length c1) S1 css1) := by
    have h := HOWN1.out
    rw [HSZ.out] at h
    exact h.keep keepsM (by rw [U2.size]; exact Nat.le_refl _) fun x hx => U2.far x (by
      rcases hx with hx | hx
      · have := (h.far x hx).1; omega
      · have := (h.far_lt x hx).1; omega)
  have B2 : Below w.heap.size w w2 := B1.trans (U2.below _ (Nat.le_refl _))
  have HD2 : Hid (IsD w2 S m.body [.int .i64 k, .int .i64 i, .int .u64 b, .string s, .slice am nm cm]) := HD1.out.keep (fun _ h => h) fun x hx j => U2.cell (by have := HSW.out x hx; omega)
  have HS2 : Hid (∀ x, S x → x < w2.heap.size) := fun x hx => by rw [U2.size]; exact HS1.out x hx
  clear b1' b2' b3' b0' HD1 HS1 HOWN1 U2
  go_wp2_with (refine wpList_load_blk rfl 28 _ rfl (w.heap.size + 1) 2 rfl [.int .i64 k, .int .i64 i, .int .u64 b, .string s, .slice am nm cm] _ (Blk.range (pre := [.int .i64 m.id, .string m.topic]) (post := [.int .i64 m.tat, .int .i64 m.til, .string m.reply, .int .i64 m.corr, .int .i64 m.prio, .int .i64 m.hops]) b1 rfl) Try.underlying28 rfl sizeDt ?_)
  refine (own_queue _ m.body (Nat.le_refl _) hz w2 S _ HD2.out HS2.out).mono ?_
  rintro e w3 ⟨k3, i3, b3', s3, a3, n3, c3, xs3, rfl, hD3, -, hb3⟩
  have HD3 := Lib.hid hD3
  have b0' := b0.under hb3 (by omega)
  have b1' := b1.under hb3 (by omega)
  have b2' := b2.under hb3 (by omega)
  have b3'' := b3.under hb3 (by omega)
  have hs3 := hb3.size
  have B3 : Below w.heap.size w w3 := below_on hb3 B2
  have HOWN3 := Lib.hid (HOWN2.out.below keepsM hb3 (Nat.le_refl _))
  clear b0 b1 b2 b3 HD2 HS2 hD3
  go_upto_region 3 with (refine wpList_store_blk (T := 48) rfl 28 _ _ rfl (w.heap.size + 1) 2 [.int .i64 m.id, .string m.topic] [.int .i64 k, .int .i64 i, .int .u64 b, .string s, .slice am nm cm] [.int .i64 m.tat, .int .i64 m.til, .string m.reply, .int .i64 m.corr, .int .i64 m.prio, .int .i64 m.hops] [.int .i64 k3, .int .i64 i3, .int .u64 b3', .string s3, .slice a3 n3 c3] rfl rfl b1' rfl rfl sizeDt IsD.one5 ?_; intro w4 b1 U4)
  have b0 := U4.blk b0' (by omega)
  have b2 := U4.blk b2' (by omega)
  have b3 := U4.blk b3'' (by omega)
  have hs4 : w.heap.size + 4 ≤ w4.heap.size := by rw [U4.size]; omega
  have HOWN4 : Hid (OwnE IsM 48 13 w4 (w.heap.size + 4) q.l (.slice a1 q.l.length c1) S1 css1) := HOWN3.out.keep keepsM (by rw [U4.size]; exact Nat.le_refl _) fun x hx => U4.far x (by
      rcases hx with hx | hx
      · have := (HOWN3.out.far x hx).1; omega
      · have := (HOWN3.out.far_lt x hx).1; omega)
  have B4 : Below w.heap.size w w4 := B3.trans (U4.below _ (Nat.le_succ _))
  have hm4 : IsM w4 (Btw w2.heap.size w3.heap.size) m [.int .i64 m.id, .string m.topic, .int .i64 k3, .int .i64 i3, .int .u64 b3', .string s3, .slice a3 n3 c3, .int .i64 m.tat, .int .i64 m.til, .string m.reply, .int .i64 m.corr, .int .i64 m.prio, .int .i64 m.hops] := ⟨k3, i3, b3', s3, a3, n3, c3, rfl, HD3.out.keep (fun _ h => h) fun x hx j => U4.cell (by have := hx.1; omega), HT.out.1, HT.out.2⟩
  have HM4 := Lib.hid hm4
  have hfar4 : ∀ x, Btw w2.heap.size w3.heap.size x → w.heap.size + 4 ≤ x ∧ x < w4.heap.size ∧ (Value.slice a1 q.l.length c1).ownBlock ≠ some x := fun x hx => ⟨by have := hx.1; omega, by rw [U4.size]; exact hx.2, fun h => by have h1 := (HOWN2.out.far_lt x h).2; have := hx.1; omega⟩
  have HFAR4 := Lib.hid hfar4
  have hrow4 : w4.ownsRow (w.heap.size + 4) 48 13 (.slice a1 q.l.length c1) q.l.length css1.flatten := HOWN4.out.row
  have HROW4 := Lib.hid hrow4
  clear b1' b2' b3'' b0' HD3 HOWN3 U4 hm4 hfar4 hrow4 HOWN2
  have c0 := b0.cell 0
  have c1' := b0.cell 1
  have c2' := b0.cell 2
  have f0 := b0.free 0
  have f1 := b0.free 1
  have f2 := b0.free 2
  simp only [List.getElem?_toArray] at c0 c1' c2'
  have hne0 : (Value.slice a1 q.l.length c1).ownBlock ≠ some w.heap.size := fun h => by have := (HOWN4.out.far_lt _ h).1; omega
  have hne1 : (Value.slice a1 q.l.length c1).ownBlock ≠ some (w.heap.size + 1) := fun h => by have := (HOWN4.out.far_lt _ h).1; omega
  have hne2 : (Value.slice a1 q.l.length c1).ownBlock ≠ some (w.heap.size + 2) := fun h => by have := (HOWN4.out.far_lt _ h).1; omega
  have hne3 : (Value.slice a1 q.l.length c1).ownBlock ≠ some (w.heap.size + 3) := fun h => by have := (HOWN4.out.far_lt _ h).1; omega
  have HNE := Lib.hid (And.intro hne0 (And.intro hne1 (And.intro hne2 hne3)))
  clear hne0 hne1 hne2 hne3 hs1 hs2 hs3
  by_cases h1 : (q.l.length : Int) < room
  · have hq : putQ q room drop m = (⟨q.l ++ [m], q.r, q.d⟩, zeroM, false, 0) := by rw [putQ, if_pos h1]
    have HQ := Lib.hid hq
    clear hq
    go_upto_region 4 with fail
    go_wp2_with (first
      | (refine wpList_load_blk rfl 48 _ rfl (w.heap.size + 1) 0 rfl [.int .i64 m.id, .string m.topic, .int .i64 k3, .int .i64 i3, .int .u64 b3', .string s3, .slice a3 n3 c3, .int .i64 m.tat, .int .i64 m.til, .string m.reply, .int .i64 m.corr, .int .i64 m.prio, .int .i64 m.hops] _ (Blk.range (pre := []) (post := []) b1 rfl) Try.underlying48 rfl sizeM ?_)
      | (at_builtin
         refine wpList_append_lies _ rfl _ _ _ rfl (w.heap.size + 4) 48 i0 _ 13 144 Try.underlying44 hi0 hz0 hz1 hz2 rfl (by omega) _ q.l.length css1.flatten rfl (HROW4.out.alloc _) ⟨w4.heap.size, 0, none⟩ 1 1 [.int .i64 m.id, .string m.topic, .int .i64 k3, .int .i64 i3, .int .u64 b3', .string s3, .slice a3 n3 c3, .int .i64 m.tat, .int .i64 m.til, .string m.reply, .int .i64 m.corr, .int .i64 m.prio, .int .i64 m.hops] rfl rfl (World.news_of_block (cs := #[.int .i64 m.id, .string m.topic, .int .i64 k3, .int .i64 i3, .int .u64 b3', .string s3, .slice a3 n3 c3, .int .i64 m.tat, .int .i64 m.til, .string m.reply, .int .i64 m.corr, .int .i64 m.prio, .int .i64 m.hops]) (t := 48) (fr := (0, 0)) (heap_alloc_new w4 _)) HM4.out.one (by omega) (by unfold maxLen; omega) (by omega) (by simp; omega) (w4.heap.size + 1) (by simp) ?_
         intro g5 cap5 w5 hown5 hgrow5 hat5 hlt5
         have HO5 := Lib.hid hown5
         have HAT := Lib.hid hat5
         clear hown5 hat5
         have c7 := (far_cell hgrow5 b0.lt HNE.out.1).trans c0
         have f7 := (far_free hgrow5 b0.lt HNE.out.1).trans f0
         have b0n : Blk (w5.setCell ⟨w.heap.size, 0, none⟩ (.slice (some ⟨g5, 0, none⟩) (q.l.length + 1) cap5)) w.heap.size 46 #[.slice (some ⟨g5, 0, none⟩) (q.l.length + 1) cap5, .int .i64 q.r, .int .i64 q.d] := Blk.set (i := 0) ((far_block hgrow5 b0.lt HNE.out.1).trans b0) _
         have b2n : Blk (w5.setCell ⟨w.heap.size, 0, none⟩ (.slice (some ⟨g5, 0, none⟩) (q.l.length + 1) cap5)) (w.heap.size + 2) 46 #[.slice none 0 0, .int .i64 0, .int .i64 0] := Blk.far (p := ⟨w.heap.size, 0, none⟩) ((far_block hgrow5 b2.lt HNE.out.2.2.1).trans b2) (by simp) _
         have b3n : Blk (w5.setCell ⟨w.heap.size, 0, none⟩ (.slice (some ⟨g5, 0, none⟩) (q.l.length + 1) cap5)) (w.heap.size + 3) 48 #[.int .i64 0, .string ByteArray.empty, .int .i64 0, .int .i64 0, .int .u64 0, .string ByteArray.empty, .slice none 0 0, .int .i64 0, .int .i64 0, .string ByteArray.empty, .int .i64 0, .int .i64 0, .int .i64 0] := Blk.far (p := ⟨w.heap.size, 0, none⟩) ((far_block hgrow5 b3.lt HNE.out.2.2.2).trans b3) (by simp) _)
      | (refine wpList_load_blk rfl 46 _ rfl (w.heap.size) 0 rfl [.slice (some ⟨g5, 0, none⟩) (q.l.length + 1) cap5, .int .i64 q.r, .int .i64 q.d] _ (Blk.range (pre := []) (post := []) b0n rfl) Try.underlying46 rfl sizeI ?_)
      | (refine wpList_store_blk (T := 46) rfl 46 _ _ rfl (w.heap.size + 2) 0 [] [.slice none 0 0, .int .i64 0, .int .i64 0] [] [.slice (some ⟨g5, 0, none⟩) (q.l.length + 1) cap5, .int .i64 q.r, .int .i64 q.d] rfl rfl b2n rfl rfl sizeI inb_one ?_; intro w6 r2 U5; have b3m := U5.blk b3n (by omega))
      | (refine wpList_store_blk (T := 48) rfl 48 _ _ rfl (w.heap.size + 3) 0 [] [.int .i64 0, .string ByteArray.empty, .int .i64 0, .int .i64 0, .int .u64 0, .string ByteArray.empty, .slice none 0 0, .int .i64 0, .int .i64 0, .string ByteArray.empty, .int .i64 0, .int .i64 0, .int .i64 0] [] [.int .i64 0, .string ByteArray.empty, .int .i64 0, .int .i64 0, .int .u64 0, .string ByteArray.empty, .slice none 0 0, .int .i64 0, .int .i64 0, .string ByteArray.empty, .int .i64 0, .int .i64 0, .int .i64 0] rfl rfl b3m rfl rfl sizeM (by simp [Value.oneCell']) ?_; intro w7 r3 U6; have r2' := U6.blk r2 (by omega)))
    refine bodyPost_ret (res_cctt rfl rfl (load_blk w7 (w.heap.size + 2) 46 [.slice (some ⟨g5, 0, none⟩) (q.l.length + 1) cap5, .int .i64 q.r, .int .i64 q.d] _ r2' Try.underlying46 rfl sizeI) rfl (load_blk w7 (w.heap.size + 3) 48 [.int .i64 0, .string ByteArray.empty, .int .i64 0, .int .i64 0, .int .u64 0, .string ByteArray.empty, .slice none 0 0, .int .i64 0, .int .i64 0, .string ByteArray.empty, .int .i64 0, .int .i64 0, .int .i64 0] _ r3 Try.underlying48 rfl sizeM) rfl rfl) rfl ?_
    rw [HQ.out]
    have hR := OwnE.snoc keepsM HOWN4.out HM4.out rfl HFAR4.out HO5.out rfl hgrow5 HAT.out
    have hs5 : w7.heap.size = w5.heap.size := by rw [U6.size, U5.size]; simp
    refine ⟨some ⟨g5, 0, none⟩, q.l.length + 1, cap5, 0, 0, 0, ByteArray.empty, none, 0, 0, rfl, rows_end hR (by omega) (fun x hx => (U6.far x (by omega)).trans ((U5.far x (by omega)).trans (heap_set (by show x ≠ w.heap.size; omega)))) (by omega), zeroM_is _ _, ?_⟩
    exact (((((B4.alloc (by omega) _).grown hgrow5 (by simp; omega) (fun x hx => by have := (HOWN4.out.far_lt x hx).1; omega)).setCell (Nat.le_refl _) _).trans (U5.below _ (by omega))).trans (U6.below _ (by omega)))
  · by_cases h2 : drop = 0
    · subst h2
      have hq : putQ q room 0 m = (⟨q.l, q.r, q.d + 1⟩, m, true, 0) := by rw [putQ, if_neg h1, if_pos rfl]
      have HQ := Lib.hid hq
      clear hq
      go_upto_region 9 with fail
      have b0n : Blk (w4.setCell ⟨w.heap.size, 2, none⟩ (.int .i64 (q.d + 1))) w.heap.size 46 #[.slice a1 q.l.length c1, .int .i64 q.r, .int .i64 (q.d + 1)] := b0.set 2 _
      have b1n := b1.far (p := ⟨w.heap.size, 2, none⟩) (by simp) (.int .i64 (q.d + 1))
      have b2n := b2.far (p := ⟨w.heap.size, 2, none⟩) (by simp) (.int .i64 (q.d + 1))
      have b3n := b3.far (p := ⟨w.heap.size, 2, none⟩) (by simp) (.int .i64 (q.d + 1))
      clear c0 c1' c2' f0 f1 f2 b0 b1 b2 b3
      refine wp_region_held_drew (S := (fun w' => Blk w' (w.heap.size) 46 #[.slice a1 q.l.length c1, .int .i64 q.r, .int .i64 (q.d + 1)] ∧ Blk w' (w.heap.size + 1) 48 #[.int .i64 m.id, .string m.topic, .int .i64 k3, .int .i64 i3, .int .u64 b3', .string s3, .slice a3 n3 c3, .int .i64 m.tat, .int .i64 m.til, .string m.reply, .int .i64 m.corr, .int .i64 m.prio, .int .i64 m.hops])) (by kernel_rfl) ?_ (fun hHeld => ?_)
      · exact ⟨b0n.drew, b1n.drew⟩
      refine wpAnyH_take (i := 0) (v := .agg #[.slice a1 q.l.length c1, .int .i64 q.r, .int .i64 (q.d + 1)]) rfl (by kernel_rfl) (by kernel_rfl) (by kernel_rfl) (fun _ _ _ h => h) (yieldsIf_load_mid (by rfl) 46 _ rfl (w.heap.size) 0 (by rfl) [.slice a1 q.l.length c1, .int .i64 q.r, .int .i64 (q.d + 1)] _ (fun w' h => Blk.range (pre := []) (post := []) h.1 rfl) Try.underlying46 rfl sizeI) hHeld ?_
      try simp only [Act.put, List.getElem_toArray, List.getElem_cons_zero, List.setIfInBounds_toArray, List.set_cons_zero, List.set_cons_succ]
      refine wpAnyH_take (i := 1) (v := .agg #[.int .i64 m.id, .string m.topic, .int .i64 k3, .int .i64 i3, .int .u64 b3', .string s3, .slice a3 n3 c3, .int .i64 m.tat, .int .i64 m.til, .string m.reply, .int .i64 m.corr, .int .i64 m.prio, .int .i64 m.hops]) rfl (by kernel_rfl) (by kernel_rfl) (by kernel_rfl) (fun _ _ _ h => h) (yieldsIf_load_mid (by rfl) 48 _ rfl (w.heap.size + 1) 0 (by rfl) [.int .i64 m.id, .string m.topic, .int .i64 k3, .int .i64 i3, .int .u64 b3', .string s3, .slice a3 n3 c3, .int .i64 m.tat, .int .i64 m.til, .string m.reply, .int .i64 m.corr, .int .i64 m.prio, .int .i64 m.hops] _ (fun w' h => Blk.range (pre := []) (post := []) h.2 rfl) Try.underlying48 rfl sizeM) hHeld ?_
      try simp only [Act.put, List.getElem_toArray, List.getElem_cons_zero, List.getElem_cons_succ, List.setIfInBounds_toArray, List.set_cons_zero, List.set_cons_succ]
      refine wpAnyH_ready (rs := [2]) (by kernel_rfl) (by simp) ?_
      refine AllReadyH.cons rfl (fun K hK => ?_) AllReadyH.nil
      refine step_store_blk (T := 46) (by rfl) 46 _ _ (by rfl) (w.heap.size + 2) 0 [] [.slice none 0 0, .int .i64 0, .int .i64 0] [] [.slice a1 q.l.length c1, .int .i64 q.r, .int .i64 (q.d + 1)] (by rfl) (by rfl) b2n.drew rfl rfl sizeI inb_one (fun w5 r2 U5 => ?_)
      refine hK.out _ _ ⟨U5.blk hHeld.1 (by omega), U5.blk hHeld.2 (by omega)⟩ (fun hHeld2 => ?_)
      clear hHeld hK K
      have hHeld := hHeld2
      clear hHeld2
      try simp only [Act.put, List.getElem_toArray, List.getElem_cons_zero, List.getElem_cons_succ]
      have hR1 := U5.blk b3n.drew (by omega)
      refine wpAnyH_ready (rs := [3]) (by kernel_rfl) (by simp) ?_
      refine AllReadyH.cons rfl (fun K hK => ?_) AllReadyH.nil
      refine step_store_blk (T := 48) (by rfl) 48 _ _ (by rfl) (w.heap.size + 3) 0 [] [.int .i64 0, .string ByteArray.empty, .int .i64 0, .int .i64 0, .int .u64 0, .string ByteArray.empty, .slice none 0 0, .int .i64 0, .int .i64 0, .string ByteArray.empty, .int .i64 0, .int .i64 0, .int .i64 0] [] [.int .i64 m.id, .string m.topic, .int .i64 k3, .int .i64 i3, .int .u64 b3', .string s3, .slice a3 n3 c3, .int .i64 m.tat, .int .i64 m.til, .string m.reply, .int .i64 m.corr, .int .i64 m.prio, .int .i64 m.hops] (by rfl) (by rfl) hR1 rfl rfl sizeM (by simp [Value.oneCell']) (fun w6 r3 U6 => ?_)
      refine hK.out _ _ ⟨U6.blk hHeld.1 (by omega), U6.blk hHeld.2 (by omega)⟩ (fun hHeld2 => ?_)
      clear hHeld hK K
      have hHeld := hHeld2
      clear hHeld2
      try simp only [Act.put, List.getElem_toArray, List.getElem_cons_zero, List.getElem_cons_succ]
      replace r2 := U6.blk r2 (by omega)
      refine wpAnyH_take (i := 4) (v := ?_) rfl (by kernel_rfl) (by kernel_rfl) (by kernel_rfl) (fun _ _ _ h => h) (Or.inl ⟨by rfl, ?_⟩) hHeld ?_
      rotate_left
      · intro w hSw
        first | (go_simp; done) | (go_simp; with_reducible rfl)
      try simp only [Act.put, List.getElem_toArray, List.getElem_cons_zero, List.getElem_cons_succ, List.setIfInBounds_toArray, List.set_cons_zero, List.set_cons_succ]
      refine wpAnyH_take (i := 5) (v := ?_) rfl (by kernel_rfl) (by kernel_rfl) (by kernel_rfl) (fun _ _ _ h => h) (Or.inl ⟨by rfl, ?_⟩) hHeld ?_
      rotate_left
      · intro w hSw
        first | (go_simp; done) | (go_simp; with_reducible rfl)
      try simp only [Act.put, List.getElem_toArray, List.getElem_cons_zero, List.getElem_cons_succ, List.setIfInBounds_toArray, List.set_cons_zero, List.set_cons_succ]
      refine wpAnyH_done (by kernel_rfl) ?_ _
      clear hHeld hR1
      go_wp2_with fail
      refine bodyPost_ret (res_cctt rfl rfl (load_blk w6 (w.heap.size + 2) 46 [.slice a1 q.l.length c1, .int .i64 q.r, .int .i64 (q.d + 1)] _ r2 Try.underlying46 rfl sizeI) rfl (load_blk w6 (w.heap.size + 3) 48 [.int .i64 m.id, .string m.topic, .int .i64 k3, .int .i64 i3, .int .u64 b3', .string s3, .slice a3 n3 c3, .int .i64 m.tat, .int .i64 m.til, .string m.reply, .int .i64 m.corr, .int .i64 m.prio, .int .i64 m.hops] _ r3 Try.underlying48 rfl sizeM) rfl rfl) rfl ?_
      rw [HQ.out]
      have hs6 : w6.heap.size = w4.heap.size := by rw [U6.size, U5.size]; show (w4.setCell _ _).heap.size = _; simp
      have hfar : ∀ x, w.heap.size + 4 ≤ x → w6.heap[x]? = w4.heap[x]? := fun x hx => (U6.far x (by omega)).trans ((U5.far x (by omega)).trans (heap_set (p := ⟨w.heap.size, 2, none⟩) (by show x ≠ w.heap.size; omega)))
      refine ⟨a1, q.l.length, c1, k3, i3, b3', s3, a3, n3, c3, rfl, rows_end HOWN4.out (by omega) hfar (by omega), msg_end HM4.out (fun x hx => ⟨(HFAR4.out x hx).1, (HFAR4.out x hx).2.1⟩) (by omega) hfar (by omega), ?_⟩
      exact (((B4.setCell (p := ⟨w.heap.size, 2, none⟩) (Nat.le_refl _) _).drew).trans (U5.below _ (by omega))).trans (U6.below _ (by omega))
    · by_cases h3 : drop = 1
      · subst h3
        have hl' : (q.l ++ [m]).length = q.l.length + 1 := by simp
        obtain ⟨ki, hK⟩ : ∃ ki, ki = lowI (q.l ++ [m]) (q.l.length + 1) := ⟨_, rfl⟩
        have hKl : ki < q.l.length + 1 := by rw [hK, ← hl']; exact lowI_lt (by rw [hl']; omega) (Nat.le_refl _)
        have hq : putQ q room 1 m = (⟨(q.l ++ [m]).eraseIdx ki, q.r, q.d + 1⟩, atM (q.l ++ [m]) ki, true, 0) := by rw [putQ, if_neg h1, if_neg (by decide), if_pos rfl, ← hK]
        have HQ := Lib.hid hq
        have HKD := Lib.hid hK
        have HLL := Lib.hid hl'
        clear hq hK hl'
        go_upto_region 12 with (first
          | (refine wpList_load_blk rfl 48 _ rfl (w.heap.size + 1) 0 rfl [.int .i64 m.id, .string m.topic, .int .i64 k3, .int .i64 i3, .int .u64 b3', .string s3, .slice a3 n3 c3, .int .i64 m.tat, .int .i64 m.til, .string m.reply, .int .i64 m.corr, .int .i64 m.prio, .int .i64 m.hops] _ (Blk.range (pre := []) (post := []) b1 rfl) Try.underlying48 rfl sizeM ?_)
          | (at_builtin
             refine wpList_append_lies _ rfl _ _ _ rfl (w.heap.size + 4) 48 i0 _ 13 144 Try.underlying44 hi0 hz0 hz1 hz2 rfl (by omega) _ q.l.length css1.flatten rfl (HROW4.out.alloc _) ⟨w4.heap.size, 0, none⟩ 1 1 [.int .i64 m.id, .string m.topic, .int .i64 k3, .int .i64 i3, .int .u64 b3', .string s3, .slice a3 n3 c3, .int .i64 m.tat, .int .i64 m.til, .string m.reply, .int .i64 m.corr, .int .i64 m.prio, .int .i64 m.hops] rfl rfl (World.news_of_block (cs := #[.int .i64 m.id, .string m.topic, .int .i64 k3, .int .i64 i3, .int .u64 b3', .string s3, .slice a3 n3 c3, .int .i64 m.tat, .int .i64 m.til, .string m.reply, .int .i64 m.corr, .int .i64 m.prio, .int .i64 m.hops]) (t := 48) (fr := (0, 0)) (heap_alloc_new w4 _)) HM4.out.one (by omega) (by unfold maxLen; omega) (by omega) (by simp; omega) (w4.heap.size + 1) (by simp) ?_
             intro g5 cap5 w5 hown5 hgrow5 hat5 hlt5
             have HO5 := Lib.hid hown5
             have HAT := Lib.hid hat5
             clear hown5 hat5))
        have hR := OwnE.snoc keepsM HOWN4.out HM4.out rfl HFAR4.out HO5.out rfl hgrow5 HAT.out
        have b0q := (far_block hgrow5 b0.lt HNE.out.1).trans b0
        have b2q := (far_block hgrow5 b2.lt HNE.out.2.2.1).trans b2
        have b3q := (far_block hgrow5 b3.lt HNE.out.2.2.2).trans b3
        have B5 : Below w.heap.size w w5 := (B4.alloc (by omega) (.cells #[.int .i64 m.id, .string m.topic, .int .i64 k3, .int .i64 i3, .int .u64 b3', .string s3, .slice a3 n3 c3, .int .i64 m.tat, .int .i64 m.til, .string m.reply, .int .i64 m.corr, .int .i64 m.prio, .int .i64 m.hops] 48)).grown hgrow5 (by simp; omega) (fun x hx => by have := (HOWN4.out.far_lt x hx).1; omega)
        have hs5 : w.heap.size + 4 ≤ w5.heap.size := by have := hgrow5.size; simp at this; omega
        have HR := Lib.hid hR
        clear hR c0 c1' c2' f0 f1 f2 b0 b1 b2 b3 hgrow5 HM4 HROW4 HAT HO5
        go_wp2_with fail
        refine (best_low (q.l ++ [m]) (some ⟨g5, 0, none⟩) (q.l.length + 1) cap5 (Btw (w.heap.size + 4) w5.heap.size) w5 (OwnE.rows keepsM HR.out) (fun x hx => hx.2)).mono ?_
        rintro e w6 ⟨rfl, hb6⟩
        rw [← HKD.out]
        have B6 := below_on hb6 B5
        have hs6 : w.heap.size + 4 ≤ w6.heap.size := Nat.le_trans hs5 hb6.size
        have hR6 := HR.out.below keepsM hb6 (Nat.le_refl _)
        have b0 := Blk.under b0q hb6 (by omega)
        have b2 := Blk.under b2q hb6 (by omega)
        have b3 := Blk.under b3q hb6 (by omega)
        obtain ⟨X, hX, hXm⟩ := hR6.at_ ki _ (atM_mem (l := q.l ++ [m]) (i := ki) (by rw [HLL.out]; exact hKl))
        have hXX := hXm
        obtain ⟨kx, ix, bx, sx, ax, nx, cx, rfl, -, -, -⟩ := hXm
        have hr6 : w6.rangeAt g5 (ki * 13) [.int .i64 (atM (q.l ++ [m]) ki).id, .string (atM (q.l ++ [m]) ki).topic, .int .i64 kx, .int .i64 ix, .int .u64 bx, .string sx, .slice ax nx cx, .int .i64 (atM (q.l ++ [m]) ki).tat, .int .i64 (atM (q.l ++ [m]) ki).til, .string (atM (q.l ++ [m]) ki).reply, .int .i64 (atM (q.l ++ [m]) ki).corr, .int .i64 (atM (q.l ++ [m]) ki).prio, .int .i64 (atM (q.l ++ [m]) ki).hops] := fun j v hv => by
          have := hR6.row.cells (g := g5) rfl (ki * 13 + j) v (flat_get hR6.wide hX j v hv)
          simpa [Addr.add_mid] using this
        have hk0 : (0 : Int) ≤ (ki : Int) := by omega
        have hk1 : (ki : Int) < ((q.l.length + 1 : Nat) : Int) := by omega
        have hg6 : g5 < w6.heap.size := (hR6.far_lt g5 rfl).2
        have HG6 := Lib.hid hg6
        have HR6 := Lib.hid hR6
        have HXX := Lib.hid hXX
        clear HR b0q b2q b3q hb6 hX hR6 hXX hg6
        go_upto_region 14 with (first
          | (refine wpList_load_blk rfl 48 _ rfl g5 (ki * 13) rfl [.int .i64 (atM (q.l ++ [m]) ki).id, .string (atM (q.l ++ [m]) ki).topic, .int .i64 kx, .int .i64 ix, .int .u64 bx, .string sx, .slice ax nx cx, .int .i64 (atM (q.l ++ [m]) ki).tat, .int .i64 (atM (q.l ++ [m]) ki).til, .string (atM (q.l ++ [m]) ki).reply, .int .i64 (atM (q.l ++ [m]) ki).corr, .int .i64 (atM (q.l ++ [m]) ki).prio, .int .i64 (atM (q.l ++ [m]) ki).hops] _ hr6 Try.underlying48 rfl sizeM ?_)
          | (refine wpList_store_blk (T := 48) rfl 48 _ _ rfl (w6.heap.size) 0 [] [.int .i64 0, .string ByteArray.empty, .int .i64 0, .int .i64 0, .int .u64 0, .string ByteArray.empty, .slice none 0 0, .int .i64 0, .int .i64 0, .string ByteArray.empty, .int .i64 0, .int .i64 0, .int .i64 0] [] [.int .i64 (atM (q.l ++ [m]) ki).id, .string (atM (q.l ++ [m]) ki).topic, .int .i64 kx, .int .i64 ix, .int .u64 bx, .string sx, .slice ax nx cx, .int .i64 (atM (q.l ++ [m]) ki).tat, .int .i64 (atM (q.l ++ [m]) ki).til, .string (atM (q.l ++ [m]) ki).reply, .int .i64 (atM (q.l ++ [m]) ki).corr, .int .i64 (atM (q.l ++ [m]) ki).prio, .int .i64 (atM (q.l ++ [m]) ki).hops] rfl rfl (Blk.new w6 _ _) rfl rfl sizeM (by simp [Value.oneCell']) ?_; intro w7 bg U7))
        have hb67 : Below w6.heap.size w6 w7 := ((Below.refl w6.heap.size w6).alloc (Nat.le_refl _) _).trans (U7.below _ (Nat.le_refl _))
        have hs7 : w7.heap.size = w6.heap.size + 1 := by rw [U7.size]; simp
        have hR7 := HR6.out.below keepsM hb67 (Nat.le_refl _)
        have hX7 : IsM w7 _ (atM (q.l ++ [m]) ki) [.int .i64 (atM (q.l ++ [m]) ki).id, .string (atM (q.l ++ [m]) ki).topic, .int .i64 kx, .int .i64 ix, .int .u64 bx, .string sx, .slice ax nx cx, .int .i64 (atM (q.l ++ [m]) ki).tat, .int .i64 (atM (q.l ++ [m]) ki).til, .string (atM (q.l ++ [m]) ki).reply, .int .i64 (atM (q.l ++ [m]) ki).corr, .int .i64 (atM (q.l ++ [m]) ki).prio, .int .i64 (atM (q.l ++ [m]) ki).hops] := HXX.out.under hb67 (fun x hx => (HR6.out.far x hx).2.1)
        have b0q := b0.under hb67 (by omega)
        have b2q := b2.under hb67 (by omega)
        have b3q := b3.under hb67 (by omega)
        have B7 : Below w.heap.size w w7 := B6.trans (hb67.mono (by omega))
        have HR7 := Lib.hid hR7
        have HX7 := Lib.hid hX7
        have HS7 := Lib.hid hs7
        clear HR6 HXX b0 b2 b3 U7 hr6 hR7 hX7 hb67 hs7
        go_wp2_with fail
        refine (del_any (q.l ++ [m]) ki (q.l.length + 1) cap5 (w.heap.size + 4) (some ⟨g5, 0, none⟩) _ _ w7 HR7.out hKl).mono ?_
        rintro e w8 ⟨rfl, hR8, hfar8, hsz8, hbl8⟩
        have hg5 : w.heap.size + 4 ≤ g5 := (HR7.out.far_lt g5 rfl).1
        have hgk : g5 ≠ w6.heap.size := by
          have h1 := HG6.out
          omega
        have hpt : ∀ x, x ≠ g5 → (some (⟨g5, 0, none⟩ : Addr)) ≠ some ⟨x, 0, none⟩ := fun x hx e => by injection e with e; injection e with e; exact hx e.symm
        have b0 := (hfar8 _ (hpt w.heap.size (by omega))).trans b0q
        have b2 := (hfar8 _ (hpt (w.heap.size + 2) (by omega))).trans b2q
        have b3 := (hfar8 _ (hpt (w.heap.size + 3) (by omega))).trans b3q
        have bg8 := (hfar8 _ (hpt w6.heap.size (fun e => hgk e.symm))).trans bg
        have hX8 : IsM w8 _ (atM (q.l ++ [m]) ki) [.int .i64 (atM (q.l ++ [m]) ki).id, .string (atM (q.l ++ [m]) ki).topic, .int .i64 kx, .int .i64 ix, .int .u64 bx, .string sx, .slice ax nx cx, .int .i64 (atM (q.l ++ [m]) ki).tat, .int .i64 (atM (q.l ++ [m]) ki).til, .string (atM (q.l ++ [m]) ki).reply, .int .i64 (atM (q.l ++ [m]) ki).corr, .int .i64 (atM (q.l ++ [m]) ki).prio, .int .i64 (atM (q.l ++ [m]) ki).hops] := HX7.out.keep (fun _ h => h) (fun x hx j => World.cell?_of_block (a := ⟨x, j, none⟩) (hfar8 x (hpt x (fun e => (HR7.out.far x hx).2.2 (by rw [e]; rfl)))))
        have hS8 : ∀ x, _ → w.heap.size + 4 ≤ x ∧ x < w8.heap.size := fun x hx => ⟨(HR7.out.far x hx).1, by rw [hsz8]; exact (HR7.out.far x hx).2.1⟩
        have B8 : Below w.heap.size w w8 := B7.trans (hbl8 _ (by omega))
        have hs8 : w8.heap.size = w6.heap.size + 1 := by rw [hsz8, HS7.out]
        have c0 : w8.cell? ⟨w.heap.size, 0, none⟩ = some (.slice a1 q.l.length c1) := Blk.cell b0 0
        have c2' : w8.cell? ⟨w.heap.size, 2, none⟩ = some (.int .i64 q.d) := Blk.cell b0 2
        have f0 := Blk.free b0 0
        have f2 := Blk.free b0 2
        have HR8 := Lib.hid hR8
        have HX8 := Lib.hid hX8
        have HS8 := Lib.hid hS8
        have HSZ8 := Lib.hid hs8
        clear HR7 HX7 HS7 b0q b2q b3q bg hR8 hfar8 hsz8 hbl8 hpt hX8 hS8 hs8
        go_upto_region 16 with fail
        have b0n : Blk ((w8.setCell ⟨w.heap.size, 0, none⟩ (.slice (some ⟨g5, 0, none⟩) (q.l.length + 1 - 1) cap5)).setCell ⟨w.heap.size, 2, none⟩ (.int .i64 (q.d + 1))) w.heap.size 46 #[.slice (some ⟨g5, 0, none⟩) (q.l.length + 1 - 1) cap5, .int .i64 q.r, .int .i64 (q.d + 1)] := (Blk.set b0 0 _).set 2 _
        have b2n := (Blk.far (p := ⟨w.heap.size, 0, none⟩) b2 (by simp) (.slice (some ⟨g5, 0, none⟩) (q.l.length + 1 - 1) cap5)).far (p := ⟨w.heap.size, 2, none⟩) (by simp) (.int .i64 (q.d + 1))
        have b3n := (Blk.far (p := ⟨w.heap.size, 0, none⟩) b3 (by simp) (.slice (some ⟨g5, 0, none⟩) (q.l.length + 1 - 1) cap5)).far (p := ⟨w.heap.size, 2, none⟩) (by simp) (.int .i64 (q.d + 1))
        have bgn := (Blk.far (p := ⟨w.heap.size, 0, none⟩) bg8 (by simp; omega) (.slice (some ⟨g5, 0, none⟩) (q.l.length + 1 - 1) cap5)).far (p := ⟨w.heap.size, 2, none⟩) (by simp; omega) (.int .i64 (q.d + 1))
        clear c0 c2' f0 f2 b0 b2 b3 bg8
        refine wp_region_held_drew (S := (fun w' => Blk w' (w.heap.size) 46 #[.slice (some ⟨g5, 0, none⟩) (q.l.length + 1 - 1) cap5, .int .i64 q.r, .int .i64 (q.d + 1)] ∧ Blk w' (w6.heap.size) 48 #[.int .i64 (atM (q.l ++ [m]) ki).id, .string (atM (q.l ++ [m]) ki).topic, .int .i64 kx, .int .i64 ix, .int .u64 bx, .string sx, .slice ax nx cx, .int .i64 (atM (q.l ++ [m]) ki).tat, .int .i64 (atM (q.l ++ [m]) ki).til, .string (atM (q.l ++ [m]) ki).reply, .int .i64 (atM (q.l ++ [m]) ki).corr, .int .i64 (atM (q.l ++ [m]) ki).prio, .int .i64 (atM (q.l ++ [m]) ki).hops])) (by kernel_rfl) ?_ (fun hHeld => ?_)
        · exact ⟨b0n.drew, bgn.drew⟩
        refine wpAnyH_take (i := 0) (v := .agg #[.slice (some ⟨g5, 0, none⟩) (q.l.length + 1 - 1) cap5, .int .i64 q.r, .int .i64 (q.d + 1)]) rfl (by kernel_rfl) (by kernel_rfl) (by kernel_rfl) (fun _ _ _ h => h) (yieldsIf_load_mid (by rfl) 46 _ rfl (w.heap.size) 0 (by rfl) [.slice (some ⟨g5, 0, none⟩) (q.l.length + 1 - 1) cap5, .int .i64 q.r, .int .i64 (q.d + 1)] _ (fun w' h => Blk.range (pre := []) (post := []) h.1 rfl) Try.underlying46 rfl sizeI) hHeld ?_
        try simp only [Act.put, List.getElem_toArray, List.getElem_cons_zero, List.setIfInBounds_toArray, List.set_cons_zero, List.set_cons_succ]
        refine wpAnyH_take (i := 1) (v := .agg #[.int .i64 (atM (q.l ++ [m]) ki).id, .string (atM (q.l ++ [m]) ki).topic, .int .i64 kx, .int .i64 ix, .int .u64 bx, .string sx, .slice ax nx cx, .int .i64 (atM (q.l ++ [m]) ki).tat, .int .i64 (atM (q.l ++ [m]) ki).til, .string (atM (q.l ++ [m]) ki).reply, .int .i64 (atM (q.l ++ [m]) ki).corr, .int .i64 (atM (q.l ++ [m]) ki).prio, .int .i64 (atM (q.l ++ [m]) ki).hops]) rfl (by kernel_rfl) (by kernel_rfl) (by kernel_rfl) (fun _ _ _ h => h) (yieldsIf_load_mid (by rfl) 48 _ rfl (w6.heap.size) 0 (by rfl) [.int .i64 (atM (q.l ++ [m]) ki).id, .string (atM (q.l ++ [m]) ki).topic, .int .i64 kx, .int .i64 ix, .int .u64 bx, .string sx, .slice ax nx cx, .int .i64 (atM (q.l ++ [m]) ki).tat, .int .i64 (atM (q.l ++ [m]) ki).til, .string (atM (q.l ++ [m]) ki).reply, .int .i64 (atM (q.l ++ [m]) ki).corr, .int .i64 (atM (q.l ++ [m]) ki).prio, .int .i64 (atM (q.l ++ [m]) ki).hops] _ (fun w' h => Blk.range (pre := []) (post := []) h.2 rfl) Try.underlying48 rfl sizeM) hHeld ?_
        try simp only [Act.put, List.getElem_toArray, List.getElem_cons_zero, List.getElem_cons_succ, List.setIfInBounds_toArray, List.set_cons_zero, List.set_cons_succ]
        refine wpAnyH_ready (rs := [2]) (by kernel_rfl) (by simp) ?_
        refine AllReadyH.cons rfl (fun K hK => ?_) AllReadyH.nil
        refine step_store_blk (T := 46) (by rfl) 46 _ _ (by rfl) (w.heap.size + 2) 0 [] [.slice none 0 0, .int .i64 0, .int .i64 0] [] [.slice (some ⟨g5, 0, none⟩) (q.l.length + 1 - 1) cap5, .int .i64 q.r, .int .i64 (q.d + 1)] (by rfl) (by rfl) b2n.drew rfl rfl sizeI inb_one (fun wa r2 Ua => ?_)
        refine hK.out _ _ ⟨Ua.blk hHeld.1 (by omega), Ua.blk hHeld.2 (by omega)⟩ (fun hHeld2 => ?_)
        clear hHeld hK K
        have hHeld := hHeld2
        clear hHeld2
        try simp only [Act.put, List.getElem_toArray, List.getElem_cons_zero, List.getElem_cons_succ]
        have hR1 := Ua.blk b3n.drew (by omega)
        refine wpAnyH_ready (rs := [3]) (by kernel_rfl) (by simp) ?_
        refine AllReadyH.cons rfl (fun K hK => ?_) AllReadyH.nil
        refine step_store_blk (T := 48) (by rfl) 48 _ _ (by rfl) (w.heap.size + 3) 0 [] [.int .i64 0, .string ByteArray.empty, .int .i64 0, .int .i64 0, .int .u64 0, .string ByteArray.empty, .slice none 0 0, .int .i64 0, .int .i64 0, .string ByteArray.empty, .int .i64 0, .int .i64 0, .int .i64 0] [] [.int .i64 (atM (q.l ++ [m]) ki).id, .string (atM (q.l ++ [m]) ki).topic, .int .i64 kx, .int .i64 ix, .int .u64 bx, .string sx, .slice ax nx cx, .int .i64 (atM (q.l ++ [m]) ki).tat, .int .i64 (atM (q.l ++ [m]) ki).til, .string (atM (q.l ++ [m]) ki).reply, .int .i64 (atM (q.l ++ [m]) ki).corr, .int .i64 (atM (q.l ++ [m]) ki).prio, .int .i64 (atM (q.l ++ [m]) ki).hops] (by rfl) (by rfl) hR1 rfl rfl sizeM (by simp [Value.oneCell']) (fun wb r3 Ub => ?_)
        refine hK.out _ _ ⟨Ub.blk hHeld.1 (by omega), Ub.blk hHeld.2 (by omega)⟩ (fun hHeld2 => ?_)
        clear hHeld hK K
        have hHeld := hHeld2
        clear hHeld2
        try simp only [Act.put, List.getElem_toArray, List.getElem_cons_zero, List.getElem_cons_succ]
        replace r2 := Ub.blk r2 (by omega)
        refine wpAnyH_take (i := 4) (v := ?_) rfl (by kernel_rfl) (by kernel_rfl) (by kernel_rfl) (fun _ _ _ h => h) (Or.inl ⟨by rfl, ?_⟩) hHeld ?_
        rotate_left
        · intro w hSw
          first | (go_simp; done) | (go_simp; with_reducible rfl)
        try simp only [Act.put, List.getElem_toArray, List.getElem_cons_zero, List.getElem_cons_succ, List.setIfInBounds_toArray, List.set_cons_zero, List.set_cons_succ]
        refine wpAnyH_take (i := 5) (v := ?_) rfl (by kernel_rfl) (by kernel_rfl) (by kernel_rfl) (fun _ _ _ h => h) (Or.inl ⟨by rfl, ?_⟩) hHeld ?_
        rotate_left
        · intro w hSw
          first | (go_simp; done) | (go_simp; with_reducible rfl)
        try simp only [Act.put, List.getElem_toArray, List.getElem_cons_zero, List.getElem_cons_succ, List.setIfInBounds_toArray, List.set_cons_zero, List.set_cons_succ]
        refine wpAnyH_done (by kernel_rfl) ?_ _
        clear hHeld hR1
        go_wp2_with fail
        refine bodyPost_ret (res_cctt rfl rfl (load_blk wb (w.heap.size + 2) 46 [.slice (some ⟨g5, 0, none⟩) (q.l.length + 1 - 1) cap5, .int .i64 q.r, .int .i64 (q.d + 1)] _ r2 Try.underlying46 rfl sizeI) rfl (load_blk wb (w.heap.size + 3) 48 [.int .i64 (atM (q.l ++ [m]) ki).id, .string (atM (q.l ++ [m]) ki).topic, .int .i64 kx, .int .i64 ix, .int .u64 bx, .string sx, .slice ax nx cx, .int .i64 (atM (q.l ++ [m]) ki).tat, .int .i64 (atM (q.l ++ [m]) ki).til, .string (atM (q.l ++ [m]) ki).reply, .int .i64 (atM (q.l ++ [m]) ki).corr, .int .i64 (atM (q.l ++ [m]) ki).prio, .int .i64 (atM (q.l ++ [m]) ki).hops] _ r3 Try.underlying48 rfl sizeM) rfl rfl) rfl ?_
        rw [HQ.out]
        have hsb : wb.heap.size = w8.heap.size := by rw [Ub.size, Ua.size]; show ((w8.setCell _ _).setCell _ _).heap.size = _; simp
        have hfar : ∀ x, w.heap.size + 4 ≤ x → wb.heap[x]? = w8.heap[x]? := fun x hx => (Ub.far x (by omega)).trans ((Ua.far x (by omega)).trans ((heap_set (p := ⟨w.heap.size, 2, none⟩) (by show x ≠ w.heap.size; omega)).trans (heap_set (p := ⟨w.heap.size, 0, none⟩) (by show x ≠ w.heap.size; omega))))
        refine ⟨some ⟨g5, 0, none⟩, q.l.length + 1 - 1, cap5, kx, ix, bx, sx, ax, nx, cx, rfl, rows_end HR8.out (by omega) hfar (by omega), msg_end HX8.out HS8.out (by omega) hfar (by omega), ?_⟩
        exact ((((B8.setCell (p := ⟨w.heap.size, 0, none⟩) (Nat.le_refl _) _).setCell (p := ⟨w.heap.size, 2, none⟩) (Nat.le_refl _) _).drew).trans (Ua.below _ (by omega))).trans (Ub.below _ (by omega))
      · have hq : putQ q room drop m = (⟨q.l, q.r + 1, q.d⟩, zeroM, false, 190) := by rw [putQ, if_neg h1, if_neg h2, if_neg h3]
        have HQ := Lib.hid hq
        clear hq
        have b0n : Blk (w4.setCell ⟨w.heap.size, 1, none⟩ (.int .i64 (q.r + 1))) w.heap.size 46 #[.slice a1 q.l.length c1, .int .i64 (q.r + 1), .int .i64 q.d] := b0.set 1 _
        have b2n := b2.far (p := ⟨w.heap.size, 1, none⟩) (by simp) (.int .i64 (q.r + 1))
        have b3n := b3.far (p := ⟨w.heap.size, 1, none⟩) (by simp) (.int .i64 (q.r + 1))
        go_wp2_with (first
          | (refine wpList_load_blk rfl 46 _ rfl (w.heap.size) 0 rfl [.slice a1 q.l.length c1, .int .i64 (q.r + 1), .int .i64 q.d] _ (Blk.range (pre := []) (post := []) b0n rfl) Try.underlying46 rfl sizeI ?_)
          | (refine wpList_store_blk (T := 46) rfl 46 _ _ rfl (w.heap.size + 2) 0 [] [.slice none 0 0, .int .i64 0, .int .i64 0] [] [.slice a1 q.l.length c1, .int .i64 (q.r + 1), .int .i64 q.d] rfl rfl b2n rfl rfl sizeI inb_one ?_; intro w6 r2 U5; have b3m := U5.blk b3n (by omega))
          | (refine wpList_store_blk (T := 48) rfl 48 _ _ rfl (w.heap.size + 3) 0 [] [.int .i64 0, .string ByteArray.empty, .int .i64 0, .int .i64 0, .int .u64 0, .string ByteArray.empty, .slice none 0 0, .int .i64 0, .int .i64 0, .string ByteArray.empty, .int .i64 0, .int .i64 0, .int .i64 0] [] [.int .i64 0, .string ByteArray.empty, .int .i64 0, .int .i64 0, .int .u64 0, .string ByteArray.empty, .slice none 0 0, .int .i64 0, .int .i64 0, .string ByteArray.empty, .int .i64 0, .int .i64 0, .int .i64 0] rfl rfl b3m rfl rfl sizeM (by simp [Value.oneCell']) ?_; intro w7 r3 U6; have r2' := U6.blk r2 (by omega)))
        refine bodyPost_ret (res_cctt rfl rfl (load_blk w7 (w.heap.size + 2) 46 [.slice a1 q.l.length c1, .int .i64 (q.r + 1), .int .i64 q.d] _ r2' Try.underlying46 rfl sizeI) rfl (load_blk w7 (w.heap.size + 3) 48 [.int .i64 0, .string ByteArray.empty, .int .i64 0, .int .i64 0, .int .u64 0, .string ByteArray.empty, .slice none 0 0, .int .i64 0, .int .i64 0, .string ByteArray.empty, .int .i64 0, .int .i64 0, .int .i64 0] _ r3 Try.underlying48 rfl sizeM) rfl rfl) rfl ?_
        rw [HQ.out]
        have hs6 : w7.heap.size = w4.heap.size := by rw [U6.size, U5.size]; simp
        refine ⟨a1, q.l.length, c1, 0, 0, 0, ByteArray.empty, none, 0, 0, rfl, rows_end HOWN4.out (by omega) (fun x hx => (U6.far x (by omega)).trans ((U5.far x (by omega)).trans (heap_set (p := ⟨w.heap.size, 1, none⟩) (by show x ≠ w.heap.size; omega)))) (by omega), zeroM_is _ _, ?_⟩
        exact ((B4.setCell (p := ⟨w.heap.size, 1, none⟩) (Nat.le_refl _) _).trans (U5.below _ (by omega))).trans (U6.below _ (by omega))
end Go.Proofs.Ytmdcfmdjbncaoaa
