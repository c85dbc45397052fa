/- awake of the buffer's laws. -/
import Derived.Test.YtmdcfmdjbncaoaaDoorBq
namespace Go.Proofs.YtmdcfmdjbncaoaaDoor
open Go.RowKit
attribute [local go_sem ↓] Go.wp_at_zero Go.wp_at_succ
attribute [local go_sem] Go.undef

abbrev RX (w : World) (l : List MX) (a : Option Addr) (n c : Nat) : Prop := RM w (· < w.heap.size) l a n c
theorem RX.on {w w' : World} {l : List MX} {a : Option Addr} {n c : Nat} (h : RX w l a n c) (hb : Below w.heap.size w w') : RX w' l a n c := RM.mono (RM.under h hb (fun _ h => h)) (fun _ hy => Nat.lt_of_lt_of_le hy hb.size)
abbrev MXs (w : World) (m : MX) (cs : List Value) : Prop := IsM w (· < w.heap.size) m cs
theorem MXs.on {w w' : World} {m : MX} {cs : List Value} (h : MXs w m cs) (hb : Below w.heap.size w w') : MXs w' m cs := (h.under hb (fun _ h => h)).mono (fun _ hy => Nat.lt_of_lt_of_le hy hb.size)
theorem Blk.on {w w' : World} {g : Nat} {T : TypeId} {cs : Array Value} (h : Blk w g T cs) (hb : Below w.heap.size w w') : Blk w' g T cs := h.under hb h.lt
theorem OwnM.rx {w : World} {B : Nat} {l : List MX} {a : Option Addr} {n c : Nat} (h : OwnM w B l (.slice a n c)) : RX w l a n c := RM.mono h.rows fun _ hy => hy.2

/-- The message of the chapter's first example. -/
def tm : MX := ⟨1, ⟨#[116]⟩, .node 0 0 0 ByteArray.empty [], 0, 0, ByteArray.empty, 0, 0, 0⟩
theorem tm_is (w : World) (S : Nat → Prop) : IsM w S tm [.int .i64 1, .string ⟨#[116]⟩, .int .i64 0, .int .i64 0, .int .u64 0, .string ByteArray.empty, .slice none 0 0, .int .i64 0, .int .i64 0, .string ByteArray.empty, .int .i64 0, .int .i64 0, .int .i64 0] :=
  ⟨0, 0, 0, ByteArray.empty, none, 0, 0, rfl, IsD.shut (by decide) (by decide) (by decide) (Nat.zero_le _) (RowsOf.nil none 0 (Nat.zero_le _)), by decide, Nat.zero_le _⟩
theorem tm_size : tm.body.size ≤ 4096 := by show (Tree.node _ _ _ _ []).size ≤ 4096; rw [Tree.size_node, sizes_nil]; omega
theorem tm_small : smallL [tm] := fun m hm => by rw [List.mem_singleton.1 hm]; exact tm_size
theorem aw1 : putBuf [] 0 2 5 tm = (([tm], 5), []) := by simp [putBuf]
theorem aw2 : putBuf [tm] 5 2 7 tm = (([], 0), [tm, tm]) := by simp [putBuf]
theorem aw3 : tickBuf [tm] 5 10 15 = (([], 0), [tm]) := by simp [tickBuf, tickGo, nextB]
theorem aw4 : nextB [tm] 5 10 = (15, true) := by simp [nextB]

set_option maxHeartbeats 8000000 in
set_option maxRecDepth 100000 in
theorem awakeb_any (w : World) : Calls Tryd.prog 12 #[] w fun e w' => e = .returned (.bool true) ∧ Below w.heap.size w w' := by
  go_enter Tryd.func12, Tryd.ntmps12
  go_upto_region 2 with (refine wpList_store_blk (T := 30) rfl 30 _ _ rfl (w.heap.size) 0 [] [.int .i64 0, .string ByteArray.empty, .int .i64 0, .int .i64 0, .int .u64 0, .string ByteArray.empty, .slice none 0 0, .int .i64 0, .int .i64 0, .string ByteArray.empty, .int .i64 0, .int .i64 0, .int .i64 0] [] [.int .i64 1, .string ⟨#[116]⟩, .int .i64 0, .int .i64 0, .int .u64 0, .string ByteArray.empty, .slice none 0 0, .int .i64 0, .int .i64 0, .string ByteArray.empty, .int .i64 0, .int .i64 0, .int .i64 0] rfl rfl (Blk.new w _ _) rfl rfl sizeM (by simp [Value.oneCell']) ?_; intro w1 bm U1)
  have BM := Lib.hid bm
  have T : Hid (Below w.heap.size w w1) := ((Below.refl w.heap.size w).alloc (Nat.le_refl _) _).trans (U1.below _ (Nat.le_refl _))
  clear bm U1
  have hp := putbp_any [] 0 2 5 tm _ none 0 0 (fun _ => False) w1 (RowsOf.nil none 0 (Nat.zero_le _)) (fun _ h => h.elim) (fun _ h => absurd h (by simp)) (by omega) (tm_is w1 (fun _ => False)) tm_size
  rw [aw1] at hp
  have HP := Lib.hid hp
  clear hp
  go_wp2_with (refine wpList_load_blk rfl 30 _ rfl (w.heap.size) 0 rfl [.int .i64 1, .string ⟨#[116]⟩, .int .i64 0, .int .i64 0, .int .u64 0, .string ByteArray.empty, .slice none 0 0, .int .i64 0, .int .i64 0, .string ByteArray.empty, .int .i64 0, .int .i64 0, .int .i64 0] _ (Blk.range (pre := []) (post := []) BM.out rfl) Tryd.underlying30 rfl sizeM ?_)
  refine HP.out.mono ?_
  rintro e w2 ⟨a2, c2, ao2, co2, rfl, ho2, -, hb2⟩
  have R2 : Hid (RX w2 [tm] a2 1 c2) := OwnM.rx ho2
  clear ho2 HP
  replace BM := Lib.hid (Blk.on BM.out hb2)
  replace T := Lib.hid (below_on hb2 T.out)
  clear hb2
  dsimp only [List.length_nil, List.length_cons]
  go_upto_region 3 with (refine wpList_store_blk (T := 24) rfl 24 _ _ rfl (w2.heap.size) 0 [] [.slice none 0 0, .int .i64 0] [] [.slice a2 1 c2, .int .i64 5] rfl rfl (Blk.new w2 _ _) rfl rfl sizeB buf_one' ?_; intro w3 b2 U2)
  have B2 := Lib.hid b2
  have hb3 : Below w2.heap.size w2 w3 := ((Below.refl w2.heap.size w2).alloc (Nat.le_refl _) _).trans (U2.below _ (Nat.le_refl _))
  clear b2 U2
  replace BM := Lib.hid (Blk.on BM.out hb3)
  replace R2 := Lib.hid (RX.on R2.out hb3)
  replace T := Lib.hid (below_on hb3 T.out)
  clear hb3
  have hp := putbp_any [tm] 5 2 7 tm _ a2 1 c2 _ w3 R2.out (fun _ h => h) tm_small (by omega) (tm_is w3 _) tm_size
  rw [aw2] at hp
  have HP := Lib.hid hp
  clear hp
  go_wp2_with (first | (refine wpList_load_blk rfl 24 _ rfl (w2.heap.size) 0 rfl [.slice a2 1 c2, .int .i64 5] _ (Blk.range (pre := []) (post := []) B2.out rfl) Tryd.underlying24 rfl sizeB ?_) | (refine wpList_load_blk rfl 30 _ rfl (w.heap.size) 0 rfl [.int .i64 1, .string ⟨#[116]⟩, .int .i64 0, .int .i64 0, .int .u64 0, .string ByteArray.empty, .slice none 0 0, .int .i64 0, .int .i64 0, .string ByteArray.empty, .int .i64 0, .int .i64 0, .int .i64 0] _ (Blk.range (pre := []) (post := []) BM.out rfl) Tryd.underlying30 rfl sizeM ?_))
  refine HP.out.mono ?_
  rintro e w4 ⟨a4, c4, ao4, co4, rfl, -, -, hb4⟩
  clear HP
  replace BM := Lib.hid (Blk.on BM.out hb4)
  replace R2 := Lib.hid (RX.on R2.out hb4)
  replace B2 := Lib.hid (Blk.on B2.out hb4)
  replace T := Lib.hid (below_on hb4 T.out)
  clear hb4
  dsimp only [List.length_nil, List.length_cons]
  go_upto_region 4 with (refine wpList_store_blk (T := 24) rfl 24 _ _ rfl (w4.heap.size) 0 [] [.slice none 0 0, .int .i64 0] [] [.slice a4 0 c4, .int .i64 0] rfl rfl (Blk.new w4 _ _) rfl rfl sizeB buf_one' ?_; intro w5 b4 U4)
  have B4 := Lib.hid b4
  have hb5 : Below w4.heap.size w4 w5 := ((Below.refl w4.heap.size w4).alloc (Nat.le_refl _) _).trans (U4.below _ (Nat.le_refl _))
  clear b4 U4 BM
  replace R2 := Lib.hid (RX.on R2.out hb5)
  replace B2 := Lib.hid (Blk.on B2.out hb5)
  replace T := Lib.hid (below_on hb5 T.out)
  clear hb5
  have hp := tickp_any [tm] 5 10 15 a2 1 c2 _ w5 R2.out (fun _ h => h) tm_small (by omega) (by decide) (by decide) (by decide)
  rw [aw3] at hp
  have HP := Lib.hid hp
  clear hp
  go_wp2_with (refine wpList_load_blk rfl 24 _ rfl (w2.heap.size) 0 rfl [.slice a2 1 c2, .int .i64 5] _ (Blk.range (pre := []) (post := []) B2.out rfl) Tryd.underlying24 rfl sizeB ?_)
  refine HP.out.mono ?_
  rintro e w6 ⟨a6, c6, ao6, co6, rfl, -, -, hb6⟩
  clear HP
  replace R2 := Lib.hid (RX.on R2.out hb6)
  replace B2 := Lib.hid (Blk.on B2.out hb6)
  replace B4 := Lib.hid (Blk.on B4.out hb6)
  replace T := Lib.hid (below_on hb6 T.out)
  clear hb6
  dsimp only [List.length_nil, List.length_cons]
  go_upto_region 5 with (refine wpList_store_blk (T := 24) rfl 24 _ _ rfl (w6.heap.size) 0 [] [.slice none 0 0, .int .i64 0] [] [.slice a6 0 c6, .int .i64 0] rfl rfl (Blk.new w6 _ _) rfl rfl sizeB buf_one' ?_; intro w7 b6 U6)
  have hb7 : Below w6.heap.size w6 w7 := ((Below.refl w6.heap.size w6).alloc (Nat.le_refl _) _).trans (U6.below _ (Nat.le_refl _))
  clear b6 U6
  replace R2 := Lib.hid (RX.on R2.out hb7)
  replace B2 := Lib.hid (Blk.on B2.out hb7)
  replace B4 := Lib.hid (Blk.on B4.out hb7)
  replace T := Lib.hid (below_on hb7 T.out)
  clear hb7
  have hp := nextp_any [tm] 5 10 a2 c2 w7 (by decide) (by decide) (by decide)
  rw [aw4] at hp
  have HP := Lib.hid hp
  clear hp
  go_wp2_with (refine wpList_load_blk rfl 24 _ rfl (w2.heap.size) 0 rfl [.slice a2 1 c2, .int .i64 5] _ (Blk.range (pre := []) (post := []) B2.out rfl) Tryd.underlying24 rfl sizeB ?_)
  refine HP.out.mono ?_
  rintro e w8 ⟨rfl, hb8⟩
  clear HP
  replace B2 := Lib.hid (Blk.on B2.out hb8)
  replace B4 := Lib.hid (Blk.on B4.out hb8)
  replace T := Lib.hid (below_on hb8 T.out)
  clear hb8
  have d0 : w8.cell? ⟨w2.heap.size, 0, none⟩ = some (.slice a2 1 c2) := Blk.cell B2.out 0
  have d1 : w8.cell? ⟨w2.heap.size, 1, none⟩ = some (.int .i64 5) := Blk.cell B2.out 1
  have d2 : w8.cell? ⟨w4.heap.size, 0, none⟩ = some (.slice a4 0 c4) := Blk.cell B4.out 0
  go_wp2_with fail
  go_ret
  exact ⟨rfl, T.out⟩
end Go.Proofs.YtmdcfmdjbncaoaaDoor
