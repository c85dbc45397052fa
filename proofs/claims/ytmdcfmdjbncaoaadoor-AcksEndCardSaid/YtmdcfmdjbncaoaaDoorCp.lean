/- awake of the acks' laws. -/
import Derived.Test.YtmdcfmdjbncaoaaDoorCm
import Derived.Test.YtmdcfmdjbncaoaaDoorCo
import Derived.Test.YtmdcfmdjbncaoaaDoorCj
namespace Go.Proofs.YtmdcfmdjbncaoaaDoor
open Go.RowKit
attribute [local go_sem ↓] Go.wp_at_zero Go.wp_at_succ
attribute [local go_sem] Go.undef

abbrev RSX (w : World) (l : List SX) (a : Option Addr) (n c : Nat) : Prop := RS w (· < w.heap.size) l a n c
theorem RSX.on {w w' : World} {l : List SX} {a : Option Addr} {n c : Nat} (h : RSX w l a n c) (hb : Below w.heap.size w w') : RSX w' l a n c := RS.mono (RS.under h hb (fun _ h => h)) (fun _ hy => Nat.lt_of_lt_of_le hy hb.size)
def kp : PX := ⟨2, 2, 5⟩
def km : MX := ⟨7, ⟨#[116]⟩, .node 0 0 0 ByteArray.empty [], 0, 0, ByteArray.empty, 0, 0, 0⟩
theorem km_is (w : World) (S : Nat → Prop) : IsM w S km [.int .i64 7, .string ⟨#[116]⟩, .int .i64 0, .int .i64 0, .int .u64 0, .string ByteArray.empty, .slice none 0 0, .int .i64 0, .int .i64 0, .string ByteArray.empty, .int .i64 0, .int .i64 0, .int .i64 0] :=
  ⟨0, 0, 0, ByteArray.empty, none, 0, 0, rfl, IsD.shut (by decide) (by decide) (by decide) (Nat.zero_le _) (RowsOf.nil none 0 (Nat.zero_le _)), by decide, Nat.zero_le _⟩
theorem km_size : km.body.size ≤ 4096 := by show (Tree.node _ _ _ _ []).size ≤ 4096; rw [Tree.size_node, sizes_nil]; omega
def kx1 : SX := ⟨km, 1, 2⟩
def kx2 : SX := ⟨km, 2, 6⟩
theorem kx_small (x : SX) (h : x.m = km) : smallS [x] := fun y hy => by rw [List.mem_singleton.1 hy, h]; exact km_size
theorem kaw1 : sendS [] km kp 0 = ([kx1], 0) := by
  have h : waitF 0 2 5 = 2 := by decide
  simp [sendS, placeS, kp, kx1, h]
theorem kaw2 : dueS [kx1] kp 2 = ⟨[kx2], [km], [], []⟩ := by
  have h : waitF 1 2 5 = 4 := by decide
  simp [dueS, addD, clsS, againS, kx1, kx2, kp, km, h]
theorem kaw3 : dueS [kx2] kp 6 = ⟨[], [], [km], []⟩ := by simp [dueS, addD, clsS, kx2, kp, km]
theorem kaw4 : nextS [kx1] = (2, true) := by simp [nextS, stepN, seeN, kx1, km]
theorem kp_fit : FitP kp := by unfold FitP kp; decide

set_option maxHeartbeats 8000000 in
set_option maxRecDepth 100000 in
theorem awakek_any (w : World) : Calls Tryd.prog 26 #[] w fun e w' => e = .returned (.bool true) ∧ Below w.heap.size w w' := by
  go_enter Tryd.func26, Tryd.ntmps26
  go_upto_region 2 with (refine wpList_store_blk (T := 52) rfl 52 _ _ rfl (w.heap.size) 0 [] [.int .i64 0, .int .i64 0, .int .i64 0] [] [.int .i64 2, .int .i64 2, .int .i64 5] rfl rfl (Blk.new w _ _) rfl rfl sizeP (by simp [Value.oneCell']) ?_; intro w1 bp U1)
  have T : Hid (Below w.heap.size w w1) := ((Below.refl w.heap.size w).alloc (Nat.le_refl _) _).trans (U1.below _ (Nat.le_refl _))
  have BP := Lib.hid bp
  clear U1 bp
  have hp := sendp_any [] km kp 0 _ none 0 0 (fun _ => False) w1 (RowsOf.nil none 0 (Nat.zero_le _)) (fun _ h => h.elim) (fun _ h => absurd h (by simp)) (by omega) (km_is w1 _) km_size kp_fit (by omega) (by omega)
  rw [kaw1] at hp
  have HP := Lib.hid hp
  clear hp
  go_wp2_with (refine wpList_load_blk rfl 52 _ rfl (w.heap.size) 0 rfl [.int .i64 2, .int .i64 2, .int .i64 5] _ (Blk.range (pre := []) (post := []) BP.out rfl) Tryd.underlying52 rfl sizeP ?_)
  refine HP.out.mono ?_
  rintro e w2 ⟨a1, c1, S1, css1, rfl, ho, hb2⟩
  have R1 : Hid (RSX w2 [kx1] a1 1 c1) := RS.mono (ho.rows keepsS) (fun b hb => hb.2)
  replace BP := Lib.hid (Blk.on BP.out hb2)
  replace T := Lib.hid (below_on hb2 T.out)
  clear hb2
  clear HP ho
  have hp := duep_any [kx1] kp 2 _ a1 1 c1 w2 R1.out (fun _ h => h) (kx_small _ rfl) (fun y hy => by rw [List.mem_singleton.1 hy]; exact ⟨by decide, by decide⟩) (by omega) kp_fit (by omega) (by omega)
  rw [kaw2] at hp
  have HP := Lib.hid hp
  clear hp
  go_wp2_with (refine wpList_load_blk rfl 52 _ rfl (w.heap.size) 0 rfl [.int .i64 2, .int .i64 2, .int .i64 5] _ (Blk.range (pre := []) (post := []) BP.out rfl) Tryd.underlying52 rfl sizeP ?_)
  refine HP.out.mono ?_
  rintro e w3 ⟨a6, c6, a7, c7, a8, c8, a9, c9, rfl, r6, -, -, -, hb3⟩
  have R2 : Hid (RSX w3 [kx2] a6 1 c6) := RS.mono r6 (fun b hb => hb.2)
  replace BP := Lib.hid (Blk.on BP.out hb3)
  replace R1 := Lib.hid (RSX.on R1.out hb3)
  replace T := Lib.hid (below_on hb3 T.out)
  clear hb3
  clear HP r6
  have hp := duep_any [kx2] kp 6 _ a6 1 c6 w3 R2.out (fun _ h => h) (kx_small _ rfl) (fun y hy => by rw [List.mem_singleton.1 hy]; exact ⟨by decide, by decide⟩) (by omega) kp_fit (by omega) (by omega)
  rw [kaw3] at hp
  have HP := Lib.hid hp
  clear hp R2
  go_wp2_with (refine wpList_load_blk rfl 52 _ rfl (w.heap.size) 0 rfl [.int .i64 2, .int .i64 2, .int .i64 5] _ (Blk.range (pre := []) (post := []) BP.out rfl) Tryd.underlying52 rfl sizeP ?_)
  refine HP.out.mono ?_
  rintro e w4 ⟨b6, d6, b7, d7, b8, d8, b9, d9, rfl, -, -, -, -, hb4⟩
  replace R1 := Lib.hid (RSX.on R1.out hb4)
  replace T := Lib.hid (below_on hb4 T.out)
  clear hb4
  clear HP BP
  have hp := nexts_any [kx1] a1 1 c1 _ w4 R1.out (fun _ h => h) (fun y hy => by rw [List.mem_singleton.1 hy]; exact ⟨by decide, by decide⟩)
  rw [kaw4] at hp
  have HP := Lib.hid hp
  clear hp
  go_wp2_with fail
  refine HP.out.mono ?_
  rintro e w5 ⟨rfl, hb5⟩
  replace R1 := Lib.hid (RSX.on R1.out hb5)
  replace T := Lib.hid (below_on hb5 T.out)
  clear hb5
  clear HP
  obtain ⟨g, o, y, cs, rfl, -, hy, ⟨ms, hm, rfl⟩, -, hr⟩ := R1.out.get (j := 0) (by omega)
  obtain rfl : kx1 = y := by simpa using hy
  obtain ⟨kk, ki, kb, ks, ka, kn, kc, rfl, -, -, -⟩ := hm
  have c14 : w5.cell? ⟨g, o + 14, none⟩ = some (.int .i64 2) := hr 14 _ rfl
  clear hr hy R1
  go_wp2_with fail
  go_ret
  exact ⟨rfl, T.out⟩
end Go.Proofs.YtmdcfmdjbncaoaaDoor
