/- Chapter 12's example. -/
import Derived.Test.YtmdcfmdjbncaoaaRun
import Derived.Test.YtmdcfmdjbncaoaaWC
namespace Go.Proofs.Ytmdcfmdjbncaoaa
open Go.RowKit

def zeroT : Tree := .node 0 0 0 ByteArray.empty []
theorem zeroT_is (w : World) (S : Nat → Prop) : IsD w S zeroT zeroRV.body := by
  have h : RowsOf (IsD w S) 5 w S [] none 0 0 := RowsOf.nil none 0 (Nat.zero_le _)
  exact IsD.shut (by decide) (by decide) (by decide) (Nat.zero_le _) h
theorem zeroT_size : zeroT.size ≤ 4096 := by rw [zeroT, Tree.size_node, sizes_nil]; omega
def badRV : RV := ⟨100, 1, 0, 0, false, 0, 0, 0, ByteArray.empty, none, 0, 0⟩

/-- A block that holds just some results. -/
theorem rows_blk {w : World} {g : Nat} {T : TypeId} {vs : List RV} {css : List (List Value)} (hb : Blk w g T css.flatten.toArray) (hc : css = vs.map RV.cells) (hl : vs.length ≤ maxLen) :
    RowsOf (fun (r : RV) cs => cs = r.cells) 10 w (fun b => b = g) vs (some ⟨g, 0, none⟩) vs.length vs.length := by
  refine ⟨rfl, Nat.le_refl _, hl, fun _ => ⟨g, 0, rfl, rfl, fun j x hj => ⟨x.cells, rfl, rfl, fun m v hv => ?_⟩⟩⟩
  have hf := flat_get (css := css) (sz := 10) (by rw [hc]; intro cs hcs; obtain ⟨r, _, rfl⟩ := List.mem_map.1 hcs; rfl) (j := j) (cs := x.cells) (by rw [hc]; simp [hj]) m v hv
  rw [hb.cell, Nat.zero_add]
  simpa using hf

theorem run_two : tryN (max 3 1) 0 [badRV, zeroRV, zeroRV] = 2 := by simp [tryN, RV.again, badRV, zeroRV, againB]; omega
theorem run_one : tryN (max 0 1) 0 [badRV, zeroRV] = 1 := by simp [tryN]; intro _; omega

set_option maxHeartbeats 4000000 in
set_option maxRecDepth 100000 in
theorem awake_any (w : World) : Calls Try.prog 11 #[] w fun e w' => e = .returned (.bool true) ∧ Below w.heap.size w w' := by
  go_enter Try.func11, Try.ntmps11
  go_wp2_with fail
  have hb1 : Blk (w.alloc (.cells badRV.cells.toArray 30)) w.heap.size 30 badRV.cells.toArray := Blk.new _ _ _
  have hb2 : Blk ((w.alloc (.cells badRV.cells.toArray 30)).alloc (.cells ([badRV, zeroRV, zeroRV].map RV.cells).flatten.toArray 30)) (w.heap.size + 1) 30 ([badRV, zeroRV, zeroRV].map RV.cells).flatten.toArray := Blk.new' _ _ _ (by simp)
  have hr2 := rows_blk (vs := [badRV, zeroRV, zeroRV]) hb2 rfl (by unfold maxLen; decide)
  have hsz2 : ((w.alloc (.cells badRV.cells.toArray 30)).alloc (.cells ([badRV, zeroRV, zeroRV].map RV.cells).flatten.toArray 30)).heap.size = w.heap.size + 2 := by simp
  have hl2 : lastIn ([badRV, zeroRV, zeroRV].take (tryN (max 3 1) 0 [badRV, zeroRV, zeroRV])) = zeroRV := by rw [run_two]; rfl
  refine (run_any 3 [badRV, zeroRV, zeroRV] _ 3 3 (fun b => b = w.heap.size + 1) _ zeroT (by omega) hr2 (fun b hb => by rw [hb, hsz2]; omega) (by rw [hl2]; exact zeroT_is _ _) zeroT_size).mono ?_
  rintro e w1 ⟨r, hr, k1, i1, b1, s1, a1, n1, c1, xs1, rfl, -, -, hbw⟩
  rw [hl2] at hr
  subst hr
  rw [run_two]
  have hB1 : Below w.heap.size w w1 := Below.trans (by go_grown) (hbw.mono (by rw [hsz2]; omega))
  have hs1 : w.heap.size + 2 ≤ w1.heap.size := by have := hbw.size; rw [hsz2] at this; exact this
  have hk1 : Blk w1 w.heap.size 30 badRV.cells.toArray := (hb1.alloc _).under hbw (by rw [hsz2]; omega)
  have p0 := hk1.cell 0
  have p1 := hk1.cell 1
  have p2 := hk1.cell 2
  have p3 := hk1.cell 3
  have p4 := hk1.cell 4
  have p5 := hk1.cell 5
  have p6 := hk1.cell 6
  have p7 := hk1.cell 7
  have p8 := hk1.cell 8
  have p9 := hk1.cell 9
  simp only [RV.cells, badRV, zeroRV, List.getElem?_toArray, List.getElem?_cons_succ, List.getElem?_cons_zero] at p0 p1 p2 p3 p4 p5 p6 p7 p8 p9 ⊢
  have HK1 := Lib.hid hk1
  have hlt1 : w.heap.size < w1.heap.size := by omega
  clear hb1 hb2 hr2 hsz2 hl2 hbw hk1
  go_wp2_with fail
  obtain ⟨rv, hrv⟩ : ∃ rv : RV, rv = ⟨0, 0, 0, 0, false, k1, i1, b1, s1, a1, n1, c1⟩ := ⟨_, rfl⟩
  have hc1 : Blk (w1.alloc (.cells rv.cells.toArray 30)) w1.heap.size 30 rv.cells.toArray := Blk.new _ _ _
  have hc2 : Blk ((w1.alloc (.cells rv.cells.toArray 30)).alloc (.cells ([badRV, zeroRV].map RV.cells).flatten.toArray 30)) (w1.heap.size + 1) 30 ([badRV, zeroRV].map RV.cells).flatten.toArray := Blk.new' _ _ _ (by simp)
  have hr3 := rows_blk (vs := [badRV, zeroRV]) hc2 rfl (by unfold maxLen; decide)
  have hsz3 : ((w1.alloc (.cells rv.cells.toArray 30)).alloc (.cells ([badRV, zeroRV].map RV.cells).flatten.toArray 30)).heap.size = w1.heap.size + 2 := by simp
  have hl3 : lastIn ([badRV, zeroRV].take (tryN (max 0 1) 0 [badRV, zeroRV])) = badRV := by rw [run_one]; rfl
  have hrun := run_any 0 [badRV, zeroRV] _ 2 2 (fun b => b = w1.heap.size + 1) _ zeroT (by omega) hr3 (fun b hb => by rw [hb, hsz3]; omega) (by rw [hl3]; exact zeroT_is _ _) zeroT_size
  rw [hrv] at hrun hc1 hsz3
  refine hrun.mono ?_
  rintro e w2 ⟨r, hr, k2, i2, b2, s2, a2, n2, c2, xs2, rfl, -, -, hbw⟩
  rw [hl3] at hr
  subst hr
  rw [run_one]
  have hB2 : Below w.heap.size w w2 := hB1.trans (Below.trans ((Below.refl _ _).alloc (by omega) _ |>.alloc (by simp; omega) _) (hbw.mono (by rw [hsz3]; omega)))
  have hs2 : w1.heap.size + 2 ≤ w2.heap.size := by have := hbw.size; rw [hsz3] at this; exact this
  have hk1 := ((HK1.out.alloc _).alloc _).under hbw (by rw [hsz3]; omega)
  have hk2 := (hc1.alloc _).under hbw (by rw [hsz3]; omega)
  have hw : waitF 3 5 100 = 40 := by decide
  clear p0 p1 p2 p3 p4 p5 p6 p7 p8 p9
  have p0 := hk1.cell 0
  have p1 := hk1.cell 1
  have p2 := hk1.cell 2
  have p3 := hk1.cell 3
  have p4 := hk1.cell 4
  have p5 := hk1.cell 5
  have p6 := hk1.cell 6
  have p7 := hk1.cell 7
  have p8 := hk1.cell 8
  have p9 := hk1.cell 9
  have q0 := hk2.cell 0
  simp only [RV.cells, badRV, List.getElem?_toArray, List.getElem?_cons_succ, List.getElem?_cons_zero] at p0 p1 p2 p3 p4 p5 p6 p7 p8 p9 q0 ⊢
  have hlt2 : w1.heap.size < w2.heap.size := by omega
  have hlt3 : w.heap.size < w2.heap.size := by omega
  have HW := Lib.hid hw
  clear hc1 hc2 hr3 hsz3 hl3 hbw hk1 hk2 hrun hw hrv
  go_wp2_with fail
  have hag := again_any 100 1 0 0 false (.int .i64 0) (.int .i64 0) (.int .u64 0) (.string ByteArray.empty) (.slice none 0 0) (w2.alloc (.cells #[.int .i64 100, .int .i64 1, .int .i64 0, .int .i64 0, .bool false, .int .i64 k2, .int .i64 i2, .int .u64 b2, .string s2, .slice a2 n2 c2] 30))
  have hgb : againB 100 1 0 = true := by decide
  rw [hgb] at hag
  refine hag.mono ?_
  rintro e w3 ⟨rfl, hb3⟩
  have hB3 : Below w.heap.size w w3 := hB2.trans (((Below.refl _ _).alloc (by omega) _).trans (hb3.mono (by simp; omega)))
  clear hag hgb hb3 p0 p1 p2 p3 p4 p5 p6 p7 p8 p9 q0
  go_wp2_with fail
  refine (wait_any 3 5 100 _ (by omega) (by omega) (by omega)).mono ?_
  rintro e w4 ⟨rfl, rfl⟩
  rw [HW.out]
  go_wp2_with fail
  go_ret
  exact ⟨rfl, hB3⟩
end Go.Proofs.Ytmdcfmdjbncaoaa
