/- The reference's Same of what waits. -/
import Derived.Test.YtmdcfmdjbncaoaaDoorCc
namespace Go.Proofs.YtmdcfmdjbncaoaaDoor
open Go.RowKit
attribute [local go_sem ↓] Go.wp_at_zero Go.wp_at_succ
attribute [local go_sem] Go.undef

theorem range15 {w : World} {g o : Nat} {v0 v1 v2 v3 v4 v5 v6 v7 v8 v9 v10 v11 v12 v13 v14 : Value} (h : w.rangeAt g o [v0, v1, v2, v3, v4, v5, v6, v7, v8, v9, v10, v11, v12, v13, v14]) : w.cell? ⟨g, o, none⟩ = some v0 ∧ w.cell? ⟨g, o + 1, none⟩ = some v1 ∧ w.cell? ⟨g, o + 2, none⟩ = some v2 ∧ w.cell? ⟨g, o + 3, none⟩ = some v3 ∧ w.cell? ⟨g, o + 4, none⟩ = some v4 ∧ w.cell? ⟨g, o + 5, none⟩ = some v5 ∧ w.cell? ⟨g, o + 6, none⟩ = some v6 ∧ w.cell? ⟨g, o + 7, none⟩ = some v7 ∧ w.cell? ⟨g, o + 8, none⟩ = some v8 ∧ w.cell? ⟨g, o + 9, none⟩ = some v9 ∧ w.cell? ⟨g, o + 10, none⟩ = some v10 ∧ w.cell? ⟨g, o + 11, none⟩ = some v11 ∧ w.cell? ⟨g, o + 12, none⟩ = some v12 ∧ w.cell? ⟨g, o + 13, none⟩ = some v13 ∧ w.cell? ⟨g, o + 14, none⟩ = some v14 :=
  ⟨h 0 _ rfl, h 1 _ rfl, h 2 _ rfl, h 3 _ rfl, h 4 _ rfl, h 5 _ rfl, h 6 _ rfl, h 7 _ rfl, h 8 _ rfl, h 9 _ rfl, h 10 _ rfl, h 11 _ rfl, h 12 _ rfl, h 13 _ rfl, h 14 _ rfl⟩

set_option maxHeartbeats 8000000 in
set_option maxRecDepth 100000 in
theorem sames_yes (l : List SX) (a a' : Option Addr) (n n' c c' : Nat) (S S' : Nat → Prop) (w : World) (hrow : RS w S l a n c) (hrow' : RS w S' l a' n' c') (hS : ∀ b, S b → b < w.heap.size) (hS' : ∀ b, S' b → b < w.heap.size) :
    Calls Tryd.prog 30 #[.slice a n c, .slice a' n' c'] w fun e w' => e = .returned (.bool true) ∧ Below w.heap.size w w' := by
  have hcl : c ≤ maxLen := hrow.2.2.1
  have hlc : n ≤ c := hrow.2.1
  obtain rfl : n = l.length := hrow.1
  obtain rfl : n' = l.length := hrow'.1
  unfold maxLen at hcl
  have HROW := Lib.hid hrow
  have HROW' := Lib.hid hrow'
  have HS := Lib.hid hS
  have HS' := Lib.hid hS'
  clear hrow hrow' hS hS'
  go_enter Tryd.func30, Tryd.ntmps30
  go_wp2_with fail
  go_loopw [5] (fun iv wr => ∃ j : Nat, iv = .int .i64 j ∧ j ≤ l.length ∧ Below w.heap.size w wr) (fun i _ => l.length - (intOf i).toNat)
  case atStart => exact ⟨0, rfl, Nat.zero_le _, Below.refl _ _⟩
  case round =>
    obtain ⟨j, rfl, hj, hbel⟩ := hrel
    by_cases hlt : j < l.length
    · obtain ⟨g, o, x, xs, rfl, hSg, hx, ⟨ms, hm, rfl⟩, hxl, hr⟩ := HROW.out.get hlt
      obtain ⟨g', o', x', xs', rfl, hSg', hx', ⟨ms', hm', rfl⟩, hxl', hr'⟩ := HROW'.out.get hlt
      obtain rfl : x' = x := by rw [hx] at hx'; injection hx' with e; exact e.symm
      have hc := samemsg_yes x'.m wr.drew S S' _ _ (hm.under hbel HS.out).drew (hm'.under hbel HS'.out).drew (fun b hb => Nat.lt_of_lt_of_le (HS.out b hb) hbel.size) (fun b hb => Nat.lt_of_lt_of_le (HS'.out b hb) hbel.size)
      obtain ⟨kx, ix, bx, sx, ax, nx, cx, rfl, -, -, -⟩ := hm
      obtain ⟨ky, iy, bY, sy, ay, ny, cy, rfl, -, -, -⟩ := hm'
      have HC := Lib.hid hc
      obtain ⟨d0, d1, d2, d3, d4, d5, d6, d7, d8, d9, d10, d11, d12, d13, d14⟩ := range15 (rangeAt_keep hr fun i => hbel.cell (p := ⟨g, i, none⟩) (HS.out g hSg))
      obtain ⟨e0, e1, e2, e3, e4, e5, e6, e7, e8, e9, e10, e11, e12, e13, e14⟩ := range15 (rangeAt_keep hr' fun i => hbel.cell (p := ⟨g', i, none⟩) (HS'.out g' hSg'))
      have hj0 : (0 : Int) ≤ (j : Int) := by omega
      have hj1 : (j : Int) < (l.length : Int) := by omega
      have hg : g < wr.heap.size := Nat.lt_of_lt_of_le (HS.out g hSg) hbel.size
      have hg' : g' < wr.heap.size := Nat.lt_of_lt_of_le (HS'.out g' hSg') hbel.size
      have HBL := Lib.hid hbel
      clear hx hx' hr hr' hSg hSg' hxl hxl' hbel hc
      go_upto_region 6 with fail
      go_region_held3 (fun w' => w'.cell? ⟨g, o + j * 15, none⟩ = some (.int .i64 x'.m.id) ∧ w'.cell? ⟨g, o + j * 15 + 1, none⟩ = some (.string x'.m.topic) ∧ w'.cell? ⟨g, o + j * 15 + 2, none⟩ = some (.int .i64 kx) ∧ w'.cell? ⟨g, o + j * 15 + 3, none⟩ = some (.int .i64 ix) ∧ w'.cell? ⟨g, o + j * 15 + 4, none⟩ = some (.int .u64 bx) ∧ w'.cell? ⟨g, o + j * 15 + 5, none⟩ = some (.string sx) ∧ w'.cell? ⟨g, o + j * 15 + 6, none⟩ = some (.slice ax nx cx) ∧ w'.cell? ⟨g, o + j * 15 + 7, none⟩ = some (.int .i64 x'.m.tat) ∧ w'.cell? ⟨g, o + j * 15 + 8, none⟩ = some (.int .i64 x'.m.til) ∧ w'.cell? ⟨g, o + j * 15 + 9, none⟩ = some (.string x'.m.reply) ∧ w'.cell? ⟨g, o + j * 15 + 10, none⟩ = some (.int .i64 x'.m.corr) ∧ w'.cell? ⟨g, o + j * 15 + 11, none⟩ = some (.int .i64 x'.m.prio) ∧ w'.cell? ⟨g, o + j * 15 + 12, none⟩ = some (.int .i64 x'.m.hops) ∧ w'.cell? ⟨g, o + j * 15 + 13, none⟩ = some (.int .i64 x'.tries) ∧ w'.cell? ⟨g, o + j * 15 + 14, none⟩ = some (.int .i64 x'.due) ∧ w'.cell? ⟨g', o' + j * 15, none⟩ = some (.int .i64 x'.m.id) ∧ w'.cell? ⟨g', o' + j * 15 + 1, none⟩ = some (.string x'.m.topic) ∧ w'.cell? ⟨g', o' + j * 15 + 2, none⟩ = some (.int .i64 ky) ∧ w'.cell? ⟨g', o' + j * 15 + 3, none⟩ = some (.int .i64 iy) ∧ w'.cell? ⟨g', o' + j * 15 + 4, none⟩ = some (.int .u64 bY) ∧ w'.cell? ⟨g', o' + j * 15 + 5, none⟩ = some (.string sy) ∧ w'.cell? ⟨g', o' + j * 15 + 6, none⟩ = some (.slice ay ny cy) ∧ w'.cell? ⟨g', o' + j * 15 + 7, none⟩ = some (.int .i64 x'.m.tat) ∧ w'.cell? ⟨g', o' + j * 15 + 8, none⟩ = some (.int .i64 x'.m.til) ∧ w'.cell? ⟨g', o' + j * 15 + 9, none⟩ = some (.string x'.m.reply) ∧ w'.cell? ⟨g', o' + j * 15 + 10, none⟩ = some (.int .i64 x'.m.corr) ∧ w'.cell? ⟨g', o' + j * 15 + 11, none⟩ = some (.int .i64 x'.m.prio) ∧ w'.cell? ⟨g', o' + j * 15 + 12, none⟩ = some (.int .i64 x'.m.hops) ∧ w'.cell? ⟨g', o' + j * 15 + 13, none⟩ = some (.int .i64 x'.tries) ∧ w'.cell? ⟨g', o' + j * 15 + 14, none⟩ = some (.int .i64 x'.due))
        (first
          | (exact ⟨d0, d1, d2, d3, d4, d5, d6, d7, d8, d9, d10, d11, d12, d13, d14, e0, e1, e2, e3, e4, e5, e6, e7, e8, e9, e10, e11, e12, e13, e14⟩)
          | (exact ⟨cell_over hb1 hg d0, cell_over hb1 hg d1, cell_over hb1 hg d2, cell_over hb1 hg d3, cell_over hb1 hg d4, cell_over hb1 hg d5, cell_over hb1 hg d6, cell_over hb1 hg d7, cell_over hb1 hg d8, cell_over hb1 hg d9, cell_over hb1 hg d10, cell_over hb1 hg d11, cell_over hb1 hg d12, cell_over hb1 hg d13, cell_over hb1 hg d14, cell_over hb1 hg' e0, cell_over hb1 hg' e1, cell_over hb1 hg' e2, cell_over hb1 hg' e3, cell_over hb1 hg' e4, cell_over hb1 hg' e5, cell_over hb1 hg' e6, cell_over hb1 hg' e7, cell_over hb1 hg' e8, cell_over hb1 hg' e9, cell_over hb1 hg' e10, cell_over hb1 hg' e11, cell_over hb1 hg' e12, cell_over hb1 hg' e13, cell_over hb1 hg' e14⟩))
        (first | (go_at_call 50; refine HC.out.mono ?_; rintro e w1 ⟨rfl, hb1⟩))
      have hB1 : Below w.heap.size w w1 := below_on hb1 HBL.out.drew
      have HB1 := Lib.hid hB1
      clear d0 d1 d2 d3 d4 d5 d6 d7 d8 d9 d10 d11 d12 d13 d14 e0 e1 e2 e3 e4 e5 e6 e7 e8 e9 e10 e11 e12 e13 e14 hB1 hb1
      go_wp2_with fail
      go_roundw
      case rel => first | exact ⟨j + 1, by go_num, by omega, HB1.out⟩ | ((repeat apply Exists.intro); exact ⟨⟨j + 1, by go_num, by omega, HB1.out⟩, by first | rfl | exact ⟨rfl, rfl⟩ | exact ⟨rfl, rfl, rfl⟩ | exact ⟨rfl, rfl, rfl, rfl⟩ | exact ⟨rfl, rfl, rfl, rfl, rfl⟩⟩)
      case measure => simp [intOf]; omega
    · obtain rfl : j = l.length := by omega
      go_wp2_with fail
      go_ret
      exact ⟨rfl, hbel⟩
end Go.Proofs.YtmdcfmdjbncaoaaDoor
