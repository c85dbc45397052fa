/- A copy of a Datum: conduit/buffer.own. -/
import Derived.Test.YtmdcfmdjbncaoaaDoorV
namespace Go.Proofs.YtmdcfmdjbncaoaaDoor
open Go.RowKit
attribute [local go_sem ↓] Go.wp_at_zero Go.wp_at_succ

set_option maxHeartbeats 4000000 in
set_option maxRecDepth 100000 in
theorem own_buffer : ∀ (m : Nat) (t : Tree), t.high ≤ m → t.size ≤ 4096 → ∀ (w : World) (S : Nat → Prop) (cs : List Value), IsD w S t cs → (∀ b, S b → b < w.heap.size) →
    Calls Tryd.prog 48 #[.agg cs.toArray] w (Copied w t) := by
  intro m
  induction m with
  | zero => intro t ht; cases t; rw [Tree.high_node] at ht; omega
  | succ m ih =>
    intro t ht hsz w S cs hd hS
    obtain ⟨k, i, b, s, l⟩ := t
    have HH : ∀ x ∈ l, x.high ≤ m := fun x hx => by have := high_mem hx; rw [Tree.high_node] at ht; omega
    have HZ : ∀ x ∈ l, x.size ≤ 4096 := fun x hx => by have := size_mem hx; rw [Tree.size_node] at hsz; omega
    have hln : l.length ≤ 4096 := by have := sizes_ge l; rw [Tree.size_node] at hsz; omega
    obtain ⟨a, c, rfl, wk, wi, wb, ws, hrow⟩ := hd.open_
    obtain ⟨i0, hi0, hz0, hz1, hz2⟩ := info_parts infoD
    have HROW := Lib.hid hrow
    have HHH := Lib.hid HH
    have HZZ := Lib.hid HZ
    have HS := Lib.hid hS
    have IH := Lib.hid ih
    have hcl : c ≤ maxLen := hrow.2.2.1
    have hlc : l.length ≤ c := hrow.2.1
    unfold maxLen at hcl
    clear ht hsz hd HH HZ hrow hS ih
    go_enter Tryd.func48, Tryd.ntmps48
    go_wp2_with fail
    go_loopw [11] (OW w 0 2 (fun v => #[.int .i64 k, .int .i64 i, .int .u64 b, .string s, v]) l) (fun i _ => l.length - (intOf i).toNat)
    case atStart =>
      refine ⟨0, .slice none 0 0, fun _ => False, [], rfl, Nat.zero_le _, ?_, ?_, rfl, ⟨by simp, .inl ⟨rfl, rfl⟩⟩, fun _ h => h.elim, fun _ h => absurd h (by simp), fun _ _ h => absurd h (by omega), by go_grown⟩
      · exact (Blk.new _ _ _).alloc _
      · exact Blk.new' _ _ _ (by simp)
    case round =>
      obtain ⟨j, v, T, css, rfl, hj, hB0, hB1, hcl1, hown, hT, h5, hE, hbel⟩ := hrel
      have c4 := hB0.cell 4
      have f4 := hB0.free 4
      simp only [Nat.add_zero, List.getElem?_toArray, List.getElem?_cons_succ, List.getElem?_cons_zero] at c4 f4
      have HB0 := Lib.hid hB0
      have HB1 := Lib.hid hB1
      have HCL := Lib.hid hcl1
      have HOWN := Lib.hid hown
      have HT := Lib.hid hT
      have HE := Lib.hid hE
      have H5 := Lib.hid h5
      have hsz := hbel.size
      clear hB0 hB1 hcl1 hown hT hE h5
      by_cases hlt : j < l.length
      · obtain ⟨g, o, x, xs, rfl, hSg, hx, hD, hxl, hr⟩ := HROW.out.get hlt
        have hr2 : wr.rangeAt g (o + j * 5) xs := rangeAt_keep hr fun q => hbel.cell (p := ⟨g, q, none⟩) (HS.out g hSg)
        have HXD := Lib.hid hD
        obtain ⟨kx, ix, bx, sx, lx⟩ := x
        obtain ⟨ax, cx, rfl, -, -, -, -, -⟩ := hD.open_
        have d0 := hr2 0 _ rfl
        have d1 := hr2 1 _ rfl
        have d2 := hr2 2 _ rfl
        have d3 := hr2 3 _ rfl
        have d4 := hr2 4 _ rfl
        simp only [Nat.add_zero] at d0
        have HX := Lib.hid hx
        clear hr hr2 hD hx hxl
        go_wp2_with fail
        generalize hW : wr.alloc (.cells #[.int .i64 kx, .int .i64 ix, .int .u64 bx, .string sx, .slice ax lx.length cx] 28) = W0
        have hsz0 : W0.heap.size = wr.heap.size + 1 := by rw [← hW]; simp
        have hWB : Below wr.heap.size wr W0 := by rw [← hW]; exact (Below.refl _ _).alloc (Nat.le_refl _) _
        have e0 : Blk W0 wr.heap.size 28 #[.int .i64 kx, .int .i64 ix, .int .u64 bx, .string sx, .slice ax lx.length cx] := by rw [← hW]; exact Blk.new _ _ _
        have HSZ0 := Lib.hid hsz0
        have hle0 : wr.heap.size < W0.heap.size := by omega
        have hle1 : w.heap.size < wr.heap.size := by have := HB0.out.lt; omega
        have HXD0 : Hid (IsD W0 S (.node kx ix bx sx lx) _) := HXD.out.keep (fun _ h => h) (fun b hb q => ((hbel.trans (hWB.mono hsz)).cell (p := ⟨b, q, none⟩) (HS.out b hb)))
        have e1 : W0.cell? ⟨wr.heap.size, 0, none⟩ = some (.int .i64 kx) := e0.cell 0
        have e2 : W0.cell? ⟨wr.heap.size, 1, none⟩ = some (.int .i64 ix) := e0.cell 1
        have e3 : W0.cell? ⟨wr.heap.size, 2, none⟩ = some (.int .u64 bx) := e0.cell 2
        have e4 : W0.cell? ⟨wr.heap.size, 3, none⟩ = some (.string sx) := e0.cell 3
        have e5 : W0.cell? ⟨wr.heap.size, 4, none⟩ = some (.slice ax lx.length cx) := e0.cell 4
        have c5 : W0.cell? ⟨w.heap.size, 4, none⟩ = some v := cell_over hWB hle1 c4
        have hbase : w.heap.size + 2 ≤ W0.heap.size := by have := HB1.out.lt; omega
        have HE0 := Lib.hid e0
        have hle2 : w.heap.size < W0.drew.heap.size := Nat.lt_trans hle1 hle0
        have hle4 : w.heap.size + 2 ≤ W0.drew.heap.size := hbase
        have HOWN0 : Hid (W0.drew.ownsRow (w.heap.size + 2) 28 5 v j css.flatten) := own_keep HOWN.out (fun q hq => hWB.block q (own_row HOWN.out q hq).2)
        have hne1 : v.ownBlock ≠ some w.heap.size := fun h => by have := own_row HOWN.out _ h; omega
        have hne2 : v.ownBlock ≠ some wr.heap.size := fun h => by have := own_row HOWN.out _ h; omega
        have f5 : W0.frozen? ⟨w.heap.size, 4, none⟩ = false := free_over hWB hle1 f4
        have hle3 : wr.heap.size < W0.drew.heap.size := hle0
        clear hW hsz0 e0 c4 d0 d1 d2 d3 d4
        have HXD1 : Hid (IsD W0.drew S (.node kx ix bx sx lx) _) := HXD0.out.drew
        have HS1 : Hid (∀ q, S q → q < W0.drew.heap.size) := fun q hq => Nat.lt_of_lt_of_le (HS.out q hq) (show w.heap.size ≤ W0.heap.size by omega)
        have HC := Lib.hid (IH.out (.node kx ix bx sx lx) (HHH.out _ (List.mem_of_getElem? HX.out)) (HZZ.out _ (List.mem_of_getElem? HX.out)) _ S _ HXD1.out HS1.out)
        clear f4
        have HW0 := Lib.hid hbase
        go_region_law (first
            | (go_simp; go_at_call 48; refine HC.out.mono ?_; rintro e w1 ⟨k1, i1, b1, s1, a1, n1, c1, xs1, rfl, hD1, hown1, hb1⟩; have HD1 := Lib.hid hD1; have HO1 := Lib.hid hown1; clear hD1 hown1; have hle5 := Nat.lt_of_lt_of_le hle2 hb1.size; have hle6 := Nat.lt_of_lt_of_le hle3 hb1.size; have c6 := cell_over hb1 hle2 c5; have f6 := free_over hb1 hle2 f5)
            | (refine step_append_lies _ (by rfl) _ _ _ (by rfl) (w.heap.size + 2) 28 i0 _ 5 64 Tryd.underlying26 hi0 hz0 hz1 hz2 rfl (by omega) v j css.flatten (by rfl) ((own_below HOWN0.out hb1).alloc _)
                ⟨w1.heap.size, 0, none⟩ 1 1 [.int .i64 k1, .int .i64 i1, .int .u64 b1, .string s1, .slice a1 n1 c1] (by rfl) (by rfl)
                (World.news_of_block (cs := #[.int .i64 k1, .int .i64 i1, .int .u64 b1, .string s1, .slice a1 n1 c1]) (t := 28) (fr := (0, 0)) (heap_alloc_new w1 _)) (by simp [Value.oneCell'])
                (by omega) (by unfold maxLen; omega) (by omega) (by have := hb1.size; have := hle4; simp; omega) (w1.heap.size + 1) (by simp) ?_
               intro g2 cap2 w2 hown2 hgrow hat hlt2
               have HO2 := Lib.hid hown2
               have HAT := Lib.hid hat
               clear hown2 hat
               have c7 := (far_cell hgrow hle5 hne1).trans c6
               have f7 := (far_free hgrow hle5 hne1).trans f6))
        all_goals
          have hR := ow_step (o := 0) (cells := fun v => #[.int .i64 k, .int .i64 i, .int .u64 b, .string s, v]) (by omega) (by omega) (by omega) (fun _ _ => rfl) HX.out HB0.out HB1.out HCL.out HOWN.out HT.out H5.out HE.out hbel (hWB.drew) hbase hb1 HD1.out HO2.out hgrow HAT.out
          have HR := Lib.hid hR
          clear hR c7 f7 c6 f6 hgrow
          go_wp2_with fail
          go_roundw
          case rel => exact HR.out
          case measure => simp [intOf]; omega
      · obtain rfl : j = l.length := by omega
        have b0 := HB0.out.lt
        have b1 := HB1.out.lt
        have e0 := HB0.out.cell 0
        have e1 := HB0.out.cell 1
        have e2 := HB0.out.cell 2
        have e3 := HB0.out.cell 3
        have q0 := HB1.out.cell 0
        have q1 := HB1.out.cell 1
        have q2 := HB1.out.cell 2
        have q3 := HB1.out.cell 3
        have q4 := HB1.out.cell 4
        have g0 := HB1.out.free 0
        have g1 := HB1.out.free 1
        have g2 := HB1.out.free 2
        have g3 := HB1.out.free 3
        have g4 := HB1.out.free 4
        simp only [Nat.add_zero, List.getElem?_toArray, List.getElem?_cons_succ, List.getElem?_cons_zero] at e0 e1 e2 e3 q0 q1 q2 q3 q4
        obtain ⟨ar, cr, rfl, hD, hO⟩ := ow_end (k := k) (i := i) (b := b) (t := s) wk wi wb ws HCL.out HOWN.out HT.out H5.out HE.out
        have HD := Lib.hid hD
        have HO := Lib.hid hO
        clear hD hO
        go_wp2_with fail
        refine bodyPost_ret (v := .agg #[.int .i64 k, .int .i64 i, .int .u64 b, .string s, .slice ar l.length cr]) (by simp [results, Tryd.results48, go_sem, *]) rfl ?_
        exact copied_end (by omega) hbel HD.out HO.out
end Go.Proofs.YtmdcfmdjbncaoaaDoor
