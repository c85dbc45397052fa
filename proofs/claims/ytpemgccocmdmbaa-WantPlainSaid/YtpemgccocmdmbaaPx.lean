/- Plain: the walk. -/
import Derived.Test.YtpemgccocmdmbaaPe
namespace Go.Proofs.Ytpemgccocmdmbaa
open Go.RowKit Go.Deep
attribute [local go_sem] Go.undef

set_option maxRecDepth 100000 in
set_option maxHeartbeats 16000000 in
theorem plain_any (t : WT) (w : World) (S : Nat → Prop) (cs : List Value) (hok : okT t = true) (hd : IsW w S t cs) (hS : ∀ q, S q → q < w.heap.size) :
    Calls Try.prog 36 #[.agg cs.toArray] w (Plained w (ofT (kindsW t))) := by
  have hk := fun W (hW : Below w.heap.size w W) => kinds_want _ t (Nat.le_refl _) hok W S cs (hd.under hW hS) (fun q hq => Nat.lt_of_lt_of_le (hS q hq) hW.size)
  have hlt := kindsW_lt t
  generalize kindsW t = s at hk hlt ⊢
  obtain ⟨o, n, l⟩ := t
  obtain ⟨a, c, rfl, -⟩ := hd.open_
  have HK := Lib.hid hk
  obtain ⟨i0, hi0, hz0, hz1, hz2⟩ := info_parts infoW
  clear hk hd hS hok
  go_enter Try.func36, Try.ntmps36
  go_wp2_with fail
  refine (HK.out _ (by go_grown)).mono ?_
  rintro e w1 ⟨rfl, hb1⟩
  have hB1 : Below w.heap.size w w1 := below_on hb1 (by go_grown)
  have HR1 : Hid (Blk w1 (w.heap.size + 1) 24 #[.int .i64 0, .int .i64 0, .slice none 0 0]) := (Blk.new' _ _ _ (by simp)).under hb1 (by simp)
  clear hb1
  by_cases hs0 : s = 0
  · subst hs0
    obtain ⟨r0, r1, r2⟩ := w3cells HR1.out
    have f0 := HR1.out.free 0
    have f1 := HR1.out.free 1
    have f2 := HR1.out.free 2
    have l1 := HR1.out.lt
    have l0 : w.heap.size < w1.heap.size := by omega
    go_wp2_with fail
    generalize hW : (((((w1.setCell _ _).setCell _ _).setCell _ _).alloc _).alloc _) = W
    have h1 : Blk W w1.heap.size 24 #[.int .i64 1, .int .i64 0, .slice none 0 0] := by rw [← hW]; exact (Blk.new' _ _ _ (by simp)).alloc _
    have h2 : Blk W (w1.heap.size + 1) 24 #[.int .i64 1, .int .i64 0, .slice none 0 0, .int .i64 6, .int .i64 0, .slice (some ⟨w1.heap.size, 0, none⟩) 1 1] := by rw [← hW]; exact Blk.new' _ _ _ (by simp)
    have h3 : Blk W (w.heap.size + 1) 24 #[.int .i64 5, .int .i64 0, .slice (some ⟨w1.heap.size + 1, 0, none⟩) 2 2] := by rw [← hW]; exact ((((HR1.out.set 0 _).set 1 _).set 2 _).alloc _).alloc _
    have hB : Below w.heap.size w W := by rw [← hW]; go_grown
    have q := end_zero hB (by omega) (by omega) h1 h2
    obtain ⟨z0, z1, z2⟩ := w3cells h3
    exact bodyPost_ret (v := .agg #[.int .i64 5, .int .i64 0, .slice (some ⟨w1.heap.size + 1, 0, none⟩) 2 2]) (by simp [results, Try.results36, go_sem, *]) rfl ⟨_, rfl, q⟩
  · have hsz : ((s : Int) == 0) = false := by simp; omega
    have HS := Lib.hid hs0
    clear hs0
    go_wp2_with fail
    go_loopw [5, 18] (PLW w s 1) (fun _ i _ => 14 - (intOf i).toNat)
    case atStart => exact ⟨0, rfl, by omega, World.ownsRow_nil _ _ _ _, HR1.out, hB1⟩
    case round =>
      obtain ⟨j, rfl, hj, hown, hR, hbel⟩ := hrel
      have HOWN := Lib.hid hown
      have HR := Lib.hid hR
      clear hown hR
      by_cases hl : j < 14
      · have e1 := bit_asked s j hlt
        have e2 := both_asked s hlt
        have hkeep : keepB s j = (s.testBit j && !(j == 12 && s.testBit 11)) := rfl
        have hpl : plainK s (j + 1) = if keepB s j = true then plainK s j ++ [j] else plainK s j := by rw [plainK]
        generalize hbj : s.testBit j = bj at e1 hkeep
        cases bj with
        | false =>
          rw [Bool.false_and] at hkeep
          rw [hkeep, if_neg (by simp)] at hpl
          have HPL := Lib.hid hpl
          clear hpl hkeep hbj e2
          go_wp2_with fail
          go_roundw
          case rel => exact ⟨j + 1, by go_num, by omega, by rw [HPL.out]; exact HOWN.out, HR.out, hbel⟩
          case measure => simp [intOf]; omega
        | true =>
          rw [Bool.true_and] at hkeep
          cases hkp : keepB s j with
          | false =>
            rw [hkp, if_neg (by simp)] at hpl
            rw [hkp] at hkeep
            have hj12 : j = 12 ∧ s.testBit 11 = true := by
              have := hkeep
              simp at this
              exact this
            obtain ⟨rfl, h11⟩ := hj12
            rw [h11, hbj] at e2
            have e1' : (bits BinOp.and IntKind.u32 ((s : Int) / 4096) 1 == 1) = true := by simpa using e1
            clear e1
            have HPL := Lib.hid hpl
            clear hpl hkeep hbj hkp h11
            go_wp2_with fail
            go_roundw
            case rel => exact ⟨12 + 1, by go_num, by omega, by rw [HPL.out]; exact HOWN.out, HR.out, hbel⟩
            case measure => simp [intOf]
          | true =>
            rw [hkp, if_pos rfl] at hpl
            rw [hkp] at hkeep
            have HPL := Lib.hid hpl
            by_cases hj12 : j = 12
            · subst hj12
              have h11 : s.testBit 11 = false := by
                have := hkeep
                simpa using this.symm
              rw [h11, Bool.false_and] at e2
              have e1' : (bits BinOp.and IntKind.u32 ((s : Int) / 4096) 1 == 1) = true := by simpa using e1
              clear e1
              clear hpl hkeep hbj hkp h11
              go_wp2_with fail
              refine (kind_want 12 _).mono ?_
              rintro e w2 ⟨rfl, hb2⟩
              have HO2 : Hid (w2.ownsRow (w.heap.size + (1 + 1)) 24 3 u5 (plainK s 12).length (flatC (plainK s 12))) := own_below HOWN.out hb2
              have HR2 : Hid (Blk w2 (w.heap.size + 1) 24 _) := HR.out.under hb2 HR.out.lt
              have hB2 := below_on hb2 hbel
              have hlen := plainK_len s 12
              have hlr := HR2.out.lt
              clear hb2
              go_wp2_with (at_builtin; refine wpList_append_any _ rfl _ _ 22 rfl (w.heap.size + (1 + 1)) 24 i0 _ 3 40 Try.underlying22 hi0 hz0 hz1 hz2 rfl (by omega) _ _ _ rfl (HO2.out.alloc _) (some ⟨w2.heap.size, 0, none⟩) 1 1 (leafC 12) rfl ?pa0 ?pa1 ?pa2 ?pa3 ?pa4 ?pa5 ?pa6 ?_)
              case pa0 => intro _; rfl
              case pa1 => rfl
              case pa2 =>
                intro ad had q u hu
                injection had with had
                subst had
                exact World.news_of_block (cs := (leafC 12).toArray) (t := 24) (fr := (0, 0)) (heap_alloc_new w2 _) q u (by simpa using hu)
              case pa3 => simp [leafC, Value.oneCell']
              case pa4 => unfold maxLen; omega
              case pa5 => omega
              case pa6 => simp; omega
              intro v3 w3 hown3 hgr3
              have HO3 : Hid (w3.ownsRow (w.heap.size + (1 + 1)) 24 3 v3 (plainK s (12 + 1)).length (flatC (plainK s (12 + 1)))) := by
                rw [HPL.out, ← flatC_snoc, List.length_append]
                exact hown3
              have hvb : ∀ g, u5.ownBlock = some g → w.heap.size + (1 + 1) ≤ g ∧ g < w2.heap.size := own_row HO2.out
              have HR3 : Hid (Blk w3 (w.heap.size + 1) 24 _) := (HR2.out.alloc _).grown hgr3 (fun e => by have := hvb _ e.symm; omega)
              have hB3 : Below w.heap.size w w3 := (hB2.alloc hB2.size _).grown hgr3 (by simp; have := hB2.size; omega) (fun g hg => by have := hvb g hg; omega)
              clear hown3 hgr3 hvb HO2 HR2 hB2 hlen hlr
              go_wp2_with fail
              go_roundw
              case rel => exact ⟨12 + 1, by go_num, by omega, HO3.out, HR3.out, hB3⟩
              case measure => simp [intOf]
            · have hj12' : ¬ ((j : Int) = 12) := by omega
              clear hpl hkeep hbj hkp e2
              go_wp2_with fail
              refine (kind_want j _).mono ?_
              rintro e w2 ⟨rfl, hb2⟩
              have HO2 : Hid (w2.ownsRow (w.heap.size + (1 + 1)) 24 3 u5 (plainK s j).length (flatC (plainK s j))) := own_below HOWN.out hb2
              have HR2 : Hid (Blk w2 (w.heap.size + 1) 24 _) := HR.out.under hb2 HR.out.lt
              have hB2 := below_on hb2 hbel
              have hlen := plainK_len s j
              have hlr := HR2.out.lt
              clear hb2
              go_wp2_with (at_builtin; refine wpList_append_any _ rfl _ _ 22 rfl (w.heap.size + (1 + 1)) 24 i0 _ 3 40 Try.underlying22 hi0 hz0 hz1 hz2 rfl (by omega) _ _ _ rfl (HO2.out.alloc _) (some ⟨w2.heap.size, 0, none⟩) 1 1 (leafC j) rfl ?qa0 ?qa1 ?qa2 ?qa3 ?qa4 ?qa5 ?qa6 ?_)
              case qa0 => intro _; rfl
              case qa1 => rfl
              case qa2 =>
                intro ad had q u hu
                injection had with had
                subst had
                exact World.news_of_block (cs := (leafC j).toArray) (t := 24) (fr := (0, 0)) (heap_alloc_new w2 _) q u (by simpa using hu)
              case qa3 => simp [leafC, Value.oneCell']
              case qa4 => unfold maxLen; omega
              case qa5 => omega
              case qa6 => simp; omega
              intro v3 w3 hown3 hgr3
              have HO3 : Hid (w3.ownsRow (w.heap.size + (1 + 1)) 24 3 v3 (plainK s (j + 1)).length (flatC (plainK s (j + 1)))) := by
                rw [HPL.out, ← flatC_snoc, List.length_append]
                exact hown3
              have hvb : ∀ g, u5.ownBlock = some g → w.heap.size + (1 + 1) ≤ g ∧ g < w2.heap.size := own_row HO2.out
              have HR3 : Hid (Blk w3 (w.heap.size + 1) 24 _) := (HR2.out.alloc _).grown hgr3 (fun e => by have := hvb _ e.symm; omega)
              have hB3 : Below w.heap.size w w3 := (hB2.alloc hB2.size _).grown hgr3 (by simp; have := hB2.size; omega) (fun g hg => by have := hvb g hg; omega)
              clear hown3 hgr3 hvb HO2 HR2 hB2 hlen hlr
              go_wp2_with fail
              go_roundw
              case rel => exact ⟨j + 1, by go_num, by omega, HO3.out, HR3.out, hB3⟩
              case measure => simp [intOf]; omega
      · obtain rfl : j = 14 := by omega
        have e3 := over_asked s hlt
        have hn0 := plainK_some HS.out hlt
        obtain ⟨k, r, hL⟩ : ∃ k r, plainK s 14 = k :: r := by
          cases h : plainK s 14 with
          | nil => rw [h] at hn0; simp at hn0
          | cons k r => exact ⟨k, r, rfl⟩
        obtain ⟨g5, c5, rfl, hg5, hgl⟩ := HOWN.out.form hn0
        have HRW := Lib.hid (row_leaves HOWN.out)
        obtain ⟨y0, y1, y2⟩ : wr.cell? ⟨g5, 0, none⟩ = some (.int .i64 2) ∧ wr.cell? ⟨g5, 1, none⟩ = some (.int .i64 k) ∧ wr.cell? ⟨g5, 2, none⟩ = some (.slice none 0 0) := by
          have hx : flatC (plainK s 14) = .int .i64 2 :: .int .i64 k :: .slice none 0 0 :: flatC r := by rw [hL]; rfl
          have h := fun i v => HOWN.out.cells (g := g5) rfl i v
          rw [hx] at h
          exact ⟨h 0 _ rfl, h 1 _ rfl, h 2 _ rfl⟩
        generalize hn : (plainK s 14).length = n5 at hn0 HOWN HRW
        have HN := Lib.hid hn
        have HLL := Lib.hid hL
        clear hn hL
        have l0 := HR.out.lt
        obtain ⟨r0, r1, r2⟩ := w3cells HR.out
        have f0 := HR.out.free 0
        have f1 := HR.out.free 1
        have f2 := HR.out.free 2
        by_cases h1 : 1 < n5
        · cases ho : overB s with
          | true =>
            rw [ho] at e3
            go_upto_region 16 with fail
            show Code.wp _ _ _ _ (wr.alloc _)
            generalize hW0 : wr.alloc _ = W0
            have hWk : ∀ g, g ≠ w.heap.size + 1 → g < wr.heap.size → W0.heap[g]? = wr.heap[g]? := fun g hg hl => by
              rw [← hW0, Below.heap_alloc _ _ _ hl]
            have HX : Hid (Blk W0 wr.heap.size 24 #[.int .i64 4, .int .i64 0, .slice (some ⟨g5, 0, none⟩) n5 c5]) := by rw [← hW0]; exact Blk.new _ _ _
            have HR0 : Hid (Blk W0 (w.heap.size + 1) 24 #[.int .i64 0, .int .i64 0, .slice none 0 0]) := by rw [← hW0]; exact HR.out.alloc _
            have hB : Below w.heap.size w W0 := by rw [← hW0]; go_grown
            have q : IsW W0 (Btw (w.heap.size + (1 + 1)) W0.heap.size) (baseT s) [.int .i64 4, .int .i64 0, .slice (some ⟨g5, 0, none⟩) n5 c5] := by
              have h := HOWN.out
              have e := HN.out
              subst e
              exact many_is (c := c5) h1 (own_keep h fun g hg => by cases hg; exact hWk g5 (by omega) hgl)
            have Q := Lib.hid q
            have HB0 := Lib.hid hB
            have lw := hB.size
            have HO := Lib.hid ho
            have lx := HX.out.lt
            have lr := HR0.out.lt
            clear hWk q hW0 r0 r1 r2 f0 f1 f2 y0 y1 y2 HOWN HR HRW ho hB
            obtain ⟨x0, x1, x2⟩ := w3cells HX.out
            have HDR : Hid (Below W0.heap.size W0 W0.drew) := (Below.refl _ _).drew
            go_region_with (first | (go_at_call 55; refine (kind_want 12 _).mono ?_; rintro e w2 ⟨rfl, hb2'⟩; have hb2 := below_on hb2' HDR.out; clear hb2'; have l2 := hb2.size; have v0 := cell_over hb2 lx x0; have v1 := cell_over hb2 lx x1; have v2 := cell_over hb2 lx x2; have HR2 := Lib.hid (HR0.out.under hb2 lr); obtain ⟨r0, r1, r2⟩ := w3cells HR2.out; have f0 := HR2.out.free 0; have f1 := HR2.out.free 1; have f2 := HR2.out.free 2; have lr2 := HR2.out.lt; have lr4 : w.heap.size < w2.heap.size := (by omega); have lx2 : wr.heap.size < w2.heap.size := (by omega); have lx3 : wr.heap.size < w2.heap.size + 1 := (by omega); have Q2 := Lib.hid (Q.out.under (S := Btw (w.heap.size + (1 + 1)) W0.heap.size) hb2 (fun q hq => hq.2)); have HB2 := Lib.hid (below_on hb2 HB0.out); clear hb2))
            all_goals (
              go_wp2_with fail
              generalize hW : (((((w2.setCell _ _).setCell _ _).setCell _ _).alloc _).alloc _) = W
              have h1 : Blk W w2.heap.size 24 #[.int .i64 2, .int .i64 12, .slice none 0 0] := by rw [← hW]; exact (Blk.new' _ _ _ (by simp)).alloc _
              have h2 : Blk W (w2.heap.size + 1) 24 #[.int .i64 4, .int .i64 0, .slice (some ⟨g5, 0, none⟩) n5 c5, .int .i64 6, .int .i64 0, .slice (some ⟨w2.heap.size, 0, none⟩) 1 1] := by rw [← hW]; exact Blk.new' _ _ _ (by simp)
              have h3 : Blk W (w.heap.size + 1) 24 #[.int .i64 5, .int .i64 0, .slice (some ⟨w2.heap.size + 1, 0, none⟩) 2 2] := by rw [← hW]; exact ((((HR2.out.set 0 _).set 1 _).set 2 _).alloc _).alloc _
              have hB2 := HB2.out
              have hBW : Below w.heap.size w W := by rw [← hW]; go_grown
              have hQ : IsW W (Btw w.heap.size W.heap.size) (baseT s) [.int .i64 4, .int .i64 0, .slice (some ⟨g5, 0, none⟩) n5 c5] := (Q2.out.keep (fun _ h => h) (fun b hb j => by rw [← hW, alloc_cell (by have := hb.2; simp; omega), alloc_cell (by have := hb.2; simp; omega), cell_set3 (by have := hb.1; omega)])).mono (fun q hq => ⟨by have := hq.1; omega, by rw [← hW]; have := hq.2; simp; omega⟩)
              have q := end_over HS.out HO.out hBW (by omega) (by omega) hQ h1 h2
              obtain ⟨z0, z1, z2⟩ := w3cells h3
              exact bodyPost_ret (v := .agg #[.int .i64 5, .int .i64 0, .slice (some ⟨w2.heap.size + 1, 0, none⟩) 2 2]) (by simp [results, Try.results36, go_sem, *]) rfl ⟨_, rfl, q⟩)
          | false =>
            rw [ho] at e3
            go_wp2_with fail
            generalize hW : ((((wr.setCell _ _).setCell _ _).setCell _ _).alloc _) = W
            have hWk : ∀ g, g ≠ w.heap.size + 1 → g < wr.heap.size → W.heap[g]? = wr.heap[g]? := fun g hg hl => by
              rw [← hW, Below.heap_alloc _ _ _ (by simpa using hl), Below.heap_setCell _ _ _ _ hg, Below.heap_setCell _ _ _ _ hg, Below.heap_setCell _ _ _ _ hg]
            have h3 : Blk W (w.heap.size + 1) 24 #[.int .i64 4, .int .i64 0, .slice (some ⟨g5, 0, none⟩) n5 c5] := by rw [← hW]; exact (((HR.out.set 0 _).set 1 _).set 2 _).alloc _
            have hB : Below w.heap.size w W := by rw [← hW]; go_grown
            have q : OwnW w (baseT s) [.int .i64 4, .int .i64 0, .slice (some ⟨g5, 0, none⟩) n5 c5] W := by
              have h := HOWN.out
              have e := HN.out
              subst e
              exact end_many (c := c5) h1 hB (Nat.le_add_right _ _) (own_keep h fun g hg => by cases hg; exact hWk g5 (by omega) hgl)
            have q2 := end_base HS.out ho q
            obtain ⟨z0, z1, z2⟩ := w3cells h3
            exact bodyPost_ret (v := .agg #[.int .i64 4, .int .i64 0, .slice (some ⟨g5, 0, none⟩) n5 c5]) (by simp [results, Try.results36, go_sem, *]) rfl ⟨_, rfl, q2⟩
        · obtain rfl : n5 = 1 := by omega
          clear h1 hn0
          cases ho : overB s with
          | true =>
            rw [ho] at e3
            go_upto_region 16 with fail
            show Code.wp _ _ _ _ (wr.alloc _)
            generalize hW0 : wr.alloc _ = W0
            have hWk : ∀ g, g ≠ w.heap.size + 1 → g < wr.heap.size → W0.heap[g]? = wr.heap[g]? := fun g hg hl => by
              rw [← hW0, Below.heap_alloc _ _ _ hl]
            have HX : Hid (Blk W0 wr.heap.size 24 #[.int .i64 2, .int .i64 k, .slice none 0 0]) := by rw [← hW0]; exact Blk.new _ _ _
            have HR0 : Hid (Blk W0 (w.heap.size + 1) 24 #[.int .i64 0, .int .i64 0, .slice none 0 0]) := by rw [← hW0]; exact HR.out.alloc _
            have hB : Below w.heap.size w W0 := by rw [← hW0]; go_grown
            have q : IsW W0 (Btw (w.heap.size + (1 + 1)) W0.heap.size) (baseT s) [.int .i64 2, .int .i64 k, .slice none 0 0] := one_is (by
              have e := HLL.out
              have e2 := HN.out
              rw [e] at e2 ⊢
              simp at e2
              rw [e2])
            have Q := Lib.hid q
            have HB0 := Lib.hid hB
            have lw := hB.size
            have HO := Lib.hid ho
            have lx := HX.out.lt
            have lr := HR0.out.lt
            clear hWk q hW0 r0 r1 r2 f0 f1 f2 y0 y1 y2 HOWN HR HRW ho hB
            obtain ⟨x0, x1, x2⟩ := w3cells HX.out
            have HDR : Hid (Below W0.heap.size W0 W0.drew) := (Below.refl _ _).drew
            go_region_with (first | (go_at_call 55; refine (kind_want 12 _).mono ?_; rintro e w2 ⟨rfl, hb2'⟩; have hb2 := below_on hb2' HDR.out; clear hb2'; have l2 := hb2.size; have v0 := cell_over hb2 lx x0; have v1 := cell_over hb2 lx x1; have v2 := cell_over hb2 lx x2; have HR2 := Lib.hid (HR0.out.under hb2 lr); obtain ⟨r0, r1, r2⟩ := w3cells HR2.out; have f0 := HR2.out.free 0; have f1 := HR2.out.free 1; have f2 := HR2.out.free 2; have lr2 := HR2.out.lt; have lr4 : w.heap.size < w2.heap.size := (by omega); have lx2 : wr.heap.size < w2.heap.size := (by omega); have lx3 : wr.heap.size < w2.heap.size + 1 := (by omega); have Q2 := Lib.hid (Q.out.under (S := Btw (w.heap.size + (1 + 1)) W0.heap.size) hb2 (fun q hq => hq.2)); have HB2 := Lib.hid (below_on hb2 HB0.out); clear hb2))
            all_goals (
              go_wp2_with fail
              generalize hW : (((((w2.setCell _ _).setCell _ _).setCell _ _).alloc _).alloc _) = W
              have h1 : Blk W w2.heap.size 24 #[.int .i64 2, .int .i64 12, .slice none 0 0] := by rw [← hW]; exact (Blk.new' _ _ _ (by simp)).alloc _
              have h2 : Blk W (w2.heap.size + 1) 24 #[.int .i64 2, .int .i64 k, .slice none 0 0, .int .i64 6, .int .i64 0, .slice (some ⟨w2.heap.size, 0, none⟩) 1 1] := by rw [← hW]; exact Blk.new' _ _ _ (by simp)
              have h3 : Blk W (w.heap.size + 1) 24 #[.int .i64 5, .int .i64 0, .slice (some ⟨w2.heap.size + 1, 0, none⟩) 2 2] := by rw [← hW]; exact ((((HR2.out.set 0 _).set 1 _).set 2 _).alloc _).alloc _
              have hB2 := HB2.out
              have hBW : Below w.heap.size w W := by rw [← hW]; go_grown
              have hQ : IsW W (Btw w.heap.size W.heap.size) (baseT s) [.int .i64 2, .int .i64 k, .slice none 0 0] := (Q2.out.keep (fun _ h => h) (fun b hb j => by rw [← hW, alloc_cell (by have := hb.2; simp; omega), alloc_cell (by have := hb.2; simp; omega), cell_set3 (by have := hb.1; omega)])).mono (fun q hq => ⟨by have := hq.1; omega, by rw [← hW]; have := hq.2; simp; omega⟩)
              have q := end_over HS.out HO.out hBW (by omega) (by omega) hQ h1 h2
              obtain ⟨z0, z1, z2⟩ := w3cells h3
              exact bodyPost_ret (v := .agg #[.int .i64 5, .int .i64 0, .slice (some ⟨w2.heap.size + 1, 0, none⟩) 2 2]) (by simp [results, Try.results36, go_sem, *]) rfl ⟨_, rfl, q⟩)
          | false =>
            rw [ho] at e3
            go_wp2_with fail
            generalize hW : ((((wr.setCell _ _).setCell _ _).setCell _ _).alloc _) = W
            have hWk : ∀ g, g ≠ w.heap.size + 1 → g < wr.heap.size → W.heap[g]? = wr.heap[g]? := fun g hg hl => by
              rw [← hW, Below.heap_alloc _ _ _ (by simpa using hl), Below.heap_setCell _ _ _ _ hg, Below.heap_setCell _ _ _ _ hg, Below.heap_setCell _ _ _ _ hg]
            have h3 : Blk W (w.heap.size + 1) 24 #[.int .i64 2, .int .i64 k, .slice none 0 0] := by rw [← hW]; exact (((HR.out.set 0 _).set 1 _).set 2 _).alloc _
            have hB : Below w.heap.size w W := by rw [← hW]; go_grown
            have q : OwnW w (baseT s) [.int .i64 2, .int .i64 k, .slice none 0 0] W := end_one (by
              have e := HLL.out
              have e2 := HN.out
              rw [e] at e2 ⊢
              simp at e2
              rw [e2]) hB
            have q2 := end_base HS.out ho q
            obtain ⟨z0, z1, z2⟩ := w3cells h3
            exact bodyPost_ret (v := .agg #[.int .i64 2, .int .i64 k, .slice none 0 0]) (by simp [results, Try.results36, go_sem, *]) rfl ⟨_, rfl, q2⟩
end Go.Proofs.Ytpemgccocmdmbaa
