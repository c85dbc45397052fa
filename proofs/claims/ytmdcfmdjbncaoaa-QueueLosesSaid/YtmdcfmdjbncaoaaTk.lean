/- Take. -/
import Derived.Test.YtmdcfmdjbncaoaaPut
namespace Go.Proofs.Ytmdcfmdjbncaoaa
open Go.RowKit
attribute [local go_sem ↓] Go.wp_at_zero Go.wp_at_succ
attribute [local go_sem] Go.undef

def TakePost (w : World) (x : QX × MX × Bool) (e : Ending) (w' : World) : Prop :=
  ∃ a n c k i b s an nn cn, e = .returned (.tuple #[.agg #[.slice a n c, .int .i64 x.1.r, .int .i64 x.1.d], .agg #[.int .i64 x.2.1.id, .string x.2.1.topic, .int .i64 k, .int .i64 i, .int .u64 b, .string s, .slice an nn cn, .int .i64 x.2.1.tat, .int .i64 x.2.1.til, .string x.2.1.reply, .int .i64 x.2.1.corr, .int .i64 x.2.1.prio, .int .i64 x.2.1.hops], .bool x.2.2]) ∧
    RM w' (Btw w.heap.size w'.heap.size) x.1.l a n c ∧ IsM w' (Btw w.heap.size w'.heap.size) x.2.1 [.int .i64 x.2.1.id, .string x.2.1.topic, .int .i64 k, .int .i64 i, .int .u64 b, .string s, .slice an nn cn, .int .i64 x.2.1.tat, .int .i64 x.2.1.til, .string x.2.1.reply, .int .i64 x.2.1.corr, .int .i64 x.2.1.prio, .int .i64 x.2.1.hops] ∧ Below w.heap.size w w'

set_option maxHeartbeats 8000000 in
set_option maxRecDepth 100000 in
theorem takep_any (q : QX) (a : Option Addr) (n c : Nat) (S : Nat → Prop) (w : World) (hrow : RM w S q.l a n c) (hS : ∀ b, S b → b < w.heap.size) (hsm : smallL q.l) (hn : n ≤ 65536) :
    Calls Try.prog 28 #[.agg #[.slice a n c, .int .i64 q.r, .int .i64 q.d]] w (TakePost w (takeQ q)) := by
  obtain rfl : n = q.l.length := hrow.1
  obtain ⟨W, hWd⟩ : ∃ W, W = ((w.alloc (.cells #[.slice a q.l.length c, .int .i64 q.r, .int .i64 q.d] 46)).alloc (.cells #[.slice none 0 0, .int .i64 0, .int .i64 0] 46)).alloc (.cells #[.int .i64 0, .string ByteArray.empty, .int .i64 0, .int .i64 0, .int .u64 0, .string ByteArray.empty, .slice none 0 0, .int .i64 0, .int .i64 0, .string ByteArray.empty, .int .i64 0, .int .i64 0, .int .i64 0] 48) := ⟨_, rfl⟩
  have hW : Below w.heap.size w W := by rw [hWd]; go_grown
  have hsz : W.heap.size = w.heap.size + 3 := by rw [hWd]; simp
  have b0 : Blk W w.heap.size 46 #[.slice a q.l.length c, .int .i64 q.r, .int .i64 q.d] := by rw [hWd]; exact ((Blk.new _ _ _).alloc _).alloc _
  have b2 : Blk W (w.heap.size + 1) 46 #[.slice none 0 0, .int .i64 0, .int .i64 0] := by rw [hWd]; exact (Blk.new' _ _ _ (by simp)).alloc _
  have b3 : Blk W (w.heap.size + 2) 48 #[.int .i64 0, .string ByteArray.empty, .int .i64 0, .int .i64 0, .int .u64 0, .string ByteArray.empty, .slice none 0 0, .int .i64 0, .int .i64 0, .string ByteArray.empty, .int .i64 0, .int .i64 0, .int .i64 0] := by rw [hWd]; exact Blk.new' _ _ _ (by simp)
  have HC := Lib.hid (ownq_any q a q.l.length c S W (hrow.under hW hS) (fun x hx => by rw [hsz]; have := hS x hx; omega) hsm hn)
  have HW := Lib.hid hW
  have HSZ := Lib.hid hsz
  have BB0 := Lib.hid b0
  have BB2 := Lib.hid b2
  have BB3 := Lib.hid b3
  have HWD := Lib.hid hWd
  clear hrow hS hsm hW hsz b0 b2 b3 hWd
  go_enter Try.func28, Try.ntmps28
  go_upto_region 1 with fail
  show Code.wp _ _ _ _ (((w.alloc (.cells #[.slice a q.l.length c, .int .i64 q.r, .int .i64 q.d] 46)).alloc (.cells #[.slice none 0 0, .int .i64 0, .int .i64 0] 46)).alloc (.cells #[.int .i64 0, .string ByteArray.empty, .int .i64 0, .int .i64 0, .int .u64 0, .string ByteArray.empty, .slice none 0 0, .int .i64 0, .int .i64 0, .string ByteArray.empty, .int .i64 0, .int .i64 0, .int .i64 0] 48))
  rw [← HWD.out]
  have b0 := BB0.out
  go_wp2_with (refine wpList_load_blk rfl 46 _ rfl (w.heap.size) 0 rfl [.slice a q.l.length c, .int .i64 q.r, .int .i64 q.d] _ (Blk.range (pre := []) (post := []) b0 rfl) Try.underlying46 rfl sizeI ?_)
  refine HC.out.mono ?_
  rintro e w1 ⟨a1, c1, S1, css1, rfl, hown1, hb1⟩
  have hs1 := hb1.size
  have B1 : Below w.heap.size w w1 := HW.out.trans (hb1.mono (by rw [HSZ.out]; omega))
  have b0' := BB0.out.under hb1 (by rw [HSZ.out]; omega)
  have b2' := BB2.out.under hb1 (by rw [HSZ.out]; omega)
  have b3' := BB3.out.under hb1 (by rw [HSZ.out]; omega)
  rw [HSZ.out] at hs1
  have HOWN1 := Lib.hid hown1
  clear hown1 HC BB0 BB2 BB3 b0
  go_upto_region 2 with (refine wpList_store_blk (T := 46) rfl 46 _ _ rfl (w.heap.size) 0 [] [.slice a q.l.length c, .int .i64 q.r, .int .i64 q.d] [] [.slice a1 q.l.length c1, .int .i64 q.r, .int .i64 q.d] rfl rfl b0' rfl rfl sizeI inb_one ?_; intro w4 b0 U2)
  have b2 := U2.blk b2' (by omega)
  have b3 := U2.blk b3' (by omega)
  have hs4 : w.heap.size + 3 ≤ w4.heap.size := by rw [U2.size]; exact hs1
  have HOWN4 : Hid (OwnE IsM 48 13 w4 (w.heap.size + 3) q.l (.slice a1 q.l.length c1) S1 css1) := by
    have h := HOWN1.out
    rw [HSZ.out] at h
    exact h.keep keepsM (by rw [U2.size]; exact Nat.le_refl _) fun x hx => U2.far x (by
      rcases hx with hx | hx
      · have := (h.far x hx).1; omega
      · have := (h.far_lt x hx).1; omega)
  have B4 : Below w.heap.size w w4 := B1.trans (U2.below _ (Nat.le_refl _))
  clear b2' b3' b0' HOWN1 U2
  have c0 := b0.cell 0
  have f0 := b0.free 0
  simp only [List.getElem?_toArray] at c0
  by_cases h0 : q.l.length = 0
  · have hq : takeQ q = (q, zeroM, false) := by rw [takeQ, if_pos h0]
    have HQ := Lib.hid hq
    have hi0 : ((q.l.length : Int) == 0) = true := by rw [beq_iff_eq]; omega
    have H0 := Lib.hid h0
    clear hq h0
    go_wp2_with (first
      | (refine wpList_load_blk rfl 46 _ rfl (w.heap.size) 0 rfl [.slice a1 q.l.length c1, .int .i64 q.r, .int .i64 q.d] _ (Blk.range (pre := []) (post := []) b0 rfl) Try.underlying46 rfl sizeI ?_)
      | (refine wpList_store_blk (T := 46) rfl 46 _ _ rfl (w.heap.size + 1) 0 [] [.slice none 0 0, .int .i64 0, .int .i64 0] [] [.slice a1 q.l.length c1, .int .i64 q.r, .int .i64 q.d] rfl rfl b2 rfl rfl sizeI inb_one ?_; intro w6 r2 U5; have b3m := U5.blk b3 (by omega))
      | (refine wpList_store_blk (T := 48) rfl 48 _ _ rfl (w.heap.size + 2) 0 [] [.int .i64 0, .string ByteArray.empty, .int .i64 0, .int .i64 0, .int .u64 0, .string ByteArray.empty, .slice none 0 0, .int .i64 0, .int .i64 0, .string ByteArray.empty, .int .i64 0, .int .i64 0, .int .i64 0] [] [.int .i64 0, .string ByteArray.empty, .int .i64 0, .int .i64 0, .int .u64 0, .string ByteArray.empty, .slice none 0 0, .int .i64 0, .int .i64 0, .string ByteArray.empty, .int .i64 0, .int .i64 0, .int .i64 0] rfl rfl b3m rfl rfl sizeM (by simp [Value.oneCell']) ?_; intro w7 r3 U6; have r2' := U6.blk r2 (by omega)))
    refine bodyPost_ret (res_cct rfl rfl (load_blk w7 (w.heap.size + 1) 46 [.slice a1 q.l.length c1, .int .i64 q.r, .int .i64 q.d] _ r2' Try.underlying46 rfl sizeI) rfl (load_blk w7 (w.heap.size + 2) 48 [.int .i64 0, .string ByteArray.empty, .int .i64 0, .int .i64 0, .int .u64 0, .string ByteArray.empty, .slice none 0 0, .int .i64 0, .int .i64 0, .string ByteArray.empty, .int .i64 0, .int .i64 0, .int .i64 0] _ r3 Try.underlying48 rfl sizeM) rfl) rfl ?_
    rw [HQ.out]
    have hs6 : w7.heap.size = w4.heap.size := by rw [U6.size, U5.size]
    refine ⟨a1, q.l.length, c1, 0, 0, 0, ByteArray.empty, none, 0, 0, rfl, rows_end HOWN4.out (by omega) (fun x hx => (U6.far x (by omega)).trans (U5.far x (by omega))) (by omega), zeroM_is _ _, ?_⟩
    exact (B4.trans (U5.below _ (by omega))).trans (U6.below _ (by omega))
  · obtain ⟨ki, hK⟩ : ∃ ki, ki = highI q.l q.l.length := ⟨_, rfl⟩
    have hKl : ki < q.l.length := by rw [hK]; exact highI_lt (by omega) (Nat.le_refl _)
    have hq : takeQ q = (⟨q.l.eraseIdx ki, q.r, q.d⟩, atM q.l ki, true) := by rw [takeQ, if_neg h0, ← hK]
    have HQ := Lib.hid hq
    have HKD := Lib.hid hK
    have hi0 : ((q.l.length : Int) == 0) = false := by rw [beq_eq_false_iff_ne]; omega
    have hi1 : ¬ ((q.l.length : Int) = 0) := by omega
    clear hq hK h0
    go_wp2_with fail
    refine (best_high q.l a1 q.l.length c1 (Btw (w.heap.size + 3) w4.heap.size) w4 (OwnE.rows keepsM HOWN4.out) (fun x hx => hx.2)).mono ?_
    rintro e w6 ⟨rfl, hb6⟩
    rw [← HKD.out]
    have B6 := below_on hb6 B4
    have hs6 : w.heap.size + 3 ≤ w6.heap.size := Nat.le_trans hs4 hb6.size
    have hR6 := HOWN4.out.below keepsM hb6 (Nat.le_refl _)
    have b0q := Blk.under b0 hb6 (by omega)
    have b2q := Blk.under b2 hb6 (by omega)
    have b3q := Blk.under b3 hb6 (by omega)
    obtain ⟨g5, cap5, hgv, hg5, hg6⟩ := hR6.row.form (by omega)
    obtain ⟨rfl, rfl⟩ : a1 = some ⟨g5, 0, none⟩ ∧ c1 = cap5 := by injection hgv with h1 h2 h3; exact ⟨h1, h3⟩
    clear hgv
    obtain ⟨X, hX, hXm⟩ := hR6.at_ ki _ (atM_mem (l := q.l) (i := ki) hKl)
    have hXX := hXm
    obtain ⟨kx, ix, bx, sx, ax, nx, cx, rfl, -, -, -⟩ := hXm
    have hr6 : w6.rangeAt g5 (ki * 13) [.int .i64 (atM q.l ki).id, .string (atM q.l ki).topic, .int .i64 kx, .int .i64 ix, .int .u64 bx, .string sx, .slice ax nx cx, .int .i64 (atM q.l ki).tat, .int .i64 (atM q.l ki).til, .string (atM q.l ki).reply, .int .i64 (atM q.l ki).corr, .int .i64 (atM q.l ki).prio, .int .i64 (atM q.l ki).hops] := fun j v hv => by
      have := hR6.row.cells (g := g5) rfl (ki * 13 + j) v (flat_get hR6.wide hX j v hv)
      simpa [Addr.add_mid] using this
    have hk0 : (0 : Int) ≤ (ki : Int) := by omega
    have hk1 : (ki : Int) < (q.l.length : Int) := by omega
    have HG6 := Lib.hid hg6
    have HR6 := Lib.hid hR6
    have HXX := Lib.hid hXX
    have c0q : w6.cell? ⟨w.heap.size, 0, none⟩ = some (.slice (some ⟨g5, 0, none⟩) q.l.length c1) := Blk.cell b0q 0
    clear HOWN4 b0 b2 b3 c0 f0 hb6 hX hR6 hXX hg6
    go_upto_region 6 with (first
      | (refine wpList_load_blk rfl 48 _ rfl g5 (ki * 13) rfl [.int .i64 (atM q.l ki).id, .string (atM q.l ki).topic, .int .i64 kx, .int .i64 ix, .int .u64 bx, .string sx, .slice ax nx cx, .int .i64 (atM q.l ki).tat, .int .i64 (atM q.l ki).til, .string (atM q.l ki).reply, .int .i64 (atM q.l ki).corr, .int .i64 (atM q.l ki).prio, .int .i64 (atM q.l ki).hops] _ hr6 Try.underlying48 rfl sizeM ?_)
      | (refine wpList_store_blk (T := 48) rfl 48 _ _ rfl (w6.heap.size) 0 [] [.int .i64 0, .string ByteArray.empty, .int .i64 0, .int .i64 0, .int .u64 0, .string ByteArray.empty, .slice none 0 0, .int .i64 0, .int .i64 0, .string ByteArray.empty, .int .i64 0, .int .i64 0, .int .i64 0] [] [.int .i64 (atM q.l ki).id, .string (atM q.l ki).topic, .int .i64 kx, .int .i64 ix, .int .u64 bx, .string sx, .slice ax nx cx, .int .i64 (atM q.l ki).tat, .int .i64 (atM q.l ki).til, .string (atM q.l ki).reply, .int .i64 (atM q.l ki).corr, .int .i64 (atM q.l ki).prio, .int .i64 (atM q.l ki).hops] rfl rfl (Blk.new w6 _ _) rfl rfl sizeM (by simp [Value.oneCell']) ?_; intro w7 bg U7))
    have hb67 : Below w6.heap.size w6 w7 := ((Below.refl w6.heap.size w6).alloc (Nat.le_refl _) _).trans (U7.below _ (Nat.le_refl _))
    have hs7 : w7.heap.size = w6.heap.size + 1 := by rw [U7.size]; simp
    have hR7 := HR6.out.below keepsM hb67 (Nat.le_refl _)
    have hX7 : IsM w7 _ (atM q.l ki) [.int .i64 (atM q.l ki).id, .string (atM q.l ki).topic, .int .i64 kx, .int .i64 ix, .int .u64 bx, .string sx, .slice ax nx cx, .int .i64 (atM q.l ki).tat, .int .i64 (atM q.l ki).til, .string (atM q.l ki).reply, .int .i64 (atM q.l ki).corr, .int .i64 (atM q.l ki).prio, .int .i64 (atM q.l ki).hops] := HXX.out.under hb67 (fun x hx => (HR6.out.far x hx).2.1)
    have b0r := b0q.under hb67 (by omega)
    have b2r := b2q.under hb67 (by omega)
    have b3r := b3q.under hb67 (by omega)
    have c0r : w7.cell? ⟨w.heap.size, 0, none⟩ = some (.slice (some ⟨g5, 0, none⟩) q.l.length c1) := Blk.cell b0r 0
    have B7 : Below w.heap.size w w7 := B6.trans (hb67.mono (by omega))
    have HR7 := Lib.hid hR7
    have HX7 := Lib.hid hX7
    have HS7 := Lib.hid hs7
    clear HR6 HXX b0q b2q b3q U7 hr6 hR7 hX7 hb67 hs7 c0q
    go_wp2_with fail
    refine (del_any q.l ki q.l.length c1 (w.heap.size + 3) (some ⟨g5, 0, none⟩) _ _ w7 HR7.out hKl).mono ?_
    rintro e w8 ⟨rfl, hR8, hfar8, hsz8, hbl8⟩
    have hgk : g5 ≠ w6.heap.size := by
      have h1 := HG6.out
      omega
    have hpt : ∀ x, x ≠ g5 → (some (⟨g5, 0, none⟩ : Addr)) ≠ some ⟨x, 0, none⟩ := fun x hx e => by injection e with e; injection e with e; exact hx e.symm
    have b0 := (hfar8 _ (hpt w.heap.size (by omega))).trans b0r
    have b2 := (hfar8 _ (hpt (w.heap.size + 1) (by omega))).trans b2r
    have b3 := (hfar8 _ (hpt (w.heap.size + 2) (by omega))).trans b3r
    have bg8 := (hfar8 _ (hpt w6.heap.size (fun e => hgk e.symm))).trans bg
    have hX8 : IsM w8 _ (atM q.l ki) [.int .i64 (atM q.l ki).id, .string (atM q.l ki).topic, .int .i64 kx, .int .i64 ix, .int .u64 bx, .string sx, .slice ax nx cx, .int .i64 (atM q.l ki).tat, .int .i64 (atM q.l ki).til, .string (atM q.l ki).reply, .int .i64 (atM q.l ki).corr, .int .i64 (atM q.l ki).prio, .int .i64 (atM q.l ki).hops] := HX7.out.keep (fun _ h => h) (fun x hx j => World.cell?_of_block (a := ⟨x, j, none⟩) (hfar8 x (hpt x (fun e => (HR7.out.far x hx).2.2 (by rw [e]; rfl)))))
    have hS8 : ∀ x, _ → w.heap.size + 3 ≤ x ∧ x < w8.heap.size := fun x hx => ⟨(HR7.out.far x hx).1, by rw [hsz8]; exact (HR7.out.far x hx).2.1⟩
    have B8 : Below w.heap.size w w8 := B7.trans (hbl8 _ (by omega))
    have hs8 : w8.heap.size = w6.heap.size + 1 := by rw [hsz8, HS7.out]
    have c0 : w8.cell? ⟨w.heap.size, 0, none⟩ = some (.slice (some ⟨g5, 0, none⟩) q.l.length c1) := Blk.cell b0 0
    have f0 := Blk.free b0 0
    have HR8 := Lib.hid hR8
    have HX8 := Lib.hid hX8
    have HS8 := Lib.hid hS8
    have HSZ8 := Lib.hid hs8
    clear HR7 HX7 HS7 b0r b2r b3r bg hR8 hfar8 hsz8 hbl8 hpt hX8 hS8 hs8 c0r
    go_upto_region 7 with fail
    have b0n : Blk (w8.setCell ⟨w.heap.size, 0, none⟩ (.slice (some ⟨g5, 0, none⟩) (q.l.length - 1) c1)) w.heap.size 46 #[.slice (some ⟨g5, 0, none⟩) (q.l.length - 1) c1, .int .i64 q.r, .int .i64 q.d] := Blk.set b0 0 _
    have b2n := Blk.far (p := ⟨w.heap.size, 0, none⟩) b2 (by simp) (.slice (some ⟨g5, 0, none⟩) (q.l.length - 1) c1)
    have b3n := Blk.far (p := ⟨w.heap.size, 0, none⟩) b3 (by simp) (.slice (some ⟨g5, 0, none⟩) (q.l.length - 1) c1)
    have bgn := Blk.far (p := ⟨w.heap.size, 0, none⟩) bg8 (by simp; omega) (.slice (some ⟨g5, 0, none⟩) (q.l.length - 1) c1)
    clear c0 f0 b0 b2 b3 bg8
    refine wp_region_held_drew (S := (fun w' => Blk w' (w.heap.size) 46 #[.slice (some ⟨g5, 0, none⟩) (q.l.length - 1) c1, .int .i64 q.r, .int .i64 q.d] ∧ Blk w' (w6.heap.size) 48 #[.int .i64 (atM q.l ki).id, .string (atM q.l ki).topic, .int .i64 kx, .int .i64 ix, .int .u64 bx, .string sx, .slice ax nx cx, .int .i64 (atM q.l ki).tat, .int .i64 (atM q.l ki).til, .string (atM q.l ki).reply, .int .i64 (atM q.l ki).corr, .int .i64 (atM q.l ki).prio, .int .i64 (atM q.l ki).hops])) (by kernel_rfl) ?_ (fun hHeld => ?_)
    · exact ⟨b0n.drew, bgn.drew⟩
    refine wpAnyH_take (i := 0) (v := .agg #[.slice (some ⟨g5, 0, none⟩) (q.l.length - 1) c1, .int .i64 q.r, .int .i64 q.d]) rfl (by kernel_rfl) (by kernel_rfl) (by kernel_rfl) (fun _ _ _ h => h) (yieldsIf_load_mid (by rfl) 46 _ rfl (w.heap.size) 0 (by rfl) [.slice (some ⟨g5, 0, none⟩) (q.l.length - 1) c1, .int .i64 q.r, .int .i64 q.d] _ (fun w' h => Blk.range (pre := []) (post := []) h.1 rfl) Try.underlying46 rfl sizeI) hHeld ?_
    try simp only [Act.put, List.getElem_toArray, List.getElem_cons_zero, List.setIfInBounds_toArray, List.set_cons_zero, List.set_cons_succ]
    refine wpAnyH_take (i := 1) (v := .agg #[.int .i64 (atM q.l ki).id, .string (atM q.l ki).topic, .int .i64 kx, .int .i64 ix, .int .u64 bx, .string sx, .slice ax nx cx, .int .i64 (atM q.l ki).tat, .int .i64 (atM q.l ki).til, .string (atM q.l ki).reply, .int .i64 (atM q.l ki).corr, .int .i64 (atM q.l ki).prio, .int .i64 (atM q.l ki).hops]) rfl (by kernel_rfl) (by kernel_rfl) (by kernel_rfl) (fun _ _ _ h => h) (yieldsIf_load_mid (by rfl) 48 _ rfl (w6.heap.size) 0 (by rfl) [.int .i64 (atM q.l ki).id, .string (atM q.l ki).topic, .int .i64 kx, .int .i64 ix, .int .u64 bx, .string sx, .slice ax nx cx, .int .i64 (atM q.l ki).tat, .int .i64 (atM q.l ki).til, .string (atM q.l ki).reply, .int .i64 (atM q.l ki).corr, .int .i64 (atM q.l ki).prio, .int .i64 (atM q.l ki).hops] _ (fun w' h => Blk.range (pre := []) (post := []) h.2 rfl) Try.underlying48 rfl sizeM) hHeld ?_
    try simp only [Act.put, List.getElem_toArray, List.getElem_cons_zero, List.getElem_cons_succ, List.setIfInBounds_toArray, List.set_cons_zero, List.set_cons_succ]
    refine wpAnyH_ready (rs := [2]) (by kernel_rfl) (by simp) ?_
    refine AllReadyH.cons rfl (fun K hK => ?_) AllReadyH.nil
    refine step_store_blk (T := 46) (by rfl) 46 _ _ (by rfl) (w.heap.size + 1) 0 [] [.slice none 0 0, .int .i64 0, .int .i64 0] [] [.slice (some ⟨g5, 0, none⟩) (q.l.length - 1) c1, .int .i64 q.r, .int .i64 q.d] (by rfl) (by rfl) b2n.drew rfl rfl sizeI inb_one (fun wa r2 Ua => ?_)
    refine hK.out _ _ ⟨Ua.blk hHeld.1 (by omega), Ua.blk hHeld.2 (by omega)⟩ (fun hHeld2 => ?_)
    clear hHeld hK K
    have hHeld := hHeld2
    clear hHeld2
    try simp only [Act.put, List.getElem_toArray, List.getElem_cons_zero, List.getElem_cons_succ]
    have hR1 := Ua.blk b3n.drew (by omega)
    refine wpAnyH_ready (rs := [3]) (by kernel_rfl) (by simp) ?_
    refine AllReadyH.cons rfl (fun K hK => ?_) AllReadyH.nil
    refine step_store_blk (T := 48) (by rfl) 48 _ _ (by rfl) (w.heap.size + 2) 0 [] [.int .i64 0, .string ByteArray.empty, .int .i64 0, .int .i64 0, .int .u64 0, .string ByteArray.empty, .slice none 0 0, .int .i64 0, .int .i64 0, .string ByteArray.empty, .int .i64 0, .int .i64 0, .int .i64 0] [] [.int .i64 (atM q.l ki).id, .string (atM q.l ki).topic, .int .i64 kx, .int .i64 ix, .int .u64 bx, .string sx, .slice ax nx cx, .int .i64 (atM q.l ki).tat, .int .i64 (atM q.l ki).til, .string (atM q.l ki).reply, .int .i64 (atM q.l ki).corr, .int .i64 (atM q.l ki).prio, .int .i64 (atM q.l ki).hops] (by rfl) (by rfl) hR1 rfl rfl sizeM (by simp [Value.oneCell']) (fun wb r3 Ub => ?_)
    refine hK.out _ _ ⟨Ub.blk hHeld.1 (by omega), Ub.blk hHeld.2 (by omega)⟩ (fun hHeld2 => ?_)
    clear hHeld hK K
    have hHeld := hHeld2
    clear hHeld2
    try simp only [Act.put, List.getElem_toArray, List.getElem_cons_zero, List.getElem_cons_succ]
    replace r2 := Ub.blk r2 (by omega)
    refine wpAnyH_take (i := 4) (v := ?_) rfl (by kernel_rfl) (by kernel_rfl) (by kernel_rfl) (fun _ _ _ h => h) (Or.inl ⟨by rfl, ?_⟩) hHeld ?_
    rotate_left
    · intro w hSw
      first | (go_simp; done) | (go_simp; with_reducible rfl)
    try simp only [Act.put, List.getElem_toArray, List.getElem_cons_zero, List.getElem_cons_succ, List.setIfInBounds_toArray, List.set_cons_zero, List.set_cons_succ]
    refine wpAnyH_done (by kernel_rfl) ?_ _
    clear hHeld hR1
    go_wp2_with fail
    refine bodyPost_ret (res_cct rfl rfl (load_blk wb (w.heap.size + 1) 46 [.slice (some ⟨g5, 0, none⟩) (q.l.length - 1) c1, .int .i64 q.r, .int .i64 q.d] _ r2 Try.underlying46 rfl sizeI) rfl (load_blk wb (w.heap.size + 2) 48 [.int .i64 (atM q.l ki).id, .string (atM q.l ki).topic, .int .i64 kx, .int .i64 ix, .int .u64 bx, .string sx, .slice ax nx cx, .int .i64 (atM q.l ki).tat, .int .i64 (atM q.l ki).til, .string (atM q.l ki).reply, .int .i64 (atM q.l ki).corr, .int .i64 (atM q.l ki).prio, .int .i64 (atM q.l ki).hops] _ r3 Try.underlying48 rfl sizeM) rfl) rfl ?_
    rw [HQ.out]
    have hsb : wb.heap.size = w8.heap.size := by rw [Ub.size, Ua.size]; show (w8.setCell _ _).heap.size = _; simp
    have hfar : ∀ x, w.heap.size + 3 ≤ x → wb.heap[x]? = w8.heap[x]? := fun x hx => (Ub.far x (by omega)).trans ((Ua.far x (by omega)).trans (heap_set (p := ⟨w.heap.size, 0, none⟩) (by show x ≠ w.heap.size; omega)))
    refine ⟨some ⟨g5, 0, none⟩, q.l.length - 1, c1, kx, ix, bx, sx, ax, nx, cx, rfl, rows_end HR8.out (by omega) hfar (by omega), msg_end HX8.out HS8.out (by omega) hfar (by omega), ?_⟩
    exact (((B8.setCell (p := ⟨w.heap.size, 0, none⟩) (Nat.le_refl _) _).drew).trans (Ua.below _ (by omega))).trans (Ub.below _ (by omega))
end Go.Proofs.Ytmdcfmdjbncaoaa
