/- The buffer's program: Put. -/
import Derived.Test.YtmdcfmdjbncaoaaDoorBp
namespace Go.Proofs.YtmdcfmdjbncaoaaDoor
open Go.RowKit
attribute [local go_sem ↓] Go.wp_at_zero Go.wp_at_succ
attribute [local go_sem] Go.undef

/-- What Put does. -/
def putBuf (l : List MX) (since a now : Int) (m : MX) : (List MX × Int) × List MX :=
  if a ≤ (l.length : Int) + 1 then (([], 0), l ++ [m]) else ((l ++ [m], if (l.length : Int) = 0 then now else since), [])

set_option maxHeartbeats 16000000 in
set_option maxRecDepth 100000 in
theorem putbp_any (l : List MX) (since a0 now : Int) (m : MX) (cs : List Value) (a : Option Addr) (n c : Nat) (S : Nat → Prop) (w : World) (hrow : RM w S l a n c) (hS : ∀ x, S x → x < w.heap.size) (hsm : smallL l) (hn : n ≤ 1000) (hm : IsM w S m cs) (hz : m.body.size ≤ 4096) :
    Calls Tryd.prog 14 #[.agg #[.slice a n c, .int .i64 since], .int .i64 a0, .int .i64 now, .agg cs.toArray] w (BufPost w (putBuf l since a0 now m).1.1 (putBuf l since a0 now m).1.2 (putBuf l since a0 now m).2) := by
  obtain ⟨i0, hi0, hz0, hz1, hz2⟩ := info_parts infoM
  obtain rfl : n = l.length := hrow.1
  obtain ⟨k, i, b, s, am, nm, cm, rfl, hD, ht, hr⟩ := hm
  have HT := Lib.hid (And.intro ht hr)
  obtain ⟨X, hX⟩ : ∃ X, X = putBuf l since a0 now m := ⟨_, rfl⟩
  rw [← hX]
  have HXX := Lib.hid hX
  clear hX
  obtain ⟨W, hWd⟩ : ∃ W, W = ((w.alloc (.cells #[.slice a l.length c, .int .i64 since] 24)).alloc (.cells #[.int .i64 m.id, .string m.topic, .int .i64 k, .int .i64 i, .int .u64 b, .string s, .slice am nm cm, .int .i64 m.tat, .int .i64 m.til, .string m.reply, .int .i64 m.corr, .int .i64 m.prio, .int .i64 m.hops] 30)).alloc (.cells #[.slice none 0 0, .int .i64 0] 24) := ⟨_, rfl⟩
  have hW : Below w.heap.size w W := by rw [hWd]; go_grown
  have hsz : W.heap.size = w.heap.size + 3 := by rw [hWd]; simp
  have B0 : Hid (Blk W w.heap.size 24 #[.slice a l.length c, .int .i64 since]) := by show Blk _ _ _ _; rw [hWd]; exact ((Blk.new _ _ _).alloc _).alloc _
  have B1 : Hid (Blk W (w.heap.size + 1) 30 #[.int .i64 m.id, .string m.topic, .int .i64 k, .int .i64 i, .int .u64 b, .string s, .slice am nm cm, .int .i64 m.tat, .int .i64 m.til, .string m.reply, .int .i64 m.corr, .int .i64 m.prio, .int .i64 m.hops]) := by show Blk _ _ _ _; rw [hWd]; exact (Blk.new' _ _ _ (by simp)).alloc _
  have B2 : Hid (Blk W (w.heap.size + 2) 24 #[.slice none 0 0, .int .i64 0]) := by show Blk _ _ _ _; rw [hWd]; exact Blk.new' _ _ _ (by simp)
  have HC := Lib.hid (kept_any l since a l.length c S W (hrow.under hW hS) (fun x hx => by rw [hsz]; have := hS x hx; omega) hsm (by omega))
  have HD := Lib.hid hD
  have HS := Lib.hid hS
  have T0 := Lib.hid hW
  have HSZ := Lib.hid hsz
  have HWD := Lib.hid hWd
  clear hrow hS hsm hD ht hr hW hsz hWd
  go_enter Tryd.func14, Tryd.ntmps14
  go_upto_region 1 with fail
  show Code.wp _ _ _ _ (((w.alloc (.cells #[.slice a l.length c, .int .i64 since] 24)).alloc (.cells #[.int .i64 m.id, .string m.topic, .int .i64 k, .int .i64 i, .int .u64 b, .string s, .slice am nm cm, .int .i64 m.tat, .int .i64 m.til, .string m.reply, .int .i64 m.corr, .int .i64 m.prio, .int .i64 m.hops] 30)).alloc (.cells #[.slice none 0 0, .int .i64 0] 24))
  rw [← HWD.out]
  go_wp2_with (refine wpList_load_blk rfl 24 _ rfl (w.heap.size) 0 rfl [.slice a l.length c, .int .i64 since] _ (Blk.range (pre := []) (post := []) B0.out rfl) Tryd.underlying24 rfl sizeB ?_)
  refine HC.out.mono ?_
  rintro e w1 ⟨a1, c1, rfl, ⟨S1, css1, hown⟩, hb1⟩
  replace B0 := Lib.hid (Blk.under B0.out hb1 (Blk.lt B0.out))
  replace B1 := Lib.hid (Blk.under B1.out hb1 (Blk.lt B1.out))
  replace B2 := Lib.hid (Blk.under B2.out hb1 (Blk.lt B2.out))
  have T1 := Lib.hid (below_on hb1 T0.out)
  have hs1 := hb1.size
  rw [HSZ.out] at hs1 hown
  have HOWN1 := Lib.hid hown
  clear hown HC hb1 HWD T0
  go_upto_region 2 with (refine wpList_store_blk (T := 24) rfl 24 _ _ rfl (w.heap.size) 0 [] [.slice a l.length c, .int .i64 since] [] [.slice a1 l.length c1, .int .i64 since] rfl rfl B0.out rfl rfl sizeB buf_one' ?_; intro w2 b0 U2)
  have B0' := Lib.hid b0
  have B1' := Lib.hid (U2.blk B1.out (by omega))
  have B2' := Lib.hid (U2.blk B2.out (by omega))
  have T2 : Hid (Below w.heap.size w w2) := Below.trans T1.out (U2.below _ (Nat.le_refl _))
  have hs2 : w.heap.size + 3 ≤ w2.heap.size := by rw [U2.size]; exact hs1
  have HOWN2 : Hid (OwnE IsN 30 13 w2 (w.heap.size + 3) l (.slice a1 l.length c1) S1 css1) := HOWN1.out.keep keepsN (by rw [U2.size]; exact Nat.le_refl _) fun x hx => U2.far x (by
    rcases hx with hx | hx
    · have := (HOWN1.out.far x hx).1; omega
    · have := (HOWN1.out.far_lt x hx).1; omega)
  have c0 : w2.cell? ⟨w.heap.size, 0, none⟩ = some (.slice a1 l.length c1) := Blk.cell B0'.out 0
  have f1 : w2.frozen? ⟨w.heap.size, 1, none⟩ = false := Blk.free B0'.out 1
  have c1' : w2.cell? ⟨w.heap.size, 1, none⟩ = some (.int .i64 since) := Blk.cell B0'.out 1
  clear b0 U2 HOWN1 B0 B1 B2 T1
  by_cases h2 : (l.length : Int) = 0
  · have e2 : ((l.length : Int) == 0) = true := by rw [h2]; rfl
    have H2 : Hid ((if (l.length : Int) = 0 then now else since) = now) := if_pos h2
    clear h2
    go_upto_region 4 with fail
    obtain ⟨w3, hw3⟩ : ∃ w3, w3 = w2.setCell ⟨w.heap.size, 1, none⟩ (.int .i64 now) := ⟨_, rfl⟩
    obtain ⟨sN, hsN⟩ : ∃ sN, sN = now := ⟨_, rfl⟩
    have B0 : Hid (Blk w3 w.heap.size 24 #[.slice a1 l.length c1, .int .i64 sN]) := by show Blk _ _ _ _; rw [hw3, hsN]; exact B0'.out.set 1 _
    have B1 : Hid (Blk w3 (w.heap.size + 1) 30 #[.int .i64 m.id, .string m.topic, .int .i64 k, .int .i64 i, .int .u64 b, .string s, .slice am nm cm, .int .i64 m.tat, .int .i64 m.til, .string m.reply, .int .i64 m.corr, .int .i64 m.prio, .int .i64 m.hops]) := by show Blk _ _ _ _; rw [hw3]; exact B1'.out.far (by simp) _
    have B2 : Hid (Blk w3 (w.heap.size + 2) 24 #[.slice none 0 0, .int .i64 0]) := by show Blk _ _ _ _; rw [hw3]; exact B2'.out.far (by simp) _
    have hs3 : w3.heap.size = w2.heap.size := by rw [hw3]; simp
    have hf3 : ∀ x, x ≠ w.heap.size → w3.heap[x]? = w2.heap[x]? := fun x hx => by rw [hw3]; exact heap_set (p := ⟨w.heap.size, 1, none⟩) hx
    have T3 : Hid (Below w.heap.size w w3) := by show Below _ _ _; rw [hw3]; exact T2.out.setCell (Nat.le_refl _) _
    have HSN : Hid ((if (l.length : Int) = 0 then now else since) = sN) := H2.out.trans hsN.symm
    rw [← hw3]
    clear hw3 hsN c0 f1 c1' e2 B0' B1' B2' T2 H2
    have HOWN3 : Hid (OwnE IsN 30 13 w3 (w.heap.size + 3) l (.slice a1 l.length c1) S1 css1) := HOWN2.out.keep keepsN (by omega) fun x hx => hf3 x (by
      rcases hx with hx | hx
      · have := (HOWN2.out.far x hx).1; omega
      · have := (HOWN2.out.far_lt x hx).1; omega)
    have hz3 : w.heap.size + 3 ≤ w3.heap.size := by omega
    have HB := Lib.hid (own_buffer _ m.body (Nat.le_refl _) hz w3 S _ (HD.out.under T3.out HS.out) (fun x hx => by have := HS.out x hx; omega))
    clear hf3 HOWN2 hs3 hs2 hs1
    go_wp2_with (refine wpList_load_blk rfl 28 _ rfl (w.heap.size + 1) 2 rfl [.int .i64 k, .int .i64 i, .int .u64 b, .string s, .slice am nm cm] _ (Blk.range (pre := [.int .i64 m.id, .string m.topic]) (post := [.int .i64 m.tat, .int .i64 m.til, .string m.reply, .int .i64 m.corr, .int .i64 m.prio, .int .i64 m.hops]) B1.out rfl) Tryd.underlying28 rfl sizeDt ?_)
    refine HB.out.mono ?_
    rintro e w4 ⟨k3, i3, b3, s3, a3, n3, c3, xs3, rfl, hD3, hO3, hb4⟩
    have HF3 := Lib.hid (FreeL.of_own (cs := [.int .i64 m.id, .string m.topic, .int .i64 k3, .int .i64 i3, .int .u64 b3, .string s3, .slice a3 n3 c3, .int .i64 m.tat, .int .i64 m.til, .string m.reply, .int .i64 m.corr, .int .i64 m.prio, .int .i64 m.hops]) hO3 rfl)
    clear hO3
    replace B0 := Lib.hid (Blk.under B0.out hb4 (Blk.lt B0.out))
    replace B1 := Lib.hid (Blk.under B1.out hb4 (Blk.lt B1.out))
    replace B2 := Lib.hid (Blk.under B2.out hb4 (Blk.lt B2.out))
    have T4 := Lib.hid (below_on hb4 T3.out)
    have hs4 := hb4.size
    have HD3 := Lib.hid hD3
    have HOWN4 := Lib.hid (HOWN3.out.below keepsN hb4 (Nat.le_refl _))
    clear hD3 hb4 HB T3
    go_upto_region 5 with (refine wpList_store_blk (T := 30) rfl 28 _ _ rfl (w.heap.size + 1) 2 [.int .i64 m.id, .string m.topic] [.int .i64 k, .int .i64 i, .int .u64 b, .string s, .slice am nm cm] [.int .i64 m.tat, .int .i64 m.til, .string m.reply, .int .i64 m.corr, .int .i64 m.prio, .int .i64 m.hops] [.int .i64 k3, .int .i64 i3, .int .u64 b3, .string s3, .slice a3 n3 c3] rfl rfl B1.out rfl rfl sizeDt IsD.one5 ?_; intro w5 b1 U5)
    have B0' := Lib.hid (U5.blk B0.out (by omega))
    have B2' := Lib.hid (U5.blk B2.out (by omega))
    have HB1 := Lib.hid b1
    have T5 : Hid (Below w.heap.size w w5) := Below.trans T4.out (U5.below _ (by omega))
    have hs5 : w5.heap.size = w4.heap.size := U5.size
    have HOWN5 : Hid (OwnE IsN 30 13 w5 (w.heap.size + 3) l (.slice a1 l.length c1) S1 css1) := HOWN4.out.keep keepsN (by omega) fun x hx => U5.far x (by
      rcases hx with hx | hx
      · have := (HOWN4.out.far x hx).1; omega
      · have := (HOWN4.out.far_lt x hx).1; omega)
    have HM5 : Hid (IsN w5 (Btw w3.heap.size w4.heap.size) m [.int .i64 m.id, .string m.topic, .int .i64 k3, .int .i64 i3, .int .u64 b3, .string s3, .slice a3 n3 c3, .int .i64 m.tat, .int .i64 m.til, .string m.reply, .int .i64 m.corr, .int .i64 m.prio, .int .i64 m.hops]) := ⟨⟨k3, i3, b3, s3, a3, n3, c3, rfl, HD3.out.keep (fun _ h => h) fun x hx j => U5.cell (by have := hx.1; omega), HT.out.1, HT.out.2⟩, HF3.out.keep (fun _ h => h) fun x hx => U5.far x (by have := hx.1; omega)⟩
    have HROW5 : Hid (w5.ownsRow (w.heap.size + 3) 30 13 (.slice a1 l.length c1) l.length css1.flatten) := HOWN5.out.row
    have hfar5 : ∀ x, Btw w3.heap.size w4.heap.size x → w.heap.size + 3 ≤ x ∧ x < w5.heap.size ∧ (Value.slice a1 l.length c1).ownBlock ≠ some x := fun x hx => ⟨by have := hx.1; omega, by rw [hs5]; exact hx.2, fun h => by have h1 := (HOWN3.out.far_lt x h).2; have := hx.1; omega⟩
    have HFAR5 := Lib.hid hfar5
    have c0 : w5.cell? ⟨w.heap.size, 0, none⟩ = some (.slice a1 l.length c1) := Blk.cell B0'.out 0
    have hneB : (Value.slice a1 l.length c1).ownBlock ≠ some w.heap.size := fun h => by have := (HOWN5.out.far_lt _ h).1; omega
    have hneB2 : (Value.slice a1 l.length c1).ownBlock ≠ some (w.heap.size + 2) := fun h => by have := (HOWN5.out.far_lt _ h).1; omega
    have hl0 : w.heap.size < w5.heap.size := by omega
    have hbs : w.heap.size + 3 ≤ w5.heap.size := by omega
    have HNE := Lib.hid (And.intro hneB hneB2)
    have HS5 := Lib.hid hs5
    clear b1 U5 HOWN3 HOWN4 HD3 B0 B1 B2 T4 hfar5 hneB hneB2 hs5
    go_upto_region 6 with (first
      | (refine wpList_load_blk rfl 30 _ rfl (w.heap.size + 1) 0 rfl [.int .i64 m.id, .string m.topic, .int .i64 k3, .int .i64 i3, .int .u64 b3, .string s3, .slice a3 n3 c3, .int .i64 m.tat, .int .i64 m.til, .string m.reply, .int .i64 m.corr, .int .i64 m.prio, .int .i64 m.hops] _ (Blk.range (pre := []) (post := []) HB1.out rfl) Tryd.underlying30 rfl sizeM ?_)
      | (at_builtin
         go_loud (refine wpList_append_lies _ rfl _ _ _ rfl (w.heap.size + 3) 30 i0 _ 13 144 Tryd.underlying22 hi0 hz0 hz1 hz2 rfl (by omega) _ l.length css1.flatten rfl (HROW5.out.alloc _)
                            ⟨w5.heap.size, 0, none⟩ 1 1 [.int .i64 m.id, .string m.topic, .int .i64 k3, .int .i64 i3, .int .u64 b3, .string s3, .slice a3 n3 c3, .int .i64 m.tat, .int .i64 m.til, .string m.reply, .int .i64 m.corr, .int .i64 m.prio, .int .i64 m.hops] rfl rfl (World.news_of_block (cs := #[.int .i64 m.id, .string m.topic, .int .i64 k3, .int .i64 i3, .int .u64 b3, .string s3, .slice a3 n3 c3, .int .i64 m.tat, .int .i64 m.til, .string m.reply, .int .i64 m.corr, .int .i64 m.prio, .int .i64 m.hops]) (t := 30) (fr := (0, 0)) (heap_alloc_new w5 _)) HM5.out.one (by omega) (by unfold maxLen; omega) (by omega) (by simp; omega) (w5.heap.size + 1) (by simp) ?_)
         intro g5 cap5 w6 hown6 hgrow6 hat6 hlt6
         have HO6 := Lib.hid hown6
         have HG6 := Lib.hid hgrow6
         have HAT6 := Lib.hid hat6
         clear hown6 hat6
         have c6 : w6.cell? ⟨w.heap.size, 0, none⟩ = some (.slice a1 l.length c1) := (far_cell hgrow6 hl0 HNE.out.1).trans c0
         have f6 : w6.frozen? ⟨w.heap.size, 0, none⟩ = false := (far_free hgrow6 hl0 HNE.out.1).trans (B0'.out.free 0)
         clear hgrow6))
    have hs5 := HS5.out
    have hR := OwnE.snoc keepsN HOWN5.out HM5.out rfl HFAR5.out HO6.out rfl HG6.out HAT6.out
    have hg5 : w.heap.size + 3 ≤ g5 := by have := hR.far_lt g5 rfl; exact this.1
    obtain ⟨w7, hw7⟩ : ∃ w7, w7 = w6.setCell ⟨w.heap.size, 0, none⟩ (.slice (some ⟨g5, 0, none⟩) (l.length + 1) cap5) := ⟨_, rfl⟩
    have s6 : w5.heap.size + 1 ≤ w6.heap.size := by have := HG6.out.size; simpa using this
    have hs7 : w7.heap.size = w6.heap.size := by rw [hw7]; simp
    have D0 : Hid (Blk w7 w.heap.size 24 #[.slice (some ⟨g5, 0, none⟩) (l.length + 1) cap5, .int .i64 sN]) := by show Blk _ _ _ _; rw [hw7]; exact Blk.set (i := 0) ((far_block HG6.out hl0 HNE.out.1).trans B0'.out) _
    have D2 : Hid (Blk w7 (w.heap.size + 2) 24 #[.slice none 0 0, .int .i64 0]) := by show Blk _ _ _ _; rw [hw7]; exact Blk.far ((far_block HG6.out (by omega) HNE.out.2).trans B2'.out) (by simp) _
    have HO7 : Hid (OwnM w7 (w.heap.size + 3) (l ++ [m]) (.slice (some ⟨g5, 0, none⟩) (l.length + 1) cap5)) := by show OwnM _ _ _ _; rw [hw7]; exact OwnM.set ⟨_, _, hR⟩ (by show w.heap.size < w.heap.size + 3; omega) _
    have T7 : Hid (Below w.heap.size w w7) := by show Below _ _ _; rw [hw7]; exact ((T5.out.alloc (by omega) _).grown HG6.out (by simp; omega) (fun q hq => by have := (HOWN5.out.far_lt q hq).1; omega)).setCell (Nat.le_refl _) _
    have c7 : w7.cell? ⟨w.heap.size, 0, none⟩ = some (.slice (some ⟨g5, 0, none⟩) (l.length + 1) cap5) := Blk.cell D0.out 0
    have hlen : (l ++ [m]).length = l.length + 1 := by simp
    have HLEN := Lib.hid hlen
    rw [← hw7]
    clear hw7 hR c6 f6 c0 B0' B2' HB1 HO6 HG6 HAT6 HOWN5 HM5 HROW5 HFAR5 T5 hlen
    by_cases h7 : a0 ≤ (l.length : Int) + 1
    · have hX2 : putBuf l since a0 now m = (([], 0), l ++ [m]) := by rw [putBuf, if_pos h7]
      obtain rfl := HXX.out.trans hX2
      clear hX2
      go_upto_region 7 with fail
      refine wp_region_held_drew (S := (fun w' => Blk w' (w.heap.size) 24 #[.slice (some ⟨g5, 0, none⟩) (l.length + 1) cap5, .int .i64 sN])) (by kernel_rfl) ?_ (fun hHeld => ?_)
      · exact D0.out.drew
      refine wpAnyH_take (i := 0) (v := ?_) rfl (by kernel_rfl) (by kernel_rfl) (by kernel_rfl) (fun _ _ _ h => h) (Or.inl ⟨by rfl, ?_⟩) hHeld ?_
      rotate_left
      · intro w hSw
        try dsimp only at hSw
        first | (go_simp; done) | (go_simp; with_reducible rfl)
      try simp only [Act.put, List.getElem_toArray, List.getElem_cons_zero, List.setIfInBounds_toArray, List.set_cons_zero, List.set_cons_succ]
      refine wpAnyH_take (i := 1) (v := ?_) rfl (by kernel_rfl) (by kernel_rfl) (by kernel_rfl) (fun _ _ _ h => h) (Or.inl ⟨by rfl, ?_⟩) hHeld ?_
      rotate_left
      · intro w hSw
        try dsimp only at hSw
        first | (go_simp; done) | (go_simp; with_reducible rfl)
      try simp only [Act.put, List.getElem_toArray, List.getElem_cons_zero, List.getElem_cons_succ, List.setIfInBounds_toArray, List.set_cons_zero, List.set_cons_succ]
      refine wpAnyH_take (i := 2) (v := .slice (some ⟨g5, 0, none⟩) (l.length + 1) cap5) rfl (by kernel_rfl) (by kernel_rfl) (by kernel_rfl) (fun _ _ _ h => h) (Or.inl ⟨by rfl, ?_⟩) hHeld ?_
      · intro w hSw
        have h4 := Blk.cell hSw 0
        first | (go_simp; done) | (go_simp; with_reducible rfl)
      try simp only [Act.put, List.getElem_toArray, List.getElem_cons_zero, List.getElem_cons_succ, List.setIfInBounds_toArray, List.set_cons_zero, List.set_cons_succ]
      have bR := D2.out.drew
      refine wpAnyH_ready (rs := [3]) (by kernel_rfl) (by simp) ?_
      refine AllReadyH.cons rfl (fun K hK => ?_) AllReadyH.nil
      refine step_store_blk (T := 24) (by rfl) 24 _ _ (by rfl) (w.heap.size + 2) 0 [] [.slice none 0 0, .int .i64 0] [] [.slice none 0 0, .int .i64 0] (by rfl) (by rfl) bR rfl rfl sizeB buf_one' (fun w8 br U8 => ?_)
      refine hK.out _ _ (U8.blk hHeld (by omega)) (fun hHeld2 => ?_)
      clear hHeld hK K
      have hHeld := hHeld2
      clear hHeld2
      try simp only [Act.put, List.getElem_toArray, List.getElem_cons_zero, List.getElem_cons_succ]
      refine wpAnyH_take (i := 4) (v := ?_) rfl (by kernel_rfl) (by kernel_rfl) (by kernel_rfl) (fun _ _ _ h => h) (Or.inl ⟨by rfl, ?_⟩) hHeld ?_
      rotate_left
      · intro w hSw
        try dsimp only at hSw
        first | (go_simp; done) | (go_simp; with_reducible rfl)
      try simp only [Act.put, List.getElem_toArray, List.getElem_cons_zero, List.getElem_cons_succ, List.setIfInBounds_toArray, List.set_cons_zero, List.set_cons_succ]
      refine wpAnyH_done (by kernel_rfl) ?_ _
      clear hHeld bR
      go_wp2_with fail
      refine bodyPost_ret (res_ct rfl rfl (load_blk w8 (w.heap.size + 2) 24 [.slice none 0 0, .int .i64 0] _ br Tryd.underlying24 rfl sizeB) rfl) rfl ?_
      have o0 : OwnM w7.drew (w.heap.size + 3) (l ++ [m]) (.slice (some ⟨g5, 0, none⟩) (l.length + 1) cap5) := OwnM.keep HO7.out (Nat.le_refl _) (fun _ _ _ => rfl)
      have o1 : OwnM w8 w.heap.size (l ++ [m]) (.slice (some ⟨g5, 0, none⟩) (l.length + 1) cap5) := OwnM.mono (B := w.heap.size + 3) (OwnM.upd (g := w.heap.size + 2) o0 U8 (by omega)) (by omega)
      exact ⟨none, 0, some ⟨g5, 0, none⟩, cap5, by show _ = Ending.returned (.tuple #[.agg #[.slice none 0 0, .int .i64 0], .slice (some ⟨g5, 0, none⟩) (l ++ [m]).length cap5]); rw [HLEN.out]; rfl, OwnM.nil _ _, by show OwnM _ _ (l ++ [m]) (.slice (some ⟨g5, 0, none⟩) (l ++ [m]).length cap5); rw [HLEN.out]; exact o1, T7.out.drew.trans (U8.below _ (by omega))⟩
    · have hX2 : putBuf l since a0 now m = ((l ++ [m], sN), []) := by rw [putBuf, if_neg h7, HSN.out]
      obtain rfl := HXX.out.trans hX2
      clear hX2
      go_wp2_with (first
        | (refine wpList_load_blk rfl 24 _ rfl (w.heap.size) 0 rfl [.slice (some ⟨g5, 0, none⟩) (l.length + 1) cap5, .int .i64 sN] _ (Blk.range (pre := []) (post := []) D0.out rfl) Tryd.underlying24 rfl sizeB ?_)
        | (refine wpList_store_blk (T := 24) rfl 24 _ _ rfl (w.heap.size + 2) 0 [] [.slice none 0 0, .int .i64 0] [] [.slice (some ⟨g5, 0, none⟩) (l.length + 1) cap5, .int .i64 sN] rfl rfl D2.out rfl rfl sizeB buf_one' ?_; intro w8 br U8))
      refine bodyPost_ret (res_ct rfl rfl (load_blk w8 (w.heap.size + 2) 24 [.slice (some ⟨g5, 0, none⟩) (l.length + 1) cap5, .int .i64 sN] _ br Tryd.underlying24 rfl sizeB) rfl) rfl ?_
      have o1 : OwnM w8 w.heap.size (l ++ [m]) (.slice (some ⟨g5, 0, none⟩) (l.length + 1) cap5) := OwnM.mono (B := w.heap.size + 3) (OwnM.upd (B := w.heap.size + 3) HO7.out U8 (by omega)) (by omega)
      exact ⟨some ⟨g5, 0, none⟩, cap5, none, 0, by show _ = Ending.returned (.tuple #[.agg #[.slice (some ⟨g5, 0, none⟩) (l ++ [m]).length cap5, .int .i64 sN], .slice none 0 0]); rw [HLEN.out]; rfl, by show OwnM _ _ (l ++ [m]) (.slice (some ⟨g5, 0, none⟩) (l ++ [m]).length cap5); rw [HLEN.out]; exact o1, OwnM.nil _ _, T7.out.trans (U8.below _ (by omega))⟩
  · have e2 : ((l.length : Int) == 0) = false := beq_eq_false_iff_ne.2 h2
    have H2 : Hid ((if (l.length : Int) = 0 then now else since) = since) := if_neg h2
    clear h2
    go_upto_region 4 with fail
    obtain ⟨w3, hw3⟩ : ∃ w3, w3 = w2 := ⟨_, rfl⟩
    obtain ⟨sN, hsN⟩ : ∃ sN, sN = since := ⟨_, rfl⟩
    have B0 : Hid (Blk w3 w.heap.size 24 #[.slice a1 l.length c1, .int .i64 sN]) := by show Blk _ _ _ _; rw [hw3, hsN]; exact B0'.out
    have B1 : Hid (Blk w3 (w.heap.size + 1) 30 #[.int .i64 m.id, .string m.topic, .int .i64 k, .int .i64 i, .int .u64 b, .string s, .slice am nm cm, .int .i64 m.tat, .int .i64 m.til, .string m.reply, .int .i64 m.corr, .int .i64 m.prio, .int .i64 m.hops]) := by show Blk _ _ _ _; rw [hw3]; exact B1'.out
    have B2 : Hid (Blk w3 (w.heap.size + 2) 24 #[.slice none 0 0, .int .i64 0]) := by show Blk _ _ _ _; rw [hw3]; exact B2'.out
    have hs3 : w3.heap.size = w2.heap.size := by rw [hw3]
    have hf3 : ∀ x, x ≠ w.heap.size → w3.heap[x]? = w2.heap[x]? := fun x hx => by rw [hw3]
    have T3 : Hid (Below w.heap.size w w3) := by show Below _ _ _; rw [hw3]; exact T2.out
    have HSN : Hid ((if (l.length : Int) = 0 then now else since) = sN) := H2.out.trans hsN.symm
    rw [← hw3]
    clear hw3 hsN c0 f1 c1' e2 B0' B1' B2' T2 H2
    have HOWN3 : Hid (OwnE IsN 30 13 w3 (w.heap.size + 3) l (.slice a1 l.length c1) S1 css1) := HOWN2.out.keep keepsN (by omega) fun x hx => hf3 x (by
      rcases hx with hx | hx
      · have := (HOWN2.out.far x hx).1; omega
      · have := (HOWN2.out.far_lt x hx).1; omega)
    have hz3 : w.heap.size + 3 ≤ w3.heap.size := by omega
    have HB := Lib.hid (own_buffer _ m.body (Nat.le_refl _) hz w3 S _ (HD.out.under T3.out HS.out) (fun x hx => by have := HS.out x hx; omega))
    clear hf3 HOWN2 hs3 hs2 hs1
    go_wp2_with (refine wpList_load_blk rfl 28 _ rfl (w.heap.size + 1) 2 rfl [.int .i64 k, .int .i64 i, .int .u64 b, .string s, .slice am nm cm] _ (Blk.range (pre := [.int .i64 m.id, .string m.topic]) (post := [.int .i64 m.tat, .int .i64 m.til, .string m.reply, .int .i64 m.corr, .int .i64 m.prio, .int .i64 m.hops]) B1.out rfl) Tryd.underlying28 rfl sizeDt ?_)
    refine HB.out.mono ?_
    rintro e w4 ⟨k3, i3, b3, s3, a3, n3, c3, xs3, rfl, hD3, hO3, hb4⟩
    have HF3 := Lib.hid (FreeL.of_own (cs := [.int .i64 m.id, .string m.topic, .int .i64 k3, .int .i64 i3, .int .u64 b3, .string s3, .slice a3 n3 c3, .int .i64 m.tat, .int .i64 m.til, .string m.reply, .int .i64 m.corr, .int .i64 m.prio, .int .i64 m.hops]) hO3 rfl)
    clear hO3
    replace B0 := Lib.hid (Blk.under B0.out hb4 (Blk.lt B0.out))
    replace B1 := Lib.hid (Blk.under B1.out hb4 (Blk.lt B1.out))
    replace B2 := Lib.hid (Blk.under B2.out hb4 (Blk.lt B2.out))
    have T4 := Lib.hid (below_on hb4 T3.out)
    have hs4 := hb4.size
    have HD3 := Lib.hid hD3
    have HOWN4 := Lib.hid (HOWN3.out.below keepsN hb4 (Nat.le_refl _))
    clear hD3 hb4 HB T3
    go_upto_region 5 with (refine wpList_store_blk (T := 30) rfl 28 _ _ rfl (w.heap.size + 1) 2 [.int .i64 m.id, .string m.topic] [.int .i64 k, .int .i64 i, .int .u64 b, .string s, .slice am nm cm] [.int .i64 m.tat, .int .i64 m.til, .string m.reply, .int .i64 m.corr, .int .i64 m.prio, .int .i64 m.hops] [.int .i64 k3, .int .i64 i3, .int .u64 b3, .string s3, .slice a3 n3 c3] rfl rfl B1.out rfl rfl sizeDt IsD.one5 ?_; intro w5 b1 U5)
    have B0' := Lib.hid (U5.blk B0.out (by omega))
    have B2' := Lib.hid (U5.blk B2.out (by omega))
    have HB1 := Lib.hid b1
    have T5 : Hid (Below w.heap.size w w5) := Below.trans T4.out (U5.below _ (by omega))
    have hs5 : w5.heap.size = w4.heap.size := U5.size
    have HOWN5 : Hid (OwnE IsN 30 13 w5 (w.heap.size + 3) l (.slice a1 l.length c1) S1 css1) := HOWN4.out.keep keepsN (by omega) fun x hx => U5.far x (by
      rcases hx with hx | hx
      · have := (HOWN4.out.far x hx).1; omega
      · have := (HOWN4.out.far_lt x hx).1; omega)
    have HM5 : Hid (IsN w5 (Btw w3.heap.size w4.heap.size) m [.int .i64 m.id, .string m.topic, .int .i64 k3, .int .i64 i3, .int .u64 b3, .string s3, .slice a3 n3 c3, .int .i64 m.tat, .int .i64 m.til, .string m.reply, .int .i64 m.corr, .int .i64 m.prio, .int .i64 m.hops]) := ⟨⟨k3, i3, b3, s3, a3, n3, c3, rfl, HD3.out.keep (fun _ h => h) fun x hx j => U5.cell (by have := hx.1; omega), HT.out.1, HT.out.2⟩, HF3.out.keep (fun _ h => h) fun x hx => U5.far x (by have := hx.1; omega)⟩
    have HROW5 : Hid (w5.ownsRow (w.heap.size + 3) 30 13 (.slice a1 l.length c1) l.length css1.flatten) := HOWN5.out.row
    have hfar5 : ∀ x, Btw w3.heap.size w4.heap.size x → w.heap.size + 3 ≤ x ∧ x < w5.heap.size ∧ (Value.slice a1 l.length c1).ownBlock ≠ some x := fun x hx => ⟨by have := hx.1; omega, by rw [hs5]; exact hx.2, fun h => by have h1 := (HOWN3.out.far_lt x h).2; have := hx.1; omega⟩
    have HFAR5 := Lib.hid hfar5
    have c0 : w5.cell? ⟨w.heap.size, 0, none⟩ = some (.slice a1 l.length c1) := Blk.cell B0'.out 0
    have hneB : (Value.slice a1 l.length c1).ownBlock ≠ some w.heap.size := fun h => by have := (HOWN5.out.far_lt _ h).1; omega
    have hneB2 : (Value.slice a1 l.length c1).ownBlock ≠ some (w.heap.size + 2) := fun h => by have := (HOWN5.out.far_lt _ h).1; omega
    have hl0 : w.heap.size < w5.heap.size := by omega
    have hbs : w.heap.size + 3 ≤ w5.heap.size := by omega
    have HNE := Lib.hid (And.intro hneB hneB2)
    have HS5 := Lib.hid hs5
    clear b1 U5 HOWN3 HOWN4 HD3 B0 B1 B2 T4 hfar5 hneB hneB2 hs5
    go_upto_region 6 with (first
      | (refine wpList_load_blk rfl 30 _ rfl (w.heap.size + 1) 0 rfl [.int .i64 m.id, .string m.topic, .int .i64 k3, .int .i64 i3, .int .u64 b3, .string s3, .slice a3 n3 c3, .int .i64 m.tat, .int .i64 m.til, .string m.reply, .int .i64 m.corr, .int .i64 m.prio, .int .i64 m.hops] _ (Blk.range (pre := []) (post := []) HB1.out rfl) Tryd.underlying30 rfl sizeM ?_)
      | (at_builtin
         go_loud (refine wpList_append_lies _ rfl _ _ _ rfl (w.heap.size + 3) 30 i0 _ 13 144 Tryd.underlying22 hi0 hz0 hz1 hz2 rfl (by omega) _ l.length css1.flatten rfl (HROW5.out.alloc _)
                            ⟨w5.heap.size, 0, none⟩ 1 1 [.int .i64 m.id, .string m.topic, .int .i64 k3, .int .i64 i3, .int .u64 b3, .string s3, .slice a3 n3 c3, .int .i64 m.tat, .int .i64 m.til, .string m.reply, .int .i64 m.corr, .int .i64 m.prio, .int .i64 m.hops] rfl rfl (World.news_of_block (cs := #[.int .i64 m.id, .string m.topic, .int .i64 k3, .int .i64 i3, .int .u64 b3, .string s3, .slice a3 n3 c3, .int .i64 m.tat, .int .i64 m.til, .string m.reply, .int .i64 m.corr, .int .i64 m.prio, .int .i64 m.hops]) (t := 30) (fr := (0, 0)) (heap_alloc_new w5 _)) HM5.out.one (by omega) (by unfold maxLen; omega) (by omega) (by simp; omega) (w5.heap.size + 1) (by simp) ?_)
         intro g5 cap5 w6 hown6 hgrow6 hat6 hlt6
         have HO6 := Lib.hid hown6
         have HG6 := Lib.hid hgrow6
         have HAT6 := Lib.hid hat6
         clear hown6 hat6
         have c6 : w6.cell? ⟨w.heap.size, 0, none⟩ = some (.slice a1 l.length c1) := (far_cell hgrow6 hl0 HNE.out.1).trans c0
         have f6 : w6.frozen? ⟨w.heap.size, 0, none⟩ = false := (far_free hgrow6 hl0 HNE.out.1).trans (B0'.out.free 0)
         clear hgrow6))
    have hs5 := HS5.out
    have hR := OwnE.snoc keepsN HOWN5.out HM5.out rfl HFAR5.out HO6.out rfl HG6.out HAT6.out
    have hg5 : w.heap.size + 3 ≤ g5 := by have := hR.far_lt g5 rfl; exact this.1
    obtain ⟨w7, hw7⟩ : ∃ w7, w7 = w6.setCell ⟨w.heap.size, 0, none⟩ (.slice (some ⟨g5, 0, none⟩) (l.length + 1) cap5) := ⟨_, rfl⟩
    have s6 : w5.heap.size + 1 ≤ w6.heap.size := by have := HG6.out.size; simpa using this
    have hs7 : w7.heap.size = w6.heap.size := by rw [hw7]; simp
    have D0 : Hid (Blk w7 w.heap.size 24 #[.slice (some ⟨g5, 0, none⟩) (l.length + 1) cap5, .int .i64 sN]) := by show Blk _ _ _ _; rw [hw7]; exact Blk.set (i := 0) ((far_block HG6.out hl0 HNE.out.1).trans B0'.out) _
    have D2 : Hid (Blk w7 (w.heap.size + 2) 24 #[.slice none 0 0, .int .i64 0]) := by show Blk _ _ _ _; rw [hw7]; exact Blk.far ((far_block HG6.out (by omega) HNE.out.2).trans B2'.out) (by simp) _
    have HO7 : Hid (OwnM w7 (w.heap.size + 3) (l ++ [m]) (.slice (some ⟨g5, 0, none⟩) (l.length + 1) cap5)) := by show OwnM _ _ _ _; rw [hw7]; exact OwnM.set ⟨_, _, hR⟩ (by show w.heap.size < w.heap.size + 3; omega) _
    have T7 : Hid (Below w.heap.size w w7) := by show Below _ _ _; rw [hw7]; exact ((T5.out.alloc (by omega) _).grown HG6.out (by simp; omega) (fun q hq => by have := (HOWN5.out.far_lt q hq).1; omega)).setCell (Nat.le_refl _) _
    have c7 : w7.cell? ⟨w.heap.size, 0, none⟩ = some (.slice (some ⟨g5, 0, none⟩) (l.length + 1) cap5) := Blk.cell D0.out 0
    have hlen : (l ++ [m]).length = l.length + 1 := by simp
    have HLEN := Lib.hid hlen
    rw [← hw7]
    clear hw7 hR c6 f6 c0 B0' B2' HB1 HO6 HG6 HAT6 HOWN5 HM5 HROW5 HFAR5 T5 hlen
    by_cases h7 : a0 ≤ (l.length : Int) + 1
    · have hX2 : putBuf l since a0 now m = (([], 0), l ++ [m]) := by rw [putBuf, if_pos h7]
      obtain rfl := HXX.out.trans hX2
      clear hX2
      go_upto_region 7 with fail
      refine wp_region_held_drew (S := (fun w' => Blk w' (w.heap.size) 24 #[.slice (some ⟨g5, 0, none⟩) (l.length + 1) cap5, .int .i64 sN])) (by kernel_rfl) ?_ (fun hHeld => ?_)
      · exact D0.out.drew
      refine wpAnyH_take (i := 0) (v := ?_) rfl (by kernel_rfl) (by kernel_rfl) (by kernel_rfl) (fun _ _ _ h => h) (Or.inl ⟨by rfl, ?_⟩) hHeld ?_
      rotate_left
      · intro w hSw
        try dsimp only at hSw
        first | (go_simp; done) | (go_simp; with_reducible rfl)
      try simp only [Act.put, List.getElem_toArray, List.getElem_cons_zero, List.setIfInBounds_toArray, List.set_cons_zero, List.set_cons_succ]
      refine wpAnyH_take (i := 1) (v := ?_) rfl (by kernel_rfl) (by kernel_rfl) (by kernel_rfl) (fun _ _ _ h => h) (Or.inl ⟨by rfl, ?_⟩) hHeld ?_
      rotate_left
      · intro w hSw
        try dsimp only at hSw
        first | (go_simp; done) | (go_simp; with_reducible rfl)
      try simp only [Act.put, List.getElem_toArray, List.getElem_cons_zero, List.getElem_cons_succ, List.setIfInBounds_toArray, List.set_cons_zero, List.set_cons_succ]
      refine wpAnyH_take (i := 2) (v := .slice (some ⟨g5, 0, none⟩) (l.length + 1) cap5) rfl (by kernel_rfl) (by kernel_rfl) (by kernel_rfl) (fun _ _ _ h => h) (Or.inl ⟨by rfl, ?_⟩) hHeld ?_
      · intro w hSw
        have h4 := Blk.cell hSw 0
        first | (go_simp; done) | (go_simp; with_reducible rfl)
      try simp only [Act.put, List.getElem_toArray, List.getElem_cons_zero, List.getElem_cons_succ, List.setIfInBounds_toArray, List.set_cons_zero, List.set_cons_succ]
      have bR := D2.out.drew
      refine wpAnyH_ready (rs := [3]) (by kernel_rfl) (by simp) ?_
      refine AllReadyH.cons rfl (fun K hK => ?_) AllReadyH.nil
      refine step_store_blk (T := 24) (by rfl) 24 _ _ (by rfl) (w.heap.size + 2) 0 [] [.slice none 0 0, .int .i64 0] [] [.slice none 0 0, .int .i64 0] (by rfl) (by rfl) bR rfl rfl sizeB buf_one' (fun w8 br U8 => ?_)
      refine hK.out _ _ (U8.blk hHeld (by omega)) (fun hHeld2 => ?_)
      clear hHeld hK K
      have hHeld := hHeld2
      clear hHeld2
      try simp only [Act.put, List.getElem_toArray, List.getElem_cons_zero, List.getElem_cons_succ]
      refine wpAnyH_take (i := 4) (v := ?_) rfl (by kernel_rfl) (by kernel_rfl) (by kernel_rfl) (fun _ _ _ h => h) (Or.inl ⟨by rfl, ?_⟩) hHeld ?_
      rotate_left
      · intro w hSw
        try dsimp only at hSw
        first | (go_simp; done) | (go_simp; with_reducible rfl)
      try simp only [Act.put, List.getElem_toArray, List.getElem_cons_zero, List.getElem_cons_succ, List.setIfInBounds_toArray, List.set_cons_zero, List.set_cons_succ]
      refine wpAnyH_done (by kernel_rfl) ?_ _
      clear hHeld bR
      go_wp2_with fail
      refine bodyPost_ret (res_ct rfl rfl (load_blk w8 (w.heap.size + 2) 24 [.slice none 0 0, .int .i64 0] _ br Tryd.underlying24 rfl sizeB) rfl) rfl ?_
      have o0 : OwnM w7.drew (w.heap.size + 3) (l ++ [m]) (.slice (some ⟨g5, 0, none⟩) (l.length + 1) cap5) := OwnM.keep HO7.out (Nat.le_refl _) (fun _ _ _ => rfl)
      have o1 : OwnM w8 w.heap.size (l ++ [m]) (.slice (some ⟨g5, 0, none⟩) (l.length + 1) cap5) := OwnM.mono (B := w.heap.size + 3) (OwnM.upd (g := w.heap.size + 2) o0 U8 (by omega)) (by omega)
      exact ⟨none, 0, some ⟨g5, 0, none⟩, cap5, by show _ = Ending.returned (.tuple #[.agg #[.slice none 0 0, .int .i64 0], .slice (some ⟨g5, 0, none⟩) (l ++ [m]).length cap5]); rw [HLEN.out]; rfl, OwnM.nil _ _, by show OwnM _ _ (l ++ [m]) (.slice (some ⟨g5, 0, none⟩) (l ++ [m]).length cap5); rw [HLEN.out]; exact o1, T7.out.drew.trans (U8.below _ (by omega))⟩
    · have hX2 : putBuf l since a0 now m = ((l ++ [m], sN), []) := by rw [putBuf, if_neg h7, HSN.out]
      obtain rfl := HXX.out.trans hX2
      clear hX2
      go_wp2_with (first
        | (refine wpList_load_blk rfl 24 _ rfl (w.heap.size) 0 rfl [.slice (some ⟨g5, 0, none⟩) (l.length + 1) cap5, .int .i64 sN] _ (Blk.range (pre := []) (post := []) D0.out rfl) Tryd.underlying24 rfl sizeB ?_)
        | (refine wpList_store_blk (T := 24) rfl 24 _ _ rfl (w.heap.size + 2) 0 [] [.slice none 0 0, .int .i64 0] [] [.slice (some ⟨g5, 0, none⟩) (l.length + 1) cap5, .int .i64 sN] rfl rfl D2.out rfl rfl sizeB buf_one' ?_; intro w8 br U8))
      refine bodyPost_ret (res_ct rfl rfl (load_blk w8 (w.heap.size + 2) 24 [.slice (some ⟨g5, 0, none⟩) (l.length + 1) cap5, .int .i64 sN] _ br Tryd.underlying24 rfl sizeB) rfl) rfl ?_
      have o1 : OwnM w8 w.heap.size (l ++ [m]) (.slice (some ⟨g5, 0, none⟩) (l.length + 1) cap5) := OwnM.mono (B := w.heap.size + 3) (OwnM.upd (B := w.heap.size + 3) HO7.out U8 (by omega)) (by omega)
      exact ⟨some ⟨g5, 0, none⟩, cap5, none, 0, by show _ = Ending.returned (.tuple #[.agg #[.slice (some ⟨g5, 0, none⟩) (l ++ [m]).length cap5, .int .i64 sN], .slice none 0 0]); rw [HLEN.out]; rfl, by show OwnM _ _ (l ++ [m]) (.slice (some ⟨g5, 0, none⟩) (l ++ [m]).length cap5); rw [HLEN.out]; exact o1, OwnM.nil _ _, T7.out.trans (U8.below _ (by omega))⟩
end Go.Proofs.YtmdcfmdjbncaoaaDoor
