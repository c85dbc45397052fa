/- The reference's Put. -/
import Derived.Test.YtmdcfmdjbncaoaaDoorBq
import Derived.Test.YtmdcfmdjbncaoaaDoorSp
import Derived.Test.YtmdcfmdjbncaoaaDoorBa
namespace Go.Proofs.YtmdcfmdjbncaoaaDoor
open Go.RowKit
attribute [local go_sem ↓] Go.wp_at_zero Go.wp_at_succ
attribute [local go_sem] Go.undef

theorem OwnE.snoc2 {α : Type} {E : World → (Nat → Prop) → α → List Value → Prop} {T sz : Nat} {w1 w2 : World} {B : Nat} {l : List α} {v : Value} {S Sx : Nat → Prop} {css : List (List Value)} {x : α} {cs1 : List Value} {g2 n2 cap2 : Nat} (hE : Keeps E) (h : OwnE E T sz w1 B l v S css) (hx : E w1 Sx x cs1) (hcs : cs1.length = sz)
    (hSx : ∀ b, Sx b → B ≤ b ∧ b < w1.heap.size ∧ v.ownBlock ≠ some b) (hown : w2.ownsRow B T sz (.slice (some ⟨g2, 0, none⟩) n2 cap2) n2 (css.flatten ++ cs1)) (hn : n2 = l.length + 1)
    (hgrow : w1.grownBy w2 v.ownBlock) (hat : v.ownBlock = some g2 ∨ g2 = w1.heap.size) : OwnE E T sz w2 B (l ++ [x]) (.slice (some ⟨g2, 0, none⟩) n2 cap2) (fun b => S b ∨ Sx b) (css ++ [cs1]) := by
  have hs : w1.heap.size ≤ w2.heap.size := hgrow.size
  have hnb : ∀ b, b < w1.heap.size → v.ownBlock ≠ some b → (Value.slice (some ⟨g2, 0, none⟩) n2 cap2).ownBlock ≠ some b := by
    intro b h1 h2 h3
    have : g2 = b := by simpa [Value.ownBlock] using h3
    subst this
    rcases hat with h4 | h4
    · exact h2 h4
    · omega
  have hk : ∀ b, b < w1.heap.size → v.ownBlock ≠ some b → w2.heap[b]? = w1.heap[b]? := fun b h1 h2 => hgrow.block b h1 (fun e => h2 e.symm)
  refine ⟨by simp [h.len], ?_, fun b hb => ?_, fun cs hc => ?_, fun j y hy => ?_⟩
  · rw [← flat_snoc, List.length_append, List.length_singleton, ← hn]; exact hown
  · rcases hb with hb | hb
    · obtain ⟨h1, h2, h3⟩ := h.far b hb
      exact ⟨h1, by omega, hnb b h2 h3⟩
    · obtain ⟨h1, h2, h3⟩ := hSx b hb
      exact ⟨h1, by omega, hnb b h2 h3⟩
  · rcases List.mem_append.1 hc with hc | hc
    · exact h.wide cs hc
    · rw [List.mem_singleton.1 hc]; exact hcs
  · rcases Nat.lt_trichotomy j l.length with hj | hj | hj
    · rw [List.getElem?_append_left hj] at hy
      obtain ⟨cs, h1, h2⟩ := h.at_ j y hy
      refine ⟨cs, by rw [List.getElem?_append_left (by rw [h.len]; exact hj)]; exact h1, ?_⟩
      exact hE w1 w2 S _ y cs (fun b hb => .inl hb) (fun b hb => hk b (h.far b hb).2.1 (h.far b hb).2.2) h2
    · rw [List.getElem?_append_right (by omega), hj, Nat.sub_self] at hy
      have hxy : x = y := by simpa using hy
      subst hxy
      refine ⟨cs1, by rw [List.getElem?_append_right (by rw [h.len]; omega), h.len, hj, Nat.sub_self]; rfl, ?_⟩
      exact hE w1 w2 Sx _ x cs1 (fun b hb => .inr hb) (fun b hb => hk b (hSx b hb).2.1 (hSx b hb).2.2) hx
    · rw [List.getElem?_eq_none (by simp; omega)] at hy
      cases hy
/-- Messages in a row of the call's own, none of which lies in block G. -/
def OwnX (w : World) (B G : Nat) (l : List MX) (v : Value) : Prop := ∃ S css, OwnE IsN 30 13 w B l v S css ∧ (∀ b, S b → b ≠ G) ∧ ∀ b, v.ownBlock = some b → b ≠ G
theorem OwnX.own {w : World} {B G : Nat} {l : List MX} {v : Value} (h : OwnX w B G l v) : OwnM w B l v := by
  obtain ⟨S, css, h1, -, -⟩ := h
  exact ⟨S, css, h1⟩
theorem OwnX.keep {w w' : World} {B G : Nat} {l : List MX} {v : Value} (h : OwnX w B G l v) (hs : w.heap.size ≤ w'.heap.size) (hk : ∀ b, B ≤ b → b < w.heap.size → b ≠ G → w'.heap[b]? = w.heap[b]?) : OwnX w' B G l v := by
  obtain ⟨S, css, h, h1, h2⟩ := h
  refine ⟨S, css, h.keep keepsN hs fun b hb => ?_, h1, h2⟩
  rcases hb with hb | hb
  · exact hk b (h.far b hb).1 (h.far b hb).2.1 (h1 b hb)
  · exact hk b (h.far_lt b hb).1 (h.far_lt b hb).2 (h2 b hb)
theorem OwnX.upd {w w' : World} {B G g : Nat} {l : List MX} {v : Value} (h : OwnX w B G l v) (U : Upd g w w') (hg : g < B ∨ g = G) : OwnX w' B G l v := h.keep (by rw [U.size]; exact Nat.le_refl _) fun b hb _ hG => U.far b (by omega)

set_option maxHeartbeats 16000000 in
set_option maxRecDepth 100000 in
theorem putbr_any (l : List MX) (since a0 now : Int) (m : MX) (cs : List Value) (a : Option Addr) (n c : Nat) (S : Nat → Prop) (w : World) (hrow : RM w S l a n c) (hS : ∀ x, S x → x < w.heap.size) (hsm : smallL l) (hn : n ≤ 1000) (hm : IsM w S m cs) (hz : m.body.size ≤ 4096) (ha0 : (l.length : Int) < a0) :
    Calls Tryd.prog 16 #[.agg #[.slice a n c, .int .i64 since], .int .i64 a0, .int .i64 now, .agg cs.toArray] w (BufPost w (putBuf l since a0 now m).1.1 (putBuf l since a0 now m).1.2 (putBuf l since a0 now m).2) := by
  obtain ⟨i0, hi0, hz0, hz1, hz2⟩ := info_parts infoM
  obtain rfl : n = l.length := hrow.1
  have hm0 := hm
  obtain ⟨k, i, b, s, am, nm, cm, rfl, hD, ht, hr⟩ := hm
  obtain ⟨X, hX⟩ : ∃ X, X = putBuf l since a0 now m := ⟨_, rfl⟩
  rw [← hX]
  have HXX := Lib.hid hX
  clear hX
  obtain ⟨W, hWd⟩ : ∃ W, W = ((w.alloc (.cells #[.slice a l.length c, .int .i64 since] 24)).alloc (.cells #[.int .i64 m.id, .string m.topic, .int .i64 k, .int .i64 i, .int .u64 b, .string s, .slice am nm cm, .int .i64 m.tat, .int .i64 m.til, .string m.reply, .int .i64 m.corr, .int .i64 m.prio, .int .i64 m.hops] 30)).alloc (.cells #[.slice none 0 0, .int .i64 0] 24) := ⟨_, rfl⟩
  have hW : Below w.heap.size w W := by rw [hWd]; go_grown
  have hs0 : w.heap.size + 3 ≤ W.drew.heap.size := by show _ ≤ W.heap.size; rw [hWd]; simp
  have B0 : Hid (Blk W w.heap.size 24 #[.slice a l.length c, .int .i64 since]) := by show Blk _ _ _ _; rw [hWd]; exact ((Blk.new _ _ _).alloc _).alloc _
  have B1 : Hid (Blk W (w.heap.size + 1) 30 #[.int .i64 m.id, .string m.topic, .int .i64 k, .int .i64 i, .int .u64 b, .string s, .slice am nm cm, .int .i64 m.tat, .int .i64 m.til, .string m.reply, .int .i64 m.corr, .int .i64 m.prio, .int .i64 m.hops]) := by show Blk _ _ _ _; rw [hWd]; exact (Blk.new' _ _ _ (by simp)).alloc _
  have B2 : Hid (Blk W (w.heap.size + 2) 24 #[.slice none 0 0, .int .i64 0]) := by show Blk _ _ _ _; rw [hWd]; exact Blk.new' _ _ _ (by simp)
  have HROW := Lib.hid hrow
  have HM := Lib.hid hm0
  have HS := Lib.hid hS
  have HSM := Lib.hid hsm
  have T : Hid (Below w.heap.size w W.drew) := hW.drew
  have HWD := Lib.hid hWd
  clear hrow hS hsm hD ht hr hm0 hW hWd
  go_enter Tryd.func16, Tryd.ntmps16
  go_upto_region 1 with fail
  show Code.wp _ _ _ _ (((w.alloc (.cells #[.slice a l.length c, .int .i64 since] 24)).alloc (.cells #[.int .i64 m.id, .string m.topic, .int .i64 k, .int .i64 i, .int .u64 b, .string s, .slice am nm cm, .int .i64 m.tat, .int .i64 m.til, .string m.reply, .int .i64 m.corr, .int .i64 m.prio, .int .i64 m.hops] 30)).alloc (.cells #[.slice none 0 0, .int .i64 0] 24))
  rw [← HWD.out]
  clear HWD
  rename_i KK hKK
  have REST : ∀ (G g5 cap5 : Nat) (v13 v15 v16 : Value) (w7 : World), w.heap.size + 3 ≤ G → Blk w7 w.heap.size 24 #[.slice a l.length c, .int .i64 since] → Blk w7 (w.heap.size + 2) 24 #[.slice none 0 0, .int .i64 0] → Blk w7 G 24 #[.slice (some ⟨g5, 0, none⟩) (l.length + 1) cap5, .int .i64 since] →
      OwnX w7 (w.heap.size + 3) G (l ++ [m]) (.slice (some ⟨g5, 0, none⟩) (l.length + 1) cap5) → Below w.heap.size w w7 → KK ⟨#[.agg #[.slice a l.length c, .int .i64 since], .int .i64 a0, .int .i64 now, .agg #[.int .i64 m.id, .string m.topic, .int .i64 k, .int .i64 i, .int .u64 b, .string s, .slice am nm cm, .int .i64 m.tat, .int .i64 m.til, .string m.reply, .int .i64 m.corr, .int .i64 m.prio, .int .i64 m.hops], .pointer (some ⟨w.heap.size, 0, none⟩), .tuple #[], .tuple #[], .pointer (some ⟨w.heap.size + 1, 0, none⟩), .pointer (some ⟨w.heap.size + 1 + 1, 0, none⟩), .slice none 0 0,
        .pointer (some ⟨G, 0, none⟩), .pointer (some ⟨w.heap.size, 0, none⟩), .slice a l.length c, v13, .agg #[.int .i64 m.id, .string m.topic, .int .i64 k, .int .i64 i, .int .u64 b, .string s, .slice am nm cm, .int .i64 m.tat, .int .i64 m.til, .string m.reply, .int .i64 m.corr, .int .i64 m.prio, .int .i64 m.hops], v15, v16, .slice (some ⟨g5, 0, none⟩) (l.length + 1) cap5, .pointer (some ⟨w.heap.size, 1, none⟩), .int .i64 since, .agg #[.slice (some ⟨g5, 0, none⟩) (l.length + 1) cap5, .int .i64 since], .tuple #[], .tuple #[], .tuple #[], .tuple #[], .tuple #[], .tuple #[], .tuple #[], .tuple #[], .tuple #[], .tuple #[], .tuple #[], .tuple #[], .tuple #[], .tuple #[], .tuple #[]], []⟩ w7 := by
    intro G g5 cap5 v13 v15 v16 w7 hGs b0 b2 b10 ho hb7
    have B0' := Lib.hid b0
    have B2' := Lib.hid b2
    have B10 := Lib.hid b10
    have OT7 := Lib.hid ho
    have T7 := Lib.hid hb7
    clear b0 b2 b10 ho hb7 T B0 B1 B2 HROW HM HS HSM hs0
    have c0 : w7.cell? ⟨w.heap.size, 0, none⟩ = some (.slice a l.length c) := Blk.cell B0'.out 0
    have f1 : w7.frozen? ⟨G, 1, none⟩ = false := Blk.free B10.out 1
    have c1' : w7.cell? ⟨G, 1, none⟩ = some (.int .i64 since) := Blk.cell B10.out 1
    have c10 : w7.cell? ⟨G, 0, none⟩ = some (.slice (some ⟨g5, 0, none⟩) (l.length + 1) cap5) := Blk.cell B10.out 0
    refine hKK _ _ ?_
    clear hKK
    by_cases h2 : (l.length : Int) = 0
    · have e2 : ((l.length : Int) == 0) = true := by rw [h2]; rfl
      have H2 : Hid ((if (l.length : Int) = 0 then now else since) = now) := if_pos h2
      clear h2
      go_upto_region 4 with fail
      obtain ⟨w8, hw8⟩ : ∃ w8, w8 = w7.setCell ⟨G, 1, none⟩ (.int .i64 now) := ⟨_, rfl⟩
      obtain ⟨sN, hsN⟩ : ∃ sN, sN = now := ⟨_, rfl⟩
      have D0 : Hid (Blk w8 G 24 #[.slice (some ⟨g5, 0, none⟩) (l.length + 1) cap5, .int .i64 sN]) := by show Blk _ _ _ _; rw [hw8, hsN]; exact B10.out.set 1 _
      have D2 : Hid (Blk w8 (w.heap.size + 2) 24 #[.slice none 0 0, .int .i64 0]) := by show Blk _ _ _ _; rw [hw8]; exact B2'.out.far (by show w.heap.size + 2 ≠ G; omega) _
      have HO8 : Hid (OwnX w8 (w.heap.size + 3) G (l ++ [m]) (.slice (some ⟨g5, 0, none⟩) (l.length + 1) cap5)) := by show OwnX _ _ _ _ _; rw [hw8]; exact OT7.out.keep (by simp) fun q h1 h2 h3 => heap_set (p := ⟨G, 1, none⟩) h3
      have T8 : Hid (Below w.heap.size w w8) := by show Below _ _ _; rw [hw8]; exact T7.out.setCell (by show w.heap.size ≤ G; omega) _
      have HSN : Hid ((if (l.length : Int) = 0 then now else since) = sN) := H2.out.trans hsN.symm
      have c8 : w8.cell? ⟨G, 0, none⟩ = some (.slice (some ⟨g5, 0, none⟩) (l.length + 1) cap5) := Blk.cell D0.out 0
      have HLEN : Hid ((l ++ [m]).length = l.length + 1) := by show _ = _; simp
      rw [← hw8]
      clear hw8 hsN c0 f1 c1' c10 e2 B0' B10 B2' OT7 T7 H2
      by_cases h7 : a0 = (l.length : Int) + 1
      · have hX2 : putBuf l since a0 now m = (([], 0), l ++ [m]) := by rw [putBuf, if_pos (by omega)]
        obtain rfl := HXX.out.trans hX2
        have e7 : (((l.length : Int) + 1) == a0) = true := by rw [h7]; exact beq_self_eq_true _
        clear hX2 h7 ha0
        go_upto_region 5 with fail
        refine wp_region_held_drew (S := (fun w' => Blk w' G 24 #[.slice (some ⟨g5, 0, none⟩) (l.length + 1) cap5, .int .i64 sN])) (by kernel_rfl) ?_ (fun hHeld => ?_)
        · exact D0.out.drew
        refine wpAnyH_take (i := 0) (v := ?_) rfl (by kernel_rfl) (by kernel_rfl) (by kernel_rfl) (fun _ _ _ h => h) (Or.inl ⟨by rfl, ?_⟩) hHeld ?_
        rotate_left
        · intro w hSw
          try dsimp only at hSw
          first | (go_simp; done) | (go_simp; with_reducible rfl)
        try simp only [Act.put, List.getElem_toArray, List.getElem_cons_zero, List.setIfInBounds_toArray, List.set_cons_zero, List.set_cons_succ]
        refine wpAnyH_take (i := 1) (v := ?_) rfl (by kernel_rfl) (by kernel_rfl) (by kernel_rfl) (fun _ _ _ h => h) (Or.inl ⟨by rfl, ?_⟩) hHeld ?_
        rotate_left
        · intro w hSw
          try dsimp only at hSw
          first | (go_simp; done) | (go_simp; with_reducible rfl)
        try simp only [Act.put, List.getElem_toArray, List.getElem_cons_zero, List.getElem_cons_succ, List.setIfInBounds_toArray, List.set_cons_zero, List.set_cons_succ]
        refine wpAnyH_take (i := 2) (v := .slice (some ⟨g5, 0, none⟩) (l.length + 1) cap5) rfl (by kernel_rfl) (by kernel_rfl) (by kernel_rfl) (fun _ _ _ h => h) (Or.inl ⟨by rfl, ?_⟩) hHeld ?_
        · intro w hSw
          have h4 := Blk.cell hSw 0
          first | (go_simp; done) | (go_simp; with_reducible rfl)
        try simp only [Act.put, List.getElem_toArray, List.getElem_cons_zero, List.getElem_cons_succ, List.setIfInBounds_toArray, List.set_cons_zero, List.set_cons_succ]
        have bR := D2.out.drew
        refine wpAnyH_ready (rs := [3]) (by kernel_rfl) (by simp) ?_
        refine AllReadyH.cons rfl (fun K hK => ?_) AllReadyH.nil
        refine step_store_blk (T := 24) (by rfl) 24 _ _ (by rfl) (w.heap.size + 2) 0 [] [.slice none 0 0, .int .i64 0] [] [.slice none 0 0, .int .i64 0] (by rfl) (by rfl) bR rfl rfl sizeB buf_one' (fun w9 br U9 => ?_)
        refine hK.out _ _ (U9.blk hHeld (by omega)) (fun hHeld2 => ?_)
        clear hHeld hK K
        have hHeld := hHeld2
        clear hHeld2
        try simp only [Act.put, List.getElem_toArray, List.getElem_cons_zero, List.getElem_cons_succ]
        refine wpAnyH_take (i := 4) (v := ?_) rfl (by kernel_rfl) (by kernel_rfl) (by kernel_rfl) (fun _ _ _ h => h) (Or.inl ⟨by rfl, ?_⟩) hHeld ?_
        rotate_left
        · intro w hSw
          try dsimp only at hSw
          first | (go_simp; done) | (go_simp; with_reducible rfl)
        try simp only [Act.put, List.getElem_toArray, List.getElem_cons_zero, List.getElem_cons_succ, List.setIfInBounds_toArray, List.set_cons_zero, List.set_cons_succ]
        refine wpAnyH_done (by kernel_rfl) ?_ _
        clear hHeld bR
        go_wp2_with fail
        refine bodyPost_ret (res_ct rfl rfl (load_blk w9 (w.heap.size + 2) 24 [.slice none 0 0, .int .i64 0] _ br Tryd.underlying24 rfl sizeB) rfl) rfl ?_
        have o0 : OwnM w8.drew (w.heap.size + 3) (l ++ [m]) (.slice (some ⟨g5, 0, none⟩) (l.length + 1) cap5) := OwnM.keep (OwnX.own HO8.out) (Nat.le_refl _) (fun _ _ _ => rfl)
        have o1 : OwnM w9 w.heap.size (l ++ [m]) (.slice (some ⟨g5, 0, none⟩) (l.length + 1) cap5) := OwnM.mono (B := w.heap.size + 3) (OwnM.upd (g := w.heap.size + 2) o0 U9 (by omega)) (by omega)
        exact ⟨none, 0, some ⟨g5, 0, none⟩, cap5, by show _ = Ending.returned (.tuple #[.agg #[.slice none 0 0, .int .i64 0], .slice (some ⟨g5, 0, none⟩) (l ++ [m]).length cap5]); rw [HLEN.out]; rfl, OwnM.nil _ _, by show OwnM _ _ (l ++ [m]) (.slice (some ⟨g5, 0, none⟩) (l ++ [m]).length cap5); rw [HLEN.out]; exact o1, (T8.out.trans (Below.refl _ _).drew).trans (U9.below _ (by omega))⟩
      · have hX2 : putBuf l since a0 now m = ((l ++ [m], sN), []) := by rw [putBuf, if_neg (by omega), HSN.out]
        obtain rfl := HXX.out.trans hX2
        have e7 : (((l.length : Int) + 1) == a0) = false := beq_eq_false_iff_ne.2 (fun e => h7 e.symm)
        clear hX2 h7 ha0
        go_wp2_with (first
          | (refine wpList_load_blk rfl 24 _ rfl (G) 0 rfl [.slice (some ⟨g5, 0, none⟩) (l.length + 1) cap5, .int .i64 sN] _ (Blk.range (pre := []) (post := []) D0.out rfl) Tryd.underlying24 rfl sizeB ?_)
          | (refine wpList_store_blk (T := 24) rfl 24 _ _ rfl (w.heap.size + 2) 0 [] [.slice none 0 0, .int .i64 0] [] [.slice (some ⟨g5, 0, none⟩) (l.length + 1) cap5, .int .i64 sN] rfl rfl D2.out rfl rfl sizeB buf_one' ?_; intro w9 br U9))
        refine bodyPost_ret (res_ct rfl rfl (load_blk w9 (w.heap.size + 2) 24 [.slice (some ⟨g5, 0, none⟩) (l.length + 1) cap5, .int .i64 sN] _ br Tryd.underlying24 rfl sizeB) rfl) rfl ?_
        have o1 : OwnM w9 w.heap.size (l ++ [m]) (.slice (some ⟨g5, 0, none⟩) (l.length + 1) cap5) := (OwnM.upd (OwnX.own HO8.out) U9 (by omega)).mono (by omega)
        exact ⟨some ⟨g5, 0, none⟩, cap5, none, 0, by show _ = Ending.returned (.tuple #[.agg #[.slice (some ⟨g5, 0, none⟩) (l ++ [m]).length cap5, .int .i64 sN], .slice none 0 0]); rw [HLEN.out]; rfl, by show OwnM _ _ (l ++ [m]) (.slice (some ⟨g5, 0, none⟩) (l ++ [m]).length cap5); rw [HLEN.out]; exact o1, OwnM.nil _ _, T8.out.trans (U9.below _ (by omega))⟩
    · have e2 : ((l.length : Int) == 0) = false := beq_eq_false_iff_ne.2 h2
      have H2 : Hid ((if (l.length : Int) = 0 then now else since) = since) := if_neg h2
      clear h2
      go_upto_region 4 with fail
      obtain ⟨w8, hw8⟩ : ∃ w8, w8 = w7 := ⟨_, rfl⟩
      obtain ⟨sN, hsN⟩ : ∃ sN, sN = since := ⟨_, rfl⟩
      have D0 : Hid (Blk w8 G 24 #[.slice (some ⟨g5, 0, none⟩) (l.length + 1) cap5, .int .i64 sN]) := by show Blk _ _ _ _; rw [hw8, hsN]; exact B10.out
      have D2 : Hid (Blk w8 (w.heap.size + 2) 24 #[.slice none 0 0, .int .i64 0]) := by show Blk _ _ _ _; rw [hw8]; exact B2'.out
      have HO8 : Hid (OwnX w8 (w.heap.size + 3) G (l ++ [m]) (.slice (some ⟨g5, 0, none⟩) (l.length + 1) cap5)) := by show OwnX _ _ _ _ _; rw [hw8]; exact OT7.out
      have T8 : Hid (Below w.heap.size w w8) := by show Below _ _ _; rw [hw8]; exact T7.out
      have HSN : Hid ((if (l.length : Int) = 0 then now else since) = sN) := H2.out.trans hsN.symm
      have c8 : w8.cell? ⟨G, 0, none⟩ = some (.slice (some ⟨g5, 0, none⟩) (l.length + 1) cap5) := Blk.cell D0.out 0
      have HLEN : Hid ((l ++ [m]).length = l.length + 1) := by show _ = _; simp
      rw [← hw8]
      clear hw8 hsN c0 f1 c1' c10 e2 B0' B10 B2' OT7 T7 H2
      by_cases h7 : a0 = (l.length : Int) + 1
      · have hX2 : putBuf l since a0 now m = (([], 0), l ++ [m]) := by rw [putBuf, if_pos (by omega)]
        obtain rfl := HXX.out.trans hX2
        have e7 : (((l.length : Int) + 1) == a0) = true := by rw [h7]; exact beq_self_eq_true _
        clear hX2 h7 ha0
        go_upto_region 5 with fail
        refine wp_region_held_drew (S := (fun w' => Blk w' G 24 #[.slice (some ⟨g5, 0, none⟩) (l.length + 1) cap5, .int .i64 sN])) (by kernel_rfl) ?_ (fun hHeld => ?_)
        · exact D0.out.drew
        refine wpAnyH_take (i := 0) (v := ?_) rfl (by kernel_rfl) (by kernel_rfl) (by kernel_rfl) (fun _ _ _ h => h) (Or.inl ⟨by rfl, ?_⟩) hHeld ?_
        rotate_left
        · intro w hSw
          try dsimp only at hSw
          first | (go_simp; done) | (go_simp; with_reducible rfl)
        try simp only [Act.put, List.getElem_toArray, List.getElem_cons_zero, List.setIfInBounds_toArray, List.set_cons_zero, List.set_cons_succ]
        refine wpAnyH_take (i := 1) (v := ?_) rfl (by kernel_rfl) (by kernel_rfl) (by kernel_rfl) (fun _ _ _ h => h) (Or.inl ⟨by rfl, ?_⟩) hHeld ?_
        rotate_left
        · intro w hSw
          try dsimp only at hSw
          first | (go_simp; done) | (go_simp; with_reducible rfl)
        try simp only [Act.put, List.getElem_toArray, List.getElem_cons_zero, List.getElem_cons_succ, List.setIfInBounds_toArray, List.set_cons_zero, List.set_cons_succ]
        refine wpAnyH_take (i := 2) (v := .slice (some ⟨g5, 0, none⟩) (l.length + 1) cap5) rfl (by kernel_rfl) (by kernel_rfl) (by kernel_rfl) (fun _ _ _ h => h) (Or.inl ⟨by rfl, ?_⟩) hHeld ?_
        · intro w hSw
          have h4 := Blk.cell hSw 0
          first | (go_simp; done) | (go_simp; with_reducible rfl)
        try simp only [Act.put, List.getElem_toArray, List.getElem_cons_zero, List.getElem_cons_succ, List.setIfInBounds_toArray, List.set_cons_zero, List.set_cons_succ]
        have bR := D2.out.drew
        refine wpAnyH_ready (rs := [3]) (by kernel_rfl) (by simp) ?_
        refine AllReadyH.cons rfl (fun K hK => ?_) AllReadyH.nil
        refine step_store_blk (T := 24) (by rfl) 24 _ _ (by rfl) (w.heap.size + 2) 0 [] [.slice none 0 0, .int .i64 0] [] [.slice none 0 0, .int .i64 0] (by rfl) (by rfl) bR rfl rfl sizeB buf_one' (fun w9 br U9 => ?_)
        refine hK.out _ _ (U9.blk hHeld (by omega)) (fun hHeld2 => ?_)
        clear hHeld hK K
        have hHeld := hHeld2
        clear hHeld2
        try simp only [Act.put, List.getElem_toArray, List.getElem_cons_zero, List.getElem_cons_succ]
        refine wpAnyH_take (i := 4) (v := ?_) rfl (by kernel_rfl) (by kernel_rfl) (by kernel_rfl) (fun _ _ _ h => h) (Or.inl ⟨by rfl, ?_⟩) hHeld ?_
        rotate_left
        · intro w hSw
          try dsimp only at hSw
          first | (go_simp; done) | (go_simp; with_reducible rfl)
        try simp only [Act.put, List.getElem_toArray, List.getElem_cons_zero, List.getElem_cons_succ, List.setIfInBounds_toArray, List.set_cons_zero, List.set_cons_succ]
        refine wpAnyH_done (by kernel_rfl) ?_ _
        clear hHeld bR
        go_wp2_with fail
        refine bodyPost_ret (res_ct rfl rfl (load_blk w9 (w.heap.size + 2) 24 [.slice none 0 0, .int .i64 0] _ br Tryd.underlying24 rfl sizeB) rfl) rfl ?_
        have o0 : OwnM w8.drew (w.heap.size + 3) (l ++ [m]) (.slice (some ⟨g5, 0, none⟩) (l.length + 1) cap5) := OwnM.keep (OwnX.own HO8.out) (Nat.le_refl _) (fun _ _ _ => rfl)
        have o1 : OwnM w9 w.heap.size (l ++ [m]) (.slice (some ⟨g5, 0, none⟩) (l.length + 1) cap5) := OwnM.mono (B := w.heap.size + 3) (OwnM.upd (g := w.heap.size + 2) o0 U9 (by omega)) (by omega)
        exact ⟨none, 0, some ⟨g5, 0, none⟩, cap5, by show _ = Ending.returned (.tuple #[.agg #[.slice none 0 0, .int .i64 0], .slice (some ⟨g5, 0, none⟩) (l ++ [m]).length cap5]); rw [HLEN.out]; rfl, OwnM.nil _ _, by show OwnM _ _ (l ++ [m]) (.slice (some ⟨g5, 0, none⟩) (l ++ [m]).length cap5); rw [HLEN.out]; exact o1, (T8.out.trans (Below.refl _ _).drew).trans (U9.below _ (by omega))⟩
      · have hX2 : putBuf l since a0 now m = ((l ++ [m], sN), []) := by rw [putBuf, if_neg (by omega), HSN.out]
        obtain rfl := HXX.out.trans hX2
        have e7 : (((l.length : Int) + 1) == a0) = false := beq_eq_false_iff_ne.2 (fun e => h7 e.symm)
        clear hX2 h7 ha0
        go_wp2_with (first
          | (refine wpList_load_blk rfl 24 _ rfl (G) 0 rfl [.slice (some ⟨g5, 0, none⟩) (l.length + 1) cap5, .int .i64 sN] _ (Blk.range (pre := []) (post := []) D0.out rfl) Tryd.underlying24 rfl sizeB ?_)
          | (refine wpList_store_blk (T := 24) rfl 24 _ _ rfl (w.heap.size + 2) 0 [] [.slice none 0 0, .int .i64 0] [] [.slice (some ⟨g5, 0, none⟩) (l.length + 1) cap5, .int .i64 sN] rfl rfl D2.out rfl rfl sizeB buf_one' ?_; intro w9 br U9))
        refine bodyPost_ret (res_ct rfl rfl (load_blk w9 (w.heap.size + 2) 24 [.slice (some ⟨g5, 0, none⟩) (l.length + 1) cap5, .int .i64 sN] _ br Tryd.underlying24 rfl sizeB) rfl) rfl ?_
        have o1 : OwnM w9 w.heap.size (l ++ [m]) (.slice (some ⟨g5, 0, none⟩) (l.length + 1) cap5) := (OwnM.upd (OwnX.own HO8.out) U9 (by omega)).mono (by omega)
        exact ⟨some ⟨g5, 0, none⟩, cap5, none, 0, by show _ = Ending.returned (.tuple #[.agg #[.slice (some ⟨g5, 0, none⟩) (l ++ [m]).length cap5, .int .i64 sN], .slice none 0 0]); rw [HLEN.out]; rfl, by show OwnM _ _ (l ++ [m]) (.slice (some ⟨g5, 0, none⟩) (l ++ [m]).length cap5); rw [HLEN.out]; exact o1, OwnM.nil _ _, T8.out.trans (U9.below _ (by omega))⟩
  refine wp_region_held_drew (S := (fun w' => Blk w' (w.heap.size) 24 #[.slice a l.length c, .int .i64 since] ∧ Blk w' (w.heap.size + 1) 30 #[.int .i64 m.id, .string m.topic, .int .i64 k, .int .i64 i, .int .u64 b, .string s, .slice am nm cm, .int .i64 m.tat, .int .i64 m.til, .string m.reply, .int .i64 m.corr, .int .i64 m.prio, .int .i64 m.hops] ∧ Blk w' (w.heap.size + 2) 24 #[.slice none 0 0, .int .i64 0])) (by kernel_rfl) ?_ (fun hHeld => ?_)
  · exact ⟨B0.out.drew, B1.out.drew, B2.out.drew⟩
  obtain ⟨W1, hW1⟩ : ∃ W1, W1 = W.drew := ⟨_, rfl⟩
  rw [← hW1] at hHeld hs0 T ⊢
  clear hW1
  refine wpAnyH_take (i := 0) (v := ?_) rfl (by kernel_rfl) (by kernel_rfl) (by kernel_rfl) (fun _ _ _ h => h) (Or.inl ⟨by rfl, ?_⟩) hHeld ?_
  rotate_left
  · intro w hSw
    try dsimp only at hSw
    first | (go_simp; done) | (go_simp; with_reducible rfl)
  try simp only [Act.put, List.getElem_toArray, List.getElem_cons_zero, List.setIfInBounds_toArray, List.set_cons_zero, List.set_cons_succ]
  refine wpAnyH_take (i := 1) (v := .slice a l.length c) rfl (by kernel_rfl) (by kernel_rfl) (by kernel_rfl) (fun _ _ _ h => h) (Or.inl ⟨by rfl, ?_⟩) hHeld ?_
  · intro w hSw
    have h4 := Blk.cell hSw.1 0
    first | (go_simp; done) | (go_simp; with_reducible rfl)
  try simp only [Act.put, List.getElem_toArray, List.getElem_cons_zero, List.getElem_cons_succ, List.setIfInBounds_toArray, List.set_cons_zero, List.set_cons_succ]
  refine wpAnyH_take (i := 3) (v := .agg #[.int .i64 m.id, .string m.topic, .int .i64 k, .int .i64 i, .int .u64 b, .string s, .slice am nm cm, .int .i64 m.tat, .int .i64 m.til, .string m.reply, .int .i64 m.corr, .int .i64 m.prio, .int .i64 m.hops]) rfl (by kernel_rfl) (by kernel_rfl) (by kernel_rfl) (fun _ _ _ h => h) (yieldsIf_load_mid (by rfl) 30 _ rfl (w.heap.size + 1) (0) (by rfl) [.int .i64 m.id, .string m.topic, .int .i64 k, .int .i64 i, .int .u64 b, .string s, .slice am nm cm, .int .i64 m.tat, .int .i64 m.til, .string m.reply, .int .i64 m.corr, .int .i64 m.prio, .int .i64 m.hops] _ (fun w' h => Blk.range (pre := []) (post := []) h.2.1 rfl) Tryd.underlying30 rfl sizeM) hHeld ?_
  try simp only [Act.put, List.getElem_toArray, List.getElem_cons_zero, List.getElem_cons_succ, List.setIfInBounds_toArray, List.set_cons_zero, List.set_cons_succ]
  refine wpAnyH_take (i := 7) (v := ?_) rfl (by kernel_rfl) (by kernel_rfl) (by kernel_rfl) (fun _ _ _ h => h) (Or.inl ⟨by rfl, ?_⟩) hHeld ?_
  rotate_left
  · intro w hSw
    try dsimp only at hSw
    first | (go_simp; done) | (go_simp; with_reducible rfl)
  try simp only [Act.put, List.getElem_toArray, List.getElem_cons_zero, List.getElem_cons_succ, List.setIfInBounds_toArray, List.set_cons_zero, List.set_cons_succ]
  refine wpAnyH_take (i := 8) (v := .int .i64 since) rfl (by kernel_rfl) (by kernel_rfl) (by kernel_rfl) (fun _ _ _ h => h) (Or.inl ⟨by rfl, ?_⟩) hHeld ?_
  · intro w hSw
    have h4 := Blk.cell hSw.1 1
    first | (go_simp; done) | (go_simp; with_reducible rfl)
  try simp only [Act.put, List.getElem_toArray, List.getElem_cons_zero, List.getElem_cons_succ, List.setIfInBounds_toArray, List.set_cons_zero, List.set_cons_succ]
  refine wpAnyH_ready (rs := [2, 10]) (by kernel_rfl) (by simp) ?_
  refine AllReadyH.cons rfl (fun K hK => ?_) (AllReadyH.cons rfl (fun K hK => ?_) AllReadyH.nil)
  · go_simp
    go_at_call 13
    refine (copyrow_any l a l.length c S W1 (RM.under HROW.out T.out HS.out) (fun x hx => by have := HS.out x hx; omega) HSM.out (by omega)).mono ?_
    rintro e w2 ⟨a1, c1, S1, css1, rfl, hown, hb⟩
    have HO := Lib.hid (hown.mono (show w.heap.size + 3 ≤ _ by omega))
    have hl2 := hb.size
    have F2 := Lib.hid (And.intro hown.far (OwnE.far_lt hown))
    clear hown
    replace T := Lib.hid (below_on hb T.out)
    refine hK.out _ _ ⟨Blk.on hHeld.1 hb, Blk.on hHeld.2.1 hb, Blk.on hHeld.2.2 hb⟩ (fun hHeld2 => ?_)
    clear hHeld hK K
    have hHeld := hHeld2
    clear hHeld2
    try simp only [Act.put, List.getElem_toArray, List.getElem_cons_zero, List.getElem_cons_succ, List.setIfInBounds_toArray, List.set_cons_zero, List.set_cons_succ]
    clear hb
    refine wpAnyH_ready (rs := [4, 10]) (by kernel_rfl) (by simp) ?_
    refine AllReadyH.cons rfl (fun K hK => ?_) (AllReadyH.cons rfl (fun K hK => ?_) AllReadyH.nil)
    · go_simp
      go_at_call 15
      refine (copymsg_any m w2 S [.int .i64 m.id, .string m.topic, .int .i64 k, .int .i64 i, .int .u64 b, .string s, .slice am nm cm, .int .i64 m.tat, .int .i64 m.til, .string m.reply, .int .i64 m.corr, .int .i64 m.prio, .int .i64 m.hops] (HM.out.under T.out HS.out) (fun x hx => by have := HS.out x hx; omega) hz).mono ?_
      rintro e w3 ⟨k3, i3, b3, s3, am3, nm3, cm3, rfl, hm3, hb⟩
      have HM3 := Lib.hid hm3
      have hl4 := hb.size
      replace HO := Lib.hid (HO.out.below keepsN hb (Nat.le_refl _))
      clear hm3
      replace T := Lib.hid (below_on hb T.out)
      refine hK.out _ _ ⟨Blk.on hHeld.1 hb, Blk.on hHeld.2.1 hb, Blk.on hHeld.2.2 hb⟩ (fun hHeld2 => ?_)
      clear hHeld hK K
      have hHeld := hHeld2
      clear hHeld2
      try simp only [Act.put, List.getElem_toArray, List.getElem_cons_zero, List.getElem_cons_succ, List.setIfInBounds_toArray, List.set_cons_zero, List.set_cons_succ]
      clear hb
      refine wpAnyH_ready (rs := [5, 10]) (by kernel_rfl) (by simp) ?_
      refine AllReadyH.cons rfl (fun K hK => ?_) (AllReadyH.cons rfl (fun K hK => ?_) AllReadyH.nil)
      · go_simp
        refine hK.out _ _ ⟨Blk.alloc hHeld.1 _, Blk.alloc hHeld.2.1 _, Blk.alloc hHeld.2.2 _⟩ (fun hHeld2 => ?_)
        clear hHeld hK K
        have hHeld := hHeld2
        clear hHeld2
        try simp only [Act.put, List.getElem_toArray, List.getElem_cons_zero, List.getElem_cons_succ, List.setIfInBounds_toArray, List.set_cons_zero, List.set_cons_succ]
        obtain ⟨wb, hwb⟩ : ∃ wb, wb = w3.alloc (.cells #[.int .i64 m.id, .string m.topic, .int .i64 k3, .int .i64 i3, .int .u64 b3, .string s3, .slice am3 nm3 cm3, .int .i64 m.tat, .int .i64 m.til, .string m.reply, .int .i64 m.corr, .int .i64 m.prio, .int .i64 m.hops] 30) := ⟨_, rfl⟩
        rw [← hwb] at hHeld ⊢
        have hl5 : w3.heap.size + 1 ≤ wb.heap.size := by rw [hwb]; simp
        have h1 := T.out.alloc (by omega) (.cells #[.int .i64 m.id, .string m.topic, .int .i64 k3, .int .i64 i3, .int .u64 b3, .string s3, .slice am3 nm3 cm3, .int .i64 m.tat, .int .i64 m.til, .string m.reply, .int .i64 m.corr, .int .i64 m.prio, .int .i64 m.hops] 30)
        have BN := Blk.new w3 30 #[.int .i64 m.id, .string m.topic, .int .i64 k3, .int .i64 i3, .int .u64 b3, .string s3, .slice am3 nm3 cm3, .int .i64 m.tat, .int .i64 m.til, .string m.reply, .int .i64 m.corr, .int .i64 m.prio, .int .i64 m.hops]
        have h2 := HO.out.alloc keepsN (.cells #[.int .i64 m.id, .string m.topic, .int .i64 k3, .int .i64 i3, .int .u64 b3, .string s3, .slice am3 nm3 cm3, .int .i64 m.tat, .int .i64 m.til, .string m.reply, .int .i64 m.corr, .int .i64 m.prio, .int .i64 m.hops] 30)
        have h3 := HM3.out.under ((Below.refl _ _).alloc (Nat.le_refl _) (.cells #[.int .i64 m.id, .string m.topic, .int .i64 k3, .int .i64 i3, .int .u64 b3, .string s3, .slice am3 nm3 cm3, .int .i64 m.tat, .int .i64 m.til, .string m.reply, .int .i64 m.corr, .int .i64 m.prio, .int .i64 m.hops] 30)) (fun _ h => Nat.lt_of_lt_of_le h.2 (by omega))
        rw [← hwb] at h1 BN h2 h3
        replace T := Lib.hid h1
        replace HO := Lib.hid h2
        replace HM3 := Lib.hid h3
        obtain ⟨gn, hgn⟩ : ∃ gn, gn = w3.heap.size := ⟨_, rfl⟩
        rw [← hgn] at BN ⊢
        replace BN := Lib.hid BN
        clear h1 h2 h3 hgn
        clear hwb
        refine wpAnyH_ready (rs := [6, 10]) (by kernel_rfl) (by simp) ?_
        refine AllReadyH.cons rfl (fun K hK => ?_) (AllReadyH.cons rfl (fun K hK => ?_) AllReadyH.nil)
        · have HROW3 : Hid (wb.ownsRow (w.heap.size + 3) 30 13 (.slice a1 l.length c1) l.length css1.flatten) := own_mono HO.out.row (by omega)
          refine step_append_lies _ (by rfl) _ _ _ (by rfl) (w.heap.size + 3) 30 i0 _ 13 144 Tryd.underlying22 hi0 hz0 hz1 hz2 rfl (by omega) (.slice a1 l.length c1) l.length css1.flatten (by rfl) HROW3.out
            ⟨gn, 0, none⟩ 1 1 [.int .i64 m.id, .string m.topic, .int .i64 k3, .int .i64 i3, .int .u64 b3, .string s3, .slice am3 nm3 cm3, .int .i64 m.tat, .int .i64 m.til, .string m.reply, .int .i64 m.corr, .int .i64 m.prio, .int .i64 m.hops] (by rfl) (by rfl) (World.news_of_block (cs := #[.int .i64 m.id, .string m.topic, .int .i64 k3, .int .i64 i3, .int .u64 b3, .string s3, .slice am3 nm3 cm3, .int .i64 m.tat, .int .i64 m.til, .string m.reply, .int .i64 m.corr, .int .i64 m.prio, .int .i64 m.hops]) (t := 30) (fr := (0, 0)) BN.out) HM3.out.one (by omega) (by unfold maxLen; omega) (by omega) (by omega) wb.heap.size rfl ?_
          intro g5 cap5 w5 hown5 hgrow5 hat5 hlt5
          have HO5 := Lib.hid hown5
          have HG5 := Lib.hid hgrow5
          have HAT5 := Lib.hid hat5
          have hl6 := hgrow5.size
          have hne : ∀ q, q < w.heap.size + 3 → some q ≠ (Value.slice a1 l.length c1).ownBlock := fun q hq e => by have := (own_row HROW3.out q e.symm).1; omega
          have HNE := Lib.hid hne
          have HR := Lib.hid (OwnE.snoc2 keepsN (HO.out.mono (show w.heap.size + 3 ≤ _ by omega)) HM3.out rfl (fun x hx => ⟨by have := hx.1; omega, by have := hx.2; omega, fun e => by have h2 := (F2.out.2 x e).2; have := hx.1; omega⟩) HO5.out rfl HG5.out HAT5.out)
          replace T : Hid (Below w.heap.size w w5) := T.out.grown HG5.out (by omega) (fun q hq => by have := (own_row HROW3.out q hq).1; omega)
          clear hown5 hgrow5 hat5 hne
          refine hK.out _ _ ⟨Blk.grown hHeld.1 HG5.out (HNE.out _ (by omega)), Blk.grown hHeld.2.1 HG5.out (HNE.out _ (by omega)), Blk.grown hHeld.2.2 HG5.out (HNE.out _ (by omega))⟩ (fun hHeld2 => ?_)
          clear hHeld hK K
          have hHeld := hHeld2
          clear hHeld2
          try simp only [Act.put, List.getElem_toArray, List.getElem_cons_zero, List.getElem_cons_succ, List.setIfInBounds_toArray, List.set_cons_zero, List.set_cons_succ]
          refine wpAnyH_take (i := 9) (v := ?_) rfl (by kernel_rfl) (by kernel_rfl) (by kernel_rfl) (fun _ _ _ h => h) (Or.inl ⟨by rfl, ?_⟩) hHeld ?_
          rotate_left
          · intro w hSw
            try dsimp only at hSw
            first | (go_simp; done) | (go_simp; with_reducible rfl)
          try simp only [Act.put, List.getElem_toArray, List.getElem_cons_zero, List.getElem_cons_succ, List.setIfInBounds_toArray, List.set_cons_zero, List.set_cons_succ]
          refine wpAnyH_ready (rs := [10]) (by kernel_rfl) (by simp) ?_
          refine AllReadyH.cons rfl (fun K hK => ?_) AllReadyH.nil
          go_simp
          refine hK.out _ _ ⟨Blk.alloc hHeld.1 _, Blk.alloc hHeld.2.1 _, Blk.alloc hHeld.2.2 _⟩ (fun hHeld2 => ?_)
          clear hHeld hK K
          have hHeld := hHeld2
          clear hHeld2
          try simp only [Act.put, List.getElem_toArray, List.getElem_cons_zero, List.getElem_cons_succ, List.setIfInBounds_toArray, List.set_cons_zero, List.set_cons_succ]
          obtain ⟨wa, hwa⟩ : ∃ wa, wa = w5.alloc (.cells #[.slice none 0 0, .int .i64 0] 24) := ⟨_, rfl⟩
          rw [← hwa] at hHeld ⊢
          have hla : w5.heap.size + 1 ≤ wa.heap.size := by rw [hwa]; simp
          obtain ⟨G, hG⟩ : ∃ G, G = w5.heap.size := ⟨_, rfl⟩
          rw [← hG]
          have h1 := T.out.alloc (by omega) (.cells #[.slice none 0 0, .int .i64 0] 24)
          have BG := Blk.new w5 24 #[.slice none 0 0, .int .i64 0]
          rw [← hwa] at h1 BG
          rw [← hG] at BG
          replace T := Lib.hid h1
          replace BG := Lib.hid BG
          have hG1 := Nat.le_of_eq hG
          have hG2 := Nat.le_of_eq hG.symm
          clear h1 hG
          have h1 := HR.out.alloc keepsN (.cells #[.slice none 0 0, .int .i64 0] 24)
          rw [← hwa] at h1
          replace HR := Lib.hid h1
          clear h1
          clear hwa
          refine wpAnyH_ready (rs := [11]) (by kernel_rfl) (by simp) ?_
          refine AllReadyH.cons rfl (fun K hK => ?_) AllReadyH.nil
          refine step_store_blk (T := 24) (by rfl) 24 _ _ (by rfl) G 0 [] [.slice none 0 0, .int .i64 0] [] [.slice (some ⟨g5, 0, none⟩) (l.length + 1) cap5, .int .i64 since] (by rfl) (by rfl) BG.out rfl rfl sizeB buf_one' (fun w7 b7 U7 => ?_)
          have hG3 : w.heap.size + 3 ≤ G := by omega
          refine hK.out _ _ ⟨U7.blk hHeld.1 (by omega), U7.blk hHeld.2.1 (by omega), U7.blk hHeld.2.2 (by omega)⟩ (fun hHeld2 => ?_)
          clear hHeld hK K
          have hHeld := hHeld2
          clear hHeld2
          try simp only [Act.put, List.getElem_toArray, List.getElem_cons_zero, List.getElem_cons_succ]
          refine wpAnyH_done (by kernel_rfl) ?_ _
          refine REST G g5 cap5 _ _ _ w7 hG3 hHeld.1 hHeld.2.2 b7 (OwnX.upd ⟨_, _, HR.out, fun q hq e => ?_, fun q hq e => ?_⟩ U7 (.inr rfl)) (T.out.trans (U7.below _ (by omega)))
          · rcases hq with hq | hq
            · have h2 := F2.out.1 q hq; omega
            · have h2 : _ ≤ q := hq.1; have h3 : q < _ := hq.2; omega
          · have hq2 : g5 = q := by simpa [Value.ownBlock] using hq
            rcases HAT5.out with h4 | h4
            · have h2 := F2.out.2 g5 h4; omega
            · omega
        · go_simp
          refine hK.out _ _ ⟨Blk.alloc hHeld.1 _, Blk.alloc hHeld.2.1 _, Blk.alloc hHeld.2.2 _⟩ (fun hHeld2 => ?_)
          clear hHeld hK K
          have hHeld := hHeld2
          clear hHeld2
          try simp only [Act.put, List.getElem_toArray, List.getElem_cons_zero, List.getElem_cons_succ, List.setIfInBounds_toArray, List.set_cons_zero, List.set_cons_succ]
          obtain ⟨wa, hwa⟩ : ∃ wa, wa = wb.alloc (.cells #[.slice none 0 0, .int .i64 0] 24) := ⟨_, rfl⟩
          rw [← hwa] at hHeld ⊢
          have hla : wb.heap.size + 1 ≤ wa.heap.size := by rw [hwa]; simp
          obtain ⟨G, hG⟩ : ∃ G, G = wb.heap.size := ⟨_, rfl⟩
          rw [← hG]
          have h1 := T.out.alloc (by omega) (.cells #[.slice none 0 0, .int .i64 0] 24)
          have BG := Blk.new wb 24 #[.slice none 0 0, .int .i64 0]
          rw [← hwa] at h1 BG
          rw [← hG] at BG
          replace T := Lib.hid h1
          replace BG := Lib.hid BG
          have hG1 := Nat.le_of_eq hG
          have hG2 := Nat.le_of_eq hG.symm
          clear h1 hG
          have h1 := HO.out.alloc keepsN (.cells #[.slice none 0 0, .int .i64 0] 24)
          rw [← hwa] at h1
          replace HO := Lib.hid h1
          clear h1
          have h1 := HM3.out.under ((Below.refl _ _).alloc (Nat.le_refl _) (.cells #[.slice none 0 0, .int .i64 0] 24)) (fun _ h => Nat.lt_of_lt_of_le h.2 (by omega))
          rw [← hwa] at h1
          replace HM3 := Lib.hid h1
          clear h1
          have h1 := Blk.alloc BN.out (.cells #[.slice none 0 0, .int .i64 0] 24)
          rw [← hwa] at h1
          replace BN := Lib.hid h1
          clear h1
          clear hwa
          refine wpAnyH_ready (rs := [6]) (by kernel_rfl) (by simp) ?_
          refine AllReadyH.cons rfl (fun K hK => ?_) AllReadyH.nil
          have HROW3 : Hid (wa.ownsRow (w.heap.size + 3) 30 13 (.slice a1 l.length c1) l.length css1.flatten) := own_mono HO.out.row (by omega)
          refine step_append_lies _ (by rfl) _ _ _ (by rfl) (w.heap.size + 3) 30 i0 _ 13 144 Tryd.underlying22 hi0 hz0 hz1 hz2 rfl (by omega) (.slice a1 l.length c1) l.length css1.flatten (by rfl) HROW3.out
            ⟨gn, 0, none⟩ 1 1 [.int .i64 m.id, .string m.topic, .int .i64 k3, .int .i64 i3, .int .u64 b3, .string s3, .slice am3 nm3 cm3, .int .i64 m.tat, .int .i64 m.til, .string m.reply, .int .i64 m.corr, .int .i64 m.prio, .int .i64 m.hops] (by rfl) (by rfl) (World.news_of_block (cs := #[.int .i64 m.id, .string m.topic, .int .i64 k3, .int .i64 i3, .int .u64 b3, .string s3, .slice am3 nm3 cm3, .int .i64 m.tat, .int .i64 m.til, .string m.reply, .int .i64 m.corr, .int .i64 m.prio, .int .i64 m.hops]) (t := 30) (fr := (0, 0)) BN.out) HM3.out.one (by omega) (by unfold maxLen; omega) (by omega) (by omega) wa.heap.size rfl ?_
          intro g5 cap5 w5 hown5 hgrow5 hat5 hlt5
          have HO5 := Lib.hid hown5
          have HG5 := Lib.hid hgrow5
          have HAT5 := Lib.hid hat5
          have hl6 := hgrow5.size
          have hne : ∀ q, q < w.heap.size + 3 → some q ≠ (Value.slice a1 l.length c1).ownBlock := fun q hq e => by have := (own_row HROW3.out q e.symm).1; omega
          have HNE := Lib.hid hne
          have HR := Lib.hid (OwnE.snoc2 keepsN (HO.out.mono (show w.heap.size + 3 ≤ _ by omega)) HM3.out rfl (fun x hx => ⟨by have := hx.1; omega, by have := hx.2; omega, fun e => by have h2 := (F2.out.2 x e).2; have := hx.1; omega⟩) HO5.out rfl HG5.out HAT5.out)
          replace T : Hid (Below w.heap.size w w5) := T.out.grown HG5.out (by omega) (fun q hq => by have := (own_row HROW3.out q hq).1; omega)
          replace BG : Hid (Blk w5 G 24 #[.slice none 0 0, .int .i64 0]) := Blk.grown BG.out HG5.out (fun e => by have h2 := F2.out.2 G e.symm; omega)
          clear hown5 hgrow5 hat5 hne
          refine hK.out _ _ ⟨Blk.grown hHeld.1 HG5.out (HNE.out _ (by omega)), Blk.grown hHeld.2.1 HG5.out (HNE.out _ (by omega)), Blk.grown hHeld.2.2 HG5.out (HNE.out _ (by omega))⟩ (fun hHeld2 => ?_)
          clear hHeld hK K
          have hHeld := hHeld2
          clear hHeld2
          try simp only [Act.put, List.getElem_toArray, List.getElem_cons_zero, List.getElem_cons_succ, List.setIfInBounds_toArray, List.set_cons_zero, List.set_cons_succ]
          refine wpAnyH_take (i := 9) (v := ?_) rfl (by kernel_rfl) (by kernel_rfl) (by kernel_rfl) (fun _ _ _ h => h) (Or.inl ⟨by rfl, ?_⟩) hHeld ?_
          rotate_left
          · intro w hSw
            try dsimp only at hSw
            first | (go_simp; done) | (go_simp; with_reducible rfl)
          try simp only [Act.put, List.getElem_toArray, List.getElem_cons_zero, List.getElem_cons_succ, List.setIfInBounds_toArray, List.set_cons_zero, List.set_cons_succ]
          refine wpAnyH_ready (rs := [11]) (by kernel_rfl) (by simp) ?_
          refine AllReadyH.cons rfl (fun K hK => ?_) AllReadyH.nil
          refine step_store_blk (T := 24) (by rfl) 24 _ _ (by rfl) G 0 [] [.slice none 0 0, .int .i64 0] [] [.slice (some ⟨g5, 0, none⟩) (l.length + 1) cap5, .int .i64 since] (by rfl) (by rfl) BG.out rfl rfl sizeB buf_one' (fun w7 b7 U7 => ?_)
          have hG3 : w.heap.size + 3 ≤ G := by omega
          refine hK.out _ _ ⟨U7.blk hHeld.1 (by omega), U7.blk hHeld.2.1 (by omega), U7.blk hHeld.2.2 (by omega)⟩ (fun hHeld2 => ?_)
          clear hHeld hK K
          have hHeld := hHeld2
          clear hHeld2
          try simp only [Act.put, List.getElem_toArray, List.getElem_cons_zero, List.getElem_cons_succ]
          refine wpAnyH_done (by kernel_rfl) ?_ _
          refine REST G g5 cap5 _ _ _ w7 hG3 hHeld.1 hHeld.2.2 b7 (OwnX.upd ⟨_, _, HR.out, fun q hq e => ?_, fun q hq e => ?_⟩ U7 (.inr rfl)) (T.out.trans (U7.below _ (by omega)))
          · rcases hq with hq | hq
            · have h2 := F2.out.1 q hq; omega
            · have h2 : _ ≤ q := hq.1; have h3 : q < _ := hq.2; omega
          · have hq2 : g5 = q := by simpa [Value.ownBlock] using hq
            rcases HAT5.out with h4 | h4
            · have h2 := F2.out.2 g5 h4; omega
            · omega
      · go_simp
        refine hK.out _ _ ⟨Blk.alloc hHeld.1 _, Blk.alloc hHeld.2.1 _, Blk.alloc hHeld.2.2 _⟩ (fun hHeld2 => ?_)
        clear hHeld hK K
        have hHeld := hHeld2
        clear hHeld2
        try simp only [Act.put, List.getElem_toArray, List.getElem_cons_zero, List.getElem_cons_succ, List.setIfInBounds_toArray, List.set_cons_zero, List.set_cons_succ]
        obtain ⟨wa, hwa⟩ : ∃ wa, wa = w3.alloc (.cells #[.slice none 0 0, .int .i64 0] 24) := ⟨_, rfl⟩
        rw [← hwa] at hHeld ⊢
        have hla : w3.heap.size + 1 ≤ wa.heap.size := by rw [hwa]; simp
        obtain ⟨G, hG⟩ : ∃ G, G = w3.heap.size := ⟨_, rfl⟩
        rw [← hG]
        have h1 := T.out.alloc (by omega) (.cells #[.slice none 0 0, .int .i64 0] 24)
        have BG := Blk.new w3 24 #[.slice none 0 0, .int .i64 0]
        rw [← hwa] at h1 BG
        rw [← hG] at BG
        replace T := Lib.hid h1
        replace BG := Lib.hid BG
        have hG1 := Nat.le_of_eq hG
        have hG2 := Nat.le_of_eq hG.symm
        clear h1 hG
        have h1 := HO.out.alloc keepsN (.cells #[.slice none 0 0, .int .i64 0] 24)
        rw [← hwa] at h1
        replace HO := Lib.hid h1
        clear h1
        have h1 := HM3.out.under ((Below.refl _ _).alloc (Nat.le_refl _) (.cells #[.slice none 0 0, .int .i64 0] 24)) (fun _ h => h.2)
        rw [← hwa] at h1
        replace HM3 := Lib.hid h1
        clear h1
        clear hwa
        refine wpAnyH_ready (rs := [5]) (by kernel_rfl) (by simp) ?_
        refine AllReadyH.cons rfl (fun K hK => ?_) AllReadyH.nil
        go_simp
        refine hK.out _ _ ⟨Blk.alloc hHeld.1 _, Blk.alloc hHeld.2.1 _, Blk.alloc hHeld.2.2 _⟩ (fun hHeld2 => ?_)
        clear hHeld hK K
        have hHeld := hHeld2
        clear hHeld2
        try simp only [Act.put, List.getElem_toArray, List.getElem_cons_zero, List.getElem_cons_succ, List.setIfInBounds_toArray, List.set_cons_zero, List.set_cons_succ]
        obtain ⟨wb, hwb⟩ : ∃ wb, wb = wa.alloc (.cells #[.int .i64 m.id, .string m.topic, .int .i64 k3, .int .i64 i3, .int .u64 b3, .string s3, .slice am3 nm3 cm3, .int .i64 m.tat, .int .i64 m.til, .string m.reply, .int .i64 m.corr, .int .i64 m.prio, .int .i64 m.hops] 30) := ⟨_, rfl⟩
        rw [← hwb] at hHeld ⊢
        have hl5 : wa.heap.size + 1 ≤ wb.heap.size := by rw [hwb]; simp
        have h1 := T.out.alloc (by omega) (.cells #[.int .i64 m.id, .string m.topic, .int .i64 k3, .int .i64 i3, .int .u64 b3, .string s3, .slice am3 nm3 cm3, .int .i64 m.tat, .int .i64 m.til, .string m.reply, .int .i64 m.corr, .int .i64 m.prio, .int .i64 m.hops] 30)
        have BN := Blk.new wa 30 #[.int .i64 m.id, .string m.topic, .int .i64 k3, .int .i64 i3, .int .u64 b3, .string s3, .slice am3 nm3 cm3, .int .i64 m.tat, .int .i64 m.til, .string m.reply, .int .i64 m.corr, .int .i64 m.prio, .int .i64 m.hops]
        have h2 := HO.out.alloc keepsN (.cells #[.int .i64 m.id, .string m.topic, .int .i64 k3, .int .i64 i3, .int .u64 b3, .string s3, .slice am3 nm3 cm3, .int .i64 m.tat, .int .i64 m.til, .string m.reply, .int .i64 m.corr, .int .i64 m.prio, .int .i64 m.hops] 30)
        have h3 := HM3.out.under ((Below.refl _ _).alloc (Nat.le_refl _) (.cells #[.int .i64 m.id, .string m.topic, .int .i64 k3, .int .i64 i3, .int .u64 b3, .string s3, .slice am3 nm3 cm3, .int .i64 m.tat, .int .i64 m.til, .string m.reply, .int .i64 m.corr, .int .i64 m.prio, .int .i64 m.hops] 30)) (fun _ h => Nat.lt_of_lt_of_le h.2 (by omega))
        rw [← hwb] at h1 BN h2 h3
        replace T := Lib.hid h1
        replace HO := Lib.hid h2
        replace HM3 := Lib.hid h3
        obtain ⟨gn, hgn⟩ : ∃ gn, gn = wa.heap.size := ⟨_, rfl⟩
        rw [← hgn] at BN ⊢
        replace BN := Lib.hid BN
        have h4 := Blk.alloc BG.out (.cells #[.int .i64 m.id, .string m.topic, .int .i64 k3, .int .i64 i3, .int .u64 b3, .string s3, .slice am3 nm3 cm3, .int .i64 m.tat, .int .i64 m.til, .string m.reply, .int .i64 m.corr, .int .i64 m.prio, .int .i64 m.hops] 30)
        rw [← hwb] at h4
        replace BG := Lib.hid h4
        clear h4
        clear h1 h2 h3 hgn
        clear hwb
        refine wpAnyH_ready (rs := [6]) (by kernel_rfl) (by simp) ?_
        refine AllReadyH.cons rfl (fun K hK => ?_) AllReadyH.nil
        have HROW3 : Hid (wb.ownsRow (w.heap.size + 3) 30 13 (.slice a1 l.length c1) l.length css1.flatten) := own_mono HO.out.row (by omega)
        refine step_append_lies _ (by rfl) _ _ _ (by rfl) (w.heap.size + 3) 30 i0 _ 13 144 Tryd.underlying22 hi0 hz0 hz1 hz2 rfl (by omega) (.slice a1 l.length c1) l.length css1.flatten (by rfl) HROW3.out
          ⟨gn, 0, none⟩ 1 1 [.int .i64 m.id, .string m.topic, .int .i64 k3, .int .i64 i3, .int .u64 b3, .string s3, .slice am3 nm3 cm3, .int .i64 m.tat, .int .i64 m.til, .string m.reply, .int .i64 m.corr, .int .i64 m.prio, .int .i64 m.hops] (by rfl) (by rfl) (World.news_of_block (cs := #[.int .i64 m.id, .string m.topic, .int .i64 k3, .int .i64 i3, .int .u64 b3, .string s3, .slice am3 nm3 cm3, .int .i64 m.tat, .int .i64 m.til, .string m.reply, .int .i64 m.corr, .int .i64 m.prio, .int .i64 m.hops]) (t := 30) (fr := (0, 0)) BN.out) HM3.out.one (by omega) (by unfold maxLen; omega) (by omega) (by omega) wb.heap.size rfl ?_
        intro g5 cap5 w5 hown5 hgrow5 hat5 hlt5
        have HO5 := Lib.hid hown5
        have HG5 := Lib.hid hgrow5
        have HAT5 := Lib.hid hat5
        have hl6 := hgrow5.size
        have hne : ∀ q, q < w.heap.size + 3 → some q ≠ (Value.slice a1 l.length c1).ownBlock := fun q hq e => by have := (own_row HROW3.out q e.symm).1; omega
        have HNE := Lib.hid hne
        have HR := Lib.hid (OwnE.snoc2 keepsN (HO.out.mono (show w.heap.size + 3 ≤ _ by omega)) HM3.out rfl (fun x hx => ⟨by have := hx.1; omega, by have := hx.2; omega, fun e => by have h2 := (F2.out.2 x e).2; have := hx.1; omega⟩) HO5.out rfl HG5.out HAT5.out)
        replace T : Hid (Below w.heap.size w w5) := T.out.grown HG5.out (by omega) (fun q hq => by have := (own_row HROW3.out q hq).1; omega)
        replace BG : Hid (Blk w5 G 24 #[.slice none 0 0, .int .i64 0]) := Blk.grown BG.out HG5.out (fun e => by have h2 := F2.out.2 G e.symm; omega)
        clear hown5 hgrow5 hat5 hne
        refine hK.out _ _ ⟨Blk.grown hHeld.1 HG5.out (HNE.out _ (by omega)), Blk.grown hHeld.2.1 HG5.out (HNE.out _ (by omega)), Blk.grown hHeld.2.2 HG5.out (HNE.out _ (by omega))⟩ (fun hHeld2 => ?_)
        clear hHeld hK K
        have hHeld := hHeld2
        clear hHeld2
        try simp only [Act.put, List.getElem_toArray, List.getElem_cons_zero, List.getElem_cons_succ, List.setIfInBounds_toArray, List.set_cons_zero, List.set_cons_succ]
        refine wpAnyH_take (i := 9) (v := ?_) rfl (by kernel_rfl) (by kernel_rfl) (by kernel_rfl) (fun _ _ _ h => h) (Or.inl ⟨by rfl, ?_⟩) hHeld ?_
        rotate_left
        · intro w hSw
          try dsimp only at hSw
          first | (go_simp; done) | (go_simp; with_reducible rfl)
        try simp only [Act.put, List.getElem_toArray, List.getElem_cons_zero, List.getElem_cons_succ, List.setIfInBounds_toArray, List.set_cons_zero, List.set_cons_succ]
        refine wpAnyH_ready (rs := [11]) (by kernel_rfl) (by simp) ?_
        refine AllReadyH.cons rfl (fun K hK => ?_) AllReadyH.nil
        refine step_store_blk (T := 24) (by rfl) 24 _ _ (by rfl) G 0 [] [.slice none 0 0, .int .i64 0] [] [.slice (some ⟨g5, 0, none⟩) (l.length + 1) cap5, .int .i64 since] (by rfl) (by rfl) BG.out rfl rfl sizeB buf_one' (fun w7 b7 U7 => ?_)
        have hG3 : w.heap.size + 3 ≤ G := by omega
        refine hK.out _ _ ⟨U7.blk hHeld.1 (by omega), U7.blk hHeld.2.1 (by omega), U7.blk hHeld.2.2 (by omega)⟩ (fun hHeld2 => ?_)
        clear hHeld hK K
        have hHeld := hHeld2
        clear hHeld2
        try simp only [Act.put, List.getElem_toArray, List.getElem_cons_zero, List.getElem_cons_succ]
        refine wpAnyH_done (by kernel_rfl) ?_ _
        refine REST G g5 cap5 _ _ _ w7 hG3 hHeld.1 hHeld.2.2 b7 (OwnX.upd ⟨_, _, HR.out, fun q hq e => ?_, fun q hq e => ?_⟩ U7 (.inr rfl)) (T.out.trans (U7.below _ (by omega)))
        · rcases hq with hq | hq
          · have h2 := F2.out.1 q hq; omega
          · have h2 : _ ≤ q := hq.1; have h3 : q < _ := hq.2; omega
        · have hq2 : g5 = q := by simpa [Value.ownBlock] using hq
          rcases HAT5.out with h4 | h4
          · have h2 := F2.out.2 g5 h4; omega
          · omega
    · go_simp
      refine hK.out _ _ ⟨Blk.alloc hHeld.1 _, Blk.alloc hHeld.2.1 _, Blk.alloc hHeld.2.2 _⟩ (fun hHeld2 => ?_)
      clear hHeld hK K
      have hHeld := hHeld2
      clear hHeld2
      try simp only [Act.put, List.getElem_toArray, List.getElem_cons_zero, List.getElem_cons_succ, List.setIfInBounds_toArray, List.set_cons_zero, List.set_cons_succ]
      obtain ⟨wa, hwa⟩ : ∃ wa, wa = w2.alloc (.cells #[.slice none 0 0, .int .i64 0] 24) := ⟨_, rfl⟩
      rw [← hwa] at hHeld ⊢
      have hla : w2.heap.size + 1 ≤ wa.heap.size := by rw [hwa]; simp
      obtain ⟨G, hG⟩ : ∃ G, G = w2.heap.size := ⟨_, rfl⟩
      rw [← hG]
      have h1 := T.out.alloc (by omega) (.cells #[.slice none 0 0, .int .i64 0] 24)
      have BG := Blk.new w2 24 #[.slice none 0 0, .int .i64 0]
      rw [← hwa] at h1 BG
      rw [← hG] at BG
      replace T := Lib.hid h1
      replace BG := Lib.hid BG
      have hG1 := Nat.le_of_eq hG
      have hG2 := Nat.le_of_eq hG.symm
      clear h1 hG
      have h1 := HO.out.alloc keepsN (.cells #[.slice none 0 0, .int .i64 0] 24)
      rw [← hwa] at h1
      replace HO := Lib.hid h1
      clear h1
      clear hwa
      refine wpAnyH_ready (rs := [4]) (by kernel_rfl) (by simp) ?_
      refine AllReadyH.cons rfl (fun K hK => ?_) AllReadyH.nil
      go_simp
      go_at_call 15
      refine (copymsg_any m wa S [.int .i64 m.id, .string m.topic, .int .i64 k, .int .i64 i, .int .u64 b, .string s, .slice am nm cm, .int .i64 m.tat, .int .i64 m.til, .string m.reply, .int .i64 m.corr, .int .i64 m.prio, .int .i64 m.hops] (HM.out.under T.out HS.out) (fun x hx => by have := HS.out x hx; omega) hz).mono ?_
      rintro e w3 ⟨k3, i3, b3, s3, am3, nm3, cm3, rfl, hm3, hb⟩
      have HM3 := Lib.hid hm3
      have hl4 := hb.size
      replace HO := Lib.hid (HO.out.below keepsN hb (Nat.le_refl _))
      clear hm3
      replace T := Lib.hid (below_on hb T.out)
      replace BG := Lib.hid (Blk.on BG.out hb)
      refine hK.out _ _ ⟨Blk.on hHeld.1 hb, Blk.on hHeld.2.1 hb, Blk.on hHeld.2.2 hb⟩ (fun hHeld2 => ?_)
      clear hHeld hK K
      have hHeld := hHeld2
      clear hHeld2
      try simp only [Act.put, List.getElem_toArray, List.getElem_cons_zero, List.getElem_cons_succ, List.setIfInBounds_toArray, List.set_cons_zero, List.set_cons_succ]
      clear hb
      refine wpAnyH_ready (rs := [5]) (by kernel_rfl) (by simp) ?_
      refine AllReadyH.cons rfl (fun K hK => ?_) AllReadyH.nil
      go_simp
      refine hK.out _ _ ⟨Blk.alloc hHeld.1 _, Blk.alloc hHeld.2.1 _, Blk.alloc hHeld.2.2 _⟩ (fun hHeld2 => ?_)
      clear hHeld hK K
      have hHeld := hHeld2
      clear hHeld2
      try simp only [Act.put, List.getElem_toArray, List.getElem_cons_zero, List.getElem_cons_succ, List.setIfInBounds_toArray, List.set_cons_zero, List.set_cons_succ]
      obtain ⟨wb, hwb⟩ : ∃ wb, wb = w3.alloc (.cells #[.int .i64 m.id, .string m.topic, .int .i64 k3, .int .i64 i3, .int .u64 b3, .string s3, .slice am3 nm3 cm3, .int .i64 m.tat, .int .i64 m.til, .string m.reply, .int .i64 m.corr, .int .i64 m.prio, .int .i64 m.hops] 30) := ⟨_, rfl⟩
      rw [← hwb] at hHeld ⊢
      have hl5 : w3.heap.size + 1 ≤ wb.heap.size := by rw [hwb]; simp
      have h1 := T.out.alloc (by omega) (.cells #[.int .i64 m.id, .string m.topic, .int .i64 k3, .int .i64 i3, .int .u64 b3, .string s3, .slice am3 nm3 cm3, .int .i64 m.tat, .int .i64 m.til, .string m.reply, .int .i64 m.corr, .int .i64 m.prio, .int .i64 m.hops] 30)
      have BN := Blk.new w3 30 #[.int .i64 m.id, .string m.topic, .int .i64 k3, .int .i64 i3, .int .u64 b3, .string s3, .slice am3 nm3 cm3, .int .i64 m.tat, .int .i64 m.til, .string m.reply, .int .i64 m.corr, .int .i64 m.prio, .int .i64 m.hops]
      have h2 := HO.out.alloc keepsN (.cells #[.int .i64 m.id, .string m.topic, .int .i64 k3, .int .i64 i3, .int .u64 b3, .string s3, .slice am3 nm3 cm3, .int .i64 m.tat, .int .i64 m.til, .string m.reply, .int .i64 m.corr, .int .i64 m.prio, .int .i64 m.hops] 30)
      have h3 := HM3.out.under ((Below.refl _ _).alloc (Nat.le_refl _) (.cells #[.int .i64 m.id, .string m.topic, .int .i64 k3, .int .i64 i3, .int .u64 b3, .string s3, .slice am3 nm3 cm3, .int .i64 m.tat, .int .i64 m.til, .string m.reply, .int .i64 m.corr, .int .i64 m.prio, .int .i64 m.hops] 30)) (fun _ h => Nat.lt_of_lt_of_le h.2 (by omega))
      rw [← hwb] at h1 BN h2 h3
      replace T := Lib.hid h1
      replace HO := Lib.hid h2
      replace HM3 := Lib.hid h3
      obtain ⟨gn, hgn⟩ : ∃ gn, gn = w3.heap.size := ⟨_, rfl⟩
      rw [← hgn] at BN ⊢
      replace BN := Lib.hid BN
      have h4 := Blk.alloc BG.out (.cells #[.int .i64 m.id, .string m.topic, .int .i64 k3, .int .i64 i3, .int .u64 b3, .string s3, .slice am3 nm3 cm3, .int .i64 m.tat, .int .i64 m.til, .string m.reply, .int .i64 m.corr, .int .i64 m.prio, .int .i64 m.hops] 30)
      rw [← hwb] at h4
      replace BG := Lib.hid h4
      clear h4
      clear h1 h2 h3 hgn
      clear hwb
      refine wpAnyH_ready (rs := [6]) (by kernel_rfl) (by simp) ?_
      refine AllReadyH.cons rfl (fun K hK => ?_) AllReadyH.nil
      have HROW3 : Hid (wb.ownsRow (w.heap.size + 3) 30 13 (.slice a1 l.length c1) l.length css1.flatten) := own_mono HO.out.row (by omega)
      refine step_append_lies _ (by rfl) _ _ _ (by rfl) (w.heap.size + 3) 30 i0 _ 13 144 Tryd.underlying22 hi0 hz0 hz1 hz2 rfl (by omega) (.slice a1 l.length c1) l.length css1.flatten (by rfl) HROW3.out
        ⟨gn, 0, none⟩ 1 1 [.int .i64 m.id, .string m.topic, .int .i64 k3, .int .i64 i3, .int .u64 b3, .string s3, .slice am3 nm3 cm3, .int .i64 m.tat, .int .i64 m.til, .string m.reply, .int .i64 m.corr, .int .i64 m.prio, .int .i64 m.hops] (by rfl) (by rfl) (World.news_of_block (cs := #[.int .i64 m.id, .string m.topic, .int .i64 k3, .int .i64 i3, .int .u64 b3, .string s3, .slice am3 nm3 cm3, .int .i64 m.tat, .int .i64 m.til, .string m.reply, .int .i64 m.corr, .int .i64 m.prio, .int .i64 m.hops]) (t := 30) (fr := (0, 0)) BN.out) HM3.out.one (by omega) (by unfold maxLen; omega) (by omega) (by omega) wb.heap.size rfl ?_
      intro g5 cap5 w5 hown5 hgrow5 hat5 hlt5
      have HO5 := Lib.hid hown5
      have HG5 := Lib.hid hgrow5
      have HAT5 := Lib.hid hat5
      have hl6 := hgrow5.size
      have hne : ∀ q, q < w.heap.size + 3 → some q ≠ (Value.slice a1 l.length c1).ownBlock := fun q hq e => by have := (own_row HROW3.out q e.symm).1; omega
      have HNE := Lib.hid hne
      have HR := Lib.hid (OwnE.snoc2 keepsN (HO.out.mono (show w.heap.size + 3 ≤ _ by omega)) HM3.out rfl (fun x hx => ⟨by have := hx.1; omega, by have := hx.2; omega, fun e => by have h2 := (F2.out.2 x e).2; have := hx.1; omega⟩) HO5.out rfl HG5.out HAT5.out)
      replace T : Hid (Below w.heap.size w w5) := T.out.grown HG5.out (by omega) (fun q hq => by have := (own_row HROW3.out q hq).1; omega)
      replace BG : Hid (Blk w5 G 24 #[.slice none 0 0, .int .i64 0]) := Blk.grown BG.out HG5.out (fun e => by have h2 := F2.out.2 G e.symm; omega)
      clear hown5 hgrow5 hat5 hne
      refine hK.out _ _ ⟨Blk.grown hHeld.1 HG5.out (HNE.out _ (by omega)), Blk.grown hHeld.2.1 HG5.out (HNE.out _ (by omega)), Blk.grown hHeld.2.2 HG5.out (HNE.out _ (by omega))⟩ (fun hHeld2 => ?_)
      clear hHeld hK K
      have hHeld := hHeld2
      clear hHeld2
      try simp only [Act.put, List.getElem_toArray, List.getElem_cons_zero, List.getElem_cons_succ, List.setIfInBounds_toArray, List.set_cons_zero, List.set_cons_succ]
      refine wpAnyH_take (i := 9) (v := ?_) rfl (by kernel_rfl) (by kernel_rfl) (by kernel_rfl) (fun _ _ _ h => h) (Or.inl ⟨by rfl, ?_⟩) hHeld ?_
      rotate_left
      · intro w hSw
        try dsimp only at hSw
        first | (go_simp; done) | (go_simp; with_reducible rfl)
      try simp only [Act.put, List.getElem_toArray, List.getElem_cons_zero, List.getElem_cons_succ, List.setIfInBounds_toArray, List.set_cons_zero, List.set_cons_succ]
      refine wpAnyH_ready (rs := [11]) (by kernel_rfl) (by simp) ?_
      refine AllReadyH.cons rfl (fun K hK => ?_) AllReadyH.nil
      refine step_store_blk (T := 24) (by rfl) 24 _ _ (by rfl) G 0 [] [.slice none 0 0, .int .i64 0] [] [.slice (some ⟨g5, 0, none⟩) (l.length + 1) cap5, .int .i64 since] (by rfl) (by rfl) BG.out rfl rfl sizeB buf_one' (fun w7 b7 U7 => ?_)
      have hG3 : w.heap.size + 3 ≤ G := by omega
      refine hK.out _ _ ⟨U7.blk hHeld.1 (by omega), U7.blk hHeld.2.1 (by omega), U7.blk hHeld.2.2 (by omega)⟩ (fun hHeld2 => ?_)
      clear hHeld hK K
      have hHeld := hHeld2
      clear hHeld2
      try simp only [Act.put, List.getElem_toArray, List.getElem_cons_zero, List.getElem_cons_succ]
      refine wpAnyH_done (by kernel_rfl) ?_ _
      refine REST G g5 cap5 _ _ _ w7 hG3 hHeld.1 hHeld.2.2 b7 (OwnX.upd ⟨_, _, HR.out, fun q hq e => ?_, fun q hq e => ?_⟩ U7 (.inr rfl)) (T.out.trans (U7.below _ (by omega)))
      · rcases hq with hq | hq
        · have h2 := F2.out.1 q hq; omega
        · have h2 : _ ≤ q := hq.1; have h3 : q < _ := hq.2; omega
      · have hq2 : g5 = q := by simpa [Value.ownBlock] using hq
        rcases HAT5.out with h4 | h4
        · have h2 := F2.out.2 g5 h4; omega
        · omega
  · go_simp
    refine hK.out _ _ ⟨Blk.alloc hHeld.1 _, Blk.alloc hHeld.2.1 _, Blk.alloc hHeld.2.2 _⟩ (fun hHeld2 => ?_)
    clear hHeld hK K
    have hHeld := hHeld2
    clear hHeld2
    try simp only [Act.put, List.getElem_toArray, List.getElem_cons_zero, List.getElem_cons_succ, List.setIfInBounds_toArray, List.set_cons_zero, List.set_cons_succ]
    obtain ⟨wa, hwa⟩ : ∃ wa, wa = W1.alloc (.cells #[.slice none 0 0, .int .i64 0] 24) := ⟨_, rfl⟩
    rw [← hwa] at hHeld ⊢
    have hla : W1.heap.size + 1 ≤ wa.heap.size := by rw [hwa]; simp
    obtain ⟨G, hG⟩ : ∃ G, G = W1.heap.size := ⟨_, rfl⟩
    rw [← hG]
    have h1 := T.out.alloc (by omega) (.cells #[.slice none 0 0, .int .i64 0] 24)
    have BG := Blk.new W1 24 #[.slice none 0 0, .int .i64 0]
    rw [← hwa] at h1 BG
    rw [← hG] at BG
    replace T := Lib.hid h1
    replace BG := Lib.hid BG
    have hG1 := Nat.le_of_eq hG
    have hG2 := Nat.le_of_eq hG.symm
    clear h1 hG
    clear hwa
    refine wpAnyH_ready (rs := [2]) (by kernel_rfl) (by simp) ?_
    refine AllReadyH.cons rfl (fun K hK => ?_) AllReadyH.nil
    go_simp
    go_at_call 13
    refine (copyrow_any l a l.length c S wa (RM.under HROW.out T.out HS.out) (fun x hx => by have := HS.out x hx; omega) HSM.out (by omega)).mono ?_
    rintro e w2 ⟨a1, c1, S1, css1, rfl, hown, hb⟩
    have HO := Lib.hid (hown.mono (show w.heap.size + 3 ≤ _ by omega))
    have hl2 := hb.size
    have F2 := Lib.hid (And.intro hown.far (OwnE.far_lt hown))
    clear hown
    replace T := Lib.hid (below_on hb T.out)
    replace BG := Lib.hid (Blk.on BG.out hb)
    refine hK.out _ _ ⟨Blk.on hHeld.1 hb, Blk.on hHeld.2.1 hb, Blk.on hHeld.2.2 hb⟩ (fun hHeld2 => ?_)
    clear hHeld hK K
    have hHeld := hHeld2
    clear hHeld2
    try simp only [Act.put, List.getElem_toArray, List.getElem_cons_zero, List.getElem_cons_succ, List.setIfInBounds_toArray, List.set_cons_zero, List.set_cons_succ]
    clear hb
    refine wpAnyH_ready (rs := [4]) (by kernel_rfl) (by simp) ?_
    refine AllReadyH.cons rfl (fun K hK => ?_) AllReadyH.nil
    go_simp
    go_at_call 15
    refine (copymsg_any m w2 S [.int .i64 m.id, .string m.topic, .int .i64 k, .int .i64 i, .int .u64 b, .string s, .slice am nm cm, .int .i64 m.tat, .int .i64 m.til, .string m.reply, .int .i64 m.corr, .int .i64 m.prio, .int .i64 m.hops] (HM.out.under T.out HS.out) (fun x hx => by have := HS.out x hx; omega) hz).mono ?_
    rintro e w3 ⟨k3, i3, b3, s3, am3, nm3, cm3, rfl, hm3, hb⟩
    have HM3 := Lib.hid hm3
    have hl4 := hb.size
    replace HO := Lib.hid (HO.out.below keepsN hb (Nat.le_refl _))
    clear hm3
    replace T := Lib.hid (below_on hb T.out)
    replace BG := Lib.hid (Blk.on BG.out hb)
    refine hK.out _ _ ⟨Blk.on hHeld.1 hb, Blk.on hHeld.2.1 hb, Blk.on hHeld.2.2 hb⟩ (fun hHeld2 => ?_)
    clear hHeld hK K
    have hHeld := hHeld2
    clear hHeld2
    try simp only [Act.put, List.getElem_toArray, List.getElem_cons_zero, List.getElem_cons_succ, List.setIfInBounds_toArray, List.set_cons_zero, List.set_cons_succ]
    clear hb
    refine wpAnyH_ready (rs := [5]) (by kernel_rfl) (by simp) ?_
    refine AllReadyH.cons rfl (fun K hK => ?_) AllReadyH.nil
    go_simp
    refine hK.out _ _ ⟨Blk.alloc hHeld.1 _, Blk.alloc hHeld.2.1 _, Blk.alloc hHeld.2.2 _⟩ (fun hHeld2 => ?_)
    clear hHeld hK K
    have hHeld := hHeld2
    clear hHeld2
    try simp only [Act.put, List.getElem_toArray, List.getElem_cons_zero, List.getElem_cons_succ, List.setIfInBounds_toArray, List.set_cons_zero, List.set_cons_succ]
    obtain ⟨wb, hwb⟩ : ∃ wb, wb = w3.alloc (.cells #[.int .i64 m.id, .string m.topic, .int .i64 k3, .int .i64 i3, .int .u64 b3, .string s3, .slice am3 nm3 cm3, .int .i64 m.tat, .int .i64 m.til, .string m.reply, .int .i64 m.corr, .int .i64 m.prio, .int .i64 m.hops] 30) := ⟨_, rfl⟩
    rw [← hwb] at hHeld ⊢
    have hl5 : w3.heap.size + 1 ≤ wb.heap.size := by rw [hwb]; simp
    have h1 := T.out.alloc (by omega) (.cells #[.int .i64 m.id, .string m.topic, .int .i64 k3, .int .i64 i3, .int .u64 b3, .string s3, .slice am3 nm3 cm3, .int .i64 m.tat, .int .i64 m.til, .string m.reply, .int .i64 m.corr, .int .i64 m.prio, .int .i64 m.hops] 30)
    have BN := Blk.new w3 30 #[.int .i64 m.id, .string m.topic, .int .i64 k3, .int .i64 i3, .int .u64 b3, .string s3, .slice am3 nm3 cm3, .int .i64 m.tat, .int .i64 m.til, .string m.reply, .int .i64 m.corr, .int .i64 m.prio, .int .i64 m.hops]
    have h2 := HO.out.alloc keepsN (.cells #[.int .i64 m.id, .string m.topic, .int .i64 k3, .int .i64 i3, .int .u64 b3, .string s3, .slice am3 nm3 cm3, .int .i64 m.tat, .int .i64 m.til, .string m.reply, .int .i64 m.corr, .int .i64 m.prio, .int .i64 m.hops] 30)
    have h3 := HM3.out.under ((Below.refl _ _).alloc (Nat.le_refl _) (.cells #[.int .i64 m.id, .string m.topic, .int .i64 k3, .int .i64 i3, .int .u64 b3, .string s3, .slice am3 nm3 cm3, .int .i64 m.tat, .int .i64 m.til, .string m.reply, .int .i64 m.corr, .int .i64 m.prio, .int .i64 m.hops] 30)) (fun _ h => Nat.lt_of_lt_of_le h.2 (by omega))
    rw [← hwb] at h1 BN h2 h3
    replace T := Lib.hid h1
    replace HO := Lib.hid h2
    replace HM3 := Lib.hid h3
    obtain ⟨gn, hgn⟩ : ∃ gn, gn = w3.heap.size := ⟨_, rfl⟩
    rw [← hgn] at BN ⊢
    replace BN := Lib.hid BN
    have h4 := Blk.alloc BG.out (.cells #[.int .i64 m.id, .string m.topic, .int .i64 k3, .int .i64 i3, .int .u64 b3, .string s3, .slice am3 nm3 cm3, .int .i64 m.tat, .int .i64 m.til, .string m.reply, .int .i64 m.corr, .int .i64 m.prio, .int .i64 m.hops] 30)
    rw [← hwb] at h4
    replace BG := Lib.hid h4
    clear h4
    clear h1 h2 h3 hgn
    clear hwb
    refine wpAnyH_ready (rs := [6]) (by kernel_rfl) (by simp) ?_
    refine AllReadyH.cons rfl (fun K hK => ?_) AllReadyH.nil
    have HROW3 : Hid (wb.ownsRow (w.heap.size + 3) 30 13 (.slice a1 l.length c1) l.length css1.flatten) := own_mono HO.out.row (by omega)
    refine step_append_lies _ (by rfl) _ _ _ (by rfl) (w.heap.size + 3) 30 i0 _ 13 144 Tryd.underlying22 hi0 hz0 hz1 hz2 rfl (by omega) (.slice a1 l.length c1) l.length css1.flatten (by rfl) HROW3.out
      ⟨gn, 0, none⟩ 1 1 [.int .i64 m.id, .string m.topic, .int .i64 k3, .int .i64 i3, .int .u64 b3, .string s3, .slice am3 nm3 cm3, .int .i64 m.tat, .int .i64 m.til, .string m.reply, .int .i64 m.corr, .int .i64 m.prio, .int .i64 m.hops] (by rfl) (by rfl) (World.news_of_block (cs := #[.int .i64 m.id, .string m.topic, .int .i64 k3, .int .i64 i3, .int .u64 b3, .string s3, .slice am3 nm3 cm3, .int .i64 m.tat, .int .i64 m.til, .string m.reply, .int .i64 m.corr, .int .i64 m.prio, .int .i64 m.hops]) (t := 30) (fr := (0, 0)) BN.out) HM3.out.one (by omega) (by unfold maxLen; omega) (by omega) (by omega) wb.heap.size rfl ?_
    intro g5 cap5 w5 hown5 hgrow5 hat5 hlt5
    have HO5 := Lib.hid hown5
    have HG5 := Lib.hid hgrow5
    have HAT5 := Lib.hid hat5
    have hl6 := hgrow5.size
    have hne : ∀ q, q < w.heap.size + 3 → some q ≠ (Value.slice a1 l.length c1).ownBlock := fun q hq e => by have := (own_row HROW3.out q e.symm).1; omega
    have HNE := Lib.hid hne
    have HR := Lib.hid (OwnE.snoc2 keepsN (HO.out.mono (show w.heap.size + 3 ≤ _ by omega)) HM3.out rfl (fun x hx => ⟨by have := hx.1; omega, by have := hx.2; omega, fun e => by have h2 := (F2.out.2 x e).2; have := hx.1; omega⟩) HO5.out rfl HG5.out HAT5.out)
    replace T : Hid (Below w.heap.size w w5) := T.out.grown HG5.out (by omega) (fun q hq => by have := (own_row HROW3.out q hq).1; omega)
    replace BG : Hid (Blk w5 G 24 #[.slice none 0 0, .int .i64 0]) := Blk.grown BG.out HG5.out (fun e => by have h2 := F2.out.2 G e.symm; omega)
    clear hown5 hgrow5 hat5 hne
    refine hK.out _ _ ⟨Blk.grown hHeld.1 HG5.out (HNE.out _ (by omega)), Blk.grown hHeld.2.1 HG5.out (HNE.out _ (by omega)), Blk.grown hHeld.2.2 HG5.out (HNE.out _ (by omega))⟩ (fun hHeld2 => ?_)
    clear hHeld hK K
    have hHeld := hHeld2
    clear hHeld2
    try simp only [Act.put, List.getElem_toArray, List.getElem_cons_zero, List.getElem_cons_succ, List.setIfInBounds_toArray, List.set_cons_zero, List.set_cons_succ]
    refine wpAnyH_take (i := 9) (v := ?_) rfl (by kernel_rfl) (by kernel_rfl) (by kernel_rfl) (fun _ _ _ h => h) (Or.inl ⟨by rfl, ?_⟩) hHeld ?_
    rotate_left
    · intro w hSw
      try dsimp only at hSw
      first | (go_simp; done) | (go_simp; with_reducible rfl)
    try simp only [Act.put, List.getElem_toArray, List.getElem_cons_zero, List.getElem_cons_succ, List.setIfInBounds_toArray, List.set_cons_zero, List.set_cons_succ]
    refine wpAnyH_ready (rs := [11]) (by kernel_rfl) (by simp) ?_
    refine AllReadyH.cons rfl (fun K hK => ?_) AllReadyH.nil
    refine step_store_blk (T := 24) (by rfl) 24 _ _ (by rfl) G 0 [] [.slice none 0 0, .int .i64 0] [] [.slice (some ⟨g5, 0, none⟩) (l.length + 1) cap5, .int .i64 since] (by rfl) (by rfl) BG.out rfl rfl sizeB buf_one' (fun w7 b7 U7 => ?_)
    have hG3 : w.heap.size + 3 ≤ G := by omega
    refine hK.out _ _ ⟨U7.blk hHeld.1 (by omega), U7.blk hHeld.2.1 (by omega), U7.blk hHeld.2.2 (by omega)⟩ (fun hHeld2 => ?_)
    clear hHeld hK K
    have hHeld := hHeld2
    clear hHeld2
    try simp only [Act.put, List.getElem_toArray, List.getElem_cons_zero, List.getElem_cons_succ]
    refine wpAnyH_done (by kernel_rfl) ?_ _
    refine REST G g5 cap5 _ _ _ w7 hG3 hHeld.1 hHeld.2.2 b7 (OwnX.upd ⟨_, _, HR.out, fun q hq e => ?_, fun q hq e => ?_⟩ U7 (.inr rfl)) (T.out.trans (U7.below _ (by omega)))
    · rcases hq with hq | hq
      · have h2 := F2.out.1 q hq; omega
      · have h2 : _ ≤ q := hq.1; have h3 : q < _ := hq.2; omega
    · have hq2 : g5 = q := by simpa [Value.ownBlock] using hq
      rcases HAT5.out with h4 | h4
      · have h2 := F2.out.2 g5 h4; omega
      · omega
end Go.Proofs.YtmdcfmdjbncaoaaDoor
