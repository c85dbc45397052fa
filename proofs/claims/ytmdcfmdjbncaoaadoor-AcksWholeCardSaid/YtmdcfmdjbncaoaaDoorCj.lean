/- The reference's Send. -/
import Derived.Test.YtmdcfmdjbncaoaaDoorCi
namespace Go.Proofs.YtmdcfmdjbncaoaaDoor
open Go.RowKit
attribute [local go_sem ↓] Go.wp_at_zero Go.wp_at_succ
attribute [local go_sem] Go.undef

set_option maxHeartbeats 16000000 in
set_option maxRecDepth 100000 in
theorem sendr_any (l : List SX) (m : MX) (p : PX) (now : Int) (cs : List Value) (a : Option Addr) (n c : Nat) (S : Nat → Prop) (w : World) (hrow : RS w S l a n c) (hS : ∀ b, S b → b < w.heap.size) (hsm : smallS l) (hn : n ≤ 65536) (hm : IsM w S m cs) (hz : m.body.size ≤ 4096)
    (hp : FitP p) (hw0 : 0 ≤ now) (hw1 : now ≤ 1099511627776) :
    Calls Tryd.prog 29 #[.slice a n c, .agg cs.toArray, .agg #[.int .i64 p.tries, .int .i64 p.base, .int .i64 p.most], .int .i64 now] w (SendP w (sendS l m p now).1 (sendS l m p now).2) := by
  obtain ⟨i0, hi0, hz0, hz1, hz2⟩ := info_parts infoS
  have hcl : c ≤ maxLen := hrow.2.2.1
  have hlc : n ≤ c := hrow.2.1
  obtain rfl : n = l.length := hrow.1
  unfold maxLen at hcl
  have hm0 := hm
  obtain ⟨k, i, b, s, am, nm, cm, rfl, -, -, -⟩ := hm
  obtain ⟨X, hX⟩ : ∃ X, X = sendS l m p now := ⟨_, rfl⟩
  rw [← hX]
  have HX := Lib.hid hX
  obtain ⟨W, hWd⟩ : ∃ W, W = (w.alloc (.cells #[.int .i64 m.id, .string m.topic, .int .i64 k, .int .i64 i, .int .u64 b, .string s, .slice am nm cm, .int .i64 m.tat, .int .i64 m.til, .string m.reply, .int .i64 m.corr, .int .i64 m.prio, .int .i64 m.hops] 30)).alloc (.cells #[.int .i64 p.tries, .int .i64 p.base, .int .i64 p.most] 52) := ⟨_, rfl⟩
  have hW : Below w.heap.size w W := by rw [hWd]; go_grown
  have hs0 : w.heap.size + 2 ≤ W.heap.size := by rw [hWd]; simp
  have B5 : Hid (Blk W w.heap.size 30 #[.int .i64 m.id, .string m.topic, .int .i64 k, .int .i64 i, .int .u64 b, .string s, .slice am nm cm, .int .i64 m.tat, .int .i64 m.til, .string m.reply, .int .i64 m.corr, .int .i64 m.prio, .int .i64 m.hops]) := by show Blk _ _ _ _; rw [hWd]; exact (Blk.new _ _ _).alloc _
  have B6 : Hid (Blk W (w.heap.size + 1) 52 #[.int .i64 p.tries, .int .i64 p.base, .int .i64 p.most]) := by show Blk _ _ _ _; rw [hWd]; exact Blk.new' _ _ _ (by simp)
  have HROW := Lib.hid hrow
  have HM := Lib.hid hm0
  have HS := Lib.hid hS
  have HSM := Lib.hid hsm
  have HP := Lib.hid hp
  have HN := Lib.hid (And.intro hw0 hw1)
  have T := Lib.hid hW
  have HWD := Lib.hid hWd
  clear hrow hm0 hS hsm hp hw0 hw1 hW hWd hX
  go_enter Tryd.func29, Tryd.ntmps29
  go_upto_region 1 with fail
  show Code.wp _ _ _ _ ((w.alloc (.cells #[.int .i64 m.id, .string m.topic, .int .i64 k, .int .i64 i, .int .u64 b, .string s, .slice am nm cm, .int .i64 m.tat, .int .i64 m.til, .string m.reply, .int .i64 m.corr, .int .i64 m.prio, .int .i64 m.hops] 30)).alloc (.cells #[.int .i64 p.tries, .int .i64 p.base, .int .i64 p.most] 52))
  rw [← HWD.out]
  clear HWD
  have HC := Lib.hid (copys_any l a l.length c S W (RS.under HROW.out T.out HS.out) (fun b hb => Nat.lt_of_lt_of_le (HS.out b hb) T.out.size) HSM.out hn)
  by_cases h1 : 1024 ≤ (l.length : Int)
  · have hX2 : sendS l m p now = (l, 190) := by rw [sendS, if_pos h1]
    obtain rfl := HX.out.trans hX2
    clear hX2
    go_wp2_with fail
    refine HC.out.mono ?_
    rintro e w2 ⟨a1, c1, S1, css1, rfl, ho, hb2⟩
    have HO := Lib.hid (ho.mono (show w.heap.size ≤ _ by omega))
    have T2 := Lib.hid (below_on hb2 T.out)
    clear ho hb2 HC
    go_wp2_with fail
    refine bodyPost_ret (results_tmp2 rfl _ _ _) rfl ?_
    exact ⟨a1, c1, S1, css1, rfl, HO.out, T2.out⟩
  have hlt : (l.length : Int) < 1024 := by omega
  have H1 : Hid ((l.length : Int) < 1024) := by show _ < _; omega
  clear h1
  have HFD := Lib.hid (place_any l m.id a l.length c S W (RS.under HROW.out T.out HS.out))
  have c5 := Blk.cell B5.out 0
  go_wp2_with fail
  refine HFD.out.mono ?_
  rintro e w3 ⟨rfl, rfl⟩
  clear c5 HFD
  by_cases h2 : 0 ≤ placeS l m.id
  · have hX2 : sendS l m p now = (l, 80) := by rw [sendS, if_neg (by have := H1.out; omega), if_pos h2]
    obtain rfl := HX.out.trans hX2
    clear hX2
    go_wp2_with fail
    refine HC.out.mono ?_
    rintro e w2 ⟨a1, c1, S1, css1, rfl, ho, hb2⟩
    have HO := Lib.hid (ho.mono (show w.heap.size ≤ _ by omega))
    have T2 := Lib.hid (below_on hb2 T.out)
    clear ho hb2 HC
    go_wp2_with fail
    refine bodyPost_ret (results_tmp2 rfl _ _ _) rfl ?_
    exact ⟨a1, c1, S1, css1, rfl, HO.out, T2.out⟩
  clear HC
  obtain ⟨D, hD⟩ : ∃ D, D = now + waitF 0 p.base p.most := ⟨_, rfl⟩
  have hX2 : sendS l m p now = (l ++ [⟨m, 1, D⟩], 0) := by rw [sendS, if_neg (by have := H1.out; omega), if_neg h2, hD]
  obtain rfl := HX.out.trans hX2
  have HD : Hid (IntKind.i64.wrap (now + waitF 0 p.base p.most) = D) := (wait_add HP.out HN.out.1 HN.out.2 0).trans hD.symm
  have h2' : placeS l m.id < 0 := by omega
  clear hX2 h2 hD
  go_upto_region 5 with fail
  refine wp_region_held_drew (S := (fun w' => Blk w' (w.heap.size) 30 #[.int .i64 m.id, .string m.topic, .int .i64 k, .int .i64 i, .int .u64 b, .string s, .slice am nm cm, .int .i64 m.tat, .int .i64 m.til, .string m.reply, .int .i64 m.corr, .int .i64 m.prio, .int .i64 m.hops] ∧ Blk w' (w.heap.size + 1) 52 #[.int .i64 p.tries, .int .i64 p.base, .int .i64 p.most])) (by kernel_rfl) ?_ (fun hHeld => ?_)
  · exact ⟨B5.out.drew, B6.out.drew⟩
  obtain ⟨W1, hW1⟩ : ∃ W1, W1 = W.drew := ⟨_, rfl⟩
  have tt := T.out.drew
  rw [← hW1] at hHeld tt ⊢
  replace T := Lib.hid tt
  have hs4 : w.heap.size + 2 ≤ W1.heap.size := by rw [hW1]; exact hs0
  clear hW1 tt B5 B6 hs0
  refine wpAnyH_take (i := 0) (v := ?_) rfl (by kernel_rfl) (by kernel_rfl) (by kernel_rfl) (fun _ _ _ h => h) (Or.inl ⟨by rfl, ?_⟩) hHeld ?_
  rotate_left
  · intro w hSw
    try dsimp only at hSw
    first | (go_simp; done) | (go_simp; with_reducible rfl)
  try simp only [Act.put, List.getElem_toArray, List.getElem_cons_zero, List.setIfInBounds_toArray, List.set_cons_zero, List.set_cons_succ]
  refine wpAnyH_take (i := 2) (v := .agg #[.int .i64 m.id, .string m.topic, .int .i64 k, .int .i64 i, .int .u64 b, .string s, .slice am nm cm, .int .i64 m.tat, .int .i64 m.til, .string m.reply, .int .i64 m.corr, .int .i64 m.prio, .int .i64 m.hops]) rfl (by kernel_rfl) (by kernel_rfl) (by kernel_rfl) (fun _ _ _ h => h) (yieldsIf_load_mid (by rfl) 30 _ rfl (w.heap.size) (0) (by rfl) [.int .i64 m.id, .string m.topic, .int .i64 k, .int .i64 i, .int .u64 b, .string s, .slice am nm cm, .int .i64 m.tat, .int .i64 m.til, .string m.reply, .int .i64 m.corr, .int .i64 m.prio, .int .i64 m.hops] _ (fun w' h => Blk.range (pre := []) (post := []) h.1 rfl) Tryd.underlying30 rfl sizeM) hHeld ?_
  try simp only [Act.put, List.getElem_toArray, List.getElem_cons_zero, List.getElem_cons_succ, List.setIfInBounds_toArray, List.set_cons_zero, List.set_cons_succ]
  refine wpAnyH_take (i := 4) (v := ?_) rfl (by kernel_rfl) (by kernel_rfl) (by kernel_rfl) (fun _ _ _ h => h) (Or.inl ⟨by rfl, ?_⟩) hHeld ?_
  rotate_left
  · intro w hSw
    try dsimp only at hSw
    first | (go_simp; done) | (go_simp; with_reducible rfl)
  try simp only [Act.put, List.getElem_toArray, List.getElem_cons_zero, List.getElem_cons_succ, List.setIfInBounds_toArray, List.set_cons_zero, List.set_cons_succ]
  refine wpAnyH_take (i := 5) (v := ?_) rfl (by kernel_rfl) (by kernel_rfl) (by kernel_rfl) (fun _ _ _ h => h) (Or.inl ⟨by rfl, ?_⟩) hHeld ?_
  rotate_left
  · intro w hSw
    try dsimp only at hSw
    first | (go_simp; done) | (go_simp; with_reducible rfl)
  try simp only [Act.put, List.getElem_toArray, List.getElem_cons_zero, List.getElem_cons_succ, List.setIfInBounds_toArray, List.set_cons_zero, List.set_cons_succ]
  refine wpAnyH_take (i := 6) (v := .int .i64 p.base) rfl (by kernel_rfl) (by kernel_rfl) (by kernel_rfl) (fun _ _ _ h => h) (Or.inl ⟨by rfl, ?_⟩) hHeld ?_
  · intro w hSw
    have h4 := Blk.cell hSw.2 1
    first | (go_simp; done) | (go_simp; with_reducible rfl)
  try simp only [Act.put, List.getElem_toArray, List.getElem_cons_zero, List.getElem_cons_succ, List.setIfInBounds_toArray, List.set_cons_zero, List.set_cons_succ]
  refine wpAnyH_take (i := 7) (v := ?_) rfl (by kernel_rfl) (by kernel_rfl) (by kernel_rfl) (fun _ _ _ h => h) (Or.inl ⟨by rfl, ?_⟩) hHeld ?_
  rotate_left
  · intro w hSw
    try dsimp only at hSw
    first | (go_simp; done) | (go_simp; with_reducible rfl)
  try simp only [Act.put, List.getElem_toArray, List.getElem_cons_zero, List.getElem_cons_succ, List.setIfInBounds_toArray, List.set_cons_zero, List.set_cons_succ]
  refine wpAnyH_take (i := 8) (v := .int .i64 p.most) rfl (by kernel_rfl) (by kernel_rfl) (by kernel_rfl) (fun _ _ _ h => h) (Or.inl ⟨by rfl, ?_⟩) hHeld ?_
  · intro w hSw
    have h4 := Blk.cell hSw.2 2
    first | (go_simp; done) | (go_simp; with_reducible rfl)
  try simp only [Act.put, List.getElem_toArray, List.getElem_cons_zero, List.getElem_cons_succ, List.setIfInBounds_toArray, List.set_cons_zero, List.set_cons_succ]
  refine wpAnyH_ready (rs := [1]) (by kernel_rfl) (by simp) ?_
  refine AllReadyH.cons rfl (fun K hK => ?_) AllReadyH.nil
  go_simp
  go_at_call 27
  refine (copys_any l a l.length c S W1 (RS.under HROW.out T.out HS.out) (fun b hb => Nat.lt_of_lt_of_le (HS.out b hb) T.out.size) HSM.out hn).mono ?_
  rintro e w2 ⟨a1, c1, S1, css1, rfl, ho, hb⟩
  have HO := Lib.hid (ho.mono (show w.heap.size + 2 ≤ _ from hs4))
  have hl2 := hb.size
  replace T := Lib.hid (below_on hb T.out)
  clear ho
  refine hK.out _ _ ⟨Blk.on hHeld.1 hb, Blk.on hHeld.2 hb⟩ (fun hHeld2 => ?_)
  clear hHeld hK K
  have hHeld := hHeld2
  clear hHeld2
  try simp only [Act.put, List.getElem_toArray, List.getElem_cons_zero, List.getElem_cons_succ, List.setIfInBounds_toArray, List.set_cons_zero, List.set_cons_succ]
  clear hb
  refine wpAnyH_ready (rs := [3]) (by kernel_rfl) (by simp) ?_
  refine AllReadyH.cons rfl (fun K hK => ?_) AllReadyH.nil
  go_simp
  go_at_call 15
  refine (copymsg_any m w2 S [.int .i64 m.id, .string m.topic, .int .i64 k, .int .i64 i, .int .u64 b, .string s, .slice am nm cm, .int .i64 m.tat, .int .i64 m.til, .string m.reply, .int .i64 m.corr, .int .i64 m.prio, .int .i64 m.hops] (HM.out.under T.out HS.out) (fun x hx => Nat.lt_of_lt_of_le (HS.out x hx) T.out.size) hz).mono ?_
  rintro e w5 ⟨k3, i3, b3, s3, am3, nm3, cm3, rfl, hm3, hb⟩
  have F2 := Lib.hid (fun x (e : (Value.slice a1 l.length c1).ownBlock = some x) => (HO.out.far_lt x e).2)
  have HM3 : Hid (IsS w5 (Btw w2.heap.size w5.heap.size) ⟨m, 1, D⟩ [.int .i64 m.id, .string m.topic, .int .i64 k3, .int .i64 i3, .int .u64 b3, .string s3, .slice am3 nm3 cm3, .int .i64 m.tat, .int .i64 m.til, .string m.reply, .int .i64 m.corr, .int .i64 m.prio, .int .i64 m.hops, .int .i64 1, .int .i64 D]) := ⟨_, hm3.ism, rfl⟩
  have hl4 := hb.size
  replace HO := Lib.hid (HO.out.below keepsS hb (Nat.le_refl _))
  replace T := Lib.hid (below_on hb T.out)
  clear hm3
  refine hK.out _ _ ⟨Blk.on hHeld.1 hb, Blk.on hHeld.2 hb⟩ (fun hHeld2 => ?_)
  clear hHeld hK K
  have hHeld := hHeld2
  clear hHeld2
  try simp only [Act.put, List.getElem_toArray, List.getElem_cons_zero, List.getElem_cons_succ, List.setIfInBounds_toArray, List.set_cons_zero, List.set_cons_succ]
  clear hb
  refine wpAnyH_ready (rs := [9]) (by kernel_rfl) (by simp) ?_
  refine AllReadyH.cons rfl (fun K hK => ?_) AllReadyH.nil
  go_simp
  go_at_call 36
  refine (rwait_any 0 p.base p.most _ (by omega) (by have := HP.out; unfold FitP at this; omega) (by have := HP.out; unfold FitP at this; omega)).mono ?_
  rintro e wz ⟨rfl, rfl⟩
  refine hK.out _ _ hHeld (fun hHeld2 => ?_)
  clear hHeld hK K
  have hHeld := hHeld2
  clear hHeld2
  try simp only [Act.put, List.getElem_toArray, List.getElem_cons_zero, List.getElem_cons_succ, List.setIfInBounds_toArray, List.set_cons_zero, List.set_cons_succ]
  have hD := HD.out
  refine wpAnyH_take (i := 10) (v := .int .i64 D) rfl (by kernel_rfl) (by kernel_rfl) (by kernel_rfl) (fun _ _ _ h => h) (Or.inl ⟨by rfl, ?_⟩) hHeld ?_
  · intro w hSw
    have h4 := HD.out
    first | (go_simp; done) | (go_simp; with_reducible rfl)
  try simp only [Act.put, List.getElem_toArray, List.getElem_cons_zero, List.getElem_cons_succ, List.setIfInBounds_toArray, List.set_cons_zero, List.set_cons_succ]
  clear hD
  refine wpAnyH_take (i := 11) (v := ?_) rfl (by kernel_rfl) (by kernel_rfl) (by kernel_rfl) (fun _ _ _ h => h) (Or.inl ⟨by rfl, ?_⟩) hHeld ?_
  rotate_left
  · intro w hSw
    try dsimp only at hSw
    first | (go_simp; done) | (go_simp; with_reducible rfl)
  try simp only [Act.put, List.getElem_toArray, List.getElem_cons_zero, List.getElem_cons_succ, List.setIfInBounds_toArray, List.set_cons_zero, List.set_cons_succ]
  refine wpAnyH_ready (rs := [12]) (by kernel_rfl) (by simp) ?_
  refine AllReadyH.cons rfl (fun K hK => ?_) AllReadyH.nil
  go_simp
  refine hK.out _ _ ⟨Blk.alloc hHeld.1 _, Blk.alloc hHeld.2 _⟩ (fun hHeld2 => ?_)
  clear hHeld hK K
  have hHeld := hHeld2
  clear hHeld2
  try simp only [Act.put, List.getElem_toArray, List.getElem_cons_zero, List.getElem_cons_succ, List.setIfInBounds_toArray, List.set_cons_zero, List.set_cons_succ]
  obtain ⟨wb, hwb⟩ : ∃ wb, wb = w5.alloc (.cells #[.int .i64 m.id, .string m.topic, .int .i64 k3, .int .i64 i3, .int .u64 b3, .string s3, .slice am3 nm3 cm3, .int .i64 m.tat, .int .i64 m.til, .string m.reply, .int .i64 m.corr, .int .i64 m.prio, .int .i64 m.hops, .int .i64 1, .int .i64 D] 62) := ⟨_, rfl⟩
  rw [← hwb] at hHeld ⊢
  have hl5 : w5.heap.size + 1 ≤ wb.heap.size := by rw [hwb]; simp
  have h1 := T.out.alloc (by omega) (.cells #[.int .i64 m.id, .string m.topic, .int .i64 k3, .int .i64 i3, .int .u64 b3, .string s3, .slice am3 nm3 cm3, .int .i64 m.tat, .int .i64 m.til, .string m.reply, .int .i64 m.corr, .int .i64 m.prio, .int .i64 m.hops, .int .i64 1, .int .i64 D] 62)
  have BN := Blk.new w5 62 #[.int .i64 m.id, .string m.topic, .int .i64 k3, .int .i64 i3, .int .u64 b3, .string s3, .slice am3 nm3 cm3, .int .i64 m.tat, .int .i64 m.til, .string m.reply, .int .i64 m.corr, .int .i64 m.prio, .int .i64 m.hops, .int .i64 1, .int .i64 D]
  have h2 := HO.out.alloc keepsS (.cells #[.int .i64 m.id, .string m.topic, .int .i64 k3, .int .i64 i3, .int .u64 b3, .string s3, .slice am3 nm3 cm3, .int .i64 m.tat, .int .i64 m.til, .string m.reply, .int .i64 m.corr, .int .i64 m.prio, .int .i64 m.hops, .int .i64 1, .int .i64 D] 62)
  have h3 := HM3.out.under ((Below.refl _ _).alloc (Nat.le_refl _) (.cells #[.int .i64 m.id, .string m.topic, .int .i64 k3, .int .i64 i3, .int .u64 b3, .string s3, .slice am3 nm3 cm3, .int .i64 m.tat, .int .i64 m.til, .string m.reply, .int .i64 m.corr, .int .i64 m.prio, .int .i64 m.hops, .int .i64 1, .int .i64 D] 62)) (fun _ h => Nat.lt_of_lt_of_le h.2 (by omega))
  rw [← hwb] at h1 BN h2 h3
  replace T := Lib.hid h1
  replace HO := Lib.hid h2
  replace HM3 := Lib.hid h3
  obtain ⟨gn, hgn⟩ : ∃ gn, gn = w5.heap.size := ⟨_, rfl⟩
  rw [← hgn] at BN ⊢
  replace BN := Lib.hid BN
  clear h1 h2 h3 hgn hwb
  have HROW3 : Hid (wb.ownsRow (w.heap.size + 2) 62 15 (.slice a1 l.length c1) l.length css1.flatten) := HO.out.row
  refine wpAnyH_ready (rs := [13]) (by kernel_rfl) (by simp) ?_
  refine AllReadyH.cons rfl (fun K hK => ?_) AllReadyH.nil
  refine step_append_lies _ (by rfl) _ _ _ (by rfl) (w.heap.size + 2) 62 i0 _ 15 160 Tryd.underlying50 hi0 hz0 hz1 hz2 rfl (by omega) (.slice a1 l.length c1) l.length css1.flatten (by rfl) HROW3.out
    ⟨gn, 0, none⟩ 1 1 [.int .i64 m.id, .string m.topic, .int .i64 k3, .int .i64 i3, .int .u64 b3, .string s3, .slice am3 nm3 cm3, .int .i64 m.tat, .int .i64 m.til, .string m.reply, .int .i64 m.corr, .int .i64 m.prio, .int .i64 m.hops, .int .i64 1, .int .i64 D] (by rfl) (by rfl) (World.news_of_block (cs := #[.int .i64 m.id, .string m.topic, .int .i64 k3, .int .i64 i3, .int .u64 b3, .string s3, .slice am3 nm3 cm3, .int .i64 m.tat, .int .i64 m.til, .string m.reply, .int .i64 m.corr, .int .i64 m.prio, .int .i64 m.hops, .int .i64 1, .int .i64 D]) (t := 62) (fr := (0, 0)) BN.out) HM3.out.one (by omega) (by unfold maxLen; omega) (by omega) (by omega) wb.heap.size rfl ?_
  intro g5 cap5 w6 hown5 hgrow5 hat5 hlt5
  have HO5 := Lib.hid hown5
  have HG5 := Lib.hid hgrow5
  have HAT5 := Lib.hid hat5
  have hl6 := hgrow5.size
  have HR := Lib.hid (OwnE.snoc3 keepsS HO.out HM3.out rfl (fun x hx => ⟨by have := hx.1; omega, by have := hx.2; omega, fun e => by have h2 := F2.out x e; have := hx.1; omega⟩) HO5.out rfl HG5.out HAT5.out)
  replace T : Hid (Below w.heap.size w w6) := T.out.grown HG5.out (by omega) (fun q hq => by have := (own_row HROW3.out q hq).1; omega)
  clear hown5 hgrow5 hat5
  refine hK.out _ _ ⟨Blk.grown hHeld.1 HG5.out (fun e => by have := (own_row HROW3.out _ e.symm).1; omega), Blk.grown hHeld.2 HG5.out (fun e => by have := (own_row HROW3.out _ e.symm).1; omega)⟩ (fun hHeld2 => ?_)
  clear hHeld hK K
  have hHeld := hHeld2
  clear hHeld2
  try simp only [Act.put, List.getElem_toArray, List.getElem_cons_zero, List.getElem_cons_succ, List.setIfInBounds_toArray, List.set_cons_zero, List.set_cons_succ]
  refine wpAnyH_take (i := 14) (v := ?_) rfl (by kernel_rfl) (by kernel_rfl) (by kernel_rfl) (fun _ _ _ h => h) (Or.inl ⟨by rfl, ?_⟩) hHeld ?_
  rotate_left
  · intro w hSw
    try dsimp only at hSw
    first | (go_simp; done) | (go_simp; with_reducible rfl)
  try simp only [Act.put, List.getElem_toArray, List.getElem_cons_zero, List.getElem_cons_succ, List.setIfInBounds_toArray, List.set_cons_zero, List.set_cons_succ]
  refine wpAnyH_take (i := 15) (v := ?_) rfl (by kernel_rfl) (by kernel_rfl) (by kernel_rfl) (fun _ _ _ h => h) (Or.inl ⟨by rfl, ?_⟩) hHeld ?_
  rotate_left
  · intro w hSw
    try dsimp only at hSw
    first | (go_simp; done) | (go_simp; with_reducible rfl)
  try simp only [Act.put, List.getElem_toArray, List.getElem_cons_zero, List.getElem_cons_succ, List.setIfInBounds_toArray, List.set_cons_zero, List.set_cons_succ]
  refine wpAnyH_done (by kernel_rfl) ?_ _
  clear hHeld HO5 HG5 HAT5 HROW3 HO HM3 BN F2 hlt5 hl5 hl6
  go_wp2_with fail
  refine bodyPost_ret (results_tmp2 rfl _ _ _) rfl ?_
  have hlen : (l ++ [(⟨m, 1, D⟩ : SX)]).length = l.length + 1 := by simp
  have h := HR.out.mono (show w.heap.size ≤ w.heap.size + 2 by omega)
  exact ⟨some ⟨g5, 0, none⟩, cap5, _, _, by rw [hlen]; rfl, by rw [hlen]; exact h, T.out⟩
end Go.Proofs.YtmdcfmdjbncaoaaDoor
