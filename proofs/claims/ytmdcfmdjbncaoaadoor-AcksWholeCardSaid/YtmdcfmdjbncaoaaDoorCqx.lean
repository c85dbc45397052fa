/- AcksSend: the walk. Messages and inboxes as they come in. AcksSend met with its arguments as they come in. -/
import Derived.Test.YtmdcfmdjbncaoaaDoorCp
import Derived.Test.YtmdcfmdjbncaoaaDoorCd
import Derived.Test.YtmdcfmdjbncaoaaDoorBm
import Derived.DataShut
namespace Go.Proofs.YtmdcfmdjbncaoaaDoor
open Go.RowKit
attribute [local go_sem ↓] Go.wp_at_zero Go.wp_at_succ
attribute [local go_sem] Go.undef

theorem fits_small {l : List SX} {p : PX} (h : FitS l p) : smallS l := fun x hx => by
  obtain ⟨j, hj⟩ := List.getElem?_of_mem hx
  exact validT_size (h.2 j x hj).1.1
theorem sendS_len (l : List SX) (m : MX) (p : PX) (now : Int) : (sendS l m p now).1.length ≤ l.length + 1 := by
  unfold sendS
  split
  · exact Nat.le_succ _
  · split
    · exact Nat.le_succ _
    · simp
/-- Where the topics are written over. -/
structure SpT (lo g0 n : Nat) (w wr : World) : Prop where
  below : Below lo w wr
  topic : ∀ j, j < n → ∃ v, wr.cell? ⟨g0, j * 15 + 1, none⟩ = some v
  free : ∀ q, wr.frozen? ⟨g0, q, none⟩ = false
theorem SpT.of {w : World} {B : Nat} {l : List SX} {a : Option Addr} {c : Nat} {S : Nat → Prop} {css : List (List Value)} (h : OwnE IsS 62 15 w B l (.slice a l.length c) S css) (h0 : 0 < l.length) : ∃ g0, a = some ⟨g0, 0, none⟩ ∧ B ≤ g0 ∧ SpT B g0 l.length w w := by
  have hr := h.rows keepsS
  rcases h.row.2 with ⟨_, h4⟩ | ⟨g0, cap, cur, hv, h3, h4, -⟩
  · omega
  injection hv with ha _ _
  subst ha
  refine ⟨g0, rfl, h3, Below.refl _ _, fun j hj => ?_, fun q => Blk.free h4 q⟩
  obtain ⟨g, o, x, cs, ha, -, hx, hm, hl, hc⟩ := hr.get hj
  injection ha with ha
  injection ha with e1 e2
  subst e1 e2
  have h1 := hc 1 (cs[1]'(by omega)) (List.getElem?_eq_getElem (by omega))
  rw [Nat.zero_add] at h1
  exact ⟨_, h1⟩
theorem SpT.set {lo g0 n j : Nat} {w wr : World} (h : SpT lo g0 n w wr) (hg : lo ≤ g0) (u : Value) : SpT lo g0 n w (wr.setCell ⟨g0, j, none⟩ u) := by
  refine ⟨h.below.setCell hg u, fun i hi => ?_, fun q => by rw [World.frozen?_setCell]; exact h.free q⟩
  obtain ⟨v, hv⟩ := h.topic i hi
  by_cases e : (⟨g0, j, none⟩ : Addr) = ⟨g0, i * 15 + 1, none⟩
  · rw [← e] at hv ⊢
    exact ⟨u, World.cell?_setCell_same wr _ u hv⟩
  · exact ⟨v, (World.cell?_setCell_other _ _ _ _ e).trans hv⟩

set_option maxHeartbeats 16000000 in
set_option maxRecDepth 100000 in
theorem asend_go (l : List SX) (p : PX) (m : MX) (now : Int) (cs : List Value) (a : Option Addr) (n c : Nat) (w : World) (hrow : RSX w l a n c) (hm : MXs w m cs) (hT : Tabs w) :
    Calls Tryd.prog 6 #[.slice a n c, .agg #[.int .i64 p.tries, .int .i64 p.base, .int .i64 p.most], .agg cs.toArray, .int .i64 now] w fun e w' => e = .returned (.bool true) ∧ Below w.heap.size w w' := by
  obtain rfl : n = l.length := hrow.1
  have hm0 := hm
  obtain ⟨k, i, b, s, am, nm, cm, rfl, -, -, -⟩ := hm
  obtain ⟨W, hWd⟩ : ∃ W, W = (w.alloc (.cells #[.int .i64 p.tries, .int .i64 p.base, .int .i64 p.most] 52)).alloc (.cells #[.int .i64 m.id, .string m.topic, .int .i64 k, .int .i64 i, .int .u64 b, .string s, .slice am nm cm, .int .i64 m.tat, .int .i64 m.til, .string m.reply, .int .i64 m.corr, .int .i64 m.prio, .int .i64 m.hops] 30) := ⟨_, rfl⟩
  have hW : Below w.heap.size w W := by rw [hWd]; go_grown
  have B5 : Hid (Blk W w.heap.size 52 #[.int .i64 p.tries, .int .i64 p.base, .int .i64 p.most]) := by show Blk _ _ _ _; rw [hWd]; exact (Blk.new _ _ _).alloc _
  have B6 : Hid (Blk W (w.heap.size + 1) 30 #[.int .i64 m.id, .string m.topic, .int .i64 k, .int .i64 i, .int .u64 b, .string s, .slice am nm cm, .int .i64 m.tat, .int .i64 m.til, .string m.reply, .int .i64 m.corr, .int .i64 m.prio, .int .i64 m.hops]) := by show Blk _ _ _ _; rw [hWd]; exact Blk.new' _ _ _ (by simp)
  have HROW := Lib.hid hrow
  have HM := Lib.hid hm0
  have HTB := Lib.hid hT
  have T : Hid (Below w.heap.size w W) := hW
  have HWD := Lib.hid hWd
  clear hrow hm0 hT hW hWd
  go_enter Tryd.func6, Tryd.ntmps6
  go_upto_region 1 with fail
  show Code.wp _ _ _ _ ((w.alloc (.cells #[.int .i64 p.tries, .int .i64 p.base, .int .i64 p.most] 52)).alloc (.cells #[.int .i64 m.id, .string m.topic, .int .i64 k, .int .i64 i, .int .u64 b, .string s, .slice am nm cm, .int .i64 m.tat, .int .i64 m.til, .string m.reply, .int .i64 m.corr, .int .i64 m.prio, .int .i64 m.hops] 30))
  rw [← HWD.out]
  clear HWD
  have HF := Lib.hid (fita_any l p now a l.length c _ W (HROW.out.on T.out) (fun _ h => h) (HTB.out.on T.out))
  go_wp2_with (refine wpList_load_blk rfl 52 _ rfl (w.heap.size) 0 rfl [.int .i64 p.tries, .int .i64 p.base, .int .i64 p.most] _ (Blk.range (pre := []) (post := []) B5.out rfl) Tryd.underlying52 rfl sizeP ?_)
  refine HF.out.mono ?_
  rintro e w1 ⟨fb, rfl, hfb, hb1⟩
  clear HF
  replace B5 := Lib.hid (Blk.on B5.out hb1)
  replace B6 := Lib.hid (Blk.on B6.out hb1)
  replace T := Lib.hid (below_on hb1 T.out)
  clear hb1
  cases fb with
  | false =>
    clear hfb
    go_wp2_with fail
    refine (awakek_any _).mono ?_
    rintro e w2 ⟨rfl, hb2⟩
    replace T := Lib.hid (below_on hb2 T.out)
    clear hb2
    go_wp2_with fail
    go_ret
    exact ⟨rfl, T.out⟩
  | true =>
  obtain ⟨hp, hn0, hn1, hfs⟩ := hfb rfl
  have HP := Lib.hid hp
  have HN := Lib.hid (And.intro hn0 hn1)
  have FIT := Lib.hid hfs
  have hln : l.length ≤ 1024 := hfs.1
  clear hfb hp hn0 hn1 hfs
  have HF := Lib.hid (fitmsg_any m w1 _ [.int .i64 m.id, .string m.topic, .int .i64 k, .int .i64 i, .int .u64 b, .string s, .slice am nm cm, .int .i64 m.tat, .int .i64 m.til, .string m.reply, .int .i64 m.corr, .int .i64 m.prio, .int .i64 m.hops] (HM.out.on T.out) (fun _ h => h) (HTB.out.on T.out))
  obtain ⟨x0, x1, x2, x3, x4, x5, x6, x7, x8, x9, x10, x11, x12⟩ := Blk.cells13 B6.out
  go_wp2_with fail
  refine HF.out.mono ?_
  rintro e w2 ⟨fb, rfl, hfb, hb2⟩
  clear x0 x1 x2 x3 x4 x5 x6 x7 x8 x9 x10 x11 x12
  clear HF
  replace B5 := Lib.hid (Blk.on B5.out hb2)
  replace B6 := Lib.hid (Blk.on B6.out hb2)
  replace T := Lib.hid (below_on hb2 T.out)
  clear hb2
  cases fb with
  | false =>
    clear hfb
    go_wp2_with fail
    refine (awakek_any _).mono ?_
    rintro e w3 ⟨rfl, hb3⟩
    replace T := Lib.hid (below_on hb3 T.out)
    clear hb3
    go_wp2_with fail
    go_ret
    exact ⟨rfl, T.out⟩
  | true =>
  have hz := validT_size (hfb rfl).1
  clear hfb
  have HC := Lib.hid (copys_any l a l.length c _ w2 (HROW.out.on T.out) (fun _ h => h) (fits_small FIT.out) (by omega))
  go_wp2_with fail
  refine HC.out.mono ?_
  rintro e w3 ⟨a3, c3, S3, css3, rfl, ho, hb3⟩
  have RO : Hid (RSX w3 l a3 l.length c3) := RS.mono (ho.rows keepsS) (fun b hb => hb.2)
  replace B5 := Lib.hid (Blk.on B5.out hb3)
  replace B6 := Lib.hid (Blk.on B6.out hb3)
  replace T := Lib.hid (below_on hb3 T.out)
  clear hb3
  clear HC ho
  obtain ⟨X, hX⟩ : ∃ X, X = sendS l m p now := ⟨_, rfl⟩
  have hXl := sendS_len l m p now
  rw [← hX] at hXl
  have HX := Lib.hid hX
  clear hX
  go_upto_region 4 with fail
  refine wp_region_held_drew (S := (fun w' => Blk w' (w.heap.size) 52 #[.int .i64 p.tries, .int .i64 p.base, .int .i64 p.most] ∧ Blk w' (w.heap.size + 1) 30 #[.int .i64 m.id, .string m.topic, .int .i64 k, .int .i64 i, .int .u64 b, .string s, .slice am nm cm, .int .i64 m.tat, .int .i64 m.til, .string m.reply, .int .i64 m.corr, .int .i64 m.prio, .int .i64 m.hops])) (by kernel_rfl) ?_ (fun hHeld => ?_)
  · exact ⟨B5.out.drew, B6.out.drew⟩
  obtain ⟨W1, hW1⟩ : ∃ W1, W1 = w3.drew := ⟨_, rfl⟩
  have tt := T.out.drew
  have tw : Below w3.heap.size w3 W1 := by rw [hW1]; exact (Below.refl _ _).drew
  rw [← hW1] at hHeld tt ⊢
  replace T := Lib.hid tt
  have TW := Lib.hid tw
  clear hW1 tt tw
  refine wpAnyH_take (i := 0) (v := ?_) rfl (by kernel_rfl) (by kernel_rfl) (by kernel_rfl) (fun _ _ _ h => h) (Or.inl ⟨by rfl, ?_⟩) hHeld ?_
  rotate_left
  · intro w hSw
    try dsimp only at hSw
    first | (go_simp; done) | (go_simp; with_reducible rfl)
  try simp only [Act.put, List.getElem_toArray, List.getElem_cons_zero, List.setIfInBounds_toArray, List.set_cons_zero, List.set_cons_succ]
  refine wpAnyH_take (i := 1) (v := .agg #[.int .i64 m.id, .string m.topic, .int .i64 k, .int .i64 i, .int .u64 b, .string s, .slice am nm cm, .int .i64 m.tat, .int .i64 m.til, .string m.reply, .int .i64 m.corr, .int .i64 m.prio, .int .i64 m.hops]) rfl (by kernel_rfl) (by kernel_rfl) (by kernel_rfl) (fun _ _ _ h => h) (yieldsIf_load_mid (by rfl) 30 _ rfl (w.heap.size + 1) (0) (by rfl) [.int .i64 m.id, .string m.topic, .int .i64 k, .int .i64 i, .int .u64 b, .string s, .slice am nm cm, .int .i64 m.tat, .int .i64 m.til, .string m.reply, .int .i64 m.corr, .int .i64 m.prio, .int .i64 m.hops] _ (fun w' h => Blk.range (pre := []) (post := []) h.2 rfl) Tryd.underlying30 rfl sizeM) hHeld ?_
  try simp only [Act.put, List.getElem_toArray, List.getElem_cons_zero, List.getElem_cons_succ, List.setIfInBounds_toArray, List.set_cons_zero, List.set_cons_succ]
  refine wpAnyH_take (i := 3) (v := .agg #[.int .i64 p.tries, .int .i64 p.base, .int .i64 p.most]) rfl (by kernel_rfl) (by kernel_rfl) (by kernel_rfl) (fun _ _ _ h => h) (yieldsIf_load_mid (by rfl) 52 _ rfl (w.heap.size) (0) (by rfl) [.int .i64 p.tries, .int .i64 p.base, .int .i64 p.most] _ (fun w' h => Blk.range (pre := []) (post := []) h.1 rfl) Tryd.underlying52 rfl sizeP) hHeld ?_
  try simp only [Act.put, List.getElem_toArray, List.getElem_cons_zero, List.getElem_cons_succ, List.setIfInBounds_toArray, List.set_cons_zero, List.set_cons_succ]
  refine wpAnyH_take (i := 4) (v := ?_) rfl (by kernel_rfl) (by kernel_rfl) (by kernel_rfl) (fun _ _ _ h => h) (Or.inl ⟨by rfl, ?_⟩) hHeld ?_
  rotate_left
  · intro w hSw
    try dsimp only at hSw
    first | (go_simp; done) | (go_simp; with_reducible rfl)
  try simp only [Act.put, List.getElem_toArray, List.getElem_cons_zero, List.getElem_cons_succ, List.setIfInBounds_toArray, List.set_cons_zero, List.set_cons_succ]
  refine wpAnyH_ready (rs := [2]) (by kernel_rfl) (by simp) ?_
  refine AllReadyH.cons rfl (fun K hK => ?_) AllReadyH.nil
  go_simp
  go_at_call 15
  refine (copymsg_any m W1 _ [.int .i64 m.id, .string m.topic, .int .i64 k, .int .i64 i, .int .u64 b, .string s, .slice am nm cm, .int .i64 m.tat, .int .i64 m.til, .string m.reply, .int .i64 m.corr, .int .i64 m.prio, .int .i64 m.hops] (HM.out.on T.out) (fun _ h => h) hz).mono ?_
  rintro e w5 ⟨k4, i4, b4, s4, am4, nm4, cm4, rfl, hm4, hb⟩
  have HM4 : Hid (MXs w5 m [.int .i64 m.id, .string m.topic, .int .i64 k4, .int .i64 i4, .int .u64 b4, .string s4, .slice am4 nm4 cm4, .int .i64 m.tat, .int .i64 m.til, .string m.reply, .int .i64 m.corr, .int .i64 m.prio, .int .i64 m.hops]) := IsM.mono hm4.ism (fun _ h => h.2)
  clear hm4
  refine hK.out _ _ ⟨Blk.on hHeld.1 hb, Blk.on hHeld.2 hb⟩ (fun hHeld2 => ?_)
  clear hHeld hK K
  have hHeld := hHeld2
  clear hHeld2
  try simp only [Act.put, List.getElem_toArray, List.getElem_cons_zero, List.getElem_cons_succ, List.setIfInBounds_toArray, List.set_cons_zero, List.set_cons_succ]
  replace T := Lib.hid (below_on hb T.out)
  replace TW := Lib.hid (below_on hb TW.out)
  clear hb
  have hp := sendp_any l m p now [.int .i64 m.id, .string m.topic, .int .i64 k4, .int .i64 i4, .int .u64 b4, .string s4, .slice am4 nm4 cm4, .int .i64 m.tat, .int .i64 m.til, .string m.reply, .int .i64 m.corr, .int .i64 m.prio, .int .i64 m.hops] a3 l.length c3 _ w5 (RSX.on RO.out TW.out) (fun _ h => h) (fits_small FIT.out) (by omega) HM4.out hz HP.out HN.out.1 HN.out.2
  rw [← HX.out] at hp
  refine wpAnyH_ready (rs := [5]) (by kernel_rfl) (by simp) ?_
  refine AllReadyH.cons rfl (fun K hK => ?_) AllReadyH.nil
  go_simp
  go_at_call 28
  refine hp.mono ?_
  clear hp
  rintro e w6 ⟨a10, c10, S10, css10, rfl, ho10, hb⟩
  have HO := Lib.hid ho10
  have HCL : Hid (c10 ≤ maxLen) := (ho10.rows keepsS).2.2.1
  have HLC : Hid (X.1.length ≤ c10) := (ho10.rows keepsS).2.1
  have HTW := TW
  have HTWS : Hid (w3.heap.size ≤ w5.heap.size) := TW.out.size
  have HWB : Hid (w.heap.size ≤ w5.heap.size) := T.out.size
  have TT : Hid (Below w5.heap.size w5 w6) := hb
  clear ho10
  refine hK.out _ _ ⟨Blk.on hHeld.1 hb, Blk.on hHeld.2 hb⟩ (fun hHeld2 => ?_)
  clear hHeld hK K
  have hHeld := hHeld2
  clear hHeld2
  try simp only [Act.put, List.getElem_toArray, List.getElem_cons_zero, List.getElem_cons_succ, List.setIfInBounds_toArray, List.set_cons_zero, List.set_cons_succ]
  replace T := Lib.hid (below_on hb T.out)
  clear hb
  refine wpAnyH_take (i := 6) (v := ?_) rfl (by kernel_rfl) (by kernel_rfl) (by kernel_rfl) (fun _ _ _ h => h) (Or.inl ⟨by rfl, ?_⟩) hHeld ?_
  rotate_left
  · intro w hSw
    try dsimp only at hSw
    first | (go_simp; done) | (go_simp; with_reducible rfl)
  try simp only [Act.put, List.getElem_toArray, List.getElem_cons_zero, List.getElem_cons_succ, List.setIfInBounds_toArray, List.set_cons_zero, List.set_cons_succ]
  refine wpAnyH_take (i := 7) (v := ?_) rfl (by kernel_rfl) (by kernel_rfl) (by kernel_rfl) (fun _ _ _ h => h) (Or.inl ⟨by rfl, ?_⟩) hHeld ?_
  rotate_left
  · intro w hSw
    try dsimp only at hSw
    first | (go_simp; done) | (go_simp; with_reducible rfl)
  try simp only [Act.put, List.getElem_toArray, List.getElem_cons_zero, List.getElem_cons_succ, List.setIfInBounds_toArray, List.set_cons_zero, List.set_cons_succ]
  refine wpAnyH_take (i := 8) (v := ?_) rfl (by kernel_rfl) (by kernel_rfl) (by kernel_rfl) (fun _ _ _ h => h) (Or.inl ⟨by rfl, ?_⟩) hHeld ?_
  rotate_left
  · intro w hSw
    try dsimp only at hSw
    first | (go_simp; done) | (go_simp; with_reducible rfl)
  try simp only [Act.put, List.getElem_toArray, List.getElem_cons_zero, List.getElem_cons_succ, List.setIfInBounds_toArray, List.set_cons_zero, List.set_cons_succ]
  refine wpAnyH_take (i := 9) (v := ?_) rfl (by kernel_rfl) (by kernel_rfl) (by kernel_rfl) (fun _ _ _ h => h) (Or.inl ⟨by rfl, ?_⟩) hHeld ?_
  rotate_left
  · intro w hSw
    try dsimp only at hSw
    first | (go_simp; done) | (go_simp; with_reducible rfl)
  try simp only [Act.put, List.getElem_toArray, List.getElem_cons_zero, List.getElem_cons_succ, List.setIfInBounds_toArray, List.set_cons_zero, List.set_cons_succ]
  refine wpAnyH_take (i := 10) (v := ?_) rfl (by kernel_rfl) (by kernel_rfl) (by kernel_rfl) (fun _ _ _ h => h) (Or.inl ⟨by rfl, ?_⟩) hHeld ?_
  rotate_left
  · intro w hSw
    try dsimp only at hSw
    first | (go_simp; done) | (go_simp; with_reducible rfl)
  try simp only [Act.put, List.getElem_toArray, List.getElem_cons_zero, List.getElem_cons_succ, List.setIfInBounds_toArray, List.set_cons_zero, List.set_cons_succ]
  refine wpAnyH_done (by kernel_rfl) ?_ _
  have B5 := Lib.hid hHeld.1
  have B6 := Lib.hid hHeld.2
  clear hHeld
  have hp := sendr_any l m p now [.int .i64 m.id, .string m.topic, .int .i64 k, .int .i64 i, .int .u64 b, .string s, .slice am nm cm, .int .i64 m.tat, .int .i64 m.til, .string m.reply, .int .i64 m.corr, .int .i64 m.prio, .int .i64 m.hops] a l.length c _ w6 (HROW.out.on T.out) (fun _ h => h) (fits_small FIT.out) (by omega) (HM.out.on T.out) hz HP.out HN.out.1 HN.out.2
  rw [← HX.out] at hp
  have HQ := Lib.hid hp
  clear hp HX
  go_wp2_with (first
    | (refine wpList_load_blk rfl 30 _ rfl (w.heap.size + 1) 0 rfl [.int .i64 m.id, .string m.topic, .int .i64 k, .int .i64 i, .int .u64 b, .string s, .slice am nm cm, .int .i64 m.tat, .int .i64 m.til, .string m.reply, .int .i64 m.corr, .int .i64 m.prio, .int .i64 m.hops] _ (Blk.range (pre := []) (post := []) B6.out rfl) Tryd.underlying30 rfl sizeM ?_)
    | (refine wpList_load_blk rfl 52 _ rfl (w.heap.size) 0 rfl [.int .i64 p.tries, .int .i64 p.base, .int .i64 p.most] _ (Blk.range (pre := []) (post := []) B5.out rfl) Tryd.underlying52 rfl sizeP ?_))
  refine HQ.out.mono ?_
  rintro e w7 ⟨a12, c12, S12, css12, rfl, ho12, hb7⟩
  have RT : Hid (RSX w7 X.1 a12 X.1.length c12) := RS.mono (ho12.rows keepsS) (fun b hb => hb.2)
  replace HO := Lib.hid (HO.out.below keepsS hb7 (Nat.le_refl _))
  replace TT := Lib.hid (below_on hb7 TT.out)
  replace B5 := Lib.hid (Blk.on B5.out hb7)
  replace B6 := Lib.hid (Blk.on B6.out hb7)
  replace T := Lib.hid (below_on hb7 T.out)
  clear hb7
  clear HQ ho12
  have HSB := Lib.hid (sames_yes X.1 a10 a12 _ _ c10 c12 _ _ w7 (HO.out.rows keepsS) RT.out (fun _ h => h.2) (fun _ h => h))
  go_wp2_with fail
  refine HSB.out.mono ?_
  rintro e w8 ⟨rfl, hb8⟩
  replace HO := Lib.hid (HO.out.below keepsS hb8 (Nat.le_refl _))
  replace TT := Lib.hid (below_on hb8 TT.out)
  replace T := Lib.hid (below_on hb8 T.out)
  clear hb8
  clear HSB RT B5 B6
  have hG : ∃ g0, (0 < X.1.length → a10 = some ⟨g0, 0, none⟩ ∧ w5.heap.size ≤ g0 ∧ SpT w5.heap.size g0 X.1.length w8 w8) := by
    rcases Nat.eq_zero_or_pos X.1.length with h0 | h0
    · exact ⟨0, fun h => by omega⟩
    · obtain ⟨g0, h1, h2, h3⟩ := SpT.of HO.out h0
      exact ⟨g0, fun _ => ⟨h1, h2, h3⟩⟩
  obtain ⟨g0, hG⟩ := hG
  have HG := Lib.hid hG
  clear hG HO
  go_wp2_with fail
  go_loopw [14] (fun iv wr => ∃ j : Nat, iv = .int .i64 j ∧ j ≤ X.1.length ∧ (0 < X.1.length → SpT w5.heap.size g0 X.1.length w8 wr) ∧ Below w5.heap.size w8 wr) (fun i _ => X.1.length - (intOf i).toNat)
  case atStart => exact ⟨0, rfl, Nat.zero_le _, fun h => (HG.out h).2.2, Below.refl _ _⟩
  case round =>
    obtain ⟨j, rfl, hj, hsp, hbl⟩ := hrel
    have HSP := Lib.hid hsp
    have HBL := Lib.hid hbl
    clear hsp hbl
    by_cases hlt : j < X.1.length
    · obtain ⟨rfl, hg0, -⟩ := HG.out (by omega)
      have hs := HSP.out (by omega)
      obtain ⟨v1, c1⟩ := hs.topic j hlt
      have f1 := hs.free (j * 15 + 1)
      have HS : Hid (SpT w5.heap.size g0 X.1.length w8 (wr.setCell ⟨g0, j * 15 + 1, none⟩ (.string ⟨#[115, 112, 111, 105, 108, 116]⟩))) := hs.set hg0 _
      have hj0 : (0 : Int) ≤ (j : Int) := by omega
      have hj1 : (j : Int) < (X.1.length : Int) := by omega
      have hcl : c10 ≤ maxLen := by have := HCL.out; exact this
      unfold maxLen at hcl
      have hlc : X.1.length ≤ c10 := HLC.out
      clear hs
      go_wp2_with fail
      go_roundw
      case rel => first | exact ⟨j + 1, by go_num, by omega, fun _ => HS.out, HS.out.below⟩ | ((repeat apply Exists.intro); exact ⟨⟨j + 1, by go_num, by omega, fun _ => HS.out, HS.out.below⟩, by first | rfl | exact ⟨rfl, rfl⟩ | exact ⟨rfl, rfl, rfl⟩ | exact ⟨rfl, rfl, rfl, rfl⟩ | exact ⟨rfl, rfl, rfl, rfl, rfl⟩⟩)
      case measure => simp [intOf]; omega
    · obtain hjn : j = X.1.length := by omega
      subst hjn
      replace TT := Lib.hid (Below.trans TT.out HBL.out)
      replace T : Hid (Below w.heap.size w wr) := Below.trans T.out (HBL.out.mono HWB.out)
      have HSB := Lib.hid (sames_yes l a3 a _ _ c3 c _ _ wr (RSX.on RO.out (HTW.out.trans (TT.out.mono HTWS.out))) (HROW.out.on T.out) (fun _ h => h) (fun _ h => h))
      go_wp2_with fail
      refine HSB.out.mono ?_
      rintro e w11 ⟨rfl, hb11⟩
      replace T := Lib.hid (below_on hb11 T.out)
      clear hb11
      clear HSB
      go_wp2_with fail
      refine (awakek_any _).mono ?_
      rintro e w12 ⟨rfl, hb12⟩
      replace T := Lib.hid (below_on hb12 T.out)
      clear hb12
      go_wp2_with fail
      go_ret
      exact ⟨rfl, T.out⟩
end Go.Proofs.YtmdcfmdjbncaoaaDoor
namespace Go.Proofs.YtmdcfmdjbncaoaaDoor
open Go.RowKit Go.ChangeShapes Go.WideShapes Go.Deep

theorem qcInt : Tryd.prog.cellsOf 3 = 1 := by kernel_rfl
theorem qcI64 : Tryd.prog.cellsOf 2 = 1 := by kernel_rfl
theorem qcStr : Tryd.prog.cellsOf 9 = 1 := by kernel_rfl
theorem qcDat : Tryd.prog.cellsOf 28 = 5 := by kernel_rfl
theorem qcMsg : Tryd.prog.cellsOf 30 = 13 := by kernel_rfl
theorem qcMsgs : Tryd.prog.cellsOf 22 = 1 := by kernel_rfl

section
variable {H : Type} {enc : TypeId × Value → H} {w : World} {spare : Nat → Bool} {held : Bool}
theorem open_datq (fuel : Nat) (cs : List Value) (x : DataW H × List MemPlace) (h : DataW.trod enc Tryd.prog w 0 spare held fuel 28 cs = some x) : ∃ t, IsD w (· < w.heap.size) t cs :=
  open_tree Tryd.underlying28 (by kernel_rfl) qcDat Tryd.underlying3 Tryd.underlying2 Tryd.underlying25 Tryd.underlying9 rfl Tryd.underlying26 fuel cs x h

set_option maxRecDepth 100000 in
theorem open_msg (fuel : Nat) (cs : List Value) (x : DataW H × List MemPlace) (h : DataW.trod enc Tryd.prog w 0 spare held fuel 30 cs = some x) : ∃ m, IsM w (· < w.heap.size) m cs := by
  obtain ⟨ys, n, -, -, hlen, hyl, hf⟩ := DataW.trod_struct Tryd.underlying30 h
  rw [qcMsg] at hlen
  match cs, hlen with
  | [c0, c1, c2, c3, c4, c5, c6, c7, c8, c9, c10, c11, c12], _ =>
    match ys, hyl with
    | [y0, y1, y2, y3, y4, y5, y6, y7, y8], _ =>
      have g0 : DataW.trod enc Tryd.prog w 0 spare held n 2 [c0] = some y0 := by simpa [qcInt, qcI64, qcStr, qcDat] using hf 0 _ rfl
      have g1 : DataW.trod enc Tryd.prog w 0 spare held n 9 [c1] = some y1 := by simpa [qcInt, qcI64, qcStr, qcDat] using hf 1 _ rfl
      have g2 : DataW.trod enc Tryd.prog w 0 spare held n 28 [c2, c3, c4, c5, c6] = some y2 := by simpa [qcInt, qcI64, qcStr, qcDat] using hf 2 _ rfl
      have g3 : DataW.trod enc Tryd.prog w 0 spare held n 2 [c7] = some y3 := by simpa [qcInt, qcI64, qcStr, qcDat] using hf 3 _ rfl
      have g4 : DataW.trod enc Tryd.prog w 0 spare held n 2 [c8] = some y4 := by simpa [qcInt, qcI64, qcStr, qcDat] using hf 4 _ rfl
      have g5 : DataW.trod enc Tryd.prog w 0 spare held n 9 [c9] = some y5 := by simpa [qcInt, qcI64, qcStr, qcDat] using hf 5 _ rfl
      have g6 : DataW.trod enc Tryd.prog w 0 spare held n 2 [c10] = some y6 := by simpa [qcInt, qcI64, qcStr, qcDat] using hf 6 _ rfl
      have g7 : DataW.trod enc Tryd.prog w 0 spare held n 3 [c11] = some y7 := by simpa [qcInt, qcI64, qcStr, qcDat] using hf 7 _ rfl
      have g8 : DataW.trod enc Tryd.prog w 0 spare held n 3 [c12] = some y8 := by simpa [qcInt, qcI64, qcStr, qcDat] using hf 8 _ rfl
      obtain ⟨i0, h0, -, -⟩ := DataW.trod_int Tryd.underlying2 g0
      obtain ⟨i1, h1, -, w1⟩ := DataW.trod_string Tryd.underlying9 g1
      obtain ⟨t, ht⟩ := open_datq n _ _ g2
      obtain ⟨i3, h3, -, -⟩ := DataW.trod_int Tryd.underlying2 g3
      obtain ⟨i4, h4, -, -⟩ := DataW.trod_int Tryd.underlying2 g4
      obtain ⟨i5, h5, -, w5⟩ := DataW.trod_string Tryd.underlying9 g5
      obtain ⟨i6, h6, -, -⟩ := DataW.trod_int Tryd.underlying2 g6
      obtain ⟨i7, h7, -, -⟩ := DataW.trod_int Tryd.underlying3 g7
      obtain ⟨i8, h8, -, -⟩ := DataW.trod_int Tryd.underlying3 g8
      simp at h0 h1 h3 h4 h5 h6 h7 h8
      subst h0 h1 h3 h4 h5 h6 h7 h8
      have ht' := ht
      obtain ⟨tk, ti, tb, ts, tl⟩ := t
      obtain ⟨a, c, he, -⟩ := ht'.open_
      simp at he
      obtain ⟨rfl, rfl, rfl, rfl, rfl⟩ := he
      exact ⟨⟨i0, i1, .node _ _ _ _ _, i3, i4, i5, i6, i7, i8⟩, _, _, _, _, _, _, _, rfl, ht, w1, w5⟩
theorem open_msgs (fuel : Nat) (cs : List Value) (x : DataW H × List MemPlace) (h : DataW.trod enc Tryd.prog w 0 spare held fuel 22 cs = some x) :
    ∃ l a n c, cs = [.slice a n c] ∧ RM w (· < w.heap.size) l a n c :=
  open_rows Tryd.underlying22 qcMsg (fun n' cs' x' _ h' => open_msg n' cs' x' h') h (by omega)
end

set_option maxRecDepth 100000 in
theorem msg_arg {H : Type} {enc : TypeId × Value → H} {W : World} {base : Nat} {v : Value} {d : DataW H} {p : List MemPlace} (ok : Value.okWide Tryd.prog W .any base 30 v)
    (tr : DataW.Trod enc Tryd.prog W 0 (fun _ => true) true 30 v d p) : ∃ m cs, v = .agg (List.toArray cs) ∧ IsM W (· < W.heap.size) m cs := by
  obtain ⟨cs, rfl, -⟩ := okWide_struct Tryd.underlying30 ok
  obtain ⟨fuel, hf⟩ := tr
  obtain ⟨m, hm⟩ := open_msg fuel _ _ hf
  exact ⟨m, cs.toList, by simp, hm⟩
end Go.Proofs.YtmdcfmdjbncaoaaDoor
namespace Go.Proofs.YtmdcfmdjbncaoaaDoor
open Go.RowKit Go.ChangeShapes Go.WideShapes Go.Deep
theorem qcSent : Tryd.prog.cellsOf 62 = 15 := by kernel_rfl
theorem qcPol : Tryd.prog.cellsOf 52 = 3 := by kernel_rfl
section
variable {H : Type} {enc : TypeId × Value → H} {w : World} {spare : Nat → Bool} {held : Bool}
set_option maxRecDepth 100000 in
theorem open_sent (fuel : Nat) (cs : List Value) (x : DataW H × List MemPlace) (h : DataW.trod enc Tryd.prog w 0 spare held fuel 62 cs = some x) : ∃ t : SX, IsS w (· < w.heap.size) t cs := by
  obtain ⟨ys, n, -, -, hlen, hyl, hf⟩ := DataW.trod_struct Tryd.underlying62 h
  rw [qcSent] at hlen
  match cs, hlen with
  | [c0, c1, c2, c3, c4, c5, c6, c7, c8, c9, c10, c11, c12, c13, c14], _ =>
    match ys, hyl with
    | [y0, y1, y2], _ =>
      have g0 : DataW.trod enc Tryd.prog w 0 spare held n 30 [c0, c1, c2, c3, c4, c5, c6, c7, c8, c9, c10, c11, c12] = some y0 := by simpa [qcInt, qcI64, qcMsg] using hf 0 _ rfl
      have g1 : DataW.trod enc Tryd.prog w 0 spare held n 2 [c13] = some y1 := by simpa [qcInt, qcI64, qcMsg] using hf 1 _ rfl
      have g2 : DataW.trod enc Tryd.prog w 0 spare held n 2 [c14] = some y2 := by simpa [qcInt, qcI64, qcMsg] using hf 2 _ rfl
      obtain ⟨m, hm⟩ := open_msg n _ _ g0
      obtain ⟨i1, h1, -, -⟩ := DataW.trod_int Tryd.underlying2 g1
      obtain ⟨i2, h2, -, -⟩ := DataW.trod_int Tryd.underlying2 g2
      simp at h1 h2
      subst h1 h2
      exact ⟨⟨m, i1, i2⟩, _, hm, rfl⟩
set_option maxRecDepth 100000 in
theorem open_policy (fuel : Nat) (cs : List Value) (x : DataW H × List MemPlace) (h : DataW.trod enc Tryd.prog w 0 spare held fuel 52 cs = some x) : ∃ p : PX, cs = [.int .i64 p.tries, .int .i64 p.base, .int .i64 p.most] := by
  obtain ⟨ys, n, -, -, hlen, hyl, hf⟩ := DataW.trod_struct Tryd.underlying52 h
  rw [qcPol] at hlen
  match cs, hlen with
  | [c0, c1, c2], _ =>
    match ys, hyl with
    | [y0, y1, y2], _ =>
      have g0 : DataW.trod enc Tryd.prog w 0 spare held n 2 [c0] = some y0 := by simpa [qcInt, qcI64, qcMsg] using hf 0 _ rfl
      have g1 : DataW.trod enc Tryd.prog w 0 spare held n 2 [c1] = some y1 := by simpa [qcInt, qcI64, qcMsg] using hf 1 _ rfl
      have g2 : DataW.trod enc Tryd.prog w 0 spare held n 2 [c2] = some y2 := by simpa [qcInt, qcI64, qcMsg] using hf 2 _ rfl
      obtain ⟨i0, h0, -, -⟩ := DataW.trod_int Tryd.underlying2 g0
      obtain ⟨i1, h1, -, -⟩ := DataW.trod_int Tryd.underlying2 g1
      obtain ⟨i2, h2, -, -⟩ := DataW.trod_int Tryd.underlying2 g2
      simp at h0 h1 h2
      subst h0 h1 h2
      exact ⟨⟨i0, i1, i2⟩, rfl⟩
end
set_option maxRecDepth 100000 in
theorem sents_arg {H : Type} {enc : TypeId × Value → H} {W : World} {base : Nat} {v : Value} {d : DataW H} {q : List MemPlace} (ok : Value.okWide Tryd.prog W .any base 50 v)
    (tr : DataW.Trod enc Tryd.prog W 0 (fun _ => true) true 50 v d q) : ∃ l : List SX, ∃ a n c, v = .slice a n c ∧ RS W (· < W.heap.size) l a n c := by
  obtain ⟨x, n, c, rfl⟩ := okWide_slice Tryd.underlying50 ok
  obtain ⟨fuel, hf⟩ := tr
  obtain ⟨l, a1, n1, c1, hc, hr⟩ := open_rows (E := IsS W (· < W.heap.size)) (sz := 15) Tryd.underlying50 qcSent (fun m cs x _ h => open_sent m cs x h) hf (by omega)
  simp [Value.cells] at hc
  obtain ⟨rfl, rfl, rfl⟩ := hc
  exact ⟨l, _, _, _, rfl, hr⟩
set_option maxRecDepth 100000 in
theorem policy_arg {H : Type} {enc : TypeId × Value → H} {W : World} {base : Nat} {v : Value} {d : DataW H} {q : List MemPlace} (ok : Value.okWide Tryd.prog W .any base 52 v)
    (tr : DataW.Trod enc Tryd.prog W 0 (fun _ => true) true 52 v d q) : ∃ p : PX, v = .agg #[.int .i64 p.tries, .int .i64 p.base, .int .i64 p.most] := by
  obtain ⟨cs, rfl, -⟩ := okWide_struct Tryd.underlying52 ok
  obtain ⟨fuel, hf⟩ := tr
  obtain ⟨p, hc⟩ := open_policy fuel _ _ hf
  refine ⟨p, ?_⟩
  have h1 : cs.toList = [.int .i64 p.tries, .int .i64 p.base, .int .i64 p.most] := by simpa [Value.cells] using hc
  have h2 : cs = #[.int .i64 p.tries, .int .i64 p.base, .int .i64 p.most] := by rw [← Array.toArray_toList (xs := cs), h1]
  rw [h2]
set_option maxRecDepth 100000 in
theorem walk_AcksSend {H : Type} {enc : TypeId × Value → H} {base : Nat} (v v1 v2 : Value) (now : Int) {d d1 d2 : DataW H} {q q1 q2 : List MemPlace} (W : World) (ok : Value.okWide Tryd.prog W .any base 50 v)
    (tr : DataW.Trod enc Tryd.prog W 0 (fun _ => true) true 50 v d q) (ok1 : Value.okWide Tryd.prog W .any base 52 v1)
    (tr1 : DataW.Trod enc Tryd.prog W 0 (fun _ => true) true 52 v1 d1 q1) (ok2 : Value.okWide Tryd.prog W .any base 30 v2)
    (tr2 : DataW.Trod enc Tryd.prog W 0 (fun _ => true) true 30 v2 d2 q2) (_ : (Lit.int .i64 now).wf = true) (hT : Tabs W) :
    Calls Tryd.prog 6 #[v, v1, v2, .int .i64 now] W fun e w' => e = .returned (.bool true) ∧ Below W.heap.size W w' := by
  obtain ⟨l, a, n, c, rfl, hr⟩ := sents_arg ok tr
  obtain ⟨p, rfl⟩ := policy_arg ok1 tr1
  obtain ⟨m, cs, rfl, hm⟩ := msg_arg ok2 tr2
  exact asend_go l p m now cs a n c W hr hm hT
end Go.Proofs.YtmdcfmdjbncaoaaDoor
