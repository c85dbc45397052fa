/- acks.Due: the walk. -/
import Derived.Test.YtmdcfmdjbncaoaaDoorCn
namespace Go.Proofs.YtmdcfmdjbncaoaaDoor
open Go.RowKit Go.Shelf
attribute [local go_sem] Oper.semAt_some

/-- What Due leaves. -/
def DueP (w : World) (D : DS) (e : Ending) (w' : World) : Prop :=
  ∃ a6 c6 a7 c7 a8 c8 a9 c9, e = .returned (.tuple #[.slice a6 D.rest.length c6, .slice a7 D.again.length c7, .slice a8 D.dead.length c8, .slice a9 D.late.length c9]) ∧
    RS w' (Btw w.heap.size w'.heap.size) D.rest a6 D.rest.length c6 ∧ RM w' (Btw w.heap.size w'.heap.size) D.again a7 D.again.length c7 ∧ RM w' (Btw w.heap.size w'.heap.size) D.dead a8 D.dead.length c8 ∧
    RM w' (Btw w.heap.size w'.heap.size) D.late a9 D.late.length c9 ∧ Below w.heap.size w w'
def smallT (l : List SX) : Prop := ∀ x ∈ l, 0 ≤ x.tries ∧ x.tries ≤ 1000

/-- Between two rounds. -/
def DueI (w : World) (n5 n6 n7 n8 n9 : Nat) (l : List SX) (p : PX) (now : Int) (k : Nat) (W : World) : Prop :=
  k ≤ l.length ∧ (∃ v6 v7 v8 v9 S c6 c7 c8 c9, DueV W (w.heap.size + 7) n6 n7 n8 n9 (dueS (l.take k) p now) v6 v7 v8 v9 S c6 c7 c8 c9) ∧ Blk W w.heap.size 52 #[.int .i64 p.tries, .int .i64 p.base, .int .i64 p.most] ∧ Blk W n5 2 #[.int .i64 now] ∧ Below w.heap.size w W ∧ w.heap.size + 7 ≤ W.heap.size
theorem DueI.own (w : World) (n5 n6 n7 n8 n9 : Nat) (l : List SX) (p : PX) (now : Int) (B : Nat) (hB : w.heap.size ≤ B) : OwnFrom B (fun (pre : List CSV) W => DueI w n5 n6 n7 n8 n9 l p now pre.length W) := by
  rintro pre W W' row ⟨h1, ⟨v6, v7, v8, v9, S, c6, c7, c8, c9, hv⟩, h4, h5, h6, h7⟩ hg hr
  have hk : ∀ (b : Nat) (o : Obj), W.heap[b]? = some o → o.isCells = true → W'.heap[b]? = some o := fun b o ho hc => (grownBy_keeps_cells hg (fun r e => (hr r e).2) ho hc).trans ho
  exact ⟨h1, ⟨v6, v7, v8, v9, S, c6, c7, c8, c9, hv.fwd hg.size hk⟩, hk _ _ h4 rfl, hk _ _ h5 rfl, h6.grown hg h6.size (fun r e => Nat.le_trans hB (hr r e).1), Nat.le_trans h7 hg.size⟩
theorem sizeMs : (Tryd.prog.info? 22).map (·.size) = some 1 := by kernel_rfl

set_option maxRecDepth 100000 in
set_option maxHeartbeats 16000000 in
theorem duep_any (l : List SX) (p : PX) (now : Int) (S : Nat → Prop) (a : Option Addr) (n c : Nat) (w : World) (hrow : RS w S l a n c) (hS : ∀ b, S b → b < w.heap.size) (hsm : smallS l) (hst : smallT l) (hn2 : n ≤ 65536) (hp : FitP p) (hw0 : 0 ≤ now) (hw1 : now ≤ 1099511627776) :
    Calls Tryd.prog 31 #[.slice a n c, .agg #[.int .i64 p.tries, .int .i64 p.base, .int .i64 p.most], .int .i64 now] w (DueP w (dueS l p now)) := by
  obtain ⟨iM, hiM, hzM, hzM1, hzM2⟩ := info_parts infoM
  obtain ⟨iS, hiS, hzS, hzS1, hzS2⟩ := info_parts infoS
  obtain rfl : n = l.length := hrow.1
  refine (callsIn_wide (n := 6)).1 ?_
  refine callsIn_of_wp_marks Tryd.func31 rfl trivial ?_ rfl
  simp only [Tryd.ntmps31, List.size_toArray, List.length_cons, List.length_nil, Nat.reduceAdd, Nat.reduceSub, Array.replicate_succ, Array.replicate_zero, List.push_toArray, List.append_toArray, List.nil_append, List.cons_append]
  obtain ⟨WA, hWA⟩ : ∃ WA, WA = (((((w.alloc (.cells #[.int .i64 p.tries, .int .i64 p.base, .int .i64 p.most] 52)).alloc (.cells #[.int .i64 now] 2)).alloc (.cells #[.slice none 0 0] 50)).alloc (.cells #[.slice none 0 0] 22)).alloc (.cells #[.slice none 0 0] 22)).alloc (.cells #[.slice none 0 0] 22) := ⟨_, rfl⟩
  obtain ⟨n5, hn5⟩ : ∃ n5, n5 = w.heap.size + 1 := ⟨_, rfl⟩
  obtain ⟨n6, hn6⟩ : ∃ n6, n6 = n5 + 1 := ⟨_, rfl⟩
  obtain ⟨n7, hn7⟩ : ∃ n7, n7 = n6 + 1 := ⟨_, rfl⟩
  obtain ⟨n8, hn8⟩ : ∃ n8, n8 = n7 + 1 := ⟨_, rfl⟩
  obtain ⟨n9, hn9⟩ : ∃ n9, n9 = n8 + 1 := ⟨_, rfl⟩
  have hWs : WA.heap.size = w.heap.size + 6 := by rw [hWA]; simp
  have hW : Below w.heap.size w WA := by rw [hWA]; go_grown
  have B4 : Blk WA w.heap.size 52 #[.int .i64 p.tries, .int .i64 p.base, .int .i64 p.most] := by rw [hWA]; exact (((((Blk.new _ _ _).alloc _).alloc _).alloc _).alloc _).alloc _
  have B5 : Blk WA n5 2 #[.int .i64 now] := by rw [hWA]; exact ((((Blk.new' _ _ _ (by simp [hn5])).alloc _).alloc _).alloc _).alloc _
  have B6 : Blk WA n6 50 #[.slice none 0 0] := by rw [hWA]; exact (((Blk.new' _ _ _ (by simp [hn5, hn6])).alloc _).alloc _).alloc _
  have B7 : Blk WA n7 22 #[.slice none 0 0] := by rw [hWA]; exact ((Blk.new' _ _ _ (by simp [hn5, hn6, hn7])).alloc _).alloc _
  have B8 : Blk WA n8 22 #[.slice none 0 0] := by rw [hWA]; exact (Blk.new' _ _ _ (by simp [hn5, hn6, hn7, hn8])).alloc _
  have B9 : Blk WA n9 22 #[.slice none 0 0] := by rw [hWA]; exact Blk.new' _ _ _ (by simp [hn5, hn6, hn7, hn8, hn9])
  have HROW := Lib.hid hrow
  have HS := Lib.hid hS
  have HSM := Lib.hid hsm
  have HST := Lib.hid hst
  have HP := Lib.hid hp
  have HNW := Lib.hid (And.intro hw0 hw1)
  have HWA := Lib.hid hWA
  have HN5 := Lib.hid hn5
  have HN6 := Lib.hid hn6
  have HN7 := Lib.hid hn7
  have HN8 := Lib.hid hn8
  have HN9 := Lib.hid hn9
  have HWS := Lib.hid hWs
  have HW := Lib.hid hW
  have H4 := Lib.hid B4
  have H5 := Lib.hid B5
  have H6 := Lib.hid B6
  have H7 := Lib.hid B7
  have H8 := Lib.hid B8
  have H9 := Lib.hid B9
  clear hrow hS hsm hst hp hw0 hw1 hWA hn5 hn6 hn7 hn8 hn9 hWs hW B4 B5 B6 B7 B8 B9
  gi_wp2
  rw [← HWA.out, ← HN5.out, ← HN6.out, ← HN7.out, ← HN8.out, ← HN9.out]
  refine ⟨trivial, (callsIn_wide.2 (eachs_any a l.length c WA)).mono ?_⟩
  rintro e w1 ⟨rfl, hw1⟩
  have hb1 : Below WA.heap.size WA w1 := by rw [hw1]; exact (Below.refl _ _).alloc (Nat.le_refl _) _
  have hBl : w1.cell? ⟨WA.heap.size, 0, none⟩ = some (.slice a l.length c) := by rw [hw1]; exact (Blk.new _ _ _).cell 0
  have hs1 : w1.heap.size = w.heap.size + 7 := by rw [hw1]; simp [HWS.out]
  replace H4 := Lib.hid (Blk.on H4.out hb1)
  replace H5 := Lib.hid (Blk.on H5.out hb1)
  replace H6 := Lib.hid (Blk.on H6.out hb1)
  replace H7 := Lib.hid (Blk.on H7.out hb1)
  replace H8 := Lib.hid (Blk.on H8.out hb1)
  replace H9 := Lib.hid (Blk.on H9.out hb1)
  have T1 := Lib.hid (below_on hb1 HW.out)
  have HBL := Lib.hid hBl
  have HS1 := Lib.hid hs1
  clear hw1 hb1 hBl hs1 HWA
  gi_wp2
  have HNL : Hid (w.heap.size < n5 ∧ n5 < n6 ∧ n6 < n7 ∧ n7 < n8 ∧ n8 < n9 ∧ n9 < w.heap.size + 7) := by
    have h5 := HN5.out; have h6 := HN6.out; have h7 := HN7.out; have h8 := HN8.out; have h9 := HN9.out
    refine ⟨?_, ?_, ?_, ?_, ?_, ?_⟩ <;> omega
  clear HN5 HN6 HN7 HN8 HN9
  have HV0 : Hid (DueV w1 (w.heap.size + 7) n6 n7 n8 n9 ⟨[], [], [], []⟩ (.slice none 0 0) (.slice none 0 0) (.slice none 0 0) (.slice none 0 0) (fun _ => False) [] [] [] []) :=
    ⟨H6.out, H7.out, H8.out, H9.out, OwnE.nil _ _, OwnE.nil _ _, OwnE.nil _ _, OwnE.nil _ _, fun b h => by simp [Value.ownBlock] at h, fun b h => by simp [Value.ownBlock] at h, fun b h => by simp [Value.ownBlock] at h, fun b h => by simp [Value.ownBlock] at h, fun b h => by simp [Value.ownBlock] at h, fun b h => by simp [Value.ownBlock] at h⟩
  have HZ1 : Hid (∀ z, ZV n6 n7 n8 n9 z → z < w.heap.size + 7) := fun z hz => by have := HNL.out; rcases hz with rfl | rfl | rfl | rfl <;> omega
  have HSEQ := Lib.hid (each1z_giv 5 (by omega) WA.heap.size (w.heap.size + 7) (ZV n6 n7 n8 n9) S l a l.length c w1 HBL.out (RS.under HROW.out T1.out HS.out)
    (fun b hb => ⟨Nat.lt_of_lt_of_le (HS.out b hb) T1.out.size, fun hz => by have h1 := HS.out b hb; have h2 := HNL.out; rcases hz with rfl | rfl | rfl | rfl <;> omega, fun hr => by rcases HV0.out.rowz hr with h | h | h | h <;> simp [Value.ownBlock] at h⟩)
    (fun z hz => by have := HZ1.out z hz; have := HS1.out; omega) (by have := HS1.out; omega) HSM.out hn2)
  refine wpIn_range_giv (F := Fence.wide) rfl (by omega) (gf := 69) (lb := #[.pointer (some ⟨WA.heap.size, 0, none⟩)]) rfl trivial (enters_of Tryd.func69 (by kernel_rfl) rfl)
    HSEQ.out KZ.trans (fun W l o o' h1 h2 h3 h4 => kz_put (N := w.heap.size + 7) HZ1.out W l o o' (by have := HS1.out; omega) h2 h3 h4) (Below.refl _ _) (fun _ => rfl)
    (fun pre W => DueI w n5 n6 n7 n8 n9 l p now pre.length W) (DueI.own w n5 n6 n7 n8 n9 l p now _ (by have := HS1.out; omega))
    (fun pre W1 h b hb => by
      obtain ⟨-, ⟨v6, v7, v8, v9, S, c6, c7, c8, c9, hv⟩, -⟩ := h
      rcases hv.rowz hb with h | h | h | h
      · exact (hv.o6.far_lt b h).2
      · exact (hv.o7.far_lt b h).2
      · exact (hv.o8.far_lt b h).2
      · exact (hv.o9.far_lt b h).2)
    (fun xs A B h hk => h.kz hk) ⟨Nat.zero_le _, ⟨_, _, _, _, _, _, _, _, _, HV0.out⟩, H4.out, H5.out, T1.out, by rw [HS1.out]; exact Nat.le_refl _⟩
    (fun x a' W0 W => (∀ (b : Nat) (o : Obj), W0.heap[b]? = some o → o.isCells = true → W.heap[b]? = some o) ∧ Blk W W0.heap.size 62 x.cells.toArray ∧ (W0.heap.size ≤ W.heap.size ∧ w.heap.size + 7 ≤ W0.heap.size) ∧ Below w.heap.size W0 W ∧ a' = { tmps := #[.slice a l.length c, .agg #[.int .i64 p.tries, .int .i64 p.base, .int .i64 p.most], .int .i64 now, undef, .pointer (some ⟨w.heap.size, 0, none⟩), .pointer (some ⟨n5, 0, none⟩), .pointer (some ⟨n6, 0, none⟩), .pointer (some ⟨n7, 0, none⟩), .pointer (some ⟨n8, 0, none⟩), .pointer (some ⟨n9, 0, none⟩), .pointer (some ⟨W0.heap.size, 0, none⟩), .slice a l.length c, .func (.func 69) #[] #[.pointer (some ⟨WA.heap.size, 0, none⟩)], x.val, undef, undef, undef, undef, undef, undef, undef, undef, undef, undef, undef, undef, undef, undef, undef, undef, undef, undef, undef, undef, undef, undef, undef, undef, undef, undef, undef, undef, undef, undef, undef, undef, undef, undef, undef, undef, undef, undef, undef, undef, undef, undef, undef, undef, undef, undef, undef, undef, undef, undef, undef, undef, undef, undef, undef, undef, undef, undef, undef, undef, undef], defers := [] })
    (fun x a' W0 _ A B row hs hg hr => ⟨fun b o h hc => (grownBy_keeps_cells hg (fun r e => (hr r e).2) (hs.1 b o h hc) hc).trans (hs.1 b o h hc), (grownBy_keeps_cells hg (fun r e => (hr r e).2) hs.2.1 rfl).trans hs.2.1, ⟨Nat.le_trans hs.2.2.1.1 hg.size, hs.2.2.1.2⟩, hs.2.2.2.1.grown hg (by have := hs.2.2.1; omega) (fun r e => by have := (hr r e).1; have := HS1.out; omega), hs.2.2.2.2⟩)
    ?assign ?body ?done
  case assign =>
    rintro L pre x W K hI hK
    have hszW := hI.2.2.2.2.2
    simp only [CSV.val]
    gi_wp2_with (refine wpListIn_store_blk (T := 62) rfl 62 _ _ rfl (W.heap.size) 0 [] [.int .i64 0, .string ByteArray.empty, .int .i64 0, .int .i64 0, .int .u64 0, .string ByteArray.empty, .slice none 0 0, .int .i64 0, .int .i64 0, .string ByteArray.empty, .int .i64 0, .int .i64 0, .int .i64 0, .int .i64 0, .int .i64 0] [] [.int .i64 x.x.id, .string x.x.topic, .int .i64 x.x.k, .int .i64 x.x.i, .int .u64 x.x.b, .string x.x.s, .slice x.x.a x.x.n x.x.c, .int .i64 x.x.tat, .int .i64 x.x.til, .string x.x.reply, .int .i64 x.x.corr, .int .i64 x.x.prio, .int .i64 x.x.hops, .int .i64 x.tries, .int .i64 x.due] rfl rfl (Blk.new W _ _) rfl rfl sizeS (CSV.one x) ?_; intro w2 BX2 U2 K2)
    have hb2 : Below W.heap.size W w2 := ((Below.refl W.heap.size W).alloc (Nat.le_refl _) _).trans (U2.below _ (Nat.le_refl _))
    exact hK _ _ (((KeepsOthers.alloc _ _).trans K2).from _) (KZ.below hb2 (fun z hz => Nat.lt_of_lt_of_le (HZ1.out z hz) hszW)) ⟨fun b o h _ => (hb2.block b (Array.getElem?_eq_some_iff.1 h).1).trans h, BX2, ⟨hb2.size, hszW⟩, hb2.mono (by omega), rfl⟩
  case body =>
    rintro L pre x a' W0 W hL hI hK0 ⟨hKC, BX, hszX, hbX, rfl⟩ hlt hG
    obtain ⟨hk, ⟨v6, v7, v8, v9, S1, c6, c7, c8, c9, hv⟩, hB4, hB5, hbel, hsz⟩ := hI
    obtain ⟨y, hy⟩ : ∃ y, l[pre.length]? = some y := ⟨_, List.getElem?_eq_getElem hlt⟩
    obtain ⟨x', Sx, hx', hIs, hSx⟩ := hG.2.2 pre.length y (by rw [List.getElem?_take, if_pos (by simp)]; exact hy)
    obtain rfl : x = x' := by simpa using hx'
    obtain ⟨ms, hms, hcs⟩ := hIs
    obtain ⟨ky, iy, bY, sy, ay, ny, cy, rfl, -, -, -⟩ := id hms
    have BX1 : Blk W W0.heap.size 62 #[.int .i64 y.m.id, .string y.m.topic, .int .i64 ky, .int .i64 iy, .int .u64 bY, .string sy, .slice ay ny cy, .int .i64 y.m.tat, .int .i64 y.m.til, .string y.m.reply, .int .i64 y.m.corr, .int .i64 y.m.prio, .int .i64 y.m.hops, .int .i64 y.tries, .int .i64 y.due] := by rw [hcs] at BX; exact BX
    obtain ⟨Bs, hBs⟩ : ∃ Bs, Bs = W0.heap.size := ⟨_, rfl⟩
    rw [← hBs] at BX1 ⊢
    obtain ⟨S', hS'⟩ : ∃ S' : Nat → Prop, S' = fun b => S1 b ∨ Sx b := ⟨_, rfl⟩
    have hv1 : DueV W (w.heap.size + 7) n6 n7 n8 n9 (dueS (l.take pre.length) p now) v6 v7 v8 v9 S' c6 c7 c8 c9 := by
      rw [hS']
      refine (hv.fwd hszX.1 hKC).wider (fun _ h => .inl h) (fun b hb => ?_)
      rcases hb with hb | hb
      · exact ⟨(hv.o6.far b hb).1, Nat.lt_of_lt_of_le (hv.o6.far b hb).2.1 hszX.1, (hv.o6.far b hb).2.2, (hv.o7.far b hb).2.2, (hv.o8.far b hb).2.2, (hv.o9.far b hb).2.2⟩
      · obtain ⟨q1, q2, q3, q4⟩ := hSx b hb
        exact ⟨q1, Nat.lt_of_lt_of_le q2 hszX.1, fun e => q4 (hv.row (.inl e)), fun e => q4 (hv.row (.inr (.inl e))), fun e => q4 (hv.row (.inr (.inr (.inl e)))), fun e => q4 (hv.row (.inr (.inr (.inr e))))⟩
    have HSB : Hid (∀ b, S' b → b < Bs) := fun b hb => by
      rw [hS'] at hb
      rcases hb with hb | hb
      · rw [hBs]; exact (hv.o6.far b hb).2.1
      · rw [hBs]; exact (hSx b hb).2.1
    have HRB : Hid (∀ b, (v6.ownBlock = some b ∨ v7.ownBlock = some b ∨ v8.ownBlock = some b ∨ v9.ownBlock = some b) → b < Bs) := fun b hb => by
      rw [hBs]
      rcases hb with hb | hb | hb | hb
      · exact (hv.o6.far_lt b hb).2
      · exact (hv.o7.far_lt b hb).2
      · exact (hv.o8.far_lt b hb).2
      · exact (hv.o9.far_lt b hb).2
    have HM0 : Hid (IsM W S' y.m [.int .i64 y.m.id, .string y.m.topic, .int .i64 ky, .int .i64 iy, .int .u64 bY, .string sy, .slice ay ny cy, .int .i64 y.m.tat, .int .i64 y.m.til, .string y.m.reply, .int .i64 y.m.corr, .int .i64 y.m.prio, .int .i64 y.m.hops]) := hms.fwd (fun b h => by rw [hS']; exact .inr h) (fun b j v hb hc => by
      obtain ⟨o, ho, hoc⟩ := cells_of_cell hc
      rw [World.cell?_of_block (w := W0) (w' := W) (a := ⟨b, j, none⟩) ((hKC b o ho hoc).trans ho.symm)]
      exact hc)
    have HX0 : Hid (IsS W S' y [.int .i64 y.m.id, .string y.m.topic, .int .i64 ky, .int .i64 iy, .int .u64 bY, .string sy, .slice ay ny cy, .int .i64 y.m.tat, .int .i64 y.m.til, .string y.m.reply, .int .i64 y.m.corr, .int .i64 y.m.prio, .int .i64 y.m.hops, .int .i64 y.tries, .int .i64 y.due]) := ⟨_, HM0.out, rfl⟩
    have HBX := Lib.hid BX1
    have HB4 : Hid (Blk W w.heap.size 52 #[.int .i64 p.tries, .int .i64 p.base, .int .i64 p.most]) := hKC _ _ hB4 rfl
    have HB5 : Hid (Blk W n5 2 #[.int .i64 now]) := hKC _ _ hB5 rfl
    have T := Lib.hid (hbel.trans hbX)
    have HK0 := Lib.hid hK0
    have HNR : Hid (∀ b, b < w.heap.size + 7 → ¬ RowZ (ZV n6 n7 n8 n9) W b) := fun b hb hr => by
      rcases hv1.rowz hr with h | h | h | h
      · have := (hv1.o6.far_lt b h).1; omega
      · have := (hv1.o7.far_lt b h).1; omega
      · have := (hv1.o8.far_lt b h).1; omega
      · have := (hv1.o9.far_lt b h).1; omega
    obtain ⟨m5, m6, m7, m8, m9, m10⟩ := HNL.out
    have hLO : w.heap.size + 7 ≤ Bs := by omega
    have hBW : Bs < W.heap.size := Blk.lt BX1
    have hW0 : W0.heap.size ≤ Bs := Nat.le_of_eq hBs.symm
    have hzy := HSM.out y (List.mem_of_getElem? hy)
    have HTR := Lib.hid (HST.out y (List.mem_of_getElem? hy))
    have hdl := dueS_len (l.take pre.length) p now
    have htl : (l.take pre.length).length ≤ l.length := by rw [List.length_take]; omega
    have HDS := Lib.hid (dueS_snoc (p := p) (now := now) hy)
    obtain ⟨D, hD⟩ : ∃ D, D = dueS (l.take pre.length) p now := ⟨_, rfl⟩
    rw [← hD] at hdl hv1 HDS
    obtain ⟨dl1, dl2, dl3, dl4⟩ := hdl
    have HV := Lib.hid hv1
    generalize x.val = xv
    clear hv hv1 hD hS' hB4 hB5 hbel hsz hy hx' hSx hms hcs BX BX1 hBs hbX hKC hG hK0
    have k8 : W.cell? ⟨Bs, 8, none⟩ = some (.int .i64 y.m.til) := HBX.out.cell 8
    have k13 : W.cell? ⟨Bs, 13, none⟩ = some (.int .i64 y.tries) := HBX.out.cell 13
    have k14 : W.cell? ⟨Bs, 14, none⟩ = some (.int .i64 y.due) := HBX.out.cell 14
    have k5 : W.cell? ⟨n5, 0, none⟩ = some (.int .i64 now) := HB5.out.cell 0
    have k40 : W.cell? ⟨w.heap.size, 0, none⟩ = some (.int .i64 p.tries) := HB4.out.cell 0
    gi_upto_region 6 with fail
    rename_i K6 hK6
    have HK6 := Lib.hid hK6
    clear hK6
    have REST6 : ¬ (y.m.til ≠ 0 ∧ y.m.til < now) → ∀ (u35 u36 u37 u38 u39 u40 u41 u42 u43 u44 u45 : Value), K6 ⟨#[.slice a l.length c, .agg #[.int .i64 p.tries, .int .i64 p.base, .int .i64 p.most], .int .i64 now, undef, .pointer (some ⟨w.heap.size, 0, none⟩), .pointer (some ⟨n5, 0, none⟩), .pointer (some ⟨n6, 0, none⟩), .pointer (some ⟨n7, 0, none⟩), .pointer (some ⟨n8, 0, none⟩), .pointer (some ⟨n9, 0, none⟩), .pointer (some ⟨Bs, 0, none⟩), .slice a l.length c, .func (.func 69) #[] #[.pointer (some ⟨WA.heap.size, 0, none⟩)], xv, undef, undef, undef, undef, undef, undef, undef, undef, undef, undef, undef, undef, undef, undef, undef, undef, undef, undef, undef, undef, .bool false, u35, u36, u37, u38, u39, u40, u41, u42, u43, u44, u45, undef, undef, undef, undef, undef, undef, undef, undef, undef, undef, undef, undef, undef, undef, undef, undef, undef, undef, undef, undef, undef, undef, undef, undef, undef, undef, undef, undef, undef], []⟩ W := by
      intro hna u35 u36 u37 u38 u39 u40 u41 u42 u43 u44 u45
      have HNA := Lib.hid hna
      clear hna
      refine HK6.out _ _ ?_
      clear HK6
      by_cases h2 : now < y.due
      · have HCL : Hid (clsS y.m.til y.due y.tries p now = 1) := by show clsS _ _ _ _ _ = _; rw [clsS, if_neg HNA.out, if_pos h2]
        have gc6 : W.cell? ⟨n6, 0, none⟩ = some v6 := HV.out.b6.cell 0
        gi_wp2_with (first
          | (refine wpListIn_load_blk rfl 62 _ rfl Bs 0 rfl [.int .i64 y.m.id, .string y.m.topic, .int .i64 ky, .int .i64 iy, .int .u64 bY, .string sy, .slice ay ny cy, .int .i64 y.m.tat, .int .i64 y.m.til, .string y.m.reply, .int .i64 y.m.corr, .int .i64 y.m.prio, .int .i64 y.m.hops, .int .i64 y.tries, .int .i64 y.due] _ (Blk.range (pre := []) (post := []) HBX.out rfl) Tryd.underlying62 rfl sizeS ?_)
          | (go_loud (refine wpListIn_append_lies rfl _ _ _ rfl (w.heap.size + 7) 62 iS _ 15 160 Tryd.underlying50 hiS hzS hzS1 hzS2 rfl (by omega) v6 D.rest.length c6.flatten rfl (HV.out.o6.row.alloc _) ⟨W.heap.size, 0, none⟩ 1 1 [.int .i64 y.m.id, .string y.m.topic, .int .i64 ky, .int .i64 iy, .int .u64 bY, .string sy, .slice ay ny cy, .int .i64 y.m.tat, .int .i64 y.m.til, .string y.m.reply, .int .i64 y.m.corr, .int .i64 y.m.prio, .int .i64 y.m.hops, .int .i64 y.tries, .int .i64 y.due] rfl rfl (World.news_of_block (cs := #[.int .i64 y.m.id, .string y.m.topic, .int .i64 ky, .int .i64 iy, .int .u64 bY, .string sy, .slice ay ny cy, .int .i64 y.m.tat, .int .i64 y.m.til, .string y.m.reply, .int .i64 y.m.corr, .int .i64 y.m.prio, .int .i64 y.m.hops, .int .i64 y.tries, .int .i64 y.due]) (t := 62) (fr := (0, 0)) (heap_alloc_new W _)) HX0.out.one (by omega) (by unfold maxLen; omega) (by omega) (by simp; omega) (W.heap.size + 1) (by simp) ?_)
             intro g5 cap5 w5 hown5 hgrow5 hat5 hlt5
             have cc : w5.cell? ⟨n6, 0, none⟩ = some v6 := (far_cell hgrow5 (by omega) (fun e => by have := (HV.out.o6.far_lt n6 e).1; omega)).trans gc6
             have ff : w5.frozen? ⟨n6, 0, none⟩ = false := (far_free hgrow5 (by omega) (fun e => by have := (HV.out.o6.far_lt n6 e).1; omega)).trans (HV.out.b6.free 0)))
        have hV' := DueV.grow6 HV.out ⟨by omega, by omega, by omega, by omega⟩ ⟨by omega, by omega, by omega, by omega, by omega, by omega⟩ (by omega) HX0.out rfl hown5 rfl hgrow5 hat5
        have hKB : KB (ZV n6 n7 n8 n9) Bs W _ := DueV.kb6 HV.out hV' Bs hgrow5 hat5
        have hDS : dueS (l.take (pre.length + 1)) p now = { D with rest := D.rest ++ [y] } := by rw [HDS.out, addD, HCL.out]; rfl
        refine ⟨(HV.out.ko6 hgrow5 _).from _, KB.kz ((KB.of HK0.out).trans hKB) (by omega), by rw [List.length_append, List.length_singleton]; omega, ⟨_, _, _, _, _, _, _, _, _, by rw [List.length_append, List.length_singleton, hDS]; exact hV'⟩,
          hKB.block _ _ (fun hz => by rcases hz with h | h | h | h <;> omega) (by omega) (HNR.out _ (by omega)) HB4.out rfl, hKB.block _ _ (fun hz => by rcases hz with h | h | h | h <;> omega) (by omega) (HNR.out _ (by omega)) HB5.out rfl,
          HV.out.below6 T.out (by omega) (by omega) (by omega) hgrow5 _, by have := hKB.size; omega⟩
      by_cases h3 : p.tries ≤ y.tries
      · have HCL : Hid (clsS y.m.til y.due y.tries p now = 2) := by show clsS _ _ _ _ _ = _; rw [clsS, if_neg HNA.out, if_neg h2, if_pos h3]
        have gc8 : W.cell? ⟨n8, 0, none⟩ = some v8 := HV.out.b8.cell 0
        gi_wp2_with (first
          | (refine wpListIn_load_blk rfl 30 _ rfl Bs 0 rfl [.int .i64 y.m.id, .string y.m.topic, .int .i64 ky, .int .i64 iy, .int .u64 bY, .string sy, .slice ay ny cy, .int .i64 y.m.tat, .int .i64 y.m.til, .string y.m.reply, .int .i64 y.m.corr, .int .i64 y.m.prio, .int .i64 y.m.hops] _ (Blk.range (pre := []) (post := [.int .i64 y.tries, .int .i64 y.due]) HBX.out rfl) Tryd.underlying30 rfl sizeM ?_)
          | (go_loud (refine wpListIn_append_lies rfl _ _ _ rfl (w.heap.size + 7) 30 iM _ 13 144 Tryd.underlying22 hiM hzM hzM1 hzM2 rfl (by omega) v8 D.dead.length c8.flatten rfl (HV.out.o8.row.alloc _) ⟨W.heap.size, 0, none⟩ 1 1 [.int .i64 y.m.id, .string y.m.topic, .int .i64 ky, .int .i64 iy, .int .u64 bY, .string sy, .slice ay ny cy, .int .i64 y.m.tat, .int .i64 y.m.til, .string y.m.reply, .int .i64 y.m.corr, .int .i64 y.m.prio, .int .i64 y.m.hops] rfl rfl (World.news_of_block (cs := #[.int .i64 y.m.id, .string y.m.topic, .int .i64 ky, .int .i64 iy, .int .u64 bY, .string sy, .slice ay ny cy, .int .i64 y.m.tat, .int .i64 y.m.til, .string y.m.reply, .int .i64 y.m.corr, .int .i64 y.m.prio, .int .i64 y.m.hops]) (t := 30) (fr := (0, 0)) (heap_alloc_new W _)) HM0.out.one (by omega) (by unfold maxLen; omega) (by omega) (by simp; omega) (W.heap.size + 1) (by simp) ?_)
             intro g5 cap5 w5 hown5 hgrow5 hat5 hlt5
             have cc : w5.cell? ⟨n8, 0, none⟩ = some v8 := (far_cell hgrow5 (by omega) (fun e => by have := (HV.out.o8.far_lt n8 e).1; omega)).trans gc8
             have ff : w5.frozen? ⟨n8, 0, none⟩ = false := (far_free hgrow5 (by omega) (fun e => by have := (HV.out.o8.far_lt n8 e).1; omega)).trans (HV.out.b8.free 0)))
        have hV' := DueV.grow8 HV.out ⟨by omega, by omega, by omega, by omega⟩ ⟨by omega, by omega, by omega, by omega, by omega, by omega⟩ (by omega) HM0.out rfl hown5 rfl hgrow5 hat5
        have hKB : KB (ZV n6 n7 n8 n9) Bs W _ := DueV.kb8 HV.out hV' Bs hgrow5 hat5
        have hDS : dueS (l.take (pre.length + 1)) p now = { D with dead := D.dead ++ [y.m] } := by rw [HDS.out, addD, HCL.out]; rfl
        refine ⟨(HV.out.ko8 hgrow5 _).from _, KB.kz ((KB.of HK0.out).trans hKB) (by omega), by rw [List.length_append, List.length_singleton]; omega, ⟨_, _, _, _, _, _, _, _, _, by rw [List.length_append, List.length_singleton, hDS]; exact hV'⟩,
          hKB.block _ _ (fun hz => by rcases hz with h | h | h | h <;> omega) (by omega) (HNR.out _ (by omega)) HB4.out rfl, hKB.block _ _ (fun hz => by rcases hz with h | h | h | h <;> omega) (by omega) (HNR.out _ (by omega)) HB5.out rfl,
          HV.out.below8 T.out (by omega) (by omega) (by omega) hgrow5 _, by have := hKB.size; omega⟩
      have HCL : Hid (clsS y.m.til y.due y.tries p now = 3) := by show clsS _ _ _ _ _ = _; rw [clsS, if_neg HNA.out, if_neg h2, if_neg h3]
      gi_upto_region 3 with fail
      rename_i K3 hK3
      have REST3 : ∀ (S3 : Nat → Prop) (g5 cap5 : Nat) (c7' : List (List Value)) (u14 u15 u16 u17 u18 u19 u20 u21 u22 u23 u24 u25 u26 u27 u28 u29 u30 u31 u32 u33 u34 u35 u36 u37 u38 u39 u40 u41 u42 u43 u44 u45 u46 u47 u48 u49 u50 u51 u52 u53 u54 u55 u56 u57 u58 u59 u60 u61 u62 u63 u64 u65 u66 u67 u68 u69 u70 u71 u72 u73 u74 : Value) (W3 : World), DueV W3 (w.heap.size + 7) n6 n7 n8 n9 { D with again := D.again ++ [y.m] } v6 (.slice (some ⟨g5, 0, none⟩) (D.again.length + 1) cap5) v8 v9 S3 c6 c7' c8 c9 → (∀ b, S3 b → b ≠ Bs) → g5 ≠ Bs → Blk W3 Bs 62 #[.int .i64 y.m.id, .string y.m.topic, .int .i64 ky, .int .i64 iy, .int .u64 bY, .string sy, .slice ay ny cy, .int .i64 y.m.tat, .int .i64 y.m.til, .string y.m.reply, .int .i64 y.m.corr, .int .i64 y.m.prio, .int .i64 y.m.hops, .int .i64 y.tries, .int .i64 y.due] → IsM W3 S3 y.m [.int .i64 y.m.id, .string y.m.topic, .int .i64 ky, .int .i64 iy, .int .u64 bY, .string sy, .slice ay ny cy, .int .i64 y.m.tat, .int .i64 y.m.til, .string y.m.reply, .int .i64 y.m.corr, .int .i64 y.m.prio, .int .i64 y.m.hops] → KB (ZV n6 n7 n8 n9) Bs W W3 → KeepsOthers W W3 → Below w.heap.size w W3 → W.heap.size ≤ W3.heap.size →
          K3 ⟨#[.slice a l.length c, .agg #[.int .i64 p.tries, .int .i64 p.base, .int .i64 p.most], .int .i64 now, undef, .pointer (some ⟨w.heap.size, 0, none⟩), .pointer (some ⟨n5, 0, none⟩), .pointer (some ⟨n6, 0, none⟩), .pointer (some ⟨n7, 0, none⟩), .pointer (some ⟨n8, 0, none⟩), .pointer (some ⟨n9, 0, none⟩), .pointer (some ⟨Bs, 0, none⟩), .slice a l.length c, .func (.func 69) #[] #[.pointer (some ⟨WA.heap.size, 0, none⟩)], xv, u14, u15, u16, u17, u18, u19, u20, u21, u22, u23, u24, u25, u26, u27, u28, u29, u30, u31, u32, u33, u34, u35, u36, u37, u38, u39, u40, u41, u42, u43, u44, u45, u46, u47, u48, u49, u50, u51, u52, u53, u54, u55, u56, u57, u58, u59, u60, u61, u62, u63, u64, u65, u66, u67, u68, u69, u70, u71, u72, u73, u74], []⟩ W3 := by
        intro S3 g5 cap5 c7' u14 u15 u16 u17 u18 u19 u20 u21 u22 u23 u24 u25 u26 u27 u28 u29 u30 u31 u32 u33 u34 u35 u36 u37 u38 u39 u40 u41 u42 u43 u44 u45 u46 u47 u48 u49 u50 u51 u52 u53 u54 u55 u56 u57 u58 u59 u60 u61 u62 u63 u64 u65 u66 u67 u68 u69 u70 u71 u72 u73 u74 W3 hv3 hS3 hg5 hbx3 hm3 hkb3 hko3 ht3 hsz3
        have HV3 := Lib.hid hv3
        have HS3 := Lib.hid hS3
        have HBX3 := Lib.hid hbx3
        have HM3 := Lib.hid hm3
        have HKB3 := Lib.hid hkb3
        have HKO3 := Lib.hid hko3
        have T3 := Lib.hid ht3
        have HPB : Hid (Blk W3 w.heap.size 52 #[.int .i64 p.tries, .int .i64 p.base, .int .i64 p.most]) := HKB3.out.block _ _ (fun hz => by rcases hz with h | h | h | h <;> omega) (by omega) (HNR.out _ (by omega)) HB4.out rfl
        have HNB : Hid (Blk W3 n5 2 #[.int .i64 now]) := HKB3.out.block _ _ (fun hz => by rcases hz with h | h | h | h <;> omega) (by omega) (HNR.out _ (by omega)) HB5.out rfl
        obtain ⟨Dn, hDn⟩ : ∃ Dn, Dn = now + waitF y.tries p.base p.most := ⟨_, rfl⟩
        have HD4 : Hid (IntKind.i64.wrap (now + waitF y.tries p.base p.most) = Dn) := (wait_add HP.out HNW.out.1 HNW.out.2 y.tries).trans hDn.symm
        have HDN := Lib.hid hDn
        have HT1 : Hid (IntKind.i64.wrap (y.tries + 1) = y.tries + 1) := by show _ = _; have := HTR.out; rw [IntKind.wrap_i64]; omega
        clear hv3 hS3 hbx3 hm3 hkb3 hko3 ht3 hDn
        refine hK3 _ _ ?_
        clear hK3
        gi_upto_region 4 with fail
        refine region_round (S := fun w' => w'.cell? ⟨n5, 0, none⟩ = some (.int .i64 now) ∧ w'.cell? ⟨Bs, 13, none⟩ = some (.int .i64 y.tries) ∧ w'.cell? ⟨w.heap.size, 1, none⟩ = some (.int .i64 p.base) ∧ w'.cell? ⟨w.heap.size, 2, none⟩ = some (.int .i64 p.most)) (by kernel_rfl) (by kernel_rfl) ?_ (fun hHeld => ?_)
        · exact ⟨HNB.out.cell 0, HBX3.out.cell 13, HPB.out.cell 1, HPB.out.cell 2⟩
        refine wpAnyH_take (i := 0) (v := .int .i64 now) rfl (by kernel_rfl) (by kernel_rfl) (by kernel_rfl) (fun _ _ _ h => h) (Or.inl ⟨by rfl, ?_⟩) hHeld ?_
        · intro w hSw
          have h4 := hSw.1
          first | (go_simp; done) | (go_simp; with_reducible rfl)
        try simp only [Act.put, List.getElem_toArray, List.getElem_cons_zero, List.setIfInBounds_toArray, List.set_cons_zero, List.set_cons_succ]
        refine wpAnyH_take (i := 1) (v := ?_) rfl (by kernel_rfl) (by kernel_rfl) (by kernel_rfl) (fun _ _ _ h => h) (Or.inl ⟨by rfl, ?_⟩) hHeld ?_
        rotate_left
        · intro w hSw
          try dsimp only at hSw
          first | (go_simp; done) | (go_simp; with_reducible rfl)
        try simp only [Act.put, List.getElem_toArray, List.getElem_cons_zero, List.getElem_cons_succ, List.setIfInBounds_toArray, List.set_cons_zero, List.set_cons_succ]
        refine wpAnyH_take (i := 2) (v := .int .i64 y.tries) rfl (by kernel_rfl) (by kernel_rfl) (by kernel_rfl) (fun _ _ _ h => h) (Or.inl ⟨by rfl, ?_⟩) hHeld ?_
        · intro w hSw
          have h4 := hSw.2.1
          first | (go_simp; done) | (go_simp; with_reducible rfl)
        try simp only [Act.put, List.getElem_toArray, List.getElem_cons_zero, List.getElem_cons_succ, List.setIfInBounds_toArray, List.set_cons_zero, List.set_cons_succ]
        refine wpAnyH_take (i := 3) (v := ?_) rfl (by kernel_rfl) (by kernel_rfl) (by kernel_rfl) (fun _ _ _ h => h) (Or.inl ⟨by rfl, ?_⟩) hHeld ?_
        rotate_left
        · intro w hSw
          try dsimp only at hSw
          first | (go_simp; done) | (go_simp; with_reducible rfl)
        try simp only [Act.put, List.getElem_toArray, List.getElem_cons_zero, List.getElem_cons_succ, List.setIfInBounds_toArray, List.set_cons_zero, List.set_cons_succ]
        refine wpAnyH_take (i := 4) (v := .int .i64 p.base) rfl (by kernel_rfl) (by kernel_rfl) (by kernel_rfl) (fun _ _ _ h => h) (Or.inl ⟨by rfl, ?_⟩) hHeld ?_
        · intro w hSw
          have h4 := hSw.2.2.1
          first | (go_simp; done) | (go_simp; with_reducible rfl)
        try simp only [Act.put, List.getElem_toArray, List.getElem_cons_zero, List.getElem_cons_succ, List.setIfInBounds_toArray, List.set_cons_zero, List.set_cons_succ]
        refine wpAnyH_take (i := 5) (v := ?_) rfl (by kernel_rfl) (by kernel_rfl) (by kernel_rfl) (fun _ _ _ h => h) (Or.inl ⟨by rfl, ?_⟩) hHeld ?_
        rotate_left
        · intro w hSw
          try dsimp only at hSw
          first | (go_simp; done) | (go_simp; with_reducible rfl)
        try simp only [Act.put, List.getElem_toArray, List.getElem_cons_zero, List.getElem_cons_succ, List.setIfInBounds_toArray, List.set_cons_zero, List.set_cons_succ]
        refine wpAnyH_take (i := 6) (v := .int .i64 p.most) rfl (by kernel_rfl) (by kernel_rfl) (by kernel_rfl) (fun _ _ _ h => h) (Or.inl ⟨by rfl, ?_⟩) hHeld ?_
        · intro w hSw
          have h4 := hSw.2.2.2
          first | (go_simp; done) | (go_simp; with_reducible rfl)
        try simp only [Act.put, List.getElem_toArray, List.getElem_cons_zero, List.getElem_cons_succ, List.setIfInBounds_toArray, List.set_cons_zero, List.set_cons_succ]
        refine wpAnyH_ready (rs := [7]) (by kernel_rfl) (by simp) ?_
        refine AllReadyH.cons rfl (fun K hK => ?_) AllReadyH.nil
        go_simp
        go_at_call 58
        refine (wait_any y.tries p.base p.most _ (by have := HTR.out; omega) (by have := HP.out; unfold FitP at this; omega) (by have := HP.out; unfold FitP at this; omega)).mono ?_
        rintro e wz ⟨rfl, rfl⟩
        refine hK.out _ _ hHeld (fun hHeld2 => ?_)
        clear hHeld hK K
        have hHeld := hHeld2
        clear hHeld2
        try simp only [Act.put, List.getElem_toArray, List.getElem_cons_zero, List.getElem_cons_succ, List.setIfInBounds_toArray, List.set_cons_zero, List.set_cons_succ]
        have hD4 := HD4.out
        refine wpAnyH_take (i := 8) (v := .int .i64 Dn) rfl (by kernel_rfl) (by kernel_rfl) (by kernel_rfl) (fun _ _ _ h => h) (Or.inl ⟨by rfl, ?_⟩) hHeld ?_
        · intro w hSw
          have h4 := HD4.out
          first | (go_simp; done) | (go_simp; with_reducible rfl)
        try simp only [Act.put, List.getElem_toArray, List.getElem_cons_zero, List.getElem_cons_succ, List.setIfInBounds_toArray, List.set_cons_zero, List.set_cons_succ]
        clear hD4
        refine wpAnyH_take (i := 9) (v := ?_) rfl (by kernel_rfl) (by kernel_rfl) (by kernel_rfl) (fun _ _ _ h => h) (Or.inl ⟨by rfl, ?_⟩) hHeld ?_
        rotate_left
        · intro w hSw
          try dsimp only at hSw
          first | (go_simp; done) | (go_simp; with_reducible rfl)
        try simp only [Act.put, List.getElem_toArray, List.getElem_cons_zero, List.getElem_cons_succ, List.setIfInBounds_toArray, List.set_cons_zero, List.set_cons_succ]
        have s14 : W3.drew.cell? ⟨Bs, 14, none⟩ = some (.int .i64 y.due) := HBX3.out.cell 14
        have q14 : W3.drew.frozen? ⟨Bs, 14, none⟩ = false := HBX3.out.free 14
        refine wpAnyH_ready (rs := [10]) (by kernel_rfl) (by simp) ?_
        refine AllReadyH.cons rfl (fun K hK => ?_) AllReadyH.nil
        go_simp
        refine hK.out _ _ ⟨(World.cell?_setCell_other _ _ _ _ (by intro e; injection e; omega)).trans hHeld.1, (World.cell?_setCell_other _ _ _ _ (by intro e; injection e; omega)).trans hHeld.2.1, (World.cell?_setCell_other _ _ _ _ (by intro e; injection e; omega)).trans hHeld.2.2.1, (World.cell?_setCell_other _ _ _ _ (by intro e; injection e; omega)).trans hHeld.2.2.2⟩ (fun hHeld2 => ?_)
        clear hHeld hK K
        have hHeld := hHeld2
        clear hHeld2
        try simp only [Act.put, List.getElem_toArray, List.getElem_cons_zero, List.getElem_cons_succ, List.setIfInBounds_toArray, List.set_cons_zero, List.set_cons_succ]
        refine wpAnyH_done (by kernel_rfl) ?_ _
        clear hHeld s14 q14
        simp only [QN]
        obtain ⟨W4, hW4⟩ : ∃ W4, W4 = (W3.setCell ⟨Bs, 14, none⟩ (.int .i64 Dn)).drew := ⟨_, rfl⟩
        rw [← hW4]
        have HBX4 : Hid (Blk W4 Bs 62 #[.int .i64 y.m.id, .string y.m.topic, .int .i64 ky, .int .i64 iy, .int .u64 bY, .string sy, .slice ay ny cy, .int .i64 y.m.tat, .int .i64 y.m.til, .string y.m.reply, .int .i64 y.m.corr, .int .i64 y.m.prio, .int .i64 y.m.hops, .int .i64 y.tries, .int .i64 Dn]) := by show Blk _ _ _ _; rw [hW4]; exact Blk.drew (Blk.set (i := 14) HBX3.out _)
        have c13' : W4.cell? ⟨Bs, 13, none⟩ = some (.int .i64 y.tries) := HBX4.out.cell 13
        have f13' : W4.frozen? ⟨Bs, 13, none⟩ = false := HBX4.out.free 13
        have HW4 := Lib.hid hW4
        have hT1 := HT1.out
        clear hW4
        gi_upto_region 11 with fail
        clear hT1 c13' f13'
        obtain ⟨W5, hW5⟩ : ∃ W5, W5 = W4.setCell ⟨Bs, 13, none⟩ (.int .i64 (y.tries + 1)) := ⟨_, rfl⟩
        rw [← hW5]
        have HBX : Hid (Blk W5 Bs 62 #[.int .i64 y.m.id, .string y.m.topic, .int .i64 ky, .int .i64 iy, .int .u64 bY, .string sy, .slice ay ny cy, .int .i64 y.m.tat, .int .i64 y.m.til, .string y.m.reply, .int .i64 y.m.corr, .int .i64 y.m.prio, .int .i64 y.m.hops, .int .i64 (y.tries + 1), .int .i64 Dn]) := by show Blk _ _ _ _; rw [hW5]; exact Blk.set (i := 13) HBX4.out _
        have hk5 : ∀ b, b ≠ Bs → W5.heap[b]? = W3.heap[b]? := fun b hb => by rw [hW5]; refine (heap_set (w := W4) (p := ⟨Bs, 13, none⟩) hb).trans ?_; rw [HW4.out]; exact heap_set (w := W3) (p := ⟨Bs, 14, none⟩) hb
        have hs5 : W5.heap.size = W3.heap.size := by rw [hW5, HW4.out]; simp
        have HKB5 : Hid (KB (ZV n6 n7 n8 n9) Bs W W5) := by
          refine KB.trans HKB3.out ⟨Nat.le_of_eq hs5.symm, fun b o h1 h2 h3 h4 _ => (hk5 b h2).trans h4, fun b hr => .inl ?_⟩
          obtain ⟨z, hz, n', c', hc⟩ := hr
          exact ⟨z, hz, n', c', (World.cell?_of_block (a := ⟨z, 0, none⟩) (hk5 z (by rcases hz with h | h | h | h <;> omega))).symm.trans hc⟩
        have HKO5 : Hid (KeepsOthers W W5) := by show KeepsOthers _ _; rw [hW5, HW4.out]; exact (((HKO3.out).trans (KeepsOthers.setCell _ _ _)).trans (KeepsOthers.drew _)).trans (KeepsOthers.setCell _ _ _)
        have T5 : Hid (Below w.heap.size w W5) := by show Below _ _ _; rw [hW5, HW4.out]; exact ((T3.out.setCell (by show w.heap.size ≤ Bs; omega) _).drew).setCell (by show w.heap.size ≤ Bs; omega) _
        have HV5 : Hid (DueV W5 (w.heap.size + 7) n6 n7 n8 n9 { D with again := D.again ++ [y.m] } v6 (.slice (some ⟨g5, 0, none⟩) (D.again.length + 1) cap5) v8 v9 S3 c6 c7' c8 c9) := HV3.out.keep (Nat.le_of_eq hs5.symm) fun b o hb ho _ => (hk5 b (by
          rcases hb with hb | hb | hb | hb | hb | hb
          · rcases hb with h | h | h | h <;> omega
          · exact HS3.out b hb
          · have := HRB.out b (.inl hb); omega
          · have e : g5 = b := by simpa [Value.ownBlock] using hb
            omega
          · have := HRB.out b (.inr (.inr (.inl hb))); omega
          · have := HRB.out b (.inr (.inr (.inr hb))); omega)).trans ho
        have HX5 : Hid (IsS W5 S3 (againS y p now) [.int .i64 y.m.id, .string y.m.topic, .int .i64 ky, .int .i64 iy, .int .u64 bY, .string sy, .slice ay ny cy, .int .i64 y.m.tat, .int .i64 y.m.til, .string y.m.reply, .int .i64 y.m.corr, .int .i64 y.m.prio, .int .i64 y.m.hops, .int .i64 (y.tries + 1), .int .i64 Dn]) := ⟨_, HM3.out.keep (fun _ h => h) (fun b hb j => World.cell?_of_block (a := ⟨b, j, none⟩) (hk5 b (HS3.out b hb))), by rw [HDN.out]; rfl⟩
        obtain ⟨D2, hD2⟩ : ∃ D2, D2 = ({ D with again := D.again ++ [y.m] } : DS) := ⟨_, rfl⟩
        have hr2 : D2.rest.length ≤ 65536 := by rw [hD2]; show D.rest.length ≤ 65536; omega
        have hv5 := HV5.out
        rw [← hD2] at hv5
        replace HV5 := Lib.hid hv5
        have HD2 := Lib.hid hD2
        have hs5a : W.heap.size ≤ W5.heap.size := by omega
        clear hs5
        clear hW5 hk5 HW4 HBX4 HV3 HM3 HBX3 HKB3 HKO3 T3 HPB HNB hv5 hD2
        have gc6 : W5.cell? ⟨n6, 0, none⟩ = some v6 := HV5.out.b6.cell 0
        gi_wp2_with (first
          | (refine wpListIn_load_blk rfl 62 _ rfl Bs 0 rfl [.int .i64 y.m.id, .string y.m.topic, .int .i64 ky, .int .i64 iy, .int .u64 bY, .string sy, .slice ay ny cy, .int .i64 y.m.tat, .int .i64 y.m.til, .string y.m.reply, .int .i64 y.m.corr, .int .i64 y.m.prio, .int .i64 y.m.hops, .int .i64 (y.tries + 1), .int .i64 Dn] _ (Blk.range (pre := []) (post := []) HBX.out rfl) Tryd.underlying62 rfl sizeS ?_)
          | (go_loud (refine wpListIn_append_lies rfl _ _ _ rfl (w.heap.size + 7) 62 iS _ 15 160 Tryd.underlying50 hiS hzS hzS1 hzS2 rfl (by omega) v6 D2.rest.length c6.flatten rfl (HV5.out.o6.row.alloc _) ⟨W5.heap.size, 0, none⟩ 1 1 [.int .i64 y.m.id, .string y.m.topic, .int .i64 ky, .int .i64 iy, .int .u64 bY, .string sy, .slice ay ny cy, .int .i64 y.m.tat, .int .i64 y.m.til, .string y.m.reply, .int .i64 y.m.corr, .int .i64 y.m.prio, .int .i64 y.m.hops, .int .i64 (y.tries + 1), .int .i64 Dn] rfl rfl (World.news_of_block (cs := #[.int .i64 y.m.id, .string y.m.topic, .int .i64 ky, .int .i64 iy, .int .u64 bY, .string sy, .slice ay ny cy, .int .i64 y.m.tat, .int .i64 y.m.til, .string y.m.reply, .int .i64 y.m.corr, .int .i64 y.m.prio, .int .i64 y.m.hops, .int .i64 (y.tries + 1), .int .i64 Dn]) (t := 62) (fr := (0, 0)) (heap_alloc_new W5 _)) HX5.out.one (by omega) (by unfold maxLen; omega) (by omega) (by simp; omega) (W5.heap.size + 1) (by simp) ?_)
             intro g6 cap6 w5 hown5 hgrow5 hat5 hlt5
             have cc : w5.cell? ⟨n6, 0, none⟩ = some v6 := (far_cell hgrow5 (by omega) (fun e => by have := (HV5.out.o6.far_lt n6 e).1; omega)).trans gc6
             have ff : w5.frozen? ⟨n6, 0, none⟩ = false := (far_free hgrow5 (by omega) (fun e => by have := (HV5.out.o6.far_lt n6 e).1; omega)).trans (HV5.out.b6.free 0)))
        have hV' := DueV.grow6 HV5.out ⟨by omega, by omega, by omega, by omega⟩ ⟨by omega, by omega, by omega, by omega, by omega, by omega⟩ (by omega) HX5.out rfl hown5 rfl hgrow5 hat5
        have hKB : KB (ZV n6 n7 n8 n9) Bs W _ := KB.trans HKB5.out (DueV.kb6 HV5.out hV' Bs hgrow5 hat5)
        have hDS : dueS (l.take (pre.length + 1)) p now = { D2 with rest := D2.rest ++ [againS y p now] } := by rw [HDS.out, addD, HCL.out, HD2.out]; rfl
        refine ⟨(KeepsOthers.trans HKO5.out (HV5.out.ko6 hgrow5 _)).from _, KB.kz ((KB.of HK0.out).trans hKB) (by omega), by rw [List.length_append, List.length_singleton]; omega, ⟨_, _, _, _, _, _, _, _, _, by rw [List.length_append, List.length_singleton, hDS]; exact hV'⟩,
          hKB.block _ _ (fun hz => by rcases hz with h | h | h | h <;> omega) (by omega) (HNR.out _ (by omega)) HB4.out rfl, hKB.block _ _ (fun hz => by rcases hz with h | h | h | h <;> omega) (by omega) (HNR.out _ (by omega)) HB5.out rfl,
          HV5.out.below6 T5.out (by omega) (by omega) (by omega) hgrow5 _, by have := hKB.size; omega⟩
      refine region_round (S := fun w' => Blk w' Bs 62 #[.int .i64 y.m.id, .string y.m.topic, .int .i64 ky, .int .i64 iy, .int .u64 bY, .string sy, .slice ay ny cy, .int .i64 y.m.tat, .int .i64 y.m.til, .string y.m.reply, .int .i64 y.m.corr, .int .i64 y.m.prio, .int .i64 y.m.hops, .int .i64 y.tries, .int .i64 y.due]) (by kernel_rfl) (by kernel_rfl) HBX.out.drew (fun hHeld => ?_)
      obtain ⟨W1, hW1⟩ : ∃ W1, W1 = W.drew := ⟨_, rfl⟩
      have hv1 : DueV W1 (w.heap.size + 7) n6 n7 n8 n9 D v6 v7 v8 v9 S' c6 c7 c8 c9 := by rw [hW1]; exact HV.out.fwd (Nat.le_refl _) (fun _ _ h _ => h)
      have hm1 : IsM W1 S' y.m [.int .i64 y.m.id, .string y.m.topic, .int .i64 ky, .int .i64 iy, .int .u64 bY, .string sy, .slice ay ny cy, .int .i64 y.m.tat, .int .i64 y.m.til, .string y.m.reply, .int .i64 y.m.corr, .int .i64 y.m.prio, .int .i64 y.m.hops] := by rw [hW1]; exact HM0.out.drew
      have hkb1 : KB (ZV n6 n7 n8 n9) Bs W W1 := by rw [hW1]; exact ⟨Nat.le_refl _, fun _ _ _ _ _ h _ => h, fun _ h => .inl h⟩
      have hko1 : KeepsOthers W W1 := by rw [hW1]; exact KeepsOthers.drew W
      have ht1 : Below w.heap.size w W1 := by rw [hW1]; exact T.out.drew
      have hz1 : W.heap.size ≤ W1.heap.size := by rw [hW1]; exact Nat.le_refl _
      rw [← hW1] at hHeld ⊢
      have HV1 := Lib.hid hv1
      have HM1 := Lib.hid hm1
      have HKB1 := Lib.hid hkb1
      have HKO1 := Lib.hid hko1
      have T1' := Lib.hid ht1
      clear hv1 hm1 hkb1 hko1 ht1 hW1
      refine wpAnyH_take (i := 1) (v := ?_) rfl (by kernel_rfl) (by kernel_rfl) (by kernel_rfl) (fun _ _ _ h => h) (Or.inl ⟨by rfl, ?_⟩) hHeld ?_
      rotate_left
      · intro w hSw
        try dsimp only at hSw
        first | (go_simp; done) | (go_simp; with_reducible rfl)
      try simp only [Act.put, List.getElem_toArray, List.getElem_cons_zero, List.getElem_cons_succ, List.setIfInBounds_toArray, List.set_cons_zero, List.set_cons_succ]
      refine wpAnyH_take (i := 2) (v := .agg #[.int .i64 y.m.id, .string y.m.topic, .int .i64 ky, .int .i64 iy, .int .u64 bY, .string sy, .slice ay ny cy, .int .i64 y.m.tat, .int .i64 y.m.til, .string y.m.reply, .int .i64 y.m.corr, .int .i64 y.m.prio, .int .i64 y.m.hops]) rfl (by kernel_rfl) (by kernel_rfl) (by kernel_rfl) (fun _ _ _ h => h) (yieldsIf_load_mid (by rfl) 30 _ rfl (Bs) (0) (by rfl) [.int .i64 y.m.id, .string y.m.topic, .int .i64 ky, .int .i64 iy, .int .u64 bY, .string sy, .slice ay ny cy, .int .i64 y.m.tat, .int .i64 y.m.til, .string y.m.reply, .int .i64 y.m.corr, .int .i64 y.m.prio, .int .i64 y.m.hops] _ (fun w' h => Blk.range (pre := []) (post := [.int .i64 y.tries, .int .i64 y.due]) h rfl) Tryd.underlying30 rfl sizeM) hHeld ?_
      try simp only [Act.put, List.getElem_toArray, List.getElem_cons_zero, List.getElem_cons_succ, List.setIfInBounds_toArray, List.set_cons_zero, List.set_cons_succ]
      refine wpAnyH_ready (rs := [0, 3]) (by kernel_rfl) (by simp) ?_
      refine AllReadyH.cons rfl (fun K hK => ?_) (AllReadyH.cons rfl (fun K hK => ?_) AllReadyH.nil)
      · have g7 : W1.cell? ⟨n7, 0, none⟩ = some v7 := HV1.out.b7.cell 0
        go_simp
        refine hK.out _ _ hHeld (fun hHeld2 => ?_)
        clear hHeld hK K
        have hHeld := hHeld2
        clear hHeld2
        try simp only [Act.put, List.getElem_toArray, List.getElem_cons_zero, List.getElem_cons_succ, List.setIfInBounds_toArray, List.set_cons_zero, List.set_cons_succ]
        refine wpAnyH_ready (rs := [3]) (by kernel_rfl) (by simp) ?_
        refine AllReadyH.cons rfl (fun K hK => ?_) AllReadyH.nil
        go_simp
        go_at_call 57
        refine (ownmsg_any y.m W1 S' [.int .i64 y.m.id, .string y.m.topic, .int .i64 ky, .int .i64 iy, .int .u64 bY, .string sy, .slice ay ny cy, .int .i64 y.m.tat, .int .i64 y.m.til, .string y.m.reply, .int .i64 y.m.corr, .int .i64 y.m.prio, .int .i64 y.m.hops] HM1.out (fun b hb => by have := HSB.out b hb; omega) hzy).mono ?_
        rintro e w2 ⟨k3, i3, b3, s3, am3, nm3, cm3, rfl, hm3, hb⟩
        have hl3 := hb.size
        have HV2 : Hid (DueV w2 (w.heap.size + 7) n6 n7 n8 n9 D v6 v7 v8 v9 (fun b => S' b ∨ Btw W1.heap.size w2.heap.size b) c6 c7 c8 c9) := (HV1.out.below hb).wider (fun _ h => .inl h) (fun b hb2 => by
          rcases hb2 with hb2 | hb2
          · exact ⟨(HV1.out.o6.far b hb2).1, by have := (HV1.out.o6.far b hb2).2.1; omega, (HV1.out.o6.far b hb2).2.2, (HV1.out.o7.far b hb2).2.2, (HV1.out.o8.far b hb2).2.2, (HV1.out.o9.far b hb2).2.2⟩
          · obtain ⟨q1, q2⟩ := hb2
            exact ⟨by omega, q2, fun e => by have := HRB.out b (.inl e); omega, fun e => by have := HRB.out b (.inr (.inl e)); omega, fun e => by have := HRB.out b (.inr (.inr (.inl e))); omega, fun e => by have := HRB.out b (.inr (.inr (.inr e))); omega⟩)
        have HM3 : Hid (IsM w2 (fun b => S' b ∨ Btw W1.heap.size w2.heap.size b) y.m [.int .i64 y.m.id, .string y.m.topic, .int .i64 k3, .int .i64 i3, .int .u64 b3, .string s3, .slice am3 nm3 cm3, .int .i64 y.m.tat, .int .i64 y.m.til, .string y.m.reply, .int .i64 y.m.corr, .int .i64 y.m.prio, .int .i64 y.m.hops]) := hm3.ism.mono (fun _ h => .inr h)
        have HM2 : Hid (IsM w2 (fun b => S' b ∨ Btw W1.heap.size w2.heap.size b) y.m [.int .i64 y.m.id, .string y.m.topic, .int .i64 ky, .int .i64 iy, .int .u64 bY, .string sy, .slice ay ny cy, .int .i64 y.m.tat, .int .i64 y.m.til, .string y.m.reply, .int .i64 y.m.corr, .int .i64 y.m.prio, .int .i64 y.m.hops]) := (HM1.out.under hb (fun b hb => by have := HSB.out b hb; omega)).mono (fun _ h => .inl h)
        have HKB2 : Hid (KB (ZV n6 n7 n8 n9) Bs W w2) := HKB1.out.trans (KB.of (KZ.below hb (fun z hz => by rcases hz with h | h | h | h <;> omega)))
        have HKO2 : Hid (KeepsOthers W w2) := HKO1.out.trans (keeps_below hb)
        have T2 : Hid (Below w.heap.size w w2) := T1'.out.trans (hb.mono (by omega))
        clear hm3
        refine hK.out _ _ (Blk.on hHeld hb) (fun hHeld2 => ?_)
        clear hHeld hK K
        have hHeld := hHeld2
        clear hHeld2
        try simp only [Act.put, List.getElem_toArray, List.getElem_cons_zero, List.getElem_cons_succ, List.setIfInBounds_toArray, List.set_cons_zero, List.set_cons_succ]
        clear hb
        refine wpAnyH_ready (rs := [4]) (by kernel_rfl) (by simp) ?_
        refine AllReadyH.cons rfl (fun K hK => ?_) AllReadyH.nil
        go_simp
        refine hK.out _ _ (Blk.alloc hHeld _) (fun hHeld2 => ?_)
        clear hHeld hK K
        have hHeld := hHeld2
        clear hHeld2
        try simp only [Act.put, List.getElem_toArray, List.getElem_cons_zero, List.getElem_cons_succ, List.setIfInBounds_toArray, List.set_cons_zero, List.set_cons_succ]
        refine wpAnyH_ready (rs := [5]) (by kernel_rfl) (by simp) ?_
        refine AllReadyH.cons rfl (fun K hK => ?_) AllReadyH.nil
        refine step_append_lies _ (by rfl) _ _ _ (by rfl) (w.heap.size + 7) 30 iM _ 13 144 Tryd.underlying22 hiM hzM hzM1 hzM2 rfl (by omega) v7 D.again.length c7.flatten (by rfl) (HV2.out.o7.row.alloc _)
          ⟨w2.heap.size, 0, none⟩ 1 1 [.int .i64 y.m.id, .string y.m.topic, .int .i64 k3, .int .i64 i3, .int .u64 b3, .string s3, .slice am3 nm3 cm3, .int .i64 y.m.tat, .int .i64 y.m.til, .string y.m.reply, .int .i64 y.m.corr, .int .i64 y.m.prio, .int .i64 y.m.hops] (by rfl) (by rfl) (World.news_of_block (cs := #[.int .i64 y.m.id, .string y.m.topic, .int .i64 k3, .int .i64 i3, .int .u64 b3, .string s3, .slice am3 nm3 cm3, .int .i64 y.m.tat, .int .i64 y.m.til, .string y.m.reply, .int .i64 y.m.corr, .int .i64 y.m.prio, .int .i64 y.m.hops]) (t := 30) (fr := (0, 0)) (heap_alloc_new w2 _)) HM3.out.one (by omega) (by unfold maxLen; omega) (by omega) (by simp; omega) (w2.heap.size + 1) (by simp) ?_
        intro g5 cap5 w5 hown5 hgrow5 hat5 hlt5
        have hne : v7.ownBlock ≠ some Bs := fun e => by have := HRB.out Bs (.inr (.inl e)); omega
        have cc : w5.cell? ⟨n7, 0, none⟩ = some v7 := (far_cell hgrow5 (by omega) (fun e => by have := (HV2.out.o7.far_lt n7 e).1; omega)).trans (HV2.out.b7.cell 0)
        have ff : w5.frozen? ⟨n7, 0, none⟩ = false := (far_free hgrow5 (by omega) (fun e => by have := (HV2.out.o7.far_lt n7 e).1; omega)).trans (HV2.out.b7.free 0)
        have hV' := DueV.grow7 HV2.out ⟨by omega, by omega, by omega, by omega⟩ ⟨by omega, by omega, by omega, by omega, by omega, by omega⟩ (by omega) HM3.out rfl hown5 rfl hgrow5 hat5
        have hKB' := DueV.kb7 HV2.out hV' Bs hgrow5 hat5
        have hBX' : Blk w5 Bs 62 #[.int .i64 y.m.id, .string y.m.topic, .int .i64 ky, .int .i64 iy, .int .u64 bY, .string sy, .slice ay ny cy, .int .i64 y.m.tat, .int .i64 y.m.til, .string y.m.reply, .int .i64 y.m.corr, .int .i64 y.m.prio, .int .i64 y.m.hops, .int .i64 y.tries, .int .i64 y.due] := Blk.grown hHeld hgrow5 (fun e => hne e.symm)
        have hgB : g5 ≠ Bs := fun e => by
          rcases hat5 with h | h
          · exact hne (by rw [← e]; exact h)
          · omega
        have HZ := Lib.hid (And.intro hV' hKB')
        have HG5 := Lib.hid hgrow5
        have hl5 : w2.heap.size + 1 ≤ w5.heap.size := by have := hgrow5.size; simpa using this
        clear hV' hKB' hown5 hgrow5 hat5
        refine hK.out _ _ hBX' (fun hHeld2 => ?_)
        clear hHeld hK K
        have hHeld := hHeld2
        clear hHeld2
        try simp only [Act.put, List.getElem_toArray, List.getElem_cons_zero, List.getElem_cons_succ, List.setIfInBounds_toArray, List.set_cons_zero, List.set_cons_succ]
        refine wpAnyH_ready (rs := [6]) (by kernel_rfl) (by simp) ?_
        refine AllReadyH.cons rfl (fun K hK => ?_) AllReadyH.nil
        go_simp
        refine hK.out _ _ (Blk.far hHeld (p := ⟨n7, 0, none⟩) (by show Bs ≠ n7; omega) _) (fun hHeld2 => ?_)
        clear hHeld hK K
        have hHeld := hHeld2
        clear hHeld2
        try simp only [Act.put, List.getElem_toArray, List.getElem_cons_zero, List.getElem_cons_succ, List.setIfInBounds_toArray, List.set_cons_zero, List.set_cons_succ]
        refine wpAnyH_done (by kernel_rfl) ?_ _
        have hm6 : IsM (w5.setCell ⟨n7, 0, none⟩ (.slice (some ⟨g5, 0, none⟩) (D.again.length + 1) cap5)) (fun b => S' b ∨ Btw W1.heap.size w2.heap.size b) y.m [.int .i64 y.m.id, .string y.m.topic, .int .i64 ky, .int .i64 iy, .int .u64 bY, .string sy, .slice ay ny cy, .int .i64 y.m.tat, .int .i64 y.m.til, .string y.m.reply, .int .i64 y.m.corr, .int .i64 y.m.prio, .int .i64 y.m.hops] := HM2.out.keep (fun _ h => h) fun b hb j => World.cell?_of_block (a := ⟨b, j, none⟩) ((heap_set (p := ⟨n7, 0, none⟩) (by show b ≠ n7; intro e; have := (HV2.out.o7.far b hb).1; omega)).trans (far_block HG5.out (HV2.out.o7.far b hb).2.1 (HV2.out.o7.far b hb).2.2))
        exact REST3 _ g5 cap5 _ _ _ _ _ _ _ _ _ _ _ _ _ _ _ _ _ _ _ _ _ _ _ _ _ _ _ _ _ _ _ _ _ _ _ _ _ _ _ _ _ _ _ _ _ _ _ _ _ _ _ _ _ _ _ _ _ _ _ _ _ _ _ HZ.out.1 (fun b hb e => by rcases hb with hb | hb; have := HSB.out b hb; omega; have := hb.1; omega) hgB hHeld hm6 (HKB2.out.trans HZ.out.2) (HKO2.out.trans (HV2.out.ko7 HG5.out _)) (HV2.out.below7 T2.out (by omega) (by omega) (by omega) HG5.out _) (by simp; omega)
      · go_simp
        go_at_call 57
        refine (ownmsg_any y.m W1 S' [.int .i64 y.m.id, .string y.m.topic, .int .i64 ky, .int .i64 iy, .int .u64 bY, .string sy, .slice ay ny cy, .int .i64 y.m.tat, .int .i64 y.m.til, .string y.m.reply, .int .i64 y.m.corr, .int .i64 y.m.prio, .int .i64 y.m.hops] HM1.out (fun b hb => by have := HSB.out b hb; omega) hzy).mono ?_
        rintro e w2 ⟨k3, i3, b3, s3, am3, nm3, cm3, rfl, hm3, hb⟩
        have hl3 := hb.size
        have HV2 : Hid (DueV w2 (w.heap.size + 7) n6 n7 n8 n9 D v6 v7 v8 v9 (fun b => S' b ∨ Btw W1.heap.size w2.heap.size b) c6 c7 c8 c9) := (HV1.out.below hb).wider (fun _ h => .inl h) (fun b hb2 => by
          rcases hb2 with hb2 | hb2
          · exact ⟨(HV1.out.o6.far b hb2).1, by have := (HV1.out.o6.far b hb2).2.1; omega, (HV1.out.o6.far b hb2).2.2, (HV1.out.o7.far b hb2).2.2, (HV1.out.o8.far b hb2).2.2, (HV1.out.o9.far b hb2).2.2⟩
          · obtain ⟨q1, q2⟩ := hb2
            exact ⟨by omega, q2, fun e => by have := HRB.out b (.inl e); omega, fun e => by have := HRB.out b (.inr (.inl e)); omega, fun e => by have := HRB.out b (.inr (.inr (.inl e))); omega, fun e => by have := HRB.out b (.inr (.inr (.inr e))); omega⟩)
        have HM3 : Hid (IsM w2 (fun b => S' b ∨ Btw W1.heap.size w2.heap.size b) y.m [.int .i64 y.m.id, .string y.m.topic, .int .i64 k3, .int .i64 i3, .int .u64 b3, .string s3, .slice am3 nm3 cm3, .int .i64 y.m.tat, .int .i64 y.m.til, .string y.m.reply, .int .i64 y.m.corr, .int .i64 y.m.prio, .int .i64 y.m.hops]) := hm3.ism.mono (fun _ h => .inr h)
        have HM2 : Hid (IsM w2 (fun b => S' b ∨ Btw W1.heap.size w2.heap.size b) y.m [.int .i64 y.m.id, .string y.m.topic, .int .i64 ky, .int .i64 iy, .int .u64 bY, .string sy, .slice ay ny cy, .int .i64 y.m.tat, .int .i64 y.m.til, .string y.m.reply, .int .i64 y.m.corr, .int .i64 y.m.prio, .int .i64 y.m.hops]) := (HM1.out.under hb (fun b hb => by have := HSB.out b hb; omega)).mono (fun _ h => .inl h)
        have HKB2 : Hid (KB (ZV n6 n7 n8 n9) Bs W w2) := HKB1.out.trans (KB.of (KZ.below hb (fun z hz => by rcases hz with h | h | h | h <;> omega)))
        have HKO2 : Hid (KeepsOthers W w2) := HKO1.out.trans (keeps_below hb)
        have T2 : Hid (Below w.heap.size w w2) := T1'.out.trans (hb.mono (by omega))
        clear hm3
        refine hK.out _ _ (Blk.on hHeld hb) (fun hHeld2 => ?_)
        clear hHeld hK K
        have hHeld := hHeld2
        clear hHeld2
        try simp only [Act.put, List.getElem_toArray, List.getElem_cons_zero, List.getElem_cons_succ, List.setIfInBounds_toArray, List.set_cons_zero, List.set_cons_succ]
        clear hb
        refine wpAnyH_ready (rs := [0, 4]) (by kernel_rfl) (by simp) ?_
        refine AllReadyH.cons rfl (fun K hK => ?_) (AllReadyH.cons rfl (fun K hK => ?_) AllReadyH.nil)
        · have g7 : w2.cell? ⟨n7, 0, none⟩ = some v7 := HV2.out.b7.cell 0
          go_simp
          refine hK.out _ _ hHeld (fun hHeld2 => ?_)
          clear hHeld hK K
          have hHeld := hHeld2
          clear hHeld2
          try simp only [Act.put, List.getElem_toArray, List.getElem_cons_zero, List.getElem_cons_succ, List.setIfInBounds_toArray, List.set_cons_zero, List.set_cons_succ]
          refine wpAnyH_ready (rs := [4]) (by kernel_rfl) (by simp) ?_
          refine AllReadyH.cons rfl (fun K hK => ?_) AllReadyH.nil
          go_simp
          refine hK.out _ _ (Blk.alloc hHeld _) (fun hHeld2 => ?_)
          clear hHeld hK K
          have hHeld := hHeld2
          clear hHeld2
          try simp only [Act.put, List.getElem_toArray, List.getElem_cons_zero, List.getElem_cons_succ, List.setIfInBounds_toArray, List.set_cons_zero, List.set_cons_succ]
          refine wpAnyH_ready (rs := [5]) (by kernel_rfl) (by simp) ?_
          refine AllReadyH.cons rfl (fun K hK => ?_) AllReadyH.nil
          refine step_append_lies _ (by rfl) _ _ _ (by rfl) (w.heap.size + 7) 30 iM _ 13 144 Tryd.underlying22 hiM hzM hzM1 hzM2 rfl (by omega) v7 D.again.length c7.flatten (by rfl) (HV2.out.o7.row.alloc _)
            ⟨w2.heap.size, 0, none⟩ 1 1 [.int .i64 y.m.id, .string y.m.topic, .int .i64 k3, .int .i64 i3, .int .u64 b3, .string s3, .slice am3 nm3 cm3, .int .i64 y.m.tat, .int .i64 y.m.til, .string y.m.reply, .int .i64 y.m.corr, .int .i64 y.m.prio, .int .i64 y.m.hops] (by rfl) (by rfl) (World.news_of_block (cs := #[.int .i64 y.m.id, .string y.m.topic, .int .i64 k3, .int .i64 i3, .int .u64 b3, .string s3, .slice am3 nm3 cm3, .int .i64 y.m.tat, .int .i64 y.m.til, .string y.m.reply, .int .i64 y.m.corr, .int .i64 y.m.prio, .int .i64 y.m.hops]) (t := 30) (fr := (0, 0)) (heap_alloc_new w2 _)) HM3.out.one (by omega) (by unfold maxLen; omega) (by omega) (by simp; omega) (w2.heap.size + 1) (by simp) ?_
          intro g5 cap5 w5 hown5 hgrow5 hat5 hlt5
          have hne : v7.ownBlock ≠ some Bs := fun e => by have := HRB.out Bs (.inr (.inl e)); omega
          have cc : w5.cell? ⟨n7, 0, none⟩ = some v7 := (far_cell hgrow5 (by omega) (fun e => by have := (HV2.out.o7.far_lt n7 e).1; omega)).trans (HV2.out.b7.cell 0)
          have ff : w5.frozen? ⟨n7, 0, none⟩ = false := (far_free hgrow5 (by omega) (fun e => by have := (HV2.out.o7.far_lt n7 e).1; omega)).trans (HV2.out.b7.free 0)
          have hV' := DueV.grow7 HV2.out ⟨by omega, by omega, by omega, by omega⟩ ⟨by omega, by omega, by omega, by omega, by omega, by omega⟩ (by omega) HM3.out rfl hown5 rfl hgrow5 hat5
          have hKB' := DueV.kb7 HV2.out hV' Bs hgrow5 hat5
          have hBX' : Blk w5 Bs 62 #[.int .i64 y.m.id, .string y.m.topic, .int .i64 ky, .int .i64 iy, .int .u64 bY, .string sy, .slice ay ny cy, .int .i64 y.m.tat, .int .i64 y.m.til, .string y.m.reply, .int .i64 y.m.corr, .int .i64 y.m.prio, .int .i64 y.m.hops, .int .i64 y.tries, .int .i64 y.due] := Blk.grown hHeld hgrow5 (fun e => hne e.symm)
          have hgB : g5 ≠ Bs := fun e => by
            rcases hat5 with h | h
            · exact hne (by rw [← e]; exact h)
            · omega
          have HZ := Lib.hid (And.intro hV' hKB')
          have HG5 := Lib.hid hgrow5
          have hl5 : w2.heap.size + 1 ≤ w5.heap.size := by have := hgrow5.size; simpa using this
          clear hV' hKB' hown5 hgrow5 hat5
          refine hK.out _ _ hBX' (fun hHeld2 => ?_)
          clear hHeld hK K
          have hHeld := hHeld2
          clear hHeld2
          try simp only [Act.put, List.getElem_toArray, List.getElem_cons_zero, List.getElem_cons_succ, List.setIfInBounds_toArray, List.set_cons_zero, List.set_cons_succ]
          refine wpAnyH_ready (rs := [6]) (by kernel_rfl) (by simp) ?_
          refine AllReadyH.cons rfl (fun K hK => ?_) AllReadyH.nil
          go_simp
          refine hK.out _ _ (Blk.far hHeld (p := ⟨n7, 0, none⟩) (by show Bs ≠ n7; omega) _) (fun hHeld2 => ?_)
          clear hHeld hK K
          have hHeld := hHeld2
          clear hHeld2
          try simp only [Act.put, List.getElem_toArray, List.getElem_cons_zero, List.getElem_cons_succ, List.setIfInBounds_toArray, List.set_cons_zero, List.set_cons_succ]
          refine wpAnyH_done (by kernel_rfl) ?_ _
          have hm6 : IsM (w5.setCell ⟨n7, 0, none⟩ (.slice (some ⟨g5, 0, none⟩) (D.again.length + 1) cap5)) (fun b => S' b ∨ Btw W1.heap.size w2.heap.size b) y.m [.int .i64 y.m.id, .string y.m.topic, .int .i64 ky, .int .i64 iy, .int .u64 bY, .string sy, .slice ay ny cy, .int .i64 y.m.tat, .int .i64 y.m.til, .string y.m.reply, .int .i64 y.m.corr, .int .i64 y.m.prio, .int .i64 y.m.hops] := HM2.out.keep (fun _ h => h) fun b hb j => World.cell?_of_block (a := ⟨b, j, none⟩) ((heap_set (p := ⟨n7, 0, none⟩) (by show b ≠ n7; intro e; have := (HV2.out.o7.far b hb).1; omega)).trans (far_block HG5.out (HV2.out.o7.far b hb).2.1 (HV2.out.o7.far b hb).2.2))
          exact REST3 _ g5 cap5 _ _ _ _ _ _ _ _ _ _ _ _ _ _ _ _ _ _ _ _ _ _ _ _ _ _ _ _ _ _ _ _ _ _ _ _ _ _ _ _ _ _ _ _ _ _ _ _ _ _ _ _ _ _ _ _ _ _ _ _ _ _ _ HZ.out.1 (fun b hb e => by rcases hb with hb | hb; have := HSB.out b hb; omega; have := hb.1; omega) hgB hHeld hm6 (HKB2.out.trans HZ.out.2) (HKO2.out.trans (HV2.out.ko7 HG5.out _)) (HV2.out.below7 T2.out (by omega) (by omega) (by omega) HG5.out _) (by simp; omega)
        · go_simp
          refine hK.out _ _ (Blk.alloc hHeld _) (fun hHeld2 => ?_)
          clear hHeld hK K
          have hHeld := hHeld2
          clear hHeld2
          try simp only [Act.put, List.getElem_toArray, List.getElem_cons_zero, List.getElem_cons_succ, List.setIfInBounds_toArray, List.set_cons_zero, List.set_cons_succ]
          refine wpAnyH_ready (rs := [0]) (by kernel_rfl) (by simp) ?_
          refine AllReadyH.cons rfl (fun K hK => ?_) AllReadyH.nil
          have g7 : (w2.alloc (.cells #[.int .i64 y.m.id, .string y.m.topic, .int .i64 k3, .int .i64 i3, .int .u64 b3, .string s3, .slice am3 nm3 cm3, .int .i64 y.m.tat, .int .i64 y.m.til, .string y.m.reply, .int .i64 y.m.corr, .int .i64 y.m.prio, .int .i64 y.m.hops] 30)).cell? ⟨n7, 0, none⟩ = some v7 := (alloc_cell (Blk.lt HV2.out.b7)).trans (HV2.out.b7.cell 0)
          go_simp
          refine hK.out _ _ hHeld (fun hHeld2 => ?_)
          clear hHeld hK K
          have hHeld := hHeld2
          clear hHeld2
          try simp only [Act.put, List.getElem_toArray, List.getElem_cons_zero, List.getElem_cons_succ, List.setIfInBounds_toArray, List.set_cons_zero, List.set_cons_succ]
          refine wpAnyH_ready (rs := [5]) (by kernel_rfl) (by simp) ?_
          refine AllReadyH.cons rfl (fun K hK => ?_) AllReadyH.nil
          refine step_append_lies _ (by rfl) _ _ _ (by rfl) (w.heap.size + 7) 30 iM _ 13 144 Tryd.underlying22 hiM hzM hzM1 hzM2 rfl (by omega) v7 D.again.length c7.flatten (by rfl) (HV2.out.o7.row.alloc _)
            ⟨w2.heap.size, 0, none⟩ 1 1 [.int .i64 y.m.id, .string y.m.topic, .int .i64 k3, .int .i64 i3, .int .u64 b3, .string s3, .slice am3 nm3 cm3, .int .i64 y.m.tat, .int .i64 y.m.til, .string y.m.reply, .int .i64 y.m.corr, .int .i64 y.m.prio, .int .i64 y.m.hops] (by rfl) (by rfl) (World.news_of_block (cs := #[.int .i64 y.m.id, .string y.m.topic, .int .i64 k3, .int .i64 i3, .int .u64 b3, .string s3, .slice am3 nm3 cm3, .int .i64 y.m.tat, .int .i64 y.m.til, .string y.m.reply, .int .i64 y.m.corr, .int .i64 y.m.prio, .int .i64 y.m.hops]) (t := 30) (fr := (0, 0)) (heap_alloc_new w2 _)) HM3.out.one (by omega) (by unfold maxLen; omega) (by omega) (by simp; omega) (w2.heap.size + 1) (by simp) ?_
          intro g5 cap5 w5 hown5 hgrow5 hat5 hlt5
          have hne : v7.ownBlock ≠ some Bs := fun e => by have := HRB.out Bs (.inr (.inl e)); omega
          have cc : w5.cell? ⟨n7, 0, none⟩ = some v7 := (far_cell hgrow5 (by omega) (fun e => by have := (HV2.out.o7.far_lt n7 e).1; omega)).trans (HV2.out.b7.cell 0)
          have ff : w5.frozen? ⟨n7, 0, none⟩ = false := (far_free hgrow5 (by omega) (fun e => by have := (HV2.out.o7.far_lt n7 e).1; omega)).trans (HV2.out.b7.free 0)
          have hV' := DueV.grow7 HV2.out ⟨by omega, by omega, by omega, by omega⟩ ⟨by omega, by omega, by omega, by omega, by omega, by omega⟩ (by omega) HM3.out rfl hown5 rfl hgrow5 hat5
          have hKB' := DueV.kb7 HV2.out hV' Bs hgrow5 hat5
          have hBX' : Blk w5 Bs 62 #[.int .i64 y.m.id, .string y.m.topic, .int .i64 ky, .int .i64 iy, .int .u64 bY, .string sy, .slice ay ny cy, .int .i64 y.m.tat, .int .i64 y.m.til, .string y.m.reply, .int .i64 y.m.corr, .int .i64 y.m.prio, .int .i64 y.m.hops, .int .i64 y.tries, .int .i64 y.due] := Blk.grown hHeld hgrow5 (fun e => hne e.symm)
          have hgB : g5 ≠ Bs := fun e => by
            rcases hat5 with h | h
            · exact hne (by rw [← e]; exact h)
            · omega
          have HZ := Lib.hid (And.intro hV' hKB')
          have HG5 := Lib.hid hgrow5
          have hl5 : w2.heap.size + 1 ≤ w5.heap.size := by have := hgrow5.size; simpa using this
          clear hV' hKB' hown5 hgrow5 hat5
          refine hK.out _ _ hBX' (fun hHeld2 => ?_)
          clear hHeld hK K
          have hHeld := hHeld2
          clear hHeld2
          try simp only [Act.put, List.getElem_toArray, List.getElem_cons_zero, List.getElem_cons_succ, List.setIfInBounds_toArray, List.set_cons_zero, List.set_cons_succ]
          refine wpAnyH_ready (rs := [6]) (by kernel_rfl) (by simp) ?_
          refine AllReadyH.cons rfl (fun K hK => ?_) AllReadyH.nil
          go_simp
          refine hK.out _ _ (Blk.far hHeld (p := ⟨n7, 0, none⟩) (by show Bs ≠ n7; omega) _) (fun hHeld2 => ?_)
          clear hHeld hK K
          have hHeld := hHeld2
          clear hHeld2
          try simp only [Act.put, List.getElem_toArray, List.getElem_cons_zero, List.getElem_cons_succ, List.setIfInBounds_toArray, List.set_cons_zero, List.set_cons_succ]
          refine wpAnyH_done (by kernel_rfl) ?_ _
          have hm6 : IsM (w5.setCell ⟨n7, 0, none⟩ (.slice (some ⟨g5, 0, none⟩) (D.again.length + 1) cap5)) (fun b => S' b ∨ Btw W1.heap.size w2.heap.size b) y.m [.int .i64 y.m.id, .string y.m.topic, .int .i64 ky, .int .i64 iy, .int .u64 bY, .string sy, .slice ay ny cy, .int .i64 y.m.tat, .int .i64 y.m.til, .string y.m.reply, .int .i64 y.m.corr, .int .i64 y.m.prio, .int .i64 y.m.hops] := HM2.out.keep (fun _ h => h) fun b hb j => World.cell?_of_block (a := ⟨b, j, none⟩) ((heap_set (p := ⟨n7, 0, none⟩) (by show b ≠ n7; intro e; have := (HV2.out.o7.far b hb).1; omega)).trans (far_block HG5.out (HV2.out.o7.far b hb).2.1 (HV2.out.o7.far b hb).2.2))
          exact REST3 _ g5 cap5 _ _ _ _ _ _ _ _ _ _ _ _ _ _ _ _ _ _ _ _ _ _ _ _ _ _ _ _ _ _ _ _ _ _ _ _ _ _ _ _ _ _ _ _ _ _ _ _ _ _ _ _ _ _ _ _ _ _ _ _ _ _ _ HZ.out.1 (fun b hb e => by rcases hb with hb | hb; have := HSB.out b hb; omega; have := hb.1; omega) hgB hHeld hm6 (HKB2.out.trans HZ.out.2) (HKO2.out.trans (HV2.out.ko7 HG5.out _)) (HV2.out.below7 T2.out (by omega) (by omega) (by omega) HG5.out _) (by simp; omega)
    have HR6 := Lib.hid REST6
    clear REST6
    by_cases h0 : y.m.til = 0
    · have HNA : Hid (¬ (y.m.til ≠ 0 ∧ y.m.til < now)) := fun h => h.1 h0
      have e0 : (y.m.til != 0) = false := by rw [h0]; rfl
      clear h0
      gi_wp2
      exact HR6.out HNA.out _ _ _ _ _ _ _ _ _ _ _
    have e0 : (y.m.til != 0) = true := bne_iff_ne.2 h0
    by_cases h1 : y.m.til < now
    · have H01 : Hid (y.m.til ≠ 0 ∧ y.m.til < now) := ⟨h0, h1⟩
      clear HR6 h0
      gi_wp2
      refine HK6.out _ _ ?_
      clear HK6
      have HCL : Hid (clsS y.m.til y.due y.tries p now = 0) := if_pos H01.out
      have gc9 : W.cell? ⟨n9, 0, none⟩ = some v9 := HV.out.b9.cell 0
      gi_wp2_with (first
        | (refine wpListIn_load_blk rfl 30 _ rfl Bs 0 rfl [.int .i64 y.m.id, .string y.m.topic, .int .i64 ky, .int .i64 iy, .int .u64 bY, .string sy, .slice ay ny cy, .int .i64 y.m.tat, .int .i64 y.m.til, .string y.m.reply, .int .i64 y.m.corr, .int .i64 y.m.prio, .int .i64 y.m.hops] _ (Blk.range (pre := []) (post := [.int .i64 y.tries, .int .i64 y.due]) HBX.out rfl) Tryd.underlying30 rfl sizeM ?_)
        | (go_loud (refine wpListIn_append_lies rfl _ _ _ rfl (w.heap.size + 7) 30 iM _ 13 144 Tryd.underlying22 hiM hzM hzM1 hzM2 rfl (by omega) v9 D.late.length c9.flatten rfl (HV.out.o9.row.alloc _) ⟨W.heap.size, 0, none⟩ 1 1 [.int .i64 y.m.id, .string y.m.topic, .int .i64 ky, .int .i64 iy, .int .u64 bY, .string sy, .slice ay ny cy, .int .i64 y.m.tat, .int .i64 y.m.til, .string y.m.reply, .int .i64 y.m.corr, .int .i64 y.m.prio, .int .i64 y.m.hops] rfl rfl (World.news_of_block (cs := #[.int .i64 y.m.id, .string y.m.topic, .int .i64 ky, .int .i64 iy, .int .u64 bY, .string sy, .slice ay ny cy, .int .i64 y.m.tat, .int .i64 y.m.til, .string y.m.reply, .int .i64 y.m.corr, .int .i64 y.m.prio, .int .i64 y.m.hops]) (t := 30) (fr := (0, 0)) (heap_alloc_new W _)) HM0.out.one (by omega) (by unfold maxLen; omega) (by omega) (by simp; omega) (W.heap.size + 1) (by simp) ?_)
           intro g5 cap5 w5 hown5 hgrow5 hat5 hlt5
           have cc : w5.cell? ⟨n9, 0, none⟩ = some v9 := (far_cell hgrow5 (by omega) (fun e => by have := (HV.out.o9.far_lt n9 e).1; omega)).trans gc9
           have ff : w5.frozen? ⟨n9, 0, none⟩ = false := (far_free hgrow5 (by omega) (fun e => by have := (HV.out.o9.far_lt n9 e).1; omega)).trans (HV.out.b9.free 0)))
      have hV' := DueV.grow9 HV.out ⟨by omega, by omega, by omega, by omega⟩ ⟨by omega, by omega, by omega, by omega, by omega, by omega⟩ (by omega) HM0.out rfl hown5 rfl hgrow5 hat5
      have hKB : KB (ZV n6 n7 n8 n9) Bs W _ := DueV.kb9 HV.out hV' Bs hgrow5 hat5
      have hDS : dueS (l.take (pre.length + 1)) p now = { D with late := D.late ++ [y.m] } := by rw [HDS.out, addD, HCL.out]; rfl
      refine ⟨(HV.out.ko9 hgrow5 _).from _, KB.kz ((KB.of HK0.out).trans hKB) (by omega), by rw [List.length_append, List.length_singleton]; omega, ⟨_, _, _, _, _, _, _, _, _, by rw [List.length_append, List.length_singleton, hDS]; exact hV'⟩,
        hKB.block _ _ (fun hz => by rcases hz with h | h | h | h <;> omega) (by omega) (HNR.out _ (by omega)) HB4.out rfl, hKB.block _ _ (fun hz => by rcases hz with h | h | h | h <;> omega) (by omega) (HNR.out _ (by omega)) HB5.out rfl,
        HV.out.below9 T.out (by omega) (by omega) (by omega) hgrow5 _, by have := hKB.size; omega⟩
    have HNA : Hid (¬ (y.m.til ≠ 0 ∧ y.m.til < now)) := fun h => h1 h.2
    clear h0
    gi_wp2
    exact HR6.out HNA.out _ _ _ _ _ _ _ _ _ _ _
  case done =>
    rintro D xs W hD hxn hG ⟨hk, ⟨v6, v7, v8, v9, S1, c6, c7, c8, c9, hv⟩, hB4, hB5, hbel, hsz⟩ hKD
    rw [hxn, List.take_length] at hv
    obtain ⟨m5, m6, m7, m8, m9, m10⟩ := HNL.out
    have hDn : w.heap.size + 7 ≤ D := by have := HS1.out; omega
    obtain ⟨X, hX⟩ : ∃ X, X = dueS l p now := ⟨_, rfl⟩
    rw [← hX] at hv
    have HXD := Lib.hid hX
    obtain ⟨a6, k6, rfl⟩ := hv.o6.slice
    obtain ⟨a7, k7, rfl⟩ := hv.o7.slice
    obtain ⟨a8, k8, rfl⟩ := hv.o8.slice
    obtain ⟨a9, k9, rfl⟩ := hv.o9.slice
    have HV := Lib.hid hv
    have T := Lib.hid hbel
    have HKD := Lib.hid hKD
    clear hv hB4 hB5 hbel hKD hG hX hxn
    gi_upto_region 12 with fail
    refine region_wide ?_
    refine wp_region_held_drew (S := fun w' => Blk w' n6 50 #[.slice a6 X.rest.length k6] ∧ Blk w' n7 22 #[.slice a7 X.again.length k7] ∧ Blk w' n8 22 #[.slice a8 X.dead.length k8] ∧ Blk w' n9 22 #[.slice a9 X.late.length k9]) (by kernel_rfl) ?_ (fun hHeld => ?_)
    · exact ⟨HV.out.b6, HV.out.b7, HV.out.b8, HV.out.b9⟩
    obtain ⟨W1, hW1⟩ : ∃ W1, W1 = W.drew := ⟨_, rfl⟩
    have hh1 : ∀ b : Nat, W1.heap[b]? = W.heap[b]? := fun b => by rw [hW1]; rfl
    have hz1 : W1.heap.size = W.heap.size := by rw [hW1]; rfl
    have hT1 : Below w.heap.size w W1 := by rw [hW1]; exact T.out.drew
    rw [← hW1] at hHeld ⊢
    have HH1 := Lib.hid hh1
    have HZ1' := Lib.hid hz1
    replace T := Lib.hid hT1
    clear hh1 hz1 hT1 hW1
    refine wpAnyH_take (i := 0) (v := .slice a6 X.rest.length k6) rfl (by kernel_rfl) (by kernel_rfl) (by kernel_rfl) (fun _ _ _ h => h) (Or.inl ⟨by rfl, ?_⟩) hHeld ?_
    · intro w hSw
      have h4 := Blk.cell (hSw.1) 0
      first | (go_simp; done) | (go_simp; with_reducible rfl)
    try simp only [Act.put, List.getElem_toArray, List.getElem_cons_zero, List.setIfInBounds_toArray, List.set_cons_zero, List.set_cons_succ]
    refine wpAnyH_take (i := 1) (v := .slice a7 X.again.length k7) rfl (by kernel_rfl) (by kernel_rfl) (by kernel_rfl) (fun _ _ _ h => h) (Or.inl ⟨by rfl, ?_⟩) hHeld ?_
    · intro w hSw
      have h4 := Blk.cell (hSw.2.1) 0
      first | (go_simp; done) | (go_simp; with_reducible rfl)
    try simp only [Act.put, List.getElem_toArray, List.getElem_cons_zero, List.getElem_cons_succ, List.setIfInBounds_toArray, List.set_cons_zero, List.set_cons_succ]
    refine wpAnyH_take (i := 2) (v := .slice a8 X.dead.length k8) rfl (by kernel_rfl) (by kernel_rfl) (by kernel_rfl) (fun _ _ _ h => h) (Or.inl ⟨by rfl, ?_⟩) hHeld ?_
    · intro w hSw
      have h4 := Blk.cell (hSw.2.2.1) 0
      first | (go_simp; done) | (go_simp; with_reducible rfl)
    try simp only [Act.put, List.getElem_toArray, List.getElem_cons_zero, List.getElem_cons_succ, List.setIfInBounds_toArray, List.set_cons_zero, List.set_cons_succ]
    refine wpAnyH_take (i := 3) (v := .slice a9 X.late.length k9) rfl (by kernel_rfl) (by kernel_rfl) (by kernel_rfl) (fun _ _ _ h => h) (Or.inl ⟨by rfl, ?_⟩) hHeld ?_
    · intro w hSw
      have h4 := Blk.cell (hSw.2.2.2) 0
      first | (go_simp; done) | (go_simp; with_reducible rfl)
    try simp only [Act.put, List.getElem_toArray, List.getElem_cons_zero, List.getElem_cons_succ, List.setIfInBounds_toArray, List.set_cons_zero, List.set_cons_succ]
    refine wpAnyH_ready (rs := [4]) (by kernel_rfl) (by simp) ?_
    refine AllReadyH.cons rfl (fun K hK => ?_) AllReadyH.nil
    have cc := Blk.cell (hHeld.1) 0
    have ff := Blk.free (hHeld.1) 0
    go_simp
    refine hK.out _ _ ⟨Blk.set (i := 0) (hHeld.1) _, Blk.far (p := ⟨n6, 0, none⟩) (hHeld.2.1) (by show n7 ≠ n6; omega) _, Blk.far (p := ⟨n6, 0, none⟩) (hHeld.2.2.1) (by show n8 ≠ n6; omega) _, Blk.far (p := ⟨n6, 0, none⟩) (hHeld.2.2.2) (by show n9 ≠ n6; omega) _⟩ (fun hHeld2 => ?_)
    clear hHeld hK K
    have hHeld := hHeld2
    clear hHeld2
    try simp only [Act.put, List.getElem_toArray, List.getElem_cons_zero, List.getElem_cons_succ, List.setIfInBounds_toArray, List.set_cons_zero, List.set_cons_succ]
    clear cc ff
    obtain ⟨X6, hx⟩ : ∃ X6, X6 = (W1.setCell ⟨n6, 0, none⟩ (.slice a6 X.rest.length k6)) := ⟨_, rfl⟩
    have hb6 : ∀ b : Nat, b ≠ n6 → X6.heap[b]? = W1.heap[b]? := fun b hb => by rw [hx]; exact heap_set (p := ⟨n6, 0, none⟩) hb
    have hs6 : X6.heap.size = W1.heap.size := by rw [hx]; simp
    have ht6 : Below w.heap.size w X6 := by rw [hx]; exact T.out.setCell (by show w.heap.size ≤ n6; omega) _
    rw [← hx] at hHeld ⊢
    replace T := Lib.hid ht6
    have HB6 := Lib.hid hb6
    have HSZ6 := Lib.hid hs6
    clear hx hb6 hs6 ht6
    refine wpAnyH_ready (rs := [5]) (by kernel_rfl) (by simp) ?_
    refine AllReadyH.cons rfl (fun K hK => ?_) AllReadyH.nil
    have cc := Blk.cell (hHeld.2.1) 0
    have ff := Blk.free (hHeld.2.1) 0
    go_simp
    refine hK.out _ _ ⟨Blk.far (p := ⟨n7, 0, none⟩) (hHeld.1) (by show n6 ≠ n7; omega) _, Blk.set (i := 0) (hHeld.2.1) _, Blk.far (p := ⟨n7, 0, none⟩) (hHeld.2.2.1) (by show n8 ≠ n7; omega) _, Blk.far (p := ⟨n7, 0, none⟩) (hHeld.2.2.2) (by show n9 ≠ n7; omega) _⟩ (fun hHeld2 => ?_)
    clear hHeld hK K
    have hHeld := hHeld2
    clear hHeld2
    try simp only [Act.put, List.getElem_toArray, List.getElem_cons_zero, List.getElem_cons_succ, List.setIfInBounds_toArray, List.set_cons_zero, List.set_cons_succ]
    clear cc ff
    obtain ⟨X7, hx⟩ : ∃ X7, X7 = (X6.setCell ⟨n7, 0, none⟩ (.slice a7 X.again.length k7)) := ⟨_, rfl⟩
    have hb7 : ∀ b : Nat, b ≠ n7 → X7.heap[b]? = X6.heap[b]? := fun b hb => by rw [hx]; exact heap_set (p := ⟨n7, 0, none⟩) hb
    have hs7 : X7.heap.size = X6.heap.size := by rw [hx]; simp
    have ht7 : Below w.heap.size w X7 := by rw [hx]; exact T.out.setCell (by show w.heap.size ≤ n7; omega) _
    rw [← hx] at hHeld ⊢
    replace T := Lib.hid ht7
    have HB7 := Lib.hid hb7
    have HSZ7 := Lib.hid hs7
    clear hx hb7 hs7 ht7
    refine wpAnyH_ready (rs := [6]) (by kernel_rfl) (by simp) ?_
    refine AllReadyH.cons rfl (fun K hK => ?_) AllReadyH.nil
    have cc := Blk.cell (hHeld.2.2.1) 0
    have ff := Blk.free (hHeld.2.2.1) 0
    go_simp
    refine hK.out _ _ ⟨Blk.far (p := ⟨n8, 0, none⟩) (hHeld.1) (by show n6 ≠ n8; omega) _, Blk.far (p := ⟨n8, 0, none⟩) (hHeld.2.1) (by show n7 ≠ n8; omega) _, Blk.set (i := 0) (hHeld.2.2.1) _, Blk.far (p := ⟨n8, 0, none⟩) (hHeld.2.2.2) (by show n9 ≠ n8; omega) _⟩ (fun hHeld2 => ?_)
    clear hHeld hK K
    have hHeld := hHeld2
    clear hHeld2
    try simp only [Act.put, List.getElem_toArray, List.getElem_cons_zero, List.getElem_cons_succ, List.setIfInBounds_toArray, List.set_cons_zero, List.set_cons_succ]
    clear cc ff
    obtain ⟨X8, hx⟩ : ∃ X8, X8 = (X7.setCell ⟨n8, 0, none⟩ (.slice a8 X.dead.length k8)) := ⟨_, rfl⟩
    have hb8 : ∀ b : Nat, b ≠ n8 → X8.heap[b]? = X7.heap[b]? := fun b hb => by rw [hx]; exact heap_set (p := ⟨n8, 0, none⟩) hb
    have hs8 : X8.heap.size = X7.heap.size := by rw [hx]; simp
    have ht8 : Below w.heap.size w X8 := by rw [hx]; exact T.out.setCell (by show w.heap.size ≤ n8; omega) _
    rw [← hx] at hHeld ⊢
    replace T := Lib.hid ht8
    have HB8 := Lib.hid hb8
    have HSZ8 := Lib.hid hs8
    clear hx hb8 hs8 ht8
    refine wpAnyH_ready (rs := [7]) (by kernel_rfl) (by simp) ?_
    refine AllReadyH.cons rfl (fun K hK => ?_) AllReadyH.nil
    have cc := Blk.cell (hHeld.2.2.2) 0
    have ff := Blk.free (hHeld.2.2.2) 0
    go_simp
    refine hK.out _ _ ⟨Blk.far (p := ⟨n9, 0, none⟩) (hHeld.1) (by show n6 ≠ n9; omega) _, Blk.far (p := ⟨n9, 0, none⟩) (hHeld.2.1) (by show n7 ≠ n9; omega) _, Blk.far (p := ⟨n9, 0, none⟩) (hHeld.2.2.1) (by show n8 ≠ n9; omega) _, Blk.set (i := 0) (hHeld.2.2.2) _⟩ (fun hHeld2 => ?_)
    clear hHeld hK K
    have hHeld := hHeld2
    clear hHeld2
    try simp only [Act.put, List.getElem_toArray, List.getElem_cons_zero, List.getElem_cons_succ, List.setIfInBounds_toArray, List.set_cons_zero, List.set_cons_succ]
    clear cc ff
    obtain ⟨X9, hx⟩ : ∃ X9, X9 = (X8.setCell ⟨n9, 0, none⟩ (.slice a9 X.late.length k9)) := ⟨_, rfl⟩
    have hb9 : ∀ b : Nat, b ≠ n9 → X9.heap[b]? = X8.heap[b]? := fun b hb => by rw [hx]; exact heap_set (p := ⟨n9, 0, none⟩) hb
    have hs9 : X9.heap.size = X8.heap.size := by rw [hx]; simp
    have ht9 : Below w.heap.size w X9 := by rw [hx]; exact T.out.setCell (by show w.heap.size ≤ n9; omega) _
    rw [← hx] at hHeld ⊢
    replace T := Lib.hid ht9
    have HB9 := Lib.hid hb9
    have HSZ9 := Lib.hid hs9
    clear hx hb9 hs9 ht9
    refine wpAnyH_done (by kernel_rfl) ?_ _
    have HKX : Hid (X9.heap[D]? = some (.deferred (some []))) := by show _ = _; rw [HB9.out D (by omega), HB8.out D (by omega), HB7.out D (by omega), HB6.out D (by omega), HH1.out]; exact HKD.out
    have HHX := Lib.hid hHeld
    clear hHeld
    simp only [QN]
    gi_wp2
    obtain ⟨h6, h7, h8, h9⟩ := HHX.out
    obtain ⟨Y, hY⟩ : ∃ Y, Y = X9.putObj D (.deferred none) := ⟨_, rfl⟩
    have hyo : ∀ b : Nat, b ≠ D → Y.heap[b]? = X9.heap[b]? := fun b hb => by rw [hY]; exact World.putObj_heap_other hb
    have hys : Y.heap.size = X9.heap.size := by rw [hY]; simp
    have y6 : Blk Y n6 50 #[.slice a6 X.rest.length k6] := (hyo n6 (by omega)).trans h6
    have y7 : Blk Y n7 22 #[.slice a7 X.again.length k7] := (hyo n7 (by omega)).trans h7
    have y8 : Blk Y n8 22 #[.slice a8 X.dead.length k8] := (hyo n8 (by omega)).trans h8
    have y9 : Blk Y n9 22 #[.slice a9 X.late.length k9] := (hyo n9 (by omega)).trans h9
    have hz : W.heap.size = Y.heap.size := by rw [hys, HSZ9.out, HSZ8.out, HSZ7.out, HSZ6.out, HZ1'.out]
    have hk : ∀ (b : Nat) (o : Obj), W.heap[b]? = some o → o.isCells = true → Y.heap[b]? = some o := fun b o ho hc => by
      have hbD : b ≠ D := fun e => by rw [e, HKD.out] at ho; cases ho; cases hc
      by_cases e9 : b = n9
      · rw [e9] at ho ⊢; exact y9.trans (HV.out.b9.symm.trans ho)
      by_cases e8 : b = n8
      · rw [e8] at ho ⊢; exact y8.trans (HV.out.b8.symm.trans ho)
      by_cases e7 : b = n7
      · rw [e7] at ho ⊢; exact y7.trans (HV.out.b7.symm.trans ho)
      by_cases e6 : b = n6
      · rw [e6] at ho ⊢; exact y6.trans (HV.out.b6.symm.trans ho)
      rw [hyo b hbD, HB9.out b e9, HB8.out b e8, HB7.out b e7, HB6.out b e6, HH1.out b]
      exact ho
    have hv := HV.out.fwd (Nat.le_of_eq hz) hk
    have hput : Below w.heap.size w Y := by
      rw [hY]
      exact T.out.grown (grownBy_putObj' X9 D (.deferred none)) T.out.size (fun q hq => by cases hq; omega)
    have HYP : Hid (DueP w (dueS l p now) (.returned (.tuple #[.slice a6 X.rest.length k6, .slice a7 X.again.length k7, .slice a8 X.dead.length k8, .slice a9 X.late.length k9])) Y) := by
      show DueP _ _ _ _
      rw [← HXD.out]
      exact ⟨a6, k6, a7, k7, a8, k8, a9, k9, rfl, RS.mono (hv.o6.rows keepsS) (fun b hb => ⟨by have := hb.1; omega, hb.2⟩), RM.mono (hv.o7.rows keepsM) (fun b hb => ⟨by have := hb.1; omega, hb.2⟩), RM.mono (hv.o8.rows keepsM) (fun b hb => ⟨by have := hb.1; omega, hb.2⟩), RM.mono (hv.o9.rows keepsM) (fun b hb => ⟨by have := hb.1; omega, hb.2⟩), hput⟩
    refine ⟨by simp, .inl ⟨_, _, rfl, run_takeDeferred HKX.out, ?_⟩⟩
    rw [← hY]
    refine ⟨.tuple #[.slice a6 X.rest.length k6, .slice a7 X.again.length k7, .slice a8 X.dead.length k8, .slice a9 X.late.length k9], ?_, HYP.out⟩
    have q6 := Blk.cell y6 0
    have q7 := Blk.cell y7 0
    have q8 := Blk.cell y8 0
    have q9 := Blk.cell y9 0
    clear hv hk HYP h6 h7 h8 h9 y6 y7 y8 y9
    simp [results, Tryd.f31, go_sem, q6, q7, q8, q9]

end Go.Proofs.YtmdcfmdjbncaoaaDoor
