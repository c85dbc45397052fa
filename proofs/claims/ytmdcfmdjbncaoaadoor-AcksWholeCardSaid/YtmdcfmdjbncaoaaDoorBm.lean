/- Messages of the buffer's laws: CopyMsg, SameMsg, SameMsgs, Copy. -/
import Derived.Test.YtmdcfmdjbncaoaaDoorMs
import Derived.Test.YtmdcfmdjbncaoaaDoorBw
import Derived.Test.YtmdcfmdjbncaoaaDoorOwnB
import Derived.Test.YtmdcfmdjbncaoaaDoorCpy
import Derived.Test.YtmdcfmdjbncaoaaDoorSam
import Derived.Deep.RegionHeld3
namespace Go.Proofs.YtmdcfmdjbncaoaaDoor
open Go.RowKit
attribute [local go_sem ↓] Go.wp_at_zero Go.wp_at_succ
attribute [local go_sem] Go.undef

theorem sizeM : (Tryd.prog.info? 30).map (·.size) = some 13 := by kernel_rfl
theorem sizeDt : (Tryd.prog.info? 28).map (·.size) = some 5 := by kernel_rfl
theorem IsD.one5 {k i b : Int} {s : ByteArray} {a : Option Addr} {n c : Nat} : ∀ v ∈ [Value.int .i64 k, .int .i64 i, .int .u64 b, .string s, .slice a n c], v.oneCell' = true := by simp [Value.oneCell']
theorem Blk.cells13 {w : World} {g : Nat} {t : TypeId} {v0 v1 v2 v3 v4 v5 v6 v7 v8 v9 v10 v11 v12 : Value} (h : Blk w g t #[v0, v1, v2, v3, v4, v5, v6, v7, v8, v9, v10, v11, v12]) : w.cell? ⟨g, 0, none⟩ = some v0 ∧ w.cell? ⟨g, 1, none⟩ = some v1 ∧ w.cell? ⟨g, 2, none⟩ = some v2 ∧ w.cell? ⟨g, 3, none⟩ = some v3 ∧ w.cell? ⟨g, 4, none⟩ = some v4 ∧ w.cell? ⟨g, 5, none⟩ = some v5 ∧ w.cell? ⟨g, 6, none⟩ = some v6 ∧ w.cell? ⟨g, 7, none⟩ = some v7 ∧ w.cell? ⟨g, 8, none⟩ = some v8 ∧ w.cell? ⟨g, 9, none⟩ = some v9 ∧ w.cell? ⟨g, 10, none⟩ = some v10 ∧ w.cell? ⟨g, 11, none⟩ = some v11 ∧ w.cell? ⟨g, 12, none⟩ = some v12 :=
  ⟨h.cell 0, h.cell 1, h.cell 2, h.cell 3, h.cell 4, h.cell 5, h.cell 6, h.cell 7, h.cell 8, h.cell 9, h.cell 10, h.cell 11, h.cell 12⟩

set_option maxHeartbeats 4000000 in
set_option maxRecDepth 100000 in
theorem copymsg_any (m : MX) (w : World) (S : Nat → Prop) (cs : List Value) (hm : IsM w S m cs) (hS : ∀ b, S b → b < w.heap.size) (hz : m.body.size ≤ 4096) :
    Calls Tryd.prog 15 #[.agg cs.toArray] w (CopiedM w m) := by
  obtain ⟨k, i, b, s, a, n, c, rfl, hD, ht, hr⟩ := hm
  have HT := Lib.hid (And.intro ht hr)
  have hW : Below w.heap.size w ((w.alloc (.cells #[.int .i64 m.id, .string m.topic, .int .i64 k, .int .i64 i, .int .u64 b, .string s, .slice a n c, .int .i64 m.tat, .int .i64 m.til, .string m.reply, .int .i64 m.corr, .int .i64 m.prio, .int .i64 m.hops] 30)).alloc (.cells #[.int .i64 0, .string ByteArray.empty, .int .i64 0, .int .i64 0, .int .u64 0, .string ByteArray.empty, .slice none 0 0, .int .i64 0, .int .i64 0, .string ByteArray.empty, .int .i64 0, .int .i64 0, .int .i64 0] 30)) := by go_grown
  have hsz : ((w.alloc (.cells #[.int .i64 m.id, .string m.topic, .int .i64 k, .int .i64 i, .int .u64 b, .string s, .slice a n c, .int .i64 m.tat, .int .i64 m.til, .string m.reply, .int .i64 m.corr, .int .i64 m.prio, .int .i64 m.hops] 30)).alloc (.cells #[.int .i64 0, .string ByteArray.empty, .int .i64 0, .int .i64 0, .int .u64 0, .string ByteArray.empty, .slice none 0 0, .int .i64 0, .int .i64 0, .string ByteArray.empty, .int .i64 0, .int .i64 0, .int .i64 0] 30)).heap.size = w.heap.size + 2 := by simp
  have hc := copy_ref _ m.body (Nat.le_refl _) hz _ S _ (hD.under hW hS) (fun q hq => by rw [hsz]; have := hS q hq; omega)
  have hB0 : Blk ((w.alloc (.cells #[.int .i64 m.id, .string m.topic, .int .i64 k, .int .i64 i, .int .u64 b, .string s, .slice a n c, .int .i64 m.tat, .int .i64 m.til, .string m.reply, .int .i64 m.corr, .int .i64 m.prio, .int .i64 m.hops] 30)).alloc (.cells #[.int .i64 0, .string ByteArray.empty, .int .i64 0, .int .i64 0, .int .u64 0, .string ByteArray.empty, .slice none 0 0, .int .i64 0, .int .i64 0, .string ByteArray.empty, .int .i64 0, .int .i64 0, .int .i64 0] 30)) w.heap.size 30 #[.int .i64 m.id, .string m.topic, .int .i64 k, .int .i64 i, .int .u64 b, .string s, .slice a n c, .int .i64 m.tat, .int .i64 m.til, .string m.reply, .int .i64 m.corr, .int .i64 m.prio, .int .i64 m.hops] := (Blk.new _ _ _).alloc _
  have hB1 : Blk ((w.alloc (.cells #[.int .i64 m.id, .string m.topic, .int .i64 k, .int .i64 i, .int .u64 b, .string s, .slice a n c, .int .i64 m.tat, .int .i64 m.til, .string m.reply, .int .i64 m.corr, .int .i64 m.prio, .int .i64 m.hops] 30)).alloc (.cells #[.int .i64 0, .string ByteArray.empty, .int .i64 0, .int .i64 0, .int .u64 0, .string ByteArray.empty, .slice none 0 0, .int .i64 0, .int .i64 0, .string ByteArray.empty, .int .i64 0, .int .i64 0, .int .i64 0] 30)) (w.heap.size + 1) 30 #[.int .i64 0, .string ByteArray.empty, .int .i64 0, .int .i64 0, .int .u64 0, .string ByteArray.empty, .slice none 0 0, .int .i64 0, .int .i64 0, .string ByteArray.empty, .int .i64 0, .int .i64 0, .int .i64 0] := Blk.new' _ _ _ (by simp)
  have HC := Lib.hid hc
  have HW := Lib.hid hW
  have HSZ := Lib.hid hsz
  have HB0 := Lib.hid hB0
  have HB1 := Lib.hid hB1
  clear hD hS ht hr hW hsz hc hB0 hB1
  go_enter Tryd.func15, Tryd.ntmps15
  go_wp2_with fail
  refine HC.out.mono ?_
  rintro e w1 ⟨k1, i1, b1, s1, a1, n1, c1, xs1, rfl, hD1, hO1, hb1⟩
  have hB2 : Below w.heap.size w w1 := HW.out.trans (hb1.mono (by rw [HSZ.out]; omega))
  have hs1 := hb1.size
  rw [HSZ.out] at hs1 hD1 hO1
  have HF1 := Lib.hid (FreeL.of_own (cs := [.int .i64 m.id, .string m.topic, .int .i64 k1, .int .i64 i1, .int .u64 b1, .string s1, .slice a1 n1 c1, .int .i64 m.tat, .int .i64 m.til, .string m.reply, .int .i64 m.corr, .int .i64 m.prio, .int .i64 m.hops]) hO1 rfl)
  have BX := HB0.out.under hb1 (by rw [HSZ.out]; omega)
  have BY := HB1.out.under hb1 (by rw [HSZ.out]; omega)
  have HD1 := Lib.hid hD1
  clear hD1 hO1 hb1
  go_wp2_with (first
    | (refine wpList_store_blk (T := 30) rfl 28 _ _ rfl (w.heap.size) 2 [.int .i64 m.id, .string m.topic] [.int .i64 k, .int .i64 i, .int .u64 b, .string s, .slice a n c] [.int .i64 m.tat, .int .i64 m.til, .string m.reply, .int .i64 m.corr, .int .i64 m.prio, .int .i64 m.hops] [.int .i64 k1, .int .i64 i1, .int .u64 b1, .string s1, .slice a1 n1 c1] rfl rfl BX rfl rfl sizeDt IsD.one5 ?_; intro w2 BX2 U2; have BY2 := U2.blk BY (by omega))
    | (refine wpList_load_blk rfl 30 _ rfl (w.heap.size) 0 rfl [.int .i64 m.id, .string m.topic, .int .i64 k1, .int .i64 i1, .int .u64 b1, .string s1, .slice a1 n1 c1, .int .i64 m.tat, .int .i64 m.til, .string m.reply, .int .i64 m.corr, .int .i64 m.prio, .int .i64 m.hops] _ (Blk.range (pre := []) (post := []) BX2 rfl) Tryd.underlying30 rfl sizeM ?_)
    | (refine wpList_store_blk (T := 30) rfl 30 _ _ rfl (w.heap.size + 1) 0 [] [.int .i64 0, .string ByteArray.empty, .int .i64 0, .int .i64 0, .int .u64 0, .string ByteArray.empty, .slice none 0 0, .int .i64 0, .int .i64 0, .string ByteArray.empty, .int .i64 0, .int .i64 0, .int .i64 0] [] [.int .i64 m.id, .string m.topic, .int .i64 k1, .int .i64 i1, .int .u64 b1, .string s1, .slice a1 n1 c1, .int .i64 m.tat, .int .i64 m.til, .string m.reply, .int .i64 m.corr, .int .i64 m.prio, .int .i64 m.hops] rfl rfl BY2 rfl rfl sizeM (by simp [Value.oneCell']) ?_; intro w3 BY3 U3))
  refine bodyPost_ret (res_c rfl rfl (load_blk w3 (w.heap.size + 1) 30 [.int .i64 m.id, .string m.topic, .int .i64 k1, .int .i64 i1, .int .u64 b1, .string s1, .slice a1 n1 c1, .int .i64 m.tat, .int .i64 m.til, .string m.reply, .int .i64 m.corr, .int .i64 m.prio, .int .i64 m.hops] _ BY3 Tryd.underlying30 rfl sizeM)) rfl ?_
  refine ⟨k1, i1, b1, s1, a1, n1, c1, rfl, ⟨⟨k1, i1, b1, s1, a1, n1, c1, rfl, ?_, HT.out.1, HT.out.2⟩, HF1.out.keep (fun q hq => ⟨by have := hq.1; omega, by have h1 := hq.2; rw [U3.size, U2.size]; exact h1⟩) fun q hq => (U3.far q (by have := hq.1; omega)).trans (U2.far q (by have := hq.1; omega))⟩, (hB2.trans (U2.below _ (Nat.le_refl _))).trans (U3.below _ (Nat.le_succ _))⟩
  exact HD1.out.keep (fun q hq => ⟨by have := hq.1; omega, by have h1 := hq.2; rw [U3.size, U2.size]; exact h1⟩) fun q hq j => (U3.cell (by have := hq.1; omega)).trans (U2.cell (by have := hq.1; omega))


abbrev RM (w : World) (S : Nat → Prop) (l : List MX) (a : Option Addr) (n c : Nat) : Prop := RowsOf (IsM w S) 13 w S l a n c
theorem RM.under {w w' : World} {S : Nat → Prop} {B : Nat} {l : List MX} {a : Option Addr} {n c : Nat} (h : RM w S l a n c) (hb : Below B w w') (hS : ∀ b, S b → b < B) : RM w' S l a n c :=
  RowsOf.under h (fun _ _ _ hm => hm.under hb hS) hb hS
theorem RM.mono {w : World} {S S' : Nat → Prop} {l : List MX} {a : Option Addr} {n c : Nat} (h : RM w S l a n c) (hS : ∀ b, S b → S' b) : RM w S' l a n c :=
  RowsOf.map h (fun _ _ _ hm => hm.mono hS) hS fun _ _ _ => rfl
/-- The bodies are no greater than what is valid. -/
def smallL (l : List MX) : Prop := ∀ m ∈ l, m.body.size ≤ 4096
theorem take_snoc {α : Type} {l : List α} {j : Nat} {x : α} (h : l[j]? = some x) : l.take j ++ [x] = l.take (j + 1) := by rw [List.take_add_one, h]; rfl

def RowPost (w : World) (l : List MX) (e : Ending) (w' : World) : Prop :=
  ∃ a c S css, e = .returned (.slice a l.length c) ∧ OwnE IsN 30 13 w' w.heap.size l (.slice a l.length c) S css ∧ Below w.heap.size w w'
theorem range13 {w : World} {g o : Nat} {v0 v1 v2 v3 v4 v5 v6 v7 v8 v9 v10 v11 v12 : Value} (h : w.rangeAt g o [v0, v1, v2, v3, v4, v5, v6, v7, v8, v9, v10, v11, v12]) : w.cell? ⟨g, o, none⟩ = some v0 ∧ w.cell? ⟨g, o + 1, none⟩ = some v1 ∧ w.cell? ⟨g, o + 2, none⟩ = some v2 ∧ w.cell? ⟨g, o + 3, none⟩ = some v3 ∧ w.cell? ⟨g, o + 4, none⟩ = some v4 ∧ w.cell? ⟨g, o + 5, none⟩ = some v5 ∧ w.cell? ⟨g, o + 6, none⟩ = some v6 ∧ w.cell? ⟨g, o + 7, none⟩ = some v7 ∧ w.cell? ⟨g, o + 8, none⟩ = some v8 ∧ w.cell? ⟨g, o + 9, none⟩ = some v9 ∧ w.cell? ⟨g, o + 10, none⟩ = some v10 ∧ w.cell? ⟨g, o + 11, none⟩ = some v11 ∧ w.cell? ⟨g, o + 12, none⟩ = some v12 :=
  ⟨h 0 _ rfl, h 1 _ rfl, h 2 _ rfl, h 3 _ rfl, h 4 _ rfl, h 5 _ rfl, h 6 _ rfl, h 7 _ rfl, h 8 _ rfl, h 9 _ rfl, h 10 _ rfl, h 11 _ rfl, h 12 _ rfl⟩
theorem range_over {W w1 : World} (hb : Below W.heap.size W w1) {b o : Nat} {cs : List Value} (hlt : b < W.heap.size) (h : W.rangeAt b o cs) : w1.rangeAt b o cs := rangeAt_keep h fun q => hb.cell (p := ⟨b, q, none⟩) hlt

set_option maxHeartbeats 4000000 in
set_option maxRecDepth 100000 in
theorem samemsg_yes (m : MX) (w : World) (S S' : Nat → Prop) (cs cs' : List Value) (hm : IsM w S m cs) (hm' : IsM w S' m cs') (hS : ∀ b, S b → b < w.heap.size) (hS' : ∀ b, S' b → b < w.heap.size) :
    Calls Tryd.prog 50 #[.agg cs.toArray, .agg cs'.toArray] w fun e w' => e = .returned (.bool true) ∧ Below w.heap.size w w' := by
  obtain ⟨k, i, b, s, a, n, c, rfl, hD, ht, hr⟩ := hm
  obtain ⟨k1, i1, b1, s1, a1, n1, c1, rfl, hD1, -, -⟩ := hm'
  unfold maxLen at ht hr
  have hW : Below w.heap.size w ((w.alloc (.cells #[.int .i64 m.id, .string m.topic, .int .i64 k, .int .i64 i, .int .u64 b, .string s, .slice a n c, .int .i64 m.tat, .int .i64 m.til, .string m.reply, .int .i64 m.corr, .int .i64 m.prio, .int .i64 m.hops] 30)).alloc (.cells #[.int .i64 m.id, .string m.topic, .int .i64 k1, .int .i64 i1, .int .u64 b1, .string s1, .slice a1 n1 c1, .int .i64 m.tat, .int .i64 m.til, .string m.reply, .int .i64 m.corr, .int .i64 m.prio, .int .i64 m.hops] 30)) := by go_grown
  have hsz : ((w.alloc (.cells #[.int .i64 m.id, .string m.topic, .int .i64 k, .int .i64 i, .int .u64 b, .string s, .slice a n c, .int .i64 m.tat, .int .i64 m.til, .string m.reply, .int .i64 m.corr, .int .i64 m.prio, .int .i64 m.hops] 30)).alloc (.cells #[.int .i64 m.id, .string m.topic, .int .i64 k1, .int .i64 i1, .int .u64 b1, .string s1, .slice a1 n1 c1, .int .i64 m.tat, .int .i64 m.til, .string m.reply, .int .i64 m.corr, .int .i64 m.prio, .int .i64 m.hops] 30)).heap.size = w.heap.size + 2 := by simp
  have hc := same_yes _ m.body (Nat.le_refl _) _ S S' _ _ (hD.under hW hS) (hD1.under hW hS') (fun q hq => by rw [hsz]; have := hS q hq; omega) (fun q hq => by rw [hsz]; have := hS' q hq; omega)
  have hB0 : Blk ((w.alloc (.cells #[.int .i64 m.id, .string m.topic, .int .i64 k, .int .i64 i, .int .u64 b, .string s, .slice a n c, .int .i64 m.tat, .int .i64 m.til, .string m.reply, .int .i64 m.corr, .int .i64 m.prio, .int .i64 m.hops] 30)).alloc (.cells #[.int .i64 m.id, .string m.topic, .int .i64 k1, .int .i64 i1, .int .u64 b1, .string s1, .slice a1 n1 c1, .int .i64 m.tat, .int .i64 m.til, .string m.reply, .int .i64 m.corr, .int .i64 m.prio, .int .i64 m.hops] 30)) w.heap.size 30 #[.int .i64 m.id, .string m.topic, .int .i64 k, .int .i64 i, .int .u64 b, .string s, .slice a n c, .int .i64 m.tat, .int .i64 m.til, .string m.reply, .int .i64 m.corr, .int .i64 m.prio, .int .i64 m.hops] := (Blk.new _ _ _).alloc _
  have hB1 : Blk ((w.alloc (.cells #[.int .i64 m.id, .string m.topic, .int .i64 k, .int .i64 i, .int .u64 b, .string s, .slice a n c, .int .i64 m.tat, .int .i64 m.til, .string m.reply, .int .i64 m.corr, .int .i64 m.prio, .int .i64 m.hops] 30)).alloc (.cells #[.int .i64 m.id, .string m.topic, .int .i64 k1, .int .i64 i1, .int .u64 b1, .string s1, .slice a1 n1 c1, .int .i64 m.tat, .int .i64 m.til, .string m.reply, .int .i64 m.corr, .int .i64 m.prio, .int .i64 m.hops] 30)) (w.heap.size + 1) 30 #[.int .i64 m.id, .string m.topic, .int .i64 k1, .int .i64 i1, .int .u64 b1, .string s1, .slice a1 n1 c1, .int .i64 m.tat, .int .i64 m.til, .string m.reply, .int .i64 m.corr, .int .i64 m.prio, .int .i64 m.hops] := Blk.new' _ _ _ (by simp)
  have HC := Lib.hid hc
  have HW := Lib.hid hW
  have HSZ := Lib.hid hsz
  have HB0 := Lib.hid hB0
  have HB1 := Lib.hid hB1
  clear hD hD1 hS hS' hW hsz hc hB0 hB1
  go_enter Tryd.func50, Tryd.ntmps50
  go_wp2_with fail
  refine HC.out.mono ?_
  rintro e w1 ⟨rfl, hb1⟩
  have hB2 : Below w.heap.size w w1 := HW.out.trans (hb1.mono (by rw [HSZ.out]; omega))
  obtain ⟨x0, x1, x2, x3, x4, x5, x6, x7, x8, x9, x10, x11, x12⟩ := Blk.cells13 (HB0.out.under hb1 (by rw [HSZ.out]; omega))
  obtain ⟨y0, y1, y2, y3, y4, y5, y6, y7, y8, y9, y10, y11, y12⟩ := Blk.cells13 (HB1.out.under hb1 (by rw [HSZ.out]; omega))
  clear hb1
  go_wp2_with fail
  go_ret
  exact ⟨rfl, hB2⟩


set_option maxHeartbeats 4000000 in
set_option maxRecDepth 100000 in
theorem samemsgs_yes (l : List MX) (a a' : Option Addr) (n n' c c' : Nat) (S S' : Nat → Prop) (w : World) (hrow : RM w S l a n c) (hrow' : RM w S' l a' n' c') (hS : ∀ b, S b → b < w.heap.size) (hS' : ∀ b, S' b → b < w.heap.size) (hl : l.length ≤ 1000000000) :
    Calls Tryd.prog 18 #[.slice a n c, .slice a' n' c'] w fun e w' => e = .returned (.bool true) ∧ Below w.heap.size w w' := by
  obtain rfl : n = l.length := hrow.1
  obtain rfl : n' = l.length := hrow'.1
  have HROW := Lib.hid hrow
  have HROW' := Lib.hid hrow'
  have HS := Lib.hid hS
  have HS' := Lib.hid hS'
  clear hrow hrow' hS hS'
  go_enter Tryd.func18, Tryd.ntmps18
  go_wp2_with fail
  go_loopw [5] (fun iv wr => ∃ j : Nat, iv = .int .i64 j ∧ j ≤ l.length ∧ Below w.heap.size w wr) (fun i _ => l.length - (intOf i).toNat)
  case atStart => exact ⟨0, rfl, Nat.zero_le _, Below.refl _ _⟩
  case round =>
    obtain ⟨j, rfl, hj, hbel⟩ := hrel
    by_cases hlt : j < l.length
    · obtain ⟨g, o, x, xs, rfl, hSg, hx, hm, hxl, hr⟩ := HROW.out.get hlt
      obtain ⟨g', o', x', xs', rfl, hSg', hx', hm', hxl', hr'⟩ := HROW'.out.get hlt
      obtain rfl : x' = x := by rw [hx] at hx'; injection hx' with e; exact e.symm
      have HM := Lib.hid (hm.under hbel HS.out)
      have HM' := Lib.hid (hm'.under hbel HS'.out)
      obtain ⟨kx, ix, bx, sx, ax, nx, cx, rfl, -, -, -⟩ := hm
      obtain ⟨ky, iy, bY, sy, ay, ny, cy, rfl, -, -, -⟩ := hm'
      have HRR := Lib.hid (rangeAt_keep hr fun i => hbel.cell (p := ⟨g, i, none⟩) (HS.out g hSg))
      have HRR' := Lib.hid (rangeAt_keep hr' fun i => hbel.cell (p := ⟨g', i, none⟩) (HS'.out g' hSg'))
      have hj0 : (0 : Int) ≤ (j : Int) := by omega
      have hj1 : (j : Int) < (l.length : Int) := by omega
      have HG : Hid (g < wr.heap.size ∧ g' < wr.heap.size) := ⟨Nat.lt_of_lt_of_le (HS.out g hSg) hbel.size, Nat.lt_of_lt_of_le (HS'.out g' hSg') hbel.size⟩
      have HBL := Lib.hid hbel
      clear hx hx' hr hr' hSg hSg' hxl hxl' hbel
      go_upto_region 6 with fail
      refine wp_region_held_drew (S := (fun w' => w'.rangeAt g (o + j * 13) [.int .i64 x'.id, .string x'.topic, .int .i64 kx, .int .i64 ix, .int .u64 bx, .string sx, .slice ax nx cx, .int .i64 x'.tat, .int .i64 x'.til, .string x'.reply, .int .i64 x'.corr, .int .i64 x'.prio, .int .i64 x'.hops] ∧ w'.rangeAt g' (o' + j * 13) [.int .i64 x'.id, .string x'.topic, .int .i64 ky, .int .i64 iy, .int .u64 bY, .string sy, .slice ay ny cy, .int .i64 x'.tat, .int .i64 x'.til, .string x'.reply, .int .i64 x'.corr, .int .i64 x'.prio, .int .i64 x'.hops] ∧ g < w'.heap.size ∧ g' < w'.heap.size)) (by kernel_rfl) ?_ (fun hHeld => ?_)
      · exact ⟨HRR.out, HRR'.out, HG.out.1, HG.out.2⟩
      refine wpAnyH_take (i := 0) (v := ?_) rfl (by kernel_rfl) (by kernel_rfl) (by kernel_rfl) (fun _ _ _ h => h) (Or.inl ⟨by rfl, ?_⟩) hHeld ?_
      rotate_left
      · intro w hSw
        try dsimp only at hSw
        first | (go_simp; done) | (go_simp; with_reducible rfl)
      try simp only [Act.put, List.getElem_toArray, List.getElem_cons_zero, List.setIfInBounds_toArray, List.set_cons_zero, List.set_cons_succ]
      refine wpAnyH_take (i := 1) (v := ?_) rfl (by kernel_rfl) (by kernel_rfl) (by kernel_rfl) (fun _ _ _ h => h) (Or.inl ⟨by rfl, ?_⟩) hHeld ?_
      rotate_left
      · intro w hSw
        try dsimp only at hSw
        first | (go_simp; done) | (go_simp; with_reducible rfl)
      try simp only [Act.put, List.getElem_toArray, List.getElem_cons_zero, List.getElem_cons_succ, List.setIfInBounds_toArray, List.set_cons_zero, List.set_cons_succ]
      refine wpAnyH_take (i := 2) (v := ?_) rfl (by kernel_rfl) (by kernel_rfl) (by kernel_rfl) (fun _ _ _ h => h) (Or.inl ⟨by rfl, ?_⟩) hHeld ?_
      rotate_left
      · intro w hSw
        try dsimp only at hSw
        first | (go_simp; done) | (go_simp; with_reducible rfl)
      try simp only [Act.put, List.getElem_toArray, List.getElem_cons_zero, List.getElem_cons_succ, List.setIfInBounds_toArray, List.set_cons_zero, List.set_cons_succ]
      refine wpAnyH_take (i := 3) (v := .agg #[.int .i64 x'.id, .string x'.topic, .int .i64 kx, .int .i64 ix, .int .u64 bx, .string sx, .slice ax nx cx, .int .i64 x'.tat, .int .i64 x'.til, .string x'.reply, .int .i64 x'.corr, .int .i64 x'.prio, .int .i64 x'.hops]) rfl (by kernel_rfl) (by kernel_rfl) (by kernel_rfl) (fun _ _ _ h => h) (yieldsIf_load_mid (by rfl) 30 _ rfl (g) (o + j * 13) (by rfl) [.int .i64 x'.id, .string x'.topic, .int .i64 kx, .int .i64 ix, .int .u64 bx, .string sx, .slice ax nx cx, .int .i64 x'.tat, .int .i64 x'.til, .string x'.reply, .int .i64 x'.corr, .int .i64 x'.prio, .int .i64 x'.hops] _ (fun w' h => h.1) Tryd.underlying30 rfl sizeM) hHeld ?_
      try simp only [Act.put, List.getElem_toArray, List.getElem_cons_zero, List.getElem_cons_succ, List.setIfInBounds_toArray, List.set_cons_zero, List.set_cons_succ]
      refine wpAnyH_take (i := 4) (v := ?_) rfl (by kernel_rfl) (by kernel_rfl) (by kernel_rfl) (fun _ _ _ h => h) (Or.inl ⟨by rfl, ?_⟩) hHeld ?_
      rotate_left
      · intro w hSw
        try dsimp only at hSw
        first | (go_simp; done) | (go_simp; with_reducible rfl)
      try simp only [Act.put, List.getElem_toArray, List.getElem_cons_zero, List.getElem_cons_succ, List.setIfInBounds_toArray, List.set_cons_zero, List.set_cons_succ]
      refine wpAnyH_take (i := 5) (v := ?_) rfl (by kernel_rfl) (by kernel_rfl) (by kernel_rfl) (fun _ _ _ h => h) (Or.inl ⟨by rfl, ?_⟩) hHeld ?_
      rotate_left
      · intro w hSw
        try dsimp only at hSw
        first | (go_simp; done) | (go_simp; with_reducible rfl)
      try simp only [Act.put, List.getElem_toArray, List.getElem_cons_zero, List.getElem_cons_succ, List.setIfInBounds_toArray, List.set_cons_zero, List.set_cons_succ]
      refine wpAnyH_take (i := 6) (v := ?_) rfl (by kernel_rfl) (by kernel_rfl) (by kernel_rfl) (fun _ _ _ h => h) (Or.inl ⟨by rfl, ?_⟩) hHeld ?_
      rotate_left
      · intro w hSw
        try dsimp only at hSw
        first | (go_simp; done) | (go_simp; with_reducible rfl)
      try simp only [Act.put, List.getElem_toArray, List.getElem_cons_zero, List.getElem_cons_succ, List.setIfInBounds_toArray, List.set_cons_zero, List.set_cons_succ]
      refine wpAnyH_take (i := 7) (v := .agg #[.int .i64 x'.id, .string x'.topic, .int .i64 ky, .int .i64 iy, .int .u64 bY, .string sy, .slice ay ny cy, .int .i64 x'.tat, .int .i64 x'.til, .string x'.reply, .int .i64 x'.corr, .int .i64 x'.prio, .int .i64 x'.hops]) rfl (by kernel_rfl) (by kernel_rfl) (by kernel_rfl) (fun _ _ _ h => h) (yieldsIf_load_mid (by rfl) 30 _ rfl (g') (o' + j * 13) (by rfl) [.int .i64 x'.id, .string x'.topic, .int .i64 ky, .int .i64 iy, .int .u64 bY, .string sy, .slice ay ny cy, .int .i64 x'.tat, .int .i64 x'.til, .string x'.reply, .int .i64 x'.corr, .int .i64 x'.prio, .int .i64 x'.hops] _ (fun w' h => h.2.1) Tryd.underlying30 rfl sizeM) hHeld ?_
      try simp only [Act.put, List.getElem_toArray, List.getElem_cons_zero, List.getElem_cons_succ, List.setIfInBounds_toArray, List.set_cons_zero, List.set_cons_succ]
      refine wpAnyH_ready (rs := [8]) (by kernel_rfl) (by simp) ?_
      refine AllReadyH.cons rfl (fun K hK => ?_) AllReadyH.nil
      go_simp
      go_at_call 50
      refine (samemsg_yes x' wr.drew _ _ [.int .i64 x'.id, .string x'.topic, .int .i64 kx, .int .i64 ix, .int .u64 bx, .string sx, .slice ax nx cx, .int .i64 x'.tat, .int .i64 x'.til, .string x'.reply, .int .i64 x'.corr, .int .i64 x'.prio, .int .i64 x'.hops] [.int .i64 x'.id, .string x'.topic, .int .i64 ky, .int .i64 iy, .int .u64 bY, .string sy, .slice ay ny cy, .int .i64 x'.tat, .int .i64 x'.til, .string x'.reply, .int .i64 x'.corr, .int .i64 x'.prio, .int .i64 x'.hops] (IsM.drew HM.out) (IsM.drew HM'.out) (fun b hb => Nat.lt_of_lt_of_le (HS.out b hb) HBL.out.size) (fun b hb => Nat.lt_of_lt_of_le (HS'.out b hb) HBL.out.size)).mono ?_
      rintro e w6 ⟨rfl, hb6⟩
      refine hK.out _ _ ⟨range_over hb6 hHeld.2.2.1 hHeld.1, range_over hb6 hHeld.2.2.2 hHeld.2.1, Nat.lt_of_lt_of_le hHeld.2.2.1 hb6.size, Nat.lt_of_lt_of_le hHeld.2.2.2 hb6.size⟩ (fun hHeld2 => ?_)
      clear hHeld hK K
      have hHeld := hHeld2
      clear hHeld2
      try simp only [Act.put, List.getElem_toArray, List.getElem_cons_zero, List.getElem_cons_succ, List.setIfInBounds_toArray, List.set_cons_zero, List.set_cons_succ]
      have hB6 : Below w.heap.size w w6 := below_on hb6 HBL.out.drew
      have HB6 := Lib.hid hB6
      clear hb6 hB6
      refine wpAnyH_take (i := 9) (v := ?_) rfl (by kernel_rfl) (by kernel_rfl) (by kernel_rfl) (fun _ _ _ h => h) (Or.inl ⟨by rfl, ?_⟩) hHeld ?_
      rotate_left
      · intro w hSw
        try dsimp only at hSw
        first | (go_simp; done) | (go_simp; with_reducible rfl)
      try simp only [Act.put, List.getElem_toArray, List.getElem_cons_zero, List.getElem_cons_succ, List.setIfInBounds_toArray, List.set_cons_zero, List.set_cons_succ]
      refine wpAnyH_done (by kernel_rfl) ?_ _
      clear hHeld
      go_wp2_with fail
      go_roundw
      case rel => first | exact ⟨j + 1, by go_num, by omega, HB6.out⟩ | ((repeat apply Exists.intro); exact ⟨⟨j + 1, by go_num, by omega, HB6.out⟩, by first | rfl | exact ⟨rfl, rfl⟩ | exact ⟨rfl, rfl, rfl⟩ | exact ⟨rfl, rfl, rfl, rfl⟩⟩)
      case measure => simp [intOf]; omega
    · obtain rfl : j = l.length := by omega
      go_wp2_with fail
      go_ret
      exact ⟨rfl, hbel⟩

def CpB (w : World) (l : List MX) (v iv : Value) (wr : World) : Prop :=
  ∃ (j : Nat) (ao : Option Addr) (co : Nat) (S : Nat → Prop) (css : List (List Value)), iv = .int .i64 j ∧ v = .slice ao j co ∧ j ≤ l.length ∧ OwnE IsN 30 13 wr w.heap.size (l.take j) (.slice ao j co) S css ∧ Below w.heap.size w wr

set_option maxHeartbeats 4000000 in
set_option maxRecDepth 100000 in
theorem copyrow_any (l : List MX) (a : Option Addr) (n c : Nat) (S : Nat → Prop) (w : World) (hrow : RM w S l a n c) (hS : ∀ b, S b → b < w.heap.size) (hsm : smallL l) (hn : n ≤ 65536) :
    Calls Tryd.prog 13 #[.slice a n c] w (RowPost w l) := by
  obtain ⟨i0, hi0, hz0, hz1, hz2⟩ := info_parts infoM
  have hcl : c ≤ maxLen := hrow.2.2.1
  have hlc : n ≤ c := hrow.2.1
  obtain rfl : n = l.length := hrow.1
  unfold maxLen at hcl
  have HROW := Lib.hid hrow
  have HS := Lib.hid hS
  have HSM := Lib.hid hsm
  clear hrow hS hsm
  go_enter Tryd.func13, Tryd.ntmps13
  go_wp2_with fail
  go_loopw [3, 4] (CpB w l) (fun _ i _ => l.length - (intOf i).toNat)
  case atStart => exact ⟨0, none, 0, _, _, rfl, rfl, Nat.zero_le _, OwnE.nil _ _, Below.refl _ _⟩
  case round =>
    obtain ⟨j, ao, co, T, css, rfl, rfl, hj, hown, hbel⟩ := hrel
    have HOWN := Lib.hid hown
    have hsz := hbel.size
    have HROW3 : Hid (wr.ownsRow w.heap.size 30 13 (.slice ao j co) j css.flatten) := by have h := hown.row; rwa [List.length_take, Nat.min_eq_left hj] at h
    clear hown
    by_cases hlt : j < l.length
    · obtain ⟨g, o, x, xs, rfl, hSg, hx, hm, hxl, hr⟩ := HROW.out.get hlt
      have hr2 : wr.rangeAt g (o + j * 13) xs := rangeAt_keep hr fun q => hbel.cell (p := ⟨g, q, none⟩) (HS.out g hSg)
      have HC := Lib.hid (copymsg_any x wr S _ (hm.under hbel HS.out) (fun q hq => Nat.lt_of_lt_of_le (HS.out q hq) hbel.size) (HSM.out x (List.mem_of_getElem? hx)))
      obtain ⟨kx, ix, bx, sx, ax, nx, cx, rfl, -, -, -⟩ := hm
      have HX := Lib.hid hx
      have hj0 : (0 : Int) ≤ (j : Int) := by omega
      have hj1 : (j : Int) < (l.length : Int) := by omega
      clear hr hx hxl
      go_wp2_with (refine wpList_load_blk rfl 30 _ rfl g (o + j * 13) rfl [.int .i64 x.id, .string x.topic, .int .i64 kx, .int .i64 ix, .int .u64 bx, .string sx, .slice ax nx cx, .int .i64 x.tat, .int .i64 x.til, .string x.reply, .int .i64 x.corr, .int .i64 x.prio, .int .i64 x.hops] _ hr2 Tryd.underlying30 rfl sizeM ?_)
      refine HC.out.mono ?_
      rintro e w2 ⟨k1, i1, b1, s1, a1, n1, c1', rfl, hm2, hb2⟩
      have HM2 := Lib.hid hm2
      have hs2 := hb2.size
      have HRL2 := Lib.hid (own_below HROW3.out hb2)
      clear hm2 HC HROW3 hr2
      go_wp2_with (at_builtin
                   go_loud (refine wpList_append_lies _ rfl _ _ _ rfl w.heap.size 30 i0 _ 13 144 Tryd.underlying22 hi0 hz0 hz1 hz2 rfl (by omega) _ j css.flatten rfl (HRL2.out.alloc _)
                                         ⟨w2.heap.size, 0, none⟩ 1 1 [.int .i64 x.id, .string x.topic, .int .i64 k1, .int .i64 i1, .int .u64 b1, .string s1, .slice a1 n1 c1', .int .i64 x.tat, .int .i64 x.til, .string x.reply, .int .i64 x.corr, .int .i64 x.prio, .int .i64 x.hops] rfl rfl
                                         (World.news_of_block (cs := #[.int .i64 x.id, .string x.topic, .int .i64 k1, .int .i64 i1, .int .u64 b1, .string s1, .slice a1 n1 c1', .int .i64 x.tat, .int .i64 x.til, .string x.reply, .int .i64 x.corr, .int .i64 x.prio, .int .i64 x.hops]) (t := 30) (fr := (0, 0)) (heap_alloc_new w2 _)) HM2.out.one (by omega) (by unfold maxLen; omega) (by omega) (by simp; omega) (w2.heap.size + 1) (by simp) ?_)
                   intro g5 cap5 w5 hown5 hgrow5 hat5 hlt5)
      obtain ⟨hR, hfar, hs5, hbl⟩ := OwnE.grow keepsN HOWN.out (Below.refl _ _) hb2 hsz HM2.out rfl hown5 (by rw [List.length_take, Nat.min_eq_left hj]) hgrow5 hat5
      rw [take_snoc HX.out] at hR
      have hB5 : Below w.heap.size w w5 := hbel.trans (hbl w.heap.size (Nat.le_refl _))
      have HR := Lib.hid hR
      clear hR hown5 hgrow5 hat5 hfar hbl hb2
      go_wp2_with fail
      go_roundw
      case rel => first | exact ⟨j + 1, _, _, _, _, by go_num, rfl, by omega, HR.out, hB5⟩ | ((repeat apply Exists.intro); exact ⟨⟨j + 1, _, _, _, _, by go_num, rfl, by omega, HR.out, hB5⟩, by first | rfl | exact ⟨rfl, rfl⟩ | exact ⟨rfl, rfl, rfl⟩ | exact ⟨rfl, rfl, rfl, rfl⟩⟩)
      case measure => simp [intOf]; omega
    · obtain rfl : j = l.length := by omega
      go_wp2_with fail
      go_ret
      have h := HOWN.out
      rw [List.take_length] at h
      exact ⟨ao, co, _, _, rfl, h, hbel⟩
end Go.Proofs.YtmdcfmdjbncaoaaDoor
