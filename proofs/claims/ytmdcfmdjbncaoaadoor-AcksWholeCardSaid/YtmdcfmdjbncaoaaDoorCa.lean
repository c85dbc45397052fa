/- What waits for its acknowledgement, in memory; acks.ownMsg. -/
import Derived.Test.YtmdcfmdjbncaoaaDoorBh
import Derived.Test.YtmdcfmdjbncaoaaDoorOwnA
import Derived.Test.YtmdcfmdjbncaoaaDoorBx
namespace Go.Proofs.YtmdcfmdjbncaoaaDoor
open Go.RowKit
attribute [local go_sem ↓] Go.wp_at_zero Go.wp_at_succ
attribute [local go_sem] Go.undef

structure SX where
  m : MX
  tries : Int
  due : Int

/-- The cells of what waits. -/
def IsS (w : World) (S : Nat → Prop) (x : SX) (cs : List Value) : Prop := ∃ ms, IsM w S x.m ms ∧ cs = ms ++ [.int .i64 x.tries, .int .i64 x.due]
theorem IsS.keep {w w' : World} {S S' : Nat → Prop} {x : SX} {cs : List Value} (h : IsS w S x cs) (hS : ∀ b, S b → S' b) (hk : ∀ b, S b → ∀ j, w'.cell? ⟨b, j, none⟩ = w.cell? ⟨b, j, none⟩) : IsS w' S' x cs := by
  obtain ⟨ms, h1, h2⟩ := h
  exact ⟨ms, h1.keep hS hk, h2⟩
theorem keepsS : Keeps IsS := fun _ _ _ _ _ _ hS hk h => h.keep hS fun b hb j => World.cell?_of_block (a := ⟨b, j, none⟩) (hk b hb)
theorem IsS.mono {w : World} {S S' : Nat → Prop} {x : SX} {cs : List Value} (h : IsS w S x cs) (hS : ∀ b, S b → S' b) : IsS w S' x cs := h.keep hS fun _ _ _ => rfl
theorem IsS.under {w w' : World} {S : Nat → Prop} {B : Nat} {x : SX} {cs : List Value} (h : IsS w S x cs) (hb : Below B w w') (hS : ∀ b, S b → b < B) : IsS w' S x cs := h.keep (fun _ h => h) fun b hs j => hb.cell (p := ⟨b, j, none⟩) (hS b hs)
theorem IsS.fwd {w w' : World} {S S' : Nat → Prop} {x : SX} {cs : List Value} (h : IsS w S x cs) (hS : ∀ b, S b → S' b) (hk : ∀ b j v, S b → w.cell? ⟨b, j, none⟩ = some v → w'.cell? ⟨b, j, none⟩ = some v) : IsS w' S' x cs := by
  obtain ⟨ms, h1, h2⟩ := h
  exact ⟨ms, h1.fwd hS hk, h2⟩
theorem IsS.len {w : World} {S : Nat → Prop} {x : SX} {cs : List Value} (h : IsS w S x cs) : cs.length = 15 := by
  obtain ⟨ms, h1, rfl⟩ := h
  simp [h1.len]
theorem IsS.one {w : World} {S : Nat → Prop} {x : SX} {cs : List Value} (h : IsS w S x cs) : ∀ v ∈ cs, v.oneCell' = true := by
  obtain ⟨ms, h1, rfl⟩ := h
  intro v hv
  rcases List.mem_append.1 hv with hv | hv
  · exact h1.one v hv
  · simp only [List.mem_cons, List.not_mem_nil, or_false] at hv
    rcases hv with rfl | rfl <;> rfl
theorem sizeS : (Tryd.prog.info? 62).map (·.size) = some 15 := by kernel_rfl
theorem infoS : (Tryd.prog.info? 62).map (fun i => (i.zero, i.size, i.bytes)) = some (some (.agg #[.int .i64 0, .string ByteArray.empty, .int .i64 0, .int .i64 0, .int .u64 0, .string ByteArray.empty, .slice none 0 0, .int .i64 0, .int .i64 0, .string ByteArray.empty, .int .i64 0, .int .i64 0, .int .i64 0, .int .i64 0, .int .i64 0]), 15, 160) := by kernel_rfl
abbrev RS (w : World) (S : Nat → Prop) (l : List SX) (a : Option Addr) (n c : Nat) : Prop := RowsOf (IsS w S) 15 w S l a n c
theorem RS.under {w w' : World} {S : Nat → Prop} {B : Nat} {l : List SX} {a : Option Addr} {n c : Nat} (h : RS w S l a n c) (hb : Below B w w') (hS : ∀ b, S b → b < B) : RS w' S l a n c :=
  RowsOf.under h (fun _ _ _ hm => hm.under hb hS) hb hS
theorem RS.mono {w : World} {S S' : Nat → Prop} {l : List SX} {a : Option Addr} {n c : Nat} (h : RS w S l a n c) (hS : ∀ b, S b → S' b) : RS w S' l a n c :=
  RowsOf.map h (fun _ _ _ hm => hm.mono hS) hS fun _ _ _ => rfl
def smallS (l : List SX) : Prop := ∀ x ∈ l, x.m.body.size ≤ 4096

set_option maxHeartbeats 4000000 in
set_option maxRecDepth 100000 in
theorem ownmsg_any (m : MX) (w : World) (S : Nat → Prop) (cs : List Value) (hm : IsM w S m cs) (hS : ∀ b, S b → b < w.heap.size) (hz : m.body.size ≤ 4096) :
    Calls Tryd.prog 57 #[.agg cs.toArray] w (CopiedM w m) := by
  obtain ⟨k, i, b, s, a, n, c, rfl, hD, ht, hr⟩ := hm
  have HT := Lib.hid (And.intro ht hr)
  have hW : Below w.heap.size w ((w.alloc (.cells #[.int .i64 m.id, .string m.topic, .int .i64 k, .int .i64 i, .int .u64 b, .string s, .slice a n c, .int .i64 m.tat, .int .i64 m.til, .string m.reply, .int .i64 m.corr, .int .i64 m.prio, .int .i64 m.hops] 30)).alloc (.cells #[.int .i64 0, .string ByteArray.empty, .int .i64 0, .int .i64 0, .int .u64 0, .string ByteArray.empty, .slice none 0 0, .int .i64 0, .int .i64 0, .string ByteArray.empty, .int .i64 0, .int .i64 0, .int .i64 0] 30)) := by go_grown
  have hsz : ((w.alloc (.cells #[.int .i64 m.id, .string m.topic, .int .i64 k, .int .i64 i, .int .u64 b, .string s, .slice a n c, .int .i64 m.tat, .int .i64 m.til, .string m.reply, .int .i64 m.corr, .int .i64 m.prio, .int .i64 m.hops] 30)).alloc (.cells #[.int .i64 0, .string ByteArray.empty, .int .i64 0, .int .i64 0, .int .u64 0, .string ByteArray.empty, .slice none 0 0, .int .i64 0, .int .i64 0, .string ByteArray.empty, .int .i64 0, .int .i64 0, .int .i64 0] 30)).heap.size = w.heap.size + 2 := by simp
  have hc := own_acks _ m.body (Nat.le_refl _) hz _ S _ (hD.under hW hS) (fun q hq => by rw [hsz]; have := hS q hq; omega)
  have hB0 : Blk ((w.alloc (.cells #[.int .i64 m.id, .string m.topic, .int .i64 k, .int .i64 i, .int .u64 b, .string s, .slice a n c, .int .i64 m.tat, .int .i64 m.til, .string m.reply, .int .i64 m.corr, .int .i64 m.prio, .int .i64 m.hops] 30)).alloc (.cells #[.int .i64 0, .string ByteArray.empty, .int .i64 0, .int .i64 0, .int .u64 0, .string ByteArray.empty, .slice none 0 0, .int .i64 0, .int .i64 0, .string ByteArray.empty, .int .i64 0, .int .i64 0, .int .i64 0] 30)) w.heap.size 30 #[.int .i64 m.id, .string m.topic, .int .i64 k, .int .i64 i, .int .u64 b, .string s, .slice a n c, .int .i64 m.tat, .int .i64 m.til, .string m.reply, .int .i64 m.corr, .int .i64 m.prio, .int .i64 m.hops] := (Blk.new _ _ _).alloc _
  have hB1 : Blk ((w.alloc (.cells #[.int .i64 m.id, .string m.topic, .int .i64 k, .int .i64 i, .int .u64 b, .string s, .slice a n c, .int .i64 m.tat, .int .i64 m.til, .string m.reply, .int .i64 m.corr, .int .i64 m.prio, .int .i64 m.hops] 30)).alloc (.cells #[.int .i64 0, .string ByteArray.empty, .int .i64 0, .int .i64 0, .int .u64 0, .string ByteArray.empty, .slice none 0 0, .int .i64 0, .int .i64 0, .string ByteArray.empty, .int .i64 0, .int .i64 0, .int .i64 0] 30)) (w.heap.size + 1) 30 #[.int .i64 0, .string ByteArray.empty, .int .i64 0, .int .i64 0, .int .u64 0, .string ByteArray.empty, .slice none 0 0, .int .i64 0, .int .i64 0, .string ByteArray.empty, .int .i64 0, .int .i64 0, .int .i64 0] := Blk.new' _ _ _ (by simp)
  have HC := Lib.hid hc
  have HW := Lib.hid hW
  have HSZ := Lib.hid hsz
  have HB0 := Lib.hid hB0
  have HB1 := Lib.hid hB1
  clear hD hS ht hr hW hsz hc hB0 hB1
  go_enter Tryd.func57, Tryd.ntmps57
  go_wp2_with fail
  refine HC.out.mono ?_
  rintro e w1 ⟨k1, i1, b1, s1, a1, n1, c1, xs1, rfl, hD1, hO1, hb1⟩
  have hB2 : Below w.heap.size w w1 := HW.out.trans (hb1.mono (by rw [HSZ.out]; omega))
  have hs1 := hb1.size
  rw [HSZ.out] at hs1 hD1 hO1
  have HF1 := Lib.hid (FreeL.of_own (cs := [.int .i64 m.id, .string m.topic, .int .i64 k1, .int .i64 i1, .int .u64 b1, .string s1, .slice a1 n1 c1, .int .i64 m.tat, .int .i64 m.til, .string m.reply, .int .i64 m.corr, .int .i64 m.prio, .int .i64 m.hops]) hO1 rfl)
  have BX := HB0.out.under hb1 (by rw [HSZ.out]; omega)
  have BY := HB1.out.under hb1 (by rw [HSZ.out]; omega)
  have HD1 := Lib.hid hD1
  clear hD1 hO1 hb1
  go_wp2_with (first
    | (refine wpList_store_blk (T := 30) rfl 28 _ _ rfl (w.heap.size) 2 [.int .i64 m.id, .string m.topic] [.int .i64 k, .int .i64 i, .int .u64 b, .string s, .slice a n c] [.int .i64 m.tat, .int .i64 m.til, .string m.reply, .int .i64 m.corr, .int .i64 m.prio, .int .i64 m.hops] [.int .i64 k1, .int .i64 i1, .int .u64 b1, .string s1, .slice a1 n1 c1] rfl rfl BX rfl rfl sizeDt IsD.one5 ?_; intro w2 BX2 U2; have BY2 := U2.blk BY (by omega))
    | (refine wpList_load_blk rfl 30 _ rfl (w.heap.size) 0 rfl [.int .i64 m.id, .string m.topic, .int .i64 k1, .int .i64 i1, .int .u64 b1, .string s1, .slice a1 n1 c1, .int .i64 m.tat, .int .i64 m.til, .string m.reply, .int .i64 m.corr, .int .i64 m.prio, .int .i64 m.hops] _ (Blk.range (pre := []) (post := []) BX2 rfl) Tryd.underlying30 rfl sizeM ?_)
    | (refine wpList_store_blk (T := 30) rfl 30 _ _ rfl (w.heap.size + 1) 0 [] [.int .i64 0, .string ByteArray.empty, .int .i64 0, .int .i64 0, .int .u64 0, .string ByteArray.empty, .slice none 0 0, .int .i64 0, .int .i64 0, .string ByteArray.empty, .int .i64 0, .int .i64 0, .int .i64 0] [] [.int .i64 m.id, .string m.topic, .int .i64 k1, .int .i64 i1, .int .u64 b1, .string s1, .slice a1 n1 c1, .int .i64 m.tat, .int .i64 m.til, .string m.reply, .int .i64 m.corr, .int .i64 m.prio, .int .i64 m.hops] rfl rfl BY2 rfl rfl sizeM (by simp [Value.oneCell']) ?_; intro w3 BY3 U3))
  refine bodyPost_ret (res_c rfl rfl (load_blk w3 (w.heap.size + 1) 30 [.int .i64 m.id, .string m.topic, .int .i64 k1, .int .i64 i1, .int .u64 b1, .string s1, .slice a1 n1 c1, .int .i64 m.tat, .int .i64 m.til, .string m.reply, .int .i64 m.corr, .int .i64 m.prio, .int .i64 m.hops] _ BY3 Tryd.underlying30 rfl sizeM)) rfl ?_
  refine ⟨k1, i1, b1, s1, a1, n1, c1, rfl, ⟨⟨k1, i1, b1, s1, a1, n1, c1, rfl, ?_, HT.out.1, HT.out.2⟩, HF1.out.keep (fun q hq => ⟨by have := hq.1; omega, by have h1 := hq.2; rw [U3.size, U2.size]; exact h1⟩) fun q hq => (U3.far q (by have := hq.1; omega)).trans (U2.far q (by have := hq.1; omega))⟩, (hB2.trans (U2.below _ (Nat.le_refl _))).trans (U3.below _ (Nat.le_succ _))⟩
  exact HD1.out.keep (fun q hq => ⟨by have := hq.1; omega, by have h1 := hq.2; rw [U3.size, U2.size]; exact h1⟩) fun q hq j => (U3.cell (by have := hq.1; omega)).trans (U2.cell (by have := hq.1; omega))


end Go.Proofs.YtmdcfmdjbncaoaaDoor
