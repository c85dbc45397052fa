/- Messages in memory. -/
import Derived.Test.YtmdcfmdjbncaoaaDoorE
namespace Go.Proofs.YtmdcfmdjbncaoaaDoor
open Go.RowKit

structure MX where
  id : Int
  topic : ByteArray
  body : Tree
  tat : Int
  til : Int
  reply : ByteArray
  corr : Int
  prio : Int
  hops : Int

/-- A message's cells. -/
def IsM (w : World) (S : Nat → Prop) (m : MX) (cs : List Value) : Prop :=
  ∃ k i b s a n c, cs = [.int .i64 m.id, .string m.topic, .int .i64 k, .int .i64 i, .int .u64 b, .string s, .slice a n c, .int .i64 m.tat, .int .i64 m.til, .string m.reply, .int .i64 m.corr, .int .i64 m.prio, .int .i64 m.hops] ∧
    IsD w S m.body [.int .i64 k, .int .i64 i, .int .u64 b, .string s, .slice a n c] ∧ m.topic.size ≤ maxLen ∧ m.reply.size ≤ maxLen

theorem keepsM : Keeps IsM := fun _ _ _ _ _ _ hS hk ⟨k, i, b, s, a, n, c, h1, h2, h3, h4⟩ => ⟨k, i, b, s, a, n, c, h1, h2.keep hS hk, h3, h4⟩
theorem IsM.keep {w w' : World} {S S' : Nat → Prop} {m : MX} {cs : List Value} (h : IsM w S m cs) (hS : ∀ b, S b → S' b) (hk : ∀ b, S b → ∀ j, w'.cell? ⟨b, j, none⟩ = w.cell? ⟨b, j, none⟩) : IsM w' S' m cs := keepsM w w' S S' m cs hS hk h
theorem IsM.mono {w : World} {S S' : Nat → Prop} {m : MX} {cs : List Value} (h : IsM w S m cs) (hS : ∀ b, S b → S' b) : IsM w S' m cs := h.keep hS fun _ _ _ => rfl
theorem IsM.under {w w' : World} {S : Nat → Prop} {B : Nat} {m : MX} {cs : List Value} (h : IsM w S m cs) (hb : Below B w w') (hS : ∀ b, S b → b < B) : IsM w' S m cs := h.keep (fun _ h => h) fun b hs j => hb.cell (p := ⟨b, j, none⟩) (hS b hs)
theorem IsM.drew {w : World} {S : Nat → Prop} {m : MX} {cs : List Value} (h : IsM w S m cs) : IsM w.drew S m cs := h.keep (fun _ h => h) fun _ _ _ => rfl
theorem IsM.drewN {w : World} {S : Nat → Prop} {m : MX} {cs : List Value} (h : IsM w S m cs) (n : Nat) : IsM (w.drewN n) S m cs := h.keep (fun _ h => h) fun _ _ _ => rfl
theorem IsM.len {w : World} {S : Nat → Prop} {m : MX} {cs : List Value} (h : IsM w S m cs) : cs.length = 13 := by obtain ⟨_, _, _, _, _, _, _, rfl, _⟩ := h; rfl
theorem IsM.one {w : World} {S : Nat → Prop} {m : MX} {cs : List Value} (h : IsM w S m cs) : ∀ v ∈ cs, v.oneCell' = true := by
  obtain ⟨_, _, _, _, _, _, _, rfl, _⟩ := h
  intro v hv
  simp only [List.mem_cons, List.not_mem_nil, or_false] at hv
  rcases hv with rfl | rfl | rfl | rfl | rfl | rfl | rfl | rfl | rfl | rfl | rfl | rfl | rfl <;> rfl

/-- No message: what a variable holds that nothing was put in. -/
def zeroM : MX := ⟨0, ByteArray.empty, .node 0 0 0 ByteArray.empty [], 0, 0, ByteArray.empty, 0, 0, 0⟩
theorem zeroM_is (w : World) (S : Nat → Prop) : IsM w S zeroM [.int .i64 0, .string ByteArray.empty, .int .i64 0, .int .i64 0, .int .u64 0, .string ByteArray.empty, .slice none 0 0, .int .i64 0, .int .i64 0, .string ByteArray.empty, .int .i64 0, .int .i64 0, .int .i64 0] :=
  ⟨0, 0, 0, ByteArray.empty, none, 0, 0, rfl, IsD.shut (by decide) (by decide) (by decide) (Nat.zero_le _) (RowsOf.nil none 0 (Nat.zero_le _)), Nat.zero_le _, Nat.zero_le _⟩
theorem zeroM_size : zeroM.body.size ≤ 4096 := by show (Tree.node _ _ _ _ []).size ≤ 4096; rw [Tree.size_node, sizes_nil]; omega

theorem infoM : (Tryd.prog.info? 30).map (fun i => (i.zero, i.size, i.bytes)) = some (some (.agg #[.int .i64 0, .string ByteArray.empty, .int .i64 0, .int .i64 0, .int .u64 0, .string ByteArray.empty, .slice none 0 0, .int .i64 0, .int .i64 0, .string ByteArray.empty, .int .i64 0, .int .i64 0, .int .i64 0]), 13, 144) := by kernel_rfl

/-- A message, in memory of its own. -/
def CopiedM (w : World) (m : MX) (e : Ending) (w' : World) : Prop :=
  ∃ k i b s a n c, e = .returned (.agg #[.int .i64 m.id, .string m.topic, .int .i64 k, .int .i64 i, .int .u64 b, .string s, .slice a n c, .int .i64 m.tat, .int .i64 m.til, .string m.reply, .int .i64 m.corr, .int .i64 m.prio, .int .i64 m.hops]) ∧
    IsM w' (Btw w.heap.size w'.heap.size) m [.int .i64 m.id, .string m.topic, .int .i64 k, .int .i64 i, .int .u64 b, .string s, .slice a n c, .int .i64 m.tat, .int .i64 m.til, .string m.reply, .int .i64 m.corr, .int .i64 m.prio, .int .i64 m.hops] ∧ Below w.heap.size w w'
end Go.Proofs.YtmdcfmdjbncaoaaDoor
