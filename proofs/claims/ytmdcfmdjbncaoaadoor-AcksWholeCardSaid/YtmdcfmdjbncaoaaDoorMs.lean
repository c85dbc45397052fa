/- Messages in memory. -/
import Derived.Test.YtmdcfmdjbncaoaaDoorE
import Derived.RangeFuncOwn
namespace Go.Proofs.YtmdcfmdjbncaoaaDoor
open Go.RowKit

structure MX where
  id : Int
  topic : ByteArray
  body : Tree
  tat : Int
  til : Int
  reply : ByteArray
  corr : Int
  prio : Int
  hops : Int

/-- A message's cells. -/
def IsM (w : World) (S : Nat → Prop) (m : MX) (cs : List Value) : Prop :=
  ∃ k i b s a n c, cs = [.int .i64 m.id, .string m.topic, .int .i64 k, .int .i64 i, .int .u64 b, .string s, .slice a n c, .int .i64 m.tat, .int .i64 m.til, .string m.reply, .int .i64 m.corr, .int .i64 m.prio, .int .i64 m.hops] ∧
    IsD w S m.body [.int .i64 k, .int .i64 i, .int .u64 b, .string s, .slice a n c] ∧ m.topic.size ≤ maxLen ∧ m.reply.size ≤ maxLen

theorem IsM.keep {w w' : World} {S S' : Nat → Prop} {m : MX} {cs : List Value} (h : IsM w S m cs) (hS : ∀ b, S b → S' b) (hk : ∀ b, S b → ∀ j, w'.cell? ⟨b, j, none⟩ = w.cell? ⟨b, j, none⟩) : IsM w' S' m cs := by
  obtain ⟨k, i, b, s, a, n, c, h1, h2, h3, h4⟩ := h
  exact ⟨k, i, b, s, a, n, c, h1, h2.keep hS hk, h3, h4⟩
theorem keepsM : Keeps IsM := fun _ _ _ _ _ _ hS hk h => h.keep hS fun b hb j => World.cell?_of_block (a := ⟨b, j, none⟩) (hk b hb)
theorem IsM.mono {w : World} {S S' : Nat → Prop} {m : MX} {cs : List Value} (h : IsM w S m cs) (hS : ∀ b, S b → S' b) : IsM w S' m cs := h.keep hS fun _ _ _ => rfl
theorem IsM.under {w w' : World} {S : Nat → Prop} {B : Nat} {m : MX} {cs : List Value} (h : IsM w S m cs) (hb : Below B w w') (hS : ∀ b, S b → b < B) : IsM w' S m cs := h.keep (fun _ h => h) fun b hs j => hb.cell (p := ⟨b, j, none⟩) (hS b hs)
theorem IsM.drew {w : World} {S : Nat → Prop} {m : MX} {cs : List Value} (h : IsM w S m cs) : IsM w.drew S m cs := h.keep (fun _ h => h) fun _ _ _ => rfl
theorem IsM.drewN {w : World} {S : Nat → Prop} {m : MX} {cs : List Value} (h : IsM w S m cs) (n : Nat) : IsM (w.drewN n) S m cs := h.keep (fun _ h => h) fun _ _ _ => rfl
theorem IsM.len {w : World} {S : Nat → Prop} {m : MX} {cs : List Value} (h : IsM w S m cs) : cs.length = 13 := by obtain ⟨_, _, _, _, _, _, _, rfl, _⟩ := h; rfl
theorem IsM.one {w : World} {S : Nat → Prop} {m : MX} {cs : List Value} (h : IsM w S m cs) : ∀ v ∈ cs, v.oneCell' = true := by
  obtain ⟨_, _, _, _, _, _, _, rfl, _⟩ := h
  intro v hv
  simp only [List.mem_cons, List.not_mem_nil, or_false] at hv
  rcases hv with rfl | rfl | rfl | rfl | rfl | rfl | rfl | rfl | rfl | rfl | rfl | rfl | rfl <;> rfl

/-- No message: what a variable holds that nothing was put in. -/
def zeroM : MX := ⟨0, ByteArray.empty, .node 0 0 0 ByteArray.empty [], 0, 0, ByteArray.empty, 0, 0, 0⟩
theorem zeroM_is (w : World) (S : Nat → Prop) : IsM w S zeroM [.int .i64 0, .string ByteArray.empty, .int .i64 0, .int .i64 0, .int .u64 0, .string ByteArray.empty, .slice none 0 0, .int .i64 0, .int .i64 0, .string ByteArray.empty, .int .i64 0, .int .i64 0, .int .i64 0] :=
  ⟨0, 0, 0, ByteArray.empty, none, 0, 0, rfl, IsD.shut (by decide) (by decide) (by decide) (Nat.zero_le _) (RowsOf.nil none 0 (Nat.zero_le _)), Nat.zero_le _, Nat.zero_le _⟩
theorem zeroM_size : zeroM.body.size ≤ 4096 := by show (Tree.node _ _ _ _ []).size ≤ 4096; rw [Tree.size_node, sizes_nil]; omega

theorem infoM : (Tryd.prog.info? 30).map (fun i => (i.zero, i.size, i.bytes)) = some (some (.agg #[.int .i64 0, .string ByteArray.empty, .int .i64 0, .int .i64 0, .int .u64 0, .string ByteArray.empty, .slice none 0 0, .int .i64 0, .int .i64 0, .string ByteArray.empty, .int .i64 0, .int .i64 0, .int .i64 0]), 13, 144) := by kernel_rfl

/-- The list of a message's body may be written. -/
def FreeL (w : World) (S : Nat → Prop) (cs : List Value) : Prop := ∀ a n c, cs[6]? = some (.slice a n c) → 0 < n → ∃ g o u t, a = some ⟨g, o, none⟩ ∧ S g ∧ w.heap[g]? = some (.cells u t (0, 0))
theorem FreeL.fwd {w w' : World} {S S' : Nat → Prop} {cs : List Value} (h : FreeL w S cs) (hS : ∀ b, S b → S' b) (hk : ∀ b o, S b → w.heap[b]? = some o → o.isCells = true → w'.heap[b]? = some o) : FreeL w' S' cs := fun a n c h1 h2 => by
  obtain ⟨g, o, u, t, e, h3, h4⟩ := h a n c h1 h2
  exact ⟨g, o, u, t, e, hS g h3, hk g _ h3 h4 rfl⟩
theorem FreeL.keep {w w' : World} {S S' : Nat → Prop} {cs : List Value} (h : FreeL w S cs) (hS : ∀ b, S b → S' b) (hk : ∀ b, S b → w'.heap[b]? = w.heap[b]?) : FreeL w' S' cs := h.fwd hS fun b _o hb ho _ => (hk b hb).trans ho
theorem FreeL.of_own {w : World} {B T sz n c : Nat} {a : Option Addr} {xs cs : List Value} (h : w.ownsRow B T sz (.slice a n c) n xs) (hc : cs[6]? = some (.slice a n c)) : FreeL w (Btw B w.heap.size) cs := fun a' n' c' h1 h2 => by
  rw [hc] at h1
  injection h1 with h1
  injection h1 with e1 e2 e3
  subst e1 e2 e3
  rcases h.2 with ⟨_, h4⟩ | ⟨g, cap, cur, hv, h3, h4, _⟩
  · omega
  · injection hv with hv
    subst hv
    exact ⟨g, 0, cur, _, rfl, ⟨h3, (Array.getElem?_eq_some_iff.1 h4).1⟩, h4⟩
/-- A message whose body's list may be written. -/
structure IsN (w : World) (S : Nat → Prop) (m : MX) (cs : List Value) : Prop where
  ism : IsM w S m cs
  free : FreeL w S cs
theorem IsN.keep {w w' : World} {S S' : Nat → Prop} {m : MX} {cs : List Value} (h : IsN w S m cs) (hS : ∀ b, S b → S' b) (hk : ∀ b, S b → w'.heap[b]? = w.heap[b]?) : IsN w' S' m cs := ⟨h.ism.keep hS fun b hb j => World.cell?_of_block (a := ⟨b, j, none⟩) (hk b hb), h.free.keep hS hk⟩
theorem keepsN : Keeps IsN := fun _ _ _ _ _ _ hS hk h => h.keep hS hk
theorem IsN.mono {w : World} {S S' : Nat → Prop} {m : MX} {cs : List Value} (h : IsN w S m cs) (hS : ∀ b, S b → S' b) : IsN w S' m cs := h.keep hS fun _ _ => rfl
theorem IsN.under {w w' : World} {S : Nat → Prop} {B : Nat} {m : MX} {cs : List Value} (h : IsN w S m cs) (hb : Below B w w') (hS : ∀ b, S b → b < B) : IsN w' S m cs := h.keep (fun _ h => h) fun b hs => hb.block b (hS b hs)
theorem IsN.len {w : World} {S : Nat → Prop} {m : MX} {cs : List Value} (h : IsN w S m cs) : cs.length = 13 := h.ism.len
theorem IsN.one {w : World} {S : Nat → Prop} {m : MX} {cs : List Value} (h : IsN w S m cs) : ∀ v ∈ cs, v.oneCell' = true := h.ism.one
/-- A message, in memory of its own. -/
def CopiedM (w : World) (m : MX) (e : Ending) (w' : World) : Prop :=
  ∃ k i b s a n c, e = .returned (.agg #[.int .i64 m.id, .string m.topic, .int .i64 k, .int .i64 i, .int .u64 b, .string s, .slice a n c, .int .i64 m.tat, .int .i64 m.til, .string m.reply, .int .i64 m.corr, .int .i64 m.prio, .int .i64 m.hops]) ∧
    IsN w' (Btw w.heap.size w'.heap.size) m [.int .i64 m.id, .string m.topic, .int .i64 k, .int .i64 i, .int .u64 b, .string s, .slice a n c, .int .i64 m.tat, .int .i64 m.til, .string m.reply, .int .i64 m.corr, .int .i64 m.prio, .int .i64 m.hops] ∧ Below w.heap.size w w'
end Go.Proofs.YtmdcfmdjbncaoaaDoor
