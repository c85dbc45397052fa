/- What the reference's Due keeps: four rows in one variable. The reference's Due: the walk. AcksDue: the walk. AcksDue met with its arguments as they come in. -/
import Derived.Test.YtmdcfmdjbncaoaaDoorCl
import Derived.Test.YtmdcfmdjbncaoaaDoorCp
import Derived.Test.YtmdcfmdjbncaoaaDoorCq
import Derived.Test.YtmdcfmdjbncaoaaDoorCqx
/- What the reference's Due keeps: four rows in one variable. -/
namespace Go.Proofs.YtmdcfmdjbncaoaaDoor
open Go.RowKit

/-- The four rows in the variable nb, apart from one another; the rows lie from L on, what they hold from B on. -/
structure EndV (W : World) (B L nb : Nat) (D : DS) (v6 v7 v8 v9 : Value) (S : Nat → Prop) (c6 c7 c8 c9 : List (List Value)) : Prop where
  box : Blk W nb 67 #[v6, v7, v8, v9]
  o6 : OwnE IsS 62 15 W B D.rest v6 S c6
  o7 : OwnE IsM 30 13 W B D.again v7 S c7
  o8 : OwnE IsM 30 13 W B D.dead v8 S c8
  o9 : OwnE IsM 30 13 W B D.late v9 S c9
  l6 : ∀ b, v6.ownBlock = some b → L ≤ b
  l7 : ∀ b, v7.ownBlock = some b → L ≤ b
  l8 : ∀ b, v8.ownBlock = some b → L ≤ b
  l9 : ∀ b, v9.ownBlock = some b → L ≤ b
  d67 : ∀ b, v6.ownBlock = some b → v7.ownBlock ≠ some b
  d68 : ∀ b, v6.ownBlock = some b → v8.ownBlock ≠ some b
  d69 : ∀ b, v6.ownBlock = some b → v9.ownBlock ≠ some b
  d78 : ∀ b, v7.ownBlock = some b → v8.ownBlock ≠ some b
  d79 : ∀ b, v7.ownBlock = some b → v9.ownBlock ≠ some b
  d89 : ∀ b, v8.ownBlock = some b → v9.ownBlock ≠ some b
section
variable {W W' : World} {B L nb : Nat} {D : DS} {v6 v7 v8 v9 : Value} {S S' : Nat → Prop} {c6 c7 c8 c9 : List (List Value)}
theorem EndV.off (h : EndV W B L nb D v6 v7 v8 v9 S c6 c7 c8 c9) (hs : W.heap.size ≤ W'.heap.size)
    (hk : ∀ b, (b = nb ∨ S b ∨ v6.ownBlock = some b ∨ v7.ownBlock = some b ∨ v8.ownBlock = some b ∨ v9.ownBlock = some b) → W'.heap[b]? = W.heap[b]?) : EndV W' B L nb D v6 v7 v8 v9 S c6 c7 c8 c9 :=
  ⟨(hk _ (.inl rfl)).trans h.box,
    h.o6.keep keepsS hs (fun b hb => hk b (by rcases hb with hb | hb; exact .inr (.inl hb); exact .inr (.inr (.inl hb)))),
    h.o7.keep keepsM hs (fun b hb => hk b (by rcases hb with hb | hb; exact .inr (.inl hb); exact .inr (.inr (.inr (.inl hb))))),
    h.o8.keep keepsM hs (fun b hb => hk b (by rcases hb with hb | hb; exact .inr (.inl hb); exact .inr (.inr (.inr (.inr (.inl hb)))))),
    h.o9.keep keepsM hs (fun b hb => hk b (by rcases hb with hb | hb; exact .inr (.inl hb); exact .inr (.inr (.inr (.inr (.inr hb)))))),
    h.l6, h.l7, h.l8, h.l9, h.d67, h.d68, h.d69, h.d78, h.d79, h.d89⟩
theorem EndV.lt (h : EndV W B L nb D v6 v7 v8 v9 S c6 c7 c8 c9) {b : Nat} (hb : b = nb ∨ S b ∨ v6.ownBlock = some b ∨ v7.ownBlock = some b ∨ v8.ownBlock = some b ∨ v9.ownBlock = some b) : b < W.heap.size := by
  rcases hb with hb | hb | hb | hb | hb | hb
  · rw [hb]; exact Blk.lt h.box
  · exact (h.o6.far b hb).2.1
  · exact (h.o6.far_lt b hb).2
  · exact (h.o7.far_lt b hb).2
  · exact (h.o8.far_lt b hb).2
  · exact (h.o9.far_lt b hb).2
theorem EndV.below (h : EndV W B L nb D v6 v7 v8 v9 S c6 c7 c8 c9) (hb : Below W.heap.size W W') : EndV W' B L nb D v6 v7 v8 v9 S c6 c7 c8 c9 := h.off hb.size fun b hx => hb.block b (h.lt hx)
theorem EndV.wider (h : EndV W B L nb D v6 v7 v8 v9 S c6 c7 c8 c9) (hS : ∀ b, S b → S' b) (hf : ∀ b, S' b → B ≤ b ∧ b < W.heap.size ∧ v6.ownBlock ≠ some b ∧ v7.ownBlock ≠ some b ∧ v8.ownBlock ≠ some b ∧ v9.ownBlock ≠ some b) : EndV W B L nb D v6 v7 v8 v9 S' c6 c7 c8 c9 :=
  ⟨h.box, h.o6.wider keepsS hS fun b hb => ⟨(hf b hb).1, (hf b hb).2.1, (hf b hb).2.2.1⟩, h.o7.wider keepsM hS fun b hb => ⟨(hf b hb).1, (hf b hb).2.1, (hf b hb).2.2.2.1⟩,
    h.o8.wider keepsM hS fun b hb => ⟨(hf b hb).1, (hf b hb).2.1, (hf b hb).2.2.2.2.1⟩, h.o9.wider keepsM hS fun b hb => ⟨(hf b hb).1, (hf b hb).2.1, (hf b hb).2.2.2.2.2⟩, h.l6, h.l7, h.l8, h.l9, h.d67, h.d68, h.d69, h.d78, h.d79, h.d89⟩
theorem EndV.grow6 {W5 : World} {ob : Obj} {x : SX} {cs : List Value} {g5 n5 cap5 : Nat} (h : EndV W B L nb D v6 v7 v8 v9 S c6 c7 c8 c9) (hn : nb < B) (hBL : B ≤ L) (hL : L ≤ W.heap.size)
    (hx : IsS W S x cs) (hcs : cs.length = 15) (hown : W5.ownsRow B 62 15 (.slice (some ⟨g5, 0, none⟩) n5 cap5) n5 (c6.flatten ++ cs)) (hl : n5 = D.rest.length + 1) (hg : (W.alloc ob).grownBy W5 v6.ownBlock) (hat : v6.ownBlock = some g5 ∨ g5 = W.heap.size + 1) :
    EndV (W5.setCell ⟨nb, 0, none⟩ (.slice (some ⟨g5, 0, none⟩) n5 cap5)) B L nb { D with rest := D.rest ++ [x] } (.slice (some ⟨g5, 0, none⟩) n5 cap5) v7 v8 v9 S (c6 ++ [cs]) c7 c8 c9 := by
  have hs5 : W.heap.size + 1 ≤ W5.heap.size := by have := hg.size; simpa using this
  have hR := OwnE.snoc keepsS h.o6 hx hcs (fun b hb => h.o6.far b hb) hown hl hg hat
  have hg5 : ∀ b, (Value.slice (some ⟨g5, 0, none⟩) n5 cap5).ownBlock = some b → g5 = b := fun b hb => by simpa [Value.ownBlock] using hb
  have hlo5 : L ≤ g5 := by
    rcases hat with h1 | h1
    · exact h.l6 g5 h1
    · omega
  exact ⟨Blk.set (i := 0) ((far_block hg (Blk.lt h.box) (fun e => by have := (h.o6.far_lt nb e).1; omega)).trans h.box) _,
    ((hR.wider keepsS (S' := S) (fun b hb => by rcases hb with hb | hb <;> exact hb) (fun b hb => hR.far b (.inl hb))).set keepsS (fun hb => by have := (h.o6.far nb hb).1; omega) (fun e => by have := hg5 nb e; omega)),
    ((h.o7.aside keepsM hg (fun b hb => (h.o6.far b hb).2.2) (fun b hb e => h.d67 b e hb)).set keepsM (fun hb => by have := (h.o7.far nb hb).1; omega) (fun e => by have := (h.o7.far_lt nb e).1; omega)),
    ((h.o8.aside keepsM hg (fun b hb => (h.o6.far b hb).2.2) (fun b hb e => h.d68 b e hb)).set keepsM (fun hb => by have := (h.o8.far nb hb).1; omega) (fun e => by have := (h.o8.far_lt nb e).1; omega)),
    ((h.o9.aside keepsM hg (fun b hb => (h.o6.far b hb).2.2) (fun b hb e => h.d69 b e hb)).set keepsM (fun hb => by have := (h.o9.far nb hb).1; omega) (fun e => by have := (h.o9.far_lt nb e).1; omega)),
    (fun b hb => by have := hg5 b hb; omega),
    h.l7,
    h.l8,
    h.l9,
    fun b hb hb2 => by
      obtain rfl := hg5 _ hb
      rcases hat with h1 | h1
      · exact h.d67 _ h1 hb2
      · have := (h.o7.far_lt _ hb2).2; omega,
    fun b hb hb2 => by
      obtain rfl := hg5 _ hb
      rcases hat with h1 | h1
      · exact h.d68 _ h1 hb2
      · have := (h.o8.far_lt _ hb2).2; omega,
    fun b hb hb2 => by
      obtain rfl := hg5 _ hb
      rcases hat with h1 | h1
      · exact h.d69 _ h1 hb2
      · have := (h.o9.far_lt _ hb2).2; omega,
    h.d78,
    h.d79,
    h.d89⟩
theorem EndV.below6 {w W5 : World} {ob : Obj} {A : Nat} (h : EndV W B L nb D v6 v7 v8 v9 S c6 c7 c8 c9) (hT : Below A w W) (hB : A ≤ B) (hn : A ≤ nb) (hL : A ≤ W.heap.size) (hg : (W.alloc ob).grownBy W5 v6.ownBlock) (u : Value) : Below A w (W5.setCell ⟨nb, 0, none⟩ u) :=
  ((hT.alloc hL _).grown hg (by simp; omega) (fun q hq => by have := (h.o6.far_lt q hq).1; omega)).setCell hn _
theorem EndV.far6 {W5 : World} {ob : Obj} (h : EndV W B L nb D v6 v7 v8 v9 S c6 c7 c8 c9) (hL : L ≤ W.heap.size) (hg : (W.alloc ob).grownBy W5 v6.ownBlock) (u : Value) : ∀ b, b ≠ nb → b < L → (W5.setCell ⟨nb, 0, none⟩ u).heap[b]? = W.heap[b]? := fun b h1 h2 =>
  (heap_set (p := ⟨nb, 0, none⟩) h1).trans (far_block hg (by omega) (fun e => by have := h.l6 b e; omega))
theorem EndV.grow7 {W5 : World} {ob : Obj} {x : MX} {cs : List Value} {g5 n5 cap5 : Nat} (h : EndV W B L nb D v6 v7 v8 v9 S c6 c7 c8 c9) (hn : nb < B) (hBL : B ≤ L) (hL : L ≤ W.heap.size)
    (hx : IsM W S x cs) (hcs : cs.length = 13) (hown : W5.ownsRow B 30 13 (.slice (some ⟨g5, 0, none⟩) n5 cap5) n5 (c7.flatten ++ cs)) (hl : n5 = D.again.length + 1) (hg : (W.alloc ob).grownBy W5 v7.ownBlock) (hat : v7.ownBlock = some g5 ∨ g5 = W.heap.size + 1) :
    EndV (W5.setCell ⟨nb, 1, none⟩ (.slice (some ⟨g5, 0, none⟩) n5 cap5)) B L nb { D with again := D.again ++ [x] } v6 (.slice (some ⟨g5, 0, none⟩) n5 cap5) v8 v9 S c6 (c7 ++ [cs]) c8 c9 := by
  have hs5 : W.heap.size + 1 ≤ W5.heap.size := by have := hg.size; simpa using this
  have hR := OwnE.snoc keepsM h.o7 hx hcs (fun b hb => h.o7.far b hb) hown hl hg hat
  have hg5 : ∀ b, (Value.slice (some ⟨g5, 0, none⟩) n5 cap5).ownBlock = some b → g5 = b := fun b hb => by simpa [Value.ownBlock] using hb
  have hlo5 : L ≤ g5 := by
    rcases hat with h1 | h1
    · exact h.l7 g5 h1
    · omega
  exact ⟨Blk.set (i := 1) ((far_block hg (Blk.lt h.box) (fun e => by have := (h.o7.far_lt nb e).1; omega)).trans h.box) _,
    ((h.o6.aside keepsS hg (fun b hb => (h.o7.far b hb).2.2) (fun b hb => h.d67 b hb)).set keepsS (fun hb => by have := (h.o6.far nb hb).1; omega) (fun e => by have := (h.o6.far_lt nb e).1; omega)),
    ((hR.wider keepsM (S' := S) (fun b hb => by rcases hb with hb | hb <;> exact hb) (fun b hb => hR.far b (.inl hb))).set keepsM (fun hb => by have := (h.o7.far nb hb).1; omega) (fun e => by have := hg5 nb e; omega)),
    ((h.o8.aside keepsM hg (fun b hb => (h.o7.far b hb).2.2) (fun b hb e => h.d78 b e hb)).set keepsM (fun hb => by have := (h.o8.far nb hb).1; omega) (fun e => by have := (h.o8.far_lt nb e).1; omega)),
    ((h.o9.aside keepsM hg (fun b hb => (h.o7.far b hb).2.2) (fun b hb e => h.d79 b e hb)).set keepsM (fun hb => by have := (h.o9.far nb hb).1; omega) (fun e => by have := (h.o9.far_lt nb e).1; omega)),
    h.l6,
    (fun b hb => by have := hg5 b hb; omega),
    h.l8,
    h.l9,
    fun b hb hb2 => by
      obtain rfl := hg5 _ hb2
      rcases hat with h1 | h1
      · exact h.d67 _ hb h1
      · have := (h.o6.far_lt _ hb).2; omega,
    h.d68,
    h.d69,
    fun b hb hb2 => by
      obtain rfl := hg5 _ hb
      rcases hat with h1 | h1
      · exact h.d78 _ h1 hb2
      · have := (h.o8.far_lt _ hb2).2; omega,
    fun b hb hb2 => by
      obtain rfl := hg5 _ hb
      rcases hat with h1 | h1
      · exact h.d79 _ h1 hb2
      · have := (h.o9.far_lt _ hb2).2; omega,
    h.d89⟩
theorem EndV.below7 {w W5 : World} {ob : Obj} {A : Nat} (h : EndV W B L nb D v6 v7 v8 v9 S c6 c7 c8 c9) (hT : Below A w W) (hB : A ≤ B) (hn : A ≤ nb) (hL : A ≤ W.heap.size) (hg : (W.alloc ob).grownBy W5 v7.ownBlock) (u : Value) : Below A w (W5.setCell ⟨nb, 1, none⟩ u) :=
  ((hT.alloc hL _).grown hg (by simp; omega) (fun q hq => by have := (h.o7.far_lt q hq).1; omega)).setCell hn _
theorem EndV.far7 {W5 : World} {ob : Obj} (h : EndV W B L nb D v6 v7 v8 v9 S c6 c7 c8 c9) (hL : L ≤ W.heap.size) (hg : (W.alloc ob).grownBy W5 v7.ownBlock) (u : Value) : ∀ b, b ≠ nb → b < L → (W5.setCell ⟨nb, 1, none⟩ u).heap[b]? = W.heap[b]? := fun b h1 h2 =>
  (heap_set (p := ⟨nb, 1, none⟩) h1).trans (far_block hg (by omega) (fun e => by have := h.l7 b e; omega))
theorem EndV.grow8 {W5 : World} {ob : Obj} {x : MX} {cs : List Value} {g5 n5 cap5 : Nat} (h : EndV W B L nb D v6 v7 v8 v9 S c6 c7 c8 c9) (hn : nb < B) (hBL : B ≤ L) (hL : L ≤ W.heap.size)
    (hx : IsM W S x cs) (hcs : cs.length = 13) (hown : W5.ownsRow B 30 13 (.slice (some ⟨g5, 0, none⟩) n5 cap5) n5 (c8.flatten ++ cs)) (hl : n5 = D.dead.length + 1) (hg : (W.alloc ob).grownBy W5 v8.ownBlock) (hat : v8.ownBlock = some g5 ∨ g5 = W.heap.size + 1) :
    EndV (W5.setCell ⟨nb, 2, none⟩ (.slice (some ⟨g5, 0, none⟩) n5 cap5)) B L nb { D with dead := D.dead ++ [x] } v6 v7 (.slice (some ⟨g5, 0, none⟩) n5 cap5) v9 S c6 c7 (c8 ++ [cs]) c9 := by
  have hs5 : W.heap.size + 1 ≤ W5.heap.size := by have := hg.size; simpa using this
  have hR := OwnE.snoc keepsM h.o8 hx hcs (fun b hb => h.o8.far b hb) hown hl hg hat
  have hg5 : ∀ b, (Value.slice (some ⟨g5, 0, none⟩) n5 cap5).ownBlock = some b → g5 = b := fun b hb => by simpa [Value.ownBlock] using hb
  have hlo5 : L ≤ g5 := by
    rcases hat with h1 | h1
    · exact h.l8 g5 h1
    · omega
  exact ⟨Blk.set (i := 2) ((far_block hg (Blk.lt h.box) (fun e => by have := (h.o8.far_lt nb e).1; omega)).trans h.box) _,
    ((h.o6.aside keepsS hg (fun b hb => (h.o8.far b hb).2.2) (fun b hb => h.d68 b hb)).set keepsS (fun hb => by have := (h.o6.far nb hb).1; omega) (fun e => by have := (h.o6.far_lt nb e).1; omega)),
    ((h.o7.aside keepsM hg (fun b hb => (h.o8.far b hb).2.2) (fun b hb => h.d78 b hb)).set keepsM (fun hb => by have := (h.o7.far nb hb).1; omega) (fun e => by have := (h.o7.far_lt nb e).1; omega)),
    ((hR.wider keepsM (S' := S) (fun b hb => by rcases hb with hb | hb <;> exact hb) (fun b hb => hR.far b (.inl hb))).set keepsM (fun hb => by have := (h.o8.far nb hb).1; omega) (fun e => by have := hg5 nb e; omega)),
    ((h.o9.aside keepsM hg (fun b hb => (h.o8.far b hb).2.2) (fun b hb e => h.d89 b e hb)).set keepsM (fun hb => by have := (h.o9.far nb hb).1; omega) (fun e => by have := (h.o9.far_lt nb e).1; omega)),
    h.l6,
    h.l7,
    (fun b hb => by have := hg5 b hb; omega),
    h.l9,
    h.d67,
    fun b hb hb2 => by
      obtain rfl := hg5 _ hb2
      rcases hat with h1 | h1
      · exact h.d68 _ hb h1
      · have := (h.o6.far_lt _ hb).2; omega,
    h.d69,
    fun b hb hb2 => by
      obtain rfl := hg5 _ hb2
      rcases hat with h1 | h1
      · exact h.d78 _ hb h1
      · have := (h.o7.far_lt _ hb).2; omega,
    h.d79,
    fun b hb hb2 => by
      obtain rfl := hg5 _ hb
      rcases hat with h1 | h1
      · exact h.d89 _ h1 hb2
      · have := (h.o9.far_lt _ hb2).2; omega⟩
theorem EndV.below8 {w W5 : World} {ob : Obj} {A : Nat} (h : EndV W B L nb D v6 v7 v8 v9 S c6 c7 c8 c9) (hT : Below A w W) (hB : A ≤ B) (hn : A ≤ nb) (hL : A ≤ W.heap.size) (hg : (W.alloc ob).grownBy W5 v8.ownBlock) (u : Value) : Below A w (W5.setCell ⟨nb, 2, none⟩ u) :=
  ((hT.alloc hL _).grown hg (by simp; omega) (fun q hq => by have := (h.o8.far_lt q hq).1; omega)).setCell hn _
theorem EndV.far8 {W5 : World} {ob : Obj} (h : EndV W B L nb D v6 v7 v8 v9 S c6 c7 c8 c9) (hL : L ≤ W.heap.size) (hg : (W.alloc ob).grownBy W5 v8.ownBlock) (u : Value) : ∀ b, b ≠ nb → b < L → (W5.setCell ⟨nb, 2, none⟩ u).heap[b]? = W.heap[b]? := fun b h1 h2 =>
  (heap_set (p := ⟨nb, 2, none⟩) h1).trans (far_block hg (by omega) (fun e => by have := h.l8 b e; omega))
theorem EndV.grow9 {W5 : World} {ob : Obj} {x : MX} {cs : List Value} {g5 n5 cap5 : Nat} (h : EndV W B L nb D v6 v7 v8 v9 S c6 c7 c8 c9) (hn : nb < B) (hBL : B ≤ L) (hL : L ≤ W.heap.size)
    (hx : IsM W S x cs) (hcs : cs.length = 13) (hown : W5.ownsRow B 30 13 (.slice (some ⟨g5, 0, none⟩) n5 cap5) n5 (c9.flatten ++ cs)) (hl : n5 = D.late.length + 1) (hg : (W.alloc ob).grownBy W5 v9.ownBlock) (hat : v9.ownBlock = some g5 ∨ g5 = W.heap.size + 1) :
    EndV (W5.setCell ⟨nb, 3, none⟩ (.slice (some ⟨g5, 0, none⟩) n5 cap5)) B L nb { D with late := D.late ++ [x] } v6 v7 v8 (.slice (some ⟨g5, 0, none⟩) n5 cap5) S c6 c7 c8 (c9 ++ [cs]) := by
  have hs5 : W.heap.size + 1 ≤ W5.heap.size := by have := hg.size; simpa using this
  have hR := OwnE.snoc keepsM h.o9 hx hcs (fun b hb => h.o9.far b hb) hown hl hg hat
  have hg5 : ∀ b, (Value.slice (some ⟨g5, 0, none⟩) n5 cap5).ownBlock = some b → g5 = b := fun b hb => by simpa [Value.ownBlock] using hb
  have hlo5 : L ≤ g5 := by
    rcases hat with h1 | h1
    · exact h.l9 g5 h1
    · omega
  exact ⟨Blk.set (i := 3) ((far_block hg (Blk.lt h.box) (fun e => by have := (h.o9.far_lt nb e).1; omega)).trans h.box) _,
    ((h.o6.aside keepsS hg (fun b hb => (h.o9.far b hb).2.2) (fun b hb => h.d69 b hb)).set keepsS (fun hb => by have := (h.o6.far nb hb).1; omega) (fun e => by have := (h.o6.far_lt nb e).1; omega)),
    ((h.o7.aside keepsM hg (fun b hb => (h.o9.far b hb).2.2) (fun b hb => h.d79 b hb)).set keepsM (fun hb => by have := (h.o7.far nb hb).1; omega) (fun e => by have := (h.o7.far_lt nb e).1; omega)),
    ((h.o8.aside keepsM hg (fun b hb => (h.o9.far b hb).2.2) (fun b hb => h.d89 b hb)).set keepsM (fun hb => by have := (h.o8.far nb hb).1; omega) (fun e => by have := (h.o8.far_lt nb e).1; omega)),
    ((hR.wider keepsM (S' := S) (fun b hb => by rcases hb with hb | hb <;> exact hb) (fun b hb => hR.far b (.inl hb))).set keepsM (fun hb => by have := (h.o9.far nb hb).1; omega) (fun e => by have := hg5 nb e; omega)),
    h.l6,
    h.l7,
    h.l8,
    (fun b hb => by have := hg5 b hb; omega),
    h.d67,
    h.d68,
    fun b hb hb2 => by
      obtain rfl := hg5 _ hb2
      rcases hat with h1 | h1
      · exact h.d69 _ hb h1
      · have := (h.o6.far_lt _ hb).2; omega,
    h.d78,
    fun b hb hb2 => by
      obtain rfl := hg5 _ hb2
      rcases hat with h1 | h1
      · exact h.d79 _ hb h1
      · have := (h.o7.far_lt _ hb).2; omega,
    fun b hb hb2 => by
      obtain rfl := hg5 _ hb2
      rcases hat with h1 | h1
      · exact h.d89 _ hb h1
      · have := (h.o8.far_lt _ hb).2; omega⟩
theorem EndV.below9 {w W5 : World} {ob : Obj} {A : Nat} (h : EndV W B L nb D v6 v7 v8 v9 S c6 c7 c8 c9) (hT : Below A w W) (hB : A ≤ B) (hn : A ≤ nb) (hL : A ≤ W.heap.size) (hg : (W.alloc ob).grownBy W5 v9.ownBlock) (u : Value) : Below A w (W5.setCell ⟨nb, 3, none⟩ u) :=
  ((hT.alloc hL _).grown hg (by simp; omega) (fun q hq => by have := (h.o9.far_lt q hq).1; omega)).setCell hn _
theorem EndV.far9 {W5 : World} {ob : Obj} (h : EndV W B L nb D v6 v7 v8 v9 S c6 c7 c8 c9) (hL : L ≤ W.heap.size) (hg : (W.alloc ob).grownBy W5 v9.ownBlock) (u : Value) : ∀ b, b ≠ nb → b < L → (W5.setCell ⟨nb, 3, none⟩ u).heap[b]? = W.heap[b]? := fun b h1 h2 =>
  (heap_set (p := ⟨nb, 3, none⟩) h1).trans (far_block hg (by omega) (fun e => by have := h.l9 b e; omega))
end
end Go.Proofs.YtmdcfmdjbncaoaaDoor
/- The reference's Due: the walk. -/
namespace Go.Proofs.YtmdcfmdjbncaoaaDoor
open Go.RowKit
attribute [local go_sem ↓] Go.wp_at_zero Go.wp_at_succ
attribute [local go_sem] Go.undef

/-- What the reference's Due leaves. -/
def DueE (w : World) (D : DS) (e : Ending) (w' : World) : Prop :=
  ∃ a6 k6 a7 k7 a8 k8 a9 k9, e = .returned (.agg #[.slice a6 D.rest.length k6, .slice a7 D.again.length k7, .slice a8 D.dead.length k8, .slice a9 D.late.length k9]) ∧
    RS w' (Btw w.heap.size w'.heap.size) D.rest a6 D.rest.length k6 ∧ RM w' (Btw w.heap.size w'.heap.size) D.again a7 D.again.length k7 ∧ RM w' (Btw w.heap.size w'.heap.size) D.dead a8 D.dead.length k8 ∧
    RM w' (Btw w.heap.size w'.heap.size) D.late a9 D.late.length k9 ∧ Below w.heap.size w w'
theorem sizeE : (Tryd.prog.info? 67).map (·.size) = some 4 := by kernel_rfl
/-- The tries of what waits. -/
def triesT (l : List SX) (p : PX) : Prop := ∀ x ∈ l, 0 ≤ x.tries ∧ x.tries ≤ 1000 ∧ x.tries ≤ p.tries

def EndI (w w2 : World) (L : Nat) (l : List SX) (p : PX) (now : Int) (j : Nat) (wr : World) : Prop :=
  (∃ v6 v7 v8 v9 S c6 c7 c8 c9, EndV wr (w.heap.size + 3) L (w.heap.size + 2) (dueS (l.take j) p now) v6 v7 v8 v9 S c6 c7 c8 c9) ∧ (∀ b, b ≠ w.heap.size + 2 → b < L → wr.heap[b]? = w2.heap[b]?) ∧ Below w.heap.size w wr ∧ L ≤ wr.heap.size

set_option maxHeartbeats 16000000 in
set_option maxRecDepth 100000 in
theorem duer_any (l : List SX) (p : PX) (now : Int) (a : Option Addr) (n c : Nat) (S : Nat → Prop) (w : World) (hrow : RS w S l a n c) (hS : ∀ b, S b → b < w.heap.size) (hsm : smallS l) (hst : triesT l p) (hn : n ≤ 65536) (hp : FitP p) (hw0 : 0 ≤ now) (hw1 : now ≤ 1099511627776) :
    Calls Tryd.prog 32 #[.slice a n c, .agg #[.int .i64 p.tries, .int .i64 p.base, .int .i64 p.most], .int .i64 now] w (DueE w (dueS l p now)) := by
  obtain ⟨iM, hiM, hzM, hzM1, hzM2⟩ := info_parts infoM
  obtain ⟨iS, hiS, hzS, hzS1, hzS2⟩ := info_parts infoS
  obtain rfl : n = l.length := hrow.1
  obtain ⟨W, hWd⟩ : ∃ W, W = ((w.alloc (.cells #[.int .i64 p.tries, .int .i64 p.base, .int .i64 p.most] 52)).alloc (.cells #[.slice none 0 0, .slice none 0 0, .slice none 0 0, .slice none 0 0] 67)).alloc (.cells #[.slice none 0 0, .slice none 0 0, .slice none 0 0, .slice none 0 0] 67) := ⟨_, rfl⟩
  have hW : Below w.heap.size w W := by rw [hWd]; go_grown
  have hs0 : w.heap.size + 3 = W.heap.size := by rw [hWd]; simp
  have B4 : Hid (Blk W w.heap.size 52 #[.int .i64 p.tries, .int .i64 p.base, .int .i64 p.most]) := by show Blk _ _ _ _; rw [hWd]; exact ((Blk.new _ _ _).alloc _).alloc _
  have B6 : Hid (Blk W (w.heap.size + 1) 67 #[.slice none 0 0, .slice none 0 0, .slice none 0 0, .slice none 0 0]) := by show Blk _ _ _ _; rw [hWd]; exact (Blk.new' _ _ _ (by simp)).alloc _
  have B7 : Hid (Blk W (w.heap.size + 2) 67 #[.slice none 0 0, .slice none 0 0, .slice none 0 0, .slice none 0 0]) := by show Blk _ _ _ _; rw [hWd]; exact Blk.new' _ _ _ (by simp)
  have HROW := Lib.hid hrow
  have HS := Lib.hid hS
  have HSM := Lib.hid hsm
  have HST := Lib.hid hst
  have HP := Lib.hid hp
  have HNW := Lib.hid (And.intro hw0 hw1)
  have T := Lib.hid hW
  have HWD := Lib.hid hWd
  have HS0 := Lib.hid hs0
  clear hrow hS hsm hst hp hw0 hw1 hW hWd hs0
  go_enter Tryd.func32, Tryd.ntmps32
  go_upto_region 2 with fail
  show Code.wp _ _ _ _ (((w.alloc (.cells #[.int .i64 p.tries, .int .i64 p.base, .int .i64 p.most] 52)).alloc (.cells #[.slice none 0 0, .slice none 0 0, .slice none 0 0, .slice none 0 0] 67)).alloc (.cells #[.slice none 0 0, .slice none 0 0, .slice none 0 0, .slice none 0 0] 67))
  rw [← HWD.out]
  clear HWD
  have HC := Lib.hid (copys_any l a l.length c S W (RS.under HROW.out T.out HS.out) (fun b hb => Nat.lt_of_lt_of_le (HS.out b hb) T.out.size) HSM.out (by omega))
  go_wp2_with fail
  refine HC.out.mono ?_
  rintro e w2 ⟨a8, c8', S8, css8, rfl, ho, hb2⟩
  have hcc : c8' ≤ maxLen := (ho.rows keepsS).2.2.1
  have hlc : l.length ≤ c8' := (ho.rows keepsS).2.1
  unfold maxLen at hcc
  have HR8 : Hid (RS w2 (Btw W.heap.size w2.heap.size) l a8 l.length c8') := ho.rows keepsS
  have hLs : W.heap.size ≤ w2.heap.size := hb2.size
  have HB2 := Lib.hid hb2
  have B42 := Lib.hid (Blk.on B4.out hb2)
  have B62 := Lib.hid (Blk.on B6.out hb2)
  have B72 := Lib.hid (Blk.on B7.out hb2)
  have hs3 : w.heap.size + 3 ≤ W.heap.size := Nat.le_of_eq HS0.out
  have hs4 : W.heap.size ≤ w.heap.size + 3 := Nat.le_of_eq HS0.out.symm
  have T2 := Lib.hid (below_on hb2 T.out)
  obtain ⟨L, hL⟩ : ∃ L, L = w2.heap.size := ⟨_, rfl⟩
  have hL1 : L ≤ w2.heap.size := Nat.le_of_eq hL
  have hL2 : w2.heap.size ≤ L := Nat.le_of_eq hL.symm
  clear ho hb2 HC hL
  go_upto_region 4 with fail
  go_loopw [9] (fun iv wr => ∃ j : Nat, iv = .int .i64 j ∧ j ≤ l.length ∧ EndI w w2 L l p now j wr) (fun i _ => l.length - (intOf i).toNat)
  case atStart =>
    exact ⟨0, rfl, Nat.zero_le _, ⟨_, _, _, _, fun _ => False, [], [], [], [], ⟨B72.out, OwnE.nil _ _, OwnE.nil _ _, OwnE.nil _ _, OwnE.nil _ _, fun b h => by simp [Value.ownBlock] at h, fun b h => by simp [Value.ownBlock] at h, fun b h => by simp [Value.ownBlock] at h, fun b h => by simp [Value.ownBlock] at h,
      fun b h => by simp [Value.ownBlock] at h, fun b h => by simp [Value.ownBlock] at h, fun b h => by simp [Value.ownBlock] at h, fun b h => by simp [Value.ownBlock] at h, fun b h => by simp [Value.ownBlock] at h, fun b h => by simp [Value.ownBlock] at h⟩⟩, fun _ _ _ => rfl, T2.out, hL1⟩
  case round =>
    obtain ⟨j, rfl, hj, ⟨v6, v7, v8, v9, S1, c6, c7, c8, c9, hv⟩, hk, hbel, hLr⟩ := hrel
    by_cases hlt : j < l.length
    · obtain ⟨g, o, y, ys, rfl, hSg, hy, ⟨ms, hms, rfl⟩, hyl, hr⟩ := HR8.out.get hlt
      obtain ⟨ky, iy, bY, sy, ay, ny, cy, rfl, -, -, -⟩ := id hms
      have hnb : g ≠ w.heap.size + 2 := by have := hSg.1; omega
      have hgL : g < L := by have := hSg.2; omega
      have hr2 : wr.rangeAt g (o + j * 15) [.int .i64 y.m.id, .string y.m.topic, .int .i64 ky, .int .i64 iy, .int .u64 bY, .string sy, .slice ay ny cy, .int .i64 y.m.tat, .int .i64 y.m.til, .string y.m.reply, .int .i64 y.m.corr, .int .i64 y.m.prio, .int .i64 y.m.hops, .int .i64 y.tries, .int .i64 y.due] := rangeAt_keep hr fun q => World.cell?_of_block (a := ⟨g, q, none⟩) (hk g hnb hgL)
      obtain ⟨S', hS'⟩ : ∃ S' : Nat → Prop, S' = fun b => S1 b ∨ Btw W.heap.size w2.heap.size b := ⟨_, rfl⟩
      have hv0 : EndV wr (w.heap.size + 3) L (w.heap.size + 2) (dueS (l.take j) p now) v6 v7 v8 v9 S' c6 c7 c8 c9 := by
        rw [hS']
        refine hv.wider (fun _ h => .inl h) (fun b hb => ?_)
        rcases hb with hb | hb
        · exact ⟨(hv.o6.far b hb).1, (hv.o6.far b hb).2.1, (hv.o6.far b hb).2.2, (hv.o7.far b hb).2.2, (hv.o8.far b hb).2.2, (hv.o9.far b hb).2.2⟩
        · obtain ⟨q1, q2⟩ := hb
          exact ⟨by omega, by omega, fun e => by have := hv.l6 b e; omega, fun e => by have := hv.l7 b e; omega, fun e => by have := hv.l8 b e; omega, fun e => by have := hv.l9 b e; omega⟩
      have hm0 : IsM wr S' y.m [.int .i64 y.m.id, .string y.m.topic, .int .i64 ky, .int .i64 iy, .int .u64 bY, .string sy, .slice ay ny cy, .int .i64 y.m.tat, .int .i64 y.m.til, .string y.m.reply, .int .i64 y.m.corr, .int .i64 y.m.prio, .int .i64 y.m.hops] := hms.keep (fun b h => by rw [hS']; exact .inr h) (fun b hb j => World.cell?_of_block (a := ⟨b, j, none⟩) (hk b (by have := hb.1; omega) (by have := hb.2; omega)))
      have HDS := Lib.hid (dueS_snoc (p := p) (now := now) hy)
      have hdl := dueS_len (l.take j) p now
      have htl : (l.take j).length ≤ l.length := by rw [List.length_take]; omega
      obtain ⟨D, hD⟩ : ∃ D, D = dueS (l.take j) p now := ⟨_, rfl⟩
      rw [← hD] at hdl hv0 HDS
      obtain ⟨dl1, dl2, dl3, dl4⟩ := hdl
      have hzy := HSM.out y (List.mem_of_getElem? hy)
      have HTR := Lib.hid (HST.out y (List.mem_of_getElem? hy))
      have htp : y.tries ≤ p.tries := HTR.out.2.2
      have hj0 : (0 : Int) ≤ (j : Int) := by omega
      have hj1 : (j : Int) < (l.length : Int) := by omega
      go_upto_region 11 with (first
        | (refine wpList_load_blk rfl 62 _ rfl g (o + j * 15) rfl [.int .i64 y.m.id, .string y.m.topic, .int .i64 ky, .int .i64 iy, .int .u64 bY, .string sy, .slice ay ny cy, .int .i64 y.m.tat, .int .i64 y.m.til, .string y.m.reply, .int .i64 y.m.corr, .int .i64 y.m.prio, .int .i64 y.m.hops, .int .i64 y.tries, .int .i64 y.due] _ hr2 Tryd.underlying62 rfl sizeS ?_)
        | (refine wpList_store_blk (T := 62) rfl 62 _ _ rfl (wr.heap.size) 0 [] [.int .i64 0, .string ByteArray.empty, .int .i64 0, .int .i64 0, .int .u64 0, .string ByteArray.empty, .slice none 0 0, .int .i64 0, .int .i64 0, .string ByteArray.empty, .int .i64 0, .int .i64 0, .int .i64 0, .int .i64 0, .int .i64 0] [] [.int .i64 y.m.id, .string y.m.topic, .int .i64 ky, .int .i64 iy, .int .u64 bY, .string sy, .slice ay ny cy, .int .i64 y.m.tat, .int .i64 y.m.til, .string y.m.reply, .int .i64 y.m.corr, .int .i64 y.m.prio, .int .i64 y.m.hops, .int .i64 y.tries, .int .i64 y.due] rfl rfl (Blk.new wr _ _) rfl rfl sizeS (by simp [Value.oneCell']) ?_; intro w1 BX1 U1))
      have hb1 : Below wr.heap.size wr w1 := ((Below.refl wr.heap.size wr).alloc (Nat.le_refl _) _).trans (U1.below _ (Nat.le_refl _))
      have hs1 : wr.heap.size + 1 ≤ w1.heap.size := by rw [U1.size]; simp
      obtain ⟨gx, hgx⟩ : ∃ gx, gx = wr.heap.size := ⟨_, rfl⟩
      have BX := BX1
      rw [← hgx] at BX ⊢
      have hx1 : gx ≤ wr.heap.size := Nat.le_of_eq hgx
      have hx2 : wr.heap.size ≤ gx := Nat.le_of_eq hgx.symm
      have HBX := Lib.hid BX
      have HV := Lib.hid (hv0.below hb1)
      have HSB : Hid (∀ b, S' b → b < gx) := fun b hb => by have := (hv0.o6.far b hb).2.1; omega
      have HRX : Hid (¬ (v6.ownBlock = some gx ∨ v7.ownBlock = some gx ∨ v8.ownBlock = some gx ∨ v9.ownBlock = some gx)) := fun h => by
        rcases h with h | h | h | h
        · have := (hv0.o6.far_lt gx h).2; omega
        · have := (hv0.o7.far_lt gx h).2; omega
        · have := (hv0.o8.far_lt gx h).2; omega
        · have := (hv0.o9.far_lt gx h).2; omega
      have HM0 : Hid (IsM w1 S' y.m [.int .i64 y.m.id, .string y.m.topic, .int .i64 ky, .int .i64 iy, .int .u64 bY, .string sy, .slice ay ny cy, .int .i64 y.m.tat, .int .i64 y.m.til, .string y.m.reply, .int .i64 y.m.corr, .int .i64 y.m.prio, .int .i64 y.m.hops]) := hm0.under hb1 (fun b hb => (hv0.o6.far b hb).2.1)
      have HX0 : Hid (IsS w1 S' y [.int .i64 y.m.id, .string y.m.topic, .int .i64 ky, .int .i64 iy, .int .u64 bY, .string sy, .slice ay ny cy, .int .i64 y.m.tat, .int .i64 y.m.til, .string y.m.reply, .int .i64 y.m.corr, .int .i64 y.m.prio, .int .i64 y.m.hops, .int .i64 y.tries, .int .i64 y.due]) := ⟨_, HM0.out, rfl⟩
      have HK : Hid (∀ b, b ≠ w.heap.size + 2 → b < L → w1.heap[b]? = w2.heap[b]?) := fun b h1 h2 => (hb1.block b (by omega)).trans (hk b h1 h2)
      have T1 : Hid (Below w.heap.size w w1) := hbel.trans (hb1.mono (by omega))
      have HPB1 : Hid (Blk w1 w.heap.size 52 #[.int .i64 p.tries, .int .i64 p.base, .int .i64 p.most]) := (HK.out _ (by omega) (by omega)).trans B42.out
      clear hv hv0 hm0 hD hS' hr hr2 hy hms hyl hSg hk hbel BX BX1 U1 hb1 hgx
      have k8 := HBX.out.cell 8
      have k13 := HBX.out.cell 13
      have k14 := HBX.out.cell 14
      have k40 := HPB1.out.cell 0
      by_cases h0 : y.m.til = 0
      · have HNA : Hid (¬ (y.m.til ≠ 0 ∧ y.m.til < now)) := fun h => h.1 h0
        have e0 : (y.m.til != 0) = false := by rw [h0]; rfl
        clear h0
        by_cases h2 : now < y.due
        · have HCL : Hid (clsS y.m.til y.due y.tries p now = 1) := by show clsS _ _ _ _ _ = _; rw [clsS, if_neg HNA.out, if_pos h2]
          have gc6 : w1.cell? ⟨w.heap.size + 2, 0, none⟩ = some v6 := HV.out.box.cell 0
          go_wp2_with (first
            | (refine wpList_load_blk rfl 62 _ rfl gx 0 rfl [.int .i64 y.m.id, .string y.m.topic, .int .i64 ky, .int .i64 iy, .int .u64 bY, .string sy, .slice ay ny cy, .int .i64 y.m.tat, .int .i64 y.m.til, .string y.m.reply, .int .i64 y.m.corr, .int .i64 y.m.prio, .int .i64 y.m.hops, .int .i64 y.tries, .int .i64 y.due] _ (Blk.range (pre := []) (post := []) HBX.out rfl) Tryd.underlying62 rfl sizeS ?_)
            | (at_builtin
               go_loud (refine wpList_append_lies _ rfl _ _ _ rfl (w.heap.size + 3) 62 iS _ 15 160 Tryd.underlying50 hiS hzS hzS1 hzS2 rfl (by omega) _ D.rest.length c6.flatten rfl (HV.out.o6.row.alloc _) ⟨w1.heap.size, 0, none⟩ 1 1 [.int .i64 y.m.id, .string y.m.topic, .int .i64 ky, .int .i64 iy, .int .u64 bY, .string sy, .slice ay ny cy, .int .i64 y.m.tat, .int .i64 y.m.til, .string y.m.reply, .int .i64 y.m.corr, .int .i64 y.m.prio, .int .i64 y.m.hops, .int .i64 y.tries, .int .i64 y.due] rfl rfl (World.news_of_block (cs := #[.int .i64 y.m.id, .string y.m.topic, .int .i64 ky, .int .i64 iy, .int .u64 bY, .string sy, .slice ay ny cy, .int .i64 y.m.tat, .int .i64 y.m.til, .string y.m.reply, .int .i64 y.m.corr, .int .i64 y.m.prio, .int .i64 y.m.hops, .int .i64 y.tries, .int .i64 y.due]) (t := 62) (fr := (0, 0)) (heap_alloc_new w1 _)) HX0.out.one (by omega) (by unfold maxLen; omega) (by omega) (by simp; omega) (w1.heap.size + 1) (by simp) ?_)
               intro g5 cap5 w5 hown5 hgrow5 hat5 hlt5
               have cc : w5.cell? ⟨w.heap.size + 2, 0, none⟩ = some v6 := (far_cell hgrow5 (Blk.lt HV.out.box) (fun e => by have := (HV.out.o6.far_lt (w.heap.size + 2) e).1; omega)).trans gc6
               have ff : w5.frozen? ⟨w.heap.size + 2, 0, none⟩ = false := (far_free hgrow5 (Blk.lt HV.out.box) (fun e => by have := (HV.out.o6.far_lt (w.heap.size + 2) e).1; omega)).trans (HV.out.box.free 0)
               have hV' := EndV.grow6 HV.out (by omega) (by omega) (by omega) HX0.out rfl hown5 rfl hgrow5 hat5
               have HV2 := Lib.hid hV'
               have HG5 := Lib.hid hgrow5
               have hl5 : w1.heap.size + 1 ≤ w5.heap.size := by have := hgrow5.size; simpa using this
               clear hV' hown5 hat5 hgrow5))
          have HI : Hid (EndI w w2 L l p now (j + 1) _) := ⟨⟨_, _, _, _, _, _, _, _, _, by rw [show dueS (l.take (j + 1)) p now = { D with rest := D.rest ++ [y] } by rw [HDS.out, addD, HCL.out]; rfl]; exact HV2.out⟩, fun b h1 h2 => (EndV.far6 HV.out (by omega) HG5.out _ b h1 h2).trans (HK.out b h1 h2), EndV.below6 HV.out T1.out (by omega) (by omega) (by omega) HG5.out _, by simp; omega⟩
          go_roundw
          case rel => first | exact ⟨j + 1, by go_num, by omega, HI.out⟩ | ((repeat apply Exists.intro); exact ⟨⟨j + 1, by go_num, by omega, HI.out⟩, by first | rfl | exact ⟨rfl, rfl⟩ | exact ⟨rfl, rfl, rfl⟩ | exact ⟨rfl, rfl, rfl, rfl⟩ | exact ⟨rfl, rfl, rfl, rfl, rfl⟩⟩)
          case measure => simp [intOf]; omega
        by_cases h3 : y.tries = p.tries
        · have HCL : Hid (clsS y.m.til y.due y.tries p now = 2) := by show clsS _ _ _ _ _ = _; rw [clsS, if_neg HNA.out, if_neg h2, if_pos (by omega)]
          have e3 : (y.tries == p.tries) = true := by rw [h3]; exact beq_self_eq_true _
          clear h3
          have gc8 : w1.cell? ⟨w.heap.size + 2, 2, none⟩ = some v8 := HV.out.box.cell 2
          go_wp2_with (first
            | (refine wpList_load_blk rfl 30 _ rfl gx 0 rfl [.int .i64 y.m.id, .string y.m.topic, .int .i64 ky, .int .i64 iy, .int .u64 bY, .string sy, .slice ay ny cy, .int .i64 y.m.tat, .int .i64 y.m.til, .string y.m.reply, .int .i64 y.m.corr, .int .i64 y.m.prio, .int .i64 y.m.hops] _ (Blk.range (pre := []) (post := [.int .i64 y.tries, .int .i64 y.due]) HBX.out rfl) Tryd.underlying30 rfl sizeM ?_)
            | (at_builtin
               go_loud (refine wpList_append_lies _ rfl _ _ _ rfl (w.heap.size + 3) 30 iM _ 13 144 Tryd.underlying22 hiM hzM hzM1 hzM2 rfl (by omega) _ D.dead.length c8.flatten rfl (HV.out.o8.row.alloc _) ⟨w1.heap.size, 0, none⟩ 1 1 [.int .i64 y.m.id, .string y.m.topic, .int .i64 ky, .int .i64 iy, .int .u64 bY, .string sy, .slice ay ny cy, .int .i64 y.m.tat, .int .i64 y.m.til, .string y.m.reply, .int .i64 y.m.corr, .int .i64 y.m.prio, .int .i64 y.m.hops] rfl rfl (World.news_of_block (cs := #[.int .i64 y.m.id, .string y.m.topic, .int .i64 ky, .int .i64 iy, .int .u64 bY, .string sy, .slice ay ny cy, .int .i64 y.m.tat, .int .i64 y.m.til, .string y.m.reply, .int .i64 y.m.corr, .int .i64 y.m.prio, .int .i64 y.m.hops]) (t := 30) (fr := (0, 0)) (heap_alloc_new w1 _)) HM0.out.one (by omega) (by unfold maxLen; omega) (by omega) (by simp; omega) (w1.heap.size + 1) (by simp) ?_)
               intro g5 cap5 w5 hown5 hgrow5 hat5 hlt5
               have cc : w5.cell? ⟨w.heap.size + 2, 2, none⟩ = some v8 := (far_cell hgrow5 (Blk.lt HV.out.box) (fun e => by have := (HV.out.o8.far_lt (w.heap.size + 2) e).1; omega)).trans gc8
               have ff : w5.frozen? ⟨w.heap.size + 2, 2, none⟩ = false := (far_free hgrow5 (Blk.lt HV.out.box) (fun e => by have := (HV.out.o8.far_lt (w.heap.size + 2) e).1; omega)).trans (HV.out.box.free 2)
               have hV' := EndV.grow8 HV.out (by omega) (by omega) (by omega) HM0.out rfl hown5 rfl hgrow5 hat5
               have HV2 := Lib.hid hV'
               have HG5 := Lib.hid hgrow5
               have hl5 : w1.heap.size + 1 ≤ w5.heap.size := by have := hgrow5.size; simpa using this
               clear hV' hown5 hat5 hgrow5))
          have HI : Hid (EndI w w2 L l p now (j + 1) _) := ⟨⟨_, _, _, _, _, _, _, _, _, by rw [show dueS (l.take (j + 1)) p now = { D with dead := D.dead ++ [y.m] } by rw [HDS.out, addD, HCL.out]; rfl]; exact HV2.out⟩, fun b h1 h2 => (EndV.far8 HV.out (by omega) HG5.out _ b h1 h2).trans (HK.out b h1 h2), EndV.below8 HV.out T1.out (by omega) (by omega) (by omega) HG5.out _, by simp; omega⟩
          go_roundw
          case rel => first | exact ⟨j + 1, by go_num, by omega, HI.out⟩ | ((repeat apply Exists.intro); exact ⟨⟨j + 1, by go_num, by omega, HI.out⟩, by first | rfl | exact ⟨rfl, rfl⟩ | exact ⟨rfl, rfl, rfl⟩ | exact ⟨rfl, rfl, rfl, rfl⟩ | exact ⟨rfl, rfl, rfl, rfl, rfl⟩⟩)
          case measure => simp [intOf]; omega
        have HCL : Hid (clsS y.m.til y.due y.tries p now = 3) := by show clsS _ _ _ _ _ = _; rw [clsS, if_neg HNA.out, if_neg h2, if_neg (by omega)]
        have e3 : (y.tries == p.tries) = false := beq_eq_false_iff_ne.2 h3
        obtain ⟨Dn, hDn⟩ : ∃ Dn, Dn = now + waitF y.tries p.base p.most := ⟨_, rfl⟩
        have HD4 : Hid (IntKind.i64.wrap (now + waitF y.tries p.base p.most) = Dn) := (wait_add HP.out HNW.out.1 HNW.out.2 y.tries).trans hDn.symm
        have HDN := Lib.hid hDn
        have HT1 : Hid (IntKind.i64.wrap (y.tries + 1) = y.tries + 1) := by show _ = _; have := HTR.out; rw [IntKind.wrap_i64]; omega
        clear hDn h3
        go_upto_region 7 with fail
        refine wp_region_held_drew (S := fun w' => Blk w' gx 62 #[.int .i64 y.m.id, .string y.m.topic, .int .i64 ky, .int .i64 iy, .int .u64 bY, .string sy, .slice ay ny cy, .int .i64 y.m.tat, .int .i64 y.m.til, .string y.m.reply, .int .i64 y.m.corr, .int .i64 y.m.prio, .int .i64 y.m.hops, .int .i64 y.tries, .int .i64 y.due]) (by kernel_rfl) HBX.out.drew (fun hHeld => ?_)
        obtain ⟨W1, hW1⟩ : ∃ W1, W1 = w1.drew := ⟨_, rfl⟩
        have hv1 : EndV W1 (w.heap.size + 3) L (w.heap.size + 2) D v6 v7 v8 v9 S' c6 c7 c8 c9 := by rw [hW1]; exact HV.out.off (Nat.le_refl _) (fun _ _ => rfl)
        have hm1 : IsM W1 S' y.m [.int .i64 y.m.id, .string y.m.topic, .int .i64 ky, .int .i64 iy, .int .u64 bY, .string sy, .slice ay ny cy, .int .i64 y.m.tat, .int .i64 y.m.til, .string y.m.reply, .int .i64 y.m.corr, .int .i64 y.m.prio, .int .i64 y.m.hops] := by rw [hW1]; exact HM0.out.drew
        have hk1 : ∀ b, b ≠ w.heap.size + 2 → b < L → W1.heap[b]? = w2.heap[b]? := by rw [hW1]; exact HK.out
        have ht1 : Below w.heap.size w W1 := by rw [hW1]; exact T1.out.drew
        have hz1 : w1.heap.size ≤ W1.heap.size := by rw [hW1]; exact Nat.le_refl _
        rw [← hW1] at hHeld ⊢
        have HV1 := Lib.hid hv1
        have HM1 := Lib.hid hm1
        have HK1 := Lib.hid hk1
        have T1' := Lib.hid ht1
        clear hv1 hm1 hk1 ht1 hW1
        refine wpAnyH_take (i := 0) (v := ?_) rfl (by kernel_rfl) (by kernel_rfl) (by kernel_rfl) (fun _ _ _ h => h) (Or.inl ⟨by rfl, ?_⟩) hHeld ?_
        rotate_left
        · intro w hSw
          try dsimp only at hSw
          first | (go_simp; done) | (go_simp; with_reducible rfl)
        try simp only [Act.put, List.getElem_toArray, List.getElem_cons_zero, List.setIfInBounds_toArray, List.set_cons_zero, List.set_cons_succ]
        refine wpAnyH_take (i := 2) (v := ?_) rfl (by kernel_rfl) (by kernel_rfl) (by kernel_rfl) (fun _ _ _ h => h) (Or.inl ⟨by rfl, ?_⟩) hHeld ?_
        rotate_left
        · intro w hSw
          try dsimp only at hSw
          first | (go_simp; done) | (go_simp; with_reducible rfl)
        try simp only [Act.put, List.getElem_toArray, List.getElem_cons_zero, List.getElem_cons_succ, List.setIfInBounds_toArray, List.set_cons_zero, List.set_cons_succ]
        refine wpAnyH_take (i := 3) (v := .agg #[.int .i64 y.m.id, .string y.m.topic, .int .i64 ky, .int .i64 iy, .int .u64 bY, .string sy, .slice ay ny cy, .int .i64 y.m.tat, .int .i64 y.m.til, .string y.m.reply, .int .i64 y.m.corr, .int .i64 y.m.prio, .int .i64 y.m.hops]) rfl (by kernel_rfl) (by kernel_rfl) (by kernel_rfl) (fun _ _ _ h => h) (yieldsIf_load_mid (by rfl) 30 _ rfl (gx) (0) (by rfl) [.int .i64 y.m.id, .string y.m.topic, .int .i64 ky, .int .i64 iy, .int .u64 bY, .string sy, .slice ay ny cy, .int .i64 y.m.tat, .int .i64 y.m.til, .string y.m.reply, .int .i64 y.m.corr, .int .i64 y.m.prio, .int .i64 y.m.hops] _ (fun w' h => Blk.range (pre := []) (post := [.int .i64 y.tries, .int .i64 y.due]) h rfl) Tryd.underlying30 rfl sizeM) hHeld ?_
        try simp only [Act.put, List.getElem_toArray, List.getElem_cons_zero, List.getElem_cons_succ, List.setIfInBounds_toArray, List.set_cons_zero, List.set_cons_succ]
        refine wpAnyH_ready (rs := [1, 4]) (by kernel_rfl) (by simp) ?_
        refine AllReadyH.cons rfl (fun K hK => ?_) (AllReadyH.cons rfl (fun K hK => ?_) AllReadyH.nil)
        · have g7 : W1.cell? ⟨w.heap.size + 2, 1, none⟩ = some v7 := HV1.out.box.cell 1
          go_simp
          refine hK.out _ _ hHeld (fun hHeld2 => ?_)
          clear hHeld hK K
          have hHeld := hHeld2
          clear hHeld2
          try simp only [Act.put, List.getElem_toArray, List.getElem_cons_zero, List.getElem_cons_succ, List.setIfInBounds_toArray, List.set_cons_zero, List.set_cons_succ]
          refine wpAnyH_ready (rs := [4]) (by kernel_rfl) (by simp) ?_
          refine AllReadyH.cons rfl (fun K hK => ?_) AllReadyH.nil
          go_simp
          go_at_call 15
          refine (copymsg_any y.m W1 S' [.int .i64 y.m.id, .string y.m.topic, .int .i64 ky, .int .i64 iy, .int .u64 bY, .string sy, .slice ay ny cy, .int .i64 y.m.tat, .int .i64 y.m.til, .string y.m.reply, .int .i64 y.m.corr, .int .i64 y.m.prio, .int .i64 y.m.hops] HM1.out (fun b hb => by have := HSB.out b hb; omega) hzy).mono ?_
          rintro e w3 ⟨k3, i3, b3, s3, am3, nm3, cm3, rfl, hm3, hb⟩
          have hl3 := hb.size
          have HV3 : Hid (EndV w3 (w.heap.size + 3) L (w.heap.size + 2) D v6 v7 v8 v9 (fun b => S' b ∨ Btw W1.heap.size w3.heap.size b) c6 c7 c8 c9) := (HV1.out.below hb).wider (fun _ h => .inl h) (fun b hb2 => by
            rcases hb2 with hb2 | hb2
            · exact ⟨(HV1.out.o6.far b hb2).1, by have := (HV1.out.o6.far b hb2).2.1; omega, (HV1.out.o6.far b hb2).2.2, (HV1.out.o7.far b hb2).2.2, (HV1.out.o8.far b hb2).2.2, (HV1.out.o9.far b hb2).2.2⟩
            · obtain ⟨q1, q2⟩ := hb2
              exact ⟨by omega, q2, fun e => by have := (HV1.out.o6.far_lt b e).2; omega, fun e => by have := (HV1.out.o7.far_lt b e).2; omega, fun e => by have := (HV1.out.o8.far_lt b e).2; omega, fun e => by have := (HV1.out.o9.far_lt b e).2; omega⟩)
          have HM3 : Hid (IsM w3 (fun b => S' b ∨ Btw W1.heap.size w3.heap.size b) y.m [.int .i64 y.m.id, .string y.m.topic, .int .i64 k3, .int .i64 i3, .int .u64 b3, .string s3, .slice am3 nm3 cm3, .int .i64 y.m.tat, .int .i64 y.m.til, .string y.m.reply, .int .i64 y.m.corr, .int .i64 y.m.prio, .int .i64 y.m.hops]) := hm3.ism.mono (fun _ h => .inr h)
          have HM2 : Hid (IsM w3 (fun b => S' b ∨ Btw W1.heap.size w3.heap.size b) y.m [.int .i64 y.m.id, .string y.m.topic, .int .i64 ky, .int .i64 iy, .int .u64 bY, .string sy, .slice ay ny cy, .int .i64 y.m.tat, .int .i64 y.m.til, .string y.m.reply, .int .i64 y.m.corr, .int .i64 y.m.prio, .int .i64 y.m.hops]) := (HM1.out.under hb (fun b hb => by have := HSB.out b hb; omega)).mono (fun _ h => .inl h)
          have HK3 : Hid (∀ b, b ≠ w.heap.size + 2 → b < L → w3.heap[b]? = w2.heap[b]?) := fun b h1 h2 => (hb.block b (by omega)).trans (HK1.out b h1 h2)
          have T3 : Hid (Below w.heap.size w w3) := T1'.out.trans (hb.mono (by omega))
          clear hm3
          refine hK.out _ _ (Blk.on hHeld hb) (fun hHeld2 => ?_)
          clear hHeld hK K
          have hHeld := hHeld2
          clear hHeld2
          try simp only [Act.put, List.getElem_toArray, List.getElem_cons_zero, List.getElem_cons_succ, List.setIfInBounds_toArray, List.set_cons_zero, List.set_cons_succ]
          clear hb
          refine wpAnyH_ready (rs := [5]) (by kernel_rfl) (by simp) ?_
          refine AllReadyH.cons rfl (fun K hK => ?_) AllReadyH.nil
          go_simp
          refine hK.out _ _ (Blk.alloc hHeld _) (fun hHeld2 => ?_)
          clear hHeld hK K
          have hHeld := hHeld2
          clear hHeld2
          try simp only [Act.put, List.getElem_toArray, List.getElem_cons_zero, List.getElem_cons_succ, List.setIfInBounds_toArray, List.set_cons_zero, List.set_cons_succ]
          refine wpAnyH_ready (rs := [6]) (by kernel_rfl) (by simp) ?_
          refine AllReadyH.cons rfl (fun K hK => ?_) AllReadyH.nil
          refine step_append_lies _ (by rfl) _ _ _ (by rfl) (w.heap.size + 3) 30 iM _ 13 144 Tryd.underlying22 hiM hzM hzM1 hzM2 rfl (by omega) v7 D.again.length c7.flatten (by rfl) (HV3.out.o7.row.alloc _)
            ⟨w3.heap.size, 0, none⟩ 1 1 [.int .i64 y.m.id, .string y.m.topic, .int .i64 k3, .int .i64 i3, .int .u64 b3, .string s3, .slice am3 nm3 cm3, .int .i64 y.m.tat, .int .i64 y.m.til, .string y.m.reply, .int .i64 y.m.corr, .int .i64 y.m.prio, .int .i64 y.m.hops] (by rfl) (by rfl) (World.news_of_block (cs := #[.int .i64 y.m.id, .string y.m.topic, .int .i64 k3, .int .i64 i3, .int .u64 b3, .string s3, .slice am3 nm3 cm3, .int .i64 y.m.tat, .int .i64 y.m.til, .string y.m.reply, .int .i64 y.m.corr, .int .i64 y.m.prio, .int .i64 y.m.hops]) (t := 30) (fr := (0, 0)) (heap_alloc_new w3 _)) HM3.out.one (by omega) (by unfold maxLen; omega) (by omega) (by simp; omega) (w3.heap.size + 1) (by simp) ?_
          intro g5 cap5 w5 hown5 hgrow5 hat5 hlt5
          have hne : v7.ownBlock ≠ some gx := fun e => HRX.out (.inr (.inl e))
          have cc : w5.cell? ⟨w.heap.size + 2, 1, none⟩ = some v7 := (far_cell hgrow5 (Blk.lt HV3.out.box) (fun e => by have := (HV3.out.o7.far_lt (w.heap.size + 2) e).1; omega)).trans (HV3.out.box.cell 1)
          have ff : w5.frozen? ⟨w.heap.size + 2, 1, none⟩ = false := (far_free hgrow5 (Blk.lt HV3.out.box) (fun e => by have := (HV3.out.o7.far_lt (w.heap.size + 2) e).1; omega)).trans (HV3.out.box.free 1)
          have hV' := EndV.grow7 HV3.out (by omega) (by omega) (by omega) HM3.out rfl hown5 rfl hgrow5 hat5
          have hBX' : Blk w5 gx 62 #[.int .i64 y.m.id, .string y.m.topic, .int .i64 ky, .int .i64 iy, .int .u64 bY, .string sy, .slice ay ny cy, .int .i64 y.m.tat, .int .i64 y.m.til, .string y.m.reply, .int .i64 y.m.corr, .int .i64 y.m.prio, .int .i64 y.m.hops, .int .i64 y.tries, .int .i64 y.due] := Blk.grown hHeld hgrow5 (fun e => hne e.symm)
          have hgB : g5 ≠ gx := fun e => by
            rcases hat5 with h | h
            · exact hne (by rw [← e]; exact h)
            · omega
          have HZ := Lib.hid hV'
          have HG5 := Lib.hid hgrow5
          have hl5 : w3.heap.size + 1 ≤ w5.heap.size := by have := hgrow5.size; simpa using this
          clear hV' hown5 hgrow5 hat5
          refine hK.out _ _ hBX' (fun hHeld2 => ?_)
          clear hHeld hK K
          have hHeld := hHeld2
          clear hHeld2
          try simp only [Act.put, List.getElem_toArray, List.getElem_cons_zero, List.getElem_cons_succ, List.setIfInBounds_toArray, List.set_cons_zero, List.set_cons_succ]
          refine wpAnyH_take (i := 7) (v := ?_) rfl (by kernel_rfl) (by kernel_rfl) (by kernel_rfl) (fun _ _ _ h => h) (Or.inl ⟨by rfl, ?_⟩) hHeld ?_
          rotate_left
          · intro w hSw
            try dsimp only at hSw
            first | (go_simp; done) | (go_simp; with_reducible rfl)
          try simp only [Act.put, List.getElem_toArray, List.getElem_cons_zero, List.getElem_cons_succ, List.setIfInBounds_toArray, List.set_cons_zero, List.set_cons_succ]
          refine wpAnyH_ready (rs := [8]) (by kernel_rfl) (by simp) ?_
          refine AllReadyH.cons rfl (fun K hK => ?_) AllReadyH.nil
          go_simp
          refine hK.out _ _ (Blk.far hHeld (p := ⟨w.heap.size + 2, 1, none⟩) (by show gx ≠ w.heap.size + 2; omega) _) (fun hHeld2 => ?_)
          clear hHeld hK K
          have hHeld := hHeld2
          clear hHeld2
          try simp only [Act.put, List.getElem_toArray, List.getElem_cons_zero, List.getElem_cons_succ, List.setIfInBounds_toArray, List.set_cons_zero, List.set_cons_succ]
          refine wpAnyH_done (by kernel_rfl) ?_ _
          obtain ⟨w6, hw6⟩ : ∃ w6, w6 = w5.setCell ⟨w.heap.size + 2, 1, none⟩ (.slice (some ⟨g5, 0, none⟩) (D.again.length + 1) cap5) := ⟨_, rfl⟩
          have hm6 : IsM w6 (fun b => S' b ∨ Btw W1.heap.size w3.heap.size b) y.m [.int .i64 y.m.id, .string y.m.topic, .int .i64 ky, .int .i64 iy, .int .u64 bY, .string sy, .slice ay ny cy, .int .i64 y.m.tat, .int .i64 y.m.til, .string y.m.reply, .int .i64 y.m.corr, .int .i64 y.m.prio, .int .i64 y.m.hops] := by rw [hw6]; exact HM2.out.keep (fun _ h => h) fun b hb j => World.cell?_of_block (a := ⟨b, j, none⟩) ((heap_set (p := ⟨w.heap.size + 2, 1, none⟩) (by show b ≠ w.heap.size + 2; intro e; have := (HV3.out.o7.far b hb).1; omega)).trans (far_block HG5.out (HV3.out.o7.far b hb).2.1 (HV3.out.o7.far b hb).2.2))
          have hv6 := HZ.out
          have hk6 : ∀ b, b ≠ w.heap.size + 2 → b < L → w6.heap[b]? = w2.heap[b]? := by rw [hw6]; exact fun b h1 h2 => (EndV.far7 HV3.out (by omega) HG5.out _ b h1 h2).trans (HK3.out b h1 h2)
          have ht6 : Below w.heap.size w w6 := by rw [hw6]; exact EndV.below7 HV3.out T3.out (by omega) (by omega) (by omega) HG5.out _
          have hz6 : w3.heap.size + 1 ≤ w6.heap.size := by rw [hw6]; simpa using hl5
          rw [← hw6] at hHeld hv6 ⊢
          have HV6 := Lib.hid hv6
          have HM6 := Lib.hid hm6
          have HK6 := Lib.hid hk6
          have T6 := Lib.hid ht6
          have HBX6 := Lib.hid hHeld
          have HS6 : Hid (∀ b, (S' b ∨ Btw W1.heap.size w3.heap.size b) → b ≠ gx) := fun b hb e => by rcases hb with hb | hb; have := HSB.out b hb; omega; have := hb.1; omega
          have HPB : Hid (Blk w6 w.heap.size 52 #[.int .i64 p.tries, .int .i64 p.base, .int .i64 p.most]) := (hk6 _ (by omega) (by omega)).trans B42.out
          clear hHeld hm6 hv6 hk6 ht6 hw6 HZ HG5 HV3 HM3 HM2 HK3 T3 HV1 HM1 HK1 T1' hl5
          have q13 := HBX6.out.cell 13
          have q1 := HPB.out.cell 1
          have q2 := HPB.out.cell 2
          have q14 := HBX6.out.cell 14
          have p14 := HBX6.out.free 14
          go_wp2_with fail
          refine (rwait_any y.tries p.base p.most _ (by have := HTR.out; omega) (by have := HP.out; unfold FitP at this; omega) (by have := HP.out; unfold FitP at this; omega)).mono ?_
          rintro e wz ⟨rfl, rfl⟩
          have hD4 := HD4.out
          go_upto_region 9 with fail
          clear hD4 q13 q1 q2 q14 p14
          obtain ⟨w7, hw7⟩ : ∃ w7, w7 = w6.setCell ⟨gx, 14, none⟩ (.int .i64 Dn) := ⟨_, rfl⟩
          rw [← hw7]
          have HBX7 : Hid (Blk w7 gx 62 #[.int .i64 y.m.id, .string y.m.topic, .int .i64 ky, .int .i64 iy, .int .u64 bY, .string sy, .slice ay ny cy, .int .i64 y.m.tat, .int .i64 y.m.til, .string y.m.reply, .int .i64 y.m.corr, .int .i64 y.m.prio, .int .i64 y.m.hops, .int .i64 y.tries, .int .i64 Dn]) := by show Blk _ _ _ _; rw [hw7]; exact Blk.set (i := 14) HBX6.out _
          have k13' : w7.cell? ⟨gx, 13, none⟩ = some (.int .i64 y.tries) := HBX7.out.cell 13
          have f13' : w7.frozen? ⟨gx, 13, none⟩ = false := HBX7.out.free 13
          have HW7 := Lib.hid hw7
          have hT1 := HT1.out
          clear hw7
          go_upto_region 10 with fail
          clear hT1 k13' f13'
          obtain ⟨w8, hw8⟩ : ∃ w8, w8 = w7.setCell ⟨gx, 13, none⟩ (.int .i64 (y.tries + 1)) := ⟨_, rfl⟩
          rw [← hw8]
          have HBX8 : Hid (Blk w8 gx 62 #[.int .i64 y.m.id, .string y.m.topic, .int .i64 ky, .int .i64 iy, .int .u64 bY, .string sy, .slice ay ny cy, .int .i64 y.m.tat, .int .i64 y.m.til, .string y.m.reply, .int .i64 y.m.corr, .int .i64 y.m.prio, .int .i64 y.m.hops, .int .i64 (y.tries + 1), .int .i64 Dn]) := by show Blk _ _ _ _; rw [hw8]; exact Blk.set (i := 13) HBX7.out _
          have hk8 : ∀ b, b ≠ gx → w8.heap[b]? = w6.heap[b]? := fun b hb => by rw [hw8]; refine (heap_set (w := w7) (p := ⟨gx, 13, none⟩) hb).trans ?_; rw [HW7.out]; exact heap_set (w := w6) (p := ⟨gx, 14, none⟩) hb
          have hs8 : w8.heap.size = w6.heap.size := by rw [hw8, HW7.out]; simp
          have T8 : Hid (Below w.heap.size w w8) := by show Below _ _ _; rw [hw8, HW7.out]; exact (T6.out.setCell (by show w.heap.size ≤ gx; omega) _).setCell (by show w.heap.size ≤ gx; omega) _
          have hv8 : EndV w8 (w.heap.size + 3) L (w.heap.size + 2) ({ D with again := D.again ++ [y.m] } : DS) v6 (.slice (some ⟨g5, 0, none⟩) (D.again.length + 1) cap5) v8 v9 (fun b => S' b ∨ Btw W1.heap.size w3.heap.size b) c6 _ c8 c9 := HV6.out.off (Nat.le_of_eq hs8.symm) fun b hb => hk8 b (by
            rcases hb with hb | hb | hb | hb | hb | hb
            · omega
            · exact HS6.out b hb
            · exact fun e => HRX.out (.inl (by rw [← e]; exact hb))
            · have e : g5 = b := by simpa [Value.ownBlock] using hb
              omega
            · exact fun e => HRX.out (.inr (.inr (.inl (by rw [← e]; exact hb))))
            · exact fun e => HRX.out (.inr (.inr (.inr (by rw [← e]; exact hb)))))
          obtain ⟨D2, hD2⟩ : ∃ D2, D2 = ({ D with again := D.again ++ [y.m] } : DS) := ⟨_, rfl⟩
          have hr2 : D2.rest.length ≤ 65536 := by rw [hD2]; show D.rest.length ≤ 65536; omega
          rw [← hD2] at hv8
          have HV8 := Lib.hid hv8
          have HD2 := Lib.hid hD2
          have HX8 : Hid (IsS w8 (fun b => S' b ∨ Btw W1.heap.size w3.heap.size b) (againS y p now) [.int .i64 y.m.id, .string y.m.topic, .int .i64 ky, .int .i64 iy, .int .u64 bY, .string sy, .slice ay ny cy, .int .i64 y.m.tat, .int .i64 y.m.til, .string y.m.reply, .int .i64 y.m.corr, .int .i64 y.m.prio, .int .i64 y.m.hops, .int .i64 (y.tries + 1), .int .i64 Dn]) := ⟨_, HM6.out.keep (fun _ h => h) (fun b hb j => World.cell?_of_block (a := ⟨b, j, none⟩) (hk8 b (HS6.out b hb))), by rw [HDN.out]; rfl⟩
          have HK8 : Hid (∀ b, b ≠ w.heap.size + 2 → b < L → w8.heap[b]? = w2.heap[b]?) := fun b h1 h2 => (hk8 b (by omega)).trans (HK6.out b h1 h2)
          have hs8a : w6.heap.size ≤ w8.heap.size := by omega
          clear hw8 hk8 HW7 HBX7 HV6 HM6 HBX6 HK6 T6 HPB hv8 hD2 hs8
          have gc6 : w8.cell? ⟨w.heap.size + 2, 0, none⟩ = some v6 := HV8.out.box.cell 0
          go_wp2_with (first
            | (refine wpList_load_blk rfl 62 _ rfl gx 0 rfl [.int .i64 y.m.id, .string y.m.topic, .int .i64 ky, .int .i64 iy, .int .u64 bY, .string sy, .slice ay ny cy, .int .i64 y.m.tat, .int .i64 y.m.til, .string y.m.reply, .int .i64 y.m.corr, .int .i64 y.m.prio, .int .i64 y.m.hops, .int .i64 (y.tries + 1), .int .i64 Dn] _ (Blk.range (pre := []) (post := []) HBX8.out rfl) Tryd.underlying62 rfl sizeS ?_)
            | (at_builtin
               go_loud (refine wpList_append_lies _ rfl _ _ _ rfl (w.heap.size + 3) 62 iS _ 15 160 Tryd.underlying50 hiS hzS hzS1 hzS2 rfl (by omega) _ D2.rest.length c6.flatten rfl (HV8.out.o6.row.alloc _) ⟨w8.heap.size, 0, none⟩ 1 1 [.int .i64 y.m.id, .string y.m.topic, .int .i64 ky, .int .i64 iy, .int .u64 bY, .string sy, .slice ay ny cy, .int .i64 y.m.tat, .int .i64 y.m.til, .string y.m.reply, .int .i64 y.m.corr, .int .i64 y.m.prio, .int .i64 y.m.hops, .int .i64 (y.tries + 1), .int .i64 Dn] rfl rfl (World.news_of_block (cs := #[.int .i64 y.m.id, .string y.m.topic, .int .i64 ky, .int .i64 iy, .int .u64 bY, .string sy, .slice ay ny cy, .int .i64 y.m.tat, .int .i64 y.m.til, .string y.m.reply, .int .i64 y.m.corr, .int .i64 y.m.prio, .int .i64 y.m.hops, .int .i64 (y.tries + 1), .int .i64 Dn]) (t := 62) (fr := (0, 0)) (heap_alloc_new w8 _)) HX8.out.one (by omega) (by unfold maxLen; omega) (by omega) (by simp; omega) (w8.heap.size + 1) (by simp) ?_)
               intro g9 cap9 w5 hown5 hgrow5 hat5 hlt5
               have cc : w5.cell? ⟨w.heap.size + 2, 0, none⟩ = some v6 := (far_cell hgrow5 (Blk.lt HV8.out.box) (fun e => by have := (HV8.out.o6.far_lt (w.heap.size + 2) e).1; omega)).trans gc6
               have ff : w5.frozen? ⟨w.heap.size + 2, 0, none⟩ = false := (far_free hgrow5 (Blk.lt HV8.out.box) (fun e => by have := (HV8.out.o6.far_lt (w.heap.size + 2) e).1; omega)).trans (HV8.out.box.free 0)
               have hV' := EndV.grow6 HV8.out (by omega) (by omega) (by omega) HX8.out rfl hown5 rfl hgrow5 hat5
               have HV2 := Lib.hid hV'
               have HG5 := Lib.hid hgrow5
               have hl5 : w8.heap.size + 1 ≤ w5.heap.size := by have := hgrow5.size; simpa using this
               clear hV' hown5 hat5 hgrow5))
          have HI : Hid (EndI w w2 L l p now (j + 1) _) := ⟨⟨_, _, _, _, _, _, _, _, _, by rw [show dueS (l.take (j + 1)) p now = { D2 with rest := D2.rest ++ [againS y p now] } by rw [HDS.out, addD, HCL.out, HD2.out]; rfl]; exact HV2.out⟩, fun b h1 h2 => (EndV.far6 HV8.out (by omega) HG5.out _ b h1 h2).trans (HK8.out b h1 h2), EndV.below6 HV8.out T8.out (by omega) (by omega) (by omega) HG5.out _, by simp; omega⟩
          go_roundw
          case rel => first | exact ⟨j + 1, by go_num, by omega, HI.out⟩ | ((repeat apply Exists.intro); exact ⟨⟨j + 1, by go_num, by omega, HI.out⟩, by first | rfl | exact ⟨rfl, rfl⟩ | exact ⟨rfl, rfl, rfl⟩ | exact ⟨rfl, rfl, rfl, rfl⟩ | exact ⟨rfl, rfl, rfl, rfl, rfl⟩⟩)
          case measure => simp [intOf]; omega
        · go_simp
          go_at_call 15
          refine (copymsg_any y.m W1 S' [.int .i64 y.m.id, .string y.m.topic, .int .i64 ky, .int .i64 iy, .int .u64 bY, .string sy, .slice ay ny cy, .int .i64 y.m.tat, .int .i64 y.m.til, .string y.m.reply, .int .i64 y.m.corr, .int .i64 y.m.prio, .int .i64 y.m.hops] HM1.out (fun b hb => by have := HSB.out b hb; omega) hzy).mono ?_
          rintro e w3 ⟨k3, i3, b3, s3, am3, nm3, cm3, rfl, hm3, hb⟩
          have hl3 := hb.size
          have HV3 : Hid (EndV w3 (w.heap.size + 3) L (w.heap.size + 2) D v6 v7 v8 v9 (fun b => S' b ∨ Btw W1.heap.size w3.heap.size b) c6 c7 c8 c9) := (HV1.out.below hb).wider (fun _ h => .inl h) (fun b hb2 => by
            rcases hb2 with hb2 | hb2
            · exact ⟨(HV1.out.o6.far b hb2).1, by have := (HV1.out.o6.far b hb2).2.1; omega, (HV1.out.o6.far b hb2).2.2, (HV1.out.o7.far b hb2).2.2, (HV1.out.o8.far b hb2).2.2, (HV1.out.o9.far b hb2).2.2⟩
            · obtain ⟨q1, q2⟩ := hb2
              exact ⟨by omega, q2, fun e => by have := (HV1.out.o6.far_lt b e).2; omega, fun e => by have := (HV1.out.o7.far_lt b e).2; omega, fun e => by have := (HV1.out.o8.far_lt b e).2; omega, fun e => by have := (HV1.out.o9.far_lt b e).2; omega⟩)
          have HM3 : Hid (IsM w3 (fun b => S' b ∨ Btw W1.heap.size w3.heap.size b) y.m [.int .i64 y.m.id, .string y.m.topic, .int .i64 k3, .int .i64 i3, .int .u64 b3, .string s3, .slice am3 nm3 cm3, .int .i64 y.m.tat, .int .i64 y.m.til, .string y.m.reply, .int .i64 y.m.corr, .int .i64 y.m.prio, .int .i64 y.m.hops]) := hm3.ism.mono (fun _ h => .inr h)
          have HM2 : Hid (IsM w3 (fun b => S' b ∨ Btw W1.heap.size w3.heap.size b) y.m [.int .i64 y.m.id, .string y.m.topic, .int .i64 ky, .int .i64 iy, .int .u64 bY, .string sy, .slice ay ny cy, .int .i64 y.m.tat, .int .i64 y.m.til, .string y.m.reply, .int .i64 y.m.corr, .int .i64 y.m.prio, .int .i64 y.m.hops]) := (HM1.out.under hb (fun b hb => by have := HSB.out b hb; omega)).mono (fun _ h => .inl h)
          have HK3 : Hid (∀ b, b ≠ w.heap.size + 2 → b < L → w3.heap[b]? = w2.heap[b]?) := fun b h1 h2 => (hb.block b (by omega)).trans (HK1.out b h1 h2)
          have T3 : Hid (Below w.heap.size w w3) := T1'.out.trans (hb.mono (by omega))
          clear hm3
          refine hK.out _ _ (Blk.on hHeld hb) (fun hHeld2 => ?_)
          clear hHeld hK K
          have hHeld := hHeld2
          clear hHeld2
          try simp only [Act.put, List.getElem_toArray, List.getElem_cons_zero, List.getElem_cons_succ, List.setIfInBounds_toArray, List.set_cons_zero, List.set_cons_succ]
          clear hb
          refine wpAnyH_ready (rs := [1, 5]) (by kernel_rfl) (by simp) ?_
          refine AllReadyH.cons rfl (fun K hK => ?_) (AllReadyH.cons rfl (fun K hK => ?_) AllReadyH.nil)
          · have g7 : w3.cell? ⟨w.heap.size + 2, 1, none⟩ = some v7 := HV3.out.box.cell 1
            go_simp
            refine hK.out _ _ hHeld (fun hHeld2 => ?_)
            clear hHeld hK K
            have hHeld := hHeld2
            clear hHeld2
            try simp only [Act.put, List.getElem_toArray, List.getElem_cons_zero, List.getElem_cons_succ, List.setIfInBounds_toArray, List.set_cons_zero, List.set_cons_succ]
            refine wpAnyH_ready (rs := [5]) (by kernel_rfl) (by simp) ?_
            refine AllReadyH.cons rfl (fun K hK => ?_) AllReadyH.nil
            go_simp
            refine hK.out _ _ (Blk.alloc hHeld _) (fun hHeld2 => ?_)
            clear hHeld hK K
            have hHeld := hHeld2
            clear hHeld2
            try simp only [Act.put, List.getElem_toArray, List.getElem_cons_zero, List.getElem_cons_succ, List.setIfInBounds_toArray, List.set_cons_zero, List.set_cons_succ]
            refine wpAnyH_ready (rs := [6]) (by kernel_rfl) (by simp) ?_
            refine AllReadyH.cons rfl (fun K hK => ?_) AllReadyH.nil
            refine step_append_lies _ (by rfl) _ _ _ (by rfl) (w.heap.size + 3) 30 iM _ 13 144 Tryd.underlying22 hiM hzM hzM1 hzM2 rfl (by omega) v7 D.again.length c7.flatten (by rfl) (HV3.out.o7.row.alloc _)
              ⟨w3.heap.size, 0, none⟩ 1 1 [.int .i64 y.m.id, .string y.m.topic, .int .i64 k3, .int .i64 i3, .int .u64 b3, .string s3, .slice am3 nm3 cm3, .int .i64 y.m.tat, .int .i64 y.m.til, .string y.m.reply, .int .i64 y.m.corr, .int .i64 y.m.prio, .int .i64 y.m.hops] (by rfl) (by rfl) (World.news_of_block (cs := #[.int .i64 y.m.id, .string y.m.topic, .int .i64 k3, .int .i64 i3, .int .u64 b3, .string s3, .slice am3 nm3 cm3, .int .i64 y.m.tat, .int .i64 y.m.til, .string y.m.reply, .int .i64 y.m.corr, .int .i64 y.m.prio, .int .i64 y.m.hops]) (t := 30) (fr := (0, 0)) (heap_alloc_new w3 _)) HM3.out.one (by omega) (by unfold maxLen; omega) (by omega) (by simp; omega) (w3.heap.size + 1) (by simp) ?_
            intro g5 cap5 w5 hown5 hgrow5 hat5 hlt5
            have hne : v7.ownBlock ≠ some gx := fun e => HRX.out (.inr (.inl e))
            have cc : w5.cell? ⟨w.heap.size + 2, 1, none⟩ = some v7 := (far_cell hgrow5 (Blk.lt HV3.out.box) (fun e => by have := (HV3.out.o7.far_lt (w.heap.size + 2) e).1; omega)).trans (HV3.out.box.cell 1)
            have ff : w5.frozen? ⟨w.heap.size + 2, 1, none⟩ = false := (far_free hgrow5 (Blk.lt HV3.out.box) (fun e => by have := (HV3.out.o7.far_lt (w.heap.size + 2) e).1; omega)).trans (HV3.out.box.free 1)
            have hV' := EndV.grow7 HV3.out (by omega) (by omega) (by omega) HM3.out rfl hown5 rfl hgrow5 hat5
            have hBX' : Blk w5 gx 62 #[.int .i64 y.m.id, .string y.m.topic, .int .i64 ky, .int .i64 iy, .int .u64 bY, .string sy, .slice ay ny cy, .int .i64 y.m.tat, .int .i64 y.m.til, .string y.m.reply, .int .i64 y.m.corr, .int .i64 y.m.prio, .int .i64 y.m.hops, .int .i64 y.tries, .int .i64 y.due] := Blk.grown hHeld hgrow5 (fun e => hne e.symm)
            have hgB : g5 ≠ gx := fun e => by
              rcases hat5 with h | h
              · exact hne (by rw [← e]; exact h)
              · omega
            have HZ := Lib.hid hV'
            have HG5 := Lib.hid hgrow5
            have hl5 : w3.heap.size + 1 ≤ w5.heap.size := by have := hgrow5.size; simpa using this
            clear hV' hown5 hgrow5 hat5
            refine hK.out _ _ hBX' (fun hHeld2 => ?_)
            clear hHeld hK K
            have hHeld := hHeld2
            clear hHeld2
            try simp only [Act.put, List.getElem_toArray, List.getElem_cons_zero, List.getElem_cons_succ, List.setIfInBounds_toArray, List.set_cons_zero, List.set_cons_succ]
            refine wpAnyH_take (i := 7) (v := ?_) rfl (by kernel_rfl) (by kernel_rfl) (by kernel_rfl) (fun _ _ _ h => h) (Or.inl ⟨by rfl, ?_⟩) hHeld ?_
            rotate_left
            · intro w hSw
              try dsimp only at hSw
              first | (go_simp; done) | (go_simp; with_reducible rfl)
            try simp only [Act.put, List.getElem_toArray, List.getElem_cons_zero, List.getElem_cons_succ, List.setIfInBounds_toArray, List.set_cons_zero, List.set_cons_succ]
            refine wpAnyH_ready (rs := [8]) (by kernel_rfl) (by simp) ?_
            refine AllReadyH.cons rfl (fun K hK => ?_) AllReadyH.nil
            go_simp
            refine hK.out _ _ (Blk.far hHeld (p := ⟨w.heap.size + 2, 1, none⟩) (by show gx ≠ w.heap.size + 2; omega) _) (fun hHeld2 => ?_)
            clear hHeld hK K
            have hHeld := hHeld2
            clear hHeld2
            try simp only [Act.put, List.getElem_toArray, List.getElem_cons_zero, List.getElem_cons_succ, List.setIfInBounds_toArray, List.set_cons_zero, List.set_cons_succ]
            refine wpAnyH_done (by kernel_rfl) ?_ _
            obtain ⟨w6, hw6⟩ : ∃ w6, w6 = w5.setCell ⟨w.heap.size + 2, 1, none⟩ (.slice (some ⟨g5, 0, none⟩) (D.again.length + 1) cap5) := ⟨_, rfl⟩
            have hm6 : IsM w6 (fun b => S' b ∨ Btw W1.heap.size w3.heap.size b) y.m [.int .i64 y.m.id, .string y.m.topic, .int .i64 ky, .int .i64 iy, .int .u64 bY, .string sy, .slice ay ny cy, .int .i64 y.m.tat, .int .i64 y.m.til, .string y.m.reply, .int .i64 y.m.corr, .int .i64 y.m.prio, .int .i64 y.m.hops] := by rw [hw6]; exact HM2.out.keep (fun _ h => h) fun b hb j => World.cell?_of_block (a := ⟨b, j, none⟩) ((heap_set (p := ⟨w.heap.size + 2, 1, none⟩) (by show b ≠ w.heap.size + 2; intro e; have := (HV3.out.o7.far b hb).1; omega)).trans (far_block HG5.out (HV3.out.o7.far b hb).2.1 (HV3.out.o7.far b hb).2.2))
            have hv6 := HZ.out
            have hk6 : ∀ b, b ≠ w.heap.size + 2 → b < L → w6.heap[b]? = w2.heap[b]? := by rw [hw6]; exact fun b h1 h2 => (EndV.far7 HV3.out (by omega) HG5.out _ b h1 h2).trans (HK3.out b h1 h2)
            have ht6 : Below w.heap.size w w6 := by rw [hw6]; exact EndV.below7 HV3.out T3.out (by omega) (by omega) (by omega) HG5.out _
            have hz6 : w3.heap.size + 1 ≤ w6.heap.size := by rw [hw6]; simpa using hl5
            rw [← hw6] at hHeld hv6 ⊢
            have HV6 := Lib.hid hv6
            have HM6 := Lib.hid hm6
            have HK6 := Lib.hid hk6
            have T6 := Lib.hid ht6
            have HBX6 := Lib.hid hHeld
            have HS6 : Hid (∀ b, (S' b ∨ Btw W1.heap.size w3.heap.size b) → b ≠ gx) := fun b hb e => by rcases hb with hb | hb; have := HSB.out b hb; omega; have := hb.1; omega
            have HPB : Hid (Blk w6 w.heap.size 52 #[.int .i64 p.tries, .int .i64 p.base, .int .i64 p.most]) := (hk6 _ (by omega) (by omega)).trans B42.out
            clear hHeld hm6 hv6 hk6 ht6 hw6 HZ HG5 HV3 HM3 HM2 HK3 T3 HV1 HM1 HK1 T1' hl5
            have q13 := HBX6.out.cell 13
            have q1 := HPB.out.cell 1
            have q2 := HPB.out.cell 2
            have q14 := HBX6.out.cell 14
            have p14 := HBX6.out.free 14
            go_wp2_with fail
            refine (rwait_any y.tries p.base p.most _ (by have := HTR.out; omega) (by have := HP.out; unfold FitP at this; omega) (by have := HP.out; unfold FitP at this; omega)).mono ?_
            rintro e wz ⟨rfl, rfl⟩
            have hD4 := HD4.out
            go_upto_region 9 with fail
            clear hD4 q13 q1 q2 q14 p14
            obtain ⟨w7, hw7⟩ : ∃ w7, w7 = w6.setCell ⟨gx, 14, none⟩ (.int .i64 Dn) := ⟨_, rfl⟩
            rw [← hw7]
            have HBX7 : Hid (Blk w7 gx 62 #[.int .i64 y.m.id, .string y.m.topic, .int .i64 ky, .int .i64 iy, .int .u64 bY, .string sy, .slice ay ny cy, .int .i64 y.m.tat, .int .i64 y.m.til, .string y.m.reply, .int .i64 y.m.corr, .int .i64 y.m.prio, .int .i64 y.m.hops, .int .i64 y.tries, .int .i64 Dn]) := by show Blk _ _ _ _; rw [hw7]; exact Blk.set (i := 14) HBX6.out _
            have k13' : w7.cell? ⟨gx, 13, none⟩ = some (.int .i64 y.tries) := HBX7.out.cell 13
            have f13' : w7.frozen? ⟨gx, 13, none⟩ = false := HBX7.out.free 13
            have HW7 := Lib.hid hw7
            have hT1 := HT1.out
            clear hw7
            go_upto_region 10 with fail
            clear hT1 k13' f13'
            obtain ⟨w8, hw8⟩ : ∃ w8, w8 = w7.setCell ⟨gx, 13, none⟩ (.int .i64 (y.tries + 1)) := ⟨_, rfl⟩
            rw [← hw8]
            have HBX8 : Hid (Blk w8 gx 62 #[.int .i64 y.m.id, .string y.m.topic, .int .i64 ky, .int .i64 iy, .int .u64 bY, .string sy, .slice ay ny cy, .int .i64 y.m.tat, .int .i64 y.m.til, .string y.m.reply, .int .i64 y.m.corr, .int .i64 y.m.prio, .int .i64 y.m.hops, .int .i64 (y.tries + 1), .int .i64 Dn]) := by show Blk _ _ _ _; rw [hw8]; exact Blk.set (i := 13) HBX7.out _
            have hk8 : ∀ b, b ≠ gx → w8.heap[b]? = w6.heap[b]? := fun b hb => by rw [hw8]; refine (heap_set (w := w7) (p := ⟨gx, 13, none⟩) hb).trans ?_; rw [HW7.out]; exact heap_set (w := w6) (p := ⟨gx, 14, none⟩) hb
            have hs8 : w8.heap.size = w6.heap.size := by rw [hw8, HW7.out]; simp
            have T8 : Hid (Below w.heap.size w w8) := by show Below _ _ _; rw [hw8, HW7.out]; exact (T6.out.setCell (by show w.heap.size ≤ gx; omega) _).setCell (by show w.heap.size ≤ gx; omega) _
            have hv8 : EndV w8 (w.heap.size + 3) L (w.heap.size + 2) ({ D with again := D.again ++ [y.m] } : DS) v6 (.slice (some ⟨g5, 0, none⟩) (D.again.length + 1) cap5) v8 v9 (fun b => S' b ∨ Btw W1.heap.size w3.heap.size b) c6 _ c8 c9 := HV6.out.off (Nat.le_of_eq hs8.symm) fun b hb => hk8 b (by
              rcases hb with hb | hb | hb | hb | hb | hb
              · omega
              · exact HS6.out b hb
              · exact fun e => HRX.out (.inl (by rw [← e]; exact hb))
              · have e : g5 = b := by simpa [Value.ownBlock] using hb
                omega
              · exact fun e => HRX.out (.inr (.inr (.inl (by rw [← e]; exact hb))))
              · exact fun e => HRX.out (.inr (.inr (.inr (by rw [← e]; exact hb)))))
            obtain ⟨D2, hD2⟩ : ∃ D2, D2 = ({ D with again := D.again ++ [y.m] } : DS) := ⟨_, rfl⟩
            have hr2 : D2.rest.length ≤ 65536 := by rw [hD2]; show D.rest.length ≤ 65536; omega
            rw [← hD2] at hv8
            have HV8 := Lib.hid hv8
            have HD2 := Lib.hid hD2
            have HX8 : Hid (IsS w8 (fun b => S' b ∨ Btw W1.heap.size w3.heap.size b) (againS y p now) [.int .i64 y.m.id, .string y.m.topic, .int .i64 ky, .int .i64 iy, .int .u64 bY, .string sy, .slice ay ny cy, .int .i64 y.m.tat, .int .i64 y.m.til, .string y.m.reply, .int .i64 y.m.corr, .int .i64 y.m.prio, .int .i64 y.m.hops, .int .i64 (y.tries + 1), .int .i64 Dn]) := ⟨_, HM6.out.keep (fun _ h => h) (fun b hb j => World.cell?_of_block (a := ⟨b, j, none⟩) (hk8 b (HS6.out b hb))), by rw [HDN.out]; rfl⟩
            have HK8 : Hid (∀ b, b ≠ w.heap.size + 2 → b < L → w8.heap[b]? = w2.heap[b]?) := fun b h1 h2 => (hk8 b (by omega)).trans (HK6.out b h1 h2)
            have hs8a : w6.heap.size ≤ w8.heap.size := by omega
            clear hw8 hk8 HW7 HBX7 HV6 HM6 HBX6 HK6 T6 HPB hv8 hD2 hs8
            have gc6 : w8.cell? ⟨w.heap.size + 2, 0, none⟩ = some v6 := HV8.out.box.cell 0
            go_wp2_with (first
              | (refine wpList_load_blk rfl 62 _ rfl gx 0 rfl [.int .i64 y.m.id, .string y.m.topic, .int .i64 ky, .int .i64 iy, .int .u64 bY, .string sy, .slice ay ny cy, .int .i64 y.m.tat, .int .i64 y.m.til, .string y.m.reply, .int .i64 y.m.corr, .int .i64 y.m.prio, .int .i64 y.m.hops, .int .i64 (y.tries + 1), .int .i64 Dn] _ (Blk.range (pre := []) (post := []) HBX8.out rfl) Tryd.underlying62 rfl sizeS ?_)
              | (at_builtin
                 go_loud (refine wpList_append_lies _ rfl _ _ _ rfl (w.heap.size + 3) 62 iS _ 15 160 Tryd.underlying50 hiS hzS hzS1 hzS2 rfl (by omega) _ D2.rest.length c6.flatten rfl (HV8.out.o6.row.alloc _) ⟨w8.heap.size, 0, none⟩ 1 1 [.int .i64 y.m.id, .string y.m.topic, .int .i64 ky, .int .i64 iy, .int .u64 bY, .string sy, .slice ay ny cy, .int .i64 y.m.tat, .int .i64 y.m.til, .string y.m.reply, .int .i64 y.m.corr, .int .i64 y.m.prio, .int .i64 y.m.hops, .int .i64 (y.tries + 1), .int .i64 Dn] rfl rfl (World.news_of_block (cs := #[.int .i64 y.m.id, .string y.m.topic, .int .i64 ky, .int .i64 iy, .int .u64 bY, .string sy, .slice ay ny cy, .int .i64 y.m.tat, .int .i64 y.m.til, .string y.m.reply, .int .i64 y.m.corr, .int .i64 y.m.prio, .int .i64 y.m.hops, .int .i64 (y.tries + 1), .int .i64 Dn]) (t := 62) (fr := (0, 0)) (heap_alloc_new w8 _)) HX8.out.one (by omega) (by unfold maxLen; omega) (by omega) (by simp; omega) (w8.heap.size + 1) (by simp) ?_)
                 intro g9 cap9 w5 hown5 hgrow5 hat5 hlt5
                 have cc : w5.cell? ⟨w.heap.size + 2, 0, none⟩ = some v6 := (far_cell hgrow5 (Blk.lt HV8.out.box) (fun e => by have := (HV8.out.o6.far_lt (w.heap.size + 2) e).1; omega)).trans gc6
                 have ff : w5.frozen? ⟨w.heap.size + 2, 0, none⟩ = false := (far_free hgrow5 (Blk.lt HV8.out.box) (fun e => by have := (HV8.out.o6.far_lt (w.heap.size + 2) e).1; omega)).trans (HV8.out.box.free 0)
                 have hV' := EndV.grow6 HV8.out (by omega) (by omega) (by omega) HX8.out rfl hown5 rfl hgrow5 hat5
                 have HV2 := Lib.hid hV'
                 have HG5 := Lib.hid hgrow5
                 have hl5 : w8.heap.size + 1 ≤ w5.heap.size := by have := hgrow5.size; simpa using this
                 clear hV' hown5 hat5 hgrow5))
            have HI : Hid (EndI w w2 L l p now (j + 1) _) := ⟨⟨_, _, _, _, _, _, _, _, _, by rw [show dueS (l.take (j + 1)) p now = { D2 with rest := D2.rest ++ [againS y p now] } by rw [HDS.out, addD, HCL.out, HD2.out]; rfl]; exact HV2.out⟩, fun b h1 h2 => (EndV.far6 HV8.out (by omega) HG5.out _ b h1 h2).trans (HK8.out b h1 h2), EndV.below6 HV8.out T8.out (by omega) (by omega) (by omega) HG5.out _, by simp; omega⟩
            go_roundw
            case rel => first | exact ⟨j + 1, by go_num, by omega, HI.out⟩ | ((repeat apply Exists.intro); exact ⟨⟨j + 1, by go_num, by omega, HI.out⟩, by first | rfl | exact ⟨rfl, rfl⟩ | exact ⟨rfl, rfl, rfl⟩ | exact ⟨rfl, rfl, rfl, rfl⟩ | exact ⟨rfl, rfl, rfl, rfl, rfl⟩⟩)
            case measure => simp [intOf]; omega
          · go_simp
            refine hK.out _ _ (Blk.alloc hHeld _) (fun hHeld2 => ?_)
            clear hHeld hK K
            have hHeld := hHeld2
            clear hHeld2
            try simp only [Act.put, List.getElem_toArray, List.getElem_cons_zero, List.getElem_cons_succ, List.setIfInBounds_toArray, List.set_cons_zero, List.set_cons_succ]
            refine wpAnyH_ready (rs := [1]) (by kernel_rfl) (by simp) ?_
            refine AllReadyH.cons rfl (fun K hK => ?_) AllReadyH.nil
            have g7 : (w3.alloc (.cells #[.int .i64 y.m.id, .string y.m.topic, .int .i64 k3, .int .i64 i3, .int .u64 b3, .string s3, .slice am3 nm3 cm3, .int .i64 y.m.tat, .int .i64 y.m.til, .string y.m.reply, .int .i64 y.m.corr, .int .i64 y.m.prio, .int .i64 y.m.hops] 30)).cell? ⟨w.heap.size + 2, 1, none⟩ = some v7 := (alloc_cell (Blk.lt HV3.out.box)).trans (HV3.out.box.cell 1)
            go_simp
            refine hK.out _ _ hHeld (fun hHeld2 => ?_)
            clear hHeld hK K
            have hHeld := hHeld2
            clear hHeld2
            try simp only [Act.put, List.getElem_toArray, List.getElem_cons_zero, List.getElem_cons_succ, List.setIfInBounds_toArray, List.set_cons_zero, List.set_cons_succ]
            refine wpAnyH_ready (rs := [6]) (by kernel_rfl) (by simp) ?_
            refine AllReadyH.cons rfl (fun K hK => ?_) AllReadyH.nil
            refine step_append_lies _ (by rfl) _ _ _ (by rfl) (w.heap.size + 3) 30 iM _ 13 144 Tryd.underlying22 hiM hzM hzM1 hzM2 rfl (by omega) v7 D.again.length c7.flatten (by rfl) (HV3.out.o7.row.alloc _)
              ⟨w3.heap.size, 0, none⟩ 1 1 [.int .i64 y.m.id, .string y.m.topic, .int .i64 k3, .int .i64 i3, .int .u64 b3, .string s3, .slice am3 nm3 cm3, .int .i64 y.m.tat, .int .i64 y.m.til, .string y.m.reply, .int .i64 y.m.corr, .int .i64 y.m.prio, .int .i64 y.m.hops] (by rfl) (by rfl) (World.news_of_block (cs := #[.int .i64 y.m.id, .string y.m.topic, .int .i64 k3, .int .i64 i3, .int .u64 b3, .string s3, .slice am3 nm3 cm3, .int .i64 y.m.tat, .int .i64 y.m.til, .string y.m.reply, .int .i64 y.m.corr, .int .i64 y.m.prio, .int .i64 y.m.hops]) (t := 30) (fr := (0, 0)) (heap_alloc_new w3 _)) HM3.out.one (by omega) (by unfold maxLen; omega) (by omega) (by simp; omega) (w3.heap.size + 1) (by simp) ?_
            intro g5 cap5 w5 hown5 hgrow5 hat5 hlt5
            have hne : v7.ownBlock ≠ some gx := fun e => HRX.out (.inr (.inl e))
            have cc : w5.cell? ⟨w.heap.size + 2, 1, none⟩ = some v7 := (far_cell hgrow5 (Blk.lt HV3.out.box) (fun e => by have := (HV3.out.o7.far_lt (w.heap.size + 2) e).1; omega)).trans (HV3.out.box.cell 1)
            have ff : w5.frozen? ⟨w.heap.size + 2, 1, none⟩ = false := (far_free hgrow5 (Blk.lt HV3.out.box) (fun e => by have := (HV3.out.o7.far_lt (w.heap.size + 2) e).1; omega)).trans (HV3.out.box.free 1)
            have hV' := EndV.grow7 HV3.out (by omega) (by omega) (by omega) HM3.out rfl hown5 rfl hgrow5 hat5
            have hBX' : Blk w5 gx 62 #[.int .i64 y.m.id, .string y.m.topic, .int .i64 ky, .int .i64 iy, .int .u64 bY, .string sy, .slice ay ny cy, .int .i64 y.m.tat, .int .i64 y.m.til, .string y.m.reply, .int .i64 y.m.corr, .int .i64 y.m.prio, .int .i64 y.m.hops, .int .i64 y.tries, .int .i64 y.due] := Blk.grown hHeld hgrow5 (fun e => hne e.symm)
            have hgB : g5 ≠ gx := fun e => by
              rcases hat5 with h | h
              · exact hne (by rw [← e]; exact h)
              · omega
            have HZ := Lib.hid hV'
            have HG5 := Lib.hid hgrow5
            have hl5 : w3.heap.size + 1 ≤ w5.heap.size := by have := hgrow5.size; simpa using this
            clear hV' hown5 hgrow5 hat5
            refine hK.out _ _ hBX' (fun hHeld2 => ?_)
            clear hHeld hK K
            have hHeld := hHeld2
            clear hHeld2
            try simp only [Act.put, List.getElem_toArray, List.getElem_cons_zero, List.getElem_cons_succ, List.setIfInBounds_toArray, List.set_cons_zero, List.set_cons_succ]
            refine wpAnyH_take (i := 7) (v := ?_) rfl (by kernel_rfl) (by kernel_rfl) (by kernel_rfl) (fun _ _ _ h => h) (Or.inl ⟨by rfl, ?_⟩) hHeld ?_
            rotate_left
            · intro w hSw
              try dsimp only at hSw
              first | (go_simp; done) | (go_simp; with_reducible rfl)
            try simp only [Act.put, List.getElem_toArray, List.getElem_cons_zero, List.getElem_cons_succ, List.setIfInBounds_toArray, List.set_cons_zero, List.set_cons_succ]
            refine wpAnyH_ready (rs := [8]) (by kernel_rfl) (by simp) ?_
            refine AllReadyH.cons rfl (fun K hK => ?_) AllReadyH.nil
            go_simp
            refine hK.out _ _ (Blk.far hHeld (p := ⟨w.heap.size + 2, 1, none⟩) (by show gx ≠ w.heap.size + 2; omega) _) (fun hHeld2 => ?_)
            clear hHeld hK K
            have hHeld := hHeld2
            clear hHeld2
            try simp only [Act.put, List.getElem_toArray, List.getElem_cons_zero, List.getElem_cons_succ, List.setIfInBounds_toArray, List.set_cons_zero, List.set_cons_succ]
            refine wpAnyH_done (by kernel_rfl) ?_ _
            obtain ⟨w6, hw6⟩ : ∃ w6, w6 = w5.setCell ⟨w.heap.size + 2, 1, none⟩ (.slice (some ⟨g5, 0, none⟩) (D.again.length + 1) cap5) := ⟨_, rfl⟩
            have hm6 : IsM w6 (fun b => S' b ∨ Btw W1.heap.size w3.heap.size b) y.m [.int .i64 y.m.id, .string y.m.topic, .int .i64 ky, .int .i64 iy, .int .u64 bY, .string sy, .slice ay ny cy, .int .i64 y.m.tat, .int .i64 y.m.til, .string y.m.reply, .int .i64 y.m.corr, .int .i64 y.m.prio, .int .i64 y.m.hops] := by rw [hw6]; exact HM2.out.keep (fun _ h => h) fun b hb j => World.cell?_of_block (a := ⟨b, j, none⟩) ((heap_set (p := ⟨w.heap.size + 2, 1, none⟩) (by show b ≠ w.heap.size + 2; intro e; have := (HV3.out.o7.far b hb).1; omega)).trans (far_block HG5.out (HV3.out.o7.far b hb).2.1 (HV3.out.o7.far b hb).2.2))
            have hv6 := HZ.out
            have hk6 : ∀ b, b ≠ w.heap.size + 2 → b < L → w6.heap[b]? = w2.heap[b]? := by rw [hw6]; exact fun b h1 h2 => (EndV.far7 HV3.out (by omega) HG5.out _ b h1 h2).trans (HK3.out b h1 h2)
            have ht6 : Below w.heap.size w w6 := by rw [hw6]; exact EndV.below7 HV3.out T3.out (by omega) (by omega) (by omega) HG5.out _
            have hz6 : w3.heap.size + 1 ≤ w6.heap.size := by rw [hw6]; simpa using hl5
            rw [← hw6] at hHeld hv6 ⊢
            have HV6 := Lib.hid hv6
            have HM6 := Lib.hid hm6
            have HK6 := Lib.hid hk6
            have T6 := Lib.hid ht6
            have HBX6 := Lib.hid hHeld
            have HS6 : Hid (∀ b, (S' b ∨ Btw W1.heap.size w3.heap.size b) → b ≠ gx) := fun b hb e => by rcases hb with hb | hb; have := HSB.out b hb; omega; have := hb.1; omega
            have HPB : Hid (Blk w6 w.heap.size 52 #[.int .i64 p.tries, .int .i64 p.base, .int .i64 p.most]) := (hk6 _ (by omega) (by omega)).trans B42.out
            clear hHeld hm6 hv6 hk6 ht6 hw6 HZ HG5 HV3 HM3 HM2 HK3 T3 HV1 HM1 HK1 T1' hl5
            have q13 := HBX6.out.cell 13
            have q1 := HPB.out.cell 1
            have q2 := HPB.out.cell 2
            have q14 := HBX6.out.cell 14
            have p14 := HBX6.out.free 14
            go_wp2_with fail
            refine (rwait_any y.tries p.base p.most _ (by have := HTR.out; omega) (by have := HP.out; unfold FitP at this; omega) (by have := HP.out; unfold FitP at this; omega)).mono ?_
            rintro e wz ⟨rfl, rfl⟩
            have hD4 := HD4.out
            go_upto_region 9 with fail
            clear hD4 q13 q1 q2 q14 p14
            obtain ⟨w7, hw7⟩ : ∃ w7, w7 = w6.setCell ⟨gx, 14, none⟩ (.int .i64 Dn) := ⟨_, rfl⟩
            rw [← hw7]
            have HBX7 : Hid (Blk w7 gx 62 #[.int .i64 y.m.id, .string y.m.topic, .int .i64 ky, .int .i64 iy, .int .u64 bY, .string sy, .slice ay ny cy, .int .i64 y.m.tat, .int .i64 y.m.til, .string y.m.reply, .int .i64 y.m.corr, .int .i64 y.m.prio, .int .i64 y.m.hops, .int .i64 y.tries, .int .i64 Dn]) := by show Blk _ _ _ _; rw [hw7]; exact Blk.set (i := 14) HBX6.out _
            have k13' : w7.cell? ⟨gx, 13, none⟩ = some (.int .i64 y.tries) := HBX7.out.cell 13
            have f13' : w7.frozen? ⟨gx, 13, none⟩ = false := HBX7.out.free 13
            have HW7 := Lib.hid hw7
            have hT1 := HT1.out
            clear hw7
            go_upto_region 10 with fail
            clear hT1 k13' f13'
            obtain ⟨w8, hw8⟩ : ∃ w8, w8 = w7.setCell ⟨gx, 13, none⟩ (.int .i64 (y.tries + 1)) := ⟨_, rfl⟩
            rw [← hw8]
            have HBX8 : Hid (Blk w8 gx 62 #[.int .i64 y.m.id, .string y.m.topic, .int .i64 ky, .int .i64 iy, .int .u64 bY, .string sy, .slice ay ny cy, .int .i64 y.m.tat, .int .i64 y.m.til, .string y.m.reply, .int .i64 y.m.corr, .int .i64 y.m.prio, .int .i64 y.m.hops, .int .i64 (y.tries + 1), .int .i64 Dn]) := by show Blk _ _ _ _; rw [hw8]; exact Blk.set (i := 13) HBX7.out _
            have hk8 : ∀ b, b ≠ gx → w8.heap[b]? = w6.heap[b]? := fun b hb => by rw [hw8]; refine (heap_set (w := w7) (p := ⟨gx, 13, none⟩) hb).trans ?_; rw [HW7.out]; exact heap_set (w := w6) (p := ⟨gx, 14, none⟩) hb
            have hs8 : w8.heap.size = w6.heap.size := by rw [hw8, HW7.out]; simp
            have T8 : Hid (Below w.heap.size w w8) := by show Below _ _ _; rw [hw8, HW7.out]; exact (T6.out.setCell (by show w.heap.size ≤ gx; omega) _).setCell (by show w.heap.size ≤ gx; omega) _
            have hv8 : EndV w8 (w.heap.size + 3) L (w.heap.size + 2) ({ D with again := D.again ++ [y.m] } : DS) v6 (.slice (some ⟨g5, 0, none⟩) (D.again.length + 1) cap5) v8 v9 (fun b => S' b ∨ Btw W1.heap.size w3.heap.size b) c6 _ c8 c9 := HV6.out.off (Nat.le_of_eq hs8.symm) fun b hb => hk8 b (by
              rcases hb with hb | hb | hb | hb | hb | hb
              · omega
              · exact HS6.out b hb
              · exact fun e => HRX.out (.inl (by rw [← e]; exact hb))
              · have e : g5 = b := by simpa [Value.ownBlock] using hb
                omega
              · exact fun e => HRX.out (.inr (.inr (.inl (by rw [← e]; exact hb))))
              · exact fun e => HRX.out (.inr (.inr (.inr (by rw [← e]; exact hb)))))
            obtain ⟨D2, hD2⟩ : ∃ D2, D2 = ({ D with again := D.again ++ [y.m] } : DS) := ⟨_, rfl⟩
            have hr2 : D2.rest.length ≤ 65536 := by rw [hD2]; show D.rest.length ≤ 65536; omega
            rw [← hD2] at hv8
            have HV8 := Lib.hid hv8
            have HD2 := Lib.hid hD2
            have HX8 : Hid (IsS w8 (fun b => S' b ∨ Btw W1.heap.size w3.heap.size b) (againS y p now) [.int .i64 y.m.id, .string y.m.topic, .int .i64 ky, .int .i64 iy, .int .u64 bY, .string sy, .slice ay ny cy, .int .i64 y.m.tat, .int .i64 y.m.til, .string y.m.reply, .int .i64 y.m.corr, .int .i64 y.m.prio, .int .i64 y.m.hops, .int .i64 (y.tries + 1), .int .i64 Dn]) := ⟨_, HM6.out.keep (fun _ h => h) (fun b hb j => World.cell?_of_block (a := ⟨b, j, none⟩) (hk8 b (HS6.out b hb))), by rw [HDN.out]; rfl⟩
            have HK8 : Hid (∀ b, b ≠ w.heap.size + 2 → b < L → w8.heap[b]? = w2.heap[b]?) := fun b h1 h2 => (hk8 b (by omega)).trans (HK6.out b h1 h2)
            have hs8a : w6.heap.size ≤ w8.heap.size := by omega
            clear hw8 hk8 HW7 HBX7 HV6 HM6 HBX6 HK6 T6 HPB hv8 hD2 hs8
            have gc6 : w8.cell? ⟨w.heap.size + 2, 0, none⟩ = some v6 := HV8.out.box.cell 0
            go_wp2_with (first
              | (refine wpList_load_blk rfl 62 _ rfl gx 0 rfl [.int .i64 y.m.id, .string y.m.topic, .int .i64 ky, .int .i64 iy, .int .u64 bY, .string sy, .slice ay ny cy, .int .i64 y.m.tat, .int .i64 y.m.til, .string y.m.reply, .int .i64 y.m.corr, .int .i64 y.m.prio, .int .i64 y.m.hops, .int .i64 (y.tries + 1), .int .i64 Dn] _ (Blk.range (pre := []) (post := []) HBX8.out rfl) Tryd.underlying62 rfl sizeS ?_)
              | (at_builtin
                 go_loud (refine wpList_append_lies _ rfl _ _ _ rfl (w.heap.size + 3) 62 iS _ 15 160 Tryd.underlying50 hiS hzS hzS1 hzS2 rfl (by omega) _ D2.rest.length c6.flatten rfl (HV8.out.o6.row.alloc _) ⟨w8.heap.size, 0, none⟩ 1 1 [.int .i64 y.m.id, .string y.m.topic, .int .i64 ky, .int .i64 iy, .int .u64 bY, .string sy, .slice ay ny cy, .int .i64 y.m.tat, .int .i64 y.m.til, .string y.m.reply, .int .i64 y.m.corr, .int .i64 y.m.prio, .int .i64 y.m.hops, .int .i64 (y.tries + 1), .int .i64 Dn] rfl rfl (World.news_of_block (cs := #[.int .i64 y.m.id, .string y.m.topic, .int .i64 ky, .int .i64 iy, .int .u64 bY, .string sy, .slice ay ny cy, .int .i64 y.m.tat, .int .i64 y.m.til, .string y.m.reply, .int .i64 y.m.corr, .int .i64 y.m.prio, .int .i64 y.m.hops, .int .i64 (y.tries + 1), .int .i64 Dn]) (t := 62) (fr := (0, 0)) (heap_alloc_new w8 _)) HX8.out.one (by omega) (by unfold maxLen; omega) (by omega) (by simp; omega) (w8.heap.size + 1) (by simp) ?_)
                 intro g9 cap9 w5 hown5 hgrow5 hat5 hlt5
                 have cc : w5.cell? ⟨w.heap.size + 2, 0, none⟩ = some v6 := (far_cell hgrow5 (Blk.lt HV8.out.box) (fun e => by have := (HV8.out.o6.far_lt (w.heap.size + 2) e).1; omega)).trans gc6
                 have ff : w5.frozen? ⟨w.heap.size + 2, 0, none⟩ = false := (far_free hgrow5 (Blk.lt HV8.out.box) (fun e => by have := (HV8.out.o6.far_lt (w.heap.size + 2) e).1; omega)).trans (HV8.out.box.free 0)
                 have hV' := EndV.grow6 HV8.out (by omega) (by omega) (by omega) HX8.out rfl hown5 rfl hgrow5 hat5
                 have HV2 := Lib.hid hV'
                 have HG5 := Lib.hid hgrow5
                 have hl5 : w8.heap.size + 1 ≤ w5.heap.size := by have := hgrow5.size; simpa using this
                 clear hV' hown5 hat5 hgrow5))
            have HI : Hid (EndI w w2 L l p now (j + 1) _) := ⟨⟨_, _, _, _, _, _, _, _, _, by rw [show dueS (l.take (j + 1)) p now = { D2 with rest := D2.rest ++ [againS y p now] } by rw [HDS.out, addD, HCL.out, HD2.out]; rfl]; exact HV2.out⟩, fun b h1 h2 => (EndV.far6 HV8.out (by omega) HG5.out _ b h1 h2).trans (HK8.out b h1 h2), EndV.below6 HV8.out T8.out (by omega) (by omega) (by omega) HG5.out _, by simp; omega⟩
            go_roundw
            case rel => first | exact ⟨j + 1, by go_num, by omega, HI.out⟩ | ((repeat apply Exists.intro); exact ⟨⟨j + 1, by go_num, by omega, HI.out⟩, by first | rfl | exact ⟨rfl, rfl⟩ | exact ⟨rfl, rfl, rfl⟩ | exact ⟨rfl, rfl, rfl, rfl⟩ | exact ⟨rfl, rfl, rfl, rfl, rfl⟩⟩)
            case measure => simp [intOf]; omega
      by_cases h1 : y.m.til < now
      · have HCL : Hid (clsS y.m.til y.due y.tries p now = 0) := if_pos ⟨h0, h1⟩
        have e0 : (y.m.til != 0) = true := bne_iff_ne.2 h0
        clear h0
        have gc9 : w1.cell? ⟨w.heap.size + 2, 3, none⟩ = some v9 := HV.out.box.cell 3
        go_wp2_with (first
          | (refine wpList_load_blk rfl 30 _ rfl gx 0 rfl [.int .i64 y.m.id, .string y.m.topic, .int .i64 ky, .int .i64 iy, .int .u64 bY, .string sy, .slice ay ny cy, .int .i64 y.m.tat, .int .i64 y.m.til, .string y.m.reply, .int .i64 y.m.corr, .int .i64 y.m.prio, .int .i64 y.m.hops] _ (Blk.range (pre := []) (post := [.int .i64 y.tries, .int .i64 y.due]) HBX.out rfl) Tryd.underlying30 rfl sizeM ?_)
          | (at_builtin
             go_loud (refine wpList_append_lies _ rfl _ _ _ rfl (w.heap.size + 3) 30 iM _ 13 144 Tryd.underlying22 hiM hzM hzM1 hzM2 rfl (by omega) _ D.late.length c9.flatten rfl (HV.out.o9.row.alloc _) ⟨w1.heap.size, 0, none⟩ 1 1 [.int .i64 y.m.id, .string y.m.topic, .int .i64 ky, .int .i64 iy, .int .u64 bY, .string sy, .slice ay ny cy, .int .i64 y.m.tat, .int .i64 y.m.til, .string y.m.reply, .int .i64 y.m.corr, .int .i64 y.m.prio, .int .i64 y.m.hops] rfl rfl (World.news_of_block (cs := #[.int .i64 y.m.id, .string y.m.topic, .int .i64 ky, .int .i64 iy, .int .u64 bY, .string sy, .slice ay ny cy, .int .i64 y.m.tat, .int .i64 y.m.til, .string y.m.reply, .int .i64 y.m.corr, .int .i64 y.m.prio, .int .i64 y.m.hops]) (t := 30) (fr := (0, 0)) (heap_alloc_new w1 _)) HM0.out.one (by omega) (by unfold maxLen; omega) (by omega) (by simp; omega) (w1.heap.size + 1) (by simp) ?_)
             intro g5 cap5 w5 hown5 hgrow5 hat5 hlt5
             have cc : w5.cell? ⟨w.heap.size + 2, 3, none⟩ = some v9 := (far_cell hgrow5 (Blk.lt HV.out.box) (fun e => by have := (HV.out.o9.far_lt (w.heap.size + 2) e).1; omega)).trans gc9
             have ff : w5.frozen? ⟨w.heap.size + 2, 3, none⟩ = false := (far_free hgrow5 (Blk.lt HV.out.box) (fun e => by have := (HV.out.o9.far_lt (w.heap.size + 2) e).1; omega)).trans (HV.out.box.free 3)
             have hV' := EndV.grow9 HV.out (by omega) (by omega) (by omega) HM0.out rfl hown5 rfl hgrow5 hat5
             have HV2 := Lib.hid hV'
             have HG5 := Lib.hid hgrow5
             have hl5 : w1.heap.size + 1 ≤ w5.heap.size := by have := hgrow5.size; simpa using this
             clear hV' hown5 hat5 hgrow5))
        have HI : Hid (EndI w w2 L l p now (j + 1) _) := ⟨⟨_, _, _, _, _, _, _, _, _, by rw [show dueS (l.take (j + 1)) p now = { D with late := D.late ++ [y.m] } by rw [HDS.out, addD, HCL.out]; rfl]; exact HV2.out⟩, fun b h1 h2 => (EndV.far9 HV.out (by omega) HG5.out _ b h1 h2).trans (HK.out b h1 h2), EndV.below9 HV.out T1.out (by omega) (by omega) (by omega) HG5.out _, by simp; omega⟩
        go_roundw
        case rel => first | exact ⟨j + 1, by go_num, by omega, HI.out⟩ | ((repeat apply Exists.intro); exact ⟨⟨j + 1, by go_num, by omega, HI.out⟩, by first | rfl | exact ⟨rfl, rfl⟩ | exact ⟨rfl, rfl, rfl⟩ | exact ⟨rfl, rfl, rfl, rfl⟩ | exact ⟨rfl, rfl, rfl, rfl, rfl⟩⟩)
        case measure => simp [intOf]; omega
      have HNA : Hid (¬ (y.m.til ≠ 0 ∧ y.m.til < now)) := fun h => h1 h.2
      have e0 : (y.m.til != 0) = true := bne_iff_ne.2 h0
      clear h0
      by_cases h2 : now < y.due
      · have HCL : Hid (clsS y.m.til y.due y.tries p now = 1) := by show clsS _ _ _ _ _ = _; rw [clsS, if_neg HNA.out, if_pos h2]
        have gc6 : w1.cell? ⟨w.heap.size + 2, 0, none⟩ = some v6 := HV.out.box.cell 0
        go_wp2_with (first
          | (refine wpList_load_blk rfl 62 _ rfl gx 0 rfl [.int .i64 y.m.id, .string y.m.topic, .int .i64 ky, .int .i64 iy, .int .u64 bY, .string sy, .slice ay ny cy, .int .i64 y.m.tat, .int .i64 y.m.til, .string y.m.reply, .int .i64 y.m.corr, .int .i64 y.m.prio, .int .i64 y.m.hops, .int .i64 y.tries, .int .i64 y.due] _ (Blk.range (pre := []) (post := []) HBX.out rfl) Tryd.underlying62 rfl sizeS ?_)
          | (at_builtin
             go_loud (refine wpList_append_lies _ rfl _ _ _ rfl (w.heap.size + 3) 62 iS _ 15 160 Tryd.underlying50 hiS hzS hzS1 hzS2 rfl (by omega) _ D.rest.length c6.flatten rfl (HV.out.o6.row.alloc _) ⟨w1.heap.size, 0, none⟩ 1 1 [.int .i64 y.m.id, .string y.m.topic, .int .i64 ky, .int .i64 iy, .int .u64 bY, .string sy, .slice ay ny cy, .int .i64 y.m.tat, .int .i64 y.m.til, .string y.m.reply, .int .i64 y.m.corr, .int .i64 y.m.prio, .int .i64 y.m.hops, .int .i64 y.tries, .int .i64 y.due] rfl rfl (World.news_of_block (cs := #[.int .i64 y.m.id, .string y.m.topic, .int .i64 ky, .int .i64 iy, .int .u64 bY, .string sy, .slice ay ny cy, .int .i64 y.m.tat, .int .i64 y.m.til, .string y.m.reply, .int .i64 y.m.corr, .int .i64 y.m.prio, .int .i64 y.m.hops, .int .i64 y.tries, .int .i64 y.due]) (t := 62) (fr := (0, 0)) (heap_alloc_new w1 _)) HX0.out.one (by omega) (by unfold maxLen; omega) (by omega) (by simp; omega) (w1.heap.size + 1) (by simp) ?_)
             intro g5 cap5 w5 hown5 hgrow5 hat5 hlt5
             have cc : w5.cell? ⟨w.heap.size + 2, 0, none⟩ = some v6 := (far_cell hgrow5 (Blk.lt HV.out.box) (fun e => by have := (HV.out.o6.far_lt (w.heap.size + 2) e).1; omega)).trans gc6
             have ff : w5.frozen? ⟨w.heap.size + 2, 0, none⟩ = false := (far_free hgrow5 (Blk.lt HV.out.box) (fun e => by have := (HV.out.o6.far_lt (w.heap.size + 2) e).1; omega)).trans (HV.out.box.free 0)
             have hV' := EndV.grow6 HV.out (by omega) (by omega) (by omega) HX0.out rfl hown5 rfl hgrow5 hat5
             have HV2 := Lib.hid hV'
             have HG5 := Lib.hid hgrow5
             have hl5 : w1.heap.size + 1 ≤ w5.heap.size := by have := hgrow5.size; simpa using this
             clear hV' hown5 hat5 hgrow5))
        have HI : Hid (EndI w w2 L l p now (j + 1) _) := ⟨⟨_, _, _, _, _, _, _, _, _, by rw [show dueS (l.take (j + 1)) p now = { D with rest := D.rest ++ [y] } by rw [HDS.out, addD, HCL.out]; rfl]; exact HV2.out⟩, fun b h1 h2 => (EndV.far6 HV.out (by omega) HG5.out _ b h1 h2).trans (HK.out b h1 h2), EndV.below6 HV.out T1.out (by omega) (by omega) (by omega) HG5.out _, by simp; omega⟩
        go_roundw
        case rel => first | exact ⟨j + 1, by go_num, by omega, HI.out⟩ | ((repeat apply Exists.intro); exact ⟨⟨j + 1, by go_num, by omega, HI.out⟩, by first | rfl | exact ⟨rfl, rfl⟩ | exact ⟨rfl, rfl, rfl⟩ | exact ⟨rfl, rfl, rfl, rfl⟩ | exact ⟨rfl, rfl, rfl, rfl, rfl⟩⟩)
        case measure => simp [intOf]; omega
      by_cases h3 : y.tries = p.tries
      · have HCL : Hid (clsS y.m.til y.due y.tries p now = 2) := by show clsS _ _ _ _ _ = _; rw [clsS, if_neg HNA.out, if_neg h2, if_pos (by omega)]
        have e3 : (y.tries == p.tries) = true := by rw [h3]; exact beq_self_eq_true _
        clear h3
        have gc8 : w1.cell? ⟨w.heap.size + 2, 2, none⟩ = some v8 := HV.out.box.cell 2
        go_wp2_with (first
          | (refine wpList_load_blk rfl 30 _ rfl gx 0 rfl [.int .i64 y.m.id, .string y.m.topic, .int .i64 ky, .int .i64 iy, .int .u64 bY, .string sy, .slice ay ny cy, .int .i64 y.m.tat, .int .i64 y.m.til, .string y.m.reply, .int .i64 y.m.corr, .int .i64 y.m.prio, .int .i64 y.m.hops] _ (Blk.range (pre := []) (post := [.int .i64 y.tries, .int .i64 y.due]) HBX.out rfl) Tryd.underlying30 rfl sizeM ?_)
          | (at_builtin
             go_loud (refine wpList_append_lies _ rfl _ _ _ rfl (w.heap.size + 3) 30 iM _ 13 144 Tryd.underlying22 hiM hzM hzM1 hzM2 rfl (by omega) _ D.dead.length c8.flatten rfl (HV.out.o8.row.alloc _) ⟨w1.heap.size, 0, none⟩ 1 1 [.int .i64 y.m.id, .string y.m.topic, .int .i64 ky, .int .i64 iy, .int .u64 bY, .string sy, .slice ay ny cy, .int .i64 y.m.tat, .int .i64 y.m.til, .string y.m.reply, .int .i64 y.m.corr, .int .i64 y.m.prio, .int .i64 y.m.hops] rfl rfl (World.news_of_block (cs := #[.int .i64 y.m.id, .string y.m.topic, .int .i64 ky, .int .i64 iy, .int .u64 bY, .string sy, .slice ay ny cy, .int .i64 y.m.tat, .int .i64 y.m.til, .string y.m.reply, .int .i64 y.m.corr, .int .i64 y.m.prio, .int .i64 y.m.hops]) (t := 30) (fr := (0, 0)) (heap_alloc_new w1 _)) HM0.out.one (by omega) (by unfold maxLen; omega) (by omega) (by simp; omega) (w1.heap.size + 1) (by simp) ?_)
             intro g5 cap5 w5 hown5 hgrow5 hat5 hlt5
             have cc : w5.cell? ⟨w.heap.size + 2, 2, none⟩ = some v8 := (far_cell hgrow5 (Blk.lt HV.out.box) (fun e => by have := (HV.out.o8.far_lt (w.heap.size + 2) e).1; omega)).trans gc8
             have ff : w5.frozen? ⟨w.heap.size + 2, 2, none⟩ = false := (far_free hgrow5 (Blk.lt HV.out.box) (fun e => by have := (HV.out.o8.far_lt (w.heap.size + 2) e).1; omega)).trans (HV.out.box.free 2)
             have hV' := EndV.grow8 HV.out (by omega) (by omega) (by omega) HM0.out rfl hown5 rfl hgrow5 hat5
             have HV2 := Lib.hid hV'
             have HG5 := Lib.hid hgrow5
             have hl5 : w1.heap.size + 1 ≤ w5.heap.size := by have := hgrow5.size; simpa using this
             clear hV' hown5 hat5 hgrow5))
        have HI : Hid (EndI w w2 L l p now (j + 1) _) := ⟨⟨_, _, _, _, _, _, _, _, _, by rw [show dueS (l.take (j + 1)) p now = { D with dead := D.dead ++ [y.m] } by rw [HDS.out, addD, HCL.out]; rfl]; exact HV2.out⟩, fun b h1 h2 => (EndV.far8 HV.out (by omega) HG5.out _ b h1 h2).trans (HK.out b h1 h2), EndV.below8 HV.out T1.out (by omega) (by omega) (by omega) HG5.out _, by simp; omega⟩
        go_roundw
        case rel => first | exact ⟨j + 1, by go_num, by omega, HI.out⟩ | ((repeat apply Exists.intro); exact ⟨⟨j + 1, by go_num, by omega, HI.out⟩, by first | rfl | exact ⟨rfl, rfl⟩ | exact ⟨rfl, rfl, rfl⟩ | exact ⟨rfl, rfl, rfl, rfl⟩ | exact ⟨rfl, rfl, rfl, rfl, rfl⟩⟩)
        case measure => simp [intOf]; omega
      have HCL : Hid (clsS y.m.til y.due y.tries p now = 3) := by show clsS _ _ _ _ _ = _; rw [clsS, if_neg HNA.out, if_neg h2, if_neg (by omega)]
      have e3 : (y.tries == p.tries) = false := beq_eq_false_iff_ne.2 h3
      obtain ⟨Dn, hDn⟩ : ∃ Dn, Dn = now + waitF y.tries p.base p.most := ⟨_, rfl⟩
      have HD4 : Hid (IntKind.i64.wrap (now + waitF y.tries p.base p.most) = Dn) := (wait_add HP.out HNW.out.1 HNW.out.2 y.tries).trans hDn.symm
      have HDN := Lib.hid hDn
      have HT1 : Hid (IntKind.i64.wrap (y.tries + 1) = y.tries + 1) := by show _ = _; have := HTR.out; rw [IntKind.wrap_i64]; omega
      clear hDn h3
      go_upto_region 7 with fail
      refine wp_region_held_drew (S := fun w' => Blk w' gx 62 #[.int .i64 y.m.id, .string y.m.topic, .int .i64 ky, .int .i64 iy, .int .u64 bY, .string sy, .slice ay ny cy, .int .i64 y.m.tat, .int .i64 y.m.til, .string y.m.reply, .int .i64 y.m.corr, .int .i64 y.m.prio, .int .i64 y.m.hops, .int .i64 y.tries, .int .i64 y.due]) (by kernel_rfl) HBX.out.drew (fun hHeld => ?_)
      obtain ⟨W1, hW1⟩ : ∃ W1, W1 = w1.drew := ⟨_, rfl⟩
      have hv1 : EndV W1 (w.heap.size + 3) L (w.heap.size + 2) D v6 v7 v8 v9 S' c6 c7 c8 c9 := by rw [hW1]; exact HV.out.off (Nat.le_refl _) (fun _ _ => rfl)
      have hm1 : IsM W1 S' y.m [.int .i64 y.m.id, .string y.m.topic, .int .i64 ky, .int .i64 iy, .int .u64 bY, .string sy, .slice ay ny cy, .int .i64 y.m.tat, .int .i64 y.m.til, .string y.m.reply, .int .i64 y.m.corr, .int .i64 y.m.prio, .int .i64 y.m.hops] := by rw [hW1]; exact HM0.out.drew
      have hk1 : ∀ b, b ≠ w.heap.size + 2 → b < L → W1.heap[b]? = w2.heap[b]? := by rw [hW1]; exact HK.out
      have ht1 : Below w.heap.size w W1 := by rw [hW1]; exact T1.out.drew
      have hz1 : w1.heap.size ≤ W1.heap.size := by rw [hW1]; exact Nat.le_refl _
      rw [← hW1] at hHeld ⊢
      have HV1 := Lib.hid hv1
      have HM1 := Lib.hid hm1
      have HK1 := Lib.hid hk1
      have T1' := Lib.hid ht1
      clear hv1 hm1 hk1 ht1 hW1
      refine wpAnyH_take (i := 0) (v := ?_) rfl (by kernel_rfl) (by kernel_rfl) (by kernel_rfl) (fun _ _ _ h => h) (Or.inl ⟨by rfl, ?_⟩) hHeld ?_
      rotate_left
      · intro w hSw
        try dsimp only at hSw
        first | (go_simp; done) | (go_simp; with_reducible rfl)
      try simp only [Act.put, List.getElem_toArray, List.getElem_cons_zero, List.setIfInBounds_toArray, List.set_cons_zero, List.set_cons_succ]
      refine wpAnyH_take (i := 2) (v := ?_) rfl (by kernel_rfl) (by kernel_rfl) (by kernel_rfl) (fun _ _ _ h => h) (Or.inl ⟨by rfl, ?_⟩) hHeld ?_
      rotate_left
      · intro w hSw
        try dsimp only at hSw
        first | (go_simp; done) | (go_simp; with_reducible rfl)
      try simp only [Act.put, List.getElem_toArray, List.getElem_cons_zero, List.getElem_cons_succ, List.setIfInBounds_toArray, List.set_cons_zero, List.set_cons_succ]
      refine wpAnyH_take (i := 3) (v := .agg #[.int .i64 y.m.id, .string y.m.topic, .int .i64 ky, .int .i64 iy, .int .u64 bY, .string sy, .slice ay ny cy, .int .i64 y.m.tat, .int .i64 y.m.til, .string y.m.reply, .int .i64 y.m.corr, .int .i64 y.m.prio, .int .i64 y.m.hops]) rfl (by kernel_rfl) (by kernel_rfl) (by kernel_rfl) (fun _ _ _ h => h) (yieldsIf_load_mid (by rfl) 30 _ rfl (gx) (0) (by rfl) [.int .i64 y.m.id, .string y.m.topic, .int .i64 ky, .int .i64 iy, .int .u64 bY, .string sy, .slice ay ny cy, .int .i64 y.m.tat, .int .i64 y.m.til, .string y.m.reply, .int .i64 y.m.corr, .int .i64 y.m.prio, .int .i64 y.m.hops] _ (fun w' h => Blk.range (pre := []) (post := [.int .i64 y.tries, .int .i64 y.due]) h rfl) Tryd.underlying30 rfl sizeM) hHeld ?_
      try simp only [Act.put, List.getElem_toArray, List.getElem_cons_zero, List.getElem_cons_succ, List.setIfInBounds_toArray, List.set_cons_zero, List.set_cons_succ]
      refine wpAnyH_ready (rs := [1, 4]) (by kernel_rfl) (by simp) ?_
      refine AllReadyH.cons rfl (fun K hK => ?_) (AllReadyH.cons rfl (fun K hK => ?_) AllReadyH.nil)
      · have g7 : W1.cell? ⟨w.heap.size + 2, 1, none⟩ = some v7 := HV1.out.box.cell 1
        go_simp
        refine hK.out _ _ hHeld (fun hHeld2 => ?_)
        clear hHeld hK K
        have hHeld := hHeld2
        clear hHeld2
        try simp only [Act.put, List.getElem_toArray, List.getElem_cons_zero, List.getElem_cons_succ, List.setIfInBounds_toArray, List.set_cons_zero, List.set_cons_succ]
        refine wpAnyH_ready (rs := [4]) (by kernel_rfl) (by simp) ?_
        refine AllReadyH.cons rfl (fun K hK => ?_) AllReadyH.nil
        go_simp
        go_at_call 15
        refine (copymsg_any y.m W1 S' [.int .i64 y.m.id, .string y.m.topic, .int .i64 ky, .int .i64 iy, .int .u64 bY, .string sy, .slice ay ny cy, .int .i64 y.m.tat, .int .i64 y.m.til, .string y.m.reply, .int .i64 y.m.corr, .int .i64 y.m.prio, .int .i64 y.m.hops] HM1.out (fun b hb => by have := HSB.out b hb; omega) hzy).mono ?_
        rintro e w3 ⟨k3, i3, b3, s3, am3, nm3, cm3, rfl, hm3, hb⟩
        have hl3 := hb.size
        have HV3 : Hid (EndV w3 (w.heap.size + 3) L (w.heap.size + 2) D v6 v7 v8 v9 (fun b => S' b ∨ Btw W1.heap.size w3.heap.size b) c6 c7 c8 c9) := (HV1.out.below hb).wider (fun _ h => .inl h) (fun b hb2 => by
          rcases hb2 with hb2 | hb2
          · exact ⟨(HV1.out.o6.far b hb2).1, by have := (HV1.out.o6.far b hb2).2.1; omega, (HV1.out.o6.far b hb2).2.2, (HV1.out.o7.far b hb2).2.2, (HV1.out.o8.far b hb2).2.2, (HV1.out.o9.far b hb2).2.2⟩
          · obtain ⟨q1, q2⟩ := hb2
            exact ⟨by omega, q2, fun e => by have := (HV1.out.o6.far_lt b e).2; omega, fun e => by have := (HV1.out.o7.far_lt b e).2; omega, fun e => by have := (HV1.out.o8.far_lt b e).2; omega, fun e => by have := (HV1.out.o9.far_lt b e).2; omega⟩)
        have HM3 : Hid (IsM w3 (fun b => S' b ∨ Btw W1.heap.size w3.heap.size b) y.m [.int .i64 y.m.id, .string y.m.topic, .int .i64 k3, .int .i64 i3, .int .u64 b3, .string s3, .slice am3 nm3 cm3, .int .i64 y.m.tat, .int .i64 y.m.til, .string y.m.reply, .int .i64 y.m.corr, .int .i64 y.m.prio, .int .i64 y.m.hops]) := hm3.ism.mono (fun _ h => .inr h)
        have HM2 : Hid (IsM w3 (fun b => S' b ∨ Btw W1.heap.size w3.heap.size b) y.m [.int .i64 y.m.id, .string y.m.topic, .int .i64 ky, .int .i64 iy, .int .u64 bY, .string sy, .slice ay ny cy, .int .i64 y.m.tat, .int .i64 y.m.til, .string y.m.reply, .int .i64 y.m.corr, .int .i64 y.m.prio, .int .i64 y.m.hops]) := (HM1.out.under hb (fun b hb => by have := HSB.out b hb; omega)).mono (fun _ h => .inl h)
        have HK3 : Hid (∀ b, b ≠ w.heap.size + 2 → b < L → w3.heap[b]? = w2.heap[b]?) := fun b h1 h2 => (hb.block b (by omega)).trans (HK1.out b h1 h2)
        have T3 : Hid (Below w.heap.size w w3) := T1'.out.trans (hb.mono (by omega))
        clear hm3
        refine hK.out _ _ (Blk.on hHeld hb) (fun hHeld2 => ?_)
        clear hHeld hK K
        have hHeld := hHeld2
        clear hHeld2
        try simp only [Act.put, List.getElem_toArray, List.getElem_cons_zero, List.getElem_cons_succ, List.setIfInBounds_toArray, List.set_cons_zero, List.set_cons_succ]
        clear hb
        refine wpAnyH_ready (rs := [5]) (by kernel_rfl) (by simp) ?_
        refine AllReadyH.cons rfl (fun K hK => ?_) AllReadyH.nil
        go_simp
        refine hK.out _ _ (Blk.alloc hHeld _) (fun hHeld2 => ?_)
        clear hHeld hK K
        have hHeld := hHeld2
        clear hHeld2
        try simp only [Act.put, List.getElem_toArray, List.getElem_cons_zero, List.getElem_cons_succ, List.setIfInBounds_toArray, List.set_cons_zero, List.set_cons_succ]
        refine wpAnyH_ready (rs := [6]) (by kernel_rfl) (by simp) ?_
        refine AllReadyH.cons rfl (fun K hK => ?_) AllReadyH.nil
        refine step_append_lies _ (by rfl) _ _ _ (by rfl) (w.heap.size + 3) 30 iM _ 13 144 Tryd.underlying22 hiM hzM hzM1 hzM2 rfl (by omega) v7 D.again.length c7.flatten (by rfl) (HV3.out.o7.row.alloc _)
          ⟨w3.heap.size, 0, none⟩ 1 1 [.int .i64 y.m.id, .string y.m.topic, .int .i64 k3, .int .i64 i3, .int .u64 b3, .string s3, .slice am3 nm3 cm3, .int .i64 y.m.tat, .int .i64 y.m.til, .string y.m.reply, .int .i64 y.m.corr, .int .i64 y.m.prio, .int .i64 y.m.hops] (by rfl) (by rfl) (World.news_of_block (cs := #[.int .i64 y.m.id, .string y.m.topic, .int .i64 k3, .int .i64 i3, .int .u64 b3, .string s3, .slice am3 nm3 cm3, .int .i64 y.m.tat, .int .i64 y.m.til, .string y.m.reply, .int .i64 y.m.corr, .int .i64 y.m.prio, .int .i64 y.m.hops]) (t := 30) (fr := (0, 0)) (heap_alloc_new w3 _)) HM3.out.one (by omega) (by unfold maxLen; omega) (by omega) (by simp; omega) (w3.heap.size + 1) (by simp) ?_
        intro g5 cap5 w5 hown5 hgrow5 hat5 hlt5
        have hne : v7.ownBlock ≠ some gx := fun e => HRX.out (.inr (.inl e))
        have cc : w5.cell? ⟨w.heap.size + 2, 1, none⟩ = some v7 := (far_cell hgrow5 (Blk.lt HV3.out.box) (fun e => by have := (HV3.out.o7.far_lt (w.heap.size + 2) e).1; omega)).trans (HV3.out.box.cell 1)
        have ff : w5.frozen? ⟨w.heap.size + 2, 1, none⟩ = false := (far_free hgrow5 (Blk.lt HV3.out.box) (fun e => by have := (HV3.out.o7.far_lt (w.heap.size + 2) e).1; omega)).trans (HV3.out.box.free 1)
        have hV' := EndV.grow7 HV3.out (by omega) (by omega) (by omega) HM3.out rfl hown5 rfl hgrow5 hat5
        have hBX' : Blk w5 gx 62 #[.int .i64 y.m.id, .string y.m.topic, .int .i64 ky, .int .i64 iy, .int .u64 bY, .string sy, .slice ay ny cy, .int .i64 y.m.tat, .int .i64 y.m.til, .string y.m.reply, .int .i64 y.m.corr, .int .i64 y.m.prio, .int .i64 y.m.hops, .int .i64 y.tries, .int .i64 y.due] := Blk.grown hHeld hgrow5 (fun e => hne e.symm)
        have hgB : g5 ≠ gx := fun e => by
          rcases hat5 with h | h
          · exact hne (by rw [← e]; exact h)
          · omega
        have HZ := Lib.hid hV'
        have HG5 := Lib.hid hgrow5
        have hl5 : w3.heap.size + 1 ≤ w5.heap.size := by have := hgrow5.size; simpa using this
        clear hV' hown5 hgrow5 hat5
        refine hK.out _ _ hBX' (fun hHeld2 => ?_)
        clear hHeld hK K
        have hHeld := hHeld2
        clear hHeld2
        try simp only [Act.put, List.getElem_toArray, List.getElem_cons_zero, List.getElem_cons_succ, List.setIfInBounds_toArray, List.set_cons_zero, List.set_cons_succ]
        refine wpAnyH_take (i := 7) (v := ?_) rfl (by kernel_rfl) (by kernel_rfl) (by kernel_rfl) (fun _ _ _ h => h) (Or.inl ⟨by rfl, ?_⟩) hHeld ?_
        rotate_left
        · intro w hSw
          try dsimp only at hSw
          first | (go_simp; done) | (go_simp; with_reducible rfl)
        try simp only [Act.put, List.getElem_toArray, List.getElem_cons_zero, List.getElem_cons_succ, List.setIfInBounds_toArray, List.set_cons_zero, List.set_cons_succ]
        refine wpAnyH_ready (rs := [8]) (by kernel_rfl) (by simp) ?_
        refine AllReadyH.cons rfl (fun K hK => ?_) AllReadyH.nil
        go_simp
        refine hK.out _ _ (Blk.far hHeld (p := ⟨w.heap.size + 2, 1, none⟩) (by show gx ≠ w.heap.size + 2; omega) _) (fun hHeld2 => ?_)
        clear hHeld hK K
        have hHeld := hHeld2
        clear hHeld2
        try simp only [Act.put, List.getElem_toArray, List.getElem_cons_zero, List.getElem_cons_succ, List.setIfInBounds_toArray, List.set_cons_zero, List.set_cons_succ]
        refine wpAnyH_done (by kernel_rfl) ?_ _
        obtain ⟨w6, hw6⟩ : ∃ w6, w6 = w5.setCell ⟨w.heap.size + 2, 1, none⟩ (.slice (some ⟨g5, 0, none⟩) (D.again.length + 1) cap5) := ⟨_, rfl⟩
        have hm6 : IsM w6 (fun b => S' b ∨ Btw W1.heap.size w3.heap.size b) y.m [.int .i64 y.m.id, .string y.m.topic, .int .i64 ky, .int .i64 iy, .int .u64 bY, .string sy, .slice ay ny cy, .int .i64 y.m.tat, .int .i64 y.m.til, .string y.m.reply, .int .i64 y.m.corr, .int .i64 y.m.prio, .int .i64 y.m.hops] := by rw [hw6]; exact HM2.out.keep (fun _ h => h) fun b hb j => World.cell?_of_block (a := ⟨b, j, none⟩) ((heap_set (p := ⟨w.heap.size + 2, 1, none⟩) (by show b ≠ w.heap.size + 2; intro e; have := (HV3.out.o7.far b hb).1; omega)).trans (far_block HG5.out (HV3.out.o7.far b hb).2.1 (HV3.out.o7.far b hb).2.2))
        have hv6 := HZ.out
        have hk6 : ∀ b, b ≠ w.heap.size + 2 → b < L → w6.heap[b]? = w2.heap[b]? := by rw [hw6]; exact fun b h1 h2 => (EndV.far7 HV3.out (by omega) HG5.out _ b h1 h2).trans (HK3.out b h1 h2)
        have ht6 : Below w.heap.size w w6 := by rw [hw6]; exact EndV.below7 HV3.out T3.out (by omega) (by omega) (by omega) HG5.out _
        have hz6 : w3.heap.size + 1 ≤ w6.heap.size := by rw [hw6]; simpa using hl5
        rw [← hw6] at hHeld hv6 ⊢
        have HV6 := Lib.hid hv6
        have HM6 := Lib.hid hm6
        have HK6 := Lib.hid hk6
        have T6 := Lib.hid ht6
        have HBX6 := Lib.hid hHeld
        have HS6 : Hid (∀ b, (S' b ∨ Btw W1.heap.size w3.heap.size b) → b ≠ gx) := fun b hb e => by rcases hb with hb | hb; have := HSB.out b hb; omega; have := hb.1; omega
        have HPB : Hid (Blk w6 w.heap.size 52 #[.int .i64 p.tries, .int .i64 p.base, .int .i64 p.most]) := (hk6 _ (by omega) (by omega)).trans B42.out
        clear hHeld hm6 hv6 hk6 ht6 hw6 HZ HG5 HV3 HM3 HM2 HK3 T3 HV1 HM1 HK1 T1' hl5
        have q13 := HBX6.out.cell 13
        have q1 := HPB.out.cell 1
        have q2 := HPB.out.cell 2
        have q14 := HBX6.out.cell 14
        have p14 := HBX6.out.free 14
        go_wp2_with fail
        refine (rwait_any y.tries p.base p.most _ (by have := HTR.out; omega) (by have := HP.out; unfold FitP at this; omega) (by have := HP.out; unfold FitP at this; omega)).mono ?_
        rintro e wz ⟨rfl, rfl⟩
        have hD4 := HD4.out
        go_upto_region 9 with fail
        clear hD4 q13 q1 q2 q14 p14
        obtain ⟨w7, hw7⟩ : ∃ w7, w7 = w6.setCell ⟨gx, 14, none⟩ (.int .i64 Dn) := ⟨_, rfl⟩
        rw [← hw7]
        have HBX7 : Hid (Blk w7 gx 62 #[.int .i64 y.m.id, .string y.m.topic, .int .i64 ky, .int .i64 iy, .int .u64 bY, .string sy, .slice ay ny cy, .int .i64 y.m.tat, .int .i64 y.m.til, .string y.m.reply, .int .i64 y.m.corr, .int .i64 y.m.prio, .int .i64 y.m.hops, .int .i64 y.tries, .int .i64 Dn]) := by show Blk _ _ _ _; rw [hw7]; exact Blk.set (i := 14) HBX6.out _
        have k13' : w7.cell? ⟨gx, 13, none⟩ = some (.int .i64 y.tries) := HBX7.out.cell 13
        have f13' : w7.frozen? ⟨gx, 13, none⟩ = false := HBX7.out.free 13
        have HW7 := Lib.hid hw7
        have hT1 := HT1.out
        clear hw7
        go_upto_region 10 with fail
        clear hT1 k13' f13'
        obtain ⟨w8, hw8⟩ : ∃ w8, w8 = w7.setCell ⟨gx, 13, none⟩ (.int .i64 (y.tries + 1)) := ⟨_, rfl⟩
        rw [← hw8]
        have HBX8 : Hid (Blk w8 gx 62 #[.int .i64 y.m.id, .string y.m.topic, .int .i64 ky, .int .i64 iy, .int .u64 bY, .string sy, .slice ay ny cy, .int .i64 y.m.tat, .int .i64 y.m.til, .string y.m.reply, .int .i64 y.m.corr, .int .i64 y.m.prio, .int .i64 y.m.hops, .int .i64 (y.tries + 1), .int .i64 Dn]) := by show Blk _ _ _ _; rw [hw8]; exact Blk.set (i := 13) HBX7.out _
        have hk8 : ∀ b, b ≠ gx → w8.heap[b]? = w6.heap[b]? := fun b hb => by rw [hw8]; refine (heap_set (w := w7) (p := ⟨gx, 13, none⟩) hb).trans ?_; rw [HW7.out]; exact heap_set (w := w6) (p := ⟨gx, 14, none⟩) hb
        have hs8 : w8.heap.size = w6.heap.size := by rw [hw8, HW7.out]; simp
        have T8 : Hid (Below w.heap.size w w8) := by show Below _ _ _; rw [hw8, HW7.out]; exact (T6.out.setCell (by show w.heap.size ≤ gx; omega) _).setCell (by show w.heap.size ≤ gx; omega) _
        have hv8 : EndV w8 (w.heap.size + 3) L (w.heap.size + 2) ({ D with again := D.again ++ [y.m] } : DS) v6 (.slice (some ⟨g5, 0, none⟩) (D.again.length + 1) cap5) v8 v9 (fun b => S' b ∨ Btw W1.heap.size w3.heap.size b) c6 _ c8 c9 := HV6.out.off (Nat.le_of_eq hs8.symm) fun b hb => hk8 b (by
          rcases hb with hb | hb | hb | hb | hb | hb
          · omega
          · exact HS6.out b hb
          · exact fun e => HRX.out (.inl (by rw [← e]; exact hb))
          · have e : g5 = b := by simpa [Value.ownBlock] using hb
            omega
          · exact fun e => HRX.out (.inr (.inr (.inl (by rw [← e]; exact hb))))
          · exact fun e => HRX.out (.inr (.inr (.inr (by rw [← e]; exact hb)))))
        obtain ⟨D2, hD2⟩ : ∃ D2, D2 = ({ D with again := D.again ++ [y.m] } : DS) := ⟨_, rfl⟩
        have hr2 : D2.rest.length ≤ 65536 := by rw [hD2]; show D.rest.length ≤ 65536; omega
        rw [← hD2] at hv8
        have HV8 := Lib.hid hv8
        have HD2 := Lib.hid hD2
        have HX8 : Hid (IsS w8 (fun b => S' b ∨ Btw W1.heap.size w3.heap.size b) (againS y p now) [.int .i64 y.m.id, .string y.m.topic, .int .i64 ky, .int .i64 iy, .int .u64 bY, .string sy, .slice ay ny cy, .int .i64 y.m.tat, .int .i64 y.m.til, .string y.m.reply, .int .i64 y.m.corr, .int .i64 y.m.prio, .int .i64 y.m.hops, .int .i64 (y.tries + 1), .int .i64 Dn]) := ⟨_, HM6.out.keep (fun _ h => h) (fun b hb j => World.cell?_of_block (a := ⟨b, j, none⟩) (hk8 b (HS6.out b hb))), by rw [HDN.out]; rfl⟩
        have HK8 : Hid (∀ b, b ≠ w.heap.size + 2 → b < L → w8.heap[b]? = w2.heap[b]?) := fun b h1 h2 => (hk8 b (by omega)).trans (HK6.out b h1 h2)
        have hs8a : w6.heap.size ≤ w8.heap.size := by omega
        clear hw8 hk8 HW7 HBX7 HV6 HM6 HBX6 HK6 T6 HPB hv8 hD2 hs8
        have gc6 : w8.cell? ⟨w.heap.size + 2, 0, none⟩ = some v6 := HV8.out.box.cell 0
        go_wp2_with (first
          | (refine wpList_load_blk rfl 62 _ rfl gx 0 rfl [.int .i64 y.m.id, .string y.m.topic, .int .i64 ky, .int .i64 iy, .int .u64 bY, .string sy, .slice ay ny cy, .int .i64 y.m.tat, .int .i64 y.m.til, .string y.m.reply, .int .i64 y.m.corr, .int .i64 y.m.prio, .int .i64 y.m.hops, .int .i64 (y.tries + 1), .int .i64 Dn] _ (Blk.range (pre := []) (post := []) HBX8.out rfl) Tryd.underlying62 rfl sizeS ?_)
          | (at_builtin
             go_loud (refine wpList_append_lies _ rfl _ _ _ rfl (w.heap.size + 3) 62 iS _ 15 160 Tryd.underlying50 hiS hzS hzS1 hzS2 rfl (by omega) _ D2.rest.length c6.flatten rfl (HV8.out.o6.row.alloc _) ⟨w8.heap.size, 0, none⟩ 1 1 [.int .i64 y.m.id, .string y.m.topic, .int .i64 ky, .int .i64 iy, .int .u64 bY, .string sy, .slice ay ny cy, .int .i64 y.m.tat, .int .i64 y.m.til, .string y.m.reply, .int .i64 y.m.corr, .int .i64 y.m.prio, .int .i64 y.m.hops, .int .i64 (y.tries + 1), .int .i64 Dn] rfl rfl (World.news_of_block (cs := #[.int .i64 y.m.id, .string y.m.topic, .int .i64 ky, .int .i64 iy, .int .u64 bY, .string sy, .slice ay ny cy, .int .i64 y.m.tat, .int .i64 y.m.til, .string y.m.reply, .int .i64 y.m.corr, .int .i64 y.m.prio, .int .i64 y.m.hops, .int .i64 (y.tries + 1), .int .i64 Dn]) (t := 62) (fr := (0, 0)) (heap_alloc_new w8 _)) HX8.out.one (by omega) (by unfold maxLen; omega) (by omega) (by simp; omega) (w8.heap.size + 1) (by simp) ?_)
             intro g9 cap9 w5 hown5 hgrow5 hat5 hlt5
             have cc : w5.cell? ⟨w.heap.size + 2, 0, none⟩ = some v6 := (far_cell hgrow5 (Blk.lt HV8.out.box) (fun e => by have := (HV8.out.o6.far_lt (w.heap.size + 2) e).1; omega)).trans gc6
             have ff : w5.frozen? ⟨w.heap.size + 2, 0, none⟩ = false := (far_free hgrow5 (Blk.lt HV8.out.box) (fun e => by have := (HV8.out.o6.far_lt (w.heap.size + 2) e).1; omega)).trans (HV8.out.box.free 0)
             have hV' := EndV.grow6 HV8.out (by omega) (by omega) (by omega) HX8.out rfl hown5 rfl hgrow5 hat5
             have HV2 := Lib.hid hV'
             have HG5 := Lib.hid hgrow5
             have hl5 : w8.heap.size + 1 ≤ w5.heap.size := by have := hgrow5.size; simpa using this
             clear hV' hown5 hat5 hgrow5))
        have HI : Hid (EndI w w2 L l p now (j + 1) _) := ⟨⟨_, _, _, _, _, _, _, _, _, by rw [show dueS (l.take (j + 1)) p now = { D2 with rest := D2.rest ++ [againS y p now] } by rw [HDS.out, addD, HCL.out, HD2.out]; rfl]; exact HV2.out⟩, fun b h1 h2 => (EndV.far6 HV8.out (by omega) HG5.out _ b h1 h2).trans (HK8.out b h1 h2), EndV.below6 HV8.out T8.out (by omega) (by omega) (by omega) HG5.out _, by simp; omega⟩
        go_roundw
        case rel => first | exact ⟨j + 1, by go_num, by omega, HI.out⟩ | ((repeat apply Exists.intro); exact ⟨⟨j + 1, by go_num, by omega, HI.out⟩, by first | rfl | exact ⟨rfl, rfl⟩ | exact ⟨rfl, rfl, rfl⟩ | exact ⟨rfl, rfl, rfl, rfl⟩ | exact ⟨rfl, rfl, rfl, rfl, rfl⟩⟩)
        case measure => simp [intOf]; omega
      · go_simp
        go_at_call 15
        refine (copymsg_any y.m W1 S' [.int .i64 y.m.id, .string y.m.topic, .int .i64 ky, .int .i64 iy, .int .u64 bY, .string sy, .slice ay ny cy, .int .i64 y.m.tat, .int .i64 y.m.til, .string y.m.reply, .int .i64 y.m.corr, .int .i64 y.m.prio, .int .i64 y.m.hops] HM1.out (fun b hb => by have := HSB.out b hb; omega) hzy).mono ?_
        rintro e w3 ⟨k3, i3, b3, s3, am3, nm3, cm3, rfl, hm3, hb⟩
        have hl3 := hb.size
        have HV3 : Hid (EndV w3 (w.heap.size + 3) L (w.heap.size + 2) D v6 v7 v8 v9 (fun b => S' b ∨ Btw W1.heap.size w3.heap.size b) c6 c7 c8 c9) := (HV1.out.below hb).wider (fun _ h => .inl h) (fun b hb2 => by
          rcases hb2 with hb2 | hb2
          · exact ⟨(HV1.out.o6.far b hb2).1, by have := (HV1.out.o6.far b hb2).2.1; omega, (HV1.out.o6.far b hb2).2.2, (HV1.out.o7.far b hb2).2.2, (HV1.out.o8.far b hb2).2.2, (HV1.out.o9.far b hb2).2.2⟩
          · obtain ⟨q1, q2⟩ := hb2
            exact ⟨by omega, q2, fun e => by have := (HV1.out.o6.far_lt b e).2; omega, fun e => by have := (HV1.out.o7.far_lt b e).2; omega, fun e => by have := (HV1.out.o8.far_lt b e).2; omega, fun e => by have := (HV1.out.o9.far_lt b e).2; omega⟩)
        have HM3 : Hid (IsM w3 (fun b => S' b ∨ Btw W1.heap.size w3.heap.size b) y.m [.int .i64 y.m.id, .string y.m.topic, .int .i64 k3, .int .i64 i3, .int .u64 b3, .string s3, .slice am3 nm3 cm3, .int .i64 y.m.tat, .int .i64 y.m.til, .string y.m.reply, .int .i64 y.m.corr, .int .i64 y.m.prio, .int .i64 y.m.hops]) := hm3.ism.mono (fun _ h => .inr h)
        have HM2 : Hid (IsM w3 (fun b => S' b ∨ Btw W1.heap.size w3.heap.size b) y.m [.int .i64 y.m.id, .string y.m.topic, .int .i64 ky, .int .i64 iy, .int .u64 bY, .string sy, .slice ay ny cy, .int .i64 y.m.tat, .int .i64 y.m.til, .string y.m.reply, .int .i64 y.m.corr, .int .i64 y.m.prio, .int .i64 y.m.hops]) := (HM1.out.under hb (fun b hb => by have := HSB.out b hb; omega)).mono (fun _ h => .inl h)
        have HK3 : Hid (∀ b, b ≠ w.heap.size + 2 → b < L → w3.heap[b]? = w2.heap[b]?) := fun b h1 h2 => (hb.block b (by omega)).trans (HK1.out b h1 h2)
        have T3 : Hid (Below w.heap.size w w3) := T1'.out.trans (hb.mono (by omega))
        clear hm3
        refine hK.out _ _ (Blk.on hHeld hb) (fun hHeld2 => ?_)
        clear hHeld hK K
        have hHeld := hHeld2
        clear hHeld2
        try simp only [Act.put, List.getElem_toArray, List.getElem_cons_zero, List.getElem_cons_succ, List.setIfInBounds_toArray, List.set_cons_zero, List.set_cons_succ]
        clear hb
        refine wpAnyH_ready (rs := [1, 5]) (by kernel_rfl) (by simp) ?_
        refine AllReadyH.cons rfl (fun K hK => ?_) (AllReadyH.cons rfl (fun K hK => ?_) AllReadyH.nil)
        · have g7 : w3.cell? ⟨w.heap.size + 2, 1, none⟩ = some v7 := HV3.out.box.cell 1
          go_simp
          refine hK.out _ _ hHeld (fun hHeld2 => ?_)
          clear hHeld hK K
          have hHeld := hHeld2
          clear hHeld2
          try simp only [Act.put, List.getElem_toArray, List.getElem_cons_zero, List.getElem_cons_succ, List.setIfInBounds_toArray, List.set_cons_zero, List.set_cons_succ]
          refine wpAnyH_ready (rs := [5]) (by kernel_rfl) (by simp) ?_
          refine AllReadyH.cons rfl (fun K hK => ?_) AllReadyH.nil
          go_simp
          refine hK.out _ _ (Blk.alloc hHeld _) (fun hHeld2 => ?_)
          clear hHeld hK K
          have hHeld := hHeld2
          clear hHeld2
          try simp only [Act.put, List.getElem_toArray, List.getElem_cons_zero, List.getElem_cons_succ, List.setIfInBounds_toArray, List.set_cons_zero, List.set_cons_succ]
          refine wpAnyH_ready (rs := [6]) (by kernel_rfl) (by simp) ?_
          refine AllReadyH.cons rfl (fun K hK => ?_) AllReadyH.nil
          refine step_append_lies _ (by rfl) _ _ _ (by rfl) (w.heap.size + 3) 30 iM _ 13 144 Tryd.underlying22 hiM hzM hzM1 hzM2 rfl (by omega) v7 D.again.length c7.flatten (by rfl) (HV3.out.o7.row.alloc _)
            ⟨w3.heap.size, 0, none⟩ 1 1 [.int .i64 y.m.id, .string y.m.topic, .int .i64 k3, .int .i64 i3, .int .u64 b3, .string s3, .slice am3 nm3 cm3, .int .i64 y.m.tat, .int .i64 y.m.til, .string y.m.reply, .int .i64 y.m.corr, .int .i64 y.m.prio, .int .i64 y.m.hops] (by rfl) (by rfl) (World.news_of_block (cs := #[.int .i64 y.m.id, .string y.m.topic, .int .i64 k3, .int .i64 i3, .int .u64 b3, .string s3, .slice am3 nm3 cm3, .int .i64 y.m.tat, .int .i64 y.m.til, .string y.m.reply, .int .i64 y.m.corr, .int .i64 y.m.prio, .int .i64 y.m.hops]) (t := 30) (fr := (0, 0)) (heap_alloc_new w3 _)) HM3.out.one (by omega) (by unfold maxLen; omega) (by omega) (by simp; omega) (w3.heap.size + 1) (by simp) ?_
          intro g5 cap5 w5 hown5 hgrow5 hat5 hlt5
          have hne : v7.ownBlock ≠ some gx := fun e => HRX.out (.inr (.inl e))
          have cc : w5.cell? ⟨w.heap.size + 2, 1, none⟩ = some v7 := (far_cell hgrow5 (Blk.lt HV3.out.box) (fun e => by have := (HV3.out.o7.far_lt (w.heap.size + 2) e).1; omega)).trans (HV3.out.box.cell 1)
          have ff : w5.frozen? ⟨w.heap.size + 2, 1, none⟩ = false := (far_free hgrow5 (Blk.lt HV3.out.box) (fun e => by have := (HV3.out.o7.far_lt (w.heap.size + 2) e).1; omega)).trans (HV3.out.box.free 1)
          have hV' := EndV.grow7 HV3.out (by omega) (by omega) (by omega) HM3.out rfl hown5 rfl hgrow5 hat5
          have hBX' : Blk w5 gx 62 #[.int .i64 y.m.id, .string y.m.topic, .int .i64 ky, .int .i64 iy, .int .u64 bY, .string sy, .slice ay ny cy, .int .i64 y.m.tat, .int .i64 y.m.til, .string y.m.reply, .int .i64 y.m.corr, .int .i64 y.m.prio, .int .i64 y.m.hops, .int .i64 y.tries, .int .i64 y.due] := Blk.grown hHeld hgrow5 (fun e => hne e.symm)
          have hgB : g5 ≠ gx := fun e => by
            rcases hat5 with h | h
            · exact hne (by rw [← e]; exact h)
            · omega
          have HZ := Lib.hid hV'
          have HG5 := Lib.hid hgrow5
          have hl5 : w3.heap.size + 1 ≤ w5.heap.size := by have := hgrow5.size; simpa using this
          clear hV' hown5 hgrow5 hat5
          refine hK.out _ _ hBX' (fun hHeld2 => ?_)
          clear hHeld hK K
          have hHeld := hHeld2
          clear hHeld2
          try simp only [Act.put, List.getElem_toArray, List.getElem_cons_zero, List.getElem_cons_succ, List.setIfInBounds_toArray, List.set_cons_zero, List.set_cons_succ]
          refine wpAnyH_take (i := 7) (v := ?_) rfl (by kernel_rfl) (by kernel_rfl) (by kernel_rfl) (fun _ _ _ h => h) (Or.inl ⟨by rfl, ?_⟩) hHeld ?_
          rotate_left
          · intro w hSw
            try dsimp only at hSw
            first | (go_simp; done) | (go_simp; with_reducible rfl)
          try simp only [Act.put, List.getElem_toArray, List.getElem_cons_zero, List.getElem_cons_succ, List.setIfInBounds_toArray, List.set_cons_zero, List.set_cons_succ]
          refine wpAnyH_ready (rs := [8]) (by kernel_rfl) (by simp) ?_
          refine AllReadyH.cons rfl (fun K hK => ?_) AllReadyH.nil
          go_simp
          refine hK.out _ _ (Blk.far hHeld (p := ⟨w.heap.size + 2, 1, none⟩) (by show gx ≠ w.heap.size + 2; omega) _) (fun hHeld2 => ?_)
          clear hHeld hK K
          have hHeld := hHeld2
          clear hHeld2
          try simp only [Act.put, List.getElem_toArray, List.getElem_cons_zero, List.getElem_cons_succ, List.setIfInBounds_toArray, List.set_cons_zero, List.set_cons_succ]
          refine wpAnyH_done (by kernel_rfl) ?_ _
          obtain ⟨w6, hw6⟩ : ∃ w6, w6 = w5.setCell ⟨w.heap.size + 2, 1, none⟩ (.slice (some ⟨g5, 0, none⟩) (D.again.length + 1) cap5) := ⟨_, rfl⟩
          have hm6 : IsM w6 (fun b => S' b ∨ Btw W1.heap.size w3.heap.size b) y.m [.int .i64 y.m.id, .string y.m.topic, .int .i64 ky, .int .i64 iy, .int .u64 bY, .string sy, .slice ay ny cy, .int .i64 y.m.tat, .int .i64 y.m.til, .string y.m.reply, .int .i64 y.m.corr, .int .i64 y.m.prio, .int .i64 y.m.hops] := by rw [hw6]; exact HM2.out.keep (fun _ h => h) fun b hb j => World.cell?_of_block (a := ⟨b, j, none⟩) ((heap_set (p := ⟨w.heap.size + 2, 1, none⟩) (by show b ≠ w.heap.size + 2; intro e; have := (HV3.out.o7.far b hb).1; omega)).trans (far_block HG5.out (HV3.out.o7.far b hb).2.1 (HV3.out.o7.far b hb).2.2))
          have hv6 := HZ.out
          have hk6 : ∀ b, b ≠ w.heap.size + 2 → b < L → w6.heap[b]? = w2.heap[b]? := by rw [hw6]; exact fun b h1 h2 => (EndV.far7 HV3.out (by omega) HG5.out _ b h1 h2).trans (HK3.out b h1 h2)
          have ht6 : Below w.heap.size w w6 := by rw [hw6]; exact EndV.below7 HV3.out T3.out (by omega) (by omega) (by omega) HG5.out _
          have hz6 : w3.heap.size + 1 ≤ w6.heap.size := by rw [hw6]; simpa using hl5
          rw [← hw6] at hHeld hv6 ⊢
          have HV6 := Lib.hid hv6
          have HM6 := Lib.hid hm6
          have HK6 := Lib.hid hk6
          have T6 := Lib.hid ht6
          have HBX6 := Lib.hid hHeld
          have HS6 : Hid (∀ b, (S' b ∨ Btw W1.heap.size w3.heap.size b) → b ≠ gx) := fun b hb e => by rcases hb with hb | hb; have := HSB.out b hb; omega; have := hb.1; omega
          have HPB : Hid (Blk w6 w.heap.size 52 #[.int .i64 p.tries, .int .i64 p.base, .int .i64 p.most]) := (hk6 _ (by omega) (by omega)).trans B42.out
          clear hHeld hm6 hv6 hk6 ht6 hw6 HZ HG5 HV3 HM3 HM2 HK3 T3 HV1 HM1 HK1 T1' hl5
          have q13 := HBX6.out.cell 13
          have q1 := HPB.out.cell 1
          have q2 := HPB.out.cell 2
          have q14 := HBX6.out.cell 14
          have p14 := HBX6.out.free 14
          go_wp2_with fail
          refine (rwait_any y.tries p.base p.most _ (by have := HTR.out; omega) (by have := HP.out; unfold FitP at this; omega) (by have := HP.out; unfold FitP at this; omega)).mono ?_
          rintro e wz ⟨rfl, rfl⟩
          have hD4 := HD4.out
          go_upto_region 9 with fail
          clear hD4 q13 q1 q2 q14 p14
          obtain ⟨w7, hw7⟩ : ∃ w7, w7 = w6.setCell ⟨gx, 14, none⟩ (.int .i64 Dn) := ⟨_, rfl⟩
          rw [← hw7]
          have HBX7 : Hid (Blk w7 gx 62 #[.int .i64 y.m.id, .string y.m.topic, .int .i64 ky, .int .i64 iy, .int .u64 bY, .string sy, .slice ay ny cy, .int .i64 y.m.tat, .int .i64 y.m.til, .string y.m.reply, .int .i64 y.m.corr, .int .i64 y.m.prio, .int .i64 y.m.hops, .int .i64 y.tries, .int .i64 Dn]) := by show Blk _ _ _ _; rw [hw7]; exact Blk.set (i := 14) HBX6.out _
          have k13' : w7.cell? ⟨gx, 13, none⟩ = some (.int .i64 y.tries) := HBX7.out.cell 13
          have f13' : w7.frozen? ⟨gx, 13, none⟩ = false := HBX7.out.free 13
          have HW7 := Lib.hid hw7
          have hT1 := HT1.out
          clear hw7
          go_upto_region 10 with fail
          clear hT1 k13' f13'
          obtain ⟨w8, hw8⟩ : ∃ w8, w8 = w7.setCell ⟨gx, 13, none⟩ (.int .i64 (y.tries + 1)) := ⟨_, rfl⟩
          rw [← hw8]
          have HBX8 : Hid (Blk w8 gx 62 #[.int .i64 y.m.id, .string y.m.topic, .int .i64 ky, .int .i64 iy, .int .u64 bY, .string sy, .slice ay ny cy, .int .i64 y.m.tat, .int .i64 y.m.til, .string y.m.reply, .int .i64 y.m.corr, .int .i64 y.m.prio, .int .i64 y.m.hops, .int .i64 (y.tries + 1), .int .i64 Dn]) := by show Blk _ _ _ _; rw [hw8]; exact Blk.set (i := 13) HBX7.out _
          have hk8 : ∀ b, b ≠ gx → w8.heap[b]? = w6.heap[b]? := fun b hb => by rw [hw8]; refine (heap_set (w := w7) (p := ⟨gx, 13, none⟩) hb).trans ?_; rw [HW7.out]; exact heap_set (w := w6) (p := ⟨gx, 14, none⟩) hb
          have hs8 : w8.heap.size = w6.heap.size := by rw [hw8, HW7.out]; simp
          have T8 : Hid (Below w.heap.size w w8) := by show Below _ _ _; rw [hw8, HW7.out]; exact (T6.out.setCell (by show w.heap.size ≤ gx; omega) _).setCell (by show w.heap.size ≤ gx; omega) _
          have hv8 : EndV w8 (w.heap.size + 3) L (w.heap.size + 2) ({ D with again := D.again ++ [y.m] } : DS) v6 (.slice (some ⟨g5, 0, none⟩) (D.again.length + 1) cap5) v8 v9 (fun b => S' b ∨ Btw W1.heap.size w3.heap.size b) c6 _ c8 c9 := HV6.out.off (Nat.le_of_eq hs8.symm) fun b hb => hk8 b (by
            rcases hb with hb | hb | hb | hb | hb | hb
            · omega
            · exact HS6.out b hb
            · exact fun e => HRX.out (.inl (by rw [← e]; exact hb))
            · have e : g5 = b := by simpa [Value.ownBlock] using hb
              omega
            · exact fun e => HRX.out (.inr (.inr (.inl (by rw [← e]; exact hb))))
            · exact fun e => HRX.out (.inr (.inr (.inr (by rw [← e]; exact hb)))))
          obtain ⟨D2, hD2⟩ : ∃ D2, D2 = ({ D with again := D.again ++ [y.m] } : DS) := ⟨_, rfl⟩
          have hr2 : D2.rest.length ≤ 65536 := by rw [hD2]; show D.rest.length ≤ 65536; omega
          rw [← hD2] at hv8
          have HV8 := Lib.hid hv8
          have HD2 := Lib.hid hD2
          have HX8 : Hid (IsS w8 (fun b => S' b ∨ Btw W1.heap.size w3.heap.size b) (againS y p now) [.int .i64 y.m.id, .string y.m.topic, .int .i64 ky, .int .i64 iy, .int .u64 bY, .string sy, .slice ay ny cy, .int .i64 y.m.tat, .int .i64 y.m.til, .string y.m.reply, .int .i64 y.m.corr, .int .i64 y.m.prio, .int .i64 y.m.hops, .int .i64 (y.tries + 1), .int .i64 Dn]) := ⟨_, HM6.out.keep (fun _ h => h) (fun b hb j => World.cell?_of_block (a := ⟨b, j, none⟩) (hk8 b (HS6.out b hb))), by rw [HDN.out]; rfl⟩
          have HK8 : Hid (∀ b, b ≠ w.heap.size + 2 → b < L → w8.heap[b]? = w2.heap[b]?) := fun b h1 h2 => (hk8 b (by omega)).trans (HK6.out b h1 h2)
          have hs8a : w6.heap.size ≤ w8.heap.size := by omega
          clear hw8 hk8 HW7 HBX7 HV6 HM6 HBX6 HK6 T6 HPB hv8 hD2 hs8
          have gc6 : w8.cell? ⟨w.heap.size + 2, 0, none⟩ = some v6 := HV8.out.box.cell 0
          go_wp2_with (first
            | (refine wpList_load_blk rfl 62 _ rfl gx 0 rfl [.int .i64 y.m.id, .string y.m.topic, .int .i64 ky, .int .i64 iy, .int .u64 bY, .string sy, .slice ay ny cy, .int .i64 y.m.tat, .int .i64 y.m.til, .string y.m.reply, .int .i64 y.m.corr, .int .i64 y.m.prio, .int .i64 y.m.hops, .int .i64 (y.tries + 1), .int .i64 Dn] _ (Blk.range (pre := []) (post := []) HBX8.out rfl) Tryd.underlying62 rfl sizeS ?_)
            | (at_builtin
               go_loud (refine wpList_append_lies _ rfl _ _ _ rfl (w.heap.size + 3) 62 iS _ 15 160 Tryd.underlying50 hiS hzS hzS1 hzS2 rfl (by omega) _ D2.rest.length c6.flatten rfl (HV8.out.o6.row.alloc _) ⟨w8.heap.size, 0, none⟩ 1 1 [.int .i64 y.m.id, .string y.m.topic, .int .i64 ky, .int .i64 iy, .int .u64 bY, .string sy, .slice ay ny cy, .int .i64 y.m.tat, .int .i64 y.m.til, .string y.m.reply, .int .i64 y.m.corr, .int .i64 y.m.prio, .int .i64 y.m.hops, .int .i64 (y.tries + 1), .int .i64 Dn] rfl rfl (World.news_of_block (cs := #[.int .i64 y.m.id, .string y.m.topic, .int .i64 ky, .int .i64 iy, .int .u64 bY, .string sy, .slice ay ny cy, .int .i64 y.m.tat, .int .i64 y.m.til, .string y.m.reply, .int .i64 y.m.corr, .int .i64 y.m.prio, .int .i64 y.m.hops, .int .i64 (y.tries + 1), .int .i64 Dn]) (t := 62) (fr := (0, 0)) (heap_alloc_new w8 _)) HX8.out.one (by omega) (by unfold maxLen; omega) (by omega) (by simp; omega) (w8.heap.size + 1) (by simp) ?_)
               intro g9 cap9 w5 hown5 hgrow5 hat5 hlt5
               have cc : w5.cell? ⟨w.heap.size + 2, 0, none⟩ = some v6 := (far_cell hgrow5 (Blk.lt HV8.out.box) (fun e => by have := (HV8.out.o6.far_lt (w.heap.size + 2) e).1; omega)).trans gc6
               have ff : w5.frozen? ⟨w.heap.size + 2, 0, none⟩ = false := (far_free hgrow5 (Blk.lt HV8.out.box) (fun e => by have := (HV8.out.o6.far_lt (w.heap.size + 2) e).1; omega)).trans (HV8.out.box.free 0)
               have hV' := EndV.grow6 HV8.out (by omega) (by omega) (by omega) HX8.out rfl hown5 rfl hgrow5 hat5
               have HV2 := Lib.hid hV'
               have HG5 := Lib.hid hgrow5
               have hl5 : w8.heap.size + 1 ≤ w5.heap.size := by have := hgrow5.size; simpa using this
               clear hV' hown5 hat5 hgrow5))
          have HI : Hid (EndI w w2 L l p now (j + 1) _) := ⟨⟨_, _, _, _, _, _, _, _, _, by rw [show dueS (l.take (j + 1)) p now = { D2 with rest := D2.rest ++ [againS y p now] } by rw [HDS.out, addD, HCL.out, HD2.out]; rfl]; exact HV2.out⟩, fun b h1 h2 => (EndV.far6 HV8.out (by omega) HG5.out _ b h1 h2).trans (HK8.out b h1 h2), EndV.below6 HV8.out T8.out (by omega) (by omega) (by omega) HG5.out _, by simp; omega⟩
          go_roundw
          case rel => first | exact ⟨j + 1, by go_num, by omega, HI.out⟩ | ((repeat apply Exists.intro); exact ⟨⟨j + 1, by go_num, by omega, HI.out⟩, by first | rfl | exact ⟨rfl, rfl⟩ | exact ⟨rfl, rfl, rfl⟩ | exact ⟨rfl, rfl, rfl, rfl⟩ | exact ⟨rfl, rfl, rfl, rfl, rfl⟩⟩)
          case measure => simp [intOf]; omega
        · go_simp
          refine hK.out _ _ (Blk.alloc hHeld _) (fun hHeld2 => ?_)
          clear hHeld hK K
          have hHeld := hHeld2
          clear hHeld2
          try simp only [Act.put, List.getElem_toArray, List.getElem_cons_zero, List.getElem_cons_succ, List.setIfInBounds_toArray, List.set_cons_zero, List.set_cons_succ]
          refine wpAnyH_ready (rs := [1]) (by kernel_rfl) (by simp) ?_
          refine AllReadyH.cons rfl (fun K hK => ?_) AllReadyH.nil
          have g7 : (w3.alloc (.cells #[.int .i64 y.m.id, .string y.m.topic, .int .i64 k3, .int .i64 i3, .int .u64 b3, .string s3, .slice am3 nm3 cm3, .int .i64 y.m.tat, .int .i64 y.m.til, .string y.m.reply, .int .i64 y.m.corr, .int .i64 y.m.prio, .int .i64 y.m.hops] 30)).cell? ⟨w.heap.size + 2, 1, none⟩ = some v7 := (alloc_cell (Blk.lt HV3.out.box)).trans (HV3.out.box.cell 1)
          go_simp
          refine hK.out _ _ hHeld (fun hHeld2 => ?_)
          clear hHeld hK K
          have hHeld := hHeld2
          clear hHeld2
          try simp only [Act.put, List.getElem_toArray, List.getElem_cons_zero, List.getElem_cons_succ, List.setIfInBounds_toArray, List.set_cons_zero, List.set_cons_succ]
          refine wpAnyH_ready (rs := [6]) (by kernel_rfl) (by simp) ?_
          refine AllReadyH.cons rfl (fun K hK => ?_) AllReadyH.nil
          refine step_append_lies _ (by rfl) _ _ _ (by rfl) (w.heap.size + 3) 30 iM _ 13 144 Tryd.underlying22 hiM hzM hzM1 hzM2 rfl (by omega) v7 D.again.length c7.flatten (by rfl) (HV3.out.o7.row.alloc _)
            ⟨w3.heap.size, 0, none⟩ 1 1 [.int .i64 y.m.id, .string y.m.topic, .int .i64 k3, .int .i64 i3, .int .u64 b3, .string s3, .slice am3 nm3 cm3, .int .i64 y.m.tat, .int .i64 y.m.til, .string y.m.reply, .int .i64 y.m.corr, .int .i64 y.m.prio, .int .i64 y.m.hops] (by rfl) (by rfl) (World.news_of_block (cs := #[.int .i64 y.m.id, .string y.m.topic, .int .i64 k3, .int .i64 i3, .int .u64 b3, .string s3, .slice am3 nm3 cm3, .int .i64 y.m.tat, .int .i64 y.m.til, .string y.m.reply, .int .i64 y.m.corr, .int .i64 y.m.prio, .int .i64 y.m.hops]) (t := 30) (fr := (0, 0)) (heap_alloc_new w3 _)) HM3.out.one (by omega) (by unfold maxLen; omega) (by omega) (by simp; omega) (w3.heap.size + 1) (by simp) ?_
          intro g5 cap5 w5 hown5 hgrow5 hat5 hlt5
          have hne : v7.ownBlock ≠ some gx := fun e => HRX.out (.inr (.inl e))
          have cc : w5.cell? ⟨w.heap.size + 2, 1, none⟩ = some v7 := (far_cell hgrow5 (Blk.lt HV3.out.box) (fun e => by have := (HV3.out.o7.far_lt (w.heap.size + 2) e).1; omega)).trans (HV3.out.box.cell 1)
          have ff : w5.frozen? ⟨w.heap.size + 2, 1, none⟩ = false := (far_free hgrow5 (Blk.lt HV3.out.box) (fun e => by have := (HV3.out.o7.far_lt (w.heap.size + 2) e).1; omega)).trans (HV3.out.box.free 1)
          have hV' := EndV.grow7 HV3.out (by omega) (by omega) (by omega) HM3.out rfl hown5 rfl hgrow5 hat5
          have hBX' : Blk w5 gx 62 #[.int .i64 y.m.id, .string y.m.topic, .int .i64 ky, .int .i64 iy, .int .u64 bY, .string sy, .slice ay ny cy, .int .i64 y.m.tat, .int .i64 y.m.til, .string y.m.reply, .int .i64 y.m.corr, .int .i64 y.m.prio, .int .i64 y.m.hops, .int .i64 y.tries, .int .i64 y.due] := Blk.grown hHeld hgrow5 (fun e => hne e.symm)
          have hgB : g5 ≠ gx := fun e => by
            rcases hat5 with h | h
            · exact hne (by rw [← e]; exact h)
            · omega
          have HZ := Lib.hid hV'
          have HG5 := Lib.hid hgrow5
          have hl5 : w3.heap.size + 1 ≤ w5.heap.size := by have := hgrow5.size; simpa using this
          clear hV' hown5 hgrow5 hat5
          refine hK.out _ _ hBX' (fun hHeld2 => ?_)
          clear hHeld hK K
          have hHeld := hHeld2
          clear hHeld2
          try simp only [Act.put, List.getElem_toArray, List.getElem_cons_zero, List.getElem_cons_succ, List.setIfInBounds_toArray, List.set_cons_zero, List.set_cons_succ]
          refine wpAnyH_take (i := 7) (v := ?_) rfl (by kernel_rfl) (by kernel_rfl) (by kernel_rfl) (fun _ _ _ h => h) (Or.inl ⟨by rfl, ?_⟩) hHeld ?_
          rotate_left
          · intro w hSw
            try dsimp only at hSw
            first | (go_simp; done) | (go_simp; with_reducible rfl)
          try simp only [Act.put, List.getElem_toArray, List.getElem_cons_zero, List.getElem_cons_succ, List.setIfInBounds_toArray, List.set_cons_zero, List.set_cons_succ]
          refine wpAnyH_ready (rs := [8]) (by kernel_rfl) (by simp) ?_
          refine AllReadyH.cons rfl (fun K hK => ?_) AllReadyH.nil
          go_simp
          refine hK.out _ _ (Blk.far hHeld (p := ⟨w.heap.size + 2, 1, none⟩) (by show gx ≠ w.heap.size + 2; omega) _) (fun hHeld2 => ?_)
          clear hHeld hK K
          have hHeld := hHeld2
          clear hHeld2
          try simp only [Act.put, List.getElem_toArray, List.getElem_cons_zero, List.getElem_cons_succ, List.setIfInBounds_toArray, List.set_cons_zero, List.set_cons_succ]
          refine wpAnyH_done (by kernel_rfl) ?_ _
          obtain ⟨w6, hw6⟩ : ∃ w6, w6 = w5.setCell ⟨w.heap.size + 2, 1, none⟩ (.slice (some ⟨g5, 0, none⟩) (D.again.length + 1) cap5) := ⟨_, rfl⟩
          have hm6 : IsM w6 (fun b => S' b ∨ Btw W1.heap.size w3.heap.size b) y.m [.int .i64 y.m.id, .string y.m.topic, .int .i64 ky, .int .i64 iy, .int .u64 bY, .string sy, .slice ay ny cy, .int .i64 y.m.tat, .int .i64 y.m.til, .string y.m.reply, .int .i64 y.m.corr, .int .i64 y.m.prio, .int .i64 y.m.hops] := by rw [hw6]; exact HM2.out.keep (fun _ h => h) fun b hb j => World.cell?_of_block (a := ⟨b, j, none⟩) ((heap_set (p := ⟨w.heap.size + 2, 1, none⟩) (by show b ≠ w.heap.size + 2; intro e; have := (HV3.out.o7.far b hb).1; omega)).trans (far_block HG5.out (HV3.out.o7.far b hb).2.1 (HV3.out.o7.far b hb).2.2))
          have hv6 := HZ.out
          have hk6 : ∀ b, b ≠ w.heap.size + 2 → b < L → w6.heap[b]? = w2.heap[b]? := by rw [hw6]; exact fun b h1 h2 => (EndV.far7 HV3.out (by omega) HG5.out _ b h1 h2).trans (HK3.out b h1 h2)
          have ht6 : Below w.heap.size w w6 := by rw [hw6]; exact EndV.below7 HV3.out T3.out (by omega) (by omega) (by omega) HG5.out _
          have hz6 : w3.heap.size + 1 ≤ w6.heap.size := by rw [hw6]; simpa using hl5
          rw [← hw6] at hHeld hv6 ⊢
          have HV6 := Lib.hid hv6
          have HM6 := Lib.hid hm6
          have HK6 := Lib.hid hk6
          have T6 := Lib.hid ht6
          have HBX6 := Lib.hid hHeld
          have HS6 : Hid (∀ b, (S' b ∨ Btw W1.heap.size w3.heap.size b) → b ≠ gx) := fun b hb e => by rcases hb with hb | hb; have := HSB.out b hb; omega; have := hb.1; omega
          have HPB : Hid (Blk w6 w.heap.size 52 #[.int .i64 p.tries, .int .i64 p.base, .int .i64 p.most]) := (hk6 _ (by omega) (by omega)).trans B42.out
          clear hHeld hm6 hv6 hk6 ht6 hw6 HZ HG5 HV3 HM3 HM2 HK3 T3 HV1 HM1 HK1 T1' hl5
          have q13 := HBX6.out.cell 13
          have q1 := HPB.out.cell 1
          have q2 := HPB.out.cell 2
          have q14 := HBX6.out.cell 14
          have p14 := HBX6.out.free 14
          go_wp2_with fail
          refine (rwait_any y.tries p.base p.most _ (by have := HTR.out; omega) (by have := HP.out; unfold FitP at this; omega) (by have := HP.out; unfold FitP at this; omega)).mono ?_
          rintro e wz ⟨rfl, rfl⟩
          have hD4 := HD4.out
          go_upto_region 9 with fail
          clear hD4 q13 q1 q2 q14 p14
          obtain ⟨w7, hw7⟩ : ∃ w7, w7 = w6.setCell ⟨gx, 14, none⟩ (.int .i64 Dn) := ⟨_, rfl⟩
          rw [← hw7]
          have HBX7 : Hid (Blk w7 gx 62 #[.int .i64 y.m.id, .string y.m.topic, .int .i64 ky, .int .i64 iy, .int .u64 bY, .string sy, .slice ay ny cy, .int .i64 y.m.tat, .int .i64 y.m.til, .string y.m.reply, .int .i64 y.m.corr, .int .i64 y.m.prio, .int .i64 y.m.hops, .int .i64 y.tries, .int .i64 Dn]) := by show Blk _ _ _ _; rw [hw7]; exact Blk.set (i := 14) HBX6.out _
          have k13' : w7.cell? ⟨gx, 13, none⟩ = some (.int .i64 y.tries) := HBX7.out.cell 13
          have f13' : w7.frozen? ⟨gx, 13, none⟩ = false := HBX7.out.free 13
          have HW7 := Lib.hid hw7
          have hT1 := HT1.out
          clear hw7
          go_upto_region 10 with fail
          clear hT1 k13' f13'
          obtain ⟨w8, hw8⟩ : ∃ w8, w8 = w7.setCell ⟨gx, 13, none⟩ (.int .i64 (y.tries + 1)) := ⟨_, rfl⟩
          rw [← hw8]
          have HBX8 : Hid (Blk w8 gx 62 #[.int .i64 y.m.id, .string y.m.topic, .int .i64 ky, .int .i64 iy, .int .u64 bY, .string sy, .slice ay ny cy, .int .i64 y.m.tat, .int .i64 y.m.til, .string y.m.reply, .int .i64 y.m.corr, .int .i64 y.m.prio, .int .i64 y.m.hops, .int .i64 (y.tries + 1), .int .i64 Dn]) := by show Blk _ _ _ _; rw [hw8]; exact Blk.set (i := 13) HBX7.out _
          have hk8 : ∀ b, b ≠ gx → w8.heap[b]? = w6.heap[b]? := fun b hb => by rw [hw8]; refine (heap_set (w := w7) (p := ⟨gx, 13, none⟩) hb).trans ?_; rw [HW7.out]; exact heap_set (w := w6) (p := ⟨gx, 14, none⟩) hb
          have hs8 : w8.heap.size = w6.heap.size := by rw [hw8, HW7.out]; simp
          have T8 : Hid (Below w.heap.size w w8) := by show Below _ _ _; rw [hw8, HW7.out]; exact (T6.out.setCell (by show w.heap.size ≤ gx; omega) _).setCell (by show w.heap.size ≤ gx; omega) _
          have hv8 : EndV w8 (w.heap.size + 3) L (w.heap.size + 2) ({ D with again := D.again ++ [y.m] } : DS) v6 (.slice (some ⟨g5, 0, none⟩) (D.again.length + 1) cap5) v8 v9 (fun b => S' b ∨ Btw W1.heap.size w3.heap.size b) c6 _ c8 c9 := HV6.out.off (Nat.le_of_eq hs8.symm) fun b hb => hk8 b (by
            rcases hb with hb | hb | hb | hb | hb | hb
            · omega
            · exact HS6.out b hb
            · exact fun e => HRX.out (.inl (by rw [← e]; exact hb))
            · have e : g5 = b := by simpa [Value.ownBlock] using hb
              omega
            · exact fun e => HRX.out (.inr (.inr (.inl (by rw [← e]; exact hb))))
            · exact fun e => HRX.out (.inr (.inr (.inr (by rw [← e]; exact hb)))))
          obtain ⟨D2, hD2⟩ : ∃ D2, D2 = ({ D with again := D.again ++ [y.m] } : DS) := ⟨_, rfl⟩
          have hr2 : D2.rest.length ≤ 65536 := by rw [hD2]; show D.rest.length ≤ 65536; omega
          rw [← hD2] at hv8
          have HV8 := Lib.hid hv8
          have HD2 := Lib.hid hD2
          have HX8 : Hid (IsS w8 (fun b => S' b ∨ Btw W1.heap.size w3.heap.size b) (againS y p now) [.int .i64 y.m.id, .string y.m.topic, .int .i64 ky, .int .i64 iy, .int .u64 bY, .string sy, .slice ay ny cy, .int .i64 y.m.tat, .int .i64 y.m.til, .string y.m.reply, .int .i64 y.m.corr, .int .i64 y.m.prio, .int .i64 y.m.hops, .int .i64 (y.tries + 1), .int .i64 Dn]) := ⟨_, HM6.out.keep (fun _ h => h) (fun b hb j => World.cell?_of_block (a := ⟨b, j, none⟩) (hk8 b (HS6.out b hb))), by rw [HDN.out]; rfl⟩
          have HK8 : Hid (∀ b, b ≠ w.heap.size + 2 → b < L → w8.heap[b]? = w2.heap[b]?) := fun b h1 h2 => (hk8 b (by omega)).trans (HK6.out b h1 h2)
          have hs8a : w6.heap.size ≤ w8.heap.size := by omega
          clear hw8 hk8 HW7 HBX7 HV6 HM6 HBX6 HK6 T6 HPB hv8 hD2 hs8
          have gc6 : w8.cell? ⟨w.heap.size + 2, 0, none⟩ = some v6 := HV8.out.box.cell 0
          go_wp2_with (first
            | (refine wpList_load_blk rfl 62 _ rfl gx 0 rfl [.int .i64 y.m.id, .string y.m.topic, .int .i64 ky, .int .i64 iy, .int .u64 bY, .string sy, .slice ay ny cy, .int .i64 y.m.tat, .int .i64 y.m.til, .string y.m.reply, .int .i64 y.m.corr, .int .i64 y.m.prio, .int .i64 y.m.hops, .int .i64 (y.tries + 1), .int .i64 Dn] _ (Blk.range (pre := []) (post := []) HBX8.out rfl) Tryd.underlying62 rfl sizeS ?_)
            | (at_builtin
               go_loud (refine wpList_append_lies _ rfl _ _ _ rfl (w.heap.size + 3) 62 iS _ 15 160 Tryd.underlying50 hiS hzS hzS1 hzS2 rfl (by omega) _ D2.rest.length c6.flatten rfl (HV8.out.o6.row.alloc _) ⟨w8.heap.size, 0, none⟩ 1 1 [.int .i64 y.m.id, .string y.m.topic, .int .i64 ky, .int .i64 iy, .int .u64 bY, .string sy, .slice ay ny cy, .int .i64 y.m.tat, .int .i64 y.m.til, .string y.m.reply, .int .i64 y.m.corr, .int .i64 y.m.prio, .int .i64 y.m.hops, .int .i64 (y.tries + 1), .int .i64 Dn] rfl rfl (World.news_of_block (cs := #[.int .i64 y.m.id, .string y.m.topic, .int .i64 ky, .int .i64 iy, .int .u64 bY, .string sy, .slice ay ny cy, .int .i64 y.m.tat, .int .i64 y.m.til, .string y.m.reply, .int .i64 y.m.corr, .int .i64 y.m.prio, .int .i64 y.m.hops, .int .i64 (y.tries + 1), .int .i64 Dn]) (t := 62) (fr := (0, 0)) (heap_alloc_new w8 _)) HX8.out.one (by omega) (by unfold maxLen; omega) (by omega) (by simp; omega) (w8.heap.size + 1) (by simp) ?_)
               intro g9 cap9 w5 hown5 hgrow5 hat5 hlt5
               have cc : w5.cell? ⟨w.heap.size + 2, 0, none⟩ = some v6 := (far_cell hgrow5 (Blk.lt HV8.out.box) (fun e => by have := (HV8.out.o6.far_lt (w.heap.size + 2) e).1; omega)).trans gc6
               have ff : w5.frozen? ⟨w.heap.size + 2, 0, none⟩ = false := (far_free hgrow5 (Blk.lt HV8.out.box) (fun e => by have := (HV8.out.o6.far_lt (w.heap.size + 2) e).1; omega)).trans (HV8.out.box.free 0)
               have hV' := EndV.grow6 HV8.out (by omega) (by omega) (by omega) HX8.out rfl hown5 rfl hgrow5 hat5
               have HV2 := Lib.hid hV'
               have HG5 := Lib.hid hgrow5
               have hl5 : w8.heap.size + 1 ≤ w5.heap.size := by have := hgrow5.size; simpa using this
               clear hV' hown5 hat5 hgrow5))
          have HI : Hid (EndI w w2 L l p now (j + 1) _) := ⟨⟨_, _, _, _, _, _, _, _, _, by rw [show dueS (l.take (j + 1)) p now = { D2 with rest := D2.rest ++ [againS y p now] } by rw [HDS.out, addD, HCL.out, HD2.out]; rfl]; exact HV2.out⟩, fun b h1 h2 => (EndV.far6 HV8.out (by omega) HG5.out _ b h1 h2).trans (HK8.out b h1 h2), EndV.below6 HV8.out T8.out (by omega) (by omega) (by omega) HG5.out _, by simp; omega⟩
          go_roundw
          case rel => first | exact ⟨j + 1, by go_num, by omega, HI.out⟩ | ((repeat apply Exists.intro); exact ⟨⟨j + 1, by go_num, by omega, HI.out⟩, by first | rfl | exact ⟨rfl, rfl⟩ | exact ⟨rfl, rfl, rfl⟩ | exact ⟨rfl, rfl, rfl, rfl⟩ | exact ⟨rfl, rfl, rfl, rfl, rfl⟩⟩)
          case measure => simp [intOf]; omega
    · obtain rfl : j = l.length := by omega
      rw [List.take_length] at hv
      obtain ⟨X, hX⟩ : ∃ X, X = dueS l p now := ⟨_, rfl⟩
      rw [← hX] at hv
      have HXD := Lib.hid hX
      obtain ⟨a6, k6, rfl⟩ := hv.o6.slice
      obtain ⟨a7, k7, rfl⟩ := hv.o7.slice
      obtain ⟨a8', k8, rfl⟩ := hv.o8.slice
      obtain ⟨a9, k9, rfl⟩ := hv.o9.slice
      have HV := Lib.hid hv
      have TR := Lib.hid hbel
      have B6' : Hid (Blk wr (w.heap.size + 1) 67 #[.slice none 0 0, .slice none 0 0, .slice none 0 0, .slice none 0 0]) := (hk _ (by omega) (by omega)).trans B62.out
      clear hv hbel hk hX
      go_wp2_with (first
        | (refine wpList_load_blk rfl 67 _ rfl (w.heap.size + 2) 0 rfl [.slice a6 X.rest.length k6, .slice a7 X.again.length k7, .slice a8' X.dead.length k8, .slice a9 X.late.length k9] _ (Blk.range (pre := []) (post := []) HV.out.box rfl) Tryd.underlying67 rfl sizeE ?_)
        | (refine wpList_store_blk (T := 67) rfl 67 _ _ rfl (w.heap.size + 1) 0 [] [.slice none 0 0, .slice none 0 0, .slice none 0 0, .slice none 0 0] [] [.slice a6 X.rest.length k6, .slice a7 X.again.length k7, .slice a8' X.dead.length k8, .slice a9 X.late.length k9] rfl rfl B6'.out rfl rfl sizeE (by simp [Value.oneCell']) ?_; intro w9 b9 U9))
      refine bodyPost_ret (res_c rfl rfl (load_blk w9 (w.heap.size + 1) 67 [.slice a6 X.rest.length k6, .slice a7 X.again.length k7, .slice a8' X.dead.length k8, .slice a9 X.late.length k9] _ b9 Tryd.underlying67 rfl sizeE)) rfl ?_
      have hv9 := HV.out.off (Nat.le_of_eq U9.size.symm) (fun b hb => U9.far b (by
        rcases hb with hb | hb | hb | hb | hb | hb
        · omega
        · have := (HV.out.o6.far b hb).1; omega
        · have := (HV.out.o6.far_lt b hb).1; omega
        · have := (HV.out.o7.far_lt b hb).1; omega
        · have := (HV.out.o8.far_lt b hb).1; omega
        · have := (HV.out.o9.far_lt b hb).1; omega))
      rw [← HXD.out]
      exact ⟨a6, k6, a7, k7, a8', k8, a9, k9, rfl, RS.mono (hv9.o6.rows keepsS) (fun b hb => ⟨by have := hb.1; omega, hb.2⟩), RM.mono (hv9.o7.rows keepsM) (fun b hb => ⟨by have := hb.1; omega, hb.2⟩), RM.mono (hv9.o8.rows keepsM) (fun b hb => ⟨by have := hb.1; omega, hb.2⟩),
        RM.mono (hv9.o9.rows keepsM) (fun b hb => ⟨by have := hb.1; omega, hb.2⟩), TR.out.trans (U9.below _ (by omega))⟩
end Go.Proofs.YtmdcfmdjbncaoaaDoor
/- AcksDue: the walk. -/
namespace Go.Proofs.YtmdcfmdjbncaoaaDoor
open Go.RowKit
attribute [local go_sem ↓] Go.wp_at_zero Go.wp_at_succ
attribute [local go_sem] Go.undef

/-- Something is to be done with it now. -/
def dueNow (x : SX) (now : Int) : Prop := x.due ≤ now ∨ (x.m.til ≠ 0 ∧ x.m.til < now)
def ripe (s : Int × Bool) (now : Int) : Prop := s.2 = true ∧ s.1 ≤ now
theorem ripe_see (s : Int × Bool) (t now : Int) : ripe (seeN s t) now ↔ ripe s now ∨ t ≤ now := by
  obtain ⟨a, f⟩ := s
  unfold ripe seeN
  cases f
  · simp
  · by_cases h : t < a
    · rw [if_pos (.inr h)]; simp; omega
    · rw [if_neg (by simp; omega)]; simp; omega
theorem ripe_step (s : Int × Bool) (x : SX) (now : Int) : ripe (stepN s x) now ↔ ripe s now ∨ dueNow x now := by
  unfold stepN dueNow
  by_cases h : x.m.til = 0
  · rw [if_pos h, ripe_see]; simp [h]
  · rw [if_neg h, ripe_see, ripe_see, or_assoc, show (x.m.til + 1 ≤ now ↔ x.m.til < now) from by omega]; simp [h]
theorem ripe_fold (now : Int) : ∀ (l : List SX) (s : Int × Bool), ripe (l.foldl stepN s) now ↔ ripe s now ∨ ∃ x ∈ l, dueNow x now := by
  intro l
  induction l with
  | nil => intro s; simp
  | cons x l ih => intro s; rw [List.foldl_cons, ih, ripe_step, or_assoc]; simp
def told (D : DS) : Prop := 0 < D.again.length + D.dead.length + D.late.length
theorem told_add (p : PX) (now : Int) (D : DS) (x : SX) : told (addD p now D x) ↔ told D ∨ dueNow x now := by
  unfold addD clsS dueNow told
  by_cases h0 : x.m.til ≠ 0 ∧ x.m.til < now
  · rw [if_pos h0]; simp [h0]; omega
  · rw [if_neg h0]
    by_cases h1 : now < x.due
    · rw [if_pos h1]
      have : ¬ x.due ≤ now := by omega
      simp [this, h0]
    · rw [if_neg h1]
      have h3 : x.due ≤ now := by omega
      by_cases h2 : p.tries ≤ x.tries
      · rw [if_pos h2]; simp [h3]; omega
      · rw [if_neg h2]; simp [h3]; omega
theorem told_fold (p : PX) (now : Int) : ∀ (l : List SX) (D : DS), told (l.foldl (addD p now) D) ↔ told D ∨ ∃ x ∈ l, dueNow x now := by
  intro l
  induction l with
  | nil => intro D; simp
  | cons x l ih => intro D; rw [List.foldl_cons, ih, told_add, or_assoc]; simp
/-- Something is told of when Next's tick has come. -/
theorem told_ripe (l : List SX) (p : PX) (now : Int) : told (dueS l p now) ↔ ripe (nextS l) now := by
  rw [dueS, told_fold, nextS, ripe_fold]
  simp [told, ripe]
theorem fits_tries {l : List SX} {p : PX} (h : FitS l p) (hp : FitP p) : triesT l p := fun x hx => by
  obtain ⟨j, hj⟩ := List.getElem?_of_mem hx
  obtain ⟨-, h1, h2, -⟩ := h.2 j x hj
  have := hp.2.1
  exact ⟨by omega, by omega, h2⟩
theorem tries_small {l : List SX} {p : PX} (h : triesT l p) : smallT l := fun x hx => ⟨(h x hx).1, (h x hx).2.1⟩
theorem fits_til {l : List SX} {p : PX} (h : FitS l p) : tilT l := fun x hx => by
  obtain ⟨j, hj⟩ := List.getElem?_of_mem hx
  have hf := (h.2 j x hj).1
  exact hf.2

set_option maxHeartbeats 16000000 in
set_option maxRecDepth 100000 in
theorem adue_go (l : List SX) (p : PX) (now : Int) (a : Option Addr) (n c : Nat) (w : World) (hrow : RSX w l a n c) (hT : Tabs w) :
    Calls Tryd.prog 7 #[.slice a n c, .agg #[.int .i64 p.tries, .int .i64 p.base, .int .i64 p.most], .int .i64 now] w fun e w' => e = .returned (.bool true) ∧ Below w.heap.size w w' := by
  obtain rfl : n = l.length := hrow.1
  obtain ⟨W, hWd⟩ : ∃ W, W = w.alloc (.cells #[.int .i64 p.tries, .int .i64 p.base, .int .i64 p.most] 52) := ⟨_, rfl⟩
  have hW : Below w.heap.size w W := by rw [hWd]; go_grown
  have B5 : Hid (Blk W w.heap.size 52 #[.int .i64 p.tries, .int .i64 p.base, .int .i64 p.most]) := by show Blk _ _ _ _; rw [hWd]; exact Blk.new _ _ _
  have HROW := Lib.hid hrow
  have HTB := Lib.hid hT
  have T : Hid (Below w.heap.size w W) := hW
  have HWD := Lib.hid hWd
  clear hrow hT hW hWd
  go_enter Tryd.func7, Tryd.ntmps7
  go_upto_region 1 with fail
  show Code.wp _ _ _ _ (w.alloc (.cells #[.int .i64 p.tries, .int .i64 p.base, .int .i64 p.most] 52))
  rw [← HWD.out]
  clear HWD
  have HF := Lib.hid (fita_any l p now a l.length c _ W (HROW.out.on T.out) (fun _ h => h) (HTB.out.on T.out))
  go_wp2_with (refine wpList_load_blk rfl 52 _ rfl (w.heap.size) 0 rfl [.int .i64 p.tries, .int .i64 p.base, .int .i64 p.most] _ (Blk.range (pre := []) (post := []) B5.out rfl) Tryd.underlying52 rfl sizeP ?_)
  refine HF.out.mono ?_
  rintro e w1 ⟨fb, rfl, hfb, hb1⟩
  clear HF
  replace B5 := Lib.hid (Blk.on B5.out hb1)
  replace T := Lib.hid (below_on hb1 T.out)
  clear hb1
  cases fb with
  | false =>
    clear hfb
    go_wp2_with fail
    refine (awakek_any _).mono ?_
    rintro e w2 ⟨rfl, hb2⟩
    replace T := Lib.hid (below_on hb2 T.out)
    clear hb2
    go_wp2_with fail
    go_ret
    exact ⟨rfl, T.out⟩
  | true =>
  obtain ⟨hp, hn0, hn1, hfs⟩ := hfb rfl
  have HP := Lib.hid hp
  have HN := Lib.hid (And.intro hn0 hn1)
  have FIT := Lib.hid hfs
  have HTT := Lib.hid (fits_tries hfs hp)
  have hln : l.length ≤ 1024 := hfs.1
  clear hfb hp hn0 hn1 hfs
  have HC := Lib.hid (copys_any l a l.length c _ w1 (HROW.out.on T.out) (fun _ h => h) (fits_small FIT.out) (by omega))
  go_wp2_with fail
  refine HC.out.mono ?_
  rintro e w3 ⟨a3, c3, S3, css3, rfl, ho, hb3⟩
  have RO : Hid (RSX w3 l a3 l.length c3) := RS.mono (ho.rows keepsS) (fun b hb => hb.2)
  replace B5 := Lib.hid (Blk.on B5.out hb3)
  replace T := Lib.hid (below_on hb3 T.out)
  clear hb3
  clear HC ho
  obtain ⟨X, hX⟩ : ∃ X, X = dueS l p now := ⟨_, rfl⟩
  have HLN := Lib.hid (dueS_len l p now)
  have HTL := Lib.hid (told_ripe l p now)
  have hp := duep_any l p now _ a3 l.length c3 w3 RO.out (fun _ h => h) (fits_small FIT.out) (tries_small HTT.out) (by omega) HP.out HN.out.1 HN.out.2
  rw [← hX] at HLN HTL hp
  have HX := Lib.hid hX
  have HQ := Lib.hid hp
  clear hX hp
  go_wp2_with (refine wpList_load_blk rfl 52 _ rfl (w.heap.size) 0 rfl [.int .i64 p.tries, .int .i64 p.base, .int .i64 p.most] _ (Blk.range (pre := []) (post := []) B5.out rfl) Tryd.underlying52 rfl sizeP ?_)
  refine HQ.out.mono ?_
  rintro e w4 ⟨a6, c6, a7, c7, a8, c8, a9, c9, rfl, r6, r7, r8, r9, hb4⟩
  have R6 : Hid (RSX w4 X.rest a6 X.rest.length c6) := RS.mono r6 (fun b hb => hb.2)
  have R7 : Hid (RX w4 X.again a7 X.again.length c7) := RM.mono r7 (fun b hb => hb.2)
  have R8 : Hid (RX w4 X.dead a8 X.dead.length c8) := RM.mono r8 (fun b hb => hb.2)
  have R9 : Hid (RX w4 X.late a9 X.late.length c9) := RM.mono r9 (fun b hb => hb.2)
  replace B5 := Lib.hid (Blk.on B5.out hb4)
  replace RO := Lib.hid (RSX.on RO.out hb4)
  replace T := Lib.hid (below_on hb4 T.out)
  clear hb4
  clear HQ r6 r7 r8 r9
  have hp := duer_any l p now a l.length c _ w4 (HROW.out.on T.out) (fun _ h => h) (fits_small FIT.out) HTT.out (by omega) HP.out HN.out.1 HN.out.2
  rw [← HX.out] at hp
  have HQ := Lib.hid hp
  clear hp HX
  go_wp2_with (refine wpList_load_blk rfl 52 _ rfl (w.heap.size) 0 rfl [.int .i64 p.tries, .int .i64 p.base, .int .i64 p.most] _ (Blk.range (pre := []) (post := []) B5.out rfl) Tryd.underlying52 rfl sizeP ?_)
  refine HQ.out.mono ?_
  rintro e w5 ⟨b6, k6, b7, k7, b8, k8, b9, k9, rfl, q6, q7, q8, q9, hb5⟩
  have Q6 : Hid (RSX w5 X.rest b6 X.rest.length k6) := RS.mono q6 (fun b hb => hb.2)
  have Q7 : Hid (RX w5 X.again b7 X.again.length k7) := RM.mono q7 (fun b hb => hb.2)
  have Q8 : Hid (RX w5 X.dead b8 X.dead.length k8) := RM.mono q8 (fun b hb => hb.2)
  have Q9 : Hid (RX w5 X.late b9 X.late.length k9) := RM.mono q9 (fun b hb => hb.2)
  replace RO := Lib.hid (RSX.on RO.out hb5)
  replace R6 := Lib.hid (RSX.on R6.out hb5)
  replace R7 := Lib.hid (RX.on R7.out hb5)
  replace R8 := Lib.hid (RX.on R8.out hb5)
  replace R9 := Lib.hid (RX.on R9.out hb5)
  replace T := Lib.hid (below_on hb5 T.out)
  clear hb5
  clear HQ q6 q7 q8 q9 B5
  have bn5 : Blk (w5.alloc (.cells #[.slice none 0 0, .slice none 0 0, .slice none 0 0, .slice none 0 0] 67)) w5.heap.size 67 #[.slice none 0 0, .slice none 0 0, .slice none 0 0, .slice none 0 0] := Blk.new _ _ _
  go_upto_region 6 with (refine wpList_store_blk (T := 67) rfl 67 _ _ rfl (w5.heap.size) 0 [] [.slice none 0 0, .slice none 0 0, .slice none 0 0, .slice none 0 0] [] [.slice b6 X.rest.length k6, .slice b7 X.again.length k7, .slice b8 X.dead.length k8, .slice b9 X.late.length k9] rfl rfl bn5 rfl rfl sizeE (by simp [Value.oneCell']) ?_; intro w6 b12 U6)
  have hb6 : Below w5.heap.size w5 w6 := ((Below.refl _ _).alloc (Nat.le_refl _) _).trans (U6.below _ (Nat.le_refl _))
  have B12 := Lib.hid b12
  replace RO := Lib.hid (RSX.on RO.out hb6)
  replace R6 := Lib.hid (RSX.on R6.out hb6)
  replace R7 := Lib.hid (RX.on R7.out hb6)
  replace R8 := Lib.hid (RX.on R8.out hb6)
  replace R9 := Lib.hid (RX.on R9.out hb6)
  replace Q6 := Lib.hid (RSX.on Q6.out hb6)
  replace Q7 := Lib.hid (RX.on Q7.out hb6)
  replace Q8 := Lib.hid (RX.on Q8.out hb6)
  replace Q9 := Lib.hid (RX.on Q9.out hb6)
  replace T := Lib.hid (below_on hb6 T.out)
  clear hb6
  clear b12 U6 bn5
  have HSB := Lib.hid (sames_yes X.rest a6 b6 _ _ c6 k6 _ _ w6 R6.out Q6.out (fun _ h => h) (fun _ h => h))
  have y0 := Blk.cell B12.out 0
  go_wp2_with fail
  refine HSB.out.mono ?_
  rintro e w7 ⟨rfl, hb7⟩
  replace B12 := Lib.hid (Blk.on B12.out hb7)
  replace RO := Lib.hid (RSX.on RO.out hb7)
  replace R7 := Lib.hid (RX.on R7.out hb7)
  replace R8 := Lib.hid (RX.on R8.out hb7)
  replace R9 := Lib.hid (RX.on R9.out hb7)
  replace Q7 := Lib.hid (RX.on Q7.out hb7)
  replace Q8 := Lib.hid (RX.on Q8.out hb7)
  replace Q9 := Lib.hid (RX.on Q9.out hb7)
  replace T := Lib.hid (below_on hb7 T.out)
  clear hb7
  clear HSB y0 R6 Q6
  have HSB := Lib.hid (samemsgs_yes X.again a7 b7 _ _ c7 k7 _ _ w7 R7.out Q7.out (fun _ h => h) (fun _ h => h) (by have := HLN.out; omega))
  have y0 := Blk.cell B12.out 1
  go_wp2_with fail
  refine HSB.out.mono ?_
  rintro e w8 ⟨rfl, hb8⟩
  replace B12 := Lib.hid (Blk.on B12.out hb8)
  replace RO := Lib.hid (RSX.on RO.out hb8)
  replace R8 := Lib.hid (RX.on R8.out hb8)
  replace R9 := Lib.hid (RX.on R9.out hb8)
  replace Q8 := Lib.hid (RX.on Q8.out hb8)
  replace Q9 := Lib.hid (RX.on Q9.out hb8)
  replace T := Lib.hid (below_on hb8 T.out)
  clear hb8
  clear HSB y0 R7 Q7
  have HSB := Lib.hid (samemsgs_yes X.dead a8 b8 _ _ c8 k8 _ _ w8 R8.out Q8.out (fun _ h => h) (fun _ h => h) (by have := HLN.out; omega))
  have y0 := Blk.cell B12.out 2
  go_wp2_with fail
  refine HSB.out.mono ?_
  rintro e w9 ⟨rfl, hb9⟩
  replace B12 := Lib.hid (Blk.on B12.out hb9)
  replace RO := Lib.hid (RSX.on RO.out hb9)
  replace R9 := Lib.hid (RX.on R9.out hb9)
  replace Q9 := Lib.hid (RX.on Q9.out hb9)
  replace T := Lib.hid (below_on hb9 T.out)
  clear hb9
  clear HSB y0 R8 Q8
  have HSB := Lib.hid (samemsgs_yes X.late a9 b9 _ _ c9 k9 _ _ w9 R9.out Q9.out (fun _ h => h) (fun _ h => h) (by have := HLN.out; omega))
  have y0 := Blk.cell B12.out 3
  go_wp2_with fail
  refine HSB.out.mono ?_
  rintro e w10 ⟨rfl, hb10⟩
  replace RO := Lib.hid (RSX.on RO.out hb10)
  replace T := Lib.hid (below_on hb10 T.out)
  clear hb10
  clear HSB y0 R9 Q9 B12
  obtain ⟨at_, ok_, hN⟩ : ∃ at_ ok_, (at_, ok_) = nextS l := ⟨_, _, rfl⟩
  have HQ := Lib.hid (nexts_any l a3 l.length c3 _ w10 RO.out (fun _ h => h) (fits_til FIT.out))
  have HTR : Hid (told X ↔ ok_ = true ∧ at_ ≤ now) := by have := HTL.out; rw [← hN] at this; exact this
  rw [← hN] at HQ
  clear hN
  go_wp2_with fail
  refine HQ.out.mono ?_
  rintro e w11 ⟨rfl, hb11⟩
  replace RO := Lib.hid (RSX.on RO.out hb11)
  replace T := Lib.hid (below_on hb11 T.out)
  clear hb11
  clear HQ
  have HSB := Lib.hid (sames_yes l a3 a _ _ c3 c _ _ w11 RO.out (HROW.out.on T.out) (fun _ h => h) (fun _ h => h))
  have hl1 := HLN.out.2.1
  have hl2 := HLN.out.2.2.1
  have hl3 := HLN.out.2.2.2
  have hw1 : IntKind.i64.wrap ((X.again.length : Int) + X.dead.length) = (X.again.length : Int) + X.dead.length := by rw [IntKind.wrap_i64]; omega
  have hw2 : IntKind.i64.wrap ((X.again.length : Int) + X.dead.length + X.late.length) = (X.again.length : Int) + X.dead.length + X.late.length := by rw [IntKind.wrap_i64]; omega
  by_cases hs : told X
  · obtain ⟨rfl, hat⟩ := HTR.out.1 hs
    have hs1 : (0 : Int) < (X.again.length : Int) + X.dead.length + X.late.length := by unfold told at hs; omega
    go_wp2_with fail
    refine HSB.out.mono ?_
    rintro e w12 ⟨rfl, hb12⟩
    replace T := Lib.hid (below_on hb12 T.out)
    clear hb12
    clear HSB
    go_wp2_with fail
    refine (awakek_any _).mono ?_
    rintro e w13 ⟨rfl, hb13⟩
    replace T := Lib.hid (below_on hb13 T.out)
    clear hb13
    go_wp2_with fail
    go_ret
    exact ⟨rfl, T.out⟩
  · have hs1 : (X.again.length : Int) + X.dead.length + X.late.length ≤ 0 := by unfold told at hs; omega
    have hs2 : ¬ (0 : Int) < (X.again.length : Int) + X.dead.length + X.late.length := by omega
    cases ok_ with
    | false =>
      have hs3 : decide ((0 : Int) < (X.again.length : Int) + X.dead.length + X.late.length) = false := decide_eq_false hs2
      go_wp2_with fail
      refine HSB.out.mono ?_
      rintro e w12 ⟨rfl, hb12⟩
      replace T := Lib.hid (below_on hb12 T.out)
      clear hb12
      clear HSB
      go_wp2_with fail
      refine (awakek_any _).mono ?_
      rintro e w13 ⟨rfl, hb13⟩
      replace T := Lib.hid (below_on hb13 T.out)
      clear hb13
      go_wp2_with fail
      go_ret
      exact ⟨rfl, T.out⟩
    | true =>
      have hat : now < at_ := Int.not_le.1 fun h => hs (HTR.out.2 ⟨rfl, h⟩)
      have hat2 : ¬ at_ ≤ now := by omega
      go_wp2_with fail
      refine HSB.out.mono ?_
      rintro e w12 ⟨rfl, hb12⟩
      replace T := Lib.hid (below_on hb12 T.out)
      clear hb12
      clear HSB
      go_wp2_with fail
      refine (awakek_any _).mono ?_
      rintro e w13 ⟨rfl, hb13⟩
      replace T := Lib.hid (below_on hb13 T.out)
      clear hb13
      go_wp2_with fail
      go_ret
      exact ⟨rfl, T.out⟩
end Go.Proofs.YtmdcfmdjbncaoaaDoor
/- AcksDue met with its arguments as they come in. -/
namespace Go.Proofs.YtmdcfmdjbncaoaaDoor
open Go.RowKit Go.ChangeShapes Go.WideShapes Go.Deep
set_option maxRecDepth 100000 in
theorem walk_AcksDue {H : Type} {enc : TypeId × Value → H} {base : Nat} (v v1 : Value) (now : Int) {d d1 : DataW H} {q q1 : List MemPlace} (W : World) (ok : Value.okWide Tryd.prog W .any base 50 v)
    (tr : DataW.Trod enc Tryd.prog W 0 (fun _ => true) true 50 v d q) (ok1 : Value.okWide Tryd.prog W .any base 52 v1)
    (tr1 : DataW.Trod enc Tryd.prog W 0 (fun _ => true) true 52 v1 d1 q1) (_ : (Lit.int .i64 now).wf = true) (hT : Tabs W) :
    Calls Tryd.prog 7 #[v, v1, .int .i64 now] W fun e w' => e = .returned (.bool true) ∧ Below W.heap.size W w' := by
  obtain ⟨l, a, n, c, rfl, hr⟩ := sents_arg ok tr
  obtain ⟨p, rfl⟩ := policy_arg ok1 tr1
  exact adue_go l p now a n c W hr hT
end Go.Proofs.YtmdcfmdjbncaoaaDoor
