/- What acks.Due does: its four rows, and how one of them grows. -/
import Derived.Test.YtmdcfmdjbncaoaaDoorCk
import Derived.Test.YtmdcfmdjbncaoaaDoorCi
namespace Go.Proofs.YtmdcfmdjbncaoaaDoor
open Go.RowKit

/-- What becomes of one that waits: 0 it is too late, 1 it is not due, 2 it is dead, 3 it is sent again. -/
def clsS (til due tries : Int) (p : PX) (now : Int) : Nat := if til ≠ 0 ∧ til < now then 0 else if now < due then 1 else if p.tries ≤ tries then 2 else 3
structure DS where
  rest : List SX
  again : List MX
  dead : List MX
  late : List MX
def againS (x : SX) (p : PX) (now : Int) : SX := ⟨x.m, x.tries + 1, now + waitF x.tries p.base p.most⟩
def addD (p : PX) (now : Int) (D : DS) (x : SX) : DS :=
  match clsS x.m.til x.due x.tries p now with
  | 0 => { D with late := D.late ++ [x.m] }
  | 1 => { D with rest := D.rest ++ [x] }
  | 2 => { D with dead := D.dead ++ [x.m] }
  | _ => { D with again := D.again ++ [x.m], rest := D.rest ++ [againS x p now] }
def dueS (l : List SX) (p : PX) (now : Int) : DS := l.foldl (addD p now) ⟨[], [], [], []⟩
theorem dueS_snoc {l : List SX} {p : PX} {now : Int} {k : Nat} {x : SX} (h : l[k]? = some x) : dueS (l.take (k + 1)) p now = addD p now (dueS (l.take k) p now) x := by
  rw [← take_snoc h, dueS, List.foldl_append]; rfl
theorem addD_len (p : PX) (now : Int) (D : DS) (x : SX) (n : Nat) (h : D.rest.length ≤ n ∧ D.again.length ≤ n ∧ D.dead.length ≤ n ∧ D.late.length ≤ n) : (addD p now D x).rest.length ≤ n + 1 ∧ (addD p now D x).again.length ≤ n + 1 ∧ (addD p now D x).dead.length ≤ n + 1 ∧ (addD p now D x).late.length ≤ n + 1 := by
  unfold addD
  split <;> simp <;> omega
theorem foldD_len (p : PX) (now : Int) : ∀ (l : List SX) (D : DS) (n : Nat), (D.rest.length ≤ n ∧ D.again.length ≤ n ∧ D.dead.length ≤ n ∧ D.late.length ≤ n) →
    (l.foldl (addD p now) D).rest.length ≤ n + l.length ∧ (l.foldl (addD p now) D).again.length ≤ n + l.length ∧ (l.foldl (addD p now) D).dead.length ≤ n + l.length ∧ (l.foldl (addD p now) D).late.length ≤ n + l.length := by
  intro l
  induction l with
  | nil => intro D n h; simpa using h
  | cons x l ih =>
    intro D n h
    have := ih (addD p now D x) (n + 1) (addD_len p now D x n h)
    rw [List.foldl_cons, List.length_cons]
    omega
theorem dueS_len (l : List SX) (p : PX) (now : Int) : (dueS l p now).rest.length ≤ l.length ∧ (dueS l p now).again.length ≤ l.length ∧ (dueS l p now).dead.length ≤ l.length ∧ (dueS l p now).late.length ≤ l.length := by
  have := foldD_len p now l ⟨[], [], [], []⟩ 0 (by simp)
  rw [Nat.zero_add] at this
  exact this

/-- What an element is needs the cells of its blocks alone. -/
def FwdE {α : Type} (E : World → (Nat → Prop) → α → List Value → Prop) : Prop := ∀ (w w' : World) (S : Nat → Prop) (x : α) (cs : List Value), (∀ b j v, S b → w.cell? ⟨b, j, none⟩ = some v → w'.cell? ⟨b, j, none⟩ = some v) → E w S x cs → E w' S x cs
theorem fwdM : FwdE IsM := fun _ _ _ _ _ hk h => h.fwd (fun _ h => h) hk
theorem fwdS : FwdE IsS := fun _ _ _ _ _ hk h => h.fwd (fun _ h => h) hk
section
variable {α : Type} {E : World → (Nat → Prop) → α → List Value → Prop} {T sz : Nat} {w w' : World} {B : Nat} {l : List α} {v : Value} {S S' : Nat → Prop} {css : List (List Value)}
theorem OwnE.fwd (hF : FwdE E) (h : OwnE E T sz w B l v S css) (hs : w.heap.size ≤ w'.heap.size) (hk : ∀ b o, (S b ∨ v.ownBlock = some b) → w.heap[b]? = some o → o.isCells = true → w'.heap[b]? = some o) : OwnE E T sz w' B l v S css := by
  refine ⟨h.len, own_keep h.row fun g hg => ?_, fun b hb => ?_, h.wide, fun j x hx => ?_⟩
  · obtain ⟨cur, hc⟩ := row_block h.row hg
    rw [hk g _ (.inr hg) hc rfl, hc]
  · obtain ⟨h1, h2, h3⟩ := h.far b hb
    exact ⟨h1, by omega, h3⟩
  · obtain ⟨cs, h1, h2⟩ := h.at_ j x hx
    refine ⟨cs, h1, hF w w' S x cs (fun b j v hb hc => ?_) h2⟩
    obtain ⟨o, ho, hoc⟩ := cells_of_cell hc
    rw [World.cell?_of_block (w := w) (w' := w') (a := ⟨b, j, none⟩) ((hk b o (.inl hb) ho hoc).trans ho.symm)]
    exact hc
theorem OwnE.wider (hE : Keeps E) (h : OwnE E T sz w B l v S css) (hS : ∀ b, S b → S' b) (hf : ∀ b, S' b → B ≤ b ∧ b < w.heap.size ∧ v.ownBlock ≠ some b) : OwnE E T sz w B l v S' css :=
  ⟨h.len, h.row, hf, h.wide, fun j x hx => by obtain ⟨cs, h1, h2⟩ := h.at_ j x hx; exact ⟨cs, h1, hE w w S S' x cs hS (fun _ _ => rfl) h2⟩⟩
theorem own_form {n : Nat} {xs : List Value} (h : w.ownsRow B T sz v n xs) {b : Nat} (hb : v.ownBlock = some b) : ∃ n' c', v = .slice (some ⟨b, 0, none⟩) n' c' := by
  rcases h.2 with ⟨rfl, _⟩ | ⟨g', cap, cur, rfl, _⟩
  · simp [Value.ownBlock] at hb
  · obtain rfl : g' = b := by simpa [Value.ownBlock] using hb
    exact ⟨_, _, rfl⟩
end

/-- The four rows in their variables, apart from one another. -/
structure DueV (W : World) (lo n6 n7 n8 n9 : Nat) (D : DS) (v6 v7 v8 v9 : Value) (S : Nat → Prop) (c6 c7 c8 c9 : List (List Value)) : Prop where
  b6 : Blk W n6 50 #[v6]
  b7 : Blk W n7 22 #[v7]
  b8 : Blk W n8 22 #[v8]
  b9 : Blk W n9 22 #[v9]
  o6 : OwnE IsS 62 15 W lo D.rest v6 S c6
  o7 : OwnE IsM 30 13 W lo D.again v7 S c7
  o8 : OwnE IsM 30 13 W lo D.dead v8 S c8
  o9 : OwnE IsM 30 13 W lo D.late v9 S c9
  d67 : ∀ b, v6.ownBlock = some b → v7.ownBlock ≠ some b
  d68 : ∀ b, v6.ownBlock = some b → v8.ownBlock ≠ some b
  d69 : ∀ b, v6.ownBlock = some b → v9.ownBlock ≠ some b
  d78 : ∀ b, v7.ownBlock = some b → v8.ownBlock ≠ some b
  d79 : ∀ b, v7.ownBlock = some b → v9.ownBlock ≠ some b
  d89 : ∀ b, v8.ownBlock = some b → v9.ownBlock ≠ some b
/-- The variables' blocks. -/
def ZV (n6 n7 n8 n9 : Nat) (b : Nat) : Prop := b = n6 ∨ b = n7 ∨ b = n8 ∨ b = n9
section
variable {W W' : World} {lo n6 n7 n8 n9 : Nat} {D : DS} {v6 v7 v8 v9 : Value} {S S' : Nat → Prop} {c6 c7 c8 c9 : List (List Value)}
theorem DueV.keep (h : DueV W lo n6 n7 n8 n9 D v6 v7 v8 v9 S c6 c7 c8 c9) (hs : W.heap.size ≤ W'.heap.size)
    (hk : ∀ b o, (ZV n6 n7 n8 n9 b ∨ S b ∨ v6.ownBlock = some b ∨ v7.ownBlock = some b ∨ v8.ownBlock = some b ∨ v9.ownBlock = some b) → W.heap[b]? = some o → o.isCells = true → W'.heap[b]? = some o) : DueV W' lo n6 n7 n8 n9 D v6 v7 v8 v9 S c6 c7 c8 c9 :=
  ⟨hk _ _ (.inl (.inl rfl)) h.b6 rfl, hk _ _ (.inl (.inr (.inl rfl))) h.b7 rfl, hk _ _ (.inl (.inr (.inr (.inl rfl)))) h.b8 rfl, hk _ _ (.inl (.inr (.inr (.inr rfl)))) h.b9 rfl,
    h.o6.fwd fwdS hs (fun b o hb => hk b o (by rcases hb with hb | hb; exact .inr (.inl hb); exact .inr (.inr (.inl hb)))),
    h.o7.fwd fwdM hs (fun b o hb => hk b o (by rcases hb with hb | hb; exact .inr (.inl hb); exact .inr (.inr (.inr (.inl hb))))),
    h.o8.fwd fwdM hs (fun b o hb => hk b o (by rcases hb with hb | hb; exact .inr (.inl hb); exact .inr (.inr (.inr (.inr (.inl hb)))))),
    h.o9.fwd fwdM hs (fun b o hb => hk b o (by rcases hb with hb | hb; exact .inr (.inl hb); exact .inr (.inr (.inr (.inr (.inr hb)))))),
    h.d67, h.d68, h.d69, h.d78, h.d79, h.d89⟩
theorem DueV.fwd (h : DueV W lo n6 n7 n8 n9 D v6 v7 v8 v9 S c6 c7 c8 c9) (hs : W.heap.size ≤ W'.heap.size) (hk : ∀ (b : Nat) (o : Obj), W.heap[b]? = some o → o.isCells = true → W'.heap[b]? = some o) : DueV W' lo n6 n7 n8 n9 D v6 v7 v8 v9 S c6 c7 c8 c9 := h.keep hs fun b o _ => hk b o
theorem DueV.below (h : DueV W lo n6 n7 n8 n9 D v6 v7 v8 v9 S c6 c7 c8 c9) (hb : Below W.heap.size W W') : DueV W' lo n6 n7 n8 n9 D v6 v7 v8 v9 S c6 c7 c8 c9 := h.fwd hb.size fun b _o ho _ => (hb.block b (Array.getElem?_eq_some_iff.1 ho).1).trans ho
theorem DueV.wider (h : DueV W lo n6 n7 n8 n9 D v6 v7 v8 v9 S c6 c7 c8 c9) (hS : ∀ b, S b → S' b) (hf : ∀ b, S' b → lo ≤ b ∧ b < W.heap.size ∧ v6.ownBlock ≠ some b ∧ v7.ownBlock ≠ some b ∧ v8.ownBlock ≠ some b ∧ v9.ownBlock ≠ some b) : DueV W lo n6 n7 n8 n9 D v6 v7 v8 v9 S' c6 c7 c8 c9 :=
  ⟨h.b6, h.b7, h.b8, h.b9, h.o6.wider keepsS hS fun b hb => ⟨(hf b hb).1, (hf b hb).2.1, (hf b hb).2.2.1⟩, h.o7.wider keepsM hS fun b hb => ⟨(hf b hb).1, (hf b hb).2.1, (hf b hb).2.2.2.1⟩,
    h.o8.wider keepsM hS fun b hb => ⟨(hf b hb).1, (hf b hb).2.1, (hf b hb).2.2.2.2.1⟩, h.o9.wider keepsM hS fun b hb => ⟨(hf b hb).1, (hf b hb).2.1, (hf b hb).2.2.2.2.2⟩, h.d67, h.d68, h.d69, h.d78, h.d79, h.d89⟩
theorem DueV.row (h : DueV W lo n6 n7 n8 n9 D v6 v7 v8 v9 S c6 c7 c8 c9) {b : Nat} (hb : v6.ownBlock = some b ∨ v7.ownBlock = some b ∨ v8.ownBlock = some b ∨ v9.ownBlock = some b) : RowZ (ZV n6 n7 n8 n9) W b := by
  rcases hb with hb | hb | hb | hb
  · obtain ⟨n', c', e⟩ := own_form h.o6.row hb
    exact ⟨n6, .inl rfl, n', c', by rw [h.b6.cell 0, ← e]; rfl⟩
  · obtain ⟨n', c', e⟩ := own_form h.o7.row hb
    exact ⟨n7, .inr (.inl rfl), n', c', by rw [h.b7.cell 0, ← e]; rfl⟩
  · obtain ⟨n', c', e⟩ := own_form h.o8.row hb
    exact ⟨n8, .inr (.inr (.inl rfl)), n', c', by rw [h.b8.cell 0, ← e]; rfl⟩
  · obtain ⟨n', c', e⟩ := own_form h.o9.row hb
    exact ⟨n9, .inr (.inr (.inr rfl)), n', c', by rw [h.b9.cell 0, ← e]; rfl⟩
theorem DueV.rowz (h : DueV W lo n6 n7 n8 n9 D v6 v7 v8 v9 S c6 c7 c8 c9) {b : Nat} (hb : RowZ (ZV n6 n7 n8 n9) W b) : v6.ownBlock = some b ∨ v7.ownBlock = some b ∨ v8.ownBlock = some b ∨ v9.ownBlock = some b := by
  obtain ⟨z, hz, n', c', hc⟩ := hb
  rcases hz with rfl | rfl | rfl | rfl
  · rw [h.b6.cell 0] at hc
    have e : v6 = .slice (some ⟨b, 0, none⟩) n' c' := by simpa using hc
    exact .inl (by rw [e]; rfl)
  · rw [h.b7.cell 0] at hc
    have e : v7 = .slice (some ⟨b, 0, none⟩) n' c' := by simpa using hc
    exact .inr (.inl (by rw [e]; rfl))
  · rw [h.b8.cell 0] at hc
    have e : v8 = .slice (some ⟨b, 0, none⟩) n' c' := by simpa using hc
    exact .inr (.inr (.inl (by rw [e]; rfl)))
  · rw [h.b9.cell 0] at hc
    have e : v9 = .slice (some ⟨b, 0, none⟩) n' c' := by simpa using hc
    exact .inr (.inr (.inr (by rw [e]; rfl)))
/-- The row rest grows. -/
theorem DueV.grow6 {W5 : World} {ob : Obj} {x : SX} {cs : List Value} {g5 n5 cap5 : Nat} (h : DueV W lo n6 n7 n8 n9 D v6 v7 v8 v9 S c6 c7 c8 c9) (hn : n6 < lo ∧ n7 < lo ∧ n8 < lo ∧ n9 < lo) (hd : n6 ≠ n7 ∧ n6 ≠ n8 ∧ n6 ≠ n9 ∧ n7 ≠ n8 ∧ n7 ≠ n9 ∧ n8 ≠ n9) (hlo : lo ≤ W.heap.size)
    (hx : IsS W S x cs) (hcs : cs.length = 15) (hown : W5.ownsRow lo 62 15 (.slice (some ⟨g5, 0, none⟩) n5 cap5) n5 (c6.flatten ++ cs)) (hl : n5 = D.rest.length + 1) (hg : (W.alloc ob).grownBy W5 v6.ownBlock) (hat : v6.ownBlock = some g5 ∨ g5 = W.heap.size + 1) :
    DueV (W5.setCell ⟨n6, 0, none⟩ (.slice (some ⟨g5, 0, none⟩) n5 cap5)) lo n6 n7 n8 n9 { D with rest := D.rest ++ [x] } (.slice (some ⟨g5, 0, none⟩) n5 cap5) v7 v8 v9 S (c6 ++ [cs]) c7 c8 c9 := by
  obtain ⟨m6, m7, m8, m9⟩ := hn
  obtain ⟨e1, e2, e3, e4, e5, e6⟩ := hd
  have hs5 : W.heap.size + 1 ≤ W5.heap.size := by have := hg.size; simpa using this
  have hR := OwnE.snoc keepsS h.o6 hx hcs (fun b hb => h.o6.far b hb) hown hl hg hat
  have hg5 : ∀ b, (Value.slice (some ⟨g5, 0, none⟩) n5 cap5).ownBlock = some b → g5 = b := fun b hb => by simpa [Value.ownBlock] using hb
  have hlo5 : lo ≤ g5 := by
    rcases hat with h1 | h1
    · exact (h.o6.far_lt g5 h1).1
    · omega
  have hb : ∀ (n : Nat) (t : TypeId) (v : Value), n < lo → n ≠ n6 → Blk W n t #[v] → Blk (W5.setCell ⟨n6, 0, none⟩ (.slice (some ⟨g5, 0, none⟩) n5 cap5)) n t #[v] := fun n t v h1 h2 h3 =>
    Blk.far ((far_block hg (by omega) (fun e => by have := (h.o6.far_lt n e).1; omega)).trans h3) h2 _
  exact ⟨Blk.set (i := 0) ((far_block hg (by omega) (fun e => by have := (h.o6.far_lt n6 e).1; omega)).trans h.b6) _,
    hb n7 _ _ m7 (by omega) h.b7,
    hb n8 _ _ m8 (by omega) h.b8,
    hb n9 _ _ m9 (by omega) h.b9,
    ((hR.wider keepsS (S' := S) (fun b hb => by rcases hb with hb | hb <;> exact hb) (fun b hb => hR.far b (.inl hb))).set keepsS (fun hb => by have := (h.o6.far n6 hb).1; omega) (fun e => by have := hg5 n6 e; omega)),
    ((h.o7.aside keepsM hg (fun b hb => (h.o6.far b hb).2.2) (fun b hb e => h.d67 b e hb)).set keepsM (fun hb => by have := (h.o7.far n6 hb).1; omega) (fun e => by have := (h.o7.far_lt n6 e).1; omega)),
    ((h.o8.aside keepsM hg (fun b hb => (h.o6.far b hb).2.2) (fun b hb e => h.d68 b e hb)).set keepsM (fun hb => by have := (h.o8.far n6 hb).1; omega) (fun e => by have := (h.o8.far_lt n6 e).1; omega)),
    ((h.o9.aside keepsM hg (fun b hb => (h.o6.far b hb).2.2) (fun b hb e => h.d69 b e hb)).set keepsM (fun hb => by have := (h.o9.far n6 hb).1; omega) (fun e => by have := (h.o9.far_lt n6 e).1; omega)),
    fun b hb hb2 => by
      obtain rfl := hg5 _ hb
      rcases hat with h1 | h1
      · exact h.d67 _ h1 hb2
      · have := (h.o7.far_lt _ hb2).2; omega,
    fun b hb hb2 => by
      obtain rfl := hg5 _ hb
      rcases hat with h1 | h1
      · exact h.d68 _ h1 hb2
      · have := (h.o8.far_lt _ hb2).2; omega,
    fun b hb hb2 => by
      obtain rfl := hg5 _ hb
      rcases hat with h1 | h1
      · exact h.d69 _ h1 hb2
      · have := (h.o9.far_lt _ hb2).2; omega,
    h.d78,
    h.d79,
    h.d89⟩
/-- The row again grows. -/
theorem DueV.grow7 {W5 : World} {ob : Obj} {x : MX} {cs : List Value} {g5 n5 cap5 : Nat} (h : DueV W lo n6 n7 n8 n9 D v6 v7 v8 v9 S c6 c7 c8 c9) (hn : n6 < lo ∧ n7 < lo ∧ n8 < lo ∧ n9 < lo) (hd : n6 ≠ n7 ∧ n6 ≠ n8 ∧ n6 ≠ n9 ∧ n7 ≠ n8 ∧ n7 ≠ n9 ∧ n8 ≠ n9) (hlo : lo ≤ W.heap.size)
    (hx : IsM W S x cs) (hcs : cs.length = 13) (hown : W5.ownsRow lo 30 13 (.slice (some ⟨g5, 0, none⟩) n5 cap5) n5 (c7.flatten ++ cs)) (hl : n5 = D.again.length + 1) (hg : (W.alloc ob).grownBy W5 v7.ownBlock) (hat : v7.ownBlock = some g5 ∨ g5 = W.heap.size + 1) :
    DueV (W5.setCell ⟨n7, 0, none⟩ (.slice (some ⟨g5, 0, none⟩) n5 cap5)) lo n6 n7 n8 n9 { D with again := D.again ++ [x] } v6 (.slice (some ⟨g5, 0, none⟩) n5 cap5) v8 v9 S c6 (c7 ++ [cs]) c8 c9 := by
  obtain ⟨m6, m7, m8, m9⟩ := hn
  obtain ⟨e1, e2, e3, e4, e5, e6⟩ := hd
  have hs5 : W.heap.size + 1 ≤ W5.heap.size := by have := hg.size; simpa using this
  have hR := OwnE.snoc keepsM h.o7 hx hcs (fun b hb => h.o7.far b hb) hown hl hg hat
  have hg5 : ∀ b, (Value.slice (some ⟨g5, 0, none⟩) n5 cap5).ownBlock = some b → g5 = b := fun b hb => by simpa [Value.ownBlock] using hb
  have hlo5 : lo ≤ g5 := by
    rcases hat with h1 | h1
    · exact (h.o7.far_lt g5 h1).1
    · omega
  have hb : ∀ (n : Nat) (t : TypeId) (v : Value), n < lo → n ≠ n7 → Blk W n t #[v] → Blk (W5.setCell ⟨n7, 0, none⟩ (.slice (some ⟨g5, 0, none⟩) n5 cap5)) n t #[v] := fun n t v h1 h2 h3 =>
    Blk.far ((far_block hg (by omega) (fun e => by have := (h.o7.far_lt n e).1; omega)).trans h3) h2 _
  exact ⟨hb n6 _ _ m6 (by omega) h.b6,
    Blk.set (i := 0) ((far_block hg (by omega) (fun e => by have := (h.o7.far_lt n7 e).1; omega)).trans h.b7) _,
    hb n8 _ _ m8 (by omega) h.b8,
    hb n9 _ _ m9 (by omega) h.b9,
    ((h.o6.aside keepsS hg (fun b hb => (h.o7.far b hb).2.2) (fun b hb => h.d67 b hb)).set keepsS (fun hb => by have := (h.o6.far n7 hb).1; omega) (fun e => by have := (h.o6.far_lt n7 e).1; omega)),
    ((hR.wider keepsM (S' := S) (fun b hb => by rcases hb with hb | hb <;> exact hb) (fun b hb => hR.far b (.inl hb))).set keepsM (fun hb => by have := (h.o7.far n7 hb).1; omega) (fun e => by have := hg5 n7 e; omega)),
    ((h.o8.aside keepsM hg (fun b hb => (h.o7.far b hb).2.2) (fun b hb e => h.d78 b e hb)).set keepsM (fun hb => by have := (h.o8.far n7 hb).1; omega) (fun e => by have := (h.o8.far_lt n7 e).1; omega)),
    ((h.o9.aside keepsM hg (fun b hb => (h.o7.far b hb).2.2) (fun b hb e => h.d79 b e hb)).set keepsM (fun hb => by have := (h.o9.far n7 hb).1; omega) (fun e => by have := (h.o9.far_lt n7 e).1; omega)),
    fun b hb hb2 => by
      obtain rfl := hg5 _ hb2
      rcases hat with h1 | h1
      · exact h.d67 _ hb h1
      · have := (h.o6.far_lt _ hb).2; omega,
    h.d68,
    h.d69,
    fun b hb hb2 => by
      obtain rfl := hg5 _ hb
      rcases hat with h1 | h1
      · exact h.d78 _ h1 hb2
      · have := (h.o8.far_lt _ hb2).2; omega,
    fun b hb hb2 => by
      obtain rfl := hg5 _ hb
      rcases hat with h1 | h1
      · exact h.d79 _ h1 hb2
      · have := (h.o9.far_lt _ hb2).2; omega,
    h.d89⟩
/-- The row dead grows. -/
theorem DueV.grow8 {W5 : World} {ob : Obj} {x : MX} {cs : List Value} {g5 n5 cap5 : Nat} (h : DueV W lo n6 n7 n8 n9 D v6 v7 v8 v9 S c6 c7 c8 c9) (hn : n6 < lo ∧ n7 < lo ∧ n8 < lo ∧ n9 < lo) (hd : n6 ≠ n7 ∧ n6 ≠ n8 ∧ n6 ≠ n9 ∧ n7 ≠ n8 ∧ n7 ≠ n9 ∧ n8 ≠ n9) (hlo : lo ≤ W.heap.size)
    (hx : IsM W S x cs) (hcs : cs.length = 13) (hown : W5.ownsRow lo 30 13 (.slice (some ⟨g5, 0, none⟩) n5 cap5) n5 (c8.flatten ++ cs)) (hl : n5 = D.dead.length + 1) (hg : (W.alloc ob).grownBy W5 v8.ownBlock) (hat : v8.ownBlock = some g5 ∨ g5 = W.heap.size + 1) :
    DueV (W5.setCell ⟨n8, 0, none⟩ (.slice (some ⟨g5, 0, none⟩) n5 cap5)) lo n6 n7 n8 n9 { D with dead := D.dead ++ [x] } v6 v7 (.slice (some ⟨g5, 0, none⟩) n5 cap5) v9 S c6 c7 (c8 ++ [cs]) c9 := by
  obtain ⟨m6, m7, m8, m9⟩ := hn
  obtain ⟨e1, e2, e3, e4, e5, e6⟩ := hd
  have hs5 : W.heap.size + 1 ≤ W5.heap.size := by have := hg.size; simpa using this
  have hR := OwnE.snoc keepsM h.o8 hx hcs (fun b hb => h.o8.far b hb) hown hl hg hat
  have hg5 : ∀ b, (Value.slice (some ⟨g5, 0, none⟩) n5 cap5).ownBlock = some b → g5 = b := fun b hb => by simpa [Value.ownBlock] using hb
  have hlo5 : lo ≤ g5 := by
    rcases hat with h1 | h1
    · exact (h.o8.far_lt g5 h1).1
    · omega
  have hb : ∀ (n : Nat) (t : TypeId) (v : Value), n < lo → n ≠ n8 → Blk W n t #[v] → Blk (W5.setCell ⟨n8, 0, none⟩ (.slice (some ⟨g5, 0, none⟩) n5 cap5)) n t #[v] := fun n t v h1 h2 h3 =>
    Blk.far ((far_block hg (by omega) (fun e => by have := (h.o8.far_lt n e).1; omega)).trans h3) h2 _
  exact ⟨hb n6 _ _ m6 (by omega) h.b6,
    hb n7 _ _ m7 (by omega) h.b7,
    Blk.set (i := 0) ((far_block hg (by omega) (fun e => by have := (h.o8.far_lt n8 e).1; omega)).trans h.b8) _,
    hb n9 _ _ m9 (by omega) h.b9,
    ((h.o6.aside keepsS hg (fun b hb => (h.o8.far b hb).2.2) (fun b hb => h.d68 b hb)).set keepsS (fun hb => by have := (h.o6.far n8 hb).1; omega) (fun e => by have := (h.o6.far_lt n8 e).1; omega)),
    ((h.o7.aside keepsM hg (fun b hb => (h.o8.far b hb).2.2) (fun b hb => h.d78 b hb)).set keepsM (fun hb => by have := (h.o7.far n8 hb).1; omega) (fun e => by have := (h.o7.far_lt n8 e).1; omega)),
    ((hR.wider keepsM (S' := S) (fun b hb => by rcases hb with hb | hb <;> exact hb) (fun b hb => hR.far b (.inl hb))).set keepsM (fun hb => by have := (h.o8.far n8 hb).1; omega) (fun e => by have := hg5 n8 e; omega)),
    ((h.o9.aside keepsM hg (fun b hb => (h.o8.far b hb).2.2) (fun b hb e => h.d89 b e hb)).set keepsM (fun hb => by have := (h.o9.far n8 hb).1; omega) (fun e => by have := (h.o9.far_lt n8 e).1; omega)),
    h.d67,
    fun b hb hb2 => by
      obtain rfl := hg5 _ hb2
      rcases hat with h1 | h1
      · exact h.d68 _ hb h1
      · have := (h.o6.far_lt _ hb).2; omega,
    h.d69,
    fun b hb hb2 => by
      obtain rfl := hg5 _ hb2
      rcases hat with h1 | h1
      · exact h.d78 _ hb h1
      · have := (h.o7.far_lt _ hb).2; omega,
    h.d79,
    fun b hb hb2 => by
      obtain rfl := hg5 _ hb
      rcases hat with h1 | h1
      · exact h.d89 _ h1 hb2
      · have := (h.o9.far_lt _ hb2).2; omega⟩
/-- The row late grows. -/
theorem DueV.grow9 {W5 : World} {ob : Obj} {x : MX} {cs : List Value} {g5 n5 cap5 : Nat} (h : DueV W lo n6 n7 n8 n9 D v6 v7 v8 v9 S c6 c7 c8 c9) (hn : n6 < lo ∧ n7 < lo ∧ n8 < lo ∧ n9 < lo) (hd : n6 ≠ n7 ∧ n6 ≠ n8 ∧ n6 ≠ n9 ∧ n7 ≠ n8 ∧ n7 ≠ n9 ∧ n8 ≠ n9) (hlo : lo ≤ W.heap.size)
    (hx : IsM W S x cs) (hcs : cs.length = 13) (hown : W5.ownsRow lo 30 13 (.slice (some ⟨g5, 0, none⟩) n5 cap5) n5 (c9.flatten ++ cs)) (hl : n5 = D.late.length + 1) (hg : (W.alloc ob).grownBy W5 v9.ownBlock) (hat : v9.ownBlock = some g5 ∨ g5 = W.heap.size + 1) :
    DueV (W5.setCell ⟨n9, 0, none⟩ (.slice (some ⟨g5, 0, none⟩) n5 cap5)) lo n6 n7 n8 n9 { D with late := D.late ++ [x] } v6 v7 v8 (.slice (some ⟨g5, 0, none⟩) n5 cap5) S c6 c7 c8 (c9 ++ [cs]) := by
  obtain ⟨m6, m7, m8, m9⟩ := hn
  obtain ⟨e1, e2, e3, e4, e5, e6⟩ := hd
  have hs5 : W.heap.size + 1 ≤ W5.heap.size := by have := hg.size; simpa using this
  have hR := OwnE.snoc keepsM h.o9 hx hcs (fun b hb => h.o9.far b hb) hown hl hg hat
  have hg5 : ∀ b, (Value.slice (some ⟨g5, 0, none⟩) n5 cap5).ownBlock = some b → g5 = b := fun b hb => by simpa [Value.ownBlock] using hb
  have hlo5 : lo ≤ g5 := by
    rcases hat with h1 | h1
    · exact (h.o9.far_lt g5 h1).1
    · omega
  have hb : ∀ (n : Nat) (t : TypeId) (v : Value), n < lo → n ≠ n9 → Blk W n t #[v] → Blk (W5.setCell ⟨n9, 0, none⟩ (.slice (some ⟨g5, 0, none⟩) n5 cap5)) n t #[v] := fun n t v h1 h2 h3 =>
    Blk.far ((far_block hg (by omega) (fun e => by have := (h.o9.far_lt n e).1; omega)).trans h3) h2 _
  exact ⟨hb n6 _ _ m6 (by omega) h.b6,
    hb n7 _ _ m7 (by omega) h.b7,
    hb n8 _ _ m8 (by omega) h.b8,
    Blk.set (i := 0) ((far_block hg (by omega) (fun e => by have := (h.o9.far_lt n9 e).1; omega)).trans h.b9) _,
    ((h.o6.aside keepsS hg (fun b hb => (h.o9.far b hb).2.2) (fun b hb => h.d69 b hb)).set keepsS (fun hb => by have := (h.o6.far n9 hb).1; omega) (fun e => by have := (h.o6.far_lt n9 e).1; omega)),
    ((h.o7.aside keepsM hg (fun b hb => (h.o9.far b hb).2.2) (fun b hb => h.d79 b hb)).set keepsM (fun hb => by have := (h.o7.far n9 hb).1; omega) (fun e => by have := (h.o7.far_lt n9 e).1; omega)),
    ((h.o8.aside keepsM hg (fun b hb => (h.o9.far b hb).2.2) (fun b hb => h.d89 b hb)).set keepsM (fun hb => by have := (h.o8.far n9 hb).1; omega) (fun e => by have := (h.o8.far_lt n9 e).1; omega)),
    ((hR.wider keepsM (S' := S) (fun b hb => by rcases hb with hb | hb <;> exact hb) (fun b hb => hR.far b (.inl hb))).set keepsM (fun hb => by have := (h.o9.far n9 hb).1; omega) (fun e => by have := hg5 n9 e; omega)),
    h.d67,
    h.d68,
    fun b hb hb2 => by
      obtain rfl := hg5 _ hb2
      rcases hat with h1 | h1
      · exact h.d69 _ hb h1
      · have := (h.o6.far_lt _ hb).2; omega,
    h.d78,
    fun b hb hb2 => by
      obtain rfl := hg5 _ hb2
      rcases hat with h1 | h1
      · exact h.d79 _ hb h1
      · have := (h.o7.far_lt _ hb).2; omega,
    fun b hb hb2 => by
      obtain rfl := hg5 _ hb2
      rcases hat with h1 | h1
      · exact h.d89 _ hb h1
      · have := (h.o8.far_lt _ hb).2; omega⟩
/-- What a round's body keeps: all but the variables, their rows, and the box of what is given. -/
structure KB (Z : Nat → Prop) (Bs : Nat) (A B : World) : Prop where
  size : A.heap.size ≤ B.heap.size
  block : ∀ b o, ¬ Z b → b ≠ Bs → ¬ RowZ Z A b → A.heap[b]? = some o → o.isCells = true → B.heap[b]? = some o
  row : ∀ b, RowZ Z B b → RowZ Z A b ∨ A.heap.size ≤ b
theorem KB.refl (Z : Nat → Prop) (Bs : Nat) (A : World) : KB Z Bs A A := ⟨Nat.le_refl _, fun _ _ _ _ _ h _ => h, fun _ h => .inl h⟩
theorem KB.trans {Z : Nat → Prop} {Bs : Nat} {A B C : World} (h : KB Z Bs A B) (k : KB Z Bs B C) : KB Z Bs A C := by
  refine ⟨Nat.le_trans h.size k.size, fun b o h1 h0 h2 h3 h4 => k.block b o h1 h0 (fun h5 => ?_) (h.block b o h1 h0 h2 h3 h4) h4, fun b h1 => ?_⟩
  · rcases h.row b h5 with h6 | h6
    · exact h2 h6
    · have := (Array.getElem?_eq_some_iff.1 h3).1; omega
  · rcases k.row b h1 with h6 | h6
    · exact h.row b h6
    · exact .inr (Nat.le_trans h.size h6)
theorem KB.of {Z : Nat → Prop} {Bs : Nat} {A B : World} (h : KZ Z A B) : KB Z Bs A B := ⟨h.size, fun b o h1 _ h2 h3 h4 => h.block b o h1 h2 h3 h4, h.row⟩
theorem KB.kz {Z : Nat → Prop} {Bs : Nat} {A B : World} (h : KB Z Bs A B) (hb : A.heap.size ≤ Bs) : KZ Z A B := ⟨h.size, fun b o h1 h2 h3 h4 => h.block b o h1 (fun e => by have := (Array.getElem?_eq_some_iff.1 h3).1; omega) h2 h3 h4, h.row⟩
theorem KB.box {Z : Nat → Prop} {Bs j : Nat} {A : World} (hZ : ¬ Z Bs) (u : Value) : KB Z Bs A (A.setCell ⟨Bs, j, none⟩ u) :=
  ⟨by simp, fun b o _ h0 _ h3 _ => (heap_set (p := ⟨Bs, j, none⟩) h0).trans h3, fun b hr => .inl (by
    obtain ⟨z, hz, n', c', hc⟩ := hr
    exact ⟨z, hz, n', c', by rw [← hc]; exact (World.cell?_of_block (a := ⟨z, 0, none⟩) (heap_set (p := ⟨Bs, j, none⟩) (fun e => by have e2 : z = Bs := e; exact hZ (e2 ▸ hz)))).symm⟩)⟩
theorem DueV.kb6 {W5 : World} {ob : Obj} {g5 n5 cap5 : Nat} {D' : DS} {S' : Nat → Prop} {c6' c7' c8' c9' : List (List Value)} (h : DueV W lo n6 n7 n8 n9 D v6 v7 v8 v9 S c6 c7 c8 c9) (h' : DueV (W5.setCell ⟨n6, 0, none⟩ (.slice (some ⟨g5, 0, none⟩) n5 cap5)) lo n6 n7 n8 n9 D' (.slice (some ⟨g5, 0, none⟩) n5 cap5) v7 v8 v9 S' c6' c7' c8' c9') (Bs : Nat)
    (hg : (W.alloc ob).grownBy W5 v6.ownBlock) (hat : v6.ownBlock = some g5 ∨ g5 = W.heap.size + 1) : KB (ZV n6 n7 n8 n9) Bs W (W5.setCell ⟨n6, 0, none⟩ (.slice (some ⟨g5, 0, none⟩) n5 cap5)) := by
  have hs5 : W.heap.size + 1 ≤ W5.heap.size := by have := hg.size; simpa using this
  refine ⟨by simp; omega, fun b o h1 _ h2 h3 _ => ?_, fun b hb => ?_⟩
  · have hlt := (Array.getElem?_eq_some_iff.1 h3).1
    exact (heap_set (p := ⟨n6, 0, none⟩) (fun e => h1 (by rw [e]; exact .inl rfl))).trans ((far_block hg hlt (fun e => h2 (h.row (.inl e)))).trans h3)
  · rcases h'.rowz hb with hb | hb | hb | hb
    · have e : g5 = b := by simpa [Value.ownBlock] using hb
      rcases hat with h1 | h1
      · exact .inl (h.row (.inl (by rw [← e]; exact h1)))
      · exact .inr (by omega)
    · exact .inl (h.row (.inr (.inl hb)))
    · exact .inl (h.row (.inr (.inr (.inl hb))))
    · exact .inl (h.row (.inr (.inr (.inr hb))))
theorem DueV.kb7 {W5 : World} {ob : Obj} {g5 n5 cap5 : Nat} {D' : DS} {S' : Nat → Prop} {c6' c7' c8' c9' : List (List Value)} (h : DueV W lo n6 n7 n8 n9 D v6 v7 v8 v9 S c6 c7 c8 c9) (h' : DueV (W5.setCell ⟨n7, 0, none⟩ (.slice (some ⟨g5, 0, none⟩) n5 cap5)) lo n6 n7 n8 n9 D' v6 (.slice (some ⟨g5, 0, none⟩) n5 cap5) v8 v9 S' c6' c7' c8' c9') (Bs : Nat)
    (hg : (W.alloc ob).grownBy W5 v7.ownBlock) (hat : v7.ownBlock = some g5 ∨ g5 = W.heap.size + 1) : KB (ZV n6 n7 n8 n9) Bs W (W5.setCell ⟨n7, 0, none⟩ (.slice (some ⟨g5, 0, none⟩) n5 cap5)) := by
  have hs5 : W.heap.size + 1 ≤ W5.heap.size := by have := hg.size; simpa using this
  refine ⟨by simp; omega, fun b o h1 _ h2 h3 _ => ?_, fun b hb => ?_⟩
  · have hlt := (Array.getElem?_eq_some_iff.1 h3).1
    exact (heap_set (p := ⟨n7, 0, none⟩) (fun e => h1 (by rw [e]; exact .inr (.inl rfl)))).trans ((far_block hg hlt (fun e => h2 (h.row (.inr (.inl e))))).trans h3)
  · rcases h'.rowz hb with hb | hb | hb | hb
    · exact .inl (h.row (.inl hb))
    · have e : g5 = b := by simpa [Value.ownBlock] using hb
      rcases hat with h1 | h1
      · exact .inl (h.row (.inr (.inl (by rw [← e]; exact h1))))
      · exact .inr (by omega)
    · exact .inl (h.row (.inr (.inr (.inl hb))))
    · exact .inl (h.row (.inr (.inr (.inr hb))))
theorem DueV.kb8 {W5 : World} {ob : Obj} {g5 n5 cap5 : Nat} {D' : DS} {S' : Nat → Prop} {c6' c7' c8' c9' : List (List Value)} (h : DueV W lo n6 n7 n8 n9 D v6 v7 v8 v9 S c6 c7 c8 c9) (h' : DueV (W5.setCell ⟨n8, 0, none⟩ (.slice (some ⟨g5, 0, none⟩) n5 cap5)) lo n6 n7 n8 n9 D' v6 v7 (.slice (some ⟨g5, 0, none⟩) n5 cap5) v9 S' c6' c7' c8' c9') (Bs : Nat)
    (hg : (W.alloc ob).grownBy W5 v8.ownBlock) (hat : v8.ownBlock = some g5 ∨ g5 = W.heap.size + 1) : KB (ZV n6 n7 n8 n9) Bs W (W5.setCell ⟨n8, 0, none⟩ (.slice (some ⟨g5, 0, none⟩) n5 cap5)) := by
  have hs5 : W.heap.size + 1 ≤ W5.heap.size := by have := hg.size; simpa using this
  refine ⟨by simp; omega, fun b o h1 _ h2 h3 _ => ?_, fun b hb => ?_⟩
  · have hlt := (Array.getElem?_eq_some_iff.1 h3).1
    exact (heap_set (p := ⟨n8, 0, none⟩) (fun e => h1 (by rw [e]; exact .inr (.inr (.inl rfl))))).trans ((far_block hg hlt (fun e => h2 (h.row (.inr (.inr (.inl e)))))).trans h3)
  · rcases h'.rowz hb with hb | hb | hb | hb
    · exact .inl (h.row (.inl hb))
    · exact .inl (h.row (.inr (.inl hb)))
    · have e : g5 = b := by simpa [Value.ownBlock] using hb
      rcases hat with h1 | h1
      · exact .inl (h.row (.inr (.inr (.inl (by rw [← e]; exact h1)))))
      · exact .inr (by omega)
    · exact .inl (h.row (.inr (.inr (.inr hb))))
theorem DueV.kb9 {W5 : World} {ob : Obj} {g5 n5 cap5 : Nat} {D' : DS} {S' : Nat → Prop} {c6' c7' c8' c9' : List (List Value)} (h : DueV W lo n6 n7 n8 n9 D v6 v7 v8 v9 S c6 c7 c8 c9) (h' : DueV (W5.setCell ⟨n9, 0, none⟩ (.slice (some ⟨g5, 0, none⟩) n5 cap5)) lo n6 n7 n8 n9 D' v6 v7 v8 (.slice (some ⟨g5, 0, none⟩) n5 cap5) S' c6' c7' c8' c9') (Bs : Nat)
    (hg : (W.alloc ob).grownBy W5 v9.ownBlock) (hat : v9.ownBlock = some g5 ∨ g5 = W.heap.size + 1) : KB (ZV n6 n7 n8 n9) Bs W (W5.setCell ⟨n9, 0, none⟩ (.slice (some ⟨g5, 0, none⟩) n5 cap5)) := by
  have hs5 : W.heap.size + 1 ≤ W5.heap.size := by have := hg.size; simpa using this
  refine ⟨by simp; omega, fun b o h1 _ h2 h3 _ => ?_, fun b hb => ?_⟩
  · have hlt := (Array.getElem?_eq_some_iff.1 h3).1
    exact (heap_set (p := ⟨n9, 0, none⟩) (fun e => h1 (by rw [e]; exact .inr (.inr (.inr rfl))))).trans ((far_block hg hlt (fun e => h2 (h.row (.inr (.inr (.inr e)))))).trans h3)
  · rcases h'.rowz hb with hb | hb | hb | hb
    · exact .inl (h.row (.inl hb))
    · exact .inl (h.row (.inr (.inl hb)))
    · exact .inl (h.row (.inr (.inr (.inl hb))))
    · have e : g5 = b := by simpa [Value.ownBlock] using hb
      rcases hat with h1 | h1
      · exact .inl (h.row (.inr (.inr (.inr (by rw [← e]; exact h1)))))
      · exact .inr (by omega)
theorem DueV.ko6 {W5 : World} {ob : Obj} (h : DueV W lo n6 n7 n8 n9 D v6 v7 v8 v9 S c6 c7 c8 c9) (hg : (W.alloc ob).grownBy W5 v6.ownBlock) (u : Value) : KeepsOthers W (W5.setCell ⟨n6, 0, none⟩ u) := by
  refine ((KeepsOthers.alloc _ _).trans (keeps_grown hg fun r e => ?_)).trans (KeepsOthers.setCell _ _ _)
  obtain ⟨cur, hc⟩ := row_block (h.o6.row.alloc _) e
  exact ⟨_, hc, rfl⟩
theorem DueV.below6 {w W5 : World} {ob : Obj} {B : Nat} (h : DueV W lo n6 n7 n8 n9 D v6 v7 v8 v9 S c6 c7 c8 c9) (hT : Below B w W) (hB : B ≤ lo) (hn : B ≤ n6) (hlo : lo ≤ W.heap.size) (hg : (W.alloc ob).grownBy W5 v6.ownBlock) (u : Value) : Below B w (W5.setCell ⟨n6, 0, none⟩ u) :=
  ((hT.alloc (by omega) _).grown hg (by simp; omega) (fun q hq => by have := (h.o6.far_lt q hq).1; omega)).setCell hn _
theorem DueV.ko7 {W5 : World} {ob : Obj} (h : DueV W lo n6 n7 n8 n9 D v6 v7 v8 v9 S c6 c7 c8 c9) (hg : (W.alloc ob).grownBy W5 v7.ownBlock) (u : Value) : KeepsOthers W (W5.setCell ⟨n7, 0, none⟩ u) := by
  refine ((KeepsOthers.alloc _ _).trans (keeps_grown hg fun r e => ?_)).trans (KeepsOthers.setCell _ _ _)
  obtain ⟨cur, hc⟩ := row_block (h.o7.row.alloc _) e
  exact ⟨_, hc, rfl⟩
theorem DueV.below7 {w W5 : World} {ob : Obj} {B : Nat} (h : DueV W lo n6 n7 n8 n9 D v6 v7 v8 v9 S c6 c7 c8 c9) (hT : Below B w W) (hB : B ≤ lo) (hn : B ≤ n7) (hlo : lo ≤ W.heap.size) (hg : (W.alloc ob).grownBy W5 v7.ownBlock) (u : Value) : Below B w (W5.setCell ⟨n7, 0, none⟩ u) :=
  ((hT.alloc (by omega) _).grown hg (by simp; omega) (fun q hq => by have := (h.o7.far_lt q hq).1; omega)).setCell hn _
theorem DueV.ko8 {W5 : World} {ob : Obj} (h : DueV W lo n6 n7 n8 n9 D v6 v7 v8 v9 S c6 c7 c8 c9) (hg : (W.alloc ob).grownBy W5 v8.ownBlock) (u : Value) : KeepsOthers W (W5.setCell ⟨n8, 0, none⟩ u) := by
  refine ((KeepsOthers.alloc _ _).trans (keeps_grown hg fun r e => ?_)).trans (KeepsOthers.setCell _ _ _)
  obtain ⟨cur, hc⟩ := row_block (h.o8.row.alloc _) e
  exact ⟨_, hc, rfl⟩
theorem DueV.below8 {w W5 : World} {ob : Obj} {B : Nat} (h : DueV W lo n6 n7 n8 n9 D v6 v7 v8 v9 S c6 c7 c8 c9) (hT : Below B w W) (hB : B ≤ lo) (hn : B ≤ n8) (hlo : lo ≤ W.heap.size) (hg : (W.alloc ob).grownBy W5 v8.ownBlock) (u : Value) : Below B w (W5.setCell ⟨n8, 0, none⟩ u) :=
  ((hT.alloc (by omega) _).grown hg (by simp; omega) (fun q hq => by have := (h.o8.far_lt q hq).1; omega)).setCell hn _
theorem DueV.ko9 {W5 : World} {ob : Obj} (h : DueV W lo n6 n7 n8 n9 D v6 v7 v8 v9 S c6 c7 c8 c9) (hg : (W.alloc ob).grownBy W5 v9.ownBlock) (u : Value) : KeepsOthers W (W5.setCell ⟨n9, 0, none⟩ u) := by
  refine ((KeepsOthers.alloc _ _).trans (keeps_grown hg fun r e => ?_)).trans (KeepsOthers.setCell _ _ _)
  obtain ⟨cur, hc⟩ := row_block (h.o9.row.alloc _) e
  exact ⟨_, hc, rfl⟩
theorem DueV.below9 {w W5 : World} {ob : Obj} {B : Nat} (h : DueV W lo n6 n7 n8 n9 D v6 v7 v8 v9 S c6 c7 c8 c9) (hT : Below B w W) (hB : B ≤ lo) (hn : B ≤ n9) (hlo : lo ≤ W.heap.size) (hg : (W.alloc ob).grownBy W5 v9.ownBlock) (u : Value) : Below B w (W5.setCell ⟨n9, 0, none⟩ u) :=
  ((hT.alloc (by omega) _).grown hg (by simp; omega) (fun q hq => by have := (h.o9.far_lt q hq).1; omega)).setCell hn _
theorem keeps_below {A B : World} (h : Below A.heap.size A B) : KeepsOthers A B := ⟨h.size, fun k _o hk _ => (h.block k (Array.getElem?_eq_some_iff.1 hk).1).trans hk⟩
end
end Go.Proofs.YtmdcfmdjbncaoaaDoor
