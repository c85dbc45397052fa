/- Whole structs inside a fence; what a round of a loop that collects messages keeps. -/
import Derived.Test.YtmdcfmdjbncaoaaDoorBg
import Derived.Test.YtmdcfmdjbncaoaaDoorBm
namespace Go.Proofs.YtmdcfmdjbncaoaaDoor
open Go.RowKit

section
variable {F : Fence} {n : Nat} {P : Program} {w : World} {ops : Array Oper} {rest : List Oper} {op : Oper} {a : Act} {Q : Exit → Act → World → Prop} {T : TypeId}
theorem wpListIn_load_blk (hgd : op.guard = none) (ty : TypeId) (x : Operand) (ho : op.op = .load ty x) (g o : Nat) (hx : a.eval x = .pointer (some ⟨g, o, none⟩)) (cs : List Value) (d : TypeDesc) (hc : w.rangeAt g o cs)
    (hu : P.underlying ty = some d) (hd : d.isRow = true) (hi : (P.info? ty).map (·.size) = some cs.length) (h : wpListIn F n P ops Q rest (a.put op.dst (.agg cs.toArray)) w) : wpListIn F n P ops Q (op :: rest) a w := by
  refine wpListIn_plain hgd fun K hK => ?_
  unfold Oper.wpIn
  refine ⟨by simp [Oper.about, ho], ?_⟩
  rw [Oper.semAt_plain F _ _ (by rw [ho]; intro c hc'; cases hc')]
  unfold execOp
  simp only [ho, hx, Instr.loadAt, Instr.sureAddr, Sem.run_bind, Sem.run_pure, Result.andThen_ok, run_loadVar_mid w g o ty cs d hc hu hd hi]
  exact hK _ _ h
theorem wpListIn_store_blk (hgd : op.guard = none) (ty : TypeId) (x y : Operand) (ho : op.op = .store ty x y) (g o : Nat) (pre old post us : List Value) (hx : a.eval x = .pointer (some ⟨g, o, none⟩)) (hy : a.eval y = .agg us.toArray)
    (hb : Blk w g T (pre ++ old ++ post).toArray) (hp : pre.length = o) (hl : old.length = us.length) (hi : (P.info? ty).map (·.size) = some us.length) (h1 : ∀ v ∈ us, v.oneCell' = true)
    (h : ∀ w', Blk w' g T (pre ++ us ++ post).toArray → Upd g w w' → KeepsOthers w w' → wpListIn F n P ops Q rest (a.put op.dst undef) w') : wpListIn F n P ops Q (op :: rest) a w := by
  refine wpListIn_plain hgd fun K hK => ?_
  unfold Oper.wpIn
  refine ⟨by simp [Oper.about, ho], ?_⟩
  rw [Oper.semAt_plain F _ _ (by rw [ho]; intro c hc'; cases hc')]
  unfold execOp
  have hs := run_storeVar_mid (P := P) w g o ty us.toArray (hb.there (by simp; omega)) (by simpa using hi) (all_oneCell_toArray h1)
  rw [List.toList_toArray] at hs
  simp only [ho, hx, hy, Instr.storeAt, Instr.sureAddr, Sem.run_bind, Sem.run_pure, Result.andThen_ok, hs]
  refine hK _ _ (h _ (blk_setCells us w o pre old post hb hp hl) (upd_setCells g us o w) ?_)
  have ks : ∀ (us : List Value) (o : Nat) (w : World), KeepsOthers w (w.setCells g o us) := by
    intro us
    induction us with
    | nil => intro o w; exact KeepsOthers.refl _
    | cons u r ih => intro o w; exact (KeepsOthers.setCell _ _ _).trans (ih _ _)
  exact ks us o w
theorem wpListIn_append_lies (hgd : op.guard = none) (s x : Operand) (t : TypeId) (ho : op.op = .call { callee := .builtin .append, args := #[s, x], argTypes := #[t, t] })
    (base : Nat) (e : TypeId) (i : TypeInfo) (z : Value) (size bytes : Nat) (ht : P.underlying t = some (.slice e)) (hi : P.info? e = some i) (hz : i.zero = some z)
    (hsize : i.size = size) (hby : i.bytes = bytes) (hzs : z.cells.size = size) (hsz : 0 < size)
    (v : Value) (k : Nat) (xs : List Value) (hs : a.eval s = v) (hown : w.ownsRow base e size v k xs)
    (ad : Addr) (m c : Nat) (news : List Value) (hx : a.eval x = .slice (some ad) m c) (hl : news.length = m * size) (hnews : ∀ j u, news[j]? = some u → w.cell? (ad.add j) = some u) (h1 : ∀ u ∈ news, u.oneCell' = true)
    (hm : 0 < m) (h63 : k + m ≤ maxLen) (hbytes : (k + m) * bytes ≤ 140737488355328) (hbase : base ≤ w.heap.size) (H : Nat) (hH : w.heap.size = H)
    (h : ∀ g cap w', w'.ownsRow base e size (.slice (some ⟨g, 0, none⟩) (k + m) cap) (k + m) (xs ++ news) → w.grownBy w' v.ownBlock → (v.ownBlock = some g ∨ g = H) → g < w'.heap.size → wpListIn F n P ops Q rest (a.put op.dst (.slice (some ⟨g, 0, none⟩) (k + m) cap)) w') :
    wpListIn F n P ops Q (op :: rest) a w := by
  refine wpListIn_plain hgd fun K hK => ?_
  obtain ⟨g, cap, w', hr, h2, h3, h4, h5⟩ := run_append_lies (P := P) w t op.type base e i z size bytes ht hi hz hsize hby hzs hsz v k xs hown ad m c news hl hnews h1 hm h63 hbytes hbase H hH
  unfold Oper.wpIn
  refine ⟨by simp [Oper.about, ho, resolve, Target.leads, Sem.run_pure], ?_⟩
  rw [Oper.semAt_plain F _ _ (by rw [ho]; intro c hc'; cases hc')]
  unfold execOp
  simp only [ho, resolve, invoke, builtin, Sem.run_bind, Sem.run_pure, Result.andThen_ok, List.map_toArray, List.map_cons, List.map_nil, hs, hx, hr]
  exact hK _ _ (h g cap w' h2 h3 h4 h5)
end

theorem IsD.fwd {w w' : World} {S S' : Nat → Prop} (hS : ∀ b, S b → S' b) (hk : ∀ b j v, S b → w.cell? ⟨b, j, none⟩ = some v → w'.cell? ⟨b, j, none⟩ = some v) {t : Tree} {cs : List Value} (h : IsD w S t cs) : IsD w' S' t cs := by
  induction h with
  | mk k i b t l a c g o vs wk wi wb ht hl hc ha hv hm ih =>
    refine .mk k i b t l a c g o vs wk wi wb ht hl hc (fun h0 => ⟨(ha h0).1, hS g (ha h0).2⟩) ih (fun j x hx q v hq => ?_)
    have h0 : 0 < l.length := by have := (List.getElem?_eq_some_iff.1 hx).1; omega
    exact hk g _ v (ha h0).2 (hm j x hx q v hq)
theorem IsM.fwd {w w' : World} {S S' : Nat → Prop} {m : MX} {cs : List Value} (h : IsM w S m cs) (hS : ∀ b, S b → S' b) (hk : ∀ b j v, S b → w.cell? ⟨b, j, none⟩ = some v → w'.cell? ⟨b, j, none⟩ = some v) : IsM w' S' m cs := by
  obtain ⟨k, i, b, s, a, n, c, h1, h2, h3, h4⟩ := h
  exact ⟨k, i, b, s, a, n, c, h1, h2.fwd hS hk, h3, h4⟩

theorem IsN.fwd {w w' : World} {S S' : Nat → Prop} {m : MX} {cs : List Value} (h : IsN w S m cs) (hS : ∀ b, S b → S' b) (hk : ∀ b o, S b → w.heap[b]? = some o → o.isCells = true → w'.heap[b]? = some o) : IsN w' S' m cs :=
  ⟨h.ism.fwd hS fun b j v hb hc => by
    obtain ⟨o, ho, hoc⟩ := cells_of_cell hc
    rw [World.cell?_of_block (w := w) (w' := w') (a := ⟨b, j, none⟩) ((hk b o hb ho hoc).trans ho.symm)]
    exact hc, h.free.fwd hS hk⟩

/-- The row that the variable of block sb holds lies in block b. -/
def RowB (sb : Nat) (W : World) (b : Nat) : Prop := ∃ n c, W.cell? ⟨sb, 0, none⟩ = some (.slice (some ⟨b, 0, none⟩) n c)
/-- All cells stay but the variable's and its row's. -/
structure KS (sb : Nat) (A B : World) : Prop where
  size : A.heap.size ≤ B.heap.size
  block : ∀ b o, b ≠ sb → ¬ RowB sb A b → A.heap[b]? = some o → o.isCells = true → B.heap[b]? = some o
  row : ∀ b, RowB sb B b → RowB sb A b ∨ A.heap.size ≤ b
theorem KS.refl (sb : Nat) (A : World) : KS sb A A := ⟨Nat.le_refl _, fun _ _ _ _ h _ => h, fun _ h => .inl h⟩
theorem KS.trans {sb : Nat} {A B C : World} (h : KS sb A B) (k : KS sb B C) : KS sb A C := by
  refine ⟨Nat.le_trans h.size k.size, fun b o h1 h2 h3 h4 => k.block b o h1 (fun h5 => ?_) (h.block b o h1 h2 h3 h4) h4, fun b h1 => ?_⟩
  · rcases h.row b h5 with h6 | h6
    · exact h2 h6
    · have := (Array.getElem?_eq_some_iff.1 h3).1; omega
  · rcases k.row b h1 with h6 | h6
    · exact h.row b h6
    · exact .inr (Nat.le_trans h.size h6)
theorem KS.below {sb : Nat} {A B : World} (h : Below A.heap.size A B) (hs : sb < A.heap.size) : KS sb A B :=
  ⟨h.size, fun b _ _ _ h3 _ => (h.block b (Array.getElem?_eq_some_iff.1 h3).1).trans h3, fun b h1 => .inl (by
    obtain ⟨n, c, h1⟩ := h1
    exact ⟨n, c, (h.cell (p := ⟨sb, 0, none⟩) hs).symm.trans h1⟩)⟩
theorem ks_put {sb N : Nat} (hs : sb < N) (W : World) (l : Nat) (o o' : Obj) (hl : N ≤ l) (h : W.heap[l]? = some o) (hc : o.isCells = false) (_ : o.isWalk = false) : KS sb W (W.putObj l o') :=
  ⟨by simp, fun b o2 _ _ hb ho => by
    by_cases e : b = l
    · subst e; rw [h] at hb; cases hb; rw [hc] at ho; cases ho
    · exact (World.putObj_heap_other (fun e' => e e')).trans hb, fun b h1 => .inl (by
    obtain ⟨n, c, h1⟩ := h1
    exact ⟨n, c, (World.cell?_of_block (a := ⟨sb, 0, none⟩) (World.putObj_heap_other (fun e' => by have e2 : sb = l := e'; omega))).symm.trans h1⟩)⟩
theorem KS.cell {sb b j : Nat} {A B : World} {v : Value} (h : KS sb A B) (h1 : b ≠ sb) (h2 : ¬ RowB sb A b) (hc : A.cell? ⟨b, j, none⟩ = some v) : B.cell? ⟨b, j, none⟩ = some v := by
  obtain ⟨o, ho, hoc⟩ := cells_of_cell hc
  rw [World.cell?_of_block (w := A) (w' := B) (a := ⟨b, j, none⟩) ((h.block b o h1 h2 ho hoc).trans ho.symm)]
  exact hc
end Go.Proofs.YtmdcfmdjbncaoaaDoor
