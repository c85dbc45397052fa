/- Shut: whole structs loaded out of and stored into blocks that are known whole. -/
import Derived.Test.YtmkbdjekidcfaaaShC
namespace Go.Proofs.Ytmkbdjekidcfaaa
open Go.RowKit
theorem heap_set {w : World} {p : Addr} {u : Value} {b : Nat} (h : b ≠ p.block) : (w.setCell p u).heap[b]? = w.heap[b]? := Below.heap_setCell w p u b h

/-- Block g alone is written. -/
structure Upd (g : Nat) (w w' : World) : Prop where
  far : ∀ q, q ≠ g → w'.heap[q]? = w.heap[q]?
  size : w'.heap.size = w.heap.size
  below : ∀ B, B ≤ g → Below B w w'
section
variable {P : Program} {w w' : World} {g : Nat} {T : TypeId}
theorem Upd.blk (h : Upd g w w') {q : Nat} {t : TypeId} {cs : Array Value} (hb : Blk w q t cs) (hq : q ≠ g) : Blk w' q t cs := (h.far q hq).trans hb
theorem Upd.cell (h : Upd g w w') {q j : Nat} (hq : q ≠ g) : w'.cell? ⟨q, j, none⟩ = w.cell? ⟨q, j, none⟩ := World.cell?_of_block (a := ⟨q, j, none⟩) (h.far q hq)
theorem upd_setCells (g : Nat) : ∀ (us : List Value) (o : Nat) (w : World), Upd g w (w.setCells g o us)
  | [], _, _ => ⟨fun _ _ => rfl, rfl, fun _ _ => Below.refl _ _⟩
  | u :: r, o, w => by
    have h := upd_setCells g r (o + 1) (w.setCell ⟨g, o, none⟩ u)
    refine ⟨fun q hq => (h.far q hq).trans (heap_set hq), h.size.trans (by simp), fun B hB => Below.trans ((Below.refl B w).setCell (p := ⟨g, o, none⟩) hB u) (h.below B hB)⟩
theorem blk_setCells {g : Nat} {T : TypeId} : ∀ (us : List Value) (w : World) (i : Nat) (pre old post : List Value), Blk w g T (pre ++ old ++ post).toArray → pre.length = i → old.length = us.length → Blk (w.setCells g i us) g T (pre ++ us ++ post).toArray
  | [], w, i, pre, old, post, h, _, ho => by
    have : old = [] := List.length_eq_zero_iff.1 ho
    subst this
    exact h
  | u :: r, w, i, pre, [], post, _, _, ho => by simp at ho
  | u :: r, w, i, pre, o :: old, post, h, hp, ho => by
    have h1 := h.set i u
    rw [List.append_assoc, List.setIfInBounds_toArray, List.set_append_right _ _ (by omega), hp, Nat.sub_self, List.cons_append, List.set_cons_zero] at h1
    have e1 : pre ++ u :: (old ++ post) = (pre ++ [u]) ++ old ++ post := by simp
    have e2 : pre ++ u :: r ++ post = (pre ++ [u]) ++ r ++ post := by simp
    rw [e1] at h1
    rw [e2]
    exact blk_setCells r _ (i + 1) (pre ++ [u]) old post h1 (by simp [hp]) (by simpa using ho)
theorem Blk.range {cs : Array Value} (h : Blk w g T cs) {pre mid post : List Value} (e : cs.toList = pre ++ mid ++ post) : w.rangeAt g pre.length mid := by
  intro j v hv
  rw [h.cell, ← Array.getElem?_toList, e, List.append_assoc, List.getElem?_append_right (by omega), Nat.add_sub_cancel_left, List.getElem?_append_left (List.getElem?_eq_some_iff.1 hv).1]
  exact hv
theorem Blk.there {cs : Array Value} (h : Blk w g T cs) {o n : Nat} (hn : o + n ≤ cs.size) : w.there g o n := by
  intro j hj
  refine ⟨?_, h.free _⟩
  rw [h.cell, Array.getElem?_eq_getElem (by omega)]
  rfl

section
variable {ops : Array Oper} {rest : List Oper} {op : Oper} {a : Act} {Q : Exit → Act → World → Prop}
/-- A whole struct out of its block; out of the midst of one. -/
theorem wpList_load_blk (hgd : op.guard = none) (ty : TypeId) (x : Operand) (ho : op.op = .load ty x) (g o : Nat) (hx : a.eval x = .pointer (some ⟨g, o, none⟩)) (cs : List Value) (d : TypeDesc) (hc : w.rangeAt g o cs)
    (hu : P.underlying ty = some d) (hd : d.isRow = true) (hi : (P.info? ty).map (·.size) = some cs.length) (h : wpList P ops Q rest (a.put op.dst (.agg cs.toArray)) w) : wpList P ops Q (op :: rest) a w :=
  wpList_load_mid hgd ty x ho g o hx cs d hc hu hd hi h
/-- A struct into a block that is known whole. -/
theorem wpList_store_blk (hgd : op.guard = none) (ty : TypeId) (x y : Operand) (ho : op.op = .store ty x y) (g o : Nat) (pre old post us : List Value) (hx : a.eval x = .pointer (some ⟨g, o, none⟩)) (hy : a.eval y = .agg us.toArray)
    (hb : Blk w g T (pre ++ old ++ post).toArray) (hp : pre.length = o) (hl : old.length = us.length) (hi : (P.info? ty).map (·.size) = some us.length) (h1 : ∀ v ∈ us, v.oneCell' = true)
    (h : ∀ w', Blk w' g T (pre ++ us ++ post).toArray → Upd g w w' → wpList P ops Q rest (a.put op.dst undef) w') : wpList P ops Q (op :: rest) a w := by
  refine wpList_store_mid hgd ty x y ho g o us.toArray hx hy (hb.there (by simp; omega)) (by simpa using hi) (all_oneCell_toArray h1) ?_
  rw [List.toList_toArray]
  exact h _ (blk_setCells us w o pre old post hb hp hl) (upd_setCells g us o w)
end

theorem load_blk (w : World) (g : Nat) (ty : TypeId) (cs : List Value) (d : TypeDesc) {t : TypeId} (hb : Blk w g t cs.toArray) (hu : P.underlying ty = some d) (hd : d.isRow = true) (hi : (P.info? ty).map (·.size) = some cs.length) :
    (loadVar ty ⟨g, 0, none⟩).run P w = .ok (.agg cs.toArray) w :=
  run_loadVar_mid w g 0 ty cs d (hb.range (pre := []) (post := []) (by simp)) hu hd hi

theorem step_store_blk {ops : Array Oper} {op : Oper} {a : Act} {K : Act → World → Prop} {Q : Exit → Act → World → Prop} {E : Prop} (hgd : op.guard = none) (ty : TypeId) (x y : Operand) (ho : op.op = .store ty x y) (g o : Nat) (pre old post us : List Value)
    (hx : a.eval x = .pointer (some ⟨g, o, none⟩)) (hy : a.eval y = .agg us.toArray) (hb : Blk w g T (pre ++ old ++ post).toArray) (hp : pre.length = o) (hl : old.length = us.length) (hi : (P.info? ty).map (·.size) = some us.length) (h1 : ∀ v ∈ us, v.oneCell' = true)
    (h : ∀ w', Blk w' g T (pre ++ us ++ post).toArray → Upd g w w' → K (a.put op.dst undef) w') : if Region.wanted op (yielded ops a.tmps) = true then Oper.wp P op a w K Q else E := by
  have hw : Region.wanted op (yielded ops a.tmps) = true := by simp [Region.wanted, hgd]
  rw [if_pos hw]
  refine wp_store_mid ty x y ho g o us.toArray hx hy (hb.there (by simp; omega)) (by simpa using hi) (all_oneCell_toArray h1) ?_
  rw [List.toList_toArray]
  exact h _ (blk_setCells us w o pre old post hb hp hl) (upd_setCells g us o w)
end
end Go.Proofs.Ytmkbdjekidcfaaa
