/- A queue in memory; what can be reached: the plain law of the search. -/
import Derived.Test.YtmkbdjekidcfaaaFewer
import Derived.Deep.AppendLies
namespace Go.Proofs.Ytmkbdjekidcfaaa
open Go.RowKit

/-- A way of one step or more. -/
inductive Reach (rows : List (List Int)) (i : Nat) : Nat → Prop where
  | one {k : Nat} : nd rows i k = true → Reach rows i k
  | step {j k : Nat} : Reach rows i j → nd rows j k = true → Reach rows i k

theorem nd_lt {rows : List (List Int)} {i k : Nat} (h : nd rows i k = true) : k < rows.length := by unfold nd at h; simp at h; exact h.1.1

/-- The search, at the head of its loop: L is marked, W waits. -/
structure BI (rows : List (List Int)) (i : Nat) (L W : List Nat) : Prop where
  nodup : L.Nodup
  lt : ∀ k ∈ L, k < rows.length
  sound : ∀ k ∈ L, Reach rows i k
  wait : ∀ x ∈ W, x = i ∨ x ∈ L
  closed : ∀ x, (x = i ∨ x ∈ L) → x ∈ W ∨ ∀ k : Nat, nd rows x k = true → k ∈ L

/-- The search, in the row of x, behind m of its numbers. -/
structure BJ (rows : List (List Int)) (i x m : Nat) (L W : List Nat) : Prop where
  nodup : L.Nodup
  lt : ∀ k ∈ L, k < rows.length
  sound : ∀ k ∈ L, Reach rows i k
  wait : ∀ y ∈ W, y = i ∨ y ∈ L
  closed : ∀ y, (y = i ∨ y ∈ L) → y ∈ W ∨ y = x ∨ ∀ k : Nat, nd rows y k = true → k ∈ L
  row : ∀ k : Nat, k < rows.length → k ≠ x → (k : Int) ∈ (rowOf rows x).take m → k ∈ L
  here : x = i ∨ x ∈ L

theorem BI.pop {rows : List (List Int)} {i x : Nat} {L W : List Nat} (h : BI rows i L (x :: W)) : BJ rows i x 0 L W := by
  refine ⟨h.nodup, h.lt, h.sound, fun y hy => h.wait y (by simp [hy]), fun y hy => ?_, fun k _ _ hk => by simp at hk, h.wait x (by simp)⟩
  rcases h.closed y hy with h1 | h1
  · rcases List.mem_cons.1 h1 with h2 | h2
    · exact Or.inr (Or.inl h2)
    · exact Or.inl h2
  · exact Or.inr (Or.inr h1)

theorem mem_take_succ {l : List Int} {m : Nat} (hm : m < l.length) (q : Int) : q ∈ l.take (m + 1) ↔ q ∈ l.take m ∨ q = l.getD m 0 := by
  rw [List.take_succ_eq_append_getElem hm, List.getD_eq_getElem?_getD, List.getElem?_eq_getElem hm]
  simp only [List.mem_append, List.mem_singleton, Option.getD_some]

theorem BJ.mark {rows : List (List Int)} {i x m k : Nat} {L W : List Nat} (h : BJ rows i x m L W) (hm : m < (rowOf rows x).length) (hk : (rowOf rows x).getD m 0 = (k : Int)) (hlt : k < rows.length) (hne : k ≠ x) (hni : k ∉ L) :
    BJ rows i x (m + 1) (L ++ [k]) (W ++ [k]) := by
  have hnd : nd rows x k = true := by
    unfold nd
    have hc : (rowOf rows x).contains (k : Int) = true := by
      have : (k : Int) ∈ rowOf rows x := by
        rw [← hk, List.getD_eq_getElem?_getD, List.getElem?_eq_getElem hm]
        exact List.getElem_mem _
      simpa using this
    rw [hc]
    simp
    omega
  refine ⟨?_, ?_, ?_, ?_, ?_, ?_, ?_⟩
  · rw [List.nodup_append]
    exact ⟨h.nodup, by simp, fun a ha b hb => by simp at hb; subst hb; exact fun e => hni (e ▸ ha)⟩
  · intro y hy
    simp only [List.mem_append, List.mem_singleton] at hy
    rcases hy with hy | rfl
    · exact h.lt y hy
    · exact hlt
  · intro y hy
    simp only [List.mem_append, List.mem_singleton] at hy
    rcases hy with hy | rfl
    · exact h.sound y hy
    · rcases h.here with e | e
      · subst e; exact Reach.one hnd
      · exact Reach.step (h.sound x e) hnd
  · intro y hy
    simp only [List.mem_append, List.mem_singleton] at hy ⊢
    rcases hy with hy | rfl
    · rcases h.wait y hy with h1 | h1
      · exact Or.inl h1
      · exact Or.inr (Or.inl h1)
    · exact Or.inr (Or.inr rfl)
  · intro y hy
    simp only [List.mem_append, List.mem_singleton] at hy ⊢
    rcases hy with hy | hy | hy
    · rcases h.closed y (Or.inl hy) with h1 | h1 | h1
      · exact Or.inl (Or.inl h1)
      · exact Or.inr (Or.inl h1)
      · exact Or.inr (Or.inr fun k hk => Or.inl (h1 k hk))
    · rcases h.closed y (Or.inr hy) with h1 | h1 | h1
      · exact Or.inl (Or.inl h1)
      · exact Or.inr (Or.inl h1)
      · exact Or.inr (Or.inr fun k hk => Or.inl (h1 k hk))
    · exact Or.inl (Or.inr hy)
  · intro q hq hqx hqm
    rw [mem_take_succ hm] at hqm
    simp only [List.mem_append, List.mem_singleton]
    rcases hqm with hqm | hqm
    · exact Or.inl (h.row q hq hqx hqm)
    · rw [hk] at hqm; exact Or.inr (by omega)
  · rcases h.here with e | e
    · exact Or.inl e
    · exact Or.inr (by simp [e])

theorem BJ.skip {rows : List (List Int)} {i x m : Nat} {L W : List Nat} (h : BJ rows i x m L W) (hm : m < (rowOf rows x).length) (hq : ∀ k : Nat, (rowOf rows x).getD m 0 = (k : Int) → k < rows.length → k ≠ x → k ∈ L) : BJ rows i x (m + 1) L W := by
  refine ⟨h.nodup, h.lt, h.sound, h.wait, h.closed, fun k hk hne hkm => ?_, h.here⟩
  rw [mem_take_succ hm] at hkm
  rcases hkm with h1 | h1
  · exact h.row k hk hne h1
  · exact hq k h1.symm hk hne

theorem BJ.done {rows : List (List Int)} {i x m : Nat} {L W : List Nat} (h : BJ rows i x m L W) (hm : (rowOf rows x).length ≤ m) : BI rows i L W := by
  refine ⟨h.nodup, h.lt, h.sound, h.wait, fun y hy => ?_⟩
  rcases h.closed y hy with h1 | h1 | h1
  · exact Or.inl h1
  · subst h1
    refine Or.inr fun k hk => ?_
    have hlt := nd_lt hk
    unfold nd at hk
    simp at hk
    refine h.row k hlt ?_ ?_
    · have := hk.1.2; omega
    · rw [List.take_of_length_le hm]; exact hk.2
  · exact Or.inr h1

theorem BI.start (rows : List (List Int)) (i : Nat) : BI rows i [] [i] :=
  ⟨List.nodup_nil, by simp, by simp, by simp, fun x hx => by simp at hx; exact Or.inl (by simp [hx])⟩

theorem BI.end {rows : List (List Int)} {i : Nat} {L : List Nat} (h : BI rows i L []) (k : Nat) : k ∈ L ↔ Reach rows i k := by
  refine ⟨h.sound k, fun hr => ?_⟩
  induction hr with
  | one h1 =>
    rcases h.closed i (Or.inl rfl) with h2 | h2
    · simp at h2
    · exact h2 _ h1
  | step _ h1 ih =>
    rcases h.closed _ (Or.inr ih) with h2 | h2
    · simp at h2
    · exact h2 _ h1

/-- A slice that leads into the midst of a block of the call's own. -/
def TailAt (w : World) (B E : Nat) (v : Value) (n : Nat) (xs : List Value) : Prop :=
  xs.length = n ∧ ∃ g o cap cur, v = .slice (some ⟨g, o, none⟩) n cap ∧ B ≤ g ∧ w.heap[g]? = some (.cells cur E (0, 0)) ∧ n ≤ cap ∧ cap ≤ maxLen ∧ o + cap ≤ cur.size ∧ (cur.toList.drop o).take n = xs

theorem TailAt.at {w : World} {B E : Nat} {v : Value} {n : Nat} {xs : List Value} (h : TailAt w B E v n xs) {j : Nat} (hj : j < n) :
    ∃ g o cap, v = .slice (some ⟨g, o, none⟩) n cap ∧ w.cell? ⟨g, o + j, none⟩ = xs[j]? ∧ n ≤ cap ∧ cap ≤ maxLen := by
  obtain ⟨hl, g, o, cap, cur, rfl, hB, hh, hn, hm, hs, ht⟩ := h
  refine ⟨g, o, cap, rfl, ?_, hn, hm⟩
  rw [← ht, List.getElem?_take, if_pos hj, List.getElem?_drop]
  simp [World.cell?, hh]
theorem TailAt.of_block {w w' : World} {B E : Nat} {v : Value} {n : Nat} {xs : List Value} (h : TailAt w B E v n xs) (hb : ∀ g, v.ownBlock = some g → w'.heap[g]? = w.heap[g]?) : TailAt w' B E v n xs := by
  obtain ⟨hl, g, o, cap, cur, rfl, hB, hh, rest⟩ := h
  exact ⟨hl, g, o, cap, cur, rfl, hB, (hb g rfl).trans hh, rest⟩
theorem TailAt.lt {w : World} {B E : Nat} {v : Value} {n : Nat} {xs : List Value} (h : TailAt w B E v n xs) : ∀ g, v.ownBlock = some g → B ≤ g ∧ g < w.heap.size := by
  obtain ⟨hl, g, o, cap, cur, rfl, hB, hh, _⟩ := h
  intro g' hg'
  simp [Value.ownBlock] at hg'
  subst hg'
  exact ⟨hB, (Array.getElem?_eq_some_iff.1 hh).1⟩

section
variable {P : Program} (w : World)
/-- 'append' of one element to such a slice. -/
theorem run_append_tail (t ty : TypeId) (B : Nat) (e : TypeId) (i : TypeInfo) (z : Value) (bytes : Nat) (ht : P.underlying t = some (.slice e)) (hi : P.info? e = some i) (hz : i.zero = some z)
    (hsize : i.size = 1) (hby : i.bytes = bytes) (hzs : z.cells.size = 1) (v : Value) (n : Nat) (xs : List Value) (hown : TailAt w B e v n xs)
    (a : Addr) (c : Nat) (x : Value) (hnews : ∀ j u, [x][j]? = some u → w.cell? (a.add j) = some u) (h1 : x.oneCell' = true) (h63 : n + 1 ≤ maxLen) (hbytes : (n + 1) * bytes ≤ 140737488355328) (hB : B ≤ w.heap.size) :
    ∃ g o cap w', (Builtin.append_ #[t, t] ty #[v, .slice (some a) 1 c]).run P w = .ok (.slice (some ⟨g, o, none⟩) (n + 1) cap) w' ∧ TailAt w' B e (.slice (some ⟨g, o, none⟩) (n + 1) cap) (n + 1) (xs ++ [x]) ∧ w.grownBy w' v.ownBlock ∧
      (v.ownBlock = some g ∨ g = w.heap.size) := by
  have hxs := hown.1
  obtain ⟨hl, g, o, cap, cur, rfl, hBg, hh, hn, hm, hs, htk⟩ := hown
  have hlx : (xs ++ [x]).length = n + 1 := by simp [hl]
  by_cases hroom : n + 1 ≤ cap
  · have hf := run_firstCells_some (P := P) w i.size 1 a 1 c [x] (by simp [hsize]) hnews
    have hst := run_storeCells_at P g (o + n) e [x] 0 cur w hh (by simp; omega) (by simpa using h1)
    simp only [Nat.add_zero] at hst
    refine ⟨g, o, cap, w.setRow g (cur.toList.take (o + n) ++ [x] ++ cur.toList.drop (o + n + 1)).toArray, ?_, ⟨hlx, g, o, cap, (cur.toList.take (o + n) ++ [x] ++ cur.toList.drop (o + n + 1)).toArray, rfl, hBg, setRow_heap w g cur _ e _ hh, hroom, hm, ?_, ?_⟩, ⟨rfl, rfl, rfl, by simp [World.setRow], fun k _ hk => setRow_other w g k _ (fun e => hk (by simp [Value.ownBlock, e]))⟩, Or.inl rfl⟩
    · rw [hsize] at hf
      simp [Builtin.append_, run_underlying ht, sizeOf, typeInfo, hi, Builtin.lenOf, hroom, hf, hsize, Addr.add_lit, hst]
    · simp only [List.size_toArray, List.length_append, List.length_take, List.length_drop, Array.length_toList, List.length_cons, List.length_nil]
      omega
    · simp only [List.append_assoc]
      have hlt : (cur.toList.take (o + n)).length = o + n := by rw [List.length_take]; simp; omega
      rw [List.drop_append_of_le_length (by omega)]
      have e1 : (cur.toList.take (o + n)).drop o = xs := by rw [← htk, List.drop_take]; congr 1; omega
      rw [e1, ← hlx, ← List.append_assoc]
      exact List.take_left
  · have holds : ∀ j u, xs[j]? = some u → w.cell? ((⟨g, o, none⟩ : Addr).add j) = some u := by
      intro j u hu
      rw [Addr.add_lit]
      have hj : j < n := by rw [← hl]; exact (List.getElem?_eq_some_iff.1 hu).1
      rw [← htk, List.getElem?_take, if_pos hj, List.getElem?_drop] at hu
      simpa [World.cell?, hh] using hu
    have hsmall : n + 1 ≤ 9223372036854775807 := by simp only [maxLen] at h63; omega
    have hr := run_append_grow (P := P) w t ty e i z ht hi hz ⟨g, o, none⟩ n cap xs (by rw [hsize]; simpa using hl) holds a 1 c [x] (by simp [hsize]) hnews (by omega) (by omega) (growslice_fits (by omega) (by rw [hby]; exact hbytes))
    have hge := grownCap_ge w (n + 1) cap e
    have hcm : grownCap w (n + 1) cap e ≤ maxLen := grownCap_le_maxLen w (n + 1) cap e h63
    refine ⟨w.heap.size, 0, _, _, hr, ⟨hlx, w.heap.size, 0, _, _, rfl, hB, alloc_new (w := w.drew) rfl, hge, hcm, ?_, ?_⟩, ⟨rfl, rfl, rfl, by simp, fun k hk _ => alloc_old (w := w.drew) hk⟩, Or.inr rfl⟩
    · simp only [Array.size_append, List.size_toArray, size_zeroCells, hzs, hl, List.length_cons, List.length_nil]
      omega
    · simp only [Array.toList_append, List.drop_zero]
      rw [← hlx]
      exact List.take_left

theorem wpList_append_tail {ops : Array Oper} {rest : List Oper} {o : Oper} {a : Act} {Q : Exit → Act → World → Prop} (hgd : o.guard = none) (s x : Operand) (t : TypeId)
    (ho : o.op = .call { callee := .builtin .append, args := #[s, x], argTypes := #[t, t] })
    (B : Nat) (e : TypeId) (i : TypeInfo) (z : Value) (bytes : Nat) (ht : P.underlying t = some (.slice e)) (hi : P.info? e = some i) (hz : i.zero = some z)
    (hsize : i.size = 1) (hby : i.bytes = bytes) (hzs : z.cells.size = 1) (v : Value) (n : Nat) (xs : List Value) (hs : a.eval s = v) (hown : TailAt w B e v n xs)
    (ad : Addr) (c : Nat) (u : Value) (hx : a.eval x = .slice (some ad) 1 c) (hnews : ∀ j y, [u][j]? = some y → w.cell? (ad.add j) = some y) (h1 : u.oneCell' = true) (h63 : n + 1 ≤ maxLen) (hbytes : (n + 1) * bytes ≤ 140737488355328) (hB : B ≤ w.heap.size)
    (h : ∀ g off cap w', TailAt w' B e (.slice (some ⟨g, off, none⟩) (n + 1) cap) (n + 1) (xs ++ [u]) → w.grownBy w' v.ownBlock → (v.ownBlock = some g ∨ g = w.heap.size) → wpList P ops Q rest (a.put o.dst (.slice (some ⟨g, off, none⟩) (n + 1) cap)) w') : wpList P ops Q (o :: rest) a w := by
  refine wpList_plain hgd fun _ hK => ?_
  obtain ⟨g, off, cap, w', hr, h2, h3, h4⟩ := run_append_tail (P := P) w t o.type B e i z bytes ht hi hz hsize hby hzs v n xs hown ad c u hnews h1 h63 hbytes hB
  unfold Oper.wp execOp
  simp only [ho, resolve, invoke, builtin, Sem.run_bind, Sem.run_pure, Result.andThen_ok, List.map_toArray, List.map_cons, List.map_nil, hs, hx, hr]
  exact hK _ _ (h g off cap w' h2 h3 h4)
end

end Go.Proofs.Ytmkbdjekidcfaaa
