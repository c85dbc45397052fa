/- A row of messages behind a row of messages. -/
import Derived.Test.YtmdcfmdjbncaoaaDoorBa
import Derived.Maps.AppendAt
namespace Go.Proofs.YtmdcfmdjbncaoaaDoor
open Go.RowKit

section
variable {P : Program} {w : World}
theorem run_append_lie (base : Nat) (t ty e : TypeId) (i : TypeInfo) (z : Value) (size bytes : Nat) (ht : P.underlying t = some (.slice e)) (hi : P.info? e = some i) (hz : i.zero = some z)
    (hsize : i.size = size) (hby : i.bytes = bytes) (hzs : z.cells.size = size) (hsz : 0 < size)
    (v : Value) (n : Nat) (xs : List Value) (hown : w.ownsRow base e size v n xs)
    (ax : Option Addr) (m c : Nat) (news : List Value) (hax : 0 < m → ax.isSome = true) (hl : news.length = m * size) (hnews : ∀ ad, ax = some ad → ∀ j u, news[j]? = some u → w.cell? (ad.add j) = some u) (h1 : ∀ u ∈ news, u.oneCell' = true)
    (h63 : n + m ≤ maxLen) (hbytes : (n + m) * bytes ≤ 140737488355328) (hbase : base ≤ w.heap.size) :
    ∃ v' w', (Builtin.append_ #[t, t] ty #[v, .slice ax m c]).run P w = .ok v' w' ∧ w'.ownsRow base e size v' (n + m) (xs ++ news) ∧ w.grownBy w' v.ownBlock ∧ (v'.ownBlock = v.ownBlock ∨ v'.ownBlock = some w.heap.size) := by
  cases ax with
  | some ad =>
    obtain ⟨v', w', h1, h2, h3, _, h5⟩ := run_append_own_at (P := P) (w := w) base t ty e i z size bytes ht hi hz hsize hby hzs hsz v n xs hown ad m c news hl (hnews ad rfl) h1 h63 hbytes hbase
    exact ⟨v', w', h1, h2, h3, h5⟩
  | none =>
    have hm : m = 0 := by
      rcases Nat.eq_zero_or_pos m with h | h
      · exact h
      · exact absurd (hax h) (by simp)
    subst hm
    have hn : news = [] := List.eq_nil_of_length_eq_zero (by simpa using hl)
    subst hn
    refine ⟨v, w, ?_, by simpa using hown, ⟨rfl, rfl, rfl, Nat.le_refl _, fun _ _ _ => rfl⟩, .inl rfl⟩
    rcases hown.2 with ⟨rfl, rfl⟩ | ⟨g, cap, cur, rfl, hbg, hg, hnc, hcm, hcs, htake⟩
    · simp [Builtin.append_, run_underlying ht, sizeOf, typeInfo, hi, Builtin.lenOf, Builtin.firstCells]
    · simp [Builtin.append_, run_underlying ht, sizeOf, typeInfo, hi, Builtin.lenOf, Builtin.firstCells, loadCells, hnc, storeCells]
theorem wpList_append_lie {ops : Array Oper} {rest : List Oper} {o : Oper} {a : Act} {Q : Exit → Act → World → Prop} (hgd : o.guard = none) (s x : Operand) (t : TypeId)
    (ho : o.op = .call { callee := .builtin .append, args := #[s, x], argTypes := #[t, t] })
    (base : Nat) (e : TypeId) (i : TypeInfo) (z : Value) (size bytes : Nat) (ht : P.underlying t = some (.slice e)) (hi : P.info? e = some i) (hz : i.zero = some z)
    (hsize : i.size = size) (hby : i.bytes = bytes) (hzs : z.cells.size = size) (hsz : 0 < size)
    (v : Value) (n : Nat) (xs : List Value) (hs : a.eval s = v) (hown : w.ownsRow base e size v n xs)
    (ax : Option Addr) (m c : Nat) (news : List Value) (hx : a.eval x = .slice ax m c) (hax : 0 < m → ax.isSome = true) (hl : news.length = m * size) (hnews : ∀ ad, ax = some ad → ∀ j u, news[j]? = some u → w.cell? (ad.add j) = some u) (h1 : ∀ u ∈ news, u.oneCell' = true)
    (h63 : n + m ≤ maxLen) (hbytes : (n + m) * bytes ≤ 140737488355328) (hbase : base ≤ w.heap.size)
    (h : ∀ v' w', w'.ownsRow base e size v' (n + m) (xs ++ news) → w.grownBy w' v.ownBlock → (v'.ownBlock = v.ownBlock ∨ v'.ownBlock = some w.heap.size) → wpList P ops Q rest (a.put o.dst v') w') : wpList P ops Q (o :: rest) a w := by
  refine wpList_plain hgd fun _ hK => ?_
  obtain ⟨v', w', hr, h2, h3, h4⟩ := run_append_lie (P := P) (w := w) base t o.type e i z size bytes ht hi hz hsize hby hzs hsz v n xs hown ax m c news hax hl hnews h1 h63 hbytes hbase
  unfold Oper.wp execOp
  simp only [ho, resolve, invoke, builtin, Sem.run_bind, Sem.run_pure, Result.andThen_ok, List.map_toArray, List.map_cons, List.map_nil, hs, hx, hr]
  exact hK _ _ (h v' w' h2 h3 h4)
end

theorem stay_block {w w' : World} {row : Option Nat} (hg : w.grownBy w' row) {b : Nat} (h1 : b < w.heap.size) (h2 : row ≠ some b) : w'.heap[b]? = w.heap[b]? := hg.block b h1 (fun e => h2 e.symm)
/-- The messages of a row behind those of a row of the call's own. -/
theorem OwnE.more {w w' : World} {B : Nat} {l l2 : List MX} {v v' u : Value} {S S2 : Nat → Prop} {css css2 : List (List Value)} {B2 : Nat} (h : OwnE IsM 30 13 w B l v S css) (h2 : OwnE IsM 30 13 w B2 l2 u S2 css2)
    (hS2 : ∀ b, S2 b → B ≤ b ∧ v.ownBlock ≠ some b) (hown : w'.ownsRow B 30 13 v' (l.length + l2.length) (css.flatten ++ css2.flatten)) (hgrow : w.grownBy w' v.ownBlock) (hat : v'.ownBlock = v.ownBlock ∨ v'.ownBlock = some w.heap.size) :
    OwnE IsM 30 13 w' B (l ++ l2) v' (fun b => S b ∨ S2 b) (css ++ css2) := by
  have hnb : ∀ b, b < w.heap.size → v.ownBlock ≠ some b → v'.ownBlock ≠ some b := fun b h1 h3 => by
    rcases hat with e | e
    · rw [e]; exact h3
    · rw [e]; intro e2; injection e2 with e2; omega
  have hk : ∀ b, b < w.heap.size → v.ownBlock ≠ some b → ∀ q, w'.cell? ⟨b, q, none⟩ = w.cell? ⟨b, q, none⟩ := fun b h1 h3 q => World.cell?_of_block (a := ⟨b, q, none⟩) (stay_block hgrow h1 h3)
  have hsz := hgrow.size
  refine ⟨by simp [h.len, h2.len], by rw [List.flatten_append, List.length_append]; exact hown, fun b hb => ?_, fun cs hc => ?_, fun j x hx => ?_⟩
  · rcases hb with hb | hb
    · obtain ⟨h3, h4, h5⟩ := h.far b hb
      exact ⟨h3, by omega, hnb b h4 h5⟩
    · have h4 := (h2.far b hb).2.1
      obtain ⟨h3, h5⟩ := hS2 b hb
      exact ⟨h3, by omega, hnb b h4 h5⟩
  · rcases List.mem_append.1 hc with hc | hc
    · exact h.wide cs hc
    · exact h2.wide cs hc
  · rcases Nat.lt_or_ge j l.length with hj | hj
    · rw [List.getElem?_append_left hj] at hx
      obtain ⟨cs, h3, h4⟩ := h.at_ j x hx
      exact ⟨cs, by rw [List.getElem?_append_left (by rw [h.len]; exact hj)]; exact h3, keepsM w w' S _ x cs (fun b hb => .inl hb) (fun b hb q => hk b (h.far b hb).2.1 (h.far b hb).2.2 q) h4⟩
    · rw [List.getElem?_append_right hj] at hx
      obtain ⟨cs, h3, h4⟩ := h2.at_ _ x hx
      exact ⟨cs, by rw [List.getElem?_append_right (by rw [h.len]; exact hj), h.len]; exact h3, keepsM w w' S2 _ x cs (fun b hb => .inr hb) (fun b hb q => hk b (h2.far b hb).2.1 (hS2 b hb).2 q) h4⟩
/-- Where the cells of a row of the call's own lie. -/
theorem OwnE.src {w : World} {B : Nat} {l : List MX} {ax : Option Addr} {n c : Nat} {S : Nat → Prop} {css : List (List Value)} (h : OwnE IsM 30 13 w B l (.slice ax n c) S css) :
    (0 < l.length → ax.isSome = true) ∧ css.flatten.length = l.length * 13 ∧ (∀ ad, ax = some ad → ∀ j u, css.flatten[j]? = some u → w.cell? (ad.add j) = some u) ∧ ∀ u ∈ css.flatten, u.oneCell' = true := by
  refine ⟨fun h0 => ?_, h.row.1, fun ad e j u hu => ?_, fun u hu => ?_⟩
  · obtain ⟨g, cap, hv, -⟩ := h.row.form h0
    injection hv with hv
    rw [hv]; rfl
  · subst e
    rcases h.row.2 with ⟨hv, -⟩ | ⟨g, cap, cur, hv, -⟩
    · injection hv with hv; cases hv
    · injection hv with hv hn hc
      injection hv with hv
      subst hv hn hc
      exact h.row.cells (g := g) rfl j u hu
  · obtain ⟨cs, hc, hu⟩ := List.mem_flatten.1 hu
    obtain ⟨j, hj⟩ := List.mem_iff_getElem?.1 hc
    have hlt : j < l.length := by rw [← h.len]; exact (List.getElem?_eq_some_iff.1 hj).1
    obtain ⟨cs', h1, h2⟩ := h.at_ j _ (List.getElem?_eq_getElem hlt)
    rw [hj] at h1
    injection h1 with h1
    subst h1
    exact h2.one u hu
end Go.Proofs.YtmdcfmdjbncaoaaDoor
