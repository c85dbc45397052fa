/- BufferWhole: the plain law, and what stands in memory. -/
import Derived.Test.YtmdcfmdjbncaoaaDoorBy
namespace Go.Proofs.YtmdcfmdjbncaoaaDoor
open Go.RowKit

section
variable {P : Program} {w : World}
theorem step_load_blk {ops : Array Oper} {op : Oper} {a : Act} {K : Act → World → Prop} {Q : Exit → Act → World → Prop} {E : Prop} (hgd : op.guard = none) (ty : TypeId) (x : Operand) (ho : op.op = .load ty x) (g o : Nat) (hx : a.eval x = .pointer (some ⟨g, o, none⟩)) (cs : List Value) (d : TypeDesc)
    (hc : w.rangeAt g o cs) (hu : P.underlying ty = some d) (hd : d.isRow = true) (hi : (P.info? ty).map (·.size) = some cs.length) (h : K (a.put op.dst (.agg cs.toArray)) w) : if Region.wanted op (yielded ops a.tmps) = true then Oper.wp P op a w K Q else E := by
  have hw : Region.wanted op (yielded ops a.tmps) = true := by simp [Region.wanted, hgd]
  rw [if_pos hw]
  exact wp_load_mid ty x ho g o hx cs d hc hu hd hi h
end
/-- A turn: a message that is put, time that passes, a flush. -/
structure TX where
  kind : Int
  m : MX
  n : Int
def IsT (w : World) (S : Nat → Prop) (t : TX) (cs : List Value) : Prop := ∃ ms, IsM w S t.m ms ∧ cs = .int .i64 t.kind :: (ms ++ [.int .i64 t.n])

structure BwL (i : Nat) (a : Int) (put out st : List MX) (since now : Int) : Prop where
  eq : out ++ st = put
  len : (st.length : Int) < a
  s0 : 0 ≤ since
  s1 : since ≤ now
  n1 : now ≤ 8 * i
  n : put.length ≤ i
  small : smallL put
section
variable {i : Nat} {a since now : Int} {put out st : List MX}
theorem BwL.start (ha : 1 ≤ a) : BwL 0 a [] [] [] 0 0 := ⟨rfl, by simp; omega, Int.le_refl _, Int.le_refl _, Int.le_refl _, Nat.le_refl _, fun _ h => absurd h (by simp)⟩
theorem BwL.skip (h : BwL i a put out st since now) : BwL (i + 1) a put out st since now := ⟨h.eq, h.len, h.s0, h.s1, by have := h.n1; omega, by have := h.n; omega, h.small⟩
theorem BwL.st_small (h : BwL i a put out st since now) : smallL st := fun m hm => h.small m (by rw [← h.eq]; exact List.mem_append_right _ hm)
theorem BwL.st_len (h : BwL i a put out st since now) : out.length + st.length = put.length := by rw [← h.eq, List.length_append]
theorem BwL.put_in (h : BwL i a put out st since now) {m : MX} (hm : m.body.size ≤ 4096) : BwL (i + 1) a (put ++ [m]) (out ++ (putBuf st since a now m).2) (putBuf st since a now m).1.1 (putBuf st since a now m).1.2 now := by
  have hs : smallL (put ++ [m]) := fun x hx => (List.mem_append.1 hx).elim (h.small x) (fun e => by rw [List.mem_singleton.1 e]; exact hm)
  have := h.n1
  have := h.n
  have := h.s0
  have := h.s1
  have := h.len
  have h1 := h.eq
  by_cases hc : a ≤ (st.length : Int) + 1
  · rw [putBuf, if_pos hc]
    exact ⟨by rw [← h1]; simp, by simp; omega, Int.le_refl _, by show (0 : Int) ≤ now; omega, by omega, by simp; omega, hs⟩
  · rw [putBuf, if_neg hc]
    refine ⟨by rw [← h1]; simp, by simp; omega, ?_, ?_, by omega, by simp; omega, hs⟩
    · dsimp only; split <;> omega
    · dsimp only; split <;> omega
theorem BwL.flush (h : BwL i a put out st since now) (ha : 1 ≤ a) : BwL (i + 1) a put (out ++ st) [] 0 now :=
  ⟨by rw [← h.eq]; simp, by simp; omega, Int.le_refl _, by have := h.s0; have := h.s1; omega, by have := h.n1; omega, by have := h.n; omega, h.small⟩
theorem BwL.tick (h : BwL i a put out st since now) (ha : 1 ≤ a) {b now' : Int} (h1 : now ≤ now') (h2 : now' ≤ now + 8) : BwL (i + 1) a put (out ++ (tickBuf st since b now').2) (tickBuf st since b now').1.1 (tickBuf st since b now').1.2 now' := by
  have := h.n1
  have := h.n
  have := h.s0
  have := h.s1
  have := h.len
  have h3 := h.eq
  by_cases hc : tickGo st since b now' = true
  · rw [tickBuf, if_pos hc]
    exact ⟨by rw [← h3]; simp, by simp; omega, Int.le_refl _, by show (0 : Int) ≤ now'; omega, by omega, by omega, h.small⟩
  · rw [tickBuf, if_neg hc]
    exact ⟨by rw [← h3]; simp, h.len, h.s0, by show since ≤ now'; omega, by omega, by omega, h.small⟩
/-- The ways of a Tick. -/
theorem tick_ways (st : List MX) (since b now : Int) :
    ((nextB st since b).2 = false ∧ tickBuf st since b now = ((st, since), []) ∧ ¬ (0 < b)) ∨ ((nextB st since b).2 = false ∧ tickBuf st since b now = (([], since), []) ∧ 0 < b) ∨
    ((nextB st since b).2 = true ∧ (nextB st since b).1 ≤ now ∧ tickBuf st since b now = (([], 0), st) ∧ 0 < b ∧ 0 < (st.length : Int)) ∨
    ((nextB st since b).2 = true ∧ ¬ ((nextB st since b).1 ≤ now) ∧ tickBuf st since b now = ((st, since), []) ∧ 0 < b ∧ 0 < (st.length : Int) ∧ now - since < b) := by
  by_cases hb : b ≤ 0
  · have e : nextB st since b = (0, false) := if_pos (.inl hb)
    exact .inl ⟨by rw [e], by rw [tickBuf, if_neg (by rw [tickGo, e]; simp)], by omega⟩
  · by_cases hs : st = []
    · subst hs
      have e : nextB [] since b = (0, false) := if_pos (.inr rfl)
      exact .inr (.inl ⟨by rw [e], by rw [tickBuf, if_neg (by rw [tickGo, e]; simp)], by omega⟩)
    · have e : nextB st since b = (since + b, true) := if_neg (by rintro (h | h); exact hb h; exact hs h)
      have hl : 0 < (st.length : Int) := by have := List.length_pos_iff.2 hs; omega
      by_cases hn : since + b ≤ now
      · exact .inr (.inr (.inl ⟨by rw [e], by rw [e]; exact hn, by rw [tickBuf, if_pos (by rw [tickGo, e]; simpa using hn)], by omega, hl⟩))
      · exact .inr (.inr (.inr ⟨by rw [e], by rw [e]; exact hn, by rw [tickBuf, if_neg (by rw [tickGo, e]; simpa using hn)], by omega, hl, by omega⟩))
end
theorem tick_num {n now : Int} {i : Nat} (h0 : 0 ≤ now) (h1 : now ≤ 8 * i) (hi : i ≤ 60) : now ≤ wrap64 (now + wrap64 ((IntKind.u64.wrap n).tmod 9)) ∧ wrap64 (now + wrap64 ((IntKind.u64.wrap n).tmod 9)) ≤ now + 8 := by
  have hU : 0 ≤ IntKind.u64.wrap n := by rw [IntKind.wrap_u64]; omega
  have h3 := Int.tmod_nonneg 9 hU
  have h2 := Int.tmod_lt_of_pos (IntKind.u64.wrap n) (b := 9) (by omega)
  generalize (IntKind.u64.wrap n).tmod 9 = t at h3 h2
  have e : wrap64 (now + wrap64 t) = now + t := by unfold wrap64; omega
  rw [e]
  omega

/-- What stands in memory between two turns. -/
structure BwM (w : World) (g : Nat) (put out st : List MX) (since : Int) (v8 v9 : Value) (a1 : Option Addr) (c1 : Nat) : Prop where
  blk : Blk w g 24 #[.slice a1 st.length c1, .int .i64 since]
  out_ : ∃ So css, OwnE IsM 30 13 w (g + 1) out v9 So css ∧ ∀ b, So b → v8.ownBlock ≠ some b
  put_ : ∃ css, OwnE IsM 30 13 w 0 put v8 (· < g) css
  ro8 : ∀ b, v8.ownBlock = some b → g < b ∧ v9.ownBlock ≠ some b
  st_ : ∃ Ss, RM w Ss st a1 st.length c1 ∧ ∀ b, Ss b → g < b ∧ b < w.heap.size ∧ v8.ownBlock ≠ some b ∧ v9.ownBlock ≠ some b
section
variable {w w' : World} {g : Nat} {put out st l : List MX} {since : Int} {v8 v9 : Value} {a1 : Option Addr} {c1 : Nat}
theorem BwM.start (h : Blk w g 24 #[.slice none 0 0, .int .i64 0]) : BwM w g [] [] [] 0 (.slice none 0 0) (.slice none 0 0) none 0 :=
  ⟨h, ⟨_, _, OwnE.nil _ _, fun _ h => h.elim⟩, ⟨[], ⟨rfl, World.ownsRow_nil _ _ _ _, fun b hb => ⟨Nat.zero_le _, Nat.lt_trans hb h.lt, fun e => (nomatch e)⟩, fun _ h => absurd h (by simp), fun _ _ h => by simp at h⟩⟩, fun b hb => (nomatch hb), ⟨fun _ => False, RowsOf.nil _ _ (Nat.zero_le _), fun _ h => h.elim⟩⟩
theorem BwM.on (h : BwM w g put out st since v8 v9 a1 c1) (hb : Below w.heap.size w w') : BwM w' g put out st since v8 v9 a1 c1 := by
  obtain ⟨So, css, h1, h2⟩ := h.out_
  obtain ⟨cs, h3⟩ := h.put_
  obtain ⟨Ss, h4, h5⟩ := h.st_
  exact ⟨h.blk.on hb, ⟨So, css, h1.below keepsM hb (Nat.le_refl _), h2⟩, ⟨cs, h3.below keepsM hb (Nat.le_refl _)⟩, h.ro8, ⟨Ss, h4.under hb (fun b hb => (h5 b hb).2.1), fun b hx => ⟨(h5 b hx).1, Nat.lt_of_lt_of_le (h5 b hx).2.1 hb.size, (h5 b hx).2.2⟩⟩⟩
theorem BwM.rx (h : BwM w g put out st since v8 v9 a1 c1) : RX w st a1 st.length c1 := by
  obtain ⟨Ss, h4, h5⟩ := h.st_
  exact RM.mono h4 fun b hb => (h5 b hb).2.1
theorem BwM.lt8 (h : BwM w g put out st since v8 v9 a1 c1) : ∀ b, v8.ownBlock = some b → b < w.heap.size := fun b hb => by
  obtain ⟨cs, h3⟩ := h.put_
  exact (h3.far_lt b hb).2
theorem BwM.lt9 (h : BwM w g put out st since v8 v9 a1 c1) : ∀ b, v9.ownBlock = some b → g < b ∧ b < w.heap.size := fun b hb => by
  obtain ⟨So, css, h1, h2⟩ := h.out_
  exact h1.far_lt b hb
theorem rm_keep {Ss : Nat → Prop} {a : Option Addr} {n c : Nat} (h : RM w Ss l a n c) (hk : ∀ b, Ss b → w'.heap[b]? = w.heap[b]?) : RM w' Ss l a n c :=
  RowsOf.map h (fun _x _cs _ hx => hx.keep (fun _ h => h) fun b hb q => World.cell?_of_block (a := ⟨b, q, none⟩) (hk b hb)) (fun _ h => h) fun b hb q => World.cell?_of_block (a := ⟨b, q, none⟩) (hk b hb)
theorem lt_gr {S S' : Nat → Prop} (e : ∀ b, S b ↔ S' b) {css : List (List Value)} {v : Value} {B : Nat} (h : OwnE IsM 30 13 w B l v S css) : OwnE IsM 30 13 w B l v S' css := by
  have : S = S' := funext fun b => propext (e b)
  rw [← this]; exact h
/-- One more message behind what was put. -/
theorem BwM.add {m : MX} {cs1 : List Value} {css : List (List Value)} {g5 n5 cap5 : Nat} {ob : Obj} (h : BwM w g put out st since v8 v9 a1 c1) (hput : OwnE IsM 30 13 w 0 put v8 (· < g) css) (hx : IsM w (· < g) m cs1)
    (hown : w'.ownsRow 0 30 13 (.slice (some ⟨g5, 0, none⟩) n5 cap5) n5 (css.flatten ++ cs1)) (hn : n5 = put.length + 1) (hgrow : (w.alloc ob).grownBy w' v8.ownBlock) (hat : v8.ownBlock = some g5 ∨ g5 = w.heap.size + 1) :
    BwM w' g (put ++ [m]) out st since (.slice (some ⟨g5, 0, none⟩) n5 cap5) v9 a1 c1 := by
  obtain ⟨So, csso, h1, h2⟩ := h.out_
  obtain ⟨Ss, h4, h5⟩ := h.st_
  have hg := h.blk.lt
  have hsz := hgrow.size
  have hsz2 : w.heap.size + 1 ≤ w'.heap.size := by simpa using hsz
  have hne : ∀ b, b < w.heap.size → v8.ownBlock ≠ some b → (Value.slice (some ⟨g5, 0, none⟩) n5 cap5).ownBlock ≠ some b := fun b hb h3 e => by
    have e2 : g5 = b := by simpa [Value.ownBlock] using e
    subst e2
    rcases hat with h6 | h6
    · exact h3 h6
    · omega
  have hgr : v8.ownBlock ≠ some g := fun e => by have := (h.ro8 g e).1; omega
  refine ⟨(far_block hgrow hg hgr).trans h.blk, ⟨So, csso, h1.aside keepsM hgrow h2 (fun b hb e => (h.ro8 b e).2 hb), fun b hb => hne b (h1.far b hb).2.1 (h2 b hb)⟩, ⟨_, lt_gr (fun b => or_self_iff) (OwnE.snoc keepsM hput hx hx.len (fun b hb => ⟨Nat.zero_le _, Nat.lt_trans hb hg, fun e => by have := (h.ro8 b e).1; omega⟩) hown hn hgrow hat)⟩, fun b hb => ?_, ⟨Ss, rm_keep h4 fun b hb => far_block hgrow (h5 b hb).2.1 (h5 b hb).2.2.1, fun b hb => ⟨(h5 b hb).1, Nat.lt_of_lt_of_le (h5 b hb).2.1 (by omega), hne b (h5 b hb).2.1 (h5 b hb).2.2.1, (h5 b hb).2.2.2⟩⟩⟩
  have e2 : g5 = b := by simpa [Value.ownBlock] using hb
  subst e2
  rcases hat with h6 | h6
  · exact h.ro8 g5 h6
  · exact ⟨by omega, fun e => by have := (h.lt9 g5 e).2; omega⟩
/-- Another buffer in the box. -/
theorem BwM.box {st' : List MX} {since' : Int} {a2 : Option Addr} {c2 B : Nat} (h : BwM w g put out st since v8 v9 a1 c1) (U : Upd g w w') (hb : Blk w' g 24 #[.slice a2 st'.length c2, .int .i64 since']) (hrow : OwnM w B st' (.slice a2 st'.length c2))
    (hB : g < B) (h8 : ∀ b, v8.ownBlock = some b → b < B) (h9 : ∀ b, v9.ownBlock = some b → b < B) : BwM w' g put out st' since' v8 v9 a2 c2 := by
  obtain ⟨So, csso, h1, h2⟩ := h.out_
  obtain ⟨cs, h3⟩ := h.put_
  have hsz : w.heap.size ≤ w'.heap.size := by rw [U.size]; exact Nat.le_refl _
  refine ⟨hb, ⟨So, csso, h1.keep keepsM hsz fun b hb => U.far b ?_, h2⟩, ⟨cs, h3.keep keepsM hsz fun b hb => U.far b ?_⟩, h.ro8, ⟨_, rm_keep hrow.rows fun b hb => U.far b ?_, fun b hb => ⟨?_, ?_, ?_, ?_⟩⟩⟩
  · rcases hb with hb | hb
    · have := (h1.far b hb).1; omega
    · have := (h1.far_lt b hb).1; omega
  · rcases hb with hb | hb
    · omega
    · have := (h.ro8 b hb).1; omega
  · have := hb.1; omega
  · have := hb.1; omega
  · rw [U.size]; exact hb.2
  · intro e; have := h8 b e; have := hb.1; omega
  · intro e; have := h9 b e; have := hb.1; omega
/-- What came out, behind what came out before. -/
theorem BwM.more {v9' u : Value} {B : Nat} {S2 So : Nat → Prop} {css css2 : List (List Value)} (h : BwM w g put out st since v8 v9 a1 c1) (h1 : OwnE IsM 30 13 w (g + 1) out v9 So css) (h2 : ∀ b, So b → v8.ownBlock ≠ some b) (hl : OwnE IsM 30 13 w B l u S2 css2)
    (hB : g < B) (h8 : ∀ b, v8.ownBlock = some b → b < B) (h9 : ∀ b, v9.ownBlock = some b → b < B)
    (hown : w'.ownsRow (g + 1) 30 13 v9' (out.length + l.length) (css.flatten ++ css2.flatten)) (hgrow : w.grownBy w' v9.ownBlock) (hat : v9'.ownBlock = v9.ownBlock ∨ v9'.ownBlock = some w.heap.size) :
    BwM w' g put (out ++ l) st since v8 v9' a1 c1 := by
  obtain ⟨cs, h3⟩ := h.put_
  obtain ⟨Ss, h4, h5⟩ := h.st_
  have hg := h.blk.lt
  have hsz := hgrow.size
  have hne : ∀ b, b < w.heap.size → v9.ownBlock ≠ some b → v9'.ownBlock ≠ some b := fun b hb h3 e => by
    rcases hat with h6 | h6
    · rw [h6] at e; exact h3 e
    · rw [h6] at e; injection e with e; omega
  have hgr : v9.ownBlock ≠ some g := fun e => by have := (h.lt9 g e).1; omega
  have hS2 : ∀ b, S2 b → B ≤ b := fun b hb => (hl.far b hb).1
  refine ⟨(stay_block hgrow hg hgr).trans h.blk, ⟨_, _, OwnE.more h1 hl (fun b hb => ⟨by have := hS2 b hb; omega, fun e => by have := h9 b e; have := hS2 b hb; omega⟩) hown hgrow hat, fun b hb => ?_⟩, ⟨cs, h3.keep keepsM hsz fun b hb => ?_⟩, fun b hb => ⟨(h.ro8 b hb).1, hne b (h.lt8 b hb) (h.ro8 b hb).2⟩, ⟨Ss, rm_keep h4 fun b hb => stay_block hgrow (h5 b hb).2.1 (h5 b hb).2.2.2, fun b hb => ⟨(h5 b hb).1, by have := (h5 b hb).2.1; omega, (h5 b hb).2.2.1, hne b (h5 b hb).2.1 (h5 b hb).2.2.2⟩⟩⟩
  · rcases hb with hb | hb
    · exact h2 b hb
    · intro e; have := h8 b e; have := hS2 b hb; omega
  · rcases hb with hb | hb
    · have hb' : b < g := hb
      exact stay_block hgrow (by omega) (fun e => by have := (h.lt9 b e).1; omega)
    · exact stay_block hgrow (h.lt8 b hb) (h.ro8 b hb).2
end
end Go.Proofs.YtmdcfmdjbncaoaaDoor
