/- The walk of ShownThrough. -/
import Derived.Test.YtlnlefebcfnocaaYx
import Derived.Test.YtlnlefebcfnocaaYt
namespace Go.Proofs.Ytlnlefebcfnocaa
open Go.RowKit Go.Deep
attribute [local go_sem] Go.undef

section
variable {P : Program} (w : World)
theorem step_append_any {ops : Array Oper} {o : Oper} {a : Act} {K : Act → World → Prop} {Q : Exit → Act → World → Prop} {E : Prop} (hgd : o.guard = none) (s x : Operand) (t : TypeId)
    (ho : o.op = .call { callee := .builtin .append, args := #[s, x], argTypes := #[t, t] })
    (base : Nat) (e : TypeId) (i : TypeInfo) (z : Value) (size bytes : Nat) (ht : P.underlying t = some (.slice e)) (hi : P.info? e = some i) (hz : i.zero = some z)
    (hsize : i.size = size) (hby : i.bytes = bytes) (hzs : z.cells.size = size) (hsz : 0 < size)
    (v : Value) (n : Nat) (xs : List Value) (hs : a.eval s = v) (hown : w.ownsRow base e size v n xs)
    (ax : Option Addr) (m c : Nat) (news : List Value) (hx : a.eval x = .slice ax m c) (hax : 0 < m → ax.isSome = true) (hl : news.length = m * size) (hnews : ∀ ad, ax = some ad → ∀ j u, news[j]? = some u → w.cell? (ad.add j) = some u) (h1 : ∀ u ∈ news, u.oneCell' = true)
    (h63 : n + m ≤ maxLen) (hbytes : ((n + m) + (n + m) / 4 + 192) * bytes ≤ 281474976710656) (hbase : base ≤ w.heap.size)
    (h : ∀ v' w', w'.ownsRow base e size v' (n + m) (xs ++ news) → w.grownBy w' v.ownBlock → K (a.put o.dst v') w') : if Region.wanted o (yielded ops a.tmps) = true then Oper.wp P o a w K Q else E := by
  have hw : Region.wanted o (yielded ops a.tmps) = true := by simp [Region.wanted, hgd]
  rw [if_pos hw]
  exact wp_append_any w s x t ho base e i z size bytes ht hi hz hsize hby hzs hsz v n xs hs hown ax m c news hx hax hl hnews h1 h63 hbytes hbase h
end

theorem Wraps.take {w : World} {S : Nat → Prop} {ws : List (WX × Value)} {a : Option Addr} {n d k : Nat} (h : Wraps w S ws a n d) (hk : k ≤ n) : Wraps w S (ws.take k) a k d := by
  obtain ⟨h1, h2, h3, h4⟩ := h
  refine ⟨by rw [List.length_take]; omega, by omega, h3, fun h0 => ?_⟩
  obtain ⟨g, o, ha, hg, hj⟩ := h4 (by omega)
  refine ⟨g, o, ha, hg, fun j x hx => hj j x ?_⟩
  rw [List.getElem?_take] at hx
  split at hx
  · exact hx
  · cases hx
theorem Wraps.drop {w : World} {S : Nat → Prop} {ws : List (WX × Value)} {g o : Nat} {n d k : Nat} (h : Wraps w S ws (some ⟨g, o, none⟩) n d) (hk : k ≤ n) : Wraps w S (ws.drop k) (some ⟨g, o + k * 8, none⟩) (n - k) (d - k) := by
  obtain ⟨h1, h2, h3, h4⟩ := h
  refine ⟨by rw [List.length_drop, h1], by omega, by omega, fun h0 => ?_⟩
  obtain ⟨g', o', ha, hg, hj⟩ := h4 (by omega)
  injection ha with ha
  injection ha with ha1 ha2
  subst ha1 ha2
  refine ⟨g, o + k * 8, rfl, hg, fun j x hx => ?_⟩
  rw [List.getElem?_drop] at hx
  obtain ⟨cs, c1, c2, c3⟩ := hj (k + j) x hx
  refine ⟨cs, c1, c2, ?_⟩
  rw [show o + k * 8 + j * 8 = o + (k + j) * 8 by rw [Nat.add_mul]; omega]
  exact c3
/-- The chain that is built, in block D; its wrappers in memory of the call's own. -/
def AW (w : World) (D : Nat) (op num : Int) (c : Nat) (s : Value) (xs : List (WX × Value)) (v : Value) (n : Nat) (W : World) : Prop :=
  w.heap.size < D ∧ Blk W w.heap.size 28 #[.int .i64 op, .int .i64 num, .int .u32 (c : Int), s] ∧ Blk W D 28 #[.int .i64 op, .int .i64 num, .int .u32 (c : Int), v] ∧ W.ownsRow (D + 1) 37 8 v n (wcss xs).flatten ∧ Below w.heap.size w W
section
variable {w W w5 : World} {D : Nat} {op num : Int} {c : Nat} {s v v' : Value} {xs ys : List (WX × Value)} {n m : Nat}
theorem AW.drew (h : AW w D op num c s xs v n W) : AW w D op num c s xs v n W.drew := ⟨h.1, h.2.1.drew, h.2.2.1.drew, h.2.2.2.1, h.2.2.2.2.drew⟩
theorem AW.alloc (h : AW w D op num c s xs v n W) (o : Obj) : AW w D op num c s xs v n (W.alloc o) := ⟨h.1, h.2.1.alloc o, h.2.2.1.alloc o, h.2.2.2.1.alloc o, h.2.2.2.2.alloc h.2.2.2.2.size o⟩
theorem AW.lt (h : AW w D op num c s xs v n W) : D < W.heap.size := h.2.2.1.lt
theorem AW.far (h : AW w D op num c s xs v n W) (k : Nat) (hk : v.ownBlock = some k) : D + 1 ≤ k := (own_row h.2.2.2.1 k hk).1
theorem AW.grown (h : AW w D op num c s xs v n W) (hg : W.grownBy w5 v.ownBlock) : Blk w5 w.heap.size 28 #[.int .i64 op, .int .i64 num, .int .u32 (c : Int), s] ∧ Blk w5 D 28 #[.int .i64 op, .int .i64 num, .int .u32 (c : Int), v] ∧ Below w.heap.size w w5 :=
  ⟨h.2.1.grown hg (fun e => by have h1 := h.far _ e.symm; have h2 := h.1; omega), h.2.2.1.grown hg (fun e => by have h1 := h.far _ e.symm; omega), h.2.2.2.2.grown hg h.2.2.2.2.size (fun k hk => by have h1 := h.far k hk; have h2 := h.1; omega)⟩
theorem AW.step (h : AW w D op num c s xs v n W) (hg : W.grownBy w5 v.ownBlock) (ho : w5.ownsRow (D + 1) 37 8 v' m (wcss ys).flatten) : AW w D op num c s ys v' m (w5.setCell ⟨D, 3, none⟩ v') := by
  obtain ⟨g1, g2, g3⟩ := h.grown hg
  refine ⟨h.1, g1.far (by have := h.1; show w.heap.size ≠ D; omega) _, g2.set 3 v', own_keep ho fun g hgo => Below.heap_setCell w5 ⟨D, 3, none⟩ _ g (fun e => ?_), g3.setCell (by have := h.1; show w.heap.size ≤ D; omega) _⟩
  have h1 := (own_row ho g hgo).1
  have h2 : g = D := e
  omega
end
theorem thr_news (W : World) (b : Bool) : ∀ ad, (some (⟨W.heap.size, 0, none⟩ : Addr)) = some ad → ∀ j u, ((thrW b).1.cells (thrW b).2)[j]? = some u → (W.alloc (.cells ((thrW b).1.cells (thrW b).2).toArray 37)).cell? (ad.add j) = some u := by
  intro ad had q u hu
  injection had with had
  subst had
  exact World.news_of_block (cs := ((thrW b).1.cells (thrW b).2).toArray) (t := 37) (fr := (0, 0)) (heap_alloc_new W _) q u (by simpa using hu)
theorem thr_one (b : Bool) : ∀ u ∈ (thrW b).1.cells (thrW b).2, u.oneCell' = true := by
  intro u hu
  simp only [thrW, plainW, WX.cells, List.mem_cons, List.not_mem_nil, or_false] at hu
  rcases hu with rfl | rfl | rfl | rfl | rfl | rfl | rfl | rfl <;> rfl
theorem wcss_snoc (xs : List (WX × Value)) (p : WX × Value) : (wcss (xs ++ [p])).flatten = (wcss xs).flatten ++ p.1.cells p.2 := by simp [wcss]
set_option maxRecDepth 100000 in
set_option maxHeartbeats 4000000 in
theorem moved_any (w : World) (v : Int) (k : Nat) (hv : v ≤ 1048576) (hk : k ≤ 8) : Calls Try.prog 20 #[.int .i64 v, .int .i64 (k : Int)] w fun e w' => e = .returned (.int .i64 (mv v k)) ∧ w' = w := by
  have hm : mv v k = if (k : Int) < v then v + 1 else v := rfl
  rw [hm]
  by_cases h : (k : Int) < v
  · rw [if_pos h]
    go_enter Try.func20, Try.ntmps20
    go_wp2_with fail
    go_ret
    exact ⟨rfl, rfl⟩
  · rw [if_neg h]
    go_enter Try.func20, Try.ntmps20
    go_wp2_with fail
    go_ret
    exact ⟨rfl, rfl⟩

end Go.Proofs.Ytlnlefebcfnocaa
