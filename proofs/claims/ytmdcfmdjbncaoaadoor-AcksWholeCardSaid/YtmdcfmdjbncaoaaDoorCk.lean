/- A range over each of acks with several rows that grow: what was given is known in each round. -/
import Derived.Test.YtmdcfmdjbncaoaaDoorCf
namespace Go.Proofs.YtmdcfmdjbncaoaaDoor
open Go.RowKit Go.Shelf
attribute [local go_sem] Oper.semAt_some

/-- The row of one of the variables of Z lies in block b. -/
def RowZ (Z : Nat → Prop) (W : World) (b : Nat) : Prop := ∃ z, Z z ∧ RowB z W b
/-- All cells stay but the variables' and their rows'. -/
structure KZ (Z : Nat → Prop) (A B : World) : Prop where
  size : A.heap.size ≤ B.heap.size
  block : ∀ b o, ¬ Z b → ¬ RowZ Z A b → A.heap[b]? = some o → o.isCells = true → B.heap[b]? = some o
  row : ∀ b, RowZ Z B b → RowZ Z A b ∨ A.heap.size ≤ b
theorem KZ.refl (Z : Nat → Prop) (A : World) : KZ Z A A := ⟨Nat.le_refl _, fun _ _ _ _ h _ => h, fun _ h => .inl h⟩
theorem KZ.trans {Z : Nat → Prop} {A B C : World} (h : KZ Z A B) (k : KZ Z B C) : KZ Z A C := by
  refine ⟨Nat.le_trans h.size k.size, fun b o h1 h2 h3 h4 => k.block b o h1 (fun h5 => ?_) (h.block b o h1 h2 h3 h4) h4, fun b h1 => ?_⟩
  · rcases h.row b h5 with h6 | h6
    · exact h2 h6
    · have := (Array.getElem?_eq_some_iff.1 h3).1; omega
  · rcases k.row b h1 with h6 | h6
    · exact h.row b h6
    · exact .inr (Nat.le_trans h.size h6)
theorem RowZ.below {Z : Nat → Prop} {A B : World} (h : Below A.heap.size A B) (hs : ∀ z, Z z → z < A.heap.size) {b : Nat} (hr : RowZ Z B b) : RowZ Z A b := by
  obtain ⟨z, hz, n, c, h1⟩ := hr
  exact ⟨z, hz, n, c, (h.cell (p := ⟨z, 0, none⟩) (hs z hz)).symm.trans h1⟩
theorem KZ.below {Z : Nat → Prop} {A B : World} (h : Below A.heap.size A B) (hs : ∀ z, Z z → z < A.heap.size) : KZ Z A B :=
  ⟨h.size, fun b _ _ _ h3 _ => (h.block b (Array.getElem?_eq_some_iff.1 h3).1).trans h3, fun _ h1 => .inl (h1.below h hs)⟩
theorem kz_put {Z : Nat → Prop} {N : Nat} (hs : ∀ z, Z z → z < N) (W : World) (l : Nat) (o o' : Obj) (hl : N ≤ l) (h : W.heap[l]? = some o) (hc : o.isCells = false) (_ : o.isWalk = false) : KZ Z W (W.putObj l o') :=
  ⟨by simp, fun b o2 _ _ hb ho => by
    by_cases e : b = l
    · subst e; rw [h] at hb; cases hb; rw [hc] at ho; cases ho
    · exact (World.putObj_heap_other (fun e' => e e')).trans hb, fun b h1 => .inl (by
    obtain ⟨z, hz, n, c, h1⟩ := h1
    exact ⟨z, hz, n, c, (World.cell?_of_block (a := ⟨z, 0, none⟩) (World.putObj_heap_other (fun e' => by have e2 : z = l := e'; have := hs z hz; omega))).symm.trans h1⟩)⟩
theorem KZ.cell {Z : Nat → Prop} {b j : Nat} {A B : World} {v : Value} (h : KZ Z A B) (h1 : ¬ Z b) (h2 : ¬ RowZ Z A b) (hc : A.cell? ⟨b, j, none⟩ = some v) : B.cell? ⟨b, j, none⟩ = some v := by
  obtain ⟨o, ho, hoc⟩ := cells_of_cell hc
  rw [World.cell?_of_block (w := A) (w' := B) (a := ⟨b, j, none⟩) ((h.block b o h1 h2 ho hoc).trans ho.symm)]
  exact hc

/-- The iterator gives some row xs, one after another; G holds of what was given so far, the one that is being given with it. -/
def SeqGiv {α : Type} (F : Fence) (n : Nat) (P : Program) (g : Nat) (lb : Array Value) (encs : α → Array Value) (Kp : World → World → Prop) (G : List α → World → Prop) (R : World → Prop) (N : Nat) (w : World) : Prop :=
  ∀ (l : Nat) (J : List α → World → Prop) (W : World), Below w.heap.size w W → AbidesFrom W.heap.size J → (∀ pre W1, J pre W1 → R W1) →
    (∀ pre x W1, J pre W1 → pre.length < N → G (pre ++ [x]) W1 → YieldAt F (n - 1) P l (encs x) W1 fun e W' => e = .returned (.bool true) ∧ J (pre ++ [x]) W' ∧ Kp W1 W') →
    J [] W → CallsIn F n P g (#[.func (.yield l) #[] #[]] ++ lb) W fun e W' => (∃ v, e = .returned v) ∧ ∃ xs, xs.length = N ∧ G xs W' ∧ J xs W'

/-- How a round ends here: it goes on; what it keeps is told of the world in which it was asked. -/
def goesOn2 {α : Type} (B : Nat) (Kp : World → World → Prop) (I : List α → World → Prop) (xs : List α) (W0 W : World) : Exit → Act → World → Prop
  | .normal, _, W' => KeepsFrom B W W' ∧ Kp W0 W' ∧ I xs W'
  | _, _, _ => False

theorem wpIn_range_giv {F : Fence} {n : Nat} {P : Program} {w : World} {α : Type} {g : Operand} {ps : Array Tmp} {assign body : Code} {Q : Exit → Act → World → Prop} {a : Act} (hro : F.round = none) (h1 : 1 ≤ n) {gf : Nat} {lb : Array Value}
    (hg : a.eval g = .func (.func gf) #[] lb) (hFg : F.fn gf) (eg : ∀ args w, (callFunc gf args).run P w = .ok (.enter gf args) w) {encs : α → Array Value} {Kp : World → World → Prop} {G : List α → World → Prop} {R0 : World → Prop} {N : Nat} {w0 : World}
    (hseq : SeqGiv F (n - 1) P gf lb encs Kp G R0 N w0) (hKt : ∀ {A B C : World}, Kp A B → Kp B C → Kp A C)
    (hKb : ∀ (W : World) (l : Nat) (o o' : Obj), w.heap.size ≤ l → W.heap[l]? = some o → o.isCells = false → o.isWalk = false → Kp W (W.putObj l o')) (hb0 : Below w0.heap.size w0 w) (hps : ∀ x, (encs x).size = ps.size)
    (I : List α → World → Prop) (hI : OwnFrom w.heap.size I) (hR0 : ∀ pre W1, I pre W1 → R0 W1) (hGk : ∀ xs A B, G xs A → Kp A B → G xs B) (h0 : I [] w) (Ax : α → Act → World → World → Prop) (hAx : ∀ x a' W0, OwnFrom w.heap.size (fun (_ : Unit) W => Ax x a' W0 W))
    (hassign : ∀ (l : Nat) (pre : List α) (x : α) (W : World) (K : Act → World → Prop), I pre W → (∀ a' W', KeepsFrom w.heap.size W W' → Kp W W' → Ax x a' W W' → K a' W') →
      assign.wpIn (F.inRound l) (n - 1 - 1) P (Exit.then K (fun _ _ _ => False)) { tmps := (ps.zip (encs x)).foldl (fun t (p, v) => t.setIfInBounds p v) a.tmps, defers := [] } W)
    (hbody : ∀ (l : Nat) (pre : List α) (x : α) (a' : Act) (W0 W : World), w.heap.size ≤ l → I pre W0 → Kp W0 W → Ax x a' W0 W → pre.length < N → G (pre ++ [x]) W0 → body.wpIn (F.inRound l) (n - 1 - 1) P (goesOn2 w.heap.size Kp I (pre ++ [x]) W0 W) a' W)
    (hdone : ∀ (D : Nat) (xs : List α) (W : World), w.heap.size ≤ D → xs.length = N → G xs W → I xs W → W.heap[D]? = some (.deferred (some [])) → Q .normal { a with defers := { target := .collected D, args := #[] } :: a.defers } W) :
    (Code.rangeFunc g ps assign body).wpIn F n P Q a w := by
  refine wpIn_rangeFunc fun fn hfn => ?_
  rw [hro]
  let R : LoopState → Option Code → Loop := fun st pe => { state := st, pending := pe, fn, tmps := a.tmps, params := ps, assign, body, defers := w.heap.size }
  have hR : R = fun st pe => { state := st, pending := pe, fn, tmps := a.tmps, params := ps, assign, body, defers := w.heap.size } := rfl
  obtain ⟨V, hV⟩ : ∃ V, V = (w.alloc (.deferred (some []))).alloc (.loop (R .ready none)) := ⟨_, rfl⟩
  have hVs : V.heap.size = w.heap.size + 2 := by rw [hV]; simp
  have lv : V.heap[w.heap.size + 1]? = some (.loop (R .ready none)) := by
    have h := World.alloc_heap_new (w.alloc (.deferred (some []))) (.loop (R .ready none))
    rw [World.size_alloc] at h
    rw [hV]; exact h
  have dv : V.heap[w.heap.size]? = some (.deferred (some [])) := by rw [hV]; exact (Below.heap_alloc _ _ _ (by simp)).trans (World.alloc_heap_new w _)
  have iv : I [] V := by rw [hV]; exact hI.alloc _ (hI.alloc _ h0)
  have bv : Below w0.heap.size w0 V := by rw [hV]; exact hb0.trans ((((Below.refl _ w).alloc (Nat.le_refl _) _).alloc (by simp) _).mono hb0.size)
  refine ⟨w.heap.size + 1, [{ target := .collected w.heap.size, args := #[] }], V, { target := .fn (.func gf) lb, args := #[.func (.yield (w.heap.size + 1)) #[] #[]] }, V, gf,
    #[.func (.yield (w.heap.size + 1)) #[] #[]] ++ lb, V, by rw [hV]; exact run_enterLoop_outer _ _ _ _ _, by simp only [resolve, hg]; simp [go_sem], fun f' hf' => by simp [Target.leads] at hf'; subst hf'; exact hFg, by simp [invoke, go_sem, eg], fun _ => h1, ?_⟩
  have notCells : ∀ {A : World} {row : Option Nat}, (∀ r, row = some r → V.heap.size ≤ r ∧ ∃ o : Obj, A.heap[r]? = some o ∧ o.isWalk = true) → (∀ r, row = some r → w.heap.size ≤ r ∧ ∃ o : Obj, A.heap[r]? = some o ∧ o.isCells = false) :=
    fun hr r e => by obtain ⟨hB, o, ho, hw⟩ := hr r e; exact ⟨by omega, o, ho, Obj.not_cells_of_walk hw⟩
  refine (hseq (w.heap.size + 1) (fun pre W => I pre W ∧ W.heap[w.heap.size + 1]? = some (.loop (R .ready none)) ∧ W.heap[w.heap.size]? = some (.deferred (some []))) V bv
    (fun s A B row hs hg' hr => ⟨hI s A B row hs.1 hg' (notCells hr), (grownBy_keeps hg' (fun r e => (hr r e).2) hs.2.1 rfl).trans hs.2.1, (grownBy_keeps hg' (fun r e => (hr r e).2) hs.2.2 rfl).trans hs.2.2⟩) (fun pre W1 h => hR0 pre W1 h.1) ?_ ⟨iv, lv, dv⟩).mono ?_
  · rintro pre x W ⟨hi, hl, hk⟩ hlen hgx
    have hy := run_yield (P := P) (args := encs x) hl (by rw [hR]; exact hps x)
    rw [hR] at hy
    refine ⟨fn, _, assign, body, hy, roundIn_of_wpIn hfn (hassign _ pre x W _ hi fun a' Wa hkf hkp hax => ?_)⟩
    have la := hkf.same _ _ (by omega) hl rfl
    have da := hkf.same _ _ (Nat.le_refl _) hk rfl
    have hlt : w.heap.size + 1 < Wa.heap.size := (Array.getElem?_eq_some_iff.1 la).1
    refine ⟨_, run_beginRound la (by rw [hR]), ?_⟩
    have l2 : (Wa.putObj (w.heap.size + 1) (.loop { R .ready none with state := .busy })).heap[w.heap.size + 1]? = some (.loop { R .ready none with state := .busy }) := World.putObj_heap_same hlt
    have d2 : (Wa.putObj (w.heap.size + 1) (.loop { R .ready none with state := .busy })).heap[w.heap.size]? = some (.deferred (some [])) := (World.putObj_heap_other (by omega)).trans da
    have k2 : Kp Wa (Wa.putObj (w.heap.size + 1) (.loop { R .ready none with state := .busy })) := hKb _ _ _ _ (by omega) la rfl rfl
    refine wpIn_mono (hbody _ pre x a' W _ (by omega) hi (hKt hkp k2) ((hAx x a' W).putObj (s := ()) _ hax (by omega) la rfl) hlen hgx) ?_
    rintro e a3 W3 hp
    cases e with
    | normal =>
      obtain ⟨hk3, hkp3, hi3⟩ := hp
      have l3 := hk3.same _ _ (by omega) l2 rfl
      have he := run_endRound (P := P) none l3
      rw [hR] at he l3
      exact ⟨_, _, he, rfl, ⟨hI.putObj _ hi3 (by omega) l3 rfl, World.putObj_heap_same (Array.getElem?_eq_some_iff.1 l3).1, (World.putObj_heap_other (by omega)).trans (hk3.same _ _ (Nat.le_refl _) d2 rfl)⟩,
        hKt hkp3 (hKb _ _ _ _ (by omega) l3 rfl rfl)⟩
    | _ => exact hp.elim
  · rintro e W2 ⟨⟨v, rfl⟩, xs, hxn, hs, hi, hl, hk⟩
    have he := run_endLoop (P := P) hl (by rw [hR]; simp)
    rw [hR] at he hl
    exact ⟨none, _, he, hdone _ xs _ (Nat.le_refl _) hxn (hGk _ _ _ hs (hKb _ _ _ _ (by omega) hl rfl rfl)) (hI.putObj _ hi (by omega) hl rfl) ((World.putObj_heap_other (by omega)).trans hk)⟩
/-- What has been given: copies, in memory from lo on, beside the collecting row. -/
def GivenZ (lo : Nat) (Z : Nat → Prop) (l : List SX) (xs : List CSV) (W : World) : Prop :=
  xs.length = l.length ∧ ∀ (j : Nat) (m : SX), l[j]? = some m → ∃ (x : CSV) (S : Nat → Prop), xs[j]? = some x ∧ IsS W S m x.cells ∧ ∀ b, S b → lo ≤ b ∧ b < W.heap.size ∧ ¬ Z b ∧ ¬ RowZ Z W b
theorem GivenZ.nil (lo : Nat) (Z : Nat → Prop) (W : World) : GivenZ lo Z [] [] W := ⟨rfl, fun _ _ h => by simp at h⟩
theorem GivenZ.kz {lo : Nat} {Z : Nat → Prop} {l : List SX} {xs : List CSV} {W W' : World} (h : GivenZ lo Z l xs W) (hk : KZ Z W W') : GivenZ lo Z l xs W' := by
  refine ⟨h.1, fun j m hm => ?_⟩
  obtain ⟨x, S, h1, h2, h3⟩ := h.2 j m hm
  refine ⟨x, S, h1, h2.fwd (fun _ h => h) (fun b j v hb hc => KZ.cell hk (h3 b hb).2.2.1 (h3 b hb).2.2.2 hc), fun b hb => ⟨(h3 b hb).1, Nat.lt_of_lt_of_le (h3 b hb).2.1 hk.size, (h3 b hb).2.2.1, fun hr => ?_⟩⟩
  rcases hk.row b hr with h4 | h4
  · exact (h3 b hb).2.2.2 h4
  · have := (h3 b hb).2.1; omega
theorem GivenZ.snoc {lo : Nat} {Z : Nat → Prop} {l : List SX} {xs : List CSV} {W : World} {x : CSV} {m : SX} {S : Nat → Prop} (h : GivenZ lo Z l xs W) (hx : IsS W S m x.cells) (hS : ∀ b, S b → lo ≤ b ∧ b < W.heap.size ∧ ¬ Z b ∧ ¬ RowZ Z W b) : GivenZ lo Z (l ++ [m]) (xs ++ [x]) W := by
  refine ⟨by simp [h.1], fun j y hy => ?_⟩
  rcases Nat.lt_trichotomy j l.length with hj | hj | hj
  · rw [List.getElem?_append_left hj] at hy
    obtain ⟨z, T, h1, h2, h3⟩ := h.2 j y hy
    exact ⟨z, T, by rw [List.getElem?_append_left (by rw [h.1]; exact hj)]; exact h1, h2, h3⟩
  · rw [List.getElem?_append_right (by omega), hj, Nat.sub_self] at hy
    obtain rfl : m = y := by simpa using hy
    exact ⟨x, S, by rw [List.getElem?_append_right (by rw [h.1]; omega), h.1, hj, Nat.sub_self]; rfl, hx, hS⟩
  · rw [List.getElem?_eq_none (by simp; omega)] at hy
    cases hy

/-- What has been given so far of l. -/
def GivZ (lo : Nat) (Z : Nat → Prop) (l : List SX) (xs : List CSV) (W : World) : Prop := xs.length ≤ l.length ∧ GivenZ lo Z (l.take xs.length) xs W
theorem GivZ.kz {lo : Nat} {Z : Nat → Prop} {l : List SX} {xs : List CSV} {W W' : World} (h : GivZ lo Z l xs W) (hk : KZ Z W W') : GivZ lo Z l xs W' := ⟨h.1, h.2.kz hk⟩
def EWZ (lo : Nat) (Z : Nat → Prop) (l : List SX) (J : List CSV → World → Prop) (W : World) (iv : Value) (wr : World) : Prop :=
  ∃ (k : Nat) (xs : List CSV), iv = .int .i64 k ∧ k ≤ l.length ∧ GivenZ lo Z (l.take k) xs wr ∧ J xs wr ∧ KZ Z W wr

set_option maxRecDepth 100000 in
set_option maxHeartbeats 4000000 in
theorem each1z_in (N : Nat) (hn : 3 ≤ N) (L Bl lo : Nat) (Z : Nat → Prop) (S : Nat → Prop) (l : List SX) (a : Option Addr) (n c : Nat) (J : List CSV → World → Prop) (W : World) (NJ : Nat) (_hNJ : NJ ≤ W.heap.size) (hJ : AbidesFrom NJ J) (hR : ∀ pre W1, J pre W1 → ∀ b, RowZ Z W1 b → b < W1.heap.size)
    (hY : ∀ pre x W1, J pre W1 → pre.length < l.length → GivZ lo Z l (pre ++ [x]) W1 → YieldAt Fence.wide (N - 1) Tryd.prog L #[x.val] W1 fun e W' => e = .returned (.bool true) ∧ J (pre ++ [x]) W' ∧ KZ Z W1 W')
    (hBl : W.cell? ⟨Bl, 0, none⟩ = some (.slice a n c)) (hrow : RS W S l a n c) (hS : ∀ b, S b → b < W.heap.size ∧ ¬ Z b ∧ ¬ RowZ Z W b) (hsb : ∀ z, Z z → z < W.heap.size) (hlo : lo ≤ W.heap.size) (hsm : smallS l) (hn2 : n ≤ 65536) (h0 : J [] W) :
    CallsIn Fence.wide N Tryd.prog 69 #[.func (.yield L) #[] #[], .pointer (some ⟨Bl, 0, none⟩)] W fun e W' => (∃ v, e = .returned v) ∧ ∃ xs, xs.length = l.length ∧ GivZ lo Z l xs W' ∧ J xs W' := by
  have hcl : c ≤ maxLen := hrow.2.2.1
  have hlc : n ≤ c := hrow.2.1
  obtain rfl : n = l.length := hrow.1
  unfold maxLen at hcl
  have HROW := Lib.hid hrow
  have HS := Lib.hid hS
  have HY := Lib.hid hY
  have HJ := Lib.hid hJ
  have HR := Lib.hid hR
  have HSM := Lib.hid hsm
  have HSB := Lib.hid hsb
  clear hrow hS hY hJ hsm hR hsb
  refine callsIn_of_wp Tryd.func69 rfl trivial ?_ rfl
  simp only [Tryd.ntmps69, List.size_toArray, List.length_cons, List.length_nil, Nat.reduceAdd, Nat.reduceSub, Array.replicate_succ, Array.replicate_zero, List.push_toArray, List.append_toArray, List.nil_append, List.cons_append]
  gi_wp2
  gi_loopw [7] (EWZ lo Z l J W) (fun i _ => l.length - (intOf i).toNat)
  case atStart => exact ⟨0, [], rfl, Nat.zero_le _, GivenZ.nil _ _ _, h0, KZ.refl _ _⟩
  case round =>
    obtain ⟨k, xs, rfl, hk, hgv, hJk, hks⟩ := hrel
    have HGV := Lib.hid hgv
    have HJK := Lib.hid hJk
    have HKS := Lib.hid hks
    have hszk := hks.size
    clear hgv hJk hks
    by_cases hlt : k < l.length
    · obtain ⟨g, o, x, cs, rfl, hSg, hx, hm, hxl, hr⟩ := HROW.out.get hlt
      have hr2 : wr.rangeAt g (o + k * 15) cs := fun j v hv => HKS.out.cell (HS.out g hSg).2.1 (HS.out g hSg).2.2 (hr j v hv)
      have hm2 : IsS wr S x cs := hm.fwd (fun _ h => h) (fun b q v hb hc => HKS.out.cell (HS.out b hb).2.1 (HS.out b hb).2.2 hc)
      obtain ⟨ms, hmM, rfl⟩ := hm2
      have HM := Lib.hid hmM
      obtain ⟨kx, ix, bx, sx, ax, nx, cx, rfl, hD, ht, hrr⟩ := hmM
      have HX := Lib.hid hx
      have hj0 : (0 : Int) ≤ (k : Int) := by omega
      have hj1 : (k : Int) < (l.length : Int) := by omega
      clear hr hm hx hxl hD ht hrr
      gi_wp2_with (first
        | (refine wpListIn_load_blk rfl 62 _ rfl g (o + k * 15) rfl [.int .i64 x.m.id, .string x.m.topic, .int .i64 kx, .int .i64 ix, .int .u64 bx, .string sx, .slice ax nx cx, .int .i64 x.m.tat, .int .i64 x.m.til, .string x.m.reply, .int .i64 x.m.corr, .int .i64 x.m.prio, .int .i64 x.m.hops, .int .i64 x.tries, .int .i64 x.due] _ hr2 Tryd.underlying62 rfl sizeS ?_)
        | (refine wpListIn_store_blk (T := 62) rfl 62 _ _ rfl (wr.heap.size) 0 [] [.int .i64 0, .string ByteArray.empty, .int .i64 0, .int .i64 0, .int .u64 0, .string ByteArray.empty, .slice none 0 0, .int .i64 0, .int .i64 0, .string ByteArray.empty, .int .i64 0, .int .i64 0, .int .i64 0, .int .i64 0, .int .i64 0] [] [.int .i64 x.m.id, .string x.m.topic, .int .i64 kx, .int .i64 ix, .int .u64 bx, .string sx, .slice ax nx cx, .int .i64 x.m.tat, .int .i64 x.m.til, .string x.m.reply, .int .i64 x.m.corr, .int .i64 x.m.prio, .int .i64 x.m.hops, .int .i64 x.tries, .int .i64 x.due] rfl rfl (Blk.new wr _ _) rfl rfl sizeS (by simp [Value.oneCell']) ?_; intro w1 BX1 U1 K1)
        | (refine wpListIn_load_blk rfl 30 _ rfl (wr.heap.size) 0 rfl [.int .i64 x.m.id, .string x.m.topic, .int .i64 kx, .int .i64 ix, .int .u64 bx, .string sx, .slice ax nx cx, .int .i64 x.m.tat, .int .i64 x.m.til, .string x.m.reply, .int .i64 x.m.corr, .int .i64 x.m.prio, .int .i64 x.m.hops] _ (Blk.range (pre := []) (post := [.int .i64 x.tries, .int .i64 x.due]) BX1 rfl) Tryd.underlying30 rfl sizeM ?_))
      have hb1 : Below wr.heap.size wr w1 := ((Below.refl wr.heap.size wr).alloc (Nat.le_refl _) _).trans (U1.below _ (Nat.le_refl _))
      have hs1 : w1.heap.size = wr.heap.size + 1 := by rw [U1.size]; simp
      have HB1 := Lib.hid hb1
      have HS1 := Lib.hid hs1
      refine ⟨trivial, fun _ => by omega, (callsIn_wide.2 (ownmsg_any x.m w1 S [.int .i64 x.m.id, .string x.m.topic, .int .i64 kx, .int .i64 ix, .int .u64 bx, .string sx, .slice ax nx cx, .int .i64 x.m.tat, .int .i64 x.m.til, .string x.m.reply, .int .i64 x.m.corr, .int .i64 x.m.prio, .int .i64 x.m.hops] (HM.out.under hb1 (fun b hb => Nat.lt_of_lt_of_le (HS.out b hb).1 hszk)) (fun b hb => by have := (HS.out b hb).1; omega) (HSM.out x (List.mem_of_getElem? HX.out)))).mono ?_⟩
      rintro e w2 ⟨k1, i1, b1, s1, a1, n1, c1, rfl, hm2, hb2⟩
      have BX2 := BX1.under hb2 (by omega)
      have hs2 := hb2.size
      have HM2 := Lib.hid hm2.ism
      have HB2 := Lib.hid hb2
      clear hm2 hb1 hb2 hr2 U1 K1 BX1 hs1
      gi_upto_region 4 with (refine wpListIn_store_blk (T := 62) rfl 30 _ _ rfl (wr.heap.size) 0 [] [.int .i64 x.m.id, .string x.m.topic, .int .i64 kx, .int .i64 ix, .int .u64 bx, .string sx, .slice ax nx cx, .int .i64 x.m.tat, .int .i64 x.m.til, .string x.m.reply, .int .i64 x.m.corr, .int .i64 x.m.prio, .int .i64 x.m.hops] [.int .i64 x.tries, .int .i64 x.due] [.int .i64 x.m.id, .string x.m.topic, .int .i64 k1, .int .i64 i1, .int .u64 b1, .string s1, .slice a1 n1 c1, .int .i64 x.m.tat, .int .i64 x.m.til, .string x.m.reply, .int .i64 x.m.corr, .int .i64 x.m.prio, .int .i64 x.m.hops] rfl rfl BX2 rfl rfl sizeM (by simp [Value.oneCell']) ?_; intro w3 BX3 U3 K3)
      have hb3 : Below wr.heap.size wr w3 := (HB1.out.trans (HB2.out.mono (by rw [HS1.out]; omega))).trans (U3.below _ (Nat.le_refl _))
      have hs3 : w3.heap.size = w2.heap.size := U3.size
      have hks3 : KZ Z wr w3 := KZ.below hb3 (fun z hz => Nat.lt_of_lt_of_le (HSB.out z hz) hszk)
      have hJ3 : J xs w3 := abides_below HJ.out hb3 HJK.out
      have hxl : xs.length = k := by rw [HGV.out.1, List.length_take]; omega
      have hM3 : IsS w3 (Btw w1.heap.size w2.heap.size) x [.int .i64 x.m.id, .string x.m.topic, .int .i64 k1, .int .i64 i1, .int .u64 b1, .string s1, .slice a1 n1 c1, .int .i64 x.m.tat, .int .i64 x.m.til, .string x.m.reply, .int .i64 x.m.corr, .int .i64 x.m.prio, .int .i64 x.m.hops, .int .i64 x.tries, .int .i64 x.due] :=
        ⟨_, HM2.out.keep (fun _ h => h) (fun q hq j => U3.cell (by have := hq.1; have := HS1.out; omega)), rfl⟩
      have hG3 : GivenZ lo Z (l.take (k + 1)) (xs ++ [⟨⟨x.m.id, x.m.topic, k1, i1, b1, s1, a1, n1, c1, x.m.tat, x.m.til, x.m.reply, x.m.corr, x.m.prio, x.m.hops⟩, x.tries, x.due⟩]) w3 := by
        rw [← take_snoc HX.out]
        refine GivenZ.snoc (S := Btw w1.heap.size w2.heap.size) (HGV.out.kz hks3) hM3 (fun b hb => ⟨by have := hb.1; have := HS1.out; omega, by have := hb.2; omega, fun hz => by have h9 := HSB.out b hz; have := hb.1; have := HS1.out; omega, fun hr => ?_⟩)
        have h1 := hr.below hb3 (fun z hz => Nat.lt_of_lt_of_le (HSB.out z hz) hszk)
        have := HR.out xs wr HJK.out b h1
        have := hb.1; have := HS1.out; omega
      obtain ⟨fn, tmps, assign, body, hy, hYR⟩ := HY.out xs ⟨⟨x.m.id, x.m.topic, k1, i1, b1, s1, a1, n1, c1, x.m.tat, x.m.til, x.m.reply, x.m.corr, x.m.prio, x.m.hops⟩, x.tries, x.due⟩ w3 hJ3 (by omega) ⟨by rw [List.length_append, List.length_singleton]; omega, by rw [List.length_append, List.length_singleton, hxl]; exact hG3⟩
      have HG3 := Lib.hid hG3
      have HKS3 := Lib.hid hks3
      have HYR := Lib.hid hYR
      simp only [CSV.val] at hy
      clear hG3 hks3 hM3 hb3 hJ3 U3 K3 BX2 hYR
      gi_wp2_with (refine wpListIn_load_blk rfl 62 _ rfl (wr.heap.size) 0 rfl [.int .i64 x.m.id, .string x.m.topic, .int .i64 k1, .int .i64 i1, .int .u64 b1, .string s1, .slice a1 n1 c1, .int .i64 x.m.tat, .int .i64 x.m.til, .string x.m.reply, .int .i64 x.m.corr, .int .i64 x.m.prio, .int .i64 x.m.hops, .int .i64 x.tries, .int .i64 x.due] _ (Blk.range (pre := []) (post := []) BX3 rfl) Tryd.underlying62 rfl sizeS ?_)
      refine ⟨fun _ => by omega, HYR.out.mono ?_⟩
      rintro e W4 ⟨rfl, hJ4, hk4⟩
      have HJ4 := Lib.hid hJ4
      have HG4 := Lib.hid (HG3.out.kz hk4)
      have HKS4 := Lib.hid ((HKS.out.trans HKS3.out).trans hk4)
      clear hJ4 hk4 hy BX3
      gi_wp2
      go_roundw
      case rel => first | exact ⟨k + 1, _, by go_num, by omega, HG4.out, HJ4.out, HKS4.out⟩ | ((repeat apply Exists.intro); exact ⟨⟨k + 1, _, by go_num, by omega, HG4.out, HJ4.out, HKS4.out⟩, by first | rfl | exact ⟨rfl, rfl⟩ | exact ⟨rfl, rfl, rfl⟩ | exact ⟨rfl, rfl, rfl, rfl⟩ | exact ⟨rfl, rfl, rfl, rfl, rfl⟩⟩)
      case measure => simp [intOf]; omega
    · obtain rfl : k = l.length := by omega
      have hg := HGV.out
      rw [List.take_length] at hg
      have HG := Lib.hid hg
      clear hg
      gi_wp2
      go_end0
      exact ⟨⟨_, rfl⟩, _, HG.out.1, ⟨Nat.le_of_eq HG.out.1, by rw [HG.out.1, List.take_length]; exact HG.out⟩, HJK.out⟩
theorem each1z_giv (N : Nat) (hn : 3 ≤ N) (Bl lo : Nat) (Z : Nat → Prop) (S : Nat → Prop) (l : List SX) (a : Option Addr) (n c : Nat) (w : World) (hBl : w.cell? ⟨Bl, 0, none⟩ = some (.slice a n c)) (hrow : RS w S l a n c)
    (hS : ∀ b, S b → b < w.heap.size ∧ ¬ Z b ∧ ¬ RowZ Z w b) (hsb : ∀ z, Z z → z < w.heap.size) (hlo : lo ≤ w.heap.size) (hsm : smallS l) (hn2 : n ≤ 65536) :
    SeqGiv Fence.wide N Tryd.prog 69 #[.pointer (some ⟨Bl, 0, none⟩)] (fun x : CSV => #[x.val]) (KZ Z) (GivZ lo Z l) (fun W => ∀ b, RowZ Z W b → b < W.heap.size) l.length w :=
  fun L J W hW hJ hR hY h0 => each1z_in N hn L Bl lo Z S l a n c J W _ (Nat.le_refl _) hJ hR hY (cell_over hW (World.block_lt_of_cell? _ _ hBl) hBl) (RS.under hrow hW (fun b hb => (hS b hb).1))
    (fun b hb => ⟨Nat.lt_of_lt_of_le (hS b hb).1 hW.size, (hS b hb).2.1, fun hr => (hS b hb).2.2 (hr.below hW hsb)⟩) (fun z hz => Nat.lt_of_lt_of_le (hsb z hz) hW.size) (Nat.le_trans hlo hW.size) hsm hn2 h0
end Go.Proofs.YtmdcfmdjbncaoaaDoor
