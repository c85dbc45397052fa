/- Timer: a wheel in memory: its header, its map, its rings; what a call on it leaves. -/
import Derived.Test.YtcgchccppoignaaTmE
import Derived.Maps.OwnSet
import Derived.Maps.Ext
namespace Go.Proofs.Ytcgchccppoignaa
open Go.RowKit
open Go.Maps (Keyed)

/-- Nothing of what was there has turned but the blocks of W. -/
structure WT (W : Nat → Prop) (w w' : World) : Prop where
  os : w'.os = w.os
  tape : w'.tape = w.tape
  output : w'.output = w.output
  size : w.heap.size ≤ w'.heap.size
  far : ∀ g, g < w.heap.size → ¬ W g → w'.heap[g]? = w.heap[g]?
section
variable {W W' : Nat → Prop} {w w' w'' : World}
theorem WT.refl (W : Nat → Prop) (w : World) : WT W w w := ⟨rfl, rfl, rfl, Nat.le_refl _, fun _ _ _ => rfl⟩
theorem WT.trans (h : WT W w w') (h' : WT W' w' w'') (hw : ∀ g, W' g → W g ∨ w.heap.size ≤ g) : WT W w w'' :=
  ⟨h'.os.trans h.os, h'.tape.trans h.tape, h'.output.trans h.output, Nat.le_trans h.size h'.size, fun g hg hn => (h'.far g (Nat.lt_of_lt_of_le hg h.size) fun h2 => by
    rcases hw g h2 with h3 | h3
    · exact hn h3
    · omega).trans (h.far g hg hn)⟩
theorem WT.more (h : WT W w w') (hw : ∀ g, W g → W' g) : WT W' w w' := ⟨h.os, h.tape, h.output, h.size, fun g hg hn => h.far g hg fun h2 => hn (hw g h2)⟩
theorem WT.below (h : WT W w w') {B : Nat} (hB : B ≤ w.heap.size) (hw : ∀ g, W g → B ≤ g) : Below B w w' :=
  ⟨h.os, h.tape, h.output, h.size, fun k hk => h.far k (by omega) fun h2 => by have := hw k h2; omega⟩
theorem WT.of_below (h : Below w.heap.size w w') : WT W w w' := ⟨h.os, h.tape, h.output, h.size, fun g hg _ => h.block g hg⟩
theorem WT.drewN (w : World) (n : Nat) : WT W w (w.drewN n) := WT.of_below ⟨rfl, rfl, rfl, Nat.le_refl _, fun _ _ => rfl⟩
theorem WT.of_lw {N : NA → Prop} (h : LW N w w') (hw : ∀ a, N a → W a.1) : WT W w w' := by
  have hb := h.below 0 (fun a _ => Nat.zero_le _)
  exact ⟨hb.os, hb.tape, hb.output, hb.size, fun g _ hn => h.block g fun a ha e => hn (e ▸ hw a ha)⟩
theorem WT.of_grown {row : Option Nat} (h : w.grownBy w' row) (hr : ∀ g, row = some g → W g) : WT W w w' :=
  have hb := (Below.refl 0 w).grown h (Nat.zero_le _) (fun _ _ => Nat.zero_le _)
  ⟨hb.os, hb.tape, hb.output, hb.size, fun g hg hn => h.block g hg fun e => hn (hr g e.symm)⟩
theorem WT.set (w : World) {g o : Nat} (hg : W g) (v : Value) : WT W w (w.setCell ⟨g, o, none⟩ v) :=
  have hb := (Below.refl 0 w).setCell (p := ⟨g, o, none⟩) (Nat.zero_le _) v
  ⟨hb.os, hb.tape, hb.output, hb.size, fun k _ hn => RowKit.Below.heap_setCell _ _ _ _ fun e => hn (by rw [e]; exact hg)⟩
theorem WT.cell (h : WT W w w') {g o : Nat} {v : Value} (hg : ¬ W g) (hc : w.cell? ⟨g, o, none⟩ = some v) : w'.cell? ⟨g, o, none⟩ = some v := by
  rw [World.cell?_of_block (w := w) (a := ⟨g, o, none⟩) (h.far g ?_ hg)]; exact hc
  rcases Nat.lt_or_ge g w.heap.size with h1 | h1
  · exact h1
  · exfalso
    have : w.heap[g]? = none := Array.getElem?_eq_none h1
    simp [World.cell?, this] at hc
theorem cell_lt {g o : Nat} {v : Value} (hc : w.cell? ⟨g, o, none⟩ = some v) : g < w.heap.size := by
  rcases Nat.lt_or_ge g w.heap.size with h1 | h1
  · exact h1
  · exfalso
    have : w.heap[g]? = none := Array.getElem?_eq_none h1
    simp [World.cell?, this] at hc
end

/-! ### the map of timers -/
theorem keyedT : Keyed Try.prog 2 := Maps.int_keyed Try.underlying2
theorem keyT (q : Int) (h : (Lit.int .i64 q).wf = true) : keyOf Try.prog 2 (.int .i64 q) = some (.int .i64 q) := Maps.keyOf_int_mk Try.underlying2 h
/-- How a pointer to a timer reads: as its block's number. -/
def ptrElem : Value → Option (DataW Unit × List MemPlace)
  | .pointer none => some (.nil, [])
  | .pointer (some ⟨g, 0, none⟩) => some (.lit (.int .i64 g), [])
  | _ => none
theorem ptrElem_nil {v : Value} {ps : List MemPlace} (h : ptrElem v = some (.nil, ps)) : v = .pointer none := by
  unfold ptrElem at h
  split at h
  · rfl
  · simp at h
  · simp at h
theorem ptrElem_at {v : Value} {g : Nat} {ps : List MemPlace} (h : ptrElem v = some (.lit (.int .i64 g), ps)) : v = pt g 0 := by
  unfold ptrElem at h
  split at h
  · simp at h
  · simp at h
    obtain ⟨h1, -⟩ := h
    have : _ = g := Int.ofNat.inj h1
    subst this
    rfl
  · simp at h
def findD (L : List Tm) (q : Int) : DataW Unit := match L.find? (fun x => x.id == q) with | some x => .lit (.int .i64 x.g) | none => .nil
def rmT (L : List Tm) (x : Tm) : List Tm := L.filter (fun y => y.g != x.g)
structure MapAt (w : World) (m : Nat) (L : List Tm) : Prop where
  ex : ∃ D : DataW Unit, w.ownsMap Try.prog 2 ptrElem m L.length D ∧ Maps.size D = L.length ∧ (∀ q, D.atKey (.int .i64 q) .nil = findD L q) ∧ ∀ q, Maps.has D (.int .i64 q) = L.any (fun x => x.id == q)
section
variable {w w' : World} {m n : Nat} {L : List Tm} {D : DataW Unit}
theorem own_exact (h : w.ownsMap Try.prog 2 ptrElem m n D) : w.ownsMap Try.prog 2 ptrElem m (Maps.size D) D := by
  obtain ⟨es, clock, hb, F, hs, rfl⟩ := h
  exact ⟨es, clock, hb, F, by simp [Maps.size, length_sorted], rfl⟩
theorem MapAt.far (h : MapAt w m L) (he : w'.heap[m]? = w.heap[m]?) : MapAt w' m L := by
  obtain ⟨D, ⟨es, clock, h1, h3⟩, h2⟩ := h.ex
  exact ⟨D, ⟨es, clock, he.trans h1, h3⟩, h2⟩
theorem MapAt.lt (h : MapAt w m L) : m < w.heap.size := by
  obtain ⟨D, h1, -⟩ := h.ex
  exact h1.lt
theorem MapAt.not_cells (h : MapAt w m L) {o : Nat} : w.cell? ⟨m, o, none⟩ = none := by
  obtain ⟨D, ⟨es, clock, h1, -⟩, -⟩ := h.ex
  simp [World.cell?, h1]
theorem MapAt.made (w : World) : MapAt (w.alloc (.map #[] 0)) w.heap.size [] :=
  ⟨.map [], World.ownsMap_made _ _ _ _, rfl, fun _ => rfl, fun _ => rfl⟩
theorem zeroP (w : World) : (zeroValue 47).run Try.prog w = .ok (.pointer none) w := by kernel_rfl
/-- What stands at an id. -/
theorem MapAt.look (h : MapAt w m L) {q : Int} (hq : (Lit.int .i64 q).wf = true) :
    (Instr.lookup 54 (.map (some m)) (.int .i64 q) false).run Try.prog w = .ok (match L.find? (fun x => x.id == q) with | some x => pt x.g 0 | none => .pointer none) w := by
  obtain ⟨D, h1, -, h2, -⟩ := h.ex
  obtain ⟨v, ps, hr, hv⟩ := h1.lookup keyedT Try.underlying54 (zeroP w) (zd := .nil) (zp := []) rfl (keyT q hq)
  rw [hr]
  rw [h2 q, findD] at hv
  split at hv
  · rw [ptrElem_at hv]
  · rw [ptrElem_nil hv]
theorem MapAt.look_ok (h : MapAt w m L) {q : Int} (hq : (Lit.int .i64 q).wf = true) :
    (Instr.lookup 54 (.map (some m)) (.int .i64 q) true).run Try.prog w = .ok (.tuple #[match L.find? (fun x => x.id == q) with | some x => pt x.g 0 | none => .pointer none, .bool (L.any (fun x => x.id == q))]) w := by
  obtain ⟨D, h1, -, h2, h3⟩ := h.ex
  obtain ⟨v, ps, hr, hv⟩ := h1.look_ok keyedT Try.underlying54 (zeroP w) (zd := .nil) (zp := []) rfl (keyT q hq)
  rw [hr, h3 q]
  rw [h2 q, findD] at hv
  split at hv
  · rw [ptrElem_at hv]
  · rw [ptrElem_nil hv]
theorem MapAt.len (h : MapAt w m L) (ty : TypeId) : (Builtin.len_ #[54] ty #[.map (some m)]).run Try.prog w = .ok (.int .i64 L.length) w := by
  obtain ⟨D, h1, h2, -⟩ := h.ex
  rw [h1.len Try.underlying54 ty, h2]
theorem isKey (q : Int) : WideAt.IsKeyLit (.int .i64 q) := by simp [WideAt.IsKeyLit]
theorem lit_ne {q q' : Int} (h : q ≠ q') : Lit.int .i64 q ≠ Lit.int .i64 q' := fun e => h (by injection e)
theorem find_snoc {L : List Tm} {x : Tm} {q : Int} (hn : L.any (fun y => y.id == x.id) = false) : (L ++ [x]).find? (fun y => y.id == q) = if q = x.id then some x else L.find? (fun y => y.id == q) := by
  rw [List.find?_append]
  split
  · rename_i e
    subst e
    have : L.find? (fun y => y.id == x.id) = none := List.find?_eq_none.2 fun y hy => by simpa using (List.any_eq_false.1 hn) y hy
    rw [this]
    simp
  · rename_i e
    have : ([x] : List Tm).find? (fun y => y.id == q) = none := by simp [Ne.symm e]
    rw [this]
    simp
/-- One timer more. -/
theorem MapAt.put (h : MapAt w m L) {x : Tm} (hq : (Lit.int .i64 x.id).wf = true) (hn : L.any (fun y => y.id == x.id) = false) (hl : L.length < maxLen) :
    ∃ w', (Instr.mapUpdate 54 (.map (some m)) (.int .i64 x.id) (pt x.g 0)).run Try.prog w = .ok () w' ∧ MapAt w' m (L ++ [x]) ∧ w.mapTurned w' m := by
  obtain ⟨D, h1, h2, h3, h4⟩ := h.ex
  obtain ⟨w', r1, r2, r3⟩ := h1.store keyedT Try.underlying54 hl (val := pt x.g 0) (d := .lit (.int .i64 x.g)) (ps := []) (keyT _ hq) rfl
  have hs : Maps.size (D.put (.int .i64 x.id) (.lit (.int .i64 x.g))) = (L ++ [x]).length := by
    rw [Maps.size_put (h1.tidy keyedT), h4, hn, h2]
    simp
  refine ⟨w', r1, ⟨_, by rw [List.length_append]; exact r2, hs, fun q => ?_, fun q => ?_⟩, r3⟩
  · by_cases e : q = x.id
    · subst e
      rw [Maps.atKey_put_same h1.isMap (isKey _), findD, find_snoc hn, if_pos rfl]
    · rw [Maps.atKey_put_other (lit_ne e), h3, findD, findD, find_snoc hn, if_neg e]
  · by_cases e : q = x.id
    · subst e
      rw [Maps.has_put_same h1.isMap (isKey _)]
      simp
    · rw [Maps.has_put_other (lit_ne e), h4]
      simp [Ne.symm e]
theorem mem_rm {L : List Tm} {x y : Tm} : y ∈ rmT L x ↔ y ∈ L ∧ y.g ≠ x.g := by simp [rmT]
theorem rm_len {L : List Tm} {x : Tm} (hx : x ∈ L) (hn : L.Nodup) (hi : ∀ y, y ∈ L → y.g = x.g → y = x) : (rmT L x).length + 1 = L.length := by
  obtain ⟨l1, l2, rfl⟩ := List.append_of_mem hx
  obtain ⟨n1, n2, n3⟩ := List.nodup_append.1 hn
  have key : ∀ l : List Tm, (∀ y, y ∈ l → y ∈ l1 ++ x :: l2) → x ∉ l → l.filter (fun y => y.g != x.g) = l := fun l hl hx => List.filter_eq_self.2 fun y hy => by
    simp only [bne_iff_ne, ne_eq]
    intro eg
    exact hx (by rw [← hi y (hl y hy) eg]; exact hy)
  rw [rmT, List.filter_append, List.filter_cons, if_neg (by simp), key l1 (fun y hy => by simp [hy]) (fun hx => n3 x hx x (by simp) rfl), key l2 (fun y hy => by simp [hy]) (List.nodup_cons.1 n2).1]
  simp
  omega
/-- One timer fewer. -/
theorem MapAt.del (h : MapAt w m L) {x : Tm} (hx : x ∈ L) (hn : L.Nodup) (hq : (Lit.int .i64 x.id).wf = true) (hi : ∀ y, y ∈ L → y.g = x.g → y = x) (hid : ∀ y, y ∈ L → y.id = x.id → y = x) (ty : TypeId) :
    ∃ w', (Builtin.delete_ #[54, 2] ty #[.map (some m), .int .i64 x.id]).run Try.prog w = .ok (.tuple #[]) w' ∧ MapAt w' m (rmT L x) ∧ w.mapTurned w' m := by
  obtain ⟨D, h1, h2, h3, h4⟩ := h.ex
  obtain ⟨w', r1, r2, r3⟩ := h1.drop keyedT Try.underlying54 (keyT _ hq) ty
  have hh : Maps.has D (.int .i64 x.id) = true := by rw [h4]; exact List.any_eq_true.2 ⟨x, hx, by simp⟩
  have hlen := rm_len hx hn hi
  have hs : Maps.size (D.del (.int .i64 x.id)) = (rmT L x).length := by
    have := Maps.size_del (D := D) (k := .int .i64 x.id) (h1.tidy keyedT)
    rw [hh, h2] at this
    simp at this
    omega
  have hke : ∀ q, q ≠ x.id → ∀ y, y ∈ L → (y.id == q) = true → (y.g != x.g) = true := fun q hq y hy e => by
    simp only [bne_iff_ne, ne_eq]
    intro eg
    rw [hi y hy eg] at e
    exact hq (by simpa using (beq_iff_eq.1 e).symm)
  refine ⟨w', r1, ⟨_, by rw [← hs]; exact own_exact r2, hs, fun q => ?_, fun q => ?_⟩, r3⟩
  · by_cases e : q = x.id
    · subst e
      rw [Maps.atKey_del_same, findD]
      have : (rmT L x).find? (fun y => y.id == x.id) = none := List.find?_eq_none.2 fun y hy => by
        obtain ⟨h5, h6⟩ := mem_rm.1 hy
        simp only [beq_iff_eq]
        intro e
        exact h6 (by rw [hid y h5 e])
      rw [this]
    · rw [Maps.atKey_del_other (lit_ne e), h3, findD, findD, rmT, List.find?_filter]
      congr 1
      have : ∀ l : List Tm, (∀ y, y ∈ l → y ∈ L) → l.find? (fun y => y.id == q) = l.find? (fun a => (a.g != x.g) && (a.id == q)) := by
        intro l
        induction l with
        | nil => intro _; rfl
        | cons y l ih =>
          intro hl
          have ih := ih fun z hz => hl z (by simp [hz])
          rw [List.find?_cons, List.find?_cons]
          cases hy : (y.id == q) with
          | true => simp [hke q e y (hl y (by simp)) hy]
          | false => simp [ih]
      rw [this L fun _ h => h]
      congr 1
      funext a
      cases (a.g != x.g) <;> cases (a.id == q) <;> rfl
  · by_cases e : q = x.id
    · subst e
      rw [Maps.has_del_same]
      refine (List.any_eq_false.2 fun y hy => ?_).symm
      obtain ⟨h5, h6⟩ := mem_rm.1 hy
      simp only [beq_iff_eq]
      intro e
      exact h6 (by rw [hid y h5 e])
    · rw [Maps.has_del_other (lit_ne e), h4]
      rw [Bool.eq_iff_iff, List.any_eq_true, List.any_eq_true]
      constructor
      · rintro ⟨y, hy, he⟩
        exact ⟨y, mem_rm.2 ⟨hy, by simpa using hke q e y hy he⟩, he⟩
      · rintro ⟨y, hy, he⟩
        exact ⟨y, (mem_rm.1 hy).1, he⟩
end

/-! ### a wheel -/
structure Whl (w : World) (B b m : Nat) (now sq : Nat) (L : List Tm) (ρ : Nat → List Tm) : Prop where
  made : w.cell? ⟨b, 0, none⟩ = some (.bool true)
  now : w.cell? ⟨b, 1, none⟩ = some (.int .i64 now)
  fnow : w.frozen? ⟨b, 1, none⟩ = false
  sq : w.cell? ⟨b, 2, none⟩ = some (.int .i64 sq)
  fsq : w.frozen? ⟨b, 2, none⟩ = false
  by_ : w.cell? ⟨b, 2243, none⟩ = some (.map (some m))
  rg : Rg w b L ρ
  mp : MapAt w m L
  bm : b ≠ m
  xm : ∀ x, x ∈ L → x.g ≠ m
  lo : B ≤ b ∧ B ≤ m ∧ ∀ x, x ∈ L → B ≤ x.g
/-- The blocks of a wheel. -/
def Own (b m : Nat) (L : List Tm) (g : Nat) : Prop := g = b ∨ g = m ∨ ∃ x, x ∈ L ∧ g = x.g
section
variable {w w' : World} {B b m now sq : Nat} {L : List Tm} {ρ ρ' : Nat → List Tm}
theorem Whl.own_lt (h : Whl w B b m now sq L ρ) {g : Nat} (hg : Own b m L g) : B ≤ g ∧ g < w.heap.size := by
  rcases hg with rfl | rfl | ⟨x, hx, rfl⟩
  · exact ⟨h.lo.1, cell_lt h.made⟩
  · exact ⟨h.lo.2.1, h.mp.lt⟩
  · exact ⟨h.lo.2.2 x hx, cell_lt (h.rg.dat x hx).t⟩
theorem nodes_own {a : NA} (ha : Nodes b L a) : Own b m L a.1 := by
  rcases ha with ⟨k, hk, rfl⟩ | ⟨x, hx, rfl⟩
  · exact .inl rfl
  · exact .inr (.inr ⟨x, hx, rfl⟩)
theorem hdr_lw {o : Nat} (ho : o < 3 ∨ o = 2243) (hok : Ok b L ρ) (hl : LW (Nodes b L) w w') : w'.cell? ⟨b, o, none⟩ = w.cell? ⟨b, o, none⟩ := hl.cell b o fun a ha e => by
  rcases ha with ⟨k, hk, rfl⟩ | ⟨x, hx, rfl⟩
  · constructor
    · show o ≠ 3 + 5 * k; omega
    · show o ≠ 3 + 5 * k + 1; omega
  · exact absurd e.symm (hok.xb x hx)
/-- Links are written. -/
theorem Whl.lw (h : Whl w B b m now sq L ρ) (hr : Rg w' b L ρ') (hl : LW (Nodes b L) w w') : Whl w' B b m now sq L ρ' where
  made := (hdr_lw (by omega) h.rg.ok hl).trans h.made
  now := (hdr_lw (by omega) h.rg.ok hl).trans h.now
  fnow := (hl.frz _).trans h.fnow
  sq := (hdr_lw (by omega) h.rg.ok hl).trans h.sq
  fsq := (hl.frz _).trans h.fsq
  by_ := (hdr_lw (by omega) h.rg.ok hl).trans h.by_
  rg := hr
  mp := h.mp.far (hl.block m fun a ha => by
    rcases ha with ⟨k, hk, rfl⟩ | ⟨x, hx, rfl⟩
    · exact h.bm
    · exact h.xm x hx)
  bm := h.bm
  xm := h.xm
  lo := h.lo
/-- Other blocks are written. -/
theorem Whl.far (h : Whl w B b m now sq L ρ) (he : ∀ g, Own b m L g → w'.heap[g]? = w.heap[g]?) : Whl w' B b m now sq L ρ := by
  have eb := he b (.inl rfl)
  have ex : ∀ x, x ∈ L → w'.heap[x.g]? = w.heap[x.g]? := fun x hx => he _ (.inr (.inr ⟨x, hx, rfl⟩))
  have cb : ∀ o, w'.cell? ⟨b, o, none⟩ = w.cell? ⟨b, o, none⟩ := fun o => World.cell?_of_block (a := ⟨b, o, none⟩) eb
  have fb : ∀ o, w'.frozen? ⟨b, o, none⟩ = w.frozen? ⟨b, o, none⟩ := fun o => World.frozen?_of_block (a := ⟨b, o, none⟩) eb
  have cx : ∀ x, x ∈ L → ∀ o, w'.cell? ⟨x.g, o, none⟩ = w.cell? ⟨x.g, o, none⟩ := fun x hx o => World.cell?_of_block (a := ⟨x.g, o, none⟩) (ex x hx)
  have fx : ∀ x, x ∈ L → ∀ o, w'.frozen? ⟨x.g, o, none⟩ = w.frozen? ⟨x.g, o, none⟩ := fun x hx o => World.frozen?_of_block (a := ⟨x.g, o, none⟩) (ex x hx)
  refine ⟨(cb 0).trans h.made, (cb 1).trans h.now, (fb 1).trans h.fnow, (cb 2).trans h.sq, (fb 2).trans h.fsq, (cb _).trans h.by_, ⟨h.rg.ok, h.rg.pb.far eb, fun x hx => ?_, ?_⟩, h.mp.far (he m (.inr (.inl rfl))), h.bm, h.xm, h.lo⟩
  · have := h.rg.dat x hx
    exact ⟨(cx x hx 2).trans this.t, (cx x hx 3).trans this.s, (cx x hx 4).trans this.i, this.p.far (ex x hx)⟩
  · obtain ⟨nx, pv, h1, h2⟩ := h.rg.lk
    refine ⟨nx, pv, h1.lw fun a ha => ?_, h2⟩
    rcases ha with ⟨k, hk, rfl⟩ | ⟨x, hx, rfl⟩
    · exact ⟨cb _, cb _, fb _, fb _⟩
    · exact ⟨cx x hx _, cx x hx _, fx x hx _, fx x hx _⟩
theorem Whl.wt (h : Whl w B b m now sq L ρ) {W : Nat → Prop} (ht : WT W w w') (hw : ∀ g, W g → ¬ Own b m L g) : Whl w' B b m now sq L ρ :=
  h.far fun g hg => ht.far g (h.own_lt hg).2 fun h2 => hw g h2 hg
theorem Whl.on (h : Whl w B b m now sq L ρ) (hb : Below w.heap.size w w') : Whl w' B b m now sq L ρ := h.far fun g hg => hb.block g (h.own_lt hg).2
theorem Whl.drewN (h : Whl w B b m now sq L ρ) (n : Nat) : Whl (w.drewN n) B b m now sq L ρ := h.far fun _ _ => rfl
end
end Go.Proofs.Ytcgchccppoignaa
