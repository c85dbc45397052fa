/- Shut: the deferred call that tells an outcome. -/
import Derived.Test.YtmkbdjekidcfaaaShW
import Derived.Recover
import Derived.WalkLawsBesides
import Derived.Deep.RegionHeld3
import Derived.Deep.WholeRow
import Derived.Great.BuildSlice
namespace Go.Proofs.Ytmkbdjekidcfaaa
open Go.RowKit
attribute [local go_sem ↓] Go.wp_at_zero Go.wp_at_succ
attribute [local go_sem] Go.undef

/-- A result without a body. -/
structure Rs where
  err : Int
  code : Int
  pk : Int
  pn : Int
  has : Bool
def rcs (r : Rs) : List Value := [.int .i64 r.err, .int .i64 r.code, .int .i64 r.pk, .int .i64 r.pn, .bool r.has, .int .i64 0, .int .i64 0, .int .u64 0, .string ByteArray.empty, .slice none 0 0]
def dcs (d : Int × Rs) : List Value := .int .i64 d.1 :: rcs d.2
def Dns (ds : List (Int × Rs)) : List Value := (ds.map dcs).flatten
structure Clo (w : World) (B C : Nat) (ds : List (Int × Rs)) (good : Bool) (v : Value) : Prop where
  d : w.cell? ⟨C, 0, none⟩ = some v
  fd : w.frozen? ⟨C, 0, none⟩ = false
  g : w.cell? ⟨C, 1, none⟩ = some (.bool good)
  fg : w.frozen? ⟨C, 1, none⟩ = false
  row : w.ownsRow B 74 11 v ds.length (Dns ds)
  ne : v.ownBlock ≠ some C
theorem Clo.wt {w w' : World} {B C : Nat} {ds : List (Int × Rs)} {good : Bool} {v : Value} {W : Nat → Prop} (h : Clo w B C ds good v) (ht : WT W w w') (hC : ¬ W C) (hv : ∀ k, v.ownBlock = some k → ¬ W k) : Clo w' B C ds good v where
  d := ht.cell hC h.d
  fd := (World.frozen?_of_block (w := w) (a := ⟨C, 0, none⟩) (ht.far C (cell_lt h.d) hC)).trans h.fd
  g := ht.cell hC h.g
  fg := (World.frozen?_of_block (w := w) (a := ⟨C, 1, none⟩) (ht.far C (cell_lt h.d) hC)).trans h.fg
  row := own_keep h.row fun k hk => ht.far k (own_row h.row k hk).2 (hv k hk)
  ne := h.ne
theorem infoDn : (Try.prog.info? 74).map (fun i => (i.zero, i.size, i.bytes)) = some (some (.agg #[.int .i64 0, .int .i64 0, .int .i64 0, .int .i64 0, .int .i64 0, .bool false, .int .i64 0, .int .i64 0, .int .u64 0, .string ByteArray.empty, .slice none 0 0]), 11, 112) := by kernel_rfl
theorem Dns_snoc (ds : List (Int × Rs)) (d : Int × Rs) : Dns (ds ++ [d]) = Dns ds ++ dcs d := by simp [Dns]
theorem Clo.snoc {w w5 : World} {B C : Nat} {ds : List (Int × Rs)} {good : Bool} {v : Value} {o : Obj} {g5 cap5 : Nat} {d : Int × Rs} (h : Clo w B C ds good v) (hO : w5.ownsRow B 74 11 (.slice (some ⟨g5, 0, none⟩) (ds.length + 1) cap5) (ds.length + 1) (Dns ds ++ dcs d)) (hg : (w.drew.alloc o).grownBy w5 v.ownBlock) (hat : v.ownBlock = some g5 ∨ g5 = w.heap.size + 1) :
    Clo (w5.setCell ⟨C, 0, none⟩ (.slice (some ⟨g5, 0, none⟩) (ds.length + 1) cap5)) B C (ds ++ [d]) good (.slice (some ⟨g5, 0, none⟩) (ds.length + 1) cap5) := by
  have hC : C < w.drew.heap.size := cell_lt h.d
  have h5 : g5 ≠ C := by
    rcases hat with e | e
    · intro e2; exact h.ne (by rw [e, e2])
    · have : C < w.heap.size := hC
      omega
  refine ⟨World.cell?_setCell_same _ _ _ ((far_cell hg hC h.ne).trans h.d), ?_, ?_, ?_, ?_, ?_⟩
  · rw [World.frozen?_setCell]; exact (far_free hg hC h.ne).trans h.fd
  · exact (World.cell?_setCell_other _ ⟨C, 0, none⟩ ⟨C, 1, none⟩ _ (by simp)).trans ((far_cell hg hC h.ne).trans h.g)
  · rw [World.frozen?_setCell]; exact (far_free hg hC h.ne).trans h.fg
  · rw [Dns_snoc, List.length_append, List.length_singleton]
    exact own_keep hO fun k hk => heap_set (by simp [Value.ownBlock] at hk; subst hk; exact h5)
  · simpa [Value.ownBlock] using h5
theorem WT.told {w w5 : World} {C : Nat} {v u : Value} {o : Obj} (hg : (w.drew.alloc o).grownBy w5 v.ownBlock) : WT (fun k => k = C ∨ v.ownBlock = some k) w (w5.setCell ⟨C, 0, none⟩ u) :=
  have h1 : WT (fun k => k = C ∨ v.ownBlock = some k) w (w.drew.alloc o) := WT.of_below (Below.alloc (Below.drew (Below.refl _ _)) (Nat.le_refl _) _)
  (h1.trans (W' := fun k => v.ownBlock = some k) (WT.of_grown hg fun _ h => h) fun _ hk => .inl (.inr hk)).trans (W' := fun k => k = C) (WT.set (W := fun k => k = C) w5 rfl u) fun _ hk => .inl (.inl hk)
theorem told_own {v : Value} {g5 n n5 cap5 : Nat} (hat : v.ownBlock = some g5 ∨ g5 = n + 1) : ∀ k, (Value.slice (some ⟨g5, 0, none⟩) n5 cap5).ownBlock = some k → v.ownBlock = some k ∨ n ≤ k := fun k hk => by
  simp [Value.ownBlock] at hk
  subst hk
  rcases hat with e | e
  · exact .inl e
  · right; omega
theorem Clo.good {w : World} {B C : Nat} {ds : List (Int × Rs)} {good b : Bool} {v : Value} (h : Clo w B C ds good v) (n : Nat) : Clo ((w.drewN n).setCell ⟨C, 1, none⟩ (.bool b)) B C ds b v where
  d := (World.cell?_setCell_other _ ⟨C, 1, none⟩ ⟨C, 0, none⟩ _ (by simp)).trans h.d
  fd := by rw [World.frozen?_setCell]; exact h.fd
  g := World.cell?_setCell_same _ _ _ h.g
  fg := by rw [World.frozen?_setCell]; exact h.fg
  row := own_keep h.row fun k hk => heap_set (w := w.drewN n) fun e => h.ne (by rw [hk]; exact congrArg some e)
  ne := h.ne
theorem told_wt {w w3 w' : World} {C g n : Nat} {v : Value} {b : Bool} (h3 : WT (fun k => k = g) w w3) (h : WT (fun k => k = C ∨ v.ownBlock = some k) ((w3.drewN n).setCell ⟨C, 1, none⟩ (.bool b)) w') : WT (fun k => k = C ∨ v.ownBlock = some k ∨ k = g) w w' :=
  (((h3.more (W' := fun k => k = C ∨ v.ownBlock = some k ∨ k = g) fun _ hk => .inr (.inr hk)).trans (WT.drewN (W := fun _ => False) w3 n) fun _ hk => hk.elim).trans (WT.set (W := fun k => k = C) (w3.drewN n) rfl _) fun _ hk => .inl (.inl hk)).trans h fun _ hk => .inl (hk.imp id .inl)
theorem sizeR : (Try.prog.info? 41).map (·.size) = some 10 := by kernel_rfl
theorem res_is (v : Value) (xT : TypeId) (w : World) : (Instr.typeAssert (.iface 41 v) xT 41 true).run Try.prog w = .ok (.tuple #[v, .bool true]) w := by
  simp [Instr.typeAssert, run_underlying Try.underlying41, zeroValue, typeInfo]
theorem wpOpsS_value {P : Program} {ops : Array Oper} {Q : Exit → Act → List Frame → World → Prop} {i : Nat} {rest : List Nat} {a : Act} {cs : List Frame} {w : World} {o : Oper} {d : Option Tmp} (v : Value) (w' : World) (ho : ops[i]? = some o) (hw : Region.wanted o (yielded ops a.tmps) = true)
    (hr : (execOp a.eval o).run P w = .ok (.value v) w') (hd : o.dst = d) (h : wpOpsS P ops Q rest (a.put d v) cs w') : wpOpsS P ops Q (i :: rest) a cs w := by
  subst hd
  simp only [wpOpsS, ho, hw, if_true, hr, Oper.upon]
  exact h
theorem wpOpsS_skip {P : Program} {ops : Array Oper} {Q : Exit → Act → List Frame → World → Prop} {i : Nat} {rest : List Nat} {a : Act} {cs : List Frame} {w : World} {o : Oper} (w' : World) (ho : ops[i]? = some o) (hw : Region.wanted o (yielded ops a.tmps) = true)
    (hr : (execOp a.eval o).run P w = .ok .skip w') (hd : o.dst = none) (h : wpOpsS P ops Q rest a cs w') : wpOpsS P ops Q (i :: rest) a cs w := by
  simp only [wpOpsS, ho, hw, if_true, hr, Oper.upon, hd]
  exact h
theorem wpOpsS_recover {P : Program} {ops : Array Oper} {Q : Exit → Act → List Frame → World → Prop} {i : Nat} {rest : List Nat} {a : Act} {cs cs' : List Frame} {w : World} {o : Oper} {d : Option Tmp} (v : Value) (ho : ops[i]? = some o) (hw : Region.wanted o (yielded ops a.tmps) = true)
    (hr : (execOp a.eval o).run P w = .ok .recover w) (hc : recoverD cs = some (v, cs')) (hd : o.dst = d) (h : wpOpsS P ops Q rest (a.put d v) cs' w) : wpOpsS P ops Q (i :: rest) a cs w := by
  subst hd
  simp only [wpOpsS, ho, hw, if_true, hr, hc]
  exact h
theorem run_store_new {P : Program} {o : Oper} {a : Act} {w : World} {t : TypeId} {x y : Operand} {c c' : Array Value} (ho : o.op = .store t x y) (hx : a.eval x = .pointer (some ⟨w.heap.size, 0, none⟩)) (hy : a.eval y = .agg c') (hi : (P.info? t).map (·.size) = some c'.size) (hs : c.size = c'.size) (h1 : c'.all (·.oneCell') = true) :
    (execOp a.eval o).run P (w.alloc (.cells c t)) = .ok .skip (w.alloc (.cells c' t)) := by
  unfold execOp
  simp only [ho, hx, hy, Instr.storeAt, Instr.sureAddr, Sem.run_bind, Sem.run_pure, Result.andThen_ok, run_storeVar_new w t c c' hi hs h1]
-- told_last
theorem run_build_done (id err code pk pn : Int) (has : Bool) (w : World) : (Instr.build 74 #[(0, .int .i64 id), (1, .agg #[.int .i64 err, .int .i64 code, .int .i64 pk, .int .i64 pn, .bool has, .int .i64 0, .int .i64 0, .int .u64 0, .string ByteArray.empty, .slice none 0 0])]).run Try.prog w = .ok (.agg #[.int .i64 id, .int .i64 err, .int .i64 code, .int .i64 pk, .int .i64 pn, .bool has, .int .i64 0, .int .i64 0, .int .u64 0, .string ByteArray.empty, .slice none 0 0]) w := run_build w 74 _ _ (by kernel_rfl)
theorem run_slice_done (id err code pk pn : Int) (has : Bool) (w : World) : (Instr.buildSlice 42 1 #[(0, .agg #[.int .i64 id, .int .i64 err, .int .i64 code, .int .i64 pk, .int .i64 pn, .bool has, .int .i64 0, .int .i64 0, .int .u64 0, .string ByteArray.empty, .slice none 0 0])]).run Try.prog w = .ok (.slice (some ⟨w.heap.size, 0, none⟩) 1 1) (w.alloc (.cells #[.int .i64 id, .int .i64 err, .int .i64 code, .int .i64 pk, .int .i64 pn, .bool has, .int .i64 0, .int .i64 0, .int .u64 0, .string ByteArray.empty, .slice none 0 0] 74)) := by
  obtain ⟨ie, hie, hz, hs, hb⟩ : ∃ ie, Try.prog.info? 74 = some ie ∧ ie.zero = some (.agg #[.int .i64 0, .int .i64 0, .int .i64 0, .int .i64 0, .int .i64 0, .bool false, .int .i64 0, .int .i64 0, .int .u64 0, .string ByteArray.empty, .slice none 0 0]) ∧ ie.size = 11 ∧ True := ⟨_, rfl, by kernel_rfl, by kernel_rfl, trivial⟩
  exact run_buildSlice w 42 74 1 _ _ ie _ Try.underlying42 hie hz (by rw [hs]; omega) (by rw [hs]; omega) (by rw [hs]; kernel_rfl)
set_option maxRecDepth 100000 in
set_option maxHeartbeats 2000000 in
theorem told_last (c1 c2 c3 c4 : Code) (hcode : (Try.prog.funcs[27]?).bind (·.body) = some (.seq c1 (.seq c2 (.seq c3 c4)))) (w : World) (B C g pc pth th : Nat) (ds : List (Int × Rs)) (good : Bool) (v : Value) (id err code pk pn : Int) (has : Bool) (t3 t4 t5 t6 t7 t8 t9 t10 t11 t12 t13 t14 t15 t16 t17 t18 t19 t20 t21 t22 t23 t24 : Value)
    (h : Clo w B C ds good v) (hg : Blk w g 41 #[.int .i64 err, .int .i64 code, .int .i64 pk, .int .i64 pn, .bool has, .int .i64 0, .int .i64 0, .int .u64 0, .string ByteArray.empty, .slice none 0 0]) (hgn : g ≠ C ∧ g ≠ pc ∧ g ≠ pth ∧ g ≠ th ∧ v.ownBlock ≠ some g)
    (hc : w.cell? ⟨pc, 0, none⟩ = some (.pointer (some ⟨C, 0, none⟩))) (ht : w.cell? ⟨pth, 0, none⟩ = some (.pointer (some ⟨th, 0, none⟩)))
    (hn : w.cell? ⟨th, 0, none⟩ = some (.int .i64 id)) (hne : C ≠ pc ∧ C ≠ pth ∧ C ≠ th) (hov : v.ownBlock ≠ some pc ∧ v.ownBlock ≠ some pth ∧ v.ownBlock ≠ some th) (hl : ds.length ≤ 1000000) (hB : B ≤ w.heap.size) (Q : Exit → Act → World → Prop)
    (hQ : ∀ a w' v', a.defers = [] → Clo w' B C (ds ++ [(id, ⟨err, code, pk, pn, has⟩)]) good v' → WT (fun k => k = C ∨ v.ownBlock = some k) w w' → (∀ k, v'.ownBlock = some k → v.ownBlock = some k ∨ w.heap.size ≤ k) → Q .normal a w') :
    c4.wp Try.prog Q { tmps := (.pointer (some ⟨pc, 0, none⟩) :: .pointer (some ⟨pth, 0, none⟩) :: .pointer (some ⟨g, 0, none⟩) :: t3 :: t4 :: t5 :: t6 :: t7 :: t8 :: t9 :: t10 :: t11 :: t12 :: t13 :: t14 :: t15 :: t16 :: t17 :: t18 :: t19 :: t20 :: t21 :: t22 :: t23 :: t24 :: List.replicate 15 undef).toArray, defers := [] } w := by
  rw [Try.func27] at hcode
  simp only [Option.bind_some] at hcode
  have hcode' : some (Code.seq _ (Code.seq _ (Code.seq _ _))) = some (c1.seq (c2.seq (c3.seq c4))) := hcode
  injection hcode' with hcode'
  injection hcode' with _ hc2
  injection hc2 with _ hc2
  injection hc2 with _ hc2
  subst hc2
  clear hcode
  simp only [List.replicate_succ, List.replicate_zero]
  obtain ⟨i0, hi0, hz0, hz1, hz2⟩ := info_parts infoDn
  have hDn := run_build_done
  have hSn := run_slice_done
  have H := Lib.hid h
  have HQ := Lib.hid hQ
  have HGN := Lib.hid hgn
  have HNE := Lib.hid hne
  have HOV := Lib.hid hov
  have d0 := h.d
  have HLT : Hid (pc < w.heap.size ∧ pth < w.heap.size ∧ th < w.heap.size ∧ g < w.heap.size ∧ C < w.heap.size) := ⟨cell_lt hc, cell_lt ht, cell_lt hn, hg.lt, cell_lt d0⟩
  clear h hQ hgn hne hov
  refine wp_region_noPanic ?_
  refine wp_region_held_drew (S := (fun w' => w'.cell? ⟨pc, 0, none⟩ = some (.pointer (some ⟨C, 0, none⟩)) ∧ w'.cell? ⟨pth, 0, none⟩ = some (.pointer (some ⟨th, 0, none⟩)) ∧ w'.cell? ⟨th, 0, none⟩ = some (.int .i64 id) ∧ Blk w' g 41 #[.int .i64 err, .int .i64 code, .int .i64 pk, .int .i64 pn, .bool has, .int .i64 0, .int .i64 0, .int .u64 0, .string ByteArray.empty, .slice none 0 0])) (by kernel_rfl) ⟨hc, ht, hn, hg⟩ (fun hHeld => ?_)
  refine wpAnyH_take (i := 0) (v := ?_) rfl (by kernel_rfl) (by kernel_rfl) (by kernel_rfl) (fun _ _ _ h => h) (Or.inl ⟨by rfl, ?_⟩) hHeld ?_
  rotate_left
  · rintro w ⟨hS1, hS2, hS3, hS4⟩
    first | (go_simp; done) | (go_simp; with_reducible rfl)
  try simp only [Act.put, List.getElem_toArray, List.getElem_cons_zero, List.setIfInBounds_toArray, List.set_cons_zero, List.set_cons_succ]
  refine wpAnyH_take (i := 1) (v := ?_) rfl (by kernel_rfl) (by kernel_rfl) (by kernel_rfl) (fun _ _ _ h => h) (Or.inl ⟨by rfl, ?_⟩) hHeld ?_
  rotate_left
  · rintro w ⟨hS1, hS2, hS3, hS4⟩
    first | (go_simp; done) | (go_simp; with_reducible rfl)
  try simp only [Act.put, List.getElem_toArray, List.getElem_cons_zero, List.getElem_cons_succ, List.setIfInBounds_toArray, List.set_cons_zero, List.set_cons_succ]
  refine wpAnyH_take (i := 2) (v := ?_) rfl (by kernel_rfl) (by kernel_rfl) (by kernel_rfl) (fun _ _ _ h => h) (Or.inl ⟨by rfl, ?_⟩) hHeld ?_
  rotate_left
  · rintro w ⟨hS1, hS2, hS3, hS4⟩
    first | (go_simp; done) | (go_simp; with_reducible rfl)
  try simp only [Act.put, List.getElem_toArray, List.getElem_cons_zero, List.getElem_cons_succ, List.setIfInBounds_toArray, List.set_cons_zero, List.set_cons_succ]
  refine wpAnyH_take (i := 3) (v := ?_) rfl (by kernel_rfl) (by kernel_rfl) (by kernel_rfl) (fun _ _ _ h => h) (Or.inl ⟨by rfl, ?_⟩) hHeld ?_
  rotate_left
  · rintro w ⟨hS1, hS2, hS3, hS4⟩
    first | (go_simp; done) | (go_simp; with_reducible rfl)
  try simp only [Act.put, List.getElem_toArray, List.getElem_cons_zero, List.getElem_cons_succ, List.setIfInBounds_toArray, List.set_cons_zero, List.set_cons_succ]
  refine wpAnyH_take (i := 5) (v := ?_) rfl (by kernel_rfl) (by kernel_rfl) (by kernel_rfl) (fun _ _ _ h => h) (Or.inl ⟨by rfl, ?_⟩) hHeld ?_
  rotate_left
  · rintro w ⟨hS1, hS2, hS3, hS4⟩
    first | (go_simp; done) | (go_simp; with_reducible rfl)
  try simp only [Act.put, List.getElem_toArray, List.getElem_cons_zero, List.getElem_cons_succ, List.setIfInBounds_toArray, List.set_cons_zero, List.set_cons_succ]
  refine wpAnyH_take (i := 6) (v := ?_) rfl (by kernel_rfl) (by kernel_rfl) (by kernel_rfl) (fun _ _ _ h => h) (Or.inl ⟨by rfl, ?_⟩) hHeld ?_
  rotate_left
  · rintro w ⟨hS1, hS2, hS3, hS4⟩
    first | (go_simp; done) | (go_simp; with_reducible rfl)
  try simp only [Act.put, List.getElem_toArray, List.getElem_cons_zero, List.getElem_cons_succ, List.setIfInBounds_toArray, List.set_cons_zero, List.set_cons_succ]
  refine wpAnyH_take (i := 7) (v := ?_) rfl (by kernel_rfl) (by kernel_rfl) (by kernel_rfl) (fun _ _ _ h => h) (Or.inl ⟨by rfl, ?_⟩) hHeld ?_
  rotate_left
  · rintro w ⟨hS1, hS2, hS3, hS4⟩
    first | (go_simp; done) | (go_simp; with_reducible rfl)
  try simp only [Act.put, List.getElem_toArray, List.getElem_cons_zero, List.getElem_cons_succ, List.setIfInBounds_toArray, List.set_cons_zero, List.set_cons_succ]
  refine wpAnyH_take (i := 8) (v := ?_) rfl (by kernel_rfl) (by kernel_rfl) (by kernel_rfl) (fun _ _ _ h => h) (Or.inl ⟨by rfl, ?_⟩) hHeld ?_
  rotate_left
  · rintro w ⟨hS1, hS2, hS3, hS4⟩
    first | (go_simp; done) | (go_simp; with_reducible rfl)
  try simp only [Act.put, List.getElem_toArray, List.getElem_cons_zero, List.getElem_cons_succ, List.setIfInBounds_toArray, List.set_cons_zero, List.set_cons_succ]
  refine wpAnyH_take (i := 9) (v := .agg #[.int .i64 err, .int .i64 code, .int .i64 pk, .int .i64 pn, .bool has, .int .i64 0, .int .i64 0, .int .u64 0, .string ByteArray.empty, .slice none 0 0]) rfl (by kernel_rfl) (by kernel_rfl) (by kernel_rfl) (fun _ _ _ h => h) (yieldsIf_load_mid (by rfl) 41 _ rfl g 0 (by rfl) [.int .i64 err, .int .i64 code, .int .i64 pk, .int .i64 pn, .bool has, .int .i64 0, .int .i64 0, .int .u64 0, .string ByteArray.empty, .slice none 0 0] _ (fun w' h => Blk.range (pre := []) (post := []) h.2.2.2 rfl) Try.underlying41 rfl sizeR) hHeld ?_
  try simp only [Act.put, List.getElem_toArray, List.getElem_cons_zero, List.getElem_cons_succ, List.setIfInBounds_toArray, List.set_cons_zero, List.set_cons_succ]
  refine wpAnyH_take (i := 10) (v := .agg #[.int .i64 id, .int .i64 err, .int .i64 code, .int .i64 pk, .int .i64 pn, .bool has, .int .i64 0, .int .i64 0, .int .u64 0, .string ByteArray.empty, .slice none 0 0]) rfl (by kernel_rfl) (by kernel_rfl) (by kernel_rfl) (fun _ _ _ h => h) (Or.inl ⟨by rfl, fun w' _ => ?_⟩) hHeld ?_
  · go_simp
  try simp only [Act.put, List.getElem_toArray, List.getElem_cons_zero, List.getElem_cons_succ, List.setIfInBounds_toArray, List.set_cons_zero, List.set_cons_succ]
  refine wpAnyH_ready (rs := [4, 11]) (by kernel_rfl) (by simp) ?_
  refine AllReadyH.cons rfl (fun K hK => ?_) (AllReadyH.cons rfl (fun K hK => ?_) AllReadyH.nil)
  · go_simp
    refine hK.out _ _ hHeld (fun hHeld2 => ?_)
    clear hHeld hK K
    have hHeld := hHeld2
    clear hHeld2
    try simp only [Act.put, List.getElem_toArray, List.getElem_cons_zero, List.getElem_cons_succ, List.setIfInBounds_toArray, List.set_cons_zero, List.set_cons_succ]
    refine wpAnyH_ready (rs := [11]) (by kernel_rfl) (by simp) ?_
    refine AllReadyH.cons rfl (fun K hK => ?_) AllReadyH.nil
    go_simp
    refine hK.out _ _ ⟨(alloc_cell HLT.out.1).trans hHeld.1, (alloc_cell HLT.out.2.1).trans hHeld.2.1, (alloc_cell HLT.out.2.2.1).trans hHeld.2.2.1, hHeld.2.2.2.alloc _⟩ (fun hHeld2 => ?_)
    clear hHeld hK K
    have hHeld := hHeld2
    clear hHeld2
    try simp only [Act.put, List.getElem_toArray, List.getElem_cons_zero, List.getElem_cons_succ, List.setIfInBounds_toArray, List.set_cons_zero, List.set_cons_succ]
    refine wpAnyH_ready (rs := [12]) (by kernel_rfl) (by simp) ?_
    refine AllReadyH.cons rfl (fun K hK => ?_) AllReadyH.nil
    refine step_append_lies _ (by rfl) _ _ _ (by rfl) B 74 i0 _ 11 112 Try.underlying42 hi0 hz0 hz1 hz2 rfl (by omega) v ds.length (Dns ds) (by rfl) (own_keep H.out.row (w' := w.drew.alloc _) fun k hk => alloc_old' (own_row H.out.row k hk).2)
      ⟨w.heap.size, 0, none⟩ 1 1 [.int .i64 id, .int .i64 err, .int .i64 code, .int .i64 pk, .int .i64 pn, .bool has, .int .i64 0, .int .i64 0, .int .u64 0, .string ByteArray.empty, .slice none 0 0] (by rfl) (by rfl)
      (World.news_of_block (cs := #[.int .i64 id, .int .i64 err, .int .i64 code, .int .i64 pk, .int .i64 pn, .bool has, .int .i64 0, .int .i64 0, .int .u64 0, .string ByteArray.empty, .slice none 0 0]) (t := 74) (fr := (0, 0)) (heap_alloc_new w.drew _)) (by simp [Value.oneCell'])
      (by omega) (by unfold maxLen; omega) (by omega) (by simp; omega) (w.heap.size + 1) (by simp) ?_
    intro g5 cap5 w5 hown5 hgrow5 hat5 hlt5
    replace hgrow5 : (w.drew.alloc (.cells #[.int .i64 id, .int .i64 err, .int .i64 code, .int .i64 pk, .int .i64 pn, .bool has, .int .i64 0, .int .i64 0, .int .u64 0, .string ByteArray.empty, .slice none 0 0] 74)).grownBy w5 v.ownBlock := hgrow5
    have HO5 := Lib.hid hown5
    have HAT := Lib.hid hat5
    have HG5 := Lib.hid hgrow5
    clear hown5 hat5
    refine hK.out _ _ ⟨(far_cell hgrow5 HLT.out.1 HOV.out.1).trans hc, (far_cell hgrow5 HLT.out.2.1 HOV.out.2.1).trans ht, (far_cell hgrow5 HLT.out.2.2.1 HOV.out.2.2).trans hn, (far_block hgrow5 HLT.out.2.2.2.1 HGN.out.2.2.2.2).trans hg⟩ (fun hHeld2 => ?_)
    clear hHeld hK K
    have hHeld := hHeld2
    clear hHeld2
    try simp only [Act.put, List.getElem_toArray, List.getElem_cons_zero, List.getElem_cons_succ, List.setIfInBounds_toArray, List.set_cons_zero, List.set_cons_succ]
    have c5 := (far_cell hgrow5 HLT.out.2.2.2.2 H.out.ne).trans d0
    have f5 := (far_free hgrow5 HLT.out.2.2.2.2 H.out.ne).trans H.out.fd
    clear hgrow5
    refine wpAnyH_take (i := 13) (v := ?_) rfl (by kernel_rfl) (by kernel_rfl) (by kernel_rfl) (fun _ _ _ h => h) (Or.inl ⟨by rfl, ?_⟩) hHeld ?_
    rotate_left
    · rintro w ⟨hS1, hS2, hS3, hS4⟩
      first | (go_simp; done) | (go_simp; with_reducible rfl)
    try simp only [Act.put, List.getElem_toArray, List.getElem_cons_zero, List.getElem_cons_succ, List.setIfInBounds_toArray, List.set_cons_zero, List.set_cons_succ]
    refine wpAnyH_take (i := 14) (v := ?_) rfl (by kernel_rfl) (by kernel_rfl) (by kernel_rfl) (fun _ _ _ h => h) (Or.inl ⟨by rfl, ?_⟩) hHeld ?_
    rotate_left
    · rintro w ⟨hS1, hS2, hS3, hS4⟩
      first | (go_simp; done) | (go_simp; with_reducible rfl)
    try simp only [Act.put, List.getElem_toArray, List.getElem_cons_zero, List.getElem_cons_succ, List.setIfInBounds_toArray, List.set_cons_zero, List.set_cons_succ]
    refine wpAnyH_ready (rs := [15]) (by kernel_rfl) (by simp) ?_
    refine AllReadyH.cons rfl (fun K hK => ?_) AllReadyH.nil
    go_simp
    refine hK.out _ _ ⟨(World.cell?_setCell_far _ _ _ _ HNE.out.1).trans hHeld.1, (World.cell?_setCell_far _ _ _ _ HNE.out.2.1).trans hHeld.2.1, (World.cell?_setCell_far _ _ _ _ HNE.out.2.2).trans hHeld.2.2.1, hHeld.2.2.2.far (p := ⟨C, 0, none⟩) HGN.out.1 _⟩ (fun hHeld2 => ?_)
    clear hHeld hK K
    refine wpAnyH_done (by kernel_rfl) ?_ _
    refine NoPanic.normal ?_
    exact HQ.out _ _ _ rfl (H.out.snoc HO5.out HG5.out HAT.out) (WT.told HG5.out) (told_own HAT.out)
  · go_simp
    refine hK.out _ _ ⟨(alloc_cell HLT.out.1).trans hHeld.1, (alloc_cell HLT.out.2.1).trans hHeld.2.1, (alloc_cell HLT.out.2.2.1).trans hHeld.2.2.1, hHeld.2.2.2.alloc _⟩ (fun hHeld2 => ?_)
    clear hHeld hK K
    have hHeld := hHeld2
    clear hHeld2
    try simp only [Act.put, List.getElem_toArray, List.getElem_cons_zero, List.getElem_cons_succ, List.setIfInBounds_toArray, List.set_cons_zero, List.set_cons_succ]
    refine wpAnyH_ready (rs := [4]) (by kernel_rfl) (by simp) ?_
    refine AllReadyH.cons rfl (fun K hK => ?_) AllReadyH.nil
    have d1 := (alloc_cell (o := .cells #[.int .i64 id, .int .i64 err, .int .i64 code, .int .i64 pk, .int .i64 pn, .bool has, .int .i64 0, .int .i64 0, .int .u64 0, .string ByteArray.empty, .slice none 0 0] 74) HLT.out.2.2.2.2).trans d0
    go_simp
    refine hK.out _ _ hHeld (fun hHeld2 => ?_)
    clear hHeld hK K
    have hHeld := hHeld2
    clear hHeld2
    try simp only [Act.put, List.getElem_toArray, List.getElem_cons_zero, List.getElem_cons_succ, List.setIfInBounds_toArray, List.set_cons_zero, List.set_cons_succ]
    refine wpAnyH_ready (rs := [12]) (by kernel_rfl) (by simp) ?_
    refine AllReadyH.cons rfl (fun K hK => ?_) AllReadyH.nil
    refine step_append_lies _ (by rfl) _ _ _ (by rfl) B 74 i0 _ 11 112 Try.underlying42 hi0 hz0 hz1 hz2 rfl (by omega) v ds.length (Dns ds) (by rfl) (own_keep H.out.row (w' := w.drew.alloc _) fun k hk => alloc_old' (own_row H.out.row k hk).2)
      ⟨w.heap.size, 0, none⟩ 1 1 [.int .i64 id, .int .i64 err, .int .i64 code, .int .i64 pk, .int .i64 pn, .bool has, .int .i64 0, .int .i64 0, .int .u64 0, .string ByteArray.empty, .slice none 0 0] (by rfl) (by rfl)
      (World.news_of_block (cs := #[.int .i64 id, .int .i64 err, .int .i64 code, .int .i64 pk, .int .i64 pn, .bool has, .int .i64 0, .int .i64 0, .int .u64 0, .string ByteArray.empty, .slice none 0 0]) (t := 74) (fr := (0, 0)) (heap_alloc_new w.drew _)) (by simp [Value.oneCell'])
      (by omega) (by unfold maxLen; omega) (by omega) (by simp; omega) (w.heap.size + 1) (by simp) ?_
    intro g5 cap5 w5 hown5 hgrow5 hat5 hlt5
    replace hgrow5 : (w.drew.alloc (.cells #[.int .i64 id, .int .i64 err, .int .i64 code, .int .i64 pk, .int .i64 pn, .bool has, .int .i64 0, .int .i64 0, .int .u64 0, .string ByteArray.empty, .slice none 0 0] 74)).grownBy w5 v.ownBlock := hgrow5
    have HO5 := Lib.hid hown5
    have HAT := Lib.hid hat5
    have HG5 := Lib.hid hgrow5
    clear hown5 hat5
    refine hK.out _ _ ⟨(far_cell hgrow5 HLT.out.1 HOV.out.1).trans hc, (far_cell hgrow5 HLT.out.2.1 HOV.out.2.1).trans ht, (far_cell hgrow5 HLT.out.2.2.1 HOV.out.2.2).trans hn, (far_block hgrow5 HLT.out.2.2.2.1 HGN.out.2.2.2.2).trans hg⟩ (fun hHeld2 => ?_)
    clear hHeld hK K
    have hHeld := hHeld2
    clear hHeld2
    try simp only [Act.put, List.getElem_toArray, List.getElem_cons_zero, List.getElem_cons_succ, List.setIfInBounds_toArray, List.set_cons_zero, List.set_cons_succ]
    have c5 := (far_cell hgrow5 HLT.out.2.2.2.2 H.out.ne).trans d0
    have f5 := (far_free hgrow5 HLT.out.2.2.2.2 H.out.ne).trans H.out.fd
    clear hgrow5
    refine wpAnyH_take (i := 13) (v := ?_) rfl (by kernel_rfl) (by kernel_rfl) (by kernel_rfl) (fun _ _ _ h => h) (Or.inl ⟨by rfl, ?_⟩) hHeld ?_
    rotate_left
    · rintro w ⟨hS1, hS2, hS3, hS4⟩
      first | (go_simp; done) | (go_simp; with_reducible rfl)
    try simp only [Act.put, List.getElem_toArray, List.getElem_cons_zero, List.getElem_cons_succ, List.setIfInBounds_toArray, List.set_cons_zero, List.set_cons_succ]
    refine wpAnyH_take (i := 14) (v := ?_) rfl (by kernel_rfl) (by kernel_rfl) (by kernel_rfl) (fun _ _ _ h => h) (Or.inl ⟨by rfl, ?_⟩) hHeld ?_
    rotate_left
    · rintro w ⟨hS1, hS2, hS3, hS4⟩
      first | (go_simp; done) | (go_simp; with_reducible rfl)
    try simp only [Act.put, List.getElem_toArray, List.getElem_cons_zero, List.getElem_cons_succ, List.setIfInBounds_toArray, List.set_cons_zero, List.set_cons_succ]
    refine wpAnyH_ready (rs := [15]) (by kernel_rfl) (by simp) ?_
    refine AllReadyH.cons rfl (fun K hK => ?_) AllReadyH.nil
    go_simp
    refine hK.out _ _ ⟨(World.cell?_setCell_far _ _ _ _ HNE.out.1).trans hHeld.1, (World.cell?_setCell_far _ _ _ _ HNE.out.2.1).trans hHeld.2.1, (World.cell?_setCell_far _ _ _ _ HNE.out.2.2).trans hHeld.2.2.1, hHeld.2.2.2.far (p := ⟨C, 0, none⟩) HGN.out.1 _⟩ (fun hHeld2 => ?_)
    clear hHeld hK K
    refine wpAnyH_done (by kernel_rfl) ?_ _
    refine NoPanic.normal ?_
    exact HQ.out _ _ _ rfl (H.out.snoc HO5.out HG5.out HAT.out) (WT.told HG5.out) (told_own HAT.out)
set_option maxRecDepth 100000 in
set_option maxHeartbeats 2000000 in
theorem told_rest (c1 c2 : Code) (hcode : (Try.prog.funcs[27]?).bind (·.body) = some (.seq c1 c2)) (w : World) (B C g pc pth th : Nat) (ds : List (Int × Rs)) (good : Bool) (v : Value) (id err code pk pn : Int) (has : Bool) (t3 t4 t5 t6 t7 t8 : Value)
    (h : Clo w B C ds good v) (hg : Blk w g 41 #[.int .i64 err, .int .i64 code, .int .i64 pk, .int .i64 pn, .bool has, .int .i64 0, .int .i64 0, .int .u64 0, .string ByteArray.empty, .slice none 0 0]) (hgn : g ≠ C ∧ g ≠ pc ∧ g ≠ pth ∧ g ≠ th ∧ v.ownBlock ≠ some g)
    (hc : w.cell? ⟨pc, 0, none⟩ = some (.pointer (some ⟨C, 0, none⟩))) (ht : w.cell? ⟨pth, 0, none⟩ = some (.pointer (some ⟨th, 0, none⟩)))
    (hn : w.cell? ⟨th, 0, none⟩ = some (.int .i64 id)) (hne : C ≠ pc ∧ C ≠ pth ∧ C ≠ th) (hov : v.ownBlock ≠ some pc ∧ v.ownBlock ≠ some pth ∧ v.ownBlock ≠ some th) (hl : ds.length ≤ 1000000) (hB : B ≤ w.heap.size) (Q : Exit → Act → World → Prop)
    (hQ : ∀ a w' v', a.defers = [] → Clo w' B C (ds ++ [(id, ⟨err, code, pk, pn, has⟩)]) (good && decide (err = 0)) v' → WT (fun k => k = C ∨ v.ownBlock = some k ∨ k = g) w w' → (∀ k, v'.ownBlock = some k → v.ownBlock = some k ∨ w.heap.size ≤ k) → Q .normal a w') :
    c2.wp Try.prog Q { tmps := (.pointer (some ⟨pc, 0, none⟩) :: .pointer (some ⟨pth, 0, none⟩) :: .pointer (some ⟨g, 0, none⟩) :: t3 :: t4 :: t5 :: t6 :: t7 :: t8 :: List.replicate 31 undef).toArray, defers := [] } w := by
  rw [Try.func27] at hcode
  simp only [Option.bind_some] at hcode
  have hcode' : some (Code.seq _ _) = some (c1.seq c2) := hcode
  injection hcode' with hcode'
  injection hcode' with _ hc2
  subst hc2
  have HCODE := Lib.hid hcode
  clear hcode
  simp only [List.replicate_succ, List.replicate_zero]
  have H := Lib.hid h
  have HG := Lib.hid hg
  have HQ := Lib.hid hQ
  clear h hQ
  have e0 := hg.cell 4
  have e1 := hg.cell 5
  have e2 := hg.cell 6
  have e3 := hg.cell 7
  have e4 := hg.cell 8
  have e5 := hg.cell 9
  simp only [List.getElem?_toArray, List.getElem?_cons_succ, List.getElem?_cons_zero] at e0 e1 e2 e3 e4 e5
  clear hg
  go_upto_region 2 with (first
    | (refine wpList_load_blk rfl 39 _ rfl g 5 rfl zD _ (Blk.range (pre := [.int .i64 err, .int .i64 code, .int .i64 pk, .int .i64 pn, .bool has]) (post := []) HG.out rfl) Try.underlying39 rfl sizeD ?_)
    | (go_at_call 23; refine (clone_zero _).mono ?_; rintro e w2 ⟨rfl, hb2⟩)
    | (refine wpList_store_blk (T := 41) rfl 39 _ _ rfl g 5 [.int .i64 err, .int .i64 code, .int .i64 pk, .int .i64 pn, .bool has] zD [] zD rfl rfl (HG.out.under hb2 HG.out.lt) rfl rfl sizeD (by simp [Value.oneCell']) ?_; intro w3 hg3 hu3))
  have hwt3 : WT (fun k => k = g) w w3 := (WT.of_below (W := fun k => k = g) hb2).trans (W' := fun k => k = g) ⟨(hu3.below 0 (Nat.zero_le _)).os, (hu3.below 0 (Nat.zero_le _)).tape, (hu3.below 0 (Nat.zero_le _)).output, Nat.le_of_eq hu3.size.symm, fun k _ hk => hu3.far k hk⟩ fun k hk => .inl hk
  have h3 := H.out.wt hwt3 (fun e => hgn.1 e.symm) (fun k hk e => hgn.2.2.2.2 (by rw [hk, e]))
  replace hc := hwt3.cell (fun e => hgn.2.1 e.symm) hc
  replace ht := hwt3.cell (fun e => hgn.2.2.1 e.symm) ht
  replace hn := hwt3.cell (fun e => hgn.2.2.2.1 e.symm) hn
  have hsz3 := hwt3.size
  have HWT3 := Lib.hid hwt3
  have HG3 := Lib.hid hg3
  have H3 := Lib.hid h3
  have q0 := hg3.cell 0
  have q1 := h3.g
  have q2 := h3.fg
  simp only [List.getElem?_toArray, List.getElem?_cons_zero, List.cons_append] at q0
  clear hwt3 hg3 h3 hu3 hb2 H HG e0 e1 e2 e3 e4 e5
  simp only [Act.put]
  go_upto_region 2 with fail
  cases good
  · go_still_tail 12, (by kernel_rfl)
    go_upto_region 3 with fail
    refine told_last c1 _ _ _ HCODE.out _ B C g pc pth th ds false v id err code pk pn has _ _ _ _ _ _ _ _ _ _ _ _ _ _ _ _ _ _ _ _ _ _ (H3.out.good (b := false) 1) (HG3.out.far (by simpa using hgn.1) _) hgn ((World.cell?_setCell_far _ _ _ _ hne.1).trans hc) ((World.cell?_setCell_far _ _ _ _ hne.2.1).trans ht) ((World.cell?_setCell_far _ _ _ _ hne.2.2).trans hn) hne hov hl (by simp; omega) Q fun a w' v' hd hcl hwt hown => ?_
    exact HQ.out a w' v' hd (by simpa using hcl) (told_wt HWT3.out hwt) fun k hk => (hown k hk).imp (fun h => h) fun h => by simp at h; omega
  · go_still_tail 12, (by kernel_rfl)
    go_upto_region 3 with fail
    refine told_last c1 _ _ _ HCODE.out _ B C g pc pth th ds (err == 0) v id err code pk pn has _ _ _ _ _ _ _ _ _ _ _ _ _ _ _ _ _ _ _ _ _ _ (H3.out.good (b := err == 0) 1) (HG3.out.far (by simpa using hgn.1) _) hgn ((World.cell?_setCell_far _ _ _ _ hne.1).trans hc) ((World.cell?_setCell_far _ _ _ _ hne.2.1).trans ht) ((World.cell?_setCell_far _ _ _ _ hne.2.2).trans hn) hne hov hl (by simp; omega) Q fun a w' v' hd hcl hwt hown => ?_
    exact HQ.out a w' v' hd (by rw [Bool.true_and, show decide (err = 0) = (err == 0) from rfl]; exact hcl) (told_wt HWT3.out hwt) fun k hk => (hown k hk).imp (fun h => h) fun h => by simp at h; omega
end Go.Proofs.Ytmkbdjekidcfaaa
