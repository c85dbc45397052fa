/- Must: what it throws is told. -/
import Derived.Test.YtpemgccocmdmbaaMu
import Derived.Deep.RegionWith
namespace Go.Proofs.Ytpemgccocmdmbaa
open Go.RowKit Go.Deep

theorem lack_is (v : Value) (xT : TypeId) (w : World) : (Instr.typeAssert (.iface 66 v) xT 66 true).run Try.prog w = .ok (.tuple #[v, .bool true]) w := by
  simp [Instr.typeAssert, run_underlying Try.underlying66, zeroValue, typeInfo]

/-- What the closure leaves when it has caught a panic. -/
def Told (B5 B6 : Nat) (k : Int) (w w' : World) : Prop :=
  Blk w' B5 41 #[.int .i64 k, .int .i64 (-1)] ∧ Blk w' B6 42 #[.int .i64 20] ∧ (∀ g, g < w.heap.size → g ≠ B5 → g ≠ B6 → w'.heap[g]? = w.heap[g]?) ∧ w.heap.size ≤ w'.heap.size ∧ ∀ B, B ≤ B5 → B ≤ B6 → Below B w w'

set_option maxRecDepth 100000 in
set_option maxHeartbeats 4000000 in
theorem catch_panicking (B5 B6 : Nat) (hne : B5 ≠ B6) (k : Int) (u0 u1 v0 : Value) (older : List PanicEntry) (w : World) (h5 : Blk w B5 41 #[u0, u1]) (h6 : Blk w B6 42 #[v0]) :
    CallsD Try.prog 50 #[.pointer (some ⟨B5, 0, none⟩), .pointer (some ⟨B6, 0, none⟩)] (.panicking ({ v := .iface 66 (.agg #[.int .i64 k, .int .i64 (-1)]), recovered := false } :: older)) w fun e u' w' =>
      e = .returned (.tuple #[]) ∧ u' = .panicking ({ v := .iface 66 (.agg #[.int .i64 k, .int .i64 (-1)]), recovered := true } :: older) ∧ Told B5 B6 k w w' := by
  have hl := lack_is
  refine callsD_of_wpS Try.func50 rfl fun c₀ cs hu => ?_
  apply wpS_seq
  apply wpS_region
  simp [wpOpsS, go_sem, recoverD, hu, Try.ntmps50, Exit.thenS]
  have b0 := h5.free 0
  have b1 := h5.free 1
  have b2 := h6.free 0
  have z0 := h5.cell 0
  have z1 := h5.cell 1
  have z2 := h6.cell 0
  have l5 := h5.lt
  have l6 := h6.lt
  simp only [List.getElem?_toArray, List.getElem?_cons_succ, List.getElem?_cons_zero] at z0 z1 z2
  have HU := Lib.hid hu
  have H5 := Lib.hid h5
  have H6 := Lib.hid h6
  have hne' : B6 ≠ B5 := fun e => hne e.symm
  clear hu h5 h6
  refine wpS_of_wp ?_
  simp only [Array.replicate_succ, Array.replicate_zero, List.push_toArray, List.append_toArray, List.nil_append, List.cons_append, List.setIfInBounds_toArray, List.set_cons_zero, List.set_cons_succ]
  go_wp2_with fail
  have HH5 := H5.out
  have HH6 := H6.out
  simp [bodyPostS, results, Try.results50]
  refine ⟨(((HH5.set 0 _).set 1 _).far (by simpa using hne) _).alloc _, (((HH6.far (by simpa using hne') _).far (by simpa using hne') _).set 0 _).alloc _, fun g h1 h2 h3 => ?_, by simp, fun B h1 h2 => ?_⟩
  · exact (alloc_old' (by simpa using h1)).trans ((heap_set (by simpa using h3)).trans ((heap_set (by simpa using h2)).trans (heap_set (by simpa using h2))))
  · exact ((((Below.refl B w).setCell (by simpa using h1) _).setCell (by simpa using h1) _).setCell (by simpa using h2) _).alloc (by simp; omega) _

set_option maxRecDepth 100000 in
set_option maxHeartbeats 4000000 in
theorem catch_idle (p q : Addr) (w : World) :
    CallsD Try.prog 50 #[.pointer (some p), .pointer (some q)] .returning w fun e u' w' => e = .returned (.tuple #[]) ∧ u' = .returning ∧ w' = w := by
  refine callsD_of_wpS Try.func50 rfl fun c₀ cs hu => ?_
  apply wpS_seq
  apply wpS_region
  simp [wpOpsS, go_sem, recoverD, hu, Try.ntmps50, Exit.thenS]
  have HU := Lib.hid hu
  refine wpS_of_wp ?_
  simp only [Array.replicate_succ, Array.replicate_zero, List.push_toArray, List.append_toArray, List.nil_append, List.cons_append, List.setIfInBounds_toArray, List.set_cons_zero, List.set_cons_succ]
  clear hu
  go_wp2_with fail
  have hu := HU.out
  cases c₀
  simp_all [bodyPostS, results, Try.results50]

/-- What the region leaves that panics: the panic, the deferred call, the places of the results. -/
def MQ (W0 : World) (c0 : List PanicEntry) (D : List Deferred) (p4 p5 p6 : Value) : Exit → Act → World → Prop
  | .panic c, a, w => c = c0 ∧ a.defers = D ∧ a.tmps[4]?.getD undef = p4 ∧ a.tmps[5]?.getD undef = p5 ∧ a.tmps[6]?.getD undef = p6 ∧ Below W0.heap.size W0 w
  | _, _, _ => False
theorem MQ.put {W0 : World} {c0 : List PanicEntry} {D : List Deferred} {p4 p5 p6 : Value} {i : Nat} {v : Value} (h4 : i ≠ 4) (h5 : i ≠ 5) (h6 : i ≠ 6) : ∀ c a w, MQ W0 c0 D p4 p5 p6 (.panic c) (a.put (some i) v) w → MQ W0 c0 D p4 p5 p6 (.panic c) a w := by
  intro c a w h
  simpa [MQ, Act.put, Array.getElem?_setIfInBounds, h4, h5, h6] using h

set_option maxRecDepth 100000 in
set_option maxHeartbeats 4000000 in
theorem Must_no (d : Tree) (q : Int) (cs : List Value) (S : Nat → Prop) (h : isT d.kind q = false) (w : World) (hd : IsD w S d cs) (_hS : ∀ y, S y → y < w.heap.size) :
    Calls Try.prog 27 #[.agg cs.toArray, .int .i64 q] w fun e w' => e = .returned (.tuple #[.agg #[.int .i64 0, .int .i64 0, .int .u64 0, .string ByteArray.empty, .slice none 0 0], .agg #[.int .i64 d.kind, .int .i64 (-1)], .int .i64 20]) ∧ Below w.heap.size w w' := by
  obtain ⟨k, i, b, x, l⟩ := d
  obtain ⟨a, c, rfl, -⟩ := hd.open_
  simp only [Tree.kind] at h ⊢
  have hmf : ∀ (fn : Fn) (first cap : Array Value) (w : World), (Instr.makeFunc fn first cap).run Try.prog w = .ok (.func fn first cap) w := fun _ _ _ _ => rfl
  go_enter_defers Try.func27, Try.ntmps27
  go_wp2_with fail
  have HH := Lib.hid h
  clear h hd
  show Code.wp _ _ _ _ ((((w.alloc (.cells #[.int .i64 k, .int .i64 i, .int .u64 b, .string x, .slice a l.length c] 30)).alloc (.cells #[.int .i64 0, .int .i64 0, .int .u64 0, .string ByteArray.empty, .slice none 0 0] 30)).alloc (.cells #[.int .i64 0, .int .i64 0] 41)).alloc (.cells #[.int .i64 0] 42))
  generalize hW : ((((w.alloc (.cells #[.int .i64 k, .int .i64 i, .int .u64 b, .string x, .slice a l.length c] 30)).alloc (.cells #[.int .i64 0, .int .i64 0, .int .u64 0, .string ByteArray.empty, .slice none 0 0] 30)).alloc (.cells #[.int .i64 0, .int .i64 0] 41)).alloc (.cells #[.int .i64 0] 42)) = W0
  have hB0 : Below w.heap.size w W0 := by rw [← hW]; go_grown
  have b4 : Blk W0 w.heap.size 30 #[.int .i64 k, .int .i64 i, .int .u64 b, .string x, .slice a l.length c] := by rw [← hW]; exact (((Blk.new _ _ _).alloc _).alloc _).alloc _
  have b5 : Blk W0 (w.heap.size + 1) 30 #[.int .i64 0, .int .i64 0, .int .u64 0, .string ByteArray.empty, .slice none 0 0] := by rw [← hW]; exact ((Blk.new' _ _ _ (by simp)).alloc _).alloc _
  have b6 : Blk W0 (w.heap.size + 1 + 1) 41 #[.int .i64 0, .int .i64 0] := by rw [← hW]; exact (Blk.new' _ _ _ (by simp)).alloc _
  have b7 : Blk W0 (w.heap.size + 1 + 1 + 1) 42 #[.int .i64 0] := by rw [← hW]; exact Blk.new' _ _ _ (by simp)
  have x0 := b4.cell 0
  have x1 := b4.cell 1
  have x2 := b4.cell 2
  have x3 := b4.cell 3
  have x4 := b4.cell 4
  simp only [List.getElem?_toArray, List.getElem?_cons_succ, List.getElem?_cons_zero] at x0 x1 x2 x3 x4
  have l4 := b4.lt
  have B4 := Lib.hid b4
  have B5 := Lib.hid b5
  have B6 := Lib.hid b6
  have B7 := Lib.hid b7
  clear hW b4 b5 b6 b7
  refine Code.wp_mono (Q := MQ W0 [{ v := .iface 66 (.agg #[.int .i64 k, .int .i64 (-1)]), recovered := false }] [{ target := .fn (.func 50) #[.pointer (some ⟨w.heap.size + 1 + 1, 0, none⟩), .pointer (some ⟨w.heap.size + 1 + 1 + 1, 0, none⟩)], args := #[] }] (.pointer (some ⟨w.heap.size + 1, 0, none⟩)) (.pointer (some ⟨w.heap.size + 1 + 1, 0, none⟩)) (.pointer (some ⟨w.heap.size + 1 + 1 + 1, 0, none⟩))) ?imp ?_
  case imp =>
    intro e a1 w1 h
    cases e <;> first | exact h.elim | skip
    obtain ⟨rfl, hdf, h4, h5, h6, hb⟩ := h
    show Leaves _ _ a1.tmps _ a1.defers _ w1
    rw [hdf]
    refine leaves_cons (f := 50) (args := #[.pointer (some ⟨w.heap.size + 1 + 1, 0, none⟩), .pointer (some ⟨w.heap.size + 1 + 1 + 1, 0, none⟩)]) (by simp) (by simp [go_sem]) ?_
    refine (catch_panicking (w.heap.size + 1 + 1) (w.heap.size + 1 + 1 + 1) (by omega) k _ _ _ [] w1 (B6.out.under hb B6.out.lt) (B7.out.under hb B7.out.lt)).mono ?_
    rintro e u' w'' ⟨rfl, rfl, hT5, hT6, hTk, hTs, hTB⟩
    have t4 : Blk w'' (w.heap.size + 1) 30 _ := (hTk _ (Nat.lt_of_lt_of_le B5.out.lt hb.size) (by omega) (by omega)).trans (B5.out.under hb B5.out.lt)
    have q0 := t4.cell 0
    have q1 := t4.cell 1
    have q2 := t4.cell 2
    have q3 := t4.cell 3
    have q4 := t4.cell 4
    have q5 := hT5.cell 0
    have q6 := hT5.cell 1
    have q7 := hT6.cell 0
    simp only [List.getElem?_toArray, List.getElem?_cons_succ, List.getElem?_cons_zero] at q0 q1 q2 q3 q4 q5 q6 q7
    have hB3 : Below w.heap.size w w'' := (below_on hb hB0).trans (hTB w.heap.size (by omega) (by omega))
    simp only [settle, List.dropWhile]
    refine ⟨.tuple #[.agg #[.int .i64 0, .int .i64 0, .int .u64 0, .string ByteArray.empty, .slice none 0 0], .agg #[.int .i64 k, .int .i64 (-1)], .int .i64 20], ?_, rfl, hB3⟩
    simp [results, Try.results27, go_sem, h4, h5, h6, q0, q1, q2, q3, q4, q5, q6, q7]
  refine wp_region_held_drew (S := (fun w' => w'.cell? ⟨w.heap.size, 0, none⟩ = some (.int .i64 k) ∧ w'.cell? ⟨w.heap.size, 1, none⟩ = some (.int .i64 i) ∧ w'.cell? ⟨w.heap.size, 2, none⟩ = some (.int .u64 b) ∧ w'.cell? ⟨w.heap.size, 3, none⟩ = some (.string x) ∧ w'.cell? ⟨w.heap.size, 4, none⟩ = some (.slice a l.length c) ∧ Below W0.heap.size W0 w')) (by kernel_rfl) ?_ (fun hHeld => ?_)
  · exact ⟨x0, x1, x2, x3, x4, (Below.refl _ _).drew⟩
  refine wpAnyH_take (i := 0) (v := ?_) rfl (by kernel_rfl) (by kernel_rfl) (by kernel_rfl) (MQ.put (by decide) (by decide) (by decide)) (Or.inl ⟨by rfl, ?_⟩) hHeld ?_
  rotate_left
  · intro w hSw
    try dsimp only at hSw
    first | (go_simp; done) | (go_simp; with_reducible rfl)
  try simp only [Act.put, List.getElem_toArray, List.getElem_cons_zero, List.setIfInBounds_toArray, List.set_cons_zero, List.set_cons_succ]
  refine wpAnyH_take (i := 1) (v := ?_) rfl (by kernel_rfl) (by kernel_rfl) (by kernel_rfl) (MQ.put (by decide) (by decide) (by decide)) (Or.inl ⟨by rfl, ?_⟩) hHeld ?_
  rotate_left
  · intro w hSw
    try dsimp only at hSw
    first | (go_simp; done) | (go_simp; with_reducible rfl)
  try simp only [Act.put, List.getElem_toArray, List.getElem_cons_zero, List.getElem_cons_succ, List.setIfInBounds_toArray, List.set_cons_zero, List.set_cons_succ]
  refine wpAnyH_take (i := 3) (v := ?_) rfl (by kernel_rfl) (by kernel_rfl) (by kernel_rfl) (MQ.put (by decide) (by decide) (by decide)) (Or.inl ⟨by rfl, ?_⟩) hHeld ?_
  rotate_left
  · intro w hSw
    try dsimp only at hSw
    first | (go_simp; done) | (go_simp; with_reducible rfl)
  try simp only [Act.put, List.getElem_toArray, List.getElem_cons_zero, List.getElem_cons_succ, List.setIfInBounds_toArray, List.set_cons_zero, List.set_cons_succ]
  refine wpAnyH_take (i := 4) (v := ?_) rfl (by kernel_rfl) (by kernel_rfl) (by kernel_rfl) (MQ.put (by decide) (by decide) (by decide)) (Or.inl ⟨by rfl, ?_⟩) hHeld ?_
  rotate_left
  · intro w hSw
    try dsimp only at hSw
    first | (go_simp; done) | (go_simp; with_reducible rfl)
  try simp only [Act.put, List.getElem_toArray, List.getElem_cons_zero, List.getElem_cons_succ, List.setIfInBounds_toArray, List.set_cons_zero, List.set_cons_succ]
  refine wpAnyH_take (i := 6) (v := ?_) rfl (by kernel_rfl) (by kernel_rfl) (by kernel_rfl) (MQ.put (by decide) (by decide) (by decide)) (Or.inl ⟨by rfl, ?_⟩) hHeld ?_
  rotate_left
  · intro w hSw
    try dsimp only at hSw
    first | (go_simp; done) | (go_simp; with_reducible rfl)
  try simp only [Act.put, List.getElem_toArray, List.getElem_cons_zero, List.getElem_cons_succ, List.setIfInBounds_toArray, List.set_cons_zero, List.set_cons_succ]
  refine wpAnyH_ready (rs := [2]) (by kernel_rfl) (by simp) ?_
  refine AllReadyH.cons rfl (fun K hK => ?_) AllReadyH.nil
  go_simp
  go_at_call 48
  refine (sample_any k _).mono ?_
  rintro e w1 ⟨⟨g, rfl⟩, hb⟩
  refine hK.out _ _ ?_ (fun hHeld2 => ?_)
  · go_split_ands
    exact ⟨cell_on hb (by assumption), cell_on hb (by assumption), cell_on hb (by assumption), cell_on hb (by assumption), cell_on hb (by assumption), below_on hb (by assumption)⟩
  clear hHeld hK K
  have hHeld := hHeld2
  clear hHeld2
  try simp only [Act.put, List.getElem_toArray, List.getElem_cons_zero, List.getElem_cons_succ, List.setIfInBounds_toArray, List.set_cons_zero, List.set_cons_succ]
  generalize hsv : sampleV g k = sv
  have HSV := Lib.hid hsv
  clear hsv
  refine wpAnyH_ready (rs := [5]) (by kernel_rfl) (by simp) ?_
  refine AllReadyH.cons rfl (fun K hK => ?_) AllReadyH.nil
  go_simp
  go_at_call 51
  refine (must_no k q i b x _ sv g HSV.out.symm HH.out _).mono ?_
  rintro e w2 ⟨rfl, hb2⟩
  go_split_ands
  exact ⟨rfl, rfl, rfl, rfl, rfl, below_on hb2 (by assumption)⟩
end Go.Proofs.Ytpemgccocmdmbaa
