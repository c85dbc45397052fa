/- each, slices.AppendSeq and slices.Collect over it: a row of copies. -/
import Derived.Test.YtmdcfmdjbncaoaaDoorBi
namespace Go.Proofs.YtmdcfmdjbncaoaaDoor
open Go.RowKit Go.Shelf
attribute [local go_sem] Oper.semAt_some

theorem each_any (a : Option Addr) (n c : Nat) (w : World) : Calls Tryd.prog 67 #[.slice a n c] w fun e w' => e = .returned (.func (.func 75) #[] #[.pointer (some ⟨w.heap.size, 0, none⟩)]) ∧ w' = w.alloc (.cells #[.slice a n c] 22) := by
  go_enter Tryd.func67, Tryd.ntmps67
  go_wp2_with fail
  go_ret
  exact ⟨rfl, rfl⟩

/-- What has been given, of the memory alone. -/
def Got (lo : Nat) (l : List MX) (xs : List CV) (W : World) : Prop := xs.length = l.length ∧ ∀ (j : Nat) (m : MX), l[j]? = some m → ∃ x : CV, xs[j]? = some x ∧ IsN W (Btw lo W.heap.size) m x.cells
theorem Given.got {lo sb : Nat} {l : List MX} {xs : List CV} {W : World} (h : Given lo sb l xs W) : Got lo l xs W :=
  ⟨h.1, fun j m hm => by obtain ⟨x, S, h1, h2, h3⟩ := h.2 j m hm; exact ⟨x, h1, h2.mono fun b hb => ⟨(h3 b hb).1, (h3 b hb).2.1⟩⟩⟩
theorem Got.fwd {lo : Nat} {l : List MX} {xs : List CV} {W W' : World} (h : Got lo l xs W) (hs : W.heap.size ≤ W'.heap.size) (hk : ∀ b o, lo ≤ b → W.heap[b]? = some o → o.isCells = true → W'.heap[b]? = some o) : Got lo l xs W' :=
  ⟨h.1, fun j m hm => by obtain ⟨x, h1, h2⟩ := h.2 j m hm; exact ⟨x, h1, h2.fwd (fun b hb => ⟨hb.1, Nat.lt_of_lt_of_le hb.2 hs⟩) fun b o hb ho hoc => hk b o hb.1 ho hoc⟩⟩
theorem cells_stay {W W' : World} {row : Option Nat} (hg : W.grownBy W' row) (hr : ∀ r, row = some r → ∃ o : Obj, W.heap[r]? = some o ∧ o.isCells = false) {b j : Nat} {v : Value} (hc : W.cell? ⟨b, j, none⟩ = some v) : W'.cell? ⟨b, j, none⟩ = some v := by
  obtain ⟨o, ho, hoc⟩ := cells_of_cell hc
  rw [World.cell?_of_block (w := W) (w' := W') (a := ⟨b, j, none⟩) (grownBy_keeps_cells hg hr ho hoc)]
  exact hc
theorem ownFrom_got (B lo : Nat) (l : List MX) : OwnFrom B (fun xs W => Got lo l xs W) := fun _ _ _ _ hs hg hr => hs.fwd hg.size fun _ _ _ ho hoc => (grownBy_keeps_cells hg (fun r e => (hr r e).2) ho hoc).trans ho
theorem row_block {w : World} {B E size : Nat} {v : Value} {n : Nat} {xs : List Value} (h : w.ownsRow B E size v n xs) {g : Nat} (hg : v.ownBlock = some g) : ∃ cur, w.heap[g]? = some (.cells cur E (0, 0)) := by
  rcases h.2 with ⟨rfl, _⟩ | ⟨g', cap, cur, rfl, _, hh, _⟩
  · simp [Value.ownBlock] at hg
  · simp [Value.ownBlock] at hg
    subst hg
    exact ⟨cur, hh⟩
theorem row_stays {W W' : World} {row : Option Nat} {B E size n : Nat} {v : Value} {xs : List Value} (h : W.ownsRow B E size v n xs) (hg : W.grownBy W' row) (hr : ∀ r, row = some r → ∃ o : Obj, W.heap[r]? = some o ∧ o.isCells = false) : W'.ownsRow B E size v n xs :=
  own_keep h fun g hgv => by
    obtain ⟨cur, hc⟩ := row_block h hgv
    exact grownBy_keeps_cells hg hr hc rfl
theorem keeps_grown {W W' : World} {row : Option Nat} (hg : W.grownBy W' row) (hr : ∀ r, row = some r → ∃ o : Obj, W.heap[r]? = some o ∧ o.isCells = true) : KeepsOthers W W' :=
  ⟨hg.size, fun k o hk ho => (hg.block k (Array.getElem?_eq_some_iff.1 hk).1 (fun e => by
    obtain ⟨o2, h1, h2⟩ := hr k e.symm
    rw [hk] at h1
    injection h1 with h1
    rw [h1, h2] at ho
    cases ho)).trans hk⟩
def CI (w : World) (pre : List CV) (W : World) : Prop :=
  (∃ v, Blk W w.heap.size 22 #[v] ∧ W.ownsRow (w.heap.size + 1) 30 13 v pre.length (pre.map CV.cells).flatten) ∧ Below w.heap.size w W
theorem ownFrom_ci (w : World) (B : Nat) (hB : w.heap.size ≤ B) : OwnFrom B (CI w) := fun s W W' row hs hg hr => by
  obtain ⟨⟨v, h1, h2⟩, h3⟩ := hs
  exact ⟨⟨v, (grownBy_keeps_cells hg (fun r e => (hr r e).2) h1 rfl).trans h1, row_stays h2 hg (fun r e => (hr r e).2)⟩, h3.grown hg h3.size (fun r e => Nat.le_trans hB (hr r e).1)⟩

/-- A row of copies. -/
def SeqPost (w : World) (l : List MX) (e : Ending) (w' : World) : Prop :=
  ∃ (v : Value) (xs : List CV), e = .returned v ∧ w'.ownsRow w.heap.size 30 13 v l.length (xs.map CV.cells).flatten ∧ Got w.heap.size l xs w' ∧ Below w.heap.size w w'

set_option maxRecDepth 100000 in
set_option maxHeartbeats 4000000 in
theorem appendseq_any (l : List MX) (Bl : Nat) (S : Nat → Prop) (a : Option Addr) (n c : Nat) (w : World) (hBl : w.cell? ⟨Bl, 0, none⟩ = some (.slice a n c)) (hrow : RM w S l a n c) (hS : ∀ b, S b → b < w.heap.size) (hsm : smallL l) (hn2 : n ≤ 65536) :
    Calls Tryd.prog 74 #[.slice none 0 0, .func (.func 75) #[] #[.pointer (some ⟨Bl, 0, none⟩)]] w (SeqPost w l) := by
  obtain ⟨i0, hi0, hz0, hz1, hz2⟩ := info_parts infoM
  obtain rfl : n = l.length := hrow.1
  refine (callsIn_wide (n := 6)).1 ?_
  refine callsIn_of_wp_marks Tryd.func74 rfl trivial ?_ rfl
  simp only [Tryd.ntmps74, List.size_toArray, List.length_cons, List.length_nil, Nat.reduceAdd, Nat.reduceSub, Array.replicate_succ, Array.replicate_zero, List.push_toArray, List.append_toArray, List.nil_append, List.cons_append]
  have hlt : Bl < w.heap.size := World.block_lt_of_cell? _ _ hBl
  have hW : Below w.heap.size w (w.alloc (.cells #[.slice none 0 0] 22)) := by go_grown
  have hsz : (w.alloc (.cells #[.slice none 0 0] 22)).heap.size = w.heap.size + 1 := by simp
  have hB0 : Blk (w.alloc (.cells #[.slice none 0 0] 22)) w.heap.size 22 #[.slice none 0 0] := Blk.new _ _ _
  have hRB : ∀ b, ¬ RowB w.heap.size (w.alloc (.cells #[.slice none 0 0] 22)) b := fun b hb => by
    obtain ⟨n', c', h⟩ := hb
    have h2 := hB0.cell 0
    rw [h] at h2
    simp at h2
  have HSEQ := Lib.hid (each1_fin 5 (by omega) Bl (w.heap.size + 1) w.heap.size S l a l.length c (w.alloc (.cells #[.slice none 0 0] 22)) ((hW.cell (p := ⟨Bl, 0, none⟩) hlt).trans hBl) (RM.under hrow hW hS)
    (fun b hb => ⟨by rw [hsz]; have := hS b hb; omega, by have := hS b hb; omega, hRB b⟩) (by rw [hsz]; omega) (by rw [hsz]; omega) hsm hn2)
  have HW := Lib.hid hW
  have HSZ := Lib.hid hsz
  have HB0 := Lib.hid hB0
  clear hrow hS hsm hBl hRB hW hsz hB0
  gi_wp2
  refine wpIn_range_fin (F := Fence.wide) rfl (by omega) (gf := 75) (lb := #[.pointer (some ⟨Bl, 0, none⟩)]) rfl trivial (enters_of Tryd.func75 (by kernel_rfl) rfl) (S := Got (w.heap.size + 1) l)
    (fun L J W hW hJ hR hY h0 => (HSEQ.out L J W hW hJ hR hY h0).mono fun e W' h => ⟨h.1, by obtain ⟨xs, h2, h3⟩ := h.2; exact ⟨xs, h2.got, h3⟩⟩) KS.trans
    (fun W l o o' h1 h2 h3 h4 => ks_put (N := w.heap.size + 1) (by omega) W l o o' (by rw [HSZ.out] at h1; exact h1) h2 h3 h4) (Below.refl _ _) (fun _ => rfl)
    (CI w) (ownFrom_ci w _ (by rw [HSZ.out]; omega))
    (fun pre W1 h b hb => by
      obtain ⟨⟨v, h1, h2⟩, -⟩ := h
      obtain ⟨n', c', hc⟩ := hb
      rw [h1.cell 0] at hc
      have hv : v = .slice (some ⟨b, 0, none⟩) n' c' := by simpa using hc
      exact (own_row h2 b (by rw [hv]; rfl)).2)
    (ownFrom_got _ _ _) ⟨⟨_, HB0.out, World.ownsRow_nil _ _ _ _⟩, HW.out⟩
    (fun x a' W => ∃ Bx, w.heap.size < Bx ∧ Blk W Bx 30 x.cells.toArray ∧ a' = { tmps := #[.slice none 0 0, .func (.func 75) #[] #[.pointer (some ⟨Bl, 0, none⟩)], .pointer (some ⟨w.heap.size, 0, none⟩), undef, .slice none 0 0, .pointer (some ⟨Bx, 0, none⟩), .func (.func 75) #[] #[.pointer (some ⟨Bl, 0, none⟩)], x.val, undef, undef, undef, undef, undef], defers := [] })
    (fun x a' _ A B row hs hg hr => by obtain ⟨Bx, h1, h2, h3⟩ := hs; exact ⟨Bx, h1, blk_own Bx 30 (fun (_ : Unit) => x.cells.toArray) () A B row h2 hg (fun r e => (hr r e).2), h3⟩)
    ?assign ?body ?done
  case assign =>
    rintro L pre x W K ⟨⟨v, h1, h2⟩, h3⟩ hK
    have hs1 := h1.lt
    have hb : Below W.heap.size W (W.alloc (.cells x.cells.toArray 30)) := (Below.refl _ _).alloc (Nat.le_refl _) _
    simp only [CV.val]
    gi_wp2_with (refine wpListIn_store_blk (T := 30) rfl 30 _ _ rfl (W.heap.size) 0 [] [.int .i64 0, .string ByteArray.empty, .int .i64 0, .int .i64 0, .int .u64 0, .string ByteArray.empty, .slice none 0 0, .int .i64 0, .int .i64 0, .string ByteArray.empty, .int .i64 0, .int .i64 0, .int .i64 0] [] [.int .i64 x.id, .string x.topic, .int .i64 x.k, .int .i64 x.i, .int .u64 x.b, .string x.s, .slice x.a x.n x.c, .int .i64 x.tat, .int .i64 x.til, .string x.reply, .int .i64 x.corr, .int .i64 x.prio, .int .i64 x.hops] rfl rfl (Blk.new W _ _) rfl rfl sizeM (CV.one x) ?_; intro w1 BX1 U1 K1)
    have hb1 : Below W.heap.size W w1 := ((Below.refl W.heap.size W).alloc (Nat.le_refl _) _).trans (U1.below _ (Nat.le_refl _))
    refine hK _ _ (((KeepsOthers.alloc _ _).trans K1).from _) (KS.below hb1 hs1) ⟨⟨v, h1.under hb1 hs1, own_below h2 hb1⟩, h3.trans (hb1.mono h3.size)⟩ ⟨W.heap.size, hs1, BX1, rfl⟩
  case body =>
    rintro L pre x a' W hL ⟨⟨v, h1, h2⟩, h3⟩ ⟨Bx, hBx, bX, rfl⟩ hlt2
    have H2 := Lib.hid h2
    have H3 := Lib.hid h3
    have H1 := Lib.hid h1
    have c0 := h1.cell 0
    simp only [List.getElem?_toArray, List.getElem?_cons_zero] at c0
    have hs1 := h1.lt
    have hszW := h3.size
    have hvb : v.ownBlock ≠ some w.heap.size := fun h => by have := (own_row h2 _ h).1; omega
    have HVB := Lib.hid hvb
    have BX : Hid (Blk W Bx 30 #[.int .i64 x.id, .string x.topic, .int .i64 x.k, .int .i64 x.i, .int .u64 x.b, .string x.s, .slice x.a x.n x.c, .int .i64 x.tat, .int .i64 x.til, .string x.reply, .int .i64 x.corr, .int .i64 x.prio, .int .i64 x.hops]) := bX
    have hpl : pre.length < 65536 := by omega
    clear h1 h2 h3 hvb bX
    simp only [CV.val]
    gi_wp2_with (first
      | (refine wpListIn_load_blk rfl 30 _ rfl Bx 0 rfl [.int .i64 x.id, .string x.topic, .int .i64 x.k, .int .i64 x.i, .int .u64 x.b, .string x.s, .slice x.a x.n x.c, .int .i64 x.tat, .int .i64 x.til, .string x.reply, .int .i64 x.corr, .int .i64 x.prio, .int .i64 x.hops] _ (Blk.range (pre := []) (post := []) BX.out rfl) Tryd.underlying30 rfl sizeM ?_)
      | (refine wpListIn_append_lies rfl _ _ _ rfl (w.heap.size + 1) 30 i0 _ 13 144 Tryd.underlying22 hi0 hz0 hz1 hz2 rfl (by omega) v pre.length (pre.map CV.cells).flatten rfl (H2.out.alloc _)
          ⟨W.heap.size, 0, none⟩ 1 1 [.int .i64 x.id, .string x.topic, .int .i64 x.k, .int .i64 x.i, .int .u64 x.b, .string x.s, .slice x.a x.n x.c, .int .i64 x.tat, .int .i64 x.til, .string x.reply, .int .i64 x.corr, .int .i64 x.prio, .int .i64 x.hops] rfl rfl (World.news_of_block (cs := #[.int .i64 x.id, .string x.topic, .int .i64 x.k, .int .i64 x.i, .int .u64 x.b, .string x.s, .slice x.a x.n x.c, .int .i64 x.tat, .int .i64 x.til, .string x.reply, .int .i64 x.corr, .int .i64 x.prio, .int .i64 x.hops]) (t := 30) (fr := (0, 0)) (heap_alloc_new W _)) (CV.one x) (by omega) (by unfold maxLen; omega) (by omega) (by simp; omega) (W.heap.size + 1) (by simp) ?_
         intro g5 cap5 w5 hown5 hgrow5 hat5 hlt5
         have c5 : w5.cell? ⟨w.heap.size, 0, none⟩ = some v := (far_cell hgrow5 hs1 HVB.out).trans c0
         have f5 : w5.frozen? ⟨w.heap.size, 0, none⟩ = false := (far_free hgrow5 hs1 HVB.out).trans (H1.out.free 0)))
    have hbs : Blk w5 w.heap.size 22 #[v] := (far_block hgrow5 hs1 HVB.out).trans H1.out
    have hB5 : Blk (w5.setCell ⟨w.heap.size, 0, none⟩ (.slice (some ⟨g5, 0, none⟩) (pre.length + 1) cap5)) w.heap.size 22 #[.slice (some ⟨g5, 0, none⟩) (pre.length + 1) cap5] := hbs.set 0 _
    have hform : ∀ b, v.ownBlock = some b → RowB w.heap.size W b := fun b hb => by
      rcases H2.out.2 with ⟨rfl, _⟩ | ⟨g', cap, cur, rfl, _⟩
      · simp [Value.ownBlock] at hb
      · obtain rfl : g' = b := by simpa [Value.ownBlock] using hb
        exact ⟨_, _, c0⟩
    have hg5 : w.heap.size + 1 ≤ g5 := by
      rcases hat5 with h | h
      · exact (own_row H2.out _ h).1
      · omega
    have s5 : W.heap.size + 1 ≤ w5.heap.size := by have := hgrow5.size; simpa using this
    refine ⟨(((KeepsOthers.alloc _ _).trans (keeps_grown hgrow5 fun r e => ?_)).trans (KeepsOthers.setCell _ _ _)).from _, ⟨by simp; omega, fun b o h1 h2 h3 _ => ?_, fun b hb => ?_⟩, ⟨_, hB5, ?_⟩, ?_⟩
    · obtain ⟨cur, hc⟩ := row_block (H2.out.alloc _) e
      exact ⟨_, hc, rfl⟩
    · have hlt3 := (Array.getElem?_eq_some_iff.1 h3).1
      exact (heap_set (p := ⟨w.heap.size, 0, none⟩) h1).trans ((far_block hgrow5 hlt3 (fun h => h2 (hform b h))).trans h3)
    · obtain ⟨n', c', hc⟩ := hb
      rw [hB5.cell 0] at hc
      obtain rfl : g5 = b := by simp at hc; exact hc.1
      rcases hat5 with h | h
      · exact .inl (hform _ h)
      · exact .inr (by omega)
    · have e1 : ((pre ++ [x]).map CV.cells).flatten = (pre.map CV.cells).flatten ++ [.int .i64 x.id, .string x.topic, .int .i64 x.k, .int .i64 x.i, .int .u64 x.b, .string x.s, .slice x.a x.n x.c, .int .i64 x.tat, .int .i64 x.til, .string x.reply, .int .i64 x.corr, .int .i64 x.prio, .int .i64 x.hops] := by simp [CV.cells]
      rw [e1, List.length_append, List.length_singleton]
      exact own_keep hown5 fun q hq => heap_set (p := ⟨w.heap.size, 0, none⟩) (by
        obtain rfl : g5 = q := by simpa [Value.ownBlock] using hq
        show g5 ≠ w.heap.size; omega)
    · exact ((H3.out.alloc hszW _).grown hgrow5 (by simp; omega) (fun q hq => by have := (own_row H2.out q hq).1; omega)).setCell (by show w.heap.size ≤ w.heap.size; omega) _
  case done =>
    rintro D xs W hD hgot ⟨⟨v, h1, h2⟩, h3⟩ hKD
    have c0 := h1.cell 0
    simp only [List.getElem?_toArray, List.getElem?_cons_zero] at c0
    have hDD : w.heap.size ≤ D := by rw [HSZ.out] at hD; omega
    have H2 := Lib.hid h2
    have H3 := Lib.hid h3
    have HK := Lib.hid hKD
    have HG := Lib.hid hgot
    clear h1 h2 h3 hKD hgot
    gi_wp2
    refine ⟨by simp, .inl ⟨_, _, rfl, run_takeDeferred HK.out, ?_⟩⟩
    refine ⟨v, ?_, ?_⟩
    · simp [results, Tryd.f74, go_sem]
    have hput := grownBy_putObj' W D (.deferred none)
    have hno : ∀ r, (some D : Option Nat) = some r → ∃ o : Obj, W.heap[r]? = some o ∧ o.isCells = false := fun r e => by cases e; exact ⟨_, HK.out, rfl⟩
    refine ⟨v, xs, rfl, ?_, ?_, H3.out.grown hput H3.out.size (fun q hq => by cases hq; exact hDD)⟩
    · have h := row_stays H2.out hput hno
      rw [HG.out.1] at h
      exact own_mono h (by omega)
    · have h := HG.out.fwd hput.size (fun _ _ _ ho hoc => (grownBy_keeps_cells hput hno ho hoc).trans ho)
      exact ⟨h.1, fun j m hm => by obtain ⟨y, h1, h2⟩ := h.2 j m hm; exact ⟨y, h1, h2.mono fun b hb => ⟨by have := hb.1; omega, hb.2⟩⟩⟩

theorem collect_any (l : List MX) (Bl : Nat) (S : Nat → Prop) (a : Option Addr) (n c : Nat) (w : World) (hBl : w.cell? ⟨Bl, 0, none⟩ = some (.slice a n c)) (hrow : RM w S l a n c) (hS : ∀ b, S b → b < w.heap.size) (hsm : smallL l) (hn2 : n ≤ 65536) :
    Calls Tryd.prog 66 #[.func (.func 75) #[] #[.pointer (some ⟨Bl, 0, none⟩)]] w (SeqPost w l) := by
  have HA := Lib.hid (appendseq_any l Bl S a n c w hBl hrow hS hsm hn2)
  clear hrow hS hsm hBl
  go_enter Tryd.func66, Tryd.ntmps66
  go_wp2_with fail
  refine HA.out.mono ?_
  rintro e w1 ⟨v, xs, rfl, h1, h2, h3⟩
  have H : Hid (SeqPost w l (.returned v) w1) := ⟨v, xs, rfl, h1, h2, h3⟩
  clear h1 h2 h3 HA
  go_wp2_with fail
  go_ret
  exact H.out
end Go.Proofs.YtmdcfmdjbncaoaaDoor
