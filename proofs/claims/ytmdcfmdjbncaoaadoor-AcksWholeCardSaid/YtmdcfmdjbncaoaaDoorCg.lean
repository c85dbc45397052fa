/- each, slices.AppendSeq and slices.Collect of what waits: a row of copies. -/
import Derived.Test.YtmdcfmdjbncaoaaDoorCf
import Derived.Test.YtmdcfmdjbncaoaaDoorBj
import Derived.Test.YtmdcfmdjbncaoaaDoorCc
namespace Go.Proofs.YtmdcfmdjbncaoaaDoor
open Go.RowKit Go.Shelf
attribute [local go_sem] Oper.semAt_some

theorem eachs_any (a : Option Addr) (n c : Nat) (w : World) : Calls Tryd.prog 55 #[.slice a n c] w fun e w' => e = .returned (.func (.func 69) #[] #[.pointer (some ⟨w.heap.size, 0, none⟩)]) ∧ w' = w.alloc (.cells #[.slice a n c] 50) := by
  go_enter Tryd.func55, Tryd.ntmps55
  go_wp2_with fail
  go_ret
  exact ⟨rfl, rfl⟩

/-- What has been given; the collecting row's variable stands. -/
def GotS (lo sb : Nat) (l : List SX) (xs : List CSV) (W : World) : Prop := GivenS lo sb l xs W ∧ ∃ v, Blk W sb 50 #[v]
theorem GotS.fwd {lo sb : Nat} {l : List SX} {xs : List CSV} {W W' : World} {row : Option Nat} (h : GotS lo sb l xs W) (hg : W.grownBy W' row) (hr : ∀ r, row = some r → ∃ o : Obj, W.heap[r]? = some o ∧ o.isCells = false) : GotS lo sb l xs W' := by
  obtain ⟨h1, v, hv⟩ := h
  have hv' : Blk W' sb 50 #[v] := (grownBy_keeps_cells hg hr hv rfl).trans hv
  refine ⟨GivenS.ks h1 ⟨hg.size, fun b o _ _ hb ho => (grownBy_keeps_cells hg hr hb ho).trans hb, fun b hb => .inl ?_⟩, v, hv'⟩
  obtain ⟨n, c, hc⟩ := hb
  rw [hv'.cell 0] at hc
  exact ⟨n, c, by rw [hv.cell 0]; exact hc⟩
theorem ownFrom_gots (B lo sb : Nat) (l : List SX) : OwnFrom B (fun xs W => GotS lo sb l xs W) := fun _ _ _ _ hs hg hr => hs.fwd hg (fun r e => (hr r e).2)
def CIS (w : World) (pre : List CSV) (W : World) : Prop :=
  (∃ v, Blk W w.heap.size 50 #[v] ∧ W.ownsRow (w.heap.size + 1) 62 15 v pre.length (pre.map CSV.cells).flatten) ∧ Below w.heap.size w W
theorem ownFrom_cis (w : World) (B : Nat) (hB : w.heap.size ≤ B) : OwnFrom B (CIS w) := fun s W W' row hs hg hr => by
  obtain ⟨⟨v, h1, h2⟩, h3⟩ := hs
  exact ⟨⟨v, (grownBy_keeps_cells hg (fun r e => (hr r e).2) h1 rfl).trans h1, row_stays h2 hg (fun r e => (hr r e).2)⟩, h3.grown hg h3.size (fun r e => Nat.le_trans hB (hr r e).1)⟩

set_option maxRecDepth 100000 in
set_option maxHeartbeats 4000000 in
theorem appendseqs_any (l : List SX) (Bl : Nat) (S : Nat → Prop) (a : Option Addr) (n c : Nat) (w : World) (hBl : w.cell? ⟨Bl, 0, none⟩ = some (.slice a n c)) (hrow : RS w S l a n c) (hS : ∀ b, S b → b < w.heap.size) (hsm : smallS l) (hn2 : n ≤ 65536) :
    Calls Tryd.prog 68 #[.slice none 0 0, .func (.func 69) #[] #[.pointer (some ⟨Bl, 0, none⟩)]] w (RowPostS w l) := by
  obtain ⟨i0, hi0, hz0, hz1, hz2⟩ := info_parts infoS
  obtain rfl : n = l.length := hrow.1
  refine (callsIn_wide (n := 6)).1 ?_
  refine callsIn_of_wp_marks Tryd.func68 rfl trivial ?_ rfl
  simp only [Tryd.ntmps68, List.size_toArray, List.length_cons, List.length_nil, Nat.reduceAdd, Nat.reduceSub, Array.replicate_succ, Array.replicate_zero, List.push_toArray, List.append_toArray, List.nil_append, List.cons_append]
  have hlt : Bl < w.heap.size := World.block_lt_of_cell? _ _ hBl
  have hW : Below w.heap.size w (w.alloc (.cells #[.slice none 0 0] 50)) := by go_grown
  have hsz : (w.alloc (.cells #[.slice none 0 0] 50)).heap.size = w.heap.size + 1 := by simp
  have hB0 : Blk (w.alloc (.cells #[.slice none 0 0] 50)) w.heap.size 50 #[.slice none 0 0] := Blk.new _ _ _
  have hRB : ∀ b, ¬ RowB w.heap.size (w.alloc (.cells #[.slice none 0 0] 50)) b := fun b hb => by
    obtain ⟨n', c', h⟩ := hb
    have h2 := hB0.cell 0
    rw [h] at h2
    simp at h2
  have HSEQ := Lib.hid (each1s_fin 5 (by omega) Bl (w.heap.size + 1) w.heap.size S l a l.length c (w.alloc (.cells #[.slice none 0 0] 50)) ((hW.cell (p := ⟨Bl, 0, none⟩) hlt).trans hBl) (RS.under hrow hW hS)
    (fun b hb => ⟨by rw [hsz]; have := hS b hb; omega, by have := hS b hb; omega, hRB b⟩) (by rw [hsz]; omega) (by rw [hsz]; omega) hsm hn2)
  have HW := Lib.hid hW
  have HSZ := Lib.hid hsz
  have HB0 := Lib.hid hB0
  clear hrow hS hsm hBl hRB hW hsz hB0
  gi_wp2
  refine wpIn_range_fin (F := Fence.wide) rfl (by omega) (gf := 69) (lb := #[.pointer (some ⟨Bl, 0, none⟩)]) rfl trivial (enters_of Tryd.func69 (by kernel_rfl) rfl) (S := GotS (w.heap.size + 1) w.heap.size l)
    (fun L J W hW hJ hR hY h0 => (HSEQ.out L J W hW hJ hR hY h0).mono fun e W' h => ⟨h.1, by obtain ⟨xs, h2, h3⟩ := h.2; exact ⟨xs, ⟨h2, (hR _ _ h3).1⟩, h3⟩⟩) KS.trans
    (fun W l o o' h1 h2 h3 h4 => ks_put (N := w.heap.size + 1) (by omega) W l o o' (by rw [HSZ.out] at h1; exact h1) h2 h3 h4) (Below.refl _ _) (fun _ => rfl)
    (CIS w) (ownFrom_cis w _ (by rw [HSZ.out]; omega))
    (fun pre W1 h => ⟨by obtain ⟨⟨v, h1, h2⟩, -⟩ := h; exact ⟨v, h1⟩, fun b hb => by
      obtain ⟨⟨v, h1, h2⟩, -⟩ := h
      obtain ⟨n', c', hc⟩ := hb
      rw [h1.cell 0] at hc
      have hv : v = .slice (some ⟨b, 0, none⟩) n' c' := by simpa using hc
      exact (own_row h2 b (by rw [hv]; rfl)).2⟩)
    (ownFrom_gots _ _ _ _) ⟨⟨_, HB0.out, World.ownsRow_nil _ _ _ _⟩, HW.out⟩
    (fun x a' W => ∃ Bx, w.heap.size < Bx ∧ Blk W Bx 62 x.cells.toArray ∧ a' = { tmps := #[.slice none 0 0, .func (.func 69) #[] #[.pointer (some ⟨Bl, 0, none⟩)], .pointer (some ⟨w.heap.size, 0, none⟩), undef, .slice none 0 0, .pointer (some ⟨Bx, 0, none⟩), .func (.func 69) #[] #[.pointer (some ⟨Bl, 0, none⟩)], x.val, undef, undef, undef, undef, undef], defers := [] })
    (fun x a' _ A B row hs hg hr => by obtain ⟨Bx, h1, h2, h3⟩ := hs; exact ⟨Bx, h1, blk_own Bx 62 (fun (_ : Unit) => x.cells.toArray) () A B row h2 hg (fun r e => (hr r e).2), h3⟩)
    ?assign ?body ?done
  case assign =>
    rintro L pre x W K ⟨⟨v, h1, h2⟩, h3⟩ hK
    have hs1 := h1.lt
    have hb : Below W.heap.size W (W.alloc (.cells x.cells.toArray 62)) := (Below.refl _ _).alloc (Nat.le_refl _) _
    simp only [CSV.val]
    gi_wp2_with (refine wpListIn_store_blk (T := 62) rfl 62 _ _ rfl (W.heap.size) 0 [] [.int .i64 0, .string ByteArray.empty, .int .i64 0, .int .i64 0, .int .u64 0, .string ByteArray.empty, .slice none 0 0, .int .i64 0, .int .i64 0, .string ByteArray.empty, .int .i64 0, .int .i64 0, .int .i64 0, .int .i64 0, .int .i64 0] [] [.int .i64 x.x.id, .string x.x.topic, .int .i64 x.x.k, .int .i64 x.x.i, .int .u64 x.x.b, .string x.x.s, .slice x.x.a x.x.n x.x.c, .int .i64 x.x.tat, .int .i64 x.x.til, .string x.x.reply, .int .i64 x.x.corr, .int .i64 x.x.prio, .int .i64 x.x.hops, .int .i64 x.tries, .int .i64 x.due] rfl rfl (Blk.new W _ _) rfl rfl sizeS (CSV.one x) ?_; intro w1 BX1 U1 K1)
    have hb1 : Below W.heap.size W w1 := ((Below.refl W.heap.size W).alloc (Nat.le_refl _) _).trans (U1.below _ (Nat.le_refl _))
    refine hK _ _ (((KeepsOthers.alloc _ _).trans K1).from _) (KS.below hb1 hs1) ⟨⟨v, h1.under hb1 hs1, own_below h2 hb1⟩, h3.trans (hb1.mono h3.size)⟩ ⟨W.heap.size, hs1, BX1, rfl⟩
  case body =>
    rintro L pre x a' W hL ⟨⟨v, h1, h2⟩, h3⟩ ⟨Bx, hBx, bX, rfl⟩ hlt2
    have H2 := Lib.hid h2
    have H3 := Lib.hid h3
    have H1 := Lib.hid h1
    have c0 := h1.cell 0
    simp only [List.getElem?_toArray, List.getElem?_cons_zero] at c0
    have hs1 := h1.lt
    have hszW := h3.size
    have hvb : v.ownBlock ≠ some w.heap.size := fun h => by have := (own_row h2 _ h).1; omega
    have HVB := Lib.hid hvb
    have BX : Hid (Blk W Bx 62 #[.int .i64 x.x.id, .string x.x.topic, .int .i64 x.x.k, .int .i64 x.x.i, .int .u64 x.x.b, .string x.x.s, .slice x.x.a x.x.n x.x.c, .int .i64 x.x.tat, .int .i64 x.x.til, .string x.x.reply, .int .i64 x.x.corr, .int .i64 x.x.prio, .int .i64 x.x.hops, .int .i64 x.tries, .int .i64 x.due]) := bX
    have hpl : pre.length < 65536 := by omega
    clear h1 h2 h3 hvb bX
    simp only [CSV.val]
    gi_wp2_with (first
      | (refine wpListIn_load_blk rfl 62 _ rfl Bx 0 rfl [.int .i64 x.x.id, .string x.x.topic, .int .i64 x.x.k, .int .i64 x.x.i, .int .u64 x.x.b, .string x.x.s, .slice x.x.a x.x.n x.x.c, .int .i64 x.x.tat, .int .i64 x.x.til, .string x.x.reply, .int .i64 x.x.corr, .int .i64 x.x.prio, .int .i64 x.x.hops, .int .i64 x.tries, .int .i64 x.due] _ (Blk.range (pre := []) (post := []) BX.out rfl) Tryd.underlying62 rfl sizeS ?_)
      | (refine wpListIn_append_lies rfl _ _ _ rfl (w.heap.size + 1) 62 i0 _ 15 160 Tryd.underlying50 hi0 hz0 hz1 hz2 rfl (by omega) v pre.length (pre.map CSV.cells).flatten rfl (H2.out.alloc _)
          ⟨W.heap.size, 0, none⟩ 1 1 [.int .i64 x.x.id, .string x.x.topic, .int .i64 x.x.k, .int .i64 x.x.i, .int .u64 x.x.b, .string x.x.s, .slice x.x.a x.x.n x.x.c, .int .i64 x.x.tat, .int .i64 x.x.til, .string x.x.reply, .int .i64 x.x.corr, .int .i64 x.x.prio, .int .i64 x.x.hops, .int .i64 x.tries, .int .i64 x.due] rfl rfl (World.news_of_block (cs := #[.int .i64 x.x.id, .string x.x.topic, .int .i64 x.x.k, .int .i64 x.x.i, .int .u64 x.x.b, .string x.x.s, .slice x.x.a x.x.n x.x.c, .int .i64 x.x.tat, .int .i64 x.x.til, .string x.x.reply, .int .i64 x.x.corr, .int .i64 x.x.prio, .int .i64 x.x.hops, .int .i64 x.tries, .int .i64 x.due]) (t := 62) (fr := (0, 0)) (heap_alloc_new W _)) (CSV.one x) (by omega) (by unfold maxLen; omega) (by omega) (by simp; omega) (W.heap.size + 1) (by simp) ?_
         intro g5 cap5 w5 hown5 hgrow5 hat5 hlt5
         have c5 : w5.cell? ⟨w.heap.size, 0, none⟩ = some v := (far_cell hgrow5 hs1 HVB.out).trans c0
         have f5 : w5.frozen? ⟨w.heap.size, 0, none⟩ = false := (far_free hgrow5 hs1 HVB.out).trans (H1.out.free 0)))
    have hbs : Blk w5 w.heap.size 50 #[v] := (far_block hgrow5 hs1 HVB.out).trans H1.out
    have hB5 : Blk (w5.setCell ⟨w.heap.size, 0, none⟩ (.slice (some ⟨g5, 0, none⟩) (pre.length + 1) cap5)) w.heap.size 50 #[.slice (some ⟨g5, 0, none⟩) (pre.length + 1) cap5] := hbs.set 0 _
    have hform : ∀ b, v.ownBlock = some b → RowB w.heap.size W b := fun b hb => by
      rcases H2.out.2 with ⟨rfl, _⟩ | ⟨g', cap, cur, rfl, _⟩
      · simp [Value.ownBlock] at hb
      · obtain rfl : g' = b := by simpa [Value.ownBlock] using hb
        exact ⟨_, _, c0⟩
    have hg5 : w.heap.size + 1 ≤ g5 := by
      rcases hat5 with h | h
      · exact (own_row H2.out _ h).1
      · omega
    have s5 : W.heap.size + 1 ≤ w5.heap.size := by have := hgrow5.size; simpa using this
    refine ⟨(((KeepsOthers.alloc _ _).trans (keeps_grown hgrow5 fun r e => ?_)).trans (KeepsOthers.setCell _ _ _)).from _, ⟨by simp; omega, fun b o h1 h2 h3 _ => ?_, fun b hb => ?_⟩, ⟨_, hB5, ?_⟩, ?_⟩
    · obtain ⟨cur, hc⟩ := row_block (H2.out.alloc _) e
      exact ⟨_, hc, rfl⟩
    · have hlt3 := (Array.getElem?_eq_some_iff.1 h3).1
      exact (heap_set (p := ⟨w.heap.size, 0, none⟩) h1).trans ((far_block hgrow5 hlt3 (fun h => h2 (hform b h))).trans h3)
    · obtain ⟨n', c', hc⟩ := hb
      rw [hB5.cell 0] at hc
      obtain rfl : g5 = b := by simp at hc; exact hc.1
      rcases hat5 with h | h
      · exact .inl (hform _ h)
      · exact .inr (by omega)
    · have e1 : ((pre ++ [x]).map CSV.cells).flatten = (pre.map CSV.cells).flatten ++ [.int .i64 x.x.id, .string x.x.topic, .int .i64 x.x.k, .int .i64 x.x.i, .int .u64 x.x.b, .string x.x.s, .slice x.x.a x.x.n x.x.c, .int .i64 x.x.tat, .int .i64 x.x.til, .string x.x.reply, .int .i64 x.x.corr, .int .i64 x.x.prio, .int .i64 x.x.hops, .int .i64 x.tries, .int .i64 x.due] := by simp [CSV.cells]
      rw [e1, List.length_append, List.length_singleton]
      exact own_keep hown5 fun q hq => heap_set (p := ⟨w.heap.size, 0, none⟩) (by
        obtain rfl : g5 = q := by simpa [Value.ownBlock] using hq
        show g5 ≠ w.heap.size; omega)
    · exact ((H3.out.alloc hszW _).grown hgrow5 (by simp; omega) (fun q hq => by have := (own_row H2.out q hq).1; omega)).setCell (by show w.heap.size ≤ w.heap.size; omega) _
  case done =>
    rintro D xs W hD hgot ⟨⟨v, h1, h2⟩, h3⟩ hKD
    have c0 := h1.cell 0
    simp only [List.getElem?_toArray, List.getElem?_cons_zero] at c0
    have hDD : w.heap.size ≤ D := by rw [HSZ.out] at hD; omega
    have H2 := Lib.hid h2
    have H3 := Lib.hid h3
    have HK := Lib.hid hKD
    have HG := Lib.hid hgot
    clear h1 h2 h3 hKD hgot
    gi_wp2
    refine ⟨by simp, .inl ⟨_, _, rfl, run_takeDeferred HK.out, ?_⟩⟩
    refine ⟨v, ?_, ?_⟩
    · simp [results, Tryd.f68, go_sem]
    have hput := grownBy_putObj' W D (.deferred none)
    have hno : ∀ r, (some D : Option Nat) = some r → ∃ o : Obj, W.heap[r]? = some o ∧ o.isCells = false := fun r e => by cases e; exact ⟨_, HK.out, rfl⟩
    have hG := HG.out.fwd hput hno
    have hrow := row_stays H2.out hput hno
    have hxl : xs.length = l.length := HG.out.1.1
    rw [hxl] at hrow
    have hform : ∀ b, v.ownBlock = some b → ∃ n' c', v = .slice (some ⟨b, 0, none⟩) n' c' := fun b hb => by
      rcases H2.out.2 with ⟨rfl, _⟩ | ⟨g', cap, cur, rfl, _⟩
      · simp [Value.ownBlock] at hb
      · obtain rfl : g' = b := by simpa [Value.ownBlock] using hb
        exact ⟨_, _, rfl⟩
    obtain ⟨av, cv, hv⟩ := own_len hrow
    have c1 : (W.putObj D (.deferred none)).cell? ⟨w.heap.size, 0, none⟩ = some v := by
      rw [World.cell?_of_block (w := W) (a := ⟨w.heap.size, 0, none⟩) (World.putObj_heap_other (fun e' => by have e2 : w.heap.size = D := e'; rw [HSZ.out] at hD; omega))]
      exact c0
    refine ⟨av, cv, fun b => w.heap.size ≤ b ∧ b < (W.putObj D (.deferred none)).heap.size ∧ v.ownBlock ≠ some b, xs.map CSV.cells, by rw [hv], ⟨by rw [List.length_map, hxl], by rw [← hv]; exact own_mono hrow (by omega), fun b hb => ⟨hb.1, hb.2.1, by rw [← hv]; exact hb.2.2⟩, fun cs hc => ?_, fun j x hx => ?_⟩, H3.out.grown hput H3.out.size (fun q hq => by cases hq; exact hDD)⟩
    · obtain ⟨y, -, rfl⟩ := List.mem_map.1 hc
      rfl
    · obtain ⟨y, Sx, h1, h2, h3⟩ := hG.1.2 j x hx
      refine ⟨y.cells, by rw [List.getElem?_map, h1]; rfl, h2.mono fun b hb => ⟨by have := (h3 b hb).1; omega, (h3 b hb).2.1, fun e => (h3 b hb).2.2.2 ?_⟩⟩
      obtain ⟨n', c', e2⟩ := hform b e
      exact ⟨n', c', by rw [c1, e2]⟩

theorem collects_any (l : List SX) (Bl : Nat) (S : Nat → Prop) (a : Option Addr) (n c : Nat) (w : World) (hBl : w.cell? ⟨Bl, 0, none⟩ = some (.slice a n c)) (hrow : RS w S l a n c) (hS : ∀ b, S b → b < w.heap.size) (hsm : smallS l) (hn2 : n ≤ 65536) :
    Calls Tryd.prog 54 #[.func (.func 69) #[] #[.pointer (some ⟨Bl, 0, none⟩)]] w (RowPostS w l) := by
  have HA := Lib.hid (appendseqs_any l Bl S a n c w hBl hrow hS hsm hn2)
  clear hrow hS hsm hBl
  go_enter Tryd.func54, Tryd.ntmps54
  go_wp2_with fail
  refine HA.out.mono ?_
  rintro e w1 ⟨av, cv, S1, css, rfl, h1, h3⟩
  have H : Hid (RowPostS w l (.returned (.slice av l.length cv)) w1) := ⟨av, cv, S1, css, rfl, h1, h3⟩
  clear h1 h3 HA
  go_wp2_with fail
  go_ret
  exact H.out
end Go.Proofs.YtmdcfmdjbncaoaaDoor
