/- Run. -/
import Derived.Test.YtmdcfmdjbncaoaaTry
import Derived.Test.YtmdcfmdjbncaoaaOwnR
namespace Go.Proofs.Ytmdcfmdjbncaoaa
open Go.RowKit Go.Shelf
attribute [local go_sem] Oper.semAt_some

def zeroRV : RV := ⟨0, 0, 0, 0, false, 0, 0, 0, ByteArray.empty, none, 0, 0⟩
def RV.body (r : RV) : List Value := [.int .i64 r.k, .int .i64 r.i, .int .u64 r.b, .string r.s, .slice r.a r.n r.c]
def lastIn (pre : List RV) : RV := pre.getLast?.getD zeroRV
theorem lastIn_snoc (pre : List RV) (x : RV) : lastIn (pre ++ [x]) = x := by simp [lastIn]

theorem tries_stops (N : Nat) (hn : 3 ≤ N) (Bm Bl : Nat) (S Z : Nat → Prop) (vs : List RV) (a : Option Addr) (n c : Nat) (most : Int) (w : World)
    (hBl : w.cell? ⟨Bl, 0, none⟩ = some (.slice a n c)) (hBm : w.cell? ⟨Bm, 0, none⟩ = some (.int .i64 most)) (hm : most ≤ 9223372036854775807) (hrow : RowsOf (fun (r : RV) cs => cs = r.cells) 10 w S vs a n c)
    (hZm : ¬ Z Bm) (hZS : ∀ b, S b → ¬ Z b ∧ b < w.heap.size) (hZ : ∀ b, Z b → b < w.heap.size) :
    SeqStopsK Fence.wide N Try.prog 46 #[.pointer (some ⟨Bl, 0, none⟩), .pointer (some ⟨Bm, 0, none⟩)] (fun r : RV => #[r.val]) (KC Z) (fun ys => ys = vs.take (tryN most 0 vs)) (fun _ => True) vs.length w :=
  fun L J Jx W hW hJ _ hY h0 => tries1_in N hn L Bm Bl S Z vs a n c most J Jx W _ hJ hY (cell_over hW (World.block_lt_of_cell? _ _ hBl) hBl) (cell_over hW (World.block_lt_of_cell? _ _ hBm) hBm) hm
    (hrow.under (fun _ _ _ h => h) hW fun b hb => (hZS b hb).2) hZm (fun b hb => ⟨(hZS b hb).1, Nat.lt_of_lt_of_le (hZS b hb).2 hW.size⟩) (fun b hb => Nat.lt_of_lt_of_le (hZ b hb) hW.size) h0

/-- What Run has come to. -/
def Ran (M : Int) (vs : List RV) (t : Tree) (w : World) (e : Ending) (w' : World) : Prop :=
  ∃ r : RV, r = lastIn (vs.take (tryN M 0 vs)) ∧ ∃ k i b s a n c xs, e = .returned (.tuple #[.agg #[.int .i64 r.err, .int .i64 r.code, .int .i64 r.pk, .int .i64 r.pn, .bool r.has, .int .i64 k, .int .i64 i, .int .u64 b, .string s, .slice a n c], .int .i64 (tryN M 0 vs)]) ∧
    IsD w' (Btw w.heap.size w'.heap.size) t [.int .i64 k, .int .i64 i, .int .u64 b, .string s, .slice a n c] ∧ w'.ownsRow w.heap.size 28 5 (.slice a n c) n xs ∧ Below w.heap.size w w'

set_option maxRecDepth 100000 in
set_option maxHeartbeats 4000000 in
theorem run_hi (most : Int) (vs : List RV) (a : Option Addr) (n c : Nat) (S : Nat → Prop) (w : World) (t : Tree) (hmo : 1 ≤ most) (hm : most ≤ 9223372036854775807) (hrow : RowsOf (fun (r : RV) cs => cs = r.cells) 10 w S vs a n c) (hS : ∀ b, S b → b < w.heap.size)
    (ht : IsD w S t (lastIn (vs.take (tryN most 0 vs))).body) (hts : t.size ≤ 4096) :
    Calls Try.prog 15 #[.int .i64 most, .slice a n c] w (Ran most vs t w) := by
  refine (callsIn_wide (n := 6)).1 ?_
  refine callsIn_of_wp_marks Try.func15 rfl trivial ?_ rfl
  simp only [Try.ntmps15, List.size_toArray, List.length_cons, List.length_nil, Nat.reduceAdd, Nat.reduceSub, Array.replicate_succ, Array.replicate_zero, List.push_toArray, List.append_toArray, List.nil_append, List.cons_append]
  have hvl : vs.length ≤ 9223372036854775807 := by have := hrow.2.2.1; have := hrow.2.1; have := hrow.1; unfold maxLen at *; omega
  have HROW := Lib.hid hrow
  have HT := Lib.hid ht
  have HS := Lib.hid hS
  clear hrow ht hS
  gi_wp2
  refine ⟨trivial, (callsIn_wide.2 (tries_any _ _ _ _ _)).mono ?_⟩
  rintro e w1 ⟨rfl, rfl⟩
  gi_wp2
  have bR := (((Blk.new w 30 zeroRV.cells.toArray).alloc (.cells zeroRV.cells.toArray 30)).alloc (.cells #[.int .i64 0] 3)).alloc (.cells #[.int .i64 most] 2) |>.alloc (.cells #[.slice a n c] 34)
  have bL := ((Blk.new (w.alloc (.cells zeroRV.cells.toArray 30)) 30 zeroRV.cells.toArray).alloc (.cells #[.int .i64 0] 3)).alloc (.cells #[.int .i64 most] 2) |>.alloc (.cells #[.slice a n c] 34)
  have bN := ((Blk.new ((w.alloc (.cells zeroRV.cells.toArray 30)).alloc (.cells zeroRV.cells.toArray 30)) 3 #[.int .i64 0]).alloc (.cells #[.int .i64 most] 2)).alloc (.cells #[.slice a n c] 34)
  have bM := (Blk.new (((w.alloc (.cells zeroRV.cells.toArray 30)).alloc (.cells zeroRV.cells.toArray 30)).alloc (.cells #[.int .i64 0] 3)) 2 #[.int .i64 most]).alloc (.cells #[.slice a n c] 34)
  have bS := Blk.new ((((w.alloc (.cells zeroRV.cells.toArray 30)).alloc (.cells zeroRV.cells.toArray 30)).alloc (.cells #[.int .i64 0] 3)).alloc (.cells #[.int .i64 most] 2)) 34 #[.slice a n c]
  have hB0 : Below w.heap.size w (((((w.alloc (.cells zeroRV.cells.toArray 30)).alloc (.cells zeroRV.cells.toArray 30)).alloc (.cells #[.int .i64 0] 3)).alloc (.cells #[.int .i64 most] 2)).alloc (.cells #[.slice a n c] 34)) := by go_grown
  have hsz : (((((w.alloc (.cells zeroRV.cells.toArray 30)).alloc (.cells zeroRV.cells.toArray 30)).alloc (.cells #[.int .i64 0] 3)).alloc (.cells #[.int .i64 most] 2)).alloc (.cells #[.slice a n c] 34)).heap.size = w.heap.size + 5 := by simp
  simp only [World.size_alloc] at bL bN bM bS
  obtain ⟨W0, hW0⟩ : ∃ W0, ((((w.alloc (.cells zeroRV.cells.toArray 30)).alloc (.cells zeroRV.cells.toArray 30)).alloc (.cells #[.int .i64 0] 3)).alloc (.cells #[.int .i64 most] 2)).alloc (.cells #[.slice a n c] 34) = W0 := ⟨_, rfl⟩
  rw [hW0] at bR bL bN bM bS hB0 hsz
  have e0 : Value.string { data := #[] } = .string ByteArray.empty := rfl
  show Code.wpIn _ _ _ _ _ _ (((((w.alloc (.cells zeroRV.cells.toArray 30)).alloc (.cells zeroRV.cells.toArray 30)).alloc (.cells #[.int .i64 0] 3)).alloc (.cells #[.int .i64 most] 2)).alloc (.cells #[.slice a n c] 34))
  rw [hW0]
  clear hW0 e0
  have HSZ := Lib.hid hsz
  have cS := bS.cell 0
  have cM := bM.cell 0
  refine wpIn_rangeFunc_ownH (F := Fence.wide) rfl (by omega) (gf := 46) (lb := #[.pointer (some ⟨w.heap.size + 1 + 1 + 1 + 1, 0, none⟩), .pointer (some ⟨w.heap.size + 1 + 1 + 1, 0, none⟩)]) rfl trivial (enters_of Try.func46 (by kernel_rfl) rfl)
    (tries_stops 5 (by omega) (w.heap.size + 1 + 1 + 1) (w.heap.size + 1 + 1 + 1 + 1) S (fun b => b = w.heap.size + 1 ∨ b = w.heap.size + 1 + 1) vs a n c most W0 cS cM (by omega) (HROW.out.under (fun _ _ _ h => h) hB0 HS.out)
      (by omega) (fun b hb => ⟨by have := HS.out b hb; omega, by have := HS.out b hb; omega⟩) (fun b hb => by omega))
    KC.trans (fun W l o o' h1 h2 h3 h4 => kc_b W l o o' h1 h2 h3 h4) (Below.refl _ _) (fun _ => rfl)
    (fun pre W => ((Blk W (w.heap.size + 1) 30 (lastIn pre).cells.toArray ∧ Blk W (w.heap.size + 1 + 1) 3 #[.int .i64 (pre.length : Int)]) ∧ Blk W w.heap.size 30 zeroRV.cells.toArray) ∧ Below w.heap.size w W)
    (fun _ _ _ => False)
    (OwnFrom.and (OwnFrom.and (OwnFrom.and (ownFrom_blk _ _ _ (fun pre : List RV => (lastIn pre).cells.toArray)) (ownFrom_blk _ _ _ (fun pre : List RV => #[.int .i64 (pre.length : Int)]))) (ownFrom_blk _ _ _ (fun _ : List RV => zeroRV.cells.toArray))) (ownFrom_below (Nat.le_refl _) (by omega)))
    (fun _ _ _ _ _ hs _ _ => hs)
    ⟨⟨⟨bL, bN⟩, bR⟩, hB0⟩
    (fun x a' W => ∃ Bx, w.heap.size + 1 + 1 < Bx ∧ Blk W Bx 30 x.cells.toArray ∧ a' = { tmps := #[.int .i64 most, .slice a n c, undef, undef, .pointer (some ⟨w.heap.size, 0, none⟩), .int .i64 0, .pointer (some ⟨w.heap.size + 1, 0, none⟩), .pointer (some ⟨w.heap.size + 1 + 1, 0, none⟩), .pointer (some ⟨Bx, 0, none⟩), .int .i64 most, .int .i64 most, .slice a n c, .func (.func 46) #[] #[.pointer (some ⟨w.heap.size + 1 + 1 + 1 + 1, 0, none⟩), .pointer (some ⟨w.heap.size + 1 + 1 + 1, 0, none⟩)], x.val, undef, undef, undef, undef, undef, undef, undef, undef, undef], defers := [] })
    (fun x a' _ A B row hs hg hr => by obtain ⟨Bx, h1, h2, h3⟩ := hs; exact ⟨Bx, h1, blk_own Bx 30 (fun (_ : Unit) => x.cells.toArray) () A B row h2 hg (fun r e => (hr r e).2), h3⟩)
    ?assign ?body ?done ?stop
  case assign =>
    rintro L pre x W K ⟨⟨⟨bL1, bN1⟩, bR1⟩, hB1⟩ hK
    have hs1 := bN1.lt
    simp only [RV.val]
    gi_wp2
    exact hK _ _ ((KeepsOthers.alloc _ _).from _) ((KC.refl _ _).alloc _) ⟨⟨⟨bL1.alloc _, bN1.alloc _⟩, bR1.alloc _⟩, hB1.alloc hB1.size _⟩ ⟨W.heap.size, hs1, Blk.new W 30 x.cells.toArray, rfl⟩
  case body =>
    rintro L pre x a' W hL ⟨r, hr⟩ ⟨⟨⟨bL1, bN1⟩, bR1⟩, hB1⟩ ⟨Bx, hBx, bX, rfl⟩ hlt
    have hx := fun q => bX.cell q
    have x0 := bX.cell 0
    have x1 := bX.cell 1
    have x2 := bX.cell 2
    have x3 := bX.cell 3
    have x4 := bX.cell 4
    have x5 := bX.cell 5
    have x6 := bX.cell 6
    have x7 := bX.cell 7
    have x8 := bX.cell 8
    have x9 := bX.cell 9
    have l0 := bL1.cell 0
    have l1 := bL1.cell 1
    have l2 := bL1.cell 2
    have l3 := bL1.cell 3
    have l4 := bL1.cell 4
    have l5 := bL1.cell 5
    have l6 := bL1.cell 6
    have l7 := bL1.cell 7
    have l8 := bL1.cell 8
    have l9 := bL1.cell 9
    have f0 := bL1.free 0
    have f1 := bL1.free 1
    have f2 := bL1.free 2
    have f3 := bL1.free 3
    have f4 := bL1.free 4
    have f5 := bL1.free 5
    have f6 := bL1.free 6
    have f7 := bL1.free 7
    have f8 := bL1.free 8
    have f9 := bL1.free 9
    have n0 := bN1.cell 0
    have fn0 := bN1.free 0
    have hb1 := bL1.lt
    have hb2 := bN1.lt
    have BL1 := Lib.hid bL1
    have BN1 := Lib.hid bN1
    have BR1 := Lib.hid bR1
    have hpl : (pre.length : Int) + 1 ≤ 9223372036854775807 := by omega
    clear hx bL1 bN1 bR1 bX hr
    simp only [RV.cells, List.getElem?_toArray, List.getElem?_cons_succ, List.getElem?_cons_zero] at x0 x1 x2 x3 x4 x5 x6 x7 x8 x9 l0 l1 l2 l3 l4 l5 l6 l7 l8 l9 n0
    simp only [RV.val]
    gi_wp2
    refine ⟨((setAll_others x.cells W 0).trans (KeepsOthers.setCell _ _ _)).from _, (setAll_kc (.inl rfl) x.cells W 0).setCell (p := ⟨w.heap.size + 1 + 1, 0, none⟩) (.inr rfl) _, ⟨⟨?_, ?_⟩, ?_⟩, ?_⟩
    · rw [lastIn_snoc]
      exact (setAll_new (cs := (lastIn pre).cells) (us := x.cells) BL1.out rfl).far (by simp) _
    · have h1 : Blk (setAll W (w.heap.size + 1) 0 x.cells) (w.heap.size + 1 + 1) 3 #[.int .i64 (pre.length : Int)] := (setAll_far (by omega) x.cells W 0).trans BN1.out
      have h2 := h1.set 0 (.int .i64 ((pre.length : Int) + 1))
      have h3 : (#[Value.int .i64 (pre.length : Int)]).setIfInBounds 0 (.int .i64 ((pre.length : Int) + 1)) = #[.int .i64 ((pre ++ [x]).length : Int)] := by simp
      rw [h3] at h2
      exact h2
    · exact Blk.far (p := ⟨w.heap.size + 1 + 1, 0, none⟩) ((setAll_far (by omega) x.cells W 0).trans BR1.out) (by simp; omega) _
    · exact (hB1.trans (setAll_below (by omega) x.cells W 0)).setCell (by simp; omega) _
  case done =>
    rintro D xs W hD rfl ⟨⟨⟨bL1, bN1⟩, bR1⟩, hB1⟩ hK
    have hlen : (vs.take (tryN most 0 vs)).length = tryN most 0 vs := by have := tryN_le most vs 0; simp; omega
    rw [hlen] at bN1
    obtain ⟨r, hr⟩ : ∃ r, r = lastIn (vs.take (tryN most 0 vs)) := ⟨_, rfl⟩
    have hT := HT.out
    rw [← hr] at bL1 hT
    have HRR := Lib.hid hr
    have hTW := hT.under hB1 HS.out
    have hsW := hB1.size
    have hown := own_retry _ t (Nat.le_refl _) hts W S r.body hTW (fun q hq => Nat.lt_of_lt_of_le (HS.out q hq) hsW)
    have l0 := bL1.cell 0
    have l1 := bL1.cell 1
    have l2 := bL1.cell 2
    have l3 := bL1.cell 3
    have l4 := bL1.cell 4
    have l5 := bL1.cell 5
    have l6 := bL1.cell 6
    have l7 := bL1.cell 7
    have l8 := bL1.cell 8
    have l9 := bL1.cell 9
    have n0 := bN1.cell 0
    have hb1 := bL1.lt
    have hb2 := bN1.lt
    have hb0 := bR1.lt
    have BL1 := Lib.hid bL1
    have BN1 := Lib.hid bN1
    have BR1 := Lib.hid bR1
    have HOWN := Lib.hid hown
    have HKK := Lib.hid hK
    clear bL1 bN1 bR1 hr hT hTW hown hlen hK
    simp only [RV.cells, List.getElem?_toArray, List.getElem?_cons_succ, List.getElem?_cons_zero] at l0 l1 l2 l3 l4 l5 l6 l7 l8 l9 n0
    gi_wp2
    refine ⟨trivial, (callsIn_wide.2 HOWN.out).mono ?_⟩
    rintro e w2 ⟨k1, i1, b1, s1, a1, n1, c1, xs1, rfl, hD2, hO2, hbw⟩
    have bL2 := BL1.out.under hbw hb1
    have bN2 := BN1.out.under hbw hb2
    have bR2 := BR1.out.under hbw hb0
    have hs2 := hbw.size
    have hK2 : w2.heap[D]? = some (.deferred (some [])) := (hbw.block D (Array.getElem?_eq_some_iff.1 HKK.out).1).trans HKK.out
    have HK2 := Lib.hid hK2
    have HD2 := Lib.hid hD2
    have HO2 := Lib.hid hO2
    clear l0 l1 l2 l3 l4 l5 l6 l7 l8 l9 n0 hK2 hD2 hO2
    have l0 := bL2.cell 0
    have l1 := bL2.cell 1
    have l2 := bL2.cell 2
    have l3 := bL2.cell 3
    have l4 := bL2.cell 4
    have l5 := bL2.cell 5
    have l6 := bL2.cell 6
    have l7 := bL2.cell 7
    have l8 := bL2.cell 8
    have l9 := bL2.cell 9
    have f5 := bL2.free 5
    have f6 := bL2.free 6
    have f7 := bL2.free 7
    have f8 := bL2.free 8
    have f9 := bL2.free 9
    have n0 := bN2.cell 0
    have r0 := bR2.cell 0
    have r1 := bR2.cell 1
    have r2 := bR2.cell 2
    have r3 := bR2.cell 3
    have r4 := bR2.cell 4
    have r5 := bR2.cell 5
    have r6 := bR2.cell 6
    have r7 := bR2.cell 7
    have r8 := bR2.cell 8
    have r9 := bR2.cell 9
    have q0 := bR2.free 0
    have q1 := bR2.free 1
    have q2 := bR2.free 2
    have q3 := bR2.free 3
    have q4 := bR2.free 4
    have q5 := bR2.free 5
    have q6 := bR2.free 6
    have q7 := bR2.free 7
    have q8 := bR2.free 8
    have q9 := bR2.free 9
    simp only [RV.cells, zeroRV, List.getElem?_toArray, List.getElem?_cons_succ, List.getElem?_cons_zero] at l0 l1 l2 l3 l4 l5 l6 l7 l8 l9 n0 r0 r1 r2 r3 r4 r5 r6 r7 r8 r9
    have BL2 := Lib.hid bL2
    have BR2 := Lib.hid bR2
    clear bL2 bN2 bR2
    gi_wp2
    gi_region
    all_goals
      gi_wp2
      obtain ⟨WF, hWF, hfar, hblkF, hszF, hbelF⟩ := two_sets w2 (w.heap.size + 1) w.heap.size 5 [.int .i64 k1, .int .i64 i1, .int .u64 b1, .string s1, .slice a1 n1 c1]
        [.int .i64 r.err, .int .i64 r.code, .int .i64 r.pk, .int .i64 r.pn, .bool r.has, .int .i64 k1, .int .i64 i1, .int .u64 b1, .string s1, .slice a1 n1 c1]
      have hblk := hblkF 30 zeroRV.cells BR2.out (by omega) rfl
      have hbel : Below w.heap.size w WF := (hB1.trans (hbw.mono hsW)).trans (hbelF w.heap.size (Nat.le_refl _) (by omega))
      have hKF : WF.heap[D]? = some (.deferred (some [])) := (hfar D (by omega) (by omega)).trans HK2.out
      refine (congrArg (bodyPostM Fence.wide 6 Try.prog Try.f15 (Ran most vs t w) Exit.ret _) hWF).mpr ?_
      clear hblkF hbelF
      clear hWF l0 l1 l2 l3 l4 l5 l6 l7 l8 l9 n0 r0 r1 r2 r3 r4 r5 r6 r7 r8 r9
      have hDlt : D < WF.heap.size := (Array.getElem?_eq_some_iff.1 hKF).1
      have hother : ∀ q, q ≠ D → (WF.putObj D (.deferred none)).heap[q]? = WF.heap[q]? := fun q hq => World.putObj_heap_other (fun e => hq e)
      have hblk2 : Blk (WF.putObj D (.deferred none)) w.heap.size 30 _ := (hother _ (by omega)).trans hblk
      have z0 := hblk2.cell 0
      have z1 := hblk2.cell 1
      have z2 := hblk2.cell 2
      have z3 := hblk2.cell 3
      have z4 := hblk2.cell 4
      have z5 := hblk2.cell 5
      have z6 := hblk2.cell 6
      have z7 := hblk2.cell 7
      have z8 := hblk2.cell 8
      have z9 := hblk2.cell 9
      simp only [List.getElem?_toArray, List.getElem?_cons_succ, List.getElem?_cons_zero] at z0 z1 z2 z3 z4 z5 z6 z7 z8 z9
      refine ⟨by simp, .inl ⟨_, _, rfl, run_takeDeferred hKF, ?_⟩⟩
      refine ⟨.tuple #[.agg #[.int .i64 r.err, .int .i64 r.code, .int .i64 r.pk, .int .i64 r.pn, .bool r.has, .int .i64 k1, .int .i64 i1, .int .u64 b1, .string s1, .slice a1 n1 c1], .int .i64 (tryN most 0 vs)], ?_, ?_⟩
      · simp [results, Try.f15, go_sem, z0, z1, z2, z3, z4, z5, z6, z7, z8, z9]
      unfold Ran
      refine ⟨r, HRR.out, k1, i1, b1, s1, a1, n1, c1, xs1, rfl, ?_, ?_, ?_⟩
      · refine HD2.out.keep (fun q hq => ⟨by have := hq.1; omega, by have := hq.2; simp [hszF]; omega⟩) fun q hq m => World.cell?_of_block (a := ⟨q, m, none⟩) ?_
        have h1 := hq.1
        have h2 : D < W.heap.size := (Array.getElem?_eq_some_iff.1 HKK.out).1
        exact (hother q (by omega)).trans (hfar q (by omega) (by omega))
      · refine own_mono (own_keep HO2.out fun q hq => ?_) (by omega)
        obtain ⟨h1, h1'⟩ := own_row HO2.out q hq
        have h2 : D < W.heap.size := (Array.getElem?_eq_some_iff.1 HKK.out).1
        exact (hother q (by omega)).trans (hfar q (by omega) (by omega))
      · exact hbel.grown (grownBy_putObj' WF D (.deferred none)) (by omega) (fun q hq => by cases hq; omega)
  case stop =>
    rintro D c pre W _ _ h _
    exact h.elim
set_option maxRecDepth 100000 in
set_option maxHeartbeats 4000000 in
theorem run_lo (most : Int) (vs : List RV) (a : Option Addr) (n c : Nat) (S : Nat → Prop) (w : World) (t : Tree) (hmo : most < 1) (hm : most ≤ 9223372036854775807) (hrow : RowsOf (fun (r : RV) cs => cs = r.cells) 10 w S vs a n c) (hS : ∀ b, S b → b < w.heap.size)
    (ht : IsD w S t (lastIn (vs.take (tryN 1 0 vs))).body) (hts : t.size ≤ 4096) :
    Calls Try.prog 15 #[.int .i64 most, .slice a n c] w (Ran 1 vs t w) := by
  refine (callsIn_wide (n := 6)).1 ?_
  refine callsIn_of_wp_marks Try.func15 rfl trivial ?_ rfl
  simp only [Try.ntmps15, List.size_toArray, List.length_cons, List.length_nil, Nat.reduceAdd, Nat.reduceSub, Array.replicate_succ, Array.replicate_zero, List.push_toArray, List.append_toArray, List.nil_append, List.cons_append]
  have hvl : vs.length ≤ 9223372036854775807 := by have := hrow.2.2.1; have := hrow.2.1; have := hrow.1; unfold maxLen at *; omega
  have HROW := Lib.hid hrow
  have HT := Lib.hid ht
  have HS := Lib.hid hS
  clear hrow ht hS
  gi_wp2
  refine ⟨trivial, (callsIn_wide.2 (tries_any _ _ _ _ _)).mono ?_⟩
  rintro e w1 ⟨rfl, rfl⟩
  gi_wp2
  have bR := (((Blk.new w 30 zeroRV.cells.toArray).alloc (.cells zeroRV.cells.toArray 30)).alloc (.cells #[.int .i64 0] 3)).alloc (.cells #[.int .i64 1] 2) |>.alloc (.cells #[.slice a n c] 34)
  have bL := ((Blk.new (w.alloc (.cells zeroRV.cells.toArray 30)) 30 zeroRV.cells.toArray).alloc (.cells #[.int .i64 0] 3)).alloc (.cells #[.int .i64 1] 2) |>.alloc (.cells #[.slice a n c] 34)
  have bN := ((Blk.new ((w.alloc (.cells zeroRV.cells.toArray 30)).alloc (.cells zeroRV.cells.toArray 30)) 3 #[.int .i64 0]).alloc (.cells #[.int .i64 1] 2)).alloc (.cells #[.slice a n c] 34)
  have bM := (Blk.new (((w.alloc (.cells zeroRV.cells.toArray 30)).alloc (.cells zeroRV.cells.toArray 30)).alloc (.cells #[.int .i64 0] 3)) 2 #[.int .i64 1]).alloc (.cells #[.slice a n c] 34)
  have bS := Blk.new ((((w.alloc (.cells zeroRV.cells.toArray 30)).alloc (.cells zeroRV.cells.toArray 30)).alloc (.cells #[.int .i64 0] 3)).alloc (.cells #[.int .i64 1] 2)) 34 #[.slice a n c]
  have hB0 : Below w.heap.size w (((((w.alloc (.cells zeroRV.cells.toArray 30)).alloc (.cells zeroRV.cells.toArray 30)).alloc (.cells #[.int .i64 0] 3)).alloc (.cells #[.int .i64 1] 2)).alloc (.cells #[.slice a n c] 34)) := by go_grown
  have hsz : (((((w.alloc (.cells zeroRV.cells.toArray 30)).alloc (.cells zeroRV.cells.toArray 30)).alloc (.cells #[.int .i64 0] 3)).alloc (.cells #[.int .i64 1] 2)).alloc (.cells #[.slice a n c] 34)).heap.size = w.heap.size + 5 := by simp
  simp only [World.size_alloc] at bL bN bM bS
  obtain ⟨W0, hW0⟩ : ∃ W0, ((((w.alloc (.cells zeroRV.cells.toArray 30)).alloc (.cells zeroRV.cells.toArray 30)).alloc (.cells #[.int .i64 0] 3)).alloc (.cells #[.int .i64 1] 2)).alloc (.cells #[.slice a n c] 34) = W0 := ⟨_, rfl⟩
  rw [hW0] at bR bL bN bM bS hB0 hsz
  have e0 : Value.string { data := #[] } = .string ByteArray.empty := rfl
  show Code.wpIn _ _ _ _ _ _ (((((w.alloc (.cells zeroRV.cells.toArray 30)).alloc (.cells zeroRV.cells.toArray 30)).alloc (.cells #[.int .i64 0] 3)).alloc (.cells #[.int .i64 1] 2)).alloc (.cells #[.slice a n c] 34))
  rw [hW0]
  clear hW0 e0
  have HSZ := Lib.hid hsz
  have cS := bS.cell 0
  have cM := bM.cell 0
  refine wpIn_rangeFunc_ownH (F := Fence.wide) rfl (by omega) (gf := 46) (lb := #[.pointer (some ⟨w.heap.size + 1 + 1 + 1 + 1, 0, none⟩), .pointer (some ⟨w.heap.size + 1 + 1 + 1, 0, none⟩)]) rfl trivial (enters_of Try.func46 (by kernel_rfl) rfl)
    (tries_stops 5 (by omega) (w.heap.size + 1 + 1 + 1) (w.heap.size + 1 + 1 + 1 + 1) S (fun b => b = w.heap.size + 1 ∨ b = w.heap.size + 1 + 1) vs a n c 1 W0 cS cM (by omega) (HROW.out.under (fun _ _ _ h => h) hB0 HS.out)
      (by omega) (fun b hb => ⟨by have := HS.out b hb; omega, by have := HS.out b hb; omega⟩) (fun b hb => by omega))
    KC.trans (fun W l o o' h1 h2 h3 h4 => kc_b W l o o' h1 h2 h3 h4) (Below.refl _ _) (fun _ => rfl)
    (fun pre W => ((Blk W (w.heap.size + 1) 30 (lastIn pre).cells.toArray ∧ Blk W (w.heap.size + 1 + 1) 3 #[.int .i64 (pre.length : Int)]) ∧ Blk W w.heap.size 30 zeroRV.cells.toArray) ∧ Below w.heap.size w W)
    (fun _ _ _ => False)
    (OwnFrom.and (OwnFrom.and (OwnFrom.and (ownFrom_blk _ _ _ (fun pre : List RV => (lastIn pre).cells.toArray)) (ownFrom_blk _ _ _ (fun pre : List RV => #[.int .i64 (pre.length : Int)]))) (ownFrom_blk _ _ _ (fun _ : List RV => zeroRV.cells.toArray))) (ownFrom_below (Nat.le_refl _) (by omega)))
    (fun _ _ _ _ _ hs _ _ => hs)
    ⟨⟨⟨bL, bN⟩, bR⟩, hB0⟩
    (fun x a' W => ∃ Bx, w.heap.size + 1 + 1 < Bx ∧ Blk W Bx 30 x.cells.toArray ∧ a' = { tmps := #[.int .i64 most, .slice a n c, undef, undef, .pointer (some ⟨w.heap.size, 0, none⟩), .int .i64 0, .pointer (some ⟨w.heap.size + 1, 0, none⟩), .pointer (some ⟨w.heap.size + 1 + 1, 0, none⟩), .pointer (some ⟨Bx, 0, none⟩), .int .i64 most, .int .i64 1, .slice a n c, .func (.func 46) #[] #[.pointer (some ⟨w.heap.size + 1 + 1 + 1 + 1, 0, none⟩), .pointer (some ⟨w.heap.size + 1 + 1 + 1, 0, none⟩)], x.val, undef, undef, undef, undef, undef, undef, undef, undef, undef], defers := [] })
    (fun x a' _ A B row hs hg hr => by obtain ⟨Bx, h1, h2, h3⟩ := hs; exact ⟨Bx, h1, blk_own Bx 30 (fun (_ : Unit) => x.cells.toArray) () A B row h2 hg (fun r e => (hr r e).2), h3⟩)
    ?assign ?body ?done ?stop
  case assign =>
    rintro L pre x W K ⟨⟨⟨bL1, bN1⟩, bR1⟩, hB1⟩ hK
    have hs1 := bN1.lt
    simp only [RV.val]
    gi_wp2
    exact hK _ _ ((KeepsOthers.alloc _ _).from _) ((KC.refl _ _).alloc _) ⟨⟨⟨bL1.alloc _, bN1.alloc _⟩, bR1.alloc _⟩, hB1.alloc hB1.size _⟩ ⟨W.heap.size, hs1, Blk.new W 30 x.cells.toArray, rfl⟩
  case body =>
    rintro L pre x a' W hL ⟨r, hr⟩ ⟨⟨⟨bL1, bN1⟩, bR1⟩, hB1⟩ ⟨Bx, hBx, bX, rfl⟩ hlt
    have hx := fun q => bX.cell q
    have x0 := bX.cell 0
    have x1 := bX.cell 1
    have x2 := bX.cell 2
    have x3 := bX.cell 3
    have x4 := bX.cell 4
    have x5 := bX.cell 5
    have x6 := bX.cell 6
    have x7 := bX.cell 7
    have x8 := bX.cell 8
    have x9 := bX.cell 9
    have l0 := bL1.cell 0
    have l1 := bL1.cell 1
    have l2 := bL1.cell 2
    have l3 := bL1.cell 3
    have l4 := bL1.cell 4
    have l5 := bL1.cell 5
    have l6 := bL1.cell 6
    have l7 := bL1.cell 7
    have l8 := bL1.cell 8
    have l9 := bL1.cell 9
    have f0 := bL1.free 0
    have f1 := bL1.free 1
    have f2 := bL1.free 2
    have f3 := bL1.free 3
    have f4 := bL1.free 4
    have f5 := bL1.free 5
    have f6 := bL1.free 6
    have f7 := bL1.free 7
    have f8 := bL1.free 8
    have f9 := bL1.free 9
    have n0 := bN1.cell 0
    have fn0 := bN1.free 0
    have hb1 := bL1.lt
    have hb2 := bN1.lt
    have BL1 := Lib.hid bL1
    have BN1 := Lib.hid bN1
    have BR1 := Lib.hid bR1
    have hpl : (pre.length : Int) + 1 ≤ 9223372036854775807 := by omega
    clear hx bL1 bN1 bR1 bX hr
    simp only [RV.cells, List.getElem?_toArray, List.getElem?_cons_succ, List.getElem?_cons_zero] at x0 x1 x2 x3 x4 x5 x6 x7 x8 x9 l0 l1 l2 l3 l4 l5 l6 l7 l8 l9 n0
    simp only [RV.val]
    gi_wp2
    refine ⟨((setAll_others x.cells W 0).trans (KeepsOthers.setCell _ _ _)).from _, (setAll_kc (.inl rfl) x.cells W 0).setCell (p := ⟨w.heap.size + 1 + 1, 0, none⟩) (.inr rfl) _, ⟨⟨?_, ?_⟩, ?_⟩, ?_⟩
    · rw [lastIn_snoc]
      exact (setAll_new (cs := (lastIn pre).cells) (us := x.cells) BL1.out rfl).far (by simp) _
    · have h1 : Blk (setAll W (w.heap.size + 1) 0 x.cells) (w.heap.size + 1 + 1) 3 #[.int .i64 (pre.length : Int)] := (setAll_far (by omega) x.cells W 0).trans BN1.out
      have h2 := h1.set 0 (.int .i64 ((pre.length : Int) + 1))
      have h3 : (#[Value.int .i64 (pre.length : Int)]).setIfInBounds 0 (.int .i64 ((pre.length : Int) + 1)) = #[.int .i64 ((pre ++ [x]).length : Int)] := by simp
      rw [h3] at h2
      exact h2
    · exact Blk.far (p := ⟨w.heap.size + 1 + 1, 0, none⟩) ((setAll_far (by omega) x.cells W 0).trans BR1.out) (by simp; omega) _
    · exact (hB1.trans (setAll_below (by omega) x.cells W 0)).setCell (by simp; omega) _
  case done =>
    rintro D xs W hD rfl ⟨⟨⟨bL1, bN1⟩, bR1⟩, hB1⟩ hK
    have hlen : (vs.take (tryN 1 0 vs)).length = tryN 1 0 vs := by have := tryN_le 1 vs 0; simp; omega
    rw [hlen] at bN1
    obtain ⟨r, hr⟩ : ∃ r, r = lastIn (vs.take (tryN 1 0 vs)) := ⟨_, rfl⟩
    have hT := HT.out
    rw [← hr] at bL1 hT
    have HRR := Lib.hid hr
    have hTW := hT.under hB1 HS.out
    have hsW := hB1.size
    have hown := own_retry _ t (Nat.le_refl _) hts W S r.body hTW (fun q hq => Nat.lt_of_lt_of_le (HS.out q hq) hsW)
    have l0 := bL1.cell 0
    have l1 := bL1.cell 1
    have l2 := bL1.cell 2
    have l3 := bL1.cell 3
    have l4 := bL1.cell 4
    have l5 := bL1.cell 5
    have l6 := bL1.cell 6
    have l7 := bL1.cell 7
    have l8 := bL1.cell 8
    have l9 := bL1.cell 9
    have n0 := bN1.cell 0
    have hb1 := bL1.lt
    have hb2 := bN1.lt
    have hb0 := bR1.lt
    have BL1 := Lib.hid bL1
    have BN1 := Lib.hid bN1
    have BR1 := Lib.hid bR1
    have HOWN := Lib.hid hown
    have HKK := Lib.hid hK
    clear bL1 bN1 bR1 hr hT hTW hown hlen hK
    simp only [RV.cells, List.getElem?_toArray, List.getElem?_cons_succ, List.getElem?_cons_zero] at l0 l1 l2 l3 l4 l5 l6 l7 l8 l9 n0
    gi_wp2
    refine ⟨trivial, (callsIn_wide.2 HOWN.out).mono ?_⟩
    rintro e w2 ⟨k1, i1, b1, s1, a1, n1, c1, xs1, rfl, hD2, hO2, hbw⟩
    have bL2 := BL1.out.under hbw hb1
    have bN2 := BN1.out.under hbw hb2
    have bR2 := BR1.out.under hbw hb0
    have hs2 := hbw.size
    have hK2 : w2.heap[D]? = some (.deferred (some [])) := (hbw.block D (Array.getElem?_eq_some_iff.1 HKK.out).1).trans HKK.out
    have HK2 := Lib.hid hK2
    have HD2 := Lib.hid hD2
    have HO2 := Lib.hid hO2
    clear l0 l1 l2 l3 l4 l5 l6 l7 l8 l9 n0 hK2 hD2 hO2
    have l0 := bL2.cell 0
    have l1 := bL2.cell 1
    have l2 := bL2.cell 2
    have l3 := bL2.cell 3
    have l4 := bL2.cell 4
    have l5 := bL2.cell 5
    have l6 := bL2.cell 6
    have l7 := bL2.cell 7
    have l8 := bL2.cell 8
    have l9 := bL2.cell 9
    have f5 := bL2.free 5
    have f6 := bL2.free 6
    have f7 := bL2.free 7
    have f8 := bL2.free 8
    have f9 := bL2.free 9
    have n0 := bN2.cell 0
    have r0 := bR2.cell 0
    have r1 := bR2.cell 1
    have r2 := bR2.cell 2
    have r3 := bR2.cell 3
    have r4 := bR2.cell 4
    have r5 := bR2.cell 5
    have r6 := bR2.cell 6
    have r7 := bR2.cell 7
    have r8 := bR2.cell 8
    have r9 := bR2.cell 9
    have q0 := bR2.free 0
    have q1 := bR2.free 1
    have q2 := bR2.free 2
    have q3 := bR2.free 3
    have q4 := bR2.free 4
    have q5 := bR2.free 5
    have q6 := bR2.free 6
    have q7 := bR2.free 7
    have q8 := bR2.free 8
    have q9 := bR2.free 9
    simp only [RV.cells, zeroRV, List.getElem?_toArray, List.getElem?_cons_succ, List.getElem?_cons_zero] at l0 l1 l2 l3 l4 l5 l6 l7 l8 l9 n0 r0 r1 r2 r3 r4 r5 r6 r7 r8 r9
    have BL2 := Lib.hid bL2
    have BR2 := Lib.hid bR2
    clear bL2 bN2 bR2
    gi_wp2
    gi_region
    all_goals
      gi_wp2
      obtain ⟨WF, hWF, hfar, hblkF, hszF, hbelF⟩ := two_sets w2 (w.heap.size + 1) w.heap.size 5 [.int .i64 k1, .int .i64 i1, .int .u64 b1, .string s1, .slice a1 n1 c1]
        [.int .i64 r.err, .int .i64 r.code, .int .i64 r.pk, .int .i64 r.pn, .bool r.has, .int .i64 k1, .int .i64 i1, .int .u64 b1, .string s1, .slice a1 n1 c1]
      have hblk := hblkF 30 zeroRV.cells BR2.out (by omega) rfl
      have hbel : Below w.heap.size w WF := (hB1.trans (hbw.mono hsW)).trans (hbelF w.heap.size (Nat.le_refl _) (by omega))
      have hKF : WF.heap[D]? = some (.deferred (some [])) := (hfar D (by omega) (by omega)).trans HK2.out
      refine (congrArg (bodyPostM Fence.wide 6 Try.prog Try.f15 (Ran 1 vs t w) Exit.ret _) hWF).mpr ?_
      clear hblkF hbelF
      clear hWF l0 l1 l2 l3 l4 l5 l6 l7 l8 l9 n0 r0 r1 r2 r3 r4 r5 r6 r7 r8 r9
      have hDlt : D < WF.heap.size := (Array.getElem?_eq_some_iff.1 hKF).1
      have hother : ∀ q, q ≠ D → (WF.putObj D (.deferred none)).heap[q]? = WF.heap[q]? := fun q hq => World.putObj_heap_other (fun e => hq e)
      have hblk2 : Blk (WF.putObj D (.deferred none)) w.heap.size 30 _ := (hother _ (by omega)).trans hblk
      have z0 := hblk2.cell 0
      have z1 := hblk2.cell 1
      have z2 := hblk2.cell 2
      have z3 := hblk2.cell 3
      have z4 := hblk2.cell 4
      have z5 := hblk2.cell 5
      have z6 := hblk2.cell 6
      have z7 := hblk2.cell 7
      have z8 := hblk2.cell 8
      have z9 := hblk2.cell 9
      simp only [List.getElem?_toArray, List.getElem?_cons_succ, List.getElem?_cons_zero] at z0 z1 z2 z3 z4 z5 z6 z7 z8 z9
      refine ⟨by simp, .inl ⟨_, _, rfl, run_takeDeferred hKF, ?_⟩⟩
      refine ⟨.tuple #[.agg #[.int .i64 r.err, .int .i64 r.code, .int .i64 r.pk, .int .i64 r.pn, .bool r.has, .int .i64 k1, .int .i64 i1, .int .u64 b1, .string s1, .slice a1 n1 c1], .int .i64 (tryN 1 0 vs)], ?_, ?_⟩
      · simp [results, Try.f15, go_sem, z0, z1, z2, z3, z4, z5, z6, z7, z8, z9]
      unfold Ran
      refine ⟨r, HRR.out, k1, i1, b1, s1, a1, n1, c1, xs1, rfl, ?_, ?_, ?_⟩
      · refine HD2.out.keep (fun q hq => ⟨by have := hq.1; omega, by have := hq.2; simp [hszF]; omega⟩) fun q hq m => World.cell?_of_block (a := ⟨q, m, none⟩) ?_
        have h1 := hq.1
        have h2 : D < W.heap.size := (Array.getElem?_eq_some_iff.1 HKK.out).1
        exact (hother q (by omega)).trans (hfar q (by omega) (by omega))
      · refine own_mono (own_keep HO2.out fun q hq => ?_) (by omega)
        obtain ⟨h1, h1'⟩ := own_row HO2.out q hq
        have h2 : D < W.heap.size := (Array.getElem?_eq_some_iff.1 HKK.out).1
        exact (hother q (by omega)).trans (hfar q (by omega) (by omega))
      · exact hbel.grown (grownBy_putObj' WF D (.deferred none)) (by omega) (fun q hq => by cases hq; omega)
  case stop =>
    rintro D c pre W _ _ h _
    exact h.elim

theorem run_any (most : Int) (vs : List RV) (a : Option Addr) (n c : Nat) (S : Nat → Prop) (w : World) (t : Tree) (hm : most ≤ 9223372036854775807) (hrow : RowsOf (fun (r : RV) cs => cs = r.cells) 10 w S vs a n c) (hS : ∀ b, S b → b < w.heap.size)
    (ht : IsD w S t (lastIn (vs.take (tryN (max most 1) 0 vs))).body) (hts : t.size ≤ 4096) :
    Calls Try.prog 15 #[.int .i64 most, .slice a n c] w (Ran (max most 1) vs t w) := by
  by_cases h : 1 ≤ most
  · have e : max most 1 = most := by omega
    rw [e] at ht ⊢
    exact run_hi most vs a n c S w t h hm hrow hS ht hts
  · have e : max most 1 = 1 := by omega
    rw [e] at ht ⊢
    exact run_lo most vs a n c S w t (by omega) hm hrow hS ht hts
end Go.Proofs.Ytmdcfmdjbncaoaa
