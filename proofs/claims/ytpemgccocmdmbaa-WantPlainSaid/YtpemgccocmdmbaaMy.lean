/- Must that does not throw. -/
import Derived.Test.YtpemgccocmdmbaaAs
import Derived.Deep.RegionHeld3
namespace Go.Proofs.Ytpemgccocmdmbaa
open Go.RowKit Go.Deep
attribute [local go_sem] Go.undef

set_option maxRecDepth 100000 in
set_option maxHeartbeats 8000000 in
theorem Must_yes (d : Tree) (hsz : d.size ≤ 4096) (q : Int) (cs : List Value) (S : Nat → Prop) (h : isT d.kind q = true) (w : World) (hd : IsD w S d cs) (hS : ∀ y, S y → y < w.heap.size) :
    Calls Try.prog 27 #[.agg cs.toArray, .int .i64 q] w (CopyOf w d (fun v => .tuple #[v, .agg #[.int .i64 0, .int .i64 0], .int .i64 0])) := by
  have hmy := fun sv g hsv W (hW : Below w.heap.size w W) => must_yes d hsz q cs S sv g hsv h W (hd.under hW hS) (fun y hy => Nat.lt_of_lt_of_le (hS y hy) hW.size)
  obtain ⟨kd, hkd⟩ : ∃ kd, kd = d := ⟨_, rfl⟩
  rw [← hkd] at hmy ⊢
  obtain ⟨k, i, b, x, l⟩ := d
  obtain ⟨a, c, rfl, -⟩ := hd.open_
  have hk : kd.kind = k := by rw [hkd]; rfl
  rw [hk] at hmy
  have HMY := Lib.hid hmy
  clear hmy h hd hS hsz hkd hk
  have hmf : ∀ (fn : Fn) (first cap : Array Value) (w : World), (Instr.makeFunc fn first cap).run Try.prog w = .ok (.func fn first cap) w := fun _ _ _ _ => rfl
  go_enter_defers Try.func27, Try.ntmps27
  go_wp2_with fail
  show Code.wp _ _ _ _ ((((w.alloc (.cells #[.int .i64 k, .int .i64 i, .int .u64 b, .string x, .slice a l.length c] 30)).alloc (.cells #[.int .i64 0, .int .i64 0, .int .u64 0, .string ByteArray.empty, .slice none 0 0] 30)).alloc (.cells #[.int .i64 0, .int .i64 0] 41)).alloc (.cells #[.int .i64 0] 42))
  generalize hW : ((((w.alloc (.cells #[.int .i64 k, .int .i64 i, .int .u64 b, .string x, .slice a l.length c] 30)).alloc (.cells #[.int .i64 0, .int .i64 0, .int .u64 0, .string ByteArray.empty, .slice none 0 0] 30)).alloc (.cells #[.int .i64 0, .int .i64 0] 41)).alloc (.cells #[.int .i64 0] 42)) = W0
  have hB0 : Below w.heap.size w W0 := by rw [← hW]; go_grown
  have b4 : Blk W0 w.heap.size 30 #[.int .i64 k, .int .i64 i, .int .u64 b, .string x, .slice a l.length c] := by rw [← hW]; exact (((Blk.new _ _ _).alloc _).alloc _).alloc _
  have b5 : Blk W0 (w.heap.size + 1) 30 #[.int .i64 0, .int .i64 0, .int .u64 0, .string ByteArray.empty, .slice none 0 0] := by rw [← hW]; exact ((Blk.new' _ _ _ (by simp)).alloc _).alloc _
  have b6 : Blk W0 (w.heap.size + 1 + 1) 41 #[.int .i64 0, .int .i64 0] := by rw [← hW]; exact (Blk.new' _ _ _ (by simp)).alloc _
  have b7 : Blk W0 (w.heap.size + 1 + 1 + 1) 42 #[.int .i64 0] := by rw [← hW]; exact Blk.new' _ _ _ (by simp)
  obtain ⟨x0, x1, x2, x3, x4⟩ := dcells b4
  have l4 := b4.lt
  have l7 := b7.lt
  have B5 := Lib.hid b5
  have B6 := Lib.hid b6
  have B7 := Lib.hid b7
  clear hW b4 b5 b6 b7
  refine wp_region_noPanic ?_
  go_region_with (first
    | (go_at_call 48; refine (sample_any k _).mono ?_; rintro e w1 ⟨⟨g, rfl⟩, hb⟩; have y0 := cell_over hb l4 x0; have y1 := cell_over hb l4 x1; have y2 := cell_over hb l4 x2; have y3 := cell_over hb l4 x3; have y4 := cell_over hb l4 x4; have hbw : Below W0.heap.size W0 w1 := below_on hb (Below.refl _ _).drew; have hBw : Below w.heap.size w w1 := below_on hbw hB0; generalize hsv : sampleV g k = sv; have HSV := Lib.hid hsv; clear hsv)
    | (go_at_call 51; refine (HMY.out sv g HSV.out.symm _ hBw).mono ?_; rintro e w2 ⟨k2, i2, b2, s2, a2, n2, c2, xs2, rfl, hD2, hO2, hb2⟩; have hbz : Below W0.heap.size W0 w2 := below_on hb2 hbw; have h5 := B5.out.under hbz B5.out.lt; have h6 := B6.out.under hbz B6.out.lt; have h7 := B7.out.under hbz B7.out.lt; have q0 := h5.cell 0; have q1 := h5.cell 1; have q2 := h5.cell 2; have q3 := h5.cell 3; have q4 := h5.cell 4; have q5 := h6.cell 0; have q6 := h6.cell 1; have q7 := h7.cell 0; have g0 := h5.free 0; have g1 := h5.free 1; have g2 := h5.free 2; have g3 := h5.free 3; have g4 := h5.free 4; have g5 := h6.free 0; have g6 := h6.free 1; have g7 := h7.free 0; simp only [List.getElem?_toArray, List.getElem?_cons_succ, List.getElem?_cons_zero] at q0 q1 q2 q3 q4 q5 q6 q7; have HD2 := Lib.hid hD2; clear h5 h6 h7 hD2 hO2))
  all_goals
    have hB2 : Below w.heap.size w w2 := below_on hbz hB0
    have hs1 : w.heap.size + 1 + 1 + 1 < w1.heap.size := Nat.lt_of_lt_of_le l7 hbw.size
    refine NoPanic.normal ?_
    go_wp2_with fail
    refine leaves_cons (f := 50) (args := #[.pointer (some ⟨w.heap.size + 1 + 1, 0, none⟩), .pointer (some ⟨w.heap.size + 1 + 1 + 1, 0, none⟩)]) (by simp) (by simp [go_sem]) ?_
    refine (catch_idle _ _ _).mono ?_
    rintro e u' w'' ⟨rfl, rfl, rfl⟩
    simp only [settle]
    refine ⟨.tuple #[.agg #[.int .i64 k2, .int .i64 i2, .int .u64 b2, .string s2, .slice a2 n2 c2], .agg #[.int .i64 0, .int .i64 0], .int .i64 0], by simp [results, Try.results27, go_sem, *], [.int .i64 k2, .int .i64 i2, .int .u64 b2, .string s2, .slice a2 n2 c2], rfl, ?_, ?_⟩
    · refine HD2.out.keep (fun y hy => ⟨by have := hy.1; omega, by simp only [size_set]; exact hy.2⟩) (fun y hy j => World.cell?_of_block (a := ⟨y, j, none⟩) ?_)
      have h1 := hy.1
      exact (heap_set (by simp; omega)).trans ((heap_set (by simp; omega)).trans ((heap_set (by simp; omega)).trans ((heap_set (by simp; omega)).trans ((heap_set (by simp; omega)).trans ((heap_set (by simp; omega)).trans ((heap_set (by simp; omega)).trans (heap_set (by simp; omega))))))))
    · exact (((((((hB2.setCell (by simp) _).setCell (by simp) _).setCell (by simp) _).setCell (by simp) _).setCell (by simp) _).setCell (by simp; omega) _).setCell (by simp; omega) _).setCell (by simp; omega) _
end Go.Proofs.Ytpemgccocmdmbaa
