/- Timer: New. -/
import Derived.Test.YtcgchccppoignaaTmO
import Derived.Great.BuildSlice
import Derived.Great.Ranges
namespace Go.Proofs.Ytcgchccppoignaa
open Go.RowKit
attribute [local go_sem ↓] Go.wp_at_zero Go.wp_at_succ
attribute [local go_sem] Go.undef

/-- The cells of a new wheel. -/
def entry0 : List Value := [.pointer none, .pointer none, .int .i64 0, .int .i64 0, .int .i64 0]
def ringCells : Nat → List Value
  | 0 => []
  | n + 1 => entry0 ++ ringCells n
theorem ring_len : ∀ n, (ringCells n).length = 5 * n
  | 0 => rfl
  | n + 1 => by rw [ringCells, List.length_append, ring_len n]; simp [entry0]; omega
theorem ring_get : ∀ (n j r : Nat) (v : Value), j < n → entry0[r]? = some v → (ringCells n)[5 * j + r]? = some v
  | 0, j, _, _, h, _ => absurd h (by omega)
  | n + 1, 0, r, v, _, h => by
    have hr : r < entry0.length := (List.getElem?_eq_some_iff.1 h).1
    rw [ringCells, Nat.mul_zero, Nat.zero_add, List.getElem?_append_left hr]
    exact h
  | n + 1, j + 1, r, v, hj, h => by
    have he : entry0.length = 5 := rfl
    rw [ringCells, List.getElem?_append_right (by rw [he]; omega), he, show 5 * (j + 1) + r - 5 = 5 * j + r by omega]
    exact ring_get n j r v (by omega) h
def wheelCells (n : Int) (m : Nat) : List Value := .bool true :: .int .i64 n :: .int .i64 0 :: (ringCells 448 ++ [.map (some m)])
theorem built_wheel (n : Int) (m : Nat) : Try.prog.built 56 [(0, .bool true), (1, .int .i64 n), (4, .map (some m))] = some (wheelCells n m).toArray := by kernel_rfl
/-- While the rings are tied: k of them are. -/
structure NewI (w : World) (b m n k : Nat) : Prop where
  made : w.cell? ⟨b, 0, none⟩ = some (.bool true)
  now : w.cell? ⟨b, 1, none⟩ = some (.int .i64 n)
  fnow : w.frozen? ⟨b, 1, none⟩ = false
  sq : w.cell? ⟨b, 2, none⟩ = some (.int .i64 (0 : Nat))
  fsq : w.frozen? ⟨b, 2, none⟩ = false
  by_ : w.cell? ⟨b, 2243, none⟩ = some (.map (some m))
  pb : Pl w b
  mp : MapAt w m []
  bm : b ≠ m
  nd : ∀ j, j < 448 → Nd w b (3 + 5 * j) (if j < k then pa (hd b j) else .pointer none) (if j < k then pa (hd b j) else .pointer none)
section
variable {w : World} {b m n k : Nat}
theorem blk_new (w : World) (n : Nat) : ∃ w1, w1 = (w.alloc (.map #[] 0)).alloc (.cells (wheelCells n w.heap.size).toArray 56) ∧ NewI w1 (w.heap.size + 1) w.heap.size n 0 ∧ Below w.heap.size w w1 := by
  refine ⟨_, rfl, ?_, ((Below.refl _ _).alloc (Nat.le_refl _) _).alloc (by simp) _⟩
  have hb : Blk ((w.alloc (.map #[] 0)).alloc (.cells (wheelCells n w.heap.size).toArray 56)) (w.heap.size + 1) 56 (wheelCells n w.heap.size).toArray := Blk.new' _ _ _ (by simp)
  have hc : ∀ o, ((w.alloc (.map #[] 0)).alloc (.cells (wheelCells n w.heap.size).toArray 56)).cell? ⟨w.heap.size + 1, o, none⟩ = (wheelCells n w.heap.size)[o]? := fun o => by rw [hb.cell o, List.getElem?_toArray]
  refine ⟨(hc 0).trans rfl, (hc 1).trans rfl, hb.free 1, (hc 2).trans rfl, hb.free 2, ?_, ⟨_, _, hb⟩, (MapAt.made w).far (Below.heap_alloc _ _ _ (by simp)), by omega, fun j hj => ?_⟩
  · rw [hc, wheelCells, List.getElem?_cons_succ, List.getElem?_cons_succ, List.getElem?_cons_succ, List.getElem?_append_right (by rw [ring_len]; omega), ring_len]
    rfl
  · have key : ∀ r v, entry0[r]? = some v → (wheelCells n w.heap.size)[3 + 5 * j + r]? = some v := fun r v hv => by
      rw [show 3 + 5 * j + r = (5 * j + r) + 3 by omega, wheelCells, List.getElem?_cons_succ, List.getElem?_cons_succ, List.getElem?_cons_succ]
      have := ring_get 448 j r v hj hv
      rw [List.getElem?_append_left (List.getElem?_eq_some_iff.1 this).1]
      exact this
    exact ⟨(hc _).trans (key 0 _ rfl), (hc _).trans (key 1 _ rfl), hb.free _, hb.free _⟩
theorem NewI.step (h : NewI w b m n k) (hk : k < 448) : NewI ((w.setCell ⟨b, 3 + 5 * k, none⟩ (pa (hd b k))).setCell ⟨b, 3 + 5 * k + 1, none⟩ (pa (hd b k))) b m n (k + 1) := by
  have cb : ∀ o, o ≠ 3 + 5 * k → o ≠ 3 + 5 * k + 1 → ((w.setCell ⟨b, 3 + 5 * k, none⟩ (pa (hd b k))).setCell ⟨b, 3 + 5 * k + 1, none⟩ (pa (hd b k))).cell? ⟨b, o, none⟩ = w.cell? ⟨b, o, none⟩ := fun o h1 h2 =>
    (World.cell?_setCell_other _ _ _ _ fun e => h2 (congrArg Addr.off e).symm).trans (World.cell?_setCell_other _ _ _ _ fun e => h1 (congrArg Addr.off e).symm)
  have fb : ∀ a, ((w.setCell ⟨b, 3 + 5 * k, none⟩ (pa (hd b k))).setCell ⟨b, 3 + 5 * k + 1, none⟩ (pa (hd b k))).frozen? a = w.frozen? a := fun a => (World.frozen?_setCell _ _ _ _).trans (World.frozen?_setCell _ _ _ _)
  refine ⟨(cb 0 (by omega) (by omega)).trans h.made, (cb 1 (by omega) (by omega)).trans h.now, (fb _).trans h.fnow, (cb 2 (by omega) (by omega)).trans h.sq, (fb _).trans h.fsq, (cb _ (by omega) (by omega)).trans h.by_, (h.pb.set _ _).set _ _, h.mp.far ?_, h.bm, fun j hj => ?_⟩
  · exact (RowKit.Below.heap_setCell _ _ _ _ (Ne.symm h.bm)).trans (RowKit.Below.heap_setCell _ _ _ _ (Ne.symm h.bm))
  · by_cases e : j = k
    · subst e
      rw [if_pos (by omega)]
      exact ((h.nd j hj).setP _).setN _
    · have := h.nd j hj
      rw [show (if j < k + 1 then pa (hd b j) else .pointer none : Value) = if j < k then pa (hd b j) else .pointer none by
        by_cases c : j < k
        · rw [if_pos c, if_pos (by omega)]
        · rw [if_neg c, if_neg (by omega)]]
      exact (this.setOff (by omega) (by omega)).setOff (by omega) (by omega)
theorem alone_at {w0 : World} {o : Nat} (h : NewI w b m n k) (hk : k < 448) (ho : o = 3 + 5 * k) (hb : Below w0.heap.size w0 w) (hB : w0.heap.size ≤ b) :
    Calls Try.prog 24 #[.pointer (some ⟨b, o, none⟩)] w fun e w' => e = .returned (.tuple #[]) ∧ NewI w' b m n (k + 1) ∧ Below w0.heap.size w0 w' := by
  subst ho
  refine (alone_any b (3 + 5 * k) _ _ w (h.nd k hk)).mono ?_
  rintro e w' ⟨rfl, rfl⟩
  exact ⟨rfl, h.step hk, (hb.setCell (p := ⟨b, 3 + 5 * k, none⟩) hB _).setCell (p := ⟨b, 3 + 5 * k + 1, none⟩) hB _⟩
theorem NewI.done {B : Nat} (h : NewI w b m n 448) (hn : n ≤ MT) (hB : B ≤ b ∧ B ≤ m) : Wh w B b m n 0 [] (fun _ => []) where
  whl := {
    made := h.made
    now := h.now
    fnow := h.fnow
    sq := h.sq
    fsq := h.fsq
    by_ := h.by_
    rg := {
      ok := { xb := fun _ hx => (nomatch hx), inj := fun _ _ hx => (nomatch hx), mem := fun _ _ _ hx => (nomatch hx), nd := fun _ _ => List.nodup_nil, one := fun _ _ _ _ _ hx => (nomatch hx) }
      pb := h.pb
      dat := fun _ hx => (nomatch hx)
      lk := by
        refine ⟨id, id, fun a ha => ?_, fun j hj => ⟨rfl, rfl⟩⟩
        rcases ha with ⟨j, hj, rfl⟩ | ⟨x, hx, -⟩
        · have := h.nd j hj
          rw [if_pos hj] at this
          exact this
        · cases hx }
    mp := h.mp
    bm := h.bm
    xm := fun _ hx => (nomatch hx)
    lo := ⟨hB.1, hB.2, fun _ hx => (nomatch hx)⟩ }
  inv := { ring := fun k hk x => by simp, ge := fun _ hx => (nomatch hx) }
  gt := fun _ hx => (nomatch hx)
  srt := List.Pairwise.nil
  dst := { nd := List.nodup_nil, id := fun _ _ hx => (nomatch hx), wf := fun _ hx => (nomatch hx) }
  sq := fun _ hx => (nomatch hx)
  nm := hn
end
/-- A struct literal of three parts, whose values are known. -/
theorem wpList_build3 {P : Program} {ops : Array Oper} {rest : List Oper} {o : Oper} {a : Act} {w : World} {Q : Exit → Act → World → Prop} (hg : o.guard = none) (t : TypeId) {i0 i1 i2 : Nat} {x0 x1 x2 : Operand} (ho : o.op = .build t #[(i0, x0), (i1, x1), (i2, x2)])
    (d : Option Tmp) (hd : o.dst = d) (cells : Array Value) (v0 v1 v2 : Value) (h0 : a.eval x0 = v0) (h1 : a.eval x1 = v1) (h2 : a.eval x2 = v2) (hf : P.built t [(i0, v0), (i1, v1), (i2, v2)] = some cells)
    (h : wpList P ops Q rest (a.put d (.agg cells)) w) : wpList P ops Q (o :: rest) a w :=
  wpList_buildTo hg t _ ho d hd cells (by rw [← h0, ← h1, ← h2] at hf; simpa using hf) h
def nowF (a : Int) : Nat := (min (max a 0) MT).toNat
theorem nowF_le (a : Int) : nowF a ≤ MT := by unfold nowF; omega
section
variable {w : World}
set_option maxRecDepth 100000 in
set_option maxHeartbeats 16000000 in
theorem new_any (a : Int) (_ha : (Lit.int .i64 a).wf = true) (w : World) :
    Calls Try.prog 14 #[.int .i64 a] w fun e w' => e = .returned (pt (w.heap.size + 1) 0) ∧ Wh w' w.heap.size (w.heap.size + 1) w.heap.size (nowF a) 0 [] (fun _ => []) ∧ Below w.heap.size w w' := by
  obtain ⟨n, hn⟩ : ∃ n, n = nowF a := ⟨_, rfl⟩
  rw [← hn]
  obtain ⟨w1, hw1, hi1, hb1⟩ := blk_new w n
  have HI1 := Lib.hid hi1
  have HB1 := Lib.hid hb1
  have HW1 := Lib.hid hw1
  have HN := Lib.hid hn
  have hmm := @run_makeMap Try.prog
  clear hw1 hi1 hb1 hn
  have HNV : Hid ((n : Int) = min (max a 0) 1099511627776) := by show (n : Int) = _; rw [HN.out, nowF]; unfold MT; omega
  have HBW : Hid (Try.prog.built 56 [(0, .bool true), (1, .int .i64 (min (max a 0) 1099511627776)), (4, .map (some w.heap.size))] = some (wheelCells n w.heap.size).toArray) := by show _ = _; rw [← HNV.out]; exact built_wheel _ _
  go_enter Try.func14, Try.ntmps14
  simp only [Go.undef]
  go_upto_region 2 with (first
    | (refine wpList_build3 rfl 56 rfl _ rfl (wheelCells n w.heap.size).toArray (.bool true) (.int .i64 (min (max a 0) 1099511627776)) (.map (some w.heap.size)) rfl rfl rfl HBW.out ?_)
    | (refine Go.Great.wpList_boxTo rfl 56 _ rfl _ rfl (w.heap.size + 1) (by simp) (wheelCells n w.heap.size).toArray rfl ?_))
  rw [← HW1.out]
  obtain ⟨V, hV⟩ : ∃ V, V = Value.agg (wheelCells (n : Int) w.heap.size).toArray := ⟨_, rfl⟩
  rw [← hV]
  clear hV
  go_upto_region 3 with fail
  clear HBW HNV HW1
  go_loopw [12] (fun iv wr => ∃ l : Nat, iv = .int .i64 l ∧ l ≤ 7 ∧ NewI wr (w.heap.size + 1) w.heap.size n (64 * l) ∧ Below w.heap.size w wr) (fun iv _ => 7 - (intOf iv).toNat)
  case atStart => exact ⟨0, rfl, by omega, HI1.out, HB1.out⟩
  case round =>
    obtain ⟨l, rfl, hl, hi, hb⟩ := hrel
    have HI := Lib.hid hi
    have HB := Lib.hid hb
    clear hi hb
    by_cases hlt : l < 7
    · have hb7 : decide ((l : Int) < 7) = true := decide_eq_true (by omega)
      go_upto_region 6 with fail
      obtain ⟨wo, rfl⟩ : ∃ wo : World, wo = wr := ⟨_, rfl⟩
      go_loopw [15] (fun iv wr => ∃ s : Nat, iv = .int .i64 s ∧ s ≤ 64 ∧ NewI wr (w.heap.size + 1) w.heap.size n (64 * l + s) ∧ Below w.heap.size w wr) (fun iv _ => 64 - (intOf iv).toNat)
      case atStart => exact ⟨0, rfl, by omega, HI.out, HB.out⟩
      case round =>
        obtain ⟨s, rfl, hs, hi, hb⟩ := hrel
        have HI2 := Lib.hid hi
        have HB2 := Lib.hid hb
        clear hi hb
        by_cases hst : s < 64
        · obtain ⟨o, ho⟩ : ∃ o, 3 + l * 320 + s * 5 = o := ⟨_, rfl⟩
          have HAL := Lib.hid (alone_at (o := o) HI2.out (k := 64 * l + s) (by omega) (by omega) HB2.out (by omega))
          go_wp2_with fail
          refine HAL.out.mono ?_
          rintro e w5 ⟨rfl, hi5, hb5⟩
          have HI5 := Lib.hid hi5
          have HB5 := Lib.hid hb5
          clear hi5 hb5 HAL
          go_wp2_with fail
          go_roundw
          case rel => exact ⟨s + 1, by go_num, by omega, HI5.out, HB5.out⟩
          case measure => simp [intOf]; omega
        · obtain rfl : s = 64 := by omega
          have HI5 : Hid (NewI wr (w.heap.size + 1) w.heap.size n (64 * (l + 1))) := by show NewI _ _ _ _ _; rw [show 64 * (l + 1) = 64 * l + 64 by omega]; exact HI2.out
          go_wp2_with fail
          go_roundw
          case rel => exact ⟨l + 1, by go_num, by omega, HI5.out, HB2.out⟩
          case measure => simp [intOf]; omega
    · obtain rfl : l = 7 := by omega
      go_wp2_with fail
      go_ret
      have hi := HI.out
      exact ⟨rfl, hi.done (by rw [HN.out]; exact nowF_le _) ⟨by omega, Nat.le_refl _⟩, HB.out⟩
end
end Go.Proofs.Ytcgchccppoignaa
