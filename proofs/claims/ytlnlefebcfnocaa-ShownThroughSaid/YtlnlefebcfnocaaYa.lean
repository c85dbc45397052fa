/- Wrappers that a call has laid; the law's own chain; Gives of the program. -/
import Derived.Test.YtlnlefebcfnocaaSy
namespace Go.Proofs.Ytlnlefebcfnocaa
open Go.RowKit Go.Deep
attribute [local go_sem] Go.undef

theorem wraps_lit {w : World} {g : Nat} {T : TypeId} {cs : Array Value} {S : Nat → Prop} {ws : List (WX × Value)} {n : Nat} (hB : Blk w g T cs) (hSg : S g) (hn : n = ws.length) (hlen : ws.length ≤ maxLen)
    (h : ∀ j p, ws[j]? = some p → EW w S p (p.1.cells p.2) ∧ ∀ i v, (p.1.cells p.2)[i]? = some v → cs[0 + j * 8 + i]? = some v) : Wraps w S ws (some ⟨g, 0, none⟩) n n :=
  ⟨hn, Nat.le_refl _, hn ▸ hlen, fun _ => ⟨g, 0, rfl, hSg, fun j p hj => ⟨p.1.cells p.2, (h j p hj).1, rfl, fun i v hi => (hB.cell _).trans ((h j p hj).2 i v hi)⟩⟩⟩
theorem ew_leaf (w : World) (S : Nat → Prop) (op a b : Int) (c : Nat) (o : Bool) (hc : c < 4294967296) : EW w S (⟨op, a, b, c, .node 0 0 [], o⟩, .slice none 0 0) (WX.cells ⟨op, a, b, c, .node 0 0 [], o⟩ (.slice none 0 0)) :=
  ⟨rfl, IsW.leaf w S 0 0, hc⟩
/-- A wrapper without numbers and pattern. -/
def plainW (op : Int) (c : Nat) (o : Bool) : WX × Value := (⟨op, 0, 0, c, .node 0 0 [], o⟩, .slice none 0 0)

def awW : List (WX × Value) := [(⟨2, 0, 0, 1, .node 0 0 [], false⟩, .slice none 0 0), (⟨7, 1, 1, 0, .node 0 0 [], false⟩, .slice none 0 0)]
theorem aw_wraps {w : World} {g : Nat} {T : TypeId} {S : Nat → Prop} (hS : S g)
    (hB : Blk w g T #[.int .i64 2, .int .i64 0, .int .i64 0, .int .u32 1, .int .i64 0, .int .i64 0, .slice none 0 0, .bool false, .int .i64 7, .int .i64 1, .int .i64 1, .int .u32 0, .int .i64 0, .int .i64 0, .slice none 0 0, .bool false]) :
    Wraps w S awW (some ⟨g, 0, none⟩) 2 2 := by
  refine wraps_lit hB hS rfl (by unfold maxLen; decide) fun j p hj => ?_
  match j, hj with
  | 0, hj =>
    injection hj with hj
    subst hj
    refine ⟨ew_leaf _ _ _ _ _ _ _ (by decide), fun i v hi => ?_⟩
    match i, hi with
    | 0, hi | 1, hi | 2, hi | 3, hi | 4, hi | 5, hi | 6, hi | 7, hi => exact hi
  | 1, hj =>
    injection hj with hj
    subst hj
    refine ⟨ew_leaf _ _ _ _ _ _ _ (by decide), fun i v hi => ?_⟩
    match i, hi with
    | 0, hi | 1, hi | 2, hi | 3, hi | 4, hi | 5, hi | 6, hi | 7, hi => exact hi

set_option maxRecDepth 100000 in
set_option maxHeartbeats 8000000 in
theorem awake_any (w : World) : Calls Try.prog 10 #[] w fun e w' => e = .returned (.bool true) ∧ Below w.heap.size w w' := by
  have hs := fun W (hr : Wraps W (· < W.heap.size) awW (some ⟨w.heap.size, 0, none⟩) 2 2) => shown_any W (· < W.heap.size) 1 0 3 awW (some ⟨w.heap.size, 0, none⟩) 2 2 hr (fun _ h => h) (by omega) (by omega)
  have hw := fun W k (hr : Wraps W (· < W.heap.size) awW (some ⟨w.heap.size, 0, none⟩) 2 2) => Who_any W (· < W.heap.size) 1 0 3 awW (some ⟨w.heap.size, 0, none⟩) 2 2 k hr (fun _ h => h) (by omega) (by omega)
  have e1 : sh 3 awW 2 = 17 := by decide
  have e2 : whoW 3 awW 4 = 2 := by decide
  have e3 : whoW 3 awW 0 = 0 := by decide
  rw [e1] at hs
  have HS := Lib.hid hs
  have HW4 := Lib.hid (fun W => hw W 4)
  have HW0 := Lib.hid (fun W => hw W 0)
  rw [e2] at HW4
  rw [e3] at HW0
  clear hs hw
  go_enter Try.func10, Try.ntmps10
  go_wp2_with fail
  refine (HS.out _ ?r1).mono ?_
  case r1 => exact aw_wraps (by simp; omega) ((Blk.new w _ _).alloc _)
  rintro e w1 ⟨rfl, hb1⟩
  have hB1 : Below w.heap.size w w1 := below_on hb1 (by go_grown)
  have HQ : Hid (Blk w1 w.heap.size 37 _) := ((Blk.new w _ _).alloc _).under hb1 (by simp; omega)
  have HC : Hid (Blk w1 (w.heap.size + 1) 28 #[.int .i64 1, .int .i64 0, .int .u32 3, .slice (some ⟨w.heap.size, 0, none⟩) 2 2]) := (Blk.new' _ _ _ (by simp)).under hb1 (by simp)
  have q0 := HC.out.cell 0
  have q1 := HC.out.cell 1
  have q2 := HC.out.cell 2
  have q3 := HC.out.cell 3
  simp only [List.getElem?_toArray, List.getElem?_cons_succ, List.getElem?_cons_zero] at q0 q1 q2 q3
  clear hb1
  go_wp2_with fail
  refine (HW4.out _ (aw_wraps HQ.out.lt HQ.out)).mono ?_
  rintro e w2 ⟨rfl, hb2⟩
  have hB2 := below_on hb2 hB1
  have HQ2 := Lib.hid (HQ.out.under hb2 HQ.out.lt)
  have HC2 := Lib.hid (HC.out.under hb2 HC.out.lt)
  clear q0 q1 q2 q3
  have q0 := HC2.out.cell 0
  have q1 := HC2.out.cell 1
  have q2 := HC2.out.cell 2
  have q3 := HC2.out.cell 3
  simp only [List.getElem?_toArray, List.getElem?_cons_succ, List.getElem?_cons_zero] at q0 q1 q2 q3
  clear hb2
  go_wp2_with fail
  refine (HW0.out _ (aw_wraps HQ2.out.lt HQ2.out)).mono ?_
  rintro e w3 ⟨rfl, hb3⟩
  have hB3 := below_on hb3 hB2
  go_wp2_with fail
  go_ret
  exact ⟨rfl, hB3⟩

/-- What a wrapper gives, as a set. -/
def givesW (x : WX) : Nat := givenN x ||| opnN x
theorem givesW_lt {x : WX} (h : Cap x) : givesW x < 4294967296 := or_lt (givenN_lt h) (opnN_lt x)
set_option maxRecDepth 100000 in
set_option maxHeartbeats 8000000 in
theorem Gives_any (w : World) (S : Nat → Prop) (x : WX) (v : Value) (hw : IsW w S x.want [.int .i64 x.want.op, .int .i64 x.want.num, v]) (hx : Cap x) (hS : ∀ q, S q → q < w.heap.size) :
    Calls Try.prog 21 #[.agg (x.cells v).toArray] w fun e w' => e = .returned (.int .u32 (givesW x : Int)) ∧ Below w.heap.size w w' := by
  have hb := fun W (hr : Wraps W (· < W.heap.size) [(x, v)] (some ⟨w.heap.size + 1, 0, none⟩) 1 1) => build_any W (· < W.heap.size) 0 0 0 [(x, v)] (some ⟨w.heap.size + 1, 0, none⟩) 1 1 hr (fun _ h => h) (by omega)
  have hwr : ∀ W : World, Below w.heap.size w W → Blk W (w.heap.size + 1) 37 (x.cells v).toArray → Wraps W (· < W.heap.size) [(x, v)] (some ⟨w.heap.size + 1, 0, none⟩) 1 1 := fun W hW hB => by
    refine wraps_lit hB hB.lt rfl (by unfold maxLen; simp) fun j p hj => ?_
    match j, hj with
    | 0, hj =>
      injection hj with hj
      subst hj
      exact ⟨⟨rfl, (hw.under hW hS).mono fun b hb => Nat.lt_of_lt_of_le (hS b hb) hW.size, hx⟩, fun i v' hi => by simpa using hi⟩
  have hk := lv_kind (c := 0) (by omega) (r := [(x, v)]) (fun p hp => by rw [List.mem_singleton.1 hp]; exact hx)
  have e1 : givesN 0 ([(x, v)].map Prod.fst) = givesW x := rfl
  rw [e1] at hk
  have HB := Lib.hid hb
  have HWR := Lib.hid hwr
  have HK := Lib.hid hk
  clear hb hwr hk e1 hw hS
  obtain ⟨op, A, B, cp, want, opn⟩ := x
  simp only [WX.cells] at HB HWR ⊢
  generalize givesW _ = gw at HK ⊢
  go_enter Try.func21, Try.ntmps21
  go_wp2_with fail
  refine (HB.out _ (HWR.out _ (by go_grown) ?r1)).mono ?_
  case r1 => exact Blk.new' _ _ _ (by simp)
  rintro e w1 ⟨a1, c1, rfl, hown, hb⟩
  have HB1 : Hid (Below w.heap.size w w1) := below_on hb (by go_grown)
  obtain ⟨g, cap, e3, -, -⟩ := hown.form (by omega)
  injection e3 with e3 _ e3'
  subst e3 e3'
  have dl := hown.cellAt 1 (by omega)
  rw [lvs_at 0 _ (Nat.le_refl _)] at dl
  clear hown hb
  rcases HK.out with ⟨h0, -⟩ | ⟨p, q, Z, hpq, -, -, hl, -, hz⟩ | ⟨p, q, Z, hpq, -, -, hl, -, hz⟩
  · cases h0
  all_goals
    rw [show (List.take 1 [((⟨op, A, B, cp, want, opn⟩ : WX), v)]).reverse = [(⟨op, A, B, cp, want, opn⟩, v)] from rfl, hl] at dl
    have HZ := Lib.hid hz
    clear hz hl HK hpq
    go_wp2_with fail
    refine (HZ.out _).mono ?_
    rintro e w2 ⟨rfl, hb2⟩
    have hB2 := below_on hb2 HB1.out
    clear hb2
    go_wp2_with fail
    go_ret
    exact ⟨rfl, hB2⟩
end Go.Proofs.Ytlnlefebcfnocaa
