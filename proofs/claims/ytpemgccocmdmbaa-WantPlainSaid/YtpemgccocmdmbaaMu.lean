/- is, must, To: assertions. -/
import Derived.Test.YtpemgccocmdmbaaHo
import Derived.Test.YtpemgccocmdmbaaOwnW
import Derived.Defers
import Derived.Recover
import Derived.WalkLawsBesides
namespace Go.Proofs.Ytpemgccocmdmbaa
open Go.RowKit Go.Deep

def isT (k q : Int) : Bool := typedT k q && decide (q = 12 → k = 12)

set_option maxRecDepth 100000 in
set_option maxHeartbeats 4000000 in
theorem is_any (k q i b : Int) (x : ByteArray) (v sv : Value) (g : Nat) (hsv : sv = sampleV g k) (w : World) :
    Calls Try.prog 47 #[sv, .agg #[.int .i64 k, .int .i64 i, .int .u64 b, .string x, v], .int .i64 q] w fun e w' => e = .returned (.bool (isT k q)) ∧ Below w.heap.size w w' := by
  have ht := fun W => typed_any k g q W
  rw [← hsv] at ht
  have hT : isT k q = (typedT k q && decide (q = 12 → k = 12)) := rfl
  generalize typedT k q = tb at ht hT
  have HT := Lib.hid ht
  clear ht hsv
  cases tb with
  | false =>
    rw [Bool.false_and] at hT
    rw [hT]
    clear hT
    go_enter Try.func47, Try.ntmps47
    go_wp2_with fail
    refine (HT.out _).mono ?_
    rintro e w1 ⟨rfl, rfl⟩
    go_wp2_with fail
    go_ret
    exact ⟨rfl, by go_grown⟩
  | true =>
    rw [Bool.true_and] at hT
    rw [hT]
    clear hT
    by_cases hq : q = 12
    · subst hq
      by_cases hk : k = 12
      · subst hk
        go_enter Try.func47, Try.ntmps47
        go_wp2_with fail
        refine (HT.out _).mono ?_
        rintro e w1 ⟨rfl, rfl⟩
        go_wp2_with fail
        go_ret
        exact ⟨by simp, by go_grown⟩
      · go_enter Try.func47, Try.ntmps47
        go_wp2_with fail
        refine (HT.out _).mono ?_
        rintro e w1 ⟨rfl, rfl⟩
        go_wp2_with fail
        go_ret
        exact ⟨by simp [hk], by go_grown⟩
    · go_enter Try.func47, Try.ntmps47
      go_wp2_with fail
      refine (HT.out _).mono ?_
      rintro e w1 ⟨rfl, rfl⟩
      go_wp2_with fail
      go_ret
      exact ⟨by simp [hq], by go_grown⟩

/-- What the reference's To says. -/
def toB (k q : Int) : Bool := decide (0 < q ∧ q < 14) && holdsB (ksetN (kindP 2 q) 14) k
theorem isT_toB (k q : Int) (h0 : 0 ≤ k) (h1 : k ≤ 13) : isT k q = toB k q := by
  by_cases hq : 0 < q ∧ q < 14
  · have hk : k = 0 ∨ k = 1 ∨ k = 2 ∨ k = 3 ∨ k = 4 ∨ k = 5 ∨ k = 6 ∨ k = 7 ∨ k = 8 ∨ k = 9 ∨ k = 10 ∨ k = 11 ∨ k = 12 ∨ k = 13 := by omega
    have hq2 : q = 1 ∨ q = 2 ∨ q = 3 ∨ q = 4 ∨ q = 5 ∨ q = 6 ∨ q = 7 ∨ q = 8 ∨ q = 9 ∨ q = 10 ∨ q = 11 ∨ q = 12 ∨ q = 13 := by omega
    clear h0 h1 hq
    rcases hk with rfl | rfl | rfl | rfl | rfl | rfl | rfl | rfl | rfl | rfl | rfl | rfl | rfl | rfl <;>
      rcases hq2 with rfl | rfl | rfl | rfl | rfl | rfl | rfl | rfl | rfl | rfl | rfl | rfl | rfl <;> decide
  · have h2 : isT k q = false := by
      unfold isT typedT
      rw [Bool.and_eq_false_iff]
      refine .inl (decide_eq_false ?_)
      omega
    rw [h2, toB, decide_eq_false hq, Bool.false_and]

set_option maxRecDepth 100000 in
set_option maxHeartbeats 4000000 in
theorem must_no (k q i b : Int) (x : ByteArray) (v sv : Value) (g : Nat) (hsv : sv = sampleV g k) (h : isT k q = false) (w : World) :
    Calls Try.prog 51 #[sv, .agg #[.int .i64 k, .int .i64 i, .int .u64 b, .string x, v], .int .i64 q] w fun e w' => e = .panicked [{ v := .iface 66 (.agg #[.int .i64 k, .int .i64 (-1)]), recovered := false }] ∧ Below w.heap.size w w' := by
  have hi := fun W => is_any k q i b x v sv g hsv W
  rw [h] at hi
  have HI := Lib.hid hi
  clear hi h hsv
  go_enter Try.func51, Try.ntmps51
  go_wp2_with fail
  refine (HI.out _).mono ?_
  rintro e w1 ⟨rfl, hb1⟩
  have hB1 : Below w.heap.size w w1 := below_on hb1 (by go_grown)
  have c0 : w1.cell? ⟨w.heap.size, 0, none⟩ = some (.int .i64 k) := cell_over hb1 (by simp; omega) (by simp)
  clear hb1
  go_wp2_with fail
  exact ⟨rfl, rfl, hB1⟩

theorem own_mono' {w : World} {B B' E size : Nat} {v : Value} {n : Nat} {xs : List Value} (h : w.ownsRow B E size v n xs) (hB : B' ≤ B) : w.ownsRow B' E size v n xs := own_mono h hB

set_option maxRecDepth 100000 in
set_option maxHeartbeats 4000000 in
theorem must_yes (d : Tree) (hsz : d.size ≤ 4096) (q : Int) (cs : List Value) (S : Nat → Prop) (sv : Value) (g : Nat) (hsv : sv = sampleV g d.kind) (h : isT d.kind q = true) (w : World) (hd : IsD w S d cs) (hS : ∀ y, S y → y < w.heap.size) :
    Calls Try.prog 51 #[sv, .agg cs.toArray, .int .i64 q] w (Copied w d) := by
  have hc := fun W (hW : Below w.heap.size w W) => own_want _ d (Nat.le_refl _) hsz W S cs (hd.under hW hS) (fun y hy => Nat.lt_of_lt_of_le (hS y hy) hW.size)
  obtain ⟨k, i, b, x, l⟩ := d
  obtain ⟨a, c, rfl, -⟩ := hd.open_
  simp only [Tree.kind] at hsv h
  have hi := fun W => is_any k q i b x (.slice a l.length c) sv g hsv W
  rw [h] at hi
  have HI := Lib.hid hi
  have HC := Lib.hid hc
  clear hi h hsv hc hd hS hsz
  go_enter Try.func51, Try.ntmps51
  go_wp2_with fail
  refine (HI.out _).mono ?_
  rintro e w1 ⟨rfl, hb1⟩
  have hB1 : Below w.heap.size w w1 := below_on hb1 (by go_grown)
  have hs1 : w.heap.size + 2 ≤ w1.heap.size := by have := hb1.size; simp at this; omega
  have x0 : w1.cell? ⟨w.heap.size, 0, none⟩ = some (.int .i64 k) := cell_over hb1 (by simp; omega) (by simp)
  have x1 : w1.cell? ⟨w.heap.size, 1, none⟩ = some (.int .i64 i) := cell_over hb1 (by simp; omega) (by simp)
  have x2 : w1.cell? ⟨w.heap.size, 2, none⟩ = some (.int .u64 b) := cell_over hb1 (by simp; omega) (by simp)
  have x3 : w1.cell? ⟨w.heap.size, 3, none⟩ = some (.string x) := cell_over hb1 (by simp; omega) (by simp)
  have x4 : w1.cell? ⟨w.heap.size, 4, none⟩ = some (.slice a l.length c) := cell_over hb1 (by simp; omega) (by simp)
  have HQ : Hid (Blk w1 (w.heap.size + 1) 30 #[.int .i64 0, .int .i64 0, .int .u64 0, .string ByteArray.empty, .slice none 0 0]) := (Blk.new' _ _ _ (by simp)).under hb1 (by simp)
  clear hb1
  go_wp2_with fail
  refine (HC.out w1 hB1).mono ?_
  rintro e w2 ⟨k2, i2, b2, s2, a2, n2, c2, xs2, rfl, hD2, hO2, hb2⟩
  have hB2 : Below w.heap.size w w2 := below_on hb2 hB1
  have hq := HQ.out.under hb2 (by omega)
  have q0 := hq.cell 0
  have q1 := hq.cell 1
  have q2 := hq.cell 2
  have q3 := hq.cell 3
  have q4 := hq.cell 4
  have g0 := hq.free 0
  have g1 := hq.free 1
  have g2 := hq.free 2
  have g3 := hq.free 3
  have g4 := hq.free 4
  simp only [List.getElem?_toArray, List.getElem?_cons_succ, List.getElem?_cons_zero] at q0 q1 q2 q3 q4
  have HD := Lib.hid (hD2.mono (S' := Btw (w.heap.size + 2) w2.heap.size) (fun y hy => ⟨by have := hy.1; omega, hy.2⟩))
  have HO := Lib.hid (own_mono' hO2 hs1)
  clear hq hD2 hO2 hb2 x0 x1 x2 x3 x4
  go_wp2_with fail
  refine bodyPost_ret (v := .agg #[.int .i64 k2, .int .i64 i2, .int .u64 b2, .string s2, .slice a2 n2 c2]) (by simp [results, Try.results51, go_sem, *]) rfl ?_
  exact copied_end (by omega) hB2 HD.out HO.out
end Go.Proofs.Ytpemgccocmdmbaa
