/- Timer: awake. -/
import Derived.Test.YtcgchccppoignaaTmR
namespace Go.Proofs.Ytcgchccppoignaa
open Go.RowKit
attribute [local go_sem ↓] Go.wp_at_zero Go.wp_at_succ
attribute [local go_sem] Go.undef

theorem belowN {B : Nat} {w w' : World} (h : Below B w w') (n : Nat) : Below B w (w'.drewN n) := h.trans ⟨rfl, rfl, rfl, Nat.le_refl _, fun _ _ => rfl⟩
theorem first_zero {α : Type} {f : α → Nat} {x : α} {l : List α} (h : ∀ y, y ∈ l → f x ≤ f y) : IsFirst f (x :: l) 0 :=
  ⟨x, rfl, fun j y hy => by
    rcases List.mem_cons.1 (List.mem_of_getElem? hy) with e | e
    · rw [e]; exact Nat.le_refl _
    · exact h y e, fun j y hj => absurd hj (by omega)⟩
theorem fires_ex {x1 x2 x3 : Tm} (h1 : x1.at_ = 5) (h2 : x2.at_ = 3) (h3 : x3.at_ = 5) : Fires (fun x : Tm => x.at_) 4 [x1, x2, x3] [x2] [x1, x3] ∧ Fires (fun x : Tm => x.at_) 5 [x1, x3] [x1, x3] [] := by
  constructor
  · refine .step (k := 1) ⟨x2, rfl, fun j y hy => ?_, fun j y hj hy => ?_⟩ rfl (by show x2.at_ ≤ 4; omega) (.done fun y hy => ?_)
    · have := List.mem_of_getElem? hy
      simp at this
      rcases this with h | h | h <;> (rw [h]; show x2.at_ ≤ Tm.at_ _; omega)
    · obtain rfl : j = 0 := by omega
      simp at hy
      subst hy
      show x2.at_ < x1.at_
      omega
    · simp at hy
      rcases hy with h | h <;> (rw [h]; show 4 < Tm.at_ _; omega)
  · refine .step (k := 0) (first_zero fun y hy => ?_) rfl (by show x1.at_ ≤ 5; omega) (.step (k := 0) (first_zero fun y hy => ?_) rfl (by show x3.at_ ≤ 5; omega) (.done fun y hy => ?_))
    · rw [List.mem_singleton.1 hy]
      show x1.at_ ≤ x3.at_
      omega
    · cases hy
    · cases hy
theorem lit_rows (w : World) (l : List Pr) {cs : Array Value} (h : cs.toList = (l.map fun p => [Value.int .i64 p.1, Value.int .i64 p.2]).flatten) (hl : l.length ≤ 10) {N n : Nat} (hN : N = w.heap.size) (hn : n = l.length) :
    RowsOf FE 2 (w.alloc (.cells cs 45)) (fun _ => True) l (some ⟨N, 0, none⟩) n n := by
  subst hN hn
  refine ⟨rfl, Nat.le_refl _, by unfold maxLen; omega, fun _ => ⟨w.heap.size, 0, rfl, trivial, fun j x hx => ⟨_, rfl, rfl, fun i v hv => ?_⟩⟩⟩
  have hb := Blk.new w 45 cs
  rw [hb.cell, ← Array.getElem?_toList, h, Nat.zero_add]
  refine flat_get (sz := 2) (fun c hc => ?_) (by simp [hx]) i v hv
  obtain ⟨y, -, rfl⟩ := List.mem_map.1 hc
  rfl
set_option maxRecDepth 100000 in
set_option maxHeartbeats 16000000 in
theorem awake_any (w : World) : Calls Try.prog 13 #[] w fun e w' => e = .returned (.bool true) ∧ Below w.heap.size w w' := by
  go_enter Try.func13, Try.ntmps13
  go_wp2_with fail
  refine (new_any 0 (by decide) w).mono ?_
  rintro e w1 ⟨rfl, hw1, hb1⟩
  rw [show nowF 0 = 0 from by decide] at hw1
  have hs1 := hb1.size
  have HA1 := Lib.hid (add_wh hw1 (by omega) (by decide) hs1 5 1 (by decide) (by decide))
  have HB1 := Lib.hid hb1
  have HW1 := Lib.hid hw1
  clear hw1 hb1
  go_wp2_with fail
  refine HA1.out.mono ?_
  rintro e w2 (⟨h, -, -⟩ | ⟨-, rfl, x1, ρ1, a1, i1, hw2, ht2, ho2⟩)
  · exact absurd h (by decide)
  have hb2 : Below w.heap.size w w2 := HB1.out.trans (ht2.below hs1 fun g hg => (HW1.out.whl.own_lt hg).1)
  have hs2 := hb2.size
  have ha2 : addB 0 ([] ++ [x1]) 3 2 = true := by simp [addB, i1, atF, MT]
  have HA2 := Lib.hid (add_wh hw2 (by omega) (by show 1 < maxLen; decide) hs2 3 2 (by decide) (by decide))
  have HX1 := Lib.hid (And.intro a1 i1)
  have HB2 := Lib.hid hb2
  have HW2 := Lib.hid hw2
  have HAA2 := Lib.hid ha2
  clear hw2 hb2 ht2 ho2 a1 i1 ha2 HA1
  go_wp2_with fail
  refine HA2.out.mono ?_
  rintro e w3 (⟨h, -, -⟩ | ⟨-, rfl, x2, ρ2, a2, i2, hw3, ht3, ho3⟩)
  · exact absurd h (by rw [HAA2.out]; decide)
  have hb3 : Below w.heap.size w w3 := HB2.out.trans (ht3.below hs2 fun g hg => (HW2.out.whl.own_lt hg).1)
  have hs3 := hb3.size
  have ha3 : addB 0 ([] ++ [x1] ++ [x2]) 5 3 = true := by simp [addB, HX1.out.2, i2, atF, MT]
  have HA3 := Lib.hid (add_wh hw3 (by omega) (by show 2 < maxLen; decide) hs3 5 3 (by decide) (by decide))
  have HX2 := Lib.hid (And.intro a2 i2)
  have HB3 := Lib.hid hb3
  have HW3 := Lib.hid hw3
  have HAA3 := Lib.hid ha3
  clear hw3 hb3 ht3 ho3 a2 i2 ha3 HA2
  go_wp2_with fail
  refine HA3.out.mono ?_
  rintro e w4 (⟨h, -, -⟩ | ⟨-, rfl, x3, ρ3, a3, i3, hw4, ht4, ho4⟩)
  · exact absurd h (by rw [HAA3.out]; decide)
  have hb4 : Below w.heap.size w w4 := HB3.out.trans (ht4.below hs3 fun g hg => (HW3.out.whl.own_lt hg).1)
  have hs4 := hb4.size
  have HX3 := Lib.hid (And.intro a3 i3)
  have hw4' : Wh w4 w.heap.size (w.heap.size + 1) w.heap.size 0 3 [x1, x2, x3] ρ3 := hw4
  have HG4 := Lib.hid (go_any hw4' (by show 3 ≤ 8796093022208; decide) 4 (by decide))
  have HB4 := Lib.hid hb4
  have HW4 := Lib.hid hw4'
  clear hw4 hw4' hb4 ht4 ho4 a3 i3 HA3
  go_wp2_with fail
  refine HG4.out.mono ?_
  rintro e w5 ⟨v5, F5, R5, ρ5, rfl, hf5, hw5, hor5, ht5⟩
  have e1 : x1.at_ = 5 := by have := HX1.out.1; simp [atF] at this; omega
  have e2 : x2.at_ = 3 := by have := HX2.out.1; simp [atF] at this; omega
  have e3 : x3.at_ = 5 := by have := HX3.out.1; simp [atF] at this; omega
  rw [show tkF 0 4 = 4 from by decide] at hf5 hw5
  obtain ⟨rfl, rfl⟩ := hf5.det (fires_ex e1 e2 e3).1
  have hb5 : Below w.heap.size w w5 := HB4.out.trans (ht5.below hs4 fun g hg => (HW4.out.whl.own_lt hg).1)
  have hs5 := hb5.size
  have hs45 := ht5.size
  have HG5 := Lib.hid (go_any hw5 (by show 2 ≤ 8796093022208; decide) 5 (by decide))
  have HOR5 := Lib.hid hor5
  have HB5 := Lib.hid hb5
  have HW5 := Lib.hid hw5
  have HOL : Hid (∀ g, Own (w.heap.size + 1) w.heap.size [x1, x3] g → g < w4.heap.size) := fun g hg => (HW4.out.whl.own_lt (own_of_fires hf5 hg)).2
  have HF2 := Lib.hid (fires_ex e1 e2 e3).2
  have HE := Lib.hid (And.intro e1 (And.intro e2 e3))
  clear hw5 hb5 ht5 hor5 hf5 e1 e2 e3 HG4
  go_wp2_with fail
  refine HG5.out.mono ?_
  rintro e w6 ⟨v6, F6, R6, ρ6, rfl, hf6, hw6, hor6, ht6⟩
  rw [show tkF 4 5 = 5 from by decide] at hf6 hw6
  obtain ⟨rfl, rfl⟩ := hf6.det HF2.out
  have hb6 : Below w.heap.size w w6 := HB5.out.trans (ht6.below hs5 fun g hg => (HW5.out.whl.own_lt hg).1)
  have hor5' := own_keep HOR5.out (w' := w6) fun q hq => ht6.far q (own_ge HOR5.out hq).2 fun ho => by have := HOL.out q ho; have := (own_ge HOR5.out hq).1; omega
  obtain ⟨av5, cv5, rfl, hr5⟩ := fired_rows hor5'
  obtain ⟨av6, cv6, rfl, hr6⟩ := fired_rows hor6
  have hs6 := ht6.size
  have HR5 := Lib.hid hr5
  have HR6 := Lib.hid hr6
  have HB6 := Lib.hid hb6
  have HW6 := Lib.hid hw6
  clear hor5' hor6 hw6 hf6 ht6 hb6 hr5 hr6 HG5
  go_wp2_with fail
  have hp2 : [x2].map prT = [(3, 2)] := by
    have h1 := HE.out.2.1
    have h2 := HX2.out.2
    simp [prT, h1, h2]
  have hp13 : [x1, x3].map prT = [(5, 1), (5, 3)] := by
    have h1 := HE.out.1
    have h2 := HE.out.2.2
    have h3 := HX1.out.2
    have h4 := HX3.out.2
    simp [prT, h1, h2, h3, h4]
  have HSA := Lib.hid (same_any ([x2].map prT) [(3, 2)] av5 (some ⟨w6.heap.size, 0, none⟩) 1 1 cv5 1 _ _ (w6.alloc (.cells #[.int .i64 3, .int .i64 2] 45)) (rows_keep HR5.out fun g hg => Below.heap_alloc _ _ _ hg.2) (lit_rows w6 [(3, 2)] rfl (by decide) rfl rfl))
  have HPP := Lib.hid (And.intro hp2 hp13)
  clear hp2 hp13
  refine HSA.out.mono ?_
  rintro e w7 ⟨rfl, n7, rfl⟩
  rw [HPP.out.1]
  obtain ⟨wy, hwy⟩ : ∃ wy, wy = (w6.alloc (.cells #[.int .i64 3, .int .i64 2] 45)).drewN n7 := ⟨_, rfl⟩
  have hsy : w6.heap.size + 1 = wy.heap.size := by rw [hwy]; simp
  have hby : Below w6.heap.size w6 wy := by rw [hwy]; exact belowN ((Below.refl _ _).alloc (Nat.le_refl _) _) n7
  rw [← hwy]
  have hr6y : RowsOf FE 2 wy (fun g => w5.heap.size ≤ g ∧ g < w6.heap.size) ([x1, x3].map prT) av6 2 cv6 := rows_keep HR6.out fun g hg => hby.block g hg.2
  have hly := lit_rows (cs := #[.int .i64 5, .int .i64 1, .int .i64 5, .int .i64 3]) wy [(5, 1), (5, 3)] rfl (by decide) (N := wy.heap.size) (n := 2) rfl rfl
  have HSB := Lib.hid (same_any ([x1, x3].map prT) [(5, 1), (5, 3)] av6 (some ⟨wy.heap.size, 0, none⟩) 2 2 cv6 2 _ _ (wy.alloc (.cells #[.int .i64 5, .int .i64 1, .int .i64 5, .int .i64 3] 45)) (rows_keep hr6y fun g hg => Below.heap_alloc _ _ _ (by have := hg.2; rw [← hsy]; omega)) hly)
  have HSY := Lib.hid hsy
  have HBY := Lib.hid hby
  clear hwy hsy hby hr6y hly
  go_wp2_with fail
  refine HSB.out.mono ?_
  rintro e w8 ⟨rfl, n8, hw8⟩
  rw [HPP.out.2]
  have hwf : Below w6.heap.size w6 w8 := by
    rw [hw8]
    exact belowN (HBY.out.alloc HBY.out.size _) n8
  have HNW := Lib.hid (now_any (HW6.out.whl.on hwf))
  have HBE := Lib.hid (below_via HB6.out hwf HB6.out.size)
  clear hwf hw8 HSA HSB
  go_wp2_with fail
  refine HNW.out.mono ?_
  rintro e w9 ⟨rfl, rfl⟩
  go_wp2_with fail
  go_ret
  exact ⟨rfl, HBE.out⟩
end Go.Proofs.Ytcgchccppoignaa
