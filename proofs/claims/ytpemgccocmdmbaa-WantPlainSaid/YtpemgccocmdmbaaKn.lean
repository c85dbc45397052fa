/- Kinds and the reference's, of a fit pattern. -/
import Derived.Test.YtpemgccocmdmbaaKs
namespace Go.Proofs.Ytpemgccocmdmbaa
open Go.RowKit

mutual
def okT : WT → Bool
  | .node op num l => okN op num l.length && okL l
def okL : List WT → Bool
  | [] => true
  | x :: r => okT x && okL r
end
theorem okT_node (op num : Int) (l : List WT) : okT (.node op num l) = (okN op num l.length && okL l) := by rw [okT]
theorem okL_iff (l : List WT) : okL l = true ↔ ∀ x ∈ l, okT x = true := by
  induction l with
  | nil => simp [okL]
  | cons x r ih => rw [okL]; simp [ih]
theorem okT_of_look : ∀ (m : Nat) (t : WT), t.high ≤ m → ∀ deep seen : Int, 0 ≤ lookW t deep seen → okT t = true := by
  intro m
  induction m with
  | zero => intro t ht; cases t; rw [WT.high_node] at ht; omega
  | succ m ih =>
    intro t ht deep seen h
    obtain ⟨op, n, l⟩ := t
    rw [WT.high_node] at ht
    rw [lookW_node] at h
    split at h
    · omega
    · split at h
      · rename_i hok
        rw [okT_node, hok, Bool.true_and, okL_iff]
        have key : ∀ (r : List WT) (s : Int), (∀ x ∈ r, x ∈ l) → 0 ≤ lookL r deep s → ∀ x ∈ r, okT x = true := by
          intro r
          induction r with
          | nil => intro s _ _ x hx; cases hx
          | cons y r ihr =>
            intro s hr h2 x hx
            rw [lookL_cons] at h2
            split at h2
            · omega
            · rcases List.mem_cons.1 hx with rfl | hx
              · exact ih x (by have := whigh_mem (hr x (by simp)); omega) (deep + 1) (s + 1) (by omega)
              · exact ihr _ (fun z hz => hr z (by simp [hz])) h2 x hx
        exact key l seen (fun _ h => h) h
      · omega
theorem fit_ok {t : WT} (h : fitW t = true) : okT t = true := okT_of_look _ t (Nat.le_refl _) 1 1 (of_decide_eq_true h)
theorem okN_op {op num : Int} {n : Nat} (h : okN op num n = true) : (op = 1 ∧ num = 0 ∧ n = 0) ∨ (op = 2 ∧ (0 ≤ num ∧ num < 14) ∧ n = 0) ∨ (op = 3 ∧ (0 ≤ num ∧ num < 10) ∧ n = 0) ∨ (op = 4 ∧ num = 0 ∧ 2 ≤ n) ∨ (op = 5 ∧ num = 0 ∧ 2 ≤ n) ∨ (op = 6 ∧ num = 0 ∧ n = 1) := by
  by_cases h1 : op = 1
  · subst h1
    have h := h
    simp [okN] at h
    exact .inl ⟨rfl, h⟩
  by_cases h2 : op = 2
  · subst h2; simp [okN] at h; exact .inr (.inl ⟨rfl, h⟩)
  by_cases h3 : op = 3
  · subst h3; simp [okN] at h; exact .inr (.inr (.inl ⟨rfl, h⟩))
  by_cases h4 : op = 4
  · subst h4; simp [okN] at h; exact .inr (.inr (.inr (.inl ⟨rfl, h⟩)))
  by_cases h5 : op = 5
  · subst h5; simp [okN] at h; exact .inr (.inr (.inr (.inr (.inl ⟨rfl, h⟩))))
  by_cases h6 : op = 6
  · subst h6; simp [okN] at h; exact .inr (.inr (.inr (.inr (.inr ⟨rfl, h⟩))))
  · simp [okN, h1, h2, h3, h4, h5, h6] at h

def KNW (w : World) (f : List WT → Nat → Nat) (l : List WT) (X : Nat) (v : Value) (sv iv : Value) (wr : World) : Prop :=
  ∃ j s : Nat, iv = .int .i64 j ∧ sv = .int .u32 s ∧ j ≤ l.length ∧ s < 16384 ∧ f (l.drop j) s = X ∧ (∃ u0 u1, Blk wr w.heap.size 24 #[u0, u1, v]) ∧ Below w.heap.size w wr
theorem not_val (x : Nat) (h : x < 16384) : bits .andNot .u32 16383 (x : Int) = ((16383 ^^^ x : Nat) : Int) := by
  have h1 := bits_andNot_nat (a := 16383) (b := x) (by omega) h
  have h2 : 16383 &&& (16383 ^^^ x) = 16383 ^^^ x := by
    apply Nat.eq_of_testBit_eq
    intro i
    rw [Nat.testBit_and]
    by_cases hi : i < 14
    · have h3 : Nat.testBit 16383 i = true := by
        rw [show (16383 : Nat) = 2 ^ 14 - 1 by decide, Nat.testBit_two_pow_sub_one]; simpa using hi
      rw [h3, Bool.true_and]
    · have h3 : Nat.testBit (16383 ^^^ x) i = false := Nat.testBit_lt_two_pow (Nat.lt_of_lt_of_le (Nat.xor_lt_two_pow (n := 14) (by omega) h) (Nat.pow_le_pow_right (by omega) (by omega)))
      rw [h3, Bool.and_false]
  rw [h2] at h1
  exact h1
theorem kset_num (P : Int → Bool) (Q : Int → Bool) (h : ∀ i : Nat, i < 14 → P i = Q i) : ksetN P 14 = ksetN Q 14 := ksetN_congr 14 h

set_option maxHeartbeats 4000000 in
set_option maxRecDepth 100000 in
theorem typed_ref (k : Int) (h0 : 0 ≤ k) (h1 : k < 14) (w : World) : Calls Try.prog 46 #[.int .i64 k] w fun e w' => e = .returned (.int .u32 (ksetN (kindP 2 k) 14)) ∧ w = w' := by
  have hk : k = 0 ∨ k = 1 ∨ k = 2 ∨ k = 3 ∨ k = 4 ∨ k = 5 ∨ k = 6 ∨ k = 7 ∨ k = 8 ∨ k = 9 ∨ k = 10 ∨ k = 11 ∨ k = 12 ∨ k = 13 := by omega
  clear h0 h1
  rcases hk with rfl | rfl | rfl | rfl | rfl | rfl | rfl | rfl | rfl | rfl | rfl | rfl | rfl | rfl
  all_goals
    go_enter Try.func46, Try.ntmps46
    go_wp2_with fail
    go_ret
    exact ⟨rfl, rfl⟩


set_option maxHeartbeats 8000000 in
set_option maxRecDepth 100000 in
theorem kinds_want : ∀ (m : Nat) (t : WT), t.high ≤ m → okT t = true → ∀ (w : World) (S : Nat → Prop) (cs : List Value), IsW w S t cs → (∀ b, S b → b < w.heap.size) →
    Calls Try.prog 16 #[.agg cs.toArray] w fun e w' => e = .returned (.int .u32 (kindsW t)) ∧ Below w.heap.size w w' := by
  intro m
  induction m with
  | zero => intro t ht; cases t; rw [WT.high_node] at ht; omega
  | succ m ih =>
    intro t ht hok w S cs hd hS
    obtain ⟨o, n, l⟩ := t
    obtain ⟨a, c, rfl, hrow⟩ := hd.open_
    have HH : Hid (∀ x ∈ l, x.high ≤ m) := fun x hx => by have := whigh_mem hx; rw [WT.high_node] at ht; omega
    rw [okT_node] at hok
    obtain ⟨hn, hl⟩ := Bool.and_eq_true_iff.1 hok
    have HOK : Hid (∀ x ∈ l, okT x = true) := (okL_iff l).1 hl
    have hop := okN_op hn
    have HROW := Lib.hid hrow
    have HS := Lib.hid hS
    have IH := Lib.hid ih
    have hcl : c ≤ maxLen := hrow.2.2.1
    have hlc : l.length ≤ c := hrow.2.1
    unfold maxLen at hcl
    clear ht hd hrow hS ih hok hn hl
    rcases hop with ⟨rfl, rfl, -⟩ | ⟨rfl, hn, -⟩ | ⟨rfl, hn, -⟩ | ⟨rfl, rfl, hl2⟩ | ⟨rfl, rfl, hl2⟩ | ⟨rfl, rfl, hl1⟩
    · have hX : kindsW (.node 1 0 l) = ksetN (kindP 1 0) 14 := by rw [kindsW_node]; rfl
      rw [hX]
      clear hX
      go_enter Try.func16, Try.ntmps16
      go_wp2_with fail
      refine (kinds_leaf 1 0 _ _).mono ?_
      rintro e w1 ⟨rfl, hb1⟩
      have hB1 : Below w.heap.size w w1 := below_on hb1 (by go_grown)
      clear hb1
      go_wp2_with fail
      go_ret
      exact ⟨rfl, hB1⟩
    · have hX : kindsW (.node 2 n l) = ksetN (kindP 2 n) 14 := by rw [kindsW_node]; rfl
      rw [hX]
      clear hX
      go_enter Try.func16, Try.ntmps16
      go_wp2_with fail
      refine (kinds_leaf 2 n _ _).mono ?_
      rintro e w1 ⟨rfl, hb1⟩
      have hB1 : Below w.heap.size w w1 := below_on hb1 (by go_grown)
      clear hb1
      go_wp2_with fail
      go_ret
      exact ⟨rfl, hB1⟩
    · have hX : kindsW (.node 3 n l) = ksetN (kindP 3 n) 14 := by rw [kindsW_node]; rfl
      rw [hX]
      clear hX
      go_enter Try.func16, Try.ntmps16
      go_wp2_with fail
      refine (kinds_leaf 3 n _ _).mono ?_
      rintro e w1 ⟨rfl, hb1⟩
      have hB1 : Below w.heap.size w w1 := below_on hb1 (by go_grown)
      clear hb1
      go_wp2_with fail
      go_ret
      exact ⟨rfl, hB1⟩
    · clear hl2
      go_enter Try.func16, Try.ntmps16
      go_wp2_with fail
      go_loopw [3, 16] (KNW w orW l (kindsW (.node 4 0 l)) (.slice a l.length c)) (fun _ i _ => l.length - (intOf i).toNat)
      case atStart => exact ⟨0, 0, rfl, rfl, Nat.zero_le _, by omega, by rw [kindsW_node]; rfl, ⟨_, _, Blk.new _ _ _⟩, by go_grown⟩
      case round =>
        obtain ⟨j, s, rfl, rfl, hj, hs, hkeep, ⟨u0, u1, hB⟩, hbel⟩ := hrel
        have HK := Lib.hid hkeep
        have c2 := hB.cell 2
        simp only [List.getElem?_toArray, List.getElem?_cons_succ, List.getElem?_cons_zero] at c2
        have HB := Lib.hid hB
        have hsz := hbel.size
        clear hkeep hB
        by_cases hlt : j < l.length
        · obtain ⟨g, q, x, xs, rfl, hSg, hx, hD, hxl, hr⟩ := HROW.out.get hlt
          have hr2 : wr.rangeAt g (q + j * 3) xs := rangeAt_keep hr fun y => hbel.cell (p := ⟨g, y, none⟩) (HS.out g hSg)
          have hD2 := hD.under hbel HS.out
          have hdr := or_drop hx s
          have hvv : bits .or .u32 (s : Int) (kindsW x : Int) = _ := bits_or_nat hs (kindsW_lt x)
          have hlt2 : s ||| kindsW x < 16384 := Nat.or_lt_two_pow (n := 14) hs (kindsW_lt x)
          have hm := List.mem_of_getElem? hx
          obtain ⟨ox, nx, lx⟩ := x
          obtain ⟨ax, cx, rfl, -⟩ := hD.open_
          have d0 := hr2 0 _ rfl
          have d1 := hr2 1 _ rfl
          have d2 := hr2 2 _ rfl
          simp only [Nat.add_zero] at d0
          have hc := fun W (hW : Below wr.heap.size wr W) => IH.out (.node ox nx lx) (HH.out _ hm) (HOK.out _ hm) W S _ (hD2.under hW (fun y hy => Nat.lt_of_lt_of_le (HS.out y hy) hsz)) (fun y hy => Nat.lt_of_lt_of_le (Nat.lt_of_lt_of_le (HS.out y hy) hsz) hW.size)
          generalize kindsW (.node ox nx lx) = kx at hc hvv hlt2 hdr
          have HC := Lib.hid hc
          have HDR := Lib.hid hdr
          have HVV := Lib.hid hvv
          clear hr hr2 hD hD2 hx hxl hc hdr hm hvv
          go_wp2_with fail
          refine (HC.out _ (by go_grown)).mono ?_
          rintro e w1 ⟨rfl, hb1⟩
          have hb2 : Below wr.heap.size wr w1 := below_on hb1 (by go_grown)
          have hB1 : Below w.heap.size w w1 := below_on hb2 hbel
          have HB1 : Hid (Blk w1 w.heap.size 24 _) := HB.out.under hb2 HB.out.lt
          clear c2 d0 d1 d2 hb1 hb2
          go_wp2_with fail
          go_roundw
          case rel => exact ⟨j + 1, _, by go_num, by rw [HVV.out], by omega, hlt2, by rw [← HK.out, HDR.out], ⟨_, _, HB1.out⟩, hB1⟩
          case measure => simp [intOf]; omega
        · obtain rfl : j = l.length := by omega
          have hX : s = kindsW (.node 4 0 l) := by rw [← HK.out]; simp [orW_nil]
          rw [hX]
          clear hX
          go_wp2_with fail
          go_ret
          exact ⟨rfl, hbel⟩
    · clear hl2
      go_enter Try.func16, Try.ntmps16
      go_wp2_with fail
      go_loopw [6, 31] (KNW w andW l (kindsW (.node 5 0 l)) (.slice a l.length c)) (fun _ i _ => l.length - (intOf i).toNat)
      case atStart => exact ⟨0, 16383, rfl, rfl, Nat.zero_le _, by omega, by rw [kindsW_node]; rfl, ⟨_, _, Blk.new _ _ _⟩, by go_grown⟩
      case round =>
        obtain ⟨j, s, rfl, rfl, hj, hs, hkeep, ⟨u0, u1, hB⟩, hbel⟩ := hrel
        have HK := Lib.hid hkeep
        have c2 := hB.cell 2
        simp only [List.getElem?_toArray, List.getElem?_cons_succ, List.getElem?_cons_zero] at c2
        have HB := Lib.hid hB
        have hsz := hbel.size
        clear hkeep hB
        by_cases hlt : j < l.length
        · obtain ⟨g, q, x, xs, rfl, hSg, hx, hD, hxl, hr⟩ := HROW.out.get hlt
          have hr2 : wr.rangeAt g (q + j * 3) xs := rangeAt_keep hr fun y => hbel.cell (p := ⟨g, y, none⟩) (HS.out g hSg)
          have hD2 := hD.under hbel HS.out
          have hdr := and_drop hx s
          have hvv : bits .and .u32 (s : Int) (kindsW x : Int) = _ := bits_and_nat hs (kindsW_lt x)
          have hlt2 : s &&& kindsW x < 16384 := Nat.lt_of_le_of_lt Nat.and_le_left hs
          have hm := List.mem_of_getElem? hx
          obtain ⟨ox, nx, lx⟩ := x
          obtain ⟨ax, cx, rfl, -⟩ := hD.open_
          have d0 := hr2 0 _ rfl
          have d1 := hr2 1 _ rfl
          have d2 := hr2 2 _ rfl
          simp only [Nat.add_zero] at d0
          have hc := fun W (hW : Below wr.heap.size wr W) => IH.out (.node ox nx lx) (HH.out _ hm) (HOK.out _ hm) W S _ (hD2.under hW (fun y hy => Nat.lt_of_lt_of_le (HS.out y hy) hsz)) (fun y hy => Nat.lt_of_lt_of_le (Nat.lt_of_lt_of_le (HS.out y hy) hsz) hW.size)
          generalize kindsW (.node ox nx lx) = kx at hc hvv hlt2 hdr
          have HC := Lib.hid hc
          have HDR := Lib.hid hdr
          have HVV := Lib.hid hvv
          clear hr hr2 hD hD2 hx hxl hc hdr hm hvv
          go_wp2_with fail
          refine (HC.out _ (by go_grown)).mono ?_
          rintro e w1 ⟨rfl, hb1⟩
          have hb2 : Below wr.heap.size wr w1 := below_on hb1 (by go_grown)
          have hB1 : Below w.heap.size w w1 := below_on hb2 hbel
          have HB1 : Hid (Blk w1 w.heap.size 24 _) := HB.out.under hb2 HB.out.lt
          clear c2 d0 d1 d2 hb1 hb2
          go_wp2_with fail
          go_roundw
          case rel => exact ⟨j + 1, _, by go_num, by rw [HVV.out], by omega, hlt2, by rw [← HK.out, HDR.out], ⟨_, _, HB1.out⟩, hB1⟩
          case measure => simp [intOf]; omega
        · obtain rfl : j = l.length := by omega
          have hX : s = kindsW (.node 5 0 l) := by rw [← HK.out]; simp [andW_nil]
          rw [hX]
          clear hX
          go_wp2_with fail
          go_ret
          exact ⟨rfl, hbel⟩
    · obtain ⟨g, q, x, xs, rfl, hSg, hx, hD, hxl, hr⟩ := HROW.out.get (j := 0) (by omega)
      have hX : kindsW (.node 6 0 l) = 16383 ^^^ kindsW x := by
        rw [kindsW_node]
        cases l with
        | nil => simp at hl1
        | cons y r => simp at hx; subst hx; exact notW_cons y r
      rw [hX]
      have HV := Lib.hid (not_val _ (kindsW_lt x))
      have hm := List.mem_of_getElem? hx
      obtain ⟨ox, nx, lx⟩ := x
      obtain ⟨ax, cx, rfl, -⟩ := hD.open_
      have hg := HS.out g hSg
      have hne : g ≠ w.heap.size := by omega
      have hr2 : w.rangeAt g q [.int .i64 ox, .int .i64 nx, .slice ax lx.length cx] := by simpa using hr
      have d0 := hr2 0 _ rfl
      have d1 := hr2 1 _ rfl
      have d2 := hr2 2 _ rfl
      simp only [Nat.add_zero] at d0
      have hc := fun W (hW : Below w.heap.size w W) => IH.out (.node ox nx lx) (HH.out _ hm) (HOK.out _ hm) W S _ (hD.under hW HS.out) (fun y hy => Nat.lt_of_lt_of_le (HS.out y hy) hW.size)
      generalize kindsW (.node ox nx lx) = kx at hc HV
      have HC := Lib.hid hc
      have hl3 : ¬ ((l.length : Int) < 1) := by omega
      have hl4 : (0 : Int) < l.length := by omega
      clear hr hr2 hD hx hxl hc hm hX hl1
      go_enter Try.func16, Try.ntmps16
      go_wp2_with fail
      refine (HC.out _ (by go_grown)).mono ?_
      rintro e w1 ⟨rfl, hb1⟩
      have hB1 : Below w.heap.size w w1 := below_on hb1 (by go_grown)
      clear d0 d1 d2 hb1
      go_wp2_with fail
      go_ret
      exact ⟨by rw [HV.out]; rfl, hB1⟩

set_option maxHeartbeats 8000000 in
set_option maxRecDepth 100000 in
theorem kinds_ref : ∀ (m : Nat) (t : WT), t.high ≤ m → okT t = true → ∀ (w : World) (S : Nat → Prop) (cs : List Value), IsW w S t cs → (∀ b, S b → b < w.heap.size) →
    Calls Try.prog 19 #[.agg cs.toArray] w fun e w' => e = .returned (.int .u32 (kindsW t)) ∧ Below w.heap.size w w' := by
  intro m
  induction m with
  | zero => intro t ht; cases t; rw [WT.high_node] at ht; omega
  | succ m ih =>
    intro t ht hok w S cs hd hS
    obtain ⟨o, n, l⟩ := t
    obtain ⟨a, c, rfl, hrow⟩ := hd.open_
    have HH : Hid (∀ x ∈ l, x.high ≤ m) := fun x hx => by have := whigh_mem hx; rw [WT.high_node] at ht; omega
    rw [okT_node] at hok
    obtain ⟨hn, hl⟩ := Bool.and_eq_true_iff.1 hok
    have HOK : Hid (∀ x ∈ l, okT x = true) := (okL_iff l).1 hl
    have hop := okN_op hn
    have HROW := Lib.hid hrow
    have HS := Lib.hid hS
    have IH := Lib.hid ih
    have hcl : c ≤ maxLen := hrow.2.2.1
    have hlc : l.length ≤ c := hrow.2.1
    unfold maxLen at hcl
    clear ht hd hrow hS ih hok hn hl
    rcases hop with ⟨rfl, rfl, -⟩ | ⟨rfl, hn, -⟩ | ⟨rfl, hn, -⟩ | ⟨rfl, rfl, hl2⟩ | ⟨rfl, rfl, hl2⟩ | ⟨rfl, rfl, hl1⟩
    · have hX : kindsW (.node 1 0 l) = 16382 := by rw [kindsW_node]; rfl
      rw [hX]
      clear hX
      go_enter Try.func19, Try.ntmps19
      go_wp2_with fail
      go_ret
      exact ⟨rfl, by go_grown⟩
    · have hX : kindsW (.node 2 n l) = ksetN (kindP 2 n) 14 := by rw [kindsW_node]; rfl
      rw [hX]
      have HT := Lib.hid (fun W => typed_ref n hn.1 hn.2 W)
      clear hX
      go_enter Try.func19, Try.ntmps19
      go_wp2_with fail
      refine (HT.out _).mono ?_
      rintro e w1 ⟨rfl, rfl⟩
      go_wp2_with fail
      go_ret
      exact ⟨rfl, by go_grown⟩
    · have hX : kindsW (.node 3 n l) = ksetN (kindP 3 n) 14 := by rw [kindsW_node]; rfl
      rw [hX]
      clear hX
      go_enter Try.func19, Try.ntmps19
      go_wp2_with fail
      go_loopw [3, 4] (KLW w (kindP 3 n) #[.int .i64 3, .int .i64 n, .slice a l.length c]) (fun _ i _ => 14 - (intOf i).toNat)
      case atStart => exact ⟨0, rfl, rfl, by omega, Blk.new _ _ _, by go_grown⟩
      case round =>
        obtain ⟨j, rfl, rfl, hj, hB, hbel⟩ := hrel
        have c1 := hB.cell 1
        simp only [List.getElem?_toArray, List.getElem?_cons_succ, List.getElem?_cons_zero] at c1
        have HB := Lib.hid hB
        clear hB
        by_cases hlt : j < 14
        · have hff := implements_ref j n wr
          have hP : kindP 3 n j = faceT j n := by simp [kindP]
          cases hb : kindP 3 n j with
          | true =>
            rw [← hP, hb] at hff
            have HFI := Lib.hid hff
            have HX := Lib.hid (kset_more hlt hb)
            clear hP hb hff
            go_wp2_with fail
            refine HFI.out.mono ?_
            rintro e w2 ⟨rfl, hb2⟩
            have HB1 : Hid (Blk w2 w.heap.size 24 _) := HB.out.under hb2 HB.out.lt
            have hB1 := below_on hb2 hbel
            clear hb2 c1
            go_wp2_with fail
            go_roundw
            case rel => exact ⟨j + 1, by go_num, by rw [HX.out], by omega, HB1.out, hB1⟩
            case measure => simp [intOf]; omega
          | false =>
            rw [← hP, hb] at hff
            have HFI := Lib.hid hff
            have HX := Lib.hid (kset_skip hb)
            clear hP hb hff
            go_wp2_with fail
            refine HFI.out.mono ?_
            rintro e w2 ⟨rfl, hb2⟩
            have HB1 : Hid (Blk w2 w.heap.size 24 _) := HB.out.under hb2 HB.out.lt
            have hB1 := below_on hb2 hbel
            clear hb2 c1
            go_wp2_with fail
            go_roundw
            case rel => exact ⟨j + 1, by go_num, by rw [HX.out], by omega, HB1.out, hB1⟩
            case measure => simp [intOf]; omega
        · obtain rfl : j = 14 := by omega
          go_wp2_with fail
          go_ret
          exact ⟨rfl, hbel⟩
    · clear hl2
      go_enter Try.func19, Try.ntmps19
      go_wp2_with fail
      go_loopw [5, 6] (KNW w orW l (kindsW (.node 4 0 l)) (.slice a l.length c)) (fun _ i _ => l.length - (intOf i).toNat)
      case atStart => exact ⟨0, 0, rfl, rfl, Nat.zero_le _, by omega, by rw [kindsW_node]; rfl, ⟨_, _, Blk.new _ _ _⟩, by go_grown⟩
      case round =>
        obtain ⟨j, s, rfl, rfl, hj, hs, hkeep, ⟨u0, u1, hB⟩, hbel⟩ := hrel
        have HK := Lib.hid hkeep
        have c2 := hB.cell 2
        simp only [List.getElem?_toArray, List.getElem?_cons_succ, List.getElem?_cons_zero] at c2
        have HB := Lib.hid hB
        have hsz := hbel.size
        clear hkeep hB
        by_cases hlt : j < l.length
        · obtain ⟨g, q, x, xs, rfl, hSg, hx, hD, hxl, hr⟩ := HROW.out.get hlt
          have hr2 : wr.rangeAt g (q + j * 3) xs := rangeAt_keep hr fun y => hbel.cell (p := ⟨g, y, none⟩) (HS.out g hSg)
          have hD2 := hD.under hbel HS.out
          have hdr := or_drop hx s
          have hvv : bits .or .u32 (s : Int) (kindsW x : Int) = _ := bits_or_nat hs (kindsW_lt x)
          have hlt2 : s ||| kindsW x < 16384 := Nat.or_lt_two_pow (n := 14) hs (kindsW_lt x)
          have hm := List.mem_of_getElem? hx
          obtain ⟨ox, nx, lx⟩ := x
          obtain ⟨ax, cx, rfl, -⟩ := hD.open_
          have d0 := hr2 0 _ rfl
          have d1 := hr2 1 _ rfl
          have d2 := hr2 2 _ rfl
          simp only [Nat.add_zero] at d0
          have hc := fun W (hW : Below wr.heap.size wr W) => IH.out (.node ox nx lx) (HH.out _ hm) (HOK.out _ hm) W S _ (hD2.under hW (fun y hy => Nat.lt_of_lt_of_le (HS.out y hy) hsz)) (fun y hy => Nat.lt_of_lt_of_le (Nat.lt_of_lt_of_le (HS.out y hy) hsz) hW.size)
          generalize kindsW (.node ox nx lx) = kx at hc hvv hlt2 hdr
          have HC := Lib.hid hc
          have HDR := Lib.hid hdr
          have HVV := Lib.hid hvv
          clear hr hr2 hD hD2 hx hxl hc hdr hm hvv
          go_wp2_with fail
          refine (HC.out _ (by go_grown)).mono ?_
          rintro e w1 ⟨rfl, hb1⟩
          have hb2 : Below wr.heap.size wr w1 := below_on hb1 (by go_grown)
          have hB1 : Below w.heap.size w w1 := below_on hb2 hbel
          have HB1 : Hid (Blk w1 w.heap.size 24 _) := HB.out.under hb2 HB.out.lt
          clear c2 d0 d1 d2 hb1 hb2
          go_wp2_with fail
          go_roundw
          case rel => exact ⟨j + 1, _, by go_num, by rw [HVV.out], by omega, hlt2, by rw [← HK.out, HDR.out], ⟨_, _, HB1.out⟩, hB1⟩
          case measure => simp [intOf]; omega
        · obtain rfl : j = l.length := by omega
          have hX : s = kindsW (.node 4 0 l) := by rw [← HK.out]; simp [orW_nil]
          rw [hX]
          clear hX
          go_wp2_with fail
          go_ret
          exact ⟨rfl, hbel⟩
    · clear hl2
      go_enter Try.func19, Try.ntmps19
      go_wp2_with fail
      go_loopw [7, 8] (KNW w andW l (kindsW (.node 5 0 l)) (.slice a l.length c)) (fun _ i _ => l.length - (intOf i).toNat)
      case atStart => exact ⟨0, 16383, rfl, rfl, Nat.zero_le _, by omega, by rw [kindsW_node]; rfl, ⟨_, _, Blk.new _ _ _⟩, by go_grown⟩
      case round =>
        obtain ⟨j, s, rfl, rfl, hj, hs, hkeep, ⟨u0, u1, hB⟩, hbel⟩ := hrel
        have HK := Lib.hid hkeep
        have c2 := hB.cell 2
        simp only [List.getElem?_toArray, List.getElem?_cons_succ, List.getElem?_cons_zero] at c2
        have HB := Lib.hid hB
        have hsz := hbel.size
        clear hkeep hB
        by_cases hlt : j < l.length
        · obtain ⟨g, q, x, xs, rfl, hSg, hx, hD, hxl, hr⟩ := HROW.out.get hlt
          have hr2 : wr.rangeAt g (q + j * 3) xs := rangeAt_keep hr fun y => hbel.cell (p := ⟨g, y, none⟩) (HS.out g hSg)
          have hD2 := hD.under hbel HS.out
          have hdr := and_drop hx s
          have hvv : bits .and .u32 (s : Int) (kindsW x : Int) = _ := bits_and_nat hs (kindsW_lt x)
          have hlt2 : s &&& kindsW x < 16384 := Nat.lt_of_le_of_lt Nat.and_le_left hs
          have hm := List.mem_of_getElem? hx
          obtain ⟨ox, nx, lx⟩ := x
          obtain ⟨ax, cx, rfl, -⟩ := hD.open_
          have d0 := hr2 0 _ rfl
          have d1 := hr2 1 _ rfl
          have d2 := hr2 2 _ rfl
          simp only [Nat.add_zero] at d0
          have hc := fun W (hW : Below wr.heap.size wr W) => IH.out (.node ox nx lx) (HH.out _ hm) (HOK.out _ hm) W S _ (hD2.under hW (fun y hy => Nat.lt_of_lt_of_le (HS.out y hy) hsz)) (fun y hy => Nat.lt_of_lt_of_le (Nat.lt_of_lt_of_le (HS.out y hy) hsz) hW.size)
          generalize kindsW (.node ox nx lx) = kx at hc hvv hlt2 hdr
          have HC := Lib.hid hc
          have HDR := Lib.hid hdr
          have HVV := Lib.hid hvv
          clear hr hr2 hD hD2 hx hxl hc hdr hm hvv
          go_wp2_with fail
          refine (HC.out _ (by go_grown)).mono ?_
          rintro e w1 ⟨rfl, hb1⟩
          have hb2 : Below wr.heap.size wr w1 := below_on hb1 (by go_grown)
          have hB1 : Below w.heap.size w w1 := below_on hb2 hbel
          have HB1 : Hid (Blk w1 w.heap.size 24 _) := HB.out.under hb2 HB.out.lt
          clear c2 d0 d1 d2 hb1 hb2
          go_wp2_with fail
          go_roundw
          case rel => exact ⟨j + 1, _, by go_num, by rw [HVV.out], by omega, hlt2, by rw [← HK.out, HDR.out], ⟨_, _, HB1.out⟩, hB1⟩
          case measure => simp [intOf]; omega
        · obtain rfl : j = l.length := by omega
          have hX : s = kindsW (.node 5 0 l) := by rw [← HK.out]; simp [andW_nil]
          rw [hX]
          clear hX
          go_wp2_with fail
          go_ret
          exact ⟨rfl, hbel⟩
    · obtain ⟨g, q, x, xs, rfl, hSg, hx, hD, hxl, hr⟩ := HROW.out.get (j := 0) (by omega)
      have hX : kindsW (.node 6 0 l) = 16383 ^^^ kindsW x := by
        rw [kindsW_node]
        cases l with
        | nil => simp at hl1
        | cons y r => simp at hx; subst hx; exact notW_cons y r
      rw [hX]
      have HV := Lib.hid (not_val _ (kindsW_lt x))
      have hm := List.mem_of_getElem? hx
      obtain ⟨ox, nx, lx⟩ := x
      obtain ⟨ax, cx, rfl, -⟩ := hD.open_
      have hg := HS.out g hSg
      have hne : g ≠ w.heap.size := by omega
      have hr2 : w.rangeAt g q [.int .i64 ox, .int .i64 nx, .slice ax lx.length cx] := by simpa using hr
      have d0 := hr2 0 _ rfl
      have d1 := hr2 1 _ rfl
      have d2 := hr2 2 _ rfl
      simp only [Nat.add_zero] at d0
      have hc := fun W (hW : Below w.heap.size w W) => IH.out (.node ox nx lx) (HH.out _ hm) (HOK.out _ hm) W S _ (hD.under hW HS.out) (fun y hy => Nat.lt_of_lt_of_le (HS.out y hy) hW.size)
      generalize kindsW (.node ox nx lx) = kx at hc HV
      have HC := Lib.hid hc
      have hl3 : ¬ ((l.length : Int) < 1) := by omega
      have hl4 : (0 : Int) < l.length := by omega
      clear hr hr2 hD hx hxl hc hm hX hl1
      go_enter Try.func19, Try.ntmps19
      go_wp2_with fail
      refine (HC.out _ (by go_grown)).mono ?_
      rintro e w1 ⟨rfl, hb1⟩
      have hB1 : Below w.heap.size w w1 := below_on hb1 (by go_grown)
      clear d0 d1 d2 hb1
      go_wp2_with fail
      go_ret
      exact ⟨by rw [HV.out]; rfl, hB1⟩
end Go.Proofs.Ytpemgccocmdmbaa
