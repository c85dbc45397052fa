/- count, the reference's: what it gives of any tree. -/
import Derived.Test.YtmdcfmdjbncaoaaDoorV
namespace Go.Proofs.YtmdcfmdjbncaoaaDoor
open Go.RowKit
attribute [local go_sem ↓] Go.wp_at_zero Go.wp_at_succ

def CW (w : World) (cells : Array Value) (l : List Tree) (deep left : Int) (out : Int × Int) (sn sm iv : Value) (wr : World) : Prop :=
  ∃ (j : Nat) (n most : Int), iv = .int .i64 j ∧ sn = .int .i64 n ∧ sm = .int .i64 most ∧ j ≤ l.length ∧ 1 ≤ n ∧ n ≤ left ∧ deep ≤ most ∧ most ≤ 16 ∧ countL (l.drop j) deep left n most = out ∧
    Blk wr w.heap.size 28 cells ∧ Below w.heap.size w wr

theorem countL_drop {l : List Tree} {j : Nat} {x : Tree} (hx : l[j]? = some x) (deep left n most : Int) : countL (l.drop j) deep left n most =
    if left < n + (countT x (deep + 1) (left - n)).1 ∨ 16 < max most (countT x (deep + 1) (left - n)).2 then (4097, max most (countT x (deep + 1) (left - n)).2)
    else countL (l.drop (j + 1)) deep left (n + (countT x (deep + 1) (left - n)).1) (max most (countT x (deep + 1) (left - n)).2) := by
  obtain ⟨h, rfl⟩ := List.getElem?_eq_some_iff.1 hx
  rw [List.drop_eq_getElem_cons h, countL_cons]

set_option maxHeartbeats 4000000 in
set_option maxRecDepth 100000 in
theorem count_any : ∀ (m : Nat) (t : Tree), t.high ≤ m → ∀ (w : World) (S : Nat → Prop) (cs : List Value) (deep left : Int), IsD w S t cs → (∀ b, S b → b < w.heap.size) → 1 ≤ deep → deep ≤ 17 → -10000 ≤ left → left ≤ 4096 →
    Calls Tryd.prog 61 #[.agg cs.toArray, .int .i64 deep, .int .i64 left] w fun e w' => e = .returned (.tuple #[.int .i64 (countT t deep left).1, .int .i64 (countT t deep left).2]) ∧ Below w.heap.size w w' := by
  intro m
  induction m with
  | zero => intro t ht; cases t; rw [Tree.high_node] at ht; omega
  | succ m ih =>
    intro t ht w S cs deep left hd hS hd1 hd2 hl1 hl2
    obtain ⟨k, i, b, s, l⟩ := t
    have HH : ∀ x ∈ l, x.high ≤ m := fun x hx => by have := high_mem hx; rw [Tree.high_node] at ht; omega
    obtain ⟨a, c, rfl, wk, wi, wb, ws, hrow⟩ := hd.open_
    have hcl : c ≤ maxLen := hrow.2.2.1
    have hlc : l.length ≤ c := hrow.2.1
    unfold maxLen at hcl
    have HROW := Lib.hid hrow
    have HHH := Lib.hid HH
    have HS := Lib.hid hS
    have IH := Lib.hid ih
    clear ht hd HH hrow hS ih wk wi wb ws
    by_cases h1 : 16 < deep
    · have hE : countT (.node k i b s l) deep left = (4097, deep) := by rw [countT_node, if_pos (.inl h1)]
      have HE := Lib.hid hE
      clear hE
      go_enter Tryd.func61, Tryd.ntmps61
      go_wp2_with fail
      go_ret2
      exact ⟨by rw [HE.out]; rfl, (Below.refl _ _).alloc (Nat.le_refl _) _⟩
    · by_cases h2 : left ≤ 0
      · have hE : countT (.node k i b s l) deep left = (4097, deep) := by rw [countT_node, if_pos (.inr h2)]
        have HE := Lib.hid hE
        clear hE
        go_enter Tryd.func61, Tryd.ntmps61
        go_wp2_with fail
        go_ret2
        exact ⟨by rw [HE.out]; rfl, (Below.refl _ _).alloc (Nat.le_refl _) _⟩
      · have hE : countT (.node k i b s l) deep left = countL l deep left 1 deep := by rw [countT_node, if_neg (by omega)]
        have HE := Lib.hid hE
        clear hE
        go_enter Tryd.func61, Tryd.ntmps61
        go_wp2_with fail
        go_loopw [8, 9, 24] (CW w #[.int .i64 k, .int .i64 i, .int .u64 b, .string s, .slice a l.length c] l deep left (countT (.node k i b s l) deep left)) (fun _ _ i _ => l.length - (intOf i).toNat)
        case atStart => exact ⟨0, 1, deep, rfl, rfl, rfl, Nat.zero_le _, by omega, by omega, by omega, by omega, by rw [HE.out]; rfl, Blk.new _ _ _, by go_grown⟩
        case round =>
          obtain ⟨j, n, most, rfl, rfl, rfl, hj, hn1, hn2, hm1, hm2, hout, hB, hbel⟩ := hrel
          have HOUT := Lib.hid hout
          have c4 := hB.cell 4
          simp only [List.getElem?_toArray, List.getElem?_cons_succ, List.getElem?_cons_zero] at c4
          have HB := Lib.hid hB
          clear hout hB
          have hsz := hbel.size
          by_cases hlt : j < l.length
          · obtain ⟨g, o, x, xs, rfl, hSg, hx, hD, hxl, hr⟩ := HROW.out.get hlt
            have hr2 : wr.rangeAt g (o + j * 5) xs := rangeAt_keep hr fun q => hbel.cell (p := ⟨g, q, none⟩) (HS.out g hSg)
            have hD2 := hD.under hbel HS.out
            have hbd := count_bd _ x (Nat.le_refl _) (deep + 1) (left - n) (by omega) (by omega) (by omega)
            have hc := IH.out x (HHH.out x (List.mem_of_getElem? hx)) wr S xs (deep + 1) (left - n) hD2 (fun q hq => Nat.lt_of_lt_of_le (HS.out q hq) hsz) (by omega) (by omega) (by omega) (by omega)
            have hdr := countL_drop hx deep left n most
            generalize hp : countT x (deep + 1) (left - n) = p at hc hbd hdr
            obtain ⟨p1, p2⟩ := p
            obtain ⟨q1, q2, q3, q4, -⟩ := hbd
            simp only at q1 q2 q3 q4
            obtain ⟨kx, ix, bx, sx, lx⟩ := x
            obtain ⟨ax, cx, rfl, -, -, -, -, -⟩ := hD.open_
            have d0 := hr2 0 _ rfl
            have d1 := hr2 1 _ rfl
            have d2 := hr2 2 _ rfl
            have d3 := hr2 3 _ rfl
            have d4 := hr2 4 _ rfl
            simp only [Nat.add_zero] at d0
            have HC := Lib.hid hc
            have HDR := Lib.hid hdr
            clear hr hr2 hD hD2 hx hxl hp hc hdr
            go_wp2_with fail
            refine HC.out.mono ?_
            rintro e w1 ⟨rfl, hb1⟩
            have hB1 : Below w.heap.size w w1 := hbel.trans (hb1.mono hsz)
            have HB1 : Hid (Blk w1 w.heap.size 28 _) := HB.out.under hb1 HB.out.lt
            clear c4 d0 d1 d2 d3 d4 hb1
            by_cases hx1 : left < n + p1
            · have hX : countT (.node k i b s l) deep left = (4097, max most p2) := by rw [← HOUT.out, HDR.out, if_pos (.inl hx1)]
              have HX := Lib.hid hX
              clear hX
              go_wp2_with fail
              all_goals (go_ret2; exact ⟨by rw [HX.out]; first | rfl | (simp; omega), hB1⟩)
            · by_cases hx2 : 16 < max most p2
              · have hX : countT (.node k i b s l) deep left = (4097, max most p2) := by rw [← HOUT.out, HDR.out, if_pos (.inr hx2)]
                have HX := Lib.hid hX
                clear hX
                go_wp2_with fail
                all_goals (go_ret2; exact ⟨by rw [HX.out]; first | rfl | (simp; omega), hB1⟩)
              · have hX : countL (l.drop (j + 1)) deep left (n + p1) (max most p2) = countT (.node k i b s l) deep left := by rw [← HOUT.out, HDR.out, if_neg (by omega)]
                have HX := Lib.hid hX
                clear hX
                go_wp2_with fail
                all_goals
                  go_roundw
                  case rel => exact ⟨j + 1, n + p1, max most p2, by go_num, rfl, by first | rfl | (congr 1; omega), by omega, by omega, by omega, by omega, by omega, HX.out, HB1.out, hB1⟩
                  case measure => simp [intOf]; omega
          · obtain rfl : j = l.length := by omega
            have hX : countT (.node k i b s l) deep left = (n, most) := by rw [← HOUT.out, List.drop_length, countL_nil]
            have HX := Lib.hid hX
            clear hX
            go_wp2_with fail
            go_ret2
            exact ⟨by rw [HX.out]; rfl, hbel⟩
end Go.Proofs.YtmdcfmdjbncaoaaDoor
