/- acks.find: slices.IndexFunc with a closure. -/
import Derived.Test.YtmdcfmdjbncaoaaDoorCc
import Derived.Test.YtmdcfmdjbncaoaaDoorBa
namespace Go.Proofs.YtmdcfmdjbncaoaaDoor
open Go.RowKit
attribute [local go_sem ↓] Go.wp_at_zero Go.wp_at_succ
attribute [local go_sem] Go.undef

set_option maxHeartbeats 4000000 in
set_option maxRecDepth 100000 in
theorem find1_any (x : SX) (cs : List Value) (S : Nat → Prop) (B : Nat) (id : Int) (w : World) (hx : IsS w S x cs) (hc : w.cell? ⟨B, 0, none⟩ = some (.int .i64 id)) (v : Bool) (hv : (x.m.id == id) = v) :
    Calls Tryd.prog 71 #[.agg cs.toArray, .pointer (some ⟨B, 0, none⟩)] w fun e w' => e = .returned (.bool v) ∧ Below w.heap.size w w' := by
  obtain ⟨ms, hm, rfl⟩ := hx
  obtain ⟨kx, ix, bx, sx, ax, nx, cx, rfl, -, -, -⟩ := hm
  have hB : B < w.heap.size := World.block_lt_of_cell? _ _ hc
  have hne : B ≠ w.heap.size := by omega
  have hc2 : (w.alloc (.cells #[.int .i64 x.m.id, .string x.m.topic, .int .i64 kx, .int .i64 ix, .int .u64 bx, .string sx, .slice ax nx cx, .int .i64 x.m.tat, .int .i64 x.m.til, .string x.m.reply, .int .i64 x.m.corr, .int .i64 x.m.prio, .int .i64 x.m.hops, .int .i64 x.tries, .int .i64 x.due] 62)).cell? ⟨B, 0, none⟩ = some (.int .i64 id) := (alloc_cell hB).trans hc
  go_enter Tryd.func71, Tryd.ntmps71
  go_wp2_with fail
  go_ret
  exact ⟨by rw [← hv]; rfl, by go_grown⟩

set_option maxHeartbeats 4000000 in
set_option maxRecDepth 100000 in
theorem indexfunc_any (l : List SX) (id : Int) (B : Nat) (a : Option Addr) (n c : Nat) (S : Nat → Prop) (w : World) (hrow : RS w S l a n c) (hS : ∀ b, S b → b < w.heap.size) (hc : w.cell? ⟨B, 0, none⟩ = some (.int .i64 id)) :
    Calls Tryd.prog 70 #[.slice a n c, .func (.func 71) #[] #[.pointer (some ⟨B, 0, none⟩)]] w fun e w' => e = .returned (.int .i64 (placeS l id)) ∧ Below w.heap.size w w' := by
  have hcl : c ≤ maxLen := hrow.2.2.1
  have hlc : n ≤ c := hrow.2.1
  obtain rfl : n = l.length := hrow.1
  unfold maxLen at hcl
  have HROW := Lib.hid hrow
  have HS := Lib.hid hS
  have HC := Lib.hid hc
  clear hrow hS hc
  go_enter Tryd.func70, Tryd.ntmps70
  go_wp2_with fail
  go_loopw [8] (fun iv wr => ∃ j : Nat, iv = .int .i64 j ∧ j ≤ l.length ∧ (∀ i y, i < j → l[i]? = some y → y.m.id ≠ id) ∧ Below w.heap.size w wr) (fun i _ => l.length - (intOf i).toNat)
  case atStart => exact ⟨0, rfl, Nat.zero_le _, fun i y h => by omega, Below.refl _ _⟩
  case round =>
    obtain ⟨j, rfl, hj, hb, hbel⟩ := hrel
    have HB := Lib.hid hb
    have HBL := Lib.hid hbel
    clear hb hbel
    by_cases hlt : j < l.length
    · obtain ⟨g, o, x, xs, rfl, hSg, hx, hm, hxl, hr⟩ := HROW.out.get hlt
      have HM := Lib.hid (hm.under HBL.out HS.out)
      obtain ⟨ms, hmm, rfl⟩ := hm
      obtain ⟨kx, ix, bx, sx, ax, nx, cx, rfl, -, -, -⟩ := hmm
      have hr2 : wr.rangeAt g (o + j * 15) [.int .i64 x.m.id, .string x.m.topic, .int .i64 kx, .int .i64 ix, .int .u64 bx, .string sx, .slice ax nx cx, .int .i64 x.m.tat, .int .i64 x.m.til, .string x.m.reply, .int .i64 x.m.corr, .int .i64 x.m.prio, .int .i64 x.m.hops, .int .i64 x.tries, .int .i64 x.due] := rangeAt_keep hr fun q => HBL.out.cell (p := ⟨g, q, none⟩) (HS.out g hSg)
      have HX := Lib.hid hx
      have hj0 : (0 : Int) ≤ (j : Int) := by omega
      have hj1 : (j : Int) < (l.length : Int) := by omega
      have hcr : wr.cell? ⟨B, 0, none⟩ = some (.int .i64 id) := (HBL.out.cell (p := ⟨B, 0, none⟩) (World.block_lt_of_cell? _ _ HC.out)).trans HC.out
      clear hr hx hxl hSg
      by_cases he : x.m.id = id
      · have HF := Lib.hid (find1_any x _ S B id wr HM.out hcr true (by rw [he]; exact beq_self_eq_true _))
        have hP := Lib.hid (placeS_hit HX.out he HB.out)
        clear he hcr
        go_wp2_with (refine wpList_load_blk rfl 62 _ rfl g (o + j * 15) rfl [.int .i64 x.m.id, .string x.m.topic, .int .i64 kx, .int .i64 ix, .int .u64 bx, .string sx, .slice ax nx cx, .int .i64 x.m.tat, .int .i64 x.m.til, .string x.m.reply, .int .i64 x.m.corr, .int .i64 x.m.prio, .int .i64 x.m.hops, .int .i64 x.tries, .int .i64 x.due] _ hr2 Tryd.underlying62 rfl sizeS ?_)
        refine HF.out.mono ?_
        rintro e w2 ⟨rfl, hb2⟩
        have T := Lib.hid (below_on hb2 HBL.out)
        clear HF hb2 hr2
        go_wp2_with fail
        go_ret
        exact ⟨by rw [hP.out]; rfl, T.out⟩
      · have HF := Lib.hid (find1_any x _ S B id wr HM.out hcr false (beq_eq_false_iff_ne.2 he))
        have HN : Hid (∀ i y, i < j + 1 → l[i]? = some y → y.m.id ≠ id) := fun i y hi hy => by
          by_cases e : i = j
          · subst e
            rw [HX.out] at hy
            injection hy with hy
            rw [← hy]
            exact he
          · exact HB.out i y (by omega) hy
        clear he hcr
        go_wp2_with (refine wpList_load_blk rfl 62 _ rfl g (o + j * 15) rfl [.int .i64 x.m.id, .string x.m.topic, .int .i64 kx, .int .i64 ix, .int .u64 bx, .string sx, .slice ax nx cx, .int .i64 x.m.tat, .int .i64 x.m.til, .string x.m.reply, .int .i64 x.m.corr, .int .i64 x.m.prio, .int .i64 x.m.hops, .int .i64 x.tries, .int .i64 x.due] _ hr2 Tryd.underlying62 rfl sizeS ?_)
        refine HF.out.mono ?_
        rintro e w2 ⟨rfl, hb2⟩
        have T := Lib.hid (below_on hb2 HBL.out)
        clear HF hb2 hr2
        go_wp2_with fail
        go_roundw
        case rel => first | exact ⟨j + 1, by go_num, by omega, HN.out, T.out⟩ | ((repeat apply Exists.intro); exact ⟨⟨j + 1, by go_num, by omega, HN.out, T.out⟩, by first | rfl | exact ⟨rfl, rfl⟩ | exact ⟨rfl, rfl, rfl⟩ | exact ⟨rfl, rfl, rfl, rfl⟩ | exact ⟨rfl, rfl, rfl, rfl, rfl⟩⟩)
        case measure => simp [intOf]; omega
    · obtain rfl : j = l.length := by omega
      have hP := Lib.hid (placeS_miss (l := l) (id := id) fun i y hy => HB.out i y (List.getElem?_eq_some_iff.1 hy).1 hy)
      go_wp2_with fail
      go_ret
      exact ⟨by rw [hP.out]; rfl, HBL.out⟩

set_option maxHeartbeats 4000000 in
set_option maxRecDepth 100000 in
theorem find_any (l : List SX) (id : Int) (a : Option Addr) (n c : Nat) (S : Nat → Prop) (w : World) (hrow : RS w S l a n c) (hS : ∀ b, S b → b < w.heap.size) :
    Calls Tryd.prog 56 #[.slice a n c, .int .i64 id] w fun e w' => e = .returned (.int .i64 (placeS l id)) ∧ Below w.heap.size w w' := by
  obtain ⟨W, hWd⟩ : ∃ W, W = w.alloc (.cells #[.int .i64 id] 2) := ⟨_, rfl⟩
  have hW : Below w.heap.size w W := by rw [hWd]; go_grown
  have hB : Blk W w.heap.size 2 #[.int .i64 id] := by rw [hWd]; exact Blk.new _ _ _
  have HF := Lib.hid (indexfunc_any l id w.heap.size a n c S W (RS.under hrow hW hS) (fun b hb => Nat.lt_of_lt_of_le (hS b hb) hW.size) (hB.cell 0))
  have HW := Lib.hid hW
  have HWD := Lib.hid hWd
  clear hrow hS hW hB hWd
  go_enter Tryd.func56, Tryd.ntmps56
  go_upto_region 1 with fail
  show Code.wp _ _ _ _ (w.alloc (.cells #[.int .i64 id] 2))
  rw [← HWD.out]
  clear HWD
  go_wp2_with fail
  refine HF.out.mono ?_
  rintro e w1 ⟨rfl, hb1⟩
  have T := Lib.hid (below_on hb1 HW.out)
  clear HF hb1
  go_wp2_with fail
  go_ret
  exact ⟨rfl, T.out⟩
end Go.Proofs.YtmdcfmdjbncaoaaDoor
