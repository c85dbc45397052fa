/- SameMsg and Same of what is the same; best, by each of the two orders. -/
import Derived.Test.YtmdcfmdjbncaoaaMr
import Derived.Test.YtmdcfmdjbncaoaaSam
namespace Go.Proofs.Ytmdcfmdjbncaoaa
open Go.RowKit
attribute [local go_sem ↓] Go.wp_at_zero Go.wp_at_succ

theorem range13 {w : World} {g o : Nat} {v0 v1 v2 v3 v4 v5 v6 v7 v8 v9 v10 v11 v12 : Value} (h : w.rangeAt g o [v0, v1, v2, v3, v4, v5, v6, v7, v8, v9, v10, v11, v12]) : w.cell? ⟨g, o, none⟩ = some v0 ∧ w.cell? ⟨g, o + 1, none⟩ = some v1 ∧ w.cell? ⟨g, o + 2, none⟩ = some v2 ∧ w.cell? ⟨g, o + 3, none⟩ = some v3 ∧ w.cell? ⟨g, o + 4, none⟩ = some v4 ∧ w.cell? ⟨g, o + 5, none⟩ = some v5 ∧ w.cell? ⟨g, o + 6, none⟩ = some v6 ∧ w.cell? ⟨g, o + 7, none⟩ = some v7 ∧ w.cell? ⟨g, o + 8, none⟩ = some v8 ∧ w.cell? ⟨g, o + 9, none⟩ = some v9 ∧ w.cell? ⟨g, o + 10, none⟩ = some v10 ∧ w.cell? ⟨g, o + 11, none⟩ = some v11 ∧ w.cell? ⟨g, o + 12, none⟩ = some v12 :=
  ⟨h 0 _ rfl, h 1 _ rfl, h 2 _ rfl, h 3 _ rfl, h 4 _ rfl, h 5 _ rfl, h 6 _ rfl, h 7 _ rfl, h 8 _ rfl, h 9 _ rfl, h 10 _ rfl, h 11 _ rfl, h 12 _ rfl⟩
theorem range_over {W w1 : World} (hb : Below W.heap.size W w1) {b o : Nat} {cs : List Value} (hlt : b < W.heap.size) (h : W.rangeAt b o cs) : w1.rangeAt b o cs := rangeAt_keep h fun q => hb.cell (p := ⟨b, q, none⟩) hlt

set_option maxHeartbeats 4000000 in
set_option maxRecDepth 100000 in
theorem samemsg_yes (m : MX) (w : World) (S S' : Nat → Prop) (cs cs' : List Value) (hm : IsM w S m cs) (hm' : IsM w S' m cs') (hS : ∀ b, S b → b < w.heap.size) (hS' : ∀ b, S' b → b < w.heap.size) :
    Calls Try.prog 26 #[.agg cs.toArray, .agg cs'.toArray] w fun e w' => e = .returned (.bool true) ∧ Below w.heap.size w w' := by
  obtain ⟨k, i, b, s, a, n, c, rfl, hD, ht, hr⟩ := hm
  obtain ⟨k1, i1, b1, s1, a1, n1, c1, rfl, hD1, -, -⟩ := hm'
  unfold maxLen at ht hr
  have hW : Below w.heap.size w ((w.alloc (.cells #[.int .i64 m.id, .string m.topic, .int .i64 k, .int .i64 i, .int .u64 b, .string s, .slice a n c, .int .i64 m.tat, .int .i64 m.til, .string m.reply, .int .i64 m.corr, .int .i64 m.prio, .int .i64 m.hops] 48)).alloc (.cells #[.int .i64 m.id, .string m.topic, .int .i64 k1, .int .i64 i1, .int .u64 b1, .string s1, .slice a1 n1 c1, .int .i64 m.tat, .int .i64 m.til, .string m.reply, .int .i64 m.corr, .int .i64 m.prio, .int .i64 m.hops] 48)) := by go_grown
  have hsz : ((w.alloc (.cells #[.int .i64 m.id, .string m.topic, .int .i64 k, .int .i64 i, .int .u64 b, .string s, .slice a n c, .int .i64 m.tat, .int .i64 m.til, .string m.reply, .int .i64 m.corr, .int .i64 m.prio, .int .i64 m.hops] 48)).alloc (.cells #[.int .i64 m.id, .string m.topic, .int .i64 k1, .int .i64 i1, .int .u64 b1, .string s1, .slice a1 n1 c1, .int .i64 m.tat, .int .i64 m.til, .string m.reply, .int .i64 m.corr, .int .i64 m.prio, .int .i64 m.hops] 48)).heap.size = w.heap.size + 2 := by simp
  have hc := same_yes _ m.body (Nat.le_refl _) _ S S' _ _ (hD.under hW hS) (hD1.under hW hS') (fun q hq => by rw [hsz]; have := hS q hq; omega) (fun q hq => by rw [hsz]; have := hS' q hq; omega)
  have hB0 : Blk ((w.alloc (.cells #[.int .i64 m.id, .string m.topic, .int .i64 k, .int .i64 i, .int .u64 b, .string s, .slice a n c, .int .i64 m.tat, .int .i64 m.til, .string m.reply, .int .i64 m.corr, .int .i64 m.prio, .int .i64 m.hops] 48)).alloc (.cells #[.int .i64 m.id, .string m.topic, .int .i64 k1, .int .i64 i1, .int .u64 b1, .string s1, .slice a1 n1 c1, .int .i64 m.tat, .int .i64 m.til, .string m.reply, .int .i64 m.corr, .int .i64 m.prio, .int .i64 m.hops] 48)) w.heap.size 48 #[.int .i64 m.id, .string m.topic, .int .i64 k, .int .i64 i, .int .u64 b, .string s, .slice a n c, .int .i64 m.tat, .int .i64 m.til, .string m.reply, .int .i64 m.corr, .int .i64 m.prio, .int .i64 m.hops] := (Blk.new _ _ _).alloc _
  have hB1 : Blk ((w.alloc (.cells #[.int .i64 m.id, .string m.topic, .int .i64 k, .int .i64 i, .int .u64 b, .string s, .slice a n c, .int .i64 m.tat, .int .i64 m.til, .string m.reply, .int .i64 m.corr, .int .i64 m.prio, .int .i64 m.hops] 48)).alloc (.cells #[.int .i64 m.id, .string m.topic, .int .i64 k1, .int .i64 i1, .int .u64 b1, .string s1, .slice a1 n1 c1, .int .i64 m.tat, .int .i64 m.til, .string m.reply, .int .i64 m.corr, .int .i64 m.prio, .int .i64 m.hops] 48)) (w.heap.size + 1) 48 #[.int .i64 m.id, .string m.topic, .int .i64 k1, .int .i64 i1, .int .u64 b1, .string s1, .slice a1 n1 c1, .int .i64 m.tat, .int .i64 m.til, .string m.reply, .int .i64 m.corr, .int .i64 m.prio, .int .i64 m.hops] := Blk.new' _ _ _ (by simp)
  have HC := Lib.hid hc
  have HW := Lib.hid hW
  have HSZ := Lib.hid hsz
  have HB0 := Lib.hid hB0
  have HB1 := Lib.hid hB1
  clear hD hD1 hS hS' hW hsz hc hB0 hB1
  go_enter Try.func26, Try.ntmps26
  go_wp2_with fail
  refine HC.out.mono ?_
  rintro e w1 ⟨rfl, hb1⟩
  have hB2 : Below w.heap.size w w1 := HW.out.trans (hb1.mono (by rw [HSZ.out]; omega))
  obtain ⟨x0, x1, x2, x3, x4, x5, x6, x7, x8, x9, x10, x11, x12⟩ := Blk.cells13 (HB0.out.under hb1 (by rw [HSZ.out]; omega))
  obtain ⟨y0, y1, y2, y3, y4, y5, y6, y7, y8, y9, y10, y11, y12⟩ := Blk.cells13 (HB1.out.under hb1 (by rw [HSZ.out]; omega))
  clear hb1
  go_wp2_with fail
  go_ret
  exact ⟨rfl, hB2⟩

def SqW (w : World) (c0 c1 : Array Value) (n : Nat) (iv : Value) (wr : World) : Prop :=
  ∃ j : Nat, iv = .int .i64 j ∧ j ≤ n ∧ Blk wr w.heap.size 46 c0 ∧ Blk wr (w.heap.size + 1) 46 c1 ∧ Below w.heap.size w wr

set_option maxHeartbeats 4000000 in
set_option maxRecDepth 100000 in
theorem sameq_yes (q : QX) (a a' : Option Addr) (n n' c c' : Nat) (S S' : Nat → Prop) (w : World) (hrow : RM w S q.l a n c) (hrow' : RM w S' q.l a' n' c') (hS : ∀ b, S b → b < w.heap.size) (hS' : ∀ b, S' b → b < w.heap.size) :
    Calls Try.prog 25 #[.agg #[.slice a n c, .int .i64 q.r, .int .i64 q.d], .agg #[.slice a' n' c', .int .i64 q.r, .int .i64 q.d]] w fun e w' => e = .returned (.bool true) ∧ Below w.heap.size w w' := by
  have hcl : c ≤ maxLen := hrow.2.2.1
  have hlc : n ≤ c := hrow.2.1
  obtain rfl : n = q.l.length := hrow.1
  obtain rfl : n' = q.l.length := hrow'.1
  unfold maxLen at hcl
  have HROW := Lib.hid hrow
  have HROW' := Lib.hid hrow'
  have HS := Lib.hid hS
  have HS' := Lib.hid hS'
  clear hrow hrow' hS hS'
  go_enter Try.func25, Try.ntmps25
  go_wp2_with fail
  go_loopw [30] (SqW w #[.slice a q.l.length c, .int .i64 q.r, .int .i64 q.d] #[.slice a' q.l.length c', .int .i64 q.r, .int .i64 q.d] q.l.length) (fun i _ => q.l.length - (intOf i).toNat)
  case atStart => exact ⟨0, rfl, Nat.zero_le _, (Blk.new _ _ _).alloc _, Blk.new' _ _ _ (by simp), by go_grown⟩
  case round =>
    obtain ⟨j, rfl, hj, hB, hB', hbel⟩ := hrel
    have c4 := hB.cell 0
    have c5 := hB'.cell 0
    simp only [List.getElem?_toArray, List.getElem?_cons_zero] at c4 c5
    have bb0 := hB.lt
    have bb1 := hB'.lt
    have HB := Lib.hid hB
    have HB' := Lib.hid hB'
    clear hB hB'
    have hsz := hbel.size
    by_cases hlt : j < q.l.length
    · obtain ⟨g, o, x, xs, rfl, hSg, hx, hm, hxl, hr⟩ := HROW.out.get hlt
      obtain ⟨g', o', x', xs', rfl, hSg', hx', hm', hxl', hr'⟩ := HROW'.out.get hlt
      have hxx : x' = x := by rw [hx] at hx'; injection hx' with h; exact h.symm
      subst hxx
      have hr2 : wr.rangeAt g (o + j * 13) xs := rangeAt_keep hr fun q => hbel.cell (p := ⟨g, q, none⟩) (HS.out g hSg)
      have hr3 : wr.rangeAt g' (o' + j * 13) xs' := rangeAt_keep hr' fun q => hbel.cell (p := ⟨g', q, none⟩) (HS'.out g' hSg')
      obtain ⟨k1, i1, b1, s1, a1, n1, c1, rfl, -, -, -⟩ := id hm
      obtain ⟨k2, i2, b2, s2, a2, n2, c2, rfl, -, -, -⟩ := id hm'
      have hc := samemsg_yes x' wr.drew S S' _ _ (hm.under hbel HS.out).drew (hm'.under hbel HS'.out).drew (fun q hq => Nat.lt_of_lt_of_le (HS.out q hq) hsz) (fun q hq => Nat.lt_of_lt_of_le (HS'.out q hq) hsz)
      have HC := Lib.hid hc
      obtain ⟨d0, d1, d2, d3, d4, d5, d6, d7, d8, d9, d10, d11, d12⟩ := range13 hr2
      obtain ⟨e0, e1, e2, e3, e4, e5, e6, e7, e8, e9, e10, e11, e12⟩ := range13 hr3
      have hg : g < wr.heap.size := Nat.lt_of_lt_of_le (HS.out g hSg) hsz
      have hg' : g' < wr.heap.size := Nat.lt_of_lt_of_le (HS'.out g' hSg') hsz
      have hj0 : (0 : Int) ≤ (j : Int) := by omega
      have hj1 : (j : Int) < (q.l.length : Int) := by omega
      clear hr hr' hm hm' hx hx' hc hr2 hr3
      go_wp2_with fail
      go_region_held3 (fun w' => w'.cell? ⟨w.heap.size, 0, none⟩ = some (.slice (some ⟨g, o, none⟩) q.l.length c) ∧ w'.cell? ⟨w.heap.size + 1, 0, none⟩ = some (.slice (some ⟨g', o', none⟩) q.l.length c') ∧ w'.cell? ⟨g, o + j * 13, none⟩ = some (.int .i64 x'.id) ∧ w'.cell? ⟨g, o + j * 13 + 1, none⟩ = some (.string x'.topic) ∧ w'.cell? ⟨g, o + j * 13 + 2, none⟩ = some (.int .i64 k1) ∧ w'.cell? ⟨g, o + j * 13 + 3, none⟩ = some (.int .i64 i1) ∧ w'.cell? ⟨g, o + j * 13 + 4, none⟩ = some (.int .u64 b1) ∧ w'.cell? ⟨g, o + j * 13 + 5, none⟩ = some (.string s1) ∧ w'.cell? ⟨g, o + j * 13 + 6, none⟩ = some (.slice a1 n1 c1) ∧ w'.cell? ⟨g, o + j * 13 + 7, none⟩ = some (.int .i64 x'.tat) ∧ w'.cell? ⟨g, o + j * 13 + 8, none⟩ = some (.int .i64 x'.til) ∧ w'.cell? ⟨g, o + j * 13 + 9, none⟩ = some (.string x'.reply) ∧ w'.cell? ⟨g, o + j * 13 + 10, none⟩ = some (.int .i64 x'.corr) ∧ w'.cell? ⟨g, o + j * 13 + 11, none⟩ = some (.int .i64 x'.prio) ∧ w'.cell? ⟨g, o + j * 13 + 12, none⟩ = some (.int .i64 x'.hops) ∧ w'.cell? ⟨g', o' + j * 13, none⟩ = some (.int .i64 x'.id) ∧ w'.cell? ⟨g', o' + j * 13 + 1, none⟩ = some (.string x'.topic) ∧ w'.cell? ⟨g', o' + j * 13 + 2, none⟩ = some (.int .i64 k2) ∧ w'.cell? ⟨g', o' + j * 13 + 3, none⟩ = some (.int .i64 i2) ∧ w'.cell? ⟨g', o' + j * 13 + 4, none⟩ = some (.int .u64 b2) ∧ w'.cell? ⟨g', o' + j * 13 + 5, none⟩ = some (.string s2) ∧ w'.cell? ⟨g', o' + j * 13 + 6, none⟩ = some (.slice a2 n2 c2) ∧ w'.cell? ⟨g', o' + j * 13 + 7, none⟩ = some (.int .i64 x'.tat) ∧ w'.cell? ⟨g', o' + j * 13 + 8, none⟩ = some (.int .i64 x'.til) ∧ w'.cell? ⟨g', o' + j * 13 + 9, none⟩ = some (.string x'.reply) ∧ w'.cell? ⟨g', o' + j * 13 + 10, none⟩ = some (.int .i64 x'.corr) ∧ w'.cell? ⟨g', o' + j * 13 + 11, none⟩ = some (.int .i64 x'.prio) ∧ w'.cell? ⟨g', o' + j * 13 + 12, none⟩ = some (.int .i64 x'.hops))
        (first
          | (exact ⟨c4, c5, d0, d1, d2, d3, d4, d5, d6, d7, d8, d9, d10, d11, d12, e0, e1, e2, e3, e4, e5, e6, e7, e8, e9, e10, e11, e12⟩)
          | (exact ⟨cell_over hb1 bb0 c4, cell_over hb1 bb1 c5, cell_over hb1 hg d0, cell_over hb1 hg d1, cell_over hb1 hg d2, cell_over hb1 hg d3, cell_over hb1 hg d4, cell_over hb1 hg d5, cell_over hb1 hg d6, cell_over hb1 hg d7, cell_over hb1 hg d8, cell_over hb1 hg d9, cell_over hb1 hg d10, cell_over hb1 hg d11, cell_over hb1 hg d12, cell_over hb1 hg' e0, cell_over hb1 hg' e1, cell_over hb1 hg' e2, cell_over hb1 hg' e3, cell_over hb1 hg' e4, cell_over hb1 hg' e5, cell_over hb1 hg' e6, cell_over hb1 hg' e7, cell_over hb1 hg' e8, cell_over hb1 hg' e9, cell_over hb1 hg' e10, cell_over hb1 hg' e11, cell_over hb1 hg' e12⟩))
        (first | (go_at_call 26; refine HC.out.mono ?_; rintro e w1 ⟨rfl, hb1⟩))
      have hb2 : Below wr.heap.size wr w1 := (Below.refl _ _).drew.trans hb1
      have hB1 : Below w.heap.size w w1 := hbel.trans (hb2.mono hsz)
      have HB1 : Hid (Blk w1 w.heap.size 46 _) := HB.out.under hb2 bb0
      have HB1' : Hid (Blk w1 (w.heap.size + 1) 46 _) := HB'.out.under hb2 bb1
      clear c4 c5 d0 d1 d2 d3 d4 d5 d6 d7 d8 d9 d10 d11 d12 e0 e1 e2 e3 e4 e5 e6 e7 e8 e9 e10 e11 e12 hb1
      go_wp2_with fail
      go_roundw
      case rel => exact ⟨j + 1, by go_num, by omega, HB1.out, HB1'.out, hB1⟩
      case measure => simp [intOf]; omega
    · go_wp2_with fail
      go_ret
      exact ⟨rfl, hbel⟩
end Go.Proofs.Ytmdcfmdjbncaoaa
