/- Same, the reference's, of two trees that are one: true. -/
import Derived.Test.YtmdcfmdjbncaoaaDoorV
namespace Go.Proofs.YtmdcfmdjbncaoaaDoor
open Go.RowKit
attribute [local go_sem ↓] Go.wp_at_zero Go.wp_at_succ

def MW (w : World) (cells cells' : Array Value) (n : Nat) (iv : Value) (wr : World) : Prop :=
  ∃ j : Nat, iv = .int .i64 j ∧ j ≤ n ∧ Blk wr w.heap.size 28 cells ∧ Blk wr (w.heap.size + 1) 28 cells' ∧ Below w.heap.size w wr

set_option maxHeartbeats 4000000 in
set_option maxRecDepth 100000 in
theorem same_yes : ∀ (m : Nat) (t : Tree), t.high ≤ m → ∀ (w : World) (S S' : Nat → Prop) (cs cs' : List Value), IsD w S t cs → IsD w S' t cs' → (∀ b, S b → b < w.heap.size) → (∀ b, S' b → b < w.heap.size) →
    Calls Tryd.prog 65 #[.agg cs.toArray, .agg cs'.toArray] w fun e w' => e = .returned (.bool true) ∧ Below w.heap.size w w' := by
  intro m
  induction m with
  | zero => intro t ht; cases t; rw [Tree.high_node] at ht; omega
  | succ m ih =>
    intro t ht w S S' cs cs' hd hd' hS hS'
    obtain ⟨k, i, b, s, l⟩ := t
    have HH : ∀ x ∈ l, x.high ≤ m := fun x hx => by have := high_mem hx; rw [Tree.high_node] at ht; omega
    obtain ⟨a, c, rfl, wk, wi, wb, ws, hrow⟩ := hd.open_
    obtain ⟨a', c', rfl, -, -, -, -, hrow'⟩ := hd'.open_
    have hcl : c ≤ maxLen := hrow.2.2.1
    have hlc : l.length ≤ c := hrow.2.1
    unfold maxLen at hcl ws
    have HROW := Lib.hid hrow
    have HROW' := Lib.hid hrow'
    have HHH := Lib.hid HH
    have HS := Lib.hid hS
    have HS' := Lib.hid hS'
    have IH := Lib.hid ih
    clear ht hd hd' HH hrow hrow' hS hS' ih wk wi wb
    go_enter Tryd.func65, Tryd.ntmps65
    go_wp2_with fail
    go_loopw [44] (MW w #[.int .i64 k, .int .i64 i, .int .u64 b, .string s, .slice a l.length c] #[.int .i64 k, .int .i64 i, .int .u64 b, .string s, .slice a' l.length c'] l.length) (fun i _ => l.length - (intOf i).toNat)
    case atStart => exact ⟨0, rfl, Nat.zero_le _, (Blk.new _ _ _).alloc _, Blk.new' _ _ _ (by simp), by go_grown⟩
    case round =>
      obtain ⟨j, rfl, hj, hB, hB', hbel⟩ := hrel
      have c4 := hB.cell 4
      have c5 := hB'.cell 4
      simp only [List.getElem?_toArray, List.getElem?_cons_succ, List.getElem?_cons_zero] at c4 c5
      have b0 := hB.lt
      have b1 := hB'.lt
      have HB := Lib.hid hB
      have HB' := Lib.hid hB'
      clear hB hB'
      have hsz := hbel.size
      by_cases hlt : j < l.length
      · obtain ⟨g, o, x, xs, rfl, hSg, hx, hD, hxl, hr⟩ := HROW.out.get hlt
        obtain ⟨g', o', x', xs', rfl, hSg', hx', hD', hxl', hr'⟩ := HROW'.out.get hlt
        have hxx : x' = x := by rw [hx] at hx'; injection hx' with h; exact h.symm
        subst hxx
        have hr2 : wr.rangeAt g (o + j * 5) xs := rangeAt_keep hr fun q => hbel.cell (p := ⟨g, q, none⟩) (HS.out g hSg)
        have hr3 : wr.rangeAt g' (o' + j * 5) xs' := rangeAt_keep hr' fun q => hbel.cell (p := ⟨g', q, none⟩) (HS'.out g' hSg')
        have hD2 := (hD.under hbel HS.out).drew
        have hD3 := (hD'.under hbel HS'.out).drew
        have hc := IH.out x' (HHH.out x' (List.mem_of_getElem? hx)) wr.drew S S' xs xs' hD2 hD3 (fun q hq => Nat.lt_of_lt_of_le (HS.out q hq) hsz) (fun q hq => Nat.lt_of_lt_of_le (HS'.out q hq) hsz)
        obtain ⟨kx, ix, bx, sx, lx⟩ := x'
        obtain ⟨ax, cx, rfl, -, -, -, -, -⟩ := hD.open_
        obtain ⟨ay, cy, rfl, -, -, -, -, -⟩ := hD'.open_
        have d0 := hr2 0 _ rfl
        have d1 := hr2 1 _ rfl
        have d2 := hr2 2 _ rfl
        have d3 := hr2 3 _ rfl
        have d4 := hr2 4 _ rfl
        have e0 := hr3 0 _ rfl
        have e1 := hr3 1 _ rfl
        have e2 := hr3 2 _ rfl
        have e3 := hr3 3 _ rfl
        have e4 := hr3 4 _ rfl
        simp only [Nat.add_zero] at d0 e0
        have HC := Lib.hid hc
        have hg : g < wr.heap.size := Nat.lt_of_lt_of_le (HS.out g hSg) hsz
        have hg' : g' < wr.heap.size := Nat.lt_of_lt_of_le (HS'.out g' hSg') hsz
        have hj0 : (0 : Int) ≤ (j : Int) := by omega
        have hj1 : (j : Int) < (l.length : Int) := by omega
        clear hr hr' hr2 hr3 hD hD' hD2 hD3 hx hx' hxl hxl' hc
        go_wp2_with fail
        go_region_held3 (fun w' => w'.cell? ⟨w.heap.size, 4, none⟩ = some (.slice (some ⟨g, o, none⟩) l.length c) ∧ w'.cell? ⟨w.heap.size + 1, 4, none⟩ = some (.slice (some ⟨g', o', none⟩) l.length c') ∧
            w'.cell? ⟨g, o + j * 5, none⟩ = some (.int .i64 kx) ∧ w'.cell? ⟨g, o + j * 5 + 1, none⟩ = some (.int .i64 ix) ∧ w'.cell? ⟨g, o + j * 5 + 2, none⟩ = some (.int .u64 bx) ∧ w'.cell? ⟨g, o + j * 5 + 3, none⟩ = some (.string sx) ∧ w'.cell? ⟨g, o + j * 5 + 4, none⟩ = some (.slice ax lx.length cx) ∧
            w'.cell? ⟨g', o' + j * 5, none⟩ = some (.int .i64 kx) ∧ w'.cell? ⟨g', o' + j * 5 + 1, none⟩ = some (.int .i64 ix) ∧ w'.cell? ⟨g', o' + j * 5 + 2, none⟩ = some (.int .u64 bx) ∧ w'.cell? ⟨g', o' + j * 5 + 3, none⟩ = some (.string sx) ∧ w'.cell? ⟨g', o' + j * 5 + 4, none⟩ = some (.slice ay lx.length cy))
          (first
            | (exact ⟨c4, c5, d0, d1, d2, d3, d4, e0, e1, e2, e3, e4⟩)
            | (exact ⟨cell_over hb1 b0 c4, cell_over hb1 b1 c5, cell_over hb1 hg d0, cell_over hb1 hg d1, cell_over hb1 hg d2, cell_over hb1 hg d3, cell_over hb1 hg d4, cell_over hb1 hg' e0, cell_over hb1 hg' e1, cell_over hb1 hg' e2, cell_over hb1 hg' e3, cell_over hb1 hg' e4⟩))
          (first | (go_at_call 65; refine HC.out.mono ?_; rintro e w1 ⟨rfl, hb1⟩))
        have hb2 : Below wr.heap.size wr w1 := (Below.refl _ _).drew.trans hb1
        have hB1 : Below w.heap.size w w1 := hbel.trans (hb2.mono hsz)
        have HB1 : Hid (Blk w1 w.heap.size 28 _) := HB.out.under hb2 b0
        have HB1' : Hid (Blk w1 (w.heap.size + 1) 28 _) := HB'.out.under hb2 b1
        clear c4 c5 d0 d1 d2 d3 d4 e0 e1 e2 e3 e4 hb1
        go_wp2_with fail
        go_roundw
        case rel => exact ⟨j + 1, by go_num, by omega, HB1.out, HB1'.out, hB1⟩
        case measure => simp [intOf]; omega
      · go_wp2_with fail
        go_ret
        exact ⟨rfl, hbel⟩
end Go.Proofs.YtmdcfmdjbncaoaaDoor
