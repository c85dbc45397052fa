/- Same, the document's, of two patterns that are one tree: true; Plain, the document's. -/
import Derived.Test.YtpemgccocmdmbaaPo
namespace Go.Proofs.Ytpemgccocmdmbaa
open Go.RowKit Go.Deep
attribute [local go_sem ↓] Go.wp_at_zero Go.wp_at_succ

def MWW (w : World) (cells cells' : Array Value) (n : Nat) (iv : Value) (wr : World) : Prop :=
  ∃ j : Nat, iv = .int .i64 j ∧ j ≤ n ∧ Blk wr w.heap.size 24 cells ∧ Blk wr (w.heap.size + 1) 24 cells' ∧ Below w.heap.size w wr

set_option maxHeartbeats 4000000 in
set_option maxRecDepth 100000 in
theorem same_want : ∀ (m : Nat) (t : WT), t.high ≤ m → ∀ (w : World) (S S' : Nat → Prop) (cs cs' : List Value), IsW w S t cs → IsW w S' t cs' → (∀ b, S b → b < w.heap.size) → (∀ b, S' b → b < w.heap.size) →
    Calls Try.prog 37 #[.agg cs.toArray, .agg cs'.toArray] w fun e w' => e = .returned (.bool true) ∧ Below w.heap.size w w' := by
  intro m
  induction m with
  | zero => intro t ht; cases t; rw [WT.high_node] at ht; omega
  | succ m ih =>
    intro t ht w S S' cs cs' hd hd' hS hS'
    obtain ⟨k, i, l⟩ := t
    have HH : ∀ x ∈ l, x.high ≤ m := fun x hx => by have := whigh_mem hx; rw [WT.high_node] at ht; omega
    obtain ⟨a, c, rfl, hrow⟩ := hd.open_
    obtain ⟨a', c', rfl, hrow'⟩ := hd'.open_
    have hcl : c ≤ maxLen := hrow.2.2.1
    have hlc : l.length ≤ c := hrow.2.1
    unfold maxLen at hcl
    have HROW := Lib.hid hrow
    have HROW' := Lib.hid hrow'
    have HHH := Lib.hid HH
    have HS := Lib.hid hS
    have HS' := Lib.hid hS'
    have IH := Lib.hid ih
    clear ht hd hd' HH hrow hrow' hS hS' ih
    go_enter Try.func37, Try.ntmps37
    go_wp2_with fail
    go_loopw [5] (MWW w #[.int .i64 k, .int .i64 i, .slice a l.length c] #[.int .i64 k, .int .i64 i, .slice a' l.length c'] l.length) (fun i _ => l.length - (intOf i).toNat)
    case atStart => exact ⟨0, rfl, Nat.zero_le _, (Blk.new _ _ _).alloc _, Blk.new' _ _ _ (by simp), by go_grown⟩
    case round =>
      obtain ⟨j, rfl, hj, hB, hB', hbel⟩ := hrel
      have c4 := hB.cell 2
      have c5 := hB'.cell 2
      simp only [List.getElem?_toArray, List.getElem?_cons_succ, List.getElem?_cons_zero] at c4 c5
      have b0 := hB.lt
      have b1 := hB'.lt
      have HB := Lib.hid hB
      have HB' := Lib.hid hB'
      clear hB hB'
      have hsz := hbel.size
      by_cases hlt : j < l.length
      · obtain ⟨g, o, x, xs, rfl, hSg, hx, hD, hxl, hr⟩ := HROW.out.get hlt
        obtain ⟨g', o', x', xs', rfl, hSg', hx', hD', hxl', hr'⟩ := HROW'.out.get hlt
        have hxx : x' = x := by rw [hx] at hx'; injection hx' with h; exact h.symm
        subst hxx
        have hr2 : wr.rangeAt g (o + j * 3) xs := rangeAt_keep hr fun q => hbel.cell (p := ⟨g, q, none⟩) (HS.out g hSg)
        have hr3 : wr.rangeAt g' (o' + j * 3) xs' := rangeAt_keep hr' fun q => hbel.cell (p := ⟨g', q, none⟩) (HS'.out g' hSg')
        have hD2 := hD.under hbel.drew HS.out
        have hD3 := hD'.under hbel.drew HS'.out
        have hc := IH.out x' (HHH.out x' (List.mem_of_getElem? hx)) wr.drew S S' xs xs' hD2 hD3 (fun q hq => Nat.lt_of_lt_of_le (HS.out q hq) hsz) (fun q hq => Nat.lt_of_lt_of_le (HS'.out q hq) hsz)
        obtain ⟨kx, ix, lx⟩ := x'
        obtain ⟨ax, cx, rfl, -⟩ := hD.open_
        obtain ⟨ay, cy, rfl, -⟩ := hD'.open_
        have d0 : wr.cell? ⟨g, o + j * 3, none⟩ = some (.int .i64 kx) := hr2 0 _ rfl
        have d1 : wr.cell? ⟨g, o + j * 3 + 1, none⟩ = some (.int .i64 ix) := hr2 1 _ rfl
        have d2 : wr.cell? ⟨g, o + j * 3 + 2, none⟩ = some (.slice ax lx.length cx) := hr2 2 _ rfl
        have e0 : wr.cell? ⟨g', o' + j * 3, none⟩ = some (.int .i64 kx) := hr3 0 _ rfl
        have e1 : wr.cell? ⟨g', o' + j * 3 + 1, none⟩ = some (.int .i64 ix) := hr3 1 _ rfl
        have e2 : wr.cell? ⟨g', o' + j * 3 + 2, none⟩ = some (.slice ay lx.length cy) := hr3 2 _ rfl
        have hg : g < wr.heap.size := Nat.lt_of_lt_of_le (HS.out g hSg) hsz
        have hg' : g' < wr.heap.size := Nat.lt_of_lt_of_le (HS'.out g' hSg') hsz
        have HC := Lib.hid hc
        clear hc hr hr' hr2 hr3 hx hx' hD hD' hD2 hD3 hxl hxl' hsz hSg hSg'
        go_upto_region 6 with fail
        go_region_held3 (fun w' => w'.cell? ⟨w.heap.size, 2, none⟩ = some (.slice (some ⟨g, o, none⟩) l.length c) ∧ w'.cell? ⟨w.heap.size + 1, 2, none⟩ = some (.slice (some ⟨g', o', none⟩) l.length c') ∧
            w'.cell? ⟨g, o + j * 3, none⟩ = some (.int .i64 kx) ∧ w'.cell? ⟨g, o + j * 3 + 1, none⟩ = some (.int .i64 ix) ∧ w'.cell? ⟨g, o + j * 3 + 2, none⟩ = some (.slice ax lx.length cx) ∧
            w'.cell? ⟨g', o' + j * 3, none⟩ = some (.int .i64 kx) ∧ w'.cell? ⟨g', o' + j * 3 + 1, none⟩ = some (.int .i64 ix) ∧ w'.cell? ⟨g', o' + j * 3 + 2, none⟩ = some (.slice ay lx.length cy))
          (first
            | (exact ⟨c4, c5, d0, d1, d2, e0, e1, e2⟩)
            | (exact ⟨cell_over hb1 b0 c4, cell_over hb1 b1 c5, cell_over hb1 hg d0, cell_over hb1 hg d1, cell_over hb1 hg d2, cell_over hb1 hg' e0, cell_over hb1 hg' e1, cell_over hb1 hg' e2⟩))
          (first | (go_at_call 37; refine HC.out.mono ?_; rintro e w1 ⟨rfl, hb1⟩))
        have hb2 : Below wr.heap.size wr w1 := (Below.refl _ _).drew.trans hb1
        have hB1 : Below w.heap.size w w1 := hbel.trans (hb2.mono hbel.size)
        have HB1 : Hid (Blk w1 w.heap.size 24 _) := HB.out.under hb2 b0
        have HB1' : Hid (Blk w1 (w.heap.size + 1) 24 _) := HB'.out.under hb2 b1
        clear c4 c5 d0 d1 d2 e0 e1 e2 hb1
        go_wp2_with fail
        go_roundw
        case rel => exact ⟨j + 1, by go_num, by omega, HB1.out, HB1'.out, hB1⟩
        case measure => simp [intOf]; omega
      · go_wp2_with fail
        go_ret
        exact ⟨rfl, hbel⟩

set_option maxRecDepth 100000 in
set_option maxHeartbeats 4000000 in
theorem plain_ref (t : WT) (w : World) (S : Nat → Prop) (cs : List Value) (hok : okT t = true) (hd : IsW w S t cs) (hS : ∀ q, S q → q < w.heap.size) :
    Calls Try.prog 38 #[.agg cs.toArray] w fun e w' => ∃ cs' : List Value, e = .returned (.agg cs'.toArray) ∧ IsW w' (Btw w.heap.size w'.heap.size) (ofT (kindsW t)) cs' ∧ Below w.heap.size w w' := by
  have hk := fun W (hW : Below w.heap.size w W) => kinds_ref _ t (Nat.le_refl _) hok W S cs (hd.under hW hS) (fun q hq => Nat.lt_of_lt_of_le (hS q hq) hW.size)
  have hlt := kindsW_lt t
  generalize kindsW t = s at hk hlt ⊢
  obtain ⟨o, n, l⟩ := t
  obtain ⟨a, c, rfl, -⟩ := hd.open_
  have HK := Lib.hid hk
  have HO := Lib.hid (of_any s hlt)
  clear hk hd hS hok hlt
  go_enter Try.func38, Try.ntmps38
  go_wp2_with fail
  refine (HK.out _ (by go_grown)).mono ?_
  rintro e w1 ⟨rfl, hb1⟩
  have hB1 : Below w.heap.size w w1 := below_on hb1 (by go_grown)
  have HR1 : Hid (Blk w1 (w.heap.size + 1) 24 #[.int .i64 0, .int .i64 0, .slice none 0 0]) := (Blk.new' _ _ _ (by simp)).under hb1 (by simp)
  clear hb1
  go_wp2_with fail
  refine (HO.out _).mono ?_
  rintro e w2 ⟨cs2, rfl, hw2, ⟨o2, n2, a2, m2, c2, rfl, -⟩, hb2⟩
  have hB2 : Below w.heap.size w w2 := below_on hb2 hB1
  have l1 := HR1.out.lt
  have HR2 := Lib.hid (HR1.out.under hb2 l1)
  obtain ⟨r0, r1, r2⟩ := w3cells HR2.out
  have f0 := HR2.out.free 0
  have f1 := HR2.out.free 1
  have f2 := HR2.out.free 2
  have l2 := hB1.size
  have HW2 := Lib.hid hw2
  clear hb2 hw2
  go_wp2_with fail
  generalize hW : (((w2.setCell _ _).setCell _ _).setCell _ _) = W
  have h3 : Blk W (w.heap.size + 1) 24 #[.int .i64 o2, .int .i64 n2, .slice a2 m2 c2] := by rw [← hW]; exact ((HR2.out.set 0 _).set 1 _).set 2 _
  have hB : Below w.heap.size w W := by rw [← hW]; go_grown
  have q : IsW W (Btw w.heap.size W.heap.size) (ofT s) [.int .i64 o2, .int .i64 n2, .slice a2 m2 c2] := (HW2.out.keep (fun _ h => h) (fun b hb j => by rw [← hW, cell_set3 (by have := hb.1; omega)])).mono (fun q hq => ⟨by have := hq.1; omega, by rw [← hW]; have := hq.2; simp; omega⟩)
  obtain ⟨z0, z1, z2⟩ := w3cells h3
  exact bodyPost_ret (v := .agg #[.int .i64 o2, .int .i64 n2, .slice a2 m2 c2]) (by simp [results, Try.results38, go_sem, *]) rfl ⟨_, rfl, q, hB⟩
end Go.Proofs.Ytpemgccocmdmbaa
