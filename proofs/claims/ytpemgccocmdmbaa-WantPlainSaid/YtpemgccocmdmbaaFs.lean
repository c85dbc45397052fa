/- First, and the reference's. -/
import Derived.Test.YtpemgccocmdmbaaHo
import Derived.Deep.RegionWith
namespace Go.Proofs.Ytpemgccocmdmbaa
open Go.RowKit Go.Deep

/-- The place of the first pattern that holds, from place j on. -/
def firstN (k : Int) : List WT → Nat → Int
  | [], _ => -1
  | t :: r, j => if holdsB (kindsW t) k = true then j else firstN k r (j + 1)
theorem first_drop {l : List WT} {j : Nat} {x : WT} (hx : l[j]? = some x) (k : Int) : firstN k (l.drop j) j = if holdsB (kindsW x) k = true then (j : Int) else firstN k (l.drop (j + 1)) (j + 1) := by
  obtain ⟨hi, rfl⟩ := List.getElem?_eq_some_iff.1 hx
  rw [List.drop_eq_getElem_cons hi, firstN]

def FW (w : World) (ts : List WT) (k X : Int) (ds : Array Value) (iv : Value) (wr : World) : Prop :=
  ∃ j : Nat, iv = .int .i64 j ∧ j ≤ ts.length ∧ firstN k (ts.drop j) j = X ∧ Blk wr w.heap.size 30 ds ∧ Below w.heap.size w wr

set_option maxRecDepth 100000 in
set_option maxHeartbeats 8000000 in
theorem first_any (ts : List WT) (d : Tree) (a : Option Addr) (n c : Nat) (w : World) (S S' : Nat → Prop) (ds : List Value) (hok : ∀ t ∈ ts, okT t = true) (hrow : RowsOf (IsW w S) 3 w S ts a n c) (hS : ∀ q, S q → q < w.heap.size) (hdd : IsD w S' d ds) (hS' : ∀ q, S' q → q < w.heap.size) (hk0 : 0 ≤ d.kind) (hk1 : d.kind ≤ 13) :
    Calls Try.prog 20 #[.slice a n c, .agg ds.toArray] w fun e w' => e = .returned (.int .i64 (firstN d.kind ts 0)) ∧ Below w.heap.size w w' := by
  have hcl : c ≤ maxLen := hrow.2.2.1
  have hlc : n ≤ c := hrow.2.1
  have hnl : n = ts.length := hrow.1
  subst hnl
  unfold maxLen at hcl
  obtain ⟨k, i, b, x, r⟩ := d
  have HDD := Lib.hid hdd
  obtain ⟨a', c', rfl, -⟩ := hdd.open_
  simp only [Tree.kind] at hk0 hk1 ⊢
  have HROW := Lib.hid hrow
  have HS := Lib.hid hS
  have HS' := Lib.hid hS'
  have HOK := Lib.hid hok
  clear hrow hS hS' hok hdd
  go_enter Try.func20, Try.ntmps20
  go_wp2_with fail
  go_loopw [9] (FW w ts k (firstN k ts 0) #[.int .i64 k, .int .i64 i, .int .u64 b, .string x, .slice a' r.length c']) (fun i _ => ts.length - (intOf i).toNat)
  case atStart => exact ⟨0, rfl, Nat.zero_le _, rfl, Blk.new _ _ _, by go_grown⟩
  case round =>
    obtain ⟨j, rfl, hj, hkeep, hB, hbel⟩ := hrel
    have HK := Lib.hid hkeep
    have x0 := hB.cell 0
    have x1 := hB.cell 1
    have x2 := hB.cell 2
    have x3 := hB.cell 3
    have x4 := hB.cell 4
    simp only [List.getElem?_toArray, List.getElem?_cons_succ, List.getElem?_cons_zero] at x0 x1 x2 x3 x4
    have HB := Lib.hid hB
    have hsz := hbel.size
    clear hkeep hB
    by_cases hlt : j < ts.length
    · obtain ⟨g, q, t, xs, rfl, hSg, hx, hD, hxl, hr⟩ := HROW.out.get hlt
      have hr2 : wr.rangeAt g (q + j * 3) xs := rangeAt_keep hr fun y => hbel.cell (p := ⟨g, y, none⟩) (HS.out g hSg)
      have hdr := first_drop hx k
      have hm := HOK.out _ (List.mem_of_getElem? hx)
      have hh := fun W (hW : Below wr.heap.size wr W) => holds_want t (.node k i b x r) W S S' xs _ hm ((hD.under hbel HS.out).under hW (fun y hy => Nat.lt_of_lt_of_le (HS.out y hy) hsz)) (fun y hy => Nat.lt_of_lt_of_le (Nat.lt_of_lt_of_le (HS.out y hy) hsz) hW.size) ((HDD.out.under hbel HS'.out).under hW (fun y hy => Nat.lt_of_lt_of_le (HS'.out y hy) hsz)) hk0 hk1
      simp only [Tree.kind] at hh
      generalize holdsB (kindsW t) k = hb at hh hdr
      obtain ⟨ox, nx, lx⟩ := t
      obtain ⟨ax, cx, rfl, -⟩ := hD.open_
      have d0 := hr2 0 _ rfl
      have d1 := hr2 1 _ rfl
      have d2 := hr2 2 _ rfl
      simp only [Nat.add_zero] at d0
      have HH := Lib.hid hh
      have HDR := Lib.hid hdr
      have l0 := HB.out.lt
      clear hr hr2 hD hx hxl hh hdr hm
      go_wp2_with fail
      refine (HH.out _ (by go_grown)).mono ?_
      rintro e w1 ⟨rfl, hb1⟩
      have hb2 : Below wr.heap.size wr w1 := below_on hb1 (by go_grown)
      have hB1 : Below w.heap.size w w1 := below_on hb2 hbel
      have HB1 : Hid (Blk w1 w.heap.size 30 _) := HB.out.under hb2 HB.out.lt
      clear x0 x1 x2 x3 x4 d0 d1 d2 hb1 hb2
      cases hb with
      | true =>
        go_wp2_with fail
        go_ret
        exact ⟨ret_i (by rw [← HK.out, HDR.out]; rfl), hB1⟩
      | false =>
        go_wp2_with fail
        go_roundw
        case rel => exact ⟨j + 1, by go_num, by omega, by rw [← HK.out, HDR.out]; rfl, HB1.out, hB1⟩
        case measure => simp [intOf]; omega
    · obtain rfl : j = ts.length := by omega
      go_wp2_with fail
      go_ret
      exact ⟨ret_i (by rw [← HK.out]; simp [firstN]), hbel⟩

set_option maxRecDepth 100000 in
set_option maxHeartbeats 8000000 in
theorem first_ref (ts : List WT) (d : Tree) (a : Option Addr) (n c : Nat) (w : World) (S S' : Nat → Prop) (ds : List Value) (hok : ∀ t ∈ ts, okT t = true) (hrow : RowsOf (IsW w S) 3 w S ts a n c) (hS : ∀ q, S q → q < w.heap.size) (hdd : IsD w S' d ds) (hS' : ∀ q, S' q → q < w.heap.size) (hk0 : 0 ≤ d.kind) (hk1 : d.kind ≤ 13) :
    Calls Try.prog 21 #[.slice a n c, .agg ds.toArray] w fun e w' => e = .returned (.int .i64 (firstN d.kind ts 0)) ∧ Below w.heap.size w w' := by
  have hcl : c ≤ maxLen := hrow.2.2.1
  have hlc : n ≤ c := hrow.2.1
  have hnl : n = ts.length := hrow.1
  subst hnl
  unfold maxLen at hcl
  obtain ⟨k, i, b, x, r⟩ := d
  have HDD := Lib.hid hdd
  obtain ⟨a', c', rfl, -⟩ := hdd.open_
  simp only [Tree.kind] at hk0 hk1 ⊢
  have HROW := Lib.hid hrow
  have HS := Lib.hid hS
  have HS' := Lib.hid hS'
  have HOK := Lib.hid hok
  clear hrow hS hS' hok hdd
  go_enter Try.func21, Try.ntmps21
  go_wp2_with fail
  go_loopw [5] (FW w ts k (firstN k ts 0) #[.int .i64 k, .int .i64 i, .int .u64 b, .string x, .slice a' r.length c']) (fun i _ => ts.length - (intOf i).toNat)
  case atStart => exact ⟨0, rfl, Nat.zero_le _, rfl, Blk.new _ _ _, by go_grown⟩
  case round =>
    obtain ⟨j, rfl, hj, hkeep, hB, hbel⟩ := hrel
    have HK := Lib.hid hkeep
    have x0 := hB.cell 0
    have x1 := hB.cell 1
    have x2 := hB.cell 2
    have x3 := hB.cell 3
    have x4 := hB.cell 4
    simp only [List.getElem?_toArray, List.getElem?_cons_succ, List.getElem?_cons_zero] at x0 x1 x2 x3 x4
    have HB := Lib.hid hB
    have hsz := hbel.size
    clear hkeep hB
    by_cases hlt : j < ts.length
    · obtain ⟨g, q, t, xs, rfl, hSg, hx, hD, hxl, hr⟩ := HROW.out.get hlt
      have hr2 : wr.rangeAt g (q + j * 3) xs := rangeAt_keep hr fun y => hbel.cell (p := ⟨g, y, none⟩) (HS.out g hSg)
      have hdr := first_drop hx k
      have hm := HOK.out _ (List.mem_of_getElem? hx)
      have hh := fun W (hW : Below wr.heap.size wr W) => match_ref t (.node k i b x r) W S S' xs _ hm ((hD.under hbel HS.out).under hW (fun y hy => Nat.lt_of_lt_of_le (HS.out y hy) hsz)) (fun y hy => Nat.lt_of_lt_of_le (Nat.lt_of_lt_of_le (HS.out y hy) hsz) hW.size) ((HDD.out.under hbel HS'.out).under hW (fun y hy => Nat.lt_of_lt_of_le (HS'.out y hy) hsz)) hk0 hk1
      simp only [Tree.kind] at hh
      generalize holdsB (kindsW t) k = hb at hh hdr
      obtain ⟨ox, nx, lx⟩ := t
      obtain ⟨ax, cx, rfl, -⟩ := hD.open_
      have d0 := hr2 0 _ rfl
      have d1 := hr2 1 _ rfl
      have d2 := hr2 2 _ rfl
      simp only [Nat.add_zero] at d0
      have HH := Lib.hid hh
      have HDR := Lib.hid hdr
      have hi0 : (0 : Int) ≤ (j : Int) := by omega
      have hi1 : (j : Int) < (ts.length : Int) := by omega
      have HBD : Hid (Below wr.heap.size wr wr.drew) := (Below.refl _ _).drew
      clear hr hr2 hD hx hxl hh hdr hm
      go_wp2_with fail
      cases hb with
      | true =>
        go_region_with (first | (go_at_call 18; refine (HH.out _ HBD.out).mono ?_; rintro e w1 ⟨rfl, hb1⟩))
        all_goals
          have hB1 : Below w.heap.size w w1 := below_on (below_on hb1 HBD.out) hbel
          clear x0 x1 x2 x3 x4 d0 d1 d2 hb1
          go_wp2_with fail
          go_ret
          exact ⟨ret_i (by rw [← HK.out, HDR.out]; rfl), hB1⟩
      | false =>
        go_region_with (first | (go_at_call 18; refine (HH.out _ HBD.out).mono ?_; rintro e w1 ⟨rfl, hb1⟩))
        all_goals
          have hb2 : Below wr.heap.size wr w1 := below_on hb1 HBD.out
          have hB1 : Below w.heap.size w w1 := below_on hb2 hbel
          have HB1 : Hid (Blk w1 w.heap.size 30 _) := HB.out.under hb2 HB.out.lt
          clear x0 x1 x2 x3 x4 d0 d1 d2 hb1 hb2
          go_wp2_with fail
          go_roundw
          case rel => exact ⟨j + 1, by go_num, by omega, by rw [← HK.out, HDR.out]; rfl, HB1.out, hB1⟩
          case measure => simp [intOf]; omega
    · obtain rfl : j = ts.length := by omega
      go_wp2_with fail
      go_ret
      exact ⟨ret_i (by rw [← HK.out]; simp [firstN]), hbel⟩
end Go.Proofs.Ytpemgccocmdmbaa
