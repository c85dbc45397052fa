/- Holds, Covers, Meets, and the reference's. -/
import Derived.Test.YtpemgccocmdmbaaFi
namespace Go.Proofs.Ytpemgccocmdmbaa
open Go.RowKit Go.Deep

def holdsB (s : Nat) (k : Int) : Bool := bits BinOp.and IntKind.u32 ((s : Int) / 2 ^ k.toNat) 1 == 1
def coversB (s r : Nat) : Bool := bits BinOp.andNot IntKind.u32 (r : Int) (s : Int) == 0
def meetsB (s r : Nat) : Bool := bits BinOp.and IntKind.u32 (s : Int) (r : Int) != 0


set_option maxRecDepth 100000 in
set_option maxHeartbeats 4000000 in
theorem holds_want (t : WT) (d : Tree) (w : World) (S S' : Nat → Prop) (cs ds : List Value) (hok : okT t = true) (hd : IsW w S t cs) (hS : ∀ q, S q → q < w.heap.size) (hdd : IsD w S' d ds) (hk0 : 0 ≤ d.kind) (hk1 : d.kind ≤ 13) :
    Calls Try.prog 17 #[.agg cs.toArray, .agg ds.toArray] w fun e w' => e = .returned (.bool (holdsB (kindsW t) d.kind)) ∧ Below w.heap.size w w' := by
  have hc := fun W (hW : Below w.heap.size w W) => kinds_want _ t (Nat.le_refl _) hok W S cs (hd.under hW hS) (fun q hq => Nat.lt_of_lt_of_le (hS q hq) hW.size)
  have hlt := kindsW_lt t
  generalize kindsW t = s at hc hlt ⊢
  obtain ⟨o, n, l⟩ := t
  obtain ⟨a, c, rfl, -⟩ := hd.open_
  obtain ⟨k, i, b, x, r⟩ := d
  obtain ⟨a', c', rfl, -⟩ := hdd.open_
  simp only [Tree.kind] at hk0 hk1 ⊢
  have HC := Lib.hid hc
  clear hc hd hS hdd
  go_enter Try.func17, Try.ntmps17
  go_wp2_with fail
  have hbel : Below w.heap.size w ((w.alloc (.cells #[.int .i64 o, .int .i64 n, .slice a l.length c] 24)).alloc (.cells #[.int .i64 k, .int .i64 i, .int .u64 b, .string x, .slice a' r.length c'] 30)) := by go_grown
  go_region_held3 (fun w' => w'.cell? ⟨w.heap.size + 1, 0, none⟩ = some (.int .i64 k) ∧ w'.cell? ⟨w.heap.size, 0, none⟩ = some (.int .i64 o) ∧ w'.cell? ⟨w.heap.size, 1, none⟩ = some (.int .i64 n) ∧ w'.cell? ⟨w.heap.size, 2, none⟩ = some (.slice a l.length c) ∧ Below w.heap.size w w')
    (first
      | (exact ⟨by simp, by simp, by simp, by simp, hbel.drew⟩)
      | (go_split_ands; exact ⟨by assumption, by assumption, by assumption, by assumption, by assumption⟩)
      | (go_split_ands; exact ⟨cell_on hb (by assumption), cell_on hb (by assumption), cell_on hb (by assumption), cell_on hb (by assumption), below_on hb (by assumption)⟩))
    (first | (go_split_ands; go_at_call 16; refine (HC.out _ (by assumption)).mono ?_; rintro e w1 ⟨rfl, hb⟩))
  go_split_ands
  go_wp2_with fail
  go_ret
  exact ⟨rfl, by assumption⟩

set_option maxRecDepth 100000 in
set_option maxHeartbeats 4000000 in
theorem match_ref (t : WT) (d : Tree) (w : World) (S S' : Nat → Prop) (cs ds : List Value) (hok : okT t = true) (hd : IsW w S t cs) (hS : ∀ q, S q → q < w.heap.size) (hdd : IsD w S' d ds) (hk0 : 0 ≤ d.kind) (hk1 : d.kind ≤ 13) :
    Calls Try.prog 18 #[.agg cs.toArray, .agg ds.toArray] w fun e w' => e = .returned (.bool (holdsB (kindsW t) d.kind)) ∧ Below w.heap.size w w' := by
  have hc := fun W (hW : Below w.heap.size w W) => kinds_ref _ t (Nat.le_refl _) hok W S cs (hd.under hW hS) (fun q hq => Nat.lt_of_lt_of_le (hS q hq) hW.size)
  have hlt := kindsW_lt t
  generalize kindsW t = s at hc hlt ⊢
  obtain ⟨o, n, l⟩ := t
  obtain ⟨a, c, rfl, -⟩ := hd.open_
  obtain ⟨k, i, b, x, r⟩ := d
  obtain ⟨a', c', rfl, -⟩ := hdd.open_
  simp only [Tree.kind] at hk0 hk1 ⊢
  have HC := Lib.hid hc
  clear hc hd hS hdd
  go_enter Try.func18, Try.ntmps18
  go_wp2_with fail
  have hbel : Below w.heap.size w ((w.alloc (.cells #[.int .i64 o, .int .i64 n, .slice a l.length c] 24)).alloc (.cells #[.int .i64 k, .int .i64 i, .int .u64 b, .string x, .slice a' r.length c'] 30)) := by go_grown
  go_region_held3 (fun w' => w'.cell? ⟨w.heap.size + 1, 0, none⟩ = some (.int .i64 k) ∧ w'.cell? ⟨w.heap.size, 0, none⟩ = some (.int .i64 o) ∧ w'.cell? ⟨w.heap.size, 1, none⟩ = some (.int .i64 n) ∧ w'.cell? ⟨w.heap.size, 2, none⟩ = some (.slice a l.length c) ∧ Below w.heap.size w w')
    (first
      | (exact ⟨by simp, by simp, by simp, by simp, hbel.drew⟩)
      | (go_split_ands; exact ⟨by assumption, by assumption, by assumption, by assumption, by assumption⟩)
      | (go_split_ands; exact ⟨cell_on hb (by assumption), cell_on hb (by assumption), cell_on hb (by assumption), cell_on hb (by assumption), below_on hb (by assumption)⟩))
    (first | (go_split_ands; go_at_call 19; refine (HC.out _ (by assumption)).mono ?_; rintro e w1 ⟨rfl, hb⟩))
  go_split_ands
  go_wp2_with fail
  go_ret
  exact ⟨rfl, by assumption⟩

set_option maxRecDepth 100000 in
set_option maxHeartbeats 4000000 in
theorem covers_want (t u : WT) (w : World) (S S' : Nat → Prop) (cs ds : List Value) (hok : okT t = true) (hok' : okT u = true) (hd : IsW w S t cs) (hS : ∀ q, S q → q < w.heap.size) (hdd : IsW w S' u ds) (hS' : ∀ q, S' q → q < w.heap.size) :
    Calls Try.prog 22 #[.agg cs.toArray, .agg ds.toArray] w fun e w' => e = .returned (.bool (coversB (kindsW t) (kindsW u))) ∧ Below w.heap.size w w' := by
  have hc := fun W (hW : Below w.heap.size w W) => kinds_want _ t (Nat.le_refl _) hok W S cs (hd.under hW hS) (fun q hq => Nat.lt_of_lt_of_le (hS q hq) hW.size)
  have hc' := fun W (hW : Below w.heap.size w W) => kinds_want _ u (Nat.le_refl _) hok' W S' ds (hdd.under hW hS') (fun q hq => Nat.lt_of_lt_of_le (hS' q hq) hW.size)
  have hlt := kindsW_lt t
  have hlt' := kindsW_lt u
  generalize kindsW t = s at hc hlt ⊢
  generalize kindsW u = r at hc' hlt' ⊢
  obtain ⟨o, n, l⟩ := t
  obtain ⟨a, c, rfl, -⟩ := hd.open_
  obtain ⟨o', n', l'⟩ := u
  obtain ⟨a', c', rfl, -⟩ := hdd.open_
  have HC := Lib.hid hc
  have HC' := Lib.hid hc'
  clear hc hc' hd hS hdd hS'
  go_enter Try.func22, Try.ntmps22
  go_wp2_with fail
  have hbel : Below w.heap.size w ((w.alloc (.cells #[.int .i64 o, .int .i64 n, .slice a l.length c] 24)).alloc (.cells #[.int .i64 o', .int .i64 n', .slice a' l'.length c'] 24)) := by go_grown
  go_region_held3 (fun w' => w'.cell? ⟨w.heap.size + 1, 0, none⟩ = some (.int .i64 o') ∧ w'.cell? ⟨w.heap.size + 1, 1, none⟩ = some (.int .i64 n') ∧ w'.cell? ⟨w.heap.size + 1, 2, none⟩ = some (.slice a' l'.length c') ∧
      w'.cell? ⟨w.heap.size, 0, none⟩ = some (.int .i64 o) ∧ w'.cell? ⟨w.heap.size, 1, none⟩ = some (.int .i64 n) ∧ w'.cell? ⟨w.heap.size, 2, none⟩ = some (.slice a l.length c) ∧ Below w.heap.size w w')
    (first
      | (exact ⟨by simp, by simp, by simp, by simp, by simp, by simp, hbel.drew⟩)
      | (go_split_ands; exact ⟨by assumption, by assumption, by assumption, by assumption, by assumption, by assumption, by assumption⟩)
      | (go_split_ands; exact ⟨cell_on hb (by assumption), cell_on hb (by assumption), cell_on hb (by assumption), cell_on hb (by assumption), cell_on hb (by assumption), cell_on hb (by assumption), below_on hb (by assumption)⟩))
    (first
      | (go_split_ands; go_at_call 16; with_reducible refine (HC.out _ (by assumption)).mono ?_; rintro e w1 ⟨rfl, hb⟩)
      | (go_split_ands; go_at_call 16; with_reducible refine (HC'.out _ (by assumption)).mono ?_; rintro e w1 ⟨rfl, hb⟩))
  go_split_ands
  go_wp2_with fail
  go_ret
  exact ⟨rfl, by assumption⟩

set_option maxRecDepth 100000 in
set_option maxHeartbeats 4000000 in
theorem covers_ref (t u : WT) (w : World) (S S' : Nat → Prop) (cs ds : List Value) (hok : okT t = true) (hok' : okT u = true) (hd : IsW w S t cs) (hS : ∀ q, S q → q < w.heap.size) (hdd : IsW w S' u ds) (hS' : ∀ q, S' q → q < w.heap.size) :
    Calls Try.prog 23 #[.agg cs.toArray, .agg ds.toArray] w fun e w' => e = .returned (.bool (coversB (kindsW t) (kindsW u))) ∧ Below w.heap.size w w' := by
  have hc := fun W (hW : Below w.heap.size w W) => kinds_ref _ t (Nat.le_refl _) hok W S cs (hd.under hW hS) (fun q hq => Nat.lt_of_lt_of_le (hS q hq) hW.size)
  have hc' := fun W (hW : Below w.heap.size w W) => kinds_ref _ u (Nat.le_refl _) hok' W S' ds (hdd.under hW hS') (fun q hq => Nat.lt_of_lt_of_le (hS' q hq) hW.size)
  have hlt := kindsW_lt t
  have hlt' := kindsW_lt u
  generalize kindsW t = s at hc hlt ⊢
  generalize kindsW u = r at hc' hlt' ⊢
  obtain ⟨o, n, l⟩ := t
  obtain ⟨a, c, rfl, -⟩ := hd.open_
  obtain ⟨o', n', l'⟩ := u
  obtain ⟨a', c', rfl, -⟩ := hdd.open_
  have HC := Lib.hid hc
  have HC' := Lib.hid hc'
  clear hc hc' hd hS hdd hS'
  go_enter Try.func23, Try.ntmps23
  go_wp2_with fail
  have hbel : Below w.heap.size w ((w.alloc (.cells #[.int .i64 o, .int .i64 n, .slice a l.length c] 24)).alloc (.cells #[.int .i64 o', .int .i64 n', .slice a' l'.length c'] 24)) := by go_grown
  go_region_held3 (fun w' => w'.cell? ⟨w.heap.size + 1, 0, none⟩ = some (.int .i64 o') ∧ w'.cell? ⟨w.heap.size + 1, 1, none⟩ = some (.int .i64 n') ∧ w'.cell? ⟨w.heap.size + 1, 2, none⟩ = some (.slice a' l'.length c') ∧
      w'.cell? ⟨w.heap.size, 0, none⟩ = some (.int .i64 o) ∧ w'.cell? ⟨w.heap.size, 1, none⟩ = some (.int .i64 n) ∧ w'.cell? ⟨w.heap.size, 2, none⟩ = some (.slice a l.length c) ∧ Below w.heap.size w w')
    (first
      | (exact ⟨by simp, by simp, by simp, by simp, by simp, by simp, hbel.drew⟩)
      | (go_split_ands; exact ⟨by assumption, by assumption, by assumption, by assumption, by assumption, by assumption, by assumption⟩)
      | (go_split_ands; exact ⟨cell_on hb (by assumption), cell_on hb (by assumption), cell_on hb (by assumption), cell_on hb (by assumption), cell_on hb (by assumption), cell_on hb (by assumption), below_on hb (by assumption)⟩))
    (first
      | (go_split_ands; go_at_call 19; with_reducible refine (HC.out _ (by assumption)).mono ?_; rintro e w1 ⟨rfl, hb⟩)
      | (go_split_ands; go_at_call 19; with_reducible refine (HC'.out _ (by assumption)).mono ?_; rintro e w1 ⟨rfl, hb⟩))
  go_split_ands
  go_wp2_with fail
  go_ret
  exact ⟨rfl, by assumption⟩

set_option maxRecDepth 100000 in
set_option maxHeartbeats 4000000 in
theorem meets_want (t u : WT) (w : World) (S S' : Nat → Prop) (cs ds : List Value) (hok : okT t = true) (hok' : okT u = true) (hd : IsW w S t cs) (hS : ∀ q, S q → q < w.heap.size) (hdd : IsW w S' u ds) (hS' : ∀ q, S' q → q < w.heap.size) :
    Calls Try.prog 24 #[.agg cs.toArray, .agg ds.toArray] w fun e w' => e = .returned (.bool (meetsB (kindsW t) (kindsW u))) ∧ Below w.heap.size w w' := by
  have hc := fun W (hW : Below w.heap.size w W) => kinds_want _ t (Nat.le_refl _) hok W S cs (hd.under hW hS) (fun q hq => Nat.lt_of_lt_of_le (hS q hq) hW.size)
  have hc' := fun W (hW : Below w.heap.size w W) => kinds_want _ u (Nat.le_refl _) hok' W S' ds (hdd.under hW hS') (fun q hq => Nat.lt_of_lt_of_le (hS' q hq) hW.size)
  have hlt := kindsW_lt t
  have hlt' := kindsW_lt u
  generalize kindsW t = s at hc hlt ⊢
  generalize kindsW u = r at hc' hlt' ⊢
  obtain ⟨o, n, l⟩ := t
  obtain ⟨a, c, rfl, -⟩ := hd.open_
  obtain ⟨o', n', l'⟩ := u
  obtain ⟨a', c', rfl, -⟩ := hdd.open_
  have HC := Lib.hid hc
  have HC' := Lib.hid hc'
  clear hc hc' hd hS hdd hS'
  go_enter Try.func24, Try.ntmps24
  go_wp2_with fail
  have hbel : Below w.heap.size w ((w.alloc (.cells #[.int .i64 o, .int .i64 n, .slice a l.length c] 24)).alloc (.cells #[.int .i64 o', .int .i64 n', .slice a' l'.length c'] 24)) := by go_grown
  go_region_held3 (fun w' => w'.cell? ⟨w.heap.size + 1, 0, none⟩ = some (.int .i64 o') ∧ w'.cell? ⟨w.heap.size + 1, 1, none⟩ = some (.int .i64 n') ∧ w'.cell? ⟨w.heap.size + 1, 2, none⟩ = some (.slice a' l'.length c') ∧
      w'.cell? ⟨w.heap.size, 0, none⟩ = some (.int .i64 o) ∧ w'.cell? ⟨w.heap.size, 1, none⟩ = some (.int .i64 n) ∧ w'.cell? ⟨w.heap.size, 2, none⟩ = some (.slice a l.length c) ∧ Below w.heap.size w w')
    (first
      | (exact ⟨by simp, by simp, by simp, by simp, by simp, by simp, hbel.drew⟩)
      | (go_split_ands; exact ⟨by assumption, by assumption, by assumption, by assumption, by assumption, by assumption, by assumption⟩)
      | (go_split_ands; exact ⟨cell_on hb (by assumption), cell_on hb (by assumption), cell_on hb (by assumption), cell_on hb (by assumption), cell_on hb (by assumption), cell_on hb (by assumption), below_on hb (by assumption)⟩))
    (first
      | (go_split_ands; go_at_call 16; with_reducible refine (HC.out _ (by assumption)).mono ?_; rintro e w1 ⟨rfl, hb⟩)
      | (go_split_ands; go_at_call 16; with_reducible refine (HC'.out _ (by assumption)).mono ?_; rintro e w1 ⟨rfl, hb⟩))
  go_split_ands
  go_wp2_with fail
  go_ret
  exact ⟨rfl, by assumption⟩

set_option maxRecDepth 100000 in
set_option maxHeartbeats 4000000 in
theorem meets_ref (t u : WT) (w : World) (S S' : Nat → Prop) (cs ds : List Value) (hok : okT t = true) (hok' : okT u = true) (hd : IsW w S t cs) (hS : ∀ q, S q → q < w.heap.size) (hdd : IsW w S' u ds) (hS' : ∀ q, S' q → q < w.heap.size) :
    Calls Try.prog 25 #[.agg cs.toArray, .agg ds.toArray] w fun e w' => e = .returned (.bool (meetsB (kindsW t) (kindsW u))) ∧ Below w.heap.size w w' := by
  have hc := fun W (hW : Below w.heap.size w W) => kinds_ref _ t (Nat.le_refl _) hok W S cs (hd.under hW hS) (fun q hq => Nat.lt_of_lt_of_le (hS q hq) hW.size)
  have hc' := fun W (hW : Below w.heap.size w W) => kinds_ref _ u (Nat.le_refl _) hok' W S' ds (hdd.under hW hS') (fun q hq => Nat.lt_of_lt_of_le (hS' q hq) hW.size)
  have hlt := kindsW_lt t
  have hlt' := kindsW_lt u
  generalize kindsW t = s at hc hlt ⊢
  generalize kindsW u = r at hc' hlt' ⊢
  obtain ⟨o, n, l⟩ := t
  obtain ⟨a, c, rfl, -⟩ := hd.open_
  obtain ⟨o', n', l'⟩ := u
  obtain ⟨a', c', rfl, -⟩ := hdd.open_
  have HC := Lib.hid hc
  have HC' := Lib.hid hc'
  clear hc hc' hd hS hdd hS'
  go_enter Try.func25, Try.ntmps25
  go_wp2_with fail
  have hbel : Below w.heap.size w ((w.alloc (.cells #[.int .i64 o, .int .i64 n, .slice a l.length c] 24)).alloc (.cells #[.int .i64 o', .int .i64 n', .slice a' l'.length c'] 24)) := by go_grown
  go_region_held3 (fun w' => w'.cell? ⟨w.heap.size + 1, 0, none⟩ = some (.int .i64 o') ∧ w'.cell? ⟨w.heap.size + 1, 1, none⟩ = some (.int .i64 n') ∧ w'.cell? ⟨w.heap.size + 1, 2, none⟩ = some (.slice a' l'.length c') ∧
      w'.cell? ⟨w.heap.size, 0, none⟩ = some (.int .i64 o) ∧ w'.cell? ⟨w.heap.size, 1, none⟩ = some (.int .i64 n) ∧ w'.cell? ⟨w.heap.size, 2, none⟩ = some (.slice a l.length c) ∧ Below w.heap.size w w')
    (first
      | (exact ⟨by simp, by simp, by simp, by simp, by simp, by simp, hbel.drew⟩)
      | (go_split_ands; exact ⟨by assumption, by assumption, by assumption, by assumption, by assumption, by assumption, by assumption⟩)
      | (go_split_ands; exact ⟨cell_on hb (by assumption), cell_on hb (by assumption), cell_on hb (by assumption), cell_on hb (by assumption), cell_on hb (by assumption), cell_on hb (by assumption), below_on hb (by assumption)⟩))
    (first
      | (go_split_ands; go_at_call 19; with_reducible refine (HC.out _ (by assumption)).mono ?_; rintro e w1 ⟨rfl, hb⟩)
      | (go_split_ands; go_at_call 19; with_reducible refine (HC'.out _ (by assumption)).mono ?_; rintro e w1 ⟨rfl, hb⟩))
  go_split_ands
  go_wp2_with fail
  go_ret
  exact ⟨rfl, by assumption⟩
end Go.Proofs.Ytpemgccocmdmbaa
