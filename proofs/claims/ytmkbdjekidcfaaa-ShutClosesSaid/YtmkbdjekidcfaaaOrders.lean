/- ShutOrders: the walk. -/
import Derived.Test.YtmkbdjekidcfaaaL
namespace Go.Proofs.Ytmkbdjekidcfaaa
open Go.RowKit

theorem small_no (v : Value) (rows : List (List Int)) (w : World) (h : RowsAt w v rows) (hs : smallB rows = false) : Calls Try.prog 7 #[v] w fun e w' => e = .returned (.bool false) ∧ w = w' := by
  have := small_any v rows w h
  rwa [hs] at this
theorem small_yes (v : Value) (rows : List (List Int)) (w : World) (h : RowsAt w v rows) (hs : smallB rows = true) : Calls Try.prog 7 #[v] w fun e w' => e = .returned (.bool true) ∧ w = w' := by
  have := small_any v rows w h
  rwa [hs] at this
theorem ints_same (v1 v2 : Value) (l : List Int) (w : World) (h1 : RowAt w v1 l) (h2 : RowAt w v2 l) : Calls Try.prog 11 #[v1, v2] w fun e w' => e = .returned (.bool true) ∧ Below w.heap.size w w' := by
  have := ints_any v1 v2 l l w h1 h2
  rwa [decide_eq_true rfl] at this
theorem OwnInts.over {w w' : World} {B : Nat} {v : Value} {G : List Nat} (h : OwnInts w B v G) (hb : Below w.heap.size w w') : OwnInts w' B v G := own_below h hb

theorem rowAt_two {w : World} {v : Value} {l : List Int} (o o' : Obj) (h : RowAt w v l) : RowAt ((w.alloc o).alloc o') v l := (h.below ((Below.refl _ _).alloc (Nat.le_refl _) _)).below ((Below.refl _ _).alloc (Nat.le_refl _) _)

set_option maxHeartbeats 2000000 in
theorem orders_walk (v : Value) (rows : List (List Int)) (w : World) (h : RowsAt w v rows) : Calls Try.prog 3 #[v] w fun e w' => e = .returned (.bool true) ∧ Below w.heap.size w w' := by
  cases hs : smallB rows with
  | false =>
    go_enter Try.func3, Try.ntmps3
    go_wp2_with fail
    refine (small_no v rows _ h hs).mono ?_
    rintro e w1 ⟨rfl, rfl⟩
    go_wp2_with fail
    refine (awake_any _).mono ?_
    rintro e w2 ⟨rfl, hb2⟩
    go_wp2
    go_ret
    exact ⟨rfl, hb2⟩
  | true =>
    obtain ⟨hlen, -⟩ := smallB_true hs
    have hO := ordOf_inv rows
    have hOl := ordOf_length rows
    have hC := cycOf_lt rows
    have hCl := cycOf_length rows
    have HO := Lib.hid hO
    have HC := Lib.hid hC
    have HS := Lib.hid hs
    have HR := Lib.hid h
    clear h hs hO hC
    go_enter Try.func3, Try.ntmps3
    go_wp2_with fail
    refine (small_yes v rows _ HR.out HS.out).mono ?_
    rintro e w1 ⟨rfl, rfl⟩
    go_wp2_with fail
    refine (order_any v rows _ HR.out HS.out).mono ?_
    rintro e w1 ⟨vo, vc, rfl, ho, hc, hb1⟩
    have hs1 := hb1.size
    have HR1 : Hid (RowsAt w1 v rows) := HR.out.below hb1
    go_wp2_with fail
    refine (rorder_any v rows _ HR1.out HS.out).mono ?_
    rintro e w2 ⟨vo2, vc2, rfl, ho2, hc2, hb2⟩
    have hs2 := hb2.size
    have hB2 : Below w.heap.size w w2 := below_via hb1 hb2 hs1
    have ro : RowAt w2 vo ((ordOf rows).map fun i : Nat => (i : Int)) := (ho.over hb2).rowAt (by omega) (fun i hi => by have := HO.out.2 i hi; omega)
    have rc : RowAt w2 vc ((cycOf rows).map fun i : Nat => (i : Int)) := (hc.over hb2).rowAt (by omega) (fun i hi => by have := HC.out i hi; omega)
    have ro2 : RowAt w2 vo2 ((ordOf rows).map fun i : Nat => (i : Int)) := ho2.rowAt (by omega) (fun i hi => by have := HO.out.2 i hi; omega)
    have rc2 : RowAt w2 vc2 ((cycOf rows).map fun i : Nat => (i : Int)) := hc2.rowAt (by omega) (fun i hi => by have := HC.out i hi; omega)
    obtain ⟨a1, c1, rfl⟩ := own_len ho
    obtain ⟨a2, c2, rfl⟩ := own_len hc
    obtain ⟨a3, c3, rfl⟩ := own_len ho2
    obtain ⟨a4, c4, rfl⟩ := own_len hc2
    have RO' := Lib.hid ro
    have RC' := Lib.hid rc
    have RO2 := Lib.hid ro2
    have RC2 := Lib.hid rc2
    clear ro rc ro2 rc2 ho hc ho2 hc2 HR1 hb1 hb2
    go_wp2_with fail
    refine (ints_same _ _ _ _ (rowAt_two _ _ RO'.out) (rowAt_two _ _ RO2.out)).mono ?_
    rintro e w3 ⟨rfl, hb3⟩
    have hs3 := hb3.size
    simp only [World.size_alloc] at hs3
    have d1 : w3.cell? ⟨w2.heap.size, 1, none⟩ = some (.slice a2 (cycOf rows).length c2) := cell_over hb3 (by simp; omega) (by simp)
    have d2 : w3.cell? ⟨w2.heap.size + 1, 1, none⟩ = some (.slice a4 (cycOf rows).length c4) := cell_over hb3 (by simp) (by simp)
    have hB3 : Below w.heap.size w w3 := below_via (by go_grown) hb3 (by simp; omega)
    have X1 : Hid (RowAt w3 (.slice a2 (cycOf rows).length c2) ((cycOf rows).map fun i : Nat => (i : Int))) := (rowAt_two _ _ RC'.out).below hb3
    have X2 : Hid (RowAt w3 (.slice a4 (cycOf rows).length c4) ((cycOf rows).map fun i : Nat => (i : Int))) := (rowAt_two _ _ RC2.out).below hb3
    clear hb3
    go_wp2_with fail
    refine (ints_same _ _ _ _ X1.out X2.out).mono ?_
    rintro e w4 ⟨rfl, hb4⟩
    have hB4 : Below w.heap.size w w4 := below_via hB3 hb4 (by omega)
    have hs4 := hb4.size
    clear hb4
    go_wp2_with fail
    refine (awake_any _).mono ?_
    rintro e w5 ⟨rfl, hb5⟩
    have hB5 : Below w.heap.size w w5 := below_via hB4 hb5 (by omega)
    go_wp2
    go_ret
    exact ⟨rfl, hB5⟩

theorem walk_ShutOrders {H : Type} {enc : TypeId × Value → H} {base : Nat} {d : DataW H} {p : List MemPlace} (v : Value) (W : World) (ok : Value.okWide Try.prog W .any base 22 v) (tr : DataW.Trod enc Try.prog W 0 (fun _ => true) true 22 v d p)
    (hsz : ∀ n ∈ d.weights Try.prog 22, n ≤ reachBytes) : Calls Try.prog 3 #[v] W fun e w' => e = .returned (.bool true) ∧ Below W.heap.size W w' := by
  obtain ⟨rows, h⟩ := rows_open ok tr hsz
  exact orders_walk v rows W h

end Go.Proofs.Ytmkbdjekidcfaaa
