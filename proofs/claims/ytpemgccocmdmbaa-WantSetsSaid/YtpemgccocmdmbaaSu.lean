/- WantSets: the walk. -/
import Derived.Test.YtpemgccocmdmbaaSt
namespace Go.Proofs.Ytpemgccocmdmbaa
open Go.RowKit Go.ChangeShapes Go.WideShapes Go.Deep
attribute [local go_sem] Go.undef

/-- The five boxes. -/
def Bx (B : Nat) (ca cb : Array Value) (W : World) : Prop :=
  Blk W B 24 ca ∧ Blk W (B + 1) 24 cb ∧ Blk W (B + 3) 24 #[.int .i64 5, .int .i64 0, .slice (some ⟨B + 2, 0, none⟩) 2 2] ∧ Blk W (B + 5) 24 #[.int .i64 4, .int .i64 0, .slice (some ⟨B + 4, 0, none⟩) 2 2] ∧ Blk W (B + 7) 24 #[.int .i64 6, .int .i64 0, .slice (some ⟨B + 6, 0, none⟩) 1 1]
theorem Bx.under {B : Nat} {ca cb : Array Value} {W W' : World} (h : Bx B ca cb W) (hb : Below W.heap.size W W') : Bx B ca cb W' := ⟨h.1.under hb h.1.lt, h.2.1.under hb h.2.1.lt, h.2.2.1.under hb h.2.2.1.lt, h.2.2.2.1.under hb h.2.2.2.1.lt, h.2.2.2.2.under hb h.2.2.2.2.lt⟩
theorem wcells {W : World} {B : Nat} {u0 u1 u2 : Value} (h : Blk W B 24 #[u0, u1, u2]) : W.cell? ⟨B, 0, none⟩ = some u0 ∧ W.cell? ⟨B, 1, none⟩ = some u1 ∧ W.cell? ⟨B, 2, none⟩ = some u2 := ⟨h.cell 0, h.cell 1, h.cell 2⟩

set_option maxRecDepth 100000 in
set_option maxHeartbeats 16000000 in
theorem sets_go (t u : WT) (cs ds : List Value) (w : World) (hd : IsW w (· < w.heap.size) t cs) (hdd : IsW w (· < w.heap.size) u ds) :
    Calls Try.prog 7 #[.agg cs.toArray, .agg ds.toArray] w fun e w' => e = .returned (.bool true) ∧ Below w.heap.size w w' := by
  obtain ⟨kt, hkt⟩ : ∃ kt, kt = t := ⟨_, rfl⟩
  obtain ⟨ku, hku⟩ : ∃ ku, ku = u := ⟨_, rfl⟩
  obtain ⟨o, n, l⟩ := t
  obtain ⟨a, c, rfl, -⟩ := hd.open_
  obtain ⟨o', n', l'⟩ := u
  obtain ⟨a', c', rfl, -⟩ := hdd.open_
  rw [← hkt] at hd
  rw [← hku] at hdd
  generalize hW : ((((((((w.alloc (.cells #[.int .i64 o, .int .i64 n, .slice a l.length c] 24)).alloc (.cells #[.int .i64 o', .int .i64 n', .slice a' l'.length c'] 24)).alloc (.cells #[.int .i64 o, .int .i64 n, .slice a l.length c, .int .i64 o', .int .i64 n', .slice a' l'.length c'] 24)).alloc (.cells #[.int .i64 5, .int .i64 0, .slice (some ⟨w.heap.size + 2, 0, none⟩) 2 2] 24)).alloc (.cells #[.int .i64 o, .int .i64 n, .slice a l.length c, .int .i64 o', .int .i64 n', .slice a' l'.length c'] 24)).alloc (.cells #[.int .i64 4, .int .i64 0, .slice (some ⟨w.heap.size + 4, 0, none⟩) 2 2] 24)).alloc (.cells #[.int .i64 o, .int .i64 n, .slice a l.length c] 24)).alloc (.cells #[.int .i64 6, .int .i64 0, .slice (some ⟨w.heap.size + 6, 0, none⟩) 1 1] 24)) = W0
  have hB0 : Below w.heap.size w W0 := by rw [← hW]; go_grown
  have hS0 : W0.heap.size = w.heap.size + 8 := by rw [← hW]; simp
  have hbx : Bx w.heap.size #[.int .i64 o, .int .i64 n, .slice a l.length c] #[.int .i64 o', .int .i64 n', .slice a' l'.length c'] W0 := by
    rw [← hW]
    refine ⟨?_, ?_, ?_, ?_, ?_⟩
    · exact (((((((Blk.new _ _ _).alloc _).alloc _).alloc _).alloc _).alloc _).alloc _).alloc _
    · exact ((((((Blk.new' _ _ _ (by simp)).alloc _).alloc _).alloc _).alloc _).alloc _).alloc _
    · exact ((((Blk.new' _ _ _ (by simp)).alloc _).alloc _).alloc _).alloc _
    · exact ((Blk.new' _ _ _ (by simp)).alloc _).alloc _
    · exact Blk.new' _ _ _ (by simp)
  have hl2 : Blk W0 (w.heap.size + 2) 24 #[.int .i64 o, .int .i64 n, .slice a l.length c, .int .i64 o', .int .i64 n', .slice a' l'.length c'] := by rw [← hW]; exact (((((Blk.new' _ _ _ (by simp)).alloc _).alloc _).alloc _).alloc _).alloc _
  have hl4 : Blk W0 (w.heap.size + 4) 24 #[.int .i64 o, .int .i64 n, .slice a l.length c, .int .i64 o', .int .i64 n', .slice a' l'.length c'] := by rw [← hW]; exact (((Blk.new' _ _ _ (by simp)).alloc _).alloc _).alloc _
  have hl6 : Blk W0 (w.heap.size + 6) 24 #[.int .i64 o, .int .i64 n, .slice a l.length c] := by rw [← hW]; exact (Blk.new' _ _ _ (by simp)).alloc _
  have ha0 : IsW W0 (· < W0.heap.size) kt [.int .i64 o, .int .i64 n, .slice a l.length c] := (hd.under hB0 (fun _ h => h)).mono (fun q hq => by omega)
  have hb0 : IsW W0 (· < W0.heap.size) ku [.int .i64 o', .int .i64 n', .slice a' l'.length c'] := (hdd.under hB0 (fun _ h => h)).mono (fun q hq => by omega)
  have two : ∀ (j : Nat) (x : WT), [kt, ku][j]? = some x → ∃ cs : List Value, [[.int .i64 o, .int .i64 n, .slice a l.length c], [.int .i64 o', .int .i64 n', .slice a' l'.length c']][j]? = some cs ∧ IsW W0 (· < W0.heap.size) x cs := fun j x hx => by
    match j, hx with
    | 0, hx => simp at hx; subst hx; exact ⟨_, rfl, ha0⟩
    | 1, hx => simp at hx; subst hx; exact ⟨_, rfl, hb0⟩
  have one : ∀ (j : Nat) (x : WT), [kt][j]? = some x → ∃ cs : List Value, [[.int .i64 o, .int .i64 n, .slice a l.length c]][j]? = some cs ∧ IsW W0 (· < W0.heap.size) x cs := fun j x hx => by
    match j, hx with
    | 0, hx => simp at hx; subst hx; exact ⟨_, rfl, ha0⟩
  have h5 : IsW W0 (· < W0.heap.size) (.node 5 0 [kt, ku]) [.int .i64 5, .int .i64 0, .slice (some ⟨w.heap.size + 2, 0, none⟩) 2 2] :=
    IsW.made (T := 24) (l := [kt, ku]) (css := [[.int .i64 o, .int .i64 n, .slice a l.length c], [.int .i64 o', .int .i64 n', .slice a' l'.length c']]) (by simpa using hl2) (by omega) (show 2 ≤ maxLen by decide) two rfl rfl
  have h4 : IsW W0 (· < W0.heap.size) (.node 4 0 [kt, ku]) [.int .i64 4, .int .i64 0, .slice (some ⟨w.heap.size + 4, 0, none⟩) 2 2] :=
    IsW.made (T := 24) (l := [kt, ku]) (css := [[.int .i64 o, .int .i64 n, .slice a l.length c], [.int .i64 o', .int .i64 n', .slice a' l'.length c']]) (by simpa using hl4) (by omega) (show 2 ≤ maxLen by decide) two rfl rfl
  have h6 : IsW W0 (· < W0.heap.size) (.node 6 0 [kt]) [.int .i64 6, .int .i64 0, .slice (some ⟨w.heap.size + 6, 0, none⟩) 1 1] :=
    IsW.made (T := 24) (l := [kt]) (css := [[.int .i64 o, .int .i64 n, .slice a l.length c]]) (by simpa using hl6) (by omega) (show 1 ≤ maxLen by decide) one rfl rfl
  have hf5 := fun W (hW : Below W0.heap.size W0 W) => want_fit _ W _ _ (h5.under hW (fun _ h => h)) (fun q hq => Nat.lt_of_lt_of_le hq hW.size)
  have hf4 := fun W (hW : Below W0.heap.size W0 W) => want_fit _ W _ _ (h4.under hW (fun _ h => h)) (fun q hq => Nat.lt_of_lt_of_le hq hW.size)
  have hf6 := fun W (hW : Below W0.heap.size W0 W) => want_fit _ W _ _ (h6.under hW (fun _ h => h)) (fun q hq => Nat.lt_of_lt_of_le hq hW.size)
  have HBX := Lib.hid hbx
  have HW := Lib.hid hW
  clear hl2 hl4 hl6 two one hbx hkt hku hd hdd
  cases hb5 : fitW (.node 5 0 [kt, ku]) with
  | false =>
    rw [hb5] at hf5
    have HF5 := Lib.hid hf5
    clear hf5 hf4 hf6 h5 h4 h6 ha0 hb0 hb5 hW
    go_enter Try.func7, Try.ntmps7
    go_upto_region 4 with fail
    show Code.wp _ _ _ _ ((((((((w.alloc (.cells #[.int .i64 o, .int .i64 n, .slice a l.length c] 24)).alloc (.cells #[.int .i64 o', .int .i64 n', .slice a' l'.length c'] 24)).alloc (.cells #[.int .i64 o, .int .i64 n, .slice a l.length c, .int .i64 o', .int .i64 n', .slice a' l'.length c'] 24)).alloc (.cells #[.int .i64 5, .int .i64 0, .slice (some ⟨w.heap.size + 2, 0, none⟩) 2 2] 24)).alloc (.cells #[.int .i64 o, .int .i64 n, .slice a l.length c, .int .i64 o', .int .i64 n', .slice a' l'.length c'] 24)).alloc (.cells #[.int .i64 4, .int .i64 0, .slice (some ⟨w.heap.size + 4, 0, none⟩) 2 2] 24)).alloc (.cells #[.int .i64 o, .int .i64 n, .slice a l.length c] 24)).alloc (.cells #[.int .i64 6, .int .i64 0, .slice (some ⟨w.heap.size + 6, 0, none⟩) 1 1] 24))
    rw [HW.out]
    obtain ⟨z50, z51, z52⟩ := wcells HBX.out.2.2.1
    go_wp2_with fail
    refine (HF5.out _ (Below.refl _ _)).mono ?_
    rintro e w1 ⟨rfl, hb1⟩
    have hB1 : Below W0.heap.size W0 w1 := hb1
    have HX1 : Hid (Bx _ _ _ w1) := HBX.out.under hB1
    clear hb1 z50 z51 z52
    go_wp2_with fail
    refine (awake_any _).mono ?_
    rintro e w2 ⟨rfl, hb2⟩
    have hB2 := below_on hb2 hB1
    clear hb2
    go_wp2_with fail
    go_ret
    exact ⟨rfl, below_on hB2 hB0⟩
  | true =>
    rw [hb5] at hf5
    cases hb4 : fitW (.node 4 0 [kt, ku]) with
    | false =>
      rw [hb4] at hf4
      have HF5 := Lib.hid hf5
      have HF4 := Lib.hid hf4
      clear hf5 hf4 hf6 h5 h4 h6 ha0 hb0 hb5 hb4 hW
      go_enter Try.func7, Try.ntmps7
      go_upto_region 4 with fail
      show Code.wp _ _ _ _ ((((((((w.alloc (.cells #[.int .i64 o, .int .i64 n, .slice a l.length c] 24)).alloc (.cells #[.int .i64 o', .int .i64 n', .slice a' l'.length c'] 24)).alloc (.cells #[.int .i64 o, .int .i64 n, .slice a l.length c, .int .i64 o', .int .i64 n', .slice a' l'.length c'] 24)).alloc (.cells #[.int .i64 5, .int .i64 0, .slice (some ⟨w.heap.size + 2, 0, none⟩) 2 2] 24)).alloc (.cells #[.int .i64 o, .int .i64 n, .slice a l.length c, .int .i64 o', .int .i64 n', .slice a' l'.length c'] 24)).alloc (.cells #[.int .i64 4, .int .i64 0, .slice (some ⟨w.heap.size + 4, 0, none⟩) 2 2] 24)).alloc (.cells #[.int .i64 o, .int .i64 n, .slice a l.length c] 24)).alloc (.cells #[.int .i64 6, .int .i64 0, .slice (some ⟨w.heap.size + 6, 0, none⟩) 1 1] 24))
      rw [HW.out]
      obtain ⟨z50, z51, z52⟩ := wcells HBX.out.2.2.1
      go_wp2_with fail
      refine (HF5.out _ (Below.refl _ _)).mono ?_
      rintro e w1 ⟨rfl, hb1⟩
      have hB1 : Below W0.heap.size W0 w1 := hb1
      have HX1 : Hid (Bx _ _ _ w1) := HBX.out.under hB1
      clear hb1 z50 z51 z52
      obtain ⟨z40, z41, z42⟩ := wcells HX1.out.2.2.2.1
      go_wp2_with fail
      refine (HF4.out _ hB1).mono ?_
      rintro e w2 ⟨rfl, hb2⟩
      have hB2 : Below W0.heap.size W0 w2 := below_on hb2 hB1
      have HX2 : Hid (Bx _ _ _ w2) := HBX.out.under hB2
      clear hb2 z40 z41 z42
      go_wp2_with fail
      refine (awake_any _).mono ?_
      rintro e w3 ⟨rfl, hb3⟩
      have hB3 := below_on hb3 hB2
      clear hb3
      go_wp2_with fail
      go_ret
      exact ⟨rfl, below_on hB3 hB0⟩
    | true =>
      rw [hb4] at hf4
      cases hb6 : fitW (.node 6 0 [kt]) with
      | false =>
        rw [hb6] at hf6
        have HF5 := Lib.hid hf5
        have HF4 := Lib.hid hf4
        have HF6 := Lib.hid hf6
        clear hf5 hf4 hf6 h5 h4 h6 ha0 hb0 hb5 hb4 hb6 hW
        go_enter Try.func7, Try.ntmps7
        go_upto_region 4 with fail
        show Code.wp _ _ _ _ ((((((((w.alloc (.cells #[.int .i64 o, .int .i64 n, .slice a l.length c] 24)).alloc (.cells #[.int .i64 o', .int .i64 n', .slice a' l'.length c'] 24)).alloc (.cells #[.int .i64 o, .int .i64 n, .slice a l.length c, .int .i64 o', .int .i64 n', .slice a' l'.length c'] 24)).alloc (.cells #[.int .i64 5, .int .i64 0, .slice (some ⟨w.heap.size + 2, 0, none⟩) 2 2] 24)).alloc (.cells #[.int .i64 o, .int .i64 n, .slice a l.length c, .int .i64 o', .int .i64 n', .slice a' l'.length c'] 24)).alloc (.cells #[.int .i64 4, .int .i64 0, .slice (some ⟨w.heap.size + 4, 0, none⟩) 2 2] 24)).alloc (.cells #[.int .i64 o, .int .i64 n, .slice a l.length c] 24)).alloc (.cells #[.int .i64 6, .int .i64 0, .slice (some ⟨w.heap.size + 6, 0, none⟩) 1 1] 24))
        rw [HW.out]
        obtain ⟨z50, z51, z52⟩ := wcells HBX.out.2.2.1
        go_wp2_with fail
        refine (HF5.out _ (Below.refl _ _)).mono ?_
        rintro e w1 ⟨rfl, hb1⟩
        have hB1 : Below W0.heap.size W0 w1 := hb1
        have HX1 : Hid (Bx _ _ _ w1) := HBX.out.under hB1
        clear hb1 z50 z51 z52
        obtain ⟨z40, z41, z42⟩ := wcells HX1.out.2.2.2.1
        go_wp2_with fail
        refine (HF4.out _ hB1).mono ?_
        rintro e w2 ⟨rfl, hb2⟩
        have hB2 : Below W0.heap.size W0 w2 := below_on hb2 hB1
        have HX2 : Hid (Bx _ _ _ w2) := HBX.out.under hB2
        clear hb2 z40 z41 z42
        obtain ⟨z60, z61, z62⟩ := wcells HX2.out.2.2.2.2
        go_wp2_with fail
        refine (HF6.out _ hB2).mono ?_
        rintro e w3 ⟨rfl, hb3⟩
        have hB3 : Below W0.heap.size W0 w3 := below_on hb3 hB2
        have HX3 : Hid (Bx _ _ _ w3) := HBX.out.under hB3
        clear hb3 z60 z61 z62
        go_wp2_with fail
        refine (awake_any _).mono ?_
        rintro e w4 ⟨rfl, hb4⟩
        have hB4 := below_on hb4 hB3
        clear hb4
        go_wp2_with fail
        go_ret
        exact ⟨rfl, below_on hB4 hB0⟩
      | true =>
        rw [hb6] at hf6
        have ok5 := fit_ok hb5
        have ok4 := fit_ok hb4
        have ok6 := fit_ok hb6
        have okl : okT kt = true ∧ okT ku = true := by
          have := ok5
          rw [okT_node, Bool.and_eq_true_iff, okL_iff] at this
          exact ⟨this.2 kt (by simp), this.2 ku (by simp)⟩
        obtain ⟨oka, okb⟩ := okl
        have hka := fun W (hW : Below W0.heap.size W0 W) => kinds_want _ kt (Nat.le_refl _) oka W _ _ (ha0.under hW (fun _ h => h)) (fun q hq => Nat.lt_of_lt_of_le hq hW.size)
        have hkb := fun W (hW : Below W0.heap.size W0 W) => kinds_want _ ku (Nat.le_refl _) okb W _ _ (hb0.under hW (fun _ h => h)) (fun q hq => Nat.lt_of_lt_of_le hq hW.size)
        have hk5 := fun W (hW : Below W0.heap.size W0 W) => kinds_want _ _ (Nat.le_refl _) ok5 W _ _ (h5.under hW (fun _ h => h)) (fun q hq => Nat.lt_of_lt_of_le hq hW.size)
        have hk4 := fun W (hW : Below W0.heap.size W0 W) => kinds_want _ _ (Nat.le_refl _) ok4 W _ _ (h4.under hW (fun _ h => h)) (fun q hq => Nat.lt_of_lt_of_le hq hW.size)
        have hk6 := fun W (hW : Below W0.heap.size W0 W) => kinds_want _ _ (Nat.le_refl _) ok6 W _ _ (h6.under hW (fun _ h => h)) (fun q hq => Nat.lt_of_lt_of_le hq hW.size)
        have hme := fun W (hW : Below W0.heap.size W0 W) => meets_want kt _ W _ _ _ _ oka ok6 (ha0.under hW (fun _ h => h)) (fun q hq => Nat.lt_of_lt_of_le hq hW.size) (h6.under hW (fun _ h => h)) (fun q hq => Nat.lt_of_lt_of_le hq hW.size)
        have hc4 := fun W (hW : Below W0.heap.size W0 W) => covers_want _ kt W _ _ _ _ ok4 oka (h4.under hW (fun _ h => h)) (fun q hq => Nat.lt_of_lt_of_le hq hW.size) (ha0.under hW (fun _ h => h)) (fun q hq => Nat.lt_of_lt_of_le hq hW.size)
        have hc5 := fun W (hW : Below W0.heap.size W0 W) => covers_want kt _ W _ _ _ _ oka ok5 (ha0.under hW (fun _ h => h)) (fun q hq => Nat.lt_of_lt_of_le hq hW.size) (h5.under hW (fun _ h => h)) (fun q hq => Nat.lt_of_lt_of_le hq hW.size)
        have lx := kindsW_lt kt
        have ly := kindsW_lt ku
        simp only [kinds_both, kinds_either, kinds_no] at hk5 hk4 hk6 hme hc4 hc5
        generalize kindsW kt = x at hka hk5 hk4 hk6 hme hc4 hc5 lx
        generalize kindsW ku = y at hkb hk5 hk4 hc4 hc5 ly
        simp only [meets_not x lx, covers_or x y lx ly, covers_and x y lx] at hme hc4 hc5
        have e5 := bits_and_nat lx ly
        have e4 := bits_or_nat lx ly
        have e6 := not_val x lx
        generalize ((x &&& y : Nat) : Int) = p5 at hk5 e5
        generalize ((x ||| y : Nat) : Int) = p4 at hk4 e4
        generalize ((16383 ^^^ x : Nat) : Int) = p6 at hk6 e6
        have HF5 := Lib.hid hf5
        have HF4 := Lib.hid hf4
        have HF6 := Lib.hid hf6
        have HKA := Lib.hid hka
        have HKB := Lib.hid hkb
        have HK5 := Lib.hid hk5
        have HK4 := Lib.hid hk4
        have HK6 := Lib.hid hk6
        have HME := Lib.hid hme
        have HC4 := Lib.hid hc4
        have HC5 := Lib.hid hc5
        have E5 := Lib.hid e5
        have E4 := Lib.hid e4
        have E6 := Lib.hid e6
        clear hf5 hf4 hf6 h5 h4 h6 ha0 hb0 hb5 hb4 hb6 hW hka hkb hk5 hk4 hk6 hme hc4 hc5 e5 e4 e6 ok5 ok4 ok6 oka okb lx ly
        go_enter Try.func7, Try.ntmps7
        go_upto_region 4 with fail
        show Code.wp _ _ _ _ ((((((((w.alloc (.cells #[.int .i64 o, .int .i64 n, .slice a l.length c] 24)).alloc (.cells #[.int .i64 o', .int .i64 n', .slice a' l'.length c'] 24)).alloc (.cells #[.int .i64 o, .int .i64 n, .slice a l.length c, .int .i64 o', .int .i64 n', .slice a' l'.length c'] 24)).alloc (.cells #[.int .i64 5, .int .i64 0, .slice (some ⟨w.heap.size + 2, 0, none⟩) 2 2] 24)).alloc (.cells #[.int .i64 o, .int .i64 n, .slice a l.length c, .int .i64 o', .int .i64 n', .slice a' l'.length c'] 24)).alloc (.cells #[.int .i64 4, .int .i64 0, .slice (some ⟨w.heap.size + 4, 0, none⟩) 2 2] 24)).alloc (.cells #[.int .i64 o, .int .i64 n, .slice a l.length c] 24)).alloc (.cells #[.int .i64 6, .int .i64 0, .slice (some ⟨w.heap.size + 6, 0, none⟩) 1 1] 24))
        rw [HW.out]
        obtain ⟨z50, z51, z52⟩ := wcells HBX.out.2.2.1
        go_wp2_with fail
        refine (HF5.out _ (Below.refl _ _)).mono ?_
        rintro e w1 ⟨rfl, hb1⟩
        have hB1 : Below W0.heap.size W0 w1 := hb1
        have HX1 : Hid (Bx _ _ _ w1) := HBX.out.under hB1
        clear hb1 z50 z51 z52
        obtain ⟨z40, z41, z42⟩ := wcells HX1.out.2.2.2.1
        go_wp2_with fail
        refine (HF4.out _ hB1).mono ?_
        rintro e w2 ⟨rfl, hb2⟩
        have hB2 : Below W0.heap.size W0 w2 := below_on hb2 hB1
        have HX2 : Hid (Bx _ _ _ w2) := HBX.out.under hB2
        clear hb2 z40 z41 z42
        obtain ⟨z60, z61, z62⟩ := wcells HX2.out.2.2.2.2
        go_wp2_with fail
        refine (HF6.out _ hB2).mono ?_
        rintro e w3 ⟨rfl, hb3⟩
        have hB3 : Below W0.heap.size W0 w3 := below_on hb3 hB2
        have HX3 : Hid (Bx _ _ _ w3) := HBX.out.under hB3
        clear hb3 z60 z61 z62
        obtain ⟨za0, za1, za2⟩ := wcells HX3.out.1
        go_wp2_with fail
        refine (HKA.out _ hB3).mono ?_
        rintro e w4 ⟨rfl, hb4⟩
        have hB4 : Below W0.heap.size W0 w4 := below_on hb4 hB3
        have HX4 : Hid (Bx _ _ _ w4) := HBX.out.under hB4
        clear hb4 za0 za1 za2
        obtain ⟨zb0, zb1, zb2⟩ := wcells HX4.out.2.1
        go_wp2_with fail
        refine (HKB.out _ hB4).mono ?_
        rintro e w5 ⟨rfl, hb5⟩
        have hB5 : Below W0.heap.size W0 w5 := below_on hb5 hB4
        have HX5 : Hid (Bx _ _ _ w5) := HBX.out.under hB5
        clear hb5 zb0 zb1 zb2
        obtain ⟨z50, z51, z52⟩ := wcells HX5.out.2.2.1
        go_wp2_with fail
        refine (HK5.out _ hB5).mono ?_
        rintro e w6 ⟨rfl, hb6⟩
        have hB6 : Below W0.heap.size W0 w6 := below_on hb6 hB5
        have HX6 : Hid (Bx _ _ _ w6) := HBX.out.under hB6
        clear hb6 z50 z51 z52
        obtain ⟨z40, z41, z42⟩ := wcells HX6.out.2.2.2.1
        have e5 := E5.out
        go_wp2_with fail
        clear e5
        refine (HK4.out _ hB6).mono ?_
        rintro e w7 ⟨rfl, hb7⟩
        have hB7 : Below W0.heap.size W0 w7 := below_on hb7 hB6
        have HX7 : Hid (Bx _ _ _ w7) := HBX.out.under hB7
        clear hb7 z40 z41 z42
        obtain ⟨z60, z61, z62⟩ := wcells HX7.out.2.2.2.2
        have e4 := E4.out
        go_wp2_with fail
        clear e4
        refine (HK6.out _ hB7).mono ?_
        rintro e w8 ⟨rfl, hb8⟩
        have hB8 : Below W0.heap.size W0 w8 := below_on hb8 hB7
        have HX8 : Hid (Bx _ _ _ w8) := HBX.out.under hB8
        clear hb8 z60 z61 z62
        obtain ⟨za0, za1, za2⟩ := wcells HX8.out.1
        obtain ⟨z60, z61, z62⟩ := wcells HX8.out.2.2.2.2
        have e6 := E6.out
        go_wp2_with fail
        clear e6
        refine (HME.out _ hB8).mono ?_
        rintro e w9 ⟨rfl, hb9⟩
        have hB9 : Below W0.heap.size W0 w9 := below_on hb9 hB8
        have HX9 : Hid (Bx _ _ _ w9) := HBX.out.under hB9
        clear hb9 za0 za1 za2 z60 z61 z62
        obtain ⟨z40, z41, z42⟩ := wcells HX9.out.2.2.2.1
        obtain ⟨za0, za1, za2⟩ := wcells HX9.out.1
        go_wp2_with fail
        refine (HC4.out _ hB9).mono ?_
        rintro e w10 ⟨rfl, hb10⟩
        have hB10 : Below W0.heap.size W0 w10 := below_on hb10 hB9
        have HX10 : Hid (Bx _ _ _ w10) := HBX.out.under hB10
        clear hb10 z40 z41 z42 za0 za1 za2
        obtain ⟨za0, za1, za2⟩ := wcells HX10.out.1
        obtain ⟨z50, z51, z52⟩ := wcells HX10.out.2.2.1
        go_wp2_with fail
        refine (HC5.out _ hB10).mono ?_
        rintro e w11 ⟨rfl, hb11⟩
        have hB11 : Below W0.heap.size W0 w11 := below_on hb11 hB10
        have HX11 : Hid (Bx _ _ _ w11) := HBX.out.under hB11
        clear hb11 za0 za1 za2 z50 z51 z52
        go_wp2_with fail
        refine (awake_any _).mono ?_
        rintro e w12 ⟨rfl, hb12⟩
        have hB12 := below_on hb12 hB11
        clear hb12
        go_wp2_with fail
        go_ret
        exact ⟨rfl, below_on hB12 hB0⟩

set_option maxRecDepth 100000 in
theorem walk_WantSets {H : Type} {enc : TypeId × Value → H} {base : Nat} (v v' : Value) {d d' : DataW H} {p p' : List MemPlace} (W : World) (ok : Value.okWide Try.prog W .any base 24 v)
    (tr : DataW.Trod enc Try.prog W 0 (fun _ => true) true 24 v d p) (ok' : Value.okWide Try.prog W .any base 24 v')
    (tr' : DataW.Trod enc Try.prog W 0 (fun _ => true) true 24 v' d' p') : Calls Try.prog 7 #[v, v'] W fun e w' => e = .returned (.bool true) ∧ Below W.heap.size W w' := by
  obtain ⟨t, cs, rfl, hd⟩ := want_arg ok tr
  obtain ⟨u, ds, rfl, hdd⟩ := want_arg ok' tr'
  exact sets_go t u cs ds W hd hdd
end Go.Proofs.Ytpemgccocmdmbaa
