/- RetryRuns: the walk. -/
import Derived.Test.YtmdcfmdjbncaoaaRuns
import Derived.IntWalk
namespace Go.Proofs.Ytmdcfmdjbncaoaa
open Go.RowKit Go.ChangeShapes Go.WideShapes Go.Deep
attribute [local go_sem ↓] Go.wp_at_zero Go.wp_at_succ
attribute [local go_sem] Go.undef

def L1 (w w3 : World) (T : Nat) (iv : Value) (wr : World) : Prop := ∃ j : Nat, iv = .int .i64 j ∧ (0 < j → j < T) ∧ Below w3.heap.size w3 wr ∧ Below w.heap.size w wr
def L2 (w : World) (Bt : Nat) (cells : Array Value) (n1 : Nat) (a1 : Option Addr) (iv : Value) (wr : World) : Prop :=
  ∃ j : Nat, iv = .int .i64 j ∧ j ≤ n1 ∧ Blk wr Bt 30 cells ∧ (0 < n1 → ∃ g cur, a1 = some ⟨g, 0, none⟩ ∧ w.heap.size ≤ g ∧ Blk wr g 28 cur ∧ n1 * 5 ≤ cur.size) ∧ Below w.heap.size w wr

set_option maxHeartbeats 8000000 in
set_option maxRecDepth 100000 in
theorem runs_go (most : Int) (ps : List (RV × Tree)) (a : Option Addr) (n c : Nat) (w : World) (hm : most ≤ 9223372036854775807) (hrow : RowsOf (ER w (· < w.heap.size)) 10 w (· < w.heap.size) ps a n c) :
    Calls Try.prog 4 #[.int .i64 most, .slice a n c] w fun e w' => e = .returned (.bool true) ∧ Below w.heap.size w w' := by
  have hvl := validl_any ps a n c _ w hrow (fun _ h => h)
  cases hv : validL ps with
  | false =>
    rw [hv] at hvl
    have HVL := Lib.hid hvl
    clear hvl hv hrow
    go_enter Try.func4, Try.ntmps4
    go_wp2_with fail
    refine HVL.out.mono ?_
    rintro e w1 ⟨rfl, hb1⟩
    go_wp2_with fail
    refine (awake_any _).mono ?_
    rintro e w2 ⟨rfl, hb2⟩
    have hB2 : Below w.heap.size w w2 := below_on hb2 hb1
    clear hb1 hb2
    go_wp2_with fail
    go_ret
    exact ⟨rfl, hB2⟩
  | true =>
    rw [hv] at hvl
    have HVL := Lib.hid hvl
    have HV := Lib.hid hv
    have HROW := Lib.hid hrow
    have hcl : c ≤ maxLen := hrow.2.2.1
    have hlc : n ≤ c := hrow.2.1
    have hnl : n = ps.length := hrow.1
    unfold maxLen at hcl
    obtain ⟨T, hT⟩ : ∃ T, T = tryN (max most 1) 0 (ps.map (·.1)) := ⟨_, rfl⟩
    have hTn : T ≤ ps.length := by rw [hT]; simpa using tryN_le (max most 1) (ps.map (·.1)) 0
    have hT9 : (T : Int) ≤ 9223372036854775807 := by omega
    obtain ⟨p, hp⟩ : ∃ p, p = lastP (ps.take T) := ⟨_, rfl⟩
    have hpl : lastIn ((ps.map (·.1)).take (tryN (max most 1) 0 (ps.map (·.1)))) = p.1 := by rw [← hT, ← List.map_take, lastP_fst, hp]
    obtain ⟨hpD, hpS⟩ := lastP_is hrow hv T
    rw [← hp] at hpD hpS
    have HPD := Lib.hid hpD
    have HPL := Lib.hid hpl
    have HT := Lib.hid hT
    have HP := Lib.hid hp
    have HNL := Lib.hid hnl
    clear hvl hv hrow hpD hpl hT hp hnl
    go_enter Try.func4, Try.ntmps4
    go_wp2_with fail
    refine HVL.out.mono ?_
    rintro e w1 ⟨rfl, hb1⟩
    have hs1 := hb1.size
    go_wp2_with fail
    refine (run_any most (ps.map (·.1)) a n c (· < w.heap.size) w1 p.2 hm (rows_fst (rows_under HROW.out hb1 (fun _ h => h))) (fun q hq => Nat.lt_of_lt_of_le hq hs1) (by rw [HPL.out]; exact HPD.out.under hb1 (fun _ h => h)) hpS).mono ?_
    rintro e w2 ⟨r, hr, k1, i1, b1, s1, a1, n1, c1, xs1, rfl, hD2, hO2, hb2⟩
    rw [HPL.out] at hr
    subst hr
    rw [← HT.out]
    have hB2 : Below w.heap.size w w2 := below_on hb2 hb1
    have hs2 := hB2.size
    have HD2 := Lib.hid hD2
    have HO2 := Lib.hid hO2
    clear hb1 hb2 hD2 hO2
    go_wp2_with fail
    obtain ⟨rr, hrr⟩ : ∃ rr : RV, rr = ⟨p.1.err, p.1.code, p.1.pk, p.1.pn, p.1.has, k1, i1, b1, s1, a1, n1, c1⟩ := ⟨_, rfl⟩
    have hB2' : Below w.heap.size w (w2.alloc (.cells rr.cells.toArray 30)) := hB2.alloc hs2 _
    have hbox : Blk (w2.alloc (.cells rr.cells.toArray 30)) w2.heap.size 30 rr.cells.toArray := Blk.new _ _ _
    have hD2' : IsD (w2.alloc (.cells rr.cells.toArray 30)) (Btw w1.heap.size w2.heap.size) p.2 rr.body := by rw [hrr]; exact HD2.out.under ((Below.refl w2.heap.size w2).alloc (Nat.le_refl _) _) (fun _ h => h.2)
    have hO2' : (w2.alloc (.cells rr.cells.toArray 30)).ownsRow w1.heap.size 28 5 (.slice a1 n1 c1) n1 xs1 := HO2.out.alloc _
    have hrf := refrun_any most (ps.map (·.1)) a n c (· < w.heap.size) (w2.alloc (.cells rr.cells.toArray 30)) hm (rows_fst (rows_under HROW.out hB2' (fun _ h => h))) (fun q hq => Nat.lt_of_lt_of_le hq hB2'.size)
    have hsz2 : (w2.alloc (.cells rr.cells.toArray 30)).heap.size = w2.heap.size + 1 := by simp
    rw [← HT.out] at hrf
    rw [hrr] at hrf
    refine hrf.mono ?_
    rw [← hrr]
    rintro e w3 ⟨rfl, hb3⟩
    have hB3 : Below w.heap.size w w3 := below_on hb3 hB2'
    have hs3 := hb3.size
    rw [hsz2] at hs3
    have HBOX : Hid (Blk w3 w2.heap.size 30 rr.cells.toArray) := hbox.under hb3 (by rw [hsz2]; omega)
    have HD3 : Hid (IsD w3 (Btw w1.heap.size w2.heap.size) p.2 rr.body) := hD2'.under hb3 (fun _ h => by rw [hsz2]; have := h.2; omega)
    have HO3 : Hid (w3.ownsRow w1.heap.size 28 5 (.slice a1 n1 c1) n1 xs1) := own_below hO2' hb3
    have HRR := Lib.hid hrr
    have hs3' : w2.heap.size < w3.heap.size := by omega
    clear hB2' hbox hD2' hO2' hrf hsz2 hb3 hB2
    obtain ⟨Z, hZ⟩ : ∃ Z : Int, (T : Int) - 1 = Z := ⟨_, rfl⟩
    rw [hZ]
    have HZ := Lib.hid hZ
    clear hZ
    go_upto_region 5 with fail
    go_cut [49] from 23 to 48 (fun s49 wx => s49 = .bool false ∧ Below w3.heap.size w3 wx)
    case first =>
      have hx := HBOX.out
      have x0 := hx.cell 0
      have x1 := hx.cell 1
      have x2 := hx.cell 2
      have x3 := hx.cell 3
      have x4 := hx.cell 4
      have x5 := hx.cell 5
      have x6 := hx.cell 6
      have x7 := hx.cell 7
      have x8 := hx.cell 8
      have x9 := hx.cell 9
      rw [hrr] at x0 x1 x2 x3 x4 x5 x6 x7 x8 x9
      simp only [RV.cells, List.getElem?_toArray, List.getElem?_cons_succ, List.getElem?_cons_zero] at x0 x1 x2 x3 x4 x5 x6 x7 x8 x9
      clear hx hrr
      have HS0 := fun q (hq : Btw w1.heap.size w2.heap.size q) => Nat.lt_trans hq.2 hs3'
      have HS1 := fun q (hq : q < w.heap.size) => Nat.lt_of_lt_of_le hq hB3.size
      by_cases hT0 : T = 0
      · subst hT0
        obtain rfl : Z = -1 := by have := HZ.out; omega
        have hp0 : p = (zeroRV, zeroT) := HP.out
        subst hp0
        have hD5 := HD3.out.drew
        rw [HRR.out] at hD5
        have hc : Calls Try.prog 17 #[.agg #[.int .i64 0, .int .i64 0, .int .i64 0, .int .i64 0, .bool false, .int .i64 k1, .int .i64 i1, .int .u64 b1, .string s1, .slice a1 n1 c1],
            .agg #[.int .i64 0, .int .i64 0, .int .i64 0, .int .i64 0, .bool false, .int .i64 0, .int .i64 0, .int .u64 0, .string ByteArray.empty, .slice none 0 0]] w3.drew (fun e w' => e = .returned (.bool true) ∧ Below w3.drew.heap.size w3.drew w') :=
          sameres_any ⟨0, 0, 0, 0, false, k1, i1, b1, s1, a1, n1, c1⟩ zeroRV zeroT (Btw w1.heap.size w2.heap.size) (· < w.heap.size) w3.drew rfl rfl rfl rfl rfl hD5 (zeroT_is _ _) HS0 HS1
        have HC := Lib.hid hc
        have HS0' := Lib.hid HS0
        have HS1' := Lib.hid HS1
        simp only [zeroRV] at x0 x1 x2 x3 x4
        clear hc HS0 HS1 hD5
        refine wp_region_noPanic ?_
        refine wp_region_held_drew (S := fun w' => w'.cell? ⟨w2.heap.size, 0, none⟩ = some (.int .i64 0) ∧ w'.cell? ⟨w2.heap.size, 1, none⟩ = some (.int .i64 0) ∧ w'.cell? ⟨w2.heap.size, 2, none⟩ = some (.int .i64 0) ∧ w'.cell? ⟨w2.heap.size, 3, none⟩ = some (.int .i64 0) ∧ w'.cell? ⟨w2.heap.size, 4, none⟩ = some (.bool false) ∧ w'.cell? ⟨w2.heap.size, 5, none⟩ = some (.int .i64 k1) ∧ w'.cell? ⟨w2.heap.size, 6, none⟩ = some (.int .i64 i1) ∧ w'.cell? ⟨w2.heap.size, 7, none⟩ = some (.int .u64 b1) ∧ w'.cell? ⟨w2.heap.size, 8, none⟩ = some (.string s1) ∧ w'.cell? ⟨w2.heap.size, 9, none⟩ = some (.slice a1 n1 c1) ∧ Below w3.heap.size w3 w') (by kernel_rfl) ?_ (fun hHeld => ?_)
        · exact ⟨x0, x1, x2, x3, x4, x5, x6, x7, x8, x9, (Below.refl _ _).drew⟩
        refine wpAnyH_take (i := 0) (v := ?_) rfl (by kernel_rfl) (by kernel_rfl) (by kernel_rfl) (fun _ _ _ h => h) (Or.inl ⟨by rfl, ?_⟩) hHeld ?_
        rotate_left
        · intro w hSw
          try dsimp only at hSw
          first | (go_simp; done) | (go_simp; with_reducible rfl)
        try simp only [Act.put, List.getElem_toArray, List.getElem_cons_zero, List.getElem_cons_succ, List.setIfInBounds_toArray, List.set_cons_zero, List.set_cons_succ]
        refine wpAnyH_take (i := 1) (v := ?_) rfl (by kernel_rfl) (by kernel_rfl) (by kernel_rfl) (fun _ _ _ h => h) (Or.inl ⟨by rfl, ?_⟩) hHeld ?_
        rotate_left
        · intro w hSw
          try dsimp only at hSw
          first | (go_simp; done) | (go_simp; with_reducible rfl)
        try simp only [Act.put, List.getElem_toArray, List.getElem_cons_zero, List.getElem_cons_succ, List.setIfInBounds_toArray, List.set_cons_zero, List.set_cons_succ]
        refine wpAnyH_take (i := 2) (v := ?_) rfl (by kernel_rfl) (by kernel_rfl) (by kernel_rfl) (fun _ _ _ h => h) (Or.inl ⟨by rfl, ?_⟩) hHeld ?_
        rotate_left
        · intro w hSw
          try dsimp only at hSw
          first | (go_simp; done) | (go_simp; with_reducible rfl)
        try simp only [Act.put, List.getElem_toArray, List.getElem_cons_zero, List.getElem_cons_succ, List.setIfInBounds_toArray, List.set_cons_zero, List.set_cons_succ]
        refine wpAnyH_take (i := 3) (v := ?_) rfl (by kernel_rfl) (by kernel_rfl) (by kernel_rfl) (fun _ _ _ h => h) (Or.inl ⟨by rfl, ?_⟩) hHeld ?_
        rotate_left
        · intro w hSw
          try dsimp only at hSw
          first | (go_simp; done) | (go_simp; with_reducible rfl)
        try simp only [Act.put, List.getElem_toArray, List.getElem_cons_zero, List.getElem_cons_succ, List.setIfInBounds_toArray, List.set_cons_zero, List.set_cons_succ]
        refine wpAnyH_take (i := 4) (v := ?_) rfl (by kernel_rfl) (by kernel_rfl) (by kernel_rfl) (fun _ _ _ h => h) (Or.inl ⟨by rfl, ?_⟩) hHeld ?_
        rotate_left
        · intro w hSw
          try dsimp only at hSw
          first | (go_simp; done) | (go_simp; with_reducible rfl)
        try simp only [Act.put, List.getElem_toArray, List.getElem_cons_zero, List.getElem_cons_succ, List.setIfInBounds_toArray, List.set_cons_zero, List.set_cons_succ]
        refine wpAnyH_take (i := 5) (v := ?_) rfl (by kernel_rfl) (by kernel_rfl) (by kernel_rfl) (fun _ _ _ h => h) (Or.inl ⟨by rfl, ?_⟩) hHeld ?_
        rotate_left
        · intro w hSw
          try dsimp only at hSw
          first | (go_simp; done) | (go_simp; with_reducible rfl)
        try simp only [Act.put, List.getElem_toArray, List.getElem_cons_zero, List.getElem_cons_succ, List.setIfInBounds_toArray, List.set_cons_zero, List.set_cons_succ]
        refine wpAnyH_take (i := 6) (v := ?_) rfl (by kernel_rfl) (by kernel_rfl) (by kernel_rfl) (fun _ _ _ h => h) (Or.inl ⟨by rfl, ?_⟩) hHeld ?_
        rotate_left
        · intro w hSw
          try dsimp only at hSw
          first | (go_simp; done) | (go_simp; with_reducible rfl)
        try simp only [Act.put, List.getElem_toArray, List.getElem_cons_zero, List.getElem_cons_succ, List.setIfInBounds_toArray, List.set_cons_zero, List.set_cons_succ]
        refine wpAnyH_take (i := 7) (v := ?_) rfl (by kernel_rfl) (by kernel_rfl) (by kernel_rfl) (fun _ _ _ h => h) (Or.inl ⟨by rfl, ?_⟩) hHeld ?_
        rotate_left
        · intro w hSw
          try dsimp only at hSw
          first | (go_simp; done) | (go_simp; with_reducible rfl)
        try simp only [Act.put, List.getElem_toArray, List.getElem_cons_zero, List.getElem_cons_succ, List.setIfInBounds_toArray, List.set_cons_zero, List.set_cons_succ]
        refine wpAnyH_take (i := 8) (v := ?_) rfl (by kernel_rfl) (by kernel_rfl) (by kernel_rfl) (fun _ _ _ h => h) (Or.inl ⟨by rfl, ?_⟩) hHeld ?_
        rotate_left
        · intro w hSw
          try dsimp only at hSw
          first | (go_simp; done) | (go_simp; with_reducible rfl)
        try simp only [Act.put, List.getElem_toArray, List.getElem_cons_zero, List.getElem_cons_succ, List.setIfInBounds_toArray, List.set_cons_zero, List.set_cons_succ]
        refine wpAnyH_take (i := 9) (v := ?_) rfl (by kernel_rfl) (by kernel_rfl) (by kernel_rfl) (fun _ _ _ h => h) (Or.inl ⟨by rfl, ?_⟩) hHeld ?_
        rotate_left
        · intro w hSw
          try dsimp only at hSw
          first | (go_simp; done) | (go_simp; with_reducible rfl)
        try simp only [Act.put, List.getElem_toArray, List.getElem_cons_zero, List.getElem_cons_succ, List.setIfInBounds_toArray, List.set_cons_zero, List.set_cons_succ]
        refine wpAnyH_ready (rs := [10]) (by kernel_rfl) (by simp) ?_
        refine AllReadyH.cons rfl (fun K hK => ?_) AllReadyH.nil
        go_simp
        go_at_call 17
        refine HC.out.mono ?_
        rintro e w4 ⟨rfl, hb4⟩
        refine hK.out _ _ ?_ (fun hHeld2 => ?_)
        · (go_split_ands; exact ⟨cell_on hb4 (by assumption), cell_on hb4 (by assumption), cell_on hb4 (by assumption), cell_on hb4 (by assumption), cell_on hb4 (by assumption), cell_on hb4 (by assumption), cell_on hb4 (by assumption), cell_on hb4 (by assumption), cell_on hb4 (by assumption), cell_on hb4 (by assumption), Below.trans (by assumption) (hb4.mono (Below.size (by assumption)))⟩)
        clear hHeld hK K
        have hHeld := hHeld2
        clear hHeld2
        try simp only [Act.put, List.getElem_toArray, List.getElem_cons_zero, List.getElem_cons_succ, List.setIfInBounds_toArray, List.set_cons_zero, List.set_cons_succ]
        refine wpAnyH_take (i := 11) (v := ?_) rfl (by kernel_rfl) (by kernel_rfl) (by kernel_rfl) (fun _ _ _ h => h) (Or.inl ⟨by rfl, ?_⟩) hHeld ?_
        rotate_left
        · intro w hSw
          try dsimp only at hSw
          first | (go_simp; done) | (go_simp; with_reducible rfl)
        try simp only [Act.put, List.getElem_toArray, List.getElem_cons_zero, List.getElem_cons_succ, List.setIfInBounds_toArray, List.set_cons_zero, List.set_cons_succ]
        refine wpAnyH_take (i := 12) (v := ?_) rfl (by kernel_rfl) (by kernel_rfl) (by kernel_rfl) (fun _ _ _ h => h) (Or.inl ⟨by rfl, ?_⟩) hHeld ?_
        rotate_left
        · intro w hSw
          try dsimp only at hSw
          first | (go_simp; done) | (go_simp; with_reducible rfl)
        try simp only [Act.put, List.getElem_toArray, List.getElem_cons_zero, List.getElem_cons_succ, List.setIfInBounds_toArray, List.set_cons_zero, List.set_cons_succ]
        refine wpAnyH_take (i := 13) (v := ?_) rfl (by kernel_rfl) (by kernel_rfl) (by kernel_rfl) (fun _ _ _ h => h) (Or.inl ⟨by rfl, ?_⟩) hHeld ?_
        rotate_left
        · intro w hSw
          try dsimp only at hSw
          first | (go_simp; done) | (go_simp; with_reducible rfl)
        try simp only [Act.put, List.getElem_toArray, List.getElem_cons_zero, List.getElem_cons_succ, List.setIfInBounds_toArray, List.set_cons_zero, List.set_cons_succ]
        refine wpAnyH_take (i := 14) (v := ?_) rfl (by kernel_rfl) (by kernel_rfl) (by kernel_rfl) (fun _ _ _ h => h) (Or.inl ⟨by rfl, ?_⟩) hHeld ?_
        rotate_left
        · intro w hSw
          try dsimp only at hSw
          first | (go_simp; done) | (go_simp; with_reducible rfl)
        try simp only [Act.put, List.getElem_toArray, List.getElem_cons_zero, List.getElem_cons_succ, List.setIfInBounds_toArray, List.set_cons_zero, List.set_cons_succ]
        refine wpAnyH_take (i := 15) (v := ?_) rfl (by kernel_rfl) (by kernel_rfl) (by kernel_rfl) (fun _ _ _ h => h) (Or.inl ⟨by rfl, ?_⟩) hHeld ?_
        rotate_left
        · intro w hSw
          try dsimp only at hSw
          first | (go_simp; done) | (go_simp; with_reducible rfl)
        try simp only [Act.put, List.getElem_toArray, List.getElem_cons_zero, List.getElem_cons_succ, List.setIfInBounds_toArray, List.set_cons_zero, List.set_cons_succ]
        refine wpAnyH_take (i := 16) (v := ?_) rfl (by kernel_rfl) (by kernel_rfl) (by kernel_rfl) (fun _ _ _ h => h) (Or.inl ⟨by rfl, ?_⟩) hHeld ?_
        rotate_left
        · intro w hSw
          try dsimp only at hSw
          first | (go_simp; done) | (go_simp; with_reducible rfl)
        try simp only [Act.put, List.getElem_toArray, List.getElem_cons_zero, List.getElem_cons_succ, List.setIfInBounds_toArray, List.set_cons_zero, List.set_cons_succ]
        refine wpAnyH_take (i := 17) (v := ?_) rfl (by kernel_rfl) (by kernel_rfl) (by kernel_rfl) (fun _ _ _ h => h) (Or.inl ⟨by rfl, ?_⟩) hHeld ?_
        rotate_left
        · intro w hSw
          try dsimp only at hSw
          first | (go_simp; done) | (go_simp; with_reducible rfl)
        try simp only [Act.put, List.getElem_toArray, List.getElem_cons_zero, List.getElem_cons_succ, List.setIfInBounds_toArray, List.set_cons_zero, List.set_cons_succ]
        refine wpAnyH_take (i := 18) (v := Go.undef) rfl (by kernel_rfl) (by kernel_rfl) (by kernel_rfl) (fun _ _ _ h => h) (Or.inr ⟨by rfl, rfl⟩) hHeld ?_
        try simp only [Act.put, List.getElem_toArray, List.getElem_cons_zero, List.getElem_cons_succ, List.setIfInBounds_toArray, List.set_cons_zero, List.set_cons_succ]
        refine wpAnyH_take (i := 19) (v := Go.undef) rfl (by kernel_rfl) (by kernel_rfl) (by kernel_rfl) (fun _ _ _ h => h) (Or.inr ⟨by rfl, rfl⟩) hHeld ?_
        try simp only [Act.put, List.getElem_toArray, List.getElem_cons_zero, List.getElem_cons_succ, List.setIfInBounds_toArray, List.set_cons_zero, List.set_cons_succ]
        refine wpAnyH_take (i := 20) (v := Go.undef) rfl (by kernel_rfl) (by kernel_rfl) (by kernel_rfl) (fun _ _ _ h => h) (Or.inr ⟨by rfl, rfl⟩) hHeld ?_
        try simp only [Act.put, List.getElem_toArray, List.getElem_cons_zero, List.getElem_cons_succ, List.setIfInBounds_toArray, List.set_cons_zero, List.set_cons_succ]
        refine wpAnyH_take (i := 21) (v := Go.undef) rfl (by kernel_rfl) (by kernel_rfl) (by kernel_rfl) (fun _ _ _ h => h) (Or.inr ⟨by rfl, rfl⟩) hHeld ?_
        try simp only [Act.put, List.getElem_toArray, List.getElem_cons_zero, List.getElem_cons_succ, List.setIfInBounds_toArray, List.set_cons_zero, List.set_cons_succ]
        refine wpAnyH_take (i := 22) (v := Go.undef) rfl (by kernel_rfl) (by kernel_rfl) (by kernel_rfl) (fun _ _ _ h => h) (Or.inr ⟨by rfl, rfl⟩) hHeld ?_
        try simp only [Act.put, List.getElem_toArray, List.getElem_cons_zero, List.getElem_cons_succ, List.setIfInBounds_toArray, List.set_cons_zero, List.set_cons_succ]
        refine wpAnyH_take (i := 23) (v := Go.undef) rfl (by kernel_rfl) (by kernel_rfl) (by kernel_rfl) (fun _ _ _ h => h) (Or.inr ⟨by rfl, rfl⟩) hHeld ?_
        try simp only [Act.put, List.getElem_toArray, List.getElem_cons_zero, List.getElem_cons_succ, List.setIfInBounds_toArray, List.set_cons_zero, List.set_cons_succ]
        refine wpAnyH_take (i := 24) (v := Go.undef) rfl (by kernel_rfl) (by kernel_rfl) (by kernel_rfl) (fun _ _ _ h => h) (Or.inr ⟨by rfl, rfl⟩) hHeld ?_
        try simp only [Act.put, List.getElem_toArray, List.getElem_cons_zero, List.getElem_cons_succ, List.setIfInBounds_toArray, List.set_cons_zero, List.set_cons_succ]
        refine wpAnyH_take (i := 25) (v := ?_) rfl (by kernel_rfl) (by kernel_rfl) (by kernel_rfl) (fun _ _ _ h => h) (Or.inl ⟨by rfl, ?_⟩) hHeld ?_
        rotate_left
        · intro w hSw
          try dsimp only at hSw
          first | (go_simp; done) | (go_simp; with_reducible rfl)
        try simp only [Act.put, List.getElem_toArray, List.getElem_cons_zero, List.getElem_cons_succ, List.setIfInBounds_toArray, List.set_cons_zero, List.set_cons_succ]
        refine wpAnyH_take (i := 26) (v := ?_) rfl (by kernel_rfl) (by kernel_rfl) (by kernel_rfl) (fun _ _ _ h => h) (Or.inl ⟨by rfl, ?_⟩) hHeld ?_
        rotate_left
        · intro w hSw
          try dsimp only at hSw
          first | (go_simp; done) | (go_simp; with_reducible rfl)
        try simp only [Act.put, List.getElem_toArray, List.getElem_cons_zero, List.getElem_cons_succ, List.setIfInBounds_toArray, List.set_cons_zero, List.set_cons_succ]
        refine wpAnyH_done (by kernel_rfl) ?_ _
        refine NoPanic.normal ?_
        go_wp2_with fail
        go_meet
        go_split_ands
        exact ⟨rfl, by assumption⟩
      · obtain ⟨K, rfl⟩ : ∃ K, T = K + 1 := ⟨T - 1, by omega⟩
        obtain rfl : Z = (K : Int) := by have := HZ.out; omega
        have hKn : K < n := by have := HNL.out; omega
        obtain ⟨g, o, p', xs, rfl, hSg, hx', ⟨rfl, hD'⟩, hxl, hr'⟩ := HROW.out.get hKn
        obtain rfl : p' = p := by
          have h1 := lastP_take (ps := ps) (k := K) (by omega)
          rw [hx'] at h1
          injection h1 with h1
          rw [h1, HP.out]
        have hr2 : w3.rangeAt g (o + K * 10) p'.1.cells := rangeAt_keep hr' fun q => hB3.cell (p := ⟨g, q, none⟩) hSg
        have d0 := hr2 0 _ rfl
        have d1 := hr2 1 _ rfl
        have d2 := hr2 2 _ rfl
        have d3 := hr2 3 _ rfl
        have d4 := hr2 4 _ rfl
        have d5 := hr2 5 _ rfl
        have d6 := hr2 6 _ rfl
        have d7 := hr2 7 _ rfl
        have d8 := hr2 8 _ rfl
        have d9 := hr2 9 _ rfl
        simp only [Nat.add_zero] at d0
        have hD5 := HD3.out.drew
        rw [HRR.out] at hD5
        have hc : Calls Try.prog 17 #[.agg #[.int .i64 p'.1.err, .int .i64 p'.1.code, .int .i64 p'.1.pk, .int .i64 p'.1.pn, .bool p'.1.has, .int .i64 k1, .int .i64 i1, .int .u64 b1, .string s1, .slice a1 n1 c1],
            .agg #[.int .i64 p'.1.err, .int .i64 p'.1.code, .int .i64 p'.1.pk, .int .i64 p'.1.pn, .bool p'.1.has, .int .i64 p'.1.k, .int .i64 p'.1.i, .int .u64 p'.1.b, .string p'.1.s, .slice p'.1.a p'.1.n p'.1.c]] w3.drew (fun e w' => e = .returned (.bool true) ∧ Below w3.drew.heap.size w3.drew w') :=
          sameres_any ⟨p'.1.err, p'.1.code, p'.1.pk, p'.1.pn, p'.1.has, k1, i1, b1, s1, a1, n1, c1⟩ p'.1 p'.2 (Btw w1.heap.size w2.heap.size) (· < w.heap.size) w3.drew rfl rfl rfl rfl rfl hD5 (HPD.out.under hB3 (fun _ h => h)).drew HS0 HS1
        have HC := Lib.hid hc
        have HS0' := Lib.hid HS0
        have HS1' := Lib.hid HS1
        have hj0 : (0 : Int) ≤ (K : Int) := by omega
        have hj1 : (K : Int) < (n : Int) := by omega
        have hjz : ¬ ((K : Int) < 0) := by omega
        have hwr : IntKind.i64.wrap ((K : Int) + 1) = (K : Int) + 1 := IntWalk.i64_in _ (by omega)
        clear hc HS0 HS1 hD5 hr2 hr' hD' hxl hx'
        refine wp_region_noPanic ?_
        refine wp_region_held_drew (S := fun w' => w'.cell? ⟨w2.heap.size, 0, none⟩ = some (.int .i64 p'.1.err) ∧ w'.cell? ⟨w2.heap.size, 1, none⟩ = some (.int .i64 p'.1.code) ∧ w'.cell? ⟨w2.heap.size, 2, none⟩ = some (.int .i64 p'.1.pk) ∧ w'.cell? ⟨w2.heap.size, 3, none⟩ = some (.int .i64 p'.1.pn) ∧ w'.cell? ⟨w2.heap.size, 4, none⟩ = some (.bool p'.1.has) ∧ w'.cell? ⟨w2.heap.size, 5, none⟩ = some (.int .i64 k1) ∧ w'.cell? ⟨w2.heap.size, 6, none⟩ = some (.int .i64 i1) ∧ w'.cell? ⟨w2.heap.size, 7, none⟩ = some (.int .u64 b1) ∧ w'.cell? ⟨w2.heap.size, 8, none⟩ = some (.string s1) ∧ w'.cell? ⟨w2.heap.size, 9, none⟩ = some (.slice a1 n1 c1) ∧ w'.cell? ⟨g, o + K * 10, none⟩ = some (.int .i64 p'.1.err) ∧ w'.cell? ⟨g, o + K * 10 + 1, none⟩ = some (.int .i64 p'.1.code) ∧ w'.cell? ⟨g, o + K * 10 + 2, none⟩ = some (.int .i64 p'.1.pk) ∧ w'.cell? ⟨g, o + K * 10 + 3, none⟩ = some (.int .i64 p'.1.pn) ∧ w'.cell? ⟨g, o + K * 10 + 4, none⟩ = some (.bool p'.1.has) ∧ w'.cell? ⟨g, o + K * 10 + 5, none⟩ = some (.int .i64 p'.1.k) ∧ w'.cell? ⟨g, o + K * 10 + 6, none⟩ = some (.int .i64 p'.1.i) ∧ w'.cell? ⟨g, o + K * 10 + 7, none⟩ = some (.int .u64 p'.1.b) ∧ w'.cell? ⟨g, o + K * 10 + 8, none⟩ = some (.string p'.1.s) ∧ w'.cell? ⟨g, o + K * 10 + 9, none⟩ = some (.slice p'.1.a p'.1.n p'.1.c) ∧ Below w3.heap.size w3 w') (by kernel_rfl) ?_ (fun hHeld => ?_)
        · exact ⟨x0, x1, x2, x3, x4, x5, x6, x7, x8, x9, d0, d1, d2, d3, d4, d5, d6, d7, d8, d9, (Below.refl _ _).drew⟩
        refine wpAnyH_take (i := 0) (v := ?_) rfl (by kernel_rfl) (by kernel_rfl) (by kernel_rfl) (fun _ _ _ h => h) (Or.inl ⟨by rfl, ?_⟩) hHeld ?_
        rotate_left
        · intro w hSw
          try dsimp only at hSw
          first | (go_simp; done) | (go_simp; with_reducible rfl)
        try simp only [Act.put, List.getElem_toArray, List.getElem_cons_zero, List.getElem_cons_succ, List.setIfInBounds_toArray, List.set_cons_zero, List.set_cons_succ]
        refine wpAnyH_take (i := 1) (v := ?_) rfl (by kernel_rfl) (by kernel_rfl) (by kernel_rfl) (fun _ _ _ h => h) (Or.inl ⟨by rfl, ?_⟩) hHeld ?_
        rotate_left
        · intro w hSw
          try dsimp only at hSw
          first | (go_simp; done) | (go_simp; with_reducible rfl)
        try simp only [Act.put, List.getElem_toArray, List.getElem_cons_zero, List.getElem_cons_succ, List.setIfInBounds_toArray, List.set_cons_zero, List.set_cons_succ]
        refine wpAnyH_take (i := 2) (v := ?_) rfl (by kernel_rfl) (by kernel_rfl) (by kernel_rfl) (fun _ _ _ h => h) (Or.inl ⟨by rfl, ?_⟩) hHeld ?_
        rotate_left
        · intro w hSw
          try dsimp only at hSw
          first | (go_simp; done) | (go_simp; with_reducible rfl)
        try simp only [Act.put, List.getElem_toArray, List.getElem_cons_zero, List.getElem_cons_succ, List.setIfInBounds_toArray, List.set_cons_zero, List.set_cons_succ]
        refine wpAnyH_take (i := 3) (v := ?_) rfl (by kernel_rfl) (by kernel_rfl) (by kernel_rfl) (fun _ _ _ h => h) (Or.inl ⟨by rfl, ?_⟩) hHeld ?_
        rotate_left
        · intro w hSw
          try dsimp only at hSw
          first | (go_simp; done) | (go_simp; with_reducible rfl)
        try simp only [Act.put, List.getElem_toArray, List.getElem_cons_zero, List.getElem_cons_succ, List.setIfInBounds_toArray, List.set_cons_zero, List.set_cons_succ]
        refine wpAnyH_take (i := 4) (v := ?_) rfl (by kernel_rfl) (by kernel_rfl) (by kernel_rfl) (fun _ _ _ h => h) (Or.inl ⟨by rfl, ?_⟩) hHeld ?_
        rotate_left
        · intro w hSw
          try dsimp only at hSw
          first | (go_simp; done) | (go_simp; with_reducible rfl)
        try simp only [Act.put, List.getElem_toArray, List.getElem_cons_zero, List.getElem_cons_succ, List.setIfInBounds_toArray, List.set_cons_zero, List.set_cons_succ]
        refine wpAnyH_take (i := 5) (v := ?_) rfl (by kernel_rfl) (by kernel_rfl) (by kernel_rfl) (fun _ _ _ h => h) (Or.inl ⟨by rfl, ?_⟩) hHeld ?_
        rotate_left
        · intro w hSw
          try dsimp only at hSw
          first | (go_simp; done) | (go_simp; with_reducible rfl)
        try simp only [Act.put, List.getElem_toArray, List.getElem_cons_zero, List.getElem_cons_succ, List.setIfInBounds_toArray, List.set_cons_zero, List.set_cons_succ]
        refine wpAnyH_take (i := 6) (v := ?_) rfl (by kernel_rfl) (by kernel_rfl) (by kernel_rfl) (fun _ _ _ h => h) (Or.inl ⟨by rfl, ?_⟩) hHeld ?_
        rotate_left
        · intro w hSw
          try dsimp only at hSw
          first | (go_simp; done) | (go_simp; with_reducible rfl)
        try simp only [Act.put, List.getElem_toArray, List.getElem_cons_zero, List.getElem_cons_succ, List.setIfInBounds_toArray, List.set_cons_zero, List.set_cons_succ]
        refine wpAnyH_take (i := 7) (v := ?_) rfl (by kernel_rfl) (by kernel_rfl) (by kernel_rfl) (fun _ _ _ h => h) (Or.inl ⟨by rfl, ?_⟩) hHeld ?_
        rotate_left
        · intro w hSw
          try dsimp only at hSw
          first | (go_simp; done) | (go_simp; with_reducible rfl)
        try simp only [Act.put, List.getElem_toArray, List.getElem_cons_zero, List.getElem_cons_succ, List.setIfInBounds_toArray, List.set_cons_zero, List.set_cons_succ]
        refine wpAnyH_take (i := 8) (v := Go.undef) rfl (by kernel_rfl) (by kernel_rfl) (by kernel_rfl) (fun _ _ _ h => h) (Or.inr ⟨by rfl, rfl⟩) hHeld ?_
        try simp only [Act.put, List.getElem_toArray, List.getElem_cons_zero, List.getElem_cons_succ, List.setIfInBounds_toArray, List.set_cons_zero, List.set_cons_succ]
        refine wpAnyH_take (i := 9) (v := Go.undef) rfl (by kernel_rfl) (by kernel_rfl) (by kernel_rfl) (fun _ _ _ h => h) (Or.inr ⟨by rfl, rfl⟩) hHeld ?_
        try simp only [Act.put, List.getElem_toArray, List.getElem_cons_zero, List.getElem_cons_succ, List.setIfInBounds_toArray, List.set_cons_zero, List.set_cons_succ]
        refine wpAnyH_take (i := 10) (v := Go.undef) rfl (by kernel_rfl) (by kernel_rfl) (by kernel_rfl) (fun _ _ _ h => h) (Or.inr ⟨by rfl, rfl⟩) hHeld ?_
        try simp only [Act.put, List.getElem_toArray, List.getElem_cons_zero, List.getElem_cons_succ, List.setIfInBounds_toArray, List.set_cons_zero, List.set_cons_succ]
        refine wpAnyH_take (i := 11) (v := Go.undef) rfl (by kernel_rfl) (by kernel_rfl) (by kernel_rfl) (fun _ _ _ h => h) (Or.inr ⟨by rfl, rfl⟩) hHeld ?_
        try simp only [Act.put, List.getElem_toArray, List.getElem_cons_zero, List.getElem_cons_succ, List.setIfInBounds_toArray, List.set_cons_zero, List.set_cons_succ]
        refine wpAnyH_take (i := 12) (v := ?_) rfl (by kernel_rfl) (by kernel_rfl) (by kernel_rfl) (fun _ _ _ h => h) (Or.inl ⟨by rfl, ?_⟩) hHeld ?_
        rotate_left
        · intro w hSw
          try dsimp only at hSw
          first | (go_simp; done) | (go_simp; with_reducible rfl)
        try simp only [Act.put, List.getElem_toArray, List.getElem_cons_zero, List.getElem_cons_succ, List.setIfInBounds_toArray, List.set_cons_zero, List.set_cons_succ]
        refine wpAnyH_take (i := 13) (v := ?_) rfl (by kernel_rfl) (by kernel_rfl) (by kernel_rfl) (fun _ _ _ h => h) (Or.inl ⟨by rfl, ?_⟩) hHeld ?_
        rotate_left
        · intro w hSw
          try dsimp only at hSw
          first | (go_simp; done) | (go_simp; with_reducible rfl)
        try simp only [Act.put, List.getElem_toArray, List.getElem_cons_zero, List.getElem_cons_succ, List.setIfInBounds_toArray, List.set_cons_zero, List.set_cons_succ]
        refine wpAnyH_take (i := 14) (v := ?_) rfl (by kernel_rfl) (by kernel_rfl) (by kernel_rfl) (fun _ _ _ h => h) (Or.inl ⟨by rfl, ?_⟩) hHeld ?_
        rotate_left
        · intro w hSw
          try dsimp only at hSw
          first | (go_simp; done) | (go_simp; with_reducible rfl)
        try simp only [Act.put, List.getElem_toArray, List.getElem_cons_zero, List.getElem_cons_succ, List.setIfInBounds_toArray, List.set_cons_zero, List.set_cons_succ]
        refine wpAnyH_take (i := 15) (v := ?_) rfl (by kernel_rfl) (by kernel_rfl) (by kernel_rfl) (fun _ _ _ h => h) (Or.inl ⟨by rfl, ?_⟩) hHeld ?_
        rotate_left
        · intro w hSw
          try dsimp only at hSw
          first | (go_simp; done) | (go_simp; with_reducible rfl)
        try simp only [Act.put, List.getElem_toArray, List.getElem_cons_zero, List.getElem_cons_succ, List.setIfInBounds_toArray, List.set_cons_zero, List.set_cons_succ]
        refine wpAnyH_take (i := 16) (v := ?_) rfl (by kernel_rfl) (by kernel_rfl) (by kernel_rfl) (fun _ _ _ h => h) (Or.inl ⟨by rfl, ?_⟩) hHeld ?_
        rotate_left
        · intro w hSw
          try dsimp only at hSw
          first | (go_simp; done) | (go_simp; with_reducible rfl)
        try simp only [Act.put, List.getElem_toArray, List.getElem_cons_zero, List.getElem_cons_succ, List.setIfInBounds_toArray, List.set_cons_zero, List.set_cons_succ]
        refine wpAnyH_take (i := 17) (v := ?_) rfl (by kernel_rfl) (by kernel_rfl) (by kernel_rfl) (fun _ _ _ h => h) (Or.inl ⟨by rfl, ?_⟩) hHeld ?_
        rotate_left
        · intro w hSw
          try dsimp only at hSw
          first | (go_simp; done) | (go_simp; with_reducible rfl)
        try simp only [Act.put, List.getElem_toArray, List.getElem_cons_zero, List.getElem_cons_succ, List.setIfInBounds_toArray, List.set_cons_zero, List.set_cons_succ]
        refine wpAnyH_take (i := 18) (v := ?_) rfl (by kernel_rfl) (by kernel_rfl) (by kernel_rfl) (fun _ _ _ h => h) (Or.inl ⟨by rfl, ?_⟩) hHeld ?_
        rotate_left
        · intro w hSw
          try dsimp only at hSw
          first | (go_simp; done) | (go_simp; with_reducible rfl)
        try simp only [Act.put, List.getElem_toArray, List.getElem_cons_zero, List.getElem_cons_succ, List.setIfInBounds_toArray, List.set_cons_zero, List.set_cons_succ]
        refine wpAnyH_take (i := 19) (v := ?_) rfl (by kernel_rfl) (by kernel_rfl) (by kernel_rfl) (fun _ _ _ h => h) (Or.inl ⟨by rfl, ?_⟩) hHeld ?_
        rotate_left
        · intro w hSw
          try dsimp only at hSw
          first | (go_simp; done) | (go_simp; with_reducible rfl)
        try simp only [Act.put, List.getElem_toArray, List.getElem_cons_zero, List.getElem_cons_succ, List.setIfInBounds_toArray, List.set_cons_zero, List.set_cons_succ]
        refine wpAnyH_take (i := 20) (v := ?_) rfl (by kernel_rfl) (by kernel_rfl) (by kernel_rfl) (fun _ _ _ h => h) (Or.inl ⟨by rfl, ?_⟩) hHeld ?_
        rotate_left
        · intro w hSw
          try dsimp only at hSw
          first | (go_simp; done) | (go_simp; with_reducible rfl)
        try simp only [Act.put, List.getElem_toArray, List.getElem_cons_zero, List.getElem_cons_succ, List.setIfInBounds_toArray, List.set_cons_zero, List.set_cons_succ]
        refine wpAnyH_take (i := 21) (v := ?_) rfl (by kernel_rfl) (by kernel_rfl) (by kernel_rfl) (fun _ _ _ h => h) (Or.inl ⟨by rfl, ?_⟩) hHeld ?_
        rotate_left
        · intro w hSw
          try dsimp only at hSw
          first | (go_simp; done) | (go_simp; with_reducible rfl)
        try simp only [Act.put, List.getElem_toArray, List.getElem_cons_zero, List.getElem_cons_succ, List.setIfInBounds_toArray, List.set_cons_zero, List.set_cons_succ]
        refine wpAnyH_take (i := 22) (v := ?_) rfl (by kernel_rfl) (by kernel_rfl) (by kernel_rfl) (fun _ _ _ h => h) (Or.inl ⟨by rfl, ?_⟩) hHeld ?_
        rotate_left
        · intro w hSw
          try dsimp only at hSw
          first | (go_simp; done) | (go_simp; with_reducible rfl)
        try simp only [Act.put, List.getElem_toArray, List.getElem_cons_zero, List.getElem_cons_succ, List.setIfInBounds_toArray, List.set_cons_zero, List.set_cons_succ]
        refine wpAnyH_ready (rs := [23]) (by kernel_rfl) (by simp) ?_
        refine AllReadyH.cons rfl (fun K hK => ?_) AllReadyH.nil
        go_simp
        go_at_call 17
        refine HC.out.mono ?_
        rintro e w4 ⟨rfl, hb4⟩
        refine hK.out _ _ ?_ (fun hHeld2 => ?_)
        · (go_split_ands; exact ⟨cell_on hb4 (by assumption), cell_on hb4 (by assumption), cell_on hb4 (by assumption), cell_on hb4 (by assumption), cell_on hb4 (by assumption), cell_on hb4 (by assumption), cell_on hb4 (by assumption), cell_on hb4 (by assumption), cell_on hb4 (by assumption), cell_on hb4 (by assumption), cell_on hb4 (by assumption), cell_on hb4 (by assumption), cell_on hb4 (by assumption), cell_on hb4 (by assumption), cell_on hb4 (by assumption), cell_on hb4 (by assumption), cell_on hb4 (by assumption), cell_on hb4 (by assumption), cell_on hb4 (by assumption), cell_on hb4 (by assumption), Below.trans (by assumption) (hb4.mono (Below.size (by assumption)))⟩)
        clear hHeld hK K
        have hHeld := hHeld2
        clear hHeld2
        try simp only [Act.put, List.getElem_toArray, List.getElem_cons_zero, List.getElem_cons_succ, List.setIfInBounds_toArray, List.set_cons_zero, List.set_cons_succ]
        refine wpAnyH_take (i := 24) (v := ?_) rfl (by kernel_rfl) (by kernel_rfl) (by kernel_rfl) (fun _ _ _ h => h) (Or.inl ⟨by rfl, ?_⟩) hHeld ?_
        rotate_left
        · intro w hSw
          try dsimp only at hSw
          first | (go_simp; done) | (go_simp; with_reducible rfl)
        try simp only [Act.put, List.getElem_toArray, List.getElem_cons_zero, List.getElem_cons_succ, List.setIfInBounds_toArray, List.set_cons_zero, List.set_cons_succ]
        refine wpAnyH_take (i := 25) (v := ?_) rfl (by kernel_rfl) (by kernel_rfl) (by kernel_rfl) (fun _ _ _ h => h) (Or.inl ⟨by rfl, ?_⟩) hHeld ?_
        rotate_left
        · intro w hSw
          try dsimp only at hSw
          first | (go_simp; done) | (go_simp; with_reducible rfl)
        try simp only [Act.put, List.getElem_toArray, List.getElem_cons_zero, List.getElem_cons_succ, List.setIfInBounds_toArray, List.set_cons_zero, List.set_cons_succ]
        refine wpAnyH_take (i := 26) (v := ?_) rfl (by kernel_rfl) (by kernel_rfl) (by kernel_rfl) (fun _ _ _ h => h) (Or.inl ⟨by rfl, ?_⟩) hHeld ?_
        rotate_left
        · intro w hSw
          try dsimp only at hSw
          first | (go_simp; done) | (go_simp; with_reducible rfl)
        try simp only [Act.put, List.getElem_toArray, List.getElem_cons_zero, List.getElem_cons_succ, List.setIfInBounds_toArray, List.set_cons_zero, List.set_cons_succ]
        refine wpAnyH_done (by kernel_rfl) ?_ _
        refine NoPanic.normal ?_
        go_wp2_with fail
        go_meet
        go_split_ands
        exact ⟨rfl, by assumption⟩
    case rest =>
      obtain ⟨rfl, hb4⟩ := hcut
      have hB4 : Below w.heap.size w wc := below_on hb4 hB3
      have hs4 := hb4.size
      have HBOX4 : Hid (Blk wc w2.heap.size 30 rr.cells.toArray) := HBOX.out.under hb4 hs3'
      have HO4 : Hid (wc.ownsRow w1.heap.size 28 5 (.slice a1 n1 c1) n1 xs1) := own_below HO3.out hb4
      clear hb4 hB3
      have HAG : Hid (∀ (j : Nat) (x : RV × Tree), ps[j]? = some x → j + 1 < T → x.1.again = true) := fun j x hx hj => by
        rw [HT.out] at hj
        exact tryN_again (ps.map (·.1)) 0 j x.1 (by simp [hx]) hj
      go_wp2_with fail
      go_loopw [8] (L1 w wc T) (fun i _ => T - (intOf i).toNat)
      case atStart => exact ⟨0, rfl, fun h => absurd h (by omega), Below.refl _ _, hB4⟩
      case round =>
        obtain ⟨j, rfl, hj, hb5, hB5⟩ := hrel
        have hs5 := hb5.size
        by_cases hlt : j + 1 < T
        · have hjn : j < n := by have := HNL.out; omega
          obtain ⟨g, o, x, xs, rfl, hSg, hx, ⟨rfl, hD'⟩, hxl, hr'⟩ := HROW.out.get hjn
          have hr2 : wr.rangeAt g (o + j * 10) x.1.cells := rangeAt_keep hr' fun q => hB5.cell (p := ⟨g, q, none⟩) hSg
          have hag := again_any x.1.err x.1.code x.1.pk x.1.pn x.1.has (.int .i64 x.1.k) (.int .i64 x.1.i) (.int .u64 x.1.b) (.string x.1.s) (.slice x.1.a x.1.n x.1.c) wr
          have hb : againB x.1.err x.1.code x.1.pk = true := HAG.out j x hx hlt
          rw [hb] at hag
          have HA := Lib.hid hag
          have d0 := hr2 0 _ rfl
          have d1 := hr2 1 _ rfl
          have d2 := hr2 2 _ rfl
          have d3 := hr2 3 _ rfl
          have d4 := hr2 4 _ rfl
          have d5 := hr2 5 _ rfl
          have d6 := hr2 6 _ rfl
          have d7 := hr2 7 _ rfl
          have d8 := hr2 8 _ rfl
          have d9 := hr2 9 _ rfl
          simp only [Nat.add_zero] at d0
          have hi0 : (j : Int) + 1 < (T : Int) := by omega
          have hi1 : (j : Int) < (n : Int) := by omega
          clear hag hb hr2 hr' hD' hxl hx
          go_wp2_with fail
          refine HA.out.mono ?_
          rintro e w6 ⟨rfl, hb6⟩
          have hb7 : Below wc.heap.size wc w6 := hb5.trans (hb6.mono hs5)
          have hB7 : Below w.heap.size w w6 := below_on hb6 hB5
          clear d0 d1 d2 d3 d4 d5 d6 d7 d8 d9 hb6
          go_wp2_with fail
          go_roundw
          case rel => exact ⟨j + 1, by go_num, fun _ => hlt, hb7, hB7⟩
          case measure => simp [intOf]; omega
        · have HB5 : Hid (Blk wr w2.heap.size 30 rr.cells.toArray) := HBOX4.out.under hb5 (by omega)
          have HO5 : Hid (wr.ownsRow w1.heap.size 28 5 (.slice a1 n1 c1) n1 xs1) := own_below HO4.out hb5
          have hnl2 : ¬ ((j : Int) + 1 < (T : Int)) := by omega
          have hc1 : n1 ≤ 9223372036854775807 := by
            rcases HO5.out.2 with ⟨_, h0⟩ | ⟨_, _, _, hv, _, _, h1, h2, _⟩
            · omega
            · unfold maxLen at h2; omega
          obtain ⟨wo, rfl⟩ : ∃ wo : World, wo = wr := ⟨_, rfl⟩
          go_wp2_with fail
          go_loopw [9] (L2 w w2.heap.size rr.cells.toArray n1 a1) (fun i _ => n1 - (intOf i).toNat)
          case atStart =>
            refine ⟨0, rfl, Nat.zero_le _, HB5.out, fun h => ?_, hB5⟩
            obtain ⟨g, cur, h1, h2, h3, h4⟩ := own_blk HO5.out h
            exact ⟨g, cur, h1, by omega, h3, h4⟩
          case round =>
            obtain ⟨q, rfl, hq, hbx, hrw, hB6⟩ := hrel
            have c9 := hbx.cell 9
            rw [HRR.out] at c9
            simp only [RV.cells, List.getElem?_toArray, List.getElem?_cons_succ, List.getElem?_cons_zero] at c9
            have HBX := Lib.hid hbx
            have HRW := Lib.hid hrw
            clear hbx hrw
            by_cases hq2 : q < n1
            · obtain ⟨g, cur, rfl, hg1, hg2, hg3⟩ := HRW.out (by omega)
              have hne : w2.heap.size ≠ g := fun e => by
                have h1 := HBX.out
                rw [e] at h1
                unfold Blk at h1 hg2
                rw [hg2] at h1
                injection h1 with h1
                injection h1 with _ h1
                exact absurd h1 (by decide)
              have hcell : wr.cell? ⟨g, q * 5, none⟩ = some (cur[q * 5]'(by omega)) := by rw [hg2.cell]; exact Array.getElem?_eq_getElem (by omega)
              have hfr := hg2.free (q * 5)
              have hB7 : Below w.heap.size w (wr.setCell ⟨g, q * 5, none⟩ (.int .i64 77)) := hB6.setCell hg1 _
              have HG2 : Hid (Blk (wr.setCell ⟨g, q * 5, none⟩ (.int .i64 77)) g 28 (cur.setIfInBounds (q * 5) (.int .i64 77))) := hg2.set _ _
              have HBX2 : Hid (Blk (wr.setCell ⟨g, q * 5, none⟩ (.int .i64 77)) w2.heap.size 30 rr.cells.toArray) := HBX.out.far (by simpa using hne) _
              have hi0 : (q : Int) < (n1 : Int) := by omega
              clear hg2
              go_wp2_with fail
              go_roundw
              case rel => exact ⟨q + 1, by go_num, by omega, HBX2.out, fun _ => ⟨g, _, rfl, hg1, HG2.out, by simpa using hg3⟩, hB7⟩
              case measure => simp [intOf]; omega
            · have hvl2 := validl_any ps a n c _ wr (rows_under HROW.out hB6 (fun _ h => h)) (fun x hx => Nat.lt_of_lt_of_le hx hB6.size)
              rw [HV.out] at hvl2
              have HVL2 := Lib.hid hvl2
              clear hvl2
              go_wp2_with fail
              refine HVL2.out.mono ?_
              rintro e w7 ⟨rfl, hb7⟩
              have hB7 := below_on hb7 hB6
              clear hb7
              go_wp2_with fail
              refine (awake_any _).mono ?_
              rintro e w8 ⟨rfl, hb8⟩
              have hB8 := below_on hb8 hB7
              clear hb8
              go_wp2_with fail
              go_ret
              exact ⟨rfl, hB8⟩
end Go.Proofs.Ytmdcfmdjbncaoaa
