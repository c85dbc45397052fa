/- The walk of ShownThrough. -/
import Derived.Test.YtlnlefebcfnocaaYy
import Derived.Deep.RegionHeld3
import Derived.IntWalk
namespace Go.Proofs.Ytlnlefebcfnocaa
open Go.RowKit Go.Deep
attribute [local go_sem] Go.undef

theorem wraps_tail {w : World} {S : Nat → Prop} {ws : List (WX × Value)} {a ax : Option Addr} {n d k : Nat} (h : Wraps w S ws a n d) (hk : k ≤ n) (hax : (if d = k then a else Option.map (fun x => x.add (k * 8)) a) = ax) : Wraps w S (ws.drop k) ax (n - k) (d - k) := by
  have h' := h
  obtain ⟨h1, h2, h3, h4⟩ := h
  by_cases h0 : n = k
  · refine ⟨by rw [List.length_drop]; omega, by omega, by omega, fun hp => absurd hp (by omega)⟩
  · obtain ⟨g, o, ha, -, -⟩ := h4 (by omega)
    subst ha
    rw [if_neg (by omega)] at hax
    have e : ax = some ⟨g, o + k * 8, none⟩ := by rw [← hax]; simp [Addr.add_mid]
    rw [e]
    exact h'.drop hk
/-- The two chains' boxes. -/
def TM (w : World) (D : Nat) (op num : Int) (c : Nat) (s v : Value) (W : World) : Prop :=
  Blk W w.heap.size 28 #[.int .i64 op, .int .i64 num, .int .u32 (c : Int), s] ∧ Blk W D 28 #[.int .i64 op, .int .i64 num, .int .u32 (c : Int), v] ∧ Below w.heap.size w W
section
variable {w W W' : World} {D : Nat} {op num : Int} {c : Nat} {s v : Value}
theorem TM.on (h : TM w D op num c s v W) (hb : Below W.heap.size W W') : TM w D op num c s v W' := ⟨h.1.under hb h.1.lt, h.2.1.under hb h.2.1.lt, below_on hb h.2.2⟩
theorem TM.drew (h : TM w D op num c s v W) : TM w D op num c s v W.drew := ⟨h.1.drew, h.2.1.drew, h.2.2.drew⟩
theorem TM.cells (h : TM w D op num c s v W) : W.cell? ⟨w.heap.size, 0, none⟩ = some (.int .i64 op) ∧ W.cell? ⟨w.heap.size, 1, none⟩ = some (.int .i64 num) ∧ W.cell? ⟨w.heap.size, 2, none⟩ = some (.int .u32 (c : Int)) ∧ W.cell? ⟨w.heap.size, 3, none⟩ = some s ∧
    W.cell? ⟨D, 0, none⟩ = some (.int .i64 op) ∧ W.cell? ⟨D, 1, none⟩ = some (.int .i64 num) ∧ W.cell? ⟨D, 2, none⟩ = some (.int .u32 (c : Int)) ∧ W.cell? ⟨D, 3, none⟩ = some v :=
  ⟨h.1.cell 0, h.1.cell 1, h.1.cell 2, h.1.cell 3, h.2.1.cell 0, h.2.1.cell 1, h.2.1.cell 2, h.2.1.cell 3⟩
end

set_option maxRecDepth 100000 in
set_option maxHeartbeats 32000000 in
theorem through_go (w : World) (op num : Int) (c : Nat) (at0 : Int) (ws : List (WX × Value)) (a : Option Addr) (n d : Nat) (hr : Wraps w (· < w.heap.size) ws a n d) (hc : c < 4294967296) :
    Calls Try.prog 6 #[.agg #[.int .i64 op, .int .i64 num, .int .u32 (c : Int), .slice a n d], .int .i64 at0] w fun e w' => e = .returned (.bool true) ∧ Below w.heap.size w w' := by
  obtain ⟨i0, hi0, hz0, hz1, hz2⟩ := info_parts infoWr
  have hu := fun W (hW : Below w.heap.size w W) => hr.under hW (fun _ h => h)
  have hw := fun W (hW : Below w.heap.size w W) b (hb : b < w.heap.size) => Nat.lt_of_lt_of_le hb hW.size
  have hch := fun W (hW : Below w.heap.size w W) => chain_any W _ op num c ws a n d (hu W hW) (hw W hW) hc
  obtain rfl : n = ws.length := hr.1
  have HCH := Lib.hid hch
  have HR := Lib.hid hr
  have hcl : d ≤ maxLen := hr.2.2.1
  have hlc : ws.length ≤ d := hr.2.1
  unfold maxLen at hcl
  clear hu hw hch hr
  go_enter Try.func6, Try.ntmps6
  simp only [Go.undef]
  go_wp2_with fail
  refine (HCH.out _ (by go_grown)).mono ?_
  rintro e w1 ⟨⟨b, rfl, hf⟩, hb1⟩
  have HB1 : Hid (Blk w1 w.heap.size 28 #[.int .i64 op, .int .i64 num, .int .u32 (c : Int), .slice a ws.length d]) := (Blk.new' _ _ _ (by simp)).under hb1 (by simp)
  have hbW : Below w.heap.size w w1 := below_on hb1 (by go_grown)
  have x0 := HB1.out.cell 0
  have x1 := HB1.out.cell 1
  have x2 := HB1.out.cell 2
  have x3 := HB1.out.cell 3
  simp only [List.getElem?_toArray, List.getElem?_cons_succ, List.getElem?_cons_zero] at x0 x1 x2 x3
  clear hb1
  cases b
  · go_wp2_with fail
    refine (awake_any _).mono ?_
    rintro e w2 ⟨rfl, hb2⟩
    have hB2 := below_on hb2 hbW
    go_wp2_with fail
    go_ret
    exact ⟨rfl, hB2⟩
  have HF := Lib.hid (hf rfl)
  clear hf
  have h8 : ws.length ≤ 8 := HF.out.2.1
  by_cases h7 : 8 ≤ ws.length
  · go_wp2_with fail
    refine (awake_any _).mono ?_
    rintro e w2 ⟨rfl, hb2⟩
    have hB2 := below_on hb2 hbW
    go_wp2_with fail
    go_ret
    exact ⟨rfl, hB2⟩
  obtain ⟨k, hk, hq⟩ : ∃ k : Nat, k ≤ ws.length ∧ (IntKind.u64.wrap at0).tmod ((ws.length : Int) + 1) = (k : Int) := by
    have h0 : 0 ≤ IntKind.u64.wrap at0 := by rw [IntKind.wrap_u64]; omega
    rw [Int.tmod_eq_emod_of_nonneg h0]
    have h1 := Int.emod_nonneg (IntKind.u64.wrap at0) (b := (ws.length : Int) + 1) (by omega)
    have h2 := Int.emod_lt_of_pos (IntKind.u64.wrap at0) (b := (ws.length : Int) + 1) (by omega)
    exact ⟨(IntKind.u64.wrap at0 % ((ws.length : Int) + 1)).toNat, by omega, by omega⟩
  have hkd : k ≤ d := by omega
  go_upto_region 3 with fail
  go_upto_region 5 with fail
  clear hq
  have hA0 : AW w w1.heap.size op num c (.slice a ws.length d) [] (.slice none 0 0) 0 (w1.alloc (.cells #[.int .i64 op, .int .i64 num, .int .u32 (c : Int), .slice none 0 0] 28)) :=
    ⟨HB1.out.lt, HB1.out.alloc _, Blk.new _ _ _, World.ownsRow_nil _ _ _ _, hbW.alloc hbW.size _⟩
  generalize (w1.alloc (.cells #[.int .i64 op, .int .i64 num, .int .u32 (c : Int), .slice none 0 0] 28)) = W0 at hA0 ⊢
  clear x0 x1 x2 x3 hbW HB1
  generalize w1.heap.size = D at hA0 ⊢
  have HA0 := Lib.hid hA0
  have x3 := HA0.out.2.1.cell 3
  have y3 := HA0.out.2.2.1.cell 3
  simp only [List.getElem?_toArray, List.getElem?_cons_succ, List.getElem?_cons_zero] at x3 y3
  have hDl := HA0.out.lt
  have hPD := HA0.out.1
  clear hA0
  have HT := Lib.hid (HR.out.take hk)
  go_still_tail 6, (by kernel_rfl)
  change wpList _ _ _ _ _ W0.drew
  have hA1 := HA0.out.drew
  generalize W0.drew = W1 at hA1 ⊢
  have HA1 := Lib.hid hA1
  have hs1 := HA1.out.lt
  clear hA1 x3 y3
  go_wp2_with (at_builtin; refine wpList_append_any _ rfl _ _ 26 rfl (D + 1) 37 i0 _ 8 80 Try.underlying26 hi0 hz0 hz1 hz2 rfl (by omega) _ 0 _ rfl HA1.out.2.2.2.1 a k d (wcss (ws.take k)).flatten rfl ?ca0 ?ca1 ?ca2 ?ca3 ?ca4 ?ca5 ?ca6 ?_)
  case ca0 => exact rows_some HT.out
  case ca1 => rw [flatten_len (wcss_len _), wcss, List.length_map, List.length_take]; congr 1; omega
  case ca2 => exact wraps_news (HT.out.under HA1.out.2.2.2.2 (fun _ h => h))
  case ca3 => exact wcss_one HT.out
  case ca4 => unfold maxLen; omega
  case ca5 => omega
  case ca6 => omega
  intro v4 w4 hown4 hgr4
  obtain ⟨a4, c4, rfl⟩ := own_len hown4
  have hown4' : w4.ownsRow (D + 1) 37 8 (.slice a4 k c4) k (wcss (ws.take k)).flatten := by simpa [wcss] using hown4
  have hA2 := HA1.out.step hgr4 hown4'
  have z4 := (HA1.out.grown hgr4).2.1
  have y3 := z4.cell 3
  have f3 := z4.free 3
  simp only [List.getElem?_toArray, List.getElem?_cons_succ, List.getElem?_cons_zero] at y3
  clear z4 hown4 hown4' hgr4
  go_wp2_with fail
  generalize (w4.setCell ⟨D, 3, none⟩ (.slice a4 k c4)) = W2 at hA2 ⊢
  have HA2 := Lib.hid hA2
  clear hA2 y3 f3
  have x3 := HA2.out.2.1.cell 3
  have y3 := HA2.out.2.2.1.cell 3
  simp only [List.getElem?_toArray, List.getElem?_cons_succ, List.getElem?_cons_zero] at x3 y3
  have hA3 := HA2.out.drew
  have HA3 : Hid (AW w D op num c (.slice a ws.length d) (ws.take k) (.slice a4 k c4) k W2.drew) := hA3
  have hs2 := HA2.out.lt
  clear hA3
  go_cut [57] from 42 to 58 (fun s57 wx => ∃ a6 c6, AW w D op num c (.slice a ws.length d) (ws.take k ++ [thrW (opnAt ws k)]) (.slice a6 (k + 1) c6) (k + 1) wx)
  case first =>
    cases k with
    | zero =>
      have HOB := Lib.hid (opn_zero (ws := ws))
      rw [show ((0 : Nat) : Int) = 0 from rfl]
      refine wp_region_held_drew (S := (fun w' => w'.cell? ⟨w.heap.size, 3, none⟩ = some (.slice a ws.length d))) (by kernel_rfl) ?_ (fun hHeld => ?_)
      · exact (Blk.cell (HA3.out.2.1) 3)
      refine wpAnyH_take (i := 0) (v := ?_) rfl (by kernel_rfl) (by kernel_rfl) (by kernel_rfl) (fun _ _ _ h => h) (Or.inl ⟨by rfl, ?_⟩) hHeld ?_
      rotate_left
      · intro w hSw
        try dsimp only at hSw
        first | (go_simp; done) | (go_simp; with_reducible rfl)
      try simp only [Act.put, List.getElem_toArray, List.getElem_cons_zero, List.setIfInBounds_toArray, List.set_cons_zero, List.set_cons_succ]
      refine wpAnyH_take (i := 2) (v := ?_) rfl (by kernel_rfl) (by kernel_rfl) (by kernel_rfl) (fun _ _ _ h => h) (Or.inl ⟨by rfl, ?_⟩) hHeld ?_
      rotate_left
      · intro w hSw
        try dsimp only at hSw
        first | (go_simp; done) | (go_simp; with_reducible rfl)
      try simp only [Act.put, List.getElem_toArray, List.getElem_cons_zero, List.getElem_cons_succ, List.setIfInBounds_toArray, List.set_cons_zero, List.set_cons_succ]
      refine wpAnyH_take (i := 3) (v := ?_) rfl (by kernel_rfl) (by kernel_rfl) (by kernel_rfl) (fun _ _ _ h => h) (Or.inl ⟨by rfl, ?_⟩) hHeld ?_
      rotate_left
      · intro w hSw
        try dsimp only at hSw
        first | (go_simp; done) | (go_simp; with_reducible rfl)
      try simp only [Act.put, List.getElem_toArray, List.getElem_cons_zero, List.getElem_cons_succ, List.setIfInBounds_toArray, List.set_cons_zero, List.set_cons_succ]
      refine wpAnyH_take (i := 4) (v := ?_) rfl (by kernel_rfl) (by kernel_rfl) (by kernel_rfl) (fun _ _ _ h => h) (Or.inl ⟨by rfl, ?_⟩) hHeld ?_
      rotate_left
      · intro w hSw
        try dsimp only at hSw
        first | (go_simp; done) | (go_simp; with_reducible rfl)
      try simp only [Act.put, List.getElem_toArray, List.getElem_cons_zero, List.getElem_cons_succ, List.setIfInBounds_toArray, List.set_cons_zero, List.set_cons_succ]
      refine wpAnyH_take (i := 5) (v := Go.undef) rfl (by kernel_rfl) (by kernel_rfl) (by kernel_rfl) (fun _ _ _ h => h) (Or.inr ⟨by rfl, rfl⟩) hHeld ?_
      try simp only [Act.put, List.getElem_toArray, List.getElem_cons_zero, List.getElem_cons_succ, List.setIfInBounds_toArray, List.set_cons_zero, List.set_cons_succ]
      refine wpAnyH_take (i := 6) (v := Go.undef) rfl (by kernel_rfl) (by kernel_rfl) (by kernel_rfl) (fun _ _ _ h => h) (Or.inr ⟨by rfl, rfl⟩) hHeld ?_
      try simp only [Act.put, List.getElem_toArray, List.getElem_cons_zero, List.getElem_cons_succ, List.setIfInBounds_toArray, List.set_cons_zero, List.set_cons_succ]
      refine wpAnyH_take (i := 7) (v := Go.undef) rfl (by kernel_rfl) (by kernel_rfl) (by kernel_rfl) (fun _ _ _ h => h) (Or.inr ⟨by rfl, rfl⟩) hHeld ?_
      try simp only [Act.put, List.getElem_toArray, List.getElem_cons_zero, List.getElem_cons_succ, List.setIfInBounds_toArray, List.set_cons_zero, List.set_cons_succ]
      refine wpAnyH_take (i := 8) (v := Go.undef) rfl (by kernel_rfl) (by kernel_rfl) (by kernel_rfl) (fun _ _ _ h => h) (Or.inr ⟨by rfl, rfl⟩) hHeld ?_
      try simp only [Act.put, List.getElem_toArray, List.getElem_cons_zero, List.getElem_cons_succ, List.setIfInBounds_toArray, List.set_cons_zero, List.set_cons_succ]
      refine wpAnyH_take (i := 9) (v := Go.undef) rfl (by kernel_rfl) (by kernel_rfl) (by kernel_rfl) (fun _ _ _ h => h) (Or.inr ⟨by rfl, rfl⟩) hHeld ?_
      try simp only [Act.put, List.getElem_toArray, List.getElem_cons_zero, List.getElem_cons_succ, List.setIfInBounds_toArray, List.set_cons_zero, List.set_cons_succ]
      refine wpAnyH_take (i := 10) (v := Go.undef) rfl (by kernel_rfl) (by kernel_rfl) (by kernel_rfl) (fun _ _ _ h => h) (Or.inr ⟨by rfl, rfl⟩) hHeld ?_
      try simp only [Act.put, List.getElem_toArray, List.getElem_cons_zero, List.getElem_cons_succ, List.setIfInBounds_toArray, List.set_cons_zero, List.set_cons_succ]
      refine wpAnyH_take (i := 11) (v := Go.undef) rfl (by kernel_rfl) (by kernel_rfl) (by kernel_rfl) (fun _ _ _ h => h) (Or.inr ⟨by rfl, rfl⟩) hHeld ?_
      try simp only [Act.put, List.getElem_toArray, List.getElem_cons_zero, List.getElem_cons_succ, List.setIfInBounds_toArray, List.set_cons_zero, List.set_cons_succ]
      refine wpAnyH_take (i := 12) (v := ?_) rfl (by kernel_rfl) (by kernel_rfl) (by kernel_rfl) (fun _ _ _ h => h) (Or.inl ⟨by rfl, ?_⟩) hHeld ?_
      rotate_left
      · intro w hSw
        try dsimp only at hSw
        first | (go_simp; done) | (go_simp; with_reducible rfl)
      try simp only [Act.put, List.getElem_toArray, List.getElem_cons_zero, List.getElem_cons_succ, List.setIfInBounds_toArray, List.set_cons_zero, List.set_cons_succ]
      refine wpAnyH_take (i := 13) (v := ?_) rfl (by kernel_rfl) (by kernel_rfl) (by kernel_rfl) (fun _ _ _ h => h) (Or.inl ⟨by rfl, ?_⟩) hHeld ?_
      rotate_left
      · intro w hSw
        try dsimp only at hSw
        first | (go_simp; done) | (go_simp; with_reducible rfl)
      try simp only [Act.put, List.getElem_toArray, List.getElem_cons_zero, List.getElem_cons_succ, List.setIfInBounds_toArray, List.set_cons_zero, List.set_cons_succ]
      refine wpAnyH_ready (rs := [1, 14]) (by kernel_rfl) (by simp) ?_
      refine AllReadyH.cons rfl (fun K hK => ?_) (AllReadyH.cons rfl (fun K hK => ?_) AllReadyH.nil)
      · go_simp
        refine hK.out _ _ (Blk.cell (HA3.out.2.1) 3) (fun hHeld2 => ?_)
        clear hHeld hK K
        have hHeld := hHeld2
        clear hHeld2
        try simp only [Act.put, List.getElem_toArray, List.getElem_cons_zero, List.getElem_cons_succ, List.setIfInBounds_toArray, List.set_cons_zero, List.set_cons_succ]
        refine wpAnyH_ready (rs := [14]) (by kernel_rfl) (by simp) ?_
        refine AllReadyH.cons rfl (fun K hK => ?_) AllReadyH.nil
        go_simp
        refine hK.out _ _ (Blk.cell ((HA3.out.alloc (.cells ((thrW false).1.cells (thrW false).2).toArray 37)).2.1) 3) (fun hHeld2 => ?_)
        clear hHeld hK K
        have hHeld := hHeld2
        clear hHeld2
        try simp only [Act.put, List.getElem_toArray, List.getElem_cons_zero, List.getElem_cons_succ, List.setIfInBounds_toArray, List.set_cons_zero, List.set_cons_succ]
        refine wpAnyH_ready (rs := [15]) (by kernel_rfl) (by simp) ?_
        refine AllReadyH.cons rfl (fun K hK => ?_) AllReadyH.nil
        refine step_append_any _ (by rfl) _ _ 26 (by rfl) (D + 1) 37 i0 _ 8 80 Try.underlying26 hi0 hz0 hz1 hz2 rfl (by omega) _ 0 _ (by rfl) (HA3.out.2.2.2.1.alloc _) (some ⟨W2.heap.size, 0, none⟩) 1 1 ((thrW false).1.cells (thrW false).2) (by rfl) (by intro _; rfl) (by rfl) (thr_news _ _) (thr_one _) (by unfold maxLen; omega) (by omega) (by simp; omega) ?_
        intro v6 w6 hown6 hgr6
        obtain ⟨a6, c6, rfl⟩ := own_len hown6
        have hown6' : w6.ownsRow (D + 1) 37 8 (.slice a6 (0 + 1) c6) (0 + 1) (wcss (ws.take 0 ++ [thrW false])).flatten := by rw [wcss_snoc]; exact hown6
        have HA4 := Lib.hid ((HA3.out.alloc (.cells ((thrW false).1.cells (thrW false).2).toArray 37)).step hgr6 hown6')
        have z6 := (HA3.out.alloc (.cells ((thrW false).1.cells (thrW false).2).toArray 37)).grown hgr6
        have u3 : w6.cell? ⟨D, 3, none⟩ = some (.slice a4 0 c4) := z6.2.1.cell 3
        have f3 := z6.2.1.free 3
        have Z6 := Lib.hid z6
        clear hown6 hown6' hgr6 z6
        refine hK.out _ _ (Blk.cell (Z6.out.1) 3) (fun hHeld2 => ?_)
        clear hHeld hK K
        have hHeld := hHeld2
        clear hHeld2
        try simp only [Act.put, List.getElem_toArray, List.getElem_cons_zero, List.getElem_cons_succ, List.setIfInBounds_toArray, List.set_cons_zero, List.set_cons_succ]
        refine wpAnyH_take (i := 16) (v := ?_) rfl (by kernel_rfl) (by kernel_rfl) (by kernel_rfl) (fun _ _ _ h => h) (Or.inl ⟨by rfl, ?_⟩) hHeld ?_
        rotate_left
        · intro w hSw
          try dsimp only at hSw
          first | (go_simp; done) | (go_simp; with_reducible rfl)
        try simp only [Act.put, List.getElem_toArray, List.getElem_cons_zero, List.getElem_cons_succ, List.setIfInBounds_toArray, List.set_cons_zero, List.set_cons_succ]
        refine wpAnyH_ready (rs := [17]) (by kernel_rfl) (by simp) ?_
        refine AllReadyH.cons rfl (fun K hK => ?_) AllReadyH.nil
        go_simp
        refine hK.out _ _ (Blk.cell (HA4.out.2.1) 3) (fun hHeld2 => ?_)
        clear hHeld hK K
        have hHeld := hHeld2
        clear hHeld2
        try simp only [Act.put, List.getElem_toArray, List.getElem_cons_zero, List.getElem_cons_succ, List.setIfInBounds_toArray, List.set_cons_zero, List.set_cons_succ]
        refine wpAnyH_done (by kernel_rfl) ?_ _
        clear hHeld u3 f3
        go_wp2_with fail
        go_meet
        exact ⟨a6, c6, by rw [HOB.out]; exact HA4.out⟩
      · go_simp
        refine hK.out _ _ (Blk.cell ((HA3.out.alloc (.cells ((thrW false).1.cells (thrW false).2).toArray 37)).2.1) 3) (fun hHeld2 => ?_)
        clear hHeld hK K
        have hHeld := hHeld2
        clear hHeld2
        try simp only [Act.put, List.getElem_toArray, List.getElem_cons_zero, List.getElem_cons_succ, List.setIfInBounds_toArray, List.set_cons_zero, List.set_cons_succ]
        refine wpAnyH_ready (rs := [1]) (by kernel_rfl) (by simp) ?_
        refine AllReadyH.cons rfl (fun K hK => ?_) AllReadyH.nil
        go_simp
        refine hK.out _ _ (Blk.cell ((HA3.out.alloc (.cells ((thrW false).1.cells (thrW false).2).toArray 37)).2.1) 3) (fun hHeld2 => ?_)
        clear hHeld hK K
        have hHeld := hHeld2
        clear hHeld2
        try simp only [Act.put, List.getElem_toArray, List.getElem_cons_zero, List.getElem_cons_succ, List.setIfInBounds_toArray, List.set_cons_zero, List.set_cons_succ]
        refine wpAnyH_ready (rs := [15]) (by kernel_rfl) (by simp) ?_
        refine AllReadyH.cons rfl (fun K hK => ?_) AllReadyH.nil
        refine step_append_any _ (by rfl) _ _ 26 (by rfl) (D + 1) 37 i0 _ 8 80 Try.underlying26 hi0 hz0 hz1 hz2 rfl (by omega) _ 0 _ (by rfl) (HA3.out.2.2.2.1.alloc _) (some ⟨W2.heap.size, 0, none⟩) 1 1 ((thrW false).1.cells (thrW false).2) (by rfl) (by intro _; rfl) (by rfl) (thr_news _ _) (thr_one _) (by unfold maxLen; omega) (by omega) (by simp; omega) ?_
        intro v6 w6 hown6 hgr6
        obtain ⟨a6, c6, rfl⟩ := own_len hown6
        have hown6' : w6.ownsRow (D + 1) 37 8 (.slice a6 (0 + 1) c6) (0 + 1) (wcss (ws.take 0 ++ [thrW false])).flatten := by rw [wcss_snoc]; exact hown6
        have HA4 := Lib.hid ((HA3.out.alloc (.cells ((thrW false).1.cells (thrW false).2).toArray 37)).step hgr6 hown6')
        have z6 := (HA3.out.alloc (.cells ((thrW false).1.cells (thrW false).2).toArray 37)).grown hgr6
        have u3 : w6.cell? ⟨D, 3, none⟩ = some (.slice a4 0 c4) := z6.2.1.cell 3
        have f3 := z6.2.1.free 3
        have Z6 := Lib.hid z6
        clear hown6 hown6' hgr6 z6
        refine hK.out _ _ (Blk.cell (Z6.out.1) 3) (fun hHeld2 => ?_)
        clear hHeld hK K
        have hHeld := hHeld2
        clear hHeld2
        try simp only [Act.put, List.getElem_toArray, List.getElem_cons_zero, List.getElem_cons_succ, List.setIfInBounds_toArray, List.set_cons_zero, List.set_cons_succ]
        refine wpAnyH_take (i := 16) (v := ?_) rfl (by kernel_rfl) (by kernel_rfl) (by kernel_rfl) (fun _ _ _ h => h) (Or.inl ⟨by rfl, ?_⟩) hHeld ?_
        rotate_left
        · intro w hSw
          try dsimp only at hSw
          first | (go_simp; done) | (go_simp; with_reducible rfl)
        try simp only [Act.put, List.getElem_toArray, List.getElem_cons_zero, List.getElem_cons_succ, List.setIfInBounds_toArray, List.set_cons_zero, List.set_cons_succ]
        refine wpAnyH_ready (rs := [17]) (by kernel_rfl) (by simp) ?_
        refine AllReadyH.cons rfl (fun K hK => ?_) AllReadyH.nil
        go_simp
        refine hK.out _ _ (Blk.cell (HA4.out.2.1) 3) (fun hHeld2 => ?_)
        clear hHeld hK K
        have hHeld := hHeld2
        clear hHeld2
        try simp only [Act.put, List.getElem_toArray, List.getElem_cons_zero, List.getElem_cons_succ, List.setIfInBounds_toArray, List.set_cons_zero, List.set_cons_succ]
        refine wpAnyH_done (by kernel_rfl) ?_ _
        clear hHeld u3 f3
        go_wp2_with fail
        go_meet
        exact ⟨a6, c6, by rw [HOB.out]; exact HA4.out⟩
    | succ m =>
      obtain ⟨gr, o, p, cs, rfl, hSg, hp, he, hl, hat⟩ := RowsOf.get HR.out (j := m) (by omega)
      have hob := opn_succ hp
      obtain ⟨rfl, hw, hcap⟩ := he
      have hat' : W2.rangeAt gr (o + m * 8) _ := rangeAt_keep hat fun y => HA2.out.2.2.2.2.cell (p := ⟨gr, y, none⟩) hSg
      have d7 := hat 7 _ rfl
      generalize p.1.opn = ob at d7 hob
      have HOB := Lib.hid hob
      have hj0 : (0 : Int) ≤ (m : Int) := by omega
      have hj1 : (m : Int) < (ws.length : Int) := by omega
      clear hat hat' hw hcap hp hl hob
      rw [show ((m + 1 : Nat) : Int) = (m : Int) + 1 from rfl]
      have hj2 : (0 : Int) < (m : Int) + 1 := by omega
      have hwm : IntKind.i64.wrap (m : Int) = (m : Int) := IntWalk.i64_in _ (by omega)
      refine wp_region_held_drew (S := (fun w' => w'.cell? ⟨w.heap.size, 3, none⟩ = some (.slice (some ⟨gr, o, none⟩) ws.length d) ∧ w'.cell? ⟨gr, o + m * 8 + 7, none⟩ = some (.bool ob))) (by kernel_rfl) ?_ (fun hHeld => ?_)
      · exact ⟨Blk.cell (HA3.out.2.1) 3, (Below.cell (HA3.out.2.2.2.2) (p := ⟨gr, o + m * 8 + 7, none⟩) hSg).trans d7⟩
      refine wpAnyH_take (i := 0) (v := ?_) rfl (by kernel_rfl) (by kernel_rfl) (by kernel_rfl) (fun _ _ _ h => h) (Or.inl ⟨by rfl, ?_⟩) hHeld ?_
      rotate_left
      · intro w hSw
        try dsimp only at hSw
        first | (go_simp; done) | (go_simp; with_reducible rfl)
      try simp only [Act.put, List.getElem_toArray, List.getElem_cons_zero, List.setIfInBounds_toArray, List.set_cons_zero, List.set_cons_succ]
      refine wpAnyH_take (i := 2) (v := ?_) rfl (by kernel_rfl) (by kernel_rfl) (by kernel_rfl) (fun _ _ _ h => h) (Or.inl ⟨by rfl, ?_⟩) hHeld ?_
      rotate_left
      · intro w hSw
        try dsimp only at hSw
        first | (go_simp; done) | (go_simp; with_reducible rfl)
      try simp only [Act.put, List.getElem_toArray, List.getElem_cons_zero, List.getElem_cons_succ, List.setIfInBounds_toArray, List.set_cons_zero, List.set_cons_succ]
      refine wpAnyH_take (i := 3) (v := ?_) rfl (by kernel_rfl) (by kernel_rfl) (by kernel_rfl) (fun _ _ _ h => h) (Or.inl ⟨by rfl, ?_⟩) hHeld ?_
      rotate_left
      · intro w hSw
        try dsimp only at hSw
        first | (go_simp; done) | (go_simp; with_reducible rfl)
      try simp only [Act.put, List.getElem_toArray, List.getElem_cons_zero, List.getElem_cons_succ, List.setIfInBounds_toArray, List.set_cons_zero, List.set_cons_succ]
      refine wpAnyH_take (i := 4) (v := ?_) rfl (by kernel_rfl) (by kernel_rfl) (by kernel_rfl) (fun _ _ _ h => h) (Or.inl ⟨by rfl, ?_⟩) hHeld ?_
      rotate_left
      · intro w hSw
        try dsimp only at hSw
        first | (go_simp; done) | (go_simp; with_reducible rfl)
      try simp only [Act.put, List.getElem_toArray, List.getElem_cons_zero, List.getElem_cons_succ, List.setIfInBounds_toArray, List.set_cons_zero, List.set_cons_succ]
      refine wpAnyH_take (i := 5) (v := ?_) rfl (by kernel_rfl) (by kernel_rfl) (by kernel_rfl) (fun _ _ _ h => h) (Or.inl ⟨by rfl, ?_⟩) hHeld ?_
      rotate_left
      · intro w hSw
        try dsimp only at hSw
        first | (go_simp; done) | (go_simp; with_reducible rfl)
      try simp only [Act.put, List.getElem_toArray, List.getElem_cons_zero, List.getElem_cons_succ, List.setIfInBounds_toArray, List.set_cons_zero, List.set_cons_succ]
      refine wpAnyH_take (i := 6) (v := ?_) rfl (by kernel_rfl) (by kernel_rfl) (by kernel_rfl) (fun _ _ _ h => h) (Or.inl ⟨by rfl, ?_⟩) hHeld ?_
      rotate_left
      · intro w hSw
        try dsimp only at hSw
        first | (go_simp; done) | (go_simp; with_reducible rfl)
      try simp only [Act.put, List.getElem_toArray, List.getElem_cons_zero, List.getElem_cons_succ, List.setIfInBounds_toArray, List.set_cons_zero, List.set_cons_succ]
      refine wpAnyH_take (i := 7) (v := ?_) rfl (by kernel_rfl) (by kernel_rfl) (by kernel_rfl) (fun _ _ _ h => h) (Or.inl ⟨by rfl, ?_⟩) hHeld ?_
      rotate_left
      · intro w hSw
        try dsimp only at hSw
        first | (go_simp; done) | (go_simp; with_reducible rfl)
      try simp only [Act.put, List.getElem_toArray, List.getElem_cons_zero, List.getElem_cons_succ, List.setIfInBounds_toArray, List.set_cons_zero, List.set_cons_succ]
      refine wpAnyH_take (i := 8) (v := ?_) rfl (by kernel_rfl) (by kernel_rfl) (by kernel_rfl) (fun _ _ _ h => h) (Or.inl ⟨by rfl, ?_⟩) hHeld ?_
      rotate_left
      · intro w hSw
        try dsimp only at hSw
        first | (go_simp; done) | (go_simp; with_reducible rfl)
      try simp only [Act.put, List.getElem_toArray, List.getElem_cons_zero, List.getElem_cons_succ, List.setIfInBounds_toArray, List.set_cons_zero, List.set_cons_succ]
      refine wpAnyH_take (i := 9) (v := ?_) rfl (by kernel_rfl) (by kernel_rfl) (by kernel_rfl) (fun _ _ _ h => h) (Or.inl ⟨by rfl, ?_⟩) hHeld ?_
      rotate_left
      · intro w hSw
        try dsimp only at hSw
        first | (go_simp; done) | (go_simp; with_reducible rfl)
      try simp only [Act.put, List.getElem_toArray, List.getElem_cons_zero, List.getElem_cons_succ, List.setIfInBounds_toArray, List.set_cons_zero, List.set_cons_succ]
      refine wpAnyH_take (i := 10) (v := ?_) rfl (by kernel_rfl) (by kernel_rfl) (by kernel_rfl) (fun _ _ _ h => h) (Or.inl ⟨by rfl, ?_⟩) hHeld ?_
      rotate_left
      · intro w hSw
        try dsimp only at hSw
        first | (go_simp; done) | (go_simp; with_reducible rfl)
      try simp only [Act.put, List.getElem_toArray, List.getElem_cons_zero, List.getElem_cons_succ, List.setIfInBounds_toArray, List.set_cons_zero, List.set_cons_succ]
      refine wpAnyH_take (i := 11) (v := ?_) rfl (by kernel_rfl) (by kernel_rfl) (by kernel_rfl) (fun _ _ _ h => h) (Or.inl ⟨by rfl, ?_⟩) hHeld ?_
      rotate_left
      · intro w hSw
        try dsimp only at hSw
        first | (go_simp; done) | (go_simp; with_reducible rfl)
      try simp only [Act.put, List.getElem_toArray, List.getElem_cons_zero, List.getElem_cons_succ, List.setIfInBounds_toArray, List.set_cons_zero, List.set_cons_succ]
      refine wpAnyH_take (i := 12) (v := ?_) rfl (by kernel_rfl) (by kernel_rfl) (by kernel_rfl) (fun _ _ _ h => h) (Or.inl ⟨by rfl, ?_⟩) hHeld ?_
      rotate_left
      · intro w hSw
        try dsimp only at hSw
        first | (go_simp; done) | (go_simp; with_reducible rfl)
      try simp only [Act.put, List.getElem_toArray, List.getElem_cons_zero, List.getElem_cons_succ, List.setIfInBounds_toArray, List.set_cons_zero, List.set_cons_succ]
      refine wpAnyH_take (i := 13) (v := ?_) rfl (by kernel_rfl) (by kernel_rfl) (by kernel_rfl) (fun _ _ _ h => h) (Or.inl ⟨by rfl, ?_⟩) hHeld ?_
      rotate_left
      · intro w hSw
        try dsimp only at hSw
        first | (go_simp; done) | (go_simp; with_reducible rfl)
      try simp only [Act.put, List.getElem_toArray, List.getElem_cons_zero, List.getElem_cons_succ, List.setIfInBounds_toArray, List.set_cons_zero, List.set_cons_succ]
      refine wpAnyH_ready (rs := [1, 14]) (by kernel_rfl) (by simp) ?_
      refine AllReadyH.cons rfl (fun K hK => ?_) (AllReadyH.cons rfl (fun K hK => ?_) AllReadyH.nil)
      · go_simp
        refine hK.out _ _ ⟨Blk.cell (HA3.out.2.1) 3, (Below.cell (HA3.out.2.2.2.2) (p := ⟨gr, o + m * 8 + 7, none⟩) hSg).trans d7⟩ (fun hHeld2 => ?_)
        clear hHeld hK K
        have hHeld := hHeld2
        clear hHeld2
        try simp only [Act.put, List.getElem_toArray, List.getElem_cons_zero, List.getElem_cons_succ, List.setIfInBounds_toArray, List.set_cons_zero, List.set_cons_succ]
        refine wpAnyH_ready (rs := [14]) (by kernel_rfl) (by simp) ?_
        refine AllReadyH.cons rfl (fun K hK => ?_) AllReadyH.nil
        go_simp
        refine hK.out _ _ ⟨Blk.cell ((HA3.out.alloc (.cells ((thrW ob).1.cells (thrW ob).2).toArray 37)).2.1) 3, (Below.cell ((HA3.out.alloc (.cells ((thrW ob).1.cells (thrW ob).2).toArray 37)).2.2.2.2) (p := ⟨gr, o + m * 8 + 7, none⟩) hSg).trans d7⟩ (fun hHeld2 => ?_)
        clear hHeld hK K
        have hHeld := hHeld2
        clear hHeld2
        try simp only [Act.put, List.getElem_toArray, List.getElem_cons_zero, List.getElem_cons_succ, List.setIfInBounds_toArray, List.set_cons_zero, List.set_cons_succ]
        refine wpAnyH_ready (rs := [15]) (by kernel_rfl) (by simp) ?_
        refine AllReadyH.cons rfl (fun K hK => ?_) AllReadyH.nil
        refine step_append_any _ (by rfl) _ _ 26 (by rfl) (D + 1) 37 i0 _ 8 80 Try.underlying26 hi0 hz0 hz1 hz2 rfl (by omega) _ (m + 1) _ (by rfl) (HA3.out.2.2.2.1.alloc _) (some ⟨W2.heap.size, 0, none⟩) 1 1 ((thrW ob).1.cells (thrW ob).2) (by rfl) (by intro _; rfl) (by rfl) (thr_news _ _) (thr_one _) (by unfold maxLen; omega) (by omega) (by simp; omega) ?_
        intro v6 w6 hown6 hgr6
        obtain ⟨a6, c6, rfl⟩ := own_len hown6
        have hown6' : w6.ownsRow (D + 1) 37 8 (.slice a6 ((m + 1) + 1) c6) ((m + 1) + 1) (wcss (ws.take (m + 1) ++ [thrW ob])).flatten := by rw [wcss_snoc]; exact hown6
        have HA4 := Lib.hid ((HA3.out.alloc (.cells ((thrW ob).1.cells (thrW ob).2).toArray 37)).step hgr6 hown6')
        have z6 := (HA3.out.alloc (.cells ((thrW ob).1.cells (thrW ob).2).toArray 37)).grown hgr6
        have u3 : w6.cell? ⟨D, 3, none⟩ = some (.slice a4 (m + 1) c4) := z6.2.1.cell 3
        have f3 := z6.2.1.free 3
        have Z6 := Lib.hid z6
        clear hown6 hown6' hgr6 z6
        refine hK.out _ _ ⟨Blk.cell (Z6.out.1) 3, (Below.cell (Z6.out.2.2) (p := ⟨gr, o + m * 8 + 7, none⟩) hSg).trans d7⟩ (fun hHeld2 => ?_)
        clear hHeld hK K
        have hHeld := hHeld2
        clear hHeld2
        try simp only [Act.put, List.getElem_toArray, List.getElem_cons_zero, List.getElem_cons_succ, List.setIfInBounds_toArray, List.set_cons_zero, List.set_cons_succ]
        refine wpAnyH_take (i := 16) (v := ?_) rfl (by kernel_rfl) (by kernel_rfl) (by kernel_rfl) (fun _ _ _ h => h) (Or.inl ⟨by rfl, ?_⟩) hHeld ?_
        rotate_left
        · intro w hSw
          try dsimp only at hSw
          first | (go_simp; done) | (go_simp; with_reducible rfl)
        try simp only [Act.put, List.getElem_toArray, List.getElem_cons_zero, List.getElem_cons_succ, List.setIfInBounds_toArray, List.set_cons_zero, List.set_cons_succ]
        refine wpAnyH_ready (rs := [17]) (by kernel_rfl) (by simp) ?_
        refine AllReadyH.cons rfl (fun K hK => ?_) AllReadyH.nil
        go_simp
        refine hK.out _ _ ⟨Blk.cell (HA4.out.2.1) 3, (Below.cell (HA4.out.2.2.2.2) (p := ⟨gr, o + m * 8 + 7, none⟩) hSg).trans d7⟩ (fun hHeld2 => ?_)
        clear hHeld hK K
        have hHeld := hHeld2
        clear hHeld2
        try simp only [Act.put, List.getElem_toArray, List.getElem_cons_zero, List.getElem_cons_succ, List.setIfInBounds_toArray, List.set_cons_zero, List.set_cons_succ]
        refine wpAnyH_done (by kernel_rfl) ?_ _
        clear hHeld u3 f3
        go_wp2_with fail
        go_meet
        exact ⟨a6, c6, by rw [HOB.out]; exact HA4.out⟩
      · go_simp
        refine hK.out _ _ ⟨Blk.cell ((HA3.out.alloc (.cells ((thrW ob).1.cells (thrW ob).2).toArray 37)).2.1) 3, (Below.cell ((HA3.out.alloc (.cells ((thrW ob).1.cells (thrW ob).2).toArray 37)).2.2.2.2) (p := ⟨gr, o + m * 8 + 7, none⟩) hSg).trans d7⟩ (fun hHeld2 => ?_)
        clear hHeld hK K
        have hHeld := hHeld2
        clear hHeld2
        try simp only [Act.put, List.getElem_toArray, List.getElem_cons_zero, List.getElem_cons_succ, List.setIfInBounds_toArray, List.set_cons_zero, List.set_cons_succ]
        refine wpAnyH_ready (rs := [1]) (by kernel_rfl) (by simp) ?_
        refine AllReadyH.cons rfl (fun K hK => ?_) AllReadyH.nil
        go_simp
        refine hK.out _ _ ⟨Blk.cell ((HA3.out.alloc (.cells ((thrW ob).1.cells (thrW ob).2).toArray 37)).2.1) 3, (Below.cell ((HA3.out.alloc (.cells ((thrW ob).1.cells (thrW ob).2).toArray 37)).2.2.2.2) (p := ⟨gr, o + m * 8 + 7, none⟩) hSg).trans d7⟩ (fun hHeld2 => ?_)
        clear hHeld hK K
        have hHeld := hHeld2
        clear hHeld2
        try simp only [Act.put, List.getElem_toArray, List.getElem_cons_zero, List.getElem_cons_succ, List.setIfInBounds_toArray, List.set_cons_zero, List.set_cons_succ]
        refine wpAnyH_ready (rs := [15]) (by kernel_rfl) (by simp) ?_
        refine AllReadyH.cons rfl (fun K hK => ?_) AllReadyH.nil
        refine step_append_any _ (by rfl) _ _ 26 (by rfl) (D + 1) 37 i0 _ 8 80 Try.underlying26 hi0 hz0 hz1 hz2 rfl (by omega) _ (m + 1) _ (by rfl) (HA3.out.2.2.2.1.alloc _) (some ⟨W2.heap.size, 0, none⟩) 1 1 ((thrW ob).1.cells (thrW ob).2) (by rfl) (by intro _; rfl) (by rfl) (thr_news _ _) (thr_one _) (by unfold maxLen; omega) (by omega) (by simp; omega) ?_
        intro v6 w6 hown6 hgr6
        obtain ⟨a6, c6, rfl⟩ := own_len hown6
        have hown6' : w6.ownsRow (D + 1) 37 8 (.slice a6 ((m + 1) + 1) c6) ((m + 1) + 1) (wcss (ws.take (m + 1) ++ [thrW ob])).flatten := by rw [wcss_snoc]; exact hown6
        have HA4 := Lib.hid ((HA3.out.alloc (.cells ((thrW ob).1.cells (thrW ob).2).toArray 37)).step hgr6 hown6')
        have z6 := (HA3.out.alloc (.cells ((thrW ob).1.cells (thrW ob).2).toArray 37)).grown hgr6
        have u3 : w6.cell? ⟨D, 3, none⟩ = some (.slice a4 (m + 1) c4) := z6.2.1.cell 3
        have f3 := z6.2.1.free 3
        have Z6 := Lib.hid z6
        clear hown6 hown6' hgr6 z6
        refine hK.out _ _ ⟨Blk.cell (Z6.out.1) 3, (Below.cell (Z6.out.2.2) (p := ⟨gr, o + m * 8 + 7, none⟩) hSg).trans d7⟩ (fun hHeld2 => ?_)
        clear hHeld hK K
        have hHeld := hHeld2
        clear hHeld2
        try simp only [Act.put, List.getElem_toArray, List.getElem_cons_zero, List.getElem_cons_succ, List.setIfInBounds_toArray, List.set_cons_zero, List.set_cons_succ]
        refine wpAnyH_take (i := 16) (v := ?_) rfl (by kernel_rfl) (by kernel_rfl) (by kernel_rfl) (fun _ _ _ h => h) (Or.inl ⟨by rfl, ?_⟩) hHeld ?_
        rotate_left
        · intro w hSw
          try dsimp only at hSw
          first | (go_simp; done) | (go_simp; with_reducible rfl)
        try simp only [Act.put, List.getElem_toArray, List.getElem_cons_zero, List.getElem_cons_succ, List.setIfInBounds_toArray, List.set_cons_zero, List.set_cons_succ]
        refine wpAnyH_ready (rs := [17]) (by kernel_rfl) (by simp) ?_
        refine AllReadyH.cons rfl (fun K hK => ?_) AllReadyH.nil
        go_simp
        refine hK.out _ _ ⟨Blk.cell (HA4.out.2.1) 3, (Below.cell (HA4.out.2.2.2.2) (p := ⟨gr, o + m * 8 + 7, none⟩) hSg).trans d7⟩ (fun hHeld2 => ?_)
        clear hHeld hK K
        have hHeld := hHeld2
        clear hHeld2
        try simp only [Act.put, List.getElem_toArray, List.getElem_cons_zero, List.getElem_cons_succ, List.setIfInBounds_toArray, List.set_cons_zero, List.set_cons_succ]
        refine wpAnyH_done (by kernel_rfl) ?_ _
        clear hHeld u3 f3
        go_wp2_with fail
        go_meet
        exact ⟨a6, c6, by rw [HOB.out]; exact HA4.out⟩
  case rest =>
    obtain ⟨a6, c6, hA5⟩ := hcut
    clear x3 y3 hs2 HA3 HA2
    have x3 := hA5.2.1.cell 3
    have y3 := hA5.2.2.1.cell 3
    simp only [List.getElem?_toArray, List.getElem?_cons_succ, List.getElem?_cons_zero] at x3 y3
    have hD5 := hA5.lt
    have HA5 := Lib.hid hA5
    have hkn : (k : Int) ≤ (ws.length : Int) := by omega
    have hk0 : (0 : Int) ≤ (k : Int) := by omega
    clear hA5
    go_upto_region 7 with fail
    obtain ⟨ax, hax⟩ : ∃ ax, (if d = k then a else Option.map (fun x => x.add (k * 8)) a) = ax := ⟨_, rfl⟩
    have HDR := Lib.hid (wraps_tail HR.out hk hax)
    go_still_tail 6, (by kernel_rfl)
    clear hax
    change wpList _ _ _ _ _ wc.drew
    have hA6 := HA5.out.drew
    generalize wc.drew = W6 at hA6 ⊢
    have HA6 := Lib.hid hA6
    have hs6 := HA6.out.lt
    clear hA6 x3 y3 HA5 hD5
    go_wp2_with (at_builtin; refine wpList_append_any _ rfl _ _ 26 rfl (D + 1) 37 i0 _ 8 80 Try.underlying26 hi0 hz0 hz1 hz2 rfl (by omega) _ (k + 1) _ rfl HA6.out.2.2.2.1 ax (ws.length - k) (d - k) (wcss (ws.drop k)).flatten rfl ?cb0 ?cb1 ?cb2 ?cb3 ?cb4 ?cb5 ?cb6 ?_)
    case cb0 => exact rows_some HDR.out
    case cb1 => rw [flatten_len (wcss_len _), wcss, List.length_map, List.length_drop]
    case cb2 => exact wraps_news (HDR.out.under HA6.out.2.2.2.2 (fun _ h => h))
    case cb3 => exact wcss_one HDR.out
    case cb4 => unfold maxLen; omega
    case cb5 => omega
    case cb6 => omega
    intro v7 w7 hown7 hgr7
    obtain ⟨a7, c7, rfl⟩ := own_len hown7
    have hN : k + 1 + (ws.length - k) = ws.length + 1 := by omega
    rw [hN] at hown7 ⊢
    have hown7' : w7.ownsRow (D + 1) 37 8 (.slice a7 (ws.length + 1) c7) (ws.length + 1) (wcss (putThr ws k)).flatten := by
      have e : (wcss (putThr ws k)).flatten = (wcss (ws.take k ++ [thrW (opnAt ws k)])).flatten ++ (wcss (ws.drop k)).flatten := by simp [putThr, wcss]
      rw [e]; exact hown7
    have hA7 := HA6.out.step hgr7 hown7'
    have z7 := (HA6.out.grown hgr7).2.1
    have y7 := z7.cell 3
    have f7 := z7.free 3
    simp only [List.getElem?_toArray, List.getElem?_cons_succ, List.getElem?_cons_zero] at y7
    clear z7 hown7 hown7' hgr7 HA6 hN
    go_upto_region 8 with fail
    generalize (w7.setCell ⟨D, 3, none⟩ (.slice a7 (ws.length + 1) c7)) = W7 at hA7 ⊢
    clear y7 f7 hs6
    have hwd : Wraps W7 (· < W7.heap.size) (putThr ws k) a7 (ws.length + 1) c7 := wraps_of_own hA7.2.2.2.1 (put_len hk).symm (fun p hp => by
      have hold : ∀ p ∈ ws, EW W7 (· < W7.heap.size) p (p.1.cells p.2) := fun p hp => (HR.out.mem hp).keep (fun b hb => Nat.lt_of_lt_of_le hb hA7.2.2.2.2.size) (fun b hb j => hA7.2.2.2.2.cell (p := ⟨b, j, none⟩) hb)
      rcases List.mem_append.1 hp with hp | hp
      · rcases List.mem_append.1 hp with hp | hp
        · exact hold p (List.mem_of_mem_take hp)
        · rw [List.mem_singleton.1 hp]; exact ew_leaf _ _ _ _ _ _ _ (by omega)
      · exact hold p (List.mem_of_mem_drop hp)) (fun g _ h => h)
    have htm : TM w D op num c (.slice a ws.length d) (.slice a7 (ws.length + 1) c7) W7 := ⟨hA7.2.1, hA7.2.2.1, hA7.2.2.2.2⟩
    have HL1 : Hid (∀ W', Below w.heap.size w W' → Calls Try.prog 15 #[.agg #[.int .i64 op, .int .i64 num, .int .u32 (c : Int), .slice a ws.length d]] W' fun e w' => LV e c ws ws.length W' w') := fun W' hb => levels_go W' _ op num c ws a ws.length d (HR.out.under hb (fun _ h => h)) (fun b h => Nat.lt_of_lt_of_le h hb.size) (by omega) hc
    have HL2 : Hid (∀ W', Below W7.heap.size W7 W' → Calls Try.prog 15 #[.agg #[.int .i64 op, .int .i64 num, .int .u32 (c : Int), .slice a7 (ws.length + 1) c7]] W' fun e w' => LV e c (putThr ws k) (ws.length + 1) W' w') := fun W' hb => levels_go W' _ op num c (putThr ws k) a7 (ws.length + 1) c7 (hwd.under hb (fun _ h => h)) (fun b h => Nat.lt_of_lt_of_le h hb.size) (by omega) hc
    have HWD := Lib.hid hwd
    have HTM := Lib.hid htm
    clear hwd htm hA7
    refine wp_region_held_drew (S := (fun w' => TM w D op num c (.slice a ws.length d) (.slice a7 (ws.length + 1) c7) w' ∧ Below W7.heap.size W7 w')) (by kernel_rfl) ?_ (fun hHeld => ?_)
    · exact ⟨HTM.out.drew, (Below.refl _ _).drew⟩
    refine wpAnyH_take (i := 0) (v := ?_) rfl (by kernel_rfl) (by kernel_rfl) (by kernel_rfl) (fun _ _ _ h => h) (Or.inl ⟨by rfl, ?_⟩) hHeld ?_
    rotate_left
    · intro w0 hSw
      obtain ⟨x0, x1, x2, x3, y0, y1, y2, y3⟩ := TM.cells hSw.1
      first | (go_simp; done) | (go_simp; with_reducible rfl)
    try simp only [Act.put, List.getElem_toArray, List.getElem_cons_zero, List.setIfInBounds_toArray, List.set_cons_zero, List.set_cons_succ]
    refine wpAnyH_take (i := 2) (v := ?_) rfl (by kernel_rfl) (by kernel_rfl) (by kernel_rfl) (fun _ _ _ h => h) (Or.inl ⟨by rfl, ?_⟩) hHeld ?_
    rotate_left
    · intro w0 hSw
      obtain ⟨x0, x1, x2, x3, y0, y1, y2, y3⟩ := TM.cells hSw.1
      first | (go_simp; done) | (go_simp; with_reducible rfl)
    try simp only [Act.put, List.getElem_toArray, List.getElem_cons_zero, List.getElem_cons_succ, List.setIfInBounds_toArray, List.set_cons_zero, List.set_cons_succ]
    refine wpAnyH_ready (rs := [1]) (by kernel_rfl) (by simp) ?_
    refine AllReadyH.cons rfl (fun K hK => ?_) AllReadyH.nil
    go_simp
    go_at_call 15
    refine (HL1.out _ hHeld.1.2.2).mono ?_
    rintro e w8 ⟨g1, p1, rfl, hp1, hc1, hb8⟩
    have HC1 := Lib.hid hc1
    clear hc1
    refine hK.out _ _ ⟨hHeld.1.on hb8, below_on hb8 hHeld.2⟩ (fun hHeld2 => ?_)
    clear hHeld hK K
    have hHeld := hHeld2
    clear hHeld2
    try simp only [Act.put, List.getElem_toArray, List.getElem_cons_zero, List.getElem_cons_succ, List.setIfInBounds_toArray, List.set_cons_zero, List.set_cons_succ]
    refine wpAnyH_ready (rs := [3]) (by kernel_rfl) (by simp) ?_
    refine AllReadyH.cons rfl (fun K hK => ?_) AllReadyH.nil
    go_simp
    go_at_call 15
    refine (HL2.out _ hHeld.2).mono ?_
    rintro e w9 ⟨g2, p2, rfl, hp2, hc2, hb9⟩
    refine hK.out _ _ ⟨hHeld.1.on hb9, below_on hb9 hHeld.2⟩ (fun hHeld2 => ?_)
    clear hHeld hK K
    have hHeld := hHeld2
    clear hHeld2
    try simp only [Act.put, List.getElem_toArray, List.getElem_cons_zero, List.getElem_cons_succ, List.setIfInBounds_toArray, List.set_cons_zero, List.set_cons_succ]
    refine wpAnyH_take (i := 4) (v := ?_) rfl (by kernel_rfl) (by kernel_rfl) (by kernel_rfl) (fun _ _ _ h => h) (Or.inl ⟨by rfl, ?_⟩) hHeld ?_
    rotate_left
    · intro w0 hSw
      obtain ⟨x0, x1, x2, x3, y0, y1, y2, y3⟩ := TM.cells hSw.1
      first | (go_simp; done) | (go_simp; with_reducible rfl)
    try simp only [Act.put, List.getElem_toArray, List.getElem_cons_zero, List.getElem_cons_succ, List.setIfInBounds_toArray, List.set_cons_zero, List.set_cons_succ]
    refine wpAnyH_take (i := 5) (v := ?_) rfl (by kernel_rfl) (by kernel_rfl) (by kernel_rfl) (fun _ _ _ h => h) (Or.inl ⟨by rfl, ?_⟩) hHeld ?_
    rotate_left
    · intro w0 hSw
      obtain ⟨x0, x1, x2, x3, y0, y1, y2, y3⟩ := TM.cells hSw.1
      first | (go_simp; done) | (go_simp; with_reducible rfl)
    try simp only [Act.put, List.getElem_toArray, List.getElem_cons_zero, List.getElem_cons_succ, List.setIfInBounds_toArray, List.set_cons_zero, List.set_cons_succ]
    refine wpAnyH_done (by kernel_rfl) ?_ _
    have htm9 : TM w D op num c (.slice a ws.length d) (.slice a7 (ws.length + 1) c7) w9 := hHeld.1
    have hb79 : Below W7.heap.size W7 w9 := hHeld.2
    have hc1' : ∀ j, j ≤ ws.length → w9.cell? ⟨g1, j, none⟩ = some (.int .u32 (sh c ws j : Int)) := fun j hj => cell_on hb9 (HC1.out j hj)
    have HC2 := Lib.hid hc2
    have HC1' := Lib.hid hc1'
    have HTM9 := Lib.hid htm9
    clear hHeld hb8 hb9 hc2 hc1' htm9 HTM HL1 HL2 HC1
    go_wp2_with fail
    have c3 : w9.cell? ⟨w.heap.size, 3, none⟩ = some (.slice a ws.length d) := HTM9.out.1.cell 3
    obtain ⟨X, hX⟩ : ∃ X : Int, X = (sh c ws k : Int) := ⟨_, rfl⟩
    have q1 : w9.cell? ⟨g1, k, none⟩ = some (.int .u32 X) := by rw [hX]; exact HC1'.out k hk
    have q2 : w9.cell? ⟨g2, k + 1, none⟩ = some (.int .u32 X) := by rw [hX, ← sh_put_at HF.out hk]; exact HC2.out (k + 1) (by omega)
    have hk1 : (0 : Int) ≤ (k : Int) + 1 := by omega
    have hk2 : (k : Int) + 1 < (ws.length : Int) + 1 + 1 := by omega
    have hk3 : (k : Int) < (ws.length : Int) + 1 := by omega
    clear hX
    go_quiet (fail)
    go_wp2_with fail
    clear c3 q1 q2 hk1 hk2 hk3
    go_loopw [100] (fun iv wr => ∃ j nq : Nat, iv = .int .i64 j ∧ j ≤ ws.length + 1 ∧ wr = w9.drewN nq) (fun i _ => ws.length + 1 - (intOf i).toNat)
    case atStart => exact ⟨0, _, rfl, Nat.zero_le _, rfl⟩
    case round =>
      obtain ⟨j, nq, rfl, hj, rfl⟩ := hrel
      by_cases hlt : j < ws.length + 1
      · obtain ⟨X, hX⟩ : ∃ X : Int, X = (sh c ws j : Int) := ⟨_, rfl⟩
        have q1 : w9.cell? ⟨g1, j, none⟩ = some (.int .u32 X) := by rw [hX]; exact HC1'.out j (by omega)
        have hth := through_sh HF.out hk (j := j) (by omega)
        have hj0 : (0 : Int) ≤ (j : Int) := by omega
        have hj1 : (j : Int) < (ws.length : Int) + 1 := by omega
        by_cases hkj : k < j
        · rw [if_pos hkj] at hth
          have q2 : w9.cell? ⟨g2, j + 1, none⟩ = some (.int .u32 X) := by rw [hX, ← hth]; exact HC2.out (j + 1) (by omega)
          have hkj2 : (k : Int) < (j : Int) := by omega
          have hj2 : (0 : Int) ≤ (j : Int) + 1 := by omega
          have hj3 : (j : Int) + 1 < (ws.length : Int) + 1 + 1 := by omega
          clear hX hth hkj
          go_wp2_with fail
          go_quiet (fail)
          go_wp2_with fail
          go_roundw
          case rel => exact ⟨j + 1, _, by go_num, by omega, rfl⟩
          case measure => simp [intOf]; omega
        · rw [if_neg hkj] at hth
          have q2 : w9.cell? ⟨g2, j, none⟩ = some (.int .u32 X) := by rw [hX, ← hth]; exact HC2.out j (by omega)
          have hkj2 : ¬ (k : Int) < (j : Int) := by omega
          have hj3 : (j : Int) < (ws.length : Int) + 1 + 1 := by omega
          clear hX hth hkj
          go_wp2_with fail
          go_quiet (fail)
          go_wp2_with fail
          go_roundw
          case rel => exact ⟨j + 1, _, by go_num, by omega, rfl⟩
          case measure => simp [intOf]; omega
      · obtain rfl : j = ws.length + 1 := by omega
        go_wp2_with fail
        have htm : TM w D op num c (.slice a ws.length d) (.slice a7 (ws.length + 1) c7) (w9.drewN nq) := ⟨HTM9.out.1, HTM9.out.2.1, ⟨HTM9.out.2.2.os, HTM9.out.2.2.tape, HTM9.out.2.2.output, HTM9.out.2.2.size, HTM9.out.2.2.block⟩⟩
        have hb : Below W7.heap.size W7 (w9.drewN nq) := ⟨hb79.os, hb79.tape, hb79.output, hb79.size, hb79.block⟩
        generalize w9.drewN nq = wl at htm hb ⊢
        clear HTM9 hb79 HC1' HC2
        go_loopw [11] (fun iv wr => ∃ q : Nat, iv = .int .i64 q ∧ q ≤ 10 ∧ TM w D op num c (.slice a ws.length d) (.slice a7 (ws.length + 1) c7) wr ∧ Below W7.heap.size W7 wr) (fun i _ => 10 - (intOf i).toNat)
        case atStart => exact ⟨0, rfl, by omega, htm, hb⟩
        case round =>
          obtain ⟨q, rfl, hq, htr, hbr⟩ := hrel
          have HTR := Lib.hid htr
          clear htm hb htr
          by_cases hlq : q < 10
          · have ha1 := through_who HF.out hk (q := (q : Int)) (by omega)
            have ha2 := through_reach HF.out hk (q := (q : Int)) (by omega)
            have hl1 : whoW c ws (q : Int) ≤ ws.length := (whoJ_law c ws (q : Int) ws.length (Nat.le_refl _)).2.2.1
            have hl2 : reachW c ws (q : Int) ≤ ws.length := reachJ_le (Nat.le_refl _)
            have hmv := fun W (v : Int) (hv : v ≤ 1048576) => moved_any W v k hv (by omega)
            have hm1 := fun W => hmv W (whoW c ws (q : Int)) (by omega)
            have hm2 := fun W => hmv W (reachW c ws (q : Int)) (by omega)
            have hw1 := fun W' (hb : Below w.heap.size w W') => Who_any W' _ op num c ws a ws.length d (q : Int) (HR.out.under hb (fun _ h => h)) (fun b h => Nat.lt_of_lt_of_le h hb.size) (by omega) hc
            have hw2 := fun W' (hb : Below W7.heap.size W7 W') => Who_any W' _ op num c (putThr ws k) a7 (ws.length + 1) c7 (q : Int) (HWD.out.under hb (fun _ h => h)) (fun b h => Nat.lt_of_lt_of_le h hb.size) (by omega) hc
            have hr1 := fun W' (hb : Below w.heap.size w W') => Reach_any W' _ op num c ws a ws.length d (q : Int) (HR.out.under hb (fun _ h => h)) (fun b h => Nat.lt_of_lt_of_le h hb.size) (by omega) hc
            have hr2 := fun W' (hb : Below W7.heap.size W7 W') => Reach_any W' _ op num c (putThr ws k) a7 (ws.length + 1) c7 (q : Int) (HWD.out.under hb (fun _ h => h)) (fun b h => Nat.lt_of_lt_of_le h hb.size) (by omega) hc
            rw [← ha1] at hm1
            rw [← ha2] at hm2
            generalize whoW c (putThr ws k) (q : Int) = X1 at hm1 hw2
            generalize reachW c (putThr ws k) (q : Int) = X2 at hm2 hr2
            generalize whoW c ws (q : Int) = Y1 at hm1 hw1
            generalize reachW c ws (q : Int) = Y2 at hm2 hr1
            have M1 := Lib.hid hm1
            have M2 := Lib.hid hm2
            have P1 := Lib.hid hw1
            have P2 := Lib.hid hw2
            have P3 := Lib.hid hr1
            have P4 := Lib.hid hr2
            clear hm1 hm2 hw1 hw2 hr1 hr2 ha1 ha2 hl1 hl2 hmv
            go_wp2_with fail
            refine wp_region_held_drew (S := (fun w' => TM w D op num c (.slice a ws.length d) (.slice a7 (ws.length + 1) c7) w' ∧ Below W7.heap.size W7 w')) (by kernel_rfl) ?_ (fun hHeld => ?_)
            · exact ⟨HTR.out.drew, hbr.drew⟩
            refine wpAnyH_take (i := 0) (v := ?_) rfl (by kernel_rfl) (by kernel_rfl) (by kernel_rfl) (fun _ _ _ h => h) (Or.inl ⟨by rfl, ?_⟩) hHeld ?_
            rotate_left
            · intro w0 hSw
              obtain ⟨x0, x1, x2, x3, y0, y1, y2, y3⟩ := TM.cells hSw.1
              first | (go_simp; done) | (go_simp; with_reducible rfl)
            try simp only [Act.put, List.getElem_toArray, List.getElem_cons_zero, List.setIfInBounds_toArray, List.set_cons_zero, List.set_cons_succ]
            refine wpAnyH_take (i := 1) (v := ?_) rfl (by kernel_rfl) (by kernel_rfl) (by kernel_rfl) (fun _ _ _ h => h) (Or.inl ⟨by rfl, ?_⟩) hHeld ?_
            rotate_left
            · intro w0 hSw
              obtain ⟨x0, x1, x2, x3, y0, y1, y2, y3⟩ := TM.cells hSw.1
              first | (go_simp; done) | (go_simp; with_reducible rfl)
            try simp only [Act.put, List.getElem_toArray, List.getElem_cons_zero, List.getElem_cons_succ, List.setIfInBounds_toArray, List.set_cons_zero, List.set_cons_succ]
            refine wpAnyH_take (i := 3) (v := ?_) rfl (by kernel_rfl) (by kernel_rfl) (by kernel_rfl) (fun _ _ _ h => h) (Or.inl ⟨by rfl, ?_⟩) hHeld ?_
            rotate_left
            · intro w0 hSw
              obtain ⟨x0, x1, x2, x3, y0, y1, y2, y3⟩ := TM.cells hSw.1
              first | (go_simp; done) | (go_simp; with_reducible rfl)
            try simp only [Act.put, List.getElem_toArray, List.getElem_cons_zero, List.getElem_cons_succ, List.setIfInBounds_toArray, List.set_cons_zero, List.set_cons_succ]
            refine wpAnyH_take (i := 5) (v := ?_) rfl (by kernel_rfl) (by kernel_rfl) (by kernel_rfl) (fun _ _ _ h => h) (Or.inl ⟨by rfl, ?_⟩) hHeld ?_
            rotate_left
            · intro w0 hSw
              obtain ⟨x0, x1, x2, x3, y0, y1, y2, y3⟩ := TM.cells hSw.1
              first | (go_simp; done) | (go_simp; with_reducible rfl)
            try simp only [Act.put, List.getElem_toArray, List.getElem_cons_zero, List.getElem_cons_succ, List.setIfInBounds_toArray, List.set_cons_zero, List.set_cons_succ]
            refine wpAnyH_take (i := 6) (v := ?_) rfl (by kernel_rfl) (by kernel_rfl) (by kernel_rfl) (fun _ _ _ h => h) (Or.inl ⟨by rfl, ?_⟩) hHeld ?_
            rotate_left
            · intro w0 hSw
              obtain ⟨x0, x1, x2, x3, y0, y1, y2, y3⟩ := TM.cells hSw.1
              first | (go_simp; done) | (go_simp; with_reducible rfl)
            try simp only [Act.put, List.getElem_toArray, List.getElem_cons_zero, List.getElem_cons_succ, List.setIfInBounds_toArray, List.set_cons_zero, List.set_cons_succ]
            refine wpAnyH_ready (rs := [2]) (by kernel_rfl) (by simp) ?_
            refine AllReadyH.cons rfl (fun K hK => ?_) AllReadyH.nil
            go_simp
            go_at_call 16
            refine (P1.out _ hHeld.1.2.2).mono ?_
            rintro e wa ⟨rfl, hb1⟩
            refine hK.out _ _ ⟨hHeld.1.on hb1, below_on hb1 hHeld.2⟩ (fun hHeld2 => ?_)
            clear hHeld hK K
            have hHeld := hHeld2
            clear hHeld2
            try simp only [Act.put, List.getElem_toArray, List.getElem_cons_zero, List.getElem_cons_succ, List.setIfInBounds_toArray, List.set_cons_zero, List.set_cons_succ]
            refine wpAnyH_ready (rs := [4]) (by kernel_rfl) (by simp) ?_
            refine AllReadyH.cons rfl (fun K hK => ?_) AllReadyH.nil
            go_simp
            go_at_call 20
            refine (M1.out _).mono ?_
            rintro e wb ⟨rfl, rfl⟩
            refine hK.out _ _ hHeld (fun hHeld2 => ?_)
            clear hHeld hK K
            have hHeld := hHeld2
            clear hHeld2
            try simp only [Act.put, List.getElem_toArray, List.getElem_cons_zero, List.getElem_cons_succ, List.setIfInBounds_toArray, List.set_cons_zero, List.set_cons_succ]
            refine wpAnyH_ready (rs := [7]) (by kernel_rfl) (by simp) ?_
            refine AllReadyH.cons rfl (fun K hK => ?_) AllReadyH.nil
            go_simp
            go_at_call 16
            refine (P2.out _ hHeld.2).mono ?_
            rintro e wd ⟨rfl, hb2⟩
            refine hK.out _ _ ⟨hHeld.1.on hb2, below_on hb2 hHeld.2⟩ (fun hHeld2 => ?_)
            clear hHeld hK K
            have hHeld := hHeld2
            clear hHeld2
            try simp only [Act.put, List.getElem_toArray, List.getElem_cons_zero, List.getElem_cons_succ, List.setIfInBounds_toArray, List.set_cons_zero, List.set_cons_succ]
            refine wpAnyH_take (i := 8) (v := ?_) rfl (by kernel_rfl) (by kernel_rfl) (by kernel_rfl) (fun _ _ _ h => h) (Or.inl ⟨by rfl, ?_⟩) hHeld ?_
            rotate_left
            · intro w0 hSw
              obtain ⟨x0, x1, x2, x3, y0, y1, y2, y3⟩ := TM.cells hSw.1
              first | (go_simp; done) | (go_simp; with_reducible rfl)
            try simp only [Act.put, List.getElem_toArray, List.getElem_cons_zero, List.getElem_cons_succ, List.setIfInBounds_toArray, List.set_cons_zero, List.set_cons_succ]
            refine wpAnyH_take (i := 9) (v := ?_) rfl (by kernel_rfl) (by kernel_rfl) (by kernel_rfl) (fun _ _ _ h => h) (Or.inl ⟨by rfl, ?_⟩) hHeld ?_
            rotate_left
            · intro w0 hSw
              obtain ⟨x0, x1, x2, x3, y0, y1, y2, y3⟩ := TM.cells hSw.1
              first | (go_simp; done) | (go_simp; with_reducible rfl)
            try simp only [Act.put, List.getElem_toArray, List.getElem_cons_zero, List.getElem_cons_succ, List.setIfInBounds_toArray, List.set_cons_zero, List.set_cons_succ]
            refine wpAnyH_take (i := 10) (v := ?_) rfl (by kernel_rfl) (by kernel_rfl) (by kernel_rfl) (fun _ _ _ h => h) (Or.inl ⟨by rfl, ?_⟩) hHeld ?_
            rotate_left
            · intro w0 hSw
              obtain ⟨x0, x1, x2, x3, y0, y1, y2, y3⟩ := TM.cells hSw.1
              first | (go_simp; done) | (go_simp; with_reducible rfl)
            try simp only [Act.put, List.getElem_toArray, List.getElem_cons_zero, List.getElem_cons_succ, List.setIfInBounds_toArray, List.set_cons_zero, List.set_cons_succ]
            refine wpAnyH_take (i := 11) (v := ?_) rfl (by kernel_rfl) (by kernel_rfl) (by kernel_rfl) (fun _ _ _ h => h) (Or.inl ⟨by rfl, ?_⟩) hHeld ?_
            rotate_left
            · intro w0 hSw
              obtain ⟨x0, x1, x2, x3, y0, y1, y2, y3⟩ := TM.cells hSw.1
              first | (go_simp; done) | (go_simp; with_reducible rfl)
            try simp only [Act.put, List.getElem_toArray, List.getElem_cons_zero, List.getElem_cons_succ, List.setIfInBounds_toArray, List.set_cons_zero, List.set_cons_succ]
            refine wpAnyH_take (i := 13) (v := ?_) rfl (by kernel_rfl) (by kernel_rfl) (by kernel_rfl) (fun _ _ _ h => h) (Or.inl ⟨by rfl, ?_⟩) hHeld ?_
            rotate_left
            · intro w0 hSw
              obtain ⟨x0, x1, x2, x3, y0, y1, y2, y3⟩ := TM.cells hSw.1
              first | (go_simp; done) | (go_simp; with_reducible rfl)
            try simp only [Act.put, List.getElem_toArray, List.getElem_cons_zero, List.getElem_cons_succ, List.setIfInBounds_toArray, List.set_cons_zero, List.set_cons_succ]
            refine wpAnyH_take (i := 15) (v := ?_) rfl (by kernel_rfl) (by kernel_rfl) (by kernel_rfl) (fun _ _ _ h => h) (Or.inl ⟨by rfl, ?_⟩) hHeld ?_
            rotate_left
            · intro w0 hSw
              obtain ⟨x0, x1, x2, x3, y0, y1, y2, y3⟩ := TM.cells hSw.1
              first | (go_simp; done) | (go_simp; with_reducible rfl)
            try simp only [Act.put, List.getElem_toArray, List.getElem_cons_zero, List.getElem_cons_succ, List.setIfInBounds_toArray, List.set_cons_zero, List.set_cons_succ]
            refine wpAnyH_take (i := 16) (v := ?_) rfl (by kernel_rfl) (by kernel_rfl) (by kernel_rfl) (fun _ _ _ h => h) (Or.inl ⟨by rfl, ?_⟩) hHeld ?_
            rotate_left
            · intro w0 hSw
              obtain ⟨x0, x1, x2, x3, y0, y1, y2, y3⟩ := TM.cells hSw.1
              first | (go_simp; done) | (go_simp; with_reducible rfl)
            try simp only [Act.put, List.getElem_toArray, List.getElem_cons_zero, List.getElem_cons_succ, List.setIfInBounds_toArray, List.set_cons_zero, List.set_cons_succ]
            refine wpAnyH_ready (rs := [12]) (by kernel_rfl) (by simp) ?_
            refine AllReadyH.cons rfl (fun K hK => ?_) AllReadyH.nil
            go_simp
            go_at_call 18
            refine (P3.out _ hHeld.1.2.2).mono ?_
            rintro e we ⟨rfl, hb3⟩
            refine hK.out _ _ ⟨hHeld.1.on hb3, below_on hb3 hHeld.2⟩ (fun hHeld2 => ?_)
            clear hHeld hK K
            have hHeld := hHeld2
            clear hHeld2
            try simp only [Act.put, List.getElem_toArray, List.getElem_cons_zero, List.getElem_cons_succ, List.setIfInBounds_toArray, List.set_cons_zero, List.set_cons_succ]
            refine wpAnyH_ready (rs := [14]) (by kernel_rfl) (by simp) ?_
            refine AllReadyH.cons rfl (fun K hK => ?_) AllReadyH.nil
            go_simp
            go_at_call 20
            refine (M2.out _).mono ?_
            rintro e wf ⟨rfl, rfl⟩
            refine hK.out _ _ hHeld (fun hHeld2 => ?_)
            clear hHeld hK K
            have hHeld := hHeld2
            clear hHeld2
            try simp only [Act.put, List.getElem_toArray, List.getElem_cons_zero, List.getElem_cons_succ, List.setIfInBounds_toArray, List.set_cons_zero, List.set_cons_succ]
            refine wpAnyH_ready (rs := [17]) (by kernel_rfl) (by simp) ?_
            refine AllReadyH.cons rfl (fun K hK => ?_) AllReadyH.nil
            go_simp
            go_at_call 18
            refine (P4.out _ hHeld.2).mono ?_
            rintro e wg ⟨rfl, hb4⟩
            refine hK.out _ _ ⟨hHeld.1.on hb4, below_on hb4 hHeld.2⟩ (fun hHeld2 => ?_)
            clear hHeld hK K
            have hHeld := hHeld2
            clear hHeld2
            try simp only [Act.put, List.getElem_toArray, List.getElem_cons_zero, List.getElem_cons_succ, List.setIfInBounds_toArray, List.set_cons_zero, List.set_cons_succ]
            refine wpAnyH_take (i := 18) (v := ?_) rfl (by kernel_rfl) (by kernel_rfl) (by kernel_rfl) (fun _ _ _ h => h) (Or.inl ⟨by rfl, ?_⟩) hHeld ?_
            rotate_left
            · intro w0 hSw
              obtain ⟨x0, x1, x2, x3, y0, y1, y2, y3⟩ := TM.cells hSw.1
              first | (go_simp; done) | (go_simp; with_reducible rfl)
            try simp only [Act.put, List.getElem_toArray, List.getElem_cons_zero, List.getElem_cons_succ, List.setIfInBounds_toArray, List.set_cons_zero, List.set_cons_succ]
            refine wpAnyH_take (i := 19) (v := ?_) rfl (by kernel_rfl) (by kernel_rfl) (by kernel_rfl) (fun _ _ _ h => h) (Or.inl ⟨by rfl, ?_⟩) hHeld ?_
            rotate_left
            · intro w0 hSw
              obtain ⟨x0, x1, x2, x3, y0, y1, y2, y3⟩ := TM.cells hSw.1
              first | (go_simp; done) | (go_simp; with_reducible rfl)
            try simp only [Act.put, List.getElem_toArray, List.getElem_cons_zero, List.getElem_cons_succ, List.setIfInBounds_toArray, List.set_cons_zero, List.set_cons_succ]
            refine wpAnyH_done (by kernel_rfl) ?_ _
            have HTZ := Lib.hid hHeld
            clear hHeld hb1 hb2 hb3 hb4
            go_wp2_with fail
            go_roundw
            case rel => first | exact ⟨q + 1, by go_num, by omega, HTZ.out.1, HTZ.out.2⟩ | ((repeat apply Exists.intro); exact ⟨⟨q + 1, by go_num, by omega, HTZ.out.1, HTZ.out.2⟩, rfl⟩)
            case measure => simp [intOf]; omega
          · obtain rfl : q = 10 := by omega
            go_wp2_with fail
            refine (awake_any _).mono ?_
            rintro e wz ⟨rfl, hbz⟩
            have hBz := below_on hbz HTR.out.2.2
            clear hbz
            go_wp2_with fail
            go_ret
            exact ⟨rfl, hBz⟩
end Go.Proofs.Ytlnlefebcfnocaa
