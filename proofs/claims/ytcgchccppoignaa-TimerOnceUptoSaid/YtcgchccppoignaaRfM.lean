/- Timer: set. -/
import Derived.Test.YtcgchccppoignaaRfL
namespace Go.Proofs.Ytcgchccppoignaa
open Go.RowKit
attribute [local go_sem ↓] Go.wp_at_zero Go.wp_at_succ
attribute [local go_sem] Go.undef

def whenP (T : Nat) (p : Ac) : Int := if p.1 = 1 then p.2.1 else farF T p.2.1
def addP (T : Nat) (P : List Pr) (a q : Int) : Bool := !(P.any (fun x => x.2 == q)) && decide (atF T a ≤ MT)
def stepP (T : Nat) (P : List Pr) (p : Ac) : List Pr := if addP T P (whenP T p) p.2.2 = true then P ++ [(atF T (whenP T p), p.2.2)] else P
def setP (T : Nat) (l : List Ac) : List Pr := l.foldl (stepP T) []
theorem setP_succ {T i : Nat} {l : List Ac} {p : Ac} (h : l[i]? = some p) : setP T (l.take (i + 1)) = stepP T (setP T (l.take i)) p := by
  rw [← take_snocT h, setP, List.foldl_append]
  rfl
theorem addP_eq {T : Nat} {L : List Tm} {a q : Int} : addP T (L.map prT) a q = addB T L a q := by
  have e : (L.map prT).any (fun x => x.2 == q) = L.any (fun x => x.id == q) := by rw [List.any_map]; rfl
  rw [addP, addB, e]
theorem stepP_no {T : Nat} {L : List Tm} {p : Ac} (h : addB T L (whenP T p) p.2.2 = false) : stepP T (L.map prT) p = L.map prT := by rw [stepP, addP_eq, h, if_neg (by decide)]
theorem stepP_yes {T : Nat} {L : List Tm} {p : Ac} {x : Tm} (h : addB T L (whenP T p) p.2.2 = true) (h1 : (x.at_ : Int) = atF T (whenP T p)) (h2 : x.id = p.2.2) : stepP T (L.map prT) p = (L ++ [x]).map prT := by
  rw [stepP, addP_eq, h, if_pos rfl, List.map_append, ← h1, ← h2]
  rfl
theorem RowsOf.ae_get {w : World} {S : Nat → Prop} {l : List Ac} {a : Option Addr} {n c j : Nat} (h : RowsOf AE 3 w S l a n c) (hj : j < n) :
    ∃ (g o : Nat) (p : Ac), l[j]? = some p ∧ a = some ⟨g, o, none⟩ ∧ S g ∧ (Lit.int .i64 p.2.1).wf = true ∧ (Lit.int .i64 p.2.2).wf = true ∧ w.cell? ⟨g, o + j * 3, none⟩ = some (.int .i64 p.1) ∧ w.cell? ⟨g, o + j * 3 + 1, none⟩ = some (.int .i64 p.2.1) ∧ w.cell? ⟨g, o + j * 3 + 2, none⟩ = some (.int .i64 p.2.2) := by
  obtain ⟨rfl, -, -, h4⟩ := h
  obtain ⟨g, o, e, hS, hr⟩ := h4 (by omega)
  obtain ⟨cs, ⟨rfl, w1, w2⟩, -, hc⟩ := hr j l[j] (List.getElem?_eq_getElem hj)
  exact ⟨g, o, l[j], List.getElem?_eq_getElem hj, e, hS, w1, w2, hc 0 _ rfl, hc 1 _ rfl, hc 2 _ rfl⟩
section
variable {w : World}
def SetR (w : World) (T i : Nat) (l : List Ac) (wr : World) : Prop :=
  ∃ (sq : Nat) (L : List Tm) (ρ : Nat → List Tm), Wh wr w.heap.size (w.heap.size + 1) w.heap.size T sq L ρ ∧ L.map prT = setP T (l.take i) ∧ sq ≤ i ∧ L.length ≤ i ∧ Below w.heap.size w wr
theorem SetR.below {w wr : World} {T i : Nat} {l : List Ac} (h : SetR w T i l wr) : Below w.heap.size w wr := by obtain ⟨_, _, _, _, _, _, _, h⟩ := h; exact h
/-- One turn of set. -/
theorem set_turn {w wr : World} {T i sq : Nat} {l : List Ac} {p : Ac} {L : List Tm} {ρ : Nat → List Tm} (h : Wh wr w.heap.size (w.heap.size + 1) w.heap.size T sq L ρ) (he : L.map prT = setP T (l.take i)) (hp : l[i]? = some p) (hsq : sq ≤ i) (hL : L.length ≤ i) (hi : i ≤ 5864062014805)
    (hb : Below w.heap.size w wr) (wa : (Lit.int .i64 (whenP T p)).wf = true) (wq : (Lit.int .i64 p.2.2).wf = true) :
    Calls Try.prog 20 #[pt (w.heap.size + 1) 0, .int .i64 (whenP T p), .int .i64 p.2.2] wr fun e w' => ∃ f : Bool, e = .returned (.bool f) ∧ SetR w T (i + 1) l w' := by
  refine (add_wh h (by omega) (by unfold maxLen; omega) hb.size (whenP T p) p.2.2 wa wq).mono ?_
  rintro e w' (⟨h1, rfl, rfl⟩ | ⟨h1, rfl, x, ρ', h2, h3, h4, h5, -⟩)
  · exact ⟨false, rfl, sq, L, ρ, h, by rw [setP_succ hp, ← he, stepP_no h1], by omega, by omega, hb⟩
  · exact ⟨true, rfl, sq + 1, _, ρ', h4, by rw [setP_succ hp, ← he, stepP_yes h1 h2 h3], by omega, by simp; omega, hb.trans (h5.below hb.size fun g hg => (h.whl.own_lt hg).1)⟩
set_option maxRecDepth 100000 in
set_option maxHeartbeats 16000000 in
theorem set_any (now : Int) (hn : (Lit.int .i64 now).wf = true) (l : List Ac) (a : Option Addr) (n c : Nat) (S : Nat → Prop) (w : World) (h : RowsOf AE 3 w S l a n c) (hS : ∀ g, S g → g < w.heap.size) (hl : n ≤ 5864062014805) :
    Calls Try.prog 7 #[.int .i64 now, .slice a n c] w fun e w' => e = .returned (pt (w.heap.size + 1) 0) ∧ SetR w (nowF now) n l w' := by
  have hz1 : n ≤ c := h.2.1
  have hz2 : c ≤ maxLen := h.2.2.1
  unfold maxLen at hz2
  have H := Lib.hid h
  clear h
  obtain ⟨T, hT⟩ : ∃ T, T = nowF now := ⟨_, rfl⟩
  have HTM : Hid (T ≤ MT) := by show T ≤ MT; rw [hT]; exact nowF_le now
  rw [← hT]
  go_enter Try.func7, Try.ntmps7
  simp only [Go.undef]
  go_wp2_with fail
  refine (new_any now hn w).mono ?_
  rintro e w1 ⟨rfl, hw1, hb1⟩
  rw [← hT] at hw1
  have HW1 := Lib.hid (And.intro hw1 hb1)
  clear hw1 hb1 hT
  go_upto_region 3 with fail
  go_loopw [6] (fun iv wr => ∃ i : Nat, iv = .int .i64 i ∧ i ≤ n ∧ SetR w T i l wr) (fun iv _ => n - (intOf iv).toNat)
  case atStart => exact ⟨0, rfl, by omega, 0, [], _, HW1.out.1, by simp [setP], by omega, by simp, HW1.out.2⟩
  case round =>
    obtain ⟨i, rfl, hi, sq, L, ρ, hw, he, hsq, hL, hbe⟩ := hrel
    by_cases hlt : i < n
    · obtain ⟨g, o, p, hp, rfl, hg, wa, wq, d1, d2, d3⟩ := H.out.ae_get hlt
      have HP := Lib.hid hp
      clear hp
      have hgw := hS g hg
      have c1 := cell_over hbe hgw d1
      have c2 := cell_over hbe hgw d2
      have c3 := cell_over hbe hgw d3
      have hx0 : (0 : Int) ≤ (i : Int) := by omega
      have hx1 : (i : Int) < (n : Int) := by omega
      have HWR := Lib.hid hw
      have HE := Lib.hid (And.intro he (And.intro hsq hL))
      have HBE := Lib.hid hbe
      have HGW := Lib.hid hgw
      have HD := Lib.hid (And.intro d2 d3)
      have HW := Lib.hid (And.intro wa wq)
      clear hgw hw he hsq hL hbe wa wq d1 d2 d3
      by_cases hk : p.1 = 1
      · have hwn : whenP T p = p.2.1 := by rw [whenP, if_pos hk]
        have HA : Hid (Calls Try.prog 20 #[pt (w.heap.size + 1) 0, .int .i64 p.2.1, .int .i64 p.2.2] wr.drew fun e w' => ∃ f : Bool, e = .returned (.bool f) ∧ SetR w T (i + 1) l w') := by have := set_turn (HWR.out.far (w1 := wr.drew) fun _ _ => rfl) HE.out.1 HP.out HE.out.2.1 HE.out.2.2 (by omega) (belowN HBE.out 1) (by rw [hwn]; exact HW.out.1) HW.out.2; rw [hwn] at this; exact this
        rw [hk] at c1
        clear hwn
        go_upto_region 6 with fail
        refine wp_region_held_drew (S := (fun w' => w'.cell? ⟨g, o + i * 3 + 1, none⟩ = some (.int .i64 p.2.1) ∧ w'.cell? ⟨g, o + i * 3 + 2, none⟩ = some (.int .i64 p.2.2))) (by kernel_rfl) ⟨c2, c3⟩ (fun hHeld => ?_)
        refine wpAnyH_take (i := 0) (v := ?_) rfl (by kernel_rfl) (by kernel_rfl) (by kernel_rfl) (fun _ _ _ h => h) (Or.inl ⟨by rfl, ?_⟩) hHeld ?_
        rotate_left
        · rintro w ⟨hS1, hS2⟩
          first | (go_simp; done) | (go_simp; with_reducible rfl)
        try simp only [Act.put, List.getElem_toArray, List.getElem_cons_zero, List.setIfInBounds_toArray, List.set_cons_zero, List.set_cons_succ]
        refine wpAnyH_take (i := 1) (v := ?_) rfl (by kernel_rfl) (by kernel_rfl) (by kernel_rfl) (fun _ _ _ h => h) (Or.inl ⟨by rfl, ?_⟩) hHeld ?_
        rotate_left
        · rintro w ⟨hS1, hS2⟩
          first | (go_simp; done) | (go_simp; with_reducible rfl)
        try simp only [Act.put, List.getElem_toArray, List.getElem_cons_zero, List.getElem_cons_succ, List.setIfInBounds_toArray, List.set_cons_zero, List.set_cons_succ]
        refine wpAnyH_take (i := 2) (v := ?_) rfl (by kernel_rfl) (by kernel_rfl) (by kernel_rfl) (fun _ _ _ h => h) (Or.inl ⟨by rfl, ?_⟩) hHeld ?_
        rotate_left
        · rintro w ⟨hS1, hS2⟩
          first | (go_simp; done) | (go_simp; with_reducible rfl)
        try simp only [Act.put, List.getElem_toArray, List.getElem_cons_zero, List.getElem_cons_succ, List.setIfInBounds_toArray, List.set_cons_zero, List.set_cons_succ]
        refine wpAnyH_take (i := 3) (v := ?_) rfl (by kernel_rfl) (by kernel_rfl) (by kernel_rfl) (fun _ _ _ h => h) (Or.inl ⟨by rfl, ?_⟩) hHeld ?_
        rotate_left
        · rintro w ⟨hS1, hS2⟩
          first | (go_simp; done) | (go_simp; with_reducible rfl)
        try simp only [Act.put, List.getElem_toArray, List.getElem_cons_zero, List.getElem_cons_succ, List.setIfInBounds_toArray, List.set_cons_zero, List.set_cons_succ]
        refine wpAnyH_take (i := 4) (v := ?_) rfl (by kernel_rfl) (by kernel_rfl) (by kernel_rfl) (fun _ _ _ h => h) (Or.inl ⟨by rfl, ?_⟩) hHeld ?_
        rotate_left
        · rintro w ⟨hS1, hS2⟩
          first | (go_simp; done) | (go_simp; with_reducible rfl)
        try simp only [Act.put, List.getElem_toArray, List.getElem_cons_zero, List.getElem_cons_succ, List.setIfInBounds_toArray, List.set_cons_zero, List.set_cons_succ]
        refine wpAnyH_take (i := 5) (v := ?_) rfl (by kernel_rfl) (by kernel_rfl) (by kernel_rfl) (fun _ _ _ h => h) (Or.inl ⟨by rfl, ?_⟩) hHeld ?_
        rotate_left
        · rintro w ⟨hS1, hS2⟩
          first | (go_simp; done) | (go_simp; with_reducible rfl)
        try simp only [Act.put, List.getElem_toArray, List.getElem_cons_zero, List.getElem_cons_succ, List.setIfInBounds_toArray, List.set_cons_zero, List.set_cons_succ]
        refine wpAnyH_take (i := 6) (v := ?_) rfl (by kernel_rfl) (by kernel_rfl) (by kernel_rfl) (fun _ _ _ h => h) (Or.inl ⟨by rfl, ?_⟩) hHeld ?_
        rotate_left
        · rintro w ⟨hS1, hS2⟩
          first | (go_simp; done) | (go_simp; with_reducible rfl)
        try simp only [Act.put, List.getElem_toArray, List.getElem_cons_zero, List.getElem_cons_succ, List.setIfInBounds_toArray, List.set_cons_zero, List.set_cons_succ]
        refine wpAnyH_take (i := 7) (v := ?_) rfl (by kernel_rfl) (by kernel_rfl) (by kernel_rfl) (fun _ _ _ h => h) (Or.inl ⟨by rfl, ?_⟩) hHeld ?_
        rotate_left
        · rintro w ⟨hS1, hS2⟩
          first | (go_simp; done) | (go_simp; with_reducible rfl)
        try simp only [Act.put, List.getElem_toArray, List.getElem_cons_zero, List.getElem_cons_succ, List.setIfInBounds_toArray, List.set_cons_zero, List.set_cons_succ]
        refine wpAnyH_take (i := 8) (v := ?_) rfl (by kernel_rfl) (by kernel_rfl) (by kernel_rfl) (fun _ _ _ h => h) (Or.inl ⟨by rfl, ?_⟩) hHeld ?_
        rotate_left
        · rintro w ⟨hS1, hS2⟩
          first | (go_simp; done) | (go_simp; with_reducible rfl)
        try simp only [Act.put, List.getElem_toArray, List.getElem_cons_zero, List.getElem_cons_succ, List.setIfInBounds_toArray, List.set_cons_zero, List.set_cons_succ]
        refine wpAnyH_take (i := 9) (v := ?_) rfl (by kernel_rfl) (by kernel_rfl) (by kernel_rfl) (fun _ _ _ h => h) (Or.inl ⟨by rfl, ?_⟩) hHeld ?_
        rotate_left
        · rintro w ⟨hS1, hS2⟩
          first | (go_simp; done) | (go_simp; with_reducible rfl)
        try simp only [Act.put, List.getElem_toArray, List.getElem_cons_zero, List.getElem_cons_succ, List.setIfInBounds_toArray, List.set_cons_zero, List.set_cons_succ]
        refine wpAnyH_take (i := 10) (v := ?_) rfl (by kernel_rfl) (by kernel_rfl) (by kernel_rfl) (fun _ _ _ h => h) (Or.inl ⟨by rfl, ?_⟩) hHeld ?_
        rotate_left
        · rintro w ⟨hS1, hS2⟩
          first | (go_simp; done) | (go_simp; with_reducible rfl)
        try simp only [Act.put, List.getElem_toArray, List.getElem_cons_zero, List.getElem_cons_succ, List.setIfInBounds_toArray, List.set_cons_zero, List.set_cons_succ]
        refine wpAnyH_ready (rs := [11]) (by kernel_rfl) (by simp) ?_
        refine AllReadyH.cons rfl (fun K hK => ?_) AllReadyH.nil
        go_simp
        go_at_call 20
        refine (HA.out).mono ?_
        rintro e w3 ⟨f, rfl, hs3⟩
        have HSR := Lib.hid hs3
        have hb3 : Below w.heap.size w w3 := hs3.below
        have hk3 := And.intro (cell_over hb3 HGW.out HD.out.1) (cell_over hb3 HGW.out HD.out.2)
        clear hs3 hb3
        refine hK.out _ _ hk3 (fun hHeld2 => ?_)
        clear hHeld hK K
        have hHeld := hHeld2
        clear hHeld2
        try simp only [Act.put, List.getElem_toArray, List.getElem_cons_zero, List.getElem_cons_succ, List.setIfInBounds_toArray, List.set_cons_zero, List.set_cons_succ]
        refine wpAnyH_done (by kernel_rfl) ?_ _
        clear hHeld
        go_wp2_with fail
        go_roundw
        case rel => exact ⟨i + 1, by go_num, by omega, HSR.out⟩
        case measure => simp [intOf]; omega
      · have hwn : whenP T p = farF T p.2.1 := by rw [whenP, if_neg hk]
        have HA : Hid (Calls Try.prog 20 #[pt (w.heap.size + 1) 0, .int .i64 (farF T p.2.1), .int .i64 p.2.2] wr.drew fun e w' => ∃ f : Bool, e = .returned (.bool f) ∧ SetR w T (i + 1) l w') := by have := set_turn (HWR.out.far (w1 := wr.drew) fun _ _ => rfl) HE.out.1 HP.out HE.out.2.1 HE.out.2.2 (by omega) (belowN HBE.out 1) (by rw [hwn]; exact farF_wf HTM.out _) HW.out.2; rw [hwn] at this; exact this
        have HNW := Lib.hid (now_any (HWR.out.far (w1 := wr.drew) fun _ _ => rfl).whl)
        have HFAR := Lib.hid (far_any HTM.out p.2.1 wr.drew)
        have hk1 : (p.1 == 1) = false := beq_eq_false_iff_ne.2 hk
        clear hwn
        go_upto_region 7 with fail
        refine wp_region_held_drew (S := (fun w' => w'.cell? ⟨g, o + i * 3 + 1, none⟩ = some (.int .i64 p.2.1) ∧ w'.cell? ⟨g, o + i * 3 + 2, none⟩ = some (.int .i64 p.2.2))) (by kernel_rfl) ⟨c2, c3⟩ (fun hHeld => ?_)
        refine wpAnyH_take (i := 0) (v := ?_) rfl (by kernel_rfl) (by kernel_rfl) (by kernel_rfl) (fun _ _ _ h => h) (Or.inl ⟨by rfl, ?_⟩) hHeld ?_
        rotate_left
        · rintro w ⟨hS1, hS2⟩
          first | (go_simp; done) | (go_simp; with_reducible rfl)
        try simp only [Act.put, List.getElem_toArray, List.getElem_cons_zero, List.setIfInBounds_toArray, List.set_cons_zero, List.set_cons_succ]
        refine wpAnyH_take (i := 1) (v := ?_) rfl (by kernel_rfl) (by kernel_rfl) (by kernel_rfl) (fun _ _ _ h => h) (Or.inl ⟨by rfl, ?_⟩) hHeld ?_
        rotate_left
        · rintro w ⟨hS1, hS2⟩
          first | (go_simp; done) | (go_simp; with_reducible rfl)
        try simp only [Act.put, List.getElem_toArray, List.getElem_cons_zero, List.getElem_cons_succ, List.setIfInBounds_toArray, List.set_cons_zero, List.set_cons_succ]
        refine wpAnyH_take (i := 3) (v := ?_) rfl (by kernel_rfl) (by kernel_rfl) (by kernel_rfl) (fun _ _ _ h => h) (Or.inl ⟨by rfl, ?_⟩) hHeld ?_
        rotate_left
        · rintro w ⟨hS1, hS2⟩
          first | (go_simp; done) | (go_simp; with_reducible rfl)
        try simp only [Act.put, List.getElem_toArray, List.getElem_cons_zero, List.getElem_cons_succ, List.setIfInBounds_toArray, List.set_cons_zero, List.set_cons_succ]
        refine wpAnyH_take (i := 4) (v := ?_) rfl (by kernel_rfl) (by kernel_rfl) (by kernel_rfl) (fun _ _ _ h => h) (Or.inl ⟨by rfl, ?_⟩) hHeld ?_
        rotate_left
        · rintro w ⟨hS1, hS2⟩
          first | (go_simp; done) | (go_simp; with_reducible rfl)
        try simp only [Act.put, List.getElem_toArray, List.getElem_cons_zero, List.getElem_cons_succ, List.setIfInBounds_toArray, List.set_cons_zero, List.set_cons_succ]
        refine wpAnyH_take (i := 5) (v := ?_) rfl (by kernel_rfl) (by kernel_rfl) (by kernel_rfl) (fun _ _ _ h => h) (Or.inl ⟨by rfl, ?_⟩) hHeld ?_
        rotate_left
        · rintro w ⟨hS1, hS2⟩
          first | (go_simp; done) | (go_simp; with_reducible rfl)
        try simp only [Act.put, List.getElem_toArray, List.getElem_cons_zero, List.getElem_cons_succ, List.setIfInBounds_toArray, List.set_cons_zero, List.set_cons_succ]
        refine wpAnyH_take (i := 6) (v := ?_) rfl (by kernel_rfl) (by kernel_rfl) (by kernel_rfl) (fun _ _ _ h => h) (Or.inl ⟨by rfl, ?_⟩) hHeld ?_
        rotate_left
        · rintro w ⟨hS1, hS2⟩
          first | (go_simp; done) | (go_simp; with_reducible rfl)
        try simp only [Act.put, List.getElem_toArray, List.getElem_cons_zero, List.getElem_cons_succ, List.setIfInBounds_toArray, List.set_cons_zero, List.set_cons_succ]
        refine wpAnyH_take (i := 7) (v := ?_) rfl (by kernel_rfl) (by kernel_rfl) (by kernel_rfl) (fun _ _ _ h => h) (Or.inl ⟨by rfl, ?_⟩) hHeld ?_
        rotate_left
        · rintro w ⟨hS1, hS2⟩
          first | (go_simp; done) | (go_simp; with_reducible rfl)
        try simp only [Act.put, List.getElem_toArray, List.getElem_cons_zero, List.getElem_cons_succ, List.setIfInBounds_toArray, List.set_cons_zero, List.set_cons_succ]
        refine wpAnyH_take (i := 9) (v := ?_) rfl (by kernel_rfl) (by kernel_rfl) (by kernel_rfl) (fun _ _ _ h => h) (Or.inl ⟨by rfl, ?_⟩) hHeld ?_
        rotate_left
        · rintro w ⟨hS1, hS2⟩
          first | (go_simp; done) | (go_simp; with_reducible rfl)
        try simp only [Act.put, List.getElem_toArray, List.getElem_cons_zero, List.getElem_cons_succ, List.setIfInBounds_toArray, List.set_cons_zero, List.set_cons_succ]
        refine wpAnyH_take (i := 10) (v := ?_) rfl (by kernel_rfl) (by kernel_rfl) (by kernel_rfl) (fun _ _ _ h => h) (Or.inl ⟨by rfl, ?_⟩) hHeld ?_
        rotate_left
        · rintro w ⟨hS1, hS2⟩
          first | (go_simp; done) | (go_simp; with_reducible rfl)
        try simp only [Act.put, List.getElem_toArray, List.getElem_cons_zero, List.getElem_cons_succ, List.setIfInBounds_toArray, List.set_cons_zero, List.set_cons_succ]
        refine wpAnyH_take (i := 11) (v := ?_) rfl (by kernel_rfl) (by kernel_rfl) (by kernel_rfl) (fun _ _ _ h => h) (Or.inl ⟨by rfl, ?_⟩) hHeld ?_
        rotate_left
        · rintro w ⟨hS1, hS2⟩
          first | (go_simp; done) | (go_simp; with_reducible rfl)
        try simp only [Act.put, List.getElem_toArray, List.getElem_cons_zero, List.getElem_cons_succ, List.setIfInBounds_toArray, List.set_cons_zero, List.set_cons_succ]
        refine wpAnyH_take (i := 12) (v := ?_) rfl (by kernel_rfl) (by kernel_rfl) (by kernel_rfl) (fun _ _ _ h => h) (Or.inl ⟨by rfl, ?_⟩) hHeld ?_
        rotate_left
        · rintro w ⟨hS1, hS2⟩
          first | (go_simp; done) | (go_simp; with_reducible rfl)
        try simp only [Act.put, List.getElem_toArray, List.getElem_cons_zero, List.getElem_cons_succ, List.setIfInBounds_toArray, List.set_cons_zero, List.set_cons_succ]
        refine wpAnyH_take (i := 13) (v := ?_) rfl (by kernel_rfl) (by kernel_rfl) (by kernel_rfl) (fun _ _ _ h => h) (Or.inl ⟨by rfl, ?_⟩) hHeld ?_
        rotate_left
        · rintro w ⟨hS1, hS2⟩
          first | (go_simp; done) | (go_simp; with_reducible rfl)
        try simp only [Act.put, List.getElem_toArray, List.getElem_cons_zero, List.getElem_cons_succ, List.setIfInBounds_toArray, List.set_cons_zero, List.set_cons_succ]
        refine wpAnyH_ready (rs := [2]) (by kernel_rfl) (by simp) ?_
        refine AllReadyH.cons rfl (fun K hK => ?_) AllReadyH.nil
        go_simp
        go_at_call 8
        refine (HNW.out).mono ?_
        rintro e w2 ⟨rfl, rfl⟩
        refine hK.out _ _ hHeld (fun hHeld2 => ?_)
        clear hHeld hK K
        have hHeld := hHeld2
        clear hHeld2
        try simp only [Act.put, List.getElem_toArray, List.getElem_cons_zero, List.getElem_cons_succ, List.setIfInBounds_toArray, List.set_cons_zero, List.set_cons_succ]
        refine wpAnyH_ready (rs := [8]) (by kernel_rfl) (by simp) ?_
        refine AllReadyH.cons rfl (fun K hK => ?_) AllReadyH.nil
        go_simp
        go_at_call 9
        refine (HFAR.out).mono ?_
        rintro e w2 ⟨rfl, rfl⟩
        refine hK.out _ _ hHeld (fun hHeld2 => ?_)
        clear hHeld hK K
        have hHeld := hHeld2
        clear hHeld2
        try simp only [Act.put, List.getElem_toArray, List.getElem_cons_zero, List.getElem_cons_succ, List.setIfInBounds_toArray, List.set_cons_zero, List.set_cons_succ]
        refine wpAnyH_ready (rs := [14]) (by kernel_rfl) (by simp) ?_
        refine AllReadyH.cons rfl (fun K hK => ?_) AllReadyH.nil
        go_simp
        go_at_call 20
        refine (HA.out).mono ?_
        rintro e w3 ⟨f, rfl, hs3⟩
        have HSR := Lib.hid hs3
        have hb3 : Below w.heap.size w w3 := hs3.below
        have hk3 := And.intro (cell_over hb3 HGW.out HD.out.1) (cell_over hb3 HGW.out HD.out.2)
        clear hs3 hb3
        refine hK.out _ _ hk3 (fun hHeld2 => ?_)
        clear hHeld hK K
        have hHeld := hHeld2
        clear hHeld2
        try simp only [Act.put, List.getElem_toArray, List.getElem_cons_zero, List.getElem_cons_succ, List.setIfInBounds_toArray, List.set_cons_zero, List.set_cons_succ]
        refine wpAnyH_done (by kernel_rfl) ?_ _
        clear hHeld
        go_wp2_with fail
        go_roundw
        case rel => exact ⟨i + 1, by go_num, by omega, HSR.out⟩
        case measure => simp [intOf]; omega
    · obtain rfl : i = n := by omega
      go_wp2_with fail
      go_ret
      exact ⟨rfl, sq, L, ρ, hw, he, hsq, hL, hbe⟩
end
end Go.Proofs.Ytcgchccppoignaa
