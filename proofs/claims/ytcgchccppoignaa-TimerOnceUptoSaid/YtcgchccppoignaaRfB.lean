/- Timer: the reference's first, Next, New. -/
import Derived.Test.YtcgchccppoignaaRfA
namespace Go.Proofs.Ytcgchccppoignaa
open Go.RowKit
attribute [local go_sem ↓] Go.wp_at_zero Go.wp_at_succ
attribute [local go_sem] Go.undef

abbrev atT : Tm → Nat := fun x => x.at_
theorem first_one {L : List Tm} {x : Tm} (hx : L[0]? = some x) : IsFirst atT (L.take 1) 0 := by
  rw [← take_snocT hx]
  exact first_zero (l := []) fun y hy => by cases hy
theorem take_get {L : List Tm} {i j : Nat} {x : Tm} (h : (L.take i)[j]? = some x) : j < i ∧ L[j]? = some x := by
  rw [List.getElem?_take] at h
  split at h
  · rename_i hlt; exact ⟨hlt, h⟩
  · cases h
theorem first_new {L : List Tm} {i j : Nat} {x y : Tm} (h : IsFirst atT (L.take i) j) (hx : L[i]? = some x) (hy : L[j]? = some y) (hlt : x.at_ < y.at_) : IsFirst atT (L.take (i + 1)) i := by
  obtain ⟨z, h1, h2, h3⟩ := h
  have e : z = y := by have := (take_get h1).2.symm.trans hy; injection this
  subst e
  have hl := (List.getElem?_eq_some_iff.1 hx).1
  refine ⟨x, by rw [List.getElem?_take, if_pos (by omega)]; exact hx, fun q u hu => ?_, fun q u hq hu => ?_⟩
  · obtain ⟨g1, g2⟩ := take_get hu
    by_cases e : q = i
    · subst e
      have := hx.symm.trans g2
      injection this with this
      rw [this]; exact Nat.le_refl _
    · have := h2 q u (by rw [List.getElem?_take, if_pos (by omega)]; exact g2)
      show x.at_ ≤ u.at_
      have h4 : z.at_ ≤ u.at_ := this
      omega
  · obtain ⟨g1, g2⟩ := take_get hu
    have := h2 q u (by rw [List.getElem?_take, if_pos (by omega)]; exact g2)
    show x.at_ < u.at_
    have h4 : z.at_ ≤ u.at_ := this
    omega
theorem first_old {L : List Tm} {i j : Nat} {x y : Tm} (h : IsFirst atT (L.take i) j) (hx : L[i]? = some x) (hy : L[j]? = some y) (hlt : ¬ x.at_ < y.at_) : IsFirst atT (L.take (i + 1)) j := by
  obtain ⟨z, h1, h2, h3⟩ := h
  obtain ⟨hji, g0⟩ := take_get h1
  have e : z = y := by have := g0.symm.trans hy; injection this
  subst e
  refine ⟨z, by rw [List.getElem?_take, if_pos (by omega)]; exact g0, fun q u hu => ?_, fun q u hq hu => ?_⟩
  · obtain ⟨g1, g2⟩ := take_get hu
    by_cases e : q = i
    · subst e
      have := hx.symm.trans g2
      injection this with this
      rw [← this]
      show z.at_ ≤ x.at_
      omega
    · exact h2 q u (by rw [List.getElem?_take, if_pos (by omega)]; exact g2)
  · obtain ⟨g1, g2⟩ := take_get hu
    exact h3 q u hq (by rw [List.getElem?_take, if_pos (by omega)]; exact g2)
def FstP (L : List Tm) (k : Int) : Prop := (L = [] ∧ k = -1) ∨ ∃ j : Nat, k = j ∧ j < L.length ∧ IsFirst atT L j
section
variable {w : World} {B lb T : Nat} {L : List Tm} {v : Value}
set_option maxRecDepth 100000 in
set_option maxHeartbeats 8000000 in
theorem lfirst_any (h : IsL w B lb T L v) (hL : L.length ≤ 8796093022208) :
    Calls Try.prog 35 #[pt lb 0] w fun e w' => ∃ (k : Int) (nn : Nat), e = .returned (.int .i64 k) ∧ FstP L k ∧ w' = w.drewN nn := by
  have H := Lib.hid h
  have c1 := h.l
  obtain ⟨a, c, rfl, hc1, hc2⟩ := h.form
  clear h
  go_enter Try.func35, Try.ntmps35
  simp only [Go.undef]
  go_upto_region 3 with fail
  go_loopw [3, 4] (fun kv iv wr => ∃ (k : Int) (i nn : Nat), kv = .int .i64 k ∧ iv = .int .i64 i ∧ i ≤ L.length ∧ ((i = 0 ∧ k = -1) ∨ ∃ j : Nat, k = j ∧ j < i ∧ IsFirst atT (L.take i) j) ∧ wr = w.drewN nn) (fun _ iv _ => L.length - (intOf iv).toNat)
  case atStart => exact ⟨-1, 0, 0, rfl, rfl, Nat.zero_le _, .inl ⟨rfl, rfl⟩, rfl⟩
  case round =>
    obtain ⟨k, i, nn, rfl, rfl, hi, hf, rfl⟩ := hrel
    by_cases hlt : i < L.length
    · obtain ⟨g, o, c', x, hv, hx, d1, d2, -, -⟩ := H.out.at_ hlt
      obtain ⟨rfl, rfl⟩ : a = some ⟨g, o, none⟩ ∧ c = c' := by injection hv with h1 _ h3; exact ⟨h1, h3⟩
      have HX := Lib.hid hx
      clear hx hv d2
      rcases hf with ⟨rfl, rfl⟩ | ⟨j, rfl, hji, hfi⟩
      · have hb : decide ((-1 : Int) < 0) = true := by decide
        go_wp2_with fail
        go_quiet (fail)
        go_wp2_with fail
        go_roundw
        case rel => exact ⟨0, 1, _, by go_num, by go_num, by omega, .inr ⟨0, rfl, by omega, first_one HX.out⟩, by first | rfl | exact World.drewN_drewN _ _ _⟩
        case measure => simp [intOf]; omega
      · have hb : decide ((j : Int) < 0) = false := decide_eq_false (by omega)
        obtain ⟨g2, o2, c2, y, hv2, hy, e1, -, -, -⟩ := H.out.at_ (j := j) (by omega)
        obtain ⟨⟨rfl, rfl⟩, -⟩ : (g = g2 ∧ o = o2) ∧ True := by
          injection hv2 with h1 _ h3
          injection h1 with h1
          exact ⟨⟨congrArg Addr.block h1, congrArg Addr.off h1⟩, trivial⟩
        have HY := Lib.hid hy
        have HFI := Lib.hid hfi
        have hjl : (j : Int) < (L.length : Int) := by omega
        clear hy hv2 hfi
        by_cases hc : x.at_ < y.at_
        · have hb2 : decide ((x.at_ : Int) < (y.at_ : Int)) = true := decide_eq_true (by omega)
          have HC := Lib.hid hc
          clear hc
          go_wp2_with fail
          go_quiet (fail)
          go_wp2_with fail
          go_roundw
          case rel => exact ⟨i, i + 1, _, by go_num, by go_num, by omega, .inr ⟨i, rfl, by omega, first_new HFI.out HX.out HY.out HC.out⟩, by first | rfl | exact World.drewN_drewN _ _ _⟩
          case measure => simp [intOf]; omega
        · have hb2 : decide ((x.at_ : Int) < (y.at_ : Int)) = false := decide_eq_false (by omega)
          have HC := Lib.hid hc
          clear hc
          go_wp2_with fail
          go_quiet (fail)
          go_wp2_with fail
          go_roundw
          case rel => exact ⟨j, i + 1, _, by go_num, by go_num, by omega, .inr ⟨j, rfl, by omega, first_old HFI.out HX.out HY.out HC.out⟩, by first | rfl | exact World.drewN_drewN _ _ _⟩
          case measure => simp [intOf]; omega
    · obtain rfl : i = L.length := by omega
      go_wp2_with fail
      go_ret
      refine ⟨k, nn, rfl, ?_, rfl⟩
      rcases hf with ⟨h1, h2⟩ | ⟨j, h1, h2, h3⟩
      · exact .inl ⟨List.length_eq_zero_iff.1 h1, h2⟩
      · rw [List.take_length] at h3
        exact .inr ⟨j, h1, h2, h3⟩
theorem fst_least {k : Int} (h : FstP L k) : (L = [] ∧ k < 0) ∨ ∃ (j : Nat) (x : Tm), k = j ∧ L[j]? = some x ∧ IsFirst atT L j ∧ LeastOf L x.at_ := by
  rcases h with ⟨h1, h2⟩ | ⟨j, h1, h2, h3⟩
  · exact .inl ⟨h1, by omega⟩
  · obtain ⟨x, g1, g2, g3⟩ := h3
    refine .inr ⟨j, x, h1, g1, ⟨x, g1, g2, g3⟩, ⟨x, List.mem_of_getElem? g1, rfl⟩, fun y hy => ?_⟩
    obtain ⟨q, hq⟩ := List.getElem?_of_mem hy
    exact g2 q y hq
set_option maxHeartbeats 4000000 in
theorem lnext_any (h : IsL w B lb T L v) (hL : L.length ≤ 8796093022208) :
    Calls Try.prog 28 #[pt lb 0] w fun e w' => ((L = [] ∧ e = .returned (.tuple #[.int .i64 0, .bool false])) ∨ ∃ v : Nat, LeastOf L v ∧ e = .returned (.tuple #[.int .i64 v, .bool true])) ∧ ∃ nn, w' = w.drewN nn := by
  have HF := Lib.hid (lfirst_any h hL)
  have H := Lib.hid h
  have c1 := h.l
  obtain ⟨a, c, rfl, hc1, hc2⟩ := h.form
  clear h
  go_enter Try.func28, Try.ntmps28
  go_wp2_with fail
  refine HF.out.mono ?_
  rintro e w1 ⟨k, nn, rfl, hk, rfl⟩
  rcases fst_least hk with ⟨h1, h2⟩ | ⟨j, x, rfl, hx, -, hl⟩
  · have HE := Lib.hid h1
    clear hk h1 HF
    go_wp2_with fail
    refine bodyPost_ret (results_tmp2 rfl _ _ _) rfl ?_
    exact ⟨.inl ⟨HE.out, rfl⟩, nn, rfl⟩
  · have hj := (List.getElem?_eq_some_iff.1 hx).1
    obtain ⟨g, o, c', y, hv, hy, d1, d2, -, -⟩ := H.out.at_ hj
    obtain ⟨rfl, rfl⟩ : a = some ⟨g, o, none⟩ ∧ c = c' := by injection hv with h1 _ h3; exact ⟨h1, h3⟩
    have e : y = x := by have := hy.symm.trans hx; injection this
    subst e
    have HL := Lib.hid hl
    have hj1 : (j : Int) < (L.length : Int) := by omega
    have hj2 : ¬ (j : Int) < 0 := by omega
    clear hk hx hy hl hv HF d2
    go_wp2_with fail
    refine bodyPost_ret (results_tmp2 rfl _ _ _) rfl ?_
    exact ⟨.inr ⟨_, HL.out, rfl⟩, nn, rfl⟩
end
set_option maxHeartbeats 4000000 in
theorem lnew_any (a : Int) (w : World) :
    Calls Try.prog 15 #[.int .i64 a] w fun e w' => e = .returned (pt w.heap.size 0) ∧ IsL w' w.heap.size w.heap.size (nowF a) [] (.slice none 0 0) ∧ Below w.heap.size w w' := by
  have HNV : Hid (min (max a 0) 1099511627776 = ((nowF a : Nat) : Int)) := by show _ = ((nowF a : Nat) : Int); rw [nowF]; unfold MT; omega
  go_enter Try.func15, Try.ntmps15
  go_wp2_with fail
  go_ret
  rw [HNV.out]
  have hb := Blk.new w 63 #[.int .i64 ((nowF a : Nat) : Int), .slice none 0 0]
  exact ⟨rfl, ⟨hb.cell 0, hb.free 0, hb.cell 1, hb.free 1, World.ownsRow_nil _ _ _ _, (fun e => by cases e), Nat.le_refl _⟩, (Below.refl _ _).alloc (Nat.le_refl _) _⟩
end Go.Proofs.Ytcgchccppoignaa
