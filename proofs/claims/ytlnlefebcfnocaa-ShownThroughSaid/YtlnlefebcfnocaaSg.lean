/- A pattern written: its size is bounded; is it one that can be written. -/
import Derived.Test.YtlnlefebcfnocaaSf
namespace Go.Proofs.Ytlnlefebcfnocaa
open Go.RowKit Go.Deep
attribute [local go_sem] Go.undef

mutual
def WT.size : WT → Nat
  | .node _ _ l => 1 + wsizes l
def wsizes : List WT → Nat
  | [] => 0
  | x :: r => x.size + wsizes r
end
mutual
def okT : WT → Bool
  | .node o n l => okN o n l.length && okL l
def okL : List WT → Bool
  | [] => true
  | x :: r => okT x && okL r
end
theorem WT.size_node (o n : Int) (l : List WT) : (WT.node o n l).size = 1 + wsizes l := by rw [WT.size]
theorem wsizes_cons (x : WT) (r : List WT) : wsizes (x :: r) = x.size + wsizes r := by rw [wsizes]
theorem wsizes_nil : wsizes [] = 0 := by rw [wsizes]
theorem okT_node (o n : Int) (l : List WT) : okT (.node o n l) = (okN o n l.length && okL l) := by rw [okT]
theorem okL_cons (x : WT) (r : List WT) : okL (x :: r) = (okT x && okL r) := by rw [okL]
theorem okL_mem {l : List WT} (h : okL l = true) {x : WT} (hx : x ∈ l) : okT x = true := by
  induction l with
  | nil => cases hx
  | cons y r ih =>
    rw [okL_cons, Bool.and_eq_true] at h
    rcases List.mem_cons.1 hx with rfl | hx
    · exact h.1
    · exact ih h.2 hx
theorem WT.size_pos (t : WT) : 1 ≤ t.size := by cases t; rw [WT.size_node]; omega
theorem wsizes_take {l : List WT} {j : Nat} {x : WT} (h : l[j]? = some x) : wsizes (l.take (j + 1)) = wsizes (l.take j) + x.size := by
  induction l generalizing j with
  | nil => simp at h
  | cons y r ih =>
    cases j with
    | zero => simp at h; subst h; simp [wsizes_cons, wsizes_nil]
    | succ j =>
      rw [List.take_succ_cons, wsizes_cons, ih (by simpa using h), List.take_succ_cons, wsizes_cons]
      omega
theorem wsizes_le (l : List WT) (j : Nat) : wsizes (l.take j) ≤ wsizes l := by
  induction l generalizing j with
  | nil => simp
  | cons y r ih =>
    cases j with
    | zero => simp [wsizes_nil]
    | succ j => rw [List.take_succ_cons, wsizes_cons, wsizes_cons]; have := ih j; omega
theorem look_size : ∀ (m : Nat) (t : WT), t.high ≤ m → ∀ deep seen : Int, 0 ≤ lookW t deep seen → okT t = true ∧ lookW t deep seen = seen + t.size - 1 := by
  intro m
  induction m with
  | zero => intro t ht; cases t; rw [WT.high_node] at ht; omega
  | succ m ih =>
    intro t ht deep seen h
    obtain ⟨o, n, l⟩ := t
    rw [WT.high_node] at ht
    have hm : ∀ x ∈ l, x.high ≤ m := fun x hx => by have := whigh_mem hx; omega
    clear ht
    rw [lookW_node] at h
    rw [lookW_node, okT_node, WT.size_node]
    by_cases h1 : 128 < deep ∨ 16384 < seen
    · rw [if_pos h1] at h; omega
    rw [if_neg h1] at h ⊢
    by_cases h2 : okN o n l.length = true
    · rw [if_pos h2] at h ⊢
      rw [h2, Bool.true_and]
      clear h1 h2
      suffices H : ∀ (l : List WT) (s : Int), (∀ x ∈ l, x.high ≤ m) → 0 ≤ lookL l deep s → okL l = true ∧ lookL l deep s = s + wsizes l by
        obtain ⟨a, b⟩ := H l seen hm h
        exact ⟨a, by omega⟩
      intro l
      induction l with
      | nil => intro s _ _; rw [lookL_nil, wsizes_nil]; exact ⟨by rw [okL], by simp⟩
      | cons x r ihr =>
        intro s hh h
        rw [lookL_cons] at h
        rw [lookL_cons, okL_cons, wsizes_cons]
        by_cases h3 : lookW x (deep + 1) (s + 1) < 0
        · rw [if_pos h3] at h; omega
        · rw [if_neg h3] at h ⊢
          obtain ⟨a, b⟩ := ih x (hh x (by simp)) (deep + 1) (s + 1) (by omega)
          obtain ⟨c, d⟩ := ihr _ (fun y hy => hh y (by simp [hy])) h
          exact ⟨by rw [a, c]; rfl, by omega⟩
    · rw [if_neg h2] at h; omega
theorem fit_size {t : WT} (h : fitW t = true) : okT t = true ∧ t.size ≤ 16384 := by
  have h0 : 0 ≤ lookW t 1 1 := of_decide_eq_true h
  have h1 := look_size _ t (Nat.le_refl _) 1 1 h0
  have h2 := look_bd _ t (Nat.le_refl _) 1 1 (by omega)
  exact ⟨h1.1, by omega⟩

theorem szl (a : Array UInt8) : (ByteArray.mk a).size = a.size := rfl
/-- A row of words. -/
def WDS (n : Nat) (e : Ending) (w w' : World) : Prop := ∃ g, e = .returned (.slice (some ⟨g, 0, none⟩) n n) ∧ (∀ i : Nat, i < n → ∃ s : ByteArray, s.size ≤ 9 ∧ w'.cell? ⟨g, i, none⟩ = some (.string s)) ∧ Below w.heap.size w w'
set_option maxRecDepth 100000 in
set_option maxHeartbeats 4000000 in
theorem kindwords_any (w : World) : Calls Try.prog 56 #[] w fun e w' => WDS 14 e w w' := by
  go_enter Try.func56, Try.ntmps56
  go_wp2_with fail
  go_ret
  refine ⟨_, rfl, fun i hi => ?_, by go_grown⟩
  rw [(Blk.new w _ _).cell i]
  match i, hi with
  | 0, _ | 1, _ | 2, _ | 3, _ | 4, _ | 5, _ | 6, _ | 7, _ | 8, _ | 9, _ | 10, _ | 11, _ | 12, _ | 13, _ => exact ⟨_, by decide, rfl⟩
set_option maxRecDepth 100000 in
set_option maxHeartbeats 4000000 in
theorem facewords_any (w : World) : Calls Try.prog 57 #[] w fun e w' => WDS 10 e w w' := by
  go_enter Try.func57, Try.ntmps57
  go_wp2_with fail
  go_ret
  refine ⟨_, rfl, fun i hi => ?_, by go_grown⟩
  rw [(Blk.new w _ _).cell i]
  match i, hi with
  | 0, _ | 1, _ | 2, _ | 3, _ | 4, _ | 5, _ | 6, _ | 7, _ | 8, _ | 9, _ => exact ⟨_, by decide, rfl⟩

def WRT (t : WT) (e : Ending) (w w' : World) : Prop := (∃ s : ByteArray, e = .returned (.string s) ∧ s.size + 6 ≤ 16 * t.size) ∧ Below w.heap.size w w'
/-- The loop of written. -/
def LWR (w : World) (l : List WT) (u0 u1 v : Value) (sv iv : Value) (wr : World) : Prop :=
  ∃ (j : Nat) (s : ByteArray), iv = .int .i64 j ∧ sv = .string s ∧ j ≤ l.length ∧ s.size ≤ 16 * wsizes (l.take j) ∧ Blk wr w.heap.size 35 #[u0, u1, v] ∧ Below w.heap.size w wr

set_option maxHeartbeats 16000000 in
set_option maxRecDepth 100000 in
theorem written_any : ∀ (m : Nat) (t : WT), t.high ≤ m → okT t = true → t.size ≤ 16384 → ∀ (w : World) (S : Nat → Prop) (cs : List Value), IsW w S t cs → (∀ b, S b → b < w.heap.size) →
    Calls Try.prog 53 #[.agg cs.toArray] w fun e w' => WRT t e w w' := by
  intro m
  induction m with
  | zero => intro t ht; cases t; rw [WT.high_node] at ht; omega
  | succ m ih =>
    intro t ht hok hsz w S cs hd hS
    obtain ⟨o, n, l⟩ := t
    obtain ⟨a, c, rfl, hrow⟩ := hd.open_
    have HH : Hid (∀ x ∈ l, x.high ≤ m) := fun x hx => by have := whigh_mem hx; rw [WT.high_node] at ht; omega
    rw [okT_node, Bool.and_eq_true] at hok
    have hws := WT.size_node o n l
    have HOK := Lib.hid hok.1
    have HOL := Lib.hid hok.2
    have HWS := Lib.hid hws
    have hws2 : wsizes l < 16384 := by omega
    have HROW := Lib.hid hrow
    have HS := Lib.hid hS
    have IH := Lib.hid ih
    have hcl : c ≤ maxLen := hrow.2.2.1
    have hlc : l.length ≤ c := hrow.2.1
    unfold maxLen at hcl
    clear ht hd hrow hS ih hok hws hsz
    by_cases h1 : o = 1
    · go_enter Try.func53, Try.ntmps53
      go_wp2_with fail
      go_ret
      exact ⟨⟨_, rfl, by rw [HWS.out]; show 3 + 6 ≤ _; omega⟩, by go_grown⟩
    by_cases h2 : o = 2
    · subst h2
      have hn : (0 ≤ n ∧ n < 14) := by have := HOK.out; simp [okN] at this; exact this.1
      obtain ⟨k, rfl⟩ : ∃ k : Nat, n = (k : Int) := ⟨n.toNat, by omega⟩
      have hk : k < 14 := by omega
      go_enter Try.func53, Try.ntmps53
      go_upto_region 5 with fail
      have hB0 : Blk (w.alloc (.cells #[.int .i64 2, .int .i64 (k : Int), .slice a l.length c] 35)) w.heap.size 35 #[.int .i64 2, .int .i64 (k : Int), .slice a l.length c] := Blk.new _ _ _
      have hbel0 : Below w.heap.size w (w.alloc (.cells #[.int .i64 2, .int .i64 (k : Int), .slice a l.length c] 35)) := by go_grown
      generalize (w.alloc (.cells #[.int .i64 2, .int .i64 (k : Int), .slice a l.length c] 35)) = W at hB0 hbel0 ⊢
      have x1 := hB0.cell 1
      simp only [List.getElem?_toArray, List.getElem?_cons_succ, List.getElem?_cons_zero] at x1
      have l1 := hB0.lt
      have HDR : Hid (Below W.heap.size W W.drew) := (Below.refl _ _).drew
      have hi0 : (0 : Int) ≤ (k : Int) := by omega
      have hi1 : (k : Int) < 14 := by omega
      have hw1 := HWS.out
      have HB0 := Lib.hid hbel0
      clear hB0 hbel0
      go_region_with (first | (go_at_call 56; refine (kindwords_any _).mono ?_; rintro e w2 ⟨g, rfl, hg, hb2⟩; obtain ⟨s, hs, hcs⟩ := hg k hk; have y1 := cell_over hb2 l1 x1; have HB2 := Lib.hid hb2; have HS2 := Lib.hid hs; clear hg hb2 hs))
      all_goals
        have hB2 : Below w.heap.size w w2 := below_on (below_on HB2.out HDR.out) HB0.out
        go_wp2_with fail
        go_ret
        refine ⟨⟨s, rfl, ?_⟩, hB2⟩
        have := HS2.out
        omega
    by_cases h3 : o = 3
    · subst h3
      have hn : (0 ≤ n ∧ n < 10) := by have := HOK.out; simp [okN] at this; exact this.1
      obtain ⟨k, rfl⟩ : ∃ k : Nat, n = (k : Int) := ⟨n.toNat, by omega⟩
      have hk : k < 10 := by omega
      go_enter Try.func53, Try.ntmps53
      go_upto_region 7 with fail
      have hB0 : Blk (w.alloc (.cells #[.int .i64 3, .int .i64 (k : Int), .slice a l.length c] 35)) w.heap.size 35 #[.int .i64 3, .int .i64 (k : Int), .slice a l.length c] := Blk.new _ _ _
      have hbel0 : Below w.heap.size w (w.alloc (.cells #[.int .i64 3, .int .i64 (k : Int), .slice a l.length c] 35)) := by go_grown
      generalize (w.alloc (.cells #[.int .i64 3, .int .i64 (k : Int), .slice a l.length c] 35)) = W at hB0 hbel0 ⊢
      have x1 := hB0.cell 1
      simp only [List.getElem?_toArray, List.getElem?_cons_succ, List.getElem?_cons_zero] at x1
      have l1 := hB0.lt
      have HDR : Hid (Below W.heap.size W W.drew) := (Below.refl _ _).drew
      have hi0 : (0 : Int) ≤ (k : Int) := by omega
      have hi1 : (k : Int) < 10 := by omega
      have hw1 := HWS.out
      have HB0 := Lib.hid hbel0
      clear hB0 hbel0
      go_region_with (first | (go_at_call 57; refine (facewords_any _).mono ?_; rintro e w2 ⟨g, rfl, hg, hb2⟩; obtain ⟨s, hs, hcs⟩ := hg k hk; have y1 := cell_over hb2 l1 x1; have HB2 := Lib.hid hb2; have HS2 := Lib.hid hs; clear hg hb2 hs))
      all_goals
        have hB2 : Below w.heap.size w w2 := below_on (below_on HB2.out HDR.out) HB0.out
        go_wp2_with fail
        go_ret
        refine ⟨⟨s, rfl, ?_⟩, hB2⟩
        have := HS2.out
        omega
    have h1' : (o == 1) = false := by simp; exact h1
    have h2' : (o == 2) = false := by simp; exact h2
    have h3' : (o == 3) = false := by simp; exact h3
    go_enter Try.func53, Try.ntmps53
    simp only [Go.undef]
    go_wp2_with fail
    go_loopw [3, 27] (LWR w l (.int .i64 o) (.int .i64 n) (.slice a l.length c)) (fun _ i _ => l.length - (intOf i).toNat)
    case atStart => exact ⟨0, _, rfl, rfl, Nat.zero_le _, Nat.zero_le _, Blk.new _ _ _, by go_grown⟩
    case round =>
      obtain ⟨j, s, rfl, rfl, hj, hs, hB, hbel⟩ := hrel
      have c0 := hB.cell 0
      have c2 := hB.cell 2
      simp only [List.getElem?_toArray, List.getElem?_cons_succ, List.getElem?_cons_zero] at c0 c2
      have hsz := hbel.size
      by_cases hlt : j < l.length
      · obtain ⟨g, q, x, xs, rfl, hSg, hx, hD, hxl, hr⟩ := HROW.out.get hlt
        have hr2 : wr.rangeAt g (q + j * 3) xs := rangeAt_keep hr fun y => hbel.cell (p := ⟨g, y, none⟩) (HS.out g hSg)
        have hD2 := hD.under hbel HS.out
        have hxm := List.mem_of_getElem? hx
        have htk := wsizes_take hx
        have htl := wsizes_le l (j + 1)
        have hc := IH.out x (HH.out x hxm) (okL_mem HOL.out hxm) (by omega) wr S xs hD2 (fun y hy => Nat.lt_of_lt_of_le (HS.out y hy) hsz)
        have hxp := x.size_pos
        generalize hxs : x.size = xz at *
        obtain ⟨ox, nx, lx⟩ := x
        obtain ⟨ax, cx, rfl, -⟩ := hD.open_
        have HXS := Lib.hid hxs
        have d0 := hr2 0 _ rfl
        have d1 := hr2 1 _ rfl
        have d2 := hr2 2 _ rfl
        simp only [Nat.add_zero] at d0
        have hxb : xz ≤ 16384 := by omega
        have hsb : s.size ≤ 262144 := by omega
        have HSS := Lib.hid hs
        clear hs
        have HC := Lib.hid hc
        have HB := Lib.hid hB
        have HBEL := Lib.hid hbel
        have HP := Lib.hid (fun W => parens_any W o ox)
        generalize parB o ox = pb at HP
        have hi0 : (0 : Int) ≤ (j : Int) := by omega
        have hi1 : (j : Int) < (l.length : Int) := by omega
        have HTK := Lib.hid htk
        have hgS := HS.out g hSg
        clear hr hr2 hD hD2 hx hxl hc hB hbel htk hxs
        go_wp2_with fail
        refine HC.out.mono ?_
        rintro e w1 ⟨⟨y, rfl, hy⟩, hb1⟩
        rw [HXS.out] at hy
        have hB1 : Below w.heap.size w w1 := below_on hb1 HBEL.out
        have HB1 : Hid (Blk w1 w.heap.size 35 _) := HB.out.under hb1 HB.out.lt
        have v0 := cell_on hb1 c0
        have v2 := cell_on hb1 c2
        have e0 := cell_on hb1 d0
        have HY := Lib.hid hy
        clear c0 c2 d0 d1 d2 hb1
        go_wp2_with fail
        have hyb : y.size ≤ 262144 := by omega
        go_quiet (first | (go_at_call 58; refine Calls.quiet_of_same (HP.out _)))
        by_cases h6 : o = 6
        · cases pb
          · go_wp2_with fail
            go_roundw
            case rel => exact ⟨j + 1, _, by go_num, rfl, by omega, by rw [HTK.out]; have h1 := HY.out; have h2 := HSS.out; simp only [ByteArray.size_append, szl, List.size_toArray, List.length_cons, List.length_nil]; omega, HB1.out.drewN _, below_drewN hB1 _⟩
            case measure => simp [intOf]; omega
          · go_wp2_with fail
            go_roundw
            case rel => exact ⟨j + 1, _, by go_num, rfl, by omega, by rw [HTK.out]; have h1 := HY.out; have h2 := HSS.out; simp only [ByteArray.size_append, szl, List.size_toArray, List.length_cons, List.length_nil]; omega, HB1.out.drewN _, below_drewN hB1 _⟩
            case measure => simp [intOf]; omega
        have h6' : (o == 6) = false := by simp; exact h6
        by_cases hj0 : j = 0
        · subst hj0
          cases pb
          · go_wp2_with fail
            go_roundw
            case rel => exact ⟨0 + 1, _, by go_num, rfl, by omega, by rw [HTK.out]; have h1 := HY.out; omega, HB1.out.drewN _, below_drewN hB1 _⟩
            case measure => simp [intOf]; omega
          · go_wp2_with fail
            go_roundw
            case rel => exact ⟨0 + 1, _, by go_num, rfl, by omega, by rw [HTK.out]; have h1 := HY.out; have h2 := HSS.out; simp only [ByteArray.size_append, szl, List.size_toArray, List.length_cons, List.length_nil]; omega, HB1.out.drewN _, below_drewN hB1 _⟩
            case measure => simp [intOf]; omega
        have hj0' : ((j : Int) == 0) = false := by simp; exact hj0
        by_cases h5 : o = 5
        · cases pb
          · go_wp2_with fail
            go_roundw
            case rel => exact ⟨j + 1, _, by go_num, rfl, by omega, by rw [HTK.out]; have h1 := HY.out; have h2 := HSS.out; simp only [ByteArray.size_append, szl, List.size_toArray, List.length_cons, List.length_nil]; omega, HB1.out.drewN _, below_drewN hB1 _⟩
            case measure => simp [intOf]; omega
          · go_wp2_with fail
            go_roundw
            case rel => exact ⟨j + 1, _, by go_num, rfl, by omega, by rw [HTK.out]; have h1 := HY.out; have h2 := HSS.out; simp only [ByteArray.size_append, szl, List.size_toArray, List.length_cons, List.length_nil]; omega, HB1.out.drewN _, below_drewN hB1 _⟩
            case measure => simp [intOf]; omega
        have h5' : (o == 5) = false := by simp; exact h5
        cases pb
        · go_wp2_with fail
          go_roundw
          case rel => exact ⟨j + 1, _, by go_num, rfl, by omega, by rw [HTK.out]; have h1 := HY.out; have h2 := HSS.out; simp only [ByteArray.size_append, szl, List.size_toArray, List.length_cons, List.length_nil]; omega, HB1.out.drewN _, below_drewN hB1 _⟩
          case measure => simp [intOf]; omega
        · go_wp2_with fail
          go_roundw
          case rel => exact ⟨j + 1, _, by go_num, rfl, by omega, by rw [HTK.out]; have h1 := HY.out; have h2 := HSS.out; simp only [ByteArray.size_append, szl, List.size_toArray, List.length_cons, List.length_nil]; omega, HB1.out.drewN _, below_drewN hB1 _⟩
          case measure => simp [intOf]; omega
      · obtain rfl : j = l.length := by omega
        go_wp2_with fail
        go_ret
        refine ⟨⟨s, rfl, ?_⟩, hbel⟩
        rw [List.take_length] at hs
        have := HWS.out
        omega
end Go.Proofs.Ytlnlefebcfnocaa
