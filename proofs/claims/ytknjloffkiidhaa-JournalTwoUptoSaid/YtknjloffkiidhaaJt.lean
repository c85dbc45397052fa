/- Rows of records in memory; same; torn. -/
import Derived.Test.YtknjloffkiidhaaJn
namespace Go.Proofs.Ytknjloffkiidhaa
open Go.RowKit Go.Deep
attribute [local go_sem] Go.undef

/-- A row of records in memory. -/
def RB (w : World) (S : Nat → Prop) (a : Option Addr) (rs : List (List Nat)) : Prop :=
  0 < rs.length → ∃ g o, a = some ⟨g, o, none⟩ ∧ S g ∧ ∀ (i : Nat) (r : List Nat), rs[i]? = some r → ∃ a' c', w.cell? ⟨g, o + i, none⟩ = some (.slice a' r.length c') ∧ r.length ≤ c' ∧ c' ≤ maxLen ∧ BY w S a' r
theorem RB.under {w w' : World} {S : Nat → Prop} {B : Nat} {a : Option Addr} {rs : List (List Nat)} (h : RB w S a rs) (hb : Below B w w') (hS : ∀ b, S b → b < B) : RB w' S a rs := fun h0 => by
  obtain ⟨g, o, ha, hs, hc⟩ := h h0
  refine ⟨g, o, ha, hs, fun i r hr => ?_⟩
  obtain ⟨a', c', h1, h2, h3, h4⟩ := hc i r hr
  exact ⟨a', c', by rw [hb.cell (p := ⟨g, o + i, none⟩) (hS g hs)]; exact h1, h2, h3, h4.under hb hS⟩
theorem RB.take {w : World} {S : Nat → Prop} {a : Option Addr} {rs : List (List Nat)} (h : RB w S a rs) (k : Nat) : RB w S a (rs.take k) := fun h0 => by
  obtain ⟨g, o, ha, hs, hc⟩ := h (by simp at h0; omega)
  refine ⟨g, o, ha, hs, fun i r hr => ?_⟩
  rw [List.getElem?_take] at hr
  split at hr
  · exact hc i r hr
  · cases hr
theorem RB.at {w : World} {S : Nat → Prop} {a : Option Addr} {rs : List (List Nat)} (h : RB w S a rs) {i : Nat} (hi : i < rs.length) : ∃ g o r a' c', a = some ⟨g, o, none⟩ ∧ S g ∧ rs[i]? = some r ∧ w.cell? ⟨g, o + i, none⟩ = some (.slice a' r.length c') ∧ r.length ≤ c' ∧ c' ≤ maxLen ∧ BY w S a' r := by
  obtain ⟨g, o, ha, hs, hc⟩ := h (by omega)
  obtain ⟨a', c', h1, h2, h3, h4⟩ := hc i _ (List.getElem?_eq_getElem hi)
  exact ⟨g, o, _, a', c', ha, hs, List.getElem?_eq_getElem hi, h1, h2, h3, h4⟩
theorem OwnB.rb {w : World} {B : Nat} {v : Value} {rs : List (List Nat)} (h : OwnB w B v rs) : ∃ a c, v = .slice a rs.length c ∧ rs.length ≤ c ∧ c ≤ maxLen ∧ RB w (fun b => B ≤ b ∧ b < w.heap.size) a rs := by
  obtain ⟨xs, h1, h2⟩ := h
  obtain ⟨a, c, rfl⟩ := own_slice h1
  have hc : rs.length ≤ c ∧ c ≤ maxLen := by
    rcases h1.2 with ⟨h5, h6⟩ | ⟨g, cap, cur, hv, _, _, h3, h4, _⟩
    · injection h5 with _ h5 h7
      subst h7
      exact ⟨by omega, Nat.zero_le _⟩
    · injection hv with _ _ h6
      subst h6
      exact ⟨h3, h4⟩
  refine ⟨a, c, rfl, hc.1, hc.2, fun h0 => ?_⟩
  obtain ⟨g, cap, hv, hg, hlt⟩ := h1.form h0
  have ha : a = some ⟨g, 0, none⟩ := by injection hv
  refine ⟨g, 0, ha, ⟨hg, hlt⟩, fun i r hr => ?_⟩
  obtain ⟨a', c', g1, g2, g3, g4⟩ := h2 i r hr
  refine ⟨a', c', ?_, g2, g3, g4.mono fun b hb => ⟨hb.1, hb.2.1⟩⟩
  have := h1.cells (g := g) (by rw [ha]; rfl) i _ g1
  rw [Addr.add_mid] at this
  simpa using this

theorem list_ne_at {α : Type} [DecidableEq α] {rs ss : List α} {j : Nat} {r s : α} (h1 : rs[j]? = some r) (h2 : ss[j]? = some s) (hne : r ≠ s) : rs ≠ ss := fun h => by
  subst h
  rw [h1] at h2
  injection h2 with h2
  exact hne h2

set_option maxRecDepth 100000 in
set_option maxHeartbeats 4000000 in
theorem same_any (w : World) (S S' : Nat → Prop) (a b : Option Addr) (rs ss : List (List Nat)) (n k c d : Nat) (hn : rs.length = n) (hk : ss.length = k) (hnm : n ≤ 1099511627776) (h : RB w S a rs) (h' : RB w S' b ss) :
    Calls Try.prog 12 #[.slice a n c, .slice b k d] w fun e w' => e = .returned (.bool (decide (rs = ss))) ∧ ∃ m, w' = w.drewN m := by
  have HH := Lib.hid h
  have HH' := Lib.hid h'
  have HN := Lib.hid hn
  have HK := Lib.hid hk
  clear h h'
  by_cases hnk : n = k
  · subst hnk
    clear hn hk
    go_enter Try.func12, Try.ntmps12
    go_wp2_with fail
    go_loopw [13] (fun iv wr => (∃ j : Nat, iv = .int .i64 j ∧ j ≤ n ∧ rs.take j = ss.take j) ∧ ∃ nq, wr = w.drewN nq) (fun i _ => n - (intOf i).toNat)
    case atStart => exact ⟨⟨0, rfl, Nat.zero_le _, rfl⟩, 0, rfl⟩
    case round =>
      obtain ⟨⟨j, rfl, hj, ht⟩, nq, rfl⟩ := hrel
      by_cases hlt : j < n
      · obtain ⟨g, o, r, a1, c1, rfl, -, hr, hc1, -, -, hby⟩ := HH.out.at (i := j) (by rw [HN.out]; exact hlt)
        obtain ⟨g', o', s, a2, c2, rfl, -, hs, hc2, -, -, hby'⟩ := HH'.out.at (i := j) (by rw [HK.out]; exact hlt)
        have hcv1 := fun m => (hby.drewN m).conv rfl c1
        have hcv2 := fun m => (hby'.drewN m).conv rfl c2
        have hqq := SB_beq hby.1 hby'.1
        have hi0 : (0 : Int) ≤ (j : Int) := by omega
        have hi1 : (j : Int) < (n : Int) := by omega
        by_cases hq : r = s
        · have hbn : ((SB r).toList == (SB s).toList) = true := by rw [hqq, decide_eq_true hq]
          have htk : rs.take (j + 1) = ss.take (j + 1) := by rw [List.take_add_one, List.take_add_one, ht, hr, hs, hq]
          have HTK := Lib.hid htk
          clear ht hr hs hq hqq htk hby hby'
          go_wp2_with fail
          go_quiet (fail)
          go_wp2_with fail
          go_roundw
          case rel => exact ⟨⟨j + 1, by go_num, by omega, HTK.out⟩, _, rfl⟩
          case measure => simp [intOf]; omega
        · have hbn : ((SB r).toList == (SB s).toList) = false := by rw [hqq, decide_eq_false hq]
          have hne : decide (rs = ss) = false := decide_eq_false (list_ne_at hr hs hq)
          have HNE := Lib.hid hne
          clear ht hr hs hq hqq hne hby hby'
          go_wp2_with fail
          go_quiet (fail)
          go_wp2_with fail
          go_ret
          exact ⟨by rw [HNE.out]; rfl, _, drewN_drewN _ _ _⟩
      · obtain rfl : j = n := by omega
        have he : rs = ss := by
          have e1 := HN.out
          have e2 := HK.out
          rw [List.take_of_length_le (by omega), List.take_of_length_le (by omega)] at ht
          exact ht
        have hne : decide (rs = ss) = true := decide_eq_true he
        have HNE := Lib.hid hne
        clear ht he hne
        go_wp2_with fail
        go_ret
        exact ⟨by rw [HNE.out]; rfl, _, rfl⟩
  · have hne : decide (rs = ss) = false := by
      rw [decide_eq_false_iff_not]
      intro h
      rw [h] at hn
      omega
    have HNE := Lib.hid hne
    have hnn : ((n : Int) != (k : Int)) = true := by simp; omega
    clear hne hn hk
    go_enter Try.func12, Try.ntmps12
    go_wp2_with fail
    go_ret
    exact ⟨by rw [HNE.out]; rfl, 0, rfl⟩

def tornL (l : List Nat) : List Nat := [1, 0, 1, 0] ++ l.take 50
theorem tornL_bytes {l : List Nat} (h : Bytes l) : Bytes (tornL l) := by
  refine Bytes.app ?_ (h.take 50)
  intro x hx
  simp only [List.mem_cons, List.not_mem_nil, or_false] at hx
  omega
theorem tornL_not (l : List Nat) : wholeL (tornL l) = false := by
  rw [Bool.eq_false_iff]
  intro h
  have := ((wholeL_iff _).1 h).2.1.1
  simp [tornL] at this
theorem torn_cells : VB [1, 0, 1, 0] = [.int .u8 1, .int .u8 0, .int .u8 1, .int .u8 0] := by simp [VB]

set_option maxRecDepth 100000 in
set_option maxHeartbeats 4000000 in
theorem torn_any (w : World) (S : Nat → Prop) (a : Option Addr) (l : List Nat) (n c : Nat) (hn : l.length = n) (hnc : n ≤ c) (hm : c ≤ 9223372036854775807) (h : BY w S a l) (hS : ∀ b, S b → b < w.heap.size) :
    Calls Try.prog 18 #[.slice a n c] w fun e w' => ∃ a' n' c', (tornL l).length = n' ∧ e = .returned (.slice a' n' c') ∧ w'.ownsRow w.heap.size 5 1 (.slice a' n' c') n' (VB (tornL l)) ∧ Below w.heap.size w w' := by
  obtain ⟨i0, hi0, hz0, hz1, hz2⟩ := info_parts info8
  have hown0 := own_four w torn_cells
  obtain ⟨k, hk1, hk2, hk3⟩ : ∃ k : Nat, min (n : Int) 50 = (k : Int) ∧ k ≤ n ∧ k ≤ 50 ∧ (l.take 50).length = k := ⟨min n 50, by omega, by omega, by omega, by rw [List.length_take, hn]; omega⟩
  obtain ⟨hk3, hk4⟩ := hk3
  have hby : BY (w.alloc (.cells #[.int .u8 1, .int .u8 0, .int .u8 1, .int .u8 0] 5)) S a (l.take 50) := (h.under ((Below.refl _ _).alloc (Nat.le_refl _) _) hS).front 50
  have HO := Lib.hid hown0
  have HB := Lib.hid hby
  have HK := Lib.hid hk4
  have hsome : 0 < k → a.isSome = true := fun h0 => h.some (by omega)
  have HSM := Lib.hid hsome
  have hkc : k ≤ c := by omega
  clear hown0 hby hk4 hsome h hS hn
  go_enter Try.func18, Try.ntmps18
  go_wp2_with (at_builtin; refine wpList_append_any _ rfl _ _ 22 rfl w.heap.size 5 i0 _ 1 1 Try.underlying22 hi0 hz0 hz1 hz2 rfl (by omega) _ 4 (VB [1, 0, 1, 0]) rfl HO.out a k c (VB (l.take 50)) rfl HSM.out (by rw [VB_len, HK.out, Nat.mul_one]) HB.out.news (VB_one _) ?a4 ?a5 ?a6 ?_)
  case a4 => unfold maxLen; omega
  case a5 => omega
  case a6 => simp
  intro v1 w1 hown1 hgr1
  obtain ⟨a1, c1, rfl⟩ := own_slice hown1
  have hb1 : Below w.heap.size w w1 := ((Below.refl _ _).alloc (Nat.le_refl _) _).grown hgr1 (by simp) (fun k hk => by cases hk; exact Nat.le_refl _)
  rw [← VB_app] at hown1
  clear hgr1
  go_wp2_with fail
  go_ret
  exact ⟨a1, 4 + k, c1, by rw [tornL, List.length_append, HK.out]; rfl, rfl, hown1, hb1⟩
end Go.Proofs.Ytknjloffkiidhaa
