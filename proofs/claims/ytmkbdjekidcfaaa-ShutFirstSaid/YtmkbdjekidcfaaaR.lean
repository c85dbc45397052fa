/- The contract of rings. -/
import Derived.Test.YtmkbdjekidcfaaaQ
namespace Go.Proofs.Ytmkbdjekidcfaaa
open Go.RowKit

/-- A way from i on comes to a ring. -/
def Ring (rows : List (List Int)) (i : Nat) : Prop := ∃ k, (k = i ∨ Reach rows i k) ∧ Reach rows k k

theorem ints_at {w : World} {B : Nat} {a : Option Addr} {c : Nat} {L : List Nat} (h : OwnInts w B (.slice a L.length c) L) {j : Nat} (hj : j < L.length) :
    ∃ g, a = some ⟨g, 0, none⟩ ∧ w.cell? ⟨g, j, none⟩ = some (.int .i64 ((L[j] : Nat) : Int)) := by
  obtain ⟨g, cap, e, hc, -⟩ := own_at h hj
  simp only [Value.slice.injEq] at e
  exact ⟨g, e.1, by rw [hc]; simp [hj]⟩
theorem nat_take_succ {l : List Nat} {m : Nat} (hm : m < l.length) {q : Nat} (h : q ∈ l.take (m + 1)) : q ∈ l.take m ∨ q = l[m] := by
  rw [List.take_succ_eq_append_getElem hm] at h
  simp only [List.mem_append, List.mem_singleton] at h
  exact h

set_option maxHeartbeats 4000000 in
theorem rings_any (v : Value) (rows : List (List Int)) (i : Nat) (w : World) (h : RowsAt w v rows) (hs : smallB rows = true) (hi : i < rows.length) :
    Calls Try.prog 12 #[v, .int .i64 i] w fun e w' => ∃ b : Bool, e = .returned (.bool b) ∧ (b = true ↔ Ring rows i) ∧ Below w.heap.size w w' := by
  obtain ⟨hlen, -⟩ := smallB_true hs
  have HS := Lib.hid hs
  have HR := Lib.hid h
  clear hs h
  go_enter Try.func12, Try.ntmps12
  go_wp2_with fail
  refine (reached_any v rows i _ HR.out HS.out hi).mono ?_
  rintro e w1 ⟨vl, L, rfl, hown, hnd, hlt, hre, hb⟩
  obtain ⟨a1, c1, rfl⟩ := own_len hown
  have HO1 := Lib.hid hown
  have HLt := Lib.hid hlt
  have HRe := Lib.hid hre
  have hLl : L.length ≤ rows.length := nodup_le _ _ hnd hlt
  have HB := Lib.hid hb
  clear hown hlt hre hb hnd
  go_wp2_with fail
  go_loopw [15] (fun s wr => ∃ m : Nat, s = .int .i64 m ∧ m ≤ L.length ∧ (∀ k ∈ L.take m, ¬Reach rows k k) ∧ OwnInts wr w.heap.size (.slice a1 L.length c1) L ∧ Below w.heap.size w wr) (fun s _ => L.length - (intOf s).toNat)
  case atStart => exact ⟨0, rfl, Nat.zero_le _, by simp, HO1.out, HB.out⟩
  case round =>
    obtain ⟨m, rfl, hm, hno, hown, hbel⟩ := hrel
    have HNo := Lib.hid hno
    have HO := Lib.hid hown
    have hszr := hbel.size
    have HR2 : Hid (RowsAt wr v rows) := HR.out.below hbel
    have HBel := Lib.hid hbel
    clear hno hown hbel
    by_cases hlt : m < L.length
    · obtain ⟨g, rfl, hc⟩ := ints_at HO.out hlt
      have hk := HLt.out _ (List.getElem_mem hlt)
      have HK := Lib.hid ((HRe.out _).1 (List.getElem_mem hlt))
      have HNext : Hid (¬Reach rows L[m] L[m] → ∀ k ∈ L.take (m + 1), ¬Reach rows k k) := fun hn k hk => by
        rcases nat_take_succ hlt hk with h1 | h1
        · exact HNo.out k h1
        · rw [h1]; exact hn
      generalize L[m] = k at *
      go_wp2_with fail
      refine (reached_any v rows k _ HR2.out HS.out hk).mono ?_
      rintro e w2 ⟨vl2, L2, rfl, hown2, hnd2, hlt2, hre2, hb2⟩
      obtain ⟨a2, c2, rfl⟩ := own_len hown2
      have HO2 := Lib.hid hown2
      have HRe2 := Lib.hid hre2
      have hLl2 : L2.length ≤ rows.length := nodup_le _ _ hnd2 hlt2
      have HB2 : Hid (Below w.heap.size w w2) := below_via HBel.out hb2 hszr
      have HOv : Hid (OwnInts w2 w.heap.size (.slice (some ⟨g, 0, none⟩) L.length c1) L) := HO.out.over hb2
      clear hown2 hlt2 hre2 hb2 hnd2 hc
      go_wp2_with fail
      go_loop [23] (fun s => ∃ j : Nat, s = .int .i64 j ∧ j ≤ L2.length ∧ k ∉ L2.take j) (fun s => L2.length - (intOf s).toNat)
      case atStart => exact ⟨0, rfl, Nat.zero_le _, by simp⟩
      case round =>
        obtain ⟨j, rfl, hj, hnk⟩ := hrel
        have HNk := Lib.hid hnk
        clear hnk
        by_cases hlt2 : j < L2.length
        · obtain ⟨g2, rfl, hc2⟩ := ints_at HO2.out hlt2
          by_cases he : L2[j] = k
          · have HRing : Hid (Ring rows i) := ⟨k, Or.inr HK.out, (HRe2.out k).1 (he ▸ List.getElem_mem hlt2)⟩
            rw [he] at hc2
            clear he
            go_wp2_with fail
            refine bodyPost_ret (v := .bool true) (by simp [results, Try.results12, go_sem]) rfl (Or.inr ⟨rfl, HRing.out, HB2.out⟩)
          · have hb : (((L2[j] : Nat) : Int) == ((k : Nat) : Int)) = false := by rw [beq_eq_false_iff_ne]; omega
            have HN2 : Hid (k ∉ L2.take (j + 1)) := fun hk => by
              rcases nat_take_succ hlt2 hk with h1 | h1
              · exact HNk.out h1
              · exact he h1.symm
            clear he
            generalize L2[j] = x at *
            go_wp2_with fail
            go_round
            case rel => exact ⟨j + 1, by go_num, by omega, HN2.out⟩
            case measure => simp [intOf]; omega
        · have HN2 : Hid (¬Reach rows k k) := fun hr => HNk.out (by rw [List.take_of_length_le (by omega)]; exact (HRe2.out k).2 hr)
          go_wp2_with fail
          go_roundw
          case rel => exact ⟨m + 1, by go_num, by omega, HNext.out HN2.out, HOv.out, HB2.out⟩
          case measure => simp [intOf]; omega
    · have HAll : Hid (∀ k, Reach rows i k → ¬Reach rows k k) := fun k hk => HNo.out k (by rw [List.take_of_length_le (by omega)]; exact (HRe.out k).2 hk)
      go_wp2_with fail
      refine (reached_any v rows i _ HR2.out HS.out hi).mono ?_
      rintro e w2 ⟨vl2, L2, rfl, hown2, hnd2, hlt2, hre2, hb2⟩
      obtain ⟨a2, c2, rfl⟩ := own_len hown2
      have HO2 := Lib.hid hown2
      have HRe2 := Lib.hid hre2
      have hLl2 : L2.length ≤ rows.length := nodup_le _ _ hnd2 hlt2
      have HB2 : Hid (Below w.heap.size w w2) := below_via HBel.out hb2 hszr
      clear hown2 hlt2 hre2 hb2 hnd2
      go_wp2_with fail
      go_loop [36] (fun s => ∃ j : Nat, s = .int .i64 j ∧ j ≤ L2.length ∧ i ∉ L2.take j) (fun s => L2.length - (intOf s).toNat)
      case atStart => exact ⟨0, rfl, Nat.zero_le _, by simp⟩
      case round =>
        obtain ⟨j, rfl, hj, hnk⟩ := hrel
        have HNk := Lib.hid hnk
        clear hnk
        by_cases hlt2 : j < L2.length
        · obtain ⟨g2, rfl, hc2⟩ := ints_at HO2.out hlt2
          by_cases he : L2[j] = i
          · have HRing : Hid (Ring rows i) := ⟨i, Or.inl rfl, (HRe2.out i).1 (he ▸ List.getElem_mem hlt2)⟩
            rw [he] at hc2
            clear he
            go_wp2_with fail
            refine bodyPost_ret (v := .bool true) (by simp [results, Try.results12, go_sem]) rfl (Or.inr ⟨rfl, HRing.out, HB2.out⟩)
          · have hb : (((L2[j] : Nat) : Int) == ((i : Nat) : Int)) = false := by rw [beq_eq_false_iff_ne]; omega
            have HN2 : Hid (i ∉ L2.take (j + 1)) := fun hk => by
              rcases nat_take_succ hlt2 hk with h1 | h1
              · exact HNk.out h1
              · exact he h1.symm
            clear he
            generalize L2[j] = x at *
            go_wp2_with fail
            go_round
            case rel => exact ⟨j + 1, by go_num, by omega, HN2.out⟩
            case measure => simp [intOf]; omega
        · have HN2 : Hid (¬Ring rows i) := fun ⟨k, hk, hr⟩ => by
            rcases hk with rfl | hk
            · exact HNk.out (by rw [List.take_of_length_le (by omega)]; exact (HRe2.out _).2 hr)
            · exact HAll.out k hk hr
          go_wp2_with fail
          refine bodyPost_ret (v := .bool false) (by simp [results, Try.results12, go_sem]) rfl (Or.inl ⟨rfl, HN2.out, HB2.out⟩)

end Go.Proofs.Ytmkbdjekidcfaaa
