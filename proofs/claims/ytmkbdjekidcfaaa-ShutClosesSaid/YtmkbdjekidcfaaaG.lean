/- The contract of next, the closure of Order. -/
import Derived.Test.YtmkbdjekidcfaaaF
namespace Go.Proofs.Ytmkbdjekidcfaaa
open Go.RowKit
open Go.Maps (Keyed has Tidy)

/-- What thing i still waits for. -/
def sG (rows : List (List Int)) (G : List Nat) (i : Nat) (q : Int) : Bool := nd rows i q && !inG G q.toNat

theorem ready_iff {rows : List (List Int)} {G : List Nat} {i : Nat} : ready rows G i = true ↔ inG G i = false ∧ ∀ q, sG rows G i q = false := by
  unfold ready
  simp only [Bool.and_eq_true, Bool.not_eq_true', List.all_eq_true, Bool.or_eq_true]
  constructor
  · rintro ⟨h1, h2⟩
    refine ⟨h1, fun q => ?_⟩
    unfold sG
    cases hn : nd rows i q with
    | false => rfl
    | true =>
      have hq : 0 ≤ q ∧ q < rows.length := by unfold nd at hn; simp at hn; exact ⟨hn.1.1.1, hn.1.1.2⟩
      obtain ⟨m, rfl⟩ := Int.eq_ofNat_of_zero_le hq.1
      rcases h2 m (List.mem_range.2 (by omega)) with h | h
      · rw [hn] at h; cases h
      · simp [inG]; simpa using h
  · rintro ⟨h1, h2⟩
    refine ⟨h1, fun k _ => ?_⟩
    have := h2 k
    unfold sG at this
    cases hn : nd rows i k with
    | false => exact Or.inl rfl
    | true => rw [hn] at this; simp [inG] at this; right; simpa using this

def nextInt (rows : List (List Int)) (G : List Nat) : Int := match nextOf rows G with | none => -1 | some i => (i : Int)

set_option maxHeartbeats 2000000 in
theorem next_any (rows : List (List Int)) (G : List Nat) (w : World) (L D Gd B U : Nat) (vl : Value) (Bk Mk : Nat → Nat) (hn : rows.length ≤ 400) (hl : w.cell? ⟨L, 0, none⟩ = some vl) (hg : w.cell? ⟨Gd, 0, none⟩ = some (.slice (some ⟨D, 0, none⟩) rows.length rows.length))
    (hrow : w.ownsRow B 50 1 vl rows.length (ptrs rows.length Bk)) (htb : TB w B U rows.length 400 Bk Mk (sG rows G)) (hd : OwnBools w B (.slice (some ⟨D, 0, none⟩) rows.length rows.length) rows.length (inG G)) :
    Calls Try.prog 19 #[.pointer (some ⟨L, 0, none⟩), .pointer (some ⟨Gd, 0, none⟩)] w fun e w' => e = .returned (.int .i64 (nextInt rows G)) ∧ w = w' := by
  obtain ⟨al, cl, rfl⟩ := own_len hrow
  have HRow := Lib.hid hrow
  have HTB := Lib.hid htb
  have HD := Lib.hid hd
  clear hrow htb hd
  go_enter Try.func19, Try.ntmps19
  go_wp2_with fail
  go_loop [7] (fun t => ∃ k : Nat, k ≤ rows.length ∧ t = .int .i64 k ∧ ∀ j, j < k → ready rows G j = false) (fun t => rows.length - (intOf t).toNat)
  case atStart => exact ⟨0, Nat.zero_le _, rfl, fun j hj => absurd hj (by omega)⟩
  case round =>
    obtain ⟨k, hk, rfl, ht⟩ := hrel
    have HT := Lib.hid ht
    clear ht
    by_cases hlt : k < rows.length
    · obtain ⟨g, cap, e1, hc, -⟩ := own_at HRow.out hlt
      simp only [Value.slice.injEq] at e1
      obtain ⟨rfl, -, -⟩ := e1
      rw [ptrs_at hlt] at hc
      have hgone : w.cell? ⟨D, k, none⟩ = some (.bool (inG G k)) := by
        have := World.ownsRow.cellAt HD.out k (by omega)
        rwa [bl_at hlt] at this
      have hmap := cell_thing1 (HTB.out.obj k hlt)
      have HNX : Hid (ready rows G k = false → ∀ j, j < k + 1 → ready rows G j = false) := fun h j hj => by
        by_cases e : j = k
        · subst e; exact h
        · exact HT.out j (by omega)
      cases hin : inG G k with
      | true =>
        rw [hin] at hgone
        have hr : Hid (ready rows G k = false) := by
          cases h : ready rows G k with
          | false => rfl
          | true => have := (ready_iff.1 h).1; rw [hin] at this; cases this
        clear hin
        go_wp2_with fail
        go_round
        case rel => exact ⟨k + 1, by omega, by go_num, HNX.out hr.out⟩
        case measure => simp [intOf]; omega
      | false =>
        rw [hin] at hgone
        obtain ⟨D', hD1, hD2⟩ := HTB.out.set k hlt
        have hz := size_zero hD1 hD2
        have hle := hD1.size_le
        have HD1 := Lib.hid hD1
        clear hD1 hD2
        by_cases hs : Maps.size D' = 0
        · have hr : Hid (nextInt rows G = k) := by
            show nextInt rows G = k
            unfold nextInt
            rw [nextOf_eq_some hlt (ready_iff.2 ⟨hin, hz.1 hs⟩) HT.out]
          have hb : (((Maps.size D' : Nat) : Int) == 0) = true := by simp [hs]
          have HS := Lib.hid hs
          clear hin hs hz
          have hlen : ∀ ty, (Builtin.len_ #[51] ty #[.map (some (Mk k))]).run Try.prog w = .ok (.int .i64 (Maps.size D')) w := fun ty => HD1.out.len Try.underlying51 ty
          go_wp2_with fail
          go_ret
          exact ⟨by rw [hr.out]; rfl, rfl⟩
        · have hr : Hid (ready rows G k = false) := by
            cases h : ready rows G k with
            | false => rfl
            | true => exact absurd (hz.2 (ready_iff.1 h).2) hs
          have hb : (((Maps.size D' : Nat) : Int) == 0) = false := by simp [hs]
          have hlen : ∀ ty, (Builtin.len_ #[51] ty #[.map (some (Mk k))]).run Try.prog w = .ok (.int .i64 (Maps.size D')) w := fun ty => HD1.out.len Try.underlying51 ty
          have HS := Lib.hid hs
          clear hin hs hz
          go_wp2_with fail
          go_round
          case rel => exact ⟨k + 1, by omega, by go_num, HNX.out hr.out⟩
          case measure => simp [intOf]; omega
    · have hr : Hid (nextInt rows G = -1) := by
        show nextInt rows G = -1
        unfold nextInt
        rw [nextOf_eq_none (fun i hi => HT.out i (by omega))]
      go_wp2_with fail
      go_ret
      exact ⟨by rw [hr.out]; rfl, rfl⟩

end Go.Proofs.Ytmkbdjekidcfaaa
