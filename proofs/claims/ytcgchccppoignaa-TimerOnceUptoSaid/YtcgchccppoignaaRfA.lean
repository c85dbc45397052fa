/- Timer: the reference's list in memory; place, first, Next, New. -/
import Derived.Test.YtcgchccppoignaaTmT
namespace Go.Proofs.Ytcgchccppoignaa
open Go.RowKit
attribute [local go_sem ↓] Go.wp_at_zero Go.wp_at_succ
attribute [local go_sem] Go.undef

/-- The reference's list. -/
structure IsL (w : World) (B lb T : Nat) (L : List Tm) (v : Value) : Prop where
  t : w.cell? ⟨lb, 0, none⟩ = some (.int .i64 T)
  ft : w.frozen? ⟨lb, 0, none⟩ = false
  l : w.cell? ⟨lb, 1, none⟩ = some v
  fl : w.frozen? ⟨lb, 1, none⟩ = false
  row : w.ownsRow B 45 2 v L.length (fcs L)
  ne : v.ownBlock ≠ some lb
  lo : B ≤ lb
def OwnL (lb : Nat) (v : Value) (g : Nat) : Prop := g = lb ∨ v.ownBlock = some g
section
variable {w w' : World} {B lb T : Nat} {L : List Tm} {v : Value}
theorem IsL.own_lt (h : IsL w B lb T L v) {g : Nat} (hg : OwnL lb v g) : B ≤ g ∧ g < w.heap.size := by
  rcases hg with rfl | hg
  · exact ⟨h.lo, cell_lt h.t⟩
  · exact own_ge h.row hg
theorem IsL.far (h : IsL w B lb T L v) (he : ∀ g, OwnL lb v g → w'.heap[g]? = w.heap[g]?) : IsL w' B lb T L v := by
  have el := he lb (.inl rfl)
  exact ⟨(World.cell?_of_block (a := ⟨lb, 0, none⟩) el).trans h.t, (World.frozen?_of_block (a := ⟨lb, 0, none⟩) el).trans h.ft, (World.cell?_of_block (a := ⟨lb, 1, none⟩) el).trans h.l, (World.frozen?_of_block (a := ⟨lb, 1, none⟩) el).trans h.fl, own_keep h.row fun g hg => he g (.inr hg), h.ne, h.lo⟩
theorem IsL.wt (h : IsL w B lb T L v) {W : Nat → Prop} (ht : WT W w w') (hw : ∀ g, OwnL lb v g → ¬ W g) : IsL w' B lb T L v := h.far fun g hg => ht.far g (h.own_lt hg).2 (hw g hg)
theorem IsL.on (h : IsL w B lb T L v) (hb : Below w.heap.size w w') : IsL w' B lb T L v := h.far fun g hg => hb.block g (h.own_lt hg).2
/-- An element. -/
theorem IsL.at_ (h : IsL w B lb T L v) {j : Nat} (hj : j < L.length) : ∃ g o c x, v = .slice (some ⟨g, o, none⟩) L.length c ∧ L[j]? = some x ∧ w.cell? ⟨g, o + j * 2, none⟩ = some (.int .i64 x.at_) ∧ w.cell? ⟨g, o + j * 2 + 1, none⟩ = some (.int .i64 x.id) ∧ L.length ≤ c ∧ c ≤ 9223372036854775807 := by
  obtain ⟨a, c, rfl, hr⟩ := fired_rows h.row
  obtain ⟨g, o, p, rfl, -, hp, h1, h2⟩ := hr.fe hj
  have hc1 := hr.2.1
  have hc2 := hr.2.2.1
  unfold maxLen at hc2
  rw [List.getElem?_map, List.getElem?_eq_getElem hj] at hp
  simp [prT] at hp
  subst hp
  exact ⟨g, o, c, _, rfl, List.getElem?_eq_getElem hj, h1, h2, hc1, by omega⟩
theorem IsL.form (h : IsL w B lb T L v) : ∃ a c, v = .slice a L.length c ∧ L.length ≤ c ∧ c ≤ 9223372036854775807 := by
  obtain ⟨a, c, rfl, hr⟩ := fired_rows h.row
  have hc2 := hr.2.2.1
  unfold maxLen at hc2
  exact ⟨a, c, rfl, hr.2.1, by omega⟩
end
/-- The place of an id. -/
def placeT (L : List Tm) (q : Int) : Int := match L.findIdx? (fun x => x.id == q) with | some k => (k : Int) | none => -1
theorem placeT_at {L : List Tm} {q : Int} {k : Nat} {x : Tm} (hk : L[k]? = some x) (he : x.id = q) (hb : ∀ (i : Nat) (y : Tm), i < k → L[i]? = some y → y.id ≠ q) : placeT L q = k := by
  have : L.findIdx? (fun x => x.id == q) = some k := by
    rw [List.findIdx?_eq_some_iff_getElem]
    obtain ⟨hl, rfl⟩ := List.getElem?_eq_some_iff.1 hk
    refine ⟨hl, by simp [he], fun j hj => ?_⟩
    have := hb j _ hj (List.getElem?_eq_getElem (by omega))
    simpa using this
  rw [placeT, this]
theorem placeT_none {L : List Tm} {q : Int} (h : ∀ (i : Nat) (y : Tm), L[i]? = some y → y.id ≠ q) : placeT L q = -1 := by
  have : L.findIdx? (fun x => x.id == q) = none := by
    rw [List.findIdx?_eq_none_iff]
    intro x hx
    obtain ⟨i, hi⟩ := List.getElem?_of_mem hx
    simpa using h i x hi
  rw [placeT, this]
section
variable {w : World} {B lb T : Nat} {L : List Tm} {v : Value}
set_option maxHeartbeats 4000000 in
theorem lplace_any (h : IsL w B lb T L v) (q : Int) (_hL : L.length ≤ 8796093022208) :
    Calls Try.prog 33 #[pt lb 0, .int .i64 q] w fun e w' => e = .returned (.int .i64 (placeT L q)) ∧ w = w' := by
  have H := Lib.hid h
  have c1 := h.l
  obtain ⟨a, c, rfl, hc1, hc2⟩ := h.form
  clear h
  go_enter Try.func33, Try.ntmps33
  simp only [Go.undef]
  go_upto_region 2 with fail
  go_loop [5] (fun iv => ∃ j : Nat, iv = .int .i64 j ∧ j ≤ L.length ∧ ∀ (i : Nat) (y : Tm), i < j → L[i]? = some y → y.id ≠ q) (fun iv => L.length - (intOf iv).toNat)
  case atStart => exact ⟨0, rfl, Nat.zero_le _, fun i y hi => by omega⟩
  case round =>
    obtain ⟨j, rfl, hj, hs⟩ := hrel
    have HS := Lib.hid hs
    clear hs
    by_cases hlt : j < L.length
    · obtain ⟨g, o, c', x, hv, hx, d1, d2, -, -⟩ := H.out.at_ hlt
      obtain ⟨rfl, rfl⟩ : a = some ⟨g, o, none⟩ ∧ c = c' := by injection hv with h1 _ h3; exact ⟨h1, h3⟩
      have HX := Lib.hid hx
      clear hx hv d1
      by_cases he : x.id = q
      · have hb : (x.id == q) = true := by simp [he]
        have HE := Lib.hid he
        clear he
        go_wp2_with fail
        go_ret
        refine ⟨?_, rfl⟩
        rw [placeT_at HX.out HE.out HS.out]
        rfl
      · have hb : (x.id == q) = false := beq_eq_false_iff_ne.2 he
        have HE := Lib.hid he
        clear he
        go_wp2_with fail
        go_round
        case rel => exact ⟨j + 1, by go_num, by omega, fun i y hi hy => by
          by_cases e : i = j
          · subst e
            have := HX.out.symm.trans hy
            injection this with this
            rw [← this]; exact HE.out
          · exact HS.out i y (by omega) hy⟩
        case measure => simp [intOf]; omega
    · obtain rfl : j = L.length := by omega
      go_wp2_with fail
      go_ret
      refine ⟨?_, rfl⟩
      rw [placeT_none fun i y hy => HS.out i y (List.getElem?_eq_some_iff.1 hy).1 hy]
      rfl
end
end Go.Proofs.Ytcgchccppoignaa
