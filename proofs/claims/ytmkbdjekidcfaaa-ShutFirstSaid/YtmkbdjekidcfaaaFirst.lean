/- ShutFirst: the walk. -/
import Derived.Test.YtmkbdjekidcfaaaS
import Derived.Deep.RegionWith
namespace Go.Proofs.Ytmkbdjekidcfaaa
open Go.RowKit

theorem rings_yes (v : Value) (rows : List (List Int)) (i : Nat) (w : World) (h : RowsAt w v rows) (hs : smallB rows = true) (hi : i < rows.length) (hr : Ring rows i) :
    Calls Try.prog 12 #[v, .int .i64 i] w fun e w' => e = .returned (.bool true) ∧ Below w.heap.size w w' :=
  (rings_any v rows i w h hs hi).mono fun e w' ⟨b, he, hb, hB⟩ => ⟨by rw [he, hb.2 hr], hB⟩
theorem rings_no (v : Value) (rows : List (List Int)) (i : Nat) (w : World) (h : RowsAt w v rows) (hs : smallB rows = true) (hi : i < rows.length) (hr : ¬Ring rows i) :
    Calls Try.prog 12 #[v, .int .i64 i] w fun e w' => e = .returned (.bool false) ∧ Below w.heap.size w w' :=
  (rings_any v rows i w h hs hi).mono fun e w' ⟨b, he, hb, hB⟩ => ⟨by rw [he]; cases b with
    | false => rfl
    | true => exact absurd (hb.1 rfl) hr, hB⟩

theorem nd_of {rows : List (List Int)} {i k q : Nat} (hk : k < (rowOf rows i).length) (hq : (rowOf rows i).getD k 0 = (q : Int)) (hl : q < rows.length) (hn : q ≠ i) : nd rows i q = true := by
  unfold nd
  have hc : (rowOf rows i).contains (q : Int) = true := by
    have : (q : Int) ∈ rowOf rows i := by
      rw [← hq, List.getD_eq_getElem?_getD, List.getElem?_eq_getElem hk]
      exact List.getElem_mem _
    simpa using this
  rw [hc]
  simp
  omega

theorem below_undrew {w w2 : World} {n : Nat} (hb : Below (w.drewN n).heap.size (w.drewN n) w2) : Below w.heap.size w w2 := ⟨hb.os, hb.tape, hb.output, hb.size, hb.block⟩
theorem RowsAt.drew {w : World} {v : Value} {rows : List (List Int)} (h : RowsAt w v rows) (n : Nat) : RowsAt (w.drewN n) v rows := h.below ⟨rfl, rfl, rfl, Nat.le_refl _, fun _ _ => rfl⟩

structure FR (w : World) (rows : List (List Int)) (A D : Nat) (va vac : Value) (f : Nat → Int) (wr : World) : Prop where
  at_ : wr.ownsRow w.heap.size 3 1 (.slice (some ⟨D, 0, none⟩) rows.length rows.length) rows.length (il rows.length f)
  ord : OwnInts wr w.heap.size va (ordOf rows)
  cyc : OwnInts wr w.heap.size vac (cycOf rows)
  c0 : wr.cell? ⟨A, 0, none⟩ = some va
  c1 : wr.cell? ⟨A, 1, none⟩ = some vac
  bel : Below w.heap.size w wr
  sz : D < wr.heap.size

theorem FR.step {w wr : World} {rows : List (List Int)} {A D j : Nat} {va vac : Value} {f : Nat → Int} (h : FR w rows A D va vac f wr) (hA : A < D) (ha : ∀ k, va.ownBlock = some k → k < D) (hb : ∀ k, vac.ownBlock = some k → k < D) (hw : w.heap.size ≤ D)
    (x : Int) (g : Nat → Int) (hg : ∀ k, k < rows.length → g k = if k = j then x else f k) : FR w rows A D va vac g (wr.setCell ⟨D, j, none⟩ (.int .i64 x)) := by
  obtain ⟨h1, h2, h3, h4, h5, h6, h7⟩ := h
  have hst := (World.ownsRow.stored (w := wr) h1 j (.int .i64 x)).1
  rw [il_set x g hg] at hst
  refine ⟨hst, own_setCell_ne h2 (fun k hk => by have := ha k hk; show k ≠ D; omega) _, own_setCell_ne h3 (fun k hk => by have := hb k hk; show k ≠ D; omega) _, ?_, ?_, h6.setCell (by show _ ≤ D; omega) _, by simpa using h7⟩
  · rw [cell_set_ne (fun e => by have := congrArg Addr.block e; simp at this; omega)]; exact h4
  · rw [cell_set_ne (fun e => by have := congrArg Addr.block e; simp at this; omega)]; exact h5
theorem FR.congr {w wr : World} {rows : List (List Int)} {A D : Nat} {va vac : Value} {f g : Nat → Int} (h : FR w rows A D va vac f wr) (he : ∀ k, k < rows.length → f k = g k) : FR w rows A D va vac g wr := by
  obtain ⟨h1, h2, h3, h4, h5, h6, h7⟩ := h
  rw [il_congr he] at h1
  exact ⟨h1, h2, h3, h4, h5, h6, h7⟩
theorem FR.over {w wr w2 : World} {rows : List (List Int)} {A D : Nat} {va vac : Value} {f : Nat → Int} (h : FR w rows A D va vac f wr) (hA : A < D) (hb : Below wr.heap.size wr w2) : FR w rows A D va vac f w2 := by
  obtain ⟨h1, h2, h3, h4, h5, h6, h7⟩ := h
  have hs := hb.size
  exact ⟨own_below h1 hb, own_below h2 hb, own_below h3 hb, cell_over hb (by omega) h4, cell_over hb (by omega) h5, below_via h6 hb h6.size, by omega⟩

set_option maxHeartbeats 4000000 in
set_option maxRecDepth 100000 in
theorem first_go (v : Value) (rows : List (List Int)) (w : World) (h : RowsAt w v rows) (hs : smallB rows = true) :
    Calls Try.prog 4 #[v] w fun e w' => e = .returned (.bool true) ∧ Below w.heap.size w w' := by
  obtain ⟨i3, hi3, hz30, hz31, hz32⟩ := info_parts info3
  obtain ⟨hlen, -⟩ := smallB_true hs
  have h0 := h
  obtain ⟨a, c, rfl, -⟩ := h0
  have HR := Lib.hid h
  have HS := Lib.hid hs
  have HRL := Lib.hid (smallB_true hs).2
  have HO := Lib.hid (ordOf_inv rows)
  have HC := Lib.hid (cycOf_lt rows)
  have hol := ordOf_length rows
  have hcl := cycOf_length rows
  clear h hs
  go_enter Try.func4, Try.ntmps4
  go_wp2_with fail
  refine (small_yes _ rows _ HR.out HS.out).mono ?_
  rintro e w1 ⟨rfl, rfl⟩
  go_wp2_with fail
  refine (order_any _ rows _ HR.out HS.out).mono ?_
  rintro e w1 ⟨va, vac, rfl, hoa, hca, hb1⟩
  have hs1 := hb1.size
  have HOA := Lib.hid hoa
  have HCA := Lib.hid hca
  obtain ⟨a1, c1, rfl⟩ := own_len hoa
  obtain ⟨a2, c2, rfl⟩ := own_len hca
  have hAb : ∀ k, (Value.slice a1 (ordOf rows).length c1).ownBlock = some k → k < w1.heap.size + 1 := fun k hk => by have := (HOA.out.lt k hk).2; omega
  have hCb : ∀ k, (Value.slice a2 (cycOf rows).length c2).ownBlock = some k → k < w1.heap.size + 1 := fun k hk => by have := (HCA.out.lt k hk).2; omega
  have HAb := Lib.hid hAb
  have HCb := Lib.hid hCb
  clear hoa hca hAb hCb
  go_wp2_with (at_make; refine wpList_make_full _ rfl _ _ 25 rfl w.heap.size 3 i3 (.int .i64 0) 1 Try.underlying25 hi3 hz30 hz31 _ _ _ _ rows.length rfl rfl rfl rfl ?b2 ?b3 ?b4 ?_)
  case b2 => rw [hz32]; omega
  case b3 => unfold maxLen; omega
  case b4 => simp; omega
  intro w5 hown5 hg5
  have HF : Hid (FR w rows w1.heap.size (w1.heap.size + 1) (.slice a1 (ordOf rows).length c1) (.slice a2 (cycOf rows).length c2) (at1 rows 0) w5) := by
    refine ⟨?_, ?_, ?_, ?_, ?_, ?_, ?_⟩
    · rw [il_made] at hown5
      have he : il rows.length (at1 rows 0) = il rows.length (fun _ => 0) := il_congr fun k _ => by simp [at1]
      rw [he]
      simpa using hown5
    · exact (World.ownsRow.alloc HOA.out _).kept hg5 (by cases h : (Value.slice a1 (ordOf rows).length c1).ownBlock <;> simp)
    · exact (World.ownsRow.alloc HCA.out _).kept hg5 (by cases h : (Value.slice a2 (cycOf rows).length c2).ownBlock <;> simp)
    · exact cell_grown hg5 (by simp) (fun k hk => by cases hk) (by simp)
    · exact cell_grown hg5 (by simp) (fun k hk => by cases hk) (by simp)
    · exact Below.grown (hb1.alloc hs1 _) hg5 (by simp; omega) (fun k hk => by cases hk)
    · have := (hown5.lt _ rfl).2; simpa using this
  have z0 := HF.out.c0
  clear hown5 hg5 HOA HCA hb1
  go_wp2_with fail
  go_loopw [24] (fun s wr => ∃ m : Nat, s = .int .i64 m ∧ m ≤ (ordOf rows).length ∧ FR w rows w1.heap.size (w1.heap.size + 1) (.slice a1 (ordOf rows).length c1) (.slice a2 (cycOf rows).length c2) (at1 rows m) wr) (fun s _ => (ordOf rows).length - (intOf s).toNat)
  case atStart => exact ⟨0, rfl, Nat.zero_le _, HF.out⟩
  case round =>
    obtain ⟨m, rfl, hm, hF⟩ := hrel
    have HF1 := Lib.hid hF
    have q1 := hF.c1
    clear hF HF z0
    by_cases hlt : m < (ordOf rows).length
    · obtain ⟨g, rfl, hc⟩ := ints_at HF1.out.ord hlt
      have hin : (ordOf rows)[m] < rows.length := HO.out.2 _ (List.getElem_mem hlt)
      have hcell : wr.cell? ⟨w1.heap.size + 1, (ordOf rows)[m], none⟩ = some (.int .i64 0) := by
        have := World.ownsRow.cellAt HF1.out.at_ (ordOf rows)[m] (by omega)
        rwa [il_at hin, at1_fresh hlt] at this
      have hfr : wr.frozen? ⟨w1.heap.size + 1, (ordOf rows)[m], none⟩ = false := World.ownsRow.frozenAt HF1.out.at_ _
      have HSt := Lib.hid (HF1.out.step (by omega) HAb.out HCb.out (by omega) ((m : Int) + 1) (at1 rows (m + 1)) (fun j _ => at1_step hlt j))
      generalize (ordOf rows)[m] = I at *
      clear q1
      go_wp2_with fail
      go_roundw
      case rel => exact ⟨m + 1, by go_num, by omega, by simpa using HSt.out⟩
      case measure => simp [intOf]; omega
    · have HF2 : Hid (FR w rows w1.heap.size (w1.heap.size + 1) (.slice a1 (ordOf rows).length c1) (.slice a2 (cycOf rows).length c2) (at2 rows 0) wr) := HF1.out.congr fun k _ => by
        obtain rfl : m = (ordOf rows).length := by omega
        simp [at2]
      clear HF1
      go_wp2_with fail
      obtain ⟨wo, rfl⟩ : ∃ wo : World, wo = wr := ⟨_, rfl⟩
      go_loopw [53] (fun s wr => ∃ m : Nat, s = .int .i64 m ∧ m ≤ (cycOf rows).length ∧ FR w rows w1.heap.size (w1.heap.size + 1) (.slice a1 (ordOf rows).length c1) (.slice a2 (cycOf rows).length c2) (at2 rows m) wr) (fun s _ => (cycOf rows).length - (intOf s).toNat)
      case atStart => exact ⟨0, rfl, Nat.zero_le _, HF2.out⟩
      case round =>
        obtain ⟨p, rfl, hp, hF⟩ := hrel
        have HF3 := Lib.hid hF
        clear hF HF2 q1
        by_cases hlt2 : p < (cycOf rows).length
        · obtain ⟨g, rfl, hc⟩ := ints_at HF3.out.cyc hlt2
          have hin : (cycOf rows)[p] < rows.length := HC.out _ (List.getElem_mem hlt2)
          have hcell : wr.cell? ⟨w1.heap.size + 1, (cycOf rows)[p], none⟩ = some (.int .i64 0) := by
            have := World.ownsRow.cellAt HF3.out.at_ (cycOf rows)[p] (by omega)
            rwa [il_at hin, at2_fresh hlt2] at this
          have hfr : wr.frozen? ⟨w1.heap.size + 1, (cycOf rows)[p], none⟩ = false := World.ownsRow.frozenAt HF3.out.at_ _
          have HSt := Lib.hid (HF3.out.step (by omega) HAb.out HCb.out (by omega) (-1) (at2 rows (p + 1)) (fun j _ => at2_step hlt2 j))
          generalize (cycOf rows)[p] = I at *
          go_wp2_with fail
          go_roundw
          case rel => exact ⟨p + 1, by go_num, by omega, by simpa using HSt.out⟩
          case measure => simp [intOf]; omega
        · have HF4 : Hid (FR w rows w1.heap.size (w1.heap.size + 1) (.slice a1 (ordOf rows).length c1) (.slice a2 (cycOf rows).length c2) (fin rows) wr) := by
            obtain rfl : p = (cycOf rows).length := by omega
            exact HF3.out
          clear HF3
          go_wp2_with fail
          obtain ⟨wu, rfl⟩ : ∃ wu : World, wu = wr := ⟨_, rfl⟩
          go_loopw [78] (fun s wr => ∃ i : Nat, s = .int .i64 i ∧ i ≤ rows.length ∧ FR w rows w1.heap.size (w1.heap.size + 1) (.slice a1 (ordOf rows).length c1) (.slice a2 (cycOf rows).length c2) (fin rows) wr) (fun s _ => rows.length - (intOf s).toNat)
          case atStart => exact ⟨0, rfl, Nat.zero_le _, HF4.out⟩
          case round =>
            obtain ⟨i, rfl, hi, hF⟩ := hrel
            have HF5 := Lib.hid hF
            have hbel := hF.bel
            have hsz5 := hF.sz
            have HBel := Lib.hid hbel
            clear hF HF4
            have hszr := hbel.size
            have HR2 : Hid (RowsAt wr (.slice a rows.length c) rows) := HR.out.below hbel
            clear hbel
            by_cases hlt3 : i < rows.length
            · obtain ⟨a', c', e', -, hx⟩ := HR2.out
              simp only [Value.slice.injEq, true_and] at e'
              obtain ⟨rfl, rfl⟩ := e'
              obtain ⟨bi, oi, rv, ea, hcr, ar, cr, rfl, hlr, hxr⟩ := hx i hlt3
              subst ea
              have HXR := Lib.hid hxr
              have hrl : (rowOf rows i).length ≤ 400 := HRL.out i hlt3
              clear hx hxr
              have hcell : wr.cell? ⟨w1.heap.size + 1, i, none⟩ = some (.int .i64 (fin rows i)) := by
                have := World.ownsRow.cellAt HF5.out.at_ i (by omega)
                rwa [il_at hlt3] at this
              have hne : (fin rows i == 0) = false := by rw [beq_eq_false_iff_ne]; exact fin_ne hlt3
              have HAfter : Hid (∀ k : Nat, 0 < fin rows i → nd rows i k = true → 0 < fin rows k ∧ fin rows k < fin rows i) := fun k => fin_after hlt3
              have HRing := Lib.hid (fin_ring (rows := rows) hlt3)
              generalize fin rows i = fi at *
              go_wp2_with fail
              obtain ⟨wq, rfl⟩ : ∃ wq : World, wq = wr := ⟨_, rfl⟩
              go_loopw [91] (fun t wr => ∃ (k nq0 : Nat), t = .int .i64 k ∧ k ≤ (rowOf rows i).length ∧ wr = wq.drewN nq0) (fun t _ => (rowOf rows i).length - (intOf t).toNat)
              case atStart => exact ⟨0, 0, rfl, Nat.zero_le _, rfl⟩
              case round =>
                obtain ⟨k, nq0, rfl, hk, rfl⟩ := hrel
                by_cases hlt4 : k < (rowOf rows i).length
                · obtain ⟨bx, ox, ex, hcx, -⟩ := HXR.out k hlt4
                  subst ex
                  have HND : Hid (∀ q : Nat, (rowOf rows i).getD k 0 = (q : Int) → q < rows.length → q ≠ i → nd rows i q = true) := fun q hq hl hn => nd_of hlt4 hq hl hn
                  generalize (rowOf rows i).getD k 0 = q at *
                  by_cases h0 : 0 ≤ q
                  · obtain ⟨x, rfl⟩ := Int.eq_ofNat_of_zero_le h0
                    by_cases h1 : (x : Int) < rows.length
                    · by_cases h2 : (x : Int) = i
                      · have hb : ((x : Int) != (i : Int)) = false := by simp [h2]
                        clear h2
                        go_wp2_with fail
                        go_quiet (fail)
                        go_wp2_with fail
                        go_roundw
                        case rel => exact ⟨k + 1, _, by go_num, by omega, rfl⟩
                        case measure => simp [intOf]; omega
                      · have hb : ((x : Int) != (i : Int)) = true := by simp; omega
                        by_cases h3 : 0 < fi
                        · have hq2 := HAfter.out x h3 (HND.out x rfl (by omega) (by omega))
                          have hcq : wq.cell? ⟨w1.heap.size + 1, x, none⟩ = some (.int .i64 (fin rows x)) := by
                            have := World.ownsRow.cellAt HF5.out.at_ x (by omega)
                            rwa [il_at (by omega)] at this
                          generalize fin rows x = fx at *
                          obtain ⟨hq3, hq4⟩ := hq2
                          have hq5 : decide (fx < 0) = false := decide_eq_false (by omega)
                          have hq6 : decide (fi < fx) = false := decide_eq_false (by omega)
                          go_wp2_with fail
                          go_quiet (fail)
                          go_wp2_with fail
                          go_roundw
                          case rel => exact ⟨k + 1, _, by go_num, by omega, rfl⟩
                          case measure => simp [intOf]; omega
                        · have h4 : decide (0 < fi) = false := decide_eq_false h3
                          go_wp2_with fail
                          go_quiet (fail)
                          go_wp2_with fail
                          go_roundw
                          case rel => exact ⟨k + 1, _, by go_num, by omega, rfl⟩
                          case measure => simp [intOf]; omega
                    · have h4 : decide ((x : Int) < rows.length) = false := decide_eq_false h1
                      have h5 : decide (x < rows.length) = false := decide_eq_false (by omega)
                      have h6 : ¬x < rows.length := by omega
                      go_wp2_with fail
                      go_quiet (fail)
                      go_wp2_with fail
                      go_roundw
                      case rel => exact ⟨k + 1, _, by go_num, by omega, rfl⟩
                      case measure => simp [intOf]; omega
                  · have h4 : decide (0 ≤ q) = false := decide_eq_false h0
                    go_wp2_with fail
                    go_quiet (fail)
                    go_wp2_with fail
                    go_roundw
                    case rel => exact ⟨k + 1, _, by go_num, by omega, rfl⟩
                    case measure => simp [intOf]; omega
                · by_cases hneg : fi < 0
                  · have HY := Lib.hid (HRing.out.1 hneg)
                    go_wp2_with fail
                    go_region_with (go_at_call 12; refine (rings_yes _ rows i _ ?_ HS.out hlt3 HY.out).mono ?_; (exact HR2.out.drew _); rintro e w2 ⟨rfl, hb2⟩; have hB2 : Below wq.heap.size wq w2 := below_undrew hb2; have hc2 := cell_over hB2 hsz5 hcell)
                    all_goals go_wp2_with fail
                    all_goals refine ⟨⟨i + 1, by go_num, by omega, HF5.out.over (by omega) hB2⟩, ?_⟩
                    all_goals (simp [intOf]; omega)
                  · have HN : Hid (¬Ring rows i) := fun hr => hneg (HRing.out.2 hr)
                    have h4 : decide (fi < 0) = false := decide_eq_false hneg
                    go_wp2_with fail
                    go_region_with (go_at_call 12; refine (rings_no _ rows i _ ?_ HS.out hlt3 HN.out).mono ?_; (exact HR2.out.drew _); rintro e w2 ⟨rfl, hb2⟩; have hB2 : Below wq.heap.size wq w2 := below_undrew hb2; have hc2 := cell_over hB2 hsz5 hcell)
                    all_goals go_wp2_with fail
                    all_goals refine ⟨⟨i + 1, by go_num, by omega, HF5.out.over (by omega) hB2⟩, ?_⟩
                    all_goals (simp [intOf]; omega)
            · clear HF5
              go_wp2_with fail
              refine (awake_any _).mono ?_
              rintro e w7 ⟨rfl, hb7⟩
              have hB7 : Below w.heap.size w w7 := below_via HBel.out hb7 (by omega)
              go_wp2
              go_ret
              exact ⟨rfl, hB7⟩

theorem first_walk (v : Value) (rows : List (List Int)) (w : World) (h : RowsAt w v rows) : Calls Try.prog 4 #[v] w fun e w' => e = .returned (.bool true) ∧ Below w.heap.size w w' := by
  cases hs : smallB rows with
  | false =>
    go_enter Try.func4, Try.ntmps4
    go_wp2_with fail
    refine (small_no v rows _ h hs).mono ?_
    rintro e w1 ⟨rfl, rfl⟩
    go_wp2_with fail
    refine (awake_any _).mono ?_
    rintro e w2 ⟨rfl, hb2⟩
    go_wp2
    go_ret
    exact ⟨rfl, hb2⟩
  | true => exact first_go v rows w h hs

theorem walk_ShutFirst {H : Type} {enc : TypeId × Value → H} {base : Nat} {d : DataW H} {p : List MemPlace} (v : Value) (W : World) (ok : Value.okWide Try.prog W .any base 22 v) (tr : DataW.Trod enc Try.prog W 0 (fun _ => true) true 22 v d p)
    (hsz : ∀ n ∈ d.weights Try.prog 22, n ≤ reachBytes) : Calls Try.prog 4 #[v] W fun e w' => e = .returned (.bool true) ∧ Below W.heap.size W w' := by
  obtain ⟨rows, h⟩ := rows_open ok tr hsz
  exact first_walk v rows W h

end Go.Proofs.Ytmkbdjekidcfaaa
