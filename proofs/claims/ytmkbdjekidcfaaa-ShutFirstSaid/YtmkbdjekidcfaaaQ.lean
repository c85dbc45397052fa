/- The contract of reached. -/
import Derived.Test.YtmkbdjekidcfaaaN
namespace Go.Proofs.Ytmkbdjekidcfaaa
open Go.RowKit

def iv (L : List Nat) : List Value := L.map fun i : Nat => Value.int .i64 (i : Int)
theorem iv_snoc (L : List Nat) (k : Nat) : iv L ++ [.int .i64 (k : Int)] = iv (L ++ [k]) := by simp [iv]
theorem iv_length (L : List Nat) : (iv L).length = L.length := by simp [iv]

structure RS (w wr : World) (n D : Nat) (L W : List Nat) (vl vw : Value) : Prop where
  don : OwnBools wr w.heap.size (.slice (some ⟨D, 0, none⟩) n n) n (inG L)
  lst : wr.ownsRow (D + 1) 3 1 vl L.length (iv L)
  q : TailAt wr (D + 1) 3 vw W.length (iv W)
  ne : ∀ g, vl.ownBlock = some g → vw.ownBlock ≠ some g
  bel : Below w.heap.size w wr
  lo : w.heap.size ≤ D
  sz : D < wr.heap.size

theorem RS.mark {w wr w3 : World} {n D k g cap : Nat} {L W : List Nat} {vl vw : Value} (h : RS w wr n D L W vl vw)
    (hown : w3.ownsRow (D + 1) 3 1 (.slice (some ⟨g, 0, none⟩) (L.length + 1) cap) (L.length + 1) (iv L ++ [.int .i64 (k : Int)]))
    (hg : ((wr.setCell ⟨D, k, none⟩ (.bool true)).alloc (.cells #[.int .i64 (k : Int)] 3)).grownBy w3 vl.ownBlock) (hl : vl.ownBlock = some g ∨ g = wr.heap.size + 1) :
    RS w w3 n D (L ++ [k]) W (.slice (some ⟨g, 0, none⟩) (L.length + 1) cap) vw := by
  obtain ⟨don, lst, q, ne, bel, lo, sz⟩ := h
  have hpast := row_past lst
  have hsz : (((wr.setCell ⟨D, k, none⟩ (.bool true)).alloc (.cells #[.int .i64 (k : Int)] 3))).heap.size = wr.heap.size + 1 := by simp
  have hs3 := hg.size
  rw [hsz] at hs3
  have hst := (World.ownsRow.stored (w := wr) don k (.bool true)).1
  rw [bl_set true (inG (L ++ [k])) (fun j _ => inG_snoc L k j)] at hst
  refine ⟨(hst.alloc _).kept hg (Or.inr (fun e => by have := hpast D (by rw [← e]; rfl); omega)), ?_, ?_, ?_, ?_, lo, by omega⟩
  · rw [iv_snoc] at hown
    rw [List.length_append]
    exact hown
  · refine q.of_block (fun g' hg' => ?_)
    have h1 := q.lt g' hg'
    refine (hg.block g' (by rw [hsz]; omega) (fun e => ne g' e.symm hg')).trans ((alloc_old (by simp; omega)).trans (setCell_block (by show g' ≠ D; omega)))
  · intro g' hg' e
    simp [Value.ownBlock] at hg'
    subst hg'
    rcases hl with h1 | h1
    · exact ne _ h1 e
    · have := (q.lt _ e).2; omega
  · exact Below.grown (Below.alloc (Below.setCell bel (by show _ ≤ D; omega) _) (by simp; omega) _) hg (by rw [hsz]; omega) (fun j hj => by have := hpast j hj; omega)

theorem RS.queue {w wr w4 : World} {n D k g off cap : Nat} {L W : List Nat} {vl vw : Value} (h : RS w wr n D L W vl vw)
    (hown : TailAt w4 (D + 1) 3 (.slice (some ⟨g, off, none⟩) (W.length + 1) cap) (W.length + 1) (iv W ++ [.int .i64 (k : Int)]))
    (hg : (wr.alloc (.cells #[.int .i64 (k : Int)] 3)).grownBy w4 vw.ownBlock) (hl : vw.ownBlock = some g ∨ g = (wr.alloc (.cells #[.int .i64 (k : Int)] 3)).heap.size) :
    RS w w4 n D L (W ++ [k]) vl (.slice (some ⟨g, off, none⟩) (W.length + 1) cap) := by
  obtain ⟨don, lst, q, ne, bel, lo, sz⟩ := h
  have hsz : ((wr.alloc (.cells #[.int .i64 (k : Int)] 3))).heap.size = wr.heap.size + 1 := by simp
  have hs4 := hg.size
  rw [hsz] at hs4
  refine ⟨(World.ownsRow.alloc don _).kept hg (Or.inr (fun e => by have := (q.lt D (by rw [← e]; rfl)).1; omega)), ?_, ?_, ?_, ?_, lo, by omega⟩
  · refine (lst.alloc _).kept hg ?_
    cases hv : vl.ownBlock with
    | none => exact Or.inl rfl
    | some g' => exact Or.inr (fun e => ne g' hv e.symm)
  · rw [iv_snoc] at hown
    rw [List.length_append]
    exact hown
  · intro g' hg' e
    simp [Value.ownBlock] at e
    subst e
    rcases hl with h1 | h1
    · exact ne _ hg' h1
    · have := (lst.lt _ hg').2; rw [hsz] at h1; omega
  · exact Below.grown (Below.alloc bel (by have := bel.size; omega) _) hg (by rw [hsz]; have := bel.size; omega) (fun j hj => by have := (q.lt j hj).1; omega)

theorem RS.pop1 {w wr : World} {n D x g o cap : Nat} {L W : List Nat} {vl : Value} (h : RS w wr n D L (x :: W) vl (.slice (some ⟨g, o, none⟩) (x :: W).length cap)) (hc : cap = 1) :
    RS w wr n D L W vl (.slice (some ⟨g, o, none⟩) W.length 0) := by
  obtain ⟨don, lst, q, ne, bel, lo, sz⟩ := h
  refine ⟨don, lst, ?_, fun g' hg' => ne g' hg', bel, lo, sz⟩
  obtain ⟨hl, g', o', cap', cur, e, hB, hh, hn, hm, hs, ht⟩ := q
  simp only [Value.slice.injEq, Option.some.injEq, Addr.mk.injEq, and_true, true_and] at e
  obtain ⟨⟨rfl, rfl⟩, rfl⟩ := e
  subst hc
  have hW : W = [] := by cases W with
    | nil => rfl
    | cons a b => simp at hn
  subst hW
  exact ⟨rfl, g, o, 0, cur, rfl, hB, hh, Nat.le_refl _, by decide, by omega, by simp [iv]⟩

theorem RS.pop2 {w wr : World} {n D x g o cap : Nat} {L W : List Nat} {vl : Value} (h : RS w wr n D L (x :: W) vl (.slice (some ⟨g, o, none⟩) (x :: W).length cap)) (hn0 : W.length + 1 ≤ cap) (_ : ¬cap = 1) :
    RS w wr n D L W vl (.slice (some ⟨g, o + 1, none⟩) W.length (cap - 1)) := by
  obtain ⟨don, lst, q, ne, bel, lo, sz⟩ := h
  refine ⟨don, lst, ?_, fun g' hg' => ne g' hg', bel, lo, sz⟩
  obtain ⟨hl, g', o', cap', cur, e, hB, hh, hn, hm, hs, ht⟩ := q
  simp only [Value.slice.injEq, Option.some.injEq, Addr.mk.injEq, and_true, true_and] at e
  obtain ⟨⟨rfl, rfl⟩, rfl⟩ := e
  refine ⟨by simp [iv], g, o + 1, cap - 1, cur, rfl, hB, hh, by omega, by omega, by omega, ?_⟩
  have h2 : (cur.toList.drop o).tail = cur.toList.drop (o + 1) := List.tail_drop
  rw [← h2]
  cases hd : cur.toList.drop o with
  | nil => rw [hd] at ht; simp [iv] at ht
  | cons y ys =>
    rw [hd] at ht
    simp [iv] at ht
    simpa [iv] using ht.2

def RJ (rows : List (List Int)) (i x : Nat) (w : World) (k : Nat) (s29 s6 s7 : Value) (wr : World) : Prop :=
  ∃ (m : Nat) (L W : List Nat), s29 = .int .i64 m ∧ m ≤ (rowOf rows x).length ∧ BJ rows i x m L W ∧ 2 * (rows.length - L.length) + W.length ≤ k ∧ W.length ≤ L.length ∧ RS w wr rows.length w.heap.size L W s6 s7

def RB (rows : List (List Int)) (i : Nat) (w : World) (k : Nat) (s6 s7 : Value) (wr : World) : Prop :=
  ∃ L W, BI rows i L W ∧ 2 * (rows.length - L.length) + W.length ≤ k ∧ W.length ≤ L.length + 1 ∧ RS w wr rows.length w.heap.size L W s6 s7

set_option maxHeartbeats 4000000 in
set_option maxRecDepth 100000 in
theorem reached_any (v : Value) (rows : List (List Int)) (i : Nat) (w : World) (h : RowsAt w v rows) (hs : smallB rows = true) (hi : i < rows.length) :
    Calls Try.prog 21 #[v, .int .i64 i] w fun e w' => ∃ vl L, e = .returned vl ∧ OwnInts w' w.heap.size vl L ∧ L.Nodup ∧ (∀ k ∈ L, k < rows.length) ∧ (∀ k, k ∈ L ↔ Reach rows i k) ∧ Below w.heap.size w w' := by
  obtain ⟨i4, hi4, hz40, hz41, hz42⟩ := info_parts info4
  obtain ⟨i3, hi3, hz30, hz31, hz32⟩ := info_parts info3
  obtain ⟨hlen, hrow⟩ := smallB_true hs
  have HRL := Lib.hid hrow
  have h0 := h
  obtain ⟨a, c, rfl, -, hx⟩ := h0
  have HX := Lib.hid hx
  clear hx hs hrow h
  go_enter Try.func21, Try.ntmps21
  go_wp2_with (at_make; refine wpList_make_full _ rfl _ _ 32 rfl w.heap.size 4 i4 (.bool false) 1 Try.underlying32 hi4 hz40 hz41 _ _ _ _ rows.length rfl rfl rfl rfl ?b2 ?b3 ?b4 ?_)
  case b2 => rw [hz42]; omega
  case b3 => unfold maxLen; omega
  case b4 => simp
  intro w1 hown1 hg1
  have hs1 : w.heap.size < w1.heap.size := (hown1.lt _ rfl).2
  have hB1 : Below w.heap.size w w1 := Below.grown (Below.refl _ _) hg1 (Nat.le_refl _) (fun k hk => by cases hk)
  have HS : Hid (RS w (w1.alloc (.cells #[.int .i64 (i : Int)] 3)) rows.length w.heap.size [] [i] (.slice none 0 0) (.slice (some ⟨w1.heap.size, 0, none⟩) 1 1)) := by
    refine ⟨?_, ⟨by simp [iv], .inl ⟨rfl, rfl⟩⟩, ⟨by simp [iv], w1.heap.size, 0, 1, #[.int .i64 (i : Int)], rfl, by omega, alloc_new rfl, Nat.le_refl _, by decide, by simp, by simp [iv]⟩, fun g hg => by simp [Value.ownBlock] at hg, hB1.alloc (by omega) _, Nat.le_refl _, by simp; omega⟩
    show World.ownsRow _ _ _ _ _ _ _
    have := bl_made rows.length
    rw [this] at hown1
    exact hown1.alloc _
  clear hown1 hg1
  go_wp2_with fail
  go_loopg [6, 7] (2 * rows.length + 1) (fun k s6 s7 wr => RB rows i w k s6 s7 wr)
  case atStart => exact ⟨[], [i], BI.start rows i, by simp, by simp, HS.out⟩
  case round =>
    obtain ⟨L, W, hBI, hgk, hWL, hRS⟩ := hrel
    have HWL := Lib.hid hWL
    clear hWL
    have HGk := Lib.hid hgk
    have HBI := Lib.hid hBI
    have HRS := Lib.hid hRS
    clear hgk hBI
    cases W with
    | nil =>
      obtain ⟨-, g, o, cap, cur, rfl, -⟩ := hRS.q
      have hbel := hRS.bel
      have HL := Lib.hid (own_mono (B' := w.heap.size) hRS.lst (by omega))
      clear hRS
      go_wp2_with fail
      go_ret
      exact ⟨_, L, rfl, HL.out, HBI.out.nodup, HBI.out.lt, HBI.out.end, hbel⟩
    | cons x W' =>
      have hxn : x < rows.length := by
        rcases HBI.out.wait x (by simp) with h | h
        · omega
        · exact HBI.out.lt x h
      obtain ⟨hql, g, o, cap, cur, rfl, hqB, hqh, hqn, hqm, hqs, hqt⟩ := hRS.q
      have hx0 : wr.cell? ⟨g, o, none⟩ = some (.int .i64 (x : Int)) := by
        have := hRS.q.at (j := 0) (by simp)
        obtain ⟨g', o', cap', e, hc, -⟩ := this
        simp only [Value.slice.injEq, Option.some.injEq, Addr.mk.injEq] at e
        obtain ⟨⟨rfl, rfl, -⟩, -, -⟩ := e
        simpa [iv] using hc
      have hqn' : W'.length + 1 ≤ cap := hqn
      have hbel := hRS.bel
      have hqm' : cap ≤ 9223372036854775807 := by unfold maxLen at hqm; omega
      obtain ⟨br, or', rv, e1, hcr, ar, cr, rfl, hlr, hxr⟩ := HX.out x hxn
      subst e1
      have hcr2 : wr.cell? ⟨br, or' + x, none⟩ = some (.slice ar (rowOf rows x).length cr) := cell_over hbel (World.block_lt_of_cell? _ _ hcr) hcr
      have HXR := Lib.hid hxr
      have hrl : (rowOf rows x).length ≤ 400 := HRL.out x hxn
      clear hRS hxr hcr hql hqB hqh hqs hqt
      have HBJ := Lib.hid HBI.out.pop
      clear HBI HS
      by_cases hc1 : cap = 1
      · have HRP := Lib.hid (HRS.out.pop1 hc1)
        clear HRS
        go_wp2_with fail
        clear hc1 hqn hqn' hqm hqm' hx0
        obtain ⟨wo, rfl⟩ : ∃ wo : World, wo = wr := ⟨_, rfl⟩
        go_loopw [29, 6, 7] (RJ rows i x w (gk - 1)) (fun t _ _ _ => (rowOf rows x).length - (intOf t).toNat)
        case atStart => exact ⟨0, L, W', rfl, Nat.zero_le _, HBJ.out, by have := HGk.out; simp at this; omega, by have := HWL.out; simp at this; omega, HRP.out⟩
        case round =>
          obtain ⟨m, L2, W2, rfl, hm, hBJ2, hmk, hWL2, hRS2⟩ := hrel
          have HBJ2 := Lib.hid hBJ2
          have HM := Lib.hid hmk
          have HR2 := Lib.hid hRS2
          have hbel2 := hRS2.bel
          have hsz2 := hRS2.sz
          have hL2 : L2.length ≤ rows.length := nodup_le _ _ hBJ2.nodup hBJ2.lt
          clear hBJ2 hmk hRS2 HBJ HRP
          by_cases hlt : m < (rowOf rows x).length
          · obtain ⟨bx, ox, e2, hcx, -⟩ := HXR.out m hlt
            subst e2
            have hcx2 := cell_over hbel2 (World.block_lt_of_cell? _ _ hcx) hcx
            have HQ : Hid (∀ q, (rowOf rows x).getD m 0 = q → ¬(0 ≤ q ∧ q < rows.length ∧ q ≠ (x : Int) ∧ inG L2 q.toNat = false) → BJ rows i x (m + 1) L2 W2) := by
              refine fun q hq hn => HBJ2.out.skip hlt fun k hk hkl hkx => ?_
              rw [hq] at hk
              subst hk
              cases hin : inG L2 k with
              | true => simpa [inG] using hin
              | false => exact absurd ⟨by omega, by omega, by omega, by simpa using hin⟩ hn
            have HQ2 : Hid (∀ k : Nat, (rowOf rows x).getD m 0 = (k : Int) → k < rows.length → k ≠ x → inG L2 k = false → BJ rows i x (m + 1) (L2 ++ [k]) (W2 ++ [k])) := fun k hk hkl hkx hin => HBJ2.out.mark hlt hk hkl hkx (fun h => by simp [inG, h] at hin)
            have HE : Hid ((rowOf rows x).getD m 0 = (rowOf rows x).getD m 0) := rfl
            clear hcx
            revert HE
            generalize hq : (rowOf rows x).getD m 0 = q at *
            intro HE
            clear hq
            by_cases h0 : 0 ≤ q
            · obtain ⟨k, rfl⟩ := Int.eq_ofNat_of_zero_le h0
              by_cases h1 : (k : Int) < rows.length
              · by_cases h2 : (k : Int) = x
                · have hb : ((k : Int) != (x : Int)) = false := by simp [h2]
                  have HF := Lib.hid (HQ.out _ rfl (fun h => h.2.2.1 h2))
                  clear h2
                  go_wp2_with fail
                  go_roundw
                  case rel => exact ⟨m + 1, L2, W2, by go_num, by omega, HF.out, HM.out, hWL2, HR2.out⟩
                  case measure => simp [intOf]; omega
                · have hb : ((k : Int) != (x : Int)) = true := by simp; omega
                  have hcell : wr.cell? ⟨w.heap.size, k, none⟩ = some (.bool (inG L2 k)) := by
                    have := World.ownsRow.cellAt HR2.out.don k (by omega)
                    rwa [bl_at (by omega)] at this
                  cases hin : inG L2 k with
                  | true =>
                    rw [hin] at hcell
                    have HF := Lib.hid (HQ.out _ rfl (fun h => by have := h.2.2.2; simp [hin] at this))
                    clear hin
                    go_wp2_with fail
                    go_roundw
                    case rel => exact ⟨m + 1, L2, W2, by go_num, by omega, HF.out, HM.out, hWL2, HR2.out⟩
                    case measure => simp [intOf]; omega
                  | false =>
                    rw [hin] at hcell
                    have HF := Lib.hid (HQ2.out k rfl (by omega) (by omega) hin)
                    have hL3 : L2.length + 1 ≤ rows.length := by
                      have := nodup_le _ _ HF.out.nodup HF.out.lt
                      simpa using this
                    clear hin
                    have hfr : wr.frozen? ⟨w.heap.size, k, none⟩ = false := World.ownsRow.frozenAt HR2.out.don k
                    have HO : Hid ((wr.setCell ⟨w.heap.size, k, none⟩ (.bool true)).ownsRow (w.heap.size + 1) 3 1 u6 L2.length (iv L2)) := ownsRow_setCell_below HR2.out.lst (by show w.heap.size < _; omega) _
                    go_wp2_with (at_builtin; refine wpList_append_lies _ rfl _ _ 25 rfl (w.heap.size + 1) 3 i3 (.int .i64 0) 1 8 Try.underlying25 hi3 hz30 hz31 hz32 rfl (by decide) _ _ _ rfl (HO.out.alloc _) ⟨wr.heap.size, 0, none⟩ 1 1 [.int .i64 (k : Int)] rfl rfl ?pc1 ?pc2 ?pc3 ?pc4 ?pc5 ?pc6 (wr.heap.size + 1) ?pc7 ?_)
                    case pc2 => simp [Value.oneCell']
                    case pc4 => unfold maxLen; omega
                    case pc5 => omega
                    case pc6 => omega
                    intro g3 cap3 w3 hown3 hgrow3 hat3 hlt3
                    have HR3 := Lib.hid (HR2.out.mark hown3 hgrow3 hat3)
                    have hsz3 := HR3.out.sz
                    have hbel3 := HR3.out.bel
                    clear hown3 hgrow3 hat3 HO hcell hfr
                    go_wp2_with (at_builtin; refine wpList_append_tail _ rfl _ _ 25 rfl (w.heap.size + 1) 3 i3 (.int .i64 0) 8 Try.underlying25 hi3 hz30 hz31 hz32 rfl _ _ _ rfl (HR3.out.q.of_block (fun g hg => alloc_old (HR3.out.q.lt g hg).2)) ⟨w3.heap.size, 0, none⟩ 1 (.int .i64 (k : Int)) rfl ?pd1 ?pd2 ?pd3 ?pd4 ?pd5 ?_)
                    case pd1 => exact one_new rfl
                    case pd2 => simp [Value.oneCell']
                    case pd3 => unfold maxLen; omega
                    case pd4 => omega
                    case pd5 => simp; omega
                    intro g4 o4 cap4 w4 hown4 hgrow4 hat4
                    have HR4 := Lib.hid (HR3.out.queue hown4 hgrow4 (by simpa using hat4))
                    clear hown4 hgrow4 hat4 HR3
                    go_wp2_with fail
                    refine ⟨?_, ?measure⟩
                    (repeat apply Exists.intro)
                    refine ⟨?rel, rfl⟩
                    case rel => exact ⟨m + 1, L2 ++ [k], W2 ++ [k], by go_num, by omega, HF.out, by have := HM.out; simp; omega, by simp; omega, by simpa using HR4.out⟩
                    case measure => simp [intOf]; omega
              · have HF := Lib.hid (HQ.out _ rfl (fun h => h1 h.2.1))
                go_wp2_with fail
                go_roundw
                case rel => exact ⟨m + 1, L2, W2, by go_num, by omega, HF.out, HM.out, hWL2, HR2.out⟩
                case measure => simp [intOf]; omega
            · have HF := Lib.hid (HQ.out _ rfl (fun h => h0 h.1))
              go_wp2_with fail
              go_roundw
              case rel => exact ⟨m + 1, L2, W2, by go_num, by omega, HF.out, HM.out, hWL2, HR2.out⟩
              case measure => simp [intOf]; omega
          · go_wp2_with fail
            go_roundg (gk - 1)
            case measure => have := HGk.out; simp at this; omega
            case rel => exact ⟨L2, W2, HBJ2.out.done (by omega), HM.out, by omega, HR2.out⟩
      · have HRP := Lib.hid (HRS.out.pop2 hqn' hc1)
        clear HRS
        go_wp2_with fail
        clear hc1 hqn hqn' hqm hqm' hx0
        obtain ⟨wo, rfl⟩ : ∃ wo : World, wo = wr := ⟨_, rfl⟩
        go_loopw [29, 6, 7] (RJ rows i x w (gk - 1)) (fun t _ _ _ => (rowOf rows x).length - (intOf t).toNat)
        case atStart => exact ⟨0, L, W', rfl, Nat.zero_le _, HBJ.out, by have := HGk.out; simp at this; omega, by have := HWL.out; simp at this; omega, HRP.out⟩
        case round =>
          obtain ⟨m, L2, W2, rfl, hm, hBJ2, hmk, hWL2, hRS2⟩ := hrel
          have HBJ2 := Lib.hid hBJ2
          have HM := Lib.hid hmk
          have HR2 := Lib.hid hRS2
          have hbel2 := hRS2.bel
          have hsz2 := hRS2.sz
          have hL2 : L2.length ≤ rows.length := nodup_le _ _ hBJ2.nodup hBJ2.lt
          clear hBJ2 hmk hRS2 HBJ HRP
          by_cases hlt : m < (rowOf rows x).length
          · obtain ⟨bx, ox, e2, hcx, -⟩ := HXR.out m hlt
            subst e2
            have hcx2 := cell_over hbel2 (World.block_lt_of_cell? _ _ hcx) hcx
            have HQ : Hid (∀ q, (rowOf rows x).getD m 0 = q → ¬(0 ≤ q ∧ q < rows.length ∧ q ≠ (x : Int) ∧ inG L2 q.toNat = false) → BJ rows i x (m + 1) L2 W2) := by
              refine fun q hq hn => HBJ2.out.skip hlt fun k hk hkl hkx => ?_
              rw [hq] at hk
              subst hk
              cases hin : inG L2 k with
              | true => simpa [inG] using hin
              | false => exact absurd ⟨by omega, by omega, by omega, by simpa using hin⟩ hn
            have HQ2 : Hid (∀ k : Nat, (rowOf rows x).getD m 0 = (k : Int) → k < rows.length → k ≠ x → inG L2 k = false → BJ rows i x (m + 1) (L2 ++ [k]) (W2 ++ [k])) := fun k hk hkl hkx hin => HBJ2.out.mark hlt hk hkl hkx (fun h => by simp [inG, h] at hin)
            have HE : Hid ((rowOf rows x).getD m 0 = (rowOf rows x).getD m 0) := rfl
            clear hcx
            revert HE
            generalize hq : (rowOf rows x).getD m 0 = q at *
            intro HE
            clear hq
            by_cases h0 : 0 ≤ q
            · obtain ⟨k, rfl⟩ := Int.eq_ofNat_of_zero_le h0
              by_cases h1 : (k : Int) < rows.length
              · by_cases h2 : (k : Int) = x
                · have hb : ((k : Int) != (x : Int)) = false := by simp [h2]
                  have HF := Lib.hid (HQ.out _ rfl (fun h => h.2.2.1 h2))
                  clear h2
                  go_wp2_with fail
                  go_roundw
                  case rel => exact ⟨m + 1, L2, W2, by go_num, by omega, HF.out, HM.out, hWL2, HR2.out⟩
                  case measure => simp [intOf]; omega
                · have hb : ((k : Int) != (x : Int)) = true := by simp; omega
                  have hcell : wr.cell? ⟨w.heap.size, k, none⟩ = some (.bool (inG L2 k)) := by
                    have := World.ownsRow.cellAt HR2.out.don k (by omega)
                    rwa [bl_at (by omega)] at this
                  cases hin : inG L2 k with
                  | true =>
                    rw [hin] at hcell
                    have HF := Lib.hid (HQ.out _ rfl (fun h => by have := h.2.2.2; simp [hin] at this))
                    clear hin
                    go_wp2_with fail
                    go_roundw
                    case rel => exact ⟨m + 1, L2, W2, by go_num, by omega, HF.out, HM.out, hWL2, HR2.out⟩
                    case measure => simp [intOf]; omega
                  | false =>
                    rw [hin] at hcell
                    have HF := Lib.hid (HQ2.out k rfl (by omega) (by omega) hin)
                    have hL3 : L2.length + 1 ≤ rows.length := by
                      have := nodup_le _ _ HF.out.nodup HF.out.lt
                      simpa using this
                    clear hin
                    have hfr : wr.frozen? ⟨w.heap.size, k, none⟩ = false := World.ownsRow.frozenAt HR2.out.don k
                    have HO : Hid ((wr.setCell ⟨w.heap.size, k, none⟩ (.bool true)).ownsRow (w.heap.size + 1) 3 1 u6 L2.length (iv L2)) := ownsRow_setCell_below HR2.out.lst (by show w.heap.size < _; omega) _
                    go_wp2_with (at_builtin; refine wpList_append_lies _ rfl _ _ 25 rfl (w.heap.size + 1) 3 i3 (.int .i64 0) 1 8 Try.underlying25 hi3 hz30 hz31 hz32 rfl (by decide) _ _ _ rfl (HO.out.alloc _) ⟨wr.heap.size, 0, none⟩ 1 1 [.int .i64 (k : Int)] rfl rfl ?nc1 ?nc2 ?nc3 ?nc4 ?nc5 ?nc6 (wr.heap.size + 1) ?nc7 ?_)
                    case nc2 => simp [Value.oneCell']
                    case nc4 => unfold maxLen; omega
                    case nc5 => omega
                    case nc6 => omega
                    intro g3 cap3 w3 hown3 hgrow3 hat3 hlt3
                    have HR3 := Lib.hid (HR2.out.mark hown3 hgrow3 hat3)
                    have hsz3 := HR3.out.sz
                    have hbel3 := HR3.out.bel
                    clear hown3 hgrow3 hat3 HO hcell hfr
                    go_wp2_with (at_builtin; refine wpList_append_tail _ rfl _ _ 25 rfl (w.heap.size + 1) 3 i3 (.int .i64 0) 8 Try.underlying25 hi3 hz30 hz31 hz32 rfl _ _ _ rfl (HR3.out.q.of_block (fun g hg => alloc_old (HR3.out.q.lt g hg).2)) ⟨w3.heap.size, 0, none⟩ 1 (.int .i64 (k : Int)) rfl ?nd1 ?nd2 ?nd3 ?nd4 ?nd5 ?_)
                    case nd1 => exact one_new rfl
                    case nd2 => simp [Value.oneCell']
                    case nd3 => unfold maxLen; omega
                    case nd4 => omega
                    case nd5 => simp; omega
                    intro g4 o4 cap4 w4 hown4 hgrow4 hat4
                    have HR4 := Lib.hid (HR3.out.queue hown4 hgrow4 (by simpa using hat4))
                    clear hown4 hgrow4 hat4 HR3
                    go_wp2_with fail
                    refine ⟨?_, ?measure⟩
                    (repeat apply Exists.intro)
                    refine ⟨?rel, rfl⟩
                    case rel => exact ⟨m + 1, L2 ++ [k], W2 ++ [k], by go_num, by omega, HF.out, by have := HM.out; simp; omega, by simp; omega, by simpa using HR4.out⟩
                    case measure => simp [intOf]; omega
              · have HF := Lib.hid (HQ.out _ rfl (fun h => h1 h.2.1))
                go_wp2_with fail
                go_roundw
                case rel => exact ⟨m + 1, L2, W2, by go_num, by omega, HF.out, HM.out, hWL2, HR2.out⟩
                case measure => simp [intOf]; omega
            · have HF := Lib.hid (HQ.out _ rfl (fun h => h0 h.1))
              go_wp2_with fail
              go_roundw
              case rel => exact ⟨m + 1, L2, W2, by go_num, by omega, HF.out, HM.out, hWL2, HR2.out⟩
              case measure => simp [intOf]; omega
          · go_wp2_with fail
            go_roundg (gk - 1)
            case measure => have := HGk.out; simp at this; omega
            case rel => exact ⟨L2, W2, HBJ2.out.done (by omega), HM.out, by omega, HR2.out⟩

end Go.Proofs.Ytmkbdjekidcfaaa
