/- ShutFewer: the walk. -/
import Derived.Test.YtmkbdjekidcfaaaM
import Derived.Test.YtmkbdjekidcfaaaOrders
namespace Go.Proofs.Ytmkbdjekidcfaaa
open Go.RowKit

theorem info25 : (Try.prog.info? 25).map (fun i => (i.zero, i.size, i.bytes)) = some (some (.slice none 0 0), 1, 24) := by kernel_rfl

theorem own_setCell_ne {w : World} {B E size : Nat} {v : Value} {n : Nat} {xs : List Value} (h : w.ownsRow B E size v n xs) {a : Addr} (ha : ∀ k, v.ownBlock = some k → k ≠ a.block) (u : Value) : (w.setCell a u).ownsRow B E size v n xs := by
  refine ⟨h.1, ?_⟩
  rcases h.2 with h0 | ⟨g, cap, cur, hv, hg, hh, rest⟩
  · exact .inl h0
  · exact .inr ⟨g, cap, cur, hv, hg, (setCell_block (ha g (by rw [hv]; rfl))).trans hh, rest⟩

/-- The cells of a list of lists, as they stand in memory. -/
theorem rows_cells {w : World} {a : Option Addr} {c : Nat} {rows : List (List Int)} (h : RowsAt w (.slice a rows.length c) rows) : ∃ cs : List Value, cs.length = rows.length ∧
    (∀ j u, cs[j]? = some u → ∃ b o, a = some ⟨b, o, none⟩ ∧ w.cell? ⟨b, o + j, none⟩ = some u ∧ RowAt w u (rowOf rows j) ∧ ∃ a' l' c', u = .slice a' l' c') := by
  obtain ⟨a', c', e, _, hx⟩ := h
  simp only [Value.slice.injEq] at e
  obtain ⟨rfl, -, -⟩ := e
  have hx' : ∀ r, r < rows.length → ∃ u, ∃ b o, a = some ⟨b, o, none⟩ ∧ w.cell? ⟨b, o + r, none⟩ = some u ∧ RowAt w u (rowOf rows r) := fun r hr => by
    obtain ⟨b, o, rv, h1, h2, h3⟩ := hx r hr
    exact ⟨rv, b, o, h1, h2, h3⟩
  obtain ⟨f, hf⟩ : ∃ f : Nat → Value, ∀ r, r < rows.length → ∃ b o, a = some ⟨b, o, none⟩ ∧ w.cell? ⟨b, o + r, none⟩ = some (f r) ∧ RowAt w (f r) (rowOf rows r) := by
    refine ⟨fun r => if h : r < rows.length then Classical.choose (hx' r h) else .bool false, fun r hr => ?_⟩
    simp only [dif_pos hr]
    exact Classical.choose_spec (hx' r hr)
  refine ⟨(List.range rows.length).map f, by simp, fun j u hu => ?_⟩
  have hj : j < rows.length := by
    have := (List.getElem?_eq_some_iff.1 hu).1
    simpa using this
  have e : f j = u := by simpa [hj] using hu
  obtain ⟨b, o, h1, h2, h3⟩ := hf j hj
  subst e
  have h4 := h3
  obtain ⟨a', c', hv, _⟩ := h4
  exact ⟨b, o, h1, h2, h3, a', _, c', hv⟩

/-- The list at k struck, in memory of the call's own. -/
theorem less_at {w : World} {B g cap k : Nat} {rows : List (List Int)} {cs : List Value} (hown : w.ownsRow B 25 1 (.slice (some ⟨g, 0, none⟩) rows.length cap) rows.length cs) (hl : rows.length ≤ 400) (hk : k < rows.length)
    (hne : ∀ j u, cs[j]? = some u → RowAt (w.setCell ⟨g, k, none⟩ (.slice none 0 0)) u (rowOf rows j)) :
    RowsAt (w.setCell ⟨g, k, none⟩ (.slice none 0 0)) (.slice (some ⟨g, 0, none⟩) rows.length cap) (less rows k) := by
  refine ⟨_, _, by rw [less_length], by rw [less_length]; omega, fun r hr => ?_⟩
  rw [less_length] at hr
  have hst := (hown.stored k (.slice none 0 0)).1
  have hc := hst.cellAt r (by omega)
  rw [less_row]
  by_cases e : r = k
  · subst e
    rw [if_pos rfl]
    rw [List.getElem?_set, if_pos rfl, if_pos (by rw [hown.1]; omega)] at hc
    exact ⟨g, 0, _, rfl, by simpa using hc, none, 0, rfl, by decide, fun j hj => absurd hj (by simp)⟩
  · rw [if_neg e]
    rw [List.getElem?_set, if_neg (fun h => e h.symm)] at hc
    have hlen : r < cs.length := by rw [hown.1]; omega
    rw [List.getElem?_eq_getElem hlen] at hc
    exact ⟨g, 0, _, rfl, by simpa using hc, hne r _ (List.getElem?_eq_getElem hlen)⟩

theorem inG_take {G : List Nat} {m : Nat} (hm : m < G.length) (k : Nat) : inG (G.take (m + 1)) k = if k = G[m] then true else inG (G.take m) k := by
  rw [List.take_succ_eq_append_getElem hm]
  exact inG_snoc _ _ _

def FRel (w : World) (n A D : Nat) (oa ob : List Nat) (vao vac vbo : Value) (s : Value) (wr : World) : Prop :=
  ∃ m : Nat, s = .int .i64 m ∧ m ≤ ob.length ∧ OwnBools wr w.heap.size (.slice (some ⟨D, 0, none⟩) n n) n (inG (ob.take m)) ∧ OwnInts wr w.heap.size vbo ob ∧ OwnInts wr w.heap.size vao oa ∧
    wr.cell? ⟨A, 0, none⟩ = some vao ∧ wr.cell? ⟨A, 1, none⟩ = some vac ∧ Below w.heap.size w wr ∧ D < wr.heap.size

theorem frel_step {w wr : World} {n A D m : Nat} {oa ob : List Nat} {vao vac vbo : Value} (hm : m < ob.length) (hn : ob[m] < n) (hA : A < D) (ha : ∀ k, vao.ownBlock = some k → k < D) (hb : ∀ k, vbo.ownBlock = some k → k < D) (hw : w.heap.size ≤ D)
    (h1 : OwnBools wr w.heap.size (.slice (some ⟨D, 0, none⟩) n n) n (inG (ob.take m))) (h2 : OwnInts wr w.heap.size vbo ob) (h3 : OwnInts wr w.heap.size vao oa) (h4 : wr.cell? ⟨A, 0, none⟩ = some vao) (h5 : wr.cell? ⟨A, 1, none⟩ = some vac) (h6 : Below w.heap.size w wr) (h7 : D < wr.heap.size) :
    FRel w n A D oa ob vao vac vbo (.int .i64 ((m + 1 : Nat) : Int)) (wr.setCell ⟨D, ob[m], none⟩ (.bool true)) := by
  have hst := (World.ownsRow.stored (w := wr) h1 ob[m] (.bool true)).1
  rw [bl_set true (inG (ob.take (m + 1))) (fun k _ => inG_take hm k)] at hst
  refine ⟨m + 1, rfl, hm, hst, own_setCell_ne h2 (fun k hk => by have := hb k hk; show k ≠ D; omega) _, own_setCell_ne h3 (fun k hk => by have := ha k hk; show k ≠ D; omega) _, ?_, ?_, h6.setCell (by show _ ≤ D; omega) _, by simpa using h7⟩
  · rw [cell_set_ne (fun e => by have := congrArg Addr.block e; simp at this; omega)]; exact h4
  · rw [cell_set_ne (fun e => by have := congrArg Addr.block e; simp at this; omega)]; exact h5

set_option maxHeartbeats 4000000 in
set_option maxRecDepth 100000 in
theorem fewer_go (v : Value) (rows : List (List Int)) (drop : Int) (w : World) (h : RowsAt w v rows) (hs : smallB rows = true) (hpos : 0 < rows.length) :
    Calls Try.prog 5 #[v, .int .i64 drop] w fun e w' => e = .returned (.bool true) ∧ Below w.heap.size w w' := by
  obtain ⟨i25, hi25, hz250, hz251, hz252⟩ := info_parts info25
  obtain ⟨i4, hi4, hz40, hz41, hz42⟩ := info_parts info4
  obtain ⟨hlen, -⟩ := smallB_true hs
  have hpos' : ((rows.length : Int) == 0) = false := by rw [beq_eq_false_iff_ne]; omega
  have hposI : (0 : Int) < rows.length := by omega
  have hU : 0 ≤ IntKind.u64.wrap drop := by rw [IntKind.wrap_u64]; omega
  have h0 := h
  obtain ⟨a, c, rfl, -⟩ := h0
  obtain ⟨cs, hcl, hcs⟩ := rows_cells h
  obtain ⟨K, hK⟩ : ∃ K : Nat, IntKind.u64.wrap drop % rows.length = (K : Int) := ⟨(IntKind.u64.wrap drop % rows.length).toNat, by rw [Int.toNat_of_nonneg (Int.emod_nonneg _ (by omega))]⟩
  have hKn : K < rows.length := by
    have := Int.emod_lt_of_pos (IntKind.u64.wrap drop) hposI
    omega
  obtain ⟨b, o, rfl⟩ : ∃ b o, a = some ⟨b, o, none⟩ := by
    obtain ⟨b, o, e, -⟩ := hcs 0 _ (List.getElem?_eq_getElem (by omega))
    exact ⟨b, o, e⟩
  have HCS := Lib.hid hcs
  have HCL := Lib.hid hcl
  clear hcs hcl
  have HR := Lib.hid h
  have HS := Lib.hid hs
  clear hs
  go_enter Try.func5, Try.ntmps5
  go_wp2_with fail
  refine (small_yes _ rows _ HR.out HS.out).mono ?_
  rintro e w1 ⟨rfl, rfl⟩
  go_wp2_with (at_builtin; refine wpList_append_own _ rfl _ _ 22 rfl w.heap.size 25 i25 (.slice none 0 0) 1 24 Try.underlying22 hi25 hz250 hz251 hz252 rfl (by decide) _ 0 [] rfl ⟨by simp, .inr ⟨w.heap.size, 0, #[], rfl, Nat.le_refl _, alloc_new rfl, Nat.le_refl _, by decide, rfl, rfl⟩⟩ ⟨b, o, none⟩ rows.length c cs rfl ?c0 ?c1 ?c2 ?c3 ?c4 ?c5 ?_)
  case c0 => rw [HCL.out]; omega
  case c1 =>
    intro j u hu
    obtain ⟨b', o', e, hc, -⟩ := HCS.out j u hu
    simp only [Option.some.injEq, Addr.mk.injEq] at e
    obtain ⟨rfl, rfl, -⟩ := e
    have e4 : (⟨b, o, none⟩ : Addr).add j = ⟨b, o + j, none⟩ := by
      by_cases h0 : j = 0
      · subst h0; simp [Addr.add]
      · simp only [Addr.add, if_neg h0]
    rw [e4]
    rw [World.cell?_alloc_lt _ _ _ (World.block_lt_of_cell? _ _ hc)]
    exact hc
  case c2 =>
    intro u hu
    obtain ⟨j, hj, rfl⟩ := List.getElem_of_mem hu
    obtain ⟨b', o', e, hc, -, a', l', c', hv⟩ := HCS.out j _ (List.getElem?_eq_getElem hj)
    rw [hv]; rfl
  case c3 => unfold maxLen; omega
  case c4 => omega
  case c5 => simp
  intro v' w1 hown1 hg1 _
  obtain ⟨g, cap, rfl, hcK, hcap, -⟩ := own_at hown1 hKn
  have hg := hown1.lt g rfl
  have hB1 : Below w.heap.size w w1 := Below.grown (by go_grown) hg1 (by simp) (fun k hk => by cases hk; exact Nat.le_refl _)
  have hfr : w1.frozen? ⟨g, K, none⟩ = false := hown1.frozenAt K
  have hcK2 : w1.cell? ⟨g, K, none⟩ = some (cs[K]'(by rw [HCL.out]; exact hKn)) := by rw [hcK]; exact List.getElem?_eq_getElem _
  have hBs : Below w.heap.size w (w1.setCell ⟨g, K, none⟩ (.slice none 0 0)) := hB1.setCell (by show _ ≤ g; omega) _
  have HR1 : Hid (RowsAt (w1.setCell ⟨g, K, none⟩ (.slice none 0 0)) (.slice (some ⟨b, o, none⟩) rows.length c) rows) := HR.out.below hBs
  have HF1 : Hid (RowsAt (w1.setCell ⟨g, K, none⟩ (.slice none 0 0)) (.slice (some ⟨g, 0, none⟩) rows.length cap) (less rows K)) := less_at hown1 hlen hKn (fun j u hu => by
    obtain ⟨_, _, _, _, h3, _⟩ := HCS.out j u hu
    exact h3.below hBs)
  have hszs : (w1.setCell ⟨g, K, none⟩ (.slice none 0 0)).heap.size = w1.heap.size := by simp
  generalize hcsK : (cs[K]'(by rw [HCL.out]; exact hKn)) = csK at hcK2
  clear hcsK hown1 hg1 hcK
  have hlessS : Hid (smallB (less rows K) = true) := less_small HS.out
  have hlb := ordOf_length rows
  have hlb2 := ordOf_length (less rows K)
  rw [less_length] at hlb2
  have hcb2 := cycOf_length (less rows K)
  rw [less_length] at hcb2
  have HO1 := Lib.hid (ordOf_inv rows)
  have HO2 := Lib.hid (ordOf_inv (less rows K))
  have HLess : Hid (∀ i ∈ ordOf rows, i ∈ ordOf (less rows K)) := less_ord
  have HHas : Hid (K ∈ ordOf (less rows K)) := less_has hKn
  have HSum := Lib.hid (ord_cyc rows)
  go_wp2_with fail
  refine (order_any _ rows _ HR1.out HS.out).mono ?_
  rintro e w2 ⟨va, vac, rfl, hoa, hca, hb2⟩
  have hs2 := hb2.size
  rw [hszs] at hs2
  have hB2 : Below w.heap.size w w2 := below_via hBs hb2 (by have := hB1.size; rw [hszs]; omega)
  have HF2 : Hid (RowsAt w2 (.slice (some ⟨g, 0, none⟩) rows.length cap) (less rows K)) := HF1.out.below hb2
  have HOA : Hid (OwnInts w2 w.heap.size va (ordOf rows)) := own_mono hoa (by have := hB1.size; rw [hszs]; omega)
  have HCA : Hid (OwnInts w2 w.heap.size vac (cycOf rows)) := own_mono hca (by have := hB1.size; rw [hszs]; omega)
  clear hb2 hoa hca HR1 HF1 hcK2 hfr hBs hszs
  go_wp2_with fail
  refine (order_any _ (less rows K) _ HF2.out hlessS.out).mono ?_
  rintro e w3 ⟨vb, vbc, rfl, hob, hcb, hb3⟩
  have hs3 := hb3.size
  have hB3 : Below w.heap.size w w3 := below_via hB2 hb3 (by have := hB2.size; omega)
  have HOA3 : Hid (OwnInts w3 w.heap.size va (ordOf rows)) := HOA.out.over hb3
  have HOB3 : Hid (OwnInts w3 w.heap.size vb (ordOf (less rows K))) := own_mono hob (by have := hB2.size; omega)
  obtain ⟨a1, c1, rfl⟩ := own_len HOA.out
  obtain ⟨a2, c2, rfl⟩ := own_len HCA.out
  obtain ⟨a3, c3, rfl⟩ := own_len hob
  obtain ⟨a4, c4, rfl⟩ := own_len hcb
  clear hob hcb hb3 HF2 HOA HCA
  generalize hoL : (ordOf rows).length = oL at *
  generalize hcL : (cycOf rows).length = cL at *
  generalize hbL : (ordOf (less rows K)).length = bL at *
  generalize hbcL : (cycOf (less rows K)).length = bcL at *
  have HoL := Lib.hid hoL
  have HcL := Lib.hid hcL
  have HbL := Lib.hid hbL
  clear hoL hcL hbL hbcL
  go_wp2_with (at_make; refine wpList_make_full _ rfl _ _ 32 rfl w.heap.size 4 i4 (.bool false) 1 Try.underlying32 hi4 hz40 hz41 _ _ _ _ rows.length rfl rfl rfl rfl ?b2 ?b3 ?b4 ?_)
  case b2 => rw [hz42]; omega
  case b3 => unfold maxLen; omega
  case b4 => have := hB3.size; simp; omega
  intro w5 hown5 hg5
  have hAb : ∀ k, (Value.slice a1 oL c1).ownBlock = some k → k < w3.heap.size := fun k hk => (HOA3.out.lt k hk).2
  have hBb : ∀ k, (Value.slice a3 bL c3).ownBlock = some k → k < w3.heap.size := fun k hk => (HOB3.out.lt k hk).2
  have hw3 := hB3.size
  have HF : Hid (FRel w rows.length w3.heap.size (w3.heap.size + 1 + 1) (ordOf rows) (ordOf (less rows K)) (.slice a1 oL c1) (.slice a2 cL c2) (.slice a3 bL c3) (.int .i64 0) w5) := by
    refine ⟨0, rfl, Nat.zero_le _, ?_, ?_, ?_, ?_, ?_, ?_, ?_⟩
    · show World.ownsRow _ _ _ _ _ _ _
      have := bl_made rows.length
      rw [this] at hown5
      exact hown5
    · exact ((World.ownsRow.alloc HOB3.out _).alloc _).kept hg5 (by cases h : (Value.slice a3 bL c3).ownBlock <;> simp)
    · exact ((World.ownsRow.alloc HOA3.out _).alloc _).kept hg5 (by cases h : (Value.slice a1 oL c1).ownBlock <;> simp)
    · exact cell_grown hg5 (by simp; omega) (fun k hk => by cases hk) (by simp)
    · exact cell_grown hg5 (by simp; omega) (fun k hk => by cases hk) (by simp)
    · exact Below.grown ((hB3.alloc hw3 _).alloc (by simp; omega) _) hg5 (by simp; omega) (fun k hk => by cases hk)
    · have := (hown5.lt _ rfl).2; exact this
  have z0 : w5.cell? ⟨w3.heap.size + 1, 0, none⟩ = some (.slice a3 bL c3) := cell_grown hg5 (by simp) (fun k hk => by cases hk) (by simp)
  clear hown5 hg5 HOA3 HOB3
  go_wp2_with fail
  go_loopw [46] (FRel w rows.length w3.heap.size (w3.heap.size + 1 + 1) (ordOf rows) (ordOf (less rows K)) (.slice a1 oL c1) (.slice a2 cL c2) (.slice a3 bL c3)) (fun s _ => (ordOf (less rows K)).length - (intOf s).toNat)
  case atStart => exact HF.out
  case round =>
    obtain ⟨m, rfl, hm, q1, q2, q3, q4, q5, q6, q7⟩ := hrel
    have Q1 := Lib.hid q1
    have Q2 := Lib.hid q2
    have Q3 := Lib.hid q3
    have hbl : Hid ((ordOf (less rows K)).length = bL) := HbL.out
    by_cases hlt : m < (ordOf (less rows K)).length
    · have hltb : m < bL := by have := hbl.out; omega
      obtain ⟨gb, capb, eb, hcb, -⟩ := own_at q2 hlt
      simp only [Value.slice.injEq] at eb
      obtain ⟨rfl, -, -⟩ := eb
      have hin : (ordOf (less rows K))[m] < rows.length := by have := HO2.out.2 _ (List.getElem_mem hlt); rwa [less_length] at this
      have hcb2 : wr.cell? ⟨gb, m, none⟩ = some (.int .i64 (((ordOf (less rows K))[m] : Nat) : Int)) := by rw [hcb]; simp [hlt]
      have hcell : wr.cell? ⟨w3.heap.size + 1 + 1, (ordOf (less rows K))[m], none⟩ = some (.bool (inG ((ordOf (less rows K)).take m) (ordOf (less rows K))[m])) := by
        have := World.ownsRow.cellAt Q1.out (ordOf (less rows K))[m] (by omega)
        rwa [bl_at hin] at this
      have hfr : wr.frozen? ⟨w3.heap.size + 1 + 1, (ordOf (less rows K))[m], none⟩ = false := World.ownsRow.frozenAt Q1.out _
      have hS := frel_step (vac := .slice a2 cL c2) hlt hin (A := w3.heap.size) (by omega) (fun k hk => by have := hAb k hk; omega) (fun k hk => by have := hBb k hk; omega) (by omega) q1 q2 q3 q4 q5 q6 q7
      have HSt := Lib.hid hS
      clear hS q1 q2 q3 q4 q5 q6 q7 hcb
      generalize (ordOf (less rows K))[m] = I at *
      go_wp2_with fail
      go_roundw
      case rel => have h := HSt.out; simpa using h
      case measure => simp [intOf]; omega
    · have hmb : ¬ m < bL := by have := hbl.out; omega
      have hfull : (ordOf (less rows K)).take m = ordOf (less rows K) := List.take_of_length_le (by omega)
      have HFull := Lib.hid hfull
      have Q4 := Lib.hid q4
      have Q5 := Lib.hid q5
      clear q1 q2 q3 hfull
      go_wp2_with fail
      obtain ⟨wo, rfl⟩ : ∃ wo : World, wo = wr := ⟨_, rfl⟩
      go_loop [65] (fun s => ∃ p : Nat, s = .int .i64 p ∧ p ≤ (ordOf rows).length) (fun s => (ordOf rows).length - (intOf s).toNat)
      case atStart => exact ⟨0, rfl, Nat.zero_le _⟩
      case round =>
        obtain ⟨p, rfl, hp⟩ := hrel
        have hol : Hid ((ordOf rows).length = oL) := HoL.out
        by_cases hlt2 : p < (ordOf rows).length
        · have hltb : p < oL := by have := hol.out; omega
          obtain ⟨ga, capa, ea, hca, -⟩ := own_at Q3.out hlt2
          simp only [Value.slice.injEq] at ea
          obtain ⟨rfl, -, -⟩ := ea
          have hin : (ordOf rows)[p] < rows.length := HO1.out.2 _ (List.getElem_mem hlt2)
          have hca2 : wo.cell? ⟨ga, p, none⟩ = some (.int .i64 (((ordOf rows)[p] : Nat) : Int)) := by rw [hca]; simp [hlt2]
          have hcell : wo.cell? ⟨w3.heap.size + 1 + 1, (ordOf rows)[p], none⟩ = some (.bool true) := by
            have := World.ownsRow.cellAt Q1.out (ordOf rows)[p] (by omega)
            rw [bl_at hin, HFull.out] at this
            rw [this]
            have h2 := HLess.out _ (List.getElem_mem hlt2)
            simp [inG, h2]
          clear hca
          generalize (ordOf rows)[p] = I at *
          go_wp2_with fail
          go_round
          case rel => exact ⟨p + 1, by go_num, by omega⟩
          case measure => simp [intOf]; omega
        · have hpb : ¬ p < oL := by have := hol.out; omega
          have hcell : wo.cell? ⟨w3.heap.size + 1 + 1, K, none⟩ = some (.bool true) := by
            have := World.ownsRow.cellAt Q1.out K (by omega)
            rw [bl_at hKn, HFull.out] at this
            rw [this]
            have h2 := HHas.out
            simp [inG, h2]
          have hsum : ((oL : Int) + (cL : Int) == (rows.length : Int)) = true := by
            have h1 := HSum.out
            have h2 := HoL.out
            have h3 := HcL.out
            simp
            omega
          have hcLb : cL ≤ 400 := by have h1 := HSum.out; have h3 := HcL.out; omega
          have hoLb : oL ≤ 400 := by have h1 := hol.out; omega
          go_wp2_with fail
          refine (awake_any _).mono ?_
          rintro e w7 ⟨rfl, hb7⟩
          have hB7 : Below w.heap.size w w7 := below_via q6 hb7 (by omega)
          go_wp2
          go_ret
          exact ⟨rfl, hB7⟩

set_option maxHeartbeats 2000000 in
theorem fewer_walk (v : Value) (rows : List (List Int)) (drop : Int) (w : World) (h : RowsAt w v rows) : Calls Try.prog 5 #[v, .int .i64 drop] w fun e w' => e = .returned (.bool true) ∧ Below w.heap.size w w' := by
  cases hs : smallB rows with
  | false =>
    have h0 := h
    obtain ⟨a, c, rfl, -⟩ := h0
    have HR := Lib.hid h
    have HS := Lib.hid hs
    clear h hs
    go_enter Try.func5, Try.ntmps5
    go_wp2_with fail
    refine (small_no _ rows _ HR.out HS.out).mono ?_
    rintro e w1 ⟨rfl, rfl⟩
    go_wp2_with fail
    refine (awake_any _).mono ?_
    rintro e w2 ⟨rfl, hb2⟩
    go_wp2
    go_ret
    exact ⟨rfl, hb2⟩
  | true =>
    by_cases hpos : 0 < rows.length
    · exact fewer_go v rows drop w h hs hpos
    · have h0 := h
      obtain ⟨a, c, rfl, -⟩ := h0
      have HR := Lib.hid h
      have HS := Lib.hid hs
      have hz : ((rows.length : Int) == 0) = true := by rw [beq_iff_eq]; omega
      clear h hs
      go_enter Try.func5, Try.ntmps5
      go_wp2_with fail
      refine (small_yes _ rows _ HR.out HS.out).mono ?_
      rintro e w1 ⟨rfl, rfl⟩
      go_wp2_with fail
      refine (awake_any _).mono ?_
      rintro e w2 ⟨rfl, hb2⟩
      go_wp2
      go_ret
      exact ⟨rfl, hb2⟩

theorem walk_ShutFewer {H : Type} {enc : TypeId × Value → H} {base : Nat} {d : DataW H} {p : List MemPlace} (v : Value) (drop : Int) (W : World) (ok : Value.okWide Try.prog W .any base 22 v) (tr : DataW.Trod enc Try.prog W 0 (fun _ => true) true 22 v d p)
    (hsz : ∀ n ∈ d.weights Try.prog 22, n ≤ reachBytes) (_ : (Lit.int .i64 drop).wf = true) : Calls Try.prog 5 #[v, .int .i64 drop] W fun e w' => e = .returned (.bool true) ∧ Below W.heap.size W w' := by
  obtain ⟨rows, h⟩ := rows_open ok tr hsz
  exact fewer_walk v rows drop W h

end Go.Proofs.Ytmkbdjekidcfaaa
