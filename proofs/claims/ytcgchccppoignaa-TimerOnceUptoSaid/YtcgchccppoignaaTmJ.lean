/- Timer: what waits in a ring comes down. -/
import Derived.Test.YtcgchccppoignaaTmI
namespace Go.Proofs.Ytcgchccppoignaa
open Go.RowKit
attribute [local go_sem ↓] Go.wp_at_zero Go.wp_at_succ
attribute [local go_sem] Go.undef

theorem sub_len {α : Type} : ∀ {l L : List α}, l.Nodup → (∀ x, x ∈ l → x ∈ L) → l.length ≤ L.length
  | [], _, _, _ => Nat.zero_le _
  | a :: r, L, hn, h => by
    obtain ⟨h1, h2⟩ := List.nodup_cons.1 hn
    obtain ⟨l1, l2, rfl⟩ := List.append_of_mem (h a (by simp))
    have := sub_len (l := r) (L := l1 ++ l2) h2 fun x hx => by
      have h3 := h x (by simp [hx])
      rcases List.mem_append.1 h3 with h4 | h4
      · simp [h4]
      · rcases List.mem_cons.1 h4 with h5 | h5
        · subst h5; exact absurd hx h1
        · simp [h5]
    simp at this ⊢
    omega
theorem infoP : (Try.prog.info? 47).map (fun i => (i.zero, i.size, i.bytes)) = some (some (.pointer none), 1, 8) := by kernel_rfl
def ptT (x : Tm) : Value := pt x.g 0
theorem ptT_snoc {l : List Tm} {i : Nat} {x : Tm} (h : l[i]? = some x) : (l.take i).map ptT ++ [pt x.g 0] = (l.take (i + 1)).map ptT := by rw [← take_snocT h, List.map_append]; rfl
section
variable {w : World} {B b m now sq k : Nat} {L : List Tm} {ρ : Nat → List Tm}
/-- Which timers wait where, when those of a list have come down. -/
def Moved (now _k : Nat) (ρ ρ' : Nat → List Tm) (l : List Tm) : Prop := ∀ j, j < 448 → ∀ x, x ∈ ρ' j ↔ (x ∈ l ∧ ring now x.at_ = j) ∨ (x ∉ l ∧ x ∈ ρ j)
theorem Moved.step {ρ' : Nat → List Tm} {i : Nat} {x : Tm} {l : List Tm} (h : Moved now k ρ ρ' (l.take i)) (hok : Ok b L ρ') (hk : k < 448) (hx : l[i]? = some x) (hn : l.Nodup) (hxk : x ∈ ρ' k) : Moved now k ρ (putR (dropR ρ' k x) (ring now x.at_) x) (l.take (i + 1)) := by
  intro j hj y
  rw [← take_snocT hx]
  have hni : x ∉ l.take i := fun hm => by
    obtain ⟨q, hq⟩ := List.getElem?_of_mem hm
    rw [List.getElem?_take] at hq
    split at hq
    · rename_i hlt
      have := (List.getElem?_inj (by have := (List.getElem?_eq_some_iff.1 hq).1; exact this) hn).1 (hq.trans hx.symm)
      omega
    · cases hq
  have hout := hok.out hk hxk
  have e1 : y ∈ putR (dropR ρ' k x) (ring now x.at_) x j ↔ (y = x ∧ ring now x.at_ = j) ∨ (y ≠ x ∧ y ∈ ρ' j) := by
    have hdrop : y ∈ dropR ρ' k x j ↔ y ≠ x ∧ y ∈ ρ' j := by
      constructor
      · intro hy
        exact ⟨fun e => hout j hj (e ▸ hy), drop_sub hy⟩
      · rintro ⟨hne, hy⟩
        unfold dropR
        split
        · refine List.mem_filter.2 ⟨hy, ?_⟩
          simp only [bne_iff_ne, ne_eq]
          intro e
          exact hne (hok.inj y x (hok.mem j hj y hy) (hok.mem k hk x hxk) e)
        · exact hy
    unfold putR
    split
    · rename_i ej
      rw [List.mem_append, hdrop, List.mem_singleton]
      constructor
      · rintro (h | h)
        · exact .inr h
        · exact .inl ⟨h, ej.symm⟩
      · rintro (⟨h, -⟩ | h)
        · exact .inr h
        · exact .inl h
    · rename_i ej
      rw [hdrop]
      constructor
      · exact .inr
      · rintro (⟨-, h⟩ | h)
        · exact absurd h.symm ej
        · exact h
  rw [e1, h j hj y, List.mem_append, List.mem_singleton]
  by_cases e : y = x
  · subst e
    simp [hni]
  · simp [e]

set_option maxRecDepth 100000 in
set_option maxHeartbeats 16000000 in
theorem down_any (h : Whl w B b m now sq L ρ) (hk : k < 448) (hn : now ≤ MT) (hat : ∀ x, x ∈ L → x.at_ ≤ MT) (hL : L.length ≤ 8796093022208) :
    Calls Try.prog 32 #[pt b 0, pa (hd b k)] w fun e w' => e = .returned (.tuple #[]) ∧ ∃ ρ', Whl w' B b m now sq L ρ' ∧ Moved now k ρ ρ' (ρ k) ∧ WT (Own b m L) w w' := by
  obtain ⟨iP, hi, hz, hz1, hz2⟩ := info_parts (infoP)
  have cf := h.rg.first hk
  have HLE : Hid ((ρ k).length ≤ 8796093022208) := Nat.le_trans (sub_len (h.rg.ok.nd k hk) (h.rg.ok.mem k hk)) hL
  have H := Lib.hid h
  have HAT := Lib.hid hat
  have hbs : b < w.heap.size := cell_lt h.made
  clear h hat hL
  show Calls _ _ #[pt b 0, .pointer (some ⟨b, 3 + 5 * k, none⟩)] w _
  go_enter Try.func32, Try.ntmps32
  simp only [Go.undef]
  go_upto_region 2 with fail
  clear cf
  go_loopg [4, 5] (ρ k).length (fun g vv ev wr => ∃ i : Nat, ev = pa (nodeAt b k (ρ k) i) ∧ g + i = (ρ k).length ∧ wr.ownsRow w.heap.size 47 1 vv i (((ρ k).take i).map ptT) ∧ Below w.heap.size w wr)
  case atStart => exact ⟨0, rfl, rfl, World.ownsRow_nil _ _ _ _, Below.refl _ _⟩
  case round =>
    obtain ⟨i, rfl, hg, hown, hB⟩ := hrel
    have HO := Lib.hid hown
    have HB := Lib.hid hB
    have HW := Lib.hid (H.out.on hB)
    have hws := hB.size
    clear hown hB
    by_cases hlt : i < (ρ k).length
    · obtain ⟨x, hx⟩ : ∃ x, (ρ k)[i]? = some x := ⟨_, List.getElem?_eq_getElem hlt⟩
      have hxl := HW.out.rg.ok.mem k hk x (List.mem_of_getElem? hx)
      have hnq := neq_other (o := 0) (o' := 3 + 5 * k) (HW.out.rg.ok.xb x hxl) (HW.out.rg.dat x hxl).p HW.out.rg.pb
      have d2 := HW.out.rg.next hk hx
      obtain ⟨nd, hnd⟩ : ∃ nd, nd = nodeAt b k (ρ k) (i + 1) := ⟨_, rfl⟩
      rw [← hnd] at d2
      rw [nodeAt_some hx, show pa (ad x) = .pointer (some ⟨x.g, 0, none⟩) from rfl]
      have HND := Lib.hid hnd
      have HX := Lib.hid hx
      have hxs : x.g < w.heap.size := (H.out.own_lt (.inr (.inr ⟨x, hxl, rfl⟩))).2
      clear hnd hx hxl
      obtain ⟨vo, rfl⟩ : ∃ vo, vo = u4 := ⟨_, rfl⟩
      obtain ⟨av, cv, rfl⟩ := own_len HO.out
      go_wp2_with (at_builtin; refine wpList_append_own _ rfl _ _ 69 rfl w.heap.size 47 iP (.pointer none) 1 8 Try.underlying69 hi hz hz1 hz2 rfl (by decide) _ _ _ rfl (HO.out.alloc _) ⟨wr.heap.size, 0, none⟩ 1 1 [.pointer (some ⟨x.g, 0, none⟩)] rfl rfl ?c1 ?c2 ?c3 ?c4 ?c5 ?_)
      case c1 => exact one_new rfl
      case c2 => simp [Value.oneCell']
      case c3 => have := HLE.out; unfold maxLen; omega
      case c4 => have := HLE.out; omega
      case c5 => simp; omega
      intro v' w5 hown5 hgrow _
      have hown6 : w5.ownsRow w.heap.size 47 1 v' (i + 1) (((ρ k).take (i + 1)).map ptT) := by rw [← ptT_snoc HX.out, List.map_take]; exact hown5
      have hB5 : Below w.heap.size w w5 := Below.grown (HB.out.alloc (by omega) _) hgrow (by simp; omega) (fun k hk => row_past HO.out k hk)
      have d5 : w5.cell? ⟨x.g, 1, none⟩ = some (pa nd) := by
        have := (H.out.on hB5).rg.next hk HX.out
        rw [this, HND.out]
      have HO5 := Lib.hid hown6
      have HB5 := Lib.hid hB5
      clear hown5 hown6 hB5 hgrow d2
      go_wp2_with fail
      go_roundg (gk - 1)
      case measure => omega
      case rel => exact ⟨i + 1, by rw [HND.out], by omega, HO5.out, HB5.out⟩
    · obtain rfl : i = (ρ k).length := by omega
      rw [nodeAt_end, show pa (hd b k) = .pointer (some ⟨b, 3 + 5 * k, none⟩) from rfl]
      have hnq := neq_same wr ⟨b, 3 + 5 * k, none⟩
      obtain ⟨av, cv, rfl⟩ := own_len HO.out
      rw [List.take_length] at HO
      clear hlt hg
      go_upto_region 6 with fail
      clear hnq
      obtain ⟨w1, rfl⟩ : ∃ w1 : World, w1 = wr := ⟨_, rfl⟩
      go_loopw [27] (fun iv wr => ∃ (j : Nat) (ρj : Nat → List Tm), iv = .int .i64 j ∧ j ≤ (ρ k).length ∧ Whl wr B b m now sq L ρj ∧ Moved now k ρ ρj ((ρ k).take j) ∧ wr.ownsRow w.heap.size 47 1 (.slice av (ρ k).length cv) (ρ k).length ((ρ k).map ptT) ∧ WT (Own b m L) w wr) (fun iv _ => (ρ k).length - (intOf iv).toNat)
      case atStart => exact ⟨0, ρ, rfl, Nat.zero_le _, HW.out, fun j hj x => by simp, HO.out, WT.of_below HB.out⟩
      case round =>
        obtain ⟨j, ρj, rfl, hj, hwj, hmj, hoj, htj⟩ := hrel
        have HWJ := Lib.hid hwj
        have HMJ := Lib.hid hmj
        have HOJ := Lib.hid hoj
        have HTJ := Lib.hid htj
        clear hwj hmj hoj htj
        by_cases hlt : j < (ρ k).length
        · obtain ⟨x, hx⟩ : ∃ x, (ρ k)[j]? = some x := ⟨_, List.getElem?_eq_getElem hlt⟩
          have hxk := List.mem_of_getElem? hx
          have hxl := H.out.rg.ok.mem k hk x hxk
          obtain ⟨g, cap, hv, hc, hc1, hc2⟩ := own_at HOJ.out hlt
          obtain ⟨rfl, rfl⟩ : av = some ⟨g, 0, none⟩ ∧ cv = cap := by injection hv with h1 _ h3; exact ⟨h1, h3⟩
          rw [List.getElem?_map, hx] at hc
          replace hc : wr.cell? ⟨g, j, none⟩ = some (.pointer (some ⟨x.g, 0, none⟩)) := hc
          have hgs : w.heap.size ≤ g := (HOJ.out.lt g rfl).1
          have hni : x ∉ (ρ k).take j := fun hm => by
            obtain ⟨q, hq⟩ := List.getElem?_of_mem hm
            rw [List.getElem?_take] at hq
            split at hq
            · have := (List.getElem?_inj (List.getElem?_eq_some_iff.1 hq).1 (H.out.rg.ok.nd k hk)).1 (hq.trans hx.symm)
              omega
            · cases hq
          have hxj : x ∈ ρj k := (HMJ.out k hk x).2 (.inr ⟨hni, hxk⟩)
          have HX := Lib.hid hx
          have HXL := Lib.hid hxl
          have HXJ := Lib.hid hxj
          have HLV := Lib.hid (leave_rg HWJ.out.rg hk hxj)
          unfold maxLen at hc2
          clear hx hxk hxl hxj hv hni
          go_wp2_with fail
          refine HLV.out.mono ?_
          rintro e w2 ⟨rfl, hr2, hl2⟩
          have hw2 := HWJ.out.lw hr2 hl2
          have hd2 := (hw2.rg.dat x HXL.out).t
          have hr3 := ring_any b now x.at_ w2 (by unfold MT at hn; omega) (by have := HAT.out x HXL.out; unfold MT at this; omega) hw2.now
          have HR3 := Lib.hid hr3
          have HW2 := Lib.hid hw2
          have HL2 := Lib.hid hl2
          clear HLV hr2 hl2 hw2 hr3 hc
          go_wp2_with fail
          refine HR3.out.mono ?_
          rintro e w3 ⟨rfl, n3, rfl⟩
          have HBH := Lib.hid (behind_rg (k := ring now x.at_) ((HW2.out.drewN n3).rg.toX HXL.out (HWJ.out.rg.ok.out hk HXJ.out)) (ring_lt (by unfold MT at hn; omega) (by have := HAT.out x HXL.out; unfold MT at this; omega)))
          clear hd2
          go_wp2_with fail
          refine HBH.out.mono ?_
          rintro e w4 ⟨rfl, hr4, hl4⟩
          have hw4 := (HW2.out.drewN n3).lw hr4 hl4
          have hm4 : Moved now k ρ (putR (dropR ρj k x) (ring now x.at_) x) ((ρ k).take (j + 1)) := HMJ.out.step HWJ.out.rg.ok hk HX.out (H.out.rg.ok.nd k hk) HXJ.out
          have hfar : ∀ a, Nodes b L a → a.1 ≠ g := fun a ha e => by
            have := (H.out.own_lt (nodes_own (m := m) ha)).2
            omega
          have ho4 := own_keep HOJ.out (w' := w4) fun g' hg' => by
            have e : g = g' := by simpa [Value.ownBlock] using hg'
            subst e
            exact (hl4.block g hfar).trans (HL2.out.block g hfar)
          have ht4 : WT (Own b m L) w w4 := (HTJ.out.trans (WT.of_lw HL2.out (W := Own b m L) fun a ha => nodes_own ha) fun g hg => .inl hg).trans ((WT.drewN w2 n3 (W := Own b m L)).trans (WT.of_lw hl4 (W := Own b m L) fun a ha => nodes_own ha) fun g hg => .inl hg) fun g hg => .inl hg
          have HW4 := Lib.hid hw4
          have HM4 := Lib.hid hm4
          have HO4 := Lib.hid ho4
          have HT4 := Lib.hid ht4
          clear hr4 hl4 hw4 hm4 ho4 ht4 hfar
          go_wp2_with fail
          go_roundw
          case rel => exact ⟨j + 1, _, by go_num, by omega, HW4.out, HM4.out, HO4.out, HT4.out⟩
          case measure => simp [intOf]; omega
        · obtain rfl : j = (ρ k).length := by omega
          rw [List.take_length] at HMJ
          go_wp2_with fail
          exact bodyPost_end (results_none rfl _ _ _) rfl ⟨rfl, _, HWJ.out, HMJ.out, HTJ.out⟩
end
end Go.Proofs.Ytcgchccppoignaa
