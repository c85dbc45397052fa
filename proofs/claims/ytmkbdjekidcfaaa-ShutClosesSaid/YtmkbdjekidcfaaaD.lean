/- The contract of the reference's Order. -/
import Derived.Test.YtmkbdjekidcfaaaC
namespace Go.Proofs.Ytmkbdjekidcfaaa
open Go.RowKit

/-- What the reference's rounds keep. -/
structure RO (w wr : World) (D n : Nat) (G : List Nat) (vo : Value) : Prop where
  z0 : ∃ u, wr.cell? ⟨w.heap.size, 0, none⟩ = some u
  z1 : ∃ u, wr.cell? ⟨w.heap.size, 1, none⟩ = some u
  y0 : wr.frozen? ⟨w.heap.size, 0, none⟩ = false
  y1 : wr.frozen? ⟨w.heap.size, 1, none⟩ = false
  c0 : wr.cell? ⟨w.heap.size + 1, 0, none⟩ = some vo
  c1 : wr.cell? ⟨w.heap.size + 1, 1, none⟩ = some (.slice none 0 0)
  f0 : wr.frozen? ⟨w.heap.size + 1, 0, none⟩ = false
  f1 : wr.frozen? ⟨w.heap.size + 1, 1, none⟩ = false
  ord : OwnInts wr (w.heap.size + 3) vo G
  don : OwnBools wr (w.heap.size + 2) (.slice (some ⟨D, 0, none⟩) n n) n (inG G)
  bel : Below w.heap.size w wr
  sz : w.heap.size + 2 < wr.heap.size

theorem cell_set_ne {w : World} {a b : Addr} {v : Value} (h : a ≠ b) : (w.setCell a v).cell? b = w.cell? b := by
  first | exact World.cell?_setCell_other _ _ _ h | exact World.cell?_setCell_other h | exact World.cell?_setCell_other _ _ h | exact World.cell?_setCell_other _ _ _ _ h | simp [World.cell?_setCell_other, h]
theorem ints_snoc {w : World} {B : Nat} {v : Value} {G : List Nat} {i : Nat} (h : w.ownsRow B 3 1 v (G.length + 1) ((G.map fun i : Nat => Value.int .i64 (i : Int)) ++ [.int .i64 (i : Int)])) : OwnInts w B v (G ++ [i]) := by
  unfold OwnInts
  rw [List.length_append, List.map_append]
  exact h

theorem RO.push {w wr w3 : World} {D n : Nat} {G : List Nat} {vo v' : Value} {i : Nat} (h : RO w wr D n G vo) (_hi : i < n) (hD1 : w.heap.size + 1 < D) (hD2 : D ≤ w.heap.size + 2)
    (hown : w3.ownsRow (w.heap.size + 3) 3 1 v' (G.length + 1) ((G.map fun i : Nat => Value.int .i64 (i : Int)) ++ [.int .i64 (i : Int)]))
    (hg : ((wr.setCell ⟨D, i, none⟩ (.bool true)).alloc (.cells #[.int .i64 (i : Int)] 3)).grownBy w3 vo.ownBlock) : RO w (w3.setCell ⟨w.heap.size + 1, 0, none⟩ v') D n (G ++ [i]) v' := by
  obtain ⟨⟨u0, z0⟩, ⟨u1, z1⟩, y0, y1, c0, c1, f0, f1, ord, don, bel, sz⟩ := h
  have hpast := row_past ord
  have hsz : (((wr.setCell ⟨D, i, none⟩ (.bool true)).alloc (.cells #[.int .i64 (i : Int)] 3))).heap.size = wr.heap.size + 1 := by simp
  have hs3 := hg.size
  rw [hsz] at hs3
  have old : ∀ b o u, b < D → b < wr.heap.size → wr.cell? ⟨b, o, none⟩ = some u → w3.cell? ⟨b, o, none⟩ = some u := fun b o u h1 h2 h3 =>
    cell_grown hg (by rw [hsz]; omega) (fun k hk => by have := hpast k hk; omega) (by
      rw [World.cell?_alloc_lt _ _ _ (by simpa using h2), cell_set_ne (fun e => by have := congrArg Addr.block e; simp at this; omega)]
      exact h3)
  have oldf : ∀ b o, b < D → b < wr.heap.size → wr.frozen? ⟨b, o, none⟩ = false → w3.frozen? ⟨b, o, none⟩ = false := fun b o h1 h2 h3 =>
    free_grown hg (by rw [hsz]; omega) (fun k hk => by have := hpast k hk; omega) (by
      rw [World.frozen?_alloc_old _ _ _ (by simp; omega)]
      simpa using h3)
  have C0 := old _ 0 _ (by omega) (by omega) c0
  have C1 := old _ 1 _ (by omega) (by omega) c1
  have Z0 := old _ 0 _ (by omega) (by omega) z0
  have Z1 := old _ 1 _ (by omega) (by omega) z1
  have hst := (World.ownsRow.stored (w := wr) don i (.bool true)).1
  rw [bl_set true (inG (G ++ [i])) (fun k _ => inG_snoc G i k)] at hst
  have hdon : w3.ownsRow (w.heap.size + 2) 4 1 (.slice (some ⟨D, 0, none⟩) n n) n (bl n (inG (G ++ [i]))) := (hst.alloc _).kept hg (Or.inr (by
    intro e
    have := hpast D (by rw [← e]; rfl)
    omega))
  refine ⟨⟨_, by rw [cell_set_ne (by simp)]; exact Z0⟩, ⟨_, by rw [cell_set_ne (by simp)]; exact Z1⟩, by simpa using oldf _ 0 (by omega) (by omega) y0, by simpa using oldf _ 1 (by omega) (by omega) y1,
    World.cell?_setCell_same _ _ _ C0, by rw [cell_set_ne (by simp)]; exact C1, by simpa using oldf _ 0 (by omega) (by omega) f0, by simpa using oldf _ 1 (by omega) (by omega) f1,
    ints_snoc (ownsRow_setCell_below hown (by show w.heap.size + 1 < _; omega) _), ownsRow_setCell_below hdon (by show w.heap.size + 1 < _; omega) _, ?_, by simp; omega⟩
  exact Below.setCell (Below.grown (Below.alloc (Below.setCell bel (by show _ ≤ D; omega) _) (by simp; omega) _) hg (by rw [hsz]; omega) (fun k hk => by have := hpast k hk; omega)) (by show _ ≤ w.heap.size + 1; omega) _

/-- What the rounds of the last loop keep: the order is whole, the rest is told. -/
structure RC (w wr : World) (D n B : Nat) (G C : List Nat) (vo vc : Value) : Prop where
  z0 : ∃ u, wr.cell? ⟨w.heap.size, 0, none⟩ = some u
  z1 : ∃ u, wr.cell? ⟨w.heap.size, 1, none⟩ = some u
  y0 : wr.frozen? ⟨w.heap.size, 0, none⟩ = false
  y1 : wr.frozen? ⟨w.heap.size, 1, none⟩ = false
  c0 : wr.cell? ⟨w.heap.size + 1, 0, none⟩ = some vo
  c1 : wr.cell? ⟨w.heap.size + 1, 1, none⟩ = some vc
  f0 : wr.frozen? ⟨w.heap.size + 1, 0, none⟩ = false
  f1 : wr.frozen? ⟨w.heap.size + 1, 1, none⟩ = false
  ord : OwnInts wr (w.heap.size + 3) vo G
  low : ∀ k, vo.ownBlock = some k → k < B
  cyc : OwnInts wr B vc C
  don : OwnBools wr (w.heap.size + 2) (.slice (some ⟨D, 0, none⟩) n n) n (inG G)
  bel : Below w.heap.size w wr
  hB : D < B
  sz : B ≤ wr.heap.size

theorem RO.toRC {w wr : World} {D n : Nat} {G : List Nat} {vo : Value} (h : RO w wr D n G vo) (hD2 : D ≤ w.heap.size + 2) : RC w wr D n wr.heap.size G [] vo (.slice none 0 0) :=
  ⟨h.z0, h.z1, h.y0, h.y1, h.c0, h.c1, h.f0, h.f1, h.ord, fun k hk => (h.ord.lt k hk).2, ⟨by simp, .inl ⟨rfl, rfl⟩⟩, h.don, h.bel, by have := h.sz; omega, Nat.le_refl _⟩

theorem RC.push {w wr w3 : World} {D n B : Nat} {G C : List Nat} {vo vc v' : Value} {i : Nat} (h : RC w wr D n B G C vo vc) (hD1 : w.heap.size + 1 < D)
    (hown : w3.ownsRow B 3 1 v' (C.length + 1) ((C.map fun i : Nat => Value.int .i64 (i : Int)) ++ [.int .i64 (i : Int)]))
    (hg : (wr.alloc (.cells #[.int .i64 (i : Int)] 3)).grownBy w3 vc.ownBlock) : RC w (w3.setCell ⟨w.heap.size + 1, 1, none⟩ v') D n B G (C ++ [i]) vo v' := by
  obtain ⟨⟨u0, z0⟩, ⟨u1, z1⟩, y0, y1, c0, c1, f0, f1, ord, low, cyc, don, bel, hB, sz⟩ := h
  have hpast := row_past cyc
  have hsz : (wr.alloc (.cells #[.int .i64 (i : Int)] 3)).heap.size = wr.heap.size + 1 := by simp
  have hs3 := hg.size
  rw [hsz] at hs3
  have old : ∀ b o u, b < D → b < wr.heap.size → wr.cell? ⟨b, o, none⟩ = some u → w3.cell? ⟨b, o, none⟩ = some u := fun b o u h1 h2 h3 =>
    cell_grown hg (by rw [hsz]; omega) (fun k hk => by have := hpast k hk; omega) (by
      rw [World.cell?_alloc_lt _ _ _ h2]
      exact h3)
  have oldf : ∀ b o, b < D → b < wr.heap.size → wr.frozen? ⟨b, o, none⟩ = false → w3.frozen? ⟨b, o, none⟩ = false := fun b o h1 h2 h3 =>
    free_grown hg (by rw [hsz]; omega) (fun k hk => by have := hpast k hk; omega) (by
      rw [World.frozen?_alloc_old _ _ _ (by simp; omega)]
      simpa using h3)
  have C0 := old _ 0 _ (by omega) (by omega) c0
  have C1 := old _ 1 _ (by omega) (by omega) c1
  have Z0 := old _ 0 _ (by omega) (by omega) z0
  have Z1 := old _ 1 _ (by omega) (by omega) z1
  have hdon : w3.ownsRow (w.heap.size + 2) 4 1 (.slice (some ⟨D, 0, none⟩) n n) n (bl n (inG G)) := (World.ownsRow.alloc don _).kept hg (Or.inr (by
    intro e
    have := hpast D (by rw [← e]; rfl)
    omega))
  have hord : OwnInts w3 (w.heap.size + 3) vo G := (World.ownsRow.alloc ord _).kept hg (by
    cases hv : vo.ownBlock with
    | none => exact Or.inl rfl
    | some k =>
      refine Or.inr (fun e => ?_)
      have h1 := low k hv
      have h2 := hpast k e.symm
      omega)
  refine ⟨⟨_, by rw [cell_set_ne (by simp)]; exact Z0⟩, ⟨_, by rw [cell_set_ne (by simp)]; exact Z1⟩, by simpa using oldf _ 0 (by omega) (by omega) y0, by simpa using oldf _ 1 (by omega) (by omega) y1,
    by rw [cell_set_ne (by simp)]; exact C0, World.cell?_setCell_same _ _ _ C1, by simpa using oldf _ 0 (by omega) (by omega) f0, by simpa using oldf _ 1 (by omega) (by omega) f1,
    ownsRow_setCell_below hord (by show w.heap.size + 1 < _; omega) _, low, ints_snoc (ownsRow_setCell_below hown (by show w.heap.size + 1 < _; omega) _), ownsRow_setCell_below hdon (by show w.heap.size + 1 < _; omega) _, ?_, hB, by simp; omega⟩
  exact Below.setCell (Below.grown (Below.alloc bel (by omega) _) hg (by rw [hsz]; omega) (fun k hk => by have := hpast k hk; omega)) (by show _ ≤ w.heap.size + 1; omega) _

def RO1 (rows : List (List Int)) (w : World) (D k : Nat) (s5 : Value) (wr : World) : Prop :=
  ∃ (G : List Nat) (b : Bool) (vo : Value), s5 = .bool b ∧ OInv rows G ∧ (b = false → nextOf rows G = none) ∧ 2 * (rows.length - G.length) + (if b = true then 1 else 0) ≤ k ∧ RO w wr D rows.length G vo

def RO2 (rows : List (List Int)) (w : World) (D : Nat) (G : List Nat) (s5 s6 : Value) (wr : World) : Prop :=
  ∃ (i : Nat) (b : Bool) (G' : List Nat) (vo : Value), s5 = .bool b ∧ s6 = .int .i64 i ∧ i ≤ rows.length ∧ (b = false → G' = G ∧ ∀ j, j < i → ready rows G j = false) ∧ (b = true → OInv rows G' ∧ G'.length = G.length + 1) ∧
    RO w wr D rows.length G' vo

set_option maxHeartbeats 4000000 in
set_option maxRecDepth 100000 in
theorem rorder_any (v : Value) (rows : List (List Int)) (w : World) (h : RowsAt w v rows) (hs : smallB rows = true) :
    Calls Try.prog 10 #[v] w fun e w' => ∃ vo vc, e = .returned (.agg #[vo, vc]) ∧ OwnInts w' w.heap.size vo (ordOf rows) ∧ OwnInts w' w.heap.size vc (cycOf rows) ∧ Below w.heap.size w w' := by
  obtain ⟨i4, hi4, hz40, hz41, hz42⟩ := info_parts info4
  obtain ⟨i3, hi3, hz30, hz31, hz32⟩ := info_parts info3
  obtain ⟨hlen, -⟩ := smallB_true hs
  obtain ⟨a, c, rfl, hl, hx⟩ := h
  have HR : Hid (RowsAt w (.slice a rows.length c) rows) := ⟨a, c, rfl, hl, hx⟩
  clear hx hs hl
  go_enter Try.func10, Try.ntmps10
  go_wp2_with (at_make; refine wpList_make_full _ rfl _ _ 32 rfl (w.heap.size + 2) 4 i4 (.bool false) 1 Try.underlying32 hi4 hz40 hz41 _ _ _ _ rows.length rfl rfl rfl rfl ?b2 ?b3 ?b4 ?_)
  case b2 => rw [hz42]; omega
  case b3 => unfold maxLen; omega
  case b4 => simp
  intro w1 hown1 hg1
  generalize hD : w.heap.size + 1 + 1 = D at hown1 ⊢
  have hD1 : w.heap.size + 1 < D := by omega
  have hD2 : D ≤ w.heap.size + 2 := by omega
  clear hD
  have hs1 : D < w1.heap.size := (hown1.lt D (by simp [Value.ownBlock])).2
  have hB1 : Below w.heap.size w w1 := Below.grown (by go_grown) hg1 (by simp only [World.size_alloc]; omega) (fun k hk => by cases hk)
  have H0 : Hid (RO w w1 D rows.length [] (.slice none 0 0)) := by
    refine ⟨⟨_, cell_grown (v := .slice none 0 0) hg1 (by simp only [World.size_alloc]; omega) (fun k hk => by cases hk) (by simp)⟩, ⟨_, cell_grown (v := .slice none 0 0) hg1 (by simp only [World.size_alloc]; omega) (fun k hk => by cases hk) (by simp)⟩,
      free_grown hg1 (by simp only [World.size_alloc]; omega) (fun k hk => by cases hk) (by simp), free_grown hg1 (by simp only [World.size_alloc]; omega) (fun k hk => by cases hk) (by simp),
      cell_grown hg1 (by simp only [World.size_alloc]; omega) (fun k hk => by cases hk) (by simp), cell_grown hg1 (by simp only [World.size_alloc]; omega) (fun k hk => by cases hk) (by simp),
      free_grown hg1 (by simp only [World.size_alloc]; omega) (fun k hk => by cases hk) (by simp), free_grown hg1 (by simp only [World.size_alloc]; omega) (fun k hk => by cases hk) (by simp),
      ⟨by simp, .inl ⟨rfl, rfl⟩⟩, ?_, hB1, by omega⟩
    show w1.ownsRow _ _ _ _ _ _
    have := bl_made rows.length
    rw [this] at hown1
    exact own_mono hown1 (by omega)
  clear hown1 hg1
  go_wp2_with fail
  go_loopg [5] (2 * rows.length + 1) (fun k s5 wr => RO1 rows w D k s5 wr)
  case atStart => exact ⟨[], true, _, rfl, oinv_start rows, (fun h => by cases h), by simp, H0.out⟩
  case round =>
    obtain ⟨G, b, vo, rfl, hI, hb, hgk, hR⟩ := hrel
    have HI := Lib.hid hI
    have HB := Lib.hid hb
    have HR0 := Lib.hid hR
    have hGl := hI.length_le
    clear hI hb hR
    cases b with
    | false =>
      have hEnd := oinv_end HI.out (HB.out rfl)
      have HEnd := Lib.hid hEnd
      clear hEnd
      have HC := Lib.hid (HR0.out.toRC hD2)
      have hszr := HR0.out.sz
      generalize hB3 : wr.heap.size = B3 at *
      go_wp2_with fail
      go_loopw [45] (fun i wr => ∃ (k : Nat) (vc : Value), i = .int .i64 k ∧ k ≤ rows.length ∧ RC w wr D rows.length B3 G ((List.range k).filter fun i => !inG G i) vo vc) (fun i _ => rows.length - (intOf i).toNat)
      case atStart => exact ⟨0, _, rfl, Nat.zero_le _, HC.out⟩
      case round =>
        obtain ⟨k, vc, rfl, hk, hR⟩ := hrel
        have HR1 := Lib.hid hR
        have hB := hR.bel
        have hsz := hR.sz
        have hB3' := hR.hB
        have c0 := hR.c0
        have c1 := hR.c1
        have f1 := hR.f1
        obtain ⟨ac, cc, rfl⟩ := own_len hR.cyc
        obtain ⟨ao, co, rfl⟩ := own_len hR.ord
        by_cases hlt : k < rows.length
        · have hcell : wr.cell? ⟨D, k, none⟩ = some (.bool (inG G k)) := by
            have := World.ownsRow.cellAt hR.don k (by omega)
            rwa [bl_at hlt] at this
          have HSN : Hid ((List.range (k + 1)).filter (fun i => !inG G i) = (List.range k).filter (fun i => !inG G i) ++ (if inG G k = true then [] else [k])) := by
            show (List.range (k + 1)).filter (fun i => !inG G i) = _
            rw [List.range_succ, List.filter_append]
            cases hin : inG G k <;> simp [hin]
          clear hR
          cases hin : inG G k with
          | true =>
            rw [hin] at hcell HSN
            clear hin
            go_wp2_with fail
            go_roundw
            case rel => exact ⟨k + 1, _, by go_num, by omega, by rw [HSN.out]; simpa using HR1.out⟩
            case measure => simp [intOf]; omega
          | false =>
            rw [hin] at hcell HSN
            clear hin
            have hcl : ((List.range k).filter (fun i => !inG G i)).length ≤ k := by
              have := List.length_filter_le (fun i => !inG G i) (List.range k)
              simpa using this
            generalize (List.range k).filter (fun i => !inG G i) = C at *
            go_wp2_with (at_builtin; refine wpList_append_own _ rfl _ _ 25 rfl B3 3 i3 (.int .i64 0) 1 8 Try.underlying25 hi3 hz30 hz31 hz32 rfl (by decide) _ _ _ rfl (World.ownsRow.alloc HR1.out.cyc _) ⟨wr.heap.size, 0, none⟩ 1 1 [.int .i64 (k : Int)] rfl rfl ?c1 ?c2 ?c3 ?c4 ?c5 ?_)
            case c1 => exact one_new rfl
            case c2 => simp [Value.oneCell']
            case c3 => unfold maxLen; omega
            case c4 => omega
            case c5 => simp; omega
            intro v' w5 hown5 hgrow _
            obtain ⟨a5, c5, rfl⟩ := own_len hown5
            have hPush := HR1.out.push hD1 hown5 hgrow
            have C1 : w5.cell? ⟨w.heap.size + 1, 1, none⟩ = some (.slice ac C.length cc) := cell_grown hgrow (by simp; omega) (fun k hk => by have := row_past HR1.out.cyc k hk; omega) (by
              rw [World.cell?_alloc_lt _ _ _ (by show w.heap.size + 1 < _; omega)]; exact c1)
            have F1 : w5.frozen? ⟨w.heap.size + 1, 1, none⟩ = false := free_grown hgrow (by simp; omega) (fun k hk => by have := row_past HR1.out.cyc k hk; omega) (by
              rw [World.frozen?_alloc_old _ _ _ (by simp; omega)]; exact f1)
            have HPush := Lib.hid hPush
            clear hPush hown5 hgrow c0 c1 f1 hcell hB
            go_wp2_with fail
            go_roundw
            case rel => exact ⟨k + 1, _, by go_num, by omega, by rw [HSN.out]; simpa using HPush.out⟩
            case measure => simp [intOf]; omega
        · obtain rfl : k = rows.length := by omega
          obtain ⟨⟨u0, z0⟩, ⟨u1, z1⟩, y0, y1, -, -, -, -, ord, low, cyc, -, -, -, -⟩ := hR
          have HO := Lib.hid ord
          have HC2 := Lib.hid cyc
          clear ord cyc
          have hWf : ∀ (B : Nat) (v : Value) (L : List Nat), w.heap.size + 2 < B → OwnInts wr B v L → OwnInts ((wr.setCell ⟨w.heap.size, 0, none⟩ (.slice ao G.length co)).setCell ⟨w.heap.size, 1, none⟩ (.slice ac ((List.range rows.length).filter fun i => !inG G i).length cc)) w.heap.size v L := fun B v L hb h =>
            own_mono (ownsRow_setCell_below (ownsRow_setCell_below h (by show w.heap.size < _; omega) _) (by show w.heap.size < _; omega) _) (by omega)
          have HWf := Lib.hid hWf
          clear hWf
          go_wp2_with fail
          refine bodyPost_ret (v := .agg #[.slice ao G.length co, .slice ac ((List.range rows.length).filter fun i => !inG G i).length cc]) ?_ rfl ⟨_, _, rfl, ?_, ?_, ?_⟩
          · simp [results, Try.results10, go_sem, *]
          · rw [HEnd.out]; exact HWf.out _ _ _ (by omega) HO.out
          · unfold cycOf; rw [HEnd.out]; exact HWf.out _ _ _ (by omega) HC2.out
          · exact Below.setCell (Below.setCell hB (by show _ ≤ w.heap.size; omega) _) (by show _ ≤ w.heap.size; omega) _
    | true =>
      go_wp2_with fail
      obtain ⟨wo, rfl⟩ : ∃ wo : World, wo = wr := ⟨_, rfl⟩
      go_loopw [5, 6] (RO2 rows w D G) (fun _ i _ => rows.length - (intOf i).toNat)
      case atStart => exact ⟨0, false, G, vo, rfl, rfl, Nat.zero_le _, fun _ => ⟨rfl, fun j hj => absurd hj (by omega)⟩, (fun h => by cases h), HR0.out⟩
      case round =>
        obtain ⟨i, b, G', vo', rfl, rfl, hil, hbf, hbt, hR⟩ := hrel
        have HF := Lib.hid hbf
        have HT := Lib.hid hbt
        have HR1 := Lib.hid hR
        clear hbf hbt hR
        cases b with
        | true =>
          obtain ⟨q1, q2⟩ := HT.out rfl
          have Q1 := Lib.hid q1
          have Q2 := Lib.hid q2
          have q3 := q1.length_le
          clear q1
          by_cases hlt : i < rows.length
          · go_wp2_with fail
            go_roundg (gk - 2)
            case measure => simp at hgk; omega
            case rel => exact ⟨G', true, vo', rfl, Q1.out, (fun h => by cases h), by simp at hgk ⊢; omega, HR1.out⟩
          · go_wp2_with fail
            go_roundg (gk - 2)
            case measure => simp at hgk; omega
            case rel => exact ⟨G', true, vo', rfl, Q1.out, (fun h => by cases h), by simp at hgk ⊢; omega, HR1.out⟩
        | false =>
          obtain ⟨rfl, q2⟩ := HF.out rfl
          have Q2 := Lib.hid q2
          clear q2
          by_cases hlt : i < rows.length
          · have hR := HR1.out
            have hB := hR.bel
            have hsz := hR.sz
            have c0 := hR.c0
            have f0 := hR.f0
            have hcell : wr.cell? ⟨D, i, none⟩ = some (.bool (inG G' i)) := by
              have := World.ownsRow.cellAt hR.don i (by omega)
              rwa [bl_at hlt] at this
            have hfr : wr.frozen? ⟨D, i, none⟩ = false := World.ownsRow.frozenAt hR.don i
            have hBA : BoolsAt wr (.slice (some ⟨D, 0, none⟩) rows.length rows.length) rows.length (inG G') := OwnBools.boolsAt hR.don
            have hRA : RowsAt wr (.slice a rows.length c) rows := HR.out.below hB
            have HBA := Lib.hid hBA
            have HRA := Lib.hid hRA
            clear hBA hRA hR
            have HRE : Hid (ready rows G' i = (!inG G' i && !waitsB rows i (inG G'))) := ready_eq
            have HNX : Hid (ready rows G' i = false → ∀ j, j < i + 1 → ready rows G' j = false) := fun h j hj => by
              by_cases e : j = i
              · subst e; exact h
              · exact Q2.out j (by omega)
            cases hin : inG G' i with
            | true =>
              rw [hin] at hcell
              have HRf : Hid (ready rows G' i = false) := by
                have := HRE.out
                rw [hin] at this
                exact this
              clear hin
              go_wp2_with fail
              go_roundw
              case rel => exact ⟨i + 1, false, G', vo', rfl, by go_num, by omega, fun _ => ⟨rfl, HNX.out HRf.out⟩, (fun h => by cases h), HR1.out⟩
              case measure => simp [intOf]; omega
            | false =>
              rw [hin] at hcell
              cases hwt : waitsB rows i (inG G') with
              | true =>
                have HRf : Hid (ready rows G' i = false) := by
                  have := HRE.out
                  rw [hin, hwt] at this
                  exact this
                have HWT := Lib.hid hwt
                clear hin hwt
                go_wp2_with fail
                refine (waits_any _ _ rows i (inG G') _ HRA.out hlt HBA.out).mono ?_
                rintro e w5 ⟨rfl, rfl⟩
                rw [HWT.out]
                go_wp2_with fail
                go_roundw
                case rel => exact ⟨i + 1, false, G', vo', rfl, by go_num, by omega, fun _ => ⟨rfl, HNX.out HRf.out⟩, (fun h => by cases h), HR1.out⟩
                case measure => simp [intOf]; omega
              | false =>
                have HRt : Hid (ready rows G' i = true) := by
                  have := HRE.out
                  rw [hin, hwt] at this
                  exact this
                have HWT := Lib.hid hwt
                clear hin hwt
                go_wp2_with fail
                refine (waits_any _ _ rows i (inG G') _ HRA.out hlt HBA.out).mono ?_
                rintro e w5 ⟨rfl, rfl⟩
                rw [HWT.out]
                have HO : Hid ((wr.setCell ⟨D, i, none⟩ (.bool true)).ownsRow (w.heap.size + 3) 3 1 vo' G'.length (G'.map fun i : Nat => Value.int .i64 (i : Int))) := ownsRow_setCell_below HR1.out.ord (by show D < _; omega) _
                go_wp2_with (at_builtin; refine wpList_append_own _ rfl _ _ 25 rfl (w.heap.size + 3) 3 i3 (.int .i64 0) 1 8 Try.underlying25 hi3 hz30 hz31 hz32 rfl (by decide) _ _ _ rfl (HO.out.alloc _) ⟨wr.heap.size, 0, none⟩ 1 1 [.int .i64 (i : Int)] rfl rfl ?c1 ?c2 ?c3 ?c4 ?c5 ?_)
                case c1 => exact one_new (by simp)
                case c2 => simp [Value.oneCell']
                case c3 => unfold maxLen; omega
                case c4 => omega
                case c5 => simp; omega
                intro v' w5 hown5 hgrow _
                obtain ⟨a5, c5, rfl⟩ := own_len hown5
                have hNext : OInv rows (G' ++ [i]) := oinv_step HI.out (nextOf_eq_some hlt HRt.out (fun j hj => Q2.out j hj))
                have hPush := HR1.out.push hlt hD1 hD2 hown5 hgrow
                have C0 : w5.cell? ⟨w.heap.size + 1, 0, none⟩ = some vo' := cell_grown hgrow (by simp; omega) (fun k hk => by have := row_past HO.out k hk; omega) (by
                  rw [World.cell?_alloc_lt _ _ _ (by simp; omega), cell_set_ne (fun e => by have := congrArg Addr.block e; simp at this; omega)]; exact c0)
                have F0 : w5.frozen? ⟨w.heap.size + 1, 0, none⟩ = false := free_grown hgrow (by simp; omega) (fun k hk => by have := row_past HO.out k hk; omega) (by
                  rw [World.frozen?_alloc_old _ _ _ (by simp; omega)]; simpa using f0)
                have HNext := Lib.hid hNext
                have HPush := Lib.hid hPush
                clear hNext hPush hown5 hgrow HO c0 f0 hcell hfr hB
                go_wp2_with fail
                go_roundw
                case rel => exact ⟨i + 1, true, G' ++ [i], _, rfl, by go_num, by omega, (fun h => by cases h), fun _ => ⟨HNext.out, by simp⟩, HPush.out⟩
                case measure => simp [intOf]; omega
          · go_wp2_with fail
            go_roundg (gk - 1)
            case measure => simp at hgk; omega
            case rel => exact ⟨G', false, vo', rfl, HI.out, fun _ => nextOf_eq_none (fun j hj => Q2.out j (by omega)), by simp at hgk ⊢; omega, HR1.out⟩

end Go.Proofs.Ytmkbdjekidcfaaa
