/- The contract of shut.Order. -/
import Derived.Test.YtmkbdjekidcfaaaH
namespace Go.Proofs.Ytmkbdjekidcfaaa
open Go.RowKit
open Go.Maps (Keyed has Tidy)

def O1 (rows : List (List Int)) (w : World) (L D Gd : Nat) (vl : Value) (Bk Mk : Nat → Nat) (k : Nat) (s7 : Value) (wr : World) : Prop :=
  ∃ (G : List Nat) (vo : Value), s7 = .int .i64 (nextInt rows G) ∧ OInv rows G ∧ rows.length - G.length ≤ k ∧ SO w wr rows.length L D Gd vl Bk G vo (.slice none 0 0) ∧ TB wr (w.heap.size + 2) L rows.length 400 Bk Mk (sG rows G)

def sM (rows : List (List Int)) (G : List Nat) (i m : Nat) (j : Nat) : Int → Bool := if j < m then sG rows (G ++ [i]) j else sG rows G j

theorem sM_step {rows : List (List Int)} {G : List Nat} {i m : Nat} : ∀ j, j ≠ m → ∀ q, sM rows G i m j q = sM rows G i (m + 1) j q := by
  intro j hj q
  unfold sM
  by_cases h : j < m
  · rw [if_pos h, if_pos (by omega)]
  · rw [if_neg h, if_neg (by omega)]

set_option maxHeartbeats 4000000 in
set_option maxRecDepth 100000 in
theorem order_any (v : Value) (rows : List (List Int)) (w : World) (h : RowsAt w v rows) (hs : smallB rows = true) :
    Calls Try.prog 9 #[v] w fun e w' => ∃ vo vc, e = .returned (.agg #[vo, vc]) ∧ OwnInts w' w.heap.size vo (ordOf rows) ∧ OwnInts w' w.heap.size vc (cycOf rows) ∧ Below w.heap.size w w' := by
  obtain ⟨i4, hi4, hz40, hz41, hz42⟩ := info_parts info4
  obtain ⟨i3, hi3, hz30, hz31, hz32⟩ := info_parts info3
  obtain ⟨hlen, -⟩ := smallB_true hs
  have HS := Lib.hid hs
  have HR := Lib.hid h
  obtain ⟨a, c, rfl, hl, hx⟩ := h
  clear hx hs hl
  have hmf : ∀ (fn : Fn) (first cap : Array Value) (w : World), (Instr.makeFunc fn first cap).run Try.prog w = .ok (.func fn first cap) w := fun _ _ _ _ => rfl
  go_enter Try.func9, Try.ntmps9
  go_wp2_with fail
  have HR2 : Hid (RowsAt ((w.alloc (.cells #[.slice none 0 0, .slice none 0 0] 27)).alloc (.cells #[.slice none 0 0, .slice none 0 0] 27)) (.slice a rows.length c) rows) := (HR.out.below ((Below.refl _ _).alloc (Nat.le_refl _) _)).below ((Below.refl _ _).alloc (Nat.le_refl _) _)
  refine (things_any _ rows _ HR2.out HS.out).mono ?_
  rintro e w1 ⟨vl, Bk, Mk, rfl, hrow, htb, hb1⟩
  obtain ⟨al, cl, rfl⟩ := own_len hrow
  have hs1 : w.heap.size + 1 < w1.heap.size := by have := hb1.size; simp at this; omega
  have hb1' : Below w.heap.size w w1 := below_via (by go_grown) hb1 (by simp; omega)
  have c0 : w1.cell? ⟨w.heap.size + 1, 0, none⟩ = some (.slice none 0 0) := cell_over hb1 (by simp) (by simp)
  have c1 : w1.cell? ⟨w.heap.size + 1, 1, none⟩ = some (.slice none 0 0) := cell_over hb1 (by simp) (by simp)
  have f0 : w1.frozen? ⟨w.heap.size + 1, 0, none⟩ = false := free_over hb1 (by simp) (by simp)
  have f1 : w1.frozen? ⟨w.heap.size + 1, 1, none⟩ = false := free_over hb1 (by simp) (by simp)
  have z0 : w1.cell? ⟨w.heap.size, 0, none⟩ = some (.slice none 0 0) := cell_over hb1 (by simp; omega) (by simp)
  have z1 : w1.cell? ⟨w.heap.size, 1, none⟩ = some (.slice none 0 0) := cell_over hb1 (by simp; omega) (by simp)
  have y0 : w1.frozen? ⟨w.heap.size, 0, none⟩ = false := free_over hb1 (by simp; omega) (by simp)
  have y1 : w1.frozen? ⟨w.heap.size, 1, none⟩ = false := free_over hb1 (by simp; omega) (by simp)
  have HRow := Lib.hid hrow
  have HTB := Lib.hid htb
  clear hrow htb hb1
  go_wp2_with (at_make; refine wpList_make_full _ rfl _ _ 32 rfl (w.heap.size + 2) 4 i4 (.bool false) 1 Try.underlying32 hi4 hz40 hz41 _ _ _ _ rows.length rfl rfl rfl rfl ?b2 ?b3 ?b4 ?_)
  case b2 => rw [hz42]; omega
  case b3 => unfold maxLen; omega
  case b4 => simp; omega
  intro w2 hown2 hg2
  have hs2 := hg2.size
  simp only [World.size_alloc] at hs2
  have hdl := (hown2.lt _ rfl).2
  simp only [] at hdl
  generalize hDe : w1.heap.size + 1 = D at hown2 hdl ⊢
  have hLD : w1.heap.size < D := by omega
  have old : ∀ b o u, w1.cell? ⟨b, o, none⟩ = some u → (w2.alloc (.cells #[.slice (some ⟨D, 0, none⟩) rows.length rows.length] 32)).cell? ⟨b, o, none⟩ = some u := fun b o u h => by
    have hb := World.block_lt_of_cell? _ _ h
    have hb : b < w1.heap.size := hb
    rw [World.cell?_alloc_lt _ _ _ (by show b < _; omega)]
    exact cell_grown hg2 (by simp; omega) (fun k hk => by cases hk) (by rw [World.cell?_alloc_lt _ _ _ hb]; exact h)
  have oldf : ∀ b o, b < w1.heap.size → w1.frozen? ⟨b, o, none⟩ = false → (w2.alloc (.cells #[.slice (some ⟨D, 0, none⟩) rows.length rows.length] 32)).frozen? ⟨b, o, none⟩ = false := fun b o hb h => by
    rw [World.frozen?_alloc_old _ _ _ (by simp; omega)]
    exact free_grown hg2 (by simp; omega) (fun k hk => by cases hk) (by rw [World.frozen?_alloc_old _ _ _ (by simp; omega)]; exact h)
  have hSO : SO w (w2.alloc (.cells #[.slice (some ⟨D, 0, none⟩) rows.length rows.length] 32)) rows.length w1.heap.size D w2.heap.size (.slice al rows.length cl) Bk [] (.slice none 0 0) (.slice none 0 0) := by
    refine ⟨⟨_, old _ _ _ z0⟩, ⟨_, old _ _ _ z1⟩, oldf _ _ (by omega) y0, oldf _ _ (by omega) y1, old _ _ _ c0, old _ _ _ c1, oldf _ _ (by omega) f0, oldf _ _ (by omega) f1, ?_, ?_, ?_, ?_, ?_, ⟨by simp, .inl ⟨rfl, rfl⟩⟩, ?_, by omega, hLD, hdl, by simp⟩
    · rw [World.cell?_alloc_lt _ _ _ (by show w1.heap.size < _; omega)]
      exact cell_grown hg2 (by simp) (fun k hk => by cases hk) (by simp)
    · simp
    · exact ((own_mono HRow.out (by simp)).alloc _ |>.kept hg2 (by cases h : (Value.slice al rows.length cl).ownBlock <;> simp)).alloc _
    · exact fun k hk => (HRow.out.lt k hk).2
    · show World.ownsRow _ _ _ _ _ _ _
      have := bl_made rows.length
      rw [this] at hown2
      exact (own_mono hown2 (by omega)).alloc _
    · exact Below.alloc (Below.grown (Below.alloc hb1' (by omega) _) hg2 (by simp; omega) (fun k hk => by cases hk)) (by omega) _
  have hTB2 : TB (w2.alloc (.cells #[.slice (some ⟨D, 0, none⟩) rows.length rows.length] 32)) (w.heap.size + 2) w1.heap.size rows.length 400 Bk Mk (sG rows []) := by
    have h1 := HTB.out
    simp only [World.size_alloc] at h1
    refine (h1.of_low (fun k hk => ?_)).congr (fun i hi q => sG_nil q)
    exact (alloc_old (by omega)).trans ((hg2.block k (by simp; omega) (fun e => by cases e)).trans (alloc_old hk))
  have HSO := Lib.hid hSO
  have HTB2 := Lib.hid hTB2
  clear hSO hTB2 old oldf c0 c1 f0 f1 z0 z1 y0 y1 hown2 hg2 HRow HTB
  go_wp2_with fail
  refine (next_any rows [] _ w1.heap.size D w2.heap.size (w.heap.size + 2) w1.heap.size _ Bk Mk hlen HSO.out.l0 HSO.out.g0 HSO.out.row HTB2.out HSO.out.don).mono ?_
  rintro e w3 ⟨rfl, rfl⟩
  go_wp2_with fail
  go_loopg [7] rows.length (fun k s7 wr => O1 rows w w1.heap.size D w2.heap.size (.slice al rows.length cl) Bk Mk k s7 wr)
  case atStart => exact ⟨[], _, rfl, oinv_start rows, by simp, HSO.out, HTB2.out⟩
  case round =>
    obtain ⟨G, vo, rfl, hI, hgk, hSO, hTB⟩ := hrel
    have HI := Lib.hid hI
    have HSO2 := Lib.hid hSO
    have HTB3 := Lib.hid hTB
    clear hI hTB
    have HGk := Lib.hid hgk
    clear hgk
    have l0 := hSO.l0
    have g0 := hSO.g0
    have c0 := hSO.c0
    have f0 := hSO.f0
    have hsz := hSO.sz
    have hGd := hSO.hG
    cases hnx : nextOf rows G with
    | none =>
      have hni : nextInt rows G = -1 := by unfold nextInt; rw [hnx]
      have hEnd := oinv_end HI.out hnx
      have HEnd := Lib.hid hEnd
      clear hEnd hnx
      rw [hni]
      clear hni
      have hRC : RC w wr D rows.length wr.heap.size G [] vo (.slice none 0 0) := ⟨hSO.z0, hSO.z1, hSO.y0, hSO.y1, hSO.c0, hSO.c1, hSO.f0, hSO.f1, own_mono hSO.ord (by have := hSO.hL; have := hSO.hD; have := hSO.hG; omega), fun k hk => (hSO.ord.lt k hk).2, ⟨by simp, .inl ⟨rfl, rfl⟩⟩, hSO.don, hSO.bel, by have := hSO.hG; omega, Nat.le_refl _⟩
      have HC := Lib.hid hRC
      have hD1 : w.heap.size + 1 < D := by have := hSO.hL; have := hSO.hD; omega
      clear hSO hRC
      obtain ⟨wo, rfl⟩ : ∃ wo : World, wo = wr := ⟨_, rfl⟩
      generalize hB3 : wo.heap.size = B3 at *
      go_wp2_with fail
      go_loopw [47] (fun i wr => ∃ (k : Nat) (vc : Value), i = .int .i64 k ∧ k ≤ rows.length ∧ RC w wr D rows.length B3 G ((List.range k).filter fun i => !inG G i) vo vc) (fun i _ => rows.length - (intOf i).toNat)
      case atStart => exact ⟨0, _, rfl, Nat.zero_le _, HC.out⟩
      case round =>
        obtain ⟨k, vc, rfl, hk, hR⟩ := hrel
        have HR1 := Lib.hid hR
        have hB := hR.bel
        have hsz := hR.sz
        have hB3' := hR.hB
        have c0 := hR.c0
        have c1 := hR.c1
        have f1 := hR.f1
        obtain ⟨ac, cc, rfl⟩ := own_len hR.cyc
        obtain ⟨ao, co, rfl⟩ := own_len hR.ord
        by_cases hlt : k < rows.length
        · have hcell : wr.cell? ⟨D, k, none⟩ = some (.bool (inG G k)) := by
            have := World.ownsRow.cellAt hR.don k (by omega)
            rwa [bl_at hlt] at this
          have HSN : Hid ((List.range (k + 1)).filter (fun i => !inG G i) = (List.range k).filter (fun i => !inG G i) ++ (if inG G k = true then [] else [k])) := by
            show (List.range (k + 1)).filter (fun i => !inG G i) = _
            rw [List.range_succ, List.filter_append]
            cases hin : inG G k <;> simp [hin]
          clear hR
          cases hin : inG G k with
          | true =>
            rw [hin] at hcell HSN
            clear hin
            go_wp2_with fail
            go_roundw
            case rel => exact ⟨k + 1, _, by go_num, by omega, by rw [HSN.out]; simpa using HR1.out⟩
            case measure => simp [intOf]; omega
          | false =>
            rw [hin] at hcell HSN
            clear hin
            have hcl : ((List.range k).filter (fun i => !inG G i)).length ≤ k := by
              have := List.length_filter_le (fun i => !inG G i) (List.range k)
              simpa using this
            generalize (List.range k).filter (fun i => !inG G i) = C at *
            go_wp2_with (at_builtin; refine wpList_append_own _ rfl _ _ 25 rfl B3 3 i3 (.int .i64 0) 1 8 Try.underlying25 hi3 hz30 hz31 hz32 rfl (by decide) _ _ _ rfl (World.ownsRow.alloc HR1.out.cyc _) ⟨wr.heap.size, 0, none⟩ 1 1 [.int .i64 (k : Int)] rfl rfl ?c1 ?c2 ?c3 ?c4 ?c5 ?_)
            case c1 => exact one_new rfl
            case c2 => simp [Value.oneCell']
            case c3 => unfold maxLen; omega
            case c4 => omega
            case c5 => simp; omega
            intro v' w5 hown5 hgrow _
            obtain ⟨a5, c5, rfl⟩ := own_len hown5
            have hPush := HR1.out.push hD1 hown5 hgrow
            have C1 : w5.cell? ⟨w.heap.size + 1, 1, none⟩ = some (.slice ac C.length cc) := cell_grown hgrow (by simp; omega) (fun k hk => by have := row_past HR1.out.cyc k hk; omega) (by
              rw [World.cell?_alloc_lt _ _ _ (by show w.heap.size + 1 < _; omega)]; exact c1)
            have F1 : w5.frozen? ⟨w.heap.size + 1, 1, none⟩ = false := free_grown hgrow (by simp; omega) (fun k hk => by have := row_past HR1.out.cyc k hk; omega) (by
              rw [World.frozen?_alloc_old _ _ _ (by simp; omega)]; exact f1)
            have HPush := Lib.hid hPush
            clear hPush hown5 hgrow c0 c1 f1 hcell hB
            go_wp2_with fail
            go_roundw
            case rel => exact ⟨k + 1, _, by go_num, by omega, by rw [HSN.out]; simpa using HPush.out⟩
            case measure => simp [intOf]; omega
        · obtain rfl : k = rows.length := by omega
          obtain ⟨⟨u0, z0⟩, ⟨u1, z1⟩, y0, y1, -, -, -, -, ord, low, cyc, -, -, -, -⟩ := hR
          have HO := Lib.hid ord
          have HC2 := Lib.hid cyc
          clear ord cyc
          have hWf : ∀ (B : Nat) (v : Value) (L : List Nat), w.heap.size + 2 < B → OwnInts wr B v L → OwnInts ((wr.setCell ⟨w.heap.size, 0, none⟩ (.slice ao G.length co)).setCell ⟨w.heap.size, 1, none⟩ (.slice ac ((List.range rows.length).filter fun i => !inG G i).length cc)) w.heap.size v L := fun B v L hb h =>
            own_mono (ownsRow_setCell_below (ownsRow_setCell_below h (by show w.heap.size < _; omega) _) (by show w.heap.size < _; omega) _) (by omega)
          have HWf := Lib.hid hWf
          clear hWf
          go_wp2_with fail
          refine bodyPost_ret (v := .agg #[.slice ao G.length co, .slice ac ((List.range rows.length).filter fun i => !inG G i).length cc]) ?_ rfl ⟨_, _, rfl, ?_, ?_, ?_⟩
          · simp [results, Try.results9, go_sem, *]
          · rw [HEnd.out]; exact HWf.out _ _ _ (by omega) HO.out
          · unfold cycOf; rw [HEnd.out]; exact HWf.out _ _ _ (by omega) HC2.out
          · exact Below.setCell (Below.setCell hB (by show _ ≤ w.heap.size; omega) _) (by show _ ≤ w.heap.size; omega) _
    | some i =>
      obtain ⟨wo, rfl⟩ : ∃ wo : World, wo = wr := ⟨_, rfl⟩
      have hni : nextInt rows G = i := by unfold nextInt; rw [hnx]
      obtain ⟨hi, -, -⟩ := nextOf_some hnx
      have hNext := oinv_step HI.out hnx
      have HNext := Lib.hid hNext
      have hGl := hNext.length_le
      clear hnx hNext
      rw [hni]
      clear hni
      simp only [List.length_append, List.length_cons, List.length_nil] at hGl
      have hcell : wo.cell? ⟨D, i, none⟩ = some (.bool (inG G i)) := by
        have := World.ownsRow.cellAt hSO.don i (by omega)
        rwa [bl_at hi] at this
      have hfr : wo.frozen? ⟨D, i, none⟩ = false := World.ownsRow.frozenAt hSO.don i
      have HO : Hid ((wo.setCell ⟨D, i, none⟩ (.bool true)).ownsRow (w2.heap.size + 1) 3 1 vo G.length (G.map fun i : Nat => Value.int .i64 (i : Int))) := ownsRow_setCell_below hSO.ord (by show D < _; omega) _
      clear hSO
      go_wp2_with (at_builtin; refine wpList_append_own _ rfl _ _ 25 rfl (w2.heap.size + 1) 3 i3 (.int .i64 0) 1 8 Try.underlying25 hi3 hz30 hz31 hz32 rfl (by decide) _ _ _ rfl (HO.out.alloc _) ⟨wo.heap.size, 0, none⟩ 1 1 [.int .i64 (i : Int)] rfl rfl ?c1 ?c2 ?c3 ?c4 ?c5 ?_)
      case c1 => exact one_new (by simp)
      case c2 => simp [Value.oneCell']
      case c3 => unfold maxLen; omega
      case c4 => omega
      case c5 => simp; omega
      intro v' w5 hown5 hgrow _
      obtain ⟨a5, c5, rfl⟩ := own_len hown5
      obtain ⟨hP, hmid⟩ := HSO2.out.push hi hown5 hgrow
      have hTB5 := HTB3.out.of_mid hmid
      have C0 : w5.cell? ⟨w.heap.size + 1, 0, none⟩ = some vo := cell_grown hgrow (by simp; omega) (fun k hk => by have := row_past HO.out k hk; omega) (by
        rw [World.cell?_alloc_lt _ _ _ (by simp; omega), cell_set_ne (fun e => by have := congrArg Addr.block e; simp at this; omega)]; exact c0)
      have F0 : w5.frozen? ⟨w.heap.size + 1, 0, none⟩ = false := free_grown hgrow (by simp; omega) (fun k hk => by have := row_past HO.out k hk; omega) (by
        rw [World.frozen?_alloc_old _ _ _ (by simp; omega)]; simpa using f0)
      have L5 : w5.cell? ⟨w1.heap.size, 0, none⟩ = some (.slice al rows.length cl) := by
        have := hP.l0
        rwa [cell_set_ne (fun e => by have := congrArg Addr.block e; simp at this; omega)] at this
      have HP := Lib.hid hP
      have HTB5 := Lib.hid hTB5
      clear hP hTB5 hown5 hgrow hmid HO c0 f0 hcell hfr l0 g0 hsz
      go_wp2_with fail
      go_loopw [35] (fun s wr => ∃ m : Nat, s = .int .i64 m ∧ m ≤ rows.length ∧ SO w wr rows.length w1.heap.size D w2.heap.size (.slice al rows.length cl) Bk (G ++ [i]) (.slice a5 (G.length + 1) c5) (.slice none 0 0) ∧ TB wr (w.heap.size + 2) w1.heap.size rows.length 400 Bk Mk (sM rows G i m)) (fun s _ => rows.length - (intOf s).toNat)
      case atStart => exact ⟨0, rfl, Nat.zero_le _, HP.out, HTB5.out.congr (fun j _ q => by unfold sM; rw [if_neg (by omega)])⟩
      case round =>
        obtain ⟨m, rfl, hm, hSO3, hTB6⟩ := hrel
        have HSO3 := Lib.hid hSO3
        have HTB6 := Lib.hid hTB6
        by_cases hlt : m < rows.length
        · obtain ⟨g, cap, e1, hc, -⟩ := own_at hSO3.row hlt
          simp only [Value.slice.injEq] at e1
          obtain ⟨rfl, -, -⟩ := e1
          rw [ptrs_at hlt] at hc
          have hmap := cell_thing1 (hTB6.obj m hlt)
          obtain ⟨D', hD1, hD2⟩ := hTB6.set m hlt
          have HD1 := Lib.hid hD1
          have HD2 := Lib.hid hD2
          have hkey : Hid (keyOf Try.prog 3 (.int .i64 (i : Int)) = some (.int .i64 (i : Int))) := key3 (WalkArith.wf_i64 (by omega))
          clear hSO3 hTB6 hD1 hD2
          go_wp2_with (at_delete; refine Go.wpList_delete_own _ rfl _ _ 51 3 rfl 4 keyed3 Try.underlying51 _ (Mk m) 400 D' rfl HD1.out _ _ rfl hkey.out ?_; intro w6 hown6 hturn6)
          have hset := set_del HD2.out hown6
          have hgr := hturn6.grown
          have hblk := set_block (HTB6.out.set m hlt)
          have hSO6 := HSO3.out.turned hblk (by have := (HTB6.out.lo m hlt).2; omega) hgr
          have hTB7 : TB w6 (w.heap.size + 2) w1.heap.size rows.length 400 Bk Mk (sM rows G i (m + 1)) := HTB6.out.turn hlt hgr (hset.congr (fun q => by
            unfold sM
            rw [if_neg (by omega), if_pos (by omega)]
            exact sG_snoc q)) (fun j _ hj q => sM_step j hj q)
          have HSO6 := Lib.hid hSO6
          have HTB7 := Lib.hid hTB7
          clear hset hgr hblk hSO6 hTB7 hown6 hturn6 hc hmap
          go_wp2_with fail
          go_roundw
          case rel => exact ⟨m + 1, by go_num, by omega, HSO6.out, HTB7.out⟩
          case measure => simp [intOf]; omega
        · have hTBn := HTB6.out.congr (S' := sG rows (G ++ [i])) (fun j hj q => by unfold sM; rw [if_pos (by omega)])
          have HTBn := Lib.hid hTBn
          clear hSO3 hTB6 hTBn
          go_wp2_with fail
          refine (next_any rows (G ++ [i]) _ w1.heap.size D w2.heap.size (w.heap.size + 2) w1.heap.size _ Bk Mk hlen HSO3.out.l0 HSO3.out.g0 HSO3.out.row HTBn.out HSO3.out.don).mono ?_
          rintro e w6 ⟨rfl, rfl⟩
          go_wp2_with fail
          go_roundg (gk - 1)
          case measure => have := HGk.out; omega
          case rel => exact ⟨G ++ [i], _, rfl, HNext.out, by have := HGk.out; simp; omega, HSO3.out, HTBn.out⟩

end Go.Proofs.Ytmkbdjekidcfaaa
