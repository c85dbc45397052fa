/- Shut: Close, walked. -/
import Derived.Test.YtmkbdjekidcfaaaShG
namespace Go.Proofs.Ytmkbdjekidcfaaa
open Go.RowKit
attribute [local go_sem ↓] Go.wp_at_zero Go.wp_at_succ

set_option maxRecDepth 100000 in
set_option maxHeartbeats 4000000 in
theorem Close_any (v v1 : Value) (rows : List (List Int)) (outs : List Rs) (w : World) (h : RowsAt w v rows) (hs : smallB rows = true) (ho : StAt rcs 10 w v1 outs) (hob : ∀ g, v1.ownBlock = some g → g < w.heap.size) :
    Calls Try.prog 13 #[v, v1] w fun e w' => ∃ vd, e = .returned (.tuple #[vd, .bool (goodOf outs (FL rows))]) ∧ w'.ownsRow w.heap.size 74 11 vd (FL rows).length (Dns (dsOf outs (FL rows))) ∧ Below w.heap.size w w' := by
  obtain ⟨hlen, -⟩ := smallB_true hs
  have HS := Lib.hid hs
  have HR := Lib.hid h
  have HOU := Lib.hid ho
  have HOB := Lib.hid hob
  obtain ⟨a, c, rfl, hl, hx⟩ := h
  obtain ⟨ao, co, rfl, hoc, hom, -⟩ := ho
  unfold maxLen at hom
  clear hx hs hl hob
  go_enter Try.func13, Try.ntmps13
  go_wp2_with fail
  refine (order_any _ rows _ HR.out HS.out).mono ?_
  rintro e w1 ⟨vo, vc, rfl, ho, hc, hb1⟩
  have hs1 := hb1.size
  have HO := Lib.hid ho
  have HC := Lib.hid hc
  obtain ⟨a1, c1, rfl⟩ := own_len ho
  obtain ⟨a2, c2, rfl⟩ := own_len hc
  have HB1 := Lib.hid hb1
  have HOb : Hid (∀ k, (Value.slice a1 (ordOf rows).length c1).ownBlock = some k → k < w1.heap.size) := fun k hk => (HO.out.lt k hk).2
  have HCb : Hid (∀ k, (Value.slice a2 (cycOf rows).length c2).ownBlock = some k → k < w1.heap.size) := fun k hk => (HC.out.lt k hk).2
  clear ho hc hb1
  go_upto_region 2 with fail
  generalize hW : w1.alloc (.cells #[.slice a1 (ordOf rows).length c1, .slice a2 (cycOf rows).length c2] 27) = W1
  have hbe : Below w1.heap.size w1 W1 := by rw [← hW]; exact (Below.refl _ _).alloc (Nat.le_refl _) _
  have bA : Blk W1 w1.heap.size 27 #[.slice a1 (ordOf rows).length c1, .slice a2 (cycOf rows).length c2] := by rw [← hW]; exact Blk.new _ _ _
  have hsW : W1.heap.size = w1.heap.size + 1 := by rw [← hW]; simp
  have HB2 : Hid (Below w.heap.size w W1) := HB1.out.trans (hbe.mono hs1)
  have HR1 : Hid (RowsAt W1 (.slice a rows.length c) rows) := HR.out.below HB2.out
  replace HO := Lib.hid (own_below HO.out hbe)
  replace HC := Lib.hid (own_below HC.out hbe)
  have BA := Lib.hid bA
  clear hW hbe bA HB1
  go_wp2_with fail
  refine (things_any _ rows _ HR1.out HS.out).mono ?_
  rintro e w3 ⟨vl, Bk, Mk, rfl, hvl, hTB, hb3⟩
  obtain ⟨al, cl, rfl⟩ := own_len hvl
  have hs3 := hb3.size
  replace HO := Lib.hid (own_below HO.out hb3)
  replace HC := Lib.hid (own_below HC.out hb3)
  replace BA := Lib.hid (Blk.under BA.out hb3 BA.out.lt)
  have HVL := Lib.hid hvl
  have HTB := Lib.hid hTB
  have HB3 : Hid (Below w.heap.size w w3) := HB2.out.trans (hb3.mono (by omega))
  have q0 := BA.out.cell 0
  have q1 := BA.out.cell 1
  simp only [List.getElem?_toArray, List.getElem?_cons_succ, List.getElem?_cons_zero] at q0 q1
  have hlA := BA.out.lt
  clear hvl hTB hb3 HR1 HB2
  go_upto_region 5 with fail
  show Code.wp _ _ _ _ ((w3.alloc (.cells #[.slice none 0 0, .bool true] 71)).alloc (.cells #[.slice a1 (ordOf rows).length c1, .slice a2 (cycOf rows).length c2] 25))
  generalize hW : ((w3.alloc (.cells #[.slice none 0 0, .bool true] 71)).alloc (.cells #[.slice a1 (ordOf rows).length c1, .slice a2 (cycOf rows).length c2] 25)) = W2
  have hbe : Below w3.heap.size w3 W2 := by rw [← hW]; go_grown
  have hs2 : W2.heap.size = w3.heap.size + 1 + 1 := by rw [← hW]; simp
  have bC : Blk W2 w3.heap.size 71 #[.slice none 0 0, .bool true] := by rw [← hW]; exact (Blk.new _ _ _).alloc _
  have bG : Blk W2 (w3.heap.size + 1) 25 #[.slice a1 (ordOf rows).length c1, .slice a2 (cycOf rows).length c2] := by rw [← hW]; exact Blk.new' _ _ _ (by simp)
  have HBK : Hid (∀ i, i < rows.length → W1.heap.size ≤ Bk i ∧ Bk i < w3.heap.size) := fun i hi => ⟨(HTB.out.lo i hi).1, (HTB.out.hi i hi).1⟩
  have HOBJ : Hid (∀ i, i < rows.length → W2.heap[Bk i]? = some (thingObj i (Mk i))) := fun i hi => (hbe.block _ (HTB.out.hi i hi).1).trans (HTB.out.obj i hi)
  have HINJ : Hid (∀ i j, i < rows.length → j < rows.length → Bk i = Bk j → i = j) := HTB.out.injB
  have HVN : Hid (∀ g, (Value.slice al rows.length cl).ownBlock = some g → g < w3.heap.size ∧ ∀ i, i < rows.length → g ≠ Bk i) := fun g hg => ⟨(own_row HVL.out g hg).2, fun i hi e => by
    obtain ⟨cur, hc⟩ := row_block HVL.out hg
    have := HTB.out.obj i hi
    rw [← e, hc] at this
    simp [thingObj] at this⟩
  have HVL2 : Hid (W2.ownsRow W1.heap.size 50 1 (.slice al rows.length cl) rows.length (ptrs rows.length Bk)) := own_below HVL.out hbe
  have HROW : Hid (∀ k, k < 2 → ∃ ar cr, W2.cell? ⟨w3.heap.size + 1, k, none⟩ = some (.slice ar (rowK rows k).length cr) ∧ OwnInts W2 w.heap.size (.slice ar (rowK rows k).length cr) (rowK rows k) ∧ ∀ g, ar = some ⟨g, 0, none⟩ → g < w1.heap.size) := fun k hk => by
    obtain rfl | rfl : k = 0 ∨ k = 1 := by omega
    · exact ⟨a1, c1, bG.cell 0, own_below HO.out hbe, fun g hg => HOb.out g (by rw [hg]; rfl)⟩
    · exact ⟨a2, c2, bG.cell 1, own_below HC.out hbe, fun g hg => HCb.out g (by rw [hg]; rfl)⟩
  have HB4 : Hid (Below w.heap.size w W2) := HB3.out.trans (hbe.mono (by omega))
  have HOU2 : Hid (StAt rcs 10 W2 (.slice ao outs.length co) outs) := HOU.out.below (HB4.out)
  have HST : Hid (CS W2 W2 outs Bk w3.heap.size [] (.slice none 0 0)) := ⟨⟨bC.cell 0, bC.free 0, bC.cell 1, bC.free 1, ⟨rfl, .inl ⟨rfl, rfl⟩⟩, by simp [Value.ownBlock]⟩, WT.refl _ _⟩
  have hCS : ∀ i, i < rows.length → Bk i ≠ w3.heap.size := fun i hi => by have := HBK.out i hi; omega
  have HCS := Lib.hid hCS
  clear hW hbe bC bG HTB HVL HO HC HOb HCb HB3 BA q0 q1 hlA HOU HR HS hCS
  go_loopw [26] (fun s wr => ∃ k : Nat, s = .int .i64 k ∧ k ≤ 2 ∧ ∃ vv, CS W2 wr outs Bk w3.heap.size (preK rows k) vv) (fun s _ => 2 - (intOf s).toNat)
  case atStart => exact ⟨0, rfl, by omega, _, HST.out⟩
  case round =>
    clear HST
    obtain ⟨k, rfl, hk, vv, hcs⟩ := hrel
    have HCS1 := Lib.hid hcs
    clear hcs
    by_cases hlt : k < 2
    · have hkd : decide ((k : Int) < 2) = true := decide_eq_true (by omega)
      obtain ⟨ar, cr, hrc, hro, hra⟩ := HROW.out k hlt
      have hq : wr.cell? ⟨w3.heap.size + 1, k, none⟩ = some (.slice ar (rowK rows k).length cr) := HCS1.out.wt.cell (fun e => by
        rcases e with e | ⟨i, hi, e⟩
        · omega
        · have hn : i < rows.length := FL_lt rows i (by obtain ⟨r, hr⟩ := sub_FL (rows := rows) (j := 0) hlt; rw [hr]; simp [hi])
          have := HBK.out i hn; omega) hrc
      have HRO := Lib.hid hro
      have HRA := Lib.hid hra
      clear hrc hro hra
      obtain ⟨N, hN⟩ : ∃ N, N = (rowK rows k).length := ⟨_, rfl⟩
      rw [← hN] at hq
      have hNl : N ≤ 400 := by
        rw [hN]
        obtain rfl | rfl : k = 0 ∨ k = 1 := by omega
        · exact Nat.le_trans (ordOf_length rows) hlen
        · exact Nat.le_trans (cycOf_length rows) hlen
      have HN := Lib.hid hN
      clear hN
      go_wp2_with fail
      obtain ⟨wo, rfl⟩ : ∃ wo : World, wo = wr := ⟨_, rfl⟩
      clear hq hkd
      go_loopw [32] (fun s wr => ∃ j : Nat, s = .int .i64 j ∧ j ≤ N ∧ ∃ vv, CS W2 wr outs Bk w3.heap.size (preK rows k ++ (rowK rows k).take j) vv) (fun s _ => N - (intOf s).toNat)
      case atStart => exact ⟨0, rfl, by omega, vv, by simpa using HCS1.out⟩
      case round =>
        clear HCS1
        obtain ⟨j, rfl, hj, vv2, hcs⟩ := hrel
        have HCS2 := Lib.hid hcs
        clear hcs
        by_cases hjl : j < N
        · have hjl2 : j < (rowK rows k).length := by rw [← HN.out]; exact hjl
          obtain ⟨f1, f2, f3, f4, f5⟩ := next_fresh hlt hjl2
          obtain ⟨g, hg, hg1, hg2, hcell⟩ := int_at HRO.out hjl2
          subst hg
          have hgl := HRA.out g rfl
          have far : ∀ b, b < W2.heap.size → b ≠ w3.heap.size → (∀ i, i < rows.length → b ≠ Bk i) → ∀ q u, W2.cell? ⟨b, q, none⟩ = some u → wr.cell? ⟨b, q, none⟩ = some u := fun b h1 h2 h3 q u hu => HCS2.out.wt.cell (fun e => by
            rcases e with e | ⟨i, hi, e⟩
            · exact h2 e
            · exact h3 i (f3 i hi) e) hu
          have r0 := far g hg1 (by omega) (fun i hi => by have := HBK.out i hi; omega) j _ hcell
          obtain ⟨gl, cc, hvl, hvc, -⟩ := own_at HVL2.out f2
          simp only [Value.slice.injEq] at hvl
          obtain ⟨rfl, -, rfl⟩ := hvl
          have hvn := HVN.out gl rfl
          have r1 := far gl (by omega) (by omega) hvn.2 _ _ (hvc.trans (ptrs_at f2))
          have HTH := Lib.hid (HCS2.out.thing f2 f3 f1 HOBJ.out HINJ.out HCS.out)
          have hsw := HCS2.out.wt.size
          have HF1 := Lib.hid (And.intro f3 (And.intro f4 f5))
          generalize hI : (rowK rows k)[j] = I at *
          have HI := Lib.hid hI
          clear hcell hvc hI f1 f3 f4 f5 far
          by_cases hio : I < outs.length
          · obtain ⟨go, co2, hv, hgo, hr⟩ := HOU2.out.get hio
            simp only [Value.slice.injEq] at hv
            obtain ⟨rfl, -, rfl⟩ := hv
            have hgo2 := HOB.out go rfl
            have hrr : wr.rangeAt go (I * 10) (rcs outs[I]) := rangeAt_keep hr fun q => by
              rw [World.cell?_of_block (w := W2) (a := ⟨go, q, none⟩)]
              exact HCS2.out.wt.far go hgo fun e => by
                rcases e with e | ⟨i, hi, e⟩
                · omega
                · have := HBK.out i (HF1.out.1 i hi); omega
            have hR : outAt outs I = outs[I] := by simp [outAt, hio]
            generalize hRR : outs[I] = R at *
            have HR2 := Lib.hid hR
            have HRR := Lib.hid hrr
            clear hR hrr hr hRR hgo
            go_upto_region 13 with (first
              | (refine wpList_load_blk rfl 41 _ rfl go (I * 10) rfl [.int .i64 R.err, .int .i64 R.code, .int .i64 R.pk, .int .i64 R.pn, .bool R.has, .int .i64 0, .int .i64 0, .int .u64 0, .string ByteArray.empty, .slice none 0 0] _ (World.rangeAt_alloc HRR.out _) Try.underlying41 rfl sizeR ?_)
              | (refine wpList_store_blk (T := 41) rfl 41 _ _ rfl wr.heap.size 0 [] [.int .i64 0, .int .i64 0, .int .i64 0, .int .i64 0, .bool false, .int .i64 0, .int .i64 0, .int .u64 0, .string ByteArray.empty, .slice none 0 0] [] [.int .i64 R.err, .int .i64 R.code, .int .i64 R.pk, .int .i64 R.pn, .bool R.has, .int .i64 0, .int .i64 0, .int .u64 0, .string ByteArray.empty, .slice none 0 0] rfl rfl (Blk.new _ _ _) rfl rfl sizeR (by simp [Value.oneCell']) ?_; intro w5 hb5 hu5))
            have hB5 : Below wr.heap.size wr w5 := ((Below.refl _ _).alloc (Nat.le_refl _) _).trans (hu5.below _ (Nat.le_refl _))
            clear hu5
            have c5 : w5.cell? ⟨gl, I, none⟩ = some (.pointer (some ⟨Bk I, 0, none⟩)) := cell_over hB5 (by omega) r1
            have t5 : w5.heap[Bk I]? = some (thingObj I (Mk I)) := (hB5.block _ (Array.getElem?_eq_some_iff.1 HTH.out).1).trans HTH.out
            have HNE : Hid (gl ≠ w3.heap.size ∧ vv2.ownBlock ≠ some gl ∧ gl ≠ Bk I ∧ wr.heap.size ≠ w3.heap.size ∧ vv2.ownBlock ≠ some wr.heap.size ∧ wr.heap.size ≠ Bk I) := ⟨by omega, fun e => by have := (own_row HCS2.out.clo.row _ e).1; omega, hvn.2 I f2, by omega, fun e => by have := (own_row HCS2.out.clo.row _ e).2; omega, by have := HBK.out I f2; omega⟩
            have HB5 : Hid (Below wr.heap.size wr w5.drew) := hB5.drew
            have HCA := Lib.hid (close_any (w := w5.drew) (B := W2.heap.size) (ds := dsOf outs (preK rows k ++ (rowK rows k).take j)) (good := goodOf outs (preK rows k ++ (rowK rows k).take j)) (v := vv2) w3.heap.size (Bk I) I (Mk I) R.err R.code R.pk R.pn R.has (HCS2.out.clo.wt (WT.of_below (W := fun _ => False) HB5.out) (fun e => e) fun _ _ e => e) t5 (fun e => by have := HBK.out I f2; omega) (fun e => by have h1 := (own_row HCS2.out.clo.row _ e).1; have := HBK.out I f2; omega) (by rw [dsOf_length]; have := HF1.out.2.1; omega) (Nat.le_trans hsw hB5.size))
            clear hB5 t5
            try simp only [Act.put, List.setIfInBounds_toArray, List.set_cons_zero, List.set_cons_succ]
            refine wp_region_noPanic ?_
            refine wp_region_held_drew (S := (fun w' => w'.cell? ⟨gl, I, none⟩ = some (.pointer (some ⟨Bk I, 0, none⟩)) ∧ Blk w' wr.heap.size 41 #[.int .i64 R.err, .int .i64 R.code, .int .i64 R.pk, .int .i64 R.pn, .bool R.has, .int .i64 0, .int .i64 0, .int .u64 0, .string ByteArray.empty, .slice none 0 0])) (by kernel_rfl) ⟨c5, hb5⟩ (fun hHeld => ?_)
            refine wpAnyH_take (i := 0) (v := ?_) rfl (by kernel_rfl) (by kernel_rfl) (by kernel_rfl) (fun _ _ _ h => h) (Or.inl ⟨by rfl, ?_⟩) hHeld ?_
            rotate_left
            · rintro w ⟨hS1, hS2⟩
              first | (go_simp; done) | (go_simp; with_reducible rfl)
            try simp only [Act.put, List.getElem_toArray, List.getElem_cons_zero, List.setIfInBounds_toArray, List.set_cons_zero, List.set_cons_succ]
            refine wpAnyH_take (i := 1) (v := ?_) rfl (by kernel_rfl) (by kernel_rfl) (by kernel_rfl) (fun _ _ _ h => h) (Or.inl ⟨by rfl, ?_⟩) hHeld ?_
            rotate_left
            · rintro w ⟨hS1, hS2⟩
              first | (go_simp; done) | (go_simp; with_reducible rfl)
            try simp only [Act.put, List.getElem_toArray, List.getElem_cons_zero, List.getElem_cons_succ, List.setIfInBounds_toArray, List.set_cons_zero, List.set_cons_succ]
            refine wpAnyH_take (i := 2) (v := ?_) rfl (by kernel_rfl) (by kernel_rfl) (by kernel_rfl) (fun _ _ _ h => h) (Or.inl ⟨by rfl, ?_⟩) hHeld ?_
            rotate_left
            · rintro w ⟨hS1, hS2⟩
              first | (go_simp; done) | (go_simp; with_reducible rfl)
            try simp only [Act.put, List.getElem_toArray, List.getElem_cons_zero, List.getElem_cons_succ, List.setIfInBounds_toArray, List.set_cons_zero, List.set_cons_succ]
            refine wpAnyH_take (i := 3) (v := ?_) rfl (by kernel_rfl) (by kernel_rfl) (by kernel_rfl) (fun _ _ _ h => h) (Or.inl ⟨by rfl, ?_⟩) hHeld ?_
            rotate_left
            · rintro w ⟨hS1, hS2⟩
              first | (go_simp; done) | (go_simp; with_reducible rfl)
            try simp only [Act.put, List.getElem_toArray, List.getElem_cons_zero, List.getElem_cons_succ, List.setIfInBounds_toArray, List.set_cons_zero, List.set_cons_succ]
            refine wpAnyH_take (i := 4) (v := ?_) rfl (by kernel_rfl) (by kernel_rfl) (by kernel_rfl) (fun _ _ _ h => h) (Or.inl ⟨by rfl, ?_⟩) hHeld ?_
            rotate_left
            · rintro w ⟨hS1, hS2⟩
              first | (go_simp; done) | (go_simp; with_reducible rfl)
            try simp only [Act.put, List.getElem_toArray, List.getElem_cons_zero, List.getElem_cons_succ, List.setIfInBounds_toArray, List.set_cons_zero, List.set_cons_succ]
            refine wpAnyH_take (i := 5) (v := .agg #[.int .i64 R.err, .int .i64 R.code, .int .i64 R.pk, .int .i64 R.pn, .bool R.has, .int .i64 0, .int .i64 0, .int .u64 0, .string ByteArray.empty, .slice none 0 0]) rfl (by kernel_rfl) (by kernel_rfl) (by kernel_rfl) (fun _ _ _ h => h) (yieldsIf_load_mid (by rfl) 41 _ rfl wr.heap.size 0 (by rfl) [.int .i64 R.err, .int .i64 R.code, .int .i64 R.pk, .int .i64 R.pn, .bool R.has, .int .i64 0, .int .i64 0, .int .u64 0, .string ByteArray.empty, .slice none 0 0] _ (fun w' h => Blk.range (pre := []) (post := []) h.2 rfl) Try.underlying41 rfl sizeR) hHeld ?_
            try simp only [Act.put, List.getElem_toArray, List.getElem_cons_zero, List.getElem_cons_succ, List.setIfInBounds_toArray, List.set_cons_zero, List.set_cons_succ]
            refine wpAnyH_ready (rs := [6]) (by kernel_rfl) (by simp) ?_
            refine AllReadyH.cons rfl (fun K hK => ?_) AllReadyH.nil
            go_simp
            go_at_call 22
            refine HCA.out.mono ?_
            rintro e w6 ⟨rfl, v3, hclo, hwt, -⟩
            have HE := Lib.hid (And.intro hclo hwt)
            refine hK.out _ _ ⟨hwt.cell (fun e => by rcases e with e | e | e; exact HNE.out.1 e; exact HNE.out.2.1 e; exact HNE.out.2.2.1 e) hHeld.1, (hwt.far _ hHeld.2.lt (fun e => by rcases e with e | e | e; exact HNE.out.2.2.2.1 e; exact HNE.out.2.2.2.2.1 e; exact HNE.out.2.2.2.2.2 e)).trans hHeld.2⟩ (fun hHeld2 => ?_)
            clear hHeld hK K hclo hwt hHeld2 hb5 c5 HCA HNE
            try simp only [Act.put, List.getElem_toArray, List.getElem_cons_zero, List.getElem_cons_succ, List.setIfInBounds_toArray, List.set_cons_zero, List.set_cons_succ]
            refine wpAnyH_done (by kernel_rfl) ?_ _
            refine NoPanic.normal ?_
            go_wp2_with fail
            go_roundw
            case rel =>
              refine ⟨j + 1, by go_num, by omega, v3, ?_⟩
              rw [HF1.out.2.2]
              exact HCS2.out.close HB5.out (by rw [HR2.out]; exact HE.out.1) HE.out.2
            case measure => simp [intOf]; omega
          · have hR : outAt outs I = zr := by simp [outAt, hio]
            have HR2 := Lib.hid hR
            clear hR
            go_upto_region 13 with fail
            show Code.wp _ _ _ _ (wr.alloc (.cells #[.int .i64 0, .int .i64 0, .int .i64 0, .int .i64 0, .bool false, .int .i64 0, .int .i64 0, .int .u64 0, .string ByteArray.empty, .slice none 0 0] 41))
            generalize hW5 : wr.alloc (.cells #[.int .i64 0, .int .i64 0, .int .i64 0, .int .i64 0, .bool false, .int .i64 0, .int .i64 0, .int .u64 0, .string ByteArray.empty, .slice none 0 0] 41) = w5
            have hb5 : Blk w5 wr.heap.size 41 #[.int .i64 0, .int .i64 0, .int .i64 0, .int .i64 0, .bool false, .int .i64 0, .int .i64 0, .int .u64 0, .string ByteArray.empty, .slice none 0 0] := by rw [← hW5]; exact Blk.new _ _ _
            have hB5 : Below wr.heap.size wr w5 := by rw [← hW5]; exact (Below.refl _ _).alloc (Nat.le_refl _) _
            clear hW5
            have c5 : w5.cell? ⟨gl, I, none⟩ = some (.pointer (some ⟨Bk I, 0, none⟩)) := cell_over hB5 (by omega) r1
            have t5 : w5.heap[Bk I]? = some (thingObj I (Mk I)) := (hB5.block _ (Array.getElem?_eq_some_iff.1 HTH.out).1).trans HTH.out
            have HNE : Hid (gl ≠ w3.heap.size ∧ vv2.ownBlock ≠ some gl ∧ gl ≠ Bk I ∧ wr.heap.size ≠ w3.heap.size ∧ vv2.ownBlock ≠ some wr.heap.size ∧ wr.heap.size ≠ Bk I) := ⟨by omega, fun e => by have := (own_row HCS2.out.clo.row _ e).1; omega, hvn.2 I f2, by omega, fun e => by have := (own_row HCS2.out.clo.row _ e).2; omega, by have := HBK.out I f2; omega⟩
            have HB5 : Hid (Below wr.heap.size wr w5.drew) := hB5.drew
            have HCA := Lib.hid (close_any (w := w5.drew) (B := W2.heap.size) (ds := dsOf outs (preK rows k ++ (rowK rows k).take j)) (good := goodOf outs (preK rows k ++ (rowK rows k).take j)) (v := vv2) w3.heap.size (Bk I) I (Mk I) 0 0 0 0 false (HCS2.out.clo.wt (WT.of_below (W := fun _ => False) HB5.out) (fun e => e) fun _ _ e => e) t5 (fun e => by have := HBK.out I f2; omega) (fun e => by have h1 := (own_row HCS2.out.clo.row _ e).1; have := HBK.out I f2; omega) (by rw [dsOf_length]; have := HF1.out.2.1; omega) (Nat.le_trans hsw hB5.size))
            clear hB5 t5
            try simp only [Act.put, List.getElem_toArray, List.getElem_cons_zero, List.getElem_cons_succ, List.setIfInBounds_toArray, List.set_cons_zero, List.set_cons_succ]
            refine wp_region_noPanic ?_
            refine wp_region_held_drew (S := (fun w' => w'.cell? ⟨gl, I, none⟩ = some (.pointer (some ⟨Bk I, 0, none⟩)) ∧ Blk w' wr.heap.size 41 #[.int .i64 0, .int .i64 0, .int .i64 0, .int .i64 0, .bool false, .int .i64 0, .int .i64 0, .int .u64 0, .string ByteArray.empty, .slice none 0 0])) (by kernel_rfl) ⟨c5, hb5⟩ (fun hHeld => ?_)
            refine wpAnyH_take (i := 0) (v := ?_) rfl (by kernel_rfl) (by kernel_rfl) (by kernel_rfl) (fun _ _ _ h => h) (Or.inl ⟨by rfl, ?_⟩) hHeld ?_
            rotate_left
            · rintro w ⟨hS1, hS2⟩
              first | (go_simp; done) | (go_simp; with_reducible rfl)
            try simp only [Act.put, List.getElem_toArray, List.getElem_cons_zero, List.setIfInBounds_toArray, List.set_cons_zero, List.set_cons_succ]
            refine wpAnyH_take (i := 1) (v := ?_) rfl (by kernel_rfl) (by kernel_rfl) (by kernel_rfl) (fun _ _ _ h => h) (Or.inl ⟨by rfl, ?_⟩) hHeld ?_
            rotate_left
            · rintro w ⟨hS1, hS2⟩
              first | (go_simp; done) | (go_simp; with_reducible rfl)
            try simp only [Act.put, List.getElem_toArray, List.getElem_cons_zero, List.getElem_cons_succ, List.setIfInBounds_toArray, List.set_cons_zero, List.set_cons_succ]
            refine wpAnyH_take (i := 2) (v := ?_) rfl (by kernel_rfl) (by kernel_rfl) (by kernel_rfl) (fun _ _ _ h => h) (Or.inl ⟨by rfl, ?_⟩) hHeld ?_
            rotate_left
            · rintro w ⟨hS1, hS2⟩
              first | (go_simp; done) | (go_simp; with_reducible rfl)
            try simp only [Act.put, List.getElem_toArray, List.getElem_cons_zero, List.getElem_cons_succ, List.setIfInBounds_toArray, List.set_cons_zero, List.set_cons_succ]
            refine wpAnyH_take (i := 3) (v := ?_) rfl (by kernel_rfl) (by kernel_rfl) (by kernel_rfl) (fun _ _ _ h => h) (Or.inl ⟨by rfl, ?_⟩) hHeld ?_
            rotate_left
            · rintro w ⟨hS1, hS2⟩
              first | (go_simp; done) | (go_simp; with_reducible rfl)
            try simp only [Act.put, List.getElem_toArray, List.getElem_cons_zero, List.getElem_cons_succ, List.setIfInBounds_toArray, List.set_cons_zero, List.set_cons_succ]
            refine wpAnyH_take (i := 4) (v := ?_) rfl (by kernel_rfl) (by kernel_rfl) (by kernel_rfl) (fun _ _ _ h => h) (Or.inl ⟨by rfl, ?_⟩) hHeld ?_
            rotate_left
            · rintro w ⟨hS1, hS2⟩
              first | (go_simp; done) | (go_simp; with_reducible rfl)
            try simp only [Act.put, List.getElem_toArray, List.getElem_cons_zero, List.getElem_cons_succ, List.setIfInBounds_toArray, List.set_cons_zero, List.set_cons_succ]
            refine wpAnyH_take (i := 5) (v := .agg #[.int .i64 0, .int .i64 0, .int .i64 0, .int .i64 0, .bool false, .int .i64 0, .int .i64 0, .int .u64 0, .string ByteArray.empty, .slice none 0 0]) rfl (by kernel_rfl) (by kernel_rfl) (by kernel_rfl) (fun _ _ _ h => h) (yieldsIf_load_mid (by rfl) 41 _ rfl wr.heap.size 0 (by rfl) [.int .i64 0, .int .i64 0, .int .i64 0, .int .i64 0, .bool false, .int .i64 0, .int .i64 0, .int .u64 0, .string ByteArray.empty, .slice none 0 0] _ (fun w' h => Blk.range (pre := []) (post := []) h.2 rfl) Try.underlying41 rfl sizeR) hHeld ?_
            try simp only [Act.put, List.getElem_toArray, List.getElem_cons_zero, List.getElem_cons_succ, List.setIfInBounds_toArray, List.set_cons_zero, List.set_cons_succ]
            refine wpAnyH_ready (rs := [6]) (by kernel_rfl) (by simp) ?_
            refine AllReadyH.cons rfl (fun K hK => ?_) AllReadyH.nil
            go_simp
            go_at_call 22
            refine HCA.out.mono ?_
            rintro e w6 ⟨rfl, v3, hclo, hwt, -⟩
            have HE := Lib.hid (And.intro hclo hwt)
            refine hK.out _ _ ⟨hwt.cell (fun e => by rcases e with e | e | e; exact HNE.out.1 e; exact HNE.out.2.1 e; exact HNE.out.2.2.1 e) hHeld.1, (hwt.far _ hHeld.2.lt (fun e => by rcases e with e | e | e; exact HNE.out.2.2.2.1 e; exact HNE.out.2.2.2.2.1 e; exact HNE.out.2.2.2.2.2 e)).trans hHeld.2⟩ (fun hHeld2 => ?_)
            clear hHeld hK K hclo hwt hHeld2 hb5 c5 HCA HNE
            try simp only [Act.put, List.getElem_toArray, List.getElem_cons_zero, List.getElem_cons_succ, List.setIfInBounds_toArray, List.set_cons_zero, List.set_cons_succ]
            refine wpAnyH_done (by kernel_rfl) ?_ _
            refine NoPanic.normal ?_
            go_wp2_with fail
            go_roundw
            case rel =>
              refine ⟨j + 1, by go_num, by omega, v3, ?_⟩
              rw [HF1.out.2.2]
              exact HCS2.out.close HB5.out (by rw [HR2.out]; exact HE.out.1) HE.out.2
            case measure => simp [intOf]; omega
        · obtain rfl : j = N := by omega
          have hpre : preK rows k ++ (rowK rows k).take j = preK rows (k + 1) := by rw [HN.out, List.take_length]; exact preK_step hlt
          rw [hpre] at HCS2
          go_wp2_with fail
          go_roundw
          case rel => exact ⟨k + 1, by go_num, by omega, vv2, HCS2.out⟩
          case measure => simp [intOf]; omega
    · obtain rfl : k = 2 := by omega
      rw [preK_two] at HCS1
      obtain ⟨av, cv, rfl⟩ := own_len HCS1.out.clo.row
      have e0 := HCS1.out.clo.d
      have e1 := HCS1.out.clo.g
      go_wp2_with fail
      go_quiet (fail)
      go_wp2_with fail
      refine bodyPost_ret (v := .tuple #[.slice av (dsOf outs (FL rows)).length cv, .bool (goodOf outs (FL rows))]) (by simp [results, Try.results13, go_sem]) rfl ?_
      refine ⟨_, rfl, ?_, ?_⟩
      · have h1 := own_mono HCS1.out.clo.row (B' := w.heap.size) HB4.out.size
        rw [dsOf_length] at h1 ⊢
        exact h1
      · have h1 : Below w.heap.size W2 wr := HCS1.out.wt.below HB4.out.size fun g e => by
          rcases e with e | ⟨i, hi, e⟩
          · omega
          · have := HBK.out i (FL_lt rows i hi); omega
        exact (HB4.out.trans h1).trans ⟨rfl, rfl, rfl, Nat.le_refl _, fun _ _ => rfl⟩
end Go.Proofs.Ytmkbdjekidcfaaa
