/- Shut: the reference's Close. -/
import Derived.Test.YtmkbdjekidcfaaaShG
namespace Go.Proofs.Ytmkbdjekidcfaaa
open Go.RowKit
attribute [local go_sem ↓] Go.wp_at_zero Go.wp_at_succ

theorem ints_news {w : World} {B : Nat} {a : Option Addr} {c : Nat} {L : List Nat} (h : OwnInts w B (.slice a L.length c) L) : (0 < L.length → a.isSome = true) ∧ ∀ ad, a = some ad → ∀ j u, (L.map fun i : Nat => Value.int .i64 (i : Int))[j]? = some u → w.cell? (ad.add j) = some u := by
  refine ⟨fun h0 => ?_, fun ad ha j u hu => ?_⟩
  · obtain ⟨g, rfl, -⟩ := int_at h h0
    rfl
  · subst ha
    have hj : j < L.length := by have := (List.getElem?_eq_some_iff.1 hu).1; simpa using this
    obtain ⟨g, e, -, -, hc⟩ := int_at h hj
    cases e
    rw [Addr.add_mid]
    simp only [Nat.zero_add]
    rw [hc]
    simpa [hj] using hu
theorem ints_one (L : List Nat) : ∀ u ∈ L.map (fun i : Nat => Value.int .i64 (i : Int)), u.oneCell' = true := fun u hu => by
  obtain ⟨i, -, rfl⟩ := List.mem_map.1 hu
  rfl

theorem sizeDn : (Try.prog.info? 74).map (·.size) = some 11 := by kernel_rfl
theorem run_build_done0 (id : Int) (w : World) : (Instr.build 74 #[(0, .int .i64 id)]).run Try.prog w = .ok (.agg #[.int .i64 id, .int .i64 0, .int .i64 0, .int .i64 0, .int .i64 0, .bool false, .int .i64 0, .int .i64 0, .int .u64 0, .string ByteArray.empty, .slice none 0 0]) w := run_build w 74 _ _ (by kernel_rfl)
set_option maxRecDepth 100000 in
set_option maxHeartbeats 4000000 in
theorem rclose_any (v v1 : Value) (rows : List (List Int)) (outs : List Rs) (w : World) (h : RowsAt w v rows) (hs : smallB rows = true) (ho : StAt rcs 10 w v1 outs) (hob : ∀ g, v1.ownBlock = some g → g < w.heap.size) :
    Calls Try.prog 14 #[v, v1] w fun e w' => ∃ vd, e = .returned (.tuple #[vd, .bool (goodOf outs (FL rows))]) ∧ w'.ownsRow w.heap.size 74 11 vd (FL rows).length (Dns (dsOf outs (FL rows))) ∧ Below w.heap.size w w' := by
  obtain ⟨i3, hi3, hz30, hz31, hz32⟩ := info_parts info3
  obtain ⟨i0, hi0, hz0, hz1, hz2⟩ := info_parts infoDn
  obtain ⟨hlen, -⟩ := smallB_true hs
  have hol := ordOf_length rows
  have hcl := cycOf_length rows
  have hfl := FL_length rows
  have HS := Lib.hid hs
  have HR := Lib.hid h
  have HOU := Lib.hid ho
  have HOB := Lib.hid hob
  obtain ⟨a, c, rfl, hl, hx⟩ := h
  obtain ⟨ao, co, rfl, hoc, hom, -⟩ := ho
  unfold maxLen at hom
  clear hx hs hl hob
  go_enter Try.func14, Try.ntmps14
  go_wp2_with fail
  refine (rorder_any _ rows _ HR.out HS.out).mono ?_
  rintro e w1 ⟨vo, vc, rfl, ho, hc, hb1⟩
  have hs1 := hb1.size
  obtain ⟨a1, c1, rfl⟩ := own_len ho
  obtain ⟨a2, c2, rfl⟩ := own_len hc
  have HO := Lib.hid ho
  have HC := Lib.hid hc
  have HB1 := Lib.hid hb1
  clear ho hc hb1
  go_upto_region 2 with fail
  generalize hW : w1.alloc (.cells #[.slice a1 (ordOf rows).length c1, .slice a2 (cycOf rows).length c2] 27) = W1
  have hbe : Below w1.heap.size w1 W1 := by rw [← hW]; exact (Below.refl _ _).alloc (Nat.le_refl _) _
  have bA : Blk W1 w1.heap.size 27 #[.slice a1 (ordOf rows).length c1, .slice a2 (cycOf rows).length c2] := by rw [← hW]; exact Blk.new _ _ _
  have hsW : W1.heap.size = w1.heap.size + 1 := by rw [← hW]; simp
  have HB2 : Hid (Below w.heap.size w W1) := HB1.out.trans (hbe.mono hs1)
  replace HO := Lib.hid (own_below HO.out hbe)
  replace HC := Lib.hid (own_below HC.out hbe)
  have q0 := bA.cell 0
  have q1 := bA.cell 1
  simp only [List.getElem?_toArray, List.getElem?_cons_succ, List.getElem?_cons_zero] at q0 q1
  clear hW hbe HB1 HR HS
  have BA := Lib.hid bA
  clear bA
  go_upto_region 4 with (at_builtin; refine wpList_append_any _ rfl _ _ 25 rfl W1.heap.size 3 i3 _ 1 8 Try.underlying25 hi3 hz30 hz31 hz32 rfl (by omega) (.slice none 0 0) 0 [] rfl ⟨rfl, .inl ⟨rfl, rfl⟩⟩ a1 (ordOf rows).length c1 ((ordOf rows).map fun i : Nat => Value.int .i64 (i : Int)) rfl (ints_news HO.out).1 (by simp) (ints_news HO.out).2 (ints_one _) (by unfold maxLen; omega) (by omega) (Nat.le_refl _) ?_; intro va w2 hva hg2)
  have hsg2 := hg2.size
  have HC2 : Hid (OwnInts w2 w.heap.size (.slice a2 (cycOf rows).length c2) (cycOf rows)) := own_keep HC.out (fun k hk => hg2.block k (own_row HC.out k hk).2 (fun e => by cases e))
  have HB3 : Hid (Below w.heap.size w w2) := HB2.out.grown hg2 (by omega) (fun k hk => by cases hk)
  have q2 : w2.cell? ⟨w1.heap.size, 1, none⟩ = some (.slice a2 (cycOf rows).length c2) := cell_grown hg2 BA.out.lt (fun k hk => by cases hk) q1
  have HVA := Lib.hid hva
  clear hva hg2 q0 q1 HC HO HB2
  go_upto_region 5 with (at_builtin; refine wpList_append_any _ rfl _ _ 25 rfl W1.heap.size 3 i3 _ 1 8 Try.underlying25 hi3 hz30 hz31 hz32 rfl (by omega) va (0 + (ordOf rows).length) _ rfl HVA.out a2 (cycOf rows).length c2 ((cycOf rows).map fun i : Nat => Value.int .i64 (i : Int)) rfl (ints_news HC2.out).1 (by simp) (ints_news HC2.out).2 (ints_one _) (by unfold maxLen; omega) (by omega) (by omega) ?_; intro vb w3 hvb hg3)
  have hsg3 := hg3.size
  have hFL : OwnInts w3 W1.heap.size vb (FL rows) := by
    have h1 : (FL rows).length = 0 + (ordOf rows).length + (cycOf rows).length := by simp [FL]
    unfold OwnInts
    rw [h1]
    simpa [FL] using hvb
  have HB4 : Hid (Below w.heap.size w w3) := HB3.out.grown hg3 (by omega) (fun k hk => by have := (own_row HVA.out k hk).1; omega)
  obtain ⟨ab, cb, rfl⟩ := own_len hFL
  have HFL := Lib.hid hFL
  clear hvb hg3 hFL HVA HC2 HB3 q2 BA hol hcl
  obtain ⟨N, hN⟩ : ∃ N, N = (FL rows).length := ⟨_, rfl⟩
  rw [← hN] at hfl HFL ⊢
  have HN := Lib.hid hN
  clear hN
  have hDn := run_build_done0
  have hSn := run_slice_done
  go_upto_region 8 with fail
  go_loopw [25, 8, 9] (fun s s8 s9 wr => ∃ (j : Nat) (vd : Value), s = .int .i64 j ∧ vd = s8 ∧ s9 = .bool (goodOf outs ((FL rows).take j)) ∧ j ≤ N ∧ wr.ownsRow w3.heap.size 74 11 vd j (Dns (dsOf outs ((FL rows).take j))) ∧ Below w3.heap.size w3 wr) (fun s _ _ _ => N - (intOf s).toNat)
  case atStart => exact ⟨0, _, rfl, rfl, rfl, by omega, ⟨rfl, .inl ⟨rfl, rfl⟩⟩, Below.refl _ _⟩
  case round =>
    obtain ⟨j, vd, rfl, rfl, rfl, hj, hown, hB⟩ := hrel
    have hfr := hB.size
    have HOWN := Lib.hid hown
    have HBB := Lib.hid hB
    clear hown hB
    by_cases hjl : j < N
    · have hj2 : j < (FL rows).length := by rw [← HN.out]; exact hjl
      obtain ⟨g, rfl, hg1, hg2, hcell⟩ := int_at (by rw [HN.out] at HFL; exact HFL.out) hj2
      have r0 : wr.cell? ⟨g, j, none⟩ = some (.int .i64 (((FL rows)[j] : Nat) : Int)) := cell_over HBB.out hg1 hcell
      have HW : Hid (Below w.heap.size w wr) := HB4.out.trans (HBB.out.mono HB4.out.size)
      have hlI : (FL rows)[j] < rows.length := FL_lt rows _ (List.getElem_mem hj2)
      have HT : Hid ((FL rows).take (j + 1) = (FL rows).take j ++ [(FL rows)[j]]) := List.take_succ_eq_append_getElem hj2
      generalize hG : goodOf outs ((FL rows).take j) = G at *
      have HG := Lib.hid hG
      generalize hI : (FL rows)[j] = I at *
      clear hcell hG hI hj2
      by_cases hio : I < outs.length
      · obtain ⟨go, co2, hv, hgo, hrr⟩ := (HOU.out.below HW.out).get hio
        simp only [Value.slice.injEq] at hv
        obtain ⟨rfl, -, rfl⟩ := hv
        have hgo2 := HOB.out go rfl
        have hR : outAt outs I = outs[I] := by simp [outAt, hio]
        generalize hRR : outs[I] = R at *
        have HR2 := Lib.hid hR
        have HRR := Lib.hid hrr
        clear hR hrr hRR hgo
        go_upto_region 13 with (first
          | (refine wpList_load_blk rfl 41 _ rfl go (I * 10) rfl [.int .i64 R.err, .int .i64 R.code, .int .i64 R.pk, .int .i64 R.pn, .bool R.has, .int .i64 0, .int .i64 0, .int .u64 0, .string ByteArray.empty, .slice none 0 0] _ (World.rangeAt_alloc HRR.out _) Try.underlying41 rfl sizeR ?_)
          | (refine wpList_store_blk (T := 74) rfl 41 _ _ rfl wr.heap.size 1 [.int .i64 (I : Int)] [.int .i64 0, .int .i64 0, .int .i64 0, .int .i64 0, .bool false, .int .i64 0, .int .i64 0, .int .u64 0, .string ByteArray.empty, .slice none 0 0] [] [.int .i64 R.err, .int .i64 R.code, .int .i64 R.pk, .int .i64 R.pn, .bool R.has, .int .i64 0, .int .i64 0, .int .u64 0, .string ByteArray.empty, .slice none 0 0] rfl rfl (Blk.new _ _ _) rfl rfl sizeR (by simp [Value.oneCell']) ?_; intro w5 hb5 hu5))
        have hB5 : Below wr.heap.size wr w5 := ((Below.refl _ _).alloc (Nat.le_refl _) _).trans (hu5.below _ (Nat.le_refl _))
        have hl5 : wr.heap.size < w5.heap.size := hb5.lt
        clear hu5
        have e1 := hb5.cell 1
        simp only [List.getElem?_toArray, List.getElem?_cons_succ, List.getElem?_cons_zero, List.cons_append, List.nil_append] at e1
        have HB5 : Hid (Blk w5 wr.heap.size 74 #[.int .i64 (I : Int), .int .i64 R.err, .int .i64 R.code, .int .i64 R.pk, .int .i64 R.pn, .bool R.has, .int .i64 0, .int .i64 0, .int .u64 0, .string ByteArray.empty, .slice none 0 0]) := hb5
        have HBE := Lib.hid hB5
        clear hb5 hB5
        try simp only [Act.put]
        cases G
        · go_wp2_with (first
              | (refine wpList_load_blk rfl 74 _ rfl wr.heap.size 0 rfl [.int .i64 (I : Int), .int .i64 R.err, .int .i64 R.code, .int .i64 R.pk, .int .i64 R.pn, .bool R.has, .int .i64 0, .int .i64 0, .int .u64 0, .string ByteArray.empty, .slice none 0 0] _ (Blk.range (pre := []) (post := []) HB5.out rfl) Try.underlying74 rfl sizeDn ?_)
              | (at_builtin; refine wpList_append_lies _ rfl _ _ 42 rfl w3.heap.size 74 i0 _ 11 112 Try.underlying42 hi0 hz0 hz1 hz2 rfl (by omega) vd j (Dns (dsOf outs ((FL rows).take j))) rfl (own_keep HOWN.out fun k hk => (alloc_old' (Nat.lt_trans (own_row HOWN.out k hk).2 hl5)).trans (HBE.out.block k (own_row HOWN.out k hk).2)) ⟨w5.heap.size, 0, none⟩ 1 1 [.int .i64 (I : Int), .int .i64 R.err, .int .i64 R.code, .int .i64 R.pk, .int .i64 R.pn, .bool R.has, .int .i64 0, .int .i64 0, .int .u64 0, .string ByteArray.empty, .slice none 0 0] rfl rfl (World.news_of_block (cs := #[.int .i64 (I : Int), .int .i64 R.err, .int .i64 R.code, .int .i64 R.pk, .int .i64 R.pn, .bool R.has, .int .i64 0, .int .i64 0, .int .u64 0, .string ByteArray.empty, .slice none 0 0]) (t := 74) (fr := (0, 0)) (heap_alloc_new w5 _)) (by simp [Value.oneCell']) (by omega) (by unfold maxLen; omega) (by omega) (by simp; omega) (w5.heap.size + 1) (by simp) ?_; intro g5 cap5 w6 hown6 hgrow6 hat6 hlt6; have HO6 := Lib.hid hown6; have HG6 := Lib.hid hgrow6; clear hown6 hgrow6 hat6))
          go_roundw
          case rel =>
            refine ⟨j + 1, _, by go_num, rfl, by rw [HT.out, goodOf_snoc, HG.out]; rfl, by omega, ?_, ?_⟩
            · rw [HT.out, dsOf_snoc, Dns_snoc, HR2.out]; exact HO6.out
            · exact ((HBB.out.trans (HBE.out.mono hfr)).alloc (by omega) _).grown HG6.out (by simp; omega) (fun k hk => (own_row HOWN.out k hk).1)
          case measure => simp [intOf]; omega
        · go_wp2_with (first
              | (refine wpList_load_blk rfl 74 _ rfl wr.heap.size 0 rfl [.int .i64 (I : Int), .int .i64 R.err, .int .i64 R.code, .int .i64 R.pk, .int .i64 R.pn, .bool R.has, .int .i64 0, .int .i64 0, .int .u64 0, .string ByteArray.empty, .slice none 0 0] _ (Blk.range (pre := []) (post := []) HB5.out rfl) Try.underlying74 rfl sizeDn ?_)
              | (at_builtin; refine wpList_append_lies _ rfl _ _ 42 rfl w3.heap.size 74 i0 _ 11 112 Try.underlying42 hi0 hz0 hz1 hz2 rfl (by omega) vd j (Dns (dsOf outs ((FL rows).take j))) rfl (own_keep HOWN.out fun k hk => (alloc_old' (Nat.lt_trans (own_row HOWN.out k hk).2 hl5)).trans (HBE.out.block k (own_row HOWN.out k hk).2)) ⟨w5.heap.size, 0, none⟩ 1 1 [.int .i64 (I : Int), .int .i64 R.err, .int .i64 R.code, .int .i64 R.pk, .int .i64 R.pn, .bool R.has, .int .i64 0, .int .i64 0, .int .u64 0, .string ByteArray.empty, .slice none 0 0] rfl rfl (World.news_of_block (cs := #[.int .i64 (I : Int), .int .i64 R.err, .int .i64 R.code, .int .i64 R.pk, .int .i64 R.pn, .bool R.has, .int .i64 0, .int .i64 0, .int .u64 0, .string ByteArray.empty, .slice none 0 0]) (t := 74) (fr := (0, 0)) (heap_alloc_new w5 _)) (by simp [Value.oneCell']) (by omega) (by unfold maxLen; omega) (by omega) (by simp; omega) (w5.heap.size + 1) (by simp) ?_; intro g5 cap5 w6 hown6 hgrow6 hat6 hlt6; have HO6 := Lib.hid hown6; have HG6 := Lib.hid hgrow6; clear hown6 hgrow6 hat6))
          go_roundw
          case rel =>
            refine ⟨j + 1, _, by go_num, rfl, by rw [HT.out, goodOf_snoc, HG.out, HR2.out]; rfl, by omega, ?_, ?_⟩
            · rw [HT.out, dsOf_snoc, Dns_snoc, HR2.out]; exact HO6.out
            · exact ((HBB.out.trans (HBE.out.mono hfr)).alloc (by omega) _).grown HG6.out (by simp; omega) (fun k hk => (own_row HOWN.out k hk).1)
          case measure => simp [intOf]; omega
      · have hR : outAt outs I = zr := by simp [outAt, hio]
        have HR2 := Lib.hid hR
        clear hR
        go_upto_region 13 with fail
        show Code.wp _ _ _ _ (wr.alloc (.cells #[.int .i64 (I : Int), .int .i64 0, .int .i64 0, .int .i64 0, .int .i64 0, .bool false, .int .i64 0, .int .i64 0, .int .u64 0, .string ByteArray.empty, .slice none 0 0] 74))
        generalize hW5 : wr.alloc (.cells #[.int .i64 (I : Int), .int .i64 0, .int .i64 0, .int .i64 0, .int .i64 0, .bool false, .int .i64 0, .int .i64 0, .int .u64 0, .string ByteArray.empty, .slice none 0 0] 74) = w5
        have hb5 : Blk w5 wr.heap.size 74 #[.int .i64 (I : Int), .int .i64 0, .int .i64 0, .int .i64 0, .int .i64 0, .bool false, .int .i64 0, .int .i64 0, .int .u64 0, .string ByteArray.empty, .slice none 0 0] := by rw [← hW5]; exact Blk.new _ _ _
        have hB5 : Below wr.heap.size wr w5 := by rw [← hW5]; exact (Below.refl _ _).alloc (Nat.le_refl _) _
        have hl5 : wr.heap.size < w5.heap.size := hb5.lt
        clear hW5
        have e1 := hb5.cell 1
        simp only [List.getElem?_toArray, List.getElem?_cons_succ, List.getElem?_cons_zero] at e1
        have HB5 : Hid (Blk w5 wr.heap.size 74 #[.int .i64 (I : Int), .int .i64 0, .int .i64 0, .int .i64 0, .int .i64 0, .bool false, .int .i64 0, .int .i64 0, .int .u64 0, .string ByteArray.empty, .slice none 0 0]) := hb5
        have HBE := Lib.hid hB5
        clear hb5 hB5
        try simp only [Act.put]
        cases G
        · go_wp2_with (first
              | (refine wpList_load_blk rfl 74 _ rfl wr.heap.size 0 rfl [.int .i64 (I : Int), .int .i64 0, .int .i64 0, .int .i64 0, .int .i64 0, .bool false, .int .i64 0, .int .i64 0, .int .u64 0, .string ByteArray.empty, .slice none 0 0] _ (Blk.range (pre := []) (post := []) HB5.out rfl) Try.underlying74 rfl sizeDn ?_)
              | (at_builtin; refine wpList_append_lies _ rfl _ _ 42 rfl w3.heap.size 74 i0 _ 11 112 Try.underlying42 hi0 hz0 hz1 hz2 rfl (by omega) vd j (Dns (dsOf outs ((FL rows).take j))) rfl (own_keep HOWN.out fun k hk => (alloc_old' (Nat.lt_trans (own_row HOWN.out k hk).2 hl5)).trans (HBE.out.block k (own_row HOWN.out k hk).2)) ⟨w5.heap.size, 0, none⟩ 1 1 [.int .i64 (I : Int), .int .i64 0, .int .i64 0, .int .i64 0, .int .i64 0, .bool false, .int .i64 0, .int .i64 0, .int .u64 0, .string ByteArray.empty, .slice none 0 0] rfl rfl (World.news_of_block (cs := #[.int .i64 (I : Int), .int .i64 0, .int .i64 0, .int .i64 0, .int .i64 0, .bool false, .int .i64 0, .int .i64 0, .int .u64 0, .string ByteArray.empty, .slice none 0 0]) (t := 74) (fr := (0, 0)) (heap_alloc_new w5 _)) (by simp [Value.oneCell']) (by omega) (by unfold maxLen; omega) (by omega) (by simp; omega) (w5.heap.size + 1) (by simp) ?_; intro g5 cap5 w6 hown6 hgrow6 hat6 hlt6; have HO6 := Lib.hid hown6; have HG6 := Lib.hid hgrow6; clear hown6 hgrow6 hat6))
          go_roundw
          case rel =>
            refine ⟨j + 1, _, by go_num, rfl, by rw [HT.out, goodOf_snoc, HG.out]; rfl, by omega, ?_, ?_⟩
            · rw [HT.out, dsOf_snoc, Dns_snoc, HR2.out]; exact HO6.out
            · exact ((HBB.out.trans (HBE.out.mono hfr)).alloc (by omega) _).grown HG6.out (by simp; omega) (fun k hk => (own_row HOWN.out k hk).1)
          case measure => simp [intOf]; omega
        · go_wp2_with (first
              | (refine wpList_load_blk rfl 74 _ rfl wr.heap.size 0 rfl [.int .i64 (I : Int), .int .i64 0, .int .i64 0, .int .i64 0, .int .i64 0, .bool false, .int .i64 0, .int .i64 0, .int .u64 0, .string ByteArray.empty, .slice none 0 0] _ (Blk.range (pre := []) (post := []) HB5.out rfl) Try.underlying74 rfl sizeDn ?_)
              | (at_builtin; refine wpList_append_lies _ rfl _ _ 42 rfl w3.heap.size 74 i0 _ 11 112 Try.underlying42 hi0 hz0 hz1 hz2 rfl (by omega) vd j (Dns (dsOf outs ((FL rows).take j))) rfl (own_keep HOWN.out fun k hk => (alloc_old' (Nat.lt_trans (own_row HOWN.out k hk).2 hl5)).trans (HBE.out.block k (own_row HOWN.out k hk).2)) ⟨w5.heap.size, 0, none⟩ 1 1 [.int .i64 (I : Int), .int .i64 0, .int .i64 0, .int .i64 0, .int .i64 0, .bool false, .int .i64 0, .int .i64 0, .int .u64 0, .string ByteArray.empty, .slice none 0 0] rfl rfl (World.news_of_block (cs := #[.int .i64 (I : Int), .int .i64 0, .int .i64 0, .int .i64 0, .int .i64 0, .bool false, .int .i64 0, .int .i64 0, .int .u64 0, .string ByteArray.empty, .slice none 0 0]) (t := 74) (fr := (0, 0)) (heap_alloc_new w5 _)) (by simp [Value.oneCell']) (by omega) (by unfold maxLen; omega) (by omega) (by simp; omega) (w5.heap.size + 1) (by simp) ?_; intro g5 cap5 w6 hown6 hgrow6 hat6 hlt6; have HO6 := Lib.hid hown6; have HG6 := Lib.hid hgrow6; clear hown6 hgrow6 hat6))
          go_roundw
          case rel =>
            refine ⟨j + 1, _, by go_num, rfl, by rw [HT.out, goodOf_snoc, HG.out, HR2.out]; rfl, by omega, ?_, ?_⟩
            · rw [HT.out, dsOf_snoc, Dns_snoc, HR2.out]; exact HO6.out
            · exact ((HBB.out.trans (HBE.out.mono hfr)).alloc (by omega) _).grown HG6.out (by simp; omega) (fun k hk => (own_row HOWN.out k hk).1)
          case measure => simp [intOf]; omega
    · obtain rfl : j = N := by omega
      have htk : (FL rows).take j = FL rows := by rw [HN.out, List.take_length]
      rw [htk] at HOWN ⊢
      go_wp2_with fail
      refine bodyPost_ret (v := .tuple #[vd, .bool (goodOf outs (FL rows))]) (by simp [results, Try.results14, go_sem]) rfl ?_
      exact ⟨_, rfl, by rw [← HN.out]; exact own_mono HOWN.out HB4.out.size, HB4.out.trans (HBB.out.mono HB4.out.size)⟩
end Go.Proofs.Ytmkbdjekidcfaaa
