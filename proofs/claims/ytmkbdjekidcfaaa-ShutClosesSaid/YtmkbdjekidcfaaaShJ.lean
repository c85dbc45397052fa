/- Shut: what went wrong, joined: the program's and the reference's. -/
import Derived.Test.YtmkbdjekidcfaaaShI
namespace Go.Proofs.Ytmkbdjekidcfaaa
open Go.RowKit
attribute [local go_sem ↓] Go.wp_at_zero Go.wp_at_succ

def joinOf (ds : List (Int × Rs)) : List (Int × Rs) := ds.filter fun d => !decide (d.2.err = 0)
theorem joinOf_snoc (ds : List (Int × Rs)) (d : Int × Rs) : joinOf (ds ++ [d]) = joinOf ds ++ (if d.2.err = 0 then [] else [d]) := by
  unfold joinOf
  rw [List.filter_append]
  congr 1
  by_cases h : d.2.err = 0
  · simp [h]
  · simp [h]
theorem joinOf_len (ds : List (Int × Rs)) : (joinOf ds).length ≤ ds.length := List.length_filter_le _ _

set_option maxRecDepth 100000 in
set_option maxHeartbeats 4000000 in
theorem join_any (v : Value) (ds : List (Int × Rs)) (w : World) (h : StAt dcs 11 w v ds) (hob : ∀ g, v.ownBlock = some g → g < w.heap.size) (hl : ds.length ≤ 400) :
    Calls Try.prog 15 #[v] w fun e w' => ∃ vd, e = .returned (.tuple #[vd, .bool (decide (joinOf ds = []))]) ∧ w'.ownsRow w.heap.size 74 11 vd (joinOf ds).length (Dns (joinOf ds)) ∧ Below w.heap.size w w' := by
  obtain ⟨i0, hi0, hz0, hz1, hz2⟩ := info_parts infoDn
  have HH := Lib.hid h
  have HOB := Lib.hid hob
  obtain ⟨a, c, rfl, hlc, hcm, -⟩ := h
  unfold maxLen at hcm
  have hSn := run_slice_done
  clear hob
  obtain ⟨N, hN⟩ : ∃ N, N = ds.length := ⟨_, rfl⟩
  rw [← hN] at hl hlc HOB ⊢
  have HH2 : Hid (StAt dcs 11 w (.slice a N c) ds) := by rw [hN]; exact HH
  have HN := Lib.hid hN
  clear hN HH
  go_enter Try.func15, Try.ntmps15
  go_wp2_with fail
  go_loopw [9, 4] (fun s s4 wr => ∃ (j : Nat) (vd : Value), s = .int .i64 j ∧ vd = s4 ∧ j ≤ N ∧ wr.ownsRow w.heap.size 74 11 vd (joinOf (ds.take j)).length (Dns (joinOf (ds.take j))) ∧ Below w.heap.size w wr) (fun s _ _ => N - (intOf s).toNat)
  case atStart => exact ⟨0, _, rfl, rfl, by omega, ⟨rfl, .inl ⟨rfl, rfl⟩⟩, Below.refl _ _⟩
  case round =>
    obtain ⟨j, vd, rfl, rfl, hj, hown, hB⟩ := hrel
    have hfr := hB.size
    have HOWN := Lib.hid hown
    have HBB := Lib.hid hB
    clear hown hB
    by_cases hjl : j < N
    · have hj2 : j < ds.length := by rw [← HN.out]; exact hjl
      obtain ⟨g, c2, hv, hg, hrr⟩ := (HH2.out.below HBB.out).get hj2
      simp only [Value.slice.injEq] at hv
      obtain ⟨rfl, -, rfl⟩ := hv
      have hgo2 := HOB.out g rfl
      have HT : Hid (ds.take (j + 1) = ds.take j ++ [ds[j]]) := List.take_succ_eq_append_getElem hj2
      have HLN : Hid ((joinOf (ds.take j)).length ≤ 400) := Nat.le_trans (joinOf_len _) (by rw [List.length_take]; omega)
      generalize hD : ds[j] = D at *
      obtain ⟨d, ⟨err, code, pk, pn, has⟩⟩ := D
      have HRR := Lib.hid hrr
      obtain ⟨M, hM⟩ : ∃ M, M = (joinOf (ds.take j)).length := ⟨_, rfl⟩
      rw [← hM] at HOWN HLN
      have HM := Lib.hid hM
      have hMl := HLN.out
      clear hrr hD hj2 hg HLN hM
      go_upto_region 5 with (first | (refine wpList_load_blk rfl 74 _ rfl g (j * 11) rfl [.int .i64 d, .int .i64 err, .int .i64 code, .int .i64 pk, .int .i64 pn, .bool has, .int .i64 0, .int .i64 0, .int .u64 0, .string ByteArray.empty, .slice none 0 0] _ HRR.out Try.underlying74 rfl sizeDn ?_))
      show Code.wp _ _ _ _ (wr.alloc (.cells #[.int .i64 d, .int .i64 err, .int .i64 code, .int .i64 pk, .int .i64 pn, .bool has, .int .i64 0, .int .i64 0, .int .u64 0, .string ByteArray.empty, .slice none 0 0] 74))
      generalize hW5 : wr.alloc (.cells #[.int .i64 d, .int .i64 err, .int .i64 code, .int .i64 pk, .int .i64 pn, .bool has, .int .i64 0, .int .i64 0, .int .u64 0, .string ByteArray.empty, .slice none 0 0] 74) = w5
      have hb5 : Blk w5 wr.heap.size 74 #[.int .i64 d, .int .i64 err, .int .i64 code, .int .i64 pk, .int .i64 pn, .bool has, .int .i64 0, .int .i64 0, .int .u64 0, .string ByteArray.empty, .slice none 0 0] := by rw [← hW5]; exact Blk.new _ _ _
      have hB5 : Below wr.heap.size wr w5 := by rw [← hW5]; exact (Below.refl _ _).alloc (Nat.le_refl _) _
      clear hW5
      have e1 := hb5.cell 1
      simp only [List.getElem?_toArray, List.getElem?_cons_succ, List.getElem?_cons_zero] at e1
      have HB5 := Lib.hid hb5
      have HBE := Lib.hid hB5
      have hl5 := hb5.lt
      clear hb5 hB5
      by_cases he : err = 0
      · subst he
        go_wp2_with fail
        go_roundw
        case rel => exact ⟨j + 1, _, by go_num, rfl, by omega, by rw [HT.out, joinOf_snoc]; simpa [← HM.out] using own_keep HOWN.out fun k hk => HBE.out.block k (own_row HOWN.out k hk).2, HBB.out.trans (HBE.out.mono hfr)⟩
        case measure => simp [intOf]; omega
      · have he2 : (err != 0) = true := by simp [he]
        have HE := Lib.hid he
        clear he
        go_upto_region 7 with (first
          | (refine wpList_load_blk rfl 39 _ rfl wr.heap.size 6 rfl [.int .i64 0, .int .i64 0, .int .u64 0, .string ByteArray.empty, .slice none 0 0] _ (Blk.range (pre := [.int .i64 d, .int .i64 err, .int .i64 code, .int .i64 pk, .int .i64 pn, .bool has]) (post := []) HB5.out rfl) Try.underlying39 rfl sizeD ?_)
          | (go_at_call 23; refine (clone_zero _).mono ?_; rintro e w7 ⟨rfl, hb7⟩)
          | (refine wpList_store_blk (T := 74) rfl 39 _ _ rfl wr.heap.size 6 [.int .i64 d, .int .i64 err, .int .i64 code, .int .i64 pk, .int .i64 pn, .bool has] [.int .i64 0, .int .i64 0, .int .u64 0, .string ByteArray.empty, .slice none 0 0] [] [.int .i64 0, .int .i64 0, .int .u64 0, .string ByteArray.empty, .slice none 0 0] rfl rfl (HB5.out.under hb7 HB5.out.lt) rfl rfl sizeD (by simp [Value.oneCell']) ?_; intro w8 hg8 hu8))
        have HG8 : Hid (Blk w8 wr.heap.size 74 #[.int .i64 d, .int .i64 err, .int .i64 code, .int .i64 pk, .int .i64 pn, .bool has, .int .i64 0, .int .i64 0, .int .u64 0, .string ByteArray.empty, .slice none 0 0]) := hg8
        have HBE8 : Hid (Below wr.heap.size wr w8) := HBE.out.trans ((hb7.mono (Nat.le_of_lt hl5)).trans (hu8.below _ (Nat.le_refl _)))
        have hl8 : wr.heap.size < w8.heap.size := hg8.lt
        clear hg8 hu8 hb7 HB5 HBE e1
        try simp only [Act.put]
        go_wp2_with (first
          | (refine wpList_load_blk rfl 74 _ rfl wr.heap.size 0 rfl [.int .i64 d, .int .i64 err, .int .i64 code, .int .i64 pk, .int .i64 pn, .bool has, .int .i64 0, .int .i64 0, .int .u64 0, .string ByteArray.empty, .slice none 0 0] _ (Blk.range (pre := []) (post := []) HG8.out rfl) Try.underlying74 rfl sizeDn ?_)
          | (at_builtin; refine wpList_append_lies _ rfl _ _ 42 rfl w.heap.size 74 i0 _ 11 112 Try.underlying42 hi0 hz0 hz1 hz2 rfl (by omega) vd M (Dns (joinOf (ds.take j))) rfl (own_keep HOWN.out fun k hk => (alloc_old' (Nat.lt_trans (own_row HOWN.out k hk).2 hl8)).trans (HBE8.out.block k (own_row HOWN.out k hk).2)) ⟨w8.heap.size, 0, none⟩ 1 1 [.int .i64 d, .int .i64 err, .int .i64 code, .int .i64 pk, .int .i64 pn, .bool has, .int .i64 0, .int .i64 0, .int .u64 0, .string ByteArray.empty, .slice none 0 0] rfl rfl (World.news_of_block (cs := #[.int .i64 d, .int .i64 err, .int .i64 code, .int .i64 pk, .int .i64 pn, .bool has, .int .i64 0, .int .i64 0, .int .u64 0, .string ByteArray.empty, .slice none 0 0]) (t := 74) (fr := (0, 0)) (heap_alloc_new w8 _)) (by simp [Value.oneCell']) (by omega) (by unfold maxLen; omega) (by omega) (by simp; omega) (w8.heap.size + 1) (by simp) ?_; intro g6 cap6 w6 hown6 hgrow6 hat6 hlt6; have HO6 := Lib.hid hown6; have HG6 := Lib.hid hgrow6; clear hown6 hgrow6 hat6))
        go_roundw
        case rel =>
          refine ⟨j + 1, _, by go_num, rfl, by omega, ?_, ?_⟩
          · rw [HT.out, joinOf_snoc, if_neg HE.out, List.length_append, Dns_snoc, ← HM.out]; exact HO6.out
          · exact ((HBB.out.trans (HBE8.out.mono hfr)).alloc (by omega) _).grown HG6.out (by simp; omega) (fun k hk => (own_row HOWN.out k hk).1)
        case measure => simp [intOf]; omega
    · obtain rfl : j = N := by omega
      have htk : ds.take j = ds := by rw [HN.out, List.take_length]
      rw [htk] at HOWN
      obtain ⟨ad, cd, rfl⟩ := own_len HOWN.out
      cases hJ : joinOf ds with
      | nil =>
        rw [hJ] at HOWN
        have HJ := Lib.hid hJ
        clear hJ
        go_wp2_with fail
        refine bodyPost_ret (v := .tuple #[.slice ad 0 cd, .bool true]) (by simp [results, Try.results15, go_sem]) rfl ?_
        exact ⟨.slice ad 0 cd, by rw [HJ.out]; simp, by rw [HJ.out]; exact HOWN.out, HBB.out⟩
      | cons x r =>
        rw [hJ] at HOWN
        have HJ := Lib.hid hJ
        clear hJ
        have hne : (((x :: r).length : Int) == 0) = false := by rw [beq_eq_false_iff_ne]; simp only [List.length_cons]; omega
        generalize hQ : (x :: r).length = QN at *
        go_wp2_with fail
        refine bodyPost_ret (v := .tuple #[.slice ad QN cd, .bool false]) (by simp [results, Try.results15, go_sem]) rfl ?_
        exact ⟨.slice ad QN cd, by rw [HJ.out]; simp, by rw [HJ.out, hQ]; exact HOWN.out, HBB.out⟩
set_option maxRecDepth 100000 in
set_option maxHeartbeats 4000000 in
theorem rjoin_any (v : Value) (ds : List (Int × Rs)) (w : World) (h : StAt dcs 11 w v ds) (hob : ∀ g, v.ownBlock = some g → g < w.heap.size) (hl : ds.length ≤ 400) :
    Calls Try.prog 16 #[v] w fun e w' => ∃ vd, e = .returned (.tuple #[vd, .bool (decide (joinOf ds = []))]) ∧ w'.ownsRow w.heap.size 74 11 vd (joinOf ds).length (Dns (joinOf ds)) ∧ Below w.heap.size w w' := by
  obtain ⟨i0, hi0, hz0, hz1, hz2⟩ := info_parts infoDn
  have HH := Lib.hid h
  have HOB := Lib.hid hob
  obtain ⟨a, c, rfl, hlc, hcm, -⟩ := h
  unfold maxLen at hcm
  have hSn := run_slice_done
  clear hob
  obtain ⟨N, hN⟩ : ∃ N, N = ds.length := ⟨_, rfl⟩
  rw [← hN] at hl hlc HOB ⊢
  have HH2 : Hid (StAt dcs 11 w (.slice a N c) ds) := by rw [hN]; exact HH
  have HN := Lib.hid hN
  clear hN HH
  go_enter Try.func16, Try.ntmps16
  go_wp2_with fail
  go_loopw [9, 4] (fun s s4 wr => ∃ (j : Nat) (vd : Value), s = .int .i64 j ∧ vd = s4 ∧ j ≤ N ∧ wr.ownsRow w.heap.size 74 11 vd (joinOf (ds.take j)).length (Dns (joinOf (ds.take j))) ∧ Below w.heap.size w wr) (fun s _ _ => N - (intOf s).toNat)
  case atStart => exact ⟨0, _, rfl, rfl, by omega, ⟨rfl, .inl ⟨rfl, rfl⟩⟩, Below.refl _ _⟩
  case round =>
    obtain ⟨j, vd, rfl, rfl, hj, hown, hB⟩ := hrel
    have hfr := hB.size
    have HOWN := Lib.hid hown
    have HBB := Lib.hid hB
    clear hown hB
    by_cases hjl : j < N
    · have hj2 : j < ds.length := by rw [← HN.out]; exact hjl
      obtain ⟨g, c2, hv, hg, hrr⟩ := (HH2.out.below HBB.out).get hj2
      simp only [Value.slice.injEq] at hv
      obtain ⟨rfl, -, rfl⟩ := hv
      have hgo2 := HOB.out g rfl
      have HT : Hid (ds.take (j + 1) = ds.take j ++ [ds[j]]) := List.take_succ_eq_append_getElem hj2
      have HLN : Hid ((joinOf (ds.take j)).length ≤ 400) := Nat.le_trans (joinOf_len _) (by rw [List.length_take]; omega)
      generalize hD : ds[j] = D at *
      obtain ⟨d, ⟨err, code, pk, pn, has⟩⟩ := D
      have HRR := Lib.hid hrr
      obtain ⟨M, hM⟩ : ∃ M, M = (joinOf (ds.take j)).length := ⟨_, rfl⟩
      rw [← hM] at HOWN HLN
      have HM := Lib.hid hM
      have hMl := HLN.out
      clear hrr hD hj2 hg HLN hM
      go_upto_region 5 with (first | (refine wpList_load_blk rfl 74 _ rfl g (j * 11) rfl [.int .i64 d, .int .i64 err, .int .i64 code, .int .i64 pk, .int .i64 pn, .bool has, .int .i64 0, .int .i64 0, .int .u64 0, .string ByteArray.empty, .slice none 0 0] _ HRR.out Try.underlying74 rfl sizeDn ?_))
      show Code.wp _ _ _ _ (wr.alloc (.cells #[.int .i64 d, .int .i64 err, .int .i64 code, .int .i64 pk, .int .i64 pn, .bool has, .int .i64 0, .int .i64 0, .int .u64 0, .string ByteArray.empty, .slice none 0 0] 74))
      generalize hW5 : wr.alloc (.cells #[.int .i64 d, .int .i64 err, .int .i64 code, .int .i64 pk, .int .i64 pn, .bool has, .int .i64 0, .int .i64 0, .int .u64 0, .string ByteArray.empty, .slice none 0 0] 74) = w5
      have hb5 : Blk w5 wr.heap.size 74 #[.int .i64 d, .int .i64 err, .int .i64 code, .int .i64 pk, .int .i64 pn, .bool has, .int .i64 0, .int .i64 0, .int .u64 0, .string ByteArray.empty, .slice none 0 0] := by rw [← hW5]; exact Blk.new _ _ _
      have hB5 : Below wr.heap.size wr w5 := by rw [← hW5]; exact (Below.refl _ _).alloc (Nat.le_refl _) _
      clear hW5
      have e1 := hb5.cell 1
      simp only [List.getElem?_toArray, List.getElem?_cons_succ, List.getElem?_cons_zero] at e1
      have HB5 := Lib.hid hb5
      have HBE := Lib.hid hB5
      have hl5 := hb5.lt
      clear hb5 hB5
      by_cases he : err = 0
      · subst he
        go_wp2_with fail
        go_roundw
        case rel => exact ⟨j + 1, _, by go_num, rfl, by omega, by rw [HT.out, joinOf_snoc]; simpa [← HM.out] using own_keep HOWN.out fun k hk => HBE.out.block k (own_row HOWN.out k hk).2, HBB.out.trans (HBE.out.mono hfr)⟩
        case measure => simp [intOf]; omega
      · have he2 : (err != 0) = true := by simp [he]
        have HE := Lib.hid he
        clear he
        try simp only [Act.put]
        go_wp2_with (first
          | (refine wpList_load_blk rfl 74 _ rfl wr.heap.size 0 rfl [.int .i64 d, .int .i64 err, .int .i64 code, .int .i64 pk, .int .i64 pn, .bool has, .int .i64 0, .int .i64 0, .int .u64 0, .string ByteArray.empty, .slice none 0 0] _ (Blk.range (pre := []) (post := []) HB5.out rfl) Try.underlying74 rfl sizeDn ?_)
          | (at_builtin; refine wpList_append_lies _ rfl _ _ 42 rfl w.heap.size 74 i0 _ 11 112 Try.underlying42 hi0 hz0 hz1 hz2 rfl (by omega) vd M (Dns (joinOf (ds.take j))) rfl (own_keep HOWN.out fun k hk => (alloc_old' (Nat.lt_trans (own_row HOWN.out k hk).2 hl5)).trans (HBE.out.block k (own_row HOWN.out k hk).2)) ⟨w5.heap.size, 0, none⟩ 1 1 [.int .i64 d, .int .i64 err, .int .i64 code, .int .i64 pk, .int .i64 pn, .bool has, .int .i64 0, .int .i64 0, .int .u64 0, .string ByteArray.empty, .slice none 0 0] rfl rfl (World.news_of_block (cs := #[.int .i64 d, .int .i64 err, .int .i64 code, .int .i64 pk, .int .i64 pn, .bool has, .int .i64 0, .int .i64 0, .int .u64 0, .string ByteArray.empty, .slice none 0 0]) (t := 74) (fr := (0, 0)) (heap_alloc_new w5 _)) (by simp [Value.oneCell']) (by omega) (by unfold maxLen; omega) (by omega) (by simp; omega) (w5.heap.size + 1) (by simp) ?_; intro g6 cap6 w6 hown6 hgrow6 hat6 hlt6; have HO6 := Lib.hid hown6; have HG6 := Lib.hid hgrow6; clear hown6 hgrow6 hat6))
        go_roundw
        case rel =>
          refine ⟨j + 1, _, by go_num, rfl, by omega, ?_, ?_⟩
          · rw [HT.out, joinOf_snoc, if_neg HE.out, List.length_append, Dns_snoc, ← HM.out]; exact HO6.out
          · exact ((HBB.out.trans (HBE.out.mono hfr)).alloc (by omega) _).grown HG6.out (by simp; omega) (fun k hk => (own_row HOWN.out k hk).1)
        case measure => simp [intOf]; omega
    · obtain rfl : j = N := by omega
      have htk : ds.take j = ds := by rw [HN.out, List.take_length]
      rw [htk] at HOWN
      obtain ⟨ad, cd, rfl⟩ := own_len HOWN.out
      cases hJ : joinOf ds with
      | nil =>
        rw [hJ] at HOWN
        have HJ := Lib.hid hJ
        clear hJ
        go_wp2_with fail
        refine bodyPost_ret (v := .tuple #[.slice ad 0 cd, .bool true]) (by simp [results, Try.results16, go_sem]) rfl ?_
        exact ⟨.slice ad 0 cd, by rw [HJ.out]; simp, by rw [HJ.out]; exact HOWN.out, HBB.out⟩
      | cons x r =>
        rw [hJ] at HOWN
        have HJ := Lib.hid hJ
        clear hJ
        have hne : (((x :: r).length : Int) == 0) = false := by rw [beq_eq_false_iff_ne]; simp only [List.length_cons]; omega
        generalize hQ : (x :: r).length = QN at *
        go_wp2_with fail
        refine bodyPost_ret (v := .tuple #[.slice ad QN cd, .bool false]) (by simp [results, Try.results16, go_sem]) rfl ?_
        exact ⟨.slice ad QN cd, by rw [HJ.out]; simp, by rw [HJ.out, hQ]; exact HOWN.out, HBB.out⟩
end Go.Proofs.Ytmkbdjekidcfaaa
