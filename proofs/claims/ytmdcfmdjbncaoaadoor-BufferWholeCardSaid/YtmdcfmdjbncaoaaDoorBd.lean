/- BufferWhole: the walk. -/
import Derived.Test.YtmdcfmdjbncaoaaDoorBc
namespace Go.Proofs.YtmdcfmdjbncaoaaDoor
open Go.RowKit
attribute [local go_sem ↓] Go.wp_at_zero Go.wp_at_succ
attribute [local go_sem] Go.undef

def BwW (w : World) (g : Nat) (a : Int) (v8 v9 v10 iv : Value) (wr : World) : Prop :=
  ∃ (i : Nat) (put out st : List MX) (since now : Int) (a1 : Option Addr) (c1 : Nat), iv = .int .i64 i ∧ v10 = .int .i64 now ∧ i ≤ 60 ∧ BwL i a put out st since now ∧ BwM wr g put out st since v8 v9 a1 c1 ∧ Below w.heap.size w wr

set_option maxHeartbeats 16000000 in
set_option maxRecDepth 100000 in
theorem bwhole_go (a0 b : Int) (ts : List TX) (sa : Option Addr) (sn sc : Nat) (w : World) (hT : Tabs w) (hrow : RowsOf (IsT w (· < w.heap.size)) 15 w (· < w.heap.size) ts sa sn sc) :
    Calls Tryd.prog 5 #[.int .i64 a0, .int .i64 b, .slice sa sn sc] w fun e w' => e = .returned (.bool true) ∧ Below w.heap.size w w' := by
  obtain ⟨i0, hi0, hz0, hz1, hz2⟩ := info_parts infoM
  have hcl : sc ≤ maxLen := hrow.2.2.1
  have hlc : sn ≤ sc := hrow.2.1
  unfold maxLen at hcl
  have HROW := Lib.hid hrow
  have HT := Lib.hid hT
  clear hrow
  have HF := Lib.hid (fitlaw_any [] 0 a0 b 0 none 0 0 w (fun _ => False) (RowsOf.nil _ _ (Nat.zero_le _)) (fun _ h => h.elim) hT)
  clear hT
  go_enter Tryd.func5, Tryd.ntmps5
  go_wp2_with fail
  refine HF.out.mono ?_
  rintro e w1 ⟨r, rfl, hr, hb1⟩
  have T := Lib.hid hb1
  clear HF
  cases r with
  | false =>
    clear hr
    go_wp2_with fail
    refine (awakeb_any _).mono ?_
    rintro e w2 ⟨rfl, hb2⟩
    have T2 := below_on hb2 T.out
    clear hb2 hb1
    go_wp2_with fail
    go_ret
    exact ⟨rfl, T2⟩
  | true =>
    obtain ⟨ha1, ha2, hbb0, hbb1, -, -, -⟩ := hr rfl
    clear hr
    have hle1 : w.heap.size ≤ w1.heap.size := hb1.size
    clear hb1
    obtain ⟨g, hg⟩ : ∃ g, g = w1.heap.size := ⟨_, rfl⟩
    have HG : Hid (w.heap.size ≤ g) := by show _ ≤ _; omega
    go_wp2_with fail
    rw [← hg]
    go_loopw [8, 9, 10, 11] (BwW w g a0) (fun _ _ _ i _ => 60 - (intOf i).toNat)
    case atStart =>
      exact ⟨0, [], [], [], 0, 0, none, 0, rfl, rfl, by omega, BwL.start ha1, BwM.start (by rw [hg]; exact Blk.new _ _ _), T.out.alloc hle1 _⟩
    case round =>
      clear hg T hle1
      obtain ⟨i, put, out, st, since, now, a1, c1, rfl, rfl, hi, hlaw, hmem, hbel⟩ := hrel
      have hs0 := hlaw.s0
      have hs1 := hlaw.s1
      have hn1 := hlaw.n1
      have hstl := hlaw.st_len
      have hpl := hlaw.n
      have hstlen := hlaw.len
      have LAW := Lib.hid hlaw
      have M := Lib.hid hmem
      have T := Lib.hid hbel
      clear hlaw hmem
      by_cases hlt : i < sn ∧ i < 60
      · obtain ⟨hlt1, hlt2⟩ := hlt
        obtain ⟨gs, so, t, xs, rfl, hSg, hx, ⟨ms, hM0, rfl⟩, hxl, hr⟩ := HROW.out.get (j := i) hlt1
        obtain ⟨mk, mi, mb, ms', ma, mn, mc, rfl, hM1⟩ := id hM0
        have ck : wr.cell? ⟨gs, so + i * 15, none⟩ = some (.int .i64 t.kind) := (hbel.cell (p := ⟨gs, so + i * 15, none⟩) hSg).trans (hr 0 _ rfl)
        have cn : wr.cell? ⟨gs, so + i * 15 + 14, none⟩ = some (.int .i64 t.n) := (hbel.cell (p := ⟨gs, so + i * 15 + 14, none⟩) hSg).trans (hr 14 _ rfl)
        have cr : wr.rangeAt gs (so + i * 15 + 1) [.int .i64 t.m.id, .string t.m.topic, .int .i64 mk, .int .i64 mi, .int .u64 mb, .string ms', .slice ma mn mc, .int .i64 t.m.tat, .int .i64 t.m.til, .string t.m.reply, .int .i64 t.m.corr, .int .i64 t.m.prio, .int .i64 t.m.hops] := fun q v hv => by
          rw [show so + i * 15 + 1 + q = so + i * 15 + (q + 1) by omega]
          refine (hbel.cell (p := ⟨gs, so + i * 15 + (q + 1), none⟩) hSg).trans (hr (q + 1) v ?_)
          rw [List.getElem?_cons_succ, List.getElem?_append_left (List.getElem?_eq_some_iff.1 hv).1]
          exact hv
        have CR := Lib.hid cr
        have HM : Hid (MXs wr t.m [.int .i64 t.m.id, .string t.m.topic, .int .i64 mk, .int .i64 mi, .int .u64 mb, .string ms', .slice ma mn mc, .int .i64 t.m.tat, .int .i64 t.m.til, .string t.m.reply, .int .i64 t.m.corr, .int .i64 t.m.prio, .int .i64 t.m.hops]) := (hM0.under hbel (fun _ h => h)).mono (fun _ hy => Nat.lt_of_lt_of_le hy hbel.size)
        have HM0 := Lib.hid hM0
        have hi0' : (0 : Int) ≤ (i : Int) := by omega
        have hi1 : (i : Int) < (sn : Int) := by omega
        have hi2 : (i : Int) < 60 := by omega
        have HGS : Hid (gs < wr.heap.size) := Nat.lt_of_lt_of_le hSg hbel.size
        have HGX : Hid (gs < g) := Nat.lt_of_lt_of_le hSg HG.out
        clear cr hM0 hM1 hx hxl hr hbel hSg
        by_cases hk : t.kind = 0
        · have hk0 : (t.kind == 0) = true := by rw [hk]; rfl
          have hk1 : (t.kind == 1) = false := by rw [hk]; rfl
          have HF := Lib.hid (fitmsg_any t.m wr _ [.int .i64 t.m.id, .string t.m.topic, .int .i64 mk, .int .i64 mi, .int .u64 mb, .string ms', .slice ma mn mc, .int .i64 t.m.tat, .int .i64 t.m.til, .string t.m.reply, .int .i64 t.m.corr, .int .i64 t.m.prio, .int .i64 t.m.hops] HM.out (fun _ h => h) (HT.out.on T.out))
          clear hk
          go_wp2_with (refine wpList_load_blk rfl 30 _ rfl gs (so + i * 15 + 1) rfl [.int .i64 t.m.id, .string t.m.topic, .int .i64 mk, .int .i64 mi, .int .u64 mb, .string ms', .slice ma mn mc, .int .i64 t.m.tat, .int .i64 t.m.til, .string t.m.reply, .int .i64 t.m.corr, .int .i64 t.m.prio, .int .i64 t.m.hops] _ CR.out Tryd.underlying30 rfl sizeM ?_)
          refine HF.out.mono ?_
          rintro e w2 ⟨r, rfl, hr, hb2⟩
          clear HF
          replace M := Lib.hid (BwM.on M.out hb2)
          replace HM := Lib.hid (MXs.on HM.out hb2)
          replace CR := Lib.hid (range_over hb2 HGS.out CR.out)
          replace T := Lib.hid (below_on hb2 T.out)
          have ck2 : w2.cell? ⟨gs, so + i * 15, none⟩ = some (.int .i64 t.kind) := cell_on hb2 ck
          have HGS2 : Hid (gs < w2.heap.size) := Nat.lt_of_lt_of_le HGS.out hb2.size
          clear ck cn hb2
          cases r with
          | false =>
            clear hr
            go_wp2_with fail
            go_roundw
            case rel => first | exact ⟨i + 1, put, out, st, since, now, a1, c1, by go_num, rfl, by omega, LAW.out.skip, M.out, T.out⟩ | ((repeat apply Exists.intro); exact ⟨⟨i + 1, put, out, st, since, now, a1, c1, by go_num, rfl, by omega, LAW.out.skip, M.out, T.out⟩, by first | rfl | exact ⟨rfl, rfl⟩ | exact ⟨rfl, rfl, rfl⟩ | exact ⟨rfl, rfl, rfl, rfl⟩ | exact ⟨rfl, rfl, rfl, rfl, rfl⟩ | exact ⟨rfl, rfl, rfl, rfl, rfl, rfl⟩⟩)
            case measure => simp [intOf]; omega
          | true =>
            have hfx := validT_size (hr rfl).1
            clear hr
            obtain ⟨cssP, hput⟩ := M.out.put_
            have HPUT := Lib.hid hput
            have HPROW : Hid (w2.ownsRow 0 30 13 u8 put.length cssP.flatten) := hput.row
            clear hput
            go_upto_region 16 with (first
              | (refine wpList_load_blk rfl 30 _ rfl gs (so + i * 15 + 1) rfl [.int .i64 t.m.id, .string t.m.topic, .int .i64 mk, .int .i64 mi, .int .u64 mb, .string ms', .slice ma mn mc, .int .i64 t.m.tat, .int .i64 t.m.til, .string t.m.reply, .int .i64 t.m.corr, .int .i64 t.m.prio, .int .i64 t.m.hops] _ CR.out Tryd.underlying30 rfl sizeM ?_)
              | (at_builtin
                 go_loud (refine wpList_append_lies _ rfl _ _ _ rfl 0 30 i0 _ 13 144 Tryd.underlying22 hi0 hz0 hz1 hz2 rfl (by omega) _ put.length cssP.flatten rfl (HPROW.out.alloc _)
                                    ⟨w2.heap.size, 0, none⟩ 1 1 [.int .i64 t.m.id, .string t.m.topic, .int .i64 mk, .int .i64 mi, .int .u64 mb, .string ms', .slice ma mn mc, .int .i64 t.m.tat, .int .i64 t.m.til, .string t.m.reply, .int .i64 t.m.corr, .int .i64 t.m.prio, .int .i64 t.m.hops] rfl rfl (World.news_of_block (cs := #[.int .i64 t.m.id, .string t.m.topic, .int .i64 mk, .int .i64 mi, .int .u64 mb, .string ms', .slice ma mn mc, .int .i64 t.m.tat, .int .i64 t.m.til, .string t.m.reply, .int .i64 t.m.corr, .int .i64 t.m.prio, .int .i64 t.m.hops]) (t := 30) (fr := (0, 0)) (heap_alloc_new w2 _)) HM.out.one (by omega) (by unfold maxLen; omega) (by omega) (by simp) (w2.heap.size + 1) (by simp) ?_)
                 intro g5 cap5 w3 hown3 hgrow3 hat3 hlt3
                 have HO3 := Lib.hid hown3
                 have HG3 := Lib.hid hgrow3
                 have HAT3 := Lib.hid hat3
                 clear hown3 hat3 hgrow3))
            have hb3 : Below w.heap.size w2 w3 := ((Below.refl _ _).alloc T.out.size _).grown HG3.out (by have := T.out.size; simp; omega) (fun q hq => by have := (M.out.ro8 q hq).1; have := HG.out; omega)
            have M3 : Hid (BwM w3.drew g (put ++ [t.m]) out st since (.slice (some ⟨g5, 0, none⟩) (put.length + 1) cap5) u9 a1 c1) := (M.out.add HPUT.out ((HM0.out.under T.out (fun _ h => h)).mono (fun _ hy => Nat.lt_of_lt_of_le hy HG.out)) HO3.out rfl HG3.out HAT3.out).on (Below.refl _ _).drew
            have T3 : Hid (Below w.heap.size w w3.drew) := (T.out.trans hb3).trans (Below.refl _ _).drew
            have CR3 : Hid (w3.drew.rangeAt gs (so + i * 15 + 1) [.int .i64 t.m.id, .string t.m.topic, .int .i64 mk, .int .i64 mi, .int .u64 mb, .string ms', .slice ma mn mc, .int .i64 t.m.tat, .int .i64 t.m.til, .string t.m.reply, .int .i64 t.m.corr, .int .i64 t.m.prio, .int .i64 t.m.hops]) := fun q v hv => (far_cell HG3.out (b := gs) HGS2.out (fun e => by have := (M.out.ro8 gs e).1; have := HGX.out; omega)).trans (CR.out q v hv)
            have ck3 : w3.cell? ⟨gs, so + i * 15, none⟩ = some (.int .i64 t.kind) := (far_cell HG3.out HGS2.out (fun e => by have := (M.out.ro8 gs e).1; have := HGX.out; omega)).trans ck2
            have HGS3 : Hid (gs < w3.drew.heap.size) := by have h1 := hb3.size; have h2 := HGS2.out; exact Nat.lt_of_lt_of_le h2 h1
            have HM3 : Hid (MXs w3.drew t.m [.int .i64 t.m.id, .string t.m.topic, .int .i64 mk, .int .i64 mi, .int .u64 mb, .string ms', .slice ma mn mc, .int .i64 t.m.tat, .int .i64 t.m.til, .string t.m.reply, .int .i64 t.m.corr, .int .i64 t.m.prio, .int .i64 t.m.hops]) := (HM0.out.under T3.out (fun _ h => h)).mono (fun _ hy => Nat.lt_of_lt_of_le hy T3.out.size)
            have HLT3 : Hid (w3.drew.heap.size = w3.heap.size) := rfl
            clear ck2 HO3 HG3 HAT3 HPUT HPROW M T CR HM hb3 HGS2 hlt3
            obtain ⟨X, hX⟩ : ∃ X, X = putBuf st since a0 now t.m := ⟨_, rfl⟩
            have hp := putbp_any st since a0 now t.m [.int .i64 t.m.id, .string t.m.topic, .int .i64 mk, .int .i64 mi, .int .u64 mb, .string ms', .slice ma mn mc, .int .i64 t.m.tat, .int .i64 t.m.til, .string t.m.reply, .int .i64 t.m.corr, .int .i64 t.m.prio, .int .i64 t.m.hops] a1 st.length c1 _ w3.drew M3.out.rx (fun _ h => h) LAW.out.st_small (by omega) HM3.out hfx
            rw [← hX] at hp
            have HP := Lib.hid hp
            have hl2 := LAW.out.put_in hfx
            rw [← hX] at hl2
            have LAW2 := Lib.hid hl2
            have hlen2 : ¬ (a0 ≤ (X.1.1.length : Int)) := by have := hl2.len; omega
            have B3 := Lib.hid M3.out.blk
            clear hp hl2 hX LAW HM3
            refine wp_region_held_drew (S := (fun w' => w'.rangeAt gs (so + i * 15 + 1) [.int .i64 t.m.id, .string t.m.topic, .int .i64 mk, .int .i64 mi, .int .u64 mb, .string ms', .slice ma mn mc, .int .i64 t.m.tat, .int .i64 t.m.til, .string t.m.reply, .int .i64 t.m.corr, .int .i64 t.m.prio, .int .i64 t.m.hops] ∧ gs < w'.heap.size)) (by kernel_rfl) ?_ (fun hHeld => ?_)
            · exact ⟨CR3.out, HGS3.out⟩
            refine wpAnyH_take (i := 1) (v := ?_) rfl (by kernel_rfl) (by kernel_rfl) (by kernel_rfl) (fun _ _ _ h => h) (Or.inl ⟨by rfl, ?_⟩) hHeld ?_
            rotate_left
            · intro w hSw
              try dsimp only at hSw
              first | (go_simp; done) | (go_simp; with_reducible rfl)
            try simp only [Act.put, List.getElem_toArray, List.getElem_cons_zero, List.getElem_cons_succ, List.setIfInBounds_toArray, List.set_cons_zero, List.set_cons_succ]
            refine wpAnyH_take (i := 2) (v := ?_) rfl (by kernel_rfl) (by kernel_rfl) (by kernel_rfl) (fun _ _ _ h => h) (Or.inl ⟨by rfl, ?_⟩) hHeld ?_
            rotate_left
            · intro w hSw
              try dsimp only at hSw
              first | (go_simp; done) | (go_simp; with_reducible rfl)
            try simp only [Act.put, List.getElem_toArray, List.getElem_cons_zero, List.getElem_cons_succ, List.setIfInBounds_toArray, List.set_cons_zero, List.set_cons_succ]
            refine wpAnyH_take (i := 3) (v := ?_) rfl (by kernel_rfl) (by kernel_rfl) (by kernel_rfl) (fun _ _ _ h => h) (Or.inl ⟨by rfl, ?_⟩) hHeld ?_
            rotate_left
            · intro w hSw
              try dsimp only at hSw
              first | (go_simp; done) | (go_simp; with_reducible rfl)
            try simp only [Act.put, List.getElem_toArray, List.getElem_cons_zero, List.getElem_cons_succ, List.setIfInBounds_toArray, List.set_cons_zero, List.set_cons_succ]
            refine wpAnyH_take (i := 4) (v := ?_) rfl (by kernel_rfl) (by kernel_rfl) (by kernel_rfl) (fun _ _ _ h => h) (Or.inl ⟨by rfl, ?_⟩) hHeld ?_
            rotate_left
            · intro w hSw
              try dsimp only at hSw
              first | (go_simp; done) | (go_simp; with_reducible rfl)
            try simp only [Act.put, List.getElem_toArray, List.getElem_cons_zero, List.getElem_cons_succ, List.setIfInBounds_toArray, List.set_cons_zero, List.set_cons_succ]
            refine wpAnyH_take (i := 5) (v := ?_) rfl (by kernel_rfl) (by kernel_rfl) (by kernel_rfl) (fun _ _ _ h => h) (Or.inl ⟨by rfl, ?_⟩) hHeld ?_
            rotate_left
            · intro w hSw
              try dsimp only at hSw
              first | (go_simp; done) | (go_simp; with_reducible rfl)
            try simp only [Act.put, List.getElem_toArray, List.getElem_cons_zero, List.getElem_cons_succ, List.setIfInBounds_toArray, List.set_cons_zero, List.set_cons_succ]
            refine wpAnyH_take (i := 6) (v := ?_) rfl (by kernel_rfl) (by kernel_rfl) (by kernel_rfl) (fun _ _ _ h => h) (Or.inl ⟨by rfl, ?_⟩) hHeld ?_
            rotate_left
            · intro w hSw
              try dsimp only at hSw
              first | (go_simp; done) | (go_simp; with_reducible rfl)
            try simp only [Act.put, List.getElem_toArray, List.getElem_cons_zero, List.getElem_cons_succ, List.setIfInBounds_toArray, List.set_cons_zero, List.set_cons_succ]
            refine wpAnyH_take (i := 7) (v := .agg #[.int .i64 t.m.id, .string t.m.topic, .int .i64 mk, .int .i64 mi, .int .u64 mb, .string ms', .slice ma mn mc, .int .i64 t.m.tat, .int .i64 t.m.til, .string t.m.reply, .int .i64 t.m.corr, .int .i64 t.m.prio, .int .i64 t.m.hops]) rfl (by kernel_rfl) (by kernel_rfl) (by kernel_rfl) (fun _ _ _ h => h) (yieldsIf_load_mid (by rfl) 30 _ rfl gs (so + i * 15 + 1) (by rfl) [.int .i64 t.m.id, .string t.m.topic, .int .i64 mk, .int .i64 mi, .int .u64 mb, .string ms', .slice ma mn mc, .int .i64 t.m.tat, .int .i64 t.m.til, .string t.m.reply, .int .i64 t.m.corr, .int .i64 t.m.prio, .int .i64 t.m.hops] _ (fun w' h => h.1) Tryd.underlying30 rfl sizeM) hHeld ?_
            try simp only [Act.put, List.getElem_toArray, List.getElem_cons_zero, List.getElem_cons_succ, List.setIfInBounds_toArray, List.set_cons_zero, List.set_cons_succ]
            refine wpAnyH_ready (rs := [0]) (by kernel_rfl) (by simp) ?_
            refine AllReadyH.cons rfl (fun K hK => ?_) AllReadyH.nil
            refine step_load_blk (by rfl) 24 _ (by rfl) g 0 (by rfl) [.slice a1 st.length c1, .int .i64 since] _ (Blk.range (pre := []) (post := []) B3.out rfl) Tryd.underlying24 rfl sizeB ?_
            refine hK.out _ _ hHeld (fun hHeld2 => ?_)
            clear hHeld hK K
            have hHeld := hHeld2
            clear hHeld2
            try simp only [Act.put, List.getElem_toArray, List.getElem_cons_zero, List.setIfInBounds_toArray, List.set_cons_zero, List.set_cons_succ]
            refine wpAnyH_ready (rs := [8]) (by kernel_rfl) (by simp) ?_
            refine AllReadyH.cons rfl (fun K hK => ?_) AllReadyH.nil
            go_simp
            go_at_call 14
            refine HP.out.mono ?_
            rintro e w4 ⟨a4, c4, ao, co, rfl, ho4, hl4, hb4'⟩
            have ck4 := cell_on hb4' ck3
            have bR := Blk.on B3.out hb4'
            refine hK.out _ _ ⟨range_over hb4' hHeld.2 hHeld.1, Nat.lt_of_lt_of_le hHeld.2 hb4'.size⟩ (fun hHeld2 => ?_)
            clear hHeld hK K
            have hHeld := hHeld2
            clear hHeld2
            try simp only [Act.put, List.getElem_toArray, List.getElem_cons_zero, List.getElem_cons_succ, List.setIfInBounds_toArray, List.set_cons_zero, List.set_cons_succ]
            refine wpAnyH_take (i := 9) (v := ?_) rfl (by kernel_rfl) (by kernel_rfl) (by kernel_rfl) (fun _ _ _ h => h) (Or.inl ⟨by rfl, ?_⟩) hHeld ?_
            rotate_left
            · intro w hSw
              try dsimp only at hSw
              first | (go_simp; done) | (go_simp; with_reducible rfl)
            try simp only [Act.put, List.getElem_toArray, List.getElem_cons_zero, List.getElem_cons_succ, List.setIfInBounds_toArray, List.set_cons_zero, List.set_cons_succ]
            refine wpAnyH_take (i := 10) (v := ?_) rfl (by kernel_rfl) (by kernel_rfl) (by kernel_rfl) (fun _ _ _ h => h) (Or.inl ⟨by rfl, ?_⟩) hHeld ?_
            rotate_left
            · intro w hSw
              try dsimp only at hSw
              first | (go_simp; done) | (go_simp; with_reducible rfl)
            try simp only [Act.put, List.getElem_toArray, List.getElem_cons_zero, List.getElem_cons_succ, List.setIfInBounds_toArray, List.set_cons_zero, List.set_cons_succ]
            refine wpAnyH_take (i := 11) (v := ?_) rfl (by kernel_rfl) (by kernel_rfl) (by kernel_rfl) (fun _ _ _ h => h) (Or.inl ⟨by rfl, ?_⟩) hHeld ?_
            rotate_left
            · intro w hSw
              try dsimp only at hSw
              first | (go_simp; done) | (go_simp; with_reducible rfl)
            try simp only [Act.put, List.getElem_toArray, List.getElem_cons_zero, List.getElem_cons_succ, List.setIfInBounds_toArray, List.set_cons_zero, List.set_cons_succ]
            refine wpAnyH_ready (rs := [12]) (by kernel_rfl) (by simp) ?_
            refine AllReadyH.cons rfl (fun K hK => ?_) AllReadyH.nil
            refine step_store_blk (T := 24) (by rfl) 24 _ _ (by rfl) g 0 [] [.slice a1 st.length c1, .int .i64 since] [] [.slice a4 X.1.1.length c4, .int .i64 X.1.2] (by rfl) (by rfl) bR rfl rfl sizeB buf_one' (fun w5 b5 U5 => ?_)
            refine hK.out _ _ ⟨rangeAt_keep hHeld.1 (fun q => U5.cell (by have := HGX.out; omega)), by rw [U5.size]; exact hHeld.2⟩ (fun hHeld2 => ?_)
            clear hHeld hK K
            have hHeld := hHeld2
            clear hHeld2
            try simp only [Act.put, List.getElem_toArray, List.getElem_cons_zero, List.getElem_cons_succ]
            refine wpAnyH_take (i := 13) (v := ?_) rfl (by kernel_rfl) (by kernel_rfl) (by kernel_rfl) (fun _ _ _ h => h) (Or.inl ⟨by rfl, ?_⟩) hHeld ?_
            rotate_left
            · intro w hSw
              try dsimp only at hSw
              first | (go_simp; done) | (go_simp; with_reducible rfl)
            try simp only [Act.put, List.getElem_toArray, List.getElem_cons_zero, List.getElem_cons_succ, List.setIfInBounds_toArray, List.set_cons_zero, List.set_cons_succ]
            refine wpAnyH_done (by kernel_rfl) ?_ _
            clear hHeld bR
            have T5 : Hid (Below w.heap.size w w4) := below_on hb4' T3.out
            have HL5 := Lib.hid (OwnM.upd hl4 U5 (Blk.lt B3.out))
            have ck5 := (U5.cell (q := gs) (j := so + i * 15) (by have := HGX.out; omega)).trans ck4
            clear HM0 HP CR3 ck3
            have LT8 := Lib.hid (BwM.lt8 M3.out)
            have M5 : Hid (BwM w5 g (put ++ [t.m]) out X.1.1 X.1.2 (.slice (some ⟨g5, 0, none⟩) (put.length + 1) cap5) u9 a4 c4) := (M3.out.on hb4').box U5 b5 ho4 (Blk.lt B3.out) LT8.out (fun z hz => (BwM.lt9 M3.out z hz).2)
            obtain ⟨So, cssO, ho5, hs5⟩ := M5.out.out_
            obtain ⟨S2, cssL, hl5⟩ := HL5.out
            have HO5 := Lib.hid (And.intro ho5 hs5)
            have HL6 := Lib.hid hl5
            have HSRC := Lib.hid (OwnE.src hl5)
            have HROWO : Hid (w5.ownsRow (g + 1) 30 13 u9 out.length cssO.flatten) := ho5.row
            have hg5 : g + 1 ≤ w5.heap.size := Blk.lt M5.out.blk
            have hpl2 : out.length + (X.2).length ≤ 61 := by have h1 := BwL.st_len LAW2.out; have h2 := BwL.n LAW2.out; rw [List.length_append] at h1; omega
            have T5' : Hid (Below w.heap.size w w5) := Below.trans T5.out (U5.below _ HG.out)
            have HGS5 : Hid (gs < w5.heap.size) := by show gs < _; have := HGX.out; omega
            clear ho5 hs5 hl5 HL5 b5 ho4 hl4 T5 U5 ck4
            go_upto_region 24 with (at_builtin
                                    go_loud (refine wpList_append_lie rfl _ _ _ rfl (g + 1) 30 i0 _ 13 144 Tryd.underlying22 hi0 hz0 hz1 hz2 rfl (by omega) u9 out.length cssO.flatten rfl HROWO.out ao (X.2).length co cssL.flatten rfl HSRC.out.1 HSRC.out.2.1 HSRC.out.2.2.1 HSRC.out.2.2.2 (by unfold maxLen; omega) (by omega) (by omega) ?_)
                                    intro v6 w6 hown6 hgrow6 hat6
                                    have HO6 := Lib.hid hown6
                                    have HG6 := Lib.hid hgrow6
                                    have HAT6 := Lib.hid hat6
                                    clear hown6 hgrow6 hat6)
            have M6 := Lib.hid (BwM.more M5.out HO5.out.1 HO5.out.2 HL6.out (Blk.lt B3.out) LT8.out (fun z hz => (BwM.lt9 M3.out z hz).2) HO6.out HG6.out HAT6.out)
            have T6 : Hid (Below w.heap.size w w6) := Below.grown T5'.out HG6.out (Nat.le_of_lt (Nat.lt_of_le_of_lt HG.out hg5)) (fun q hq => by have := (BwM.lt9 M5.out q hq).1; have := HG.out; omega)
            have ck6 := (World.cell?_of_block (a := ⟨gs, so + i * 15, none⟩) (stay_block HG6.out HGS5.out (fun e => by have := (BwM.lt9 M5.out gs e).1; have := HGX.out; omega))).trans ck5
            have c0 : w6.cell? ⟨g, 0, none⟩ = some (.slice a4 (X.1.1.length) c4) := Blk.cell M6.out.blk 0
            have c1' : w6.cell? ⟨g, 1, none⟩ = some (.int .i64 X.1.2) := Blk.cell M6.out.blk 1
            clear ck5 HO5 HL6 HSRC HROWO HO6 HG6 HAT6 T5' HGS5 M5
            go_wp2_with fail
            go_roundw
            case rel => first | exact ⟨i + 1, put ++ [t.m], out ++ X.2, X.1.1, X.1.2, now, a4, c4, by go_num, rfl, by omega, LAW2.out, M6.out, T6.out⟩ | ((repeat apply Exists.intro); exact ⟨⟨i + 1, put ++ [t.m], out ++ X.2, X.1.1, X.1.2, now, a4, c4, by go_num, rfl, by omega, LAW2.out, M6.out, T6.out⟩, by first | rfl | exact ⟨rfl, rfl⟩ | exact ⟨rfl, rfl, rfl⟩ | exact ⟨rfl, rfl, rfl, rfl⟩ | exact ⟨rfl, rfl, rfl, rfl, rfl⟩ | exact ⟨rfl, rfl, rfl, rfl, rfl, rfl⟩⟩)
            case measure => simp [intOf]; omega
        · have hk0 : (t.kind == 0) = false := beq_eq_false_iff_ne.2 hk
          clear hk
          by_cases hk : t.kind = 1
          · have hk1 : (t.kind == 1) = true := by rw [hk]; rfl
            clear hk
            have hnow := tick_num (n := t.n) (Int.le_trans hs0 hs1) hn1 hi
            go_upto_region 19 with fail
            obtain ⟨now', hn'⟩ : ∃ x, wrap64 (now + wrap64 ((IntKind.u64.wrap t.n).tmod 9)) = x := ⟨_, rfl⟩
            rw [hn'] at hnow ⊢
            clear hn'
            obtain ⟨hnw1, hnw2⟩ := hnow
            obtain ⟨N1, hN1⟩ : ∃ x, x = nextB st since b := ⟨_, rfl⟩
            obtain ⟨X, hX⟩ : ∃ X, X = tickBuf st since b now' := ⟨_, rfl⟩
            have hw := tick_ways st since b now'
            rw [← hN1, ← hX] at hw
            have HW := Lib.hid hw
            have hp := nextp_any st since b a1 c1 wr hs0 (by omega) hbb1
            rw [← hN1] at hp
            have HP := Lib.hid hp
            have B3 := Lib.hid M.out.blk
            clear hp hN1 cn hw
            go_wp2_with (refine wpList_load_blk rfl 24 _ rfl (g) 0 rfl [.slice a1 st.length c1, .int .i64 since] _ (Blk.range (pre := []) (post := []) B3.out rfl) Tryd.underlying24 rfl sizeB ?_)
            refine HP.out.mono ?_
            rintro e w2 ⟨rfl, hb2⟩
            clear HP
            replace M := Lib.hid (BwM.on M.out hb2)
            replace T := Lib.hid (below_on hb2 T.out)
            replace B3 := Lib.hid (Blk.on B3.out hb2)
            have ck2 := cell_on hb2 ck
            have hp := tickp_any st since b now' a1 st.length c1 _ w2 M.out.rx (fun _ h => h) LAW.out.st_small (by omega) hs0 (by omega) hbb1
            rw [← hX] at hp
            have HP := Lib.hid hp
            have hl2 := LAW.out.tick ha1 (b := b) hnw1 hnw2
            rw [← hX] at hl2
            have LAW2 := Lib.hid hl2
            clear hp hX hl2 hb2 ck LAW
            go_wp2_with (refine wpList_load_blk rfl 24 _ rfl (g) 0 rfl [.slice a1 st.length c1, .int .i64 since] _ (Blk.range (pre := []) (post := []) B3.out rfl) Tryd.underlying24 rfl sizeB ?_)
            refine HP.out.mono ?_
            rintro e w4 ⟨a4, c4, ao, co, rfl, ho4, hl4, hb4'⟩
            have ck4 := cell_on hb4' ck2
            have bR := Blk.on B3.out hb4'
            have T5 := Lib.hid (below_on hb4' T.out)
            clear HP ck2
            go_upto_region 21 with (refine wpList_store_blk (T := 24) rfl 24 _ _ rfl (g) 0 [] [.slice a1 st.length c1, .int .i64 since] [] [.slice a4 X.1.1.length c4, .int .i64 X.1.2] rfl rfl bR rfl rfl sizeB buf_one' ?_; intro w5 b5 U5)
            have M3 := M
            have LT8 := Lib.hid (BwM.lt8 M3.out)
            have M5 : Hid (BwM w5 g put out X.1.1 X.1.2 u8 u9 a4 c4) := (M.out.on hb4').box U5 b5 ho4 (Blk.lt B3.out) LT8.out (fun z hz => (BwM.lt9 M.out z hz).2)
            have HL5 := Lib.hid (OwnM.upd hl4 U5 (Blk.lt B3.out))
            have ck5 := (U5.cell (by have := HGX.out; omega)).trans ck4
            clear M bR hb4'
            have hlen2 : ¬ (a0 ≤ (X.1.1.length : Int)) := by have := LAW2.out.len; omega
            rcases HW.out with ⟨h1, rfl, h3⟩ | ⟨h1, rfl, h3⟩ | ⟨h1, h2, rfl, h3, h4⟩ | ⟨h1, h2, rfl, h3, h4, h5⟩
            · dsimp only [List.length_nil] at M5 HL5 LAW2 hlen2 ⊢
              clear HW
              go_upto_region 23 with fail
              obtain ⟨So, cssO, ho5, hs5⟩ := M5.out.out_
              obtain ⟨S2, cssL, hl5⟩ := HL5.out
              have HO5 := Lib.hid (And.intro ho5 hs5)
              have HL6 := Lib.hid hl5
              have HSRC := Lib.hid (OwnE.src hl5)
              have HROWO : Hid (w5.ownsRow (g + 1) 30 13 u9 out.length cssO.flatten) := ho5.row
              have hg5 : g + 1 ≤ w5.heap.size := Blk.lt M5.out.blk
              have hpl2 : out.length + (([] : List MX)).length ≤ 61 := by have h1 := BwL.st_len LAW2.out; have h2 := BwL.n LAW2.out; rw [List.length_append] at h1; omega
              have T5' : Hid (Below w.heap.size w w5) := Below.trans T5.out (U5.below _ HG.out)
              have HGS5 : Hid (gs < w5.heap.size) := by show gs < _; have := HGX.out; omega
              clear ho5 hs5 hl5 HL5 b5 ho4 hl4 T5 U5 ck4
              go_upto_region 24 with (at_builtin
                                      go_loud (refine wpList_append_lie rfl _ _ _ rfl (g + 1) 30 i0 _ 13 144 Tryd.underlying22 hi0 hz0 hz1 hz2 rfl (by omega) u9 out.length cssO.flatten rfl HROWO.out ao (([] : List MX)).length co cssL.flatten rfl HSRC.out.1 HSRC.out.2.1 HSRC.out.2.2.1 HSRC.out.2.2.2 (by unfold maxLen; omega) (by omega) (by omega) ?_)
                                      intro v6 w6 hown6 hgrow6 hat6
                                      have HO6 := Lib.hid hown6
                                      have HG6 := Lib.hid hgrow6
                                      have HAT6 := Lib.hid hat6
                                      clear hown6 hgrow6 hat6)
              have M6 := Lib.hid (BwM.more M5.out HO5.out.1 HO5.out.2 HL6.out (Blk.lt B3.out) LT8.out (fun z hz => (BwM.lt9 M3.out z hz).2) HO6.out HG6.out HAT6.out)
              have T6 : Hid (Below w.heap.size w w6) := Below.grown T5'.out HG6.out (Nat.le_of_lt (Nat.lt_of_le_of_lt HG.out hg5)) (fun q hq => by have := (BwM.lt9 M5.out q hq).1; have := HG.out; omega)
              have ck6 := (World.cell?_of_block (a := ⟨gs, so + i * 15, none⟩) (stay_block HG6.out HGS5.out (fun e => by have := (BwM.lt9 M5.out gs e).1; have := HGX.out; omega))).trans ck5
              have c0 : w6.cell? ⟨g, 0, none⟩ = some (.slice a4 (st.length) c4) := Blk.cell M6.out.blk 0
              have c1' : w6.cell? ⟨g, 1, none⟩ = some (.int .i64 since) := Blk.cell M6.out.blk 1
              clear ck5 HO5 HL6 HSRC HROWO HO6 HG6 HAT6 T5' HGS5 M5
              go_wp2_with fail
              go_roundw
              case rel => first | exact ⟨i + 1, put, out ++ [], st, since, now', a4, c4, by go_num, rfl, by omega, LAW2.out, M6.out, T6.out⟩ | ((repeat apply Exists.intro); exact ⟨⟨i + 1, put, out ++ [], st, since, now', a4, c4, by go_num, rfl, by omega, LAW2.out, M6.out, T6.out⟩, by first | rfl | exact ⟨rfl, rfl⟩ | exact ⟨rfl, rfl, rfl⟩ | exact ⟨rfl, rfl, rfl, rfl⟩ | exact ⟨rfl, rfl, rfl, rfl, rfl⟩ | exact ⟨rfl, rfl, rfl, rfl, rfl, rfl⟩⟩)
              case measure => simp [intOf]; omega
            · dsimp only [List.length_nil] at M5 HL5 LAW2 hlen2 ⊢
              clear HW
              go_upto_region 23 with fail
              obtain ⟨So, cssO, ho5, hs5⟩ := M5.out.out_
              obtain ⟨S2, cssL, hl5⟩ := HL5.out
              have HO5 := Lib.hid (And.intro ho5 hs5)
              have HL6 := Lib.hid hl5
              have HSRC := Lib.hid (OwnE.src hl5)
              have HROWO : Hid (w5.ownsRow (g + 1) 30 13 u9 out.length cssO.flatten) := ho5.row
              have hg5 : g + 1 ≤ w5.heap.size := Blk.lt M5.out.blk
              have hpl2 : out.length + (([] : List MX)).length ≤ 61 := by have h1 := BwL.st_len LAW2.out; have h2 := BwL.n LAW2.out; rw [List.length_append] at h1; omega
              have T5' : Hid (Below w.heap.size w w5) := Below.trans T5.out (U5.below _ HG.out)
              have HGS5 : Hid (gs < w5.heap.size) := by show gs < _; have := HGX.out; omega
              clear ho5 hs5 hl5 HL5 b5 ho4 hl4 T5 U5 ck4
              go_upto_region 24 with (at_builtin
                                      go_loud (refine wpList_append_lie rfl _ _ _ rfl (g + 1) 30 i0 _ 13 144 Tryd.underlying22 hi0 hz0 hz1 hz2 rfl (by omega) u9 out.length cssO.flatten rfl HROWO.out ao (([] : List MX)).length co cssL.flatten rfl HSRC.out.1 HSRC.out.2.1 HSRC.out.2.2.1 HSRC.out.2.2.2 (by unfold maxLen; omega) (by omega) (by omega) ?_)
                                      intro v6 w6 hown6 hgrow6 hat6
                                      have HO6 := Lib.hid hown6
                                      have HG6 := Lib.hid hgrow6
                                      have HAT6 := Lib.hid hat6
                                      clear hown6 hgrow6 hat6)
              have M6 := Lib.hid (BwM.more M5.out HO5.out.1 HO5.out.2 HL6.out (Blk.lt B3.out) LT8.out (fun z hz => (BwM.lt9 M3.out z hz).2) HO6.out HG6.out HAT6.out)
              have T6 : Hid (Below w.heap.size w w6) := Below.grown T5'.out HG6.out (Nat.le_of_lt (Nat.lt_of_le_of_lt HG.out hg5)) (fun q hq => by have := (BwM.lt9 M5.out q hq).1; have := HG.out; omega)
              have ck6 := (World.cell?_of_block (a := ⟨gs, so + i * 15, none⟩) (stay_block HG6.out HGS5.out (fun e => by have := (BwM.lt9 M5.out gs e).1; have := HGX.out; omega))).trans ck5
              have c0 : w6.cell? ⟨g, 0, none⟩ = some (.slice a4 (0) c4) := Blk.cell M6.out.blk 0
              have c1' : w6.cell? ⟨g, 1, none⟩ = some (.int .i64 since) := Blk.cell M6.out.blk 1
              clear ck5 HO5 HL6 HSRC HROWO HO6 HG6 HAT6 T5' HGS5 M5
              go_wp2_with fail
              go_roundw
              case rel => first | exact ⟨i + 1, put, out ++ [], [], since, now', a4, c4, by go_num, rfl, by omega, LAW2.out, M6.out, T6.out⟩ | ((repeat apply Exists.intro); exact ⟨⟨i + 1, put, out ++ [], [], since, now', a4, c4, by go_num, rfl, by omega, LAW2.out, M6.out, T6.out⟩, by first | rfl | exact ⟨rfl, rfl⟩ | exact ⟨rfl, rfl, rfl⟩ | exact ⟨rfl, rfl, rfl, rfl⟩ | exact ⟨rfl, rfl, rfl, rfl, rfl⟩ | exact ⟨rfl, rfl, rfl, rfl, rfl, rfl⟩⟩)
              case measure => simp [intOf]; omega
            · dsimp only [List.length_nil] at M5 HL5 LAW2 hlen2 ⊢
              have h4n : 0 < st.length := by omega
              clear HW
              go_upto_region 23 with fail
              obtain ⟨So, cssO, ho5, hs5⟩ := M5.out.out_
              obtain ⟨S2, cssL, hl5⟩ := HL5.out
              have HO5 := Lib.hid (And.intro ho5 hs5)
              have HL6 := Lib.hid hl5
              have HSRC := Lib.hid (OwnE.src hl5)
              have HROWO : Hid (w5.ownsRow (g + 1) 30 13 u9 out.length cssO.flatten) := ho5.row
              have hg5 : g + 1 ≤ w5.heap.size := Blk.lt M5.out.blk
              have hpl2 : out.length + (st).length ≤ 61 := by have h1 := BwL.st_len LAW2.out; have h2 := BwL.n LAW2.out; rw [List.length_append] at h1; omega
              have T5' : Hid (Below w.heap.size w w5) := Below.trans T5.out (U5.below _ HG.out)
              have HGS5 : Hid (gs < w5.heap.size) := by show gs < _; have := HGX.out; omega
              clear ho5 hs5 hl5 HL5 b5 ho4 hl4 T5 U5 ck4
              go_upto_region 24 with (at_builtin
                                      go_loud (refine wpList_append_lie rfl _ _ _ rfl (g + 1) 30 i0 _ 13 144 Tryd.underlying22 hi0 hz0 hz1 hz2 rfl (by omega) u9 out.length cssO.flatten rfl HROWO.out ao (st).length co cssL.flatten rfl HSRC.out.1 HSRC.out.2.1 HSRC.out.2.2.1 HSRC.out.2.2.2 (by unfold maxLen; omega) (by omega) (by omega) ?_)
                                      intro v6 w6 hown6 hgrow6 hat6
                                      have HO6 := Lib.hid hown6
                                      have HG6 := Lib.hid hgrow6
                                      have HAT6 := Lib.hid hat6
                                      clear hown6 hgrow6 hat6)
              have M6 := Lib.hid (BwM.more M5.out HO5.out.1 HO5.out.2 HL6.out (Blk.lt B3.out) LT8.out (fun z hz => (BwM.lt9 M3.out z hz).2) HO6.out HG6.out HAT6.out)
              have T6 : Hid (Below w.heap.size w w6) := Below.grown T5'.out HG6.out (Nat.le_of_lt (Nat.lt_of_le_of_lt HG.out hg5)) (fun q hq => by have := (BwM.lt9 M5.out q hq).1; have := HG.out; omega)
              have ck6 := (World.cell?_of_block (a := ⟨gs, so + i * 15, none⟩) (stay_block HG6.out HGS5.out (fun e => by have := (BwM.lt9 M5.out gs e).1; have := HGX.out; omega))).trans ck5
              have c0 : w6.cell? ⟨g, 0, none⟩ = some (.slice a4 (0) c4) := Blk.cell M6.out.blk 0
              have c1' : w6.cell? ⟨g, 1, none⟩ = some (.int .i64 0) := Blk.cell M6.out.blk 1
              clear ck5 HO5 HL6 HSRC HROWO HO6 HG6 HAT6 T5' HGS5 M5
              go_wp2_with fail
              go_roundw
              case rel => first | exact ⟨i + 1, put, out ++ st, [], 0, now', a4, c4, by go_num, rfl, by omega, LAW2.out, M6.out, T6.out⟩ | ((repeat apply Exists.intro); exact ⟨⟨i + 1, put, out ++ st, [], 0, now', a4, c4, by go_num, rfl, by omega, LAW2.out, M6.out, T6.out⟩, by first | rfl | exact ⟨rfl, rfl⟩ | exact ⟨rfl, rfl, rfl⟩ | exact ⟨rfl, rfl, rfl, rfl⟩ | exact ⟨rfl, rfl, rfl, rfl, rfl⟩ | exact ⟨rfl, rfl, rfl, rfl, rfl, rfl⟩⟩)
              case measure => simp [intOf]; omega
            · dsimp only [List.length_nil] at M5 HL5 LAW2 hlen2 ⊢
              have h4n : 0 < st.length := by omega
              clear HW
              go_upto_region 23 with fail
              obtain ⟨So, cssO, ho5, hs5⟩ := M5.out.out_
              obtain ⟨S2, cssL, hl5⟩ := HL5.out
              have HO5 := Lib.hid (And.intro ho5 hs5)
              have HL6 := Lib.hid hl5
              have HSRC := Lib.hid (OwnE.src hl5)
              have HROWO : Hid (w5.ownsRow (g + 1) 30 13 u9 out.length cssO.flatten) := ho5.row
              have hg5 : g + 1 ≤ w5.heap.size := Blk.lt M5.out.blk
              have hpl2 : out.length + (([] : List MX)).length ≤ 61 := by have h1 := BwL.st_len LAW2.out; have h2 := BwL.n LAW2.out; rw [List.length_append] at h1; omega
              have T5' : Hid (Below w.heap.size w w5) := Below.trans T5.out (U5.below _ HG.out)
              have HGS5 : Hid (gs < w5.heap.size) := by show gs < _; have := HGX.out; omega
              clear ho5 hs5 hl5 HL5 b5 ho4 hl4 T5 U5 ck4
              go_upto_region 24 with (at_builtin
                                      go_loud (refine wpList_append_lie rfl _ _ _ rfl (g + 1) 30 i0 _ 13 144 Tryd.underlying22 hi0 hz0 hz1 hz2 rfl (by omega) u9 out.length cssO.flatten rfl HROWO.out ao (([] : List MX)).length co cssL.flatten rfl HSRC.out.1 HSRC.out.2.1 HSRC.out.2.2.1 HSRC.out.2.2.2 (by unfold maxLen; omega) (by omega) (by omega) ?_)
                                      intro v6 w6 hown6 hgrow6 hat6
                                      have HO6 := Lib.hid hown6
                                      have HG6 := Lib.hid hgrow6
                                      have HAT6 := Lib.hid hat6
                                      clear hown6 hgrow6 hat6)
              have M6 := Lib.hid (BwM.more M5.out HO5.out.1 HO5.out.2 HL6.out (Blk.lt B3.out) LT8.out (fun z hz => (BwM.lt9 M3.out z hz).2) HO6.out HG6.out HAT6.out)
              have T6 : Hid (Below w.heap.size w w6) := Below.grown T5'.out HG6.out (Nat.le_of_lt (Nat.lt_of_le_of_lt HG.out hg5)) (fun q hq => by have := (BwM.lt9 M5.out q hq).1; have := HG.out; omega)
              have ck6 := (World.cell?_of_block (a := ⟨gs, so + i * 15, none⟩) (stay_block HG6.out HGS5.out (fun e => by have := (BwM.lt9 M5.out gs e).1; have := HGX.out; omega))).trans ck5
              have c0 : w6.cell? ⟨g, 0, none⟩ = some (.slice a4 (st.length) c4) := Blk.cell M6.out.blk 0
              have c1' : w6.cell? ⟨g, 1, none⟩ = some (.int .i64 since) := Blk.cell M6.out.blk 1
              clear ck5 HO5 HL6 HSRC HROWO HO6 HG6 HAT6 T5' HGS5 M5
              have h6 : ¬ (b ≤ now' - since) := by omega
              go_wp2_with fail
              go_roundw
              case rel => first | exact ⟨i + 1, put, out ++ [], st, since, now', a4, c4, by go_num, rfl, by omega, LAW2.out, M6.out, T6.out⟩ | ((repeat apply Exists.intro); exact ⟨⟨i + 1, put, out ++ [], st, since, now', a4, c4, by go_num, rfl, by omega, LAW2.out, M6.out, T6.out⟩, by first | rfl | exact ⟨rfl, rfl⟩ | exact ⟨rfl, rfl, rfl⟩ | exact ⟨rfl, rfl, rfl, rfl⟩ | exact ⟨rfl, rfl, rfl, rfl, rfl⟩ | exact ⟨rfl, rfl, rfl, rfl, rfl, rfl⟩⟩)
              case measure => simp [intOf]; omega
          · have hk1 : (t.kind == 1) = false := beq_eq_false_iff_ne.2 hk
            clear hk
            have HP := Lib.hid (flush_any st since a1 st.length c1 _ wr M.out.rx (fun _ h => h) LAW.out.st_small (by omega))
            have B3 := Lib.hid M.out.blk
            go_wp2_with (refine wpList_load_blk rfl 24 _ rfl (g) 0 rfl [.slice a1 st.length c1, .int .i64 since] _ (Blk.range (pre := []) (post := []) B3.out rfl) Tryd.underlying24 rfl sizeB ?_)
            refine HP.out.mono ?_
            rintro e w4 ⟨a4, c4, ao, co, rfl, ho4, hl4, hb4'⟩
            have ck4 := cell_on hb4' ck
            have bR := Blk.on B3.out hb4'
            have T5 := Lib.hid (below_on hb4' T.out)
            go_upto_region 23 with (refine wpList_store_blk (T := 24) rfl 24 _ _ rfl (g) 0 [] [.slice a1 st.length c1, .int .i64 since] [] [.slice a4 0 c4, .int .i64 0] rfl rfl bR rfl rfl sizeB buf_one' ?_; intro w5 b5 U5)
            have LT8 := Lib.hid (BwM.lt8 M.out)
            have M5 : Hid (BwM w5 g put out [] 0 u8 u9 a4 c4) := (M.out.on hb4').box U5 b5 ho4 (Blk.lt B3.out) LT8.out (fun z hz => (BwM.lt9 M.out z hz).2)
            have HL5 := Lib.hid (OwnM.upd hl4 U5 (Blk.lt B3.out))
            have ck5 := (U5.cell (by have := HGX.out; omega)).trans ck4
            have hlaw2 := LAW.out.flush ha1
            have hlen2 : ¬ (a0 ≤ ((0 : Nat) : Int)) := by omega
            have LAW2 := Lib.hid hlaw2
            have M3 := M
            clear hlaw2 LAW M
            obtain ⟨So, cssO, ho5, hs5⟩ := M5.out.out_
            obtain ⟨S2, cssL, hl5⟩ := HL5.out
            have HO5 := Lib.hid (And.intro ho5 hs5)
            have HL6 := Lib.hid hl5
            have HSRC := Lib.hid (OwnE.src hl5)
            have HROWO : Hid (w5.ownsRow (g + 1) 30 13 u9 out.length cssO.flatten) := ho5.row
            have hg5 : g + 1 ≤ w5.heap.size := Blk.lt M5.out.blk
            have hpl2 : out.length + (st).length ≤ 61 := by have h1 := BwL.st_len LAW2.out; have h2 := BwL.n LAW2.out; rw [List.length_append] at h1; omega
            have T5' : Hid (Below w.heap.size w w5) := Below.trans T5.out (U5.below _ HG.out)
            have HGS5 : Hid (gs < w5.heap.size) := by show gs < _; have := HGX.out; omega
            clear ho5 hs5 hl5 HL5 b5 ho4 hl4 T5 U5 ck4
            go_upto_region 24 with (at_builtin
                                    go_loud (refine wpList_append_lie rfl _ _ _ rfl (g + 1) 30 i0 _ 13 144 Tryd.underlying22 hi0 hz0 hz1 hz2 rfl (by omega) u9 out.length cssO.flatten rfl HROWO.out ao (st).length co cssL.flatten rfl HSRC.out.1 HSRC.out.2.1 HSRC.out.2.2.1 HSRC.out.2.2.2 (by unfold maxLen; omega) (by omega) (by omega) ?_)
                                    intro v6 w6 hown6 hgrow6 hat6
                                    have HO6 := Lib.hid hown6
                                    have HG6 := Lib.hid hgrow6
                                    have HAT6 := Lib.hid hat6
                                    clear hown6 hgrow6 hat6)
            have M6 := Lib.hid (BwM.more M5.out HO5.out.1 HO5.out.2 HL6.out (Blk.lt B3.out) LT8.out (fun z hz => (BwM.lt9 M3.out z hz).2) HO6.out HG6.out HAT6.out)
            have T6 : Hid (Below w.heap.size w w6) := Below.grown T5'.out HG6.out (Nat.le_of_lt (Nat.lt_of_le_of_lt HG.out hg5)) (fun q hq => by have := (BwM.lt9 M5.out q hq).1; have := HG.out; omega)
            have ck6 := (World.cell?_of_block (a := ⟨gs, so + i * 15, none⟩) (stay_block HG6.out HGS5.out (fun e => by have := (BwM.lt9 M5.out gs e).1; have := HGX.out; omega))).trans ck5
            have c0 : w6.cell? ⟨g, 0, none⟩ = some (.slice a4 (0) c4) := Blk.cell M6.out.blk 0
            have c1' : w6.cell? ⟨g, 1, none⟩ = some (.int .i64 0) := Blk.cell M6.out.blk 1
            clear ck5 HO5 HL6 HSRC HROWO HO6 HG6 HAT6 T5' HGS5 M5
            go_wp2_with fail
            go_roundw
            case rel => first | exact ⟨i + 1, put, out ++ st, [], 0, now, a4, c4, by go_num, rfl, by omega, LAW2.out, M6.out, T6.out⟩ | ((repeat apply Exists.intro); exact ⟨⟨i + 1, put, out ++ st, [], 0, now, a4, c4, by go_num, rfl, by omega, LAW2.out, M6.out, T6.out⟩, by first | rfl | exact ⟨rfl, rfl⟩ | exact ⟨rfl, rfl, rfl⟩ | exact ⟨rfl, rfl, rfl, rfl⟩ | exact ⟨rfl, rfl, rfl, rfl, rfl⟩ | exact ⟨rfl, rfl, rfl, rfl, rfl, rfl⟩⟩)
            case measure => simp [intOf]; omega
      · have hend : ¬ ((i : Int) < (sn : Int)) ∨ ((i : Int) < (sn : Int) ∧ ¬ ((i : Int) < 60)) := by omega
        clear hlt hbel
        rcases hend with hh | ⟨hh, hh2⟩
        · have hid0 : True := trivial
          have HP := Lib.hid (flush_any st since a1 st.length c1 _ wr M.out.rx (fun _ h => h) LAW.out.st_small (by omega))
          have B3 := Lib.hid M.out.blk
          have M3 := M
          have LT8 := Lib.hid (BwM.lt8 M3.out)
          go_wp2_with (refine wpList_load_blk rfl 24 _ rfl (g) 0 rfl [.slice a1 st.length c1, .int .i64 since] _ (Blk.range (pre := []) (post := []) B3.out rfl) Tryd.underlying24 rfl sizeB ?_)
          refine HP.out.mono ?_
          rintro e w4 ⟨a4, c4, ao, co, rfl, ho4, hl4, hb4'⟩
          replace T := Lib.hid (below_on hb4' T.out)
          go_upto_region 27 with (refine wpList_store_blk (T := 24) rfl 24 _ _ rfl (w4.heap.size) 0 [] [.slice none 0 0, .int .i64 0] [] [.slice a4 0 c4, .int .i64 0] rfl rfl (Blk.new w4 _ _) rfl rfl sizeB buf_one' ?_; intro w5 b5 U5)
          have hb5 : Below w4.heap.size w4 w5 := ((Below.refl w4.heap.size w4).alloc (Nat.le_refl _) _).trans (U5.below _ (Nat.le_refl _))
          have M5 := Lib.hid ((M.out.on hb4').on hb5)
          have HL5 := Lib.hid (OwnM.on hl4 hb5)
          replace T := Lib.hid (below_on hb5 T.out)
          clear ho4 hl4 hb4' hb5 b5 U5 HP M
          obtain ⟨So, cssO, ho5, hs5⟩ := M5.out.out_
          obtain ⟨S2, cssL, hl5⟩ := HL5.out
          have HO5 := Lib.hid (And.intro ho5 hs5)
          have HL6 := Lib.hid hl5
          have HSRC := Lib.hid (OwnE.src hl5)
          have HROWO : Hid (w5.ownsRow (g + 1) 30 13 u9 out.length cssO.flatten) := ho5.row
          have hg5 : g + 1 ≤ w5.heap.size := Blk.lt M5.out.blk
          clear ho5 hs5 hl5 HL5
          go_upto_region 28 with (at_builtin
                                  go_loud (refine wpList_append_lie rfl _ _ _ rfl (g + 1) 30 i0 _ 13 144 Tryd.underlying22 hi0 hz0 hz1 hz2 rfl (by omega) u9 out.length cssO.flatten rfl HROWO.out ao st.length co cssL.flatten rfl HSRC.out.1 HSRC.out.2.1 HSRC.out.2.2.1 HSRC.out.2.2.2 (by unfold maxLen; omega) (by omega) (by omega) ?_)
                                  intro v6 w6 hown6 hgrow6 hat6
                                  have HO6 := Lib.hid hown6
                                  have HG6 := Lib.hid hgrow6
                                  have HAT6 := Lib.hid hat6
                                  clear hown6 hgrow6 hat6)
          have M6 := Lib.hid (BwM.more M5.out HO5.out.1 HO5.out.2 HL6.out (Blk.lt B3.out) LT8.out (fun z hz => (BwM.lt9 M3.out z hz).2) HO6.out HG6.out HAT6.out)
          have T6 : Hid (Below w.heap.size w w6) := Below.grown T.out HG6.out (Nat.le_of_lt (Nat.lt_of_le_of_lt HG.out hg5)) (fun q hq => by have := (BwM.lt9 M5.out q hq).1; have := HG.out; omega)
          clear HO6 HG6 HAT6 HROWO HSRC HL6 HO5 M5 T
          obtain ⟨So6, css6, h6, -⟩ := M6.out.out_
          obtain ⟨a9, c9, rfl⟩ := h6.slice
          obtain ⟨css7, h7⟩ := M6.out.put_
          obtain ⟨a8, c8, rfl⟩ := h7.slice
          have heq := LAW.out.eq
          rw [heq] at h6
          have hlen6 : (out ++ st).length = put.length := by rw [heq]
          rw [hlen6]
          have r6 : RX w6 put a9 put.length c9 := RM.mono (OwnE.rows keepsM h6) fun _ hy => hy.2
          have r7 : RX w6 put a8 put.length c8 := RM.mono (OwnE.rows keepsM h7) fun _ hy => hy.2
          have HS := Lib.hid (samemsgs_yes put a9 a8 put.length put.length c9 c8 _ _ w6 r6 r7 (fun _ h => h) (fun _ h => h) (by omega))
          clear h6 h7 heq r6 r7 hlen6 M6 M3 B3 LAW LT8
          go_wp2_with fail
          refine HS.out.mono ?_
          rintro e w7 ⟨rfl, hb7⟩
          replace T6 := Lib.hid (below_on hb7 T6.out)
          clear hb7 HS
          go_wp2_with fail
          refine (awakeb_any _).mono ?_
          rintro e w8 ⟨rfl, hb8⟩
          replace T6 := Lib.hid (below_on hb8 T6.out)
          clear hb8
          go_wp2_with fail
          go_ret
          exact ⟨rfl, T6.out⟩
        · have hid0 : True := trivial
          have HP := Lib.hid (flush_any st since a1 st.length c1 _ wr M.out.rx (fun _ h => h) LAW.out.st_small (by omega))
          have B3 := Lib.hid M.out.blk
          have M3 := M
          have LT8 := Lib.hid (BwM.lt8 M3.out)
          go_wp2_with (refine wpList_load_blk rfl 24 _ rfl (g) 0 rfl [.slice a1 st.length c1, .int .i64 since] _ (Blk.range (pre := []) (post := []) B3.out rfl) Tryd.underlying24 rfl sizeB ?_)
          refine HP.out.mono ?_
          rintro e w4 ⟨a4, c4, ao, co, rfl, ho4, hl4, hb4'⟩
          replace T := Lib.hid (below_on hb4' T.out)
          go_upto_region 27 with (refine wpList_store_blk (T := 24) rfl 24 _ _ rfl (w4.heap.size) 0 [] [.slice none 0 0, .int .i64 0] [] [.slice a4 0 c4, .int .i64 0] rfl rfl (Blk.new w4 _ _) rfl rfl sizeB buf_one' ?_; intro w5 b5 U5)
          have hb5 : Below w4.heap.size w4 w5 := ((Below.refl w4.heap.size w4).alloc (Nat.le_refl _) _).trans (U5.below _ (Nat.le_refl _))
          have M5 := Lib.hid ((M.out.on hb4').on hb5)
          have HL5 := Lib.hid (OwnM.on hl4 hb5)
          replace T := Lib.hid (below_on hb5 T.out)
          clear ho4 hl4 hb4' hb5 b5 U5 HP M
          obtain ⟨So, cssO, ho5, hs5⟩ := M5.out.out_
          obtain ⟨S2, cssL, hl5⟩ := HL5.out
          have HO5 := Lib.hid (And.intro ho5 hs5)
          have HL6 := Lib.hid hl5
          have HSRC := Lib.hid (OwnE.src hl5)
          have HROWO : Hid (w5.ownsRow (g + 1) 30 13 u9 out.length cssO.flatten) := ho5.row
          have hg5 : g + 1 ≤ w5.heap.size := Blk.lt M5.out.blk
          clear ho5 hs5 hl5 HL5
          go_upto_region 28 with (at_builtin
                                  go_loud (refine wpList_append_lie rfl _ _ _ rfl (g + 1) 30 i0 _ 13 144 Tryd.underlying22 hi0 hz0 hz1 hz2 rfl (by omega) u9 out.length cssO.flatten rfl HROWO.out ao st.length co cssL.flatten rfl HSRC.out.1 HSRC.out.2.1 HSRC.out.2.2.1 HSRC.out.2.2.2 (by unfold maxLen; omega) (by omega) (by omega) ?_)
                                  intro v6 w6 hown6 hgrow6 hat6
                                  have HO6 := Lib.hid hown6
                                  have HG6 := Lib.hid hgrow6
                                  have HAT6 := Lib.hid hat6
                                  clear hown6 hgrow6 hat6)
          have M6 := Lib.hid (BwM.more M5.out HO5.out.1 HO5.out.2 HL6.out (Blk.lt B3.out) LT8.out (fun z hz => (BwM.lt9 M3.out z hz).2) HO6.out HG6.out HAT6.out)
          have T6 : Hid (Below w.heap.size w w6) := Below.grown T.out HG6.out (Nat.le_of_lt (Nat.lt_of_le_of_lt HG.out hg5)) (fun q hq => by have := (BwM.lt9 M5.out q hq).1; have := HG.out; omega)
          clear HO6 HG6 HAT6 HROWO HSRC HL6 HO5 M5 T
          obtain ⟨So6, css6, h6, -⟩ := M6.out.out_
          obtain ⟨a9, c9, rfl⟩ := h6.slice
          obtain ⟨css7, h7⟩ := M6.out.put_
          obtain ⟨a8, c8, rfl⟩ := h7.slice
          have heq := LAW.out.eq
          rw [heq] at h6
          have hlen6 : (out ++ st).length = put.length := by rw [heq]
          rw [hlen6]
          have r6 : RX w6 put a9 put.length c9 := RM.mono (OwnE.rows keepsM h6) fun _ hy => hy.2
          have r7 : RX w6 put a8 put.length c8 := RM.mono (OwnE.rows keepsM h7) fun _ hy => hy.2
          have HS := Lib.hid (samemsgs_yes put a9 a8 put.length put.length c9 c8 _ _ w6 r6 r7 (fun _ h => h) (fun _ h => h) (by omega))
          clear h6 h7 heq r6 r7 hlen6 M6 M3 B3 LAW LT8
          go_wp2_with fail
          refine HS.out.mono ?_
          rintro e w7 ⟨rfl, hb7⟩
          replace T6 := Lib.hid (below_on hb7 T6.out)
          clear hb7 HS
          go_wp2_with fail
          refine (awakeb_any _).mono ?_
          rintro e w8 ⟨rfl, hb8⟩
          replace T6 := Lib.hid (below_on hb8 T6.out)
          clear hb8
          go_wp2_with fail
          go_ret
          exact ⟨rfl, T6.out⟩
end Go.Proofs.YtmdcfmdjbncaoaaDoor
