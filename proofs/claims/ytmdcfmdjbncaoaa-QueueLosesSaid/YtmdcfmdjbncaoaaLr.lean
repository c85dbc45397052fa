/- The reference's Late. -/
import Derived.Test.YtmdcfmdjbncaoaaLt
import Derived.Test.YtmdcfmdjbncaoaaWo
namespace Go.Proofs.Ytmdcfmdjbncaoaa
open Go.RowKit
attribute [local go_sem ↓] Go.wp_at_zero Go.wp_at_succ
attribute [local go_sem] Go.undef

/-- Two rows of copies that grow beside one another, the one in the inbox of block w + 2. -/
def LrW (w : World) (l : List MX) (r d now : Int) (vl iv : Value) (wr : World) : Prop :=
  ∃ (j kl kr : Nat) (al : Option Addr) (cl : Nat) (ar : Option Addr) (cr : Nat) (Sl Sr : Nat → Prop) (cssl cssr : List (List Value)), iv = .int .i64 j ∧ vl = .slice al kl cl ∧ j ≤ l.length ∧
    kl = ((l.take j).filter (isLate now)).length ∧ kr = ((l.take j).filter (notLate now)).length ∧
    Blk wr (w.heap.size + 2) 46 #[.slice ar kr cr, .int .i64 r, .int .i64 (d + (kl : Int))] ∧ Blk wr (w.heap.size + 1) 46 #[.slice none 0 0, .int .i64 0, .int .i64 0] ∧
    OwnE IsM 48 13 wr (w.heap.size + 3) ((l.take j).filter (isLate now)) (.slice al kl cl) Sl cssl ∧ OwnE IsM 48 13 wr (w.heap.size + 3) ((l.take j).filter (notLate now)) (.slice ar kr cr) Sr cssr ∧
    (∀ b, Sl b ∨ (Value.slice al kl cl).ownBlock = some b → (Value.slice ar kr cr).ownBlock ≠ some b) ∧ (∀ b, Sr b ∨ (Value.slice ar kr cr).ownBlock = some b → (Value.slice al kl cl).ownBlock ≠ some b) ∧ Below w.heap.size w wr

/-- Two rows are apart behind the growth of one. -/
theorem apart_grow {a a' : Option Addr} {k c k' c' g5 n5 cap5 N M : Nat} {S S' T : Nat → Prop} (h1 : ∀ b, S b ∨ (Value.slice a k c).ownBlock = some b → (Value.slice a' k' c').ownBlock ≠ some b)
    (h2 : ∀ b, S' b ∨ (Value.slice a' k' c').ownBlock = some b → (Value.slice a k c).ownBlock ≠ some b) (hN : ∀ b, S' b ∨ (Value.slice a' k' c').ownBlock = some b → b < N) (hT : ∀ b, T b → N ≤ b) (hat : (Value.slice a k c).ownBlock = some g5 ∨ g5 = M + 1) (hM : N ≤ M) :
    (∀ b, (S b ∨ T b) ∨ (Value.slice (some ⟨g5, 0, none⟩) n5 cap5).ownBlock = some b → (Value.slice a' k' c').ownBlock ≠ some b) ∧ (∀ b, S' b ∨ (Value.slice a' k' c').ownBlock = some b → (Value.slice (some ⟨g5, 0, none⟩) n5 cap5).ownBlock ≠ some b) := by
  have hg : ∀ b, S' b ∨ (Value.slice a' k' c').ownBlock = some b → g5 ≠ b := by
    rintro b hb rfl
    rcases hat with h | h
    · exact h2 g5 hb h
    · have := hN g5 hb; omega
  refine ⟨fun b hb e => ?_, fun b hb e => ?_⟩
  · rcases hb with (hb | hb) | hb
    · exact h1 b (.inl hb) e
    · have := hN b (.inr e); have := hT b hb; omega
    · have e2 : g5 = b := by simpa [Value.ownBlock] using hb
      exact hg b (.inr e) e2
  · have e2 : g5 = b := by simpa [Value.ownBlock] using e
    exact hg b hb e2

set_option maxHeartbeats 8000000 in
set_option maxRecDepth 100000 in
theorem later_any (q : QX) (now : Int) (a : Option Addr) (n c : Nat) (S : Nat → Prop) (w : World) (hrow : RM w S q.l a n c) (hS : ∀ b, S b → b < w.heap.size) (hsm : smallL q.l) (hn : n ≤ 65536)
    (hd0 : 0 ≤ q.d) (hd1 : q.d ≤ 4611686018427387904) :
    Calls Try.prog 31 #[.agg #[.slice a n c, .int .i64 q.r, .int .i64 q.d], .int .i64 now] w (LatePost w (lateQ q now)) := by
  obtain ⟨i0, hi0, hz0, hz1, hz2⟩ := info_parts infoM
  have hcl : c ≤ maxLen := hrow.2.2.1
  have hlc : n ≤ c := hrow.2.1
  obtain rfl : n = q.l.length := hrow.1
  unfold maxLen at hcl
  have HROW := Lib.hid hrow
  have HS := Lib.hid hS
  have HSM := Lib.hid hsm
  clear hrow hS hsm
  go_enter Try.func31, Try.ntmps31
  go_wp2_with fail
  go_loopw [7, 18] (LrW w q.l q.r q.d now) (fun _ i _ => q.l.length - (intOf i).toNat)
  case atStart =>
    refine ⟨0, 0, 0, none, 0, none, 0, _, _, _, _, rfl, rfl, Nat.zero_le _, rfl, rfl, ?_, ?_, OwnE.nil _ _, OwnE.nil _ _, fun _ h => h.elim (fun h => h.elim) (fun h => by simp [Value.ownBlock] at h), fun _ h => h.elim (fun h => h.elim) (fun h => by simp [Value.ownBlock] at h), by go_grown⟩
    · have e : q.d + ((0 : Nat) : Int) = q.d := by omega
      rw [e]
      exact Blk.new' _ _ _ (by simp)
    · exact (Blk.new' _ _ _ (by simp)).alloc _
  case round =>
    obtain ⟨j, kl, kr, al, cl, ar, cr, Sl, Sr, cssl, cssr, rfl, rfl, hj, hkl, hkr, hBO, hBR, hol, hor, hal, har, hbel⟩ := hrel
    have hsz := hbel.size
    have hkl1 : kl ≤ j := by rw [hkl]; exact filter_le _ hj
    have hkr1 : kr ≤ j := by rw [hkr]; exact filter_le _ hj
    have hszO := hBO.lt
    have HOL := Lib.hid hol
    have HOR := Lib.hid hor
    have HKL := Lib.hid hkl
    have HKR := Lib.hid hkr
    have HAL := Lib.hid hal
    have HAR := Lib.hid har
    have HBO := Lib.hid hBO
    have HBR := Lib.hid hBR
    have HLTL : Hid (∀ b, Sl b ∨ (Value.slice al kl cl).ownBlock = some b → b < wr.heap.size) := fun b hb => by
      rcases hb with hb | hb
      · exact (hol.far b hb).2.1
      · exact (hol.far_lt b hb).2
    have HLTR : Hid (∀ b, Sr b ∨ (Value.slice ar kr cr).ownBlock = some b → b < wr.heap.size) := fun b hb => by
      rcases hb with hb | hb
      · exact (hor.far b hb).2.1
      · exact (hor.far_lt b hb).2
    clear hol hor hkl hkr hal har hBO hBR
    by_cases hlt : j < q.l.length
    · obtain ⟨g, o, x, xs, rfl, hSg, hx, hm, hxl, hr⟩ := HROW.out.get hlt
      have hr2 : wr.rangeAt g (o + j * 13) xs := rangeAt_keep hr fun i => hbel.cell (p := ⟨g, i, none⟩) (HS.out g hSg)
      have hm' := hm
      obtain ⟨kx, ix, bx, sx, ax, nx, cx, rfl, hD, ht, hrr⟩ := hm
      have HX := Lib.hid hx
      have HM := Lib.hid hm'
      clear hr hx hxl hD ht hrr hm'
      go_upto_region 6 with (first
        | (refine wpList_load_blk rfl 48 _ rfl g (o + j * 13) rfl [.int .i64 x.id, .string x.topic, .int .i64 kx, .int .i64 ix, .int .u64 bx, .string sx, .slice ax nx cx, .int .i64 x.tat, .int .i64 x.til, .string x.reply, .int .i64 x.corr, .int .i64 x.prio, .int .i64 x.hops] _ hr2 Try.underlying48 rfl sizeM ?_)
        | (refine wpList_store_blk (T := 48) rfl 48 _ _ rfl (wr.heap.size) 0 [] [.int .i64 0, .string ByteArray.empty, .int .i64 0, .int .i64 0, .int .u64 0, .string ByteArray.empty, .slice none 0 0, .int .i64 0, .int .i64 0, .string ByteArray.empty, .int .i64 0, .int .i64 0, .int .i64 0] [] [.int .i64 x.id, .string x.topic, .int .i64 kx, .int .i64 ix, .int .u64 bx, .string sx, .slice ax nx cx, .int .i64 x.tat, .int .i64 x.til, .string x.reply, .int .i64 x.corr, .int .i64 x.prio, .int .i64 x.hops] rfl rfl (Blk.new wr _ _) rfl rfl sizeM (by simp [Value.oneCell']) ?_; intro w1 BX1 U1))
      have hb1 : Below wr.heap.size wr w1 := ((Below.refl wr.heap.size wr).alloc (Nat.le_refl _) _).trans (U1.below _ (Nat.le_refl _))
      have hs1 : w1.heap.size = wr.heap.size + 1 := by rw [U1.size]; simp
      have hB1 : Below w.heap.size w w1 := below_via hbel hb1 hsz
      have HMX : Hid (IsM w1 S x [.int .i64 x.id, .string x.topic, .int .i64 kx, .int .i64 ix, .int .u64 bx, .string sx, .slice ax nx cx, .int .i64 x.tat, .int .i64 x.til, .string x.reply, .int .i64 x.corr, .int .i64 x.prio, .int .i64 x.hops]) := HM.out.under hB1 HS.out
      have HSX : Hid (∀ z, S z → z < w1.heap.size) := fun z hz => Nat.lt_of_lt_of_le (HS.out z hz) hB1.size
      have HZX := Lib.hid (HSM.out x (List.mem_of_getElem? HX.out))
      have HB1 := Lib.hid hb1
      have HBB1 := Lib.hid hB1
      have HBX := Lib.hid BX1
      obtain ⟨x0, x1, x2, x3, x4, x5, x6, x7, x8, x9, x10, x11, x12⟩ := Blk.cells13 BX1
      have BO1 := HBO.out.under hb1 hszO
      have hbs : w.heap.size + 3 ≤ w1.heap.size := by omega
      have HS1 := Lib.hid hs1
      have HBO1 := Lib.hid BO1
      clear U1 hb1 hB1 hr2 BO1 hs1
      by_cases ht0 : x.til = 0
      · have hne : (x.til != 0) = false := by rw [ht0]; rfl
        have hlate : isLate now x = false := by simp [isLate, ht0]
        have HNE := Lib.hid hlate
        clear hlate ht0
        go_upto_region 9 with fail
        have HC := Lib.hid (copymsg_any x w1.drew S _ HMX.out.drew HSX.out HZX.out)
        have c4 := Blk.cell HBO1.out 0
        have f4 := Blk.free HBO1.out 0
        simp only [List.getElem?_toArray, List.getElem?_cons_zero] at c4
        have hleO : w.heap.size + 2 < w1.drew.heap.size := Nat.lt_of_lt_of_le hszO HB1.out.size
        have hneO : (Value.slice ar kr cr).ownBlock ≠ some (w.heap.size + 2) := fun h => by have := (HOR.out.far_lt _ h).1; omega
        have hbaseW : w.heap.size + 3 ≤ w1.drew.heap.size := hleO
        have HROW1 : Hid (w1.drew.ownsRow (w.heap.size + 3) 48 13 (.slice ar kr cr) kr cssr.flatten) := by
          have h := (HOR.out.below keepsM (HB1.out.drew) (Nat.le_refl _)).row
          rwa [← HKR.out] at h
        clear BX1 HBO1
        go_region_law (first
            | (go_simp; go_at_call 38; refine HC.out.mono ?_; rintro e w2 ⟨k1, i1, b1, s1, a1, n1, c1, rfl, hm2, hb2⟩; have HM2 := Lib.hid hm2; clear hm2; have hle5 := Nat.lt_of_lt_of_le hleO hb2.size; have c6 := cell_over hb2 hleO c4; have f6 := free_over hb2 hleO f4)
            | (refine step_append_lies _ (by rfl) _ _ _ (by rfl) (w.heap.size + 3) 48 i0 _ 13 144 Try.underlying44 hi0 hz0 hz1 hz2 rfl (by omega) (.slice ar kr cr) kr cssr.flatten (by rfl) ((own_below HROW1.out hb2).alloc _)
                ⟨w2.heap.size, 0, none⟩ 1 1 [.int .i64 x.id, .string x.topic, .int .i64 k1, .int .i64 i1, .int .u64 b1, .string s1, .slice a1 n1 c1, .int .i64 x.tat, .int .i64 x.til, .string x.reply, .int .i64 x.corr, .int .i64 x.prio, .int .i64 x.hops] (by rfl) (by rfl)
                (World.news_of_block (cs := #[.int .i64 x.id, .string x.topic, .int .i64 k1, .int .i64 i1, .int .u64 b1, .string s1, .slice a1 n1 c1, .int .i64 x.tat, .int .i64 x.til, .string x.reply, .int .i64 x.corr, .int .i64 x.prio, .int .i64 x.hops]) (t := 48) (fr := (0, 0)) (heap_alloc_new w2 _)) HM2.out.one
                (by omega) (by unfold maxLen; omega) (by omega) (by have := hb2.size; have := hbaseW; simp; omega) (w2.heap.size + 1) (by simp) ?_
               intro g5 cap5 w5 hown5 hgrow5 hat5 hlt5
               have HO5 := Lib.hid hown5
               have HAT := Lib.hid hat5
               clear hown5 hat5
               have c7 := (far_cell hgrow5 hle5 hneO).trans c6
               have f7 := (far_free hgrow5 hle5 hneO).trans f6))
        all_goals
          obtain ⟨hR, hfar, hs5, hbl⟩ := OwnE.grow keepsM HOR.out HB1.out.drew hb2 (by omega) HM2.out rfl HO5.out (by rw [← HKR.out]) hgrow5 HAT.out
          have hs1 := HS1.out
          replace hR := late_row HX.out (by simp [notLate, HNE.out]) hR
          have hZ := OwnE.keep keepsM HOL.out (Nat.le_of_lt hs5) (fun z hz => hfar z (HLTL.out z hz) (HAL.out z hz))
          rw [← late_same HX.out HNE.out] at hZ
          have hk5 : kr + 1 = ((q.l.take (j + 1)).filter (notLate now)).length := by rw [late_more HX.out (by simp [notLate, HNE.out]), ← HKR.out]
          have hk6 : kl = ((q.l.take (j + 1)).filter (isLate now)).length := by rw [late_same HX.out HNE.out, ← HKL.out]
          have hap := apart_grow (n5 := kr + 1) (cap5 := cap5) (T := Btw w1.heap.size w2.heap.size) HAR.out HAL.out HLTL.out (fun z hz => by have := hz.1; omega) HAT.out (by have := hb2.size; have e : w1.drew.heap.size = w1.heap.size := rfl; omega)
          have hR2 := OwnE.set keepsM hR (p := ⟨w.heap.size + 2, 0, none⟩) (u := .slice (some ⟨g5, 0, none⟩) (kr + 1) cap5) (fun h => absurd (hR.far _ h).1 (by show ¬ (w.heap.size + 3 ≤ w.heap.size + 2); omega)) (fun h => absurd (hR.far_lt _ h).1 (by show ¬ (w.heap.size + 3 ≤ w.heap.size + 2); omega))
          have hZ2 := OwnE.set keepsM hZ (p := ⟨w.heap.size + 2, 0, none⟩) (u := .slice (some ⟨g5, 0, none⟩) (kr + 1) cap5) (fun h => absurd (hZ.far _ h).1 (by show ¬ (w.heap.size + 3 ≤ w.heap.size + 2); omega)) (fun h => absurd (hZ.far_lt _ h).1 (by show ¬ (w.heap.size + 3 ≤ w.heap.size + 2); omega))
          have hE2 : Blk (w5.setCell ⟨w.heap.size + 2, 0, none⟩ (.slice (some ⟨g5, 0, none⟩) (kr + 1) cap5)) (w.heap.size + 2) 46 #[.slice (some ⟨g5, 0, none⟩) (kr + 1) cap5, .int .i64 q.r, .int .i64 (q.d + (kl : Int))] := Blk.set (i := 0) ((hfar _ hszO hneO).trans HBO.out) _
          have hE1 : Blk (w5.setCell ⟨w.heap.size + 2, 0, none⟩ (.slice (some ⟨g5, 0, none⟩) (kr + 1) cap5)) (w.heap.size + 1) 46 #[.slice none 0 0, .int .i64 0, .int .i64 0] := Blk.far (p := ⟨w.heap.size + 2, 0, none⟩) ((hfar _ HBR.out.lt (fun h => by have := (HOR.out.far_lt _ h).1; omega)).trans HBR.out) (by simp) _
          have hB5 : Below w.heap.size w (w5.setCell ⟨w.heap.size + 2, 0, none⟩ (.slice (some ⟨g5, 0, none⟩) (kr + 1) cap5)) := (hbel.trans (hbl w.heap.size (by omega))).setCell (by show w.heap.size ≤ w.heap.size + 2; omega) _
          have HR := Lib.hid hR2
          have HZ := Lib.hid hZ2
          have HF2 := Lib.hid hE2
          have HF1 := Lib.hid hE1
          have HK5 := Lib.hid hk5
          have HK6 := Lib.hid hk6
          have HAP := Lib.hid hap
          have HBN := Lib.hid hB5
          clear hR hR2 hZ hZ2 hE2 hE1 hfar hbl hk5 hk6 hap hB5 c4 f4 c6 f6 hgrow5
          go_wp2_with fail
          go_roundw
          case rel => first | exact ⟨j + 1, kl, kr + 1, al, cl, _, _, _, _, _, _, by go_num, rfl, by omega, HK6.out, HK5.out, HF2.out, HF1.out, HZ.out, HR.out, HAP.out.2, HAP.out.1, HBN.out⟩ | ((repeat apply Exists.intro); exact ⟨⟨j + 1, kl, kr + 1, al, cl, _, _, _, _, _, _, by go_num, rfl, by omega, HK6.out, HK5.out, HF2.out, HF1.out, HZ.out, HR.out, HAP.out.2, HAP.out.1, HBN.out⟩, by first | rfl | exact ⟨rfl, rfl⟩ | exact ⟨rfl, rfl, rfl⟩⟩)
          case measure => simp [intOf]; omega
      · have hne : (x.til != 0) = true := by rw [bne_iff_ne]; exact ht0
        by_cases ht1 : x.til < now
        · have hlate : isLate now x = true := by simp [isLate, ht0, ht1]
          have HNE := Lib.hid hlate
          clear hlate
          have HC := Lib.hid (copymsg_any x w1 S _ HMX.out HSX.out HZX.out)
          have hrl : w1.ownsRow (w.heap.size + 3) 48 13 (.slice al kl cl) kl cssl.flatten := by have h := (HOL.out.below keepsM HB1.out (Nat.le_refl _)).row; rwa [← HKL.out] at h
          have HRL := Lib.hid hrl
          clear hrl
          go_wp2_with (refine wpList_load_blk rfl 48 _ rfl (wr.heap.size) 0 rfl [.int .i64 x.id, .string x.topic, .int .i64 kx, .int .i64 ix, .int .u64 bx, .string sx, .slice ax nx cx, .int .i64 x.tat, .int .i64 x.til, .string x.reply, .int .i64 x.corr, .int .i64 x.prio, .int .i64 x.hops] _ (Blk.range (pre := []) (post := []) BX1 rfl) Try.underlying48 rfl sizeM ?_)
          refine HC.out.mono ?_
          rintro e w2 ⟨k1, i1, b1, s1, a1, n1, c1', rfl, hm2, hb2⟩
          have HM2 := Lib.hid hm2
          have hs2 := hb2.size
          have HRL2 := Lib.hid (own_below HRL.out hb2)
          clear hm2 x0 x1 x2 x3 x4 x5 x6 x7 x8 x9 x10 x11 x12 HRL HC BX1
          go_upto_region 8 with (at_builtin
                                 go_loud (refine wpList_append_lies _ rfl _ _ _ rfl (w.heap.size + 3) 48 i0 _ 13 144 Try.underlying44 hi0 hz0 hz1 hz2 rfl (by omega) _ kl cssl.flatten rfl (HRL2.out.alloc _)
                                                   ⟨w2.heap.size, 0, none⟩ 1 1 [.int .i64 x.id, .string x.topic, .int .i64 k1, .int .i64 i1, .int .u64 b1, .string s1, .slice a1 n1 c1', .int .i64 x.tat, .int .i64 x.til, .string x.reply, .int .i64 x.corr, .int .i64 x.prio, .int .i64 x.hops] rfl rfl
                                                   (World.news_of_block (cs := #[.int .i64 x.id, .string x.topic, .int .i64 k1, .int .i64 i1, .int .u64 b1, .string s1, .slice a1 n1 c1', .int .i64 x.tat, .int .i64 x.til, .string x.reply, .int .i64 x.corr, .int .i64 x.prio, .int .i64 x.hops]) (t := 48) (fr := (0, 0)) (heap_alloc_new w2 _)) HM2.out.one (by omega) (by unfold maxLen; omega) (by omega) (by simp; omega) (w2.heap.size + 1) (by simp) ?_)
                                 intro g5 cap5 w5 hown5 hgrow5 hat5 hlt5)
          have hs1 := HS1.out
          obtain ⟨hR, hfar, hs5, hbl⟩ := OwnE.grow keepsM HOL.out HB1.out hb2 (by omega) HM2.out rfl hown5 (by rw [← HKL.out]) hgrow5 hat5
          replace hR := late_row HX.out HNE.out hR
          have hZ := OwnE.keep keepsM HOR.out (Nat.le_of_lt hs5) (fun z hz => hfar z (HLTR.out z hz) (HAR.out z hz))
          rw [← late_same HX.out (by simp [notLate, HNE.out])] at hZ
          have hk5 : kl + 1 = ((q.l.take (j + 1)).filter (isLate now)).length := by rw [late_more HX.out HNE.out, ← HKL.out]
          have hk6 : kr = ((q.l.take (j + 1)).filter (notLate now)).length := by rw [late_same HX.out (by simp [notLate, HNE.out]), ← HKR.out]
          have hap := apart_grow (n5 := kl + 1) (cap5 := cap5) (T := Btw w1.heap.size w2.heap.size) HAL.out HAR.out HLTR.out (fun z hz => by have := hz.1; omega) hat5 (by have := hb2.size; have e : w1.drew.heap.size = w1.heap.size := rfl; omega)
          have HE2 : Hid (Blk w5 (w.heap.size + 2) 46 #[.slice ar kr cr, .int .i64 q.r, .int .i64 (q.d + (kl : Int))]) := (hfar _ hszO (fun h => by have := (HOL.out.far_lt _ h).1; omega)).trans HBO.out
          have HE1 : Hid (Blk w5 (w.heap.size + 1) 46 #[.slice none 0 0, .int .i64 0, .int .i64 0]) := (hfar _ HBR.out.lt (fun h => by have := (HOL.out.far_lt _ h).1; omega)).trans HBR.out
          have c2o := Blk.cell HE2.out 2
          have f2o := Blk.free HE2.out 2
          simp only [List.getElem?_toArray, List.getElem?_cons_zero, List.getElem?_cons_succ] at c2o
          have hR2 := OwnE.set keepsM hR (p := ⟨w.heap.size + 2, 2, none⟩) (u := .int .i64 (q.d + (kl : Int) + 1)) (fun h => absurd (hR.far _ h).1 (by show ¬ (w.heap.size + 3 ≤ w.heap.size + 2); omega)) (fun h => absurd (hR.far_lt _ h).1 (by show ¬ (w.heap.size + 3 ≤ w.heap.size + 2); omega))
          have hZ2 := OwnE.set keepsM hZ (p := ⟨w.heap.size + 2, 2, none⟩) (u := .int .i64 (q.d + (kl : Int) + 1)) (fun h => absurd (hZ.far _ h).1 (by show ¬ (w.heap.size + 3 ≤ w.heap.size + 2); omega)) (fun h => absurd (hZ.far_lt _ h).1 (by show ¬ (w.heap.size + 3 ≤ w.heap.size + 2); omega))
          have hdd : q.d + ((kl + 1 : Nat) : Int) = q.d + (kl : Int) + 1 := by omega
          have hE2 : Blk (w5.setCell ⟨w.heap.size + 2, 2, none⟩ (.int .i64 (q.d + (kl : Int) + 1))) (w.heap.size + 2) 46 #[.slice ar kr cr, .int .i64 q.r, .int .i64 (q.d + ((kl + 1 : Nat) : Int))] := by rw [hdd]; exact Blk.set HE2.out 2 _
          have hE1 := Blk.far (p := ⟨w.heap.size + 2, 2, none⟩) HE1.out (by simp) (.int .i64 (q.d + (kl : Int) + 1))
          have hB5 : Below w.heap.size w (w5.setCell ⟨w.heap.size + 2, 2, none⟩ (.int .i64 (q.d + (kl : Int) + 1))) := (hbel.trans (hbl w.heap.size (by omega))).setCell (by show w.heap.size ≤ w.heap.size + 2; omega) _
          have HR := Lib.hid hR2
          have HZ := Lib.hid hZ2
          have HF2 := Lib.hid hE2
          have HF1 := Lib.hid hE1
          have HK5 := Lib.hid hk5
          have HK6 := Lib.hid hk6
          have HAP := Lib.hid hap
          have HBN := Lib.hid hB5
          clear hR hR2 hZ hZ2 hE2 hE1 hfar hbl hown5 hgrow5 hat5 hk5 hk6 hap hB5 HE1 HE2 hb2
          go_wp2_with fail
          go_roundw
          case rel => first | exact ⟨j + 1, kl + 1, kr, _, _, ar, cr, _, _, _, _, by go_num, rfl, by omega, HK5.out, HK6.out, HF2.out, HF1.out, HR.out, HZ.out, HAP.out.1, HAP.out.2, HBN.out⟩ | ((repeat apply Exists.intro); exact ⟨⟨j + 1, kl + 1, kr, _, _, ar, cr, _, _, _, _, by go_num, rfl, by omega, HK5.out, HK6.out, HF2.out, HF1.out, HR.out, HZ.out, HAP.out.1, HAP.out.2, HBN.out⟩, by first | rfl | exact ⟨rfl, rfl⟩ | exact ⟨rfl, rfl, rfl⟩⟩)
          case measure => simp [intOf]; omega
        · have hlate : isLate now x = false := by simp [isLate, ht1]
          have HNE := Lib.hid hlate
          clear hlate
          go_upto_region 9 with fail
          have HC := Lib.hid (copymsg_any x w1.drew S _ HMX.out.drew HSX.out HZX.out)
          have c4 := Blk.cell HBO1.out 0
          have f4 := Blk.free HBO1.out 0
          simp only [List.getElem?_toArray, List.getElem?_cons_zero] at c4
          have hleO : w.heap.size + 2 < w1.drew.heap.size := Nat.lt_of_lt_of_le hszO HB1.out.size
          have hneO : (Value.slice ar kr cr).ownBlock ≠ some (w.heap.size + 2) := fun h => by have := (HOR.out.far_lt _ h).1; omega
          have hbaseW : w.heap.size + 3 ≤ w1.drew.heap.size := hleO
          have HROW1 : Hid (w1.drew.ownsRow (w.heap.size + 3) 48 13 (.slice ar kr cr) kr cssr.flatten) := by
            have h := (HOR.out.below keepsM (HB1.out.drew) (Nat.le_refl _)).row
            rwa [← HKR.out] at h
          clear BX1 HBO1
          go_region_law (first
              | (go_simp; go_at_call 38; refine HC.out.mono ?_; rintro e w2 ⟨k1, i1, b1, s1, a1, n1, c1, rfl, hm2, hb2⟩; have HM2 := Lib.hid hm2; clear hm2; have hle5 := Nat.lt_of_lt_of_le hleO hb2.size; have c6 := cell_over hb2 hleO c4; have f6 := free_over hb2 hleO f4)
              | (refine step_append_lies _ (by rfl) _ _ _ (by rfl) (w.heap.size + 3) 48 i0 _ 13 144 Try.underlying44 hi0 hz0 hz1 hz2 rfl (by omega) (.slice ar kr cr) kr cssr.flatten (by rfl) ((own_below HROW1.out hb2).alloc _)
                  ⟨w2.heap.size, 0, none⟩ 1 1 [.int .i64 x.id, .string x.topic, .int .i64 k1, .int .i64 i1, .int .u64 b1, .string s1, .slice a1 n1 c1, .int .i64 x.tat, .int .i64 x.til, .string x.reply, .int .i64 x.corr, .int .i64 x.prio, .int .i64 x.hops] (by rfl) (by rfl)
                  (World.news_of_block (cs := #[.int .i64 x.id, .string x.topic, .int .i64 k1, .int .i64 i1, .int .u64 b1, .string s1, .slice a1 n1 c1, .int .i64 x.tat, .int .i64 x.til, .string x.reply, .int .i64 x.corr, .int .i64 x.prio, .int .i64 x.hops]) (t := 48) (fr := (0, 0)) (heap_alloc_new w2 _)) HM2.out.one
                  (by omega) (by unfold maxLen; omega) (by omega) (by have := hb2.size; have := hbaseW; simp; omega) (w2.heap.size + 1) (by simp) ?_
                 intro g5 cap5 w5 hown5 hgrow5 hat5 hlt5
                 have HO5 := Lib.hid hown5
                 have HAT := Lib.hid hat5
                 clear hown5 hat5
                 have c7 := (far_cell hgrow5 hle5 hneO).trans c6
                 have f7 := (far_free hgrow5 hle5 hneO).trans f6))
          all_goals
            obtain ⟨hR, hfar, hs5, hbl⟩ := OwnE.grow keepsM HOR.out HB1.out.drew hb2 (by omega) HM2.out rfl HO5.out (by rw [← HKR.out]) hgrow5 HAT.out
            have hs1 := HS1.out
            replace hR := late_row HX.out (by simp [notLate, HNE.out]) hR
            have hZ := OwnE.keep keepsM HOL.out (Nat.le_of_lt hs5) (fun z hz => hfar z (HLTL.out z hz) (HAL.out z hz))
            rw [← late_same HX.out HNE.out] at hZ
            have hk5 : kr + 1 = ((q.l.take (j + 1)).filter (notLate now)).length := by rw [late_more HX.out (by simp [notLate, HNE.out]), ← HKR.out]
            have hk6 : kl = ((q.l.take (j + 1)).filter (isLate now)).length := by rw [late_same HX.out HNE.out, ← HKL.out]
            have hap := apart_grow (n5 := kr + 1) (cap5 := cap5) (T := Btw w1.heap.size w2.heap.size) HAR.out HAL.out HLTL.out (fun z hz => by have := hz.1; omega) HAT.out (by have := hb2.size; have e : w1.drew.heap.size = w1.heap.size := rfl; omega)
            have hR2 := OwnE.set keepsM hR (p := ⟨w.heap.size + 2, 0, none⟩) (u := .slice (some ⟨g5, 0, none⟩) (kr + 1) cap5) (fun h => absurd (hR.far _ h).1 (by show ¬ (w.heap.size + 3 ≤ w.heap.size + 2); omega)) (fun h => absurd (hR.far_lt _ h).1 (by show ¬ (w.heap.size + 3 ≤ w.heap.size + 2); omega))
            have hZ2 := OwnE.set keepsM hZ (p := ⟨w.heap.size + 2, 0, none⟩) (u := .slice (some ⟨g5, 0, none⟩) (kr + 1) cap5) (fun h => absurd (hZ.far _ h).1 (by show ¬ (w.heap.size + 3 ≤ w.heap.size + 2); omega)) (fun h => absurd (hZ.far_lt _ h).1 (by show ¬ (w.heap.size + 3 ≤ w.heap.size + 2); omega))
            have hE2 : Blk (w5.setCell ⟨w.heap.size + 2, 0, none⟩ (.slice (some ⟨g5, 0, none⟩) (kr + 1) cap5)) (w.heap.size + 2) 46 #[.slice (some ⟨g5, 0, none⟩) (kr + 1) cap5, .int .i64 q.r, .int .i64 (q.d + (kl : Int))] := Blk.set (i := 0) ((hfar _ hszO hneO).trans HBO.out) _
            have hE1 : Blk (w5.setCell ⟨w.heap.size + 2, 0, none⟩ (.slice (some ⟨g5, 0, none⟩) (kr + 1) cap5)) (w.heap.size + 1) 46 #[.slice none 0 0, .int .i64 0, .int .i64 0] := Blk.far (p := ⟨w.heap.size + 2, 0, none⟩) ((hfar _ HBR.out.lt (fun h => by have := (HOR.out.far_lt _ h).1; omega)).trans HBR.out) (by simp) _
            have hB5 : Below w.heap.size w (w5.setCell ⟨w.heap.size + 2, 0, none⟩ (.slice (some ⟨g5, 0, none⟩) (kr + 1) cap5)) := (hbel.trans (hbl w.heap.size (by omega))).setCell (by show w.heap.size ≤ w.heap.size + 2; omega) _
            have HR := Lib.hid hR2
            have HZ := Lib.hid hZ2
            have HF2 := Lib.hid hE2
            have HF1 := Lib.hid hE1
            have HK5 := Lib.hid hk5
            have HK6 := Lib.hid hk6
            have HAP := Lib.hid hap
            have HBN := Lib.hid hB5
            clear hR hR2 hZ hZ2 hE2 hE1 hfar hbl hk5 hk6 hap hB5 c4 f4 c6 f6 hgrow5
            go_wp2_with fail
            go_roundw
            case rel => first | exact ⟨j + 1, kl, kr + 1, al, cl, _, _, _, _, _, _, by go_num, rfl, by omega, HK6.out, HK5.out, HF2.out, HF1.out, HZ.out, HR.out, HAP.out.2, HAP.out.1, HBN.out⟩ | ((repeat apply Exists.intro); exact ⟨⟨j + 1, kl, kr + 1, al, cl, _, _, _, _, _, _, by go_num, rfl, by omega, HK6.out, HK5.out, HF2.out, HF1.out, HZ.out, HR.out, HAP.out.2, HAP.out.1, HBN.out⟩, by first | rfl | exact ⟨rfl, rfl⟩ | exact ⟨rfl, rfl, rfl⟩⟩)
            case measure => simp [intOf]; omega
    · obtain rfl : j = q.l.length := by omega
      have HBL := Lib.hid hbel
      have BO := HBO.out
      have BR := HBR.out
      clear hbel
      go_wp2_with (first
        | (refine wpList_load_blk rfl 46 _ rfl (w.heap.size + 2) 0 rfl [.slice ar kr cr, .int .i64 q.r, .int .i64 (q.d + (kl : Int))] _ (Blk.range (pre := []) (post := []) BO rfl) Try.underlying46 rfl sizeI ?_)
        | (refine wpList_store_blk (T := 46) rfl 46 _ _ rfl (w.heap.size + 1) 0 [] [.slice none 0 0, .int .i64 0, .int .i64 0] [] [.slice ar kr cr, .int .i64 q.r, .int .i64 (q.d + (kl : Int))] rfl rfl BR rfl rfl sizeI inb_one ?_; intro w7 r2 U5))
      refine bodyPost_ret (res_ct rfl rfl (load_blk w7 (w.heap.size + 1) 46 [.slice ar kr cr, .int .i64 q.r, .int .i64 (q.d + (kl : Int))] _ r2 Try.underlying46 rfl sizeI) rfl) rfl ?_
      have hs7 : w7.heap.size = wr.heap.size := U5.size
      have hfar : ∀ x, w.heap.size + 3 ≤ x → w7.heap[x]? = wr.heap[x]? := fun x hx => U5.far x (by omega)
      have hol := HOL.out
      have hor := HOR.out
      have hkl := HKL.out
      rw [List.take_length] at hol hor hkl
      refine ⟨ar, kr, cr, al, kl, cl, ?_, rows_end hor (by omega) hfar (by omega), rows_end hol (by omega) hfar (by omega), HBL.out.trans (U5.below _ (by omega))⟩
      show _ = Ending.returned (.tuple #[.agg #[.slice ar kr cr, .int .i64 q.r, .int .i64 (q.d + ((q.l.filter (isLate now)).length : Int))], .slice al kl cl])
      rw [← hkl]
      rfl
end Go.Proofs.Ytmdcfmdjbncaoaa
