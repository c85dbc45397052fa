/- Late. -/
import Derived.Test.YtmdcfmdjbncaoaaTk
namespace Go.Proofs.Ytmdcfmdjbncaoaa
open Go.RowKit
attribute [local go_sem ↓] Go.wp_at_zero Go.wp_at_succ
attribute [local go_sem] Go.undef

def LatePost (w : World) (x : QX × List MX) (e : Ending) (w' : World) : Prop :=
  ∃ a n c al nl cl, e = .returned (.tuple #[.agg #[.slice a n c, .int .i64 x.1.r, .int .i64 x.1.d], .slice al nl cl]) ∧
    RM w' (Btw w.heap.size w'.heap.size) x.1.l a n c ∧ RM w' (Btw w.heap.size w'.heap.size) x.2 al nl cl ∧ Below w.heap.size w w'
theorem filter_step {l : List MX} {j : Nat} {x : MX} (p : MX → Bool) (h : l[j]? = some x) : (l.take (j + 1)).filter p = (l.take j).filter p ++ (if p x = true then [x] else []) := by
  rw [← take_snoc h, List.filter_append]
  cases hp : p x <;> simp [hp]
theorem filter_le {l : List MX} {j : Nat} (p : MX → Bool) (hj : j ≤ l.length) : ((l.take j).filter p).length ≤ j := Nat.le_trans (List.length_filter_le _ _) (by rw [List.length_take]; omega)
def notLate (now : Int) (m : MX) : Bool := !isLate now m
theorem late_row {p : MX → Bool} {B j : Nat} {l : List MX} {css : List (List Value)} {x : MX} {cs : List Value} {w5 : World} {v5 : Value} {S5 : Nat → Prop} (hx : l[j]? = some x) (hp : p x = true)
    (h : OwnE IsM 48 13 w5 B ((l.take j).filter p ++ [x]) v5 S5 (css ++ [cs])) : OwnE IsM 48 13 w5 B ((l.take (j + 1)).filter p) v5 S5 (css ++ [cs]) := by
  rw [filter_step p hx, if_pos hp]; exact h
theorem late_same {p : MX → Bool} {j : Nat} {l : List MX} {x : MX} (hx : l[j]? = some x) (hp : p x = false) : (l.take (j + 1)).filter p = (l.take j).filter p := by
  rw [filter_step p hx, hp]; simp
theorem late_more {p : MX → Bool} {j : Nat} {l : List MX} {x : MX} (hx : l[j]? = some x) (hp : p x = true) : ((l.take (j + 1)).filter p).length = ((l.take j).filter p).length + 1 := by
  rw [filter_step p hx, if_pos hp]; simp

/-- Two rows that grow beside one another; their messages lie in blocks from B on, below C. -/
def LtW (w4 : World) (B : Nat) (l : List MX) (now : Int) (vl vr iv : Value) (wr : World) : Prop :=
  ∃ (j kl kr : Nat) (al : Option Addr) (cl : Nat) (ar : Option Addr) (cr : Nat) (Sl Sr : Nat → Prop) (cssl cssr : List (List Value)), iv = .int .i64 j ∧ vl = .slice al kl cl ∧ vr = .slice ar kr cr ∧ j ≤ l.length ∧
    kl = ((l.take j).filter (isLate now)).length ∧ kr = ((l.take j).filter (notLate now)).length ∧
    OwnE IsM 48 13 wr B ((l.take j).filter (isLate now)) (.slice al kl cl) Sl cssl ∧ OwnE IsM 48 13 wr B ((l.take j).filter (notLate now)) (.slice ar kr cr) Sr cssr ∧
    (∀ b, Sl b → Btw B w4.heap.size b) ∧ (∀ b, Sr b → Btw B w4.heap.size b) ∧
    (∀ b, (Value.slice al kl cl).ownBlock = some b → w4.heap.size ≤ b ∧ (Value.slice ar kr cr).ownBlock ≠ some b) ∧ (∀ b, (Value.slice ar kr cr).ownBlock = some b → w4.heap.size ≤ b) ∧ Below w4.heap.size w4 wr

set_option maxHeartbeats 8000000 in
set_option maxRecDepth 100000 in
theorem latep_any (q : QX) (now : Int) (a : Option Addr) (n c : Nat) (S : Nat → Prop) (w : World) (hrow : RM w S q.l a n c) (hS : ∀ b, S b → b < w.heap.size) (hsm : smallL q.l) (hn : n ≤ 65536)
    (hd0 : 0 ≤ q.d) (hd1 : q.d ≤ 4611686018427387904) :
    Calls Try.prog 30 #[.agg #[.slice a n c, .int .i64 q.r, .int .i64 q.d], .int .i64 now] w (LatePost w (lateQ q now)) := by
  obtain ⟨i0, hi0, hz0, hz1, hz2⟩ := info_parts infoM
  obtain rfl : n = q.l.length := hrow.1
  obtain ⟨W, hWd⟩ : ∃ W, W = (w.alloc (.cells #[.slice a q.l.length c, .int .i64 q.r, .int .i64 q.d] 46)).alloc (.cells #[.slice none 0 0, .int .i64 0, .int .i64 0] 46) := ⟨_, rfl⟩
  have hW : Below w.heap.size w W := by rw [hWd]; go_grown
  have hsz : W.heap.size = w.heap.size + 2 := by rw [hWd]; simp
  have b0 : Blk W w.heap.size 46 #[.slice a q.l.length c, .int .i64 q.r, .int .i64 q.d] := by rw [hWd]; exact (Blk.new _ _ _).alloc _
  have b2 : Blk W (w.heap.size + 1) 46 #[.slice none 0 0, .int .i64 0, .int .i64 0] := by rw [hWd]; exact Blk.new' _ _ _ (by simp)
  have HC := Lib.hid (ownq_any q a q.l.length c S W (hrow.under hW hS) (fun x hx => by rw [hsz]; have := hS x hx; omega) hsm hn)
  have HW := Lib.hid hW
  have HSZ := Lib.hid hsz
  have BB0 := Lib.hid b0
  have BB2 := Lib.hid b2
  have HWD := Lib.hid hWd
  clear hrow hS hsm hW hsz b0 b2 hWd
  go_enter Try.func30, Try.ntmps30
  go_upto_region 1 with fail
  show Code.wp _ _ _ _ ((w.alloc (.cells #[.slice a q.l.length c, .int .i64 q.r, .int .i64 q.d] 46)).alloc (.cells #[.slice none 0 0, .int .i64 0, .int .i64 0] 46))
  rw [← HWD.out]
  have b0 := BB0.out
  go_wp2_with (refine wpList_load_blk rfl 46 _ rfl (w.heap.size) 0 rfl [.slice a q.l.length c, .int .i64 q.r, .int .i64 q.d] _ (Blk.range (pre := []) (post := []) b0 rfl) Try.underlying46 rfl sizeI ?_)
  refine HC.out.mono ?_
  rintro e w1 ⟨a1, c1, S1, css1, rfl, hown1, hb1⟩
  have hs1 := hb1.size
  have B1 : Below w.heap.size w w1 := HW.out.trans (hb1.mono (by rw [HSZ.out]; omega))
  have b0' := BB0.out.under hb1 (by rw [HSZ.out]; omega)
  have b2' := BB2.out.under hb1 (by rw [HSZ.out]; omega)
  rw [HSZ.out] at hs1
  have HOWN1 := Lib.hid hown1
  clear hown1 HC BB0 BB2 b0
  go_upto_region 2 with (refine wpList_store_blk (T := 46) rfl 46 _ _ rfl (w.heap.size) 0 [] [.slice a q.l.length c, .int .i64 q.r, .int .i64 q.d] [] [.slice a1 q.l.length c1, .int .i64 q.r, .int .i64 q.d] rfl rfl b0' rfl rfl sizeI inb_one ?_; intro w4 b0 U2)
  have b2 := U2.blk b2' (by omega)
  have hs4 : w.heap.size + 2 ≤ w4.heap.size := by rw [U2.size]; exact hs1
  have HOWN4 : Hid (OwnE IsM 48 13 w4 (w.heap.size + 2) q.l (.slice a1 q.l.length c1) S1 css1) := by
    have h := HOWN1.out
    rw [HSZ.out] at h
    exact h.keep keepsM (by rw [U2.size]; exact Nat.le_refl _) fun x hx => U2.far x (by
      rcases hx with hx | hx
      · have := (h.far x hx).1; omega
      · have := (h.far_lt x hx).1; omega)
  have B4 : Below w.heap.size w w4 := B1.trans (U2.below _ (Nat.le_refl _))
  have HROW4 := Lib.hid (OwnE.rows keepsM HOWN4.out)
  clear b2' b0' HOWN1 HOWN4 U2
  have c0 := b0.cell 0
  simp only [List.getElem?_toArray] at c0
  have HB0 := Lib.hid b0
  have HB2 := Lib.hid b2
  clear b0 b2
  go_wp2_with fail
  go_loopw [6, 7, 15] (LtW w4 (w.heap.size + 2) q.l now) (fun _ _ i _ => q.l.length - (intOf i).toNat)
  case atStart => exact ⟨0, 0, 0, none, 0, none, 0, _, _, _, _, rfl, rfl, rfl, Nat.zero_le _, rfl, rfl, OwnE.nil _ _, OwnE.nil _ _, fun _ h => h.elim, fun _ h => h.elim, fun _ h => by simp [Value.ownBlock] at h, fun _ h => by simp [Value.ownBlock] at h, Below.refl _ _⟩
  case round =>
    obtain ⟨j, kl, kr, al, cl, ar, cr, Sl, Sr, cssl, cssr, rfl, rfl, rfl, hj, hkl, hkr, hol, hor, hSl, hSr, hvl, hvr, hbel⟩ := hrel
    have hsz := hbel.size
    have HOL := Lib.hid hol
    have HOR := Lib.hid hor
    have HKL := Lib.hid hkl
    have HKR := Lib.hid hkr
    have HSL := Lib.hid hSl
    have HSR := Lib.hid hSr
    have HVL := Lib.hid hvl
    have HVR := Lib.hid hvr
    have hkl1 : kl ≤ j := by rw [hkl]; exact filter_le _ hj
    have hkr1 : kr ≤ j := by rw [hkr]; exact filter_le _ hj
    clear hol hor hkl hkr hSl hSr hvl hvr
    by_cases hlt : j < q.l.length
    · obtain ⟨g, o, x, xs, rfl, hSg, hx, hm, hxl, hr⟩ := HROW4.out.get hlt
      have hr2 : wr.rangeAt g (o + j * 13) xs := rangeAt_keep hr fun i => hbel.cell (p := ⟨g, i, none⟩) hSg.2
      have hm' := hm
      obtain ⟨kx, ix, bx, sx, ax, nx, cx, rfl, hD, ht, hrr⟩ := hm
      have HX := Lib.hid hx
      have HM := Lib.hid hm'
      clear hr hx hxl hD ht hrr hm'
      go_upto_region 6 with (first
        | (refine wpList_load_blk rfl 48 _ rfl g (o + j * 13) rfl [.int .i64 x.id, .string x.topic, .int .i64 kx, .int .i64 ix, .int .u64 bx, .string sx, .slice ax nx cx, .int .i64 x.tat, .int .i64 x.til, .string x.reply, .int .i64 x.corr, .int .i64 x.prio, .int .i64 x.hops] _ hr2 Try.underlying48 rfl sizeM ?_)
        | (refine wpList_store_blk (T := 48) rfl 48 _ _ rfl (wr.heap.size) 0 [] [.int .i64 0, .string ByteArray.empty, .int .i64 0, .int .i64 0, .int .u64 0, .string ByteArray.empty, .slice none 0 0, .int .i64 0, .int .i64 0, .string ByteArray.empty, .int .i64 0, .int .i64 0, .int .i64 0] [] [.int .i64 x.id, .string x.topic, .int .i64 kx, .int .i64 ix, .int .u64 bx, .string sx, .slice ax nx cx, .int .i64 x.tat, .int .i64 x.til, .string x.reply, .int .i64 x.corr, .int .i64 x.prio, .int .i64 x.hops] rfl rfl (Blk.new wr _ _) rfl rfl sizeM (by simp [Value.oneCell']) ?_; intro w1 BX1 U1))
      have hb1 : Below wr.heap.size wr w1 := ((Below.refl wr.heap.size wr).alloc (Nat.le_refl _) _).trans (U1.below _ (Nat.le_refl _))
      have hs1 : w1.heap.size = wr.heap.size + 1 := by rw [U1.size]; simp
      have hB1 : Below w4.heap.size w4 w1 := below_via hbel hb1 hsz
      have HMX : Hid (IsM w1 (Btw (w.heap.size + 2) w4.heap.size) x [.int .i64 x.id, .string x.topic, .int .i64 kx, .int .i64 ix, .int .u64 bx, .string sx, .slice ax nx cx, .int .i64 x.tat, .int .i64 x.til, .string x.reply, .int .i64 x.corr, .int .i64 x.prio, .int .i64 x.hops]) := HM.out.under hB1 (fun z hz => hz.2)
      have hol := HOL.out.below keepsM hb1 (Nat.le_refl _)
      have hor := HOR.out.below keepsM hb1 (Nat.le_refl _)
      have HOL1 := Lib.hid hol
      have HOR1 := Lib.hid hor
      have hrl : w1.ownsRow (w.heap.size + 2) 48 13 (.slice al kl cl) kl cssl.flatten := by have h := hol.row; rwa [← HKL.out] at h
      have hrr : w1.ownsRow (w.heap.size + 2) 48 13 (.slice ar kr cr) kr cssr.flatten := by have h := hor.row; rwa [← HKR.out] at h
      have HRL := Lib.hid hrl
      have HRR := Lib.hid hrr
      have HB1 := Lib.hid hB1
      have hw41 : w4.heap.size < w1.heap.size := by omega
      have hbs : w.heap.size + 2 ≤ w1.heap.size := by omega
      have HS1 := Lib.hid hs1
      obtain ⟨x0, x1, x2, x3, x4, x5, x6, x7, x8, x9, x10, x11, x12⟩ := Blk.cells13 BX1
      clear hol hor hrl hrr U1 hb1 hB1 hr2 hs1
      by_cases ht0 : x.til = 0
      · have hne : (x.til != 0) = false := by rw [ht0]; rfl
        have hlate : isLate now x = false := by simp [isLate, ht0]
        have HNE := Lib.hid hlate
        clear hlate ht0
        go_wp2_with (first
          | (refine wpList_load_blk rfl 48 _ rfl (wr.heap.size) 0 rfl [.int .i64 x.id, .string x.topic, .int .i64 kx, .int .i64 ix, .int .u64 bx, .string sx, .slice ax nx cx, .int .i64 x.tat, .int .i64 x.til, .string x.reply, .int .i64 x.corr, .int .i64 x.prio, .int .i64 x.hops] _ (Blk.range (pre := []) (post := []) BX1 rfl) Try.underlying48 rfl sizeM ?_)
          | (at_builtin
             go_loud (refine wpList_append_lies _ rfl _ _ _ rfl (w.heap.size + 2) 48 i0 _ 13 144 Try.underlying44 hi0 hz0 hz1 hz2 rfl (by omega) _ kr cssr.flatten rfl (HRR.out.alloc _)
                               ⟨w1.heap.size, 0, none⟩ 1 1 [.int .i64 x.id, .string x.topic, .int .i64 kx, .int .i64 ix, .int .u64 bx, .string sx, .slice ax nx cx, .int .i64 x.tat, .int .i64 x.til, .string x.reply, .int .i64 x.corr, .int .i64 x.prio, .int .i64 x.hops] rfl rfl
                               (World.news_of_block (cs := #[.int .i64 x.id, .string x.topic, .int .i64 kx, .int .i64 ix, .int .u64 bx, .string sx, .slice ax nx cx, .int .i64 x.tat, .int .i64 x.til, .string x.reply, .int .i64 x.corr, .int .i64 x.prio, .int .i64 x.hops]) (t := 48) (fr := (0, 0)) (heap_alloc_new w1 _)) HMX.out.one (by omega) (by unfold maxLen; omega) (by omega) (by simp; omega) (w1.heap.size + 1) (by simp) ?_)
             intro g5 cap5 w5 hown5 hgrow5 hat5 hlt5))
        have hs1 := HS1.out
        have hno : ∀ z, Btw (w.heap.size + 2) w4.heap.size z → (Value.slice ar kr cr).ownBlock ≠ some z := fun z hz e => by have h1 := HVR.out z e; have h2 := hz.2; omega
        have hs5 : w1.heap.size + 1 ≤ w5.heap.size := by have := hgrow5.size; simpa using this
        have hA := late_row HX.out (by simp [notLate, HNE.out]) (OwnE.snoc keepsM HOR1.out HMX.out rfl (fun z hz => ⟨hz.1, by have := hz.2; omega, hno z hz⟩) hown5 (by rw [← HKR.out]) hgrow5 hat5)
        have hZ := OwnE.aside keepsM HOL1.out hgrow5 (fun z hz => hno z (HSL.out z hz)) (fun z hz e => (HVL.out z hz).2 e)
        rw [← late_same HX.out HNE.out] at hZ
        have hk5 : kr + 1 = ((q.l.take (j + 1)).filter (notLate now)).length := by rw [late_more HX.out (by simp [notLate, HNE.out]), ← HKR.out]
        have hk6 : kl = ((q.l.take (j + 1)).filter (isLate now)).length := by rw [late_same HX.out HNE.out, ← HKL.out]
        have hB5 : Below w4.heap.size w4 w5 := (HB1.out.alloc (by omega) _).grown hgrow5 (by simp; omega) (fun z hz => HVR.out z hz)
        have hg5 : w4.heap.size ≤ g5 := by
          rcases hat5 with h | h
          · exact HVR.out g5 h
          · omega
        have hown : ∀ z, (Value.slice al kl cl).ownBlock = some z → g5 ≠ z := fun z hz e => by
          subst e
          rcases hat5 with h | h
          · exact (HVL.out g5 hz).2 h
          · have := (HOL1.out.far_lt _ hz).2; omega
        have HA := Lib.hid hA
        have HZ := Lib.hid hZ
        have HK5 := Lib.hid hk5
        have HK6 := Lib.hid hk6
        have HBN := Lib.hid hB5
        have HG5 := Lib.hid hg5
        have HOWNN := Lib.hid hown
        clear hA hZ hk5 hk6 hB5 hg5 hown hown5 hgrow5 hat5 hno HOL1 HOR1 HRL HRR x0 x1 x2 x3 x4 x5 x6 x7 x8 x9 x10 x11 x12
        go_wp2_with fail
        go_roundw
        case rel => exact ⟨j + 1, kl, kr + 1, al, cl, _, _, _, _, _, _, by go_num, rfl, rfl, by omega, HK6.out, HK5.out, HZ.out, HA.out, HSL.out, (fun z hz => hz.elim (HSR.out z) id), (fun z hz => ⟨(HVL.out z hz).1, fun h => HOWNN.out z hz (by simpa [Value.ownBlock] using h)⟩), (fun z hz => by obtain rfl : g5 = z := (by simpa [Value.ownBlock] using hz); exact HG5.out), HBN.out⟩
        case measure => simp [intOf]; omega
      · have hne : (x.til != 0) = true := by rw [bne_iff_ne]; exact ht0
        by_cases ht1 : x.til < now
        · have hlate : isLate now x = true := by simp [isLate, ht0, ht1]
          have HNE := Lib.hid hlate
          clear hlate
          go_wp2_with (first
            | (refine wpList_load_blk rfl 48 _ rfl (wr.heap.size) 0 rfl [.int .i64 x.id, .string x.topic, .int .i64 kx, .int .i64 ix, .int .u64 bx, .string sx, .slice ax nx cx, .int .i64 x.tat, .int .i64 x.til, .string x.reply, .int .i64 x.corr, .int .i64 x.prio, .int .i64 x.hops] _ (Blk.range (pre := []) (post := []) BX1 rfl) Try.underlying48 rfl sizeM ?_)
            | (at_builtin
               go_loud (refine wpList_append_lies _ rfl _ _ _ rfl (w.heap.size + 2) 48 i0 _ 13 144 Try.underlying44 hi0 hz0 hz1 hz2 rfl (by omega) _ kl cssl.flatten rfl (HRL.out.alloc _)
                                 ⟨w1.heap.size, 0, none⟩ 1 1 [.int .i64 x.id, .string x.topic, .int .i64 kx, .int .i64 ix, .int .u64 bx, .string sx, .slice ax nx cx, .int .i64 x.tat, .int .i64 x.til, .string x.reply, .int .i64 x.corr, .int .i64 x.prio, .int .i64 x.hops] rfl rfl
                                 (World.news_of_block (cs := #[.int .i64 x.id, .string x.topic, .int .i64 kx, .int .i64 ix, .int .u64 bx, .string sx, .slice ax nx cx, .int .i64 x.tat, .int .i64 x.til, .string x.reply, .int .i64 x.corr, .int .i64 x.prio, .int .i64 x.hops]) (t := 48) (fr := (0, 0)) (heap_alloc_new w1 _)) HMX.out.one (by omega) (by unfold maxLen; omega) (by omega) (by simp; omega) (w1.heap.size + 1) (by simp) ?_)
               intro g5 cap5 w5 hown5 hgrow5 hat5 hlt5))
          have hs1 := HS1.out
          have hno : ∀ z, Btw (w.heap.size + 2) w4.heap.size z → (Value.slice al kl cl).ownBlock ≠ some z := fun z hz e => by have h1 := (HVL.out z e).1; have h2 := hz.2; omega
          have hs5 : w1.heap.size + 1 ≤ w5.heap.size := by have := hgrow5.size; simpa using this
          have hA := late_row HX.out HNE.out (OwnE.snoc keepsM HOL1.out HMX.out rfl (fun z hz => ⟨hz.1, by have := hz.2; omega, hno z hz⟩) hown5 (by rw [← HKL.out]) hgrow5 hat5)
          have hZ := OwnE.aside keepsM HOR1.out hgrow5 (fun z hz => hno z (HSR.out z hz)) (fun z hz e => (HVL.out z e).2 hz)
          rw [← late_same HX.out (by simp [notLate, HNE.out])] at hZ
          have hk5 : kl + 1 = ((q.l.take (j + 1)).filter (isLate now)).length := by rw [late_more HX.out HNE.out, ← HKL.out]
          have hk6 : kr = ((q.l.take (j + 1)).filter (notLate now)).length := by rw [late_same HX.out (by simp [notLate, HNE.out]), ← HKR.out]
          have hB5 : Below w4.heap.size w4 w5 := (HB1.out.alloc (by omega) _).grown hgrow5 (by simp; omega) (fun z hz => (HVL.out z hz).1)
          have hg5 : w4.heap.size ≤ g5 := by
            rcases hat5 with h | h
            · exact (HVL.out g5 h).1
            · omega
          have hown : ∀ z, (Value.slice ar kr cr).ownBlock = some z → g5 ≠ z := fun z hz e => by
            subst e
            rcases hat5 with h | h
            · exact (HVL.out g5 h).2 hz
            · have := (HOR1.out.far_lt _ hz).2; omega
          have HA := Lib.hid hA
          have HZ := Lib.hid hZ
          have HK5 := Lib.hid hk5
          have HK6 := Lib.hid hk6
          have HBN := Lib.hid hB5
          have HG5 := Lib.hid hg5
          have HOWNN := Lib.hid hown
          clear hA hZ hk5 hk6 hB5 hg5 hown hown5 hgrow5 hat5 hno HOL1 HOR1 HRL HRR x0 x1 x2 x3 x4 x5 x6 x7 x8 x9 x10 x11 x12
          go_wp2_with fail
          go_roundw
          case rel => exact ⟨j + 1, kl + 1, kr, _, _, ar, cr, _, _, _, _, by go_num, rfl, rfl, by omega, HK5.out, HK6.out, HA.out, HZ.out, (fun z hz => hz.elim (HSL.out z) id), HSR.out, (fun z hz => by obtain rfl : g5 = z := (by simpa [Value.ownBlock] using hz); exact ⟨HG5.out, fun h => HOWNN.out g5 h rfl⟩), HVR.out, HBN.out⟩
          case measure => simp [intOf]; omega
        · have hlate : isLate now x = false := by simp [isLate, ht1]
          have HNE := Lib.hid hlate
          clear hlate
          go_wp2_with (first
            | (refine wpList_load_blk rfl 48 _ rfl (wr.heap.size) 0 rfl [.int .i64 x.id, .string x.topic, .int .i64 kx, .int .i64 ix, .int .u64 bx, .string sx, .slice ax nx cx, .int .i64 x.tat, .int .i64 x.til, .string x.reply, .int .i64 x.corr, .int .i64 x.prio, .int .i64 x.hops] _ (Blk.range (pre := []) (post := []) BX1 rfl) Try.underlying48 rfl sizeM ?_)
            | (at_builtin
               go_loud (refine wpList_append_lies _ rfl _ _ _ rfl (w.heap.size + 2) 48 i0 _ 13 144 Try.underlying44 hi0 hz0 hz1 hz2 rfl (by omega) _ kr cssr.flatten rfl (HRR.out.alloc _)
                                 ⟨w1.heap.size, 0, none⟩ 1 1 [.int .i64 x.id, .string x.topic, .int .i64 kx, .int .i64 ix, .int .u64 bx, .string sx, .slice ax nx cx, .int .i64 x.tat, .int .i64 x.til, .string x.reply, .int .i64 x.corr, .int .i64 x.prio, .int .i64 x.hops] rfl rfl
                                 (World.news_of_block (cs := #[.int .i64 x.id, .string x.topic, .int .i64 kx, .int .i64 ix, .int .u64 bx, .string sx, .slice ax nx cx, .int .i64 x.tat, .int .i64 x.til, .string x.reply, .int .i64 x.corr, .int .i64 x.prio, .int .i64 x.hops]) (t := 48) (fr := (0, 0)) (heap_alloc_new w1 _)) HMX.out.one (by omega) (by unfold maxLen; omega) (by omega) (by simp; omega) (w1.heap.size + 1) (by simp) ?_)
               intro g5 cap5 w5 hown5 hgrow5 hat5 hlt5))
          have hs1 := HS1.out
          have hno : ∀ z, Btw (w.heap.size + 2) w4.heap.size z → (Value.slice ar kr cr).ownBlock ≠ some z := fun z hz e => by have h1 := HVR.out z e; have h2 := hz.2; omega
          have hs5 : w1.heap.size + 1 ≤ w5.heap.size := by have := hgrow5.size; simpa using this
          have hA := late_row HX.out (by simp [notLate, HNE.out]) (OwnE.snoc keepsM HOR1.out HMX.out rfl (fun z hz => ⟨hz.1, by have := hz.2; omega, hno z hz⟩) hown5 (by rw [← HKR.out]) hgrow5 hat5)
          have hZ := OwnE.aside keepsM HOL1.out hgrow5 (fun z hz => hno z (HSL.out z hz)) (fun z hz e => (HVL.out z hz).2 e)
          rw [← late_same HX.out HNE.out] at hZ
          have hk5 : kr + 1 = ((q.l.take (j + 1)).filter (notLate now)).length := by rw [late_more HX.out (by simp [notLate, HNE.out]), ← HKR.out]
          have hk6 : kl = ((q.l.take (j + 1)).filter (isLate now)).length := by rw [late_same HX.out HNE.out, ← HKL.out]
          have hB5 : Below w4.heap.size w4 w5 := (HB1.out.alloc (by omega) _).grown hgrow5 (by simp; omega) (fun z hz => HVR.out z hz)
          have hg5 : w4.heap.size ≤ g5 := by
            rcases hat5 with h | h
            · exact HVR.out g5 h
            · omega
          have hown : ∀ z, (Value.slice al kl cl).ownBlock = some z → g5 ≠ z := fun z hz e => by
            subst e
            rcases hat5 with h | h
            · exact (HVL.out g5 hz).2 h
            · have := (HOL1.out.far_lt _ hz).2; omega
          have HA := Lib.hid hA
          have HZ := Lib.hid hZ
          have HK5 := Lib.hid hk5
          have HK6 := Lib.hid hk6
          have HBN := Lib.hid hB5
          have HG5 := Lib.hid hg5
          have HOWNN := Lib.hid hown
          clear hA hZ hk5 hk6 hB5 hg5 hown hown5 hgrow5 hat5 hno HOL1 HOR1 HRL HRR x0 x1 x2 x3 x4 x5 x6 x7 x8 x9 x10 x11 x12
          go_wp2_with fail
          go_roundw
          case rel => exact ⟨j + 1, kl, kr + 1, al, cl, _, _, _, _, _, _, by go_num, rfl, rfl, by omega, HK6.out, HK5.out, HZ.out, HA.out, HSL.out, (fun z hz => hz.elim (HSR.out z) id), (fun z hz => ⟨(HVL.out z hz).1, fun h => HOWNN.out z hz (by simpa [Value.ownBlock] using h)⟩), (fun z hz => by obtain rfl : g5 = z := (by simpa [Value.ownBlock] using hz); exact HG5.out), HBN.out⟩
          case measure => simp [intOf]; omega
    · obtain rfl : j = q.l.length := by omega
      have HBL := Lib.hid hbel
      have b0 := HB0.out.under hbel (by omega)
      have b2 := HB2.out.under hbel (by omega)
      have f0 := b0.free 0
      have f2 := b0.free 2
      have c2 := b0.cell 2
      have c0w := b0.cell 0
      simp only [List.getElem?_toArray] at c0w c2
      have b0n : Blk ((wr.setCell ⟨w.heap.size, 0, none⟩ (.slice ar kr cr)).setCell ⟨w.heap.size, 2, none⟩ (.int .i64 (q.d + (kl : Int)))) w.heap.size 46 #[.slice ar kr cr, .int .i64 q.r, .int .i64 (q.d + (kl : Int))] := (b0.set 0 _).set 2 _
      have b2n := (b2.far (p := ⟨w.heap.size, 0, none⟩) (by simp) (.slice ar kr cr)).far (p := ⟨w.heap.size, 2, none⟩) (by simp) (.int .i64 (q.d + (kl : Int)))
      clear hbel b0 b2 c0
      go_wp2_with (first
        | (refine wpList_load_blk rfl 46 _ rfl (w.heap.size) 0 rfl [.slice ar kr cr, .int .i64 q.r, .int .i64 (q.d + (kl : Int))] _ (Blk.range (pre := []) (post := []) b0n rfl) Try.underlying46 rfl sizeI ?_)
        | (refine wpList_store_blk (T := 46) rfl 46 _ _ rfl (w.heap.size + 1) 0 [] [.slice none 0 0, .int .i64 0, .int .i64 0] [] [.slice ar kr cr, .int .i64 q.r, .int .i64 (q.d + (kl : Int))] rfl rfl b2n rfl rfl sizeI inb_one ?_; intro w7 r2 U5))
      refine bodyPost_ret (res_ct rfl rfl (load_blk w7 (w.heap.size + 1) 46 [.slice ar kr cr, .int .i64 q.r, .int .i64 (q.d + (kl : Int))] _ r2 Try.underlying46 rfl sizeI) rfl) rfl ?_
      have hs7 : w7.heap.size = wr.heap.size := by rw [U5.size]; simp
      have hfar : ∀ x, w.heap.size + 2 ≤ x → w7.heap[x]? = wr.heap[x]? := fun x hx => (U5.far x (by omega)).trans ((heap_set (p := ⟨w.heap.size, 2, none⟩) (by show x ≠ w.heap.size; omega)).trans (heap_set (p := ⟨w.heap.size, 0, none⟩) (by show x ≠ w.heap.size; omega)))
      have hol := HOL.out
      have hor := HOR.out
      have hkl := HKL.out
      rw [List.take_length] at hol hor hkl
      refine ⟨ar, kr, cr, al, kl, cl, ?_, rows_end hor (by omega) hfar (by omega), rows_end hol (by omega) hfar (by omega), ?_⟩
      · show _ = Ending.returned (.tuple #[.agg #[.slice ar kr cr, .int .i64 q.r, .int .i64 (q.d + ((q.l.filter (isLate now)).length : Int))], .slice al kl cl])
        rw [← hkl]
        rfl
      · exact ((((B4.trans (HBL.out.mono (by omega))).setCell (p := ⟨w.heap.size, 0, none⟩) (Nat.le_refl _) _).setCell (p := ⟨w.heap.size, 2, none⟩) (Nat.le_refl _) _)).trans (U5.below _ (by omega))
end Go.Proofs.Ytmdcfmdjbncaoaa
