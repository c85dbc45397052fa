/- The reference's Copy of what waits; Place. -/
import Derived.Test.YtmdcfmdjbncaoaaDoorCa
import Derived.Test.YtmdcfmdjbncaoaaDoorBm
namespace Go.Proofs.YtmdcfmdjbncaoaaDoor
open Go.RowKit
attribute [local go_sem ↓] Go.wp_at_zero Go.wp_at_succ
attribute [local go_sem] Go.undef

def RowPostS (w : World) (l : List SX) (e : Ending) (w' : World) : Prop :=
  ∃ a c S css, e = .returned (.slice a l.length c) ∧ OwnE IsS 62 15 w' w.heap.size l (.slice a l.length c) S css ∧ Below w.heap.size w w'
def CpS (w : World) (l : List SX) (v iv : Value) (wr : World) : Prop :=
  ∃ (j : Nat) (ao : Option Addr) (co : Nat) (S : Nat → Prop) (css : List (List Value)), iv = .int .i64 j ∧ v = .slice ao j co ∧ j ≤ l.length ∧ OwnE IsS 62 15 wr w.heap.size (l.take j) (.slice ao j co) S css ∧ Below w.heap.size w wr
theorem range_pre {w : World} {g o : Nat} {cs ds : List Value} (h : w.rangeAt g o (cs ++ ds)) : w.rangeAt g o cs := fun q v hq => h q v (by rw [List.getElem?_append_left (List.getElem?_eq_some_iff.1 hq).1]; exact hq)
theorem range_post {w : World} {g o : Nat} {cs ds : List Value} (h : w.rangeAt g o (cs ++ ds)) : w.rangeAt g (o + cs.length) ds := fun q v hq => by
  have h1 := h (cs.length + q) v (by rw [List.getElem?_append_right (by omega), Nat.add_sub_cancel_left]; exact hq)
  rwa [← Nat.add_assoc] at h1

set_option maxHeartbeats 4000000 in
set_option maxRecDepth 100000 in
theorem copys_any (l : List SX) (a : Option Addr) (n c : Nat) (S : Nat → Prop) (w : World) (hrow : RS w S l a n c) (hS : ∀ b, S b → b < w.heap.size) (hsm : smallS l) (hn : n ≤ 65536) :
    Calls Tryd.prog 27 #[.slice a n c] w (RowPostS w l) := by
  obtain ⟨i0, hi0, hz0, hz1, hz2⟩ := info_parts infoS
  have hcl : c ≤ maxLen := hrow.2.2.1
  have hlc : n ≤ c := hrow.2.1
  obtain rfl : n = l.length := hrow.1
  unfold maxLen at hcl
  have HROW := Lib.hid hrow
  have HS := Lib.hid hS
  have HSM := Lib.hid hsm
  clear hrow hS hsm
  go_enter Tryd.func27, Tryd.ntmps27
  go_wp2_with fail
  go_loopw [3, 4] (CpS w l) (fun _ i _ => l.length - (intOf i).toNat)
  case atStart => exact ⟨0, none, 0, _, _, rfl, rfl, Nat.zero_le _, OwnE.nil _ _, Below.refl _ _⟩
  case round =>
    obtain ⟨j, ao, co, T, css, rfl, rfl, hj, hown, hbel⟩ := hrel
    have HOWN := Lib.hid hown
    have hsz := hbel.size
    have HROW3 : Hid (wr.ownsRow w.heap.size 62 15 (.slice ao j co) j css.flatten) := by have h := hown.row; rwa [List.length_take, Nat.min_eq_left hj] at h
    clear hown
    by_cases hlt : j < l.length
    · obtain ⟨g, o, x, xs, rfl, hSg, hx, ⟨ms, hm, rfl⟩, hxl, hr⟩ := HROW.out.get hlt
      have HM := Lib.hid (hm.under hbel HS.out)
      obtain ⟨kx, ix, bx, sx, ax, nx, cx, rfl, -, -, -⟩ := hm
      have hr2 : wr.rangeAt g (o + j * 15) [.int .i64 x.m.id, .string x.m.topic, .int .i64 kx, .int .i64 ix, .int .u64 bx, .string sx, .slice ax nx cx, .int .i64 x.m.tat, .int .i64 x.m.til, .string x.m.reply, .int .i64 x.m.corr, .int .i64 x.m.prio, .int .i64 x.m.hops, .int .i64 x.tries, .int .i64 x.due] := rangeAt_keep hr fun q => hbel.cell (p := ⟨g, q, none⟩) (HS.out g hSg)
      have HX := Lib.hid hx
      have hg : g < wr.heap.size := Nat.lt_of_lt_of_le (HS.out g hSg) hsz
      have HG := Lib.hid hg
      have hj0 : (0 : Int) ≤ (j : Int) := by omega
      have hj1 : (j : Int) < (l.length : Int) := by omega
      clear hr hx hxl hSg hg
      go_upto_region 6 with (first
        | (refine wpList_load_blk rfl 62 _ rfl g (o + j * 15) rfl [.int .i64 x.m.id, .string x.m.topic, .int .i64 kx, .int .i64 ix, .int .u64 bx, .string sx, .slice ax nx cx, .int .i64 x.m.tat, .int .i64 x.m.til, .string x.m.reply, .int .i64 x.m.corr, .int .i64 x.m.prio, .int .i64 x.m.hops, .int .i64 x.tries, .int .i64 x.due] _ hr2 Tryd.underlying62 rfl sizeS ?_)
        | (refine wpList_store_blk (T := 62) rfl 62 _ _ rfl (wr.heap.size) 0 [] [.int .i64 0, .string ByteArray.empty, .int .i64 0, .int .i64 0, .int .u64 0, .string ByteArray.empty, .slice none 0 0, .int .i64 0, .int .i64 0, .string ByteArray.empty, .int .i64 0, .int .i64 0, .int .i64 0, .int .i64 0, .int .i64 0] [] [.int .i64 x.m.id, .string x.m.topic, .int .i64 kx, .int .i64 ix, .int .u64 bx, .string sx, .slice ax nx cx, .int .i64 x.m.tat, .int .i64 x.m.til, .string x.m.reply, .int .i64 x.m.corr, .int .i64 x.m.prio, .int .i64 x.m.hops, .int .i64 x.tries, .int .i64 x.due] rfl rfl (Blk.new wr _ _) rfl rfl sizeS (by simp [Value.oneCell']) ?_; intro w1 BX1 U1))
      have hb1 : Below wr.heap.size wr w1 := ((Below.refl wr.heap.size wr).alloc (Nat.le_refl _) _).trans (U1.below _ (Nat.le_refl _))
      have hs1 : wr.heap.size + 1 ≤ w1.heap.size := by rw [U1.size]; simp
      have hr3 : w1.rangeAt g (o + j * 15) [.int .i64 x.m.id, .string x.m.topic, .int .i64 kx, .int .i64 ix, .int .u64 bx, .string sx, .slice ax nx cx, .int .i64 x.m.tat, .int .i64 x.m.til, .string x.m.reply, .int .i64 x.m.corr, .int .i64 x.m.prio, .int .i64 x.m.hops] := range_over hb1 HG.out (range_pre (cs := [.int .i64 x.m.id, .string x.m.topic, .int .i64 kx, .int .i64 ix, .int .u64 bx, .string sx, .slice ax nx cx, .int .i64 x.m.tat, .int .i64 x.m.til, .string x.m.reply, .int .i64 x.m.corr, .int .i64 x.m.prio, .int .i64 x.m.hops]) hr2)
      have HC := Lib.hid (copymsg_any x.m w1 S _ (HM.out.under hb1 (fun q hq => Nat.lt_of_lt_of_le (HS.out q hq) hsz)) (fun q hq => by have := HS.out q hq; omega) (HSM.out x (List.mem_of_getElem? HX.out)))
      have HB1 := Lib.hid hb1
      clear hr2 U1 hb1
      go_wp2_with (refine wpList_load_blk rfl 30 _ rfl g (o + j * 15) rfl [.int .i64 x.m.id, .string x.m.topic, .int .i64 kx, .int .i64 ix, .int .u64 bx, .string sx, .slice ax nx cx, .int .i64 x.m.tat, .int .i64 x.m.til, .string x.m.reply, .int .i64 x.m.corr, .int .i64 x.m.prio, .int .i64 x.m.hops] _ hr3 Tryd.underlying30 rfl sizeM ?_)
      refine HC.out.mono ?_
      rintro e w2 ⟨k1, i1, b1, s1, a1, n1, c1', rfl, hm2, hb2⟩
      have HM2 := Lib.hid hm2.ism
      have BX2 := Blk.under BX1 hb2 (by omega)
      have hs2 := hb2.size
      have HB2 : Hid (Below wr.heap.size wr w2) := HB1.out.trans (hb2.mono (by omega))
      clear hm2 HC hr3 BX1 hb2
      go_upto_region 7 with (refine wpList_store_blk (T := 62) rfl 30 _ _ rfl (wr.heap.size) 0 [] [.int .i64 x.m.id, .string x.m.topic, .int .i64 kx, .int .i64 ix, .int .u64 bx, .string sx, .slice ax nx cx, .int .i64 x.m.tat, .int .i64 x.m.til, .string x.m.reply, .int .i64 x.m.corr, .int .i64 x.m.prio, .int .i64 x.m.hops] [.int .i64 x.tries, .int .i64 x.due] [.int .i64 x.m.id, .string x.m.topic, .int .i64 k1, .int .i64 i1, .int .u64 b1, .string s1, .slice a1 n1 c1', .int .i64 x.m.tat, .int .i64 x.m.til, .string x.m.reply, .int .i64 x.m.corr, .int .i64 x.m.prio, .int .i64 x.m.hops] rfl rfl BX2 rfl rfl sizeM (by simp [Value.oneCell']) ?_; intro w3 BX3 U3)
      have hs3 : w3.heap.size = w2.heap.size := U3.size
      have HB3 : Hid (Below wr.heap.size wr w3) := HB2.out.trans (U3.below _ (Nat.le_refl _))
      have HE3 : Hid (IsS w3 (Btw wr.heap.size w3.heap.size) x [.int .i64 x.m.id, .string x.m.topic, .int .i64 k1, .int .i64 i1, .int .u64 b1, .string s1, .slice a1 n1 c1', .int .i64 x.m.tat, .int .i64 x.m.til, .string x.m.reply, .int .i64 x.m.corr, .int .i64 x.m.prio, .int .i64 x.m.hops, .int .i64 x.tries, .int .i64 x.due]) := ⟨_, HM2.out.keep (fun q hq => ⟨by have := hq.1; omega, by have := hq.2; omega⟩) fun q hq q2 => U3.cell (by have := hq.1; omega), rfl⟩
      have HRL3 := Lib.hid (own_below HROW3.out HB3.out)
      have hs4 : w.heap.size ≤ w3.heap.size := by omega
      clear HM2 BX2 U3 HB2 HB1 HROW3 hs3
      go_wp2_with (first
        | (refine wpList_load_blk rfl 62 _ rfl (wr.heap.size) 0 rfl [.int .i64 x.m.id, .string x.m.topic, .int .i64 k1, .int .i64 i1, .int .u64 b1, .string s1, .slice a1 n1 c1', .int .i64 x.m.tat, .int .i64 x.m.til, .string x.m.reply, .int .i64 x.m.corr, .int .i64 x.m.prio, .int .i64 x.m.hops, .int .i64 x.tries, .int .i64 x.due] _ (Blk.range (pre := []) (post := []) BX3 rfl) Tryd.underlying62 rfl sizeS ?_)
        | (at_builtin
           go_loud (refine wpList_append_lies _ rfl _ _ _ rfl w.heap.size 62 i0 _ 15 160 Tryd.underlying50 hi0 hz0 hz1 hz2 rfl (by omega) _ j css.flatten rfl (HRL3.out.alloc _)
                                 ⟨w3.heap.size, 0, none⟩ 1 1 [.int .i64 x.m.id, .string x.m.topic, .int .i64 k1, .int .i64 i1, .int .u64 b1, .string s1, .slice a1 n1 c1', .int .i64 x.m.tat, .int .i64 x.m.til, .string x.m.reply, .int .i64 x.m.corr, .int .i64 x.m.prio, .int .i64 x.m.hops, .int .i64 x.tries, .int .i64 x.due] rfl rfl
                                 (World.news_of_block (cs := #[.int .i64 x.m.id, .string x.m.topic, .int .i64 k1, .int .i64 i1, .int .u64 b1, .string s1, .slice a1 n1 c1', .int .i64 x.m.tat, .int .i64 x.m.til, .string x.m.reply, .int .i64 x.m.corr, .int .i64 x.m.prio, .int .i64 x.m.hops, .int .i64 x.tries, .int .i64 x.due]) (t := 62) (fr := (0, 0)) (heap_alloc_new w3 _)) HE3.out.one (by omega) (by unfold maxLen; omega) (by omega) (by simp; omega) (w3.heap.size + 1) (by simp) ?_)
           intro g5 cap5 w5 hown5 hgrow5 hat5 hlt5))
      obtain ⟨hR, hfar, hs5, hbl⟩ := OwnE.grow keepsS HOWN.out (Below.refl _ _) HB3.out hsz HE3.out rfl hown5 (by rw [List.length_take, Nat.min_eq_left hj]) hgrow5 hat5
      rw [take_snoc HX.out] at hR
      have hB5 : Below w.heap.size w w5 := hbel.trans (hbl w.heap.size (Nat.le_refl _))
      have HR := Lib.hid hR
      clear hR hown5 hgrow5 hat5 hfar hbl HB3
      go_wp2_with fail
      go_roundw
      case rel => first | exact ⟨j + 1, _, _, _, _, by go_num, rfl, by omega, HR.out, hB5⟩ | ((repeat apply Exists.intro); exact ⟨⟨j + 1, _, _, _, _, by go_num, rfl, by omega, HR.out, hB5⟩, by first | rfl | exact ⟨rfl, rfl⟩ | exact ⟨rfl, rfl, rfl⟩ | exact ⟨rfl, rfl, rfl, rfl⟩ | exact ⟨rfl, rfl, rfl, rfl, rfl⟩⟩)
      case measure => simp [intOf]; omega
    · obtain rfl : j = l.length := by omega
      go_wp2_with fail
      go_ret
      have h := HOWN.out
      rw [List.take_length] at h
      exact ⟨ao, co, _, _, rfl, h, hbel⟩

/-- Where it waits; -1: nowhere. -/
def placeS : List SX → Int → Int
  | [], _ => -1
  | x :: l, id => if x.m.id = id then 0 else (if placeS l id = -1 then -1 else placeS l id + 1)
theorem placeS_ge (l : List SX) (id : Int) : -1 ≤ placeS l id := by
  induction l with
  | nil => exact Int.le_refl _
  | cons x l ih => unfold placeS; split; omega; split <;> omega
theorem placeS_hit {l : List SX} {id : Int} {j : Nat} {x : SX} (hx : l[j]? = some x) (he : x.m.id = id) (hb : ∀ i y, i < j → l[i]? = some y → y.m.id ≠ id) : placeS l id = j := by
  induction l generalizing j with
  | nil => simp at hx
  | cons y l ih =>
    cases j with
    | zero =>
      simp at hx
      subst hx
      rw [placeS, if_pos he]
      rfl
    | succ j =>
      have h0 := hb 0 y (by omega) rfl
      have h1 := ih (j := j) (by simpa using hx) (fun i z hi hz => hb (i + 1) z (by omega) (by simpa using hz))
      rw [placeS, if_neg h0, h1, if_neg (by omega)]
      omega
theorem placeS_miss {l : List SX} {id : Int} (hb : ∀ (i : Nat) (y : SX), l[i]? = some y → y.m.id ≠ id) : placeS l id = -1 := by
  induction l with
  | nil => rfl
  | cons y l ih =>
    have h0 := hb 0 y rfl
    have h1 := ih fun i z hz => hb (i + 1) z (by simpa using hz)
    rw [placeS, if_neg h0, if_pos h1]

set_option maxHeartbeats 4000000 in
set_option maxRecDepth 100000 in
theorem place_any (l : List SX) (id : Int) (a : Option Addr) (n c : Nat) (S : Nat → Prop) (w : World) (hrow : RS w S l a n c) :
    Calls Tryd.prog 38 #[.slice a n c, .int .i64 id] w fun e w' => e = .returned (.int .i64 (placeS l id)) ∧ w = w' := by
  have hcl : c ≤ maxLen := hrow.2.2.1
  have hlc : n ≤ c := hrow.2.1
  obtain rfl : n = l.length := hrow.1
  unfold maxLen at hcl
  have HROW := Lib.hid hrow
  clear hrow
  go_enter Tryd.func38, Tryd.ntmps38
  go_wp2_with fail
  go_loopw [5] (fun iv wr => ∃ j : Nat, iv = .int .i64 j ∧ j ≤ l.length ∧ (∀ i y, i < j → l[i]? = some y → y.m.id ≠ id) ∧ w = wr) (fun i _ => l.length - (intOf i).toNat)
  case atStart => exact ⟨0, rfl, Nat.zero_le _, fun i y h => by omega, rfl⟩
  case round =>
    obtain ⟨j, rfl, hj, hb, rfl⟩ := hrel
    have HB := Lib.hid hb
    clear hb
    by_cases hlt : j < l.length
    · obtain ⟨g, o, x, xs, rfl, hSg, hx, ⟨ms, hm, rfl⟩, hxl, hr⟩ := HROW.out.get hlt
      obtain ⟨kx, ix, bx, sx, ax, nx, cx, rfl, -, -, -⟩ := hm
      have c0 : w.cell? ⟨g, o + j * 15, none⟩ = some (.int .i64 x.m.id) := hr 0 _ rfl
      have HX := Lib.hid hx
      have hj0 : (0 : Int) ≤ (j : Int) := by omega
      have hj1 : (j : Int) < (l.length : Int) := by omega
      clear hr hx hxl hSg
      by_cases he : x.m.id = id
      · have he0 : (x.m.id == id) = true := by rw [he]; exact beq_self_eq_true _
        have hP := Lib.hid (placeS_hit HX.out he HB.out)
        clear he
        go_wp2_with fail
        go_ret
        exact ⟨by rw [hP.out]; rfl, rfl⟩
      · have he0 : (x.m.id == id) = false := beq_eq_false_iff_ne.2 he
        have HN : Hid (∀ i y, i < j + 1 → l[i]? = some y → y.m.id ≠ id) := fun i y hi hy => by
          by_cases e : i = j
          · subst e
            rw [HX.out] at hy
            injection hy with hy
            rw [← hy]
            exact he
          · exact HB.out i y (by omega) hy
        clear he
        go_wp2_with fail
        go_roundw
        case rel => exact ⟨j + 1, by go_num, by omega, HN.out, trivial⟩
        case measure => simp [intOf]; omega
    · obtain rfl : j = l.length := by omega
      have hP := Lib.hid (placeS_miss (l := l) (id := id) fun i y hy => HB.out i y (List.getElem?_eq_some_iff.1 hy).1 hy)
      go_wp2_with fail
      go_ret
      exact ⟨by rw [hP.out]; rfl, rfl⟩
end Go.Proofs.YtmdcfmdjbncaoaaDoor
