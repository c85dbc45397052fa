/- What is fit for the buffer's laws: messages and buffers. -/
import Derived.Test.YtmdcfmdjbncaoaaDoorBn
namespace Go.Proofs.YtmdcfmdjbncaoaaDoor
open Go.RowKit
attribute [local go_sem ↓] Go.wp_at_zero Go.wp_at_succ
attribute [local go_sem] Go.undef

theorem tick_of {x : Int} (h : tickB x = true) : 0 ≤ x ∧ x ≤ 1099511627776 := by
  simpa [tickB] using h
/-- What a fit message gives. -/
def FitX (m : MX) : Prop := validT m.body = true ∧ 0 ≤ m.til ∧ m.til ≤ 1099511627776
def FitPost (P : Prop) (w : World) (e : Ending) (w' : World) : Prop := ∃ r : Bool, e = .returned (.bool r) ∧ (r = true → P) ∧ Below w.heap.size w w'

set_option maxHeartbeats 8000000 in
set_option maxRecDepth 100000 in
theorem fitmsg_any (m : MX) (w : World) (S : Nat → Prop) (cs : List Value) (hm : IsM w S m cs) (hS : ∀ b, S b → b < w.heap.size) (hT : Tabs w) :
    Calls Tryd.prog 11 #[.agg cs.toArray] w (FitPost (FitX m) w) := by
  obtain ⟨k, i, b, s, am, nm, cm, rfl, hD, ht, hr⟩ := hm
  have HTR := Lib.hid (And.intro ht hr)
  have hW : Below w.heap.size w (w.alloc (.cells #[.int .i64 m.id, .string m.topic, .int .i64 k, .int .i64 i, .int .u64 b, .string s, .slice am nm cm, .int .i64 m.tat, .int .i64 m.til, .string m.reply, .int .i64 m.corr, .int .i64 m.prio, .int .i64 m.hops] 30)) := by go_grown
  have hv := valid_any m.body (w.alloc (.cells #[.int .i64 m.id, .string m.topic, .int .i64 k, .int .i64 i, .int .u64 b, .string s, .slice am nm cm, .int .i64 m.tat, .int .i64 m.til, .string m.reply, .int .i64 m.corr, .int .i64 m.prio, .int .i64 m.hops] 30)) S _ (hD.under hW hS) (fun x hx => by have := hS x hx; simp; omega)
  have BX0 : Hid (Blk (w.alloc (.cells #[.int .i64 m.id, .string m.topic, .int .i64 k, .int .i64 i, .int .u64 b, .string s, .slice am nm cm, .int .i64 m.tat, .int .i64 m.til, .string m.reply, .int .i64 m.corr, .int .i64 m.prio, .int .i64 m.hops] 30)) w.heap.size 30 #[.int .i64 m.id, .string m.topic, .int .i64 k, .int .i64 i, .int .u64 b, .string s, .slice am nm cm, .int .i64 m.tat, .int .i64 m.til, .string m.reply, .int .i64 m.corr, .int .i64 m.prio, .int .i64 m.hops]) := Blk.new _ _ _
  have TB0 := Lib.hid (Tabs.on hT hW)
  have HV := Lib.hid hv
  have HW := Lib.hid hW
  clear hv hW hD ht hr hT
  go_enter Tryd.func11, Tryd.ntmps11
  go_wp2_with fail
  refine HV.out.mono ?_
  rintro e w1 ⟨rfl, hb1⟩
  have TB := Lib.hid (Tabs.on TB0.out hb1)
  have BX := Lib.hid (Blk.under BX0.out hb1 (Blk.lt BX0.out))
  have T := Lib.hid (below_on hb1 HW.out)
  clear hb1 HV TB0 BX0
  obtain ⟨x0, x1, x2, x3, x4, x5, x6, x7, x8, x9, x10, x11, x12⟩ := Blk.cells13 BX.out
  cases hvb : validT m.body with
  | false =>
    go_wp2_with fail
    go_ret
    exact ⟨false, rfl, (fun h => by cases h), T.out⟩
  | true =>
    have HVB := Lib.hid hvb
    clear hvb
    go_wp2_with fail
    refine (name_any m.topic _ HTR.out.1 TB.out).mono ?_
    rintro e w2 ⟨⟨r2, rfl⟩, hb2⟩
    clear x0 x1 x2 x3 x4 x5 x6 x7 x8 x9 x10 x11 x12
    replace TB := Lib.hid (Tabs.on TB.out hb2)
    replace BX := Lib.hid (Blk.under BX.out hb2 (Blk.lt BX.out))
    replace T := Lib.hid (below_on hb2 T.out)
    clear hb2
    obtain ⟨x0, x1, x2, x3, x4, x5, x6, x7, x8, x9, x10, x11, x12⟩ := Blk.cells13 BX.out
    cases r2 with
    | false =>
      go_wp2_with fail
      go_ret
      exact ⟨false, rfl, (fun h => by cases h), T.out⟩
    | true =>
      cases hre : m.reply.toList.isEmpty with
      | true =>
        go_wp2_with fail
        refine (tick_any m.tat _).mono ?_
        rintro e _ ⟨rfl, rfl⟩
        cases ht0 : tickB m.tat with
        | false =>
          go_wp2_with fail
          go_ret
          exact ⟨false, rfl, (fun h => by cases h), T.out⟩
        | true =>
          go_wp2_with fail
          refine (tick_any m.til _).mono ?_
          rintro e _ ⟨rfl, rfl⟩
          cases ht1 : tickB m.til with
          | false =>
            go_wp2_with fail
            go_ret
            exact ⟨false, rfl, (fun h => by cases h), T.out⟩
          | true =>
            have HT1 := Lib.hid ht1
            clear ht0 ht1
            by_cases hp0 : 0 ≤ m.hops
            · go_wp2_with fail
              go_ret
              exact ⟨_, rfl, (fun _ => ⟨HVB.out, tick_of HT1.out⟩), T.out⟩
            · go_wp2_with fail
              go_ret
              exact ⟨false, rfl, (fun h => by cases h), T.out⟩
      | false =>
        go_wp2_with fail
        refine (name_any m.reply _ HTR.out.2 TB.out).mono ?_
        rintro e w3 ⟨⟨r3, rfl⟩, hb3⟩
        clear x0 x1 x2 x3 x4 x5 x6 x7 x8 x9 x10 x11 x12
        replace TB := Lib.hid (Tabs.on TB.out hb3)
        replace BX := Lib.hid (Blk.under BX.out hb3 (Blk.lt BX.out))
        replace T := Lib.hid (below_on hb3 T.out)
        clear hb3
        obtain ⟨x0, x1, x2, x3, x4, x5, x6, x7, x8, x9, x10, x11, x12⟩ := Blk.cells13 BX.out
        cases r3 with
        | false =>
          go_wp2_with fail
          go_ret
          exact ⟨false, rfl, (fun h => by cases h), T.out⟩
        | true =>
          go_wp2_with fail
          refine (tick_any m.tat _).mono ?_
          rintro e _ ⟨rfl, rfl⟩
          cases ht0 : tickB m.tat with
          | false =>
            go_wp2_with fail
            go_ret
            exact ⟨false, rfl, (fun h => by cases h), T.out⟩
          | true =>
            go_wp2_with fail
            refine (tick_any m.til _).mono ?_
            rintro e _ ⟨rfl, rfl⟩
            cases ht1 : tickB m.til with
            | false =>
              go_wp2_with fail
              go_ret
              exact ⟨false, rfl, (fun h => by cases h), T.out⟩
            | true =>
              have HT1 := Lib.hid ht1
              clear ht0 ht1
              by_cases hp0 : 0 ≤ m.hops
              · go_wp2_with fail
                go_ret
                exact ⟨_, rfl, (fun _ => ⟨HVB.out, tick_of HT1.out⟩), T.out⟩
              · go_wp2_with fail
                go_ret
                exact ⟨false, rfl, (fun h => by cases h), T.out⟩

def FitB (l : List MX) (since a : Int) : Prop := (l.length : Int) < a ∧ 0 ≤ since ∧ since ≤ 1099511627776 ∧ (l = [] → since = 0) ∧ ∀ m ∈ l, FitX m
set_option maxHeartbeats 8000000 in
set_option maxRecDepth 100000 in
theorem fitbuf_any (l : List MX) (since a0 : Int) (a : Option Addr) (n c : Nat) (w : World) (S : Nat → Prop) (hrow : RM w S l a n c) (hS : ∀ b, S b → b < w.heap.size) (hT : Tabs w) (ha : a0 ≤ 1000) :
    Calls Tryd.prog 43 #[.agg #[.slice a n c, .int .i64 since], .int .i64 a0] w (FitPost (FitB l since a0) w) := by
  obtain rfl : n = l.length := hrow.1
  have HROW := Lib.hid hrow
  have HS := Lib.hid hS
  have HW : Hid (Below w.heap.size w (w.alloc (.cells #[.slice a l.length c, .int .i64 since] 24))) := by show Below _ _ _; go_grown
  have BX : Hid (Blk (w.alloc (.cells #[.slice a l.length c, .int .i64 since] 24)) w.heap.size 24 #[.slice a l.length c, .int .i64 since]) := Blk.new _ _ _
  have TB := Lib.hid (Tabs.on hT HW.out)
  clear hrow hS hT
  go_enter Tryd.func43, Tryd.ntmps43
  by_cases h1 : a0 ≤ (l.length : Int)
  · go_wp2_with fail
    go_ret
    exact ⟨false, rfl, (fun h => by cases h), HW.out⟩
  · go_wp2_with fail
    refine (tick_any since _).mono ?_
    rintro e _ ⟨rfl, rfl⟩
    cases ht : tickB since with
    | false =>
      go_wp2_with fail
      go_ret
      exact ⟨false, rfl, (fun h => by cases h), HW.out⟩
    | true =>
      have HT := Lib.hid ht
      clear ht
      by_cases h2 : (l.length : Int) = 0
      · have e2 : ((l.length : Int) == 0) = true := by rw [h2]; rfl
        by_cases h3 : since = 0
        · have e3 : (since != 0) = false := by rw [h3]; rfl
          have H3 := Lib.hid h3
          clear h3
          obtain rfl : l = [] := List.length_eq_zero_iff.1 (by omega)
          clear h2
          have ha0 : (0 : Int) < a0 := by simp at h1; omega
          go_wp2_with fail
          go_loopw [5] (fun iv wr => ∃ j : Nat, iv = .int .i64 j ∧ j ≤ 0 ∧ wr = w.alloc (.cells #[.slice a 0 c, .int .i64 since] 24)) (fun i _ => 0 - (intOf i).toNat)
          case atStart => exact ⟨0, rfl, Nat.zero_le _, rfl⟩
          case round =>
            obtain ⟨j, rfl, hj, rfl⟩ := hrel
            obtain rfl : j = 0 := by omega
            go_wp2_with fail
            go_ret
            exact ⟨true, rfl, (fun _ => ⟨ha0, (tick_of HT.out).1, (tick_of HT.out).2, fun _ => H3.out, fun m hm => by cases hm⟩), HW.out⟩
        · have e3 : (since != 0) = true := by rw [bne_iff_ne]; exact h3
          go_wp2_with fail
          go_ret
          exact ⟨false, rfl, (fun h => by cases h), HW.out⟩
      · have e2 : ((l.length : Int) == 0) = false := beq_eq_false_iff_ne.2 h2
        have hl0 : l ≠ [] := by rintro rfl; exact h2 rfl
        go_wp2_with fail
        go_loopw [5] (fun iv wr => ∃ j : Nat, iv = .int .i64 j ∧ j ≤ l.length ∧ (∀ m ∈ l.take j, FitX m) ∧ Blk wr w.heap.size 24 #[.slice a l.length c, .int .i64 since] ∧ Below w.heap.size w wr ∧ Tabs wr) (fun i _ => l.length - (intOf i).toNat)
        case atStart => exact ⟨0, rfl, Nat.zero_le _, fun _ h => absurd h (by simp), BX.out, HW.out, TB.out⟩
        case round =>
          obtain ⟨j, rfl, hj, hfit, hb, hbel, htb⟩ := hrel
          have HFI := Lib.hid hfit
          have HB := Lib.hid hb
          have HTB := Lib.hid htb
          have T := Lib.hid hbel
          have c0 : wr.cell? ⟨w.heap.size, 0, none⟩ = some (.slice a l.length c) := Blk.cell HB.out 0
          clear hfit hb htb
          by_cases hlt : j < l.length
          · obtain ⟨g, o, x, xs, rfl, hSg, hx, hm, hxl, hr⟩ := HROW.out.get hlt
            have hr2 : wr.rangeAt g (o + j * 13) xs := rangeAt_keep hr fun q => hbel.cell (p := ⟨g, q, none⟩) (HS.out g hSg)
            have HF := Lib.hid (fitmsg_any x wr S _ (hm.under hbel HS.out) (fun b hb => Nat.lt_of_lt_of_le (HS.out b hb) hbel.size) HTB.out)
            obtain ⟨kx, ix, bx, sx, ax, nx, cx, rfl, -, -, -⟩ := hm
            have HX := Lib.hid hx
            have hj0 : (0 : Int) ≤ (j : Int) := by omega
            have hj1 : (j : Int) < (l.length : Int) := by omega
            clear hr hx hxl hbel
            go_wp2_with (refine wpList_load_blk rfl 30 _ rfl g (o + j * 13) rfl [.int .i64 x.id, .string x.topic, .int .i64 kx, .int .i64 ix, .int .u64 bx, .string sx, .slice ax nx cx, .int .i64 x.tat, .int .i64 x.til, .string x.reply, .int .i64 x.corr, .int .i64 x.prio, .int .i64 x.hops] _ hr2 Tryd.underlying30 rfl sizeM ?_)
            refine HF.out.mono ?_
            rintro e w1 ⟨r, rfl, hr1, hb1⟩
            have HR1 := Lib.hid hr1
            replace HB := Lib.hid (Blk.under HB.out hb1 (Blk.lt HB.out))
            replace HTB := Lib.hid (Tabs.on HTB.out hb1)
            replace T := Lib.hid (below_on hb1 T.out)
            clear hb1 hr1 hr2 HF c0
            cases r with
            | false =>
              go_wp2_with fail
              go_ret
              exact ⟨false, rfl, (fun h => by cases h), T.out⟩
            | true =>
              have hnew : ∀ m ∈ l.take (j + 1), FitX m := by
                rw [← take_snoc HX.out]
                intro m hm
                rcases List.mem_append.1 hm with hm | hm
                · exact HFI.out m hm
                · rw [List.mem_singleton.1 hm]; exact HR1.out rfl
              have HNEW := Lib.hid hnew
              clear hnew
              go_wp2_with fail
              go_roundw
              case rel => first | exact ⟨j + 1, by go_num, by omega, HNEW.out, HB.out, T.out, HTB.out⟩ | ((repeat apply Exists.intro); exact ⟨⟨j + 1, by go_num, by omega, HNEW.out, HB.out, T.out, HTB.out⟩, by first | rfl | exact ⟨rfl, rfl⟩⟩)
              case measure => simp [intOf]; omega
          · obtain rfl : j = l.length := by omega
            go_wp2_with fail
            go_ret
            refine ⟨true, rfl, (fun _ => ⟨by omega, (tick_of HT.out).1, (tick_of HT.out).2, fun h => absurd h hl0, fun m hm => HFI.out m (by rw [List.take_length]; exact hm)⟩), T.out⟩

def FitLaw (l : List MX) (since a b now : Int) : Prop := 1 ≤ a ∧ a ≤ 1000 ∧ 0 ≤ b ∧ b ≤ 1000000 ∧ 0 ≤ now ∧ now ≤ 1099511627776 ∧ FitB l since a
set_option maxHeartbeats 8000000 in
set_option maxRecDepth 100000 in
theorem fitlaw_any (l : List MX) (since a0 b now : Int) (a : Option Addr) (n c : Nat) (w : World) (S : Nat → Prop) (hrow : RM w S l a n c) (hS : ∀ b, S b → b < w.heap.size) (hT : Tabs w) :
    Calls Tryd.prog 10 #[.agg #[.slice a n c, .int .i64 since], .int .i64 a0, .int .i64 b, .int .i64 now] w (FitPost (FitLaw l since a0 b now) w) := by
  have hW : Below w.heap.size w (w.alloc (.cells #[.slice a n c, .int .i64 since] 24)) := by go_grown
  by_cases h1 : 1 ≤ a0 ∧ a0 ≤ 1000 ∧ 0 ≤ b ∧ b ≤ 1000000 ∧ 0 ≤ now ∧ now ≤ 1099511627776
  · obtain ⟨g1, g2, g3, g4, g5, g6⟩ := h1
    have HF := Lib.hid (fitbuf_any l since a0 a n c _ S (RM.under hrow hW hS) (fun b hb => Nat.lt_of_lt_of_le (hS b hb) hW.size) (Tabs.on hT hW) g2)
    have HW := Lib.hid hW
    have HG : Hid (1 ≤ a0 ∧ a0 ≤ 1000 ∧ 0 ≤ b ∧ b ≤ 1000000 ∧ 0 ≤ now ∧ now ≤ 1099511627776) := ⟨g1, g2, g3, g4, g5, g6⟩
    clear hW hrow hS hT
    go_enter Tryd.func10, Tryd.ntmps10
    go_wp2_with fail
    refine HF.out.mono ?_
    rintro e w1 ⟨r, rfl, hr1, hb1⟩
    have T := below_on hb1 HW.out
    have HR := Lib.hid hr1
    clear hb1 hr1 HF
    go_wp2_with fail
    go_ret
    exact ⟨r, rfl, fun h => ⟨HG.out.1, HG.out.2.1, HG.out.2.2.1, HG.out.2.2.2.1, HG.out.2.2.2.2.1, HG.out.2.2.2.2.2, HR.out h⟩, T⟩
  · have HW := Lib.hid hW
    clear hW hrow hS hT
    have ends : ∀ e, e = Ending.returned (.bool false) → FitPost (FitLaw l since a0 b now) w e (w.alloc (.cells #[.slice a n c, .int .i64 since] 24)) := fun e he => ⟨false, he, (fun h => by cases h), HW.out⟩
    by_cases g1 : 1 ≤ a0
    · by_cases g2 : a0 ≤ 1000
      · by_cases g3 : 0 ≤ b
        · by_cases g4 : b ≤ 1000000
          · by_cases g5 : 0 ≤ now
            · have g6 : ¬ (now ≤ 1099511627776) := fun g6 => h1 ⟨g1, g2, g3, g4, g5, g6⟩
              clear h1
              go_enter Tryd.func10, Tryd.ntmps10
              go_wp2_with fail
              go_ret
              exact ends _ rfl
            · clear h1
              go_enter Tryd.func10, Tryd.ntmps10
              go_wp2_with fail
              go_ret
              exact ends _ rfl
          · clear h1
            go_enter Tryd.func10, Tryd.ntmps10
            go_wp2_with fail
            go_ret
            exact ends _ rfl
        · clear h1
          go_enter Tryd.func10, Tryd.ntmps10
          go_wp2_with fail
          go_ret
          exact ends _ rfl
      · clear h1
        go_enter Tryd.func10, Tryd.ntmps10
        go_wp2_with fail
        go_ret
        exact ends _ rfl
    · clear h1
      go_enter Tryd.func10, Tryd.ntmps10
      go_wp2_with fail
      go_ret
      exact ends _ rfl
end Go.Proofs.YtmdcfmdjbncaoaaDoor
