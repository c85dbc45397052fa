/- Timer: the walk of TimerNobody. -/
import Derived.Test.YtcgchccppoignaaTmS
namespace Go.Proofs.Ytcgchccppoignaa
open Go.RowKit
attribute [local go_sem ↓] Go.wp_at_zero Go.wp_at_succ
attribute [local go_sem] Go.undef

def NoW (v : Value) (w : World) : Prop := Calls Try.prog 21 #[v] w fun e w' => e = .returned (.bool true) ∧ w = w'
section
variable {v : Value} {w : World}
set_option maxHeartbeats 4000000 in
theorem nobody_next (h : NoW v w) : Calls Try.prog 18 #[v] w fun e w' => e = .returned (.tuple #[.int .i64 0, .bool false]) ∧ w = w' := by
  have HN := Lib.hid h
  clear h
  go_enter Try.func18, Try.ntmps18
  go_wp2_with fail
  refine Calls.mono HN.out ?_
  rintro e w1 ⟨rfl, rfl⟩
  go_wp2_with fail
  refine bodyPost_ret (results_tmp2 rfl _ _ _) rfl ?_
  exact ⟨rfl, rfl⟩
set_option maxHeartbeats 4000000 in
theorem nobody_add (h : NoW v w) (a q : Int) : Calls Try.prog 20 #[v, .int .i64 a, .int .i64 q] w fun e w' => e = .returned (.bool false) ∧ w = w' := by
  have HN := Lib.hid h
  clear h
  go_enter Try.func20, Try.ntmps20
  go_wp2_with fail
  refine Calls.mono HN.out ?_
  rintro e w1 ⟨rfl, rfl⟩
  go_wp2_with fail
  go_ret
  exact ⟨rfl, rfl⟩
set_option maxHeartbeats 4000000 in
theorem nobody_cancel (h : NoW v w) (q : Int) : Calls Try.prog 19 #[v, .int .i64 q] w fun e w' => e = .returned (.bool false) ∧ w = w' := by
  have HN := Lib.hid h
  clear h
  go_enter Try.func19, Try.ntmps19
  go_wp2_with fail
  refine Calls.mono HN.out ?_
  rintro e w1 ⟨rfl, rfl⟩
  go_wp2_with fail
  go_ret
  exact ⟨rfl, rfl⟩
set_option maxHeartbeats 4000000 in
theorem nobody_go (h : NoW v w) (a : Int) : Calls Try.prog 10 #[v, .int .i64 a] w fun e w' => e = .returned (.slice none 0 0) ∧ w = w' := by
  have HN := Lib.hid h
  clear h
  go_enter Try.func10, Try.ntmps10
  go_wp2_with fail
  go_step3
  go_wp2_with fail
  refine Calls.mono HN.out ?_
  rintro e w1 ⟨rfl, rfl⟩
  go_wp2_with fail
  first | rw [Exit.noGoto_ret] | skip
  go_ret
  exact ⟨rfl, rfl⟩
set_option maxHeartbeats 4000000 in
theorem nobody_now (h : NoW v w) : Calls Try.prog 8 #[v] w fun e w' => e = .returned (.int .i64 0) ∧ w = w' := by
  have HN := Lib.hid h
  clear h
  go_enter Try.func8, Try.ntmps8
  go_wp2_with fail
  refine Calls.mono HN.out ?_
  rintro e w1 ⟨rfl, rfl⟩
  go_wp2_with fail
  go_ret
  exact ⟨rfl, rfl⟩
set_option maxHeartbeats 4000000 in
theorem nobody_len (h : NoW v w) : Calls Try.prog 12 #[v] w fun e w' => e = .returned (.int .i64 0) ∧ w = w' := by
  have HN := Lib.hid h
  clear h
  go_enter Try.func12, Try.ntmps12
  go_wp2_with fail
  refine Calls.mono HN.out ?_
  rintro e w1 ⟨rfl, rfl⟩
  go_wp2_with fail
  go_ret
  exact ⟨rfl, rfl⟩
end
def zeroWheel : List Value := .bool false :: .int .i64 0 :: .int .i64 0 :: (ringCells 448 ++ [.map none])
theorem built_zero : Try.prog.built 56 [] = some zeroWheel.toArray := by kernel_rfl
theorem wpList_build0 {P : Program} {ops : Array Oper} {rest : List Oper} {o : Oper} {a : Act} {w : World} {Q : Exit → Act → World → Prop} (hg : o.guard = none) (t : TypeId) (ho : o.op = .build t #[])
    (d : Option Tmp) (hd : o.dst = d) (cells : Array Value) (hf : P.built t [] = some cells)
    (h : ∀ V, V = Value.agg cells → wpList P ops Q rest (a.put d V) w) : wpList P ops Q (o :: rest) a w :=
  wpList_buildTo hg t _ ho d hd cells (by simpa using hf) (h _ rfl)
theorem wpList_box1 {P : Program} {ops : Array Oper} {rest : List Oper} {o : Oper} {a : Act} {w : World} {Q : Exit → Act → World → Prop} (hg : o.guard = none) (t : TypeId) (x : Operand) (ho : o.op = .box t x)
    (dst : Option Tmp) (hdst : o.dst = dst) (cells : Array Value) (V : Value) (hV : V = .agg cells) (hx : a.eval x = V)
    (h : ∀ w', Blk w' w.heap.size t cells → Below w.heap.size w w' → wpList P ops Q rest (a.put dst (.pointer (some ⟨w.heap.size, 0, none⟩))) w') : wpList P ops Q (o :: rest) a w :=
  Go.Great.wpList_boxTo hg t x ho dst hdst w.heap.size rfl cells (by rw [hx, hV]; rfl) (h _ (Blk.new _ _ _) ((Below.refl _ _).alloc (Nat.le_refl _) _))
set_option maxRecDepth 100000 in
set_option maxHeartbeats 16000000 in
theorem nobody_from (plain : Bool) (a q : Int) (w : World) :
    Calls Try.prog 6 #[.bool plain, .int .i64 a, .int .i64 q] w fun e w' => e = .returned (.bool true) ∧ Below w.heap.size w w' := by
  cases plain with
  | false =>
    have HN : Hid (NoW (.pointer none) w) := no_nil w
    go_enter Try.func6, Try.ntmps6
    simp only [Go.undef]
    go_upto_region 5 with fail
    go_loop [8] (fun iv => ∃ i : Nat, iv = .int .i64 i ∧ i ≤ 2) (fun iv => 2 - (intOf iv).toNat)
    case atStart => exact ⟨0, rfl, by omega⟩
    case round =>
      obtain ⟨i, rfl, hi⟩ := hrel
      by_cases hlt : i < 2
      · have H1 := Lib.hid (nobody_next HN.out)
        have H2 := Lib.hid (nobody_add HN.out a q)
        have H3 := Lib.hid (nobody_cancel HN.out q)
        have H4 := Lib.hid (nobody_go HN.out a)
        have H5 := Lib.hid (nobody_now HN.out)
        have H6 := Lib.hid (nobody_len HN.out)
        go_wp2_with fail
        refine H1.out.mono ?_
        rintro e w3 ⟨rfl, rfl⟩
        go_wp2_with fail
        refine H2.out.mono ?_
        rintro e w3 ⟨rfl, rfl⟩
        go_wp2_with fail
        refine H3.out.mono ?_
        rintro e w3 ⟨rfl, rfl⟩
        go_wp2_with fail
        refine H4.out.mono ?_
        rintro e w3 ⟨rfl, rfl⟩
        go_wp2_with fail
        refine H5.out.mono ?_
        rintro e w3 ⟨rfl, rfl⟩
        go_wp2_with fail
        refine H6.out.mono ?_
        rintro e w3 ⟨rfl, rfl⟩
        go_wp2_with fail
        go_round
        case rel => exact ⟨i + 1, by go_num, by omega⟩
        case measure => simp [intOf]; omega
      · obtain rfl : i = 2 := by omega
        go_wp2_with fail
        refine (awake_any _).mono ?_
        rintro e w3 ⟨rfl, hb3⟩
        have HB3 := Lib.hid hb3
        clear hb3
        go_wp2_with fail
        go_ret
        exact ⟨rfl, HB3.out⟩
  | true =>
    go_enter Try.func6, Try.ntmps6
    simp only [Go.undef]
    go_upto_region 4 with (first
      | (refine wpList_build0 rfl 56 rfl _ rfl zeroWheel.toArray built_zero ?_; intro V hV; have HV := Lib.hid hV; clear hV)
      | (refine wpList_box1 rfl 56 _ rfl _ rfl zeroWheel.toArray V HV.out rfl ?_; intro w1 hb1 hbe1; have HB1 := Lib.hid hb1; have HBE1 := Lib.hid hbe1; clear hb1 hbe1))
    have HN : Hid (NoW (pt w.heap.size 0) w1) := no_plain w.heap.size w1 ((HB1.out.cell 0).trans (by rw [List.getElem?_toArray]; rfl))
    go_upto_region 5 with fail
    go_loop [8] (fun iv => ∃ i : Nat, iv = .int .i64 i ∧ i ≤ 2) (fun iv => 2 - (intOf iv).toNat)
    case atStart => exact ⟨0, rfl, by omega⟩
    case round =>
      obtain ⟨i, rfl, hi⟩ := hrel
      by_cases hlt : i < 2
      · have H1 := Lib.hid (nobody_next HN.out)
        have H2 := Lib.hid (nobody_add HN.out a q)
        have H3 := Lib.hid (nobody_cancel HN.out q)
        have H4 := Lib.hid (nobody_go HN.out a)
        have H5 := Lib.hid (nobody_now HN.out)
        have H6 := Lib.hid (nobody_len HN.out)
        go_wp2_with fail
        refine H1.out.mono ?_
        rintro e w3 ⟨rfl, rfl⟩
        go_wp2_with fail
        refine H2.out.mono ?_
        rintro e w3 ⟨rfl, rfl⟩
        go_wp2_with fail
        refine H3.out.mono ?_
        rintro e w3 ⟨rfl, rfl⟩
        go_wp2_with fail
        refine H4.out.mono ?_
        rintro e w3 ⟨rfl, rfl⟩
        go_wp2_with fail
        refine H5.out.mono ?_
        rintro e w3 ⟨rfl, rfl⟩
        go_wp2_with fail
        refine H6.out.mono ?_
        rintro e w3 ⟨rfl, rfl⟩
        go_wp2_with fail
        go_round
        case rel => exact ⟨i + 1, by go_num, by omega⟩
        case measure => simp [intOf]; omega
      · obtain rfl : i = 2 := by omega
        go_wp2_with fail
        refine (awake_any _).mono ?_
        rintro e w3 ⟨rfl, hb3⟩
        have HB3 := Lib.hid hb3
        clear hb3
        go_wp2_with fail
        go_ret
        exact ⟨rfl, below_via HBE1.out HB3.out HBE1.out.size⟩
theorem walk_TimerNobody (plain : Bool) (a q : Int) (w : World) (_ : (Lit.int .i64 a).wf = true) (_ : (Lit.int .i64 q).wf = true) :
    Calls Try.prog 6 #[.bool plain, .int .i64 a, .int .i64 q] w fun e w' => e = .returned (.bool true) ∧ Below w.heap.size w w' := nobody_from plain a q w
end Go.Proofs.Ytcgchccppoignaa
