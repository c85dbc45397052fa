/- tries: the iterator of Run. -/
import Derived.Test.YtmdcfmdjbncaoaaAg
import Derived.Test.YtmdcfmdjbncaoaaRf
namespace Go.Proofs.Ytmdcfmdjbncaoaa
open Go.RowKit Go.Shelf
attribute [local go_sem] Oper.semAt_some

/-- A result as the machine has it. -/
structure RV where
  err : Int
  code : Int
  pk : Int
  pn : Int
  has : Bool
  k : Int
  i : Int
  b : Int
  s : ByteArray
  a : Option Addr
  n : Nat
  c : Nat
def RV.cells (r : RV) : List Value := [.int .i64 r.err, .int .i64 r.code, .int .i64 r.pk, .int .i64 r.pn, .bool r.has, .int .i64 r.k, .int .i64 r.i, .int .u64 r.b, .string r.s, .slice r.a r.n r.c]
def RV.again (r : RV) : Bool := againB r.err r.code r.pk
def RV.val (r : RV) : Value := .agg #[.int .i64 r.err, .int .i64 r.code, .int .i64 r.pk, .int .i64 r.pn, .bool r.has, .int .i64 r.k, .int .i64 r.i, .int .u64 r.b, .string r.s, .slice r.a r.n r.c]

/-- How many tries are made, from place i on. -/
def tryN (most : Int) : Nat → List RV → Nat
  | _, [] => 0
  | i, r :: l => if r.again = true ∧ (i : Int) + 1 < most then 1 + tryN most (i + 1) l else 1
theorem tryN_le (most : Int) : ∀ (l : List RV) (i : Nat), tryN most i l ≤ l.length
  | [], _ => by simp [tryN]
  | r :: l, i => by
    rw [tryN]
    have := tryN_le most l (i + 1)
    split <;> simp <;> omega
theorem tryN_stop {most : Int} {l : List RV} {i : Nat} {r : RV} (hx : l[i]? = some r) (h : ¬ (r.again = true ∧ (i : Int) + 1 < most)) : tryN most i (l.drop i) = 1 := by
  obtain ⟨hi, rfl⟩ := List.getElem?_eq_some_iff.1 hx
  rw [List.drop_eq_getElem_cons hi, tryN, if_neg h]
theorem tryN_more {most : Int} {l : List RV} {i : Nat} {r : RV} (hx : l[i]? = some r) (h1 : r.again = true) (h2 : (i : Int) + 1 < most) : tryN most i (l.drop i) = 1 + tryN most (i + 1) (l.drop (i + 1)) := by
  obtain ⟨hi, rfl⟩ := List.getElem?_eq_some_iff.1 hx
  rw [List.drop_eq_getElem_cons hi, tryN, if_pos ⟨h1, h2⟩]

set_option maxHeartbeats 1000000 in
theorem tries_any (most : Int) (a : Option Addr) (n c : Nat) (w : World) :
    Calls Try.prog 34 #[.int .i64 most, .slice a n c] w fun e w' => e = .returned (.func (.func 46) #[] #[.pointer (some ⟨w.heap.size + 1, 0, none⟩), .pointer (some ⟨w.heap.size, 0, none⟩)]) ∧
      w' = (w.alloc (.cells #[.int .i64 most] 2)).alloc (.cells #[.slice a n c] 34) := by
  go_enter Try.func34, Try.ntmps34
  go_wp2_with fail
  go_ret
  exact ⟨rfl, rfl⟩

def TW (W : World) (Z : Nat → Prop) (J : List RV → World → Prop) (most : Int) (vs : List RV) (iv : Value) (wr : World) : Prop :=
  ∃ k : Nat, iv = .int .i64 k ∧ k ≤ vs.length ∧ k + tryN most k (vs.drop k) = tryN most 0 vs ∧ J (vs.take k) wr ∧ KC Z W wr

set_option maxRecDepth 100000 in
set_option maxHeartbeats 4000000 in
theorem tries1_in (N : Nat) (hn : 3 ≤ N) (L Bm Bl : Nat) (S Z : Nat → Prop) (vs : List RV) (a : Option Addr) (n c : Nat) (most : Int) (J Jx : List RV → World → Prop)
    (W : World) (NJ : Nat) (hJ : AbidesFrom NJ J)
    (hY : ∀ pre x W1, J pre W1 → pre.length < vs.length → YieldAt Fence.wide (N - 1) Try.prog L #[x.val] W1 fun e W' =>
      (e = .returned (.bool true) ∧ J (pre ++ [x]) W' ∧ KC Z W1 W') ∨ (e = .returned (.bool false) ∧ Jx (pre ++ [x]) W'))
    (hBl : W.cell? ⟨Bl, 0, none⟩ = some (.slice a n c)) (hBm : W.cell? ⟨Bm, 0, none⟩ = some (.int .i64 most)) (hm : most ≤ 9223372036854775807) (hrow : RowsOf (fun (r : RV) cs => cs = r.cells) 10 W S vs a n c)
    (hZm : ¬ Z Bm) (hZS : ∀ b, S b → ¬ Z b ∧ b < W.heap.size) (hZ : ∀ b, Z b → b < W.heap.size) (h0 : J [] W) :
    CallsIn Fence.wide N Try.prog 46 #[.func (.yield L) #[] #[], .pointer (some ⟨Bl, 0, none⟩), .pointer (some ⟨Bm, 0, none⟩)] W fun e W' => (∃ v, e = .returned v) ∧
      ((∃ ys, ys = vs.take (tryN most 0 vs) ∧ J ys W') ∨ (∃ pre, True ∧ Jx pre W')) := by
  have hcl : c ≤ maxLen := hrow.2.2.1
  have hlc : n ≤ c := hrow.2.1
  have hnl : n = vs.length := hrow.1
  unfold maxLen at hcl
  have HROW := Lib.hid hrow
  have HZS := Lib.hid hZS
  have HZ := Lib.hid hZ
  have HY := Lib.hid hY
  have HJ := Lib.hid hJ
  subst hnl
  clear hrow hZS hZ hY hJ
  refine callsIn_of_wp Try.func46 rfl trivial ?_ rfl
  simp only [Try.ntmps46, List.size_toArray, List.length_cons, List.length_nil, Nat.reduceAdd, Nat.reduceSub, Array.replicate_succ, Array.replicate_zero, List.push_toArray, List.append_toArray, List.nil_append, List.cons_append]
  gi_wp2
  gi_loopw [8] (TW W Z J most vs) (fun i _ => vs.length - (intOf i).toNat)
  case atStart => exact ⟨0, rfl, Nat.zero_le _, by simp, h0, KC.refl _ _⟩
  case round =>
    obtain ⟨k, rfl, hk, htr, hJk, hkc⟩ := hrel
    have HTR := Lib.hid htr
    have HJK := Lib.hid hJk
    have hszk := hkc.size
    clear htr hJk
    by_cases hlt : k < vs.length
    · obtain ⟨g, o, x, xs, rfl, hSg, hx, rfl, hxl, hr⟩ := HROW.out.get hlt
      have hr2 := hkc.range (HZS.out g hSg).1 hr
      have HX := Lib.hid hx
      have HR := Lib.hid hr
      have d0 := hr2 0 _ rfl
      have d1 := hr2 1 _ rfl
      have d2 := hr2 2 _ rfl
      have d3 := hr2 3 _ rfl
      have d4 := hr2 4 _ rfl
      have d5 := hr2 5 _ rfl
      have d6 := hr2 6 _ rfl
      have d7 := hr2 7 _ rfl
      have d8 := hr2 8 _ rfl
      have d9 := hr2 9 _ rfl
      simp only [Nat.add_zero] at d0
      have htk : vs.take k ++ [x] = vs.take (k + 1) := by rw [List.take_add_one, hx]; rfl
      have HTK := Lib.hid htk
      clear hr hr2 hx hxl htk
      have hNB : Blk (wr.alloc (.cells x.cells.toArray 30)) wr.heap.size 30 x.cells.toArray := Blk.new _ _ _
      have hJ1 : J (vs.take k) (wr.alloc (.cells x.cells.toArray 30)) := abides_below HJ.out ((Below.refl _ _).alloc (Nat.le_refl _) _) HJK.out
      obtain ⟨fn, tmps, assign, body, hy, hR⟩ := HY.out (vs.take k) x _ hJ1 (by simp; omega)
      have hbm1 : (wr.alloc (.cells x.cells.toArray 30)).cell? ⟨Bm, 0, none⟩ = some (.int .i64 most) := (hkc.alloc _).cell hZm hBm
      have hkc1 := hkc.alloc (.cells x.cells.toArray 30)
      have hnz : ¬ Z wr.heap.size := fun h => by have := HZ.out _ h; omega
      simp only [RV.cells, RV.val] at hNB hy hbm1 hkc1
      have HNB := Lib.hid hNB
      have HBM := Lib.hid hbm1
      have HKC1 := Lib.hid hkc1
      clear hNB hbm1 hkc1 hJ1
      have hkm : (k : Int) + 1 ≤ 9223372036854775807 := by omega
      gi_wp2
      refine ⟨fun _ => by omega, hR.mono ?_⟩
      rintro e W3 (⟨rfl, hJ3, hk3⟩ | ⟨rfl, hJx3⟩)
      · have hB3 := hk3.blk hnz HNB.out
        have hbm3 := hk3.cell hZm HBM.out
        have e0 := hB3.cell 0
        have e1 := hB3.cell 1
        have e2 := hB3.cell 2
        have e3 := hB3.cell 3
        have e4 := hB3.cell 4
        have e5 := hB3.cell 5
        have e6 := hB3.cell 6
        have e7 := hB3.cell 7
        have e8 := hB3.cell 8
        have e9 := hB3.cell 9
        simp only [List.getElem?_toArray, List.getElem?_cons_succ, List.getElem?_cons_zero] at e0 e1 e2 e3 e4 e5 e6 e7 e8 e9
        have HJ3 := Lib.hid hJ3
        have HK3 := Lib.hid hk3
        clear hB3 hJ3 hk3 hy hR d0 d1 d2 d3 d4 d5 d6 d7 d8 d9
        have hag := again_any x.err x.code x.pk x.pn x.has (.int .i64 x.k) (.int .i64 x.i) (.int .u64 x.b) (.string x.s) (.slice x.a x.n x.c) W3
        cases hb : x.again with
        | false =>
          have hb' : againB x.err x.code x.pk = false := hb
          rw [hb'] at hag
          have HAG := Lib.hid hag
          have HB := Lib.hid hb
          clear hag hb hb'
          gi_wp2
          refine ⟨trivial, fun _ => by omega, (callsIn_wide.2 HAG.out).mono ?_⟩
          rintro e w4 ⟨rfl, hb4⟩
          have hJ4 : J (vs.take k ++ [x]) w4 := abides_below HJ.out hb4 HJ3.out
          have hJe : J (vs.take (tryN most 0 vs)) w4 := by
            rw [← HTR.out, tryN_stop HX.out (by rw [HB.out]; simp), ← HTK.out]
            exact hJ4
          have HJE := Lib.hid hJe
          clear hJ4 hJe hb4
          gi_wp2
          refine bodyPost_ret (results_none rfl _ _ _) rfl ?_
          exact ⟨⟨_, rfl⟩, .inl ⟨_, rfl, HJE.out⟩⟩
        | true =>
          have hb' : againB x.err x.code x.pk = true := hb
          rw [hb'] at hag
          have HAG := Lib.hid hag
          have HB := Lib.hid hb
          clear hag hb hb'
          gi_wp2
          refine ⟨trivial, fun _ => by omega, (callsIn_wide.2 HAG.out).mono ?_⟩
          rintro e w4 ⟨rfl, hb4⟩
          have hJ4 : J (vs.take k ++ [x]) w4 := abides_below HJ.out hb4 HJ3.out
          have hbm4 : w4.cell? ⟨Bm, 0, none⟩ = some (.int .i64 most) := (KC.of_below (Z := Z) hb4).cell hZm hbm3
          have HKC4 : Hid (KC Z W w4) := (HKC1.out.trans HK3.out).trans (KC.of_below hb4)
          have HJ4 := Lib.hid hJ4
          clear hJ4 hb4 hbm3 e0 e1 e2 e3 e4 e5 e6 e7 e8 e9
          by_cases hlast : most ≤ (k : Int) + 1
          · have hJe : J (vs.take (tryN most 0 vs)) w4 := by
              rw [← HTR.out, tryN_stop HX.out (by omega), ← HTK.out]
              exact HJ4.out
            have HJE := Lib.hid hJe
            clear hJe
            gi_wp2
            refine bodyPost_ret (results_none rfl _ _ _) rfl ?_
            exact ⟨⟨_, rfl⟩, .inl ⟨_, rfl, HJE.out⟩⟩
          · have hlast2 : (k : Int) + 1 < most := by omega
            have htr2 : (k + 1) + tryN most (k + 1) (vs.drop (k + 1)) = tryN most 0 vs := by rw [← HTR.out, tryN_more HX.out HB.out hlast2]; omega
            have HTR2 := Lib.hid htr2
            have hdl : decide (most ≤ (k : Int) + 1) = false := by simpa using hlast2
            have HL2 := Lib.hid hlast2
            clear htr2 hlast hlast2
            gi_wp2
            trace_state
            go_roundw
            case rel => exact ⟨k + 1, by go_num, by omega, HTR2.out, HTK.out ▸ HJ4.out, HKC4.out⟩
            case measure => simp [intOf]; omega
      · gi_wp2
        refine ⟨trivial, ?_⟩
        gi_wp2
        refine bodyPost_ret (results_none rfl _ _ _) rfl ?_
        exact ⟨⟨_, rfl⟩, .inr ⟨_, trivial, hJx3⟩⟩
    · obtain rfl : k = vs.length := by omega
      have hJe : J (vs.take (tryN most 0 vs)) wr := by
        have h1 := HTR.out
        rw [List.drop_length, tryN] at h1
        rw [← h1]
        exact HJK.out
      have HJE := Lib.hid hJe
      clear hJe
      gi_wp2
      go_end0
      exact ⟨⟨_, rfl⟩, .inl ⟨_, rfl, HJE.out⟩⟩
end Go.Proofs.Ytmdcfmdjbncaoaa
