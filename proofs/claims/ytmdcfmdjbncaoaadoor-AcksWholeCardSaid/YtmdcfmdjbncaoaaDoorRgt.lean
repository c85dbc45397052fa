/- right, the reference's: what it gives of any tree. -/
import Derived.Test.YtmdcfmdjbncaoaaDoorV
namespace Go.Proofs.YtmdcfmdjbncaoaaDoor
open Go.RowKit
attribute [local go_sem ↓] Go.wp_at_zero Go.wp_at_succ

theorem shp_eight {k : Int} {x : Bool × Bool × Bool × Int} (h : shp k = some x) :
    x = (false, false, false, 0) ∨ x = (true, false, false, 0) ∨ x = (false, true, false, 0) ∨ x = (false, false, true, 0) ∨ x = (false, false, false, -1) ∨ x = (false, false, false, 2) ∨ x = (true, false, true, 0) ∨ x = (true, false, false, 1) := by
  unfold shp at h
  repeat' split at h
  all_goals first | (cases h; simp; done) | cases h

theorem right_no {k i b : Int} {t : ByteArray} {l : List Tree} (h : rightN k i b t l.length = false) : rightT (.node k i b t l) = false := by rw [rightT_node, h]; rfl
theorem ret_yes {x : Bool} (h : x = true) : Ending.returned (.bool true) = .returned (.bool x) := by rw [h]
theorem ret_no {x : Bool} (h : x = false) : Ending.returned (.bool false) = .returned (.bool x) := by rw [h]

def nokB (hi hb ht : Bool) (p i b : Int) (t : ByteArray) (n : Nat) : Bool := !fieldsB hi hb ht p i b t n
theorem nok_no {hi hb ht : Bool} {p i b : Int} {t : ByteArray} {n : Nat} (h : nokB hi hb ht p i b t n = true) : fieldsB hi hb ht p i b t n = false := by unfold nokB at h; simpa using h
theorem nok_yes {hi hb ht : Bool} {p i b : Int} {t : ByteArray} {n : Nat} (h : nokB hi hb ht p i b t n = false) : fieldsB hi hb ht p i b t n = true := by unfold nokB at h; simpa using h
/-- The loop over the parts. -/
def RW (w : World) (cells : Array Value) (l : List Tree) (iv : Value) (wr : World) : Prop :=
  ∃ j : Nat, iv = .int .i64 j ∧ j ≤ l.length ∧ (∀ (q : Nat) (x : Tree), q < j → l[q]? = some x → rightT x = true) ∧ Blk wr w.heap.size 28 cells ∧ Below w.heap.size w wr
def fld : Tree → Int × Int × Int × ByteArray × Nat | .node k i b t l => (k, i, b, t, l.length)

/-- What the switch leaves. -/
def SW (w : World) (k i : Int) (cells : Array Value) (s3 s4 s5 s6 : Value) (wx : World) : Prop :=
  ∃ hi hb ht p, shp k = some (hi, hb, ht, p) ∧ numB k i = true ∧ s3 = .bool hi ∧ s4 = .bool hb ∧ s5 = .bool ht ∧ s6 = .int .i64 p ∧ wx = w.alloc (.cells cells 28)

set_option maxHeartbeats 4000000 in
set_option maxRecDepth 100000 in
theorem right_any : ∀ (m : Nat) (t : Tree), t.high ≤ m → ∀ (w : World) (S : Nat → Prop) (cs : List Value), IsD w S t cs → (∀ b, S b → b < w.heap.size) →
    Calls Tryd.prog 62 #[.agg cs.toArray] w fun e w' => e = .returned (.bool (rightT t)) ∧ Below w.heap.size w w' := by
  intro m
  induction m with
  | zero => intro t ht; cases t; rw [Tree.high_node] at ht; omega
  | succ m ih =>
    intro t ht w S cs hd hS
    obtain ⟨k, i, b, s, l⟩ := t
    have HH : ∀ x ∈ l, x.high ≤ m := fun x hx => by have := high_mem hx; rw [Tree.high_node] at ht; omega
    obtain ⟨a, c, rfl, wk, wi, wb, ws, hrow⟩ := hd.open_
    have hcl : c ≤ maxLen := hrow.2.2.1
    have hlc : l.length ≤ c := hrow.2.1
    unfold maxLen at hcl ws
    have HROW := Lib.hid hrow
    have HHH := Lib.hid HH
    have HS := Lib.hid hS
    have IH := Lib.hid ih
    clear ht hd HH hrow hS ih wk wi wb
    go_enter Tryd.func62, Tryd.ntmps62
    go_upto_block 0 with fail
    go_cut [3, 4, 5, 6] from 8 to 44 (SW w k i #[.int .i64 k, .int .i64 i, .int .u64 b, .string s, .slice a l.length c])
    case first =>
      go_wp2_with fail
      all_goals (first
        | (subst_vars; go_meet; refine ⟨_, _, _, _, ?_, ?_, rfl, rfl, rfl, rfl, rfl⟩ <;> first | (simp [shp, *]; done) | (simp [numB, *]; done) | (simp [numB, *]; omega) | (simp_all [shp]; done) | (simp_all [numB]; done) | (simp_all [numB]; omega))
        | (subst_vars; go_ret; refine ⟨ret_no (right_no ?_), by go_grown⟩; first | (simp_all [rightN, shp, numB]; done) | (simp_all [rightN, shp, numB]; intro h; omega)))
    case rest =>
      obtain ⟨hi, hb, ht, p, hshp, hnum, rfl, rfl, rfl, rfl, rfl⟩ := hcut
      have HSH := Lib.hid hshp
      have HNU := Lib.hid hnum
      have h8 := shp_eight hshp
      clear hshp hnum
      go_upto_region 32 with fail
      go_cut [85] from 44 to 85 (fun s85 wx => s85 = .bool (nokB hi hb ht p i b s l.length) ∧ wx = w.alloc (.cells #[.int .i64 k, .int .i64 i, .int .u64 b, .string s, .slice a l.length c] 28))
      case first =>
        rcases h8 with h8 | h8 | h8 | h8 | h8 | h8 | h8 | h8
        all_goals
          simp only [Prod.mk.injEq] at h8
          obtain ⟨rfl, rfl, rfl, rfl⟩ := h8
          go_wp2_with fail
        all_goals
          subst_vars
          go_meet
          refine ⟨congrArg Value.bool ?_, rfl⟩
          unfold nokB
          first | (simp [fieldsB, *]; done) | (simp [fieldsB, *]; omega) | (simp_all [fieldsB]; done) | (simp_all [fieldsB]; omega) | (simp_all [fieldsB]; rw [Bool.eq_iff_iff]; simp; done) | (simp_all [fieldsB]; rw [Bool.eq_iff_iff]; simp; omega)
      case rest =>
        obtain ⟨rfl, rfl⟩ := hcut
        clear h8
        cases hf : nokB hi hb ht p i b s l.length with
        | true =>
          have hX : rightT (.node k i b s l) = false := right_no (by unfold rightN; rw [HSH.out]; simp [HNU.out, nok_no hf])
          have HX := Lib.hid hX
          clear hX hf
          go_wp2_with fail
          go_ret
          exact ⟨ret_no HX.out, by go_grown⟩
        | false =>
          have hX : rightT (.node k i b s l) = rightL l := by rw [rightT_node]; unfold rightN; rw [HSH.out]; simp [HNU.out, nok_yes hf]
          have HX := Lib.hid hX
          clear hX hf
          go_wp2_with fail
          go_loopw [89] (RW w #[.int .i64 k, .int .i64 i, .int .u64 b, .string s, .slice a l.length c] l) (fun i _ => l.length - (intOf i).toNat)
          case atStart => exact ⟨0, rfl, Nat.zero_le _, fun _ _ h => absurd h (by omega), Blk.new _ _ _, by go_grown⟩
          case round =>
            obtain ⟨j, rfl, hj, hall, hB, hbel⟩ := hrel
            have c4 := hB.cell 4
            simp only [List.getElem?_toArray, List.getElem?_cons_succ, List.getElem?_cons_zero] at c4
            have HALL := Lib.hid hall
            have HB := Lib.hid hB
            clear hall hB
            have hsz := hbel.size
            by_cases hlt : j < l.length
            · obtain ⟨g, o, x, xs, rfl, hSg, hx, hD, hxl, hr⟩ := HROW.out.get hlt
              have hr2 : wr.rangeAt g (o + j * 5) xs := rangeAt_keep hr fun q => hbel.cell (p := ⟨g, q, none⟩) (HS.out g hSg)
              have hD2 := hD.under hbel HS.out
              have hc := IH.out x (HHH.out x (List.mem_of_getElem? hx)) wr S xs hD2 (fun q hq => Nat.lt_of_lt_of_le (HS.out q hq) hsz)
              obtain ⟨ax, cx, hxs, hx8⟩ : ∃ ax cx, xs = [.int .i64 (fld x).1, .int .i64 (fld x).2.1, .int .u64 (fld x).2.2.1, .string (fld x).2.2.2.1, .slice ax (fld x).2.2.2.2 cx] ∧ True := by
                obtain ⟨kx, ix, bx, sx, lx⟩ := x
                obtain ⟨ax, cx, rfl, -, -, -, -, -⟩ := hD.open_
                exact ⟨ax, cx, rfl, trivial⟩
              have HXX := Lib.hid hx
              generalize fld x = fx at hxs
              obtain ⟨f1, f2, f3, f4, f5⟩ := fx
              subst hxs
              have d0 := hr2 0 _ rfl
              have d1 := hr2 1 _ rfl
              have d2 := hr2 2 _ rfl
              have d3 := hr2 3 _ rfl
              have d4 := hr2 4 _ rfl
              simp only [Nat.add_zero] at d0 d1 d2 d3 d4
              clear hx hr hr2 hD hD2 hxl hx8
              cases hb2 : rightT x with
              | true =>
                rw [hb2] at hc
                have HC := Lib.hid hc
                have HB2 := Lib.hid hb2
                clear hc hb2
                go_wp2_with fail
                refine HC.out.mono ?_
                rintro e w1 ⟨rfl, hb1⟩
                have hB1 : Below w.heap.size w w1 := hbel.trans (hb1.mono hsz)
                have HB1 : Hid (Blk w1 w.heap.size 28 _) := HB.out.under hb1 HB.out.lt
                clear c4 d0 d1 d2 d3 d4 hb1
                go_wp2_with fail
                go_roundw
                case rel =>
                  refine ⟨j + 1, by go_num, by omega, fun q y hq hy => ?_, HB1.out, hB1⟩
                  by_cases e : q = j
                  · subst e; rw [HXX.out] at hy; cases hy; exact HB2.out
                  · exact HALL.out q y (by omega) hy
                case measure => simp [intOf]; omega
              | false =>
                rw [hb2] at hc
                have hX2 : rightT (.node k i b s l) = false := by
                  rw [HX.out]
                  cases hL : rightL l with
                  | false => rfl
                  | true => rw [rightL_iff] at hL; have := hL x (List.mem_of_getElem? HXX.out); rw [hb2] at this; cases this
                have HC := Lib.hid hc
                have HX2 := Lib.hid hX2
                clear hc hb2 hX2
                go_wp2_with fail
                refine HC.out.mono ?_
                rintro e w1 ⟨rfl, hb1⟩
                have hB1 : Below w.heap.size w w1 := hbel.trans (hb1.mono hsz)
                clear c4 d0 d1 d2 d3 d4 hb1
                go_wp2_with fail
                go_ret
                exact ⟨ret_no HX2.out, hB1⟩
            · have hX2 : rightT (.node k i b s l) = true := by
                rw [HX.out, rightL_iff]
                intro x hx
                obtain ⟨q, hq, rfl⟩ := List.getElem_of_mem hx
                exact HALL.out q _ (by omega) (List.getElem?_eq_getElem hq)
              have HX2 := Lib.hid hX2
              clear hX2
              go_wp2_with fail
              go_ret
              exact ⟨ret_yes HX2.out, hbel⟩
end Go.Proofs.YtmdcfmdjbncaoaaDoor
