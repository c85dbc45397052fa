/- The reference: Shown, From, Who, Reach, Lost. -/
import Derived.Test.YtlnlefebcfnocaaYq
import Derived.Test.YtlnlefebcfnocaaYi
namespace Go.Proofs.Ytlnlefebcfnocaa
open Go.RowKit Go.Deep
attribute [local go_sem] Go.undef

set_option maxRecDepth 100000 in
set_option maxHeartbeats 8000000 in
theorem rshown_any (w : World) (S : Nat → Prop) (op num : Int) (c : Nat) (ws : List (WX × Value)) (a : Option Addr) (n d : Nat) (hr : Wraps w S ws a n d) (hS : ∀ b, S b → b < w.heap.size) (hn : n ≤ 1048575) (hc : c < 4294967296) :
    Calls Try.prog 25 #[.agg #[.int .i64 op, .int .i64 num, .int .u32 (c : Int), .slice a n d]] w fun e w' => e = .returned (.int .u32 (sh c ws n : Int)) ∧ Below w.heap.size w w' := by
  have hl := fun W (hb : Below w.heap.size w W) => rlevels_any W S op num c ws a n d (hr.under hb hS) (fun b h => Nat.lt_of_lt_of_le (hS b h) hb.size) (by omega) hc
  have HL := Lib.hid hl
  clear hl hr hS
  go_enter Try.func25, Try.ntmps25
  go_wp2_with fail
  refine (HL.out _ (by go_grown)).mono ?_
  rintro e w1 ⟨g, p, rfl, hp, hcs, hb⟩
  have hB1 : Below w.heap.size w w1 := below_on hb (by go_grown)
  have dl := hcs n (Nat.le_refl _)
  have hi : (n : Int) < (n : Int) + 1 := by omega
  clear hb hcs
  go_wp2_with fail
  go_ret
  exact ⟨rfl, hB1⟩

/-- The state of From's loop. -/
def LFR (w : World) (op num : Int) (c : Nat) (s : Value) (ws : List (WX × Value)) (k X : Int) (lv : Value) (wr : World) : Prop :=
  ∃ l : Nat, lv = .int .i64 (l : Int) ∧ l ≤ ws.length ∧ hasN (sh c ws l) k = true ∧ whoJ c ws k l = X ∧ Blk wr w.heap.size 28 #[.int .i64 op, .int .i64 num, .int .u32 (c : Int), s] ∧ Below w.heap.size w wr

set_option maxRecDepth 100000 in
set_option maxHeartbeats 8000000 in
theorem from_any (w : World) (S : Nat → Prop) (op num : Int) (c : Nat) (ws : List (WX × Value)) (a : Option Addr) (n d : Nat) (lev : Nat) (k : Int) (hlev : lev ≤ n) (hr : Wraps w S ws a n d) (hS : ∀ b, S b → b < w.heap.size) (hn : n ≤ 1048575) (hc : c < 4294967296) :
    Calls Try.prog 32 #[.agg #[.int .i64 op, .int .i64 num, .int .u32 (c : Int), .slice a n d], .int .i64 (lev : Int), .int .i64 k] w fun e w' => e = .returned (.int .i64 (whoJ c ws k lev)) ∧ Below w.heap.size w w' := by
  have hl := fun W (hb : Below w.heap.size w W) => rlevels_any W S op num c ws a n d (hr.under hb hS) (fun b h => Nat.lt_of_lt_of_le (hS b h) hb.size) (by omega) hc
  have HL := Lib.hid hl
  have HSH : Hid (∀ j, sh c ws j < 4294967296) := fun j => sh_lt hc hr.cap j
  have HR := Lib.hid hr
  have HS := Lib.hid hS
  obtain rfl : n = ws.length := hr.1
  have hcl : d ≤ maxLen := hr.2.2.1
  have hlc : ws.length ≤ d := hr.2.1
  unfold maxLen at hcl
  have hno : hasN (sh c ws lev) k = false → whoJ c ws k lev = -1 := (whoJ_law c ws k lev hlev).2.1
  have HNO := Lib.hid hno
  have hX : whoJ c ws k lev = whoJ c ws k lev := rfl
  obtain ⟨X, hX⟩ : ∃ X, X = whoJ c ws k lev := ⟨_, rfl⟩
  rw [← hX] at HNO ⊢
  have HX := Lib.hid hX
  clear hl hr hS hno hX
  go_enter Try.func32, Try.ntmps32
  simp only [Go.undef]
  go_wp2_with fail
  refine (HL.out _ (by go_grown)).mono ?_
  rintro e w1 ⟨g, p, rfl, hp, hcs, hb⟩
  have hB1 : Below w.heap.size w w1 := below_on hb (by go_grown)
  have HQ : Hid (Blk w1 w.heap.size 28 #[.int .i64 op, .int .i64 num, .int .u32 (c : Int), .slice a ws.length d]) := (Blk.new' _ _ _ (by simp)).under hb (by simp)
  have dl := hcs lev hlev
  have hi0 : (0 : Int) ≤ (lev : Int) := by omega
  have hi : (lev : Int) < (ws.length : Int) + 1 := by omega
  have hh := fun W => rhas_any W _ k (HSH.out lev)
  have HH := Lib.hid hh
  clear hb hcs hh
  cases hb : hasN (sh c ws lev) k with
  | false =>
    have hV := HNO.out hb
    rw [hb] at HH
    generalize sh c ws lev = SL at dl HH
    clear hb
    go_wp2_with fail
    refine (HH.out _).mono ?_
    rintro e w2 ⟨rfl, rfl⟩
    go_wp2_with fail
    go_ret
    exact ⟨ret_i hV.symm, hB1⟩
  | true =>
    have HBT := Lib.hid hb
    rw [hb] at HH
    have HLS : Hid (LFR w op num c (.slice a ws.length d) ws k X (.int .i64 (lev : Int)) w1) := ⟨lev, rfl, hlev, hb, HX.out.symm, HQ.out, hB1⟩
    clear hb
    generalize sh c ws lev = SL at dl HH HBT
    go_wp2_with fail
    refine (HH.out _).mono ?_
    rintro e w2 ⟨rfl, rfl⟩
    go_wp2_with fail
    go_loopw [1] (fun lv wr => LFR w op num c (.slice a ws.length d) ws k X lv wr) (fun lv _ => (intOf lv).toNat)
    case atStart => exact HLS.out
    case round =>
      clear dl
      obtain ⟨l, rfl, hl, hsl, hwl, hB, hbel⟩ := hrel
      cases l with
      | zero =>
        have hX0 : X = 0 := by
          rw [← hwl, whoJ_zero, if_pos]
          exact hsl
        go_wp2_with fail
        go_ret
        exact ⟨ret_i hX0.symm, hbel⟩
      | succ m =>
        have hmn : m < ws.length := by omega
        obtain ⟨gr, o, q, cs, rfl, hSg, hq, he, hlq, hat⟩ := RowsOf.get HR.out hmn
        rw [whoJ_succ hq, if_pos hsl] at hwl
        rw [sh_succ hq] at hsl
        have hbelow := fun h => shows_below hsl h
        obtain ⟨x, xv⟩ := q
        have hx : Cap x := he.2.2
        have hrg := fun W => rgives_any W x xv hx
        have hhg := fun W => rhas_any W (givesW x) k (givesW_lt hx)
        have hbelow' : hasN (givesW x) k = false → hasN (sh c ws m) k = true := fun h => hbelow (by rw [show givesN c (x :: (rv ws m).map Prod.fst) = givesW x from rfl, h]; simp)
        have HBW := Lib.hid hbelow'
        have HWL := Lib.hid hwl
        generalize givesW x = GW at hrg hhg HBW HWL
        generalize hasN GW k = b2 at hhg HBW HWL
        obtain ⟨op', xa, xb, caps, want, opn⟩ := x
        obtain ⟨wo, wn, wl⟩ := want
        obtain ⟨rfl, hw, hcap⟩ := he
        obtain ⟨va, vc, ve, -⟩ := hw.open_
        obtain rfl : xv = .slice va wl.length vc := by injection ve with _ ve; injection ve with _ ve; injection ve
        simp only [WX.cells, WT.op, WT.num] at hrg
        have hat' : wr.rangeAt gr (o + m * 8) _ := rangeAt_keep hat fun y => hbel.cell (p := ⟨gr, y, none⟩) (HS.out gr hSg)
        have d0 := hat' 0 _ rfl
        have d1 := hat' 1 _ rfl
        have d2 := hat' 2 _ rfl
        have d3 := hat' 3 _ rfl
        have d4 := hat' 4 _ rfl
        have d5 := hat' 5 _ rfl
        have d6 := hat' 6 _ rfl
        have d7 := hat' 7 _ rfl
        simp only [Nat.add_zero] at d0
        simp only [WT.op, WT.num] at d4 d5
        have HRG := Lib.hid hrg
        have HHG := Lib.hid hhg
        have HB := Lib.hid hB
        have HBEL := Lib.hid hbel
        have x3 := hB.cell 3
        simp only [List.getElem?_toArray, List.getElem?_cons_succ, List.getElem?_cons_zero] at x3
        have hj0 : (0 : Int) ≤ (m : Int) := by omega
        have hj1 : (m : Int) < (ws.length : Int) := by omega
        have hj2 : (0 : Int) < (m : Int) + 1 := by omega
        clear hrg hhg hat hat' hw hcap hq hlq ve hbelow hbelow' hx hB hbel hwl hsl
        go_wp2_with fail
        refine (HRG.out _).mono ?_
        rintro e w3 ⟨rfl, hb3⟩
        have hB3 := below_on hb3 HBEL.out
        have HB3 := Lib.hid (HB.out.under hb3 HB.out.lt)
        clear d0 d1 d2 d3 d4 d5 d6 d7 x3 hb3
        go_wp2_with fail
        refine (HHG.out _).mono ?_
        rintro e w4 ⟨rfl, rfl⟩
        cases b2
        · go_wp2_with fail
          go_roundw
          case rel => exact ⟨m, by go_num, by omega, HBW.out (by trivial), by have h := HWL.out; rw [if_neg (by simp)] at h; exact h, HB3.out, hB3⟩
          case measure => simp [intOf]
        · go_wp2_with fail
          go_ret
          exact ⟨ret_i (by have h := HWL.out; rw [if_pos (by trivial)] at h; rw [← h]), hB3⟩

set_option maxRecDepth 100000 in
set_option maxHeartbeats 8000000 in
theorem rwho_any (w : World) (S : Nat → Prop) (op num : Int) (c : Nat) (ws : List (WX × Value)) (a : Option Addr) (n d : Nat) (k : Int) (hr : Wraps w S ws a n d) (hS : ∀ b, S b → b < w.heap.size) (hn : n ≤ 1048575) (hc : c < 4294967296) :
    Calls Try.prog 17 #[.agg #[.int .i64 op, .int .i64 num, .int .u32 (c : Int), .slice a n d], .int .i64 k] w fun e w' => e = .returned (.int .i64 (whoW c ws k)) ∧ Below w.heap.size w w' := by
  have hf := fun W (hb : Below w.heap.size w W) => from_any W S op num c ws a n d n k (Nat.le_refl _) (hr.under hb hS) (fun b h => Nat.lt_of_lt_of_le (hS b h) hb.size) hn hc
  obtain rfl : n = ws.length := hr.1
  have hwj : whoW c ws k = whoJ c ws k ws.length := rfl
  rw [← hwj] at hf
  have HF := Lib.hid hf
  clear hf hr hS hwj
  go_enter Try.func17, Try.ntmps17
  go_wp2_with fail
  refine (HF.out _ (by go_grown)).mono ?_
  rintro e w1 ⟨rfl, hb⟩
  have hB1 : Below w.heap.size w w1 := below_on hb (by go_grown)
  go_wp2_with fail
  go_ret
  exact ⟨rfl, hB1⟩
end Go.Proofs.Ytlnlefebcfnocaa
