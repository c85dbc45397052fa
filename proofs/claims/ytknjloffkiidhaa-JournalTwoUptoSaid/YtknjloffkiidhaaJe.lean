/- The document's Frame, of bytes; its whole. -/
import Derived.Test.YtknjloffkiidhaaJo
namespace Go.Proofs.Ytknjloffkiidhaa
open Go.RowKit Go.Deep
attribute [local go_sem] Go.undef

theorem turn8 {a : Nat} (h : a < 256) : bits BinOp.xor IntKind.u8 IntKind.u8.max (a : Int) = ((255 - a : Nat) : Int) := by
  have e : 255 ^^^ a = 255 - a := by
    apply Nat.eq_of_testBit_eq
    intro i
    rw [Nat.testBit_xor, show (255 : Nat) = 2 ^ 8 - 1 by decide, Nat.testBit_two_pow_sub_one, show 2 ^ 8 - 1 - a = 2 ^ 8 - (a + 1) by omega, Nat.testBit_two_pow_sub_succ (by omega)]
    by_cases hi : i < 8
    · simp [hi]
    · have : a.testBit i = false := Nat.testBit_lt_two_pow (Nat.lt_of_lt_of_le h (Nat.pow_le_pow_right (n := 2) (by omega) (show 8 ≤ i by omega)))
      simp [hi, this]
  have e2 : (BitVec.ofInt 8 ((255 : Nat) : Int) ^^^ BitVec.ofInt 8 (a : Int)).toNat = 255 ^^^ a := by
    rw [BitVec.toNat_xor, BitVec.ofInt_natCast, BitVec.ofInt_natCast, BitVec.toNat_ofNat, BitVec.toNat_ofNat, Nat.mod_eq_of_lt (by omega), Nat.mod_eq_of_lt (by omega)]
  show IntKind.u8.wrap ((BitVec.ofInt 8 ((255 : Nat) : Int) ^^^ BitVec.ofInt 8 (a : Int)).toNat : Int) = _
  rw [e2, IntKind.wrap_u8', e]
  omega
/-- Four bytes laid in a block of their own. -/
theorem own_four (w : World) {a b c d : Int} {l : List Nat} (h : VB l = [.int .u8 a, .int .u8 b, .int .u8 c, .int .u8 d]) :
    (w.alloc (.cells #[.int .u8 a, .int .u8 b, .int .u8 c, .int .u8 d] 5)).ownsRow w.heap.size 5 1 (.slice (some ⟨w.heap.size, 0, none⟩) 4 4) 4 (VB l) := by
  rw [h]
  exact ⟨rfl, .inr ⟨w.heap.size, 4, _, rfl, Nat.le_refl _, heap_alloc_new w _, Nat.le_refl _, by decide, rfl, rfl⟩⟩
theorem news_four (w : World) {a b c d : Int} {l : List Nat} {g : Nat} (hg : g = w.heap.size) (h : VB l = [.int .u8 a, .int .u8 b, .int .u8 c, .int .u8 d]) :
    ∀ (j : Nat) (u : Value), (VB l)[j]? = some u → (w.alloc (.cells #[.int .u8 a, .int .u8 b, .int .u8 c, .int .u8 d] 5)).cell? ((⟨g, 0, none⟩ : Addr).add j) = some u := by
  subst hg
  intro j u hj
  rw [Go.WideShapes.add_plain, Nat.zero_add, cell_of_row _ w.heap.size j _ _ _ (heap_alloc_new w _), ← hj, h]
  simp
theorem pre4_cells {n : Nat} (h : n ≤ 65535) : VB (pre4 n) = [.int .u8 ((n : Int) % 256), .int .u8 ((n : Int) / 256), .int .u8 ((255 - n % 256 : Nat) : Int), .int .u8 ((255 - n / 256 : Nat) : Int)] := by
  have e : n / 256 % 256 = n / 256 := by omega
  simp [VB, pre4, e]
theorem le4_cells {s : Nat} (h : s < 4294967296) : VB (le4 s) = [.int .u8 ((s : Int) % 256), .int .u8 ((s : Int) / 256 % 256), .int .u8 ((s : Int) / 65536 % 256), .int .u8 ((s : Int) / 16777216)] := by
  have e : s / 16777216 % 256 = s / 16777216 := by omega
  simp [VB, le4, e]

set_option maxRecDepth 100000 in
set_option maxHeartbeats 4000000 in
theorem frame_ref (w : World) (S : Nat → Prop) (a : Option Addr) (r : List Nat) (n c : Nat) (hn : r.length = n) (hm : n ≤ 65535) (h : BY w S a r) (hS : ∀ b, S b → b < w.heap.size) :
    Calls Try.prog 23 #[.slice a n c] w fun e w' => ∃ a' c', e = .returned (.slice a' (n + 8) c') ∧ w'.ownsRow w.heap.size 5 1 (.slice a' (n + 8) c') (n + 8) (VB (frameL r)) ∧ Below w.heap.size w w' := by
  obtain ⟨i0, hi0, hz0, hz1, hz2⟩ := info_parts info8
  have p4 := pre4_cells hm
  obtain ⟨y2, e1, q2⟩ : ∃ y2 : Int, bits BinOp.xor IntKind.u8 IntKind.u8.max ((n : Int) % 256) = y2 ∧ y2 = ((255 - n % 256 : Nat) : Int) := ⟨_, turn8 (a := n % 256) (by omega), rfl⟩
  obtain ⟨y3, e2, q3⟩ : ∃ y3 : Int, bits BinOp.xor IntKind.u8 IntKind.u8.max ((n : Int) / 256) = y3 ∧ y3 = ((255 - n / 256 : Nat) : Int) := ⟨_, turn8 (a := n / 256) (by omega), rfl⟩
  have e1' : bits BinOp.xor IntKind.u8 (if IntKind.u8.signed = true then -1 else IntKind.u8.max) ((n : Int) % 256) = y2 := e1
  have e2' : bits BinOp.xor IntKind.u8 (if IntKind.u8.signed = true then -1 else IntKind.u8.max) ((n : Int) / 256) = y3 := e2
  rw [← q2, ← q3] at p4
  clear q2 q3
  have hown0 := own_four w p4
  have hby0 : ∀ o, BY (w.alloc o) S a r := fun o => h.under ((Below.refl _ _).alloc (Nat.le_refl _) o) hS
  have hrl : (VB r).length = n * 1 := by rw [VB_len, hn, Nat.mul_one]
  have hsome : 0 < n → a.isSome = true := fun h0 => h.some (by omega)
  have hone := VB_one r
  have hsum := fun w' (h' : BY w' S a r) => rsum_any w' S a r n c hn (by omega) h'
  have hsl := sumL_lt r
  have hfr : frameL r = pre4 n ++ r ++ le4 (sumL r) := by rw [frameL, hn]
  have l4 := le4_cells hsl
  have HO := Lib.hid hown0
  have HB := Lib.hid hby0
  have HW := Lib.hid h
  have HR := Lib.hid hrl
  have HSM := Lib.hid hsome
  have HONE := Lib.hid hone
  have HSUM := Lib.hid hsum
  have HS := Lib.hid hS
  have HFR := Lib.hid hfr
  have L4 := Lib.hid l4
  have hbb := h.1
  clear hn h hS p4 hown0 hby0 hrl hsome hone hsum hfr l4
  generalize sumL r = s at *
  go_enter Try.func23, Try.ntmps23
  go_wp2_with (at_builtin; refine wpList_append_any _ rfl _ _ 22 rfl w.heap.size 5 i0 _ 1 1 Try.underlying22 hi0 hz0 hz1 hz2 rfl (by omega) _ 4 (VB (pre4 n)) rfl HO.out a n c (VB r) rfl HSM.out HR.out ?a2 HONE.out ?a4 ?a5 ?a6 ?_)
  case a2 => exact (HB.out _).news
  case a4 => unfold maxLen; omega
  case a5 => omega
  case a6 => simp
  intro v1 w1 hown1 hgr1
  obtain ⟨a1, c1, rfl⟩ := own_slice hown1
  have hb1 : Below w.heap.size w w1 := ((Below.refl _ _).alloc (Nat.le_refl _) _).grown hgr1 (by simp) (fun k hk => by cases hk; exact Nat.le_refl _)
  have hs1 := hb1.size
  have HB1 := Lib.hid hb1
  have HS1 := Lib.hid (HSUM.out w1)
  have hby1 : BY w1 S a r := HW.out.under hb1 HS.out
  have HBY1 := Lib.hid hby1
  have HO1 := Lib.hid hown1
  clear hb1 hgr1 hby1 hown1
  go_wp2_with fail
  refine (HS1.out HBY1.out).mono ?_
  rintro e w2 ⟨rfl, rfl⟩
  go_wp2_with (at_builtin; refine wpList_append_any _ rfl _ _ 22 rfl w.heap.size 5 i0 _ 1 1 Try.underlying22 hi0 hz0 hz1 hz2 rfl (by omega) _ (4 + n) (VB (pre4 n) ++ VB r) rfl (HO1.out.alloc _) (some ⟨w1.heap.size, 0, none⟩) 4 4 (VB (le4 s)) rfl (fun _ => rfl) (by rw [VB_len]; rfl) ?b2 (VB_one _) ?b4 ?b5 ?b6 ?_)
  case b2 => intro ad had; cases had; exact news_four w1 rfl L4.out
  case b4 => unfold maxLen; omega
  case b5 => omega
  case b6 => simp; omega
  intro v3 w3 hown3 hgr3
  obtain ⟨a3, c3, rfl⟩ := own_slice hown3
  have hb3 : Below w.heap.size w w3 := (HB1.out.alloc hs1 _).grown hgr3 (by simp; omega) (fun k hk => (own_row HO1.out k hk).1)
  have hf : VB (pre4 n) ++ (VB r ++ VB (le4 s)) = VB (frameL r) := by rw [HFR.out, VB_app, VB_app, List.append_assoc]
  rw [hf, show 4 + n + 4 = n + 8 by omega] at hown3
  have HF := Lib.hid hb3
  have HO3 := Lib.hid hown3
  clear hown3 hgr3 hb3 hf
  go_wp2_with fail
  go_ret
  exact ⟨a3, c3, by simp; omega, HO3.out, HF.out⟩
theorem whole_dec {d : List Nat} (hb : Bytes d) : wholeL d = decide (8 ≤ d.length ∧ lenL d + 8 ≤ d.length ∧ frameL (recL d) = d.take (lenL d + 8)) := by
  rw [Bool.eq_iff_iff, decide_eq_true_eq]
  constructor
  · intro h
    obtain ⟨h1, -, h4, -⟩ := (wholeL_iff d).1 h
    refine ⟨h1, h4, ?_⟩
    have e := whole_frame hb h
    have hl := frameL_len (recL d)
    rw [recL_len h4] at hl
    have e2 := congrArg (List.take (lenL d + 8)) e
    rw [← hl, List.take_left, hl] at e2
    exact e2.symm
  · rintro ⟨h1, h4, h5⟩
    have e : d = frameL (recL d) ++ d.drop (lenL d + 8) := by rw [h5, List.take_append_drop]
    have g : ∀ i, d.getD i 0 < 256 := fun i => by
      rw [List.getD_eq_getElem?_getD]
      cases hi : d[i]? with
      | none => simp
      | some x => exact hb x (List.mem_of_getElem? hi)
    have g0 := g 0
    have g1 := g 1
    rw [e]
    exact (frame_whole (by rw [recL_len h4]; unfold lenL; omega) _).2.2

/-- What whole leaves. -/
def WQ (w : World) (d : List Nat) (e : Ending) (w' : World) : Prop :=
  (wholeL d = false ∧ e = .returned (.tuple #[.slice none 0 0, .int .i64 0]) ∧ Below w.heap.size w w') ∨
  (wholeL d = true ∧ ∃ a' c', e = .returned (.tuple #[.slice a' (lenL d) c', .int .i64 ((lenL d + 8 : Nat) : Int)]) ∧ w'.ownsRow w.heap.size 5 1 (.slice a' (lenL d) c') (lenL d) (VB (recL d)) ∧ Below w.heap.size w w')

set_option maxRecDepth 100000 in
set_option maxHeartbeats 8000000 in
theorem whole_any (w : World) (S : Nat → Prop) (a : Option Addr) (l : List Nat) (n c at' : Nat) (hn : l.length = n) (hnc : n ≤ c) (hm : c ≤ 9223372036854775807) (hat : at' ≤ n) (h : BY w S a l) (hS : ∀ b, S b → b < w.heap.size) :
    Calls Try.prog 22 #[.slice a n c, .int .i64 at'] w (WQ w (l.drop at')) := by
  obtain ⟨i0, hi0, hz0, hz1, hz2⟩ := info_parts info8
  have hdl : (l.drop at').length = n - at' := by rw [List.length_drop, hn]
  have hbd := h.1.drop at'
  have HH := Lib.hid h
  have HS := Lib.hid hS
  have HN := Lib.hid hn
  by_cases h8 : n - at' < 8
  · have hw : wholeL (l.drop at') = false := by
      rw [Bool.eq_false_iff]
      intro h
      have := ((wholeL_iff _).1 h).1
      omega
    have HW := Lib.hid hw
    have hd : decide ((n : Int) - (at' : Int) < 8) = true := by simp; omega
    have e1 : IntKind.i64.wrap ((n : Int) - (at' : Int)) = (n : Int) - at' := IntWalk.i64_in _ (by omega)
    clear h hS hn hdl hbd hw h8
    go_enter Try.func22, Try.ntmps22
    go_wp2_with fail
    go_quiet (fail)
    go_wp2_with fail
    go_ret2
    exact .inl ⟨HW.out, rfl, below_drewN (Below.refl _ _) _⟩
  · obtain ⟨g, o, rfl, -, -⟩ := h.2 (by omega)
    obtain ⟨c0, b0⟩ := h.dropAt at' (i := 0) (by omega)
    obtain ⟨c1, b1⟩ := h.dropAt at' (i := 1) (by omega)
    obtain ⟨c2, b2⟩ := h.dropAt at' (i := 2) (by omega)
    obtain ⟨c3, b3⟩ := h.dropAt at' (i := 3) (by omega)
    have hwi := wholeL_iff (l.drop at')
    have hlen : lenL (l.drop at') = (l.drop at').getD 0 0 + 256 * (l.drop at').getD 1 0 := rfl
    rw [hdl] at hwi
    generalize (l.drop at').getD 0 0 = x0 at *
    generalize (l.drop at').getD 1 0 = x1 at *
    generalize (l.drop at').getD 2 0 = x2 at *
    generalize (l.drop at').getD 3 0 = x3 at *
    have hd : decide ((n : Int) - (at' : Int) < 8) = false := by simp; omega
    have E0 : Hid (IntKind.i64.wrap ((n : Int) - (at' : Int)) = (n : Int) - at') := IntWalk.i64_in _ (by omega)
    have E1 : Hid (IntKind.i64.wrap ((at' : Int) + 1) = (at' : Int) + 1) := IntWalk.i64_in _ (by omega)
    have E2 : Hid (IntKind.i64.wrap ((at' : Int) + 2) = (at' : Int) + 2) := IntWalk.i64_in _ (by omega)
    have E3 : Hid (IntKind.i64.wrap ((at' : Int) + 3) = (at' : Int) + 3) := IntWalk.i64_in _ (by omega)
    rw [Nat.add_zero] at c0
    have f0 : (at' : Int) < (n : Int) := by omega
    have f1 : (at' : Int) + 1 < (n : Int) := by omega
    have f2 : (at' : Int) + 2 < (n : Int) := by omega
    have f3 : (at' : Int) + 3 < (n : Int) := by omega
    have g1 : (0 : Int) ≤ (at' : Int) + 1 := by omega
    have g2 : (0 : Int) ≤ (at' : Int) + 2 := by omega
    have g3 : (0 : Int) ≤ (at' : Int) + 3 := by omega
    have n1 : ((at' : Int) + 1).toNat = at' + 1 := by omega
    have n2 : ((at' : Int) + 2).toNat = at' + 2 := by omega
    have n3 : ((at' : Int) + 3).toNat = at' + 3 := by omega
    obtain ⟨y0, t0, q0⟩ : ∃ y0 : Int, bits BinOp.xor IntKind.u8 IntKind.u8.max (x0 : Int) = y0 ∧ y0 = ((255 - x0 : Nat) : Int) := ⟨_, turn8 b0, rfl⟩
    obtain ⟨y1, t1, q1⟩ : ∃ y1 : Int, bits BinOp.xor IntKind.u8 IntKind.u8.max (x1 : Int) = y1 ∧ y1 = ((255 - x1 : Nat) : Int) := ⟨_, turn8 b1, rfl⟩
    have t0' : bits BinOp.xor IntKind.u8 (if IntKind.u8.signed = true then -1 else IntKind.u8.max) (x0 : Int) = y0 := t0
    have t1' : bits BinOp.xor IntKind.u8 (if IntKind.u8.signed = true then -1 else IntKind.u8.max) (x1 : Int) = y1 := t1
    by_cases hm2 : x2 = 255 - x0
    · have hn2 : ((x2 : Int) != y0) = false := by simp; omega
      by_cases hm3 : x3 = 255 - x1
      · have hn3 : ((x3 : Int) != y1) = false := by simp; omega
        generalize hNe : lenL (l.drop at') = N at *
        have hN : N ≤ 65535 := by omega
        have hv : (x0 : Int) + 256 * (x1 : Int) = (N : Int) := by omega
        by_cases hr : n - at' < 8 + N
        · have hw : wholeL (l.drop at') = false := by
            rw [Bool.eq_false_iff]
            intro h
            have := (hwi.1 h).2.2.1
            omega
          have hr' : (n : Int) - (at' : Int) < 8 + (N : Int) := by omega
          have HW := Lib.hid hw
          clear h hS hn hdl hbd hw h8 hwi hlen hm2 hm3 q0 q1 hr hNe
          have e0 := E0.out; have e1 := E1.out; have e2 := E2.out; have e3 := E3.out
          go_enter Try.func22, Try.ntmps22
          go_wp2_with fail
          go_quiet (fail)
          go_wp2_with fail
          go_quiet (fail)
          go_wp2_with fail
          go_ret2
          exact .inl ⟨HW.out, rfl, below_drewN (Below.refl _ _) _⟩
        · have hr' : 8 + (N : Int) ≤ (n : Int) - (at' : Int) := by omega
          have hpc : BY w S (some ⟨g, o + (at' + 4), none⟩) (recL (l.drop at')) := by
            have h := h.piece (at' + 4) N
            rw [recL, List.drop_drop, hNe]
            exact h
          have hpd : BY w S (some ⟨g, o + at', none⟩) ((l.drop at').take (N + 8)) := h.piece at' (N + 8)
          have hrl : (recL (l.drop at')).length = N := by rw [recL_len (by rw [hdl, hNe]; omega), hNe]
          have hdt : ((l.drop at').take (N + 8)).length = N + 8 := by rw [List.length_take, hdl]; omega
          have hwd := whole_dec hbd
          rw [hdl, hNe] at hwd
          have hwd2 : wholeL (l.drop at') = decide (frameL (recL (l.drop at')) = (l.drop at').take (N + 8)) := by
            rw [hwd]
            exact decide_eq_decide.2 ⟨fun h => h.2.2, fun h => ⟨by omega, by omega, h⟩⟩
          have HPC := Lib.hid hpc
          have HPD := Lib.hid hpd
          have HWD := Lib.hid hwd2
          have HRL := Lib.hid hrl
          have HDT := Lib.hid hdt
          have HNE := Lib.hid hNe
          have E4 : Hid (IntKind.i64.wrap ((at' : Int) + 4) = (at' : Int) + 4) := IntWalk.i64_in _ (by omega)
          have E5 : Hid (IntKind.i64.wrap ((at' : Int) + 4 + (N : Int)) = (at' : Int) + 4 + N) := IntWalk.i64_in _ (by omega)
          have E6 : Hid (IntKind.i64.wrap ((at' : Int) + 8) = (at' : Int) + 8) := IntWalk.i64_in _ (by omega)
          have E7 : Hid (IntKind.i64.wrap ((at' : Int) + 8 + (N : Int)) = (at' : Int) + 8 + N) := IntWalk.i64_in _ (by omega)
          have e8 : ((at' : Int) + 4).toNat = at' + 4 := by omega
          have e9 : ((at' : Int) + 4 + (N : Int)).toNat = at' + 4 + N := by omega
          have e10 : ((at' : Int) + 8 + (N : Int)).toNat = at' + 8 + N := by omega
          have h1 : (at' : Int) + 4 < (c : Int) := by omega
          have h2 : (at' : Int) + 4 + (N : Int) ≤ (c : Int) := by omega
          have h3 : (at' : Int) + 8 + (N : Int) ≤ (c : Int) := by omega
          have h4 : at' + 4 < c := by omega
          have h5 : at' < c := by omega
          have h6 : (0 : Int) ≤ (at' : Int) := by omega
          have h7 : (at' : Int) ≤ (at' : Int) + 8 + (N : Int) := by omega
          have h8' : (0 : Int) ≤ (at' : Int) + 8 + (N : Int) := by omega
          have h9 : (at' : Int) + 8 + (N : Int) - (at' : Int) = 8 + (N : Int) := by omega
          clear h hS hn hdl hbd h8 hwi hlen hm2 hm3 q0 q1 hr hpc hpd hwd hwd2 hrl hdt hNe
          have e0 := E0.out; have e1 := E1.out; have e2 := E2.out; have e3 := E3.out
          go_enter Try.func22, Try.ntmps22
          go_wp2_with fail
          go_quiet (fail)
          go_wp2_with fail
          go_quiet (fail)
          clear e0 e1 e2 e3
          go_wp2_with (at_builtin; refine wpList_append_any _ rfl _ _ 22 rfl w.heap.size 5 i0 _ 1 1 Try.underlying22 hi0 hz0 hz1 hz2 rfl (by omega) _ 0 [] rfl ⟨rfl, .inl ⟨rfl, rfl⟩⟩ (some ⟨g, o + (at' + 4), none⟩) N (c - (at' + 4)) (VB (recL (l.drop at'))) ?a0 (fun _ => rfl) ?a1 ?a2 (VB_one _) ?a4 ?a5 ?a6 ?_)
          case a0 => show Value.slice _ _ _ = _; rfl
          case a1 => rw [VB_len, HRL.out, Nat.mul_one]
          case a2 => exact (HPC.out.drewN _).news
          case a4 => unfold maxLen; omega
          case a5 => omega
          case a6 => simp
          intro v1 w1 hown1 hgr1
          obtain ⟨a1, c1', rfl⟩ := own_slice hown1
          have hb1 : Below w.heap.size w w1 := (below_drewN (Below.refl _ _) _).grown hgr1 (by simp) (fun k hk => by cases hk)
          have hrb : Bytes (recL (l.drop at')) := HPC.out.1
          obtain ⟨hy1, -, -, -⟩ := BY.own hown1 hrb
          have hy2 : BY w1 S (some ⟨g, o + at', none⟩) ((l.drop at').take (N + 8)) := HPD.out.under hb1 HS.out
          have hcv := fun (W : World) (hb : Below w.heap.size w W) => (HPD.out.under hb HS.out).conv (n := at' + 8 + N - at') (by rw [HDT.out]; omega) (c - at')
          have hfc := fun (W : World) (h : BY W (fun b => w.heap.size ≤ b ∧ b < w1.heap.size) a1 (recL (l.drop at'))) (hs : w1.heap.size ≤ W.heap.size) => frame_ref W _ a1 _ N c1' HRL.out hN h (fun b hb => Nat.lt_of_lt_of_le hb.2 hs)
          have hfb := frameL_bytes hrb
          have hdb : Bytes ((l.drop at').take (N + 8)) := HPD.out.1
          have hbq := SB_beq hfb hdb
          have hfl : (frameL (recL (l.drop at'))).length = N + 8 := by rw [frameL_len, HRL.out]
          have HCV := Lib.hid hcv
          have HFC := Lib.hid hfc
          have HFB := Lib.hid hfb
          have HFL := Lib.hid hfl
          have HO1 := Lib.hid hown1
          have hww := HWD.out
          rw [← hww] at hbq
          have hcv1 := hcv w1 hb1
          have HNE2 := HNE.out
          clear hcv hfc hfb hdb hfl hgr1 hown1 hy2 hww hrb c0 c1 c2 c3
          cases hwv : wholeL (l.drop at') with
          | true =>
            rw [hwv] at hbq
            have hbn : ((SB (frameL (recL (l.drop at')))).toList != (SB ((l.drop at').take (N + 8))).toList) = false := by rw [bne, hbq]; rfl
            have HWV := Lib.hid hwv
            have HNE3 := Lib.hid HNE2
            clear hwv HNE2
            generalize hrec : recL (l.drop at') = rec at *
            have HREC := Lib.hid hrec
            clear hrec
            generalize (l.drop at').take (N + 8) = dd at *
            have e6 := E6.out
            have e7 := E7.out
            go_wp2_with fail
            have hcvd := HCV.out w1.drew hb1.drew
            have hyd : BY w1.drew (fun b => w.heap.size ≤ b ∧ b < w1.heap.size) a1 rec := hy1.drewN 1
            have hbd := hb1.drew
            clear hcv1 hy1
            first | go_region_with ((go_at_call 23; refine (HFC.out _ hyd (Nat.le_refl _)).mono ?_; rintro e w2 ⟨a2, c2, rfl, hown2, hb2⟩; have kb : Below w.heap.size w w2 := below_on hb2 hbd; have kc := HCV.out _ kb; have kr := (BY.own hown2 HFB.out).1.conv HFL.out c2; clear hown2)) | fail
            all_goals
              have hF := own_below HO1.out.drew hb2
              have HF := Lib.hid hF
              have KB := Lib.hid kb
              clear hF kb kc kr hcvd hyd hbd e6 e7
              go_wp2_with fail
              go_ret2
              exact .inr ⟨HWV.out, a1, c1', by rw [HNE3.out]; simp; omega, by rw [HNE3.out, HREC.out]; exact HF.out, KB.out⟩
          | false =>
            rw [hwv] at hbq
            have hbn : ((SB (frameL (recL (l.drop at')))).toList != (SB ((l.drop at').take (N + 8))).toList) = true := by rw [bne, hbq]; rfl
            have HWV := Lib.hid hwv
            have HNE3 := Lib.hid HNE2
            clear hwv HNE2
            generalize hrec : recL (l.drop at') = rec at *
            have HREC := Lib.hid hrec
            clear hrec
            generalize (l.drop at').take (N + 8) = dd at *
            have e6 := E6.out
            have e7 := E7.out
            go_wp2_with fail
            have hcvd := HCV.out w1.drew hb1.drew
            have hyd : BY w1.drew (fun b => w.heap.size ≤ b ∧ b < w1.heap.size) a1 rec := hy1.drewN 1
            have hbd := hb1.drew
            clear hcv1 hy1
            first | go_region_with ((go_at_call 23; refine (HFC.out _ hyd (Nat.le_refl _)).mono ?_; rintro e w2 ⟨a2, c2, rfl, hown2, hb2⟩; have kb : Below w.heap.size w w2 := below_on hb2 hbd; have kc := HCV.out _ kb; have kr := (BY.own hown2 HFB.out).1.conv HFL.out c2; clear hown2)) | fail
            all_goals
              have hF := own_below HO1.out.drew hb2
              have HF := Lib.hid hF
              have KB := Lib.hid kb
              clear hF kb kc kr hcvd hyd hbd e6 e7
              go_wp2_with fail
              go_ret2
              exact .inl ⟨HWV.out, rfl, KB.out⟩
      · have hw : wholeL (l.drop at') = false := by
          rw [Bool.eq_false_iff]
          intro h
          have := (hwi.1 h).2.1
          omega
        have hn3 : ((x3 : Int) != y1) = true := by simp; omega
        have HW := Lib.hid hw
        clear h hS hn hdl hbd hw h8 hwi hlen hm2 hm3 q0 q1
        have e0 := E0.out; have e1 := E1.out; have e2 := E2.out; have e3 := E3.out
        go_enter Try.func22, Try.ntmps22
        go_wp2_with fail
        go_quiet (fail)
        go_wp2_with fail
        go_ret2
        exact .inl ⟨HW.out, rfl, below_drewN (Below.refl _ _) _⟩
    · have hw : wholeL (l.drop at') = false := by
        rw [Bool.eq_false_iff]
        intro h
        have := (hwi.1 h).2.1
        omega
      have hn2 : ((x2 : Int) != y0) = true := by simp; omega
      have HW := Lib.hid hw
      clear h hS hn hdl hbd hw h8 hwi hlen hm2 q0 q1
      have e0 := E0.out; have e1 := E1.out; have e2 := E2.out; have e3 := E3.out
      go_enter Try.func22, Try.ntmps22
      go_wp2_with fail
      go_quiet (fail)
      go_wp2_with fail
      go_ret2
      exact .inl ⟨HW.out, rfl, below_drewN (Below.refl _ _) _⟩
end Go.Proofs.Ytknjloffkiidhaa
