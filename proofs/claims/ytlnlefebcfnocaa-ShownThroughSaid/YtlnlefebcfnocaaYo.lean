/- The reference: bit, Gives, keeps. -/
import Derived.Test.YtlnlefebcfnocaaYg
namespace Go.Proofs.Ytlnlefebcfnocaa
open Go.RowKit Go.Deep
attribute [local go_sem] Go.undef

theorem cell_alloc {W : World} {b i : Nat} {v : Value} (o : Obj) (h : W.cell? ⟨b, i, none⟩ = some v) : (W.alloc o).cell? ⟨b, i, none⟩ = some v := by
  rw [World.cell?_of_block (w := W) (a := ⟨b, i, none⟩) (Below.heap_alloc W o b (World.block_lt_of_cell? _ _ h))]; exact h
set_option maxRecDepth 100000 in
set_option maxHeartbeats 4000000 in
theorem bit_any (w : World) (j : Nat) (hj : j ≤ 11) : Calls Try.prog 35 #[.int .i64 (j : Int)] w fun e w' => e = .returned (.int .u32 ((2 ^ j : Nat) : Int)) ∧ w' = w := by
  have h2 := two_pow_mod (pow_lt32 (j := j) (by omega))
  have H2 := Lib.hid h2
  clear h2
  have h0 : (0 : Int) ≤ (j : Int) := by omega
  go_enter Try.func35, Try.ntmps35
  go_wp2_with fail
  go_ret
  exact ⟨by rw [H2.out]; rfl, rfl⟩
theorem bit_at (w : World) (k z : Int) (j : Nat) (hj : j ≤ 11) (hk : k = (j : Int)) (hz : ((2 ^ j : Nat) : Int) = z) : Calls Try.prog 35 #[.int .i64 k] w fun e w' => e = .returned (.int .u32 z) ∧ w' = w := by
  subst hk hz
  exact bit_any w j hj
theorem bit_4 (w : World) : Calls Try.prog 35 #[.int .i64 4] w fun e w' => e = .returned (.int .u32 16) ∧ w' = w := bit_at w 4 16 4 (by omega) rfl rfl
theorem bit_5 (w : World) : Calls Try.prog 35 #[.int .i64 5] w fun e w' => e = .returned (.int .u32 32) ∧ w' = w := bit_at w 5 32 5 (by omega) rfl rfl
theorem bit_0 (w : World) : Calls Try.prog 35 #[.int .i64 0] w fun e w' => e = .returned (.int .u32 1) ∧ w' = w := bit_at w 0 1 0 (by omega) rfl rfl
theorem bit_2 (w : World) : Calls Try.prog 35 #[.int .i64 2] w fun e w' => e = .returned (.int .u32 4) ∧ w' = w := bit_at w 2 4 2 (by omega) rfl rfl
theorem bit_9 (w : World) : Calls Try.prog 35 #[.int .i64 9] w fun e w' => e = .returned (.int .u32 512) ∧ w' = w := bit_at w 9 512 9 (by omega) rfl rfl
theorem bit_10 (w : World) : Calls Try.prog 35 #[.int .i64 10] w fun e w' => e = .returned (.int .u32 1024) ∧ w' = w := bit_at w 10 1024 10 (by omega) rfl rfl

set_option maxRecDepth 100000 in
set_option maxHeartbeats 8000000 in
theorem rgives_any (w : World) (x : WX) (v : Value) (hx : Cap x) : Calls Try.prog 22 #[.agg (x.cells v).toArray] w fun e w' => e = .returned (.int .u32 (givesW x : Int)) ∧ Below w.heap.size w w' := by
  obtain ⟨op, a, b, caps, want, opn⟩ := x
  have hx' : caps < 4294967296 := hx
  have ho : ∀ n : Nat, n < 4294967296 → bits .or .u32 (n : Int) 1024 = ((n ||| 1024 : Nat) : Int) := fun n hn => bits32_or hn (b := 1024) (by omega)
  have hgw : givesW ⟨op, a, b, caps, want, opn⟩ = (if op = 4 then caps else if op = 7 then 16 else if op = 8 then 32 else if op = 9 then 5 else if op = 12 then 512 else 0) ||| (if opn = true then 1024 else 0) := rfl
  have HG := Lib.hid hgw
  have HO := Lib.hid ho
  clear hgw ho
  generalize givesW ⟨op, a, b, caps, want, opn⟩ = GW at HG ⊢
  simp only [WX.cells]
  have z5 : bits .or .u32 1 4 = 5 := by decide
  by_cases h4 : op = 4
  · subst h4
    have hb := HO.out caps hx'
    rw [if_pos rfl] at HG
    clear HO
    cases opn
    · go_enter Try.func22, Try.ntmps22
      go_wp2_with fail
      go_ret
      exact ⟨by rw [HG.out]; simp, by go_grown⟩
    · go_enter Try.func22, Try.ntmps22
      go_wp2_with fail
      refine (bit_10 _).mono ?_
      rintro e w1 ⟨rfl, rfl⟩
      go_wp2_with fail
      go_ret
      exact ⟨by rw [HG.out]; simp, by go_grown⟩
  rw [if_neg h4] at HG
  by_cases h7 : op = 7
  · subst h7
    rw [if_pos rfl] at HG
    have hb : bits .or .u32 16 1024 = 1040 := by decide
    clear HO
    cases opn
    all_goals
      go_enter Try.func22, Try.ntmps22
      go_wp2_with fail
      refine (bit_4 _).mono ?_
      rintro e w1 ⟨rfl, rfl⟩
      go_wp2_with fail
    · go_ret
      exact ⟨by rw [HG.out]; rfl, by go_grown⟩
    · refine (bit_10 _).mono ?_
      rintro e w1 ⟨rfl, rfl⟩
      go_wp2_with fail
      go_ret
      exact ⟨by rw [HG.out]; first | rfl | (rw [hb]; rfl), by go_grown⟩
  rw [if_neg h7] at HG
  by_cases h8 : op = 8
  · subst h8
    rw [if_pos rfl] at HG
    have hb : bits .or .u32 32 1024 = 1056 := by decide
    clear HO
    cases opn
    all_goals
      go_enter Try.func22, Try.ntmps22
      go_wp2_with fail
      refine (bit_5 _).mono ?_
      rintro e w1 ⟨rfl, rfl⟩
      go_wp2_with fail
    · go_ret
      exact ⟨by rw [HG.out]; rfl, by go_grown⟩
    · refine (bit_10 _).mono ?_
      rintro e w1 ⟨rfl, rfl⟩
      go_wp2_with fail
      go_ret
      exact ⟨by rw [HG.out]; first | rfl | (rw [hb]; rfl), by go_grown⟩
  rw [if_neg h8] at HG
  by_cases h9 : op = 9
  · subst h9
    rw [if_pos rfl] at HG
    have hb : bits .or .u32 5 1024 = 1029 := by decide
    clear HO
    cases opn
    all_goals
      go_enter Try.func22, Try.ntmps22
      go_wp2_with fail
      refine (bit_0 _).mono ?_
      rintro e w1 ⟨rfl, rfl⟩
      go_wp2_with fail
      refine (bit_2 _).mono ?_
      rintro e w1 ⟨rfl, rfl⟩
      go_wp2_with fail
    · go_ret
      exact ⟨by rw [HG.out]; first | rfl | (rw [z5]; rfl), by go_grown⟩
    · refine (bit_10 _).mono ?_
      rintro e w1 ⟨rfl, rfl⟩
      go_wp2_with fail
      go_ret
      exact ⟨by rw [HG.out]; first | rfl | (rw [hb]; rfl) | (rw [z5, hb]; rfl), by go_grown⟩
  rw [if_neg h9] at HG
  by_cases h12 : op = 12
  · subst h12
    rw [if_pos rfl] at HG
    have hb : bits .or .u32 512 1024 = 1536 := by decide
    clear HO
    cases opn
    all_goals
      go_enter Try.func22, Try.ntmps22
      go_wp2_with fail
      refine (bit_9 _).mono ?_
      rintro e w1 ⟨rfl, rfl⟩
      go_wp2_with fail
    · go_ret
      exact ⟨by rw [HG.out]; rfl, by go_grown⟩
    · refine (bit_10 _).mono ?_
      rintro e w1 ⟨rfl, rfl⟩
      go_wp2_with fail
      go_ret
      exact ⟨by rw [HG.out]; first | rfl | (rw [hb]; rfl), by go_grown⟩
  rw [if_neg h12] at HG
  have g4 : (op == 4) = false := by simp; exact h4
  have g7 : (op == 7) = false := by simp; exact h7
  have g8 : (op == 8) = false := by simp; exact h8
  have g9 : (op == 9) = false := by simp; exact h9
  have g12 : (op == 12) = false := by simp; exact h12
  have hb : bits .or .u32 0 1024 = 1024 := by decide
  clear HO
  cases opn
  · go_enter Try.func22, Try.ntmps22
    go_wp2_with fail
    go_ret
    exact ⟨by rw [HG.out]; rfl, by go_grown⟩
  · go_enter Try.func22, Try.ntmps22
    go_wp2_with fail
    refine (bit_10 _).mono ?_
    rintro e w1 ⟨rfl, rfl⟩
    go_wp2_with fail
    go_ret
    exact ⟨by rw [HG.out]; first | rfl | (rw [hb]; rfl), by go_grown⟩

set_option maxRecDepth 100000 in
set_option maxHeartbeats 8000000 in
theorem keeps_any (w : World) (x : WX) (v : Value) (b : Nat) (hb : b < 4294967296) (hx : Cap x) : Calls Try.prog 36 #[.agg (x.cells v).toArray, .int .u32 (b : Int)] w fun e w' => e = .returned (.int .u32 (keptN x b : Int)) ∧ Below w.heap.size w w' := by
  obtain ⟨op, a, b', caps, want, opn⟩ := x
  have hg : Hid (keptN ⟨op, a, b', caps, want, opn⟩ b = if op = 1 ∨ op = 4 ∨ op = 9 ∨ op = 12 then clr b 1024 else if op = 2 then clr b 1024 &&& caps else if op = 3 then 0 else clr (clr b 1024) 4) := Lib.hid rfl
  generalize keptN ⟨op, a, b', caps, want, opn⟩ b = G at hg ⊢
  have e1 : bits .andNot .u32 (b : Int) 1024 = ((clr b 1024 : Nat) : Int) := bits32_clr hb (b := 1024) (by omega)
  have hl := clr_lt (m := 1024) hb
  have e2 : bits .andNot .u32 ((clr b 1024 : Nat) : Int) 4 = ((clr (clr b 1024) 4 : Nat) : Int) := bits32_clr hl (b := 4) (by omega)
  have e3 : bits .and .u32 ((clr b 1024 : Nat) : Int) (caps : Int) = ((clr b 1024 &&& caps : Nat) : Int) := bits32_and hl hx
  generalize clr b 1024 = b1 at *
  generalize clr b1 4 = b2 at *
  generalize b1 &&& caps = b3 at *
  simp only [WX.cells]
  go_enter Try.func36, Try.ntmps36
  go_wp2_with fail
  refine (bit_10 _).mono ?_
  rintro e w1 ⟨rfl, rfl⟩
  go_wp2_with fail
  all_goals first
    | (refine (bit_2 _).mono ?_
       rintro e w1 ⟨rfl, rfl⟩
       go_wp2_with fail
       go_ret
       refine ⟨?_, by go_grown⟩
       have h := hg.out
       simp_all
       done)
    | (go_ret
       refine ⟨?_, by go_grown⟩
       have h := hg.out
       simp_all
       done)
end Go.Proofs.Ytlnlefebcfnocaa
