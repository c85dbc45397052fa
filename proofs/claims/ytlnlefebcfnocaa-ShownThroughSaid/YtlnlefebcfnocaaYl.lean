/- The plain law of ShownMasks; with one wrapper more, with two. -/
import Derived.Test.YtlnlefebcfnocaaYk
namespace Go.Proofs.Ytlnlefebcfnocaa
open Go.RowKit Go.Deep

/-- What a wrapper shows, by what is shown below. -/
def stepN (x : WX) (b : Nat) : Nat := (givenN x ||| keptN x b) ||| opnN x
theorem sh_one (c : Nat) (ws : List (WX × Value)) (p : WX × Value) : sh c (ws ++ [p]) (ws.length + 1) = stepN p.1 (sh c ws ws.length) := by
  simp [sh, rv, List.take_of_length_le, showsN, stepN]
theorem sh_two (c : Nat) (ws : List (WX × Value)) (p q : WX × Value) : sh c (ws ++ [p, q]) (ws.length + 2) = stepN q.1 (stepN p.1 (sh c ws ws.length)) := by
  simp [sh, rv, List.take_of_length_le, showsN, stepN]
theorem step_mask (c : Nat) (b : Nat) : stepN (plainW 2 c false).1 b = clr b 1024 &&& c := by simp [stepN, plainW, givenN, keptN, opnN]
theorem step_give (c : Nat) (b : Nat) : stepN (plainW 4 c false).1 b = c ||| clr b 1024 := by simp [stepN, plainW, givenN, keptN, opnN]

theorem low {a i : Nat} (h : a < 1024) (hb : a.testBit i = true) : i < 10 := by
  rcases Nat.lt_or_ge i 10 with h1 | h1
  · exact h1
  · rw [Nat.testBit_lt_two_pow (Nat.lt_of_lt_of_le h (Nat.pow_le_pow_right (n := 2) (by omega) h1))] at hb
    cases hb
theorem low11 {a i : Nat} (h : a < 2048) (hb : a.testBit i = true) : i < 11 := by
  rcases Nat.lt_or_ge i 11 with h1 | h1
  · exact h1
  · rw [Nat.testBit_lt_two_pow (Nat.lt_of_lt_of_le h (Nat.pow_le_pow_right (n := 2) (by omega) h1))] at hb
    cases hb
section
variable {a b S : Nat}
theorem mask_mask : clr (clr S 1024 &&& a) 1024 &&& b = clr S 1024 &&& (a &&& b) := by
  apply Nat.eq_of_testBit_eq
  intro i
  simp only [Nat.testBit_and, bit_clr, bit_1024]
  cases S.testBit i <;> cases a.testBit i <;> cases b.testBit i <;> cases decide (i = 10) <;> rfl
theorem mask_mask' : clr (clr S 1024 &&& a) 1024 &&& b = (clr S 1024 &&& a) &&& b := by
  rw [mask_mask, Nat.and_assoc]
theorem mask_all (h : S < 2048) : clr S 1024 &&& 1023 = clr S 1024 := by
  apply Nat.eq_of_testBit_eq
  intro i
  simp only [Nat.testBit_and, bit_clr, bit_1024, show (1023 : Nat) = 2 ^ 10 - 1 from rfl, Nat.testBit_two_pow_sub_one]
  have h1 := @low11 S i h
  cases hs : S.testBit i with
  | false => rfl
  | true =>
    have h2 := h1 hs
    by_cases h3 : i = 10
    · simp [h3]
    · rw [decide_eq_false h3, decide_eq_true (show i < 10 by omega)]; rfl
theorem give_give (h : a < 1024) : b ||| clr (a ||| clr S 1024) 1024 = (clr S 1024 ||| a) ||| b := by
  apply Nat.eq_of_testBit_eq
  intro i
  simp only [Nat.testBit_or, bit_clr, bit_1024]
  have h1 := @low a i h
  cases ha : a.testBit i with
  | false => cases S.testBit i <;> cases b.testBit i <;> cases decide (i = 10) <;> rfl
  | true =>
    have h2 := h1 ha
    rw [decide_eq_false (show ¬ i = 10 by omega)]
    cases S.testBit i <;> cases b.testBit i <;> rfl
theorem give_mask (h : a < 1024) : clr (a ||| clr S 1024) 1024 &&& a = a := by
  apply Nat.eq_of_testBit_eq
  intro i
  simp only [Nat.testBit_or, Nat.testBit_and, bit_clr, bit_1024]
  have h1 := @low a i h
  cases ha : a.testBit i with
  | false => simp
  | true =>
    have h2 := h1 ha
    rw [decide_eq_false (show ¬ i = 10 by omega)]
    rfl
theorem mask_give : b ||| clr (clr S 1024 &&& a) 1024 = (clr S 1024 &&& a) ||| b := by
  apply Nat.eq_of_testBit_eq
  intro i
  simp only [Nat.testBit_or, Nat.testBit_and, bit_clr, bit_1024]
  cases S.testBit i <;> cases a.testBit i <;> cases b.testBit i <;> cases decide (i = 10) <;> rfl
theorem give_same (_h : a < 1024) : a ||| clr (a ||| clr S 1024) 1024 = a ||| clr S 1024 := by
  apply Nat.eq_of_testBit_eq
  intro i
  simp only [Nat.testBit_or, bit_clr, bit_1024]
  cases a.testBit i <;> cases S.testBit i <;> cases decide (i = 10) <;> rfl
end
/-- What is shown is a set of the eleven. -/
theorem given2048 {x : WX} (h : x.caps ≤ 2047) : givenN x < 2048 := by unfold givenN; (repeat' split) <;> omega
theorem kept2048 (x : WX) {b : Nat} (h : b < 2048) : keptN x b < 2048 := by
  have hc : ∀ (a m : Nat), a < 2048 → clr a m < 2048 := fun a m ha => Nat.xor_lt_two_pow (n := 11) ha (and_lt ha)
  unfold keptN
  repeat' split
  · exact hc _ _ h
  · exact and_lt (hc _ _ h)
  · omega
  · exact hc _ _ (hc _ _ h)
theorem shows2048 {c : Nat} (hc : c ≤ 2047) : ∀ {r : List WX}, (∀ x ∈ r, x.caps ≤ 2047) → showsN c r < 2048
  | [], _ => by rw [showsN]; omega
  | x :: _, h => Nat.or_lt_two_pow (n := 11) (Nat.or_lt_two_pow (n := 11) (given2048 (h x (by simp))) (kept2048 x (shows2048 hc fun y hy => h y (by simp [hy])))) (by unfold opnN; split <;> omega)
theorem sh2048 {c : Nat} {ws : List (WX × Value)} (h : FitC c ws) (j : Nat) : sh c ws j < 2048 := shows2048 h.1.1 fun x hx => by
  obtain ⟨p, hp, rfl⟩ := List.mem_map.1 hx
  exact (h.2.2 p (List.mem_of_mem_take (List.mem_reverse.1 hp))).1

/-! with, of fresh wrappers -/
def plainC (op : Int) (c : Nat) : List Value := [.int .i64 op, .int .i64 0, .int .i64 0, .int .u32 (c : Int), .int .i64 0, .int .i64 0, .slice none 0 0, .bool false]
def KM (w : World) (op num : Int) (c : Nat) (s : Value) (W : World) : Prop := Blk W w.heap.size 28 #[.int .i64 op, .int .i64 num, .int .u32 (c : Int), s] ∧ Below w.heap.size w W
theorem KM.on {w : World} {op num : Int} {c : Nat} {s : Value} {W W' : World} (h : KM w op num c s W) (hb : Below W.heap.size W W') : KM w op num c s W' := ⟨h.1.under hb h.1.lt, below_on hb h.2⟩
theorem KM.alloc {w : World} {op num : Int} {c : Nat} {s : Value} {W : World} (h : KM w op num c s W) (o : Obj) : KM w op num c s (W.alloc o) := ⟨h.1.alloc o, h.2.alloc h.2.size o⟩
theorem plain_wraps1 {W : World} {g : Nat} {T : TypeId} {op : Int} {c : Nat} (hc : c < 4294967296) (hB : Blk W g T (plainC op c).toArray) : Wraps W (· < W.heap.size) [plainW op c false] (some ⟨g, 0, none⟩) 1 1 := by
  refine wraps_lit hB hB.lt rfl (by unfold maxLen; simp) fun j p hj => ?_
  match j, hj with
  | 0, hj =>
    injection hj with hj
    subst hj
    refine ⟨ew_leaf _ _ _ _ _ _ _ hc, fun i v hi => ?_⟩
    match i, hi with
    | 0, hi | 1, hi | 2, hi | 3, hi | 4, hi | 5, hi | 6, hi | 7, hi => exact hi
theorem plain_wraps2 {W : World} {g : Nat} {T : TypeId} {op op' : Int} {c c' : Nat} (hc : c < 4294967296) (hc' : c' < 4294967296) (hB : Blk W g T (plainC op c ++ plainC op' c').toArray) :
    Wraps W (· < W.heap.size) [plainW op c false, plainW op' c' false] (some ⟨g, 0, none⟩) 2 2 := by
  refine wraps_lit hB hB.lt rfl (by unfold maxLen; simp) fun j p hj => ?_
  match j, hj with
  | 0, hj =>
    injection hj with hj
    subst hj
    refine ⟨ew_leaf _ _ _ _ _ _ _ hc, fun i v hi => ?_⟩
    match i, hi with
    | 0, hi | 1, hi | 2, hi | 3, hi | 4, hi | 5, hi | 6, hi | 7, hi => exact hi
  | 1, hj =>
    injection hj with hj
    subst hj
    refine ⟨ew_leaf _ _ _ _ _ _ _ hc', fun i v hi => ?_⟩
    match i, hi with
    | 0, hi | 1, hi | 2, hi | 3, hi | 4, hi | 5, hi | 6, hi | 7, hi => exact hi
theorem with_one {w : World} {op num : Int} {c : Nat} {ws : List (WX × Value)} {a : Option Addr} {d : Nat} (hr : Wraps w (· < w.heap.size) ws a ws.length d) (hn : ws.length ≤ 8) (hc : c < 4294967296) (o : Int) (m : Nat) (hm : m < 4294967296)
    (W : World) (hK : KM w op num c (.slice a ws.length d) W) :
    Calls Try.prog 11 #[.slice (some ⟨W.heap.size, 0, none⟩) 1 1, .pointer (some ⟨w.heap.size, 0, none⟩)] (W.alloc (.cells (plainC o m).toArray 37))
      fun e w' => e = .returned (.int .u32 (stepN (plainW o m false).1 (sh c ws ws.length) : Int)) ∧ KM w op num c (.slice a ws.length d) w' := by
  have hB : Blk (W.alloc (.cells (plainC o m).toArray 37)) W.heap.size 37 (plainC o m).toArray := Blk.new _ _ _
  have hK' := hK.alloc (.cells (plainC o m).toArray 37)
  have hr' : Wraps (W.alloc (.cells (plainC o m).toArray 37)) (· < (W.alloc (.cells (plainC o m).toArray 37)).heap.size) ws a ws.length d :=
    RowsOf.map (hr.under hK'.2 (fun _ h => h)) (fun x cs _ h => EW.keep (fun b hb => Nat.lt_of_lt_of_le hb hK'.2.size) (fun _ _ _ => rfl) h) (fun b hb => Nat.lt_of_lt_of_le hb hK'.2.size) (fun _ _ _ => rfl)
  refine (with_any _ _ w.heap.size op num c ws [plainW o m false] a (some ⟨W.heap.size, 0, none⟩) ws.length d 1 1 hK'.1 hr' (plain_wraps1 hm hB) (fun _ h => h) hn (by omega) hc).mono ?_
  rintro e w1 ⟨rfl, hb⟩
  rw [sh_one]
  exact ⟨rfl, hK'.on hb⟩
theorem with_two {w : World} {op num : Int} {c : Nat} {ws : List (WX × Value)} {a : Option Addr} {d : Nat} (hr : Wraps w (· < w.heap.size) ws a ws.length d) (hn : ws.length ≤ 8) (hc : c < 4294967296) (o o' : Int) (m m' : Nat) (hm : m < 4294967296) (hm' : m' < 4294967296)
    (W : World) (hK : KM w op num c (.slice a ws.length d) W) :
    Calls Try.prog 11 #[.slice (some ⟨W.heap.size, 0, none⟩) 2 2, .pointer (some ⟨w.heap.size, 0, none⟩)] (W.alloc (.cells (plainC o m ++ plainC o' m').toArray 37))
      fun e w' => e = .returned (.int .u32 (stepN (plainW o' m' false).1 (stepN (plainW o m false).1 (sh c ws ws.length)) : Int)) ∧ KM w op num c (.slice a ws.length d) w' := by
  have hB : Blk (W.alloc (.cells (plainC o m ++ plainC o' m').toArray 37)) W.heap.size 37 (plainC o m ++ plainC o' m').toArray := Blk.new _ _ _
  have hK' := hK.alloc (.cells (plainC o m ++ plainC o' m').toArray 37)
  have hr' : Wraps (W.alloc (.cells (plainC o m ++ plainC o' m').toArray 37)) (· < (W.alloc (.cells (plainC o m ++ plainC o' m').toArray 37)).heap.size) ws a ws.length d :=
    RowsOf.map (hr.under hK'.2 (fun _ h => h)) (fun x cs _ h => EW.keep (fun b hb => Nat.lt_of_lt_of_le hb hK'.2.size) (fun _ _ _ => rfl) h) (fun b hb => Nat.lt_of_lt_of_le hb hK'.2.size) (fun _ _ _ => rfl)
  refine (with_any _ _ w.heap.size op num c ws [plainW o m false, plainW o' m' false] a (some ⟨W.heap.size, 0, none⟩) ws.length d 2 2 hK'.1 hr' (plain_wraps2 hm hm' hB) (fun _ h => h) hn (by omega) hc).mono ?_
  rintro e w1 ⟨rfl, hb⟩
  rw [sh_two]
  exact ⟨rfl, hK'.on hb⟩
end Go.Proofs.Ytlnlefebcfnocaa
