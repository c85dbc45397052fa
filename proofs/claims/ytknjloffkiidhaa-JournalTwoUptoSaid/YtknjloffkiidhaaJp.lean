/- Journals: the plain law: the check sum, frames, what is told. -/
import Derived.Test.YtknjloffkiidhaaProg
namespace Go.Proofs.Ytknjloffkiidhaa

/-! The check sum: bit by bit, as the document has it, and as the program has it -/
def poly : Nat := 3988292384
def bitR (x k c : Nat) : Nat := if c % 2 = (x >>> k) % 2 then c >>> 1 else (c >>> 1) ^^^ poly
def bitsR (x : Nat) : Nat → Nat → Nat
  | 0, c => c
  | k + 1, c => bitR x k (bitsR x k c)
def stepP (s : Nat) : Nat := (s >>> 1) ^^^ (poly * (s % 2))
def stepsP : Nat → Nat → Nat
  | 0, s => s
  | k + 1, s => stepP (stepsP k s)

theorem xor_mod_two (a b : Nat) : (a ^^^ b) % 2 = if a % 2 = b % 2 then 0 else 1 := by
  have h : (a ^^^ b) % 2 = (a % 2) ^^^ (b % 2) := by
    have := Nat.xor_mod_two_pow (a := a) (b := b) (n := 1)
    simpa using this
  rw [h]
  rcases Nat.mod_two_eq_zero_or_one a with h1 | h1 <;> rcases Nat.mod_two_eq_zero_or_one b with h2 | h2 <;> rw [h1, h2] <;> rfl
theorem steps_bits (x c : Nat) : ∀ k, stepsP k (c ^^^ x) = bitsR x k c ^^^ (x >>> k)
  | 0 => by simp [stepsP, bitsR]
  | k + 1 => by
    rw [stepsP, bitsR, steps_bits x c k, stepP, bitR, xor_mod_two, Nat.shiftRight_xor_distrib]
    have e : x >>> k >>> 1 = x >>> (k + 1) := by rw [← Nat.shiftRight_add]
    rw [e]
    by_cases h : bitsR x k c % 2 = (x >>> k) % 2
    · rw [if_pos h, if_pos h]; simp
    · rw [if_neg h, if_neg h, Nat.mul_one, Nat.xor_assoc, Nat.xor_assoc, Nat.xor_comm poly]
theorem byte_steps (x c : Nat) (hx : x < 256) : stepsP 8 (c ^^^ x) = bitsR x 8 c := by
  rw [steps_bits]
  have : x >>> 8 = 0 := by rw [Nat.shiftRight_eq_div_pow]; exact Nat.div_eq_of_lt hx
  rw [this, Nat.xor_zero]
theorem bitR_lt {x k c : Nat} (h : c < 4294967296) : bitR x k c < 4294967296 := by
  have h1 : c >>> 1 < 4294967296 := by rw [Nat.shiftRight_eq_div_pow]; omega
  unfold bitR
  split
  · exact h1
  · exact Nat.xor_lt_two_pow (n := 32) h1 (by decide)
theorem bitsR_lt {x c : Nat} (h : c < 4294967296) : ∀ k, bitsR x k c < 4294967296
  | 0 => h
  | k + 1 => bitR_lt (bitsR_lt h k)
theorem stepP_lt {s : Nat} (h : s < 4294967296) : stepP s < 4294967296 := by
  have h1 : s >>> 1 < 4294967296 := by rw [Nat.shiftRight_eq_div_pow]; omega
  unfold stepP
  refine Nat.xor_lt_two_pow (n := 32) h1 ?_
  rcases Nat.mod_two_eq_zero_or_one s with h2 | h2 <;> rw [h2] <;> decide
theorem stepsP_lt {s : Nat} (h : s < 4294967296) : ∀ k, stepsP k s < 4294967296
  | 0 => h
  | k + 1 => stepP_lt (stepsP_lt h k)
/-- The check sum on its way. -/
def crcL (l : List Nat) : Nat := l.foldl (fun c x => bitsR x 8 c) 4294967295
def sumL (l : List Nat) : Nat := crcL l ^^^ 4294967295
theorem crcL_snoc (l : List Nat) (x : Nat) : crcL (l ++ [x]) = bitsR x 8 (crcL l) := by simp [crcL]
theorem crcL_take {l : List Nat} {j x : Nat} (h : l[j]? = some x) : crcL (l.take (j + 1)) = bitsR x 8 (crcL (l.take j)) := by
  rw [List.take_add_one, h]
  exact crcL_snoc _ _
theorem fold_lt : ∀ (l : List Nat) (c : Nat), c < 4294967296 → l.foldl (fun c x => bitsR x 8 c) c < 4294967296
  | [], _, h => h
  | _ :: r, _, h => fold_lt r _ (bitsR_lt h 8)
theorem crcL_lt (l : List Nat) : crcL l < 4294967296 := fold_lt l _ (by decide)
theorem sumL_lt (l : List Nat) : sumL l < 4294967296 := Nat.xor_lt_two_pow (n := 32) (crcL_lt l) (by decide)

/-! Frames -/
def Bytes (l : List Nat) : Prop := ∀ x ∈ l, x < 256
theorem Bytes.drop {l : List Nat} (h : Bytes l) (n : Nat) : Bytes (l.drop n) := fun x hx => h x (List.mem_of_mem_drop hx)
theorem Bytes.take {l : List Nat} (h : Bytes l) (n : Nat) : Bytes (l.take n) := fun x hx => h x (List.mem_of_mem_take hx)
theorem Bytes.app {l m : List Nat} (h : Bytes l) (h' : Bytes m) : Bytes (l ++ m) := fun x hx => (List.mem_append.1 hx).elim (h x) (h' x)
def le4 (s : Nat) : List Nat := [s % 256, s / 256 % 256, s / 65536 % 256, s / 16777216 % 256]
def pre4 (n : Nat) : List Nat := [n % 256, n / 256 % 256, 255 - n % 256, 255 - n / 256 % 256]
def frameL (r : List Nat) : List Nat := pre4 r.length ++ r ++ le4 (sumL r)
def headL : List Nat := [67, 78, 68, 74, 1]
theorem frameL_len (r : List Nat) : (frameL r).length = r.length + 8 := by simp [frameL, pre4, le4]
theorem le4_bytes (s : Nat) : Bytes (le4 s) := by
  intro x hx
  simp only [le4, List.mem_cons, List.not_mem_nil, or_false] at hx
  omega
theorem pre4_bytes (n : Nat) : Bytes (pre4 n) := by
  intro x hx
  simp only [pre4, List.mem_cons, List.not_mem_nil, or_false] at hx
  omega
theorem frameL_bytes {r : List Nat} (h : Bytes r) : Bytes (frameL r) := ((pre4_bytes _).app h).app (le4_bytes _)

def lenL (l : List Nat) : Nat := l.getD 0 0 + 256 * l.getD 1 0
def recL (l : List Nat) : List Nat := (l.drop 4).take (lenL l)
def num4 (l : List Nat) : Nat := l.getD 0 0 + 256 * l.getD 1 0 + 65536 * l.getD 2 0 + 16777216 * l.getD 3 0
/-- Does a frame stand whole at the head? -/
def wholeL (l : List Nat) : Bool :=
  decide (8 ≤ l.length) && (decide (l.getD 2 0 = 255 - l.getD 0 0) && decide (l.getD 3 0 = 255 - l.getD 1 0)) && decide (lenL l + 8 ≤ l.length) && decide (sumL (recL l) = num4 (l.drop (4 + lenL l)))
theorem wholeL_iff (l : List Nat) : wholeL l = true ↔ 8 ≤ l.length ∧ (l.getD 2 0 = 255 - l.getD 0 0 ∧ l.getD 3 0 = 255 - l.getD 1 0) ∧ lenL l + 8 ≤ l.length ∧ sumL (recL l) = num4 (l.drop (4 + lenL l)) := by
  simp [wholeL, and_assoc]
theorem num4_le4 {s : Nat} (h : s < 4294967296) (t : List Nat) : num4 (le4 s ++ t) = s := by
  simp only [num4, le4, List.cons_append, List.getD_cons_zero, List.getD_cons_succ]
  omega
theorem le4_num4 {l : List Nat} (h : Bytes l) (hl : 4 ≤ l.length) : l.take 4 = le4 (num4 l) := by
  match l, hl with
  | a :: b :: c :: d :: r, _ =>
    have ha := h a (by simp)
    have hb := h b (by simp)
    have hc := h c (by simp)
    have hd := h d (by simp)
    simp only [num4, le4, List.getD_cons_zero, List.getD_cons_succ, List.take_succ_cons, List.take_zero, List.cons.injEq, and_true]
    omega
theorem recL_len {l : List Nat} (h : lenL l + 8 ≤ l.length) : (recL l).length = lenL l := by
  simp [recL]; omega
/-- A frame that stands whole is the frame of its record. -/
theorem whole_frame {l : List Nat} (hb : Bytes l) (h : wholeL l = true) : l = frameL (recL l) ++ l.drop (lenL l + 8) := by
  obtain ⟨h1, ⟨h2, h3⟩, h4, h5⟩ := (wholeL_iff l).1 h
  have hr := recL_len h4
  have e1 : l.take 4 = pre4 (lenL l) := by
    match l, h1 with
    | a :: b :: c :: d :: r, _ =>
      have ha := hb a (by simp)
      have hb' := hb b (by simp)
      simp only [List.getD_cons_zero, List.getD_cons_succ] at h2 h3
      simp only [lenL, pre4, List.getD_cons_zero, List.getD_cons_succ, List.take_succ_cons, List.take_zero, List.cons.injEq, and_true]
      omega
  have e2 : (l.drop (4 + lenL l)).take 4 = le4 (sumL (recL l)) := by
    rw [h5]
    exact le4_num4 (hb.drop _) (by simp; omega)
  have e3 : l = l.take 4 ++ ((l.drop 4).take (lenL l) ++ ((l.drop (4 + lenL l)).take 4 ++ l.drop (lenL l + 8))) := by
    have a1 : l.drop (lenL l + 8) = (l.drop (4 + lenL l)).drop 4 := by rw [List.drop_drop]; congr 1; omega
    rw [a1, List.take_append_drop, show l.drop (4 + lenL l) = (l.drop 4).drop (lenL l) by rw [List.drop_drop], List.take_append_drop, List.take_append_drop]
  rw [e1, e2] at e3
  rw [frameL, hr]
  simpa [recL] using e3
/-- A record's frame stands whole, whatever follows. -/
theorem frame_whole {r : List Nat} (h : r.length ≤ 65535) (t : List Nat) : lenL (frameL r ++ t) = r.length ∧ recL (frameL r ++ t) = r ∧ wholeL (frameL r ++ t) = true := by
  have e : frameL r ++ t = (r.length % 256) :: (r.length / 256 % 256) :: (255 - r.length % 256) :: (255 - r.length / 256 % 256) :: (r ++ (le4 (sumL r) ++ t)) := by
    simp [frameL, pre4]
  have hn : lenL (frameL r ++ t) = r.length := by rw [e]; simp only [lenL, List.getD_cons_zero, List.getD_cons_succ]; omega
  have hr : recL (frameL r ++ t) = r := by rw [recL, hn, e]; simp
  refine ⟨hn, hr, (wholeL_iff _).2 ⟨?_, ?_, ?_, ?_⟩⟩
  · rw [List.length_append, frameL_len]; omega
  · rw [e]; simp only [List.getD_cons_zero, List.getD_cons_succ, and_self]
  · rw [hn, List.length_append, frameL_len]; omega
  · have e4 : (frameL r ++ t).drop (4 + r.length) = le4 (sumL r) ++ t := by
      rw [e, show 4 + r.length = r.length + 1 + 1 + 1 + 1 by omega, List.drop_succ_cons, List.drop_succ_cons, List.drop_succ_cons, List.drop_succ_cons, List.drop_left]
    rw [hr, hn, e4, num4_le4 (sumL_lt r)]
/-- A frame that is cut off does not stand whole. -/
theorem cut_frame {r t : List Nat} (h : r.length ≤ 65535) {m : Nat} (hm : m < r.length + 8) : wholeL ((frameL r ++ t).take m) = false := by
  rw [Bool.eq_false_iff]
  intro hw
  obtain ⟨h1, -, h4, -⟩ := (wholeL_iff _).1 hw
  have hl : ((frameL r ++ t).take m).length = m := by rw [List.length_take, List.length_append, frameL_len]; omega
  rw [hl] at h1 h4
  have e : lenL ((frameL r ++ t).take m) = lenL (frameL r ++ t) := by
    have g : ∀ i, i < 2 → ((frameL r ++ t).take m).getD i 0 = (frameL r ++ t).getD i 0 := fun i hi => by
      simp only [List.getD_eq_getElem?_getD]
      rw [List.getElem?_take, if_pos (by omega)]
    rw [lenL, lenL, g 0 (by omega), g 1 (by omega)]
  rw [e, (frame_whole h t).1] at h4
  omega

/-! What is told -/
def parseL : Nat → List Nat → List (List Nat) × Nat
  | 0, _ => ([], 0)
  | f + 1, l => if wholeL l = true then (recL l :: (parseL f (l.drop (lenL l + 8))).1, lenL l + 8 + (parseL f (l.drop (lenL l + 8))).2) else ([], 0)
def frames (rs : List (List Nat)) : List Nat := (rs.map frameL).flatten
theorem frames_cons (r : List Nat) (rs : List (List Nat)) : frames (r :: rs) = frameL r ++ frames rs := by simp [frames]
theorem frames_app (a b : List (List Nat)) : frames (a ++ b) = frames a ++ frames b := by simp [frames]
def Small (rs : List (List Nat)) : Prop := ∀ r ∈ rs, r.length ≤ 65535
theorem frames_len_ge : ∀ rs : List (List Nat), 8 * rs.length ≤ (frames rs).length
  | [] => by simp
  | r :: rs => by
    have := frames_len_ge rs
    rw [frames_cons, List.length_append, frameL_len, List.length_cons]
    omega
/-- Records whose frames stand one behind another are told, if none stands whole behind them. -/
theorem parse_frames : ∀ (rs : List (List Nat)) (t : List Nat) (f : Nat), Small rs → wholeL t = false → rs.length < f → parseL f (frames rs ++ t) = (rs, (frames rs).length)
  | [], t, 0, _, _, hf => by simp at hf
  | [], t, f + 1, _, ht, _ => by simp [frames, parseL, ht]
  | r :: rs, t, 0, _, _, hf => by simp at hf
  | r :: rs, t, f + 1, hs, ht, hf => by
    obtain ⟨h1, h2, h3⟩ := frame_whole (hs r (by simp)) (frames rs ++ t)
    have ih := parse_frames rs t f (fun x hx => hs x (by simp [hx])) ht (by simp at hf; omega)
    have e : (frameL r ++ (frames rs ++ t)).drop (r.length + 8) = frames rs ++ t := by rw [← frameL_len r, List.drop_left]
    rw [frames_cons, List.append_assoc, parseL, if_pos h3, h1, h2, e, ih, List.length_append, frameL_len]
/-- Whatever stands there is the frames of what is told, and a rest where none stands whole. -/
theorem parse_split : ∀ (f : Nat) (l : List Nat), Bytes l → l.length < f → ∃ t, l = frames (parseL f l).1 ++ t ∧ wholeL t = false ∧ (parseL f l).2 = (frames (parseL f l).1).length ∧ Small (parseL f l).1 ∧ (∀ r ∈ (parseL f l).1, Bytes r)
  | 0, l, _, h => by omega
  | f + 1, l, hb, h => by
    rw [parseL]
    by_cases hw : wholeL l = true
    · obtain ⟨h1, -, h4, -⟩ := (wholeL_iff l).1 hw
      rw [if_pos hw]
      obtain ⟨t, e1, e2, e3, e4, e5⟩ := parse_split f (l.drop (lenL l + 8)) (hb.drop _) (by simp; omega)
      have hr := recL_len h4
      refine ⟨t, ?_, e2, ?_, ?_, ?_⟩
      · show l = frames (recL l :: _) ++ t
        rw [frames_cons, List.append_assoc, ← e1]
        exact whole_frame hb hw
      · show lenL l + 8 + _ = (frames (recL l :: _)).length
        rw [frames_cons, List.length_append, frameL_len, hr, e3]
      · intro r hr'
        rcases List.mem_cons.1 hr' with rfl | hr'
        · rw [hr, lenL]
          have g : ∀ i, l.getD i 0 < 256 := fun i => by
            rw [List.getD_eq_getElem?_getD]
            cases hi : l[i]? with
            | none => simp
            | some x => exact hb x (List.mem_of_getElem? hi)
          have := g 0
          have := g 1
          omega
        · exact e4 r hr'
      · intro r hr'
        rcases List.mem_cons.1 hr' with rfl | hr'
        · exact (hb.drop 4).take _
        · exact e5 r hr'
    · rw [if_neg hw]
      exact ⟨l, by simp [frames], by simpa using hw, by simp [frames], (fun r hr => absurd hr (by simp)), (fun r hr => absurd hr (by simp))⟩
end Go.Proofs.Ytknjloffkiidhaa
