/- Patterns: trees, apart from memory and in it; look and Kinds as functions of a tree. -/
import Derived.Test.YtlnlefebcfnocaaSb
namespace Go.Proofs.Ytlnlefebcfnocaa
open Go.RowKit Go.ChangeShapes Go.WideShapes Go.Deep

inductive WT where
  | node (op num : Int) (l : List WT)
def WT.op : WT → Int | .node o _ _ => o
def WT.num : WT → Int | .node _ n _ => n
def WT.kids : WT → List WT | .node _ _ l => l
mutual
def WT.high : WT → Nat
  | .node _ _ l => 1 + whighs l
def whighs : List WT → Nat
  | [] => 0
  | x :: r => max x.high (whighs r)
end
theorem WT.high_node (o n : Int) (l : List WT) : (WT.node o n l).high = 1 + whighs l := by rw [WT.high]
theorem whighs_cons (x : WT) (r : List WT) : whighs (x :: r) = max x.high (whighs r) := by rw [whighs]
theorem whigh_mem {l : List WT} {x : WT} (h : x ∈ l) : x.high ≤ whighs l := by
  induction l with
  | nil => cases h
  | cons y r ih =>
    rw [whighs_cons]
    rcases List.mem_cons.1 h with rfl | h
    · omega
    · have := ih h; omega

/-! In memory -/
inductive IsW (w : World) (S : Nat → Prop) : WT → List Value → Prop
  | mk (o n : Int) (l : List WT) (a : Option Addr) (c g q : Nat) (vs : Nat → List Value) (hl : l.length ≤ c) (hc : c ≤ maxLen) (ha : 0 < l.length → a = some ⟨g, q, none⟩ ∧ S g)
      (hv : ∀ j x, l[j]? = some x → IsW w S x (vs j)) (hm : ∀ j x, l[j]? = some x → w.rangeAt g (q + j * 3) (vs j)) : IsW w S (.node o n l) [.int .i64 o, .int .i64 n, .slice a l.length c]
theorem IsW.len {w : World} {S : Nat → Prop} {t : WT} {cs : List Value} (h : IsW w S t cs) : cs.length = 3 := by cases h; rfl
theorem IsW.open_ {w : World} {S : Nat → Prop} {o n : Int} {l : List WT} {cs : List Value} (h : IsW w S (.node o n l) cs) : ∃ a c, cs = [.int .i64 o, .int .i64 n, .slice a l.length c] ∧ RowsOf (IsW w S) 3 w S l a l.length c := by
  cases h with
  | mk _ _ _ a c g q vs hl hc ha hv hm =>
    exact ⟨a, c, rfl, rfl, hl, hc, fun h0 => ⟨g, q, (ha h0).1, (ha h0).2, fun j x hj => ⟨vs j, hv j x hj, (hv j x hj).len, hm j x hj⟩⟩⟩
theorem IsW.shut {w : World} {S : Nat → Prop} {o n : Int} {l : List WT} {a : Option Addr} {m c : Nat} (h : RowsOf (IsW w S) 3 w S l a m c) : IsW w S (.node o n l) [.int .i64 o, .int .i64 n, .slice a m c] := by
  obtain ⟨rfl, hl, hc, h0⟩ := h
  rcases Nat.eq_zero_or_pos l.length with e | e
  · have : l = [] := List.length_eq_zero_iff.1 e
    subst this
    exact .mk o n [] a c 0 0 (fun _ => []) hl hc (fun h => absurd h (by simp)) (fun j x hj => by simp at hj) (fun j x hj => by simp at hj)
  · obtain ⟨g, q, ha, h1, hj⟩ := h0 e
    have hj' : ∀ j, ∃ cs, ∀ x, l[j]? = some x → IsW w S x cs ∧ cs.length = 3 ∧ w.rangeAt g (q + j * 3) cs := by
      intro j
      cases hx : l[j]? with
      | none => exact ⟨[], fun x h => by cases h⟩
      | some y =>
        obtain ⟨cs, h⟩ := hj j y hx
        exact ⟨cs, fun x h' => by cases h'; exact h⟩
    exact .mk o n l a c g q (fun j => Classical.choose (hj' j)) hl hc (fun _ => ⟨ha, h1⟩) (fun j x hx => (Classical.choose_spec (hj' j) x hx).1) (fun j x hx => (Classical.choose_spec (hj' j) x hx).2.2)
theorem IsW.keep {w w' : World} {S S' : Nat → Prop} (hS : ∀ b, S b → S' b) (hk : ∀ b, S b → ∀ j, w'.cell? ⟨b, j, none⟩ = w.cell? ⟨b, j, none⟩) {t : WT} {cs : List Value} (h : IsW w S t cs) : IsW w' S' t cs := by
  induction h with
  | mk o n l a c g q vs hl hc ha hv hm ih =>
    refine .mk o n l a c g q vs hl hc (fun h0 => ⟨(ha h0).1, hS g (ha h0).2⟩) ih (fun j x hx => ?_)
    have h0 : 0 < l.length := by have := (List.getElem?_eq_some_iff.1 hx).1; omega
    exact rangeAt_keep (hm j x hx) fun j => hk g (ha h0).2 j
theorem IsW.mono {w : World} {S S' : Nat → Prop} {t : WT} {cs : List Value} (h : IsW w S t cs) (hS : ∀ b, S b → S' b) : IsW w S' t cs := h.keep hS fun _ _ _ => rfl
theorem IsW.under {w w' : World} {S : Nat → Prop} {B : Nat} {t : WT} {cs : List Value} (h : IsW w S t cs) (hb : Below B w w') (hS : ∀ b, S b → b < B) : IsW w' S t cs :=
  h.keep (fun _ h => h) fun b hs j => hb.cell (p := ⟨b, j, none⟩) (hS b hs)
/-- A pattern without parts. -/
theorem IsW.leaf (w : World) (S : Nat → Prop) (o n : Int) : IsW w S (.node o n []) [.int .i64 o, .int .i64 n, .slice none 0 0] := IsW.shut (RowsOf.nil none 0 (by decide))

section
variable {H : Type} {enc : TypeId × Value → H} {P : Program} {w : World} {spare : Nat → Bool} {held : Bool}
theorem open_wt {T L : TypeId} {f0 f1 f2 : Field} (hT : P.underlying T = some (.struct #[f0, f1, f2])) (hone : oneCellFields P #[f0, f1, f2] = true) (hC : P.cellsOf T = 3)
    (h0 : P.underlying f0.type = some (.int .i64)) (h1 : P.underlying f1.type = some (.int .i64)) (h2 : f2.type = L) (hL : P.underlying L = some (.slice T)) :
    ∀ (fuel : Nat) (cs : List Value) (x : DataW H × List MemPlace), DataW.trod enc P w 0 spare held fuel T cs = some x → ∃ t, IsW w (· < w.heap.size) t cs := by
  intro fuel
  induction fuel using Nat.strongRecOn with
  | ind fuel ih =>
    intro cs x h
    obtain ⟨ys, n, hn, _, hlen, hyl, hf⟩ := DataW.trod_struct hT h
    rw [hC] at hlen
    match cs, hlen with
    | [c0, c1, c2], _ =>
      obtain ⟨o0, k0⟩ := hone_of hone 0 f0 rfl
      obtain ⟨o1, k1⟩ := hone_of hone 1 f1 rfl
      obtain ⟨o2, k2⟩ := hone_of hone 2 f2 rfl
      match ys, hyl with
      | [y0, y1, y2], _ =>
        have g0 := hf 0 f0 rfl
        have g1 := hf 1 f1 rfl
        have g2 := hf 2 f2 rfl
        rw [o0, k0] at g0
        rw [o1, k1] at g1
        rw [o2, k2, h2] at g2
        obtain ⟨k, e0, -, w0⟩ := DataW.trod_int h0 g0
        obtain ⟨i, e1, -, w1⟩ := DataW.trod_int h1 g1
        obtain ⟨l, a, m, c, e2, hr⟩ := open_rows (E := IsW w (· < w.heap.size)) (sz := 3) hL hC (fun n' cs' x' hn' h' => ih n' (by omega) cs' x' h') g2 (by omega)
        simp at e0 e1 e2
        subst e0 e1 e2
        exact ⟨.node k i l, IsW.shut hr⟩
end
theorem cellsW : Try.prog.cellsOf 35 = 3 := by kernel_rfl
theorem open_want {H : Type} {enc : TypeId × Value → H} {w : World} {spare : Nat → Bool} {held : Bool} (fuel : Nat) (cs : List Value) (x : DataW H × List MemPlace) (h : DataW.trod enc Try.prog w 0 spare held fuel 35 cs = some x) : ∃ t, IsW w (· < w.heap.size) t cs :=
  open_wt Try.underlying35 (by kernel_rfl) cellsW Try.underlying3 Try.underlying3 rfl Try.underlying33 fuel cs x h

/-! look -/
def okN (op num : Int) (n : Nat) : Bool :=
  if op = 1 then decide (num = 0 ∧ n = 0) else if op = 2 then decide ((0 ≤ num ∧ num < 14) ∧ n = 0) else if op = 3 then decide ((0 ≤ num ∧ num < 10) ∧ n = 0)
  else if op = 4 ∨ op = 5 then decide (num = 0 ∧ 2 ≤ n) else if op = 6 then decide (num = 0 ∧ n = 1) else false
mutual
def lookW : WT → Int → Int → Int
  | .node op num l, deep, seen => if 128 < deep ∨ 16384 < seen then -1 else if okN op num l.length = true then lookL l deep seen else -1
def lookL : List WT → Int → Int → Int
  | [], _, seen => seen
  | x :: r, deep, seen => if lookW x (deep + 1) (seen + 1) < 0 then -1 else lookL r deep (lookW x (deep + 1) (seen + 1))
end
theorem lookW_node (op num : Int) (l : List WT) (deep seen : Int) : lookW (.node op num l) deep seen = if 128 < deep ∨ 16384 < seen then -1 else if okN op num l.length = true then lookL l deep seen else -1 := by rw [lookW]
theorem lookL_nil (deep seen : Int) : lookL [] deep seen = seen := by rw [lookL]
theorem lookL_cons (x : WT) (r : List WT) (deep seen : Int) : lookL (x :: r) deep seen = if lookW x (deep + 1) (seen + 1) < 0 then -1 else lookL r deep (lookW x (deep + 1) (seen + 1)) := by rw [lookL]
theorem look_drop {l : List WT} {j : Nat} {x : WT} (hx : l[j]? = some x) (deep seen : Int) : lookL (l.drop j) deep seen = if lookW x (deep + 1) (seen + 1) < 0 then -1 else lookL (l.drop (j + 1)) deep (lookW x (deep + 1) (seen + 1)) := by
  obtain ⟨hi, rfl⟩ := List.getElem?_eq_some_iff.1 hx
  rw [List.drop_eq_getElem_cons hi, lookL_cons]
theorem lookL_bd {deep : Int} : ∀ (l : List WT) (seen : Int), (∀ x ∈ l, ∀ s, 0 ≤ s → lookW x (deep + 1) s = -1 ∨ (s ≤ lookW x (deep + 1) s ∧ lookW x (deep + 1) s ≤ 16384)) → 0 ≤ seen → seen ≤ 16384 → lookL l deep seen = -1 ∨ (seen ≤ lookL l deep seen ∧ lookL l deep seen ≤ 16384) := by
  intro l
  induction l with
  | nil => intro seen _ h0 h1; rw [lookL_nil]; omega
  | cons x r ih =>
    intro seen hx h0 h1
    rw [lookL_cons]
    split
    · exact .inl rfl
    · have h2 := hx x (by simp) (seen + 1) (by omega)
      rcases h2 with h2 | h2
      · omega
      · have := ih (lookW x (deep + 1) (seen + 1)) (fun y hy => hx y (by simp [hy])) (by omega) (by omega)
        omega
theorem look_bd : ∀ (m : Nat) (t : WT), t.high ≤ m → ∀ deep seen : Int, 0 ≤ seen → lookW t deep seen = -1 ∨ (seen ≤ lookW t deep seen ∧ lookW t deep seen ≤ 16384) := by
  intro m
  induction m with
  | zero => intro t ht; cases t; rw [WT.high_node] at ht; omega
  | succ m ih =>
    intro t ht deep seen h0
    obtain ⟨o, n, l⟩ := t
    rw [WT.high_node] at ht
    rw [lookW_node]
    split
    · exact .inl rfl
    · split
      · exact lookL_bd l seen (fun x hx s hs => ih x (by have := whigh_mem hx; omega) (deep + 1) s hs) h0 (by omega)
      · exact .inl rfl
def fitW (t : WT) : Bool := decide (0 ≤ lookW t 1 1)

/-- The loop of look. -/
def LOW (w : World) (l : List WT) (deep X : Int) (v : Value) (sv iv : Value) (wr : World) : Prop :=
  ∃ (j : Nat) (s : Int), iv = .int .i64 j ∧ sv = .int .i64 s ∧ j ≤ l.length ∧ 0 ≤ s ∧ s ≤ 16384 ∧ lookL (l.drop j) deep s = X ∧ (∃ u0 u1, Blk wr w.heap.size 35 #[u0, u1, v]) ∧ Below w.heap.size w wr

set_option maxHeartbeats 8000000 in
set_option maxRecDepth 100000 in
theorem look_any : ∀ (m : Nat) (t : WT), t.high ≤ m → ∀ (w : World) (S : Nat → Prop) (cs : List Value) (deep seen : Int), IsW w S t cs → (∀ b, S b → b < w.heap.size) → 0 ≤ deep → deep ≤ 129 → 0 ≤ seen → seen ≤ 16385 →
    Calls Try.prog 51 #[.agg cs.toArray, .int .i64 deep, .int .i64 seen] w fun e w' => e = .returned (.int .i64 (lookW t deep seen)) ∧ Below w.heap.size w w' := by
  intro m
  induction m with
  | zero => intro t ht; cases t; rw [WT.high_node] at ht; omega
  | succ m ih =>
    intro t ht w S cs deep seen hd hS hd0 hd1 hs0 hs1
    obtain ⟨o, n, l⟩ := t
    obtain ⟨a, c, rfl, hrow⟩ := hd.open_
    have HH : Hid (∀ x ∈ l, x.high ≤ m) := fun x hx => by have := whigh_mem hx; rw [WT.high_node] at ht; omega
    have hT := lookW_node o n l deep seen
    have HROW := Lib.hid hrow
    have HS := Lib.hid hS
    have IH := Lib.hid ih
    have hcl : c ≤ maxLen := hrow.2.2.1
    have hlc : l.length ≤ c := hrow.2.1
    unfold maxLen at hcl
    clear ht hd hrow hS ih
    by_cases h1 : 128 < deep
    · rw [if_pos (.inl h1)] at hT
      rw [hT]
      clear hT
      go_enter Try.func51, Try.ntmps51
      go_wp2_with fail
      go_ret
      exact ⟨rfl, by go_grown⟩
    by_cases h2 : 16384 < seen
    · rw [if_pos (.inr h2)] at hT
      rw [hT]
      clear hT
      go_enter Try.func51, Try.ntmps51
      go_wp2_with fail
      go_ret
      exact ⟨rfl, by go_grown⟩
    rw [if_neg (by omega)] at hT
    cases hok : okN o n l.length with
    | false =>
      rw [hok, if_neg (by simp)] at hT
      rw [hT]
      have HOK := Lib.hid hok
      clear hT hok
      go_enter Try.func51, Try.ntmps51
      go_wp2_with fail
      all_goals first
        | (go_ret; exact ⟨rfl, by go_grown⟩)
        | (exfalso; have hh := HOK.out; simp_all [okN]; done)
        | (exfalso; have hh := HOK.out; simp_all [okN]; omega)
    | true =>
      rw [hok, if_pos rfl] at hT
      have HOK := Lib.hid hok
      have HT := Lib.hid hT
      clear hT hok
      go_enter Try.func51, Try.ntmps51
      go_wp2_with fail
      all_goals first
        | (exfalso; have hh := HOK.out; simp_all [okN]; done)
        | (exfalso; have hh := HOK.out; simp_all [okN]; omega)
        | skip
      all_goals
        go_loopw [2, 8] (LOW w l deep (lookW (.node o n l) deep seen) (.slice a l.length c)) (fun _ i _ => l.length - (intOf i).toNat)
        case atStart => exact ⟨0, seen, rfl, rfl, Nat.zero_le _, hs0, by omega, HT.out.symm, ⟨_, _, Blk.new _ _ _⟩, by go_grown⟩
        case round =>
          obtain ⟨j, s, rfl, rfl, hj, hq0, hq1, hkeep, ⟨u0, u1, hB⟩, hbel⟩ := hrel
          have HK := Lib.hid hkeep
          have c2 := hB.cell 2
          simp only [List.getElem?_toArray, List.getElem?_cons_succ, List.getElem?_cons_zero] at c2
          have HB := Lib.hid hB
          have hsz := hbel.size
          clear hkeep hB
          by_cases hlt : j < l.length
          · obtain ⟨g, q, x, xs, rfl, hSg, hx, hD, hxl, hr⟩ := HROW.out.get hlt
            have hr2 : wr.rangeAt g (q + j * 3) xs := rangeAt_keep hr fun y => hbel.cell (p := ⟨g, y, none⟩) (HS.out g hSg)
            have hD2 := hD.under hbel HS.out
            have hbd := look_bd _ x (Nat.le_refl _) (deep + 1) (s + 1) (by omega)
            have hdr := look_drop hx deep s
            have hc := IH.out x (HH.out x (List.mem_of_getElem? hx)) wr S xs (deep + 1) (s + 1) hD2 (fun y hy => Nat.lt_of_lt_of_le (HS.out y hy) hsz) (by omega) (by omega) (by omega) (by omega)
            generalize lookW x (deep + 1) (s + 1) = z at hc hbd hdr
            obtain ⟨ox, nx, lx⟩ := x
            obtain ⟨ax, cx, rfl, -⟩ := hD.open_
            have d0 := hr2 0 _ rfl
            have d1 := hr2 1 _ rfl
            have d2 := hr2 2 _ rfl
            simp only [Nat.add_zero] at d0
            have HC := Lib.hid hc
            have HDR := Lib.hid hdr
            clear hr hr2 hD hD2 hx hxl hc hdr
            go_wp2_with fail
            refine HC.out.mono ?_
            rintro e w1 ⟨rfl, hb1⟩
            have hB1 : Below w.heap.size w w1 := hbel.trans (hb1.mono hsz)
            have HB1 : Hid (Blk w1 w.heap.size 35 _) := HB.out.under hb1 HB.out.lt
            clear c2 d0 d1 d2 hb1
            by_cases hz : z < 0
            · go_wp2_with fail
              go_ret
              exact ⟨ret_i (by rw [← HK.out, HDR.out, if_pos hz]), hB1⟩
            · go_wp2_with fail
              go_roundw
              case rel => exact ⟨j + 1, z, by go_num, rfl, by omega, by omega, by omega, by rw [← HK.out, HDR.out, if_neg (by omega)], ⟨_, _, HB1.out⟩, hB1⟩
              case measure => simp [intOf]; omega
          · obtain rfl : j = l.length := by omega
            go_wp2_with fail
            go_ret
            exact ⟨ret_i (by rw [← HK.out]; simp [lookL_nil]), hbel⟩

set_option maxRecDepth 100000 in
set_option maxHeartbeats 4000000 in
theorem want_fit (t : WT) (w : World) (S : Nat → Prop) (cs : List Value) (hd : IsW w S t cs) (hS : ∀ q, S q → q < w.heap.size) :
    Calls Try.prog 48 #[.agg cs.toArray] w fun e w' => e = .returned (.bool (fitW t)) ∧ Below w.heap.size w w' := by
  have hbd := look_bd _ t (Nat.le_refl _) 1 1 (by omega)
  have hfw : fitW t = decide (0 ≤ lookW t 1 1) := rfl
  have hc := fun W (hW : Below w.heap.size w W) => look_any _ t (Nat.le_refl _) W S cs 1 1 (hd.under hW hS) (fun q hq => Nat.lt_of_lt_of_le (hS q hq) hW.size) (by omega) (by omega) (by omega) (by omega)
  generalize lookW t 1 1 = z at hbd hfw hc
  generalize fitW t = fb at hfw ⊢
  obtain ⟨o, n, l⟩ := t
  obtain ⟨a, c, rfl, -⟩ := hd.open_
  have HC := Lib.hid hc
  have HF := Lib.hid hfw
  clear hc hd hS hfw
  go_enter Try.func48, Try.ntmps48
  go_wp2_with fail
  refine (HC.out _ (by go_grown)).mono ?_
  rintro e w1 ⟨rfl, hb1⟩
  have hB1 : Below w.heap.size w w1 := below_on hb1 (by go_grown)
  clear hb1
  by_cases hz : 0 ≤ z
  · obtain rfl : fb = true := by rw [HF.out]; exact decide_eq_true hz
    have h2 : z ≤ 16384 := by omega
    have h3 : ¬ z < 0 := by omega
    go_wp2_with fail
    go_ret
    exact ⟨rfl, hB1⟩
  · obtain rfl : fb = false := by rw [HF.out]; exact decide_eq_false hz
    have h3 : z < 0 := by omega
    go_wp2_with fail
    go_ret
    exact ⟨rfl, hB1⟩
end Go.Proofs.Ytlnlefebcfnocaa
