/- Patterns: trees, apart from memory and in it; look and Kinds as functions of a tree. -/
import Derived.Test.YtpemgccocmdmbaaLk
namespace Go.Proofs.Ytpemgccocmdmbaa
open Go.RowKit Go.ChangeShapes Go.WideShapes Go.Deep

inductive WT where
  | node (op num : Int) (l : List WT)
def WT.op : WT → Int | .node o _ _ => o
def WT.num : WT → Int | .node _ n _ => n
def WT.kids : WT → List WT | .node _ _ l => l
mutual
def WT.high : WT → Nat
  | .node _ _ l => 1 + whighs l
def whighs : List WT → Nat
  | [] => 0
  | x :: r => max x.high (whighs r)
end
theorem WT.high_node (o n : Int) (l : List WT) : (WT.node o n l).high = 1 + whighs l := by rw [WT.high]
theorem whighs_cons (x : WT) (r : List WT) : whighs (x :: r) = max x.high (whighs r) := by rw [whighs]
theorem whigh_mem {l : List WT} {x : WT} (h : x ∈ l) : x.high ≤ whighs l := by
  induction l with
  | nil => cases h
  | cons y r ih =>
    rw [whighs_cons]
    rcases List.mem_cons.1 h with rfl | h
    · omega
    · have := ih h; omega

/-! In memory -/
inductive IsW (w : World) (S : Nat → Prop) : WT → List Value → Prop
  | mk (o n : Int) (l : List WT) (a : Option Addr) (c g q : Nat) (vs : Nat → List Value) (hl : l.length ≤ c) (hc : c ≤ maxLen) (ha : 0 < l.length → a = some ⟨g, q, none⟩ ∧ S g)
      (hv : ∀ j x, l[j]? = some x → IsW w S x (vs j)) (hm : ∀ j x, l[j]? = some x → w.rangeAt g (q + j * 3) (vs j)) : IsW w S (.node o n l) [.int .i64 o, .int .i64 n, .slice a l.length c]
theorem IsW.len {w : World} {S : Nat → Prop} {t : WT} {cs : List Value} (h : IsW w S t cs) : cs.length = 3 := by cases h; rfl
theorem IsW.open_ {w : World} {S : Nat → Prop} {o n : Int} {l : List WT} {cs : List Value} (h : IsW w S (.node o n l) cs) : ∃ a c, cs = [.int .i64 o, .int .i64 n, .slice a l.length c] ∧ RowsOf (IsW w S) 3 w S l a l.length c := by
  cases h with
  | mk _ _ _ a c g q vs hl hc ha hv hm =>
    exact ⟨a, c, rfl, rfl, hl, hc, fun h0 => ⟨g, q, (ha h0).1, (ha h0).2, fun j x hj => ⟨vs j, hv j x hj, (hv j x hj).len, hm j x hj⟩⟩⟩
theorem IsW.shut {w : World} {S : Nat → Prop} {o n : Int} {l : List WT} {a : Option Addr} {m c : Nat} (h : RowsOf (IsW w S) 3 w S l a m c) : IsW w S (.node o n l) [.int .i64 o, .int .i64 n, .slice a m c] := by
  obtain ⟨rfl, hl, hc, h0⟩ := h
  rcases Nat.eq_zero_or_pos l.length with e | e
  · have : l = [] := List.length_eq_zero_iff.1 e
    subst this
    exact .mk o n [] a c 0 0 (fun _ => []) hl hc (fun h => absurd h (by simp)) (fun j x hj => by simp at hj) (fun j x hj => by simp at hj)
  · obtain ⟨g, q, ha, h1, hj⟩ := h0 e
    have hj' : ∀ j, ∃ cs, ∀ x, l[j]? = some x → IsW w S x cs ∧ cs.length = 3 ∧ w.rangeAt g (q + j * 3) cs := by
      intro j
      cases hx : l[j]? with
      | none => exact ⟨[], fun x h => by cases h⟩
      | some y =>
        obtain ⟨cs, h⟩ := hj j y hx
        exact ⟨cs, fun x h' => by cases h'; exact h⟩
    exact .mk o n l a c g q (fun j => Classical.choose (hj' j)) hl hc (fun _ => ⟨ha, h1⟩) (fun j x hx => (Classical.choose_spec (hj' j) x hx).1) (fun j x hx => (Classical.choose_spec (hj' j) x hx).2.2)
theorem IsW.keep {w w' : World} {S S' : Nat → Prop} (hS : ∀ b, S b → S' b) (hk : ∀ b, S b → ∀ j, w'.cell? ⟨b, j, none⟩ = w.cell? ⟨b, j, none⟩) {t : WT} {cs : List Value} (h : IsW w S t cs) : IsW w' S' t cs := by
  induction h with
  | mk o n l a c g q vs hl hc ha hv hm ih =>
    refine .mk o n l a c g q vs hl hc (fun h0 => ⟨(ha h0).1, hS g (ha h0).2⟩) ih (fun j x hx => ?_)
    have h0 : 0 < l.length := by have := (List.getElem?_eq_some_iff.1 hx).1; omega
    exact rangeAt_keep (hm j x hx) fun j => hk g (ha h0).2 j
theorem IsW.mono {w : World} {S S' : Nat → Prop} {t : WT} {cs : List Value} (h : IsW w S t cs) (hS : ∀ b, S b → S' b) : IsW w S' t cs := h.keep hS fun _ _ _ => rfl
theorem IsW.under {w w' : World} {S : Nat → Prop} {B : Nat} {t : WT} {cs : List Value} (h : IsW w S t cs) (hb : Below B w w') (hS : ∀ b, S b → b < B) : IsW w' S t cs :=
  h.keep (fun _ h => h) fun b hs j => hb.cell (p := ⟨b, j, none⟩) (hS b hs)
/-- A pattern without parts. -/
theorem IsW.leaf (w : World) (S : Nat → Prop) (o n : Int) : IsW w S (.node o n []) [.int .i64 o, .int .i64 n, .slice none 0 0] := IsW.shut (RowsOf.nil none 0 (by decide))

section
variable {H : Type} {enc : TypeId × Value → H} {P : Program} {w : World} {spare : Nat → Bool} {held : Bool}
theorem open_wt {T L : TypeId} {f0 f1 f2 : Field} (hT : P.underlying T = some (.struct #[f0, f1, f2])) (hone : oneCellFields P #[f0, f1, f2] = true) (hC : P.cellsOf T = 3)
    (h0 : P.underlying f0.type = some (.int .i64)) (h1 : P.underlying f1.type = some (.int .i64)) (h2 : f2.type = L) (hL : P.underlying L = some (.slice T)) :
    ∀ (fuel : Nat) (cs : List Value) (x : DataW H × List MemPlace), DataW.trod enc P w 0 spare held fuel T cs = some x → ∃ t, IsW w (· < w.heap.size) t cs := by
  intro fuel
  induction fuel using Nat.strongRecOn with
  | ind fuel ih =>
    intro cs x h
    obtain ⟨ys, n, hn, _, hlen, hyl, hf⟩ := DataW.trod_struct hT h
    rw [hC] at hlen
    match cs, hlen with
    | [c0, c1, c2], _ =>
      obtain ⟨o0, k0⟩ := hone_of hone 0 f0 rfl
      obtain ⟨o1, k1⟩ := hone_of hone 1 f1 rfl
      obtain ⟨o2, k2⟩ := hone_of hone 2 f2 rfl
      match ys, hyl with
      | [y0, y1, y2], _ =>
        have g0 := hf 0 f0 rfl
        have g1 := hf 1 f1 rfl
        have g2 := hf 2 f2 rfl
        rw [o0, k0] at g0
        rw [o1, k1] at g1
        rw [o2, k2, h2] at g2
        obtain ⟨k, e0, -, w0⟩ := DataW.trod_int h0 g0
        obtain ⟨i, e1, -, w1⟩ := DataW.trod_int h1 g1
        obtain ⟨l, a, m, c, e2, hr⟩ := open_rows (E := IsW w (· < w.heap.size)) (sz := 3) hL hC (fun n' cs' x' hn' h' => ih n' (by omega) cs' x' h') g2 (by omega)
        simp at e0 e1 e2
        subst e0 e1 e2
        exact ⟨.node k i l, IsW.shut hr⟩
end
theorem cellsW : Try.prog.cellsOf 24 = 3 := by kernel_rfl
theorem open_want {H : Type} {enc : TypeId × Value → H} {w : World} {spare : Nat → Bool} {held : Bool} (fuel : Nat) (cs : List Value) (x : DataW H × List MemPlace) (h : DataW.trod enc Try.prog w 0 spare held fuel 24 cs = some x) : ∃ t, IsW w (· < w.heap.size) t cs :=
  open_wt Try.underlying24 (by kernel_rfl) cellsW Try.underlying3 Try.underlying3 rfl Try.underlying22 fuel cs x h

/-! look -/
def okN (op num : Int) (n : Nat) : Bool :=
  if op = 1 then decide (num = 0 ∧ n = 0) else if op = 2 then decide ((0 ≤ num ∧ num < 14) ∧ n = 0) else if op = 3 then decide ((0 ≤ num ∧ num < 10) ∧ n = 0)
  else if op = 4 ∨ op = 5 then decide (num = 0 ∧ 2 ≤ n) else if op = 6 then decide (num = 0 ∧ n = 1) else false
mutual
def lookW : WT → Int → Int → Int
  | .node op num l, deep, seen => if 128 < deep ∨ 16384 < seen then -1 else if okN op num l.length = true then lookL l deep seen else -1
def lookL : List WT → Int → Int → Int
  | [], _, seen => seen
  | x :: r, deep, seen => if lookW x (deep + 1) (seen + 1) < 0 then -1 else lookL r deep (lookW x (deep + 1) (seen + 1))
end
theorem lookW_node (op num : Int) (l : List WT) (deep seen : Int) : lookW (.node op num l) deep seen = if 128 < deep ∨ 16384 < seen then -1 else if okN op num l.length = true then lookL l deep seen else -1 := by rw [lookW]
theorem lookL_nil (deep seen : Int) : lookL [] deep seen = seen := by rw [lookL]
theorem lookL_cons (x : WT) (r : List WT) (deep seen : Int) : lookL (x :: r) deep seen = if lookW x (deep + 1) (seen + 1) < 0 then -1 else lookL r deep (lookW x (deep + 1) (seen + 1)) := by rw [lookL]
theorem look_drop {l : List WT} {j : Nat} {x : WT} (hx : l[j]? = some x) (deep seen : Int) : lookL (l.drop j) deep seen = if lookW x (deep + 1) (seen + 1) < 0 then -1 else lookL (l.drop (j + 1)) deep (lookW x (deep + 1) (seen + 1)) := by
  obtain ⟨hi, rfl⟩ := List.getElem?_eq_some_iff.1 hx
  rw [List.drop_eq_getElem_cons hi, lookL_cons]
theorem lookL_bd {deep : Int} : ∀ (l : List WT) (seen : Int), (∀ x ∈ l, ∀ s, 0 ≤ s → lookW x (deep + 1) s = -1 ∨ (s ≤ lookW x (deep + 1) s ∧ lookW x (deep + 1) s ≤ 16384)) → 0 ≤ seen → seen ≤ 16384 → lookL l deep seen = -1 ∨ (seen ≤ lookL l deep seen ∧ lookL l deep seen ≤ 16384) := by
  intro l
  induction l with
  | nil => intro seen _ h0 h1; rw [lookL_nil]; omega
  | cons x r ih =>
    intro seen hx h0 h1
    rw [lookL_cons]
    split
    · exact .inl rfl
    · have h2 := hx x (by simp) (seen + 1) (by omega)
      rcases h2 with h2 | h2
      · omega
      · have := ih (lookW x (deep + 1) (seen + 1)) (fun y hy => hx y (by simp [hy])) (by omega) (by omega)
        omega
theorem look_bd : ∀ (m : Nat) (t : WT), t.high ≤ m → ∀ deep seen : Int, 0 ≤ seen → lookW t deep seen = -1 ∨ (seen ≤ lookW t deep seen ∧ lookW t deep seen ≤ 16384) := by
  intro m
  induction m with
  | zero => intro t ht; cases t; rw [WT.high_node] at ht; omega
  | succ m ih =>
    intro t ht deep seen h0
    obtain ⟨o, n, l⟩ := t
    rw [WT.high_node] at ht
    rw [lookW_node]
    split
    · exact .inl rfl
    · split
      · exact lookL_bd l seen (fun x hx s hs => ih x (by have := whigh_mem hx; omega) (deep + 1) s hs) h0 (by omega)
      · exact .inl rfl
def fitW (t : WT) : Bool := decide (0 ≤ lookW t 1 1)
end Go.Proofs.Ytpemgccocmdmbaa
