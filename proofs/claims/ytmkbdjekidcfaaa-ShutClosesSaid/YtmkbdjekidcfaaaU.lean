/- A Datum in memory: rows of structs, trees of plain data; and how an argument is opened to one. -/
import Derived.Test.YtmkbdjekidcfaaaT
import Derived.Test.YtmkbdjekidcfaaaK
import Derived.Deep.Fields
import Derived.Deep.Slices
import Derived.Deep.MidRow
import Derived.ChangeSame
namespace Go.Proofs.Ytmkbdjekidcfaaa
open Go.RowKit Go.ChangeShapes Go.WideShapes Go.Deep

/-- The blocks from lo on and ahead of hi. -/
def Btw (lo hi : Nat) : Nat → Prop := fun b => lo ≤ b ∧ b < hi

/-- A row of structs, of sz cells each, in blocks of S. -/
def RowsOf {α : Type} (E : α → List Value → Prop) (sz : Nat) (w : World) (S : Nat → Prop) (l : List α) (a : Option Addr) (n c : Nat) : Prop :=
  n = l.length ∧ n ≤ c ∧ c ≤ maxLen ∧ (0 < n → ∃ g o, a = some ⟨g, o, none⟩ ∧ S g ∧
    ∀ j x, l[j]? = some x → ∃ cs, E x cs ∧ cs.length = sz ∧ w.rangeAt g (o + j * sz) cs)

inductive IsD (w : World) (S : Nat → Prop) : Tree → List Value → Prop
  | mk (k i b : Int) (t : ByteArray) (l : List Tree) (a : Option Addr) (c g o : Nat) (vs : Nat → List Value)
      (hk : (Lit.int .i64 k).wf = true) (hi' : (Lit.int .i64 i).wf = true) (hb : (Lit.int .u64 b).wf = true) (ht : t.size ≤ maxLen)
      (hl : l.length ≤ c) (hc : c ≤ maxLen) (ha : 0 < l.length → a = some ⟨g, o, none⟩ ∧ S g)
      (hv : ∀ j x, l[j]? = some x → IsD w S x (vs j)) (hm : ∀ j x, l[j]? = some x → w.rangeAt g (o + j * 5) (vs j)) :
      IsD w S (.node k i b t l) [.int .i64 k, .int .i64 i, .int .u64 b, .string t, .slice a l.length c]

theorem IsD.len {w : World} {S : Nat → Prop} {t : Tree} {cs : List Value} (h : IsD w S t cs) : cs.length = 5 := by cases h; rfl
theorem IsD.one {w : World} {S : Nat → Prop} {t : Tree} {cs : List Value} (h : IsD w S t cs) : ∀ v ∈ cs, v.oneCell' = true := by
  cases h
  intro v hv
  simp only [List.mem_cons, List.not_mem_nil, or_false] at hv
  rcases hv with rfl | rfl | rfl | rfl | rfl <;> rfl

theorem RowsOf.nil {α : Type} {E : α → List Value → Prop} {sz : Nat} {w : World} {S : Nat → Prop} (a : Option Addr) (c : Nat) (hc : c ≤ maxLen) : RowsOf E sz w S ([] : List α) a 0 c :=
  ⟨rfl, Nat.zero_le _, hc, fun h => absurd h (by omega)⟩

theorem IsD.open_ {w : World} {S : Nat → Prop} {k i b : Int} {t : ByteArray} {l : List Tree} {cs : List Value} (h : IsD w S (.node k i b t l) cs) :
    ∃ a c, cs = [.int .i64 k, .int .i64 i, .int .u64 b, .string t, .slice a l.length c] ∧ (Lit.int .i64 k).wf = true ∧ (Lit.int .i64 i).wf = true ∧ (Lit.int .u64 b).wf = true ∧ t.size ≤ maxLen ∧
      RowsOf (IsD w S) 5 w S l a l.length c := by
  cases h with
  | mk _ _ _ _ _ a c g o vs hk hi' hb ht hl hc ha hv hm =>
    exact ⟨a, c, rfl, hk, hi', hb, ht, rfl, hl, hc, fun h0 => ⟨g, o, (ha h0).1, (ha h0).2, fun j x hj => ⟨vs j, hv j x hj, (hv j x hj).len, hm j x hj⟩⟩⟩

theorem IsD.shut {w : World} {S : Nat → Prop} {k i b : Int} {t : ByteArray} {l : List Tree} {a : Option Addr} {n c : Nat} (hk : (Lit.int .i64 k).wf = true) (hi' : (Lit.int .i64 i).wf = true) (hb : (Lit.int .u64 b).wf = true)
    (ht : t.size ≤ maxLen) (h : RowsOf (IsD w S) 5 w S l a n c) : IsD w S (.node k i b t l) [.int .i64 k, .int .i64 i, .int .u64 b, .string t, .slice a n c] := by
  obtain ⟨rfl, hl, hc, h0⟩ := h
  rcases Nat.eq_zero_or_pos l.length with e | e
  · have : l = [] := List.length_eq_zero_iff.1 e
    subst this
    exact .mk k i b t [] a c 0 0 (fun _ => []) hk hi' hb ht hl hc (fun h => absurd h (by simp)) (fun j x hj => by simp at hj) (fun j x hj => by simp at hj)
  · obtain ⟨g, o, ha, h1, hj⟩ := h0 e
    have hj' : ∀ j, ∃ cs, ∀ x, l[j]? = some x → IsD w S x cs ∧ cs.length = 5 ∧ w.rangeAt g (o + j * 5) cs := by
      intro j
      cases hx : l[j]? with
      | none => exact ⟨[], fun x h => by cases h⟩
      | some y =>
        obtain ⟨cs, h⟩ := hj j y hx
        exact ⟨cs, fun x h' => by cases h'; exact h⟩
    exact .mk k i b t l a c g o (fun j => Classical.choose (hj' j)) hk hi' hb ht hl hc (fun _ => ⟨ha, h1⟩)
      (fun j x hx => (Classical.choose_spec (hj' j) x hx).1) (fun j x hx => (Classical.choose_spec (hj' j) x hx).2.2)

theorem rangeAt_keep {w w' : World} {g o : Nat} {cs : List Value} (h : w.rangeAt g o cs) (hk : ∀ j, w'.cell? ⟨g, j, none⟩ = w.cell? ⟨g, j, none⟩) : w'.rangeAt g o cs := fun j v hv => (hk _).trans (h j v hv)
theorem RowsOf.map {α : Type} {E E' : α → List Value → Prop} {sz : Nat} {w w' : World} {S S' : Nat → Prop} {l : List α} {a : Option Addr} {n c : Nat} (h : RowsOf E sz w S l a n c)
    (hE : ∀ x cs, x ∈ l → E x cs → E' x cs) (hS : ∀ b, S b → S' b) (hk : ∀ b, S b → ∀ j, w'.cell? ⟨b, j, none⟩ = w.cell? ⟨b, j, none⟩) : RowsOf E' sz w' S' l a n c := by
  obtain ⟨h1, h2, h3, h4⟩ := h
  refine ⟨h1, h2, h3, fun h0 => ?_⟩
  obtain ⟨g, o, ha, hg, hj⟩ := h4 h0
  refine ⟨g, o, ha, hS g hg, fun j x hx => ?_⟩
  obtain ⟨cs, he, hl, hr⟩ := hj j x hx
  exact ⟨cs, hE x cs (List.mem_of_getElem? hx) he, hl, rangeAt_keep hr fun j => hk g hg j⟩
theorem IsD.keep {w w' : World} {S S' : Nat → Prop} (hS : ∀ b, S b → S' b) (hk : ∀ b, S b → ∀ j, w'.cell? ⟨b, j, none⟩ = w.cell? ⟨b, j, none⟩) {t : Tree} {cs : List Value} (h : IsD w S t cs) : IsD w' S' t cs := by
  induction h with
  | mk k i b t l a c g o vs wk wi wb ht hl hc ha hv hm ih =>
    refine .mk k i b t l a c g o vs wk wi wb ht hl hc (fun h0 => ⟨(ha h0).1, hS g (ha h0).2⟩) ih (fun j x hx => ?_)
    have h0 : 0 < l.length := by have := (List.getElem?_eq_some_iff.1 hx).1; omega
    exact rangeAt_keep (hm j x hx) fun j => hk g (ha h0).2 j
theorem IsD.mono {w : World} {S S' : Nat → Prop} {t : Tree} {cs : List Value} (h : IsD w S t cs) (hS : ∀ b, S b → S' b) : IsD w S' t cs := h.keep hS fun _ _ _ => rfl
/-- Over a call that keeps what lay below B. -/
theorem IsD.under {w w' : World} {S : Nat → Prop} {B : Nat} {t : Tree} {cs : List Value} (h : IsD w S t cs) (hb : Below B w w') (hS : ∀ b, S b → b < B) : IsD w' S t cs :=
  h.keep (fun _ h => h) fun b hs j => hb.cell (p := ⟨b, j, none⟩) (hS b hs)
theorem RowsOf.under {α : Type} {E E' : α → List Value → Prop} {sz : Nat} {w w' : World} {S : Nat → Prop} {B : Nat} {l : List α} {a : Option Addr} {n c : Nat} (h : RowsOf E sz w S l a n c) (hE : ∀ x cs, x ∈ l → E x cs → E' x cs)
    (hb : Below B w w') (hS : ∀ b, S b → b < B) : RowsOf E' sz w' S l a n c :=
  h.map hE (fun _ h => h) fun b hs j => hb.cell (p := ⟨b, j, none⟩) (hS b hs)
theorem RowsOf.get {α : Type} {E : α → List Value → Prop} {sz : Nat} {w : World} {S : Nat → Prop} {l : List α} {a : Option Addr} {n c : Nat} (h : RowsOf E sz w S l a n c) {j : Nat} (hj : j < n) :
    ∃ g o x cs, a = some ⟨g, o, none⟩ ∧ S g ∧ l[j]? = some x ∧ E x cs ∧ cs.length = sz ∧ w.rangeAt g (o + j * sz) cs := by
  obtain ⟨h1, h2, h3, h4⟩ := h
  obtain ⟨g, o, ha, hg, hjj⟩ := h4 (by omega)
  have hx : l[j]? = some (l[j]'(by omega)) := List.getElem?_eq_getElem (by omega)
  obtain ⟨cs, he, hl, hr⟩ := hjj j _ hx
  exact ⟨g, o, _, cs, ha, hg, hx, he, hl, hr⟩

section
variable {H : Type} {enc : TypeId × Value → H} {P : Program} {w : World} {spare : Nat → Bool} {held : Bool}

/-- A row of structs, opened. -/
theorem open_rows {α : Type} {E : α → List Value → Prop} {T S sz fuel : Nat} {cs : List Value} {x : DataW H × List MemPlace} (hS : P.underlying S = some (.slice T)) (hsz : P.cellsOf T = sz)
    (hE : ∀ n cs x, n < fuel → DataW.trod enc P w 0 spare held n T cs = some x → ∃ t, E t cs) (h : DataW.trod enc P w 0 spare held fuel S cs = some x) (hpos : 0 < sz) :
    ∃ l a n c, cs = [.slice a n c] ∧ RowsOf E sz w (· < w.heap.size) l a n c := by
  rcases DataW.trod_slice hS h with ⟨rfl, _⟩ | ⟨a, len, cap, elems, rest, n, rfl, rfl, _, _, hl, hm, hlen, hel, _, _⟩
  · exact ⟨[], none, 0, 0, rfl, RowsOf.nil _ _ (Nat.zero_le _)⟩
  · rcases Nat.eq_zero_or_pos len with e | e
    · subst e
      exact ⟨[], some a, 0, cap, rfl, RowsOf.nil _ _ hm⟩
    have key : ∀ i, ∃ cs' t, i < len → w.cells? 0 (a.add (i * sz)) sz = some cs' ∧ E t cs' := by
      intro i
      by_cases hi : i < len
      · have hk := hel i hi
        rw [List.getElem?_eq_getElem (by omega), hsz] at hk
        obtain ⟨cs', h1, h2⟩ := Option.bind_eq_some_iff.1 hk
        obtain ⟨t, ht⟩ := hE n cs' _ (by omega) h2
        exact ⟨cs', t, fun _ => ⟨h1, ht⟩⟩
      · have hk := hel 0 e
        rw [List.getElem?_eq_getElem (by omega), hsz] at hk
        obtain ⟨cs', h1, h2⟩ := Option.bind_eq_some_iff.1 hk
        obtain ⟨t, ht⟩ := hE n cs' _ (by omega) h2
        exact ⟨cs', t, fun h => absurd h hi⟩
    obtain ⟨C, hC⟩ := Classical.axiomOfChoice key
    obtain ⟨F, hF⟩ := Classical.axiomOfChoice hC
    obtain ⟨_, hc0, hcell0⟩ := World.cells?_some (hF 0 e).1
    obtain ⟨g, o, spot⟩ := a
    have hs : spot = none := by
      have h0 := hcell0 0 hpos
      rw [List.getElem?_eq_getElem (by omega)] at h0
      simpa [Addr.add] using World.cell?_spot h0
    subst hs
    have hg : g < w.heap.size := by
      have h0 := hcell0 0 hpos
      rw [List.getElem?_eq_getElem (by omega)] at h0
      simp [Addr.add] at h0
      rcases Nat.lt_or_ge g w.heap.size with hlt | hge
      · exact hlt
      · simp [World.cell?, Array.getElem?_eq_none hge] at h0
    refine ⟨(List.range len).map F, _, len, cap, rfl, by simp, hl, hm, fun _ => ⟨g, o, rfl, hg, fun j x hx => ?_⟩⟩
    have hj : j < len := by have := (List.getElem?_eq_some_iff.1 hx).1; simpa using this
    have hx' : F j = x := by simp [hj] at hx; exact hx
    obtain ⟨h1, h2⟩ := hF j hj
    obtain ⟨_, h3, h4⟩ := World.cells?_some h1
    refine ⟨C j, hx' ▸ h2, h3, fun m v hv => ?_⟩
    have hm' : m < sz := by have := (List.getElem?_eq_some_iff.1 hv).1; omega
    have := h4 m hm'
    rw [Addr.add_mid, Addr.add_mid, hv] at this
    exact this

/-- A Datum, opened. -/
theorem open_tree {T L : TypeId} {f0 f1 f2 f3 f4 : Field} (hT : P.underlying T = some (.struct #[f0, f1, f2, f3, f4])) (hone : oneCellFields P #[f0, f1, f2, f3, f4] = true) (hC : P.cellsOf T = 5)
    (h0 : P.underlying f0.type = some (.int .i64)) (h1 : P.underlying f1.type = some (.int .i64)) (h2 : P.underlying f2.type = some (.int .u64)) (h3 : P.underlying f3.type = some .string)
    (h4 : f4.type = L) (hL : P.underlying L = some (.slice T)) :
    ∀ (fuel : Nat) (cs : List Value) (x : DataW H × List MemPlace), DataW.trod enc P w 0 spare held fuel T cs = some x → ∃ t, IsD w (· < w.heap.size) t cs := by
  intro fuel
  induction fuel using Nat.strongRecOn with
  | ind fuel ih =>
    intro cs x h
    obtain ⟨ys, n, hn, _, hlen, hyl, hf⟩ := DataW.trod_struct hT h
    rw [hC] at hlen
    match cs, hlen with
    | [c0, c1, c2, c3, c4], _ =>
      obtain ⟨o0, k0⟩ := hone_of hone 0 f0 rfl
      obtain ⟨o1, k1⟩ := hone_of hone 1 f1 rfl
      obtain ⟨o2, k2⟩ := hone_of hone 2 f2 rfl
      obtain ⟨o3, k3⟩ := hone_of hone 3 f3 rfl
      obtain ⟨o4, k4⟩ := hone_of hone 4 f4 rfl
      match ys, hyl with
      | [y0, y1, y2, y3, y4], _ =>
        have g0 := hf 0 f0 rfl
        have g1 := hf 1 f1 rfl
        have g2 := hf 2 f2 rfl
        have g3 := hf 3 f3 rfl
        have g4 := hf 4 f4 rfl
        rw [o0, k0] at g0
        rw [o1, k1] at g1
        rw [o2, k2] at g2
        rw [o3, k3] at g3
        rw [o4, k4, h4] at g4
        obtain ⟨k, e0, -, w0⟩ := DataW.trod_int h0 g0
        obtain ⟨i, e1, -, w1⟩ := DataW.trod_int h1 g1
        obtain ⟨b, e2, -, w2⟩ := DataW.trod_int h2 g2
        obtain ⟨t, e3, -, w3⟩ := DataW.trod_string h3 g3
        obtain ⟨l, a, m, c, e4, hr⟩ := open_rows (E := IsD w (· < w.heap.size)) (sz := 5) hL hC (fun n' cs' x' hn' h' => ih n' (by omega) cs' x' h') g4 (by omega)
        simp at e0 e1 e2 e3 e4
        subst e0 e1 e2 e3 e4
        exact ⟨.node k i b t l, IsD.shut w0 w1 w2 w3 hr⟩
end
end Go.Proofs.Ytmkbdjekidcfaaa
