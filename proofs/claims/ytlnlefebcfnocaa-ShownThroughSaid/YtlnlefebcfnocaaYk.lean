/- Wrappers put behind others; a mask, a gift; a chain shown with more wrappers. -/
import Derived.Test.YtlnlefebcfnocaaYg
namespace Go.Proofs.Ytlnlefebcfnocaa
open Go.RowKit Go.Deep
attribute [local go_sem] Go.undef

/-- The cells of the rows of structs, one after another. -/
theorem flat_get {css : List (List Value)} {sz : Nat} (h : ∀ cs ∈ css, cs.length = sz) {j : Nat} {cs : List Value} (hj : css[j]? = some cs) : ∀ m v, cs[m]? = some v → css.flatten[j * sz + m]? = some v := by
  induction css generalizing j with
  | nil => simp at hj
  | cons c r ih =>
    intro m v hv
    have hc := h c (by simp)
    cases j with
    | zero =>
      simp at hj
      subst hj
      have hm : m < c.length := (List.getElem?_eq_some_iff.1 hv).1
      rw [Nat.zero_mul, Nat.zero_add, List.flatten_cons, List.getElem?_append_left hm]
      exact hv
    | succ j =>
      simp at hj
      have := ih (fun cs hcs => h cs (by simp [hcs])) hj m v hv
      rw [List.flatten_cons, List.getElem?_append_right (by rw [hc, Nat.succ_mul]; omega)]
      rw [← this]
      congr 1
      rw [hc, Nat.succ_mul]
      omega
/-- The elements of a row of the call's own, read as a row of structs. -/
theorem rows_of_own {α : Type} {E : α → List Value → Prop} {sz B T : Nat} {w : World} {S : Nat → Prop} {l : List α} {a : Option Addr} {n c : Nat} {css : List (List Value)}
    (h : w.ownsRow B T sz (.slice a n c) n css.flatten) (hn : n = l.length) (hl : css.length = n) (hsz : ∀ cs ∈ css, cs.length = sz) (hE : ∀ (j : Nat) (x : α), l[j]? = some x → ∃ cs : List Value, css[j]? = some cs ∧ E x cs)
    (hS : ∀ g, B ≤ g → g < w.heap.size → a = some ⟨g, 0, none⟩ → S g) : RowsOf E sz w S l a n c := by
  subst hn
  have hc : l.length ≤ c ∧ c ≤ maxLen := by
    rcases h.2 with ⟨h1, h2⟩ | ⟨g, cap, cur, hv, _, _, h3, h4, _⟩
    · injection h1 with _ h5 h6
      subst h6
      rw [h5]
      exact ⟨by omega, by unfold maxLen; omega⟩
    · injection hv with _ _ h6
      subst h6
      exact ⟨h3, h4⟩
  refine ⟨rfl, hc.1, hc.2, fun h0 => ?_⟩
  obtain ⟨g, cap, hv, hg, hlt⟩ := h.form h0
  have ha : a = some ⟨g, 0, none⟩ := by injection hv
  refine ⟨g, 0, ha, hS g hg hlt ha, fun j x hx => ?_⟩
  obtain ⟨cs, hcs, he⟩ := hE j x hx
  refine ⟨cs, he, hsz cs (List.mem_of_getElem? hcs), fun m v hm => ?_⟩
  have := h.cells (g := g) (by rw [ha]; rfl) (j * sz + m) v (flat_get hsz hcs m v hm)
  rw [Nat.zero_add]
  rw [Addr.add_mid] at this
  simpa using this


def wcss (ws : List (WX × Value)) : List (List Value) := ws.map fun p => p.1.cells p.2
theorem wcss_len (ws : List (WX × Value)) : ∀ cs ∈ wcss ws, cs.length = 8 := by
  intro cs h
  obtain ⟨p, _, rfl⟩ := List.mem_map.1 h
  rfl
theorem rows_some {α : Type} {E : α → List Value → Prop} {sz : Nat} {w : World} {S : Nat → Prop} {l : List α} {a : Option Addr} {n c : Nat} (h : RowsOf E sz w S l a n c) : 0 < n → a.isSome = true := by
  intro h0
  obtain ⟨g, o, rfl, _⟩ := h.2.2.2 h0
  rfl
theorem wraps_news {w : World} {S : Nat → Prop} {ws : List (WX × Value)} {a : Option Addr} {n c : Nat} (h : Wraps w S ws a n c) :
    ∀ ad, a = some ad → ∀ j u, (wcss ws).flatten[j]? = some u → w.cell? (ad.add j) = some u := by
  intro ad ha j u hu
  obtain ⟨h1, _, _, h4⟩ := h
  rcases Nat.eq_zero_or_pos n with e | e
  · have : ws = [] := List.length_eq_zero_iff.1 (by omega)
    subst this
    simp [wcss] at hu
  · obtain ⟨g, o, ha', _, hj⟩ := h4 e
    rw [ha] at ha'
    injection ha' with ha'
    subst ha'
    rw [Addr.add_mid]
    refine flat_cells (sz := 8) (fun q cs hq => ?_) j u hu
    rw [wcss, List.getElem?_map] at hq
    obtain ⟨x, hx, rfl⟩ := Option.map_eq_some_iff.1 hq
    obtain ⟨cs, he, hl, hr⟩ := hj q x hx
    obtain ⟨rfl, -⟩ := he
    exact ⟨hl, hr⟩
theorem Wraps.mem {w : World} {S : Nat → Prop} {ws : List (WX × Value)} {a : Option Addr} {n c : Nat} (h : Wraps w S ws a n c) {p : WX × Value} (hp : p ∈ ws) : EW w S p (p.1.cells p.2) := by
  obtain ⟨i, hi, rfl⟩ := List.getElem_of_mem hp
  obtain ⟨g, o, x, cs, -, -, hx, he, -⟩ := RowsOf.get h (j := i) (by rw [h.1]; exact hi)
  rw [List.getElem?_eq_getElem hi] at hx
  injection hx with hx
  subst hx
  have := he.1
  subst this
  exact he
theorem wcss_one {w : World} {S : Nat → Prop} {ws : List (WX × Value)} {a : Option Addr} {n c : Nat} (h : Wraps w S ws a n c) : ∀ u ∈ (wcss ws).flatten, u.oneCell' = true := by
  intro u hu
  obtain ⟨cs, h1, h2⟩ := List.mem_flatten.1 hu
  obtain ⟨p, hp, rfl⟩ := List.mem_map.1 h1
  obtain ⟨x, v⟩ := p
  obtain ⟨op, xa, xb, caps, want, opn⟩ := x
  obtain ⟨wo, wn, wl⟩ := want
  obtain ⟨va, vc, ve, -⟩ := (h.mem hp).2.1.open_
  obtain rfl : v = .slice va wl.length vc := by injection ve with _ ve; injection ve with _ ve; injection ve
  simp only [WX.cells, List.mem_cons, List.not_mem_nil, or_false] at h2
  rcases h2 with rfl | rfl | rfl | rfl | rfl | rfl | rfl | rfl <;> rfl
theorem EW.keep {w w' : World} {S S' : Nat → Prop} (hS : ∀ b, S b → S' b) (hk : ∀ b, S b → ∀ j, w'.cell? ⟨b, j, none⟩ = w.cell? ⟨b, j, none⟩) {p : WX × Value} {cs : List Value} (h : EW w S p cs) : EW w' S' p cs := ⟨h.1, h.2.1.keep hS hk, h.2.2⟩
/-- A row of the call's own, read as wrappers. -/
theorem wraps_of_own {w : World} {S : Nat → Prop} {B : Nat} {ws : List (WX × Value)} {a : Option Addr} {n c : Nat} (h : w.ownsRow B 37 8 (.slice a n c) n (wcss ws).flatten) (hn : n = ws.length)
    (hE : ∀ p ∈ ws, EW w S p (p.1.cells p.2)) (hS : ∀ g, B ≤ g → g < w.heap.size → S g) : Wraps w S ws a n c :=
  rows_of_own h hn (by rw [wcss, List.length_map, hn]) (wcss_len ws) (fun j x hx => ⟨x.1.cells x.2, by rw [wcss, List.getElem?_map, hx]; rfl, hE x (List.mem_of_getElem? hx)⟩) (fun g h1 h2 _ => hS g h1 h2)
theorem infoWr : (Try.prog.info? 37).map (fun i => (i.zero, i.size, i.bytes)) = some (some (.agg #[.int .i64 0, .int .i64 0, .int .i64 0, .int .u32 0, .int .i64 0, .int .i64 0, .slice none 0 0, .bool false]), 8, 80) := by kernel_rfl

set_option maxRecDepth 100000 in
set_option maxHeartbeats 4000000 in
theorem mask_any (w : World) (c : Nat) : Calls Try.prog 13 #[.int .u32 (c : Int)] w fun e w' => e = .returned (.agg #[.int .i64 2, .int .i64 0, .int .i64 0, .int .u32 (c : Int), .int .i64 0, .int .i64 0, .slice none 0 0, .bool false]) ∧ Below w.heap.size w w' := by
  go_enter Try.func13, Try.ntmps13
  go_wp2_with fail
  exact bodyPost_ret (v := .agg #[.int .i64 2, .int .i64 0, .int .i64 0, .int .u32 (c : Int), .int .i64 0, .int .i64 0, .slice none 0 0, .bool false]) (by simp [results, Try.results13, go_sem]) rfl ⟨rfl, by go_grown⟩
set_option maxRecDepth 100000 in
set_option maxHeartbeats 4000000 in
theorem give_any (w : World) (c : Nat) : Calls Try.prog 14 #[.int .u32 (c : Int)] w fun e w' => e = .returned (.agg #[.int .i64 4, .int .i64 0, .int .i64 0, .int .u32 (c : Int), .int .i64 0, .int .i64 0, .slice none 0 0, .bool false]) ∧ Below w.heap.size w w' := by
  go_enter Try.func14, Try.ntmps14
  go_wp2_with fail
  exact bodyPost_ret (v := .agg #[.int .i64 4, .int .i64 0, .int .i64 0, .int .u32 (c : Int), .int .i64 0, .int .i64 0, .slice none 0 0, .bool false]) (by simp [results, Try.results14, go_sem]) rfl ⟨rfl, by go_grown⟩

set_option maxRecDepth 100000 in
set_option maxHeartbeats 8000000 in
theorem with_any (w : World) (S : Nat → Prop) (P : Nat) (op num : Int) (c : Nat) (ws ls : List (WX × Value)) (a la : Option Addr) (n d ln ld : Nat) (hP : Blk w P 28 #[.int .i64 op, .int .i64 num, .int .u32 (c : Int), .slice a n d])
    (hr : Wraps w S ws a n d) (hl : Wraps w S ls la ln ld) (hS : ∀ b, S b → b < w.heap.size) (hn : n ≤ 8) (hln : ln ≤ 8) (hc : c < 4294967296) :
    Calls Try.prog 11 #[.slice la ln ld, .pointer (some ⟨P, 0, none⟩)] w fun e w' => e = .returned (.int .u32 (sh c (ws ++ ls) (n + ln) : Int)) ∧ Below w.heap.size w w' := by
  obtain ⟨i0, hi0, hz0, hz1, hz2⟩ := info_parts infoWr
  have x0 := hP.cell 0
  have x1 := hP.cell 1
  have x2 := hP.cell 2
  have x3 := hP.cell 3
  simp only [List.getElem?_toArray, List.getElem?_cons_succ, List.getElem?_cons_zero] at x0 x1 x2 x3
  have hpl := hP.lt
  have HR := Lib.hid hr
  have HL := Lib.hid hl
  have HS := Lib.hid hS
  have HN := Lib.hid hr.1
  have HLN := Lib.hid hl.1
  clear hr hl hS hP
  go_enter Try.func11, Try.ntmps11
  have hB1 : Below w.heap.size w (w.alloc (.cells #[.int .i64 op, .int .i64 num, .int .u32 (c : Int), .slice none 0 0] 28)) := by go_grown
  have hD : Blk (w.alloc (.cells #[.int .i64 op, .int .i64 num, .int .u32 (c : Int), .slice none 0 0] 28)) w.heap.size 28 #[.int .i64 op, .int .i64 num, .int .u32 (c : Int), .slice none 0 0] := Blk.new _ _ _
  have hs1 : (w.alloc (.cells #[.int .i64 op, .int .i64 num, .int .u32 (c : Int), .slice none 0 0] 28)).heap.size = w.heap.size + 1 := by simp
  have HD := Lib.hid hD
  have HB1 := Lib.hid hB1
  have HS1 := Lib.hid hs1
  clear hD hB1 hs1
  go_wp2_with (at_builtin; refine wpList_append_any _ rfl _ _ 26 rfl (w.heap.size + 1) 37 i0 _ 8 80 Try.underlying26 hi0 hz0 hz1 hz2 rfl (by omega) _ 0 [] rfl (World.ownsRow_nil _ _ _ _) a n d (wcss ws).flatten rfl ?ca0 ?ca1 ?ca2 ?ca3 ?ca4 ?ca5 ?ca6 ?_)
  case ca0 => exact rows_some HR.out
  case ca1 => rw [flatten_len (wcss_len ws), wcss, List.length_map, HN.out]
  case ca2 => exact wraps_news (HR.out.under HB1.out HS.out)
  case ca3 => exact wcss_one HR.out
  case ca4 => unfold maxLen; omega
  case ca5 => omega
  case ca6 => rw [HS1.out]; exact Nat.le_refl _
  intro v4 w4 hown4 hgr4
  obtain ⟨a4, c4, rfl⟩ := own_len hown4
  have HO4 := Lib.hid hown4
  have hB4' : Below w.heap.size w w4 := HB1.out.grown hgr4 (by rw [HS1.out]; omega) (fun g hg => by cases hg)
  have hsz4 : w.heap.size + 1 ≤ w4.heap.size := by have := hgr4.size; rw [HS1.out] at this; exact this
  have HD4 : Hid (Blk w4 w.heap.size 28 #[.int .i64 op, .int .i64 num, .int .u32 (c : Int), .slice none 0 0]) := HD.out.grown hgr4 (fun e => by cases e)
  have HB4 := Lib.hid hB4'
  clear hown4 hgr4 hB4'
  go_wp2_with (at_builtin; refine wpList_append_any _ rfl _ _ 26 rfl (w.heap.size + 1) 37 i0 _ 8 80 Try.underlying26 hi0 hz0 hz1 hz2 rfl (by omega) _ n _ rfl HO4.out la ln ld (wcss ls).flatten rfl ?cb0 ?cb1 ?cb2 ?cb3 ?cb4 ?cb5 ?cb6 ?_)
  case cb0 => exact rows_some HL.out
  case cb1 => rw [flatten_len (wcss_len ls), wcss, List.length_map, HLN.out]
  case cb2 => exact wraps_news (HL.out.under HB4.out HS.out)
  case cb3 => exact wcss_one HL.out
  case cb4 => unfold maxLen; omega
  case cb5 => omega
  case cb6 => exact hsz4
  intro v5 w5 hown5 hgr5
  obtain ⟨a5, c5, rfl⟩ := own_len hown5
  have hB5 : Below w.heap.size w w5 := HB4.out.grown hgr5 (by omega) (fun g hg => by have := (own_row HO4.out g hg).1; omega)
  have HD5 : Hid (Blk w5 w.heap.size 28 #[.int .i64 op, .int .i64 num, .int .u32 (c : Int), .slice none 0 0]) := HD4.out.grown hgr5 (fun e => by have := (own_row HO4.out _ e.symm).1; omega)
  have hw5 : Wraps w5 (· < w5.heap.size) (ws ++ ls) a5 (n + ln) c5 := by
    refine wraps_of_own (B := w.heap.size + 1) (by rw [show wcss (ws ++ ls) = wcss ws ++ wcss ls by simp [wcss], List.flatten_append]; exact hown5) (by rw [List.length_append, HN.out, HLN.out]) (fun p hp => ?_) (fun g _ h => h)
    rcases List.mem_append.1 hp with h | h
    · exact (HR.out.mem h).keep (fun b hb => Nat.lt_of_lt_of_le (HS.out b hb) hB5.size) fun b hb j => hB5.cell (p := ⟨b, j, none⟩) (HS.out b hb)
    · exact (HL.out.mem h).keep (fun b hb => Nat.lt_of_lt_of_le (HS.out b hb) hB5.size) fun b hb j => hB5.cell (p := ⟨b, j, none⟩) (HS.out b hb)
  have hs5 : w.heap.size + 1 ≤ w5.heap.size := Nat.le_trans hsz4 hgr5.size
  have hsh := fun W (hW : Wraps W (· < W.heap.size) (ws ++ ls) a5 (n + ln) c5) => shown_any W _ op num c (ws ++ ls) a5 (n + ln) c5 hW (fun _ h => h) (by omega) hc
  have HSH := Lib.hid hsh
  have HW5 : Hid (Wraps (w5.setCell ⟨w.heap.size, 3, none⟩ (.slice a5 (n + ln) c5)) (· < (w5.setCell ⟨w.heap.size, 3, none⟩ (.slice a5 (n + ln) c5)).heap.size) (ws ++ ls) a5 (n + ln) c5) := by
    have hfar : ∀ b, b ≠ w.heap.size → ∀ j, (w5.setCell ⟨w.heap.size, 3, none⟩ (.slice a5 (n + ln) c5)).cell? ⟨b, j, none⟩ = w5.cell? ⟨b, j, none⟩ := fun b hb j => World.cell?_of_block (w := w5) (a := ⟨b, j, none⟩) (Below.heap_setCell w5 ⟨w.heap.size, 3, none⟩ _ b hb)
    have hsz : (w5.setCell ⟨w.heap.size, 3, none⟩ (.slice a5 (n + ln) c5)).heap.size = w5.heap.size := by simp
    refine wraps_of_own (B := w.heap.size + 1) (own_keep (w := w5) (by rw [show wcss (ws ++ ls) = wcss ws ++ wcss ls by simp [wcss], List.flatten_append]; exact hown5) fun g hg => Below.heap_setCell w5 ⟨w.heap.size, 3, none⟩ _ g (fun e => ?_)) (by rw [List.length_append, HN.out, HLN.out]) (fun p hp => ?_) (fun g _ h => h)
    · have h1 := (own_row hown5 g hg).1
      have h2 : g = w.heap.size := e
      omega
    · have hq : EW w (fun b => S b) p (p.1.cells p.2) := by
        rcases List.mem_append.1 hp with h | h
        · exact HR.out.mem h
        · exact HL.out.mem h
      refine hq.keep (fun b hb => by show b < _; rw [hsz]; exact Nat.lt_of_lt_of_le (HS.out b hb) hB5.size) fun b hb j => ?_
      rw [hfar b (by have := HS.out b hb; omega) j]
      exact hB5.cell (p := ⟨b, j, none⟩) (HS.out b hb)
  have y0 := HD5.out.cell 0
  have y1 := HD5.out.cell 1
  have y2 := HD5.out.cell 2
  have y3 := HD5.out.cell 3
  have y4 := HD5.out.free 3
  simp only [List.getElem?_toArray, List.getElem?_cons_succ, List.getElem?_cons_zero] at y0 y1 y2 y3
  clear hown5 hgr5 hw5 hsh x0 x1 x2 x3
  go_wp2_with fail
  refine (HSH.out _ HW5.out).mono ?_
  rintro e w6 ⟨rfl, hb6⟩
  have hB6 := below_on hb6 (hB5.setCell (by simp) _)
  go_wp2_with fail
  go_ret
  exact ⟨rfl, hB6⟩
end Go.Proofs.Ytlnlefebcfnocaa
