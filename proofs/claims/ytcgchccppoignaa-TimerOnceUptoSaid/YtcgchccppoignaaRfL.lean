/- Timer: the walk of TimerPlays. -/
import Derived.Test.YtcgchccppoignaaRfK
import Derived.Deep.Strs
namespace Go.Proofs.Ytcgchccppoignaa
open Go.RowKit Go.ChangeShapes Go.WideShapes
attribute [local go_sem ↓] Go.wp_at_zero Go.wp_at_succ
attribute [local go_sem] Go.undef

abbrev Ac := Int × Int × Int
def AE (p : Ac) (cs : List Value) : Prop := cs = [.int .i64 p.1, .int .i64 p.2.1, .int .i64 p.2.2] ∧ (Lit.int .i64 p.2.1).wf = true ∧ (Lit.int .i64 p.2.2).wf = true
theorem RowsOf.ae {w : World} {S : Nat → Prop} {l : List Ac} {a : Option Addr} {n c j : Nat} (h : RowsOf AE 3 w S l a n c) (hj : j < n) :
    ∃ (g o : Nat) (p : Ac), a = some ⟨g, o, none⟩ ∧ S g ∧ (Lit.int .i64 p.2.1).wf = true ∧ (Lit.int .i64 p.2.2).wf = true ∧ w.cell? ⟨g, o + j * 3, none⟩ = some (.int .i64 p.1) ∧ w.cell? ⟨g, o + j * 3 + 1, none⟩ = some (.int .i64 p.2.1) ∧ w.cell? ⟨g, o + j * 3 + 2, none⟩ = some (.int .i64 p.2.2) := by
  obtain ⟨rfl, -, -, h4⟩ := h
  obtain ⟨g, o, e, hS, hr⟩ := h4 (by omega)
  obtain ⟨cs, ⟨rfl, w1, w2⟩, -, hc⟩ := hr j l[j] (List.getElem?_eq_getElem hj)
  exact ⟨g, o, l[j], e, hS, w1, w2, hc 0 _ rfl, hc 1 _ rfl, hc 2 _ rfl⟩
section
variable {w : World}
/-- Both, made. -/
theorem js_new {w1 w2 : World} {T : Nat} (h1 : Wh w1 w.heap.size (w.heap.size + 1) w.heap.size T 0 [] (fun _ => [])) (hb1 : Below w.heap.size w w1) (h2 : IsL w2 w1.heap.size w1.heap.size T [] (.slice none 0 0)) (hb2 : Below w1.heap.size w1 w2) :
    JS w2 w.heap.size (w.heap.size + 1) w.heap.size w1.heap.size T 0 [] (fun _ => []) (.slice none 0 0) where
  wh := h1.far fun g hg => hb2.block g (h1.whl.own_lt hg).2
  ls := ⟨h2.t, h2.ft, h2.l, h2.fl, ⟨h2.row.1, .inl ⟨rfl, rfl⟩⟩, h2.ne, hb1.size⟩
  ap := fun g h3 h4 => by
    have h5 := (h1.whl.own_lt h3).2
    rcases h4 with rfl | h4
    · omega
    · simp [Value.ownBlock] at h4
def PlR (w : World) (b m lb i : Nat) (wr : World) : Prop :=
  ∃ (T sq : Nat) (L : List Tm) (ρ : Nat → List Tm) (v : Value), JS wr w.heap.size b m lb T sq L ρ v ∧ sq ≤ i ∧ L.length ≤ i ∧ Below w.heap.size w wr
set_option maxRecDepth 100000 in
set_option maxHeartbeats 16000000 in
theorem plays_go (now : Int) (hn : (Lit.int .i64 now).wf = true) (l : List Ac) (a : Option Addr) (n c : Nat) (w : World) (h : RowsOf AE 3 w (· < w.heap.size) l a n c) (hl : n ≤ 5864062014805) :
    Calls Try.prog 4 #[.int .i64 now, .slice a n c] w fun e w' => e = .returned (.bool true) ∧ Below w.heap.size w w' := by
  have hz1 : n ≤ c := h.2.1
  have hz2 : c ≤ maxLen := h.2.2.1
  unfold maxLen at hz2
  have H := Lib.hid h
  clear h
  go_enter Try.func4, Try.ntmps4
  simp only [Go.undef]
  go_wp2_with fail
  refine (new_any now hn w).mono ?_
  rintro e w1 ⟨rfl, hw1, hb1⟩
  have HW1 := Lib.hid (And.intro hw1 hb1)
  clear hw1 hb1
  go_wp2_with fail
  refine (lnew_any now w1).mono ?_
  rintro e w2 ⟨rfl, hl2, hb2⟩
  have HJ2 := Lib.hid (js_new HW1.out.1 HW1.out.2 hl2 hb2)
  have HB2 := Lib.hid (below_via HW1.out.2 hb2 HW1.out.2.size)
  obtain ⟨b, hb⟩ : ∃ b, b = w.heap.size + 1 := ⟨_, rfl⟩
  obtain ⟨lb, hlb⟩ : ∃ lb, lb = w1.heap.size := ⟨_, rfl⟩
  rw [← hb, ← hlb]
  rw [← hb, ← hlb] at HJ2
  clear hl2 hb2 hb hlb HW1
  go_upto_region 4 with fail
  go_loopw [7] (fun iv wr => ∃ i : Nat, iv = .int .i64 i ∧ i ≤ n ∧ PlR w b w.heap.size lb i wr) (fun iv _ => n - (intOf iv).toNat)
  case atStart => exact ⟨0, rfl, by omega, _, _, _, _, _, HJ2.out, by omega, by simp, HB2.out⟩
  case round =>
    obtain ⟨i, rfl, hi, T, sq, L, ρ, v, hj, hsq, hL, hbe⟩ := hrel
    by_cases hlt : i < n
    · obtain ⟨g, o, p, rfl, hg, wa, wq, d1, d2, d3⟩ := H.out.ae hlt
      have c1 := cell_over hbe hg d1
      have c2 := cell_over hbe hg d2
      have c3 := cell_over hbe hg d3
      have HA := Lib.hid (act_any hj (by omega) (by omega) hbe.size p.1 p.2.1 p.2.2 wa wq)
      have HBE := Lib.hid hbe
      have HSL := Lib.hid (And.intro hsq hL)
      clear hj hsq hL hbe d1 d2 d3 wa wq
      go_wp2_with fail
      refine HA.out.mono ?_
      rintro e w3 ⟨rfl, T3, sq3, L3, ρ3, v3, hj3, hq3, hL3, hb3⟩
      have hl3 : L3.length ≤ 8796093022208 := by have := HSL.out.2; omega
      have HK := Lib.hid (asked_any hj3 hl3)
      have HJ3 := Lib.hid hj3
      have HB3 := Lib.hid (HBE.out.trans hb3)
      have HSL3 := Lib.hid (And.intro hq3 hL3)
      clear hj3 hq3 hL3 hb3 hl3 c1 c2 c3
      go_wp2_with fail
      refine HK.out.mono ?_
      rintro e w4 ⟨rfl, n4, rfl⟩
      go_wp2_with fail
      go_roundw
      case rel => exact ⟨i + 1, by go_num, by omega, _, _, _, _, _, HJ3.out.drewN n4, by have := HSL3.out.1; have := HSL.out.1; omega, by have := HSL3.out.2; have := HSL.out.2; omega, belowN HB3.out n4⟩
      case measure => simp [intOf]; omega
    · obtain rfl : i = n := by omega
      have hl3 : L.length ≤ 8796093022208 := by omega
      have HK := Lib.hid (asked_any hj hl3)
      have HBE := Lib.hid hbe
      clear hj hsq hL hbe hl3
      go_wp2_with fail
      refine HK.out.mono ?_
      rintro e w4 ⟨rfl, n4, rfl⟩
      go_wp2_with fail
      refine (awake_any _).mono ?_
      rintro e w5 ⟨rfl, hb5⟩
      have HB5 := Lib.hid hb5
      clear hb5
      go_wp2_with fail
      go_ret
      exact ⟨rfl, below_via (belowN HBE.out n4) HB5.out (belowN HBE.out n4).size⟩
end
section
variable {H : Type} {enc : TypeId × Value → H} {w : World} {spare : Nat → Bool} {held : Bool}
theorem qcAct : Try.prog.cellsOf 39 = 3 := by kernel_rfl
theorem qbAct : Try.prog.bytesOf 39 = 24 := by kernel_rfl
theorem qcInt : Try.prog.cellsOf 3 = 1 := by kernel_rfl
theorem qcI64 : Try.prog.cellsOf 2 = 1 := by kernel_rfl
set_option maxRecDepth 100000 in
theorem open_act (fuel : Nat) (cs : List Value) (x : DataW H × List MemPlace) (h : DataW.trod enc Try.prog w 0 spare held fuel 39 cs = some x) : ∃ t : Ac, AE t cs := by
  obtain ⟨ys, n, -, -, hlen, hyl, hf⟩ := DataW.trod_struct Try.underlying39 h
  rw [qcAct] at hlen
  match cs, hlen with
  | [c0, c1, c2], _ =>
    match ys, hyl with
    | [y0, y1, y2], _ =>
      have g0 : DataW.trod enc Try.prog w 0 spare held n 3 [c0] = some y0 := by simpa [qcInt, qcI64] using hf 0 _ rfl
      have g1 : DataW.trod enc Try.prog w 0 spare held n 2 [c1] = some y1 := by simpa [qcInt, qcI64] using hf 1 _ rfl
      have g2 : DataW.trod enc Try.prog w 0 spare held n 2 [c2] = some y2 := by simpa [qcInt, qcI64] using hf 2 _ rfl
      obtain ⟨i0, h0, -, -⟩ := DataW.trod_int Try.underlying3 g0
      obtain ⟨i1, h1, -, k1⟩ := DataW.trod_int Try.underlying2 g1
      obtain ⟨i2, h2, -, k2⟩ := DataW.trod_int Try.underlying2 g2
      simp at h0 h1 h2
      subst h0 h1 h2
      exact ⟨⟨i0, i1, i2⟩, rfl, k1, k2⟩
end
/-- A script, opened. -/
theorem script_open {H : Type} {enc : TypeId × Value → H} {base : Nat} {v : Value} {d : DataW H} {p : List MemPlace} {W : World} (ok : Value.okWide Try.prog W .any base 22 v) (tr : DataW.Trod enc Try.prog W 0 (fun _ => true) true 22 v d p)
    (hsz : ∀ n ∈ d.weights Try.prog 22, n ≤ reachBytes) : ∃ l a n c, v = .slice a n c ∧ RowsOf AE 3 W (· < W.heap.size) l a n c ∧ n ≤ 5864062014805 := by
  obtain ⟨x, n, c, rfl⟩ := okWide_slice Try.underlying22 ok
  obtain ⟨fuel, hf⟩ := tr
  have hn : n ≤ 5864062014805 := by
    rcases DataW.trod_slice Try.underlying22 hf with ⟨hcs, _⟩ | ⟨a, len, cap, elems, rest, m, _, hcs, hx, _, _, _, hlen, _, _⟩
    · simp [Value.cells] at hcs
      omega
    · simp only [Prod.mk.injEq] at hx
      obtain ⟨rfl, -⟩ := hx
      simp [Value.cells] at hcs
      have := hsz (((elems.map (·.1)).length + (rest.map (·.1)).length) * Try.prog.bytesOf 39) (by
        simp only [DataW.weights, Try.underlying22]
        exact List.mem_cons_self)
      rw [qbAct] at this
      simp [reachBytes] at this
      omega
  obtain ⟨l, a1, n1, c1, hc, hr⟩ := open_rows (E := AE) (sz := 3) Try.underlying22 qcAct (fun m cs x _ h => open_act m cs x h) hf (by omega)
  simp [Value.cells] at hc
  obtain ⟨rfl, rfl, rfl⟩ := hc
  exact ⟨l, _, _, _, rfl, hr, hn⟩
theorem walk_TimerPlays {H : Type} {enc : TypeId × Value → H} {base : Nat} {d : DataW H} {p : List MemPlace} (now : Int) (v : Value) (W : World) (hn : (Lit.int .i64 now).wf = true) (ok : Value.okWide Try.prog W .any base 22 v)
    (tr : DataW.Trod enc Try.prog W 0 (fun _ => true) true 22 v d p) (hsz : ∀ n ∈ d.weights Try.prog 22, n ≤ reachBytes) :
    Calls Try.prog 4 #[.int .i64 now, v] W fun e w' => e = .returned (.bool true) ∧ Below W.heap.size W w' := by
  obtain ⟨l, a, n, c, rfl, hr, hl⟩ := script_open ok tr hsz
  exact plays_go now hn l a n c W hr hl
end Go.Proofs.Ytcgchccppoignaa
