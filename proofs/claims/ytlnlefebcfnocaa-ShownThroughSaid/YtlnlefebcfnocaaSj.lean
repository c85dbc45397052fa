/- Who answers for a capability. -/
import Derived.Test.YtlnlefebcfnocaaSt
import Derived.Stop.Asserts
namespace Go.Proofs.Ytlnlefebcfnocaa
open Go.RowKit Go.Deep
attribute [local go_sem] Go.undef

/-! What a level is besides -/
theorem shell_around (v : Value) (w : World) : (Instr.typeAssert (.iface 82 v) 55 86 true).run Try.prog w = .ok (.tuple #[.iface 82 v, .bool true]) w := run_typeAssert_hasB Try.underlying86 (by kernel_rfl) v _ w
theorem window_around (v : Value) (w : World) : (Instr.typeAssert (.iface 84 v) 55 86 true).run Try.prog w = .ok (.tuple #[.iface 84 v, .bool true]) w := run_typeAssert_hasB Try.underlying86 (by kernel_rfl) v _ w
theorem window_opener (v : Value) (w : World) : (Instr.typeAssert (.iface 84 v) 55 61 true).run Try.prog w = .ok (.tuple #[.iface 84 v, .bool true]) w := run_typeAssert_hasB Try.underlying61 (by kernel_rfl) v _ w
theorem shell_opener (v : Value) (w : World) : (Instr.typeAssert (.iface 82 v) 55 61 true).run Try.prog w = .ok (.tuple #[.nilIface, .bool false]) w := run_typeAssert_lacksB Try.underlying61 (by kernel_rfl) (by kernel_rfl) v _ w
theorem inner_opener (v : Value) (w : World) : (Instr.typeAssert (.iface 80 v) 55 61 true).run Try.prog w = .ok (.tuple #[.nilIface, .bool false]) w := run_typeAssert_lacksB Try.underlying61 (by kernel_rfl) (by kernel_rfl) v _ w
set_option maxRecDepth 100000 in
set_option maxHeartbeats 4000000 in
theorem within_shell (w : World) (u : Value) (x : WX) (v : Value) : Calls Try.prog 78 #[.agg (u :: x.cells v).toArray] w fun e w' => e = .returned u ∧ Below w.heap.size w w' := by
  simp only [WX.cells]
  go_enter Try.func78, Try.ntmps78
  go_wp2_with fail
  go_ret
  exact ⟨rfl, by go_grown⟩
set_option maxRecDepth 100000 in
set_option maxHeartbeats 4000000 in
theorem opened_window (w : World) (u : Value) (x : WX) (v : Value) : Calls Try.prog 82 #[.agg (u :: x.cells v).toArray] w fun e w' => e = .returned u ∧ Below w.heap.size w w' := by
  simp only [WX.cells]
  go_enter Try.func82, Try.ntmps82
  go_wp2_with fail
  go_ret
  exact ⟨rfl, by go_grown⟩

/-- Who answers, asked at the outermost of some levels. -/
def whoL (c : Nat) (k : Int) : List WX → Int
  | [] => if hasN c k = true then 0 else -1
  | x :: r => if hasN (showsN c (x :: r)) k = true then (if hasN (givesN c (x :: r)) k = true then ((x :: r).length : Int) else whoL c k r) else -1
theorem givesN_lt {c : Nat} (hc : c < 4294967296) : ∀ {r : List WX}, (∀ x ∈ r, Cap x) → givesN c r < 4294967296
  | [], _ => hc
  | x :: _, h => or_lt (givenN_lt (h x (by simp))) (opnN_lt x)
/-- The state of who's loop. -/
def LWH (w : World) (c : Nat) (k X : Int) (sx sa : Value) (wr : World) : Prop :=
  ∃ r : List (WX × Value), sx = lvV c r ∧ sa = .int .i64 (r.length : Int) ∧ r.length ≤ 1048576 ∧ (∀ p ∈ r, Cap p.1) ∧ whoL c k (r.map Prod.fst) = X ∧ Below w.heap.size w wr

set_option maxRecDepth 100000 in
set_option maxHeartbeats 8000000 in
theorem who_any (w : World) (c : Nat) (r : List (WX × Value)) (k : Int) (hc : c < 4294967296) (hr : ∀ p ∈ r, Cap p.1) (hl : r.length ≤ 1048576) :
    Calls Try.prog 31 #[lvV c r, .int .i64 (r.length : Int), .int .i64 k] w fun e w' => e = .returned (.int .i64 (whoL c k (r.map Prod.fst))) ∧ Below w.heap.size w w' := by
  have hX : whoL c k (r.map Prod.fst) = whoL c k (r.map Prod.fst) := rfl
  have HX : Hid (LWH w c k (whoL c k (r.map Prod.fst)) (lvV c r) (.int .i64 (r.length : Int)) w) := ⟨r, rfl, rfl, hl, hr, rfl, Below.refl _ _⟩
  generalize whoL c k (r.map Prod.fst) = X at HX ⊢
  generalize lvV c r = L at HX ⊢
  generalize (r.length : Int) = at0 at HX ⊢
  clear hX hr hl
  go_enter Try.func31, Try.ntmps31
  simp only [Go.undef]
  go_wp2_with fail
  go_loopw [0, 1] (fun sx sa wr => LWH w c k X sx sa wr) (fun _ sa _ => (intOf sa).toNat)
  case atStart => exact HX.out
  case round =>
    obtain ⟨r, rfl, rfl, hl, hcap, hw, hb⟩ := hrel
    have hs := showsN_lt hc (r := r.map Prod.fst) (fun x hx => by obtain ⟨q, hq, rfl⟩ := List.mem_map.1 hx; exact hcap q hq)
    have hg := givesN_lt hc (r := r.map Prod.fst) (fun x hx => by obtain ⟨q, hq, rfl⟩ := List.mem_map.1 hx; exact hcap q hq)
    have h1 := fun W => has_any W _ k hs
    have h2 := fun W => has_any W _ k hg
    have HW := Lib.hid hw
    have HCAP := Lib.hid hcap
    have HB := Lib.hid hb
    have hk := lv_kind hc hcap
    clear hw hcap hb hs hg
    rcases hk with ⟨rfl, hv, k1, k2⟩ | ⟨p, q, Z, rfl, ho, hz, hv, k1, k2⟩ | ⟨p, q, Z, rfl, ho, hz, hv, k1, k2⟩
    · rw [hv]
      simp only [List.map_nil, showsN, givesN] at k1 k2 h1 h2
      have HK1 := Lib.hid k1
      have HK2 := Lib.hid k2
      have H1 := Lib.hid h1
      have H2 := Lib.hid h2
      have hX : Hid (X = if hasN c k = true then 0 else -1) := Lib.hid (by rw [← HW.out]; rfl)
      clear k1 k2 h1 h2 hv HW
      generalize hasN c k = b1 at *
      go_wp2_with fail
      refine (HK1.out _).mono ?_
      rintro e w1 ⟨rfl, hb1⟩
      have hB1 := below_on hb1 HB.out
      clear hb1
      go_wp2_with fail
      refine (H1.out _).mono ?_
      rintro e w2 ⟨rfl, rfl⟩
      cases b1
      · go_wp2_with fail
        go_ret
        exact ⟨ret_i (by rw [hX.out]; rfl), hB1⟩
      · go_wp2_with fail
        refine (HK2.out _).mono ?_
        rintro e w3 ⟨rfl, hb3⟩
        have hB3 := below_on hb3 hB1
        clear hb3
        go_wp2_with fail
        refine (H2.out _).mono ?_
        rintro e w4 ⟨rfl, rfl⟩
        go_wp2_with fail
        go_ret
        exact ⟨ret_i (by rw [hX.out]; rfl), hB3⟩
    · rw [hv]
      have hX : Hid (X = if hasN (showsN c ((p :: q).map Prod.fst)) k = true then (if hasN (givesN c ((p :: q).map Prod.fst)) k = true then (((p :: q).map Prod.fst).length : Int) else whoL c k (q.map Prod.fst)) else -1) := Lib.hid (by rw [← HW.out]; rfl)
      have HK1 := Lib.hid k1
      have HK2 := Lib.hid k2
      have H1 := Lib.hid h1
      have H2 := Lib.hid h2
      have hlen : (p :: q).length = q.length + 1 := rfl
      have hlq : q.length + 1 ≤ 1048576 := by omega
      rw [hlen]
      clear k1 k2 h1 h2 hv HW hl
      generalize hasN (showsN c ((p :: q).map Prod.fst)) k = b1 at *
      generalize hasN (givesN c ((p :: q).map Prod.fst)) k = b2 at *
      generalize hsh : showsN c ((p :: q).map Prod.fst) = sh1 at *
      generalize hgi : givesN c ((p :: q).map Prod.fst) = gi1 at *
      clear hsh hgi
      subst hz
      have hta := shell_around (.agg (lvV c q :: p.1.cells p.2).toArray)
      go_wp2_with fail
      refine (HK1.out _).mono ?_
      rintro e w1 ⟨rfl, hb1⟩
      have hB1 := below_on hb1 HB.out
      clear hb1
      go_wp2_with fail
      refine (H1.out _).mono ?_
      rintro e w2 ⟨rfl, rfl⟩
      cases b1
      · go_wp2_with fail
        go_ret
        exact ⟨ret_i (by rw [hX.out]; rfl), hB1⟩
      · go_wp2_with fail
        refine (HK2.out _).mono ?_
        rintro e w3 ⟨rfl, hb3⟩
        have hB3 := below_on hb3 hB1
        clear hb3
        go_wp2_with fail
        refine (H2.out _).mono ?_
        rintro e w4 ⟨rfl, rfl⟩
        cases b2
        · go_wp2_with fail
          refine (within_shell _ _ _ _).mono ?_
          rintro e w5 ⟨rfl, hb5⟩
          have hB5 := below_on hb5 hB3
          clear hb5
          obtain ⟨TT, ZZ, hform⟩ := lvV_form c q
          have HF := Lib.hid hform
          rw [hform]
          go_wp2_with fail
          go_roundw
          case rel => exact ⟨q, HF.out.symm, by go_num, by omega, fun y hy => HCAP.out y (by simp [hy]), hX.out.symm, hB5⟩
          case measure => simp [intOf]
        · go_wp2_with fail
          go_ret
          exact ⟨ret_i (by rw [hX.out]; simp), hB3⟩
    · rw [hv]
      have hX : Hid (X = if hasN (showsN c ((p :: q).map Prod.fst)) k = true then (if hasN (givesN c ((p :: q).map Prod.fst)) k = true then (((p :: q).map Prod.fst).length : Int) else whoL c k (q.map Prod.fst)) else -1) := Lib.hid (by rw [← HW.out]; rfl)
      have HK1 := Lib.hid k1
      have HK2 := Lib.hid k2
      have H1 := Lib.hid h1
      have H2 := Lib.hid h2
      have hlen : (p :: q).length = q.length + 1 := rfl
      have hlq : q.length + 1 ≤ 1048576 := by omega
      rw [hlen]
      clear k1 k2 h1 h2 hv HW hl
      generalize hasN (showsN c ((p :: q).map Prod.fst)) k = b1 at *
      generalize hasN (givesN c ((p :: q).map Prod.fst)) k = b2 at *
      generalize hsh : showsN c ((p :: q).map Prod.fst) = sh1 at *
      generalize hgi : givesN c ((p :: q).map Prod.fst) = gi1 at *
      clear hsh hgi
      subst hz
      have hta := window_around (.agg (lvV c q :: p.1.cells p.2).toArray)
      go_wp2_with fail
      refine (HK1.out _).mono ?_
      rintro e w1 ⟨rfl, hb1⟩
      have hB1 := below_on hb1 HB.out
      clear hb1
      go_wp2_with fail
      refine (H1.out _).mono ?_
      rintro e w2 ⟨rfl, rfl⟩
      cases b1
      · go_wp2_with fail
        go_ret
        exact ⟨ret_i (by rw [hX.out]; rfl), hB1⟩
      · go_wp2_with fail
        refine (HK2.out _).mono ?_
        rintro e w3 ⟨rfl, hb3⟩
        have hB3 := below_on hb3 hB1
        clear hb3
        go_wp2_with fail
        refine (H2.out _).mono ?_
        rintro e w4 ⟨rfl, rfl⟩
        cases b2
        · go_wp2_with fail
          refine (within_shell _ _ _ _).mono ?_
          rintro e w5 ⟨rfl, hb5⟩
          have hB5 := below_on hb5 hB3
          clear hb5
          obtain ⟨TT, ZZ, hform⟩ := lvV_form c q
          have HF := Lib.hid hform
          rw [hform]
          go_wp2_with fail
          go_roundw
          case rel => exact ⟨q, HF.out.symm, by go_num, by omega, fun y hy => HCAP.out y (by simp [hy]), hX.out.symm, hB5⟩
          case measure => simp [intOf]
        · go_wp2_with fail
          go_ret
          exact ⟨ret_i (by rw [hX.out]; simp), hB3⟩
end Go.Proofs.Ytlnlefebcfnocaa
