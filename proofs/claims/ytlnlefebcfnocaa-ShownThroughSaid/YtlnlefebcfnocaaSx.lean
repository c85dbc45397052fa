/- Who, Reach, Lost, Gives of the program. -/
import Derived.Test.YtlnlefebcfnocaaSj
namespace Go.Proofs.Ytlnlefebcfnocaa
open Go.RowKit Go.Deep
attribute [local go_sem] Go.undef

def whoW (c : Nat) (ws : List (WX × Value)) (k : Int) : Int := whoL c k ((rv ws ws.length).map Prod.fst)
theorem rv_len {ws : List (WX × Value)} {j : Nat} (h : j ≤ ws.length) : (rv ws j).length = j := by rw [rv, List.length_reverse, List.length_take]; omega

set_option maxRecDepth 100000 in
set_option maxHeartbeats 8000000 in
theorem Who_any (w : World) (S : Nat → Prop) (op num : Int) (c : Nat) (ws : List (WX × Value)) (a : Option Addr) (n d : Nat) (k : Int) (hr : Wraps w S ws a n d) (hS : ∀ b, S b → b < w.heap.size) (hn : n ≤ 1048575) (hc : c < 4294967296) :
    Calls Try.prog 16 #[.agg #[.int .i64 op, .int .i64 num, .int .u32 (c : Int), .slice a n d], .int .i64 k] w fun e w' => e = .returned (.int .i64 (whoW c ws k)) ∧ Below w.heap.size w w' := by
  have hb := fun W (hb : Below w.heap.size w W) => build_any W S op num c ws a n d (hr.under hb hS) (fun b h => Nat.lt_of_lt_of_le (hS b h) hb.size) (by omega)
  obtain rfl : n = ws.length := hr.1
  have hk := fun W => who_any W c (rv ws ws.length) k hc (rv_cap hr.cap ws.length) (by rw [rv_len (Nat.le_refl _)]; omega)
  rw [rv_len (Nat.le_refl _)] at hk
  have HB := Lib.hid hb
  have HK : Hid (∀ W, Calls Try.prog 31 #[lvV c (rv ws ws.length), .int .i64 (ws.length : Int), .int .i64 k] W fun e w' => e = .returned (.int .i64 (whoW c ws k)) ∧ Below W.heap.size W w') := hk
  clear hb hk hr hS
  go_enter Try.func16, Try.ntmps16
  go_wp2_with fail
  refine (HB.out _ (by go_grown)).mono ?_
  rintro e w1 ⟨a1, c1, rfl, hown, hb⟩
  have HB1 : Hid (Below w.heap.size w w1) := below_on hb (by go_grown)
  obtain ⟨g, cap, e3, -, -⟩ := hown.form (by omega)
  injection e3 with e3 _ e3'
  subst e3 e3'
  have dl := hown.cellAt ws.length (by omega)
  rw [lvs_at c ws (Nat.le_refl _), show (ws.take ws.length).reverse = rv ws ws.length from rfl] at dl
  have hi : (ws.length : Int) < (ws.length : Int) + 1 := by omega
  clear hown hb
  obtain ⟨TT, ZZ, hform⟩ := lvV_form c (rv ws ws.length)
  rw [hform] at dl HK
  have HF := Lib.hid hform
  clear hform
  go_wp2_with fail
  refine (HK.out _).mono ?_
  rintro e w2 ⟨rfl, hb2⟩
  have hB2 := below_on hb2 HB1.out
  go_wp2_with fail
  go_ret
  exact ⟨rfl, hB2⟩

/-- Who answers, opened if need be. -/
def reachL (c : Nat) (k : Int) : List WX → Int
  | [] => if hasN c k = true then 0 else -1
  | x :: r => if hasN (showsN c (x :: r)) k = true then whoL c k (x :: r) else if x.opn = true ∧ 0 ≤ k then reachL c k r else -1
def reachW (c : Nat) (ws : List (WX × Value)) (k : Int) : Int := reachL c k ((rv ws ws.length).map Prod.fst)
/-- The state of Reach's loop. -/
def LRE (w : World) (c : Nat) (k X : Int) (sa sx : Value) (wr : World) : Prop :=
  ∃ r : List (WX × Value), sx = lvV c r ∧ sa = .int .i64 (r.length : Int) ∧ r.length ≤ 1048576 ∧ (∀ p ∈ r, Cap p.1) ∧ reachL c k (r.map Prod.fst) = X ∧ Below w.heap.size w wr

set_option maxRecDepth 100000 in
set_option maxHeartbeats 8000000 in
theorem Reach_any (w : World) (S : Nat → Prop) (op num : Int) (c : Nat) (ws : List (WX × Value)) (a : Option Addr) (n d : Nat) (k : Int) (hr : Wraps w S ws a n d) (hS : ∀ b, S b → b < w.heap.size) (hn : n ≤ 1048575) (hc : c < 4294967296) :
    Calls Try.prog 18 #[.agg #[.int .i64 op, .int .i64 num, .int .u32 (c : Int), .slice a n d], .int .i64 k] w fun e w' => e = .returned (.int .i64 (reachW c ws k)) ∧ Below w.heap.size w w' := by
  have hb := fun W (hb : Below w.heap.size w W) => build_any W S op num c ws a n d (hr.under hb hS) (fun b h => Nat.lt_of_lt_of_le (hS b h) hb.size) (by omega)
  obtain rfl : n = ws.length := hr.1
  have hX : reachW c ws k = reachL c k ((rv ws ws.length).map Prod.fst) := rfl
  generalize reachW c ws k = X at hX ⊢
  have HX : Hid (∀ W, Below w.heap.size w W → LRE w c k X (.int .i64 (ws.length : Int)) (lvV c (rv ws ws.length)) W) := fun W hW => ⟨rv ws ws.length, rfl, by rw [rv_len (Nat.le_refl _)], by rw [rv_len (Nat.le_refl _)]; omega, rv_cap hr.cap ws.length, hX.symm, hW⟩
  have HB := Lib.hid hb
  clear hb hr hS hX
  go_enter Try.func18, Try.ntmps18
  go_wp2_with fail
  refine (HB.out _ (by go_grown)).mono ?_
  rintro e w1 ⟨a1, c1, rfl, hown, hb⟩
  have HB1 : Hid (Below w.heap.size w w1) := below_on hb (by go_grown)
  obtain ⟨g, cap, e3, -, -⟩ := hown.form (by omega)
  injection e3 with e3 _ e3'
  subst e3 e3'
  have dl := hown.cellAt ws.length (by omega)
  rw [lvs_at c ws (Nat.le_refl _), show (ws.take ws.length).reverse = rv ws ws.length from rfl] at dl
  have hi : (ws.length : Int) < (ws.length : Int) + 1 := by omega
  clear hown hb
  obtain ⟨TT, ZZ, hform⟩ := lvV_form c (rv ws ws.length)
  rw [hform] at dl HX
  clear hform
  go_wp2_with fail
  go_loopw [6, 7] (fun sa sx wr => LRE w c k X sa sx wr) (fun sa _ _ => (intOf sa).toNat)
  case atStart => exact HX.out _ HB1.out
  case round =>
    clear dl
    obtain ⟨r, rfl, rfl, hl, hcap, hw, hb⟩ := hrel
    have hs := showsN_lt hc (r := r.map Prod.fst) (fun x hx => by obtain ⟨q, hq, rfl⟩ := List.mem_map.1 hx; exact hcap q hq)
    have h1 := fun W => has_any W _ k hs
    have h2 := fun W => who_any W c r k hc hcap hl
    have HW := Lib.hid hw
    have HCAP := Lib.hid hcap
    have HB := Lib.hid hb
    have hk := lv_kind hc hcap
    clear hw hcap hb hs
    rcases hk with ⟨rfl, hv, k1, -⟩ | ⟨p, q, Z, rfl, ho, hz, hv, k1, -⟩ | ⟨p, q, Z, rfl, ho, hz, hv, k1, -⟩
    · rw [hv] at h2 ⊢
      simp only [List.map_nil, showsN] at k1 h1 h2
      have HK1 := Lib.hid k1
      have H1 := Lib.hid h1
      have H2 := Lib.hid h2
      have hX : Hid (X = if hasN c k = true then 0 else -1) := Lib.hid (by rw [← HW.out]; rfl)
      have hY : Hid (whoL c k [] = if hasN c k = true then 0 else -1) := Lib.hid rfl
      clear k1 h1 h2 hv HW
      have hta := inner_opener (.agg #[.int .u32 (c : Int)])
      generalize hasN c k = b1 at *
      go_wp2_with fail
      refine (HK1.out _).mono ?_
      rintro e w1 ⟨rfl, hb1⟩
      have hB1 := below_on hb1 HB.out
      clear hb1
      go_wp2_with fail
      refine (H1.out _).mono ?_
      rintro e w2 ⟨rfl, rfl⟩
      cases b1
      · go_wp2_with fail
        go_ret
        exact ⟨ret_i (by rw [hX.out]; rfl), hB1⟩
      · go_wp2_with fail
        refine (H2.out _).mono ?_
        rintro e w3 ⟨rfl, hb3⟩
        have hB3 := below_on hb3 hB1
        clear hb3
        go_wp2_with fail
        go_ret
        exact ⟨ret_i (by rw [hX.out, hY.out]), hB3⟩
    · rw [hv] at h2 ⊢
      have hX : Hid (X = if hasN (showsN c ((p :: q).map Prod.fst)) k = true then whoL c k ((p :: q).map Prod.fst) else if p.1.opn = true ∧ 0 ≤ k then reachL c k (q.map Prod.fst) else -1) := Lib.hid (by rw [← HW.out]; rfl)
      rw [ho, if_neg (c := false = true ∧ 0 ≤ k) (by simp)] at hX
      have hlen : (p :: q).length = q.length + 1 := rfl
      rw [hlen] at h2 ⊢
      have HK1 := Lib.hid k1
      have H1 := Lib.hid h1
      have H2 := Lib.hid h2
      have hlq : q.length + 1 ≤ 1048576 := by omega
      clear k1 h1 h2 hv HW hl
      generalize hasN (showsN c ((p :: q).map Prod.fst)) k = b1 at *
      generalize hsh : showsN c ((p :: q).map Prod.fst) = sh1 at *
      generalize hwh : whoL c k ((p :: q).map Prod.fst) = wh1 at *
      clear hsh hwh
      subst hz
      have hta := shell_opener (.agg (lvV c q :: p.1.cells p.2).toArray)
      go_wp2_with fail
      refine (HK1.out _).mono ?_
      rintro e w1 ⟨rfl, hb1⟩
      have hB1 := below_on hb1 HB.out
      clear hb1
      go_wp2_with fail
      refine (H1.out _).mono ?_
      rintro e w2 ⟨rfl, rfl⟩
      cases b1
      · go_wp2_with fail
        go_ret
        exact ⟨ret_i (by rw [hX.out]; rfl), hB1⟩
      · go_wp2_with fail
        refine (H2.out _).mono ?_
        rintro e w3 ⟨rfl, hb3⟩
        have hB3 := below_on hb3 hB1
        clear hb3
        go_wp2_with fail
        go_ret
        exact ⟨ret_i (by rw [hX.out]; simp), hB3⟩
    · rw [hv] at h2 ⊢
      have hX : Hid (X = if hasN (showsN c ((p :: q).map Prod.fst)) k = true then whoL c k ((p :: q).map Prod.fst) else if p.1.opn = true ∧ 0 ≤ k then reachL c k (q.map Prod.fst) else -1) := Lib.hid (by rw [← HW.out]; rfl)
      have hlen : (p :: q).length = q.length + 1 := rfl
      rw [hlen] at h2 ⊢
      have HO := Lib.hid ho
      have HK1 := Lib.hid k1
      have H1 := Lib.hid h1
      have H2 := Lib.hid h2
      have hlq : q.length + 1 ≤ 1048576 := by omega
      clear k1 h1 h2 hv HW hl ho
      generalize hasN (showsN c ((p :: q).map Prod.fst)) k = b1 at *
      generalize hsh : showsN c ((p :: q).map Prod.fst) = sh1 at *
      generalize hwh : whoL c k ((p :: q).map Prod.fst) = wh1 at *
      clear hsh hwh
      subst hz
      have hta := window_opener (.agg (lvV c q :: p.1.cells p.2).toArray)
      go_wp2_with fail
      refine (HK1.out _).mono ?_
      rintro e w1 ⟨rfl, hb1⟩
      have hB1 := below_on hb1 HB.out
      clear hb1
      go_wp2_with fail
      refine (H1.out _).mono ?_
      rintro e w2 ⟨rfl, rfl⟩
      cases b1
      · by_cases hk0 : 0 ≤ k
        · go_wp2_with fail
          refine (opened_window _ _ _ _).mono ?_
          rintro e w5 ⟨rfl, hb5⟩
          have hB5 := below_on hb5 hB1
          clear hb5
          obtain ⟨TT, ZZ, hform⟩ := lvV_form c q
          have HF := Lib.hid hform
          rw [hform]
          go_wp2_with fail
          go_roundw
          case rel => exact ⟨q, HF.out.symm, by go_num, by omega, fun y hy => HCAP.out y (by simp [hy]), by rw [hX.out, if_neg (by simp), if_pos ⟨HO.out, hk0⟩], hB5⟩
          case measure => simp [intOf]
        · have hk1 : k < 0 := by omega
          go_wp2_with fail
          go_ret
          exact ⟨ret_i (by rw [hX.out, if_neg (by simp), if_neg (fun h => absurd h.2 (by omega))]), hB1⟩
      · go_wp2_with fail
        refine (H2.out _).mono ?_
        rintro e w3 ⟨rfl, hb3⟩
        have hB3 := below_on hb3 hB1
        clear hb3
        go_wp2_with fail
        go_ret
        exact ⟨ret_i (by rw [hX.out]; simp), hB3⟩
end Go.Proofs.Ytlnlefebcfnocaa
