/- The levels of a chain: build. -/
import Derived.Test.YtlnlefebcfnocaaSo
namespace Go.Proofs.Ytlnlefebcfnocaa
open Go.RowKit Go.Deep
attribute [local go_sem] Go.undef

/-- A wrapper in memory. -/
def EW (w : World) (S : Nat → Prop) (p : WX × Value) (cs : List Value) : Prop := cs = p.1.cells p.2 ∧ IsW w S p.1.want [.int .i64 p.1.want.op, .int .i64 p.1.want.num, p.2] ∧ Cap p.1
theorem EW.len {w : World} {S : Nat → Prop} {p : WX × Value} {cs : List Value} (h : EW w S p cs) : cs.length = 8 := by rw [h.1]; rfl
theorem EW.under {w w' : World} {S : Nat → Prop} {B : Nat} {p : WX × Value} {cs : List Value} (h : EW w S p cs) (hb : Below B w w') (hS : ∀ b, S b → b < B) : EW w' S p cs := ⟨h.1, h.2.1.under hb hS, h.2.2⟩
def Wraps (w : World) (S : Nat → Prop) (ws : List (WX × Value)) (a : Option Addr) (n c : Nat) : Prop := RowsOf (EW w S) 8 w S ws a n c
theorem Wraps.under {w w' : World} {S : Nat → Prop} {B : Nat} {ws : List (WX × Value)} {a : Option Addr} {n c : Nat} (h : Wraps w S ws a n c) (hb : Below B w w') (hS : ∀ b, S b → b < B) : Wraps w' S ws a n c :=
  RowsOf.under h (fun _ _ _ h => h.under hb hS) hb hS
theorem Wraps.cap {w : World} {S : Nat → Prop} {ws : List (WX × Value)} {a : Option Addr} {n c : Nat} (h : Wraps w S ws a n c) : ∀ p ∈ ws, Cap p.1 := fun p hp => by
  obtain ⟨i, hi, rfl⟩ := List.getElem_of_mem hp
  obtain ⟨g, o, x, cs, -, -, hx, he, -⟩ := RowsOf.get h (j := i) (by rw [h.1]; exact hi)
  rw [List.getElem?_eq_getElem hi] at hx
  injection hx with hx
  rw [hx]
  exact he.2.2

/-- The levels of the first j wrappers. -/
def lvs (c : Nat) (ws : List (WX × Value)) (j : Nat) : List Value := (List.range (j + 1)).map fun i => lvV c (ws.take i).reverse
theorem lvs_zero (c : Nat) (ws : List (WX × Value)) : lvs c ws 0 = [lvV c []] := by simp [lvs]
theorem lvs_succ (c : Nat) (ws : List (WX × Value)) (j : Nat) : lvs c ws (j + 1) = lvs c ws j ++ [lvV c (ws.take (j + 1)).reverse] := by simp [lvs, List.range_succ]
theorem lvs_at (c : Nat) (ws : List (WX × Value)) {j i : Nat} (h : i ≤ j) : (lvs c ws j)[i]? = some (lvV c (ws.take i).reverse) := by simp [lvs, Nat.lt_succ_of_le h]
theorem take_rev {ws : List (WX × Value)} {j : Nat} {p : WX × Value} (h : ws[j]? = some p) : (ws.take (j + 1)).reverse = p :: (ws.take j).reverse := by
  rw [List.take_add_one, h]
  simp
theorem infoL : (Try.prog.info? 55).map (fun i => (i.zero, i.size, i.bytes)) = some (some .nilIface, 1, 16) := by kernel_rfl

theorem lvV_form (c : Nat) : ∀ r : List (WX × Value), ∃ T Z, lvV c r = .iface T Z
  | [] => ⟨_, _, rfl⟩
  | _ :: _ => ⟨_, _, rfl⟩
/-- The state of build's loop. -/
def BL (w : World) (c : Nat) (ws : List (WX × Value)) (j : Nat) (s3 : Value) (wr : World) : Prop :=
  ∃ a3 c3, s3 = .slice a3 (j + 1) c3 ∧ wr.ownsRow w.heap.size 55 1 (.slice a3 (j + 1) c3) (j + 1) (lvs c ws j) ∧ Below w.heap.size w wr

set_option maxRecDepth 100000 in
set_option maxHeartbeats 8000000 in
theorem build_any (w : World) (S : Nat → Prop) (op num : Int) (c : Nat) (ws : List (WX × Value)) (a : Option Addr) (n d : Nat) (hr : Wraps w S ws a n d) (hS : ∀ b, S b → b < w.heap.size) (hn : n ≤ 1048576) :
    Calls Try.prog 30 #[.agg #[.int .i64 op, .int .i64 num, .int .u32 (c : Int), .slice a n d]] w fun e w' => ∃ a' c', e = .returned (.slice a' (n + 1) c') ∧ w'.ownsRow w.heap.size 55 1 (.slice a' (n + 1) c') (n + 1) (lvs c ws n) ∧ Below w.heap.size w w' := by
  obtain ⟨i0, hi0, hz0, hz1, hz2⟩ := info_parts infoL
  have HR := Lib.hid hr
  have HS := Lib.hid hS
  have hnd : n ≤ d := hr.2.1
  have hdm : d ≤ maxLen := hr.2.2.1
  unfold maxLen at hdm
  have hnl : Hid (n = ws.length) := Lib.hid hr.1
  clear hr hS
  go_enter Try.func30, Try.ntmps30
  simp only [Go.undef]
  go_wp2_with fail
  go_loopw [3, 16] (fun s3 iv wr => ∃ j : Nat, iv = .int .i64 j ∧ j ≤ n ∧ BL w c ws j s3 wr) (fun _ i _ => n - (intOf i).toNat)
  case atStart =>
    refine ⟨0, rfl, Nat.zero_le _, _, _, rfl, ?_, by go_grown⟩
    rw [lvs_zero]
    refine ⟨rfl, .inr ⟨w.heap.size + 1, 1, #[lvV c []], by simp, by omega, ?_, Nat.le_refl _, by decide, rfl, rfl⟩⟩
    exact Blk.new' _ _ _ (by simp)
  case round =>
    obtain ⟨j, rfl, hj, a3, c3, rfl, h3, h4⟩ := hrel
    by_cases hlt : j < n
    · obtain ⟨g, o, p, cs, rfl, hSg, hp, he, hl, hat⟩ := RowsOf.get HR.out hlt
      obtain ⟨x, v⟩ := p
      obtain ⟨op', xa, xb, caps, want, opn⟩ := x
      obtain ⟨wo, wn, wl⟩ := want
      obtain ⟨rfl, hw, hcap⟩ := he
      obtain ⟨va, vc, ve, -⟩ := hw.open_
      obtain rfl : v = .slice va wl.length vc := by injection ve with _ ve; injection ve with _ ve; injection ve
      have hat' : wr.rangeAt g (o + j * 8) _ := rangeAt_keep hat fun y => h4.cell (p := ⟨g, y, none⟩) (HS.out g hSg)
      have d0 := hat' 0 _ rfl
      have d1 := hat' 1 _ rfl
      have d2 := hat' 2 _ rfl
      have d3 := hat' 3 _ rfl
      have d4 := hat' 4 _ rfl
      have d5 := hat' 5 _ rfl
      have d6 := hat' 6 _ rfl
      have d7 := hat' 7 _ rfl
      simp only [Nat.add_zero] at d0
      simp only [WT.op, WT.num] at d4 d5
      obtain ⟨g3, cap3, e3, -, -⟩ := h3.form (by omega)
      injection e3 with e3 _ e3'
      subst e3 e3'
      have dl := h3.cellAt j (by omega)
      rw [lvs_at c ws (Nat.le_refl _)] at dl
      have H3 := Lib.hid h3
      have H4 := Lib.hid h4
      have HP := Lib.hid hp
      have hs4 := h4.size
      have hg3 := own_row h3 g3 rfl
      clear h3 h4 hp hat hat' hw hl ve
      obtain ⟨T, Z, hLV⟩ := lvV_form c (ws.take j).reverse
      rw [hLV] at dl
      have HLV := Lib.hid hLV
      clear hLV
      have hi0' : (0 : Int) ≤ (j : Int) := by omega
      have hi1 : (j : Int) < (n : Int) := by omega
      cases opn
      · go_wp2_with fail
        go_region
        go_wp2_with (at_builtin; refine wpList_append_lies _ rfl _ _ 52 rfl w.heap.size 55 i0 _ 1 16 Try.underlying52 hi0 hz0 hz1 hz2 rfl (by omega) _ (j + 1) (lvs c ws j) rfl ((((H3.out.alloc _).alloc _).drew).alloc _) ⟨wr.heap.size + 2, 0, none⟩ 1 1 [lvV c (ws.take (j + 1)).reverse] rfl rfl (by rw [take_rev HP.out, lvV, HLV.out]; exact one_new (by simp)) ?b3 (by omega) ?b4 ?b5 ?b6 (wr.heap.size + 3) (by simp) ?_)
        case b3 => intro u hu; rw [List.mem_singleton.1 hu, take_rev HP.out]; rfl
        case b4 => unfold maxLen; omega
        case b5 => omega
        case b6 => simp; omega
        intro g5 cap5 w5 hown5 hgr5 hat5 hlt5
        have hB5 : Below w.heap.size w w5 := ((((H4.out.alloc hs4 _).alloc (by simp; omega) _).drew).alloc (by simp; omega) _).grown hgr5 (by simp; omega) (fun k hk => (own_row H3.out k hk).1)
        rw [← lvs_succ] at hown5
        have HO5 := Lib.hid hown5
        have HB5 := Lib.hid hB5
        clear hown5 hgr5 hat5 hlt5 hB5
        go_wp2_with fail
        go_roundw
        case rel => exact ⟨j + 1, by go_num, by omega, _, _, by simp [Nat.add_assoc], HO5.out, HB5.out⟩
        case measure => simp [intOf]; omega
      · go_wp2_with fail
        go_region
        go_wp2_with (at_builtin; refine wpList_append_lies _ rfl _ _ 52 rfl w.heap.size 55 i0 _ 1 16 Try.underlying52 hi0 hz0 hz1 hz2 rfl (by omega) _ (j + 1) (lvs c ws j) rfl ((((H3.out.alloc _).alloc _).drew).alloc _) ⟨wr.heap.size + 2, 0, none⟩ 1 1 [lvV c (ws.take (j + 1)).reverse] rfl rfl (by rw [take_rev HP.out, lvV, HLV.out]; exact one_new (by simp)) ?c3 (by omega) ?c4 ?c5 ?c6 (wr.heap.size + 3) (by simp) ?_)
        case c3 => intro u hu; rw [List.mem_singleton.1 hu, take_rev HP.out]; rfl
        case c4 => unfold maxLen; omega
        case c5 => omega
        case c6 => simp; omega
        intro g5 cap5 w5 hown5 hgr5 hat5 hlt5
        have hB5 : Below w.heap.size w w5 := ((((H4.out.alloc hs4 _).alloc (by simp; omega) _).drew).alloc (by simp; omega) _).grown hgr5 (by simp; omega) (fun k hk => (own_row H3.out k hk).1)
        rw [← lvs_succ] at hown5
        have HO5 := Lib.hid hown5
        have HB5 := Lib.hid hB5
        clear hown5 hgr5 hat5 hlt5 hB5
        go_wp2_with fail
        go_roundw
        case rel => exact ⟨j + 1, by go_num, by omega, _, _, by simp [Nat.add_assoc], HO5.out, HB5.out⟩
        case measure => simp [intOf]; omega
    · obtain rfl : j = n := by omega
      go_wp2_with fail
      go_ret
      exact ⟨a3, c3, rfl, h3, h4⟩
end Go.Proofs.Ytlnlefebcfnocaa
