/- Both News; the program's Append. -/
import Derived.Test.YtknjloffkiidhaaJa
import Derived.Laws.DeepNot64
namespace Go.Proofs.Ytknjloffkiidhaa
open Go.RowKit Go.Deep
attribute [local go_sem] Go.undef

/-- A journal without records. -/
def NewQ (w : World) (e : Ending) (w' : World) : Prop :=
  e = .returned (.slice (some ⟨w.heap.size, 0, none⟩) 5 5) ∧ w.alloc (.cells #[.int .u8 67, .int .u8 78, .int .u8 68, .int .u8 74, .int .u8 1] 5 (5, 6)) = w'
theorem NewQ.by {w : World} : BY (w.alloc (.cells #[.int .u8 67, .int .u8 78, .int .u8 68, .int .u8 74, .int .u8 1] 5 (5, 6))) (fun b => w.heap.size ≤ b ∧ b < w.heap.size + 1) (some ⟨w.heap.size, 0, none⟩) headL :=
  ⟨headL_bytes, fun _ => ⟨w.heap.size, 0, rfl, ⟨Nat.le_refl _, by omega⟩, fun i x hx => by
    obtain ⟨-, h⟩ := head_here w
    obtain ⟨g, o, ha, -, hc⟩ := h (by decide)
    injection ha with ha
    injection ha with e1 e2
    subst e1 e2
    exact hc i x hx⟩⟩

set_option maxRecDepth 100000 in
set_option maxHeartbeats 4000000 in
theorem new_any (w : World) : Calls Try.prog 13 #[] w (NewQ w) := by
  have kc := Lib.run_convert_bytes_const (P := Try.prog) w 22 5 #[.int .u8 67, .int .u8 78, .int .u8 68, .int .u8 74, .int .u8 1] 5 5 Try.underlying22 Try.underlying5
  go_enter Try.func13, Try.ntmps13
  go_wp2_with fail
  go_ret
  exact ⟨rfl, rfl⟩
set_option maxRecDepth 100000 in
set_option maxHeartbeats 4000000 in
theorem rnew_any (w : World) : Calls Try.prog 14 #[] w (NewQ w) := by
  have kc := Lib.run_convert_bytes_const (P := Try.prog) w 22 5 #[.int .u8 67, .int .u8 78, .int .u8 68, .int .u8 74, .int .u8 1] 5 5 Try.underlying22 Try.underlying5
  go_enter Try.func14, Try.ntmps14
  go_wp2_with fail
  go_ret
  exact ⟨rfl, rfl⟩

set_option maxRecDepth 100000 in
set_option maxHeartbeats 8000000 in
theorem append_any (w : World) (S S' : Nat → Prop) (a b : Option Addr) (l r : List Nat) (n c m d : Nat) (hn : l.length = n) (hnc : n ≤ c) (hm : c ≤ 9223372036854775807) (hsm : n ≤ 1099511627776) (h : BY w S a l) (hS : ∀ b, S b → b < w.heap.size)
    (hr : r.length = m) (hm2 : m ≤ 1099511627776) (h' : BY w S' b r) (hS' : ∀ b, S' b → b < w.heap.size) :
    Calls Try.prog 16 #[.slice a n c, .slice b m d] w (AppQ w l r) := by
  obtain ⟨i0, hi0, hz0, hz1, hz2⟩ := info_parts info8
  have ho := open_any w S a l n c hn hnc hm hsm h hS
  have HO := Lib.hid ho
  have HH := Lib.hid h
  have HS := Lib.hid hS
  have HN := Lib.hid hn
  have HH' := Lib.hid h'
  have HS' := Lib.hid hS'
  have HR := Lib.hid hr
  clear ho h hS hn h' hS' hr
  go_enter Try.func16, Try.ntmps16
  go_wp2_with fail
  refine HO.out.mono ?_
  rintro e w1 (⟨hd, rfl, hb1⟩ | ⟨rs, at', v, ht, -, rfl, hb1⟩)
  · have HD := Lib.hid hd
    have HB1 := Lib.hid hb1
    clear hd hb1
    go_wp2_with fail
    go_ret2
    exact .inl ⟨HD.out, rfl, HB1.out⟩
  · have HT := Lib.hid ht
    have HB1 := Lib.hid hb1
    have hle := ht.le
    have hln := HN.out
    rw [hln] at hle
    obtain ⟨hle1, hle2⟩ := hle
    clear hb1 ht hln
    by_cases hbig : 65535 < m
    · go_wp2_with fail
      go_ret2
      exact .inr (.inl ⟨HT.out.1, by rw [HR.out]; exact hbig, rfl, HB1.out⟩)
    · have hsl : m ≤ 65535 := by omega
      have hby1 : BY w1 S a (l.take at') := (HH.out.under HB1.out HS.out).front at'
      have hbr1 : BY w1 S' b r := HH'.out.under HB1.out HS'.out
      have hlt : (l.take at').length = at' := by rw [List.length_take, HN.out]; omega
      have hat5 : 5 ≤ at' := by have := HT.out.2.2.1; omega
      have hsm1 : 0 < at' → a.isSome = true := fun _ => HH.out.some (by rw [HN.out]; omega)
      have hvl : (VB (l.take at')).length = at' * 1 := by rw [VB_len, hlt, Nat.mul_one]
      have hone := VB_one (l.take at')
      have hac : at' ≤ c := by omega
      have hby1' : BY (w1.alloc (.cells #[] 5)) S a (l.take at') := hby1.under ((Below.refl _ _).alloc (Nat.le_refl w1.heap.size) _) (fun b hb => Nat.lt_of_lt_of_le (HS.out b hb) HB1.out.size)
      have HBY := Lib.hid hby1'
      have HBR := Lib.hid hbr1
      have HLT := Lib.hid hlt
      have HSOME := Lib.hid hsm1
      have HVL := Lib.hid hvl
      have HONE := Lib.hid hone
      have hs1 := HB1.out.size
      obtain ⟨y, e1, q1⟩ : ∃ y : Int, bits BinOp.xor IntKind.i64 (-1) (m : Int) = y ∧ y = -1 - (m : Int) := ⟨_, i64_not m (by omega), rfl⟩
      have e1' : bits BinOp.xor IntKind.i64 (if IntKind.i64.signed = true then -1 else 9223372036854775807) (m : Int) = y := e1
      have p4 : VB (pre4 m) = [.int .u8 ((m : Int) % 256), .int .u8 ((m : Int) / 256), .int .u8 (y % 256), .int .u8 (y / 256 % 256)] := by
        rw [pre4_cells hsl, show ((255 - m % 256 : Nat) : Int) = y % 256 by omega, show ((255 - m / 256 : Nat) : Int) = y / 256 % 256 by omega]
      have P4 := Lib.hid p4
      clear p4 q1
      clear hby1 hby1' hbr1 hlt hsm1 hvl hone
      go_wp2_with (at_builtin; refine wpList_append_any _ rfl _ _ 22 rfl w1.heap.size 5 i0 _ 1 1 Try.underlying22 hi0 hz0 hz1 hz2 rfl (by omega) _ 0 [] rfl (World.ownsRow_made w1 #[] 0 (Nat.le_refl _) (by decide) rfl) a at' c (VB (l.take at')) rfl HSOME.out HVL.out HBY.out.news HONE.out ?a4 ?a5 ?a6 ?_)
      case a4 => unfold maxLen; omega
      case a5 => omega
      case a6 => simp
      intro v2 w2 hown2 hgr2
      obtain ⟨a2, c2, rfl⟩ := own_slice hown2
      have hb12 : Below w1.heap.size w1 w2 := ((Below.refl _ _).alloc (Nat.le_refl _) _).grown hgr2 (by simp) (fun k hk => by cases hk; exact Nat.le_refl _)
      have hb2 : Below w.heap.size w w2 := below_on hb12 HB1.out
      have HB2 := Lib.hid hb2
      have HO2 := Lib.hid hown2
      clear hown2 hgr2 hb2
      go_wp2_with (at_builtin; refine wpList_append_any _ rfl _ _ 22 rfl w1.heap.size 5 i0 _ 1 1 Try.underlying22 hi0 hz0 hz1 hz2 rfl (by omega) _ at' (VB (l.take at')) rfl (HO2.out.alloc _) (some ⟨w2.heap.size, 0, none⟩) 4 4 (VB (pre4 m)) rfl (fun _ => rfl) (by rw [P4.out]; rfl) (by intro ad had; cases had; exact news_four w2 rfl P4.out) (VB_one _) ?b4 ?b5 ?b6 ?_)
      case b4 => unfold maxLen; omega
      case b5 => omega
      case b6 => have := hb12.size; simp; omega
      intro v3 w3 hown3 hgr3
      obtain ⟨a3, c3, rfl⟩ := own_slice hown3
      have hb13 : Below w1.heap.size w1 w3 := (hb12.alloc hb12.size _).grown hgr3 (by have := hb12.size; simp; omega) (fun k hk => (own_row HO2.out k hk).1)
      have HB13 := Lib.hid hb13
      have HO3 := Lib.hid hown3
      have hlt' : ∀ b, S' b → b < w1.heap.size := fun b hb => Nat.lt_of_lt_of_le (HS'.out b hb) hs1
      have hbr3 : BY w3 S' b r := HBR.out.under hb13 hlt'
      have HBR3 := Lib.hid hbr3
      have hsomer : 0 < m → b.isSome = true := fun h0 => HH'.out.some (by rw [HR.out]; omega)
      have HSOMER := Lib.hid hsomer
      have hvr : (VB r).length = m * 1 := by rw [VB_len, HR.out, Nat.mul_one]
      have HVR := Lib.hid hvr
      have hs3 := hb13.size
      clear hgr3 hown3 hb13 hb12 hbr3 hsomer hvr
      go_wp2_with (at_builtin; refine wpList_append_any _ rfl _ _ 22 rfl w1.heap.size 5 i0 _ 1 1 Try.underlying22 hi0 hz0 hz1 hz2 rfl (by omega) _ (at' + 4) (VB (l.take at') ++ VB (pre4 m)) rfl HO3.out b m d (VB r) rfl HSOMER.out HVR.out HBR3.out.news (VB_one _) ?c4 ?c5 ?c6 ?_)
      case c4 => unfold maxLen; omega
      case c5 => omega
      case c6 => omega
      intro v4 w4 hown4 hgr4
      obtain ⟨a4, c4, rfl⟩ := own_slice hown4
      have hb14 : Below w1.heap.size w1 w4 := HB13.out.grown hgr4 (by omega) (fun k hk => (own_row HO3.out k hk).1)
      have HB14 := Lib.hid hb14
      have HO4 := Lib.hid hown4
      have hbr4 : BY w4 S' b r := HBR.out.under hb14 hlt'
      have hsum := sum_any w4 S' b r m d HR.out (by omega) hbr4
      have HSUM := Lib.hid hsum
      have hsl4 := sumL_lt r
      have hs4 := hb14.size
      have l4 := le4_cells hsl4
      have L4 := Lib.hid l4
      have hfr : frameL r = pre4 m ++ r ++ le4 (sumL r) := by rw [frameL, HR.out]
      have HFR := Lib.hid hfr
      clear hgr4 hown4 hb14 hbr4 hsum hlt' l4 hfr
      generalize sumL r = s at *
      go_wp2_with fail
      refine HSUM.out.mono ?_
      rintro e w5 ⟨rfl, rfl⟩
      go_wp2_with (at_builtin; refine wpList_append_any _ rfl _ _ 22 rfl w1.heap.size 5 i0 _ 1 1 Try.underlying22 hi0 hz0 hz1 hz2 rfl (by omega) _ (at' + 4 + m) (VB (l.take at') ++ (VB (pre4 m) ++ VB r)) rfl (HO4.out.alloc _) (some ⟨w4.heap.size, 0, none⟩) 4 4 (VB (le4 s)) rfl (fun _ => rfl) (by rw [VB_len]; rfl) (by intro ad had; cases had; exact news_four w4 rfl L4.out) (VB_one _) ?d4 ?d5 ?d6 ?_)
      case d4 => unfold maxLen; omega
      case d5 => omega
      case d6 => simp; omega
      intro v6 w6 hown6 hgr6
      obtain ⟨a6, c6, rfl⟩ := own_slice hown6
      have hb16 : Below w1.heap.size w1 w6 := (HB14.out.alloc hs4 _).grown hgr6 (by simp; omega) (fun k hk => (own_row HO4.out k hk).1)
      have hb6 := below_on hb16 HB1.out
      have e6 : VB (l.take at') ++ (VB (pre4 m) ++ (VB r ++ VB (le4 s))) = VB (l.take at' ++ frameL r) := by rw [HFR.out, VB_app, VB_app, VB_app, List.append_assoc]
      rw [e6, show at' + 4 + m + 4 = at' + m + 8 by omega] at hown6
      have HB6 := Lib.hid hb6
      have HO6 := Lib.hid hown6
      clear hown6 hgr6 hb16 hb6 e6
      go_wp2_with fail
      go_ret2
      have e : r.length = m := HR.out
      exact .inr (.inr ⟨by omega, rs, at', a6, c6, HT.out, by rw [e]; simp; omega, by rw [e]; exact own_mono HO6.out HB1.out.size, HB6.out⟩)
end Go.Proofs.Ytknjloffkiidhaa
