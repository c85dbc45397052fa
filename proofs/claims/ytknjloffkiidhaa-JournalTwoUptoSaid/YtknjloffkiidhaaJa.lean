/- Both Appends; both News; torn. -/
import Derived.Test.YtknjloffkiidhaaJq
namespace Go.Proofs.Ytknjloffkiidhaa
open Go.RowKit Go.Deep
attribute [local go_sem] Go.undef

/-- What Append leaves. -/
def AppQ (w : World) (l r : List Nat) (e : Ending) (w' : World) : Prop :=
  (l.take 5 ≠ headL ∧ e = .returned (.tuple #[.slice none 0 0, .int .i64 262]) ∧ Below w.heap.size w w') ∨
  (l.take 5 = headL ∧ 65535 < r.length ∧ e = .returned (.tuple #[.slice none 0 0, .int .i64 270]) ∧ Below w.heap.size w w') ∨
  (r.length ≤ 65535 ∧ ∃ rs at' a' c', Told l rs at' ∧ e = .returned (.tuple #[.slice a' (at' + r.length + 8) c', .int .i64 0]) ∧
    w'.ownsRow w.heap.size 5 1 (.slice a' (at' + r.length + 8) c') (at' + r.length + 8) (VB (l.take at' ++ frameL r)) ∧ Below w.heap.size w w')

theorem BY.front {w : World} {S : Nat → Prop} {a : Option Addr} {l : List Nat} (h : BY w S a l) (n : Nat) : BY w S a (l.take n) :=
  ⟨h.1.take n, fun h0 => by
    obtain ⟨g, o, ha, hs, hc⟩ := h.2 (by simp at h0; omega)
    refine ⟨g, o, ha, hs, fun j x hx => ?_⟩
    rw [List.getElem?_take] at hx
    split at hx
    · exact hc j x hx
    · cases hx⟩
theorem some_addr {w : World} {S : Nat → Prop} {a : Option Addr} {l : List Nat} (h : BY w S a l) (h0 : 0 < l.length) : ∃ g o, a = some ⟨g, o, none⟩ := by
  obtain ⟨g, o, e, -⟩ := h.2 h0
  exact ⟨g, o, e⟩

set_option maxRecDepth 100000 in
set_option maxHeartbeats 8000000 in
theorem rappend_any (w : World) (S S' : Nat → Prop) (a b : Option Addr) (l r : List Nat) (n c m d : Nat) (hn : l.length = n) (hnc : n ≤ c) (hm : c ≤ 9223372036854775807) (hsm : n ≤ 1099511627776) (h : BY w S a l) (hS : ∀ b, S b → b < w.heap.size)
    (hr : r.length = m) (hm2 : m ≤ 1099511627776) (h' : BY w S' b r) (hS' : ∀ b, S' b → b < w.heap.size) :
    Calls Try.prog 17 #[.slice a n c, .slice b m d] w (AppQ w l r) := by
  obtain ⟨i0, hi0, hz0, hz1, hz2⟩ := info_parts info8
  have ho := ropen_any w S a l n c hn hnc hm hsm h hS
  have HO := Lib.hid ho
  have HH := Lib.hid h
  have HS := Lib.hid hS
  have HN := Lib.hid hn
  have HH' := Lib.hid h'
  have HS' := Lib.hid hS'
  have HR := Lib.hid hr
  clear ho h hS hn h' hS' hr
  go_enter Try.func17, Try.ntmps17
  go_wp2_with fail
  refine HO.out.mono ?_
  rintro e w1 (⟨hd, rfl, hb1⟩ | ⟨rs, at', v, ht, -, rfl, hb1⟩)
  · have HD := Lib.hid hd
    have HB1 := Lib.hid hb1
    clear hd hb1
    go_wp2_with fail
    go_ret2
    exact .inl ⟨HD.out, rfl, HB1.out⟩
  · have HT := Lib.hid ht
    have HB1 := Lib.hid hb1
    have hle := ht.le
    have hln := HN.out
    rw [hln] at hle
    obtain ⟨hle1, hle2⟩ := hle
    clear hb1 ht hln
    by_cases hbig : 65535 < m
    · go_wp2_with fail
      go_ret2
      exact .inr (.inl ⟨HT.out.1, by rw [HR.out]; exact hbig, rfl, HB1.out⟩)
    · have hsl : m ≤ 65535 := by omega
      have hby1 : BY w1 S a (l.take at') := (HH.out.under HB1.out HS.out).front at'
      have hbr1 : BY w1 S' b r := HH'.out.under HB1.out HS'.out
      have hlt : (l.take at').length = at' := by rw [List.length_take, HN.out]; omega
      have hat5 : 5 ≤ at' := by have := HT.out.2.2.1; omega
      have hsm1 : 0 < at' → a.isSome = true := fun _ => HH.out.some (by rw [HN.out]; omega)
      have hvl : (VB (l.take at')).length = at' * 1 := by rw [VB_len, hlt, Nat.mul_one]
      have hone := VB_one (l.take at')
      have hac : at' ≤ c := by omega
      have HBY := Lib.hid hby1
      have HBR := Lib.hid hbr1
      have HLT := Lib.hid hlt
      have HSOME := Lib.hid hsm1
      have HVL := Lib.hid hvl
      have HONE := Lib.hid hone
      have hs1 := HB1.out.size
      clear hby1 hbr1 hlt hsm1 hvl hone
      go_wp2_with (at_builtin; refine wpList_append_any _ rfl _ _ 22 rfl w.heap.size 5 i0 _ 1 1 Try.underlying22 hi0 hz0 hz1 hz2 rfl (by omega) _ 0 [] rfl ⟨rfl, .inl ⟨rfl, rfl⟩⟩ a at' c (VB (l.take at')) rfl HSOME.out HVL.out HBY.out.news HONE.out ?a4 ?a5 hs1 ?_)
      case a4 => unfold maxLen; omega
      case a5 => omega
      intro v2 w2 hown2 hgr2
      obtain ⟨a2, c2, rfl⟩ := own_slice hown2
      have hb2 : Below w.heap.size w w2 := HB1.out.grown hgr2 (by omega) (fun k hk => by cases hk)
      have hb12 : Below w1.heap.size w1 w2 := (Below.refl _ _).grown hgr2 (Nat.le_refl _) (fun k hk => by cases hk)
      have hlt' : ∀ b, S' b → b < w1.heap.size := fun b hb => Nat.lt_of_lt_of_le (HS'.out b hb) hs1
      have hbr2 : BY w2 S' b r := HBR.out.under hb12 hlt'
      have hfr := frame_ref w2 S' b r m d HR.out hsl hbr2 (fun b hb => Nat.lt_of_lt_of_le (hlt' b hb) hb12.size)
      have HFR := Lib.hid hfr
      have HB2 := Lib.hid hb2
      have HO2 := Lib.hid hown2
      have hs2 := hb2.size
      clear hown2 hgr2 hb2 hb12 hlt' hbr2 hfr
      go_wp2_with fail
      refine HFR.out.mono ?_
      rintro e w3 ⟨a3, c3, rfl, hown3, hb3⟩
      have hrb : Bytes r := HH'.out.1
      obtain ⟨y1, y2, y3, y4⟩ := BY.own hown3 (frameL_bytes hrb)
      have hown23 := own_below HO2.out hb3
      have hb4 := HB2.out.trans (hb3.mono hs2)
      have hs3 := hb3.size
      have Y1 := Lib.hid y1
      have HB4 := Lib.hid hb4
      have HO3 := Lib.hid hown23
      have hvf : (VB (frameL r)).length = (m + 8) * 1 := by rw [VB_len, frameL_len, HR.out]; omega
      have HVF := Lib.hid hvf
      have hsf : 0 < m + 8 → a3.isSome = true := fun _ => Y1.out.some (by rw [frameL_len]; omega)
      have HSF := Lib.hid hsf
      clear y1 y2 hown3 hb3 hown23 hb4 hvf hsf hrb
      go_wp2_with (at_builtin; refine wpList_append_any _ rfl _ _ 22 rfl w.heap.size 5 i0 _ 1 1 Try.underlying22 hi0 hz0 hz1 hz2 rfl (by omega) _ at' (VB (l.take at')) rfl HO3.out a3 (m + 8) c3 (VB (frameL r)) rfl HSF.out HVF.out Y1.out.news (VB_one _) ?b4 ?b5 ?b6 ?_)
      case b4 => unfold maxLen; omega
      case b5 => omega
      case b6 => omega
      intro v5 w5 hown5 hgr5
      obtain ⟨a5, c5, rfl⟩ := own_slice hown5
      have hb5 : Below w.heap.size w w5 := HB4.out.grown hgr5 (by omega) (fun k hk => (own_row HO3.out k hk).1)
      rw [← VB_app, show at' + (m + 8) = at' + m + 8 by omega] at hown5
      have HB5 := Lib.hid hb5
      have HO5 := Lib.hid hown5
      clear hown5 hgr5 hb5
      go_wp2_with fail
      go_ret2
      have e : r.length = m := HR.out
      exact .inr (.inr ⟨by omega, rs, at', a5, c5, HT.out, by rw [e]; first | rfl | simp [Nat.add_assoc], by rw [e]; exact HO5.out, HB5.out⟩)
end Go.Proofs.Ytknjloffkiidhaa
