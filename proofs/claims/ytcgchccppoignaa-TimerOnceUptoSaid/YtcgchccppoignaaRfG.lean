/- Timer: asked of both; Cancel of both. -/
import Derived.Test.YtcgchccppoignaaRfF
import Derived.Deep.QuietTactic
import Derived.BigQuiet
namespace Go.Proofs.Ytcgchccppoignaa
open Go.RowKit
attribute [local go_sem ↓] Go.wp_at_zero Go.wp_at_succ
attribute [local go_sem] Go.undef

section
variable {w : World} {B b m lb T sq : Nat} {L : List Tm} {ρ : Nat → List Tm} {v : Value}
theorem rm_erase {L : List Tm} {x : Tm} {k : Nat} (hx : L[k]? = some x) (hn : L.Nodup) (hi : ∀ y, y ∈ L → y.g = x.g → y = x) : rmT L x = L.eraseIdx k := by
  obtain ⟨hk, rfl⟩ := List.getElem?_eq_some_iff.1 hx
  have e : L = L.take k ++ L[k] :: L.drop (k + 1) := by rw [List.getElem_cons_drop, List.take_append_drop]
  have := rm_split (l1 := L.take k) (l2 := L.drop (k + 1)) (x := L[k]) (by rw [← e]; exact hn) (by rw [← e]; exact hi)
  rw [← e] at this
  rw [this, List.eraseIdx_eq_take_drop_succ]
theorem Wh.ring_lt (h : Wh w B b m T sq L ρ) {x : Tm} (hx : x ∈ L) : ring T x.at_ < 448 := by
  have h1 := h.nm
  have h2 := (h.inv.ge x hx).2
  unfold MT at h1 h2
  exact Proofs.Ytcgchccppoignaa.ring_lt (by omega) (by omega)
theorem cancel_wh (h : Wh w B b m T sq L ρ) (q : Int) (hq : (Lit.int .i64 q).wf = true) :
    Calls Try.prog 19 #[pt b 0, .int .i64 q] w fun e w' => (L.any (fun x => x.id == q) = false ∧ e = .returned (.bool false) ∧ w = w') ∨
      ∃ (x : Tm) (ρ' : Nat → List Tm), x ∈ L ∧ x.id = q ∧ e = .returned (.bool true) ∧ Wh w' B b m T sq (rmT L x) ρ' ∧ WT (Own b m L) w w' := by
  refine (cancel_any h.whl h.dst (fun x hx => ⟨ring T x.at_, ?_, ?_⟩) q hq).mono ?_
  · exact h.ring_lt hx
  · exact (h.inv.ring _ (h.ring_lt hx) x).2 ⟨hx, rfl⟩
  rintro e w' (h1 | ⟨x, k, hx, hid, hk, hr, rfl, hw, ht⟩)
  · exact .inl h1
  · exact .inr ⟨x, _, hx, hid, rfl, ⟨hw, h.inv.leave h.whl.rg.ok hk hr, fun y hy => h.gt y (mem_rm.1 hy).1, h.srt.rm x, h.dst.rm x, fun y hy => h.sq y (mem_rm.1 hy).1, h.nm⟩, ht⟩
set_option maxRecDepth 100000 in
set_option maxHeartbeats 8000000 in
theorem asked_any (h : JS w B b m lb T sq L ρ v) (hL : L.length ≤ 8796093022208) :
    Calls Try.prog 17 #[pt b 0, pt lb 0] w fun e w' => e = .returned (.bool true) ∧ ∃ n, w' = w.drewN n := by
  have HX := Lib.hid (next_any h.wh.whl h.wh.inv h.wh.nm)
  have HLX := Lib.hid (lnext_any h.ls hL)
  have HJ := Lib.hid h
  obtain ⟨a, c, rfl, -, -⟩ := h.ls.form
  clear h
  go_enter Try.func17, Try.ntmps17
  go_wp2_with fail
  refine HX.out.mono ?_
  rintro e w1 ⟨hE, rfl⟩
  have HE := Lib.hid hE
  rcases hE with ⟨hn, rfl⟩ | ⟨t, ht, rfl⟩
  · go_wp2_with fail
    refine HLX.out.mono ?_
    rintro e w2 ⟨hE2, n1, hw2⟩
    have hj2 : JS w2 B b m lb T sq L ρ (.slice a L.length c) := hw2 ▸ HJ.out.drewN n1
    rcases hE2 with ⟨-, rfl⟩ | ⟨t', ht', rfl⟩
    · have HNW : Hid (∀ n, Calls Try.prog 8 #[pt b 0] (w2.drewN n) fun e w' => e = .returned (.int .i64 T) ∧ w' = w2.drewN n) := fun n => (now_any (hj2.wh.whl.drewN n)).mono fun e w' ⟨h1, h2⟩ => ⟨h1, h2.symm⟩
      have HLN : Hid (∀ n, Calls Try.prog 12 #[pt b 0] (w2.drewN n) fun e w' => e = .returned (.int .i64 L.length) ∧ w' = w2.drewN n) := fun n => (len_any (hj2.wh.whl.drewN n)).mono fun e w' ⟨h1, h2⟩ => ⟨h1, h2.symm⟩
      have c1 := hj2.ls.t
      have c2 := hj2.ls.l
      have HW2 := Lib.hid hw2
      clear hj2 hw2 hn HE
      go_wp2_with fail
      go_quiet (first | (go_at_call 8; exact Calls.quiet_of_same (HNW.out _)) | (go_at_call 12; exact Calls.quiet_of_same (HLN.out _)))
      go_wp2_with fail
      go_ret
      exact ⟨rfl, _, by rw [HW2.out, World.drewN_drewN]⟩
    · obtain ⟨⟨x, hx, -⟩, -⟩ := ht'
      rw [hn] at hx
      cases hx
  · go_wp2_with fail
    refine HLX.out.mono ?_
    rintro e w2 ⟨hE2, n1, hw2⟩
    have hj2 : JS w2 B b m lb T sq L ρ (.slice a L.length c) := hw2 ▸ HJ.out.drewN n1
    rcases hE2 with ⟨hn, -⟩ | ⟨t', ht', rfl⟩
    · obtain ⟨⟨x, hx, -⟩, -⟩ := ht
      rw [hn] at hx
      cases hx
    · have e := ht.uniq ht'
      subst e
      have HNW : Hid (∀ n, Calls Try.prog 8 #[pt b 0] (w2.drewN n) fun e w' => e = .returned (.int .i64 T) ∧ w' = w2.drewN n) := fun n => (now_any (hj2.wh.whl.drewN n)).mono fun e w' ⟨h1, h2⟩ => ⟨h1, h2.symm⟩
      have HLN : Hid (∀ n, Calls Try.prog 12 #[pt b 0] (w2.drewN n) fun e w' => e = .returned (.int .i64 L.length) ∧ w' = w2.drewN n) := fun n => (len_any (hj2.wh.whl.drewN n)).mono fun e w' ⟨h1, h2⟩ => ⟨h1, h2.symm⟩
      have c1 := hj2.ls.t
      have c2 := hj2.ls.l
      have HW2 := Lib.hid hw2
      clear hj2 hw2 HE ht ht'
      go_wp2_with fail
      go_quiet (first | (go_at_call 8; exact Calls.quiet_of_same (HNW.out _)) | (go_at_call 12; exact Calls.quiet_of_same (HLN.out _)))
      go_wp2_with fail
      go_ret
      exact ⟨rfl, _, by rw [HW2.out, World.drewN_drewN]⟩
end
end Go.Proofs.Ytcgchccppoignaa
