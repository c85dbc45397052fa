/- Timer: a wheel's small calls: no, Now, Len, Cancel. -/
import Derived.Test.YtcgchccppoignaaTmF
namespace Go.Proofs.Ytcgchccppoignaa
open Go.RowKit
attribute [local go_sem ↓] Go.wp_at_zero Go.wp_at_succ
attribute [local go_sem] Go.undef

set_option maxHeartbeats 4000000 in
theorem no_any (b : Nat) (w : World) (h : w.cell? ⟨b, 0, none⟩ = some (.bool true)) :
    Calls Try.prog 21 #[pt b 0] w fun e w' => e = .returned (.bool false) ∧ w = w' := by
  go_enter Try.func21, Try.ntmps21
  go_wp2_with fail
  go_ret
  exact ⟨rfl, rfl⟩
set_option maxHeartbeats 4000000 in
theorem no_nil (w : World) :
    Calls Try.prog 21 #[.pointer none] w fun e w' => e = .returned (.bool true) ∧ w = w' := by
  go_enter Try.func21, Try.ntmps21
  go_wp2_with fail
  go_ret
  exact ⟨rfl, rfl⟩
set_option maxHeartbeats 4000000 in
theorem no_plain (b : Nat) (w : World) (h : w.cell? ⟨b, 0, none⟩ = some (.bool false)) :
    Calls Try.prog 21 #[pt b 0] w fun e w' => e = .returned (.bool true) ∧ w = w' := by
  go_enter Try.func21, Try.ntmps21
  go_wp2_with fail
  go_ret
  exact ⟨rfl, rfl⟩
section
variable {w : World} {B b m now sq : Nat} {L : List Tm} {ρ : Nat → List Tm}
set_option maxHeartbeats 4000000 in
theorem now_any (h : Whl w B b m now sq L ρ) :
    Calls Try.prog 8 #[pt b 0] w fun e w' => e = .returned (.int .i64 now) ∧ w = w' := by
  have c1 := h.now
  have HN := Lib.hid (no_any b w h.made)
  clear h
  go_enter Try.func8, Try.ntmps8
  go_wp2_with fail
  refine HN.out.mono ?_
  rintro e w1 ⟨rfl, rfl⟩
  go_wp2_with fail
  go_ret
  exact ⟨rfl, rfl⟩
set_option maxHeartbeats 4000000 in
theorem len_any (h : Whl w B b m now sq L ρ) :
    Calls Try.prog 12 #[pt b 0] w fun e w' => e = .returned (.int .i64 L.length) ∧ w = w' := by
  have c1 := h.by_
  have HN := Lib.hid (no_any b w h.made)
  have HL := fun ty => h.mp.len ty
  clear h
  go_enter Try.func12, Try.ntmps12
  go_wp2_with fail
  refine HN.out.mono ?_
  rintro e w1 ⟨rfl, rfl⟩
  go_wp2_with fail
  go_ret
  exact ⟨rfl, rfl⟩
theorem Rg.rm {x : Tm} (h : Rg w b L ρ) (hx : x ∈ L) (ho : ∀ k, k < 448 → x ∉ ρ k) : Rg w b (rmT L x) ρ where
  ok := {
    xb := fun y hy => h.ok.xb y (mem_rm.1 hy).1
    inj := fun y z hy hz => h.ok.inj y z (mem_rm.1 hy).1 (mem_rm.1 hz).1
    mem := fun k hk y hy => mem_rm.2 ⟨h.ok.mem k hk y hy, fun e => ho k hk (by rw [← h.ok.inj y x (h.ok.mem k hk y hy) hx e]; exact hy)⟩
    nd := h.ok.nd
    one := h.ok.one }
  pb := h.pb
  dat := fun y hy => h.dat y (mem_rm.1 hy).1
  lk := by
    obtain ⟨nx, pv, h1, h2⟩ := h.lk
    refine ⟨nx, pv, fun a ha => h1 a ?_, h2⟩
    rcases ha with ha | ⟨y, hy, e⟩
    · exact .inl ha
    · exact .inr ⟨y, (mem_rm.1 hy).1, e⟩
theorem turned_far {w w' : World} {m : Nat} (h : w.mapTurned w' m) {g : Nat} (hg : g ≠ m) : w'.heap[g]? = w.heap[g]? := by
  obtain ⟨es, clock, es', clock', hb, rfl⟩ := h
  exact ChangeMaps.heap_setBlock_other hb _ hg
/-- The map turns. -/
theorem Whl.turn {w' : World} {L' : List Tm} (h : Whl w B b m now sq L ρ) (hr : Rg w b L' ρ) (ht : w.mapTurned w' m) (hm : MapAt w' m L') (hx : ∀ x, x ∈ L' → x.g ≠ m ∧ B ≤ x.g) : Whl w' B b m now sq L' ρ := by
  have cb : ∀ o, w'.cell? ⟨b, o, none⟩ = w.cell? ⟨b, o, none⟩ := fun o => World.cell?_of_block (a := ⟨b, o, none⟩) (turned_far ht h.bm)
  have fb : ∀ o, w'.frozen? ⟨b, o, none⟩ = w.frozen? ⟨b, o, none⟩ := fun o => World.frozen?_of_block (a := ⟨b, o, none⟩) (turned_far ht h.bm)
  have cx : ∀ x, x ∈ L' → ∀ o, w'.cell? ⟨x.g, o, none⟩ = w.cell? ⟨x.g, o, none⟩ := fun x hx2 o => World.cell?_of_block (a := ⟨x.g, o, none⟩) (turned_far ht (hx x hx2).1)
  have fx : ∀ x, x ∈ L' → ∀ o, w'.frozen? ⟨x.g, o, none⟩ = w.frozen? ⟨x.g, o, none⟩ := fun x hx2 o => World.frozen?_of_block (a := ⟨x.g, o, none⟩) (turned_far ht (hx x hx2).1)
  refine ⟨(cb 0).trans h.made, (cb 1).trans h.now, (fb 1).trans h.fnow, (cb 2).trans h.sq, (fb 2).trans h.fsq, (cb _).trans h.by_, ⟨hr.ok, hr.pb.far (turned_far ht h.bm), fun x hx => ?_, ?_⟩, hm, h.bm, fun x hx2 => (hx x hx2).1, h.lo.1, h.lo.2.1, fun x hx2 => (hx x hx2).2⟩
  · have := hr.dat x hx
    exact ⟨(cx x hx 2).trans this.t, (cx x hx 3).trans this.s, (cx x hx 4).trans this.i, this.p.far (turned_far ht (‹∀ x, x ∈ L' → x.g ≠ m ∧ B ≤ x.g› x hx).1)⟩
  · obtain ⟨nx, pv, h1, h2⟩ := hr.lk
    refine ⟨nx, pv, h1.lw fun a ha => ?_, h2⟩
    rcases ha with ⟨k, hk, rfl⟩ | ⟨x, hx, rfl⟩
    · exact ⟨cb _, cb _, fb _, fb _⟩
    · exact ⟨cx x hx _, cx x hx _, fx x hx _, fx x hx _⟩
theorem WT.of_turn {W : Nat → Prop} {w' : World} (h : w.mapTurned w' m) (hm : W m) : WT W w w' := WT.of_grown h.grown fun g hg => by injection hg with e; rw [← e]; exact hm
/-- What distinguishes timers. -/
structure Dst (L : List Tm) : Prop where
  nd : L.Nodup
  id : ∀ x y, x ∈ L → y ∈ L → x.id = y.id → x = y
  wf : ∀ x, x ∈ L → (Lit.int .i64 x.id).wf = true
theorem find_id {x : Tm} (hd : Dst L) (hx : x ∈ L) : L.find? (fun y => y.id == x.id) = some x := by
  cases h : L.find? (fun y => y.id == x.id) with
  | none =>
    have := List.find?_eq_none.1 h x hx
    simp at this
  | some y =>
    have h1 := List.find?_some h
    rw [hd.id y x (List.mem_of_find?_eq_some h) hx (by simpa using h1)]
/-- Out of its ring, and out of the map. -/
theorem whl_leave {x : Tm} {k : Nat} (h : Whl w B b m now sq L ρ) (hd : Dst L) (hk : k < 448) (hx : x ∈ ρ k) :
    Calls Try.prog 29 #[pt x.g 0] w fun e w1 => e = .returned (.tuple #[]) ∧ Whl w1 B b m now sq L (dropR ρ k x) ∧ WT (Own b m L) w w1 ∧
      ∀ ty, ∃ w2, (Builtin.delete_ #[54, 2] ty #[.map (some m), .int .i64 x.id]).run Try.prog w1 = .ok (.tuple #[]) w2 ∧ Whl w2 B b m now sq (rmT L x) (dropR ρ k x) ∧ WT (Own b m L) w w2 := by
  refine (leave_rg h.rg hk hx).mono ?_
  rintro e w1 ⟨rfl, hr, hl⟩
  have hxl := h.rg.ok.mem k hk x hx
  have h1 := h.lw hr hl
  have t1 : WT (Own b m L) w w1 := WT.of_lw hl fun a ha => nodes_own ha
  refine ⟨rfl, h1, t1, fun ty => ?_⟩
  obtain ⟨w2, r1, r2, r3⟩ := h1.mp.del hxl hd.nd (hd.wf x hxl) (fun y hy e => h.rg.ok.inj y x hy hxl e) (fun y hy e => hd.id y x hy hxl e) ty
  exact ⟨w2, r1, h1.turn (hr.rm hxl (h.rg.ok.out hk hx)) r3 r2 (fun y hy => ⟨h.xm y (mem_rm.1 hy).1, h.lo.2.2 y (mem_rm.1 hy).1⟩), t1.trans (WT.of_turn r3 (W := Own b m L) (.inr (.inl rfl))) fun g hg => .inl hg⟩

def CancelPost (w : World) (B b m now sq : Nat) (L : List Tm) (ρ : Nat → List Tm) (q : Int) (e : Ending) (w' : World) : Prop :=
  (L.any (fun x => x.id == q) = false ∧ e = .returned (.bool false) ∧ w = w') ∨ ∃ x k, x ∈ L ∧ x.id = q ∧ k < 448 ∧ x ∈ ρ k ∧ e = .returned (.bool true) ∧ Whl w' B b m now sq (rmT L x) (dropR ρ k x) ∧ WT (Own b m L) w w'
set_option maxHeartbeats 4000000 in
theorem cancel_any (h : Whl w B b m now sq L ρ) (hd : Dst L) (hin : ∀ x, x ∈ L → ∃ k, k < 448 ∧ x ∈ ρ k) (q : Int) (hq : (Lit.int .i64 q).wf = true) :
    Calls Try.prog 19 #[pt b 0, .int .i64 q] w (CancelPost w B b m now sq L ρ q) := by
  have HN := Lib.hid (no_any b w h.made)
  have hlk := h.mp.look hq
  have c1 := h.by_
  cases hf : L.find? (fun x => x.id == q) with
  | none =>
    have hany : L.any (fun x => x.id == q) = false := by
      rw [List.any_eq_false]
      intro x hx
      exact List.find?_eq_none.1 hf x hx
    rw [hf] at hlk
    have HA := Lib.hid hany
    clear h hf hin hd hany
    go_enter Try.func19, Try.ntmps19
    go_wp2_with fail
    refine HN.out.mono ?_
    rintro e w1 ⟨rfl, rfl⟩
    go_wp2_with fail
    go_ret
    exact .inl ⟨HA.out, rfl, rfl⟩
  | some x =>
    rw [hf] at hlk
    have hx := List.mem_of_find?_eq_some hf
    have he : x.id = q := by have := List.find?_some hf; simpa using this
    subst he
    obtain ⟨k, hk, hxk⟩ := hin x hx
    have HL := Lib.hid (whl_leave h hd hk hxk)
    have HX := Lib.hid (And.intro hx hxk)
    clear h hf hin hd hx hxk
    go_enter Try.func19, Try.ntmps19
    go_wp2_with fail
    refine HN.out.mono ?_
    rintro e w1 ⟨rfl, rfl⟩
    go_wp2_with fail
    refine HL.out.mono ?_
    rintro e w1 ⟨rfl, hw1, ht1, hdel⟩
    have c2 := hw1.by_
    obtain ⟨w2, hdl, hw2, ht2⟩ := hdel 0
    go_wp2_with fail
    go_ret
    exact .inr ⟨x, k, HX.out.1, rfl, hk, HX.out.2, rfl, hw2, ht2⟩
end
end Go.Proofs.Ytcgchccppoignaa
