/- Timer: the wheel's Add. -/
import Derived.Test.YtcgchccppoignaaTmG
import Derived.Test.YtcgchccppoignaaTmV
namespace Go.Proofs.Ytcgchccppoignaa
open Go.RowKit
attribute [local go_sem ↓] Go.wp_at_zero Go.wp_at_succ
attribute [local go_sem] Go.undef

def MT : Nat := 1099511627776
section
variable {w : World} {B b m now sq : Nat} {L : List Tm} {ρ : Nat → List Tm} {x : Tm} {k : Nat}
theorem set_size (w : World) (p : Addr) (v : Value) : (w.setCell p v).heap.size = w.heap.size := by simp
/-- The number is written. -/
theorem Whl.setSq (h : Whl w B b m now sq L ρ) (n : Nat) : Whl (w.setCell ⟨b, 2, none⟩ (.int .i64 n)) B b m now n L ρ := by
  have cb : ∀ o, o ≠ 2 → (w.setCell ⟨b, 2, none⟩ (.int .i64 n)).cell? ⟨b, o, none⟩ = w.cell? ⟨b, o, none⟩ := fun o ho => World.cell?_setCell_other _ _ _ _ fun e => ho (congrArg Addr.off e).symm
  have fb : ∀ a, (w.setCell ⟨b, 2, none⟩ (.int .i64 n)).frozen? a = w.frozen? a := fun a => World.frozen?_setCell _ _ _ _
  have eb : ∀ g, g ≠ b → (w.setCell ⟨b, 2, none⟩ (.int .i64 n)).heap[g]? = w.heap[g]? := fun g hg => RowKit.Below.heap_setCell _ _ _ _ hg
  have cx : ∀ g, g ≠ b → ∀ o, (w.setCell ⟨b, 2, none⟩ (.int .i64 n)).cell? ⟨g, o, none⟩ = w.cell? ⟨g, o, none⟩ := fun g hg o => World.cell?_of_block (a := ⟨g, o, none⟩) (eb g hg)
  refine ⟨(cb 0 (by omega)).trans h.made, (cb 1 (by omega)).trans h.now, (fb _).trans h.fnow, World.cell?_setCell_same _ _ _ h.sq, (fb _).trans h.fsq, (cb _ (by omega)).trans h.by_, ⟨h.rg.ok, h.rg.pb.set _ _, fun y hy => ?_, ?_⟩, h.mp.far (eb m (Ne.symm h.bm)), h.bm, h.xm, h.lo⟩
  · have := h.rg.dat y hy
    have hyb := h.rg.ok.xb y hy
    exact ⟨(cx _ hyb 2).trans this.t, (cx _ hyb 3).trans this.s, (cx _ hyb 4).trans this.i, this.p.set _ _⟩
  · obtain ⟨nx, pv, h1, h2⟩ := h.rg.lk
    refine ⟨nx, pv, h1.lw fun a ha => ?_, h2⟩
    rcases ha with ⟨k, hk, rfl⟩ | ⟨y, hy, rfl⟩
    · exact ⟨cb _ (by show 3 + 5 * k ≠ 2; omega), cb _ (by show 3 + 5 * k + 1 ≠ 2; omega), fb _, fb _⟩
    · exact ⟨cx _ (h.rg.ok.xb y hy) _, cx _ (h.rg.ok.xb y hy) _, fb _, fb _⟩
theorem ok_more (h : Ok b L ρ) (hb : x.g ≠ b) (hx : ∀ y, y ∈ L → y.g ≠ x.g) : Ok b (L ++ [x]) ρ where
  xb := fun y hy => by
    rcases List.mem_append.1 hy with hy | hy
    · exact h.xb y hy
    · simp at hy; subst hy; exact hb
  inj := fun y z hy hz e => by
    rcases List.mem_append.1 hy with h1 | h1 <;> rcases List.mem_append.1 hz with h2 | h2
    · exact h.inj y z h1 h2 e
    · exact absurd (by rw [e, List.mem_singleton.1 h2]) (hx y h1)
    · exact absurd (by rw [← e, List.mem_singleton.1 h1]) (hx z h2)
    · rw [List.mem_singleton.1 h1, List.mem_singleton.1 h2]
  mem := fun k hk y hy => by simp [h.mem k hk y hy]
  nd := h.nd
  one := h.one
/-- A new timer is tied into a ring; then it goes into the map. -/
theorem whl_add (h : Whl w B b m now sq L ρ) (hB : B ≤ x.g) (ho : ¬ Own b m L x.g) {p n : Value} (hn : Nd w x.g 0 p n) (hdt : Dat w x) (hk : k < 448) (hq : (Lit.int .i64 x.id).wf = true) (hany : L.any (fun y => y.id == x.id) = false) (hl : L.length < maxLen) :
    Calls Try.prog 30 #[pt x.g 0, pa (hd b k)] w fun e w1 => e = .returned (.tuple #[]) ∧ w1.cell? ⟨b, 2243, none⟩ = some (.map (some m)) ∧
      ∃ w2, (Instr.mapUpdate 54 (.map (some m)) (.int .i64 x.id) (pt x.g 0)).run Try.prog w1 = .ok () w2 ∧ Whl w2 B b m now sq (L ++ [x]) (putR ρ k x) ∧ WT (Own b m (L ++ [x])) w w2 := by
  have hxb : x.g ≠ b := fun e => ho (.inl e)
  have hxm : x.g ≠ m := fun e => ho (.inr (.inl e))
  have hxL : ∀ y, y ∈ L → y.g ≠ x.g := fun y hy e => ho (.inr (.inr ⟨y, hy, e.symm⟩))
  have hok := ok_more h.rg.ok hxb hxL
  have hxx : x ∈ L ++ [x] := by simp
  have hX : RgX w b (L ++ [x]) ρ x := by
    obtain ⟨nx, pv, h1, h2⟩ := h.rg.lk
    refine ⟨hok, h.rg.pb, hxx, fun k hk hm => hxL x (h.rg.ok.mem k hk x hm) rfl, fun y hy => ?_, ⟨p, n, hn⟩, nx, pv, fun a ha => h1 a ?_, h2⟩
    · rcases List.mem_append.1 hy with hy | hy
      · exact h.rg.dat y hy
      · simp at hy; subst hy; exact hdt
    · rcases ha with ⟨ha | ⟨y, hy, rfl⟩, hne⟩
      · exact .inl ha
      · rcases List.mem_append.1 hy with hy | hy
        · exact .inr ⟨y, hy, rfl⟩
        · simp at hy; subst hy; exact absurd rfl hne
  refine (behind_rg hX hk).mono ?_
  rintro e w1 ⟨rfl, hr, hl2⟩
  have hm1 : MapAt w1 m L := h.mp.far (hl2.block m fun a ha => by
    rcases ha with ⟨k, hk, rfl⟩ | ⟨y, hy, rfl⟩
    · exact h.bm
    · rcases List.mem_append.1 hy with hy | hy
      · exact h.xm y hy
      · simp at hy; subst hy; exact hxm)
  have c3 := (hdr_lw (o := 2243) (by omega) hok hl2).trans h.by_
  obtain ⟨w2, r1, r2, r3⟩ := hm1.put hq hany hl
  have cb : ∀ o, w2.cell? ⟨b, o, none⟩ = w1.cell? ⟨b, o, none⟩ := fun o => World.cell?_of_block (a := ⟨b, o, none⟩) (turned_far r3 h.bm)
  have fb : ∀ o, w2.frozen? ⟨b, o, none⟩ = w1.frozen? ⟨b, o, none⟩ := fun o => World.frozen?_of_block (a := ⟨b, o, none⟩) (turned_far r3 h.bm)
  have hxm2 : ∀ y, y ∈ L ++ [x] → y.g ≠ m := fun y hy => by
    rcases List.mem_append.1 hy with hy | hy
    · exact h.xm y hy
    · simp at hy; subst hy; exact hxm
  have cx : ∀ y, y ∈ L ++ [x] → ∀ o, w2.cell? ⟨y.g, o, none⟩ = w1.cell? ⟨y.g, o, none⟩ := fun y hy o => World.cell?_of_block (a := ⟨y.g, o, none⟩) (turned_far r3 (hxm2 y hy))
  have fx : ∀ y, y ∈ L ++ [x] → ∀ o, w2.frozen? ⟨y.g, o, none⟩ = w1.frozen? ⟨y.g, o, none⟩ := fun y hy o => World.frozen?_of_block (a := ⟨y.g, o, none⟩) (turned_far r3 (hxm2 y hy))
  refine ⟨rfl, c3, w2, r1, ?_, (WT.of_lw hl2 (W := Own b m (L ++ [x])) fun a ha => nodes_own ha).trans (WT.of_turn r3 (W := Own b m (L ++ [x])) (.inr (.inl rfl))) fun g hg => .inl hg⟩
  refine ⟨(cb 0).trans ((hdr_lw (by omega) hok hl2).trans h.made), (cb 1).trans ((hdr_lw (by omega) hok hl2).trans h.now), (fb 1).trans ((hl2.frz _).trans h.fnow), (cb 2).trans ((hdr_lw (by omega) hok hl2).trans h.sq), (fb 2).trans ((hl2.frz _).trans h.fsq),
    (cb _).trans c3, ⟨hok.put hxx hX.out, hr.pb.far (turned_far r3 h.bm), fun y hy => ?_, ?_⟩, r2, h.bm, hxm2, h.lo.1, h.lo.2.1, fun y hy => ?_⟩
  · have := hr.dat y hy
    exact ⟨(cx y hy 2).trans this.t, (cx y hy 3).trans this.s, (cx y hy 4).trans this.i, this.p.far (turned_far r3 (hxm2 y hy))⟩
  · obtain ⟨nx, pv, h1, h2⟩ := hr.lk
    refine ⟨nx, pv, h1.lw fun a ha => ?_, h2⟩
    rcases ha with ⟨k, hk, rfl⟩ | ⟨y, hy, rfl⟩
    · exact ⟨cb _, cb _, fb _, fb _⟩
    · exact ⟨cx y hy _, cx y hy _, fx y hy _, fx y hy _⟩
  · rcases List.mem_append.1 hy with hy | hy
    · exact h.lo.2.2 y hy
    · simp at hy; subst hy; exact hB
/-- At which tick a timer fires that is added. -/
def atF (now : Nat) (a : Int) : Int := if a ≤ now then (now : Int) + 1 else a
def addB (now : Nat) (L : List Tm) (a q : Int) : Bool := !(L.any (fun x => x.id == q)) && decide (atF now a ≤ MT)
def AddPost (w : World) (B b m now sq : Nat) (L : List Tm) (ρ : Nat → List Tm) (a q : Int) (e : Ending) (w' : World) : Prop :=
  (addB now L a q = false ∧ e = .returned (.bool false) ∧ w = w') ∨
  (addB now L a q = true ∧ e = .returned (.bool true) ∧ ∃ x : Tm, x.g = w.heap.size ∧ (x.at_ : Int) = atF now a ∧ x.seq = sq + 1 ∧ x.id = q ∧ Whl w' B b m now (sq + 1) (L ++ [x]) (putR ρ (ring now x.at_) x) ∧ WT (Own b m L) w w')
theorem add_world (h : Whl w B b m now sq L ρ) (t : Nat) (a q : Int) (ht : (t : Int) = a) :
    ∃ W2, W2 = (w.setCell ⟨b, 2, none⟩ (.int .i64 ((sq : Int) + 1))).alloc (.cells #[.pointer none, .pointer none, .int .i64 a, .int .i64 ((sq : Int) + 1), .int .i64 q] 51) ∧ Whl W2 B b m now (sq + 1) L ρ ∧ ¬ Own b m L w.heap.size ∧ Nd W2 w.heap.size 0 (.pointer none) (.pointer none) ∧
      Dat W2 ⟨w.heap.size, t, sq + 1, q⟩ ∧ WT (Own b m L) w W2 := by
  refine ⟨_, rfl, ?_, fun ho => ?_, ?_, ?_, ?_⟩
  · exact (h.setSq (sq + 1)).far fun g hg => Below.heap_alloc _ _ _ (by rw [set_size]; exact (h.own_lt hg).2)
  · have := (h.own_lt ho).2
    omega
  · have hz : w.heap.size = (w.setCell ⟨b, 2, none⟩ (.int .i64 ((sq : Int) + 1))).heap.size := (set_size _ _ _).symm
    have hb := Blk.new' (w.setCell ⟨b, 2, none⟩ (.int .i64 ((sq : Int) + 1))) 51 #[.pointer none, .pointer none, .int .i64 a, .int .i64 ((sq : Int) + 1), .int .i64 q] hz
    exact ⟨hb.cell 0, hb.cell 1, hb.free 0, hb.free 1⟩
  · have hz : w.heap.size = (w.setCell ⟨b, 2, none⟩ (.int .i64 ((sq : Int) + 1))).heap.size := (set_size _ _ _).symm
    have hb := Blk.new' (w.setCell ⟨b, 2, none⟩ (.int .i64 ((sq : Int) + 1))) 51 #[.pointer none, .pointer none, .int .i64 a, .int .i64 ((sq : Int) + 1), .int .i64 q] hz
    exact ⟨by rw [hb.cell 2, ← ht]; rfl, hb.cell 3, hb.cell 4, _, _, hb⟩
  · exact (WT.set w (W := Own b m L) (.inl rfl) _).trans (WT.of_below (W := Own b m L) ((Below.refl _ _).alloc (Nat.le_refl _) _)) fun g hg => .inl hg
theorem ring_at (h : Whl w B b m now sq L ρ) {t : Nat} {a : Int} (ht : (t : Int) = a) (h1 : now < 2 ^ 42) (h2 : t < 2 ^ 42) :
    Calls Try.prog 31 #[pt b 0, .int .i64 a] w fun e w' => e = .returned (pa (hd b (ring now t))) ∧ ∃ n, w' = w.drewN n := by
  rw [← ht]; exact ring_any b now t w h1 h2 h.now
set_option maxRecDepth 100000 in
set_option maxHeartbeats 8000000 in
theorem add_any (h : Whl w B b m now sq L ρ) (hnow : now ≤ MT) (hsq : sq < 9223372036854775800) (hl : L.length < maxLen) (hB : B ≤ w.heap.size) (a q : Int) (_ha : (Lit.int .i64 a).wf = true) (hq : (Lit.int .i64 q).wf = true) :
    Calls Try.prog 20 #[pt b 0, .int .i64 a, .int .i64 q] w (AddPost w B b m now sq L ρ a q) := by
  have HN := Lib.hid (no_any b w h.made)
  obtain ⟨pvl, hlk⟩ : ∃ v, (Instr.lookup 54 (.map (some m)) (.int .i64 q) true).run Try.prog w = .ok (.tuple #[v, .bool (L.any (fun x => x.id == q))]) w := ⟨_, h.mp.look_ok hq⟩
  have c1 := h.now
  have c2 := h.by_
  have c3 := h.sq
  have f3 := h.fsq
  have H := Lib.hid h
  have HL := Lib.hid hl
  have HQ := Lib.hid hq
  unfold MT at hnow
  clear h hl hq
  go_enter Try.func20, Try.ntmps20
  by_cases hle : a ≤ now
  · have hat : atF now a = (now : Int) + 1 := if_pos hle
    have HAT := Lib.hid hat
    clear hat
    cases hany : L.any (fun x => x.id == q) with
    | true =>
      have HNO : Hid (addB now L a q = false) := by show addB now L a q = false; simp [addB, hany]
      rw [hany] at hlk
      clear hany
      go_wp2_with fail
      refine HN.out.mono ?_
      rintro e w1 ⟨rfl, rfl⟩
      go_wp2_with fail
      go_ret
      exact .inl ⟨HNO.out, rfl, rfl⟩
    | false =>
      rw [hany] at hlk
      by_cases hmt : (now : Int) + 1 ≤ 1099511627776
      · have HYES : Hid (addB now L a q = true) := by show addB now L a q = true; simp only [addB, hany, HAT.out, MT]; simpa using hmt
        have HANY := Lib.hid hany
        obtain ⟨t, ht⟩ : ∃ t : Nat, (t : Int) = (now : Int) + 1 := ⟨((now : Int) + 1).toNat, by omega⟩
        have HT := Lib.hid ht
        have hmd : decide ((1099511627776 : Int) < (now : Int) + 1) = false := decide_eq_false (by omega)
        have HMT := Lib.hid hmt
        clear hany ht hmt
        go_wp2_with fail
        refine HN.out.mono ?_
        rintro e w1 ⟨rfl, rfl⟩
        go_upto_region 10 with fail
        obtain ⟨W2, hW2, hw2, ho2, hn2, hd2, ht2⟩ := add_world H.out t ((now : Int) + 1) q HT.out
        rw [← hW2]
        clear hW2
        have HR := Lib.hid (ring_at hw2 HT.out (by omega) (by have := HT.out; have := HMT.out; omega))
        have HK := Lib.hid (ring_lt (now := now) (a := t) (by omega) (by have := HT.out; have := HMT.out; omega))
        have HD := Lib.hid (And.intro ho2 (And.intro hn2 hd2))
        have HW2 := Lib.hid hw2
        have HT2 := Lib.hid ht2
        clear hw2 ho2 hn2 hd2 ht2 c1 c2 c3 f3 hlk
        go_wp2_with fail
        refine HR.out.mono ?_
        rintro e w3 ⟨rfl, n3, rfl⟩
        go_wp2_with fail
        refine (whl_add (x := ⟨w.heap.size, t, sq + 1, q⟩) (HW2.out.drewN n3) hB HD.out.1 ⟨HD.out.2.1.p, HD.out.2.1.n, HD.out.2.1.fp, HD.out.2.1.fn⟩ ⟨HD.out.2.2.t, HD.out.2.2.s, HD.out.2.2.i, HD.out.2.2.p⟩ HK.out HQ.out HANY.out HL.out).mono ?_
        rintro e w4 ⟨rfl, c4, w5, hup, hw5, ht5⟩
        have HW5 := Lib.hid hw5
        have HT5 := Lib.hid ht5
        clear hw5 ht5
        go_wp2_with fail
        go_ret
        refine .inr ⟨HYES.out, rfl, ⟨w.heap.size, t, sq + 1, q⟩, rfl, by rw [HAT.out]; exact HT.out, rfl, rfl, HW5.out, (HT2.out.trans (WT.drewN W2 n3 (W := Own b m L)) fun g hg => .inl hg).trans HT5.out fun g hg => ?_⟩
        rcases hg with rfl | rfl | ⟨y, hy, rfl⟩
        · exact .inl (.inl rfl)
        · exact .inl (.inr (.inl rfl))
        · rcases List.mem_append.1 hy with hy | hy
          · exact .inl (.inr (.inr ⟨y, hy, rfl⟩))
          · rw [List.mem_singleton.1 hy]
            exact .inr (Nat.le_refl _)
      · have HNO : Hid (addB now L a q = false) := by show addB now L a q = false; simp only [addB, hany, HAT.out, MT]; simpa using hmt
        have hmd : decide ((1099511627776 : Int) < (now : Int) + 1) = true := decide_eq_true (by omega)
        clear hany hmt
        go_wp2_with fail
        refine HN.out.mono ?_
        rintro e w1 ⟨rfl, rfl⟩
        go_wp2_with fail
        go_ret
        exact .inl ⟨HNO.out, rfl, rfl⟩
  · have hat : atF now a = a := if_neg hle
    have HAT := Lib.hid hat
    clear hat
    cases hany : L.any (fun x => x.id == q) with
    | true =>
      have HNO : Hid (addB now L a q = false) := by show addB now L a q = false; simp [addB, hany]
      rw [hany] at hlk
      clear hany
      go_wp2_with fail
      refine HN.out.mono ?_
      rintro e w1 ⟨rfl, rfl⟩
      go_wp2_with fail
      go_ret
      exact .inl ⟨HNO.out, rfl, rfl⟩
    | false =>
      rw [hany] at hlk
      by_cases hmt : a ≤ 1099511627776
      · have HYES : Hid (addB now L a q = true) := by show addB now L a q = true; simp only [addB, hany, HAT.out, MT]; simpa using hmt
        have HANY := Lib.hid hany
        obtain ⟨t, ht⟩ : ∃ t : Nat, (t : Int) = a := ⟨(a).toNat, by omega⟩
        have HT := Lib.hid ht
        have hmd : decide ((1099511627776 : Int) < a) = false := decide_eq_false (by omega)
        have HMT := Lib.hid hmt
        clear hany ht hmt
        go_wp2_with fail
        refine HN.out.mono ?_
        rintro e w1 ⟨rfl, rfl⟩
        go_upto_region 10 with fail
        obtain ⟨W2, hW2, hw2, ho2, hn2, hd2, ht2⟩ := add_world H.out t (a) q HT.out
        rw [← hW2]
        clear hW2
        have HR := Lib.hid (ring_at hw2 HT.out (by omega) (by have := HT.out; have := HMT.out; omega))
        have HK := Lib.hid (ring_lt (now := now) (a := t) (by omega) (by have := HT.out; have := HMT.out; omega))
        have HD := Lib.hid (And.intro ho2 (And.intro hn2 hd2))
        have HW2 := Lib.hid hw2
        have HT2 := Lib.hid ht2
        clear hw2 ho2 hn2 hd2 ht2 c1 c2 c3 f3 hlk
        go_wp2_with fail
        refine HR.out.mono ?_
        rintro e w3 ⟨rfl, n3, rfl⟩
        go_wp2_with fail
        refine (whl_add (x := ⟨w.heap.size, t, sq + 1, q⟩) (HW2.out.drewN n3) hB HD.out.1 ⟨HD.out.2.1.p, HD.out.2.1.n, HD.out.2.1.fp, HD.out.2.1.fn⟩ ⟨HD.out.2.2.t, HD.out.2.2.s, HD.out.2.2.i, HD.out.2.2.p⟩ HK.out HQ.out HANY.out HL.out).mono ?_
        rintro e w4 ⟨rfl, c4, w5, hup, hw5, ht5⟩
        have HW5 := Lib.hid hw5
        have HT5 := Lib.hid ht5
        clear hw5 ht5
        go_wp2_with fail
        go_ret
        refine .inr ⟨HYES.out, rfl, ⟨w.heap.size, t, sq + 1, q⟩, rfl, by rw [HAT.out]; exact HT.out, rfl, rfl, HW5.out, (HT2.out.trans (WT.drewN W2 n3 (W := Own b m L)) fun g hg => .inl hg).trans HT5.out fun g hg => ?_⟩
        rcases hg with rfl | rfl | ⟨y, hy, rfl⟩
        · exact .inl (.inl rfl)
        · exact .inl (.inr (.inl rfl))
        · rcases List.mem_append.1 hy with hy | hy
          · exact .inl (.inr (.inr ⟨y, hy, rfl⟩))
          · rw [List.mem_singleton.1 hy]
            exact .inr (Nat.le_refl _)
      · have HNO : Hid (addB now L a q = false) := by show addB now L a q = false; simp only [addB, hany, HAT.out, MT]; simpa using hmt
        have hmd : decide ((1099511627776 : Int) < a) = true := decide_eq_true (by omega)
        clear hany hmt
        go_wp2_with fail
        refine HN.out.mono ?_
        rintro e w1 ⟨rfl, rfl⟩
        go_wp2_with fail
        go_ret
        exact .inl ⟨HNO.out, rfl, rfl⟩
end
end Go.Proofs.Ytcgchccppoignaa
