/- Timer: a ring walked along; Next. -/
import Derived.Test.YtcgchccppoignaaTmH
import Derived.Deep.LoopGhost
import Derived.LaidEql
namespace Go.Proofs.Ytcgchccppoignaa
open Go.RowKit
attribute [local go_sem ↓] Go.wp_at_zero Go.wp_at_succ
attribute [local go_sem] Go.undef

theorem Seg.zero {α : Type} {nx pv : α → α} {a z : α} {l : List α} (h : Seg nx pv a l z) : nx a = (l[0]?).getD z := by
  cases l with
  | nil => exact h.1
  | cons y l => exact h.1
theorem Seg.succ {α : Type} {nx pv : α → α} {z : α} : ∀ {l : List α} {a x : α} {i : Nat}, Seg nx pv a l z → l[i]? = some x → nx x = (l[i + 1]?).getD z
  | [], _, _, _, _, h => by simp at h
  | y :: l, a, x, 0, hs, h => by
    simp at h
    subst h
    simpa using Seg.zero hs.2.2
  | y :: l, a, x, i + 1, hs, h => by
    have := Seg.succ (i := i) (x := x) hs.2.2 (by simpa using h)
    simpa using this
theorem take_snocT {α : Type} {l : List α} {i : Nat} {x : α} (h : l[i]? = some x) : l.take i ++ [x] = l.take (i + 1) := by rw [List.take_add_one, h]; rfl
theorem sizeE : (Try.prog.info? 51).map (·.size) = some 5 := by kernel_rfl
theorem neq_same (w : World) (a : Addr) : (binOp .neq 47 (.pointer (some a)) (.pointer (some a))).run Try.prog w = .ok (.bool false) w := by
  obtain ⟨j, hte, -⟩ := Option.map_eq_some_iff.1 sizeE
  have h : ∀ d : Nat, (Op.equalIn (d + 1) 47 (.pointer (some a)) (.pointer (some a))).run Try.prog w = .ok true w := fun d => by
    simp [Op.equalIn, run_underlying Try.underlying47, sizeOf, typeInfo, hte, run_sameAddr_same]
  simp only [binOp]
  simp [Op.equal, Op.maxDepth, h 9999]
theorem neq_other {w : World} {g g' o o' : Nat} (hg : g ≠ g') (h1 : Pl w g) (h2 : Pl w g') : (binOp .neq 47 (.pointer (some ⟨g, o, none⟩)) (.pointer (some ⟨g', o', none⟩))).run Try.prog w = .ok (.bool true) w := by
  obtain ⟨j, hte, hsz⟩ := Option.map_eq_some_iff.1 sizeE
  obtain ⟨cs1, t1, h1⟩ := h1
  obtain ⟨cs2, t2, h2⟩ := h2
  have hne : (⟨g, o, none⟩ : Addr) ≠ ⟨g', o', none⟩ := fun e => hg (congrArg Addr.block e)
  have h : ∀ d : Nat, (Op.equalIn (d + 1) 47 (.pointer (some ⟨g, o, none⟩)) (.pointer (some ⟨g', o', none⟩))).run Try.prog w = .ok false w := fun d => by
    simp [Op.equalIn, run_underlying Try.underlying47, sizeOf, typeInfo, hte, hsz, run_sameAddr_other w hne h1 h2]
  simp only [binOp]
  simp [Op.equal, Op.maxDepth, h 9999]
/-- The node at a place in a ring; behind the last one comes the head. -/
def nodeAt (b k : Nat) (l : List Tm) (i : Nat) : NA := ((l[i]?).map ad).getD (hd b k)
theorem nodeAt_some {b k i : Nat} {l : List Tm} {x : Tm} (h : l[i]? = some x) : nodeAt b k l i = ad x := by simp [nodeAt, h]
theorem nodeAt_end (b k : Nat) (l : List Tm) : nodeAt b k l l.length = hd b k := by simp [nodeAt]
section
variable {w : World} {B b m now sq k : Nat} {L : List Tm} {ρ : Nat → List Tm}
theorem Rg.first (h : Rg w b L ρ) (hk : k < 448) : w.cell? ⟨b, 3 + 5 * k + 1, none⟩ = some (pa (nodeAt b k (ρ k) 0)) := by
  obtain ⟨nx, pv, hl, hs⟩ := h.lk
  have := (hl (hd b k) (.inl ⟨k, hk, rfl⟩)).n
  rw [Seg.zero (hs k hk)] at this
  simpa [nodeAt, hd] using this
theorem Rg.next (h : Rg w b L ρ) (hk : k < 448) {i : Nat} {x : Tm} (hx : (ρ k)[i]? = some x) : w.cell? ⟨x.g, 1, none⟩ = some (pa (nodeAt b k (ρ k) (i + 1))) := by
  obtain ⟨nx, pv, hl, hs⟩ := h.lk
  have := (hl (ad x) (.inr ⟨x, h.ok.mem k hk x (List.mem_of_getElem? hx), rfl⟩)).n
  rw [Seg.succ (i := i) (hs k hk) (by simp [hx])] at this
  simpa [nodeAt] using this
/-- Which timer waits where, and till when. -/
structure Inv (now : Nat) (L : List Tm) (ρ : Nat → List Tm) : Prop where
  ring : ∀ k, k < 448 → ∀ x, x ∈ ρ k ↔ x ∈ L ∧ ring now x.at_ = k
  ge : ∀ x, x ∈ L → now ≤ x.at_ ∧ x.at_ ≤ MT
def LeastOf (L : List Tm) (v : Nat) : Prop := (∃ x, x ∈ L ∧ x.at_ = v) ∧ ∀ y, y ∈ L → v ≤ y.at_
def NextPost (w : World) (L : List Tm) (e : Ending) (w' : World) : Prop :=
  ((L = [] ∧ e = .returned (.tuple #[.int .i64 0, .bool false])) ∨ ∃ v : Nat, LeastOf L v ∧ e = .returned (.tuple #[.int .i64 v, .bool true])) ∧ w = w'
/-- What was seen of a ring, of its first i. -/
def SeenI (l : List Tm) (i : Nat) (f : Bool) (v : Nat) : Prop := (i = 0 ∧ f = false ∧ v = 0) ∨ (0 < i ∧ f = true ∧ LeastOf (l.take i) v)
theorem SeenI.step {l : List Tm} {i v : Nat} {f : Bool} {x : Tm} (h : SeenI l i f v) (hx : l[i]? = some x) (hc : f = false ∨ x.at_ < v) : SeenI l (i + 1) true x.at_ := by
  refine .inr ⟨by omega, rfl, ?_⟩
  rw [LeastOf, ← take_snocT hx]
  refine ⟨⟨x, by simp, rfl⟩, fun y hy => ?_⟩
  rcases List.mem_append.1 hy with hy | hy
  · rcases h with ⟨rfl, -, -⟩ | ⟨-, hf, -, h2⟩
    · simp at hy
    · rcases hc with hc | hc
      · rw [hf] at hc; cases hc
      · have := h2 y hy; omega
  · rw [List.mem_singleton.1 hy]; exact Nat.le_refl _
theorem SeenI.stay {l : List Tm} {i v : Nat} {x : Tm} (h : SeenI l i true v) (hx : l[i]? = some x) (hc : ¬ x.at_ < v) : SeenI l (i + 1) true v := by
  rcases h with ⟨-, h, -⟩ | ⟨-, -, ⟨z, hz, e⟩, h2⟩
  · cases h
  · refine .inr ⟨by omega, rfl, ?_⟩
    rw [LeastOf, ← take_snocT hx]
    refine ⟨⟨z, by simp [hz], e⟩, fun y hy => ?_⟩
    rcases List.mem_append.1 hy with hy | hy
    · exact h2 y hy
    · rw [List.mem_singleton.1 hy]; omega
/-- The least of a ring ahead of which nothing waits is the least of all. -/
theorem least_ring {l s v : Nat} (hi : Inv now L ρ) (hn : now < 2 ^ 42) (hs : s < 64) (hk : 64 * l + s < 448) (h1 : ∀ x, x ∈ L → l ≤ lvl now x.at_) (h2 : ∀ x, x ∈ L → lvl now x.at_ = l → s ≤ slot l x.at_) (hv : LeastOf (ρ (64 * l + s)) v) : LeastOf L v := by
  obtain ⟨⟨x, hx, rfl⟩, hle⟩ := hv
  obtain ⟨hxl, hxr⟩ := (hi.ring _ hk x).1 hx
  have big : ∀ y, y ∈ L → y.at_ < 2 ^ 42 := fun y hy => by have := (hi.ge y hy).2; unfold MT at this; omega
  obtain ⟨e1, e2⟩ := ring_parts hs hxr
  refine ⟨⟨x, hxl, rfl⟩, fun y hy => ?_⟩
  rcases Nat.lt_or_ge l (lvl now y.at_) with h | h
  · exact Nat.le_of_lt (ring_before hn (big x hxl) (big y hy) (hi.ge y hy).1 (by omega))
  · have e3 : lvl now y.at_ = l := by have := h1 y hy; omega
    have h4 := h2 y hy e3
    rcases Nat.lt_or_ge s (slot l y.at_) with h5 | h5
    · exact Nat.le_of_lt (slot_before hn (big x hxl) (big y hy) (by omega) (by rw [e1, e2]; exact h5))
    · refine hle y ((hi.ring _ hk y).2 ⟨hy, ?_⟩)
      rw [Go.Proofs.Ytcgchccppoignaa.ring, e3]
      omega
set_option maxRecDepth 100000 in
set_option maxHeartbeats 16000000 in
theorem next_any (h : Whl w B b m now sq L ρ) (hi : Inv now L ρ) (hn : now ≤ MT) :
    Calls Try.prog 18 #[pt b 0] w (NextPost w L) := by
  have HN := Lib.hid (no_any b w h.made)
  have c1 := h.now
  have c2 := h.by_
  have HL := fun ty => h.mp.len ty
  have HRG := Lib.hid h.rg
  have HI := Lib.hid hi
  unfold MT at hn
  clear h hi
  go_enter Try.func18, Try.ntmps18
  by_cases h0 : L.length = 0
  · have hL : L = [] := List.length_eq_zero_iff.1 h0
    subst hL
    go_wp2_with fail
    refine HN.out.mono ?_
    rintro e w1 ⟨rfl, rfl⟩
    go_wp2_with fail
    refine bodyPost_ret (results_tmp2 rfl _ _ _) rfl ?_
    exact ⟨.inl ⟨rfl, rfl⟩, rfl⟩
  · have hb : (((L.length : Nat) : Int) == 0) = false := beq_eq_false_iff_ne.2 (by omega)
    go_wp2_with fail
    refine HN.out.mono ?_
    rintro e w1 ⟨rfl, rfl⟩
    have HLN : Hid (L.length ≠ 0) := h0
    clear h0
    go_upto_region 4 with fail
    clear hb HL c2
    go_loop [21] (fun i => ∃ l : Nat, i = .int .i64 l ∧ l ≤ 7 ∧ ∀ x, x ∈ L → l ≤ lvl now x.at_) (fun i => 7 - (intOf i).toNat)
    case atStart => exact ⟨0, rfl, by omega, fun _ _ => Nat.zero_le _⟩
    case round =>
      obtain ⟨l, rfl, hl, hlv⟩ := hrel
      have HLV := Lib.hid hlv
      clear hlv
      by_cases hlt : l < 7
      · have q4 : IntKind.i64.wrap (6 * (l : Int)) = 6 * (l : Int) := by rw [IntKind.wrap_i64]; omega
        have q3 : (now : Int) / 2 ^ (6 * (l : Int)).toNat = ((up l now : Nat) : Int) := by rw [show (6 * (l : Int)).toNat = 6 * l by omega, up_int]
        have q5 : bits .and .i64 ((up l now : Nat) : Int) 63 = ((slot l now : Nat) : Int) := and63 _ (up_small l (by omega))
        have HS0 := Lib.hid (slot_lt l now)
        go_upto_region 8 with fail
        clear q3 q4 q5
        go_loop [6] (fun i => ∃ s : Nat, i = .int .i64 s ∧ s ≤ 64 ∧ ∀ x, x ∈ L → lvl now x.at_ = l → s ≤ slot l x.at_) (fun i => 64 - (intOf i).toNat)
        case atStart => exact ⟨slot l now, rfl, Nat.le_of_lt HS0.out, fun x hx e => by have := slot_from (now := now) (a := x.at_) (by omega) (by have := (HI.out.ge x hx).2; unfold MT at this; omega) (HI.out.ge x hx).1; rw [e] at this; exact this⟩
        case round =>
          obtain ⟨s, rfl, hs, hsl⟩ := hrel
          have HSL := Lib.hid hsl
          clear hsl
          by_cases hst : s < 64
          · obtain ⟨k, hk⟩ : ∃ k, k = 64 * l + s := ⟨_, rfl⟩
            have hk1 : k < 448 := by omega
            obtain ⟨o, ho⟩ : ∃ o, 3 + l * 320 + s * 5 = o := ⟨_, rfl⟩
            have cf := HRG.out.first hk1
            rw [show 3 + 5 * k = o by omega] at cf
            have HKO : Hid (k = 64 * l + s ∧ 3 + 5 * k = o) := ⟨hk, by omega⟩
            clear hk
            go_upto_region 13 with fail
            go_loopg [8, 9, 10] (ρ k).length (fun g lv fv ev wr => ∃ (i v : Nat) (f : Bool), lv = .int .i64 v ∧ fv = .bool f ∧ ev = pa (nodeAt b k (ρ k) i) ∧ g + i = (ρ k).length ∧ SeenI (ρ k) i f v ∧ w = wr)
            case atStart => exact ⟨0, 0, false, rfl, rfl, rfl, rfl, .inl ⟨rfl, rfl, rfl⟩, rfl⟩
            case round =>
              obtain ⟨i, v, f, rfl, rfl, rfl, hg, hsn, rfl⟩ := hrel
              have HSN := Lib.hid hsn
              clear hsn cf
              by_cases hlt : i < (ρ k).length
              · obtain ⟨x, hx⟩ : ∃ x, (ρ k)[i]? = some x := ⟨_, List.getElem?_eq_getElem hlt⟩
                have hxl := HRG.out.ok.mem k hk1 x (List.mem_of_getElem? hx)
                have hxb := HRG.out.ok.xb x hxl
                have d1 := (HRG.out.dat x hxl).t
                have d2 := HRG.out.next hk1 hx
                have HX := Lib.hid hx
                rw [nodeAt_some hx, show pa (ad x) = .pointer (some ⟨x.g, 0, none⟩) from rfl]
                obtain ⟨nd, hnd⟩ : ∃ nd, nd = nodeAt b k (ρ k) (i + 1) := ⟨_, rfl⟩
                rw [← hnd] at d2
                have HND := Lib.hid hnd
                clear hnd
                clear hx
                have hnq := neq_other (o := 0) (o' := o) hxb (HRG.out.dat x hxl).p HRG.out.pb
                cases f with
                | false =>
                  have HS2 := Lib.hid (HSN.out.step HX.out (.inl rfl))
                  go_wp2_with fail
                  go_roundg (gk - 1)
                  case measure => omega
                  case rel => exact ⟨i + 1, x.at_, true, rfl, rfl, by rw [HND.out], by omega, HS2.out, rfl⟩
                | true =>
                  by_cases hlv : x.at_ < v
                  · have HS2 := Lib.hid (HSN.out.step HX.out (.inr hlv))
                    have hlv2 : decide ((x.at_ : Int) < (v : Int)) = true := decide_eq_true (by omega)
                    go_wp2_with fail
                    go_roundg (gk - 1)
                    case measure => omega
                    case rel => exact ⟨i + 1, x.at_, true, rfl, rfl, by rw [HND.out], by omega, HS2.out, rfl⟩
                  · have HS2 := Lib.hid (HSN.out.stay HX.out hlv)
                    have hlv2 : decide ((x.at_ : Int) < (v : Int)) = false := decide_eq_false (by omega)
                    go_wp2_with fail
                    go_roundg (gk - 1)
                    case measure => omega
                    case rel => exact ⟨i + 1, v, true, rfl, rfl, by rw [HND.out], by omega, HS2.out, rfl⟩
              · obtain rfl : i = (ρ k).length := by omega
                rw [nodeAt_end, show pa (hd b k) = .pointer (some ⟨b, o, none⟩) by rw [← HKO.out.2]; rfl]
                have hnq := neq_same w ⟨b, o, none⟩
                cases f with
                | false =>
                  have he : ρ k = [] := by
                    rcases HSN.out with ⟨h, -, -⟩ | ⟨-, h, -⟩
                    · exact List.length_eq_zero_iff.1 h
                    · cases h
                  have HE := Lib.hid he
                  clear he hlt hg
                  go_wp2_with fail
                  go_round
                  case rel => exact ⟨s + 1, by go_num, by omega, fun y hy e => by
                    have h1 := HSL.out y hy e
                    rcases Nat.lt_or_ge s (slot l y.at_) with h2 | h2
                    · exact h2
                    · exfalso
                      have : y ∈ ρ k := (HI.out.ring k hk1 y).2 ⟨hy, by rw [ring, e, HKO.out.1]; omega⟩
                      rw [HE.out] at this
                      simp at this⟩
                  case measure => simp [intOf]; omega
                | true =>
                  have hle : LeastOf (ρ k) v := by
                    rcases HSN.out with ⟨-, h, -⟩ | ⟨-, -, h⟩
                    · cases h
                    · rwa [List.take_length] at h
                  have HLE : Hid (LeastOf L v) := least_ring HI.out (by omega) hst (by rw [← HKO.out.1]; exact hk1) HLV.out HSL.out (by rw [← HKO.out.1]; exact hle)
                  clear hle hlt hg
                  go_wp2_with fail
                  refine bodyPost_ret (results_tmp2 rfl _ _ _) rfl ?_
                  exact ⟨.inr ⟨v, HLE.out, rfl⟩, rfl⟩
          · obtain rfl : s = 64 := by omega
            go_wp2_with fail
            go_round
            case rel => exact ⟨l + 1, by go_num, by omega, fun y hy => by
              have h1 := HLV.out y hy
              rcases Nat.lt_or_ge l (lvl now y.at_) with h2 | h2
              · exact h2
              · have h3 := HSL.out y hy (by omega)
                have := slot_lt l y.at_
                omega⟩
            case measure => simp [intOf]; omega
      · exfalso
        obtain ⟨y, hy⟩ := List.exists_mem_of_length_pos (l := L) (by have := HLN.out; omega)
        have h1 := HLV.out y hy
        have h2 := (lvl_spec (now := now) (a := y.at_) (by omega) (by have := (HI.out.ge y hy).2; unfold MT at this; omega)).1
        omega
end
end Go.Proofs.Ytcgchccppoignaa
