/- Shut: close$1, which throws what its deferred call tells; close, which closes a thing once. -/
import Derived.Test.YtmkbdjekidcfaaaShE
namespace Go.Proofs.Ytmkbdjekidcfaaa
open Go.RowKit
attribute [local go_sem ↓] Go.wp_at_zero Go.wp_at_succ

section
variable {w : World} {B C : Nat} {ds : List (Int × Rs)} {good : Bool} {v : Value}
set_option maxRecDepth 100000 in
set_option maxHeartbeats 2000000 in
theorem thrown_any (pc pth po th : Nat) (id : Int) (err code pk pn : Int) (has : Bool) (h : Clo w B C ds good v) (hc : w.cell? ⟨pc, 0, none⟩ = some (.pointer (some ⟨C, 0, none⟩))) (ht : w.cell? ⟨pth, 0, none⟩ = some (.pointer (some ⟨th, 0, none⟩)))
    (ho : Blk w po 41 #[.int .i64 err, .int .i64 code, .int .i64 pk, .int .i64 pn, .bool has, .int .i64 0, .int .i64 0, .int .u64 0, .string ByteArray.empty, .slice none 0 0])
    (hn : w.cell? ⟨th, 0, none⟩ = some (.int .i64 id)) (hne : C ≠ pc ∧ C ≠ pth ∧ C ≠ th) (hov : v.ownBlock ≠ some pc ∧ v.ownBlock ≠ some pth ∧ v.ownBlock ≠ some th) (hl : ds.length ≤ 1000000) (hB : B ≤ w.heap.size) :
    Calls Try.prog 26 #[.pointer (some ⟨pc, 0, none⟩), .pointer (some ⟨pth, 0, none⟩), .pointer (some ⟨po, 0, none⟩)] w fun e w' =>
      e = .returned (.tuple #[]) ∧ ∃ v', Clo w' B C (ds ++ [(id, ⟨err, code, pk, pn, has⟩)]) (good && decide (err = 0)) v' ∧ WT (fun g => g = C ∨ v.ownBlock = some g) w w' ∧ ∀ g, v'.ownBlock = some g → v.ownBlock = some g ∨ w.heap.size ≤ g := by
  have hmf : ∀ (fn : Fn) (first cap : Array Value) (w : World), (Instr.makeFunc fn first cap).run Try.prog w = .ok (.func fn first cap) w := fun _ _ _ _ => rfl
  have HT := Lib.hid (told_any pc pth th id err code pk pn has [] h hc ht hn hne hov hl hB)
  have HO := Lib.hid ho
  clear h hc ht hn hne hov hl hB ho
  go_enter_defers Try.func26, Try.ntmps26
  go_upto_region 1 with fail
  go_wp2_with (refine wpList_load_blk rfl 41 _ rfl po 0 rfl [.int .i64 err, .int .i64 code, .int .i64 pk, .int .i64 pn, .bool has, .int .i64 0, .int .i64 0, .int .u64 0, .string ByteArray.empty, .slice none 0 0] _ (Blk.range (pre := []) (post := []) HO.out rfl) Try.underlying41 rfl sizeR ?_)
  show Leaves _ _ _ _ _ _ w
  refine leaves_cons (f := 27) (args := #[.pointer (some ⟨pc, 0, none⟩), .pointer (some ⟨pth, 0, none⟩)]) (by simp) (by simp [go_sem]) ?_
  refine HT.out.mono ?_
  rintro e u' w' ⟨rfl, rfl, hv⟩
  simp only [settle, List.dropWhile]
  exact ⟨.tuple #[], results_none rfl _ _ _, rfl, hv⟩
theorem once_any (W0 : World) (C th i m p : Nat) (err code pk pn : Int) (has : Bool) (h : Clo W0 B C ds good v) (ht : Blk W0 th 65 #[.int .i64 (i : Int), .map (some m), .int .u32 0, .int .i32 0, .int .u32 0]) (hne : C ≠ th) (hov : v.ownBlock ≠ some th) (hl : ds.length ≤ 1000000) (hB : B ≤ W0.heap.size)
    (b0 : Blk W0 p 69 #[.pointer (some ⟨C, 0, none⟩)]) (b1 : Blk W0 (p + 1) 50 #[.pointer (some ⟨th, 0, none⟩)]) (b2 : Blk W0 (p + 1 + 1) 41 #[.int .i64 err, .int .i64 code, .int .i64 pk, .int .i64 pn, .bool has, .int .i64 0, .int .i64 0, .int .u64 0, .string ByteArray.empty, .slice none 0 0]) (hp : th < p ∧ C < p ∧ ∀ k, v.ownBlock = some k → k < p) :
    Calls Try.prog 25 #[.pointer (some ⟨th, 2, none⟩), .func (.func 26) #[] #[.pointer (some ⟨p, 0, none⟩), .pointer (some ⟨p + 1, 0, none⟩), .pointer (some ⟨p + 1 + 1, 0, none⟩)]] W0 fun e w'' => e = .returned (.tuple #[]) ∧
      ∃ v', Clo w'' B C (ds ++ [((i : Int), ⟨err, code, pk, pn, has⟩)]) (good && decide (err = 0)) v' ∧ WT (fun g => g = C ∨ v.ownBlock = some g ∨ g = th) W0 w'' ∧ ∀ g, v'.ownBlock = some g → v.ownBlock = some g ∨ W0.heap.size ≤ g := by
  have hw1 : WT (fun k => k = th) W0 (W0.setCell ⟨th, 2 + 1, none⟩ (.int .i32 1)) := WT.set (W := fun k => k = th) W0 rfl _
  have t1 := ht.set (2 + 1) (.int .i32 1)
  have hvp : ∀ q, p ≤ q → v.ownBlock ≠ some q := fun q hq e => by have := hp.2.2 q e; omega
  refine (do_any th 2 _ _ _ (fun w' => ∃ v', Clo w' B C (ds ++ [((i : Int), ⟨err, code, pk, pn, has⟩)]) (good && decide (err = 0)) v' ∧ WT (fun g => g = C ∨ v.ownBlock = some g) (W0.setCell ⟨th, 2 + 1, none⟩ (.int .i32 1)) w' ∧ ∀ g, v'.ownBlock = some g → v.ownBlock = some g ∨ W0.heap.size ≤ g) W0 (ht.cell 2) (ht.cell 3) (ht.free 3) ?_ ?_).mono ?_
  · refine (thrown_any (w := W0.setCell ⟨th, 2 + 1, none⟩ (.int .i32 1)) (B := B) (C := C) (ds := ds) (good := good) (v := v) p (p + 1) (p + 1 + 1) th i err code pk pn has (h.wt hw1 hne fun k hk e => hov (by rw [hk, e])) ((b0.far (p := ⟨th, 2 + 1, none⟩) (by show _ ≠ th; omega) _).cell 0) ((b1.far (p := ⟨th, 2 + 1, none⟩) (by show _ ≠ th; omega) _).cell 0) (b2.far (p := ⟨th, 2 + 1, none⟩) (by show _ ≠ th; omega) _) (t1.cell 0) ⟨by omega, by omega, hne⟩ ⟨hvp _ (Nat.le_refl _), hvp _ (by omega), hov⟩ hl (Nat.le_trans hB hw1.size)).mono ?_
    rintro e w' ⟨rfl, v', h1, h2, h3⟩
    exact ⟨rfl, v', h1, h2, fun g hg => (h3 g hg).imp (fun e => e) fun e => by simpa using e⟩
  · rintro w' ⟨v', h1, h2, h3⟩
    have tt : Blk w' th 65 _ := (h2.far th t1.lt fun e => e.elim (fun e => hne e.symm) fun e => hov e).trans t1
    exact ⟨tt.cell 2, tt.cell 3, tt.free 2, tt.free 3⟩
  · rintro e w'' ⟨rfl, w', ⟨v', h1, h2, h3⟩, rfl⟩
    have hv' : v'.ownBlock ≠ some th := fun e => (h3 th e).elim hov fun h => by have := ht.lt; omega
    have hend : WT (fun k => k = th) w' ((w'.drew.setCell ⟨th, 2, none⟩ (.int .u32 1)).setCell ⟨th, 2 + 1, none⟩ (.int .i32 0)) :=
      ((WT.drewN (W := fun k => k = th) w' 1).trans (WT.set (W := fun k => k = th) w'.drew rfl _) fun _ e => .inl e).trans (WT.set (W := fun k => k = th) _ rfl _) fun _ e => .inl e
    refine ⟨rfl, v', h1.wt hend hne fun k hk e => hv' (by rw [hk, e]), ?_, h3⟩
    exact ((hw1.more (W' := fun g => g = C ∨ v.ownBlock = some g ∨ g = th) fun _ e => .inr (.inr e)).trans h2 fun _ e => .inl (e.imp (fun e => e) .inl)).trans hend fun _ e => .inl (.inr (.inr e))
set_option maxRecDepth 100000 in
set_option maxHeartbeats 2000000 in
theorem close_any (C th i m : Nat) (err code pk pn : Int) (has : Bool) (h : Clo w B C ds good v) (ht : w.heap[th]? = some (thingObj i m)) (hne : C ≠ th) (hov : v.ownBlock ≠ some th) (hl : ds.length ≤ 1000000) (hB : B ≤ w.heap.size) :
    Calls Try.prog 22 #[.pointer (some ⟨C, 0, none⟩), .pointer (some ⟨th, 0, none⟩), .agg #[.int .i64 err, .int .i64 code, .int .i64 pk, .int .i64 pn, .bool has, .int .i64 0, .int .i64 0, .int .u64 0, .string ByteArray.empty, .slice none 0 0]] w fun e w' =>
      e = .returned (.tuple #[]) ∧ ∃ v', Clo w' B C (ds ++ [((i : Int), ⟨err, code, pk, pn, has⟩)]) (good && decide (err = 0)) v' ∧ WT (fun g => g = C ∨ v.ownBlock = some g ∨ g = th) w w' ∧ ∀ g, v'.ownBlock = some g → v.ownBlock = some g ∨ w.heap.size ≤ g := by
  have hmf : ∀ (fn : Fn) (first cap : Array Value) (w : World), (Instr.makeFunc fn first cap).run Try.prog w = .ok (.func fn first cap) w := fun _ _ _ _ => rfl
  have H := Lib.hid h
  have HT := Lib.hid ht
  clear h ht
  go_enter Try.func22, Try.ntmps22
  go_upto_region 1 with fail
  show Code.wp _ _ _ _ (((w.alloc (.cells #[.pointer (some ⟨C, 0, none⟩)] 69)).alloc (.cells #[.pointer (some ⟨th, 0, none⟩)] 50)).alloc (.cells #[.int .i64 err, .int .i64 code, .int .i64 pk, .int .i64 pn, .bool has, .int .i64 0, .int .i64 0, .int .u64 0, .string ByteArray.empty, .slice none 0 0] 41))
  generalize hW : (((w.alloc (.cells #[.pointer (some ⟨C, 0, none⟩)] 69)).alloc (.cells #[.pointer (some ⟨th, 0, none⟩)] 50)).alloc (.cells #[.int .i64 err, .int .i64 code, .int .i64 pk, .int .i64 pn, .bool has, .int .i64 0, .int .i64 0, .int .u64 0, .string ByteArray.empty, .slice none 0 0] 41)) = W0
  have hB0 : Below w.heap.size w W0 := by rw [← hW]; go_grown
  have b0 : Blk W0 w.heap.size 69 #[.pointer (some ⟨C, 0, none⟩)] := by rw [← hW]; exact ((Blk.new _ _ _).alloc _).alloc _
  have b1 : Blk W0 (w.heap.size + 1) 50 #[.pointer (some ⟨th, 0, none⟩)] := by rw [← hW]; exact (Blk.new' _ _ _ (by simp)).alloc _
  have b2 : Blk W0 (w.heap.size + 1 + 1) 41 #[.int .i64 err, .int .i64 code, .int .i64 pk, .int .i64 pn, .bool has, .int .i64 0, .int .i64 0, .int .u64 0, .string ByteArray.empty, .slice none 0 0] := by rw [← hW]; exact Blk.new' _ _ _ (by simp)
  have hth : Blk W0 th 65 #[.int .i64 (i : Int), .map (some m), .int .u32 0, .int .i32 0, .int .u32 0] := Blk.under (show Blk w th 65 _ from HT.out) hB0 (Array.getElem?_eq_some_iff.1 HT.out).1
  have hw0 : WT (fun _ => False) w W0 := WT.of_below hB0
  have HO := Lib.hid (once_any W0 C th i m w.heap.size err code pk pn has (H.out.wt hw0 (fun e => e) fun _ _ e => e) hth hne hov hl (Nat.le_trans hB hB0.size) b0 b1 b2 ⟨(Array.getElem?_eq_some_iff.1 HT.out).1, cell_lt H.out.d, fun k hk => (own_row H.out.row k hk).2⟩)
  have e1 := b1.cell 0
  simp only [List.getElem?_toArray, List.getElem?_cons_zero] at e1
  have HB0 := Lib.hid hB0
  clear hW hB0 b0 b1 b2 hth hw0
  go_wp2_with fail
  refine HO.out.mono ?_
  rintro e w' ⟨rfl, v', h1, h2, h3⟩
  have HE := Lib.hid (And.intro h1 (And.intro h2 h3))
  clear h1 h2 h3
  go_wp2_with fail
  go_end0
  obtain ⟨h1, h2, h3⟩ := HE.out
  exact ⟨rfl, v', h1, ((WT.of_below HB0.out).trans h2 fun _ e => .inl e), fun g hg => (h3 g hg).imp (fun e => e) fun e => Nat.le_trans HB0.out.size e⟩
end
end Go.Proofs.Ytmkbdjekidcfaaa
