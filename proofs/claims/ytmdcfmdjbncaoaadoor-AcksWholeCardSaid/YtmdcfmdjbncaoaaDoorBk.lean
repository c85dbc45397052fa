/- copied: a row of messages in memory of its own. -/
import Derived.Test.YtmdcfmdjbncaoaaDoorBj
import Derived.Laws.CopyOwn
import Derived.Laws.MakeOwn
namespace Go.Proofs.YtmdcfmdjbncaoaaDoor
open Go.RowKit
attribute [local go_sem ↓] Go.wp_at_zero Go.wp_at_succ
attribute [local go_sem] Go.undef

section
variable {P : Program} {w : World}
theorem run_copy_all (dT sT ty elem : TypeId) (g n dCap : Nat) (ad : Addr) (sCap sz : Nat) (cs : List Value) (old : Array Value) (T : TypeId) (hu : P.underlying dT = some (.slice elem)) (hs : (P.info? elem).map (·.size) = some sz)
    (hn : cs.length = n * sz) (hb : Blk w g T old) (ho : old.size = n * sz) (hsrc : ∀ j v, cs[j]? = some v → w.cell? (ad.add j) = some v) (h1 : ∀ v ∈ cs, v.oneCell' = true) :
    (Builtin.copy_ #[dT, sT] ty #[.slice (some ⟨g, 0, none⟩) n dCap, .slice (some ad) n sCap]).run P w = .ok (goInt n) (w.setCells g 0 cs) := by
  have hl := run_loadCells_list (P := P) w ad cs hsrc
  have hst := run_storeCells_cells (P := P) g 0 cs 0 w (fun j hj => by
    have : j < old.size := by omega
    simp [hb.cell, this]) (fun j _ => hb.free _) h1
  simp only [Nat.add_zero] at hst
  cases hq : P.info? elem with
  | none => simp [hq] at hs
  | some i =>
    have hi : i.size = sz := by simpa [hq] using hs
    have hmin : Nat.min n n = n := Nat.min_self n
    simp [Builtin.copy_, run_underlying hu, Builtin.lenOf, Builtin.firstCells, sizeOf, typeInfo, hq, hi, ← hn, hl, hst]
theorem wpList_copy_all {ops : Array Oper} {rest : List Oper} {o : Oper} {a : Act} {Q : Exit → Act → World → Prop} (hgd : o.guard = none) (d s : Operand) (dT sT : TypeId) (hop : o.op = .call { callee := .builtin .copy, args := #[d, s], argTypes := #[dT, sT] })
    (elem : TypeId) (hu : P.underlying dT = some (.slice elem)) (sz : Nat) (hs : (P.info? elem).map (·.size) = some sz) (g n dCap : Nat) (ad : Addr) (sCap : Nat) (hd : a.eval d = .slice (some ⟨g, 0, none⟩) n dCap) (hsv : a.eval s = .slice (some ad) n sCap)
    (cs : List Value) (old : Array Value) (T : TypeId) (hn : cs.length = n * sz) (hb : Blk w g T old) (ho : old.size = n * sz) (hsrc : ∀ j v, cs[j]? = some v → w.cell? (ad.add j) = some v) (h1 : ∀ v ∈ cs, v.oneCell' = true)
    (h : ∀ w', Blk w' g T cs.toArray → Upd g w w' → wpList P ops Q rest (a.put o.dst (goInt n)) w') : wpList P ops Q (o :: rest) a w := by
  refine wpList_plain hgd fun K hK => ?_
  have hrun := run_copy_all (P := P) (w := w) dT sT o.type elem g n dCap ad sCap sz cs old T hu hs hn hb ho hsrc h1
  unfold Oper.wp
  simp [execOp, hop, resolve, invoke, builtin, hd, hsv, hrun, Result.andThen]
  have hbl := blk_setCells cs w 0 [] old.toList [] (by simpa using hb) rfl (by simp; omega)
  simp only [List.nil_append, List.append_nil] at hbl
  exact hK _ _ (h _ hbl (upd_setCells g cs 0 w))
end
theorem flat_len (xs : List CV) : ((xs.map CV.cells).flatten).length = xs.length * 13 := by
  induction xs with
  | nil => rfl
  | cons x r ih => simp only [List.map_cons, List.flatten_cons, List.length_append, ih, List.length_cons]; simp [CV.cells]; omega
theorem flat_one (xs : List CV) : ∀ v ∈ (xs.map CV.cells).flatten, v.oneCell' = true := by
  intro v hv
  obtain ⟨cs, hc, hv⟩ := List.mem_flatten.1 hv
  obtain ⟨x, -, rfl⟩ := List.mem_map.1 hc
  exact x.one v hv

set_option maxHeartbeats 8000000 in
set_option maxRecDepth 100000 in
theorem copiedb_any (l : List MX) (a : Option Addr) (n c : Nat) (S : Nat → Prop) (w : World) (hrow : RM w S l a n c) (hS : ∀ b, S b → b < w.heap.size) (hsm : smallL l) (hn : n ≤ 65536) :
    Calls Tryd.prog 51 #[.slice a n c] w (RowPost w l) := by
  obtain ⟨i0, hi0, hz0, hz1, hz2⟩ := info_parts infoM
  obtain rfl : n = l.length := hrow.1
  have hmk : ∀ w' : World, (Instr.makeSlice 22 (.int .i64 (l.length : Int)) (.int .i64 (l.length : Int))).run Tryd.prog w' = .ok (.slice (some ⟨w'.heap.size, 0, none⟩) l.length l.length) (w'.alloc (.cells (madeCells #[.int .i64 0, .string ByteArray.empty, .int .i64 0, .int .i64 0, .int .u64 0, .string ByteArray.empty, .slice none 0 0, .int .i64 0, .int .i64 0, .string ByteArray.empty, .int .i64 0, .int .i64 0, .int .i64 0] (l.length * 13)) 30)) := fun w' => by
    have h := run_make (P := Tryd.prog) (w := w') 22 30 i0 _ Tryd.underlying22 hi0 hz0 .i64 .i64 (l.length : Int) (l.length : Int) (by omega) (Int.le_refl _) (by rw [hz2]; omega) (by omega)
    simp only [Int.toNat_natCast, hz1] at h
    exact h
  obtain ⟨W, hWd⟩ : ∃ W, W = (w.alloc (.cells (madeCells #[.int .i64 0, .string ByteArray.empty, .int .i64 0, .int .i64 0, .int .u64 0, .string ByteArray.empty, .slice none 0 0, .int .i64 0, .int .i64 0, .string ByteArray.empty, .int .i64 0, .int .i64 0, .int .i64 0] (l.length * 13)) 30)).alloc (.cells #[.slice a l.length c] 22) := ⟨_, rfl⟩
  have hW : Below w.heap.size w W := by rw [hWd]; go_grown
  have hsz : W.heap.size = w.heap.size + 2 := by rw [hWd]; simp
  have bo : Blk W w.heap.size 30 (madeCells #[.int .i64 0, .string ByteArray.empty, .int .i64 0, .int .i64 0, .int .u64 0, .string ByteArray.empty, .slice none 0 0, .int .i64 0, .int .i64 0, .string ByteArray.empty, .int .i64 0, .int .i64 0, .int .i64 0] (l.length * 13)) := by rw [hWd]; exact (Blk.new _ _ _).alloc _
  have bl : Blk W (w.heap.size + 1) 22 #[.slice a l.length c] := by rw [hWd]; exact Blk.new' _ _ _ (by simp)
  have HE := Lib.hid (each_any a l.length c (w.alloc (.cells (madeCells #[.int .i64 0, .string ByteArray.empty, .int .i64 0, .int .i64 0, .int .u64 0, .string ByteArray.empty, .slice none 0 0, .int .i64 0, .int .i64 0, .string ByteArray.empty, .int .i64 0, .int .i64 0, .int .i64 0] (l.length * 13)) 30)))
  have HC := Lib.hid (collect_any l (w.heap.size + 1) S a l.length c W (by have := bl.cell 0; simpa using this) (RM.under hrow hW hS) (fun b hb => by rw [hsz]; have := hS b hb; omega) hsm hn)
  have HW := Lib.hid hW
  have HSZ := Lib.hid hsz
  have BO := Lib.hid bo
  have HWD := Lib.hid hWd
  clear hrow hS hsm hW hsz bo bl hWd hi0 hz0 hz1 hz2
  go_enter Tryd.func51, Tryd.ntmps51
  go_wp2_with fail
  refine HE.out.mono ?_
  rintro e _ ⟨rfl, rfl⟩
  rw [← HWD.out]
  clear HE
  have e1 : (w.alloc (.cells (madeCells #[.int .i64 0, .string ByteArray.empty, .int .i64 0, .int .i64 0, .int .u64 0, .string ByteArray.empty, .slice none 0 0, .int .i64 0, .int .i64 0, .string ByteArray.empty, .int .i64 0, .int .i64 0, .int .i64 0] (l.length * 13)) 30)).heap.size = w.heap.size + 1 := by simp
  rw [e1]
  clear e1
  go_wp2_with fail
  refine HC.out.mono ?_
  rintro e w1 ⟨v, xs, rfl, hown, hgot, hb1⟩
  have hs1 := hb1.size
  rw [HSZ.out] at hs1 hown hgot
  have bo1 := BO.out.under hb1 (by rw [HSZ.out]; omega)
  have T := Lib.hid (below_on hb1 HW.out)
  have HG := Lib.hid hgot
  have hrest : ∀ w' : World, Blk w' w.heap.size 30 (xs.map CV.cells).flatten.toArray → w'.heap.size = w1.heap.size → (∀ b, b ≠ w.heap.size → w'.heap[b]? = w1.heap[b]?) → Below w.heap.size w w' → RowPost w l (.returned (.slice (some ⟨w.heap.size, 0, none⟩) l.length l.length)) w' := fun w' hb hs hf hbel => by
    refine ⟨some ⟨w.heap.size, 0, none⟩, l.length, fun b => w.heap.size + 2 ≤ b ∧ b < w1.heap.size, xs.map CV.cells, rfl, ⟨by simp [HG.out.1], ?_, fun b hb => ⟨by omega, by omega, fun h => by
      have : w.heap.size = b := by simpa [Value.ownBlock] using h
      omega⟩, fun cs hc => by obtain ⟨x, -, rfl⟩ := List.mem_map.1 hc; rfl, fun j m hm => ?_⟩, hbel⟩
    · have hl : (xs.map CV.cells).flatten.length = l.length * 13 := by rw [flat_len, HG.out.1]
      exact ⟨hl, .inr ⟨w.heap.size, l.length, _, rfl, Nat.le_refl _, hb, Nat.le_refl _, by unfold maxLen; omega, by simpa using hl, by show List.take (l.length * 13) (xs.map CV.cells).flatten = _; rw [← hl, List.take_length]⟩⟩
    · obtain ⟨x, h1, h2⟩ := HG.out.2 j m hm
      exact ⟨x.cells, by simp [h1], h2.keep (fun _ h => h) (fun b hb => hf b (by have := hb.1; omega))⟩
  have HREST := Lib.hid hrest
  clear hb1 hgot hrest BO HC HWD
  have hln : ((xs.map CV.cells).flatten).length = l.length * 13 := by rw [flat_len, HG.out.1]
  have HLN := Lib.hid hln
  clear hln
  rcases hown.2 with ⟨rfl, h0⟩ | ⟨g, cap, cur, rfl, hg1, hg2, hg3, hg4, hg5, hg6⟩
  · have hx0 : xs = [] := List.length_eq_zero_iff.1 (by rw [HG.out.1, h0])
    have hcp : ∀ ty : TypeId, (Builtin.copy_ #[22, 22] ty #[.slice (some ⟨w.heap.size, 0, none⟩) l.length l.length, .slice none 0 0]).run Tryd.prog w1 = .ok (goInt 0) w1 := fun ty => run_copy_nil (P := Tryd.prog) w1 _ _ ty 30 _ _ _ Tryd.underlying22 (by rw [sizeM]; rfl)
    have hend : Blk w1 w.heap.size 30 (xs.map CV.cells).flatten.toArray := by
      rw [hx0]
      have e : madeCells #[.int .i64 0, .string ByteArray.empty, .int .i64 0, .int .i64 0, .int .u64 0, .string ByteArray.empty, .slice none 0 0, .int .i64 0, .int .i64 0, .string ByteArray.empty, .int .i64 0, .int .i64 0, .int .i64 0] (l.length * 13) = #[] := Array.eq_empty_of_size_eq_zero (by rw [size_madeCells, h0])
      rw [e] at bo1
      exact bo1
    have HEND := Lib.hid hend
    clear hown h0 hx0 hend bo1
    go_wp2_with fail
    go_ret
    exact HREST.out w1 HEND.out rfl (fun _ _ => rfl) T.out
  · have hsrc : ∀ j v, ((xs.map CV.cells).flatten)[j]? = some v → w1.cell? ((⟨g, 0, none⟩ : Addr).add j) = some v := fun j v hv => hown.cells (g := g) rfl j v hv
    have HSRC := Lib.hid hsrc
    clear hown hsrc hg1 hg2 hg3 hg4 hg5 hg6
    go_wp2_with (refine wpList_copy_all rfl _ _ 22 22 rfl 30 Tryd.underlying22 13 sizeM w.heap.size l.length l.length ⟨g, 0, none⟩ cap rfl rfl _ _ _ HLN.out bo1 (by rw [size_madeCells]) HSRC.out (flat_one xs) ?_; intro w2 bo2 U2)
    go_ret
    exact HREST.out w2 bo2 U2.size (fun b hb => U2.far b hb) (T.out.trans (U2.below _ (Nat.le_refl _)))
end Go.Proofs.YtmdcfmdjbncaoaaDoor
