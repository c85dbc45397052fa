/- Shut: the deferred call that tells an outcome. -/
import Derived.Test.YtmkbdjekidcfaaaShD
namespace Go.Proofs.Ytmkbdjekidcfaaa
open Go.RowKit
attribute [local go_sem ↓] Go.wp_at_zero Go.wp_at_succ
attribute [local go_sem] Go.undef
section
variable {w : World} {B C : Nat} {ds : List (Int × Rs)} {good : Bool} {v : Value}
set_option maxRecDepth 100000 in
set_option maxHeartbeats 2000000 in
theorem told_any (pc pth th : Nat) (id : Int) (err code pk pn : Int) (has : Bool) (older : List PanicEntry) (h : Clo w B C ds good v) (hc : w.cell? ⟨pc, 0, none⟩ = some (.pointer (some ⟨C, 0, none⟩))) (ht : w.cell? ⟨pth, 0, none⟩ = some (.pointer (some ⟨th, 0, none⟩)))
    (hn : w.cell? ⟨th, 0, none⟩ = some (.int .i64 id)) (hne : C ≠ pc ∧ C ≠ pth ∧ C ≠ th) (hov : v.ownBlock ≠ some pc ∧ v.ownBlock ≠ some pth ∧ v.ownBlock ≠ some th) (hl : ds.length ≤ 1000000) (hB : B ≤ w.heap.size) :
    CallsD Try.prog 27 #[.pointer (some ⟨pc, 0, none⟩), .pointer (some ⟨pth, 0, none⟩)] (.panicking ({ v := .iface 41 (.agg #[.int .i64 err, .int .i64 code, .int .i64 pk, .int .i64 pn, .bool has, .int .i64 0, .int .i64 0, .int .u64 0, .string ByteArray.empty, .slice none 0 0]), recovered := false } :: older)) w fun e u' w' =>
      e = .returned (.tuple #[]) ∧ u' = .panicking ({ v := .iface 41 (.agg #[.int .i64 err, .int .i64 code, .int .i64 pk, .int .i64 pn, .bool has, .int .i64 0, .int .i64 0, .int .u64 0, .string ByteArray.empty, .slice none 0 0]), recovered := true } :: older) ∧ ∃ v', Clo w' B C (ds ++ [(id, ⟨err, code, pk, pn, has⟩)]) (good && decide (err = 0)) v' ∧ WT (fun g => g = C ∨ v.ownBlock = some g) w w' ∧ ∀ g, v'.ownBlock = some g → v.ownBlock = some g ∨ w.heap.size ≤ g := by
  refine callsD_of_wpS Try.func27 rfl fun c₀ cs hu => ?_
  apply wpS_seq
  apply wpS_region
  simp only [Try.ntmps27]
  rw [show List.range _ = [0, 1, 2, 3, 4, 5, 6, 7] from by kernel_rfl]
  generalize hQQ : (Exit.thenS _ _) = QQ
  simp only [List.size_toArray, List.length_cons, List.length_nil, Nat.reduceAdd, Nat.reduceSub, Array.replicate_succ, Array.replicate_zero, List.push_toArray, List.append_toArray, List.nil_append, List.cons_append]
  refine wpOpsS_recover (d := some 5) (cs' := { c₀ with mode := .panicking ({ v := .iface 41 (.agg #[.int .i64 err, .int .i64 code, .int .i64 pk, .int .i64 pn, .bool has, .int .i64 0, .int .i64 0, .int .u64 0, .string ByteArray.empty, .slice none 0 0]), recovered := true } :: older) } :: cs) (.iface 41 (.agg #[.int .i64 err, .int .i64 code, .int .i64 pk, .int .i64 pn, .bool has, .int .i64 0, .int .i64 0, .int .u64 0, .string ByteArray.empty, .slice none 0 0])) rfl (by kernel_rfl) (by kernel_rfl) (by simp [recoverD, hu]) rfl ?_
  simp only [Act.put, List.setIfInBounds_toArray, List.set_cons_zero, List.set_cons_succ]
  refine wpOpsS_value (d := some 6) (.tuple #[.agg #[.int .i64 err, .int .i64 code, .int .i64 pk, .int .i64 pn, .bool has, .int .i64 0, .int .i64 0, .int .u64 0, .string ByteArray.empty, .slice none 0 0], .bool true]) w rfl (by kernel_rfl) (by simp [go_sem, res_is]) rfl ?_
  simp only [Act.put, List.setIfInBounds_toArray, List.set_cons_zero, List.set_cons_succ]
  refine wpOpsS_value (d := some 4) (.tuple #[.agg #[.int .i64 err, .int .i64 code, .int .i64 pk, .int .i64 pn, .bool has, .int .i64 0, .int .i64 0, .int .u64 0, .string ByteArray.empty, .slice none 0 0], .bool true]) w rfl (by kernel_rfl) (by simp [go_sem]) rfl ?_
  simp only [Act.put, List.setIfInBounds_toArray, List.set_cons_zero, List.set_cons_succ]
  refine wpOpsS_value (d := some 7) (.agg #[.int .i64 err, .int .i64 code, .int .i64 pk, .int .i64 pn, .bool has, .int .i64 0, .int .i64 0, .int .u64 0, .string ByteArray.empty, .slice none 0 0]) w rfl (by kernel_rfl) (by simp [go_sem]) rfl ?_
  simp only [Act.put, List.setIfInBounds_toArray, List.set_cons_zero, List.set_cons_succ]
  refine wpOpsS_value (d := some 8) (.bool true) w rfl (by kernel_rfl) (by simp [go_sem]) rfl ?_
  simp only [Act.put, List.setIfInBounds_toArray, List.set_cons_zero, List.set_cons_succ]
  refine wpOpsS_value (d := some 2) (.pointer (some ⟨w.heap.size, 0, none⟩)) (w.alloc (.cells #[.int .i64 0, .int .i64 0, .int .i64 0, .int .i64 0, .bool false, .int .i64 0, .int .i64 0, .int .u64 0, .string ByteArray.empty, .slice none 0 0] 41)) rfl (by kernel_rfl) (by kernel_rfl) rfl ?_
  simp only [Act.put, List.setIfInBounds_toArray, List.set_cons_zero, List.set_cons_succ]
  refine wpOpsS_skip (w.alloc (.cells #[.int .i64 err, .int .i64 code, .int .i64 pk, .int .i64 pn, .bool has, .int .i64 0, .int .i64 0, .int .u64 0, .string ByteArray.empty, .slice none 0 0] 41)) rfl (by kernel_rfl) (run_store_new rfl rfl rfl sizeR rfl (by simp [Value.oneCell'])) rfl ?_
  refine wpOpsS_value (d := some 3) (.bool true) (w.alloc (.cells #[.int .i64 err, .int .i64 code, .int .i64 pk, .int .i64 pn, .bool has, .int .i64 0, .int .i64 0, .int .u64 0, .string ByteArray.empty, .slice none 0 0] 41)) rfl (by kernel_rfl) (by simp [go_sem]) rfl ?_
  simp only [Act.put, List.setIfInBounds_toArray, List.set_cons_zero, List.set_cons_succ]
  subst hQQ
  show Code.wpS _ _ _ _ _ _
  refine wpS_of_wp ?_
  have hlt : C < w.heap.size ∧ pc < w.heap.size ∧ pth < w.heap.size ∧ th < w.heap.size := ⟨cell_lt h.d, cell_lt hc, cell_lt ht, cell_lt hn⟩
  have hvn : v.ownBlock ≠ some w.heap.size := fun e => by have := (own_row h.row _ e).2; omega
  have hbe : Below w.heap.size w (w.alloc (.cells #[.int .i64 err, .int .i64 code, .int .i64 pk, .int .i64 pn, .bool has, .int .i64 0, .int .i64 0, .int .u64 0, .string ByteArray.empty, .slice none 0 0] 41)) := (Below.refl _ _).alloc (Nat.le_refl _) _
  have hw1 : WT (fun _ => False) w (w.alloc (.cells #[.int .i64 err, .int .i64 code, .int .i64 pk, .int .i64 pn, .bool has, .int .i64 0, .int .i64 0, .int .u64 0, .string ByteArray.empty, .slice none 0 0] 41)) := WT.of_below hbe
  refine told_rest _ _ (by rw [Try.func27]; rfl) _ B C w.heap.size pc pth th ds good v id err code pk pn has _ _ _ _ _ _ (h.wt hw1 (fun e => e) fun _ _ e => e) (Blk.new _ _ _) ⟨by omega, by omega, by omega, by omega, hvn⟩
    (hw1.cell (fun e => e) hc) (hw1.cell (fun e => e) ht) (hw1.cell (fun e => e) hn) hne hov hl (Nat.le_trans hB hbe.size) _ fun a w' v' hd hcl hwt hown => ?_
  refine ⟨hd, _, rfl, .tuple #[], results_none rfl _ _ _, rfl, rfl, v', hcl, ?_, fun k hk => (hown k hk).imp (fun h => h) fun h => by simp at h; omega⟩
  refine (hw1.more (W' := fun k => k = C ∨ v.ownBlock = some k) fun _ e => e.elim).trans hwt fun k hk => ?_
  rcases hk with h | h | h
  · exact .inl (.inl h)
  · exact .inl (.inr h)
  · exact .inr (by omega)
end
end Go.Proofs.Ytmkbdjekidcfaaa
