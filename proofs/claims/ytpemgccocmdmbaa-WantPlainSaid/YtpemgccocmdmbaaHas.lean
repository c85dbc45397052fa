/- Methods of kinds and interfaces: Has, Methods, method, Missing, Lacks, Implements. -/
import Derived.Test.YtpemgccocmdmbaaTy
import Derived.Test.YtpemgccocmdmbaaV
namespace Go.Proofs.Ytpemgccocmdmbaa
open Go.RowKit

set_option maxRecDepth 100000 in
set_option maxHeartbeats 4000000 in
theorem has_any (k m : Int) (w : World) : Calls Try.prog 54 #[.int .i64 k, .int .i64 m] w fun e w' => e = .returned (.bool (hasM k m)) ∧ w = w' := by
  go_enter Try.func54, Try.ntmps54
  go_wp2_with fail
  all_goals
    go_ret
    refine ⟨congrArg Ending.returned (congrArg Value.bool ?_), rfl⟩
    first | (simp_all [hasM]; done) | (simp_all [hasM]; omega) | (rw [Bool.eq_iff_iff]; simp_all [hasM]; done) | (rw [Bool.eq_iff_iff]; simp_all [hasM]; omega)

/-- A row of ints. -/
def EI (x : Int) (cs : List Value) : Prop := cs = [.int .i64 x]
theorem ints_new (w : World) (T : TypeId) (L : List Int) (h : L.length ≤ maxLen) {n : Nat} (hn : n = L.length) : RowsOf EI 1 (w.alloc (.cells (L.map (Value.int .i64)).toArray T)) (Btw w.heap.size (w.heap.size + 1)) L (some ⟨w.heap.size, 0, none⟩) n n := by
  subst hn
  refine ⟨rfl, Nat.le_refl _, h, fun _ => ⟨w.heap.size, 0, rfl, ⟨Nat.le_refl _, by omega⟩, fun j x hx => ⟨_, rfl, rfl, fun q v hv => ?_⟩⟩⟩
  match q, hv with
  | 0, hv =>
    simp at hv
    subst hv
    rw [(Blk.new w T _).cell]
    simp [hx]

set_option maxRecDepth 100000 in
set_option maxHeartbeats 4000000 in
theorem methods_any (f : Int) (w : World) : Calls Try.prog 30 #[.int .i64 f] w fun e w' => ∃ a n c, e = .returned (.slice a n c) ∧ RowsOf EI 1 w' (Btw w.heap.size w'.heap.size) (methL f) a n c ∧ Below w.heap.size w w' := by
  go_enter Try.func30, Try.ntmps30
  go_wp2_with fail
  all_goals
    go_ret
    refine ⟨_, _, _, rfl, ?_, by go_grown⟩
    try rw [World.size_alloc]
    first
      | (rw [show methL f = [] by simp_all [methL]]; exact RowsOf.nil _ _ (by decide))
      | (rw [show methL f = [0] by simp_all [methL]]; exact ints_new w _ _ (by decide) rfl)
      | (rw [show methL f = [1] by simp_all [methL]]; exact ints_new w _ _ (by decide) rfl)
      | (rw [show methL f = [2] by simp_all [methL]]; exact ints_new w _ _ (by decide) rfl)
      | (rw [show methL f = [3] by simp_all [methL]]; exact ints_new w _ _ (by decide) rfl)
      | (rw [show methL f = [4] by simp_all [methL]]; exact ints_new w _ _ (by decide) rfl)
      | (rw [show methL f = [5] by simp_all [methL]]; exact ints_new w _ _ (by decide) rfl)
      | (rw [show methL f = [0, 1] by simp_all [methL]]; exact ints_new w _ _ (by decide) rfl)
      | (rw [show methL f = [0, 4] by simp_all [methL]]; exact ints_new w _ _ (by decide) rfl)
      | (rw [show methL f = [4, 5] by simp_all [methL]]; exact ints_new w _ _ (by decide) rfl)
      | (rw [show methL f = [0, 1, 4] by simp_all [methL]]; exact ints_new w _ _ (by decide) rfl)

set_option maxRecDepth 100000 in
set_option maxHeartbeats 4000000 in
theorem methods_ref (f : Int) (w : World) : Calls Try.prog 31 #[.int .i64 f] w fun e w' => ∃ a n c, e = .returned (.slice a n c) ∧ RowsOf EI 1 w' (Btw w.heap.size w'.heap.size) (methL f) a n c ∧ Below w.heap.size w w' := by
  go_enter Try.func31, Try.ntmps31
  go_wp2_with fail
  all_goals
    go_ret
    refine ⟨_, _, _, rfl, ?_, by go_grown⟩
    try rw [World.size_alloc]
    first
      | (rw [show methL f = [] by simp_all [methL]]; exact RowsOf.nil _ _ (by decide))
      | (rw [show methL f = [0] by simp_all [methL]]; exact ints_new w _ _ (by decide) rfl)
      | (rw [show methL f = [1] by simp_all [methL]]; exact ints_new w _ _ (by decide) rfl)
      | (rw [show methL f = [2] by simp_all [methL]]; exact ints_new w _ _ (by decide) rfl)
      | (rw [show methL f = [3] by simp_all [methL]]; exact ints_new w _ _ (by decide) rfl)
      | (rw [show methL f = [4] by simp_all [methL]]; exact ints_new w _ _ (by decide) rfl)
      | (rw [show methL f = [5] by simp_all [methL]]; exact ints_new w _ _ (by decide) rfl)
      | (rw [show methL f = [0, 1] by simp_all [methL]]; exact ints_new w _ _ (by decide) rfl)
      | (rw [show methL f = [0, 4] by simp_all [methL]]; exact ints_new w _ _ (by decide) rfl)
      | (rw [show methL f = [4, 5] by simp_all [methL]]; exact ints_new w _ _ (by decide) rfl)
      | (rw [show methL f = [0, 1, 4] by simp_all [methL]]; exact ints_new w _ _ (by decide) rfl)

theorem methL_bd (f : Int) : ∀ m ∈ methL f, 0 ≤ m ∧ m < 6 := by
  unfold methL
  repeat' split
  all_goals simp
theorem methL_len (f : Int) : (methL f).length ≤ 3 := by
  unfold methL
  repeat' split
  all_goals simp

/-- The first method that a kind lacks of an interface. -/
def lackL (k : Int) : List Int → Int
  | [] => -1
  | m :: l => if hasM k m = true then lackL k l else m
def lacksT (k f : Int) : Int := if k < 0 ∨ 14 ≤ k then -1 else lackL k (methL f)
theorem lackL_all (k : Int) : ∀ l : List Int, (∀ m ∈ l, 0 ≤ m) → (lackL k l = -1 ↔ l.all (hasM k) = true)
  | [], _ => by simp [lackL]
  | m :: l, h => by
    rw [lackL]
    have h0 := h m (by simp)
    split
    · rename_i hh
      rw [lackL_all k l (fun x hx => h x (by simp [hx]))]
      simp [hh]
    · rename_i hh
      simp [hh]
      omega
theorem hasM_out {k : Int} (h : k ≤ 0 ∨ 14 ≤ k) (m : Int) : hasM k m = false := by
  unfold hasM
  repeat' split
  all_goals (try rfl)
  all_goals (rw [decide_eq_false_iff_not]; omega)
theorem lack_drop {k : Int} {l : List Int} {j : Nat} {x : Int} (hx : l[j]? = some x) : lackL k (l.drop j) = if hasM k x = true then lackL k (l.drop (j + 1)) else x := by
  obtain ⟨hi, rfl⟩ := List.getElem?_eq_some_iff.1 hx
  rw [List.drop_eq_getElem_cons hi, lackL]
end Go.Proofs.Ytpemgccocmdmbaa
