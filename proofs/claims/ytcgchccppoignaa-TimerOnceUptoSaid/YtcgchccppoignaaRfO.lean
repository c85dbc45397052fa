/- Timer: TimerOnce, what holds of what has fired. -/
import Derived.Test.YtcgchccppoignaaRfN
namespace Go.Proofs.Ytcgchccppoignaa
open Go.RowKit
attribute [local go_sem ↓] Go.wp_at_zero Go.wp_at_succ
attribute [local go_sem] Go.undef

theorem Fires.perm {α : Type} {f : α → Nat} {T : Nat} {L F R : List α} (h : Fires f T L F R) : L.Perm (F ++ R) := by
  induction h with
  | done => exact List.Perm.refl _
  | @step L F R k x h1 h2 h3 _ ih =>
    obtain ⟨hk, rfl⟩ := List.getElem?_eq_some_iff.1 h2
    have e : L = L.take k ++ L[k] :: L.drop (k + 1) := by rw [List.getElem_cons_drop, List.take_append_drop]
    have hp : L.Perm (L[k] :: L.eraseIdx k) := by
      rw [List.eraseIdx_eq_take_drop_succ]
      exact (List.Perm.of_eq e).trans List.perm_middle
    exact hp.trans (List.Perm.cons _ ih)
theorem Fires.le {α : Type} {f : α → Nat} {T : Nat} {L F R : List α} (h : Fires f T L F R) : ∀ x, x ∈ F → x ∈ L ∧ f x ≤ T := by
  induction h with
  | done => intro x hx; cases hx
  | @step L F R k x h1 h2 h3 _ ih =>
    intro y hy
    rcases List.mem_cons.1 hy with rfl | hy
    · exact ⟨List.mem_of_getElem? h2, h3⟩
    · exact ⟨List.mem_of_mem_eraseIdx (ih y hy).1, (ih y hy).2⟩
theorem Dst.ids {L : List Tm} (h : Dst L) : (L.map fun x => x.id).Nodup := by
  rw [List.nodup_iff_pairwise_ne, List.pairwise_map]
  refine List.Pairwise.imp_of_mem (fun {x y} hx hy hne e => hne (h.id x y hx hy e)) (List.nodup_iff_pairwise_ne.1 h.nd)
/-- What fires at the least tick. -/
theorem fires_least {L F R : List Tm} {v : Nat} (hd : Dst L) (hv : LeastOf L v) (h : Fires atT v L F R) : F ≠ [] ∧ (∀ x, x ∈ F → x.at_ = v) ∧ ((F ++ R).map fun x => x.id).Nodup := by
  refine ⟨fun e => ?_, fun x hx => ?_, ?_⟩
  · subst e
    obtain ⟨⟨x, hx, he⟩, -⟩ := hv
    have := (h.perm.mem_iff.1 hx)
    have h2 := (h.rest x (by simpa using this)).2
    have h3 : atT x = x.at_ := rfl
    omega
  · have h1 := h.le x hx
    have h2 := hv.2 x h1.1
    have h3 : atT x = x.at_ := rfl
    omega
  · exact (h.perm.map _).nodup_iff.1 hd.ids
theorem fires_before {L F R : List Tm} {v : Nat} (hv : LeastOf L v) (h0 : 0 < v) (h : Fires atT (v - 1) L F R) : F = [] ∧ R = L := by
  obtain ⟨rfl, rfl⟩ := h.det (.done fun x hx => by have := hv.2 x hx; show v - 1 < x.at_; omega)
  exact ⟨rfl, rfl⟩
/-- The ids that were given. -/
def idv (l : List Int) : List Value := l.map fun q => Value.int .i64 q
def fid (F : List Tm) : List Int := F.map fun x => x.id
theorem idv_len (l : List Int) : (idv l).length = l.length := by simp [idv]
theorem idv_snoc (l : List Int) (q : Int) : idv (l ++ [q]) = idv l ++ [.int .i64 q] := by simp [idv]
theorem idv_get {l : List Int} {k : Nat} {q : Int} (h : l[k]? = some q) : (idv l)[k]? = some (.int .i64 q) := by simp [idv, h]
theorem infoI : (Try.prog.info? 2).map (fun i => (i.zero, i.size, i.bytes)) = some (some (.int .i64 0), 1, 8) := by kernel_rfl
/-- A turn of the ids. -/
theorem fid_take {F : List Tm} {j : Nat} {x : Tm} (h : F[j]? = some x) : fid (F.take (j + 1)) = fid (F.take j) ++ [x.id] := by
  rw [← take_snocT h, fid, fid, List.map_append]
  rfl
theorem fid_new {idl : List Int} {F R L : List Tm} {j k : Nat} {x : Tm} {q : Int} (hn : ((F ++ R).map fun x => x.id).Nodup) (ho : ∀ y, y ∈ L → y.id ∉ idl) (hs : ∀ y, y ∈ F → y ∈ L) (h : F[j]? = some x) (hq : (idl ++ fid (F.take j))[k]? = some q) : q ≠ x.id := by
  rintro rfl
  have hm := List.mem_of_getElem? hq
  rcases List.mem_append.1 hm with hm | hm
  · exact ho x (hs x (List.mem_of_getElem? h)) hm
  · obtain ⟨y, hy, e⟩ := List.mem_map.1 hm
    rw [List.map_append] at hn
    have hn := (List.nodup_append.1 hn).1
    obtain ⟨i, hi⟩ := List.getElem?_of_mem hy
    obtain ⟨hij, hi⟩ := take_get hi
    obtain ⟨h1, e1⟩ := List.getElem?_eq_some_iff.1 hi
    obtain ⟨h2, e2⟩ := List.getElem?_eq_some_iff.1 h
    have hp := List.pairwise_iff_getElem.1 (List.nodup_iff_pairwise_ne.1 hn) i j (by simpa using h1) (by simpa using h2) hij
    exact hp (by simp [e1, e2, e])
theorem fid_rest {F R : List Tm} {x : Tm} (hn : ((F ++ R).map fun x => x.id).Nodup) (hx : x ∈ F) : R.any (fun y => y.id == x.id) = false := by
  rw [List.any_eq_false]
  intro y hy e
  rw [List.map_append] at hn
  exact (List.nodup_append.1 hn).2.2 _ (List.mem_map.2 ⟨x, hx, rfl⟩) _ (List.mem_map.2 ⟨y, hy, rfl⟩) (by simpa using Eq.symm (by simpa using e))
theorem fid_keeps {idl : List Int} {F R L : List Tm} (hn : ((F ++ R).map fun x => x.id).Nodup) (ho : ∀ y, y ∈ L → y.id ∉ idl) (hr : ∀ y, y ∈ R → y ∈ L) : ∀ y, y ∈ R → y.id ∉ idl ++ fid F := fun y hy hm => by
  rcases List.mem_append.1 hm with hm | hm
  · exact ho y (hr y hy) hm
  · obtain ⟨x, hx, e⟩ := List.mem_map.1 hm
    rw [List.map_append] at hn
    exact (List.nodup_append.1 hn).2.2 _ (List.mem_map.2 ⟨x, hx, rfl⟩) _ (List.mem_map.2 ⟨y, hy, rfl⟩) e
end Go.Proofs.Ytcgchccppoignaa
