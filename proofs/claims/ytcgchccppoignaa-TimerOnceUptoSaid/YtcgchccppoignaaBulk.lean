/- What the bound of an Upto statement gives: a list that comes in is no longer than it. -/
import Derived.Test.YtcgchccppoignaaU
namespace Go.Proofs.Ytcgchccppoignaa
open Go.RowKit Go.ChangeShapes Go.WideShapes

theorem bulk_pos {H : Type} (d : DataW H) : 1 ≤ Rows.uptoBulk d := by
  cases d with
  | lit l => cases l <;> simp [Rows.uptoBulk]
  | _ => simp [Rows.uptoBulk]
theorem bulk_count {H : Type} : ∀ (l : List (DataW H)), l.length ≤ Rows.uptoBulkAll l
  | [] => by simp
  | x :: r => by
    have h1 := bulk_pos x
    have h2 := bulk_count r
    simp only [Rows.uptoBulkAll, List.length_cons]
    omega
theorem bulk_part {H : Type} {d : DataW H} : ∀ {l : List (DataW H)}, d ∈ l → Rows.uptoBulk d ≤ Rows.uptoBulkAll l
  | [], h => by cases h
  | x :: r, h => by
    simp only [Rows.uptoBulkAll]
    rcases List.mem_cons.1 h with rfl | h
    · omega
    · have := bulk_part h; omega
theorem bulk_bound {H : Type} {l : List (DataW H)} (hk : Rows.uptoSmall H l = true) {d : DataW H} (hd : d ∈ l) : Rows.uptoBulk d ≤ 1048576 := by
  have h1 : Rows.uptoBulkAll l ≤ 1048576 := of_decide_eq_true hk
  have := bulk_part hd
  omega
/-- A slice's length is within its bulk. -/
theorem slice_bulk {H : Type} {enc : TypeId × Value → H} {P : Program} {w : World} {S T : TypeId} {a : Option Addr} {n c : Nat} {d : DataW H} {p : List MemPlace} {spare : Nat → Bool} {held : Bool} (hS : P.underlying S = some (.slice T))
    (tr : DataW.Trod enc P w 0 spare held S (.slice a n c) d p) : n ≤ Rows.uptoBulk d := by
  obtain ⟨fuel, hf⟩ := tr
  rcases DataW.trod_slice hS hf with ⟨hcs, _⟩ | ⟨a', len, cap, elems, rest, m, _, hcs, hd, _, _, _, hlen, _⟩
  · have h : [Value.slice a n c] = [.slice none 0 0] := hcs
    injection h with h
    injection h with _ h
    omega
  · have h : [Value.slice a n c] = [.slice (some a') len cap] := hcs
    injection h with h
    injection h with _ h
    have := bulk_count (elems.map (·.1))
    injection hd with hd
    subst hd
    simp only [Rows.uptoBulk]
    rw [List.length_map] at this
    omega
end Go.Proofs.Ytcgchccppoignaa
