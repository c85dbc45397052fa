/- What a call leaves of the blocks that were there. -/
import Derived.Test.YtmkbdjekidcfaaaTmV
namespace Go.Proofs.Ytmkbdjekidcfaaa
open Go.RowKit
/-- Nothing of what was there has turned but the blocks of W. -/
structure WT (W : Nat → Prop) (w w' : World) : Prop where
  os : w'.os = w.os
  tape : w'.tape = w.tape
  output : w'.output = w.output
  size : w.heap.size ≤ w'.heap.size
  far : ∀ g, g < w.heap.size → ¬ W g → w'.heap[g]? = w.heap[g]?
section
variable {W W' : Nat → Prop} {w w' w'' : World}
theorem WT.refl (W : Nat → Prop) (w : World) : WT W w w := ⟨rfl, rfl, rfl, Nat.le_refl _, fun _ _ _ => rfl⟩
theorem WT.trans (h : WT W w w') (h' : WT W' w' w'') (hw : ∀ g, W' g → W g ∨ w.heap.size ≤ g) : WT W w w'' :=
  ⟨h'.os.trans h.os, h'.tape.trans h.tape, h'.output.trans h.output, Nat.le_trans h.size h'.size, fun g hg hn => (h'.far g (Nat.lt_of_lt_of_le hg h.size) fun h2 => by
    rcases hw g h2 with h3 | h3
    · exact hn h3
    · omega).trans (h.far g hg hn)⟩
theorem WT.more (h : WT W w w') (hw : ∀ g, W g → W' g) : WT W' w w' := ⟨h.os, h.tape, h.output, h.size, fun g hg hn => h.far g hg fun h2 => hn (hw g h2)⟩
theorem WT.below (h : WT W w w') {B : Nat} (hB : B ≤ w.heap.size) (hw : ∀ g, W g → B ≤ g) : Below B w w' :=
  ⟨h.os, h.tape, h.output, h.size, fun k hk => h.far k (by omega) fun h2 => by have := hw k h2; omega⟩
theorem WT.of_below (h : Below w.heap.size w w') : WT W w w' := ⟨h.os, h.tape, h.output, h.size, fun g hg _ => h.block g hg⟩
theorem WT.drewN (w : World) (n : Nat) : WT W w (w.drewN n) := WT.of_below ⟨rfl, rfl, rfl, Nat.le_refl _, fun _ _ => rfl⟩
theorem WT.of_grown {row : Option Nat} (h : w.grownBy w' row) (hr : ∀ g, row = some g → W g) : WT W w w' :=
  have hb := (Below.refl 0 w).grown h (Nat.zero_le _) (fun _ _ => Nat.zero_le _)
  ⟨hb.os, hb.tape, hb.output, hb.size, fun g hg hn => h.block g hg fun e => hn (hr g e.symm)⟩
theorem WT.set (w : World) {g o : Nat} (hg : W g) (v : Value) : WT W w (w.setCell ⟨g, o, none⟩ v) :=
  have hb := (Below.refl 0 w).setCell (p := ⟨g, o, none⟩) (Nat.zero_le _) v
  ⟨hb.os, hb.tape, hb.output, hb.size, fun k _ hn => RowKit.Below.heap_setCell _ _ _ _ fun e => hn (by rw [e]; exact hg)⟩
theorem WT.cell (h : WT W w w') {g o : Nat} {v : Value} (hg : ¬ W g) (hc : w.cell? ⟨g, o, none⟩ = some v) : w'.cell? ⟨g, o, none⟩ = some v := by
  rw [World.cell?_of_block (w := w) (a := ⟨g, o, none⟩) (h.far g ?_ hg)]; exact hc
  rcases Nat.lt_or_ge g w.heap.size with h1 | h1
  · exact h1
  · exfalso
    have : w.heap[g]? = none := Array.getElem?_eq_none h1
    simp [World.cell?, this] at hc
theorem cell_lt {g o : Nat} {v : Value} (hc : w.cell? ⟨g, o, none⟩ = some v) : g < w.heap.size := by
  rcases Nat.lt_or_ge g w.heap.size with h1 | h1
  · exact h1
  · exfalso
    have : w.heap[g]? = none := Array.getElem?_eq_none h1
    simp [World.cell?, this] at hc
end

/-! ### the map of timers -/
end Go.Proofs.Ytmkbdjekidcfaaa
