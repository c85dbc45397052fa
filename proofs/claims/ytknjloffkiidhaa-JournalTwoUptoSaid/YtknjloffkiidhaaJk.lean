/- Bytes in memory; the machine's bit operations on numbers; blocks known whole. -/
import Derived.Test.YtknjloffkiidhaaApp
import Derived.Test.YtknjloffkiidhaaJp
import Derived.Laws.BytesArg
import Derived.Deep.AppendLies
import Derived.Deep.RegionHeld3
import Derived.Deep.DrawnRows
import Derived.Deep.RegionLaw
import Derived.Shelf.Bytes.SlSmallAll
namespace Go.Proofs.Ytknjloffkiidhaa
open Go.RowKit

def Blk (w : World) (g : Nat) (t : TypeId) (cs : Array Value) : Prop := w.heap[g]? = some (.cells cs t (0, 0))
section
variable {w w' : World} {g : Nat} {t : TypeId} {cs : Array Value}
theorem Blk.lt (h : Blk w g t cs) : g < w.heap.size := (Array.getElem?_eq_some_iff.1 h).1
theorem Blk.cell (h : Blk w g t cs) (i : Nat) : w.cell? ⟨g, i, none⟩ = cs[i]? := cell_of_row w g i cs t (0, 0) h
theorem Blk.free (h : Blk w g t cs) (i : Nat) : w.frozen? ⟨g, i, none⟩ = false := by
  unfold Blk at h
  simp [World.frozen?, h]
theorem Blk.under {B : Nat} (h : Blk w g t cs) (hb : Below B w w') (hg : g < B) : Blk w' g t cs := (hb.block g hg).trans h
theorem Blk.alloc (h : Blk w g t cs) (o : Obj) : Blk (w.alloc o) g t cs := (Below.heap_alloc w o g h.lt).trans h
theorem Blk.new (w : World) (t : TypeId) (cs : Array Value) : Blk (w.alloc (.cells cs t)) w.heap.size t cs := heap_alloc_new w _
theorem Blk.new' (w : World) (t : TypeId) (cs : Array Value) {n : Nat} (hn : n = w.heap.size) : Blk (w.alloc (.cells cs t)) n t cs := by subst hn; exact heap_alloc_new w _
theorem Blk.set (h : Blk w g t cs) (i : Nat) (u : Value) : Blk (w.setCell ⟨g, i, none⟩ u) g t (cs.setIfInBounds i u) := by
  unfold Blk at h ⊢
  simp [World.setCell, Array.getElem?_modify, h]
theorem Blk.far (h : Blk w g t cs) {p : Addr} (hp : g ≠ p.block) (u : Value) : Blk (w.setCell p u) g t cs := (Below.heap_setCell w p u g hp).trans h
theorem Blk.grown {row : Option Nat} (h : Blk w g t cs) (hb : w.grownBy w' row) (hg : some g ≠ row) : Blk w' g t cs := (hb.block g h.lt hg).trans h
end
theorem own_keep {w w' : World} {B E size : Nat} {v : Value} {n : Nat} {xs : List Value} (h : w.ownsRow B E size v n xs) (hk : ∀ g, v.ownBlock = some g → w'.heap[g]? = w.heap[g]?) : w'.ownsRow B E size v n xs := by
  refine ⟨h.1, ?_⟩
  rcases h.2 with h0 | ⟨g, cap, cur, hv, hg, hh, rest⟩
  · exact .inl h0
  · subst hv
    exact .inr ⟨g, cap, cur, rfl, hg, by rw [hk g rfl]; exact hh, rest⟩
theorem own_row {w : World} {B E size : Nat} {v : Value} {n : Nat} {xs : List Value} (h : w.ownsRow B E size v n xs) : ∀ g, v.ownBlock = some g → B ≤ g ∧ g < w.heap.size := fun g hg => h.lt g hg
theorem below_on {w W w1 : World} (hb : Below W.heap.size W w1) (h : Below w.heap.size w W) : Below w.heap.size w w1 := h.trans (hb.mono h.size)
theorem cell_on {W w1 : World} (hb : Below W.heap.size W w1) {b o : Nat} {v : Value} (h : W.cell? ⟨b, o, none⟩ = some v) : w1.cell? ⟨b, o, none⟩ = some v := cell_over hb (World.block_lt_of_cell? _ _ h) h

/-! The machine's bit operations -/
theorem bits32_xor {a b : Nat} (ha : a < 4294967296) (hb : b < 4294967296) : bits .xor .u32 (a : Int) (b : Int) = ((a ^^^ b : Nat) : Int) := by
  have h := Nat.xor_lt_two_pow (n := 32) ha hb
  have e : (BitVec.ofInt 32 (a : Int) ^^^ BitVec.ofInt 32 (b : Int)).toNat = a ^^^ b := by
    rw [BitVec.toNat_xor, BitVec.ofInt_natCast, BitVec.ofInt_natCast, BitVec.toNat_ofNat, BitVec.toNat_ofNat, Nat.mod_eq_of_lt (by omega), Nat.mod_eq_of_lt (by omega)]
  show IntKind.u32.wrap ((BitVec.ofInt 32 (a : Int) ^^^ BitVec.ofInt 32 (b : Int)).toNat : Int) = _
  rw [e, IntKind.wrap_u32']
  omega
theorem bits32_one {a : Nat} (ha : a < 4294967296) : bits .and .u32 (a : Int) 1 = ((a % 2 : Nat) : Int) := by
  have h : a &&& 1 ≤ a := Nat.and_le_left
  have e : (BitVec.ofInt 32 (a : Int) &&& BitVec.ofInt 32 ((1 : Nat) : Int)).toNat = a &&& 1 := by
    rw [BitVec.toNat_and, BitVec.ofInt_natCast, BitVec.ofInt_natCast, BitVec.toNat_ofNat, BitVec.toNat_ofNat, Nat.mod_eq_of_lt (by omega), Nat.mod_eq_of_lt (by omega)]
  show IntKind.u32.wrap ((BitVec.ofInt 32 (a : Int) &&& BitVec.ofInt 32 ((1 : Nat) : Int)).toNat : Int) = _
  rw [e, IntKind.wrap_u32', ← Nat.and_one_is_mod]
  omega
theorem bits8_one {a : Nat} (ha : a < 256) : bits .and .u8 (a : Int) 1 = ((a % 2 : Nat) : Int) := by
  have h : a &&& 1 ≤ a := Nat.and_le_left
  have e : (BitVec.ofInt 8 (a : Int) &&& BitVec.ofInt 8 ((1 : Nat) : Int)).toNat = a &&& 1 := by
    rw [BitVec.toNat_and, BitVec.ofInt_natCast, BitVec.ofInt_natCast, BitVec.toNat_ofNat, BitVec.toNat_ofNat, Nat.mod_eq_of_lt (by omega), Nat.mod_eq_of_lt (by omega)]
  show IntKind.u8.wrap ((BitVec.ofInt 8 (a : Int) &&& BitVec.ofInt 8 ((1 : Nat) : Int)).toNat : Int) = _
  rw [e, IntKind.wrap_u8', ← Nat.and_one_is_mod]
  omega

/-! Bytes in memory -/
def BY (w : World) (S : Nat → Prop) (a : Option Addr) (l : List Nat) : Prop := Bytes l ∧ (0 < l.length → ∃ g o, a = some ⟨g, o, none⟩ ∧ S g ∧ ∀ (i : Nat) (x : Nat), l[i]? = some x → w.cell? ⟨g, o + i, none⟩ = some (.int .u8 (x : Int)))
theorem BY.at {w : World} {S : Nat → Prop} {a : Option Addr} {l : List Nat} (h : BY w S a l) {i : Nat} (hi : i < l.length) : ∃ g o x, a = some ⟨g, o, none⟩ ∧ S g ∧ l[i]? = some x ∧ x < 256 ∧ w.cell? ⟨g, o + i, none⟩ = some (.int .u8 x) := by
  obtain ⟨g, o, ha, hS, hc⟩ := h.2 (by omega)
  exact ⟨g, o, l[i], ha, hS, List.getElem?_eq_getElem hi, h.1 _ (List.getElem_mem hi), hc i _ (List.getElem?_eq_getElem hi)⟩
theorem BY.keep {w w' : World} {S S' : Nat → Prop} {a : Option Addr} {l : List Nat} (h : BY w S a l) (hS : ∀ b, S b → S' b) (hk : ∀ b, S b → ∀ j, w'.cell? ⟨b, j, none⟩ = w.cell? ⟨b, j, none⟩) : BY w' S' a l :=
  ⟨h.1, fun h0 => by
    obtain ⟨g, o, ha, hs, hc⟩ := h.2 h0
    exact ⟨g, o, ha, hS g hs, fun i x hx => by rw [hk g hs]; exact hc i x hx⟩⟩
theorem BY.under {w w' : World} {S : Nat → Prop} {B : Nat} {a : Option Addr} {l : List Nat} (h : BY w S a l) (hb : Below B w w') (hS : ∀ b, S b → b < B) : BY w' S a l :=
  h.keep (fun _ h => h) fun b hs j => hb.cell (p := ⟨b, j, none⟩) (hS b hs)
theorem BY.mono {w : World} {S S' : Nat → Prop} {a : Option Addr} {l : List Nat} (h : BY w S a l) (hS : ∀ b, S b → S' b) : BY w S' a l := h.keep hS fun _ _ _ => rfl
theorem BY.nil (w : World) (S : Nat → Prop) (a : Option Addr) : BY w S a [] := ⟨(fun _ h => absurd h (by simp)), (fun h => absurd h (by simp))⟩
/-- A piece of them. -/
theorem BY.piece {w : World} {S : Nat → Prop} {g o : Nat} {l : List Nat} (h : BY w S (some ⟨g, o, none⟩) l) (i n : Nat) : BY w S (some ⟨g, o + i, none⟩) ((l.drop i).take n) :=
  ⟨(h.1.drop i).take n, fun h0 => by
    obtain ⟨g', o', ha, hs, hc⟩ := h.2 (by simp at h0; omega)
    injection ha with ha
    injection ha with e1 e2
    subst e1 e2
    refine ⟨g, o + i, rfl, hs, fun j x hx => ?_⟩
    rw [List.getElem?_take] at hx
    split at hx
    · rw [List.getElem?_drop] at hx
      have := hc (i + j) x hx
      rwa [← Nat.add_assoc] at this
    · cases hx⟩
/-- A row of the call's own, read as bytes. -/
theorem BY.own {w : World} {B T : Nat} {a : Option Addr} {n c : Nat} {l : List Nat} (h : w.ownsRow B T 1 (.slice a n c) n (l.map fun x : Nat => Value.int .u8 x)) (hl : Bytes l) : BY w (fun b => B ≤ b ∧ b < w.heap.size) a l ∧ l.length = n ∧ n ≤ c ∧ c ≤ maxLen := by
  have hn : l.length = n := by simpa using h.1
  refine ⟨⟨hl, fun h0 => ?_⟩, hn, ?_⟩
  · obtain ⟨g, cap, hv, hg, hlt⟩ := h.form (by omega)
    have ha : a = some ⟨g, 0, none⟩ := by injection hv
    refine ⟨g, 0, ha, ⟨hg, hlt⟩, fun i x hx => ?_⟩
    have := h.cells (g := g) (by rw [ha]; rfl) i (.int .u8 x) (by rw [List.getElem?_map, hx]; rfl)
    rw [Addr.add_mid] at this
    simpa using this
  · rcases h.2 with ⟨h1, h2⟩ | ⟨g, cap, cur, hv, _, _, h3, h4, _⟩
    · injection h1 with _ h5 h6
      subst h6
      exact ⟨by omega, Nat.zero_le _⟩
    · injection hv with _ _ h6
      subst h6
      exact ⟨h3, h4⟩

/-- The string of such bytes. -/
def SB (l : List Nat) : ByteArray := strOfNums (l.map fun x : Nat => (x : Int))
theorem SB_inj {l m : List Nat} (hl : Bytes l) (hm : Bytes m) (h : SB l = SB m) : l = m := by
  have h' : (SB l).data.toList = (SB m).data.toList := by rw [h]
  simp only [SB, strOfNums_data, List.map_map] at h'
  have e : ∀ l : List Nat, Bytes l → (l.map ((fun n : Int => UInt8.ofNat n.toNat) ∘ fun x : Nat => (x : Int))).map UInt8.toNat = l := fun l hl => by
    rw [List.map_map]
    conv => rhs; rw [← List.map_id l]
    refine List.map_congr_left fun x hx => ?_
    have := hl x hx
    simp [UInt8.toNat_ofNat']
    omega
  rw [← e l hl, ← e m hm, h']
theorem SB_dec {l m : List Nat} (hl : Bytes l) (hm : Bytes m) : decide (SB l = SB m) = decide (l = m) := by
  rw [Bool.eq_iff_iff, decide_eq_true_eq, decide_eq_true_eq]
  exact ⟨SB_inj hl hm, fun h => by rw [h]⟩
theorem BY.conv {w : World} {S : Nat → Prop} {a : Option Addr} {l : List Nat} (h : BY w S a l) {n : Nat} (hn : l.length = n) (c : Nat) : (convert 22 9 (.slice a n c)).run Try.prog w = .ok (.string (SB l)) w := by
  subst hn
  rcases Nat.eq_zero_or_pos l.length with e | e
  · obtain rfl : l = [] := List.eq_nil_of_length_eq_zero e
    exact run_convert_bytes_zero w _ _ Try.underlying22 Try.underlying5 a c _ Try.underlying9
  · obtain ⟨g, o, rfl, _, hc⟩ := h.2 e
    refine run_convert_bytes_arg w _ _ Try.underlying22 Try.underlying5 g o l.length c _ (by simp) (fun i hi => ?_) _ Try.underlying9
    rw [hc i _ (List.getElem?_eq_getElem hi)]
    simp [List.getD_eq_getElem?_getD, List.getElem?_map, List.getElem?_eq_getElem hi]
end Go.Proofs.Ytknjloffkiidhaa
