/- bytes.Clone, of bytes at an address; what an append of bytes asks. -/
import Derived.Test.YtknjloffkiidhaaJf
import Derived.WalkSpells
namespace Go.Proofs.Ytknjloffkiidhaa
open Go.RowKit Go.Deep
attribute [local go_sem] Go.undef

def VB (l : List Nat) : List Value := l.map fun x : Nat => Value.int .u8 x
theorem VB_len (l : List Nat) : (VB l).length = l.length := by simp [VB]
theorem VB_app (l m : List Nat) : VB (l ++ m) = VB l ++ VB m := by simp [VB]
theorem VB_one (l : List Nat) : ∀ u ∈ VB l, u.oneCell' = true := fun u hu => by
  obtain ⟨x, _, rfl⟩ := List.mem_map.1 hu
  rfl
theorem BY.news {w : World} {S : Nat → Prop} {a : Option Addr} {l : List Nat} (h : BY w S a l) : ∀ ad, a = some ad → ∀ (j : Nat) (u : Value), (VB l)[j]? = some u → w.cell? (ad.add j) = some u := fun ad ha j u hu => by
  rw [VB, List.getElem?_map] at hu
  obtain ⟨x, hx, rfl⟩ := Option.map_eq_some_iff.1 hu
  obtain ⟨g, o, h1, _, hc⟩ := h.2 (by have := (List.getElem?_eq_some_iff.1 hx).1; omega)
  rw [ha] at h1
  injection h1 with h1
  subst h1
  rw [Go.WideShapes.add_plain]
  exact hc j x hx
theorem BY.some {w : World} {S : Nat → Prop} {a : Option Addr} {l : List Nat} (h : BY w S a l) (h0 : 0 < l.length) : a.isSome = true := by
  obtain ⟨g, o, rfl, _⟩ := h.2 h0
  rfl
theorem own_slice {w : World} {B T n : Nat} {v : Value} {xs : List Value} (h : w.ownsRow B T 1 v n xs) : ∃ a c, v = .slice a n c := by
  rcases h.2 with ⟨rfl, rfl⟩ | ⟨g, cap, cur, rfl, _⟩
  · exact ⟨_, _, rfl⟩
  · exact ⟨_, _, rfl⟩
theorem info8 : (Try.prog.info? 5).map (fun i => (i.zero, i.size, i.bytes)) = some (some (.int .u8 0), 1, 1) := by kernel_rfl

set_option maxRecDepth 100000 in
set_option maxHeartbeats 4000000 in
theorem clone_any (w : World) (S : Nat → Prop) (g o : Nat) (l : List Nat) (n c : Nat) (hn : l.length = n) (hm : n ≤ 1048576) (h : BY w S (some ⟨g, o, none⟩) l) (hS : ∀ b, S b → b < w.heap.size) :
    Calls Try.prog 21 #[.slice (some ⟨g, o, none⟩) n c] w fun e w' => ∃ a' c', e = .returned (.slice a' n c') ∧ w'.ownsRow w.heap.size 5 1 (.slice a' n c') n (VB l) ∧ Below w.heap.size w w' := by
  obtain ⟨i0, hi0, hz0, hz1, hz2⟩ := info_parts info8
  have q22 : ∀ (w : World) (a : Option Addr) (n c n' c' : Nat), (binOp .eql 22 (.slice a n c) (.slice none n' c')).run Try.prog w = .ok (.bool a.isNone) w := fun w a n c n' c' => Lib.run_eql_slice_nil w _ _ a n c n' c' Try.underlying22
  have h2 : BY (w.alloc (.cells #[] 5)) S (some ⟨g, o, none⟩) l := h.under (B := w.heap.size) (by go_grown) hS
  have hl := VB_len l
  have HH := Lib.hid h2
  have hone := VB_one l
  have HON := Lib.hid hone
  rw [hn] at hl
  clear h h2 hone hS hn
  go_enter Try.func21, Try.ntmps21
  go_wp2_with (at_builtin; refine wpList_append_any _ rfl _ _ 22 rfl w.heap.size 5 i0 _ 1 1 Try.underlying22 hi0 hz0 hz1 hz2 rfl (by omega) _ 0 [] rfl (World.ownsRow_made w #[] 0 (Nat.le_refl _) (by decide) rfl) (some ⟨g, o, none⟩) n c (VB l) rfl ?a0 ?a1 ?a2 ?a3 ?a4 ?a5 ?a6 ?_)
  case a0 => intro _; rfl
  case a1 => rw [hl, Nat.mul_one]
  case a2 => exact HH.out.news
  case a3 => exact HON.out
  case a4 => unfold maxLen; omega
  case a5 => omega
  case a6 => simp
  intro v1 w1 hown hgr
  obtain ⟨a1, c1, rfl⟩ := own_slice hown
  have hB : Below w.heap.size w w1 := ((Below.refl _ _).alloc (Nat.le_refl _) _).grown hgr (by simp) (fun k hk => by cases hk; exact Nat.le_refl _)
  clear hgr
  go_wp2_with fail
  go_ret
  exact ⟨a1, c1, rfl, hown, hB⟩
end Go.Proofs.Ytknjloffkiidhaa
