/- Chapter 2's examples. -/
import Derived.Test.YtpemgccocmdmbaaFs
import Derived.Test.YtpemgccocmdmbaaMc
namespace Go.Proofs.Ytpemgccocmdmbaa
open Go.RowKit Go.Deep

theorem IsD.leaf (w : World) (S : Nat → Prop) (k i b : Int) (t : ByteArray) (hk : (Lit.int .i64 k).wf = true) (hi : (Lit.int .i64 i).wf = true) (hb : (Lit.int .u64 b).wf = true) (ht : t.size ≤ maxLen) : IsD w S (.node k i b t []) [.int .i64 k, .int .i64 i, .int .u64 b, .string t, .slice none 0 0] :=
  IsD.shut hk hi hb ht (RowsOf.nil none 0 (by decide))
theorem ex1 : holdsB (kindsW (.node 2 11 [])) 12 = true := by rw [kindsW_node]; decide
theorem ex2 : holdsB (kindsW (.node 1 0 [])) 0 = false := by rw [kindsW_node]; decide
theorem ex3 : faceT 5 9 = true := by decide
theorem ex4 : fitW (.node 1 0 []) = true := by unfold fitW; rw [lookW_node, lookL_nil]; decide
theorem ex5 : coversB (kindsW (.node 1 0 [])) (kindsW (.node 2 1 [])) = true := by rw [kindsW_node, kindsW_node]; decide
theorem ex6 : firstN 12 [.node 2 1 []] 0 = -1 := by rw [firstN, firstN, kindsW_node]; decide
theorem rows_of_blk {α : Type} {E : α → List Value → Prop} {sz : Nat} {w : World} {S : Nat → Prop} {g : Nat} {T : TypeId} {l : List α} {css : List (List Value)} (hb : Blk w g T css.flatten.toArray) (hg : S g) (hm : l.length ≤ maxLen) (hsz : ∀ cs ∈ css, cs.length = sz)
    (hE : ∀ (j : Nat) (x : α), l[j]? = some x → ∃ cs : List Value, css[j]? = some cs ∧ E x cs) {n : Nat} (hn : n = l.length) : RowsOf E sz w S l (some ⟨g, 0, none⟩) n n := by
  subst hn
  refine ⟨rfl, Nat.le_refl _, hm, fun _ => ⟨g, 0, rfl, hg, fun j x hx => ?_⟩⟩
  obtain ⟨cs, h1, h2⟩ := hE j x hx
  refine ⟨cs, h2, hsz cs (List.mem_of_getElem? h1), fun m v hv => ?_⟩
  rw [Nat.zero_add, hb.cell]
  simpa using flat_get hsz h1 m v hv
theorem ok1 (o n : Int) (h : okN o n 0 = true) : okT (.node o n []) = true := by rw [okT_node, Bool.and_eq_true_iff]; exact ⟨h, by rw [okL]⟩

set_option maxRecDepth 100000 in
set_option maxHeartbeats 8000000 in
theorem awake_any (w : World) : Calls Try.prog 14 #[] w fun e w' => e = .returned (.bool true) ∧ Below w.heap.size w w' := by
  go_enter Try.func14, Try.ntmps14
  go_wp2_with fail
  refine (Must_no (.node 1 5 0 ByteArray.empty []) 4 _ (fun _ => False) (by decide) _ (IsD.leaf _ _ 1 5 0 ByteArray.empty (by decide) (by decide) (by decide) (by decide)) (fun _ h => h.elim)).mono ?_
  rintro e w1 ⟨rfl, hb1⟩
  simp only [Tree.kind]
  have hB1 : Below w.heap.size w w1 := below_on hb1 (by go_grown)
  have l0 : w.heap.size < w1.heap.size := by have := hb1.size; simp at this; omega
  have HN1 : Hid (Blk w1 w.heap.size 30 #[.int .i64 12, .int .i64 0, .int .u64 0, .string ByteArray.empty, .slice none 0 0]) := (Blk.new _ _ _).under hb1 (by simp)
  have hn := HN1.out
  have n0 := HN1.out.cell 0
  have n1 := HN1.out.cell 1
  have n2 := HN1.out.cell 2
  have n3 := HN1.out.cell 3
  have n4 := HN1.out.cell 4
  simp only [List.getElem?_toArray, List.getElem?_cons_succ, List.getElem?_cons_zero] at n0 n1 n2 n3 n4
  clear hb1 hn
  go_wp2_with fail
  refine (holds_want (.node 2 11 []) (.node 12 0 0 ByteArray.empty []) _ (fun _ => False) (fun _ => False) _ _ (ok1 _ _ (by decide)) (IsW.leaf _ _ 2 11) (fun _ h => h.elim) (IsD.leaf _ _ 12 0 0 ByteArray.empty (by decide) (by decide) (by decide) (by decide)) (by decide) (by decide)).mono ?_
  rintro e w2 ⟨rfl, hb2⟩
  simp only [Tree.kind, ex1]
  have hB2 : Below w.heap.size w w2 := below_on hb2 (hB1.trans (by go_grown))
  have HN2 : Hid (Blk w2 w.heap.size 30 _) := ((HN1.out.alloc _).alloc _).under hb2 (by simp; omega)
  have HM2 : Hid (Blk w2 (w1.heap.size + 1) 41 #[.int .i64 1, .int .i64 (-1)]) := (Blk.new' _ _ _ (by simp)).under hb2 (by simp)
  clear n0 n1 n2 n3 n4 hb2
  go_wp2_with fail
  refine (holds_want (.node 1 0 []) (.node 0 0 0 ByteArray.empty []) _ (fun _ => False) (fun _ => False) _ _ (ok1 _ _ (by decide)) (IsW.leaf _ _ 1 0) (fun _ h => h.elim) (IsD.leaf _ _ 0 0 0 ByteArray.empty (by decide) (by decide) (by decide) (by decide)) (by decide) (by decide)).mono ?_
  rintro e w3 ⟨rfl, hb3⟩
  simp only [Tree.kind, ex2]
  have hB3 : Below w.heap.size w w3 := below_on hb3 hB2
  have HN3 : Hid (Blk w3 w.heap.size 30 _) := HN2.out.under hb3 HN2.out.lt
  have HM3 : Hid (Blk w3 (w1.heap.size + 1) 41 _) := HM2.out.under hb3 HM2.out.lt
  clear hb3
  have m0 := HM3.out.cell 0
  have m1 := HM3.out.cell 1
  simp only [List.getElem?_toArray, List.getElem?_cons_succ, List.getElem?_cons_zero] at m0 m1
  go_wp2_with fail
  refine (implements_any 5 9 _).mono ?_
  rintro e w4 ⟨rfl, hb4⟩
  simp only [ex3]
  have hB4 : Below w.heap.size w w4 := below_on hb4 hB3
  have HN4 : Hid (Blk w4 w.heap.size 30 _) := HN3.out.under hb4 HN3.out.lt
  clear hb4
  go_wp2_with fail
  refine (want_valid (.node 1 0 []) _ (fun _ => False) _ (IsW.leaf _ _ 1 0) (fun _ h => h.elim)).mono ?_
  rintro e w5 ⟨rfl, hb5⟩
  simp only [ex4]
  have hB5 : Below w.heap.size w w5 := below_on hb5 hB4
  have HN5 : Hid (Blk w5 w.heap.size 30 _) := HN4.out.under hb5 HN4.out.lt
  clear hb5
  go_wp2_with fail
  refine (covers_want (.node 1 0 []) (.node 2 1 []) _ (fun _ => False) (fun _ => False) _ _ (ok1 _ _ (by decide)) (ok1 _ _ (by decide)) (IsW.leaf _ _ 1 0) (fun _ h => h.elim) (IsW.leaf _ _ 2 1) (fun _ h => h.elim)).mono ?_
  rintro e w6 ⟨rfl, hb6⟩
  simp only [ex5]
  have hB6 : Below w.heap.size w w6 := below_on hb6 hB5
  have HN6 : Hid (Blk w6 w.heap.size 30 _) := HN5.out.under hb6 HN5.out.lt
  clear hb6
  go_wp2_with fail
  refine (methods_any 9 _).mono ?_
  rintro e w7 ⟨a, n, c, rfl, hrow, hb7⟩
  have hB7 : Below w.heap.size w w7 := below_on hb7 hB6
  have HN7 : Hid (Blk w7 w.heap.size 30 _) := HN6.out.under hb7 HN6.out.lt
  clear hb7
  obtain rfl : n = 3 := hrow.1
  clear hrow
  have n0 := HN7.out.cell 0
  have n1 := HN7.out.cell 1
  have n2 := HN7.out.cell 2
  have n3 := HN7.out.cell 3
  have n4 := HN7.out.cell 4
  simp only [List.getElem?_toArray, List.getElem?_cons_succ, List.getElem?_cons_zero] at n0 n1 n2 n3 n4
  have l0 := HN7.out.lt
  go_wp2_with fail
  have hrow8 : RowsOf (IsW (w7.alloc (.cells #[.int .i64 2, .int .i64 1, .slice none 0 0] 24)) (fun q => q = w7.heap.size)) 3 (w7.alloc (.cells #[.int .i64 2, .int .i64 1, .slice none 0 0] 24)) (fun q => q = w7.heap.size) [.node 2 1 []] (some ⟨w7.heap.size, 0, none⟩) 1 1 := by
    refine rows_of_blk (sz := 3) (l := [WT.node 2 1 []]) (T := 24) (S := fun q => q = w7.heap.size) (g := w7.heap.size) (css := [[.int .i64 2, .int .i64 1, .slice none 0 0]]) (Blk.new _ _ _) rfl (by decide) (by simp) (fun j x hx => ?_) rfl
    match j, hx with
    | 0, hx =>
      simp at hx
      subst hx
      exact ⟨_, rfl, IsW.leaf _ _ 2 1⟩
  have HR8 := Lib.hid hrow8
  clear hrow8
  refine (first_any [.node 2 1 []] (.node 12 0 0 ByteArray.empty []) _ 1 1 _ (fun q => q = w7.heap.size) (fun _ => False) _ (fun t ht => by rw [List.mem_singleton.1 ht]; exact ok1 _ _ (by decide)) HR8.out (fun q hq => by rw [hq]; simp) (IsD.leaf _ _ 12 0 0 ByteArray.empty (by decide) (by decide) (by decide) (by decide)) (fun _ h => h.elim) (by decide) (by decide)).mono ?_
  rintro e w8 ⟨rfl, hb8⟩
  simp only [Tree.kind, ex6]
  have hB8 : Below w.heap.size w w8 := below_on hb8 (hB7.trans (by go_grown))
  clear hb8 n0 n1 n2 n3 n4
  go_wp2_with fail
  go_ret
  exact ⟨rfl, hB8⟩
end Go.Proofs.Ytpemgccocmdmbaa
