/- The document's Open. -/
import Derived.Test.YtknjloffkiidhaaJe
namespace Go.Proofs.Ytknjloffkiidhaa
open Go.RowKit Go.Deep
attribute [local go_sem] Go.undef

/-- A record is put behind; it lies apart from the row. -/
theorem OwnB.snoc2 {w w2 : World} {B g cap : Nat} {v : Value} {rs : List (List Nat)} {ob : Obj} {xs : List Value} {r : List Nat} {a : Option Addr} {c : Nat}
    (h : w.ownsRow B 22 1 v rs.length xs) (hE : ∀ (i : Nat) (r : List Nat), rs[i]? = some r → ∃ a c, xs[i]? = some (.slice a r.length c) ∧ r.length ≤ c ∧ c ≤ maxLen ∧ BY w (fun b => B ≤ b ∧ b < w.heap.size ∧ v.ownBlock ≠ some b) a r)
    (hr : BY w (fun b => B ≤ b ∧ b < w.heap.size ∧ v.ownBlock ≠ some b) a r) (hc : r.length ≤ c ∧ c ≤ maxLen)
    (hown : w2.ownsRow B 22 1 (.slice (some ⟨g, 0, none⟩) (rs.length + 1) cap) (rs.length + 1) (xs ++ [.slice a r.length c]))
    (hgr : (w.alloc ob).grownBy w2 v.ownBlock) (hat : v.ownBlock = some g ∨ g = w.heap.size + 1) : OwnB w2 B (.slice (some ⟨g, 0, none⟩) (rs.length + 1) cap) (rs ++ [r]) := by
  have s2 : w.heap.size + 1 ≤ w2.heap.size := by have := hgr.size; simpa using this
  have keep2 : ∀ b, b < w.heap.size → v.ownBlock ≠ some b → w2.heap[b]? = w.heap[b]? := fun b h1 h2 => by
    rw [hgr.block b (by simp; omega) (fun e => h2 e.symm)]
    exact Below.heap_alloc w ob b h1
  have hl := h.1
  have key : ∀ a r, BY w (fun b => B ≤ b ∧ b < w.heap.size ∧ v.ownBlock ≠ some b) a r → BY w2 (fun b => B ≤ b ∧ b < w2.heap.size ∧ (Value.slice (some ⟨g, 0, none⟩) (rs.length + 1) cap).ownBlock ≠ some b) a r := fun a r g4 =>
    g4.keep (fun b ⟨h1, h2, h3⟩ => ⟨h1, by omega, fun h => by
      have e : g = b := by simpa [Value.ownBlock] using h
      subst e
      rcases hat with h4 | h4
      · exact h3 h4
      · omega⟩) fun b ⟨h1, h2, h3⟩ j => World.cell?_of_block (a := ⟨b, j, none⟩) (keep2 b (by omega) h3)
  refine ⟨xs ++ [.slice a r.length c], by rw [List.length_append]; exact hown, fun i x hx => ?_⟩
  by_cases e : i = rs.length
  · subst e
    rw [List.getElem?_append_right (Nat.le_refl _), Nat.sub_self] at hx
    obtain rfl : r = x := by simpa using hx
    refine ⟨a, c, ?_, hc.1, hc.2, key _ _ hr⟩
    have hl' : xs.length = rs.length := by simpa using hl
    rw [List.getElem?_append_right (by omega), hl', Nat.sub_self]; rfl
  · have hi : i < rs.length := by have := (List.getElem?_eq_some_iff.1 hx).1; simp at this; omega
    rw [List.getElem?_append_left hi] at hx
    obtain ⟨a', c', g1, g2, g3, g4⟩ := hE i x hx
    refine ⟨a', c', ?_, g2, g3, key _ _ g4⟩
    rw [List.getElem?_append_left (by have := (List.getElem?_eq_some_iff.1 g1).1; omega)]; exact g1

/-- What whole has told, on its way. -/
def WR (w : World) (B : Nat) (v5 : Value) (d : List Nat) (v7 v8 : Value) : Prop :=
  (wholeL d = false ∧ v7 = .slice none 0 0 ∧ v8 = .int .i64 0) ∨
  (wholeL d = true ∧ ∃ a' c', v7 = .slice a' (lenL d) c' ∧ v8 = .int .i64 ((lenL d + 8 : Nat) : Int) ∧ lenL d ≤ c' ∧ c' ≤ maxLen ∧ BY w (fun b => B ≤ b ∧ b < w.heap.size ∧ v5.ownBlock ≠ some b) a' (recL d))
/-- The state of the document's Open's loop. -/
def RI (w : World) (l : List Nat) (n gk : Nat) (v5 v6 v7 v8 : Value) (wr : World) : Prop :=
  ∃ rs at', l.drop 5 = frames rs ++ l.drop at' ∧ at' = 5 + (frames rs).length ∧ Small rs ∧ (∀ r ∈ rs, Bytes r) ∧ at' ≤ n ∧ n - at' < gk ∧ v6 = .int .i64 (at' : Int) ∧
    OwnB wr w.heap.size v5 rs ∧ Below w.heap.size w wr ∧ WR wr w.heap.size v5 (l.drop at') v7 v8
theorem WR.of {W w' : World} {B : Nat} {v5 v7 v8 : Value} {d : List Nat} {rs : List (List Nat)} (h : WQ W d (.returned (.tuple #[v7, v8])) w') (ho : OwnB W B v5 rs) (hB : B ≤ W.heap.size) (hd : Bytes d) : WR w' B v5 d v7 v8 := by
  rcases h with ⟨h1, h2, -⟩ | ⟨h1, a', c', h2, h3, h4⟩
  · injection h2 with h2
    injection h2 with h2
    simp at h2
    exact .inl ⟨h1, h2.1, h2.2⟩
  · injection h2 with h2
    injection h2 with h2
    simp at h2
    obtain ⟨rfl, rfl⟩ := h2
    obtain ⟨z1, -, z2, z3⟩ := BY.own h3 ((hd.drop 4).take _)
    obtain ⟨xs, x1, -⟩ := ho
    have := own_row x1
    exact .inr ⟨h1, a', c', rfl, by simp, z2, z3, z1.mono fun b hb => ⟨by omega, hb.2, fun e => by have := this _ e; omega⟩⟩
theorem WQ.tuple {W w' : World} {d : List Nat} {e : Ending} (h : WQ W d e w') : ∃ v7 v8, e = .returned (.tuple #[v7, v8]) ∧ Below W.heap.size W w' := by
  rcases h with ⟨-, h2, h3⟩ | ⟨-, a', c', h2, -, h3⟩
  · exact ⟨_, _, h2, h3⟩
  · exact ⟨_, _, h2, h3⟩

set_option maxRecDepth 100000 in
set_option maxHeartbeats 8000000 in
theorem ropen_any (w : World) (S : Nat → Prop) (a : Option Addr) (l : List Nat) (n c : Nat) (hn : l.length = n) (hnc : n ≤ c) (hm : c ≤ 9223372036854775807) (hsm : n ≤ 1099511627776) (h : BY w S a l) (hS : ∀ b, S b → b < w.heap.size) :
    Calls Try.prog 9 #[.slice a n c] w (OpenQ w l) := by
  obtain ⟨i0, hi0, hz0, hz1, hz2⟩ := info_parts infoB
  have HH := Lib.hid h
  have HS := Lib.hid hS
  have HN := Lib.hid hn
  have hbl := h.1
  by_cases h5 : n < 5
  · have hd : l.take 5 ≠ headL := fun h => by
      have := congrArg List.length h
      rw [List.length_take, hn] at this
      simp [headL] at this
      omega
    have HD := Lib.hid hd
    have hdd : decide ((n : Int) < 5) = true := by simp; omega
    clear hd hn h hS h5
    go_enter Try.func9, Try.ntmps9
    go_wp2_with fail
    go_ret3
    exact .inl ⟨HD.out, rfl, by go_grown⟩
  · have hdd : decide ((n : Int) < 5) = false := by simp; omega
    have hp : BY w S a (l.take 5) := by
      obtain ⟨g, o, rfl, -, -⟩ := h.2 (by omega)
      have := h.piece 0 5
      rwa [List.drop_zero, Nat.add_zero] at this
    have hcv := hp.conv (n := 5) (by rw [List.length_take]; omega) c
    have hqq := SB_beq hp.1 headL_bytes
    have hhd : SB headL = ⟨#[67, 78, 68, 74, 1]⟩ := by decide +kernel
    rw [hhd, show (⟨#[67, 78, 68, 74, 1]⟩ : ByteArray).toList = [67, 78, 68, 74, 1] by rw [ByteArray.toList_eq]] at hqq
    have hc5 : 5 ≤ c := by omega
    have h5' : 5 ≤ n := by omega
    by_cases hd : l.take 5 = headL
    · rw [decide_eq_true hd] at hqq
      have HD := Lib.hid hd
      clear hd hn h hS h5 hp
      go_enter Try.func9, Try.ntmps9
      have hw0 := fun (W : World) (at' : Nat) (hat : at' ≤ n) (hb : Below w.heap.size w W) => whole_any W S a l n c at' HN.out hnc hm hat (HH.out.under hb HS.out) (fun b hb' => Nat.lt_of_lt_of_le (HS.out b hb') hb.size)
      have HW0 := Lib.hid hw0
      clear hw0
      go_wp2_with fail
      refine (HW0.out _ 5 h5' (Below.refl _ _)).mono ?_
      intro e w1 hq
      obtain ⟨v7, v8, rfl, hb1⟩ := hq.tuple
      have hwr := WR.of hq OwnB.nil (Nat.le_refl w.heap.size) (hbl.drop 5)
      have HWR := Lib.hid hwr
      have HB1 := Lib.hid hb1
      clear hq hwr hb1
      go_wp2_with fail
      go_loopg [5, 6, 7, 8] (n + 1) (fun k s5 s6 s7 s8 wr => RI w l n k s5 s6 s7 s8 wr)
      case atStart => exact ⟨[], 5, by simp [frames], by simp [frames], (fun r h => absurd h (by simp)), (fun r h => absurd h (by simp)), h5', by omega, rfl, OwnB.nil, HB1.out, HWR.out⟩
      case round =>
        obtain ⟨rs, at', r1, r2, r3, r4, r5, r6, rfl, r8, r9, r10⟩ := hrel
        have R1 := Lib.hid r1
        have R2 := Lib.hid r2
        have R3 := Lib.hid r3
        have R4 := Lib.hid r4
        have R8 := Lib.hid r8
        have R9 := Lib.hid r9
        clear r1 r2 r3 r4 r8 r9
        rcases r10 with ⟨hw, rfl, rfl⟩ | ⟨hw, a', c', rfl, rfl, z2, z3, z1⟩
        · have HW := Lib.hid hw
          clear hw
          go_wp2_with fail
          go_ret3
          exact .inr ⟨rs, at', _, ⟨HD.out, R1.out, R2.out, R3.out, R4.out, HW.out⟩, R8.out, rfl, R9.out⟩
        · obtain ⟨q1, q2, q3, q4, q5, q6, q7⟩ := told_step hbl R1.out R2.out R3.out R4.out hw
          obtain ⟨xs, x1, x2⟩ := R8.out
          have hN : lenL (l.drop at') = (recL (l.drop at')).length := q5.symm
          generalize recL (l.drop at') = r at q1 q2 q3 q4 q5 hN z1
          rw [hN] at q1 q2 q6 q7 z2 ⊢
          have hln := HN.out
          have hrs := frames_len_ge rs
          have hrs2 := R2.out
          have hrl : rs.length ≤ 1099511627776 := by omega
          have hmx : rs.length + 1 ≤ maxLen := by unfold maxLen; omega
          have Q1 := Lib.hid q1
          have Q2 := Lib.hid q2
          have Q3 := Lib.hid q3
          have Q4 := Lib.hid q4
          have X2 := Lib.hid x2
          have Z1 := Lib.hid z1
          have Z2 := Lib.hid z2
          have Z3 := Lib.hid z3
          have hs9 := R9.out.size
          have e8 : ((r.length + 8 : Nat) : Int) = (r.length : Int) + 8 := by omega
          clear q1 q2 q3 q4 q5 x2 z1 z2 z3 hN hw hrs hrs2 hln
          rw [e8]
          clear e8
          go_wp2_with (at_builtin; refine wpList_append_lies _ rfl _ _ 23 rfl w.heap.size 22 i0 _ 1 24 Try.underlying23 hi0 hz0 hz1 hz2 rfl (by omega) _ rs.length xs rfl (x1.alloc _) ⟨wr.heap.size, 0, none⟩ 1 1 [.slice a' r.length c'] rfl rfl (one_new rfl) ?b3 (by omega) hmx ?b5 ?b6 (wr.heap.size + 1) (by simp) ?_)
          case b3 => intro u hu; rw [List.mem_singleton.1 hu]; rfl
          case b5 => omega
          case b6 => simp; omega
          intro g2 cap2 w3 hown2 hgr2 hat2 hlt2
          have hS := OwnB.snoc2 x1 X2.out Z1.out ⟨Z2.out, Z3.out⟩ hown2 hgr2 hat2
          have hB3 : Below w.heap.size w w3 := (R9.out.alloc (by omega) _).grown hgr2 (by simp; omega) (fun k hk => (own_row x1 k hk).1)
          have HSN := Lib.hid hS
          have HBN := Lib.hid hB3
          have hln := HN.out
          have hcall := HW0.out w3 (at' + r.length + 8) (by omega) hB3
          have HCALL := Lib.hid hcall
          have hs3 := hB3.size
          clear hS hB3 hown2 hgr2 hat2 hlt2 hln hcall x1
          go_wp2_with fail
          have e9 : (at' : Int) + ((r.length : Int) + 8) = ((at' + r.length + 8 : Nat) : Int) := by omega
          rw [e9]
          clear e9
          refine HCALL.out.mono ?_
          intro e w4 hq
          obtain ⟨v7', v8', rfl, hb4⟩ := hq.tuple
          have hwr := WR.of hq HSN.out hs3 (hbl.drop _)
          have HWR2 := Lib.hid hwr
          have hs4 := HSN.out.under hb4
          have HS4 := Lib.hid hs4
          have hb5 := HBN.out.trans (hb4.mono hs3)
          have HB5 := Lib.hid hb5
          clear hq hwr hb4 hs4 hb5
          go_wp2_with fail
          go_roundg (gk - 1)
          case measure => omega
          case rel => exact ⟨rs ++ [r], at' + r.length + 8, Q1.out, Q2.out, Q3.out, Q4.out, by have := HN.out; omega, by have := HN.out; omega, by simp, by rw [show Value.slice (some ⟨g2, 0, none⟩) (rs.length + 1) cap2 = Value.slice (some ⟨g2, 0, none⟩) (rs ++ [r]).length cap2 by simp] at HS4; simpa using HS4.out, HB5.out, HWR2.out⟩
    · rw [decide_eq_false hd] at hqq
      have HD := Lib.hid hd
      clear hd hn h hS h5 hp
      go_enter Try.func9, Try.ntmps9
      go_wp2_with fail
      go_ret3
      exact .inl ⟨HD.out, rfl, by go_grown⟩
end Go.Proofs.Ytknjloffkiidhaa
