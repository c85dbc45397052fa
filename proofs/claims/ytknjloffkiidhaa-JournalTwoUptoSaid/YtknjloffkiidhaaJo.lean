/- bytes.HasPrefix of the head; the program's Open. -/
import Derived.Test.YtknjloffkiidhaaJc
import Derived.Lib.SlBytesConst
import Derived.WalkMore
namespace Go.Proofs.Ytknjloffkiidhaa
open Go.RowKit Go.Deep
attribute [local go_sem] Go.undef

theorem headL_bytes : Bytes headL := by
  intro x hx
  simp only [headL, List.mem_cons, List.not_mem_nil, or_false] at hx
  omega
theorem BY.block {w : World} {S : Nat → Prop} {g : Nat} {t : TypeId} {l : List Nat} (h : Blk w g t (VB l).toArray) (hl : Bytes l) (hS : S g) : BY w S (Option.some ⟨g, 0, none⟩) l :=
  ⟨hl, fun _ => ⟨g, 0, rfl, hS, fun i x hx => by
    rw [Nat.zero_add, h.cell, List.getElem?_toArray, VB, List.getElem?_map, hx]; rfl⟩⟩

theorem SB_beq {l m : List Nat} (hl : Bytes l) (hm : Bytes m) : ((SB l).toList == (SB m).toList) = decide (l = m) := by
  rw [← SB_dec hl hm, Bool.eq_iff_iff, beq_iff_eq, decide_eq_true_eq, ByteArray.toList_eq, ByteArray.toList_eq]
  exact ⟨Go.WideShapes.bytes_inj, fun h => by rw [h]⟩

set_option maxRecDepth 100000 in
set_option maxHeartbeats 4000000 in
theorem equal_any (w : World) (S S' : Nat → Prop) (a b : Option Addr) (l m : List Nat) (n k c d : Nat) (hn : l.length = n) (hk : m.length = k) (h : BY w S a l) (h' : BY w S' b m) :
    Calls Try.prog 24 #[.slice a n c, .slice b k d] w fun e w' => e = .returned (.bool (decide (l = m))) ∧ w = w' := by
  have e1 := h.conv hn c
  have e2 := h'.conv hk d
  have hd := SB_beq h.1 h'.1
  have HD := Lib.hid hd
  clear h h' hn hk hd
  go_enter Try.func24, Try.ntmps24
  go_wp2_with fail
  go_ret
  exact ⟨by rw [← HD.out]; rfl, rfl⟩

set_option maxRecDepth 100000 in
set_option maxHeartbeats 4000000 in
theorem prefix_any (w : World) (S S' : Nat → Prop) (a : Option Addr) (l : List Nat) (n c g : Nat) (hn : l.length = n) (hnc : n ≤ c) (hm : c ≤ 9223372036854775807) (h : BY w S a l) (h' : BY w S' (some ⟨g, 0, none⟩) headL) :
    Calls Try.prog 19 #[.slice a n c, .slice (some ⟨g, 0, none⟩) 5 5] w fun e w' => e = .returned (.bool (decide (l.take 5 = headL))) ∧ w = w' := by
  by_cases h5 : n < 5
  · have hd : decide (l.take 5 = headL) = false := by
      rw [decide_eq_false_iff_not]
      intro hh
      have := congrArg List.length hh
      rw [List.length_take, hn] at this
      simp [headL] at this
      omega
    have HD := Lib.hid hd
    have hdd : decide ((5 : Int) ≤ (n : Int)) = false := by simp; omega
    have hd2 : decide (5 ≤ n) = false := by simp; omega
    clear hd h h' hn h5
    go_enter Try.func19, Try.ntmps19
    go_wp2_with fail
    go_ret
    exact ⟨by rw [HD.out]; rfl, rfl⟩
  · have hdd : decide ((5 : Int) ≤ (n : Int)) = true := by simp; omega
    have hd2 : decide (5 ≤ n) = true := by simp; omega
    have h5' : 5 ≤ n := by omega
    have hp : BY w S a (l.take 5) := by
      obtain ⟨g, o, rfl, -, -⟩ := h.2 (by omega)
      have := h.piece 0 5
      rwa [List.drop_zero, Nat.add_zero] at this
    have hl5 : (l.take 5).length = 5 := by rw [List.length_take]; omega
    have he := equal_any w S S' a (some ⟨g, 0, none⟩) (l.take 5) headL 5 5 c 5 hl5 rfl hp h'
    have HE := Lib.hid he
    clear he hp h h' hn h5 hl5
    go_enter Try.func19, Try.ntmps19
    go_wp2_with fail
    refine HE.out.mono ?_
    rintro e w1 ⟨rfl, rfl⟩
    go_wp2_with fail
    go_ret
    exact ⟨rfl, rfl⟩

theorem below_drewN {B : Nat} {w W : World} (h : Below B w W) (m : Nat) : Below B w (W.drewN m) := by
  induction m with
  | zero => exact h
  | succ m ih => exact ih.drew
/-- What is told of a journal. -/
def Told (l : List Nat) (rs : List (List Nat)) (at' : Nat) : Prop :=
  l.take 5 = headL ∧ l.drop 5 = frames rs ++ l.drop at' ∧ at' = 5 + (frames rs).length ∧ Small rs ∧ (∀ r ∈ rs, Bytes r) ∧ wholeL (l.drop at') = false
theorem Told.one {l : List Nat} {rs rs' : List (List Nat)} {m m' : Nat} (h : Told l rs m) (h' : Told l rs' m') : rs = rs' ∧ m = m' := by
  obtain ⟨-, h1, h2, h3, -, h5⟩ := h
  obtain ⟨-, g1, g2, g3, -, g5⟩ := h'
  have a := parse_frames rs (l.drop m) (rs.length + rs'.length + 1) h3 h5 (by omega)
  have b := parse_frames rs' (l.drop m') (rs.length + rs'.length + 1) g3 g5 (by omega)
  rw [← h1] at a
  rw [← g1, a] at b
  injection b with b1 b2
  exact ⟨b1, by omega⟩
theorem Told.le {l : List Nat} {rs : List (List Nat)} {m : Nat} (h : Told l rs m) : m ≤ l.length ∧ 5 ≤ l.length := by
  obtain ⟨h0, h1, h2, -⟩ := h
  have a := congrArg List.length h0
  have b := congrArg List.length h1
  rw [List.length_take] at a
  rw [List.length_drop, List.length_append] at b
  simp [headL] at a
  omega

/-- A row of the call's own of bytes in memory of their own. -/
def OwnB (w : World) (B : Nat) (v : Value) (rs : List (List Nat)) : Prop :=
  ∃ xs, w.ownsRow B 22 1 v rs.length xs ∧ ∀ (i : Nat) (r : List Nat), rs[i]? = some r → ∃ a c, xs[i]? = some (.slice a r.length c) ∧ r.length ≤ c ∧ c ≤ maxLen ∧ BY w (fun b => B ≤ b ∧ b < w.heap.size ∧ v.ownBlock ≠ some b) a r
theorem OwnB.nil {w : World} {B : Nat} : OwnB w B (.slice none 0 0) [] := ⟨[], ⟨rfl, .inl ⟨rfl, rfl⟩⟩, fun i r h => by simp at h⟩
/-- Over a call that keeps what lay below. -/
theorem OwnB.under {w w' : World} {B : Nat} {v : Value} {rs : List (List Nat)} (h : OwnB w B v rs) (hb : Below w.heap.size w w') : OwnB w' B v rs := by
  obtain ⟨xs, h1, h2⟩ := h
  refine ⟨xs, own_below h1 hb, fun i r hr => ?_⟩
  obtain ⟨a, c, g1, g2, g3, g4⟩ := h2 i r hr
  exact ⟨a, c, g1, g2, g3, g4.keep (fun b ⟨h1, h2, h3⟩ => ⟨h1, Nat.lt_of_lt_of_le h2 hb.size, h3⟩) fun b h j => hb.cell (p := ⟨b, j, none⟩) h.2.1⟩
theorem OwnB.mono {w : World} {B B' : Nat} {v : Value} {rs : List (List Nat)} (h : OwnB w B v rs) (hB : B' ≤ B) : OwnB w B' v rs := by
  obtain ⟨xs, h1, h2⟩ := h
  refine ⟨xs, own_mono h1 hB, fun i r hr => ?_⟩
  obtain ⟨a, c, g1, g2, g3, g4⟩ := h2 i r hr
  exact ⟨a, c, g1, g2, g3, g4.mono fun b ⟨h1, h2, h3⟩ => ⟨by omega, h2, h3⟩⟩
/-- A store ahead of it. -/
theorem OwnB.far {w : World} {B : Nat} {v : Value} {rs : List (List Nat)} (h : OwnB w B v rs) {p : Addr} (hp : p.block < B) (m : Nat) (u : Value) : OwnB ((w.drewN m).setCell p u) B v rs := by
  obtain ⟨xs, h1, h2⟩ := h
  have hs : ((w.drewN m).setCell p u).heap.size = w.heap.size := by simp
  have hk : ∀ b, B ≤ b → ((w.drewN m).setCell p u).heap[b]? = w.heap[b]? := fun b hb => Below.heap_setCell (w.drewN m) p u b (by omega)
  refine ⟨xs, own_keep h1 fun g hg => hk g (own_row h1 g hg).1, fun i r hr => ?_⟩
  obtain ⟨a, c, g1, g2, g3, g4⟩ := h2 i r hr
  exact ⟨a, c, g1, g2, g3, g4.keep (fun b ⟨q1, q2, q3⟩ => ⟨q1, by rw [hs]; exact q2, q3⟩) fun b q j => World.cell?_of_block (a := ⟨b, j, none⟩) (hk b q.1)⟩
/-- A record is put behind. -/
theorem OwnB.snoc {w w1 w2 : World} {B g cap : Nat} {v : Value} {rs : List (List Nat)} {ob : Obj} {xs : List Value} {r : List Nat} {a : Option Addr} {c : Nat}
    (h : w.ownsRow B 22 1 v rs.length xs) (hE : ∀ (i : Nat) (r : List Nat), rs[i]? = some r → ∃ a c, xs[i]? = some (.slice a r.length c) ∧ r.length ≤ c ∧ c ≤ maxLen ∧ BY w (fun b => B ≤ b ∧ b < w.heap.size ∧ v.ownBlock ≠ some b) a r) (hB : B ≤ w.heap.size)
    (hb : Below w.heap.size w w1) (hr : BY w1 (fun b => w.heap.size ≤ b ∧ b < w1.heap.size) a r) (hc : r.length ≤ c ∧ c ≤ maxLen)
    (hown : w2.ownsRow B 22 1 (.slice (some ⟨g, 0, none⟩) (rs.length + 1) cap) (rs.length + 1) (xs ++ [.slice a r.length c]))
    (hgr : (w1.alloc ob).grownBy w2 v.ownBlock) (hat : v.ownBlock = some g ∨ g = w1.heap.size + 1) : OwnB w2 B (.slice (some ⟨g, 0, none⟩) (rs.length + 1) cap) (rs ++ [r]) := by
  have s1 := hb.size
  have s2 : w1.heap.size + 1 ≤ w2.heap.size := by have := hgr.size; simpa using this
  have hvo := own_row h
  have keep2 : ∀ b, b < w1.heap.size → v.ownBlock ≠ some b → w2.heap[b]? = w1.heap[b]? := fun b h1 h2 => by
    rw [hgr.block b (by simp; omega) (fun e => h2 e.symm)]
    exact Below.heap_alloc w1 ob b h1
  have hl := h.1
  refine ⟨xs ++ [.slice a r.length c], by rw [List.length_append]; exact hown, fun i x hx => ?_⟩
  by_cases e : i = rs.length
  · subst e
    rw [List.getElem?_append_right (Nat.le_refl _), Nat.sub_self] at hx
    obtain rfl : r = x := by simpa using hx
    refine ⟨a, c, ?_, hc.1, hc.2, ?_⟩
    · have hl' : xs.length = rs.length := by simpa using hl
      rw [List.getElem?_append_right (by omega), hl', Nat.sub_self]; rfl
    · refine hr.keep (fun b hb => ⟨by omega, by omega, fun h => ?_⟩) fun b hb j => World.cell?_of_block (a := ⟨b, j, none⟩) ?_
      · have e : g = b := by simpa [Value.ownBlock] using h
        subst e
        rcases hat with h4 | h4
        · have := hvo _ h4; omega
        · omega
      · exact keep2 b hb.2 fun h => by have := hvo _ h; omega
  · have hi : i < rs.length := by have := (List.getElem?_eq_some_iff.1 hx).1; simp at this; omega
    rw [List.getElem?_append_left hi] at hx
    obtain ⟨a', c', g1, g2, g3, g4⟩ := hE i x hx
    refine ⟨a', c', ?_, g2, g3, ?_⟩
    · rw [List.getElem?_append_left (by have := (List.getElem?_eq_some_iff.1 g1).1; omega)]; exact g1
    · refine g4.keep (fun b ⟨h1, h2, h3⟩ => ⟨h1, by omega, fun h => ?_⟩) fun b ⟨h1, h2, h3⟩ j => World.cell?_of_block (a := ⟨b, j, none⟩) ?_
      · have e : g = b := by simpa [Value.ownBlock] using h
        subst e
        rcases hat with h4 | h4
        · exact h3 h4
        · omega
      · exact (keep2 b (by omega) h3).trans (hb.block b h2)
theorem infoB : (Try.prog.info? 22).map (fun i => (i.zero, i.size, i.bytes)) = some (some (.slice none 0 0), 1, 24) := by kernel_rfl

/-- The head, laid down as a constant. -/
theorem head_here (w : World) : BY (w.alloc (.cells #[.int .u8 67, .int .u8 78, .int .u8 68, .int .u8 74, .int .u8 1] 5 (5, 6))) (fun _ => True) (some ⟨w.heap.size, 0, none⟩) headL :=
  ⟨headL_bytes, fun _ => ⟨w.heap.size, 0, rfl, trivial, fun i x hx => by
    rw [Nat.zero_add, cell_of_row _ w.heap.size i _ _ _ (heap_alloc_new w _)]
    have e : (#[Value.int .u8 67, .int .u8 78, .int .u8 68, .int .u8 74, .int .u8 1] : Array Value) = (VB headL).toArray := rfl
    rw [e, List.getElem?_toArray, VB, List.getElem?_map, hx]; rfl⟩⟩

/-- What Open leaves. -/
def OpenQ (w : World) (l : List Nat) (e : Ending) (w' : World) : Prop :=
  (l.take 5 ≠ headL ∧ e = .returned (.tuple #[.slice none 0 0, .int .i64 0, .int .i64 262]) ∧ Below w.heap.size w w') ∨
  ∃ rs at' v, Told l rs at' ∧ OwnB w' w.heap.size v rs ∧ e = .returned (.tuple #[v, .int .i64 (at' : Int), .int .i64 0]) ∧ Below w.heap.size w w'

/-- One frame more. -/
theorem told_step {l : List Nat} {rs : List (List Nat)} {at' : Nat} (hb : Bytes l) (h1 : l.drop 5 = frames rs ++ l.drop at') (h2 : at' = 5 + (frames rs).length) (h3 : Small rs) (h4 : ∀ r ∈ rs, Bytes r) (hw : wholeL (l.drop at') = true) :
    l.drop 5 = frames (rs ++ [recL (l.drop at')]) ++ l.drop (at' + lenL (l.drop at') + 8) ∧ at' + lenL (l.drop at') + 8 = 5 + (frames (rs ++ [recL (l.drop at')])).length ∧ Small (rs ++ [recL (l.drop at')]) ∧ (∀ r ∈ rs ++ [recL (l.drop at')], Bytes r) ∧
    (recL (l.drop at')).length = lenL (l.drop at') ∧ at' + lenL (l.drop at') + 8 ≤ l.length ∧ lenL (l.drop at') ≤ 65535 := by
  obtain ⟨q1, -, q4, -⟩ := (wholeL_iff _).1 hw
  have hr := recL_len q4
  have hf := whole_frame (hb.drop at') hw
  rw [List.drop_drop] at hf
  have hN : lenL (l.drop at') ≤ 65535 := by
    have g : ∀ i, (l.drop at').getD i 0 < 256 := fun i => by
      rw [List.getD_eq_getElem?_getD]
      cases hi : (l.drop at')[i]? with
      | none => simp
      | some x => exact hb.drop at' x (List.mem_of_getElem? hi)
    have := g 0
    have := g 1
    unfold lenL
    omega
  rw [List.length_drop] at q1 q4
  refine ⟨?_, ?_, ?_, ?_, hr, by omega, hN⟩
  · rw [frames_app, List.append_assoc, show frames [recL (l.drop at')] = frameL (recL (l.drop at')) by simp [frames], Nat.add_assoc, ← hf]
    exact h1
  · rw [frames_app, List.length_append, show frames [recL (l.drop at')] = frameL (recL (l.drop at')) by simp [frames], frameL_len, hr]
    omega
  · intro r h
    rcases List.mem_append.1 h with h | h
    · exact h3 r h
    · rw [List.mem_singleton.1 h, hr]; exact hN
  · intro r h
    rcases List.mem_append.1 h with h | h
    · exact h4 r h
    · rw [List.mem_singleton.1 h]; exact (((hb.drop at').drop 4).take _)

/-- The state of Open's loop. -/
def OI (w : World) (a : Option Addr) (l : List Nat) (n c gk : Nat) (v : Value) (wr : World) : Prop :=
  ∃ rs at', l.drop 5 = frames rs ++ l.drop at' ∧ at' = 5 + (frames rs).length ∧ Small rs ∧ (∀ r ∈ rs, Bytes r) ∧ at' ≤ n ∧ n - at' < gk ∧
    Blk wr (w.heap.size + 1) 51 #[.slice a n c, .int .i64 at'] ∧ OwnB wr (w.heap.size + 2) v rs ∧ Below w.heap.size w wr

set_option maxRecDepth 100000 in
set_option maxHeartbeats 8000000 in
theorem open_any (w : World) (S : Nat → Prop) (a : Option Addr) (l : List Nat) (n c : Nat) (hn : l.length = n) (hnc : n ≤ c) (hm : c ≤ 9223372036854775807) (hsm : n ≤ 1099511627776) (h : BY w S a l) (hS : ∀ b, S b → b < w.heap.size) :
    Calls Try.prog 8 #[.slice a n c] w (OpenQ w l) := by
  obtain ⟨i0, hi0, hz0, hz1, hz2⟩ := info_parts infoB
  have h1 : BY (w.alloc (.cells #[.int .u8 67, .int .u8 78, .int .u8 68, .int .u8 74, .int .u8 1] 5 (5, 6))) S a l := h.under (B := w.heap.size) (by go_grown) hS
  have hh : BY (w.alloc (.cells #[.int .u8 67, .int .u8 78, .int .u8 68, .int .u8 74, .int .u8 1] 5 (5, 6))) (fun _ => True) (some ⟨w.heap.size, 0, none⟩) headL := head_here w
  have hp := prefix_any _ S (fun _ => True) a l n c w.heap.size hn hnc hm h1 hh
  have kc := Lib.run_convert_bytes_const (P := Try.prog) w 22 5 #[.int .u8 67, .int .u8 78, .int .u8 68, .int .u8 74, .int .u8 1] 5 5 Try.underlying22 Try.underlying5
  have HP := Lib.hid hp
  have HH := Lib.hid h
  have HS := Lib.hid hS
  have HN := Lib.hid hn
  clear hp hh h1 h hS
  by_cases hd : l.take 5 = headL
  · rw [decide_eq_true hd] at HP
    have hlen : 5 ≤ n := by
      have := congrArg List.length hd
      rw [List.length_take, hn] at this
      simp [headL] at this
      omega
    have HD := Lib.hid hd
    clear hd hn
    go_enter Try.func8, Try.ntmps8
    go_wp2_with fail
    go_step3
    go_wp2_with fail
    refine HP.out.mono ?_
    rintro e w1 ⟨rfl, rfl⟩
    go_wp2_with fail
    go_step3
    go_wp2_with fail
    go_loopg [6] (n + 1) (fun k s6 wr => OI w a l n c k s6 wr)
    case atStart => exact ⟨[], 5, by simp [frames], by simp [frames], (fun r h => absurd h (by simp)), (fun r h => absurd h (by simp)), hlen, by omega, Blk.new' _ _ _ (by simp), OwnB.nil, by go_grown⟩
    case round =>
      obtain ⟨rs, at', r1, r2, r3, r4, r5, r6, r7, r8, r9⟩ := hrel
      have hby : BY wr S a l := HH.out.under r9 HS.out
      have hfr := frame_any wr (w.heap.size + 1) S a l n c at' r7 hby HN.out hnc hm r5
      have HFR := Lib.hid hfr
      have R1 := Lib.hid r1
      have R2 := Lib.hid r2
      have R3 := Lib.hid r3
      have R4 := Lib.hid r4
      have R7 := Lib.hid r7
      have R8 := Lib.hid r8
      have R9 := Lib.hid r9
      have HBY := Lib.hid hby
      have hl7 := r7.lt
      clear hfr r1 r2 r3 r4 r7 r8 r9 hby
      go_wp2_with fail
      refine HFR.out.mono ?_
      rintro e w1 (⟨hw, rfl, m1, rfl⟩ | ⟨hw, g, o, rfl, rfl, m1, rfl⟩)
      · have c0 := R7.out.cell 1
        simp only [List.getElem?_toArray, List.getElem?_cons_succ, List.getElem?_cons_zero] at c0
        have HW := Lib.hid hw
        clear hw
        go_wp2_with fail
        go_quiet (fail)
        go_wp2_with fail
        rw [Exit.noGoto_ret]
        go_ret3
        have hq : ∀ m, Below wr.heap.size wr ((wr.drewN m1).drewN m) := fun m => by rw [drewN_drewN]; exact below_drewN (Below.refl _ _) _
        exact .inr ⟨rs, at', _, ⟨HD.out, R1.out, R2.out, R3.out, R4.out, HW.out⟩, (R8.out.under (hq _)).mono (by omega), rfl, R9.out.trans ((hq _).mono R9.out.size)⟩
      · obtain ⟨q1, q2, q3, q4, q5, q6, q7⟩ := told_step HH.out.1 R1.out R2.out R3.out R4.out hw
        have hN : lenL (l.drop at') = (recL (l.drop at')).length := q5.symm
        have hpc : BY wr S (some ⟨g, o + (at' + 4), none⟩) (recL (l.drop at')) := by
          have h := HBY.out.piece (at' + 4) (lenL (l.drop at'))
          rw [recL, List.drop_drop]
          exact h
        generalize recL (l.drop at') = r at q1 q2 q3 q4 q5 hN hpc
        rw [hN] at q1 q2 q6 q7 ⊢
        clear hN q5 hw
        have hB : ∀ m v, Below (w.heap.size + 1) wr ((wr.drewN m).setCell ⟨w.heap.size + 1, 1, none⟩ v) := fun m v => (below_drewN (Below.refl _ _) _).setCell (by simp) _
        have hSS := HS.out
        have hby2 : ∀ m v, BY ((wr.drewN m).setCell ⟨w.heap.size + 1, 1, none⟩ v) S (some ⟨g, o + (at' + 4), none⟩) r := fun m v => hpc.under (hB m v) (fun b hb => by have := hSS b hb; omega)
        have hcl := fun m v => clone_any ((wr.drewN m).setCell ⟨w.heap.size + 1, 1, none⟩ v) S g (o + (at' + 4)) r r.length (c - (at' + 4)) rfl (by omega) (hby2 m v) (fun b hb => by have := hSS b hb; simp; omega)
        have HCL := Lib.hid hcl
        have Q1 := Lib.hid q1
        have Q2 := Lib.hid q2
        have Q3 := Lib.hid q3
        have Q4 := Lib.hid q4
        have hrs := frames_len_ge rs
        have hrs2 := R2.out
        clear q1 q2 q3 q4 hcl hby2 hpc hSS
        have hrl : rs.length ≤ 1099511627776 := by omega
        clear hrs hrs2
        go_wp2_with fail
        refine (HCL.out _ _).mono ?_
        rintro e w2 ⟨a', c', rfl, hown, hb2⟩
        have h0 := R8.out.far (p := ⟨w.heap.size + 1, 1, none⟩) (by simp) m1 (.int .i64 (↑at' + ↑r.length + 8))
        have hb0 := R9.out.trans ((hB m1 (.int .i64 (↑at' + ↑r.length + 8))).mono (Nat.le_add_right _ _))
        have hk0 : Blk ((wr.drewN m1).setCell ⟨w.heap.size + 1, 1, none⟩ (.int .i64 (↑at' + ↑r.length + 8))) (w.heap.size + 1) 51 #[.slice (some ⟨g, o, none⟩) n c, .int .i64 (↑at' + ↑r.length + 8)] := (R7.out.drewN m1).set 1 _
        have hs0 : ((wr.drewN m1).setCell ⟨w.heap.size + 1, 1, none⟩ (.int .i64 (↑at' + ↑r.length + 8))).heap.size = wr.heap.size := by simp
        generalize (wr.drewN m1).setCell ⟨w.heap.size + 1, 1, none⟩ (.int .i64 (↑at' + ↑r.length + 8)) = W0 at *
        obtain ⟨xs, x1, x2⟩ := h0
        have hown0 := own_below x1 hb2
        have hs3 : w.heap.size + 2 ≤ w2.heap.size := by have := hb2.size; omega
        have hmx : rs.length + 1 ≤ maxLen := by unfold maxLen; omega
        have X1 := Lib.hid x1
        have X2 := Lib.hid x2
        have HB2 := Lib.hid hb2
        have HB0 := Lib.hid hb0
        have HK0 := Lib.hid hk0
        have HOWN := Lib.hid hown
        have HS0 := Lib.hid hs0
        clear x1 x2 hb2 hb0 hk0 hown hB hs0
        go_wp2_with (at_builtin; refine wpList_append_lies _ rfl _ _ 23 rfl (w.heap.size + 2) 22 i0 _ 1 24 Try.underlying23 hi0 hz0 hz1 hz2 rfl (by omega) _ rs.length xs rfl (hown0.alloc _) ⟨w2.heap.size, 0, none⟩ 1 1 [.slice a' r.length c'] rfl rfl (one_new rfl) ?b3 (by omega) hmx ?b5 ?b6 (w2.heap.size + 1) (by simp) ?_)
        case b3 => intro u hu; rw [List.mem_singleton.1 hu]; rfl
        case b5 => omega
        case b6 => simp; omega
        intro g2 cap2 w3 hown2 hgr2 hat2 hlt2
        have hrb : Bytes r := Q4.out r (by simp)
        have hs0 := HS0.out
        have hln := HN.out
        have hl2 := HK0.out.lt
        obtain ⟨z1, -, z2, z3⟩ := BY.own HOWN.out hrb
        have hS := OwnB.snoc X1.out X2.out (by omega) HB2.out z1 ⟨z2, z3⟩ hown2 hgr2 hat2
        have hK : Blk w3 (w.heap.size + 1) 51 #[.slice (some ⟨g, o, none⟩) n c, .int .i64 (↑at' + ↑r.length + 8)] := by
          refine (hgr2.block _ (by simp; omega) (fun e => ?_)).trans ((Below.heap_alloc w2 _ _ (by omega)).trans ((HB2.out.block _ (by have := HB2.out.size; omega)).trans HK0.out))
          have := own_row X1.out _ e.symm
          omega
        have hB3 : Below w.heap.size w w3 := by
          have := HB2.out.size
          refine ((HB0.out.trans (HB2.out.mono ?_)).alloc (by omega) _).grown hgr2 (by simp; omega) (fun k hk => ?_)
          · have := HB0.out.size; omega
          · have := own_row X1.out k hk; omega
        have HSN := Lib.hid hS
        have HKN := Lib.hid hK
        have HBN := Lib.hid hB3
        clear hS hK hB3 hown2 hgr2 hat2 hlt2 hown0 z1 z2 z3 hs0 hln hl2
        go_wp2_with fail
        go_roundg (gk - 1)
        case measure => omega
        case rel => exact ⟨rs ++ [r], at' + r.length + 8, Q1.out, Q2.out, Q3.out, Q4.out, by have := HN.out; omega, by have := HN.out; omega, by simpa using HKN.out, HSN.out, HBN.out⟩
  · rw [decide_eq_false hd] at HP
    have HD := Lib.hid hd
    clear hd hn
    go_enter Try.func8, Try.ntmps8
    go_wp2_with fail
    go_step3
    go_wp2_with fail
    refine HP.out.mono ?_
    rintro e w1 ⟨rfl, rfl⟩
    go_wp2_with fail
    go_ret3
    exact .inl ⟨HD.out, rfl, by go_grown⟩
end Go.Proofs.Ytknjloffkiidhaa
