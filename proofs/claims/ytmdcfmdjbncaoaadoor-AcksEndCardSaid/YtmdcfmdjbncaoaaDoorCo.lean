/- acks.Next. -/
import Derived.Test.YtmdcfmdjbncaoaaDoorCc
import Derived.Test.YtmdcfmdjbncaoaaDoorBa
namespace Go.Proofs.YtmdcfmdjbncaoaaDoor
open Go.RowKit
attribute [local go_sem ↓] Go.wp_at_zero Go.wp_at_succ
attribute [local go_sem] Go.undef

/-- The least tick so far. -/
def seeN (s : Int × Bool) (t : Int) : Int × Bool := if s.2 = false ∨ t < s.1 then (t, true) else s
def stepN (s : Int × Bool) (x : SX) : Int × Bool := if x.m.til = 0 then seeN s x.due else seeN (seeN s x.due) (x.m.til + 1)
def nextS (l : List SX) : Int × Bool := l.foldl stepN (0, false)
theorem nextS_snoc {l : List SX} {k : Nat} {x : SX} (h : l[k]? = some x) : nextS (l.take (k + 1)) = stepN (nextS (l.take k)) x := by
  rw [← take_snoc h, nextS, List.foldl_append]; rfl

/-- Where the closure's two variables lie. -/
def SeeB (Bl Bf : Nat) (s : Int × Bool) (w : World) : Prop := Blk w Bl 2 #[.int .i64 s.1] ∧ Blk w Bf 4 #[.bool s.2]

set_option maxHeartbeats 4000000 in
set_option maxRecDepth 100000 in
theorem see_any (s : Int × Bool) (t : Int) (Bl Bf lo : Nat) (w : World) (h : SeeB Bl Bf s w) (hne : Bl ≠ Bf) (h1 : lo ≤ Bl) (h2 : lo ≤ Bf) :
    Calls Tryd.prog 59 #[.int .i64 t, .pointer (some ⟨Bf, 0, none⟩), .pointer (some ⟨Bl, 0, none⟩)] w fun e w' => e = .returned (.tuple #[]) ∧ SeeB Bl Bf (seeN s t) w' ∧ Below lo w w' ∧ ∀ b, b ≠ Bl → b ≠ Bf → w'.heap[b]? = w.heap[b]? := by
  obtain ⟨a, f⟩ := s
  obtain ⟨hl, hf⟩ := h
  have HL := Lib.hid hl
  have HF := Lib.hid hf
  have c1 := hl.cell 0
  have c2 := hf.cell 0
  have q1 := hl.free 0
  have q2 := hf.free 0
  have hst : Hid (SeeB Bl Bf (t, true) ((w.setCell ⟨Bl, 0, none⟩ (.int .i64 t)).setCell ⟨Bf, 0, none⟩ (.bool true)) ∧ Below lo w ((w.setCell ⟨Bl, 0, none⟩ (.int .i64 t)).setCell ⟨Bf, 0, none⟩ (.bool true)) ∧ ∀ b, b ≠ Bl → b ≠ Bf → ((w.setCell ⟨Bl, 0, none⟩ (.int .i64 t)).setCell ⟨Bf, 0, none⟩ (.bool true)).heap[b]? = w.heap[b]?) :=
    ⟨⟨Blk.far (p := ⟨Bf, 0, none⟩) (Blk.set (i := 0) hl _) hne _, Blk.set (i := 0) (Blk.far (p := ⟨Bl, 0, none⟩) hf (Ne.symm hne) _) _⟩, ((Below.refl _ _).setCell h1 _).setCell h2 _, fun b hb1 hb2 => (heap_set (p := ⟨Bf, 0, none⟩) hb2).trans (heap_set (p := ⟨Bl, 0, none⟩) hb1)⟩
  have hne2 : Bf ≠ Bl := Ne.symm hne
  clear hl hf
  cases f with
  | false =>
    have HS : Hid (seeN (a, false) t = (t, true)) := if_pos (.inl rfl)
    go_enter Tryd.func59, Tryd.ntmps59
    go_wp2_with fail
    refine bodyPost_end (results_none rfl _ _ _) rfl ?_
    rw [HS.out]
    exact ⟨rfl, hst.out⟩
  | true =>
    by_cases ht : t < a
    · have HS : Hid (seeN (a, true) t = (t, true)) := if_pos (.inr ht)
      go_enter Tryd.func59, Tryd.ntmps59
      go_wp2_with fail
      refine bodyPost_end (results_none rfl _ _ _) rfl ?_
      rw [HS.out]
      exact ⟨rfl, hst.out⟩
    · have HS : Hid (seeN (a, true) t = (a, true)) := if_neg (by rintro (h | h); cases h; exact ht h)
      go_enter Tryd.func59, Tryd.ntmps59
      go_wp2_with fail
      refine bodyPost_end (results_none rfl _ _ _) rfl ?_
      rw [HS.out]
      exact ⟨rfl, ⟨HL.out, HF.out⟩, Below.refl _ _, fun _ _ _ => rfl⟩

def tilT (l : List SX) : Prop := ∀ x ∈ l, 0 ≤ x.m.til ∧ x.m.til ≤ 1099511627776
set_option maxHeartbeats 8000000 in
set_option maxRecDepth 100000 in
theorem nexts_any (l : List SX) (a : Option Addr) (n c : Nat) (S : Nat → Prop) (w : World) (hrow : RS w S l a n c) (hS : ∀ b, S b → b < w.heap.size) (htl : tilT l) :
    Calls Tryd.prog 33 #[.slice a n c] w fun e w' => e = .returned (.tuple #[.int .i64 (nextS l).1, .bool (nextS l).2]) ∧ Below w.heap.size w w' := by
  have hcl : c ≤ maxLen := hrow.2.2.1
  have hlc : n ≤ c := hrow.2.1
  obtain rfl : n = l.length := hrow.1
  unfold maxLen at hcl
  obtain ⟨W, hWd⟩ : ∃ W, W = (w.alloc (.cells #[.int .i64 0] 2)).alloc (.cells #[.bool false] 4) := ⟨_, rfl⟩
  obtain ⟨Bl, hBl⟩ : ∃ Bl, Bl = w.heap.size := ⟨_, rfl⟩
  obtain ⟨Bf, hBf⟩ : ∃ Bf, Bf = w.heap.size + 1 := ⟨_, rfl⟩
  have hW : Below w.heap.size w W := by rw [hWd]; go_grown
  have hB : SeeB Bl Bf (0, false) W := by
    rw [hWd, hBl, hBf]
    exact ⟨(Blk.new _ _ _).alloc _, Blk.new' _ _ _ (by simp)⟩
  have HB := Lib.hid hB
  have HW := Lib.hid hW
  have HWD := Lib.hid hWd
  have HROW := Lib.hid hrow
  have HS := Lib.hid hS
  have HTL := Lib.hid htl
  have hb1 : w.heap.size ≤ Bl := by omega
  have hb2 : w.heap.size ≤ Bf := by omega
  have hne : Bl ≠ Bf := by omega
  have HBL := Lib.hid hBl
  have HBF := Lib.hid hBf
  clear hrow hS htl hB hW hWd hBl hBf
  go_enter Tryd.func33, Tryd.ntmps33
  go_upto_region 2 with fail
  rw [← HWD.out, ← HBF.out, ← HBL.out]
  go_wp2_with fail
  go_loopw [12] (fun iv wr => ∃ j : Nat, iv = .int .i64 j ∧ j ≤ l.length ∧ SeeB Bl Bf (nextS (l.take j)) wr ∧ Below w.heap.size w wr) (fun i _ => l.length - (intOf i).toNat)
  case atStart => exact ⟨0, rfl, Nat.zero_le _, HB.out, HW.out⟩
  case round =>
    obtain ⟨j, rfl, hj, hsee, hbel⟩ := hrel
    have HSE := Lib.hid hsee
    have HBE := Lib.hid hbel
    have hBfs : Bf < wr.heap.size := Blk.lt hsee.2
    have hBls : Bl < wr.heap.size := Blk.lt hsee.1
    clear hsee hbel
    by_cases hlt : j < l.length
    · obtain ⟨g, o, x, xs, rfl, hSg, hx, ⟨ms, hm, rfl⟩, hxl, hr⟩ := HROW.out.get hlt
      obtain ⟨kx, ix, bx, sx, ax, nx, cx, rfl, -, -, -⟩ := hm
      have hr2 : wr.rangeAt g (o + j * 15) [.int .i64 x.m.id, .string x.m.topic, .int .i64 kx, .int .i64 ix, .int .u64 bx, .string sx, .slice ax nx cx, .int .i64 x.m.tat, .int .i64 x.m.til, .string x.m.reply, .int .i64 x.m.corr, .int .i64 x.m.prio, .int .i64 x.m.hops, .int .i64 x.tries, .int .i64 x.due] := rangeAt_keep hr fun q => HBE.out.cell (p := ⟨g, q, none⟩) (HS.out g hSg)
      have HSN := Lib.hid (nextS_snoc hx)
      obtain ⟨ht0, ht1⟩ := HTL.out x (List.mem_of_getElem? hx)
      have hj0 : (0 : Int) ≤ (j : Int) := by omega
      have hj1 : (j : Int) < (l.length : Int) := by omega
      clear hr hx hxl hSg
      go_upto_region 6 with (first
        | (refine wpList_load_blk rfl 62 _ rfl g (o + j * 15) rfl [.int .i64 x.m.id, .string x.m.topic, .int .i64 kx, .int .i64 ix, .int .u64 bx, .string sx, .slice ax nx cx, .int .i64 x.m.tat, .int .i64 x.m.til, .string x.m.reply, .int .i64 x.m.corr, .int .i64 x.m.prio, .int .i64 x.m.hops, .int .i64 x.tries, .int .i64 x.due] _ hr2 Tryd.underlying62 rfl sizeS ?_)
        | (refine wpList_store_blk (T := 62) rfl 62 _ _ rfl (wr.heap.size) 0 [] [.int .i64 0, .string ByteArray.empty, .int .i64 0, .int .i64 0, .int .u64 0, .string ByteArray.empty, .slice none 0 0, .int .i64 0, .int .i64 0, .string ByteArray.empty, .int .i64 0, .int .i64 0, .int .i64 0, .int .i64 0, .int .i64 0] [] [.int .i64 x.m.id, .string x.m.topic, .int .i64 kx, .int .i64 ix, .int .u64 bx, .string sx, .slice ax nx cx, .int .i64 x.m.tat, .int .i64 x.m.til, .string x.m.reply, .int .i64 x.m.corr, .int .i64 x.m.prio, .int .i64 x.m.hops, .int .i64 x.tries, .int .i64 x.due] rfl rfl (Blk.new wr _ _) rfl rfl sizeS (by simp [Value.oneCell']) ?_; intro w1 BX1 U1))
      have hb3 : Below wr.heap.size wr w1 := ((Below.refl wr.heap.size wr).alloc (Nat.le_refl _) _).trans (U1.below _ (Nat.le_refl _))
      have HSE1 : Hid (SeeB Bl Bf (nextS (l.take j)) w1) := ⟨Blk.on HSE.out.1 hb3, Blk.on HSE.out.2 hb3⟩
      have T1 := Lib.hid (below_on hb3 HBE.out)
      obtain ⟨gx, hgx⟩ : ∃ gx, gx = wr.heap.size := ⟨_, rfl⟩
      have BX := BX1
      rw [← hgx] at BX ⊢
      have HBX := Lib.hid BX
      have hgl : Bl < gx := by omega
      have hgf : Bf < gx := by omega
      clear hr2 U1 hb3 BX1 BX hgx HSE HBE
      have HC := Lib.hid (see_any _ x.due Bl Bf (w.heap.size) w1 HSE1.out hne hb1 hb2)
      have c14 := HBX.out.cell 14
      go_wp2_with fail
      refine HC.out.mono ?_
      rintro e w2 ⟨rfl, hs2, hbl2, hk2⟩
      have HSE2 := Lib.hid hs2
      have HBX2 : Hid (Blk w2 gx 62 #[.int .i64 x.m.id, .string x.m.topic, .int .i64 kx, .int .i64 ix, .int .u64 bx, .string sx, .slice ax nx cx, .int .i64 x.m.tat, .int .i64 x.m.til, .string x.m.reply, .int .i64 x.m.corr, .int .i64 x.m.prio, .int .i64 x.m.hops, .int .i64 x.tries, .int .i64 x.due]) := (hk2 gx (by omega) (by omega)).trans HBX.out
      have c8 := HBX2.out.cell 8
      have T2 : Hid (Below w.heap.size w w2) := T1.out.trans hbl2
      clear hs2 hbl2 hk2 HC HSE1 HBX c14 T1
      by_cases h0 : x.m.til = 0
      · have HS2 : Hid (stepN (nextS (l.take j)) x = seeN (nextS (l.take j)) x.due) := if_pos h0
        have e0 : (x.m.til != 0) = false := by rw [h0]; rfl
        clear h0
        go_wp2_with fail
        go_roundw
        case rel => first | exact ⟨j + 1, by go_num, by omega, by rw [HSN.out, HS2.out]; exact HSE2.out, T2.out⟩ | ((repeat apply Exists.intro); exact ⟨⟨j + 1, by go_num, by omega, by rw [HSN.out, HS2.out]; exact HSE2.out, T2.out⟩, by first | rfl | exact ⟨rfl, rfl⟩ | exact ⟨rfl, rfl, rfl⟩ | exact ⟨rfl, rfl, rfl, rfl⟩ | exact ⟨rfl, rfl, rfl, rfl, rfl⟩⟩)
        case measure => simp [intOf]; omega
      · have HS2 : Hid (stepN (nextS (l.take j)) x = seeN (seeN (nextS (l.take j)) x.due) (x.m.til + 1)) := if_neg h0
        have e0 : (x.m.til != 0) = true := bne_iff_ne.2 h0
        have ew : IntKind.i64.wrap (x.m.til + 1) = x.m.til + 1 := by rw [IntKind.wrap_i64]; omega
        have HC := Lib.hid (see_any _ (x.m.til + 1) Bl Bf (w.heap.size) w2 HSE2.out hne hb1 hb2)
        clear h0
        go_wp2_with fail
        refine HC.out.mono ?_
        rintro e w3 ⟨rfl, hs3, hbl3, hk3⟩
        have HSE3 := Lib.hid hs3
        have T3 : Hid (Below w.heap.size w w3) := T2.out.trans hbl3
        clear hs3 hbl3 hk3 HC
        go_wp2_with fail
        go_roundw
        case rel => first | exact ⟨j + 1, by go_num, by omega, by rw [HSN.out, HS2.out]; exact HSE3.out, T3.out⟩ | ((repeat apply Exists.intro); exact ⟨⟨j + 1, by go_num, by omega, by rw [HSN.out, HS2.out]; exact HSE3.out, T3.out⟩, by first | rfl | exact ⟨rfl, rfl⟩ | exact ⟨rfl, rfl, rfl⟩ | exact ⟨rfl, rfl, rfl, rfl⟩ | exact ⟨rfl, rfl, rfl, rfl, rfl⟩⟩)
        case measure => simp [intOf]; omega
    · obtain rfl : j = l.length := by omega
      have h := HSE.out
      rw [List.take_length] at h
      have cl := h.1.cell 0
      have cf := h.2.cell 0
      have T := HBE
      clear h
      go_upto_region 10 with fail
      go_quiet (fail)
      go_wp2_with fail
      refine bodyPost_ret (results_tmp2 rfl _ _ _) rfl ?_
      exact ⟨rfl, T.out.trans ⟨rfl, rfl, rfl, Nat.le_refl _, fun _ _ => rfl⟩⟩
end Go.Proofs.YtmdcfmdjbncaoaaDoor
