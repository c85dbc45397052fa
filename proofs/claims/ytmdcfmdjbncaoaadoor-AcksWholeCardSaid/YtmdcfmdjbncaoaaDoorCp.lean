/- acks.Next. awake of the acks' laws. -/
import Derived.Test.YtmdcfmdjbncaoaaDoorCc
import Derived.Test.YtmdcfmdjbncaoaaDoorBa
import Derived.Test.YtmdcfmdjbncaoaaDoorCm
import Derived.Test.YtmdcfmdjbncaoaaDoorCj
namespace Go.Proofs.YtmdcfmdjbncaoaaDoor
open Go.RowKit
attribute [local go_sem ↓] Go.wp_at_zero Go.wp_at_succ
attribute [local go_sem] Go.undef

/-- The least tick so far. -/
def seeN (s : Int × Bool) (t : Int) : Int × Bool := if s.2 = false ∨ t < s.1 then (t, true) else s
def stepN (s : Int × Bool) (x : SX) : Int × Bool := if x.m.til = 0 then seeN s x.due else seeN (seeN s x.due) (x.m.til + 1)
def nextS (l : List SX) : Int × Bool := l.foldl stepN (0, false)
theorem nextS_snoc {l : List SX} {k : Nat} {x : SX} (h : l[k]? = some x) : nextS (l.take (k + 1)) = stepN (nextS (l.take k)) x := by
  rw [← take_snoc h, nextS, List.foldl_append]; rfl

/-- Where the closure's two variables lie. -/
def SeeB (Bl Bf : Nat) (s : Int × Bool) (w : World) : Prop := Blk w Bl 2 #[.int .i64 s.1] ∧ Blk w Bf 4 #[.bool s.2]

set_option maxHeartbeats 4000000 in
set_option maxRecDepth 100000 in
theorem see_any (s : Int × Bool) (t : Int) (Bl Bf lo : Nat) (w : World) (h : SeeB Bl Bf s w) (hne : Bl ≠ Bf) (h1 : lo ≤ Bl) (h2 : lo ≤ Bf) :
    Calls Tryd.prog 59 #[.int .i64 t, .pointer (some ⟨Bf, 0, none⟩), .pointer (some ⟨Bl, 0, none⟩)] w fun e w' => e = .returned (.tuple #[]) ∧ SeeB Bl Bf (seeN s t) w' ∧ Below lo w w' ∧ ∀ b, b ≠ Bl → b ≠ Bf → w'.heap[b]? = w.heap[b]? := by
  obtain ⟨a, f⟩ := s
  obtain ⟨hl, hf⟩ := h
  have HL := Lib.hid hl
  have HF := Lib.hid hf
  have c1 := hl.cell 0
  have c2 := hf.cell 0
  have q1 := hl.free 0
  have q2 := hf.free 0
  have hst : Hid (SeeB Bl Bf (t, true) ((w.setCell ⟨Bl, 0, none⟩ (.int .i64 t)).setCell ⟨Bf, 0, none⟩ (.bool true)) ∧ Below lo w ((w.setCell ⟨Bl, 0, none⟩ (.int .i64 t)).setCell ⟨Bf, 0, none⟩ (.bool true)) ∧ ∀ b, b ≠ Bl → b ≠ Bf → ((w.setCell ⟨Bl, 0, none⟩ (.int .i64 t)).setCell ⟨Bf, 0, none⟩ (.bool true)).heap[b]? = w.heap[b]?) :=
    ⟨⟨Blk.far (p := ⟨Bf, 0, none⟩) (Blk.set (i := 0) hl _) hne _, Blk.set (i := 0) (Blk.far (p := ⟨Bl, 0, none⟩) hf (Ne.symm hne) _) _⟩, ((Below.refl _ _).setCell h1 _).setCell h2 _, fun b hb1 hb2 => (heap_set (p := ⟨Bf, 0, none⟩) hb2).trans (heap_set (p := ⟨Bl, 0, none⟩) hb1)⟩
  have hne2 : Bf ≠ Bl := Ne.symm hne
  clear hl hf
  cases f with
  | false =>
    have HS : Hid (seeN (a, false) t = (t, true)) := if_pos (.inl rfl)
    go_enter Tryd.func59, Tryd.ntmps59
    go_wp2_with fail
    refine bodyPost_end (results_none rfl _ _ _) rfl ?_
    rw [HS.out]
    exact ⟨rfl, hst.out⟩
  | true =>
    by_cases ht : t < a
    · have HS : Hid (seeN (a, true) t = (t, true)) := if_pos (.inr ht)
      go_enter Tryd.func59, Tryd.ntmps59
      go_wp2_with fail
      refine bodyPost_end (results_none rfl _ _ _) rfl ?_
      rw [HS.out]
      exact ⟨rfl, hst.out⟩
    · have HS : Hid (seeN (a, true) t = (a, true)) := if_neg (by rintro (h | h); cases h; exact ht h)
      go_enter Tryd.func59, Tryd.ntmps59
      go_wp2_with fail
      refine bodyPost_end (results_none rfl _ _ _) rfl ?_
      rw [HS.out]
      exact ⟨rfl, ⟨HL.out, HF.out⟩, Below.refl _ _, fun _ _ _ => rfl⟩

def tilT (l : List SX) : Prop := ∀ x ∈ l, 0 ≤ x.m.til ∧ x.m.til ≤ 1099511627776
set_option maxHeartbeats 8000000 in
set_option maxRecDepth 100000 in
theorem nexts_any (l : List SX) (a : Option Addr) (n c : Nat) (S : Nat → Prop) (w : World) (hrow : RS w S l a n c) (hS : ∀ b, S b → b < w.heap.size) (htl : tilT l) :
    Calls Tryd.prog 33 #[.slice a n c] w fun e w' => e = .returned (.tuple #[.int .i64 (nextS l).1, .bool (nextS l).2]) ∧ Below w.heap.size w w' := by
  have hcl : c ≤ maxLen := hrow.2.2.1
  have hlc : n ≤ c := hrow.2.1
  obtain rfl : n = l.length := hrow.1
  unfold maxLen at hcl
  obtain ⟨W, hWd⟩ : ∃ W, W = (w.alloc (.cells #[.int .i64 0] 2)).alloc (.cells #[.bool false] 4) := ⟨_, rfl⟩
  obtain ⟨Bl, hBl⟩ : ∃ Bl, Bl = w.heap.size := ⟨_, rfl⟩
  obtain ⟨Bf, hBf⟩ : ∃ Bf, Bf = w.heap.size + 1 := ⟨_, rfl⟩
  have hW : Below w.heap.size w W := by rw [hWd]; go_grown
  have hB : SeeB Bl Bf (0, false) W := by
    rw [hWd, hBl, hBf]
    exact ⟨(Blk.new _ _ _).alloc _, Blk.new' _ _ _ (by simp)⟩
  have HB := Lib.hid hB
  have HW := Lib.hid hW
  have HWD := Lib.hid hWd
  have HROW := Lib.hid hrow
  have HS := Lib.hid hS
  have HTL := Lib.hid htl
  have hb1 : w.heap.size ≤ Bl := by omega
  have hb2 : w.heap.size ≤ Bf := by omega
  have hne : Bl ≠ Bf := by omega
  have HBL := Lib.hid hBl
  have HBF := Lib.hid hBf
  clear hrow hS htl hB hW hWd hBl hBf
  go_enter Tryd.func33, Tryd.ntmps33
  go_upto_region 2 with fail
  rw [← HWD.out, ← HBF.out, ← HBL.out]
  go_wp2_with fail
  go_loopw [12] (fun iv wr => ∃ j : Nat, iv = .int .i64 j ∧ j ≤ l.length ∧ SeeB Bl Bf (nextS (l.take j)) wr ∧ Below w.heap.size w wr) (fun i _ => l.length - (intOf i).toNat)
  case atStart => exact ⟨0, rfl, Nat.zero_le _, HB.out, HW.out⟩
  case round =>
    obtain ⟨j, rfl, hj, hsee, hbel⟩ := hrel
    have HSE := Lib.hid hsee
    have HBE := Lib.hid hbel
    have hBfs : Bf < wr.heap.size := Blk.lt hsee.2
    have hBls : Bl < wr.heap.size := Blk.lt hsee.1
    clear hsee hbel
    by_cases hlt : j < l.length
    · obtain ⟨g, o, x, xs, rfl, hSg, hx, ⟨ms, hm, rfl⟩, hxl, hr⟩ := HROW.out.get hlt
      obtain ⟨kx, ix, bx, sx, ax, nx, cx, rfl, -, -, -⟩ := hm
      have hr2 : wr.rangeAt g (o + j * 15) [.int .i64 x.m.id, .string x.m.topic, .int .i64 kx, .int .i64 ix, .int .u64 bx, .string sx, .slice ax nx cx, .int .i64 x.m.tat, .int .i64 x.m.til, .string x.m.reply, .int .i64 x.m.corr, .int .i64 x.m.prio, .int .i64 x.m.hops, .int .i64 x.tries, .int .i64 x.due] := rangeAt_keep hr fun q => HBE.out.cell (p := ⟨g, q, none⟩) (HS.out g hSg)
      have HSN := Lib.hid (nextS_snoc hx)
      obtain ⟨ht0, ht1⟩ := HTL.out x (List.mem_of_getElem? hx)
      have hj0 : (0 : Int) ≤ (j : Int) := by omega
      have hj1 : (j : Int) < (l.length : Int) := by omega
      clear hr hx hxl hSg
      go_upto_region 6 with (first
        | (refine wpList_load_blk rfl 62 _ rfl g (o + j * 15) rfl [.int .i64 x.m.id, .string x.m.topic, .int .i64 kx, .int .i64 ix, .int .u64 bx, .string sx, .slice ax nx cx, .int .i64 x.m.tat, .int .i64 x.m.til, .string x.m.reply, .int .i64 x.m.corr, .int .i64 x.m.prio, .int .i64 x.m.hops, .int .i64 x.tries, .int .i64 x.due] _ hr2 Tryd.underlying62 rfl sizeS ?_)
        | (refine wpList_store_blk (T := 62) rfl 62 _ _ rfl (wr.heap.size) 0 [] [.int .i64 0, .string ByteArray.empty, .int .i64 0, .int .i64 0, .int .u64 0, .string ByteArray.empty, .slice none 0 0, .int .i64 0, .int .i64 0, .string ByteArray.empty, .int .i64 0, .int .i64 0, .int .i64 0, .int .i64 0, .int .i64 0] [] [.int .i64 x.m.id, .string x.m.topic, .int .i64 kx, .int .i64 ix, .int .u64 bx, .string sx, .slice ax nx cx, .int .i64 x.m.tat, .int .i64 x.m.til, .string x.m.reply, .int .i64 x.m.corr, .int .i64 x.m.prio, .int .i64 x.m.hops, .int .i64 x.tries, .int .i64 x.due] rfl rfl (Blk.new wr _ _) rfl rfl sizeS (by simp [Value.oneCell']) ?_; intro w1 BX1 U1))
      have hb3 : Below wr.heap.size wr w1 := ((Below.refl wr.heap.size wr).alloc (Nat.le_refl _) _).trans (U1.below _ (Nat.le_refl _))
      have HSE1 : Hid (SeeB Bl Bf (nextS (l.take j)) w1) := ⟨Blk.on HSE.out.1 hb3, Blk.on HSE.out.2 hb3⟩
      have T1 := Lib.hid (below_on hb3 HBE.out)
      obtain ⟨gx, hgx⟩ : ∃ gx, gx = wr.heap.size := ⟨_, rfl⟩
      have BX := BX1
      rw [← hgx] at BX ⊢
      have HBX := Lib.hid BX
      have hgl : Bl < gx := by omega
      have hgf : Bf < gx := by omega
      clear hr2 U1 hb3 BX1 BX hgx HSE HBE
      have HC := Lib.hid (see_any _ x.due Bl Bf (w.heap.size) w1 HSE1.out hne hb1 hb2)
      have c14 := HBX.out.cell 14
      go_wp2_with fail
      refine HC.out.mono ?_
      rintro e w2 ⟨rfl, hs2, hbl2, hk2⟩
      have HSE2 := Lib.hid hs2
      have HBX2 : Hid (Blk w2 gx 62 #[.int .i64 x.m.id, .string x.m.topic, .int .i64 kx, .int .i64 ix, .int .u64 bx, .string sx, .slice ax nx cx, .int .i64 x.m.tat, .int .i64 x.m.til, .string x.m.reply, .int .i64 x.m.corr, .int .i64 x.m.prio, .int .i64 x.m.hops, .int .i64 x.tries, .int .i64 x.due]) := (hk2 gx (by omega) (by omega)).trans HBX.out
      have c8 := HBX2.out.cell 8
      have T2 : Hid (Below w.heap.size w w2) := T1.out.trans hbl2
      clear hs2 hbl2 hk2 HC HSE1 HBX c14 T1
      by_cases h0 : x.m.til = 0
      · have HS2 : Hid (stepN (nextS (l.take j)) x = seeN (nextS (l.take j)) x.due) := if_pos h0
        have e0 : (x.m.til != 0) = false := by rw [h0]; rfl
        clear h0
        go_wp2_with fail
        go_roundw
        case rel => first | exact ⟨j + 1, by go_num, by omega, by rw [HSN.out, HS2.out]; exact HSE2.out, T2.out⟩ | ((repeat apply Exists.intro); exact ⟨⟨j + 1, by go_num, by omega, by rw [HSN.out, HS2.out]; exact HSE2.out, T2.out⟩, by first | rfl | exact ⟨rfl, rfl⟩ | exact ⟨rfl, rfl, rfl⟩ | exact ⟨rfl, rfl, rfl, rfl⟩ | exact ⟨rfl, rfl, rfl, rfl, rfl⟩⟩)
        case measure => simp [intOf]; omega
      · have HS2 : Hid (stepN (nextS (l.take j)) x = seeN (seeN (nextS (l.take j)) x.due) (x.m.til + 1)) := if_neg h0
        have e0 : (x.m.til != 0) = true := bne_iff_ne.2 h0
        have ew : IntKind.i64.wrap (x.m.til + 1) = x.m.til + 1 := by rw [IntKind.wrap_i64]; omega
        have HC := Lib.hid (see_any _ (x.m.til + 1) Bl Bf (w.heap.size) w2 HSE2.out hne hb1 hb2)
        clear h0
        go_wp2_with fail
        refine HC.out.mono ?_
        rintro e w3 ⟨rfl, hs3, hbl3, hk3⟩
        have HSE3 := Lib.hid hs3
        have T3 : Hid (Below w.heap.size w w3) := T2.out.trans hbl3
        clear hs3 hbl3 hk3 HC
        go_wp2_with fail
        go_roundw
        case rel => first | exact ⟨j + 1, by go_num, by omega, by rw [HSN.out, HS2.out]; exact HSE3.out, T3.out⟩ | ((repeat apply Exists.intro); exact ⟨⟨j + 1, by go_num, by omega, by rw [HSN.out, HS2.out]; exact HSE3.out, T3.out⟩, by first | rfl | exact ⟨rfl, rfl⟩ | exact ⟨rfl, rfl, rfl⟩ | exact ⟨rfl, rfl, rfl, rfl⟩ | exact ⟨rfl, rfl, rfl, rfl, rfl⟩⟩)
        case measure => simp [intOf]; omega
    · obtain rfl : j = l.length := by omega
      have h := HSE.out
      rw [List.take_length] at h
      have cl := h.1.cell 0
      have cf := h.2.cell 0
      have T := HBE
      clear h
      go_upto_region 10 with fail
      go_quiet (fail)
      go_wp2_with fail
      refine bodyPost_ret (results_tmp2 rfl _ _ _) rfl ?_
      exact ⟨rfl, T.out.trans ⟨rfl, rfl, rfl, Nat.le_refl _, fun _ _ => rfl⟩⟩
end Go.Proofs.YtmdcfmdjbncaoaaDoor
namespace Go.Proofs.YtmdcfmdjbncaoaaDoor
open Go.RowKit
attribute [local go_sem ↓] Go.wp_at_zero Go.wp_at_succ
attribute [local go_sem] Go.undef

abbrev RSX (w : World) (l : List SX) (a : Option Addr) (n c : Nat) : Prop := RS w (· < w.heap.size) l a n c
theorem RSX.on {w w' : World} {l : List SX} {a : Option Addr} {n c : Nat} (h : RSX w l a n c) (hb : Below w.heap.size w w') : RSX w' l a n c := RS.mono (RS.under h hb (fun _ h => h)) (fun _ hy => Nat.lt_of_lt_of_le hy hb.size)
def kp : PX := ⟨2, 2, 5⟩
def km : MX := ⟨7, ⟨#[116]⟩, .node 0 0 0 ByteArray.empty [], 0, 0, ByteArray.empty, 0, 0, 0⟩
theorem km_is (w : World) (S : Nat → Prop) : IsM w S km [.int .i64 7, .string ⟨#[116]⟩, .int .i64 0, .int .i64 0, .int .u64 0, .string ByteArray.empty, .slice none 0 0, .int .i64 0, .int .i64 0, .string ByteArray.empty, .int .i64 0, .int .i64 0, .int .i64 0] :=
  ⟨0, 0, 0, ByteArray.empty, none, 0, 0, rfl, IsD.shut (by decide) (by decide) (by decide) (Nat.zero_le _) (RowsOf.nil none 0 (Nat.zero_le _)), by decide, Nat.zero_le _⟩
theorem km_size : km.body.size ≤ 4096 := by show (Tree.node _ _ _ _ []).size ≤ 4096; rw [Tree.size_node, sizes_nil]; omega
def kx1 : SX := ⟨km, 1, 2⟩
def kx2 : SX := ⟨km, 2, 6⟩
theorem kx_small (x : SX) (h : x.m = km) : smallS [x] := fun y hy => by rw [List.mem_singleton.1 hy, h]; exact km_size
theorem kaw1 : sendS [] km kp 0 = ([kx1], 0) := by
  have h : waitF 0 2 5 = 2 := by decide
  simp [sendS, placeS, kp, kx1, h]
theorem kaw2 : dueS [kx1] kp 2 = ⟨[kx2], [km], [], []⟩ := by
  have h : waitF 1 2 5 = 4 := by decide
  simp [dueS, addD, clsS, againS, kx1, kx2, kp, km, h]
theorem kaw3 : dueS [kx2] kp 6 = ⟨[], [], [km], []⟩ := by simp [dueS, addD, clsS, kx2, kp, km]
theorem kaw4 : nextS [kx1] = (2, true) := by simp [nextS, stepN, seeN, kx1, km]
theorem kp_fit : FitP kp := by unfold FitP kp; decide

set_option maxHeartbeats 8000000 in
set_option maxRecDepth 100000 in
theorem awakek_any (w : World) : Calls Tryd.prog 26 #[] w fun e w' => e = .returned (.bool true) ∧ Below w.heap.size w w' := by
  go_enter Tryd.func26, Tryd.ntmps26
  go_upto_region 2 with (refine wpList_store_blk (T := 52) rfl 52 _ _ rfl (w.heap.size) 0 [] [.int .i64 0, .int .i64 0, .int .i64 0] [] [.int .i64 2, .int .i64 2, .int .i64 5] rfl rfl (Blk.new w _ _) rfl rfl sizeP (by simp [Value.oneCell']) ?_; intro w1 bp U1)
  have T : Hid (Below w.heap.size w w1) := ((Below.refl w.heap.size w).alloc (Nat.le_refl _) _).trans (U1.below _ (Nat.le_refl _))
  have BP := Lib.hid bp
  clear U1 bp
  have hp := sendp_any [] km kp 0 _ none 0 0 (fun _ => False) w1 (RowsOf.nil none 0 (Nat.zero_le _)) (fun _ h => h.elim) (fun _ h => absurd h (by simp)) (by omega) (km_is w1 _) km_size kp_fit (by omega) (by omega)
  rw [kaw1] at hp
  have HP := Lib.hid hp
  clear hp
  go_wp2_with (refine wpList_load_blk rfl 52 _ rfl (w.heap.size) 0 rfl [.int .i64 2, .int .i64 2, .int .i64 5] _ (Blk.range (pre := []) (post := []) BP.out rfl) Tryd.underlying52 rfl sizeP ?_)
  refine HP.out.mono ?_
  rintro e w2 ⟨a1, c1, S1, css1, rfl, ho, hb2⟩
  have R1 : Hid (RSX w2 [kx1] a1 1 c1) := RS.mono (ho.rows keepsS) (fun b hb => hb.2)
  replace BP := Lib.hid (Blk.on BP.out hb2)
  replace T := Lib.hid (below_on hb2 T.out)
  clear hb2
  clear HP ho
  have hp := duep_any [kx1] kp 2 _ a1 1 c1 w2 R1.out (fun _ h => h) (kx_small _ rfl) (fun y hy => by rw [List.mem_singleton.1 hy]; exact ⟨by decide, by decide⟩) (by omega) kp_fit (by omega) (by omega)
  rw [kaw2] at hp
  have HP := Lib.hid hp
  clear hp
  go_wp2_with (refine wpList_load_blk rfl 52 _ rfl (w.heap.size) 0 rfl [.int .i64 2, .int .i64 2, .int .i64 5] _ (Blk.range (pre := []) (post := []) BP.out rfl) Tryd.underlying52 rfl sizeP ?_)
  refine HP.out.mono ?_
  rintro e w3 ⟨a6, c6, a7, c7, a8, c8, a9, c9, rfl, r6, -, -, -, hb3⟩
  have R2 : Hid (RSX w3 [kx2] a6 1 c6) := RS.mono r6 (fun b hb => hb.2)
  replace BP := Lib.hid (Blk.on BP.out hb3)
  replace R1 := Lib.hid (RSX.on R1.out hb3)
  replace T := Lib.hid (below_on hb3 T.out)
  clear hb3
  clear HP r6
  have hp := duep_any [kx2] kp 6 _ a6 1 c6 w3 R2.out (fun _ h => h) (kx_small _ rfl) (fun y hy => by rw [List.mem_singleton.1 hy]; exact ⟨by decide, by decide⟩) (by omega) kp_fit (by omega) (by omega)
  rw [kaw3] at hp
  have HP := Lib.hid hp
  clear hp R2
  go_wp2_with (refine wpList_load_blk rfl 52 _ rfl (w.heap.size) 0 rfl [.int .i64 2, .int .i64 2, .int .i64 5] _ (Blk.range (pre := []) (post := []) BP.out rfl) Tryd.underlying52 rfl sizeP ?_)
  refine HP.out.mono ?_
  rintro e w4 ⟨b6, d6, b7, d7, b8, d8, b9, d9, rfl, -, -, -, -, hb4⟩
  replace R1 := Lib.hid (RSX.on R1.out hb4)
  replace T := Lib.hid (below_on hb4 T.out)
  clear hb4
  clear HP BP
  have hp := nexts_any [kx1] a1 1 c1 _ w4 R1.out (fun _ h => h) (fun y hy => by rw [List.mem_singleton.1 hy]; exact ⟨by decide, by decide⟩)
  rw [kaw4] at hp
  have HP := Lib.hid hp
  clear hp
  go_wp2_with fail
  refine HP.out.mono ?_
  rintro e w5 ⟨rfl, hb5⟩
  replace R1 := Lib.hid (RSX.on R1.out hb5)
  replace T := Lib.hid (below_on hb5 T.out)
  clear hb5
  clear HP
  obtain ⟨g, o, y, cs, rfl, -, hy, ⟨ms, hm, rfl⟩, -, hr⟩ := R1.out.get (j := 0) (by omega)
  obtain rfl : kx1 = y := by simpa using hy
  obtain ⟨kk, ki, kb, ks, ka, kn, kc, rfl, -, -, -⟩ := hm
  have c14 : w5.cell? ⟨g, o + 14, none⟩ = some (.int .i64 2) := hr 14 _ rfl
  clear hr hy R1
  go_wp2_with fail
  go_ret
  exact ⟨rfl, T.out⟩
end Go.Proofs.YtmdcfmdjbncaoaaDoor
