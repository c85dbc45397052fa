/- The buffer's program: kept, Flush, Next, Tick, Put. -/
import Derived.Test.YtmdcfmdjbncaoaaDoorSp
import Derived.Test.YtmdcfmdjbncaoaaDoorBx
import Derived.Test.YtmdcfmdjbncaoaaDoorBf
namespace Go.Proofs.YtmdcfmdjbncaoaaDoor
open Go.RowKit
attribute [local go_sem ↓] Go.wp_at_zero Go.wp_at_succ
attribute [local go_sem] Go.undef

theorem sizeB : (Tryd.prog.info? 24).map (·.size) = some 2 := by kernel_rfl

theorem buf_one' {a : Option Addr} {n c : Nat} {s : Int} : ∀ u ∈ [Value.slice a n c, Value.int .i64 s], u.oneCell' = true := by simp [Value.oneCell']
def KeptPost (w : World) (l : List MX) (since : Int) (e : Ending) (w' : World) : Prop :=
  ∃ a c, e = .returned (.agg #[.slice a l.length c, .int .i64 since]) ∧ OwnM w' w.heap.size l (.slice a l.length c) ∧ Below w.heap.size w w'
def BufPost (w : World) (l : List MX) (since : Int) (out : List MX) (e : Ending) (w' : World) : Prop :=
  ∃ a c ao co, e = .returned (.tuple #[.agg #[.slice a l.length c, .int .i64 since], .slice ao out.length co]) ∧ OwnM w' w.heap.size l (.slice a l.length c) ∧ OwnM w' w.heap.size out (.slice ao out.length co) ∧ Below w.heap.size w w'

set_option maxHeartbeats 8000000 in
set_option maxRecDepth 100000 in
theorem kept_any (l : List MX) (since : Int) (a : Option Addr) (n c : Nat) (S : Nat → Prop) (w : World) (hrow : RM w S l a n c) (hS : ∀ b, S b → b < w.heap.size) (hsm : smallL l) (hn : n ≤ 65536) :
    Calls Tryd.prog 47 #[.agg #[.slice a n c, .int .i64 since]] w (KeptPost w l since) := by
  obtain rfl : n = l.length := hrow.1
  obtain ⟨W, hWd⟩ : ∃ W, W = (w.alloc (.cells #[.slice a l.length c, .int .i64 since] 24)).alloc (.cells #[.slice none 0 0, .int .i64 0] 24) := ⟨_, rfl⟩
  have hW : Below w.heap.size w W := by rw [hWd]; go_grown
  have hsz : W.heap.size = w.heap.size + 2 := by rw [hWd]; simp
  have b0 : Blk W w.heap.size 24 #[.slice a l.length c, .int .i64 since] := by rw [hWd]; exact (Blk.new _ _ _).alloc _
  have b1 : Blk W (w.heap.size + 1) 24 #[.slice none 0 0, .int .i64 0] := by rw [hWd]; exact Blk.new' _ _ _ (by simp)
  have HC := Lib.hid (copiedb_any l a l.length c S W.drew (RM.under hrow hW.drew hS) (fun x hx => by show x < W.heap.size; rw [hsz]; have := hS x hx; omega) hsm hn)
  have HW := Lib.hid hW
  have HSZ := Lib.hid hsz
  have HWD := Lib.hid hWd
  have hlt0 : w.heap.size < W.heap.size := by omega
  have hlt1 : w.heap.size + 1 < W.heap.size := by omega
  clear hrow hS hsm hW hsz hWd
  go_enter Tryd.func47, Tryd.ntmps47
  go_upto_region 1 with fail
  show Code.wp _ _ _ _ ((w.alloc (.cells #[.slice a l.length c, .int .i64 since] 24)).alloc (.cells #[.slice none 0 0, .int .i64 0] 24))
  rw [← HWD.out]
  refine wp_region_held_drew (S := (fun w' => Blk w' (w.heap.size) 24 #[.slice a l.length c, .int .i64 since])) (by kernel_rfl) ?_ (fun hHeld => ?_)
  · exact b0.drew
  refine wpAnyH_take (i := 0) (v := ?_) rfl (by kernel_rfl) (by kernel_rfl) (by kernel_rfl) (fun _ _ _ h => h) (Or.inl ⟨by rfl, ?_⟩) hHeld ?_
  rotate_left
  · intro w hSw
    try dsimp only at hSw
    first | (go_simp; done) | (go_simp; with_reducible rfl)
  try simp only [Act.put, List.getElem_toArray, List.getElem_cons_zero, List.setIfInBounds_toArray, List.set_cons_zero, List.set_cons_succ]
  refine wpAnyH_take (i := 1) (v := .slice a l.length c) rfl (by kernel_rfl) (by kernel_rfl) (by kernel_rfl) (fun _ _ _ h => h) (Or.inl ⟨by rfl, ?_⟩) hHeld ?_
  · intro w hSw
    have h4 := Blk.cell hSw 0
    first | (go_simp; done) | (go_simp; with_reducible rfl)
  try simp only [Act.put, List.getElem_toArray, List.getElem_cons_zero, List.getElem_cons_succ, List.setIfInBounds_toArray, List.set_cons_zero, List.set_cons_succ]
  refine wpAnyH_take (i := 3) (v := ?_) rfl (by kernel_rfl) (by kernel_rfl) (by kernel_rfl) (fun _ _ _ h => h) (Or.inl ⟨by rfl, ?_⟩) hHeld ?_
  rotate_left
  · intro w hSw
    try dsimp only at hSw
    first | (go_simp; done) | (go_simp; with_reducible rfl)
  try simp only [Act.put, List.getElem_toArray, List.getElem_cons_zero, List.getElem_cons_succ, List.setIfInBounds_toArray, List.set_cons_zero, List.set_cons_succ]
  refine wpAnyH_take (i := 4) (v := .int .i64 since) rfl (by kernel_rfl) (by kernel_rfl) (by kernel_rfl) (fun _ _ _ h => h) (Or.inl ⟨by rfl, ?_⟩) hHeld ?_
  · intro w hSw
    have h4 := Blk.cell hSw 1
    first | (go_simp; done) | (go_simp; with_reducible rfl)
  try simp only [Act.put, List.getElem_toArray, List.getElem_cons_zero, List.getElem_cons_succ, List.setIfInBounds_toArray, List.set_cons_zero, List.set_cons_succ]
  refine wpAnyH_ready (rs := [2]) (by kernel_rfl) (by simp) ?_
  refine AllReadyH.cons rfl (fun K hK => ?_) AllReadyH.nil
  go_simp
  go_at_call 51
  refine HC.out.mono ?_
  rintro e w2 ⟨a1, c1, S1, css1, rfl, hown, hb2⟩
  have HO : Hid (OwnM w2 W.drew.heap.size l (.slice a1 l.length c1)) := ⟨_, _, hown⟩
  have T2 := Lib.hid (below_on hb2 HW.out.drew)
  have bR := Blk.under b1.drew hb2 (Blk.lt b1.drew)
  clear hown
  refine hK.out _ _ (Blk.under hHeld hb2 (Blk.lt hHeld)) (fun hHeld2 => ?_)
  clear hHeld hK K
  have hHeld := hHeld2
  clear hHeld2
  try simp only [Act.put, List.getElem_toArray, List.getElem_cons_zero, List.getElem_cons_succ, List.setIfInBounds_toArray, List.set_cons_zero, List.set_cons_succ]
  clear hb2
  refine wpAnyH_take (i := 5) (v := ?_) rfl (by kernel_rfl) (by kernel_rfl) (by kernel_rfl) (fun _ _ _ h => h) (Or.inl ⟨by rfl, ?_⟩) hHeld ?_
  rotate_left
  · intro w hSw
    try dsimp only at hSw
    first | (go_simp; done) | (go_simp; with_reducible rfl)
  try simp only [Act.put, List.getElem_toArray, List.getElem_cons_zero, List.getElem_cons_succ, List.setIfInBounds_toArray, List.set_cons_zero, List.set_cons_succ]
  refine wpAnyH_ready (rs := [6]) (by kernel_rfl) (by simp) ?_
  refine AllReadyH.cons rfl (fun K hK => ?_) AllReadyH.nil
  refine step_store_blk (T := 24) (by rfl) 24 _ _ (by rfl) (w.heap.size + 1) 0 [] [.slice none 0 0, .int .i64 0] [] [.slice a1 l.length c1, .int .i64 since] (by rfl) (by rfl) bR rfl rfl sizeB buf_one' (fun w3 br U3 => ?_)
  refine hK.out _ _ (U3.blk hHeld (by omega)) (fun hHeld2 => ?_)
  clear hHeld hK K
  have hHeld := hHeld2
  clear hHeld2
  try simp only [Act.put, List.getElem_toArray, List.getElem_cons_zero, List.getElem_cons_succ]
  refine wpAnyH_done (by kernel_rfl) ?_ _
  clear hHeld bR
  go_wp2_with fail
  refine bodyPost_ret (res_c rfl rfl (load_blk w3 (w.heap.size + 1) 24 [.slice a1 l.length c1, .int .i64 since] _ br Tryd.underlying24 rfl sizeB)) rfl ?_
  have hs2 := T2.out.size
  refine ⟨a1, c1, rfl, (OwnM.upd (OwnM.mono HO.out (B' := w.heap.size + 2) (by show w.heap.size + 2 ≤ W.heap.size; rw [HSZ.out]; exact Nat.le_refl _)) U3 (by omega)).mono (by omega), T2.out.trans (U3.below _ (by omega))⟩

set_option maxHeartbeats 8000000 in
set_option maxRecDepth 100000 in
theorem flush_any (l : List MX) (since : Int) (a : Option Addr) (n c : Nat) (S : Nat → Prop) (w : World) (hrow : RM w S l a n c) (hS : ∀ b, S b → b < w.heap.size) (hsm : smallL l) (hn : n ≤ 65536) :
    Calls Tryd.prog 22 #[.agg #[.slice a n c, .int .i64 since]] w (BufPost w [] 0 l) := by
  obtain rfl : n = l.length := hrow.1
  obtain ⟨W, hWd⟩ : ∃ W, W = (w.alloc (.cells #[.slice a l.length c, .int .i64 since] 24)).alloc (.cells #[.slice none 0 0, .int .i64 0] 24) := ⟨_, rfl⟩
  have hW : Below w.heap.size w W := by rw [hWd]; go_grown
  have hsz : W.heap.size = w.heap.size + 2 := by rw [hWd]; simp
  have b0 : Blk W w.heap.size 24 #[.slice a l.length c, .int .i64 since] := by rw [hWd]; exact (Blk.new _ _ _).alloc _
  have b1 : Blk W (w.heap.size + 1) 24 #[.slice none 0 0, .int .i64 0] := by rw [hWd]; exact Blk.new' _ _ _ (by simp)
  have HC := Lib.hid (copiedb_any l a l.length c S W (RM.under hrow hW hS) (fun x hx => by rw [hsz]; have := hS x hx; omega) hsm hn)
  have HW := Lib.hid hW
  have HSZ := Lib.hid hsz
  have HWD := Lib.hid hWd
  have HB1 := Lib.hid b1
  have c0 := b0.cell 0
  simp only [List.getElem?_toArray, List.getElem?_cons_zero] at c0
  clear hrow hS hsm hW hsz hWd b0 b1
  go_enter Tryd.func22, Tryd.ntmps22
  go_upto_region 1 with fail
  show Code.wp _ _ _ _ ((w.alloc (.cells #[.slice a l.length c, .int .i64 since] 24)).alloc (.cells #[.slice none 0 0, .int .i64 0] 24))
  rw [← HWD.out]
  go_wp2_with fail
  refine HC.out.mono ?_
  rintro e w2 ⟨a1, c1, S1, css1, rfl, hown, hb2⟩
  have HO : Hid (OwnM w2 W.heap.size l (.slice a1 l.length c1)) := ⟨_, _, hown⟩
  have T2 := Lib.hid (below_on hb2 HW.out)
  have b1 := HB1.out.under hb2 (by rw [HSZ.out]; omega)
  clear hown hb2 c0
  go_wp2_with (refine wpList_store_blk (T := 24) rfl 24 _ _ rfl (w.heap.size + 1) 0 [] [.slice none 0 0, .int .i64 0] [] [.slice none 0 0, .int .i64 0] rfl rfl b1 rfl rfl sizeB buf_one' ?_; intro w3 br U3)
  refine bodyPost_ret (res_ct rfl rfl (load_blk w3 (w.heap.size + 1) 24 [.slice none 0 0, .int .i64 0] _ br Tryd.underlying24 rfl sizeB) rfl) rfl ?_
  exact ⟨none, 0, a1, c1, rfl, OwnM.nil _ _, (OwnM.upd (OwnM.mono HO.out (B' := w.heap.size + 2) (by rw [HSZ.out]; exact Nat.le_refl _)) U3 (by omega)).mono (by omega), T2.out.trans (U3.below _ (by omega))⟩

/-- The tick at which all go on by themselves, and whether. -/
def nextB (l : List MX) (since b : Int) : Int × Bool := if b ≤ 0 ∨ l = [] then (0, false) else (since + b, true)
set_option maxHeartbeats 4000000 in
theorem nextp_any (l : List MX) (since b : Int) (a : Option Addr) (c : Nat) (w : World) (hs0 : 0 ≤ since) (hs1 : since ≤ 1099511627776) (hb1 : b ≤ 1000000) : Calls Tryd.prog 23 #[.agg #[.slice a l.length c, .int .i64 since], .int .i64 b] w fun e w' => e = .returned (.tuple #[.int .i64 (nextB l since b).1, .bool (nextB l since b).2]) ∧ Below w.heap.size w w' := by
  have hbel : Below w.heap.size w (w.alloc (.cells #[.slice a l.length c, .int .i64 since] 24)) := by go_grown
  by_cases h1 : b ≤ 0
  · have e : nextB l since b = (0, false) := by rw [nextB, if_pos (.inl h1)]
    rw [e]
    clear e
    go_enter Tryd.func23, Tryd.ntmps23
    go_wp2_with fail
    refine bodyPost_ret (results_tmp2 rfl _ _ _) rfl ?_
    exact ⟨rfl, hbel⟩
  · by_cases h2 : (l.length : Int) = 0
    · have hl : l = [] := List.length_eq_zero_iff.1 (by omega)
      have e : nextB l since b = (0, false) := by rw [nextB, if_pos (.inr hl)]
      rw [e]
      have e2 : ((l.length : Int) == 0) = true := by rw [h2]; rfl
      clear e hl h2
      go_enter Tryd.func23, Tryd.ntmps23
      go_wp2_with fail
      refine bodyPost_ret (results_tmp2 rfl _ _ _) rfl ?_
      exact ⟨rfl, hbel⟩
    · have hl : ¬ (b ≤ 0 ∨ l = []) := by rintro (h | h); exact h1 h; subst h; exact h2 rfl
      have e : nextB l since b = (since + b, true) := by rw [nextB, if_neg hl]
      rw [e]
      have e2 : ((l.length : Int) == 0) = false := beq_eq_false_iff_ne.2 h2
      clear e hl h2
      go_enter Tryd.func23, Tryd.ntmps23
      go_wp2_with fail
      refine bodyPost_ret (results_tmp2 rfl _ _ _) rfl ?_
      exact ⟨rfl, hbel⟩

set_option maxHeartbeats 4000000 in
theorem nextr_any (l : List MX) (since b : Int) (a : Option Addr) (c : Nat) (w : World) (hs0 : 0 ≤ since) (hs1 : since ≤ 1099511627776) (hb1 : b ≤ 1000000) : Calls Tryd.prog 24 #[.agg #[.slice a l.length c, .int .i64 since], .int .i64 b] w fun e w' => e = .returned (.tuple #[.int .i64 (nextB l since b).1, .bool (nextB l since b).2]) ∧ Below w.heap.size w w' := by
  have hbel : Below w.heap.size w (w.alloc (.cells #[.slice a l.length c, .int .i64 since] 24)) := by go_grown
  by_cases h1 : b ≤ 0
  · have e : nextB l since b = (0, false) := by rw [nextB, if_pos (.inl h1)]
    rw [e]
    clear e
    go_enter Tryd.func24, Tryd.ntmps24
    go_wp2_with fail
    refine bodyPost_ret (results_tmp2 rfl _ _ _) rfl ?_
    exact ⟨rfl, hbel⟩
  · by_cases h2 : (l.length : Int) = 0
    · have hl : l = [] := List.length_eq_zero_iff.1 (by omega)
      have e : nextB l since b = (0, false) := by rw [nextB, if_pos (.inr hl)]
      rw [e]
      have e2 : ((l.length : Int) == 0) = true := by rw [h2]; rfl
      clear e hl h2
      go_enter Tryd.func24, Tryd.ntmps24
      go_wp2_with fail
      refine bodyPost_ret (results_tmp2 rfl _ _ _) rfl ?_
      exact ⟨rfl, hbel⟩
    · have hl : ¬ (b ≤ 0 ∨ l = []) := by rintro (h | h); exact h1 h; subst h; exact h2 rfl
      have e : nextB l since b = (since + b, true) := by rw [nextB, if_neg hl]
      rw [e]
      have e2 : ((l.length : Int) == 0) = false := beq_eq_false_iff_ne.2 h2
      clear e hl h2
      go_enter Tryd.func24, Tryd.ntmps24
      go_wp2_with fail
      refine bodyPost_ret (results_tmp2 rfl _ _ _) rfl ?_
      exact ⟨rfl, hbel⟩


/-- What Tick does. -/
def tickGo (l : List MX) (since b now : Int) : Bool := (nextB l since b).2 && decide ((nextB l since b).1 ≤ now)
def tickBuf (l : List MX) (since b now : Int) : (List MX × Int) × List MX := if tickGo l since b now = true then (([], 0), l) else ((l, since), [])

set_option maxHeartbeats 8000000 in
set_option maxRecDepth 100000 in
theorem tickp_any (l : List MX) (since b now : Int) (a : Option Addr) (n c : Nat) (S : Nat → Prop) (w : World) (hrow : RM w S l a n c) (hS : ∀ x, S x → x < w.heap.size) (hsm : smallL l) (hn : n ≤ 65536) (hs0 : 0 ≤ since) (hs1 : since ≤ 1099511627776) (hb1 : b ≤ 1000000) :
    Calls Tryd.prog 20 #[.agg #[.slice a n c, .int .i64 since], .int .i64 b, .int .i64 now] w (BufPost w (tickBuf l since b now).1.1 (tickBuf l since b now).1.2 (tickBuf l since b now).2) := by
  obtain rfl : n = l.length := hrow.1
  obtain ⟨W, hWd⟩ : ∃ W, W = (w.alloc (.cells #[.slice a l.length c, .int .i64 since] 24)).alloc (.cells #[.slice none 0 0, .int .i64 0] 24) := ⟨_, rfl⟩
  have hW : Below w.heap.size w W := by rw [hWd]; go_grown
  have hsz : W.heap.size = w.heap.size + 2 := by rw [hWd]; simp
  have b0 : Blk W w.heap.size 24 #[.slice a l.length c, .int .i64 since] := by rw [hWd]; exact (Blk.new _ _ _).alloc _
  have b1 : Blk W (w.heap.size + 1) 24 #[.slice none 0 0, .int .i64 0] := by rw [hWd]; exact Blk.new' _ _ _ (by simp)
  obtain ⟨X, hX⟩ : ∃ X, X = tickBuf l since b now := ⟨_, rfl⟩
  rw [← hX]
  have HXX := Lib.hid hX
  clear hX
  have HN := Lib.hid (nextp_any l since b a c W hs0 hs1 hb1)
  have HROW := Lib.hid hrow
  have HS := Lib.hid hS
  have HSM := Lib.hid hsm
  have HW := Lib.hid hW
  have HSZ := Lib.hid hsz
  have HWD := Lib.hid hWd
  have B0 := Lib.hid b0
  have B1 := Lib.hid b1
  clear hrow hS hsm hW hsz hWd b0 b1
  go_enter Tryd.func20, Tryd.ntmps20
  go_upto_region 1 with fail
  show Code.wp _ _ _ _ ((w.alloc (.cells #[.slice a l.length c, .int .i64 since] 24)).alloc (.cells #[.slice none 0 0, .int .i64 0] 24))
  rw [← HWD.out]
  go_wp2_with (refine wpList_load_blk rfl 24 _ rfl (w.heap.size) 0 rfl [.slice a l.length c, .int .i64 since] _ (Blk.range (pre := []) (post := []) B0.out rfl) Tryd.underlying24 rfl sizeB ?_)
  refine HN.out.mono ?_
  rintro e w1 ⟨rfl, hb⟩
  replace B0 := Lib.hid (Blk.under B0.out hb (Blk.lt B0.out))
  replace B1 := Lib.hid (Blk.under B1.out hb (Blk.lt B1.out))
  have T := Lib.hid (below_on hb HW.out)
  have hz1 : w.heap.size + 2 ≤ w1.heap.size := by have := hb.size; rw [HSZ.out] at this; exact this
  clear hb HN HWD
  cases hg : tickGo l since b now with
  | true =>
    have htb : tickBuf l since b now = (([], 0), l) := by rw [tickBuf, if_pos hg]
    obtain rfl := HXX.out.trans htb
    have hg2 : (nextB l since b).2 = true ∧ (nextB l since b).1 ≤ now := by simpa [tickGo] using hg
    obtain ⟨hg3, hg4⟩ := hg2
    have HF := Lib.hid (flush_any l since a l.length c S w1 (RM.under HROW.out T.out HS.out) (fun x hx => by have := HS.out x hx; omega) HSM.out hn)
    clear htb hg
    go_wp2_with (refine wpList_load_blk rfl 24 _ rfl (w.heap.size) 0 rfl [.slice a l.length c, .int .i64 since] _ (Blk.range (pre := []) (post := []) B0.out rfl) Tryd.underlying24 rfl sizeB ?_)
    refine HF.out.mono ?_
    rintro e w2 ⟨a2, c2, ao, co, rfl, ho1, ho2, hb2⟩
    have hv : (.slice a2 ([] : List MX).length c2 : Value) = .slice a2 0 c2 := rfl
    have B1' := Blk.under B1.out hb2 (Blk.lt B1.out)
    have T2 := Lib.hid (below_on hb2 T.out)
    have HO1 := Lib.hid (OwnM.mono ho1 (B' := w.heap.size + 2) hz1)
    have HO2 := Lib.hid (OwnM.mono ho2 (B' := w.heap.size + 2) hz1)
    clear ho1 ho2 hb2 HF hv
    go_wp2_with (refine wpList_store_blk (T := 24) rfl 24 _ _ rfl (w.heap.size + 1) 0 [] [.slice none 0 0, .int .i64 0] [] [.slice a2 0 c2, .int .i64 0] rfl rfl B1' rfl rfl sizeB buf_one' ?_; intro w3 br U3)
    refine bodyPost_ret (res_ct rfl rfl (load_blk w3 (w.heap.size + 1) 24 [.slice a2 0 c2, .int .i64 0] _ br Tryd.underlying24 rfl sizeB) rfl) rfl ?_
    have o1 : OwnM w3 w.heap.size [] (.slice a2 0 c2) := OwnM.mono (B := w.heap.size + 2) (OwnM.upd (B := w.heap.size + 2) HO1.out U3 (by omega)) (by omega)
    exact ⟨a2, c2, ao, co, rfl, o1, OwnM.mono (B := w.heap.size + 2) (OwnM.upd (B := w.heap.size + 2) HO2.out U3 (by omega)) (by omega), T2.out.trans (U3.below _ (by omega))⟩
  | false =>
    have htb : tickBuf l since b now = ((l, since), []) := by rw [tickBuf, if_neg (by rw [hg]; simp)]
    obtain rfl := HXX.out.trans htb
    have HK := Lib.hid (kept_any l since a l.length c S w1 (RM.under HROW.out T.out HS.out) (fun x hx => by have := HS.out x hx; omega) HSM.out hn)
    clear htb
    cases hg3 : (nextB l since b).2 with
    | false =>
      clear hg
      go_wp2_with (refine wpList_load_blk rfl 24 _ rfl (w.heap.size) 0 rfl [.slice a l.length c, .int .i64 since] _ (Blk.range (pre := []) (post := []) B0.out rfl) Tryd.underlying24 rfl sizeB ?_)
      refine HK.out.mono ?_
      rintro e w2 ⟨a1, c1, rfl, ho, hb2⟩
      have B1' := Blk.under B1.out hb2 (Blk.lt B1.out)
      have T2 := Lib.hid (below_on hb2 T.out)
      have HO := Lib.hid (OwnM.mono ho (B' := w.heap.size + 2) hz1)
      clear ho hb2 HK
      go_wp2_with (refine wpList_store_blk (T := 24) rfl 24 _ _ rfl (w.heap.size + 1) 0 [] [.slice none 0 0, .int .i64 0] [] [.slice a1 l.length c1, .int .i64 since] rfl rfl B1' rfl rfl sizeB buf_one' ?_; intro w3 br U3)
      refine bodyPost_ret (res_ct rfl rfl (load_blk w3 (w.heap.size + 1) 24 [.slice a1 l.length c1, .int .i64 since] _ br Tryd.underlying24 rfl sizeB) rfl) rfl ?_
      exact ⟨a1, c1, none, 0, rfl, (HO.out.upd U3 (by omega)).mono (by omega), OwnM.nil _ _, T2.out.trans (U3.below _ (by omega))⟩
    | true =>
      have hg4 : ¬ ((nextB l since b).1 ≤ now) := by rw [tickGo, hg3] at hg; simpa using hg
      clear hg
      go_wp2_with (refine wpList_load_blk rfl 24 _ rfl (w.heap.size) 0 rfl [.slice a l.length c, .int .i64 since] _ (Blk.range (pre := []) (post := []) B0.out rfl) Tryd.underlying24 rfl sizeB ?_)
      refine HK.out.mono ?_
      rintro e w2 ⟨a1, c1, rfl, ho, hb2⟩
      have B1' := Blk.under B1.out hb2 (Blk.lt B1.out)
      have T2 := Lib.hid (below_on hb2 T.out)
      have HO := Lib.hid (OwnM.mono ho (B' := w.heap.size + 2) hz1)
      clear ho hb2 HK
      go_wp2_with (refine wpList_store_blk (T := 24) rfl 24 _ _ rfl (w.heap.size + 1) 0 [] [.slice none 0 0, .int .i64 0] [] [.slice a1 l.length c1, .int .i64 since] rfl rfl B1' rfl rfl sizeB buf_one' ?_; intro w3 br U3)
      refine bodyPost_ret (res_ct rfl rfl (load_blk w3 (w.heap.size + 1) 24 [.slice a1 l.length c1, .int .i64 since] _ br Tryd.underlying24 rfl sizeB) rfl) rfl ?_
      exact ⟨a1, c1, none, 0, rfl, (HO.out.upd U3 (by omega)).mono (by omega), OwnM.nil _ _, T2.out.trans (U3.below _ (by omega))⟩

set_option maxHeartbeats 8000000 in
set_option maxRecDepth 100000 in
theorem tickr_any (l : List MX) (since b now : Int) (a : Option Addr) (n c : Nat) (S : Nat → Prop) (w : World) (hrow : RM w S l a n c) (hS : ∀ x, S x → x < w.heap.size) (hsm : smallL l) (hn : n ≤ 65536) (hs0 : 0 ≤ since) (hs1 : since ≤ 1099511627776) (hbb : b ≤ 1000000) :
    Calls Tryd.prog 21 #[.agg #[.slice a n c, .int .i64 since], .int .i64 b, .int .i64 now] w (BufPost w (tickBuf l since b now).1.1 (tickBuf l since b now).1.2 (tickBuf l since b now).2) := by
  obtain rfl : n = l.length := hrow.1
  obtain ⟨W0, hWd⟩ : ∃ W, W = (w.alloc (.cells #[.slice a l.length c, .int .i64 since] 24)).alloc (.cells #[.slice none 0 0, .int .i64 0] 24) := ⟨_, rfl⟩
  have hW : Below w.heap.size w W0 := by rw [hWd]; go_grown
  have hsz : W0.heap.size = w.heap.size + 2 := by rw [hWd]; simp
  have b0 : Blk W0 w.heap.size 24 #[.slice a l.length c, .int .i64 since] := by rw [hWd]; exact (Blk.new _ _ _).alloc _
  have b1 : Blk W0 (w.heap.size + 1) 24 #[.slice none 0 0, .int .i64 0] := by rw [hWd]; exact Blk.new' _ _ _ (by simp)
  obtain ⟨X, hX⟩ : ∃ X, X = tickBuf l since b now := ⟨_, rfl⟩
  rw [← hX]
  have HXX := Lib.hid hX
  clear hX
  have HN := Lib.hid (nextr_any l since b a c W0 hs0 hs1 hbb)
  have HROW := Lib.hid hrow
  have HS := Lib.hid hS
  have HSM := Lib.hid hsm
  have HW0 := Lib.hid hW
  have HSZ := Lib.hid hsz
  have HWD := Lib.hid hWd
  have B0 := Lib.hid b0
  have B1 := Lib.hid b1
  clear hrow hS hsm hW hsz hWd b0 b1
  go_enter Tryd.func21, Tryd.ntmps21
  go_upto_region 1 with fail
  show Code.wp _ _ _ _ ((w.alloc (.cells #[.slice a l.length c, .int .i64 since] 24)).alloc (.cells #[.slice none 0 0, .int .i64 0] 24))
  rw [← HWD.out]
  go_wp2_with (refine wpList_load_blk rfl 24 _ rfl (w.heap.size) 0 rfl [.slice a l.length c, .int .i64 since] _ (Blk.range (pre := []) (post := []) B0.out rfl) Tryd.underlying24 rfl sizeB ?_)
  refine HN.out.mono ?_
  rintro e W ⟨rfl, hb⟩
  replace B0 := Lib.hid (Blk.under B0.out hb (Blk.lt B0.out))
  replace B1 := Lib.hid (Blk.under B1.out hb (Blk.lt B1.out))
  have HW := Lib.hid (below_on hb HW0.out)
  have hz1 : w.heap.size + 2 ≤ W.heap.size := by have := hb.size; rw [HSZ.out] at this; exact this
  clear hb HN HWD
  cases hg : tickGo l since b now with
  | true =>
    have htb : tickBuf l since b now = (([], 0), l) := by rw [tickBuf, if_pos hg]
    obtain rfl := HXX.out.trans htb
    have hg2 : (nextB l since b).2 = true ∧ (nextB l since b).1 ≤ now := by simpa [tickGo] using hg
    obtain ⟨hg3, hg4⟩ := hg2
    have hg5 : ¬ (now < (nextB l since b).1) := by omega
    have HF := Lib.hid (copyrow_any l a l.length c S W (RM.under HROW.out HW.out HS.out) (fun x hx => by have := HS.out x hx; omega) HSM.out hn)
    have c0 : W.cell? ⟨w.heap.size, 0, none⟩ = some (.slice a l.length c) := Blk.cell B0.out 0
    clear htb hg
    go_wp2_with fail
    refine HF.out.mono ?_
    rintro e w2 ⟨ao, co, S2, css2, rfl, ho2, hb2⟩
    have B1' := Blk.under B1.out hb2 (Blk.lt B1.out)
    have T2 := Lib.hid (below_on hb2 HW.out)
    have HO2 : Hid (OwnM w2 (w.heap.size + 2) l (.slice ao l.length co)) := OwnM.mono (B := W.heap.size) ⟨_, _, ho2⟩ hz1
    clear ho2 hb2 HF c0
    go_wp2_with (refine wpList_store_blk (T := 24) rfl 24 _ _ rfl (w.heap.size + 1) 0 [] [.slice none 0 0, .int .i64 0] [] [.slice none 0 0, .int .i64 0] rfl rfl B1' rfl rfl sizeB buf_one' ?_; intro w3 br U3)
    refine bodyPost_ret (res_ct rfl rfl (load_blk w3 (w.heap.size + 1) 24 [.slice none 0 0, .int .i64 0] _ br Tryd.underlying24 rfl sizeB) rfl) rfl ?_
    exact ⟨none, 0, ao, co, rfl, OwnM.nil _ _, OwnM.mono (B := w.heap.size + 2) (OwnM.upd (B := w.heap.size + 2) HO2.out U3 (by omega)) (by omega), T2.out.trans (U3.below _ (by omega))⟩
  | false =>
    have htb : tickBuf l since b now = ((l, since), []) := by rw [tickBuf, if_neg (by rw [hg]; simp)]
    obtain rfl := HXX.out.trans htb
    have HC := Lib.hid (copyrow_any l a l.length c S W.drew (RM.under HROW.out HW.out.drew HS.out) (fun x hx => by have := HS.out x hx; show x < W.heap.size; omega) HSM.out hn)
    have b0 := B0.out
    have b1 := B1.out
    clear htb
    cases hg3 : (nextB l since b).2 with
    | false =>
      clear hg
      go_upto_region 3 with fail
      refine wp_region_held_drew (S := (fun w' => Blk w' (w.heap.size) 24 #[.slice a l.length c, .int .i64 since])) (by kernel_rfl) ?_ (fun hHeld => ?_)
      · exact b0.drew
      refine wpAnyH_take (i := 0) (v := ?_) rfl (by kernel_rfl) (by kernel_rfl) (by kernel_rfl) (fun _ _ _ h => h) (Or.inl ⟨by rfl, ?_⟩) hHeld ?_
      rotate_left
      · intro w hSw
        try dsimp only at hSw
        first | (go_simp; done) | (go_simp; with_reducible rfl)
      try simp only [Act.put, List.getElem_toArray, List.getElem_cons_zero, List.setIfInBounds_toArray, List.set_cons_zero, List.set_cons_succ]
      refine wpAnyH_take (i := 1) (v := .slice a l.length c) rfl (by kernel_rfl) (by kernel_rfl) (by kernel_rfl) (fun _ _ _ h => h) (Or.inl ⟨by rfl, ?_⟩) hHeld ?_
      · intro w hSw
        have h4 := Blk.cell hSw 0
        first | (go_simp; done) | (go_simp; with_reducible rfl)
      try simp only [Act.put, List.getElem_toArray, List.getElem_cons_zero, List.getElem_cons_succ, List.setIfInBounds_toArray, List.set_cons_zero, List.set_cons_succ]
      refine wpAnyH_take (i := 3) (v := ?_) rfl (by kernel_rfl) (by kernel_rfl) (by kernel_rfl) (fun _ _ _ h => h) (Or.inl ⟨by rfl, ?_⟩) hHeld ?_
      rotate_left
      · intro w hSw
        try dsimp only at hSw
        first | (go_simp; done) | (go_simp; with_reducible rfl)
      try simp only [Act.put, List.getElem_toArray, List.getElem_cons_zero, List.getElem_cons_succ, List.setIfInBounds_toArray, List.set_cons_zero, List.set_cons_succ]
      refine wpAnyH_take (i := 4) (v := .int .i64 since) rfl (by kernel_rfl) (by kernel_rfl) (by kernel_rfl) (fun _ _ _ h => h) (Or.inl ⟨by rfl, ?_⟩) hHeld ?_
      · intro w hSw
        have h4 := Blk.cell hSw 1
        first | (go_simp; done) | (go_simp; with_reducible rfl)
      try simp only [Act.put, List.getElem_toArray, List.getElem_cons_zero, List.getElem_cons_succ, List.setIfInBounds_toArray, List.set_cons_zero, List.set_cons_succ]
      refine wpAnyH_ready (rs := [2]) (by kernel_rfl) (by simp) ?_
      refine AllReadyH.cons rfl (fun K hK => ?_) AllReadyH.nil
      go_simp
      go_at_call 13
      refine HC.out.mono ?_
      rintro e w2 ⟨a1, c1, S1, css1, rfl, hown, hb2⟩
      have HO : Hid (OwnM w2 W.drew.heap.size l (.slice a1 l.length c1)) := ⟨_, _, hown⟩
      have T2 := Lib.hid (below_on hb2 HW.out.drew)
      have bR := Blk.under b1.drew hb2 (Blk.lt b1.drew)
      clear hown
      refine hK.out _ _ (Blk.under hHeld hb2 (Blk.lt hHeld)) (fun hHeld2 => ?_)
      clear hHeld hK K
      have hHeld := hHeld2
      clear hHeld2
      try simp only [Act.put, List.getElem_toArray, List.getElem_cons_zero, List.getElem_cons_succ, List.setIfInBounds_toArray, List.set_cons_zero, List.set_cons_succ]
      clear hb2
      refine wpAnyH_take (i := 5) (v := ?_) rfl (by kernel_rfl) (by kernel_rfl) (by kernel_rfl) (fun _ _ _ h => h) (Or.inl ⟨by rfl, ?_⟩) hHeld ?_
      rotate_left
      · intro w hSw
        try dsimp only at hSw
        first | (go_simp; done) | (go_simp; with_reducible rfl)
      try simp only [Act.put, List.getElem_toArray, List.getElem_cons_zero, List.getElem_cons_succ, List.setIfInBounds_toArray, List.set_cons_zero, List.set_cons_succ]
      refine wpAnyH_ready (rs := [6]) (by kernel_rfl) (by simp) ?_
      refine AllReadyH.cons rfl (fun K hK => ?_) AllReadyH.nil
      refine step_store_blk (T := 24) (by rfl) 24 _ _ (by rfl) (w.heap.size + 1) 0 [] [.slice none 0 0, .int .i64 0] [] [.slice a1 l.length c1, .int .i64 since] (by rfl) (by rfl) bR rfl rfl sizeB buf_one' (fun w3 br U3 => ?_)
      refine hK.out _ _ (U3.blk hHeld (by omega)) (fun hHeld2 => ?_)
      clear hHeld hK K
      have hHeld := hHeld2
      clear hHeld2
      try simp only [Act.put, List.getElem_toArray, List.getElem_cons_zero, List.getElem_cons_succ]
      refine wpAnyH_take (i := 7) (v := ?_) rfl (by kernel_rfl) (by kernel_rfl) (by kernel_rfl) (fun _ _ _ h => h) (Or.inl ⟨by rfl, ?_⟩) hHeld ?_
      rotate_left
      · intro w hSw
        try dsimp only at hSw
        first | (go_simp; done) | (go_simp; with_reducible rfl)
      try simp only [Act.put, List.getElem_toArray, List.getElem_cons_zero, List.getElem_cons_succ, List.setIfInBounds_toArray, List.set_cons_zero, List.set_cons_succ]
      refine wpAnyH_done (by kernel_rfl) ?_ _
      clear hHeld bR
      go_wp2_with fail
      refine bodyPost_ret (res_ct rfl rfl (load_blk w3 (w.heap.size + 1) 24 [.slice a1 l.length c1, .int .i64 since] _ br Tryd.underlying24 rfl sizeB) rfl) rfl ?_
      exact ⟨a1, c1, none, 0, rfl, OwnM.mono (B := w.heap.size + 2) (OwnM.upd (B := w.heap.size + 2) (OwnM.mono (B := W.drew.heap.size) HO.out hz1) U3 (by omega)) (by omega), OwnM.nil _ _, T2.out.trans (U3.below _ (by omega))⟩
    | true =>
      have hg4 : now < (nextB l since b).1 := by rw [tickGo, hg3] at hg; simpa using hg
      clear hg
      go_upto_region 3 with fail
      refine wp_region_held_drew (S := (fun w' => Blk w' (w.heap.size) 24 #[.slice a l.length c, .int .i64 since])) (by kernel_rfl) ?_ (fun hHeld => ?_)
      · exact b0.drew
      refine wpAnyH_take (i := 0) (v := ?_) rfl (by kernel_rfl) (by kernel_rfl) (by kernel_rfl) (fun _ _ _ h => h) (Or.inl ⟨by rfl, ?_⟩) hHeld ?_
      rotate_left
      · intro w hSw
        try dsimp only at hSw
        first | (go_simp; done) | (go_simp; with_reducible rfl)
      try simp only [Act.put, List.getElem_toArray, List.getElem_cons_zero, List.setIfInBounds_toArray, List.set_cons_zero, List.set_cons_succ]
      refine wpAnyH_take (i := 1) (v := .slice a l.length c) rfl (by kernel_rfl) (by kernel_rfl) (by kernel_rfl) (fun _ _ _ h => h) (Or.inl ⟨by rfl, ?_⟩) hHeld ?_
      · intro w hSw
        have h4 := Blk.cell hSw 0
        first | (go_simp; done) | (go_simp; with_reducible rfl)
      try simp only [Act.put, List.getElem_toArray, List.getElem_cons_zero, List.getElem_cons_succ, List.setIfInBounds_toArray, List.set_cons_zero, List.set_cons_succ]
      refine wpAnyH_take (i := 3) (v := ?_) rfl (by kernel_rfl) (by kernel_rfl) (by kernel_rfl) (fun _ _ _ h => h) (Or.inl ⟨by rfl, ?_⟩) hHeld ?_
      rotate_left
      · intro w hSw
        try dsimp only at hSw
        first | (go_simp; done) | (go_simp; with_reducible rfl)
      try simp only [Act.put, List.getElem_toArray, List.getElem_cons_zero, List.getElem_cons_succ, List.setIfInBounds_toArray, List.set_cons_zero, List.set_cons_succ]
      refine wpAnyH_take (i := 4) (v := .int .i64 since) rfl (by kernel_rfl) (by kernel_rfl) (by kernel_rfl) (fun _ _ _ h => h) (Or.inl ⟨by rfl, ?_⟩) hHeld ?_
      · intro w hSw
        have h4 := Blk.cell hSw 1
        first | (go_simp; done) | (go_simp; with_reducible rfl)
      try simp only [Act.put, List.getElem_toArray, List.getElem_cons_zero, List.getElem_cons_succ, List.setIfInBounds_toArray, List.set_cons_zero, List.set_cons_succ]
      refine wpAnyH_ready (rs := [2]) (by kernel_rfl) (by simp) ?_
      refine AllReadyH.cons rfl (fun K hK => ?_) AllReadyH.nil
      go_simp
      go_at_call 13
      refine HC.out.mono ?_
      rintro e w2 ⟨a1, c1, S1, css1, rfl, hown, hb2⟩
      have HO : Hid (OwnM w2 W.drew.heap.size l (.slice a1 l.length c1)) := ⟨_, _, hown⟩
      have T2 := Lib.hid (below_on hb2 HW.out.drew)
      have bR := Blk.under b1.drew hb2 (Blk.lt b1.drew)
      clear hown
      refine hK.out _ _ (Blk.under hHeld hb2 (Blk.lt hHeld)) (fun hHeld2 => ?_)
      clear hHeld hK K
      have hHeld := hHeld2
      clear hHeld2
      try simp only [Act.put, List.getElem_toArray, List.getElem_cons_zero, List.getElem_cons_succ, List.setIfInBounds_toArray, List.set_cons_zero, List.set_cons_succ]
      clear hb2
      refine wpAnyH_take (i := 5) (v := ?_) rfl (by kernel_rfl) (by kernel_rfl) (by kernel_rfl) (fun _ _ _ h => h) (Or.inl ⟨by rfl, ?_⟩) hHeld ?_
      rotate_left
      · intro w hSw
        try dsimp only at hSw
        first | (go_simp; done) | (go_simp; with_reducible rfl)
      try simp only [Act.put, List.getElem_toArray, List.getElem_cons_zero, List.getElem_cons_succ, List.setIfInBounds_toArray, List.set_cons_zero, List.set_cons_succ]
      refine wpAnyH_ready (rs := [6]) (by kernel_rfl) (by simp) ?_
      refine AllReadyH.cons rfl (fun K hK => ?_) AllReadyH.nil
      refine step_store_blk (T := 24) (by rfl) 24 _ _ (by rfl) (w.heap.size + 1) 0 [] [.slice none 0 0, .int .i64 0] [] [.slice a1 l.length c1, .int .i64 since] (by rfl) (by rfl) bR rfl rfl sizeB buf_one' (fun w3 br U3 => ?_)
      refine hK.out _ _ (U3.blk hHeld (by omega)) (fun hHeld2 => ?_)
      clear hHeld hK K
      have hHeld := hHeld2
      clear hHeld2
      try simp only [Act.put, List.getElem_toArray, List.getElem_cons_zero, List.getElem_cons_succ]
      refine wpAnyH_take (i := 7) (v := ?_) rfl (by kernel_rfl) (by kernel_rfl) (by kernel_rfl) (fun _ _ _ h => h) (Or.inl ⟨by rfl, ?_⟩) hHeld ?_
      rotate_left
      · intro w hSw
        try dsimp only at hSw
        first | (go_simp; done) | (go_simp; with_reducible rfl)
      try simp only [Act.put, List.getElem_toArray, List.getElem_cons_zero, List.getElem_cons_succ, List.setIfInBounds_toArray, List.set_cons_zero, List.set_cons_succ]
      refine wpAnyH_done (by kernel_rfl) ?_ _
      clear hHeld bR
      go_wp2_with fail
      refine bodyPost_ret (res_ct rfl rfl (load_blk w3 (w.heap.size + 1) 24 [.slice a1 l.length c1, .int .i64 since] _ br Tryd.underlying24 rfl sizeB) rfl) rfl ?_
      exact ⟨a1, c1, none, 0, rfl, OwnM.mono (B := w.heap.size + 2) (OwnM.upd (B := w.heap.size + 2) (OwnM.mono (B := W.drew.heap.size) HO.out hz1) U3 (by omega)) (by omega), OwnM.nil _ _, T2.out.trans (U3.below _ (by omega))⟩
end Go.Proofs.YtmdcfmdjbncaoaaDoor
