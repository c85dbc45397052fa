/- Copies of messages and of inboxes. -/
import Derived.Test.YtmdcfmdjbncaoaaQp
import Derived.Test.YtmdcfmdjbncaoaaBw
import Derived.Test.YtmdcfmdjbncaoaaOwnQ
import Derived.Test.YtmdcfmdjbncaoaaCpy
namespace Go.Proofs.Ytmdcfmdjbncaoaa
open Go.RowKit
attribute [local go_sem ↓] Go.wp_at_zero Go.wp_at_succ

theorem sizeM : (Try.prog.info? 48).map (·.size) = some 13 := by kernel_rfl
theorem sizeDt : (Try.prog.info? 28).map (·.size) = some 5 := by kernel_rfl
theorem sizeI : (Try.prog.info? 46).map (·.size) = some 3 := by kernel_rfl
theorem IsD.one5 {k i b : Int} {s : ByteArray} {a : Option Addr} {n c : Nat} : ∀ v ∈ [Value.int .i64 k, .int .i64 i, .int .u64 b, .string s, .slice a n c], v.oneCell' = true := by simp [Value.oneCell']
theorem inb_one {a : Option Addr} {n c : Nat} {r d : Int} : ∀ v ∈ [Value.slice a n c, .int .i64 r, .int .i64 d], v.oneCell' = true := by simp [Value.oneCell']


set_option maxHeartbeats 4000000 in
set_option maxRecDepth 100000 in
theorem copymsg_any (m : MX) (w : World) (S : Nat → Prop) (cs : List Value) (hm : IsM w S m cs) (hS : ∀ b, S b → b < w.heap.size) (hz : m.body.size ≤ 4096) :
    Calls Try.prog 38 #[.agg cs.toArray] w (CopiedM w m) := by
  obtain ⟨k, i, b, s, a, n, c, rfl, hD, ht, hr⟩ := hm
  have HT := Lib.hid (And.intro ht hr)
  have hW : Below w.heap.size w ((w.alloc (.cells #[.int .i64 m.id, .string m.topic, .int .i64 k, .int .i64 i, .int .u64 b, .string s, .slice a n c, .int .i64 m.tat, .int .i64 m.til, .string m.reply, .int .i64 m.corr, .int .i64 m.prio, .int .i64 m.hops] 48)).alloc (.cells #[.int .i64 0, .string ByteArray.empty, .int .i64 0, .int .i64 0, .int .u64 0, .string ByteArray.empty, .slice none 0 0, .int .i64 0, .int .i64 0, .string ByteArray.empty, .int .i64 0, .int .i64 0, .int .i64 0] 48)) := by go_grown
  have hsz : ((w.alloc (.cells #[.int .i64 m.id, .string m.topic, .int .i64 k, .int .i64 i, .int .u64 b, .string s, .slice a n c, .int .i64 m.tat, .int .i64 m.til, .string m.reply, .int .i64 m.corr, .int .i64 m.prio, .int .i64 m.hops] 48)).alloc (.cells #[.int .i64 0, .string ByteArray.empty, .int .i64 0, .int .i64 0, .int .u64 0, .string ByteArray.empty, .slice none 0 0, .int .i64 0, .int .i64 0, .string ByteArray.empty, .int .i64 0, .int .i64 0, .int .i64 0] 48)).heap.size = w.heap.size + 2 := by simp
  have hc := copy_ref _ m.body (Nat.le_refl _) hz _ S _ (hD.under hW hS) (fun q hq => by rw [hsz]; have := hS q hq; omega)
  have hB0 : Blk ((w.alloc (.cells #[.int .i64 m.id, .string m.topic, .int .i64 k, .int .i64 i, .int .u64 b, .string s, .slice a n c, .int .i64 m.tat, .int .i64 m.til, .string m.reply, .int .i64 m.corr, .int .i64 m.prio, .int .i64 m.hops] 48)).alloc (.cells #[.int .i64 0, .string ByteArray.empty, .int .i64 0, .int .i64 0, .int .u64 0, .string ByteArray.empty, .slice none 0 0, .int .i64 0, .int .i64 0, .string ByteArray.empty, .int .i64 0, .int .i64 0, .int .i64 0] 48)) w.heap.size 48 #[.int .i64 m.id, .string m.topic, .int .i64 k, .int .i64 i, .int .u64 b, .string s, .slice a n c, .int .i64 m.tat, .int .i64 m.til, .string m.reply, .int .i64 m.corr, .int .i64 m.prio, .int .i64 m.hops] := (Blk.new _ _ _).alloc _
  have hB1 : Blk ((w.alloc (.cells #[.int .i64 m.id, .string m.topic, .int .i64 k, .int .i64 i, .int .u64 b, .string s, .slice a n c, .int .i64 m.tat, .int .i64 m.til, .string m.reply, .int .i64 m.corr, .int .i64 m.prio, .int .i64 m.hops] 48)).alloc (.cells #[.int .i64 0, .string ByteArray.empty, .int .i64 0, .int .i64 0, .int .u64 0, .string ByteArray.empty, .slice none 0 0, .int .i64 0, .int .i64 0, .string ByteArray.empty, .int .i64 0, .int .i64 0, .int .i64 0] 48)) (w.heap.size + 1) 48 #[.int .i64 0, .string ByteArray.empty, .int .i64 0, .int .i64 0, .int .u64 0, .string ByteArray.empty, .slice none 0 0, .int .i64 0, .int .i64 0, .string ByteArray.empty, .int .i64 0, .int .i64 0, .int .i64 0] := Blk.new' _ _ _ (by simp)
  have HC := Lib.hid hc
  have HW := Lib.hid hW
  have HSZ := Lib.hid hsz
  have HB0 := Lib.hid hB0
  have HB1 := Lib.hid hB1
  clear hD hS ht hr hW hsz hc hB0 hB1
  go_enter Try.func38, Try.ntmps38
  go_wp2_with fail
  refine HC.out.mono ?_
  rintro e w1 ⟨k1, i1, b1, s1, a1, n1, c1, xs1, rfl, hD1, hO1, hb1⟩
  have hB2 : Below w.heap.size w w1 := HW.out.trans (hb1.mono (by rw [HSZ.out]; omega))
  have hs1 := hb1.size
  rw [HSZ.out] at hs1 hD1
  have BX := HB0.out.under hb1 (by rw [HSZ.out]; omega)
  have BY := HB1.out.under hb1 (by rw [HSZ.out]; omega)
  have HD1 := Lib.hid hD1
  clear hD1 hO1 hb1
  go_wp2_with (first
    | (refine wpList_store_blk (T := 48) rfl 28 _ _ rfl (w.heap.size) 2 [.int .i64 m.id, .string m.topic] [.int .i64 k, .int .i64 i, .int .u64 b, .string s, .slice a n c] [.int .i64 m.tat, .int .i64 m.til, .string m.reply, .int .i64 m.corr, .int .i64 m.prio, .int .i64 m.hops] [.int .i64 k1, .int .i64 i1, .int .u64 b1, .string s1, .slice a1 n1 c1] rfl rfl BX rfl rfl sizeDt IsD.one5 ?_; intro w2 BX2 U2; have BY2 := U2.blk BY (by omega))
    | (refine wpList_load_blk rfl 48 _ rfl (w.heap.size) 0 rfl [.int .i64 m.id, .string m.topic, .int .i64 k1, .int .i64 i1, .int .u64 b1, .string s1, .slice a1 n1 c1, .int .i64 m.tat, .int .i64 m.til, .string m.reply, .int .i64 m.corr, .int .i64 m.prio, .int .i64 m.hops] _ (Blk.range (pre := []) (post := []) BX2 rfl) Try.underlying48 rfl sizeM ?_)
    | (refine wpList_store_blk (T := 48) rfl 48 _ _ rfl (w.heap.size + 1) 0 [] [.int .i64 0, .string ByteArray.empty, .int .i64 0, .int .i64 0, .int .u64 0, .string ByteArray.empty, .slice none 0 0, .int .i64 0, .int .i64 0, .string ByteArray.empty, .int .i64 0, .int .i64 0, .int .i64 0] [] [.int .i64 m.id, .string m.topic, .int .i64 k1, .int .i64 i1, .int .u64 b1, .string s1, .slice a1 n1 c1, .int .i64 m.tat, .int .i64 m.til, .string m.reply, .int .i64 m.corr, .int .i64 m.prio, .int .i64 m.hops] rfl rfl BY2 rfl rfl sizeM (by simp [Value.oneCell']) ?_; intro w3 BY3 U3))
  refine bodyPost_ret (res_c rfl rfl (load_blk w3 (w.heap.size + 1) 48 [.int .i64 m.id, .string m.topic, .int .i64 k1, .int .i64 i1, .int .u64 b1, .string s1, .slice a1 n1 c1, .int .i64 m.tat, .int .i64 m.til, .string m.reply, .int .i64 m.corr, .int .i64 m.prio, .int .i64 m.hops] _ BY3 Try.underlying48 rfl sizeM)) rfl ?_
  refine ⟨k1, i1, b1, s1, a1, n1, c1, rfl, ⟨k1, i1, b1, s1, a1, n1, c1, rfl, ?_, HT.out.1, HT.out.2⟩, (hB2.trans (U2.below _ (Nat.le_refl _))).trans (U3.below _ (Nat.le_succ _))⟩
  exact HD1.out.keep (fun q hq => ⟨by have := hq.1; omega, by have h1 := hq.2; rw [U3.size, U2.size]; exact h1⟩) fun q hq j => (U3.cell (by have := hq.1; omega)).trans (U2.cell (by have := hq.1; omega))


/-- Messages in a row of the call's own. -/
def OwnM (w : World) (B : Nat) (l : List MX) (v : Value) : Prop := ∃ S css, OwnE IsM 48 13 w B l v S css
abbrev RM (w : World) (S : Nat → Prop) (l : List MX) (a : Option Addr) (n c : Nat) : Prop := RowsOf (IsM w S) 13 w S l a n c
theorem RM.under {w w' : World} {S : Nat → Prop} {B : Nat} {l : List MX} {a : Option Addr} {n c : Nat} (h : RM w S l a n c) (hb : Below B w w') (hS : ∀ b, S b → b < B) : RM w' S l a n c :=
  RowsOf.under h (fun _ _ _ hm => hm.under hb hS) hb hS
theorem RM.mono {w : World} {S S' : Nat → Prop} {l : List MX} {a : Option Addr} {n c : Nat} (h : RM w S l a n c) (hS : ∀ b, S b → S' b) : RM w S' l a n c :=
  RowsOf.map h (fun _ _ _ hm => hm.mono hS) hS fun _ _ _ => rfl
/-- The bodies are no greater than what is valid. -/
def smallL (l : List MX) : Prop := ∀ m ∈ l, m.body.size ≤ 4096
theorem take_snoc {α : Type} {l : List α} {j : Nat} {x : α} (h : l[j]? = some x) : l.take j ++ [x] = l.take (j + 1) := by rw [List.take_add_one, h]; rfl

def CpW (w : World) (l : List MX) (v iv : Value) (wr : World) : Prop :=
  ∃ (j : Nat) (ao : Option Addr) (co : Nat) (S : Nat → Prop) (css : List (List Value)), iv = .int .i64 j ∧ v = .slice ao j co ∧ j ≤ l.length ∧ OwnE IsM 48 13 wr w.heap.size (l.take j) (.slice ao j co) S css ∧ Below w.heap.size w wr
def RowPost (w : World) (l : List MX) (e : Ending) (w' : World) : Prop :=
  ∃ a c S css, e = .returned (.slice a l.length c) ∧ OwnE IsM 48 13 w' w.heap.size l (.slice a l.length c) S css ∧ Below w.heap.size w w'

set_option maxHeartbeats 4000000 in
set_option maxRecDepth 100000 in
theorem copied_any (l : List MX) (a : Option Addr) (n c : Nat) (S : Nat → Prop) (w : World) (hrow : RM w S l a n c) (hS : ∀ b, S b → b < w.heap.size) (hsm : smallL l) (hn : n ≤ 65536) :
    Calls Try.prog 48 #[.slice a n c] w (RowPost w l) := by
  obtain ⟨i0, hi0, hz0, hz1, hz2⟩ := info_parts infoM
  have hcl : c ≤ maxLen := hrow.2.2.1
  have hlc : n ≤ c := hrow.2.1
  have hnl : n = l.length := hrow.1
  subst hnl
  unfold maxLen at hcl
  have HROW := Lib.hid hrow
  have HS := Lib.hid hS
  have HSM := Lib.hid hsm
  clear hrow hS hsm
  go_enter Try.func48, Try.ntmps48
  go_wp2_with fail
  go_loopw [3, 8] (CpW w l) (fun _ i _ => l.length - (intOf i).toNat)
  case atStart => exact ⟨0, none, 0, _, _, rfl, rfl, Nat.zero_le _, OwnE.nil _ _, Below.refl _ _⟩
  case round =>
    obtain ⟨j, ao, co, T, css, rfl, rfl, hj, hown, hbel⟩ := hrel
    have HOWN := Lib.hid hown
    have hsz := hbel.size
    clear hown
    by_cases hlt : j < l.length
    · obtain ⟨g, o, x, xs, rfl, hSg, hx, hm, hxl, hr⟩ := HROW.out.get hlt
      have hr2 : wr.rangeAt g (o + j * 13) xs := rangeAt_keep hr fun q => hbel.cell (p := ⟨g, q, none⟩) (HS.out g hSg)
      obtain ⟨kx, ix, bx, sx, ax, nx, cx, rfl, hD, ht, hrr⟩ := hm
      have HX := Lib.hid hx
      have HD := Lib.hid hD
      have HT := Lib.hid (And.intro ht hrr)
      clear hr hx hxl hD ht hrr
      go_wp2_with (first
        | (refine wpList_load_blk rfl 48 _ rfl g (o + j * 13) rfl [.int .i64 x.id, .string x.topic, .int .i64 kx, .int .i64 ix, .int .u64 bx, .string sx, .slice ax nx cx, .int .i64 x.tat, .int .i64 x.til, .string x.reply, .int .i64 x.corr, .int .i64 x.prio, .int .i64 x.hops] _ hr2 Try.underlying48 rfl sizeM ?_)
        | (refine wpList_store_blk (T := 48) rfl 48 _ _ rfl (wr.heap.size) 0 [] [.int .i64 0, .string ByteArray.empty, .int .i64 0, .int .i64 0, .int .u64 0, .string ByteArray.empty, .slice none 0 0, .int .i64 0, .int .i64 0, .string ByteArray.empty, .int .i64 0, .int .i64 0, .int .i64 0] [] [.int .i64 x.id, .string x.topic, .int .i64 kx, .int .i64 ix, .int .u64 bx, .string sx, .slice ax nx cx, .int .i64 x.tat, .int .i64 x.til, .string x.reply, .int .i64 x.corr, .int .i64 x.prio, .int .i64 x.hops] rfl rfl (Blk.new wr _ _) rfl rfl sizeM (by simp [Value.oneCell']) ?_; intro w1 BX1 U1)
        | (refine wpList_load_blk rfl 28 _ rfl (wr.heap.size) 2 rfl [.int .i64 kx, .int .i64 ix, .int .u64 bx, .string sx, .slice ax nx cx] _ (Blk.range (pre := [.int .i64 x.id, .string x.topic]) (post := [.int .i64 x.tat, .int .i64 x.til, .string x.reply, .int .i64 x.corr, .int .i64 x.prio, .int .i64 x.hops]) BX1 rfl) Try.underlying28 rfl sizeDt ?_))
      have hb1 : Below wr.heap.size wr w1 := ((Below.refl wr.heap.size wr).alloc (Nat.le_refl _) _).trans (U1.below _ (Nat.le_refl _))
      have hs1 : w1.heap.size = wr.heap.size + 1 := by rw [U1.size]; simp
      have hB1 : Below w.heap.size w w1 := below_via hbel hb1 hsz
      refine (own_queue _ x.body (Nat.le_refl _) (HSM.out x (List.mem_of_getElem? HX.out)) w1 S _ (HD.out.under hB1 HS.out) (fun q hq => Nat.lt_of_lt_of_le (HS.out q hq) hB1.size)).mono ?_
      rintro e w2 ⟨k1, i1, b1, s1, a1, n1, c1, xs1, rfl, hD1, hO1, hb2⟩
      have BX2 := BX1.under hb2 (by omega)
      have HD1 := Lib.hid hD1
      have HS1 := Lib.hid hs1
      have hs2 := hb2.size
      have HB1 := Lib.hid hb1
      have HB2 := Lib.hid hb2
      clear hD1 hO1 U1 hs1 hr2
      go_upto_region 6 with (refine wpList_store_blk (T := 48) rfl 28 _ _ rfl (wr.heap.size) 2 [.int .i64 x.id, .string x.topic] [.int .i64 kx, .int .i64 ix, .int .u64 bx, .string sx, .slice ax nx cx] [.int .i64 x.tat, .int .i64 x.til, .string x.reply, .int .i64 x.corr, .int .i64 x.prio, .int .i64 x.hops] [.int .i64 k1, .int .i64 i1, .int .u64 b1, .string s1, .slice a1 n1 c1] rfl rfl BX2 rfl rfl sizeDt IsD.one5 ?_; intro w3 BX3 U3)
      have hs3 := U3.size
      have hb3 : Below wr.heap.size wr w3 := (HB1.out.trans (HB2.out.mono (by rw [HS1.out]; omega))).trans (U3.below _ (Nat.le_refl _))
      have hb13 : Below w1.heap.size w1 w2 := HB2.out
      have OWN3 := HOWN.out.below keepsM hb3 (Nat.le_refl _)
      have hrow3 : w3.ownsRow w.heap.size 48 13 (.slice ao j co) j css.flatten := by have := OWN3.row; rwa [List.length_take, Nat.min_eq_left hj] at this
      have hms : IsM w3 (Btw w1.heap.size w2.heap.size) x [.int .i64 x.id, .string x.topic, .int .i64 k1, .int .i64 i1, .int .u64 b1, .string s1, .slice a1 n1 c1, .int .i64 x.tat, .int .i64 x.til, .string x.reply, .int .i64 x.corr, .int .i64 x.prio, .int .i64 x.hops] :=
        ⟨k1, i1, b1, s1, a1, n1, c1, rfl, HD1.out.keep (fun _ h => h) (fun q hq j => U3.cell (by have := hq.1; rw [HS1.out] at this; omega)), HT.out.1, HT.out.2⟩
      have HOWN3 := Lib.hid OWN3
      have HROW3 := Lib.hid hrow3
      have HMS := Lib.hid hms
      have HB3 := Lib.hid hb3
      have HS3 := Lib.hid hs3
      have hbs : w.heap.size ≤ w3.heap.size := Nat.le_trans hsz hb3.size
      clear OWN3 hrow3 hms hb3 hs3 hb13
      go_wp2_with (first
        | (refine wpList_load_blk rfl 48 _ rfl (wr.heap.size) 0 rfl [.int .i64 x.id, .string x.topic, .int .i64 k1, .int .i64 i1, .int .u64 b1, .string s1, .slice a1 n1 c1, .int .i64 x.tat, .int .i64 x.til, .string x.reply, .int .i64 x.corr, .int .i64 x.prio, .int .i64 x.hops] _ (Blk.range (pre := []) (post := []) BX3 rfl) Try.underlying48 rfl sizeM ?_)
        | (at_builtin
           refine wpList_append_lies _ rfl _ _ _ rfl w.heap.size 48 i0 _ 13 144 Try.underlying44 hi0 hz0 hz1 hz2 rfl (by omega) _ j css.flatten rfl (HROW3.out.alloc _)
            ⟨w3.heap.size, 0, none⟩ 1 1 [.int .i64 x.id, .string x.topic, .int .i64 k1, .int .i64 i1, .int .u64 b1, .string s1, .slice a1 n1 c1, .int .i64 x.tat, .int .i64 x.til, .string x.reply, .int .i64 x.corr, .int .i64 x.prio, .int .i64 x.hops] rfl rfl
            (World.news_of_block (cs := #[.int .i64 x.id, .string x.topic, .int .i64 k1, .int .i64 i1, .int .u64 b1, .string s1, .slice a1 n1 c1, .int .i64 x.tat, .int .i64 x.til, .string x.reply, .int .i64 x.corr, .int .i64 x.prio, .int .i64 x.hops]) (t := 48) (fr := (0, 0)) (heap_alloc_new w3 _)) HMS.out.one (by omega) (by unfold maxLen; omega) (by omega) (by simp; omega) (w3.heap.size + 1) (by simp) ?_
           intro g5 cap5 w5 hown5 hgrow5 hat5 hlt5))
      have hR := OwnE.snoc keepsM HOWN3.out HMS.out rfl (fun q hq => ⟨by have := hq.1; have := HS1.out; omega, by have h1 := hq.2; have h2 := HS3.out; omega, fun h => by have h1 := (HOWN.out.far_lt q h).2; have h2 := hq.1; have h3 := HS1.out; omega⟩) hown5 (by rw [List.length_take, Nat.min_eq_left hj]) hgrow5 hat5
      rw [take_snoc HX.out] at hR
      have hB5 : Below w.heap.size w w5 := ((below_via hbel HB3.out hsz).alloc hbs _).grown hgrow5 (by simp; omega) (fun q hq => (HOWN.out.far_lt q hq).1)
      have HR := Lib.hid hR
      clear hR hown5 hgrow5 hat5
      go_wp2_with fail
      go_roundw
      case rel => exact ⟨j + 1, _, _, _, _, by go_num, rfl, by omega, HR.out, hB5⟩
      case measure => simp [intOf]; omega
    · obtain rfl : j = l.length := by omega
      go_wp2_with fail
      go_ret
      have h := HOWN.out
      rw [List.take_length] at h
      exact ⟨ao, co, _, _, rfl, h, hbel⟩


/-- An inbox in memory of its own. -/
def InbPost (w : World) (q : QX) (e : Ending) (w' : World) : Prop :=
  ∃ a c S css, e = .returned (.agg #[.slice a q.l.length c, .int .i64 q.r, .int .i64 q.d]) ∧ OwnE IsM 48 13 w' w.heap.size q.l (.slice a q.l.length c) S css ∧ Below w.heap.size w w'

set_option maxHeartbeats 4000000 in
set_option maxRecDepth 100000 in
theorem ownq_any (q : QX) (a : Option Addr) (n c : Nat) (S : Nat → Prop) (w : World) (hrow : RM w S q.l a n c) (hS : ∀ b, S b → b < w.heap.size) (hsm : smallL q.l) (hn : n ≤ 65536) :
    Calls Try.prog 39 #[.agg #[.slice a n c, .int .i64 q.r, .int .i64 q.d]] w (InbPost w q) := by
  have hW : Below w.heap.size w ((w.alloc (.cells #[.slice a n c, .int .i64 q.r, .int .i64 q.d] 46)).alloc (.cells #[.slice none 0 0, .int .i64 0, .int .i64 0] 46)) := by go_grown
  have hsz : ((w.alloc (.cells #[.slice a n c, .int .i64 q.r, .int .i64 q.d] 46)).alloc (.cells #[.slice none 0 0, .int .i64 0, .int .i64 0] 46)).heap.size = w.heap.size + 2 := by simp
  have hc := copied_any q.l a n c S _ (hrow.under hW hS) (fun x hx => by rw [hsz]; have := hS x hx; omega) hsm hn
  have hB0 : Blk ((w.alloc (.cells #[.slice a n c, .int .i64 q.r, .int .i64 q.d] 46)).alloc (.cells #[.slice none 0 0, .int .i64 0, .int .i64 0] 46)) w.heap.size 46 #[.slice a n c, .int .i64 q.r, .int .i64 q.d] := (Blk.new _ _ _).alloc _
  have hB1 : Blk ((w.alloc (.cells #[.slice a n c, .int .i64 q.r, .int .i64 q.d] 46)).alloc (.cells #[.slice none 0 0, .int .i64 0, .int .i64 0] 46)) (w.heap.size + 1) 46 #[.slice none 0 0, .int .i64 0, .int .i64 0] := Blk.new' _ _ _ (by simp)
  have HC := Lib.hid hc
  have HW := Lib.hid hW
  have HSZ := Lib.hid hsz
  have HB0 := Lib.hid hB0
  have HB1 := Lib.hid hB1
  clear hrow hS hsm hW hsz hc hB0 hB1
  go_enter Try.func39, Try.ntmps39
  go_wp2_with fail
  refine HC.out.mono ?_
  rintro e w1 ⟨a1, c1, S1, css1, rfl, hown1, hb1⟩
  have hB2 : Below w.heap.size w w1 := HW.out.trans (hb1.mono (by rw [HSZ.out]; omega))
  have hs1 := hb1.size
  rw [HSZ.out] at hs1
  have BX := HB0.out.under hb1 (by rw [HSZ.out]; omega)
  have BY := HB1.out.under hb1 (by rw [HSZ.out]; omega)
  have c0 := BX.cell 0
  have f0 := BX.free 0
  simp only [List.getElem?_toArray, List.getElem?_cons_zero] at c0
  have HOWN1 := Lib.hid hown1
  have BX2 : Blk (w1.setCell ⟨w.heap.size, 0, none⟩ (.slice a1 q.l.length c1)) w.heap.size 46 #[.slice a1 q.l.length c1, .int .i64 q.r, .int .i64 q.d] := BX.set 0 _
  have BY2 := BY.far (p := ⟨w.heap.size, 0, none⟩) (by simp) (.slice a1 q.l.length c1)
  clear hown1 hb1
  go_wp2_with (first
    | (refine wpList_load_blk rfl 46 _ rfl (w.heap.size) 0 rfl [.slice a1 q.l.length c1, .int .i64 q.r, .int .i64 q.d] _ (Blk.range (pre := []) (post := []) BX2 rfl) Try.underlying46 rfl sizeI ?_)
    | (refine wpList_store_blk (T := 46) rfl 46 _ _ rfl (w.heap.size + 1) 0 [] [.slice none 0 0, .int .i64 0, .int .i64 0] [] [.slice a1 q.l.length c1, .int .i64 q.r, .int .i64 q.d] rfl rfl BY2 rfl rfl sizeI inb_one ?_; intro w3 BY3 U3))
  refine bodyPost_ret (res_c rfl rfl (load_blk w3 (w.heap.size + 1) 46 [.slice a1 q.l.length c1, .int .i64 q.r, .int .i64 q.d] _ BY3 Try.underlying46 rfl sizeI)) rfl ?_
  have h1 := HOWN1.out.far
  have h2 := HOWN1.out.far_lt
  rw [HSZ.out] at h1 h2
  refine ⟨a1, c1, S1, css1, rfl, ?_, (hB2.setCell (by simp) _).trans (U3.below _ (Nat.le_succ _))⟩
  refine (HOWN1.out.mono (B' := w.heap.size) (by rw [HSZ.out]; omega)).keep keepsM (by rw [U3.size]; simp) fun b hb => (U3.far b ?_).trans (heap_set ?_)
  · rcases hb with hb | hb
    · have := h1 b hb; omega
    · have := h2 b hb; omega
  · rcases hb with hb | hb
    · have := h1 b hb; show b ≠ w.heap.size; omega
    · have := h2 b hb; show b ≠ w.heap.size; omega

end Go.Proofs.Ytmdcfmdjbncaoaa
