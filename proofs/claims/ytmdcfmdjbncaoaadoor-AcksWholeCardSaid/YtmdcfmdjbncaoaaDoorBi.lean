/- The iterator of copied: it gives messages in memory of their own. -/
import Derived.Test.YtmdcfmdjbncaoaaDoorBh
import Derived.Sort.CutIn
namespace Go.Proofs.YtmdcfmdjbncaoaaDoor
open Go.RowKit Go.Shelf
attribute [local go_sem] Oper.semAt_some

/-- A message as the machine has it. -/
structure CV where
  id : Int
  topic : ByteArray
  k : Int
  i : Int
  b : Int
  s : ByteArray
  a : Option Addr
  n : Nat
  c : Nat
  tat : Int
  til : Int
  reply : ByteArray
  corr : Int
  prio : Int
  hops : Int
def CV.cells (x : CV) : List Value := [.int .i64 x.id, .string x.topic, .int .i64 x.k, .int .i64 x.i, .int .u64 x.b, .string x.s, .slice x.a x.n x.c, .int .i64 x.tat, .int .i64 x.til, .string x.reply, .int .i64 x.corr, .int .i64 x.prio, .int .i64 x.hops]
def CV.val (x : CV) : Value := .agg #[.int .i64 x.id, .string x.topic, .int .i64 x.k, .int .i64 x.i, .int .u64 x.b, .string x.s, .slice x.a x.n x.c, .int .i64 x.tat, .int .i64 x.til, .string x.reply, .int .i64 x.corr, .int .i64 x.prio, .int .i64 x.hops]
theorem CV.one (x : CV) : ∀ v ∈ x.cells, v.oneCell' = true := by simp [CV.cells, Value.oneCell']

/-- What has been given: copies, in memory from lo on, beside the collecting row. -/
def Given (lo sb : Nat) (l : List MX) (xs : List CV) (W : World) : Prop :=
  xs.length = l.length ∧ ∀ (j : Nat) (m : MX), l[j]? = some m → ∃ (x : CV) (S : Nat → Prop), xs[j]? = some x ∧ IsN W S m x.cells ∧ ∀ b, S b → lo ≤ b ∧ b < W.heap.size ∧ b ≠ sb ∧ ¬ RowB sb W b
theorem Given.nil (lo sb : Nat) (W : World) : Given lo sb [] [] W := ⟨rfl, fun _ _ h => by simp at h⟩
theorem Given.ks {lo sb : Nat} {l : List MX} {xs : List CV} {W W' : World} (h : Given lo sb l xs W) (hk : KS sb W W') : Given lo sb l xs W' := by
  refine ⟨h.1, fun j m hm => ?_⟩
  obtain ⟨x, S, h1, h2, h3⟩ := h.2 j m hm
  refine ⟨x, S, h1, h2.fwd (fun _ h => h) (fun b o hb ho hoc => hk.block b o (h3 b hb).2.2.1 (h3 b hb).2.2.2 ho hoc), fun b hb => ⟨(h3 b hb).1, Nat.lt_of_lt_of_le (h3 b hb).2.1 hk.size, (h3 b hb).2.2.1, fun hr => ?_⟩⟩
  rcases hk.row b hr with h4 | h4
  · exact (h3 b hb).2.2.2 h4
  · have := (h3 b hb).2.1; omega
theorem Given.snoc {lo sb : Nat} {l : List MX} {xs : List CV} {W : World} {x : CV} {m : MX} {S : Nat → Prop} (h : Given lo sb l xs W) (hx : IsN W S m x.cells) (hS : ∀ b, S b → lo ≤ b ∧ b < W.heap.size ∧ b ≠ sb ∧ ¬ RowB sb W b) : Given lo sb (l ++ [m]) (xs ++ [x]) W := by
  refine ⟨by simp [h.1], fun j y hy => ?_⟩
  rcases Nat.lt_trichotomy j l.length with hj | hj | hj
  · rw [List.getElem?_append_left hj] at hy
    obtain ⟨z, T, h1, h2, h3⟩ := h.2 j y hy
    exact ⟨z, T, by rw [List.getElem?_append_left (by rw [h.1]; exact hj)]; exact h1, h2, h3⟩
  · rw [List.getElem?_append_right (by omega), hj, Nat.sub_self] at hy
    obtain rfl : m = y := by simpa using hy
    exact ⟨x, S, by rw [List.getElem?_append_right (by rw [h.1]; omega), h.1, hj, Nat.sub_self]; rfl, hx, hS⟩
  · rw [List.getElem?_eq_none (by simp; omega)] at hy
    cases hy

def EW (lo sb : Nat) (l : List MX) (J : List CV → World → Prop) (W : World) (iv : Value) (wr : World) : Prop :=
  ∃ (k : Nat) (xs : List CV), iv = .int .i64 k ∧ k ≤ l.length ∧ Given lo sb (l.take k) xs wr ∧ J xs wr ∧ KS sb W wr

set_option maxRecDepth 100000 in
set_option maxHeartbeats 4000000 in
theorem each1_in (N : Nat) (hn : 3 ≤ N) (L Bl lo sb : Nat) (S : Nat → Prop) (l : List MX) (a : Option Addr) (n c : Nat) (J : List CV → World → Prop) (W : World) (NJ : Nat) (_hNJ : NJ ≤ W.heap.size) (hJ : AbidesFrom NJ J) (hR : ∀ pre W1, J pre W1 → ∀ b, RowB sb W1 b → b < W1.heap.size)
    (hY : ∀ pre x W1, J pre W1 → pre.length < l.length → YieldAt Fence.wide (N - 1) Tryd.prog L #[x.val] W1 fun e W' => e = .returned (.bool true) ∧ J (pre ++ [x]) W' ∧ KS sb W1 W')
    (hBl : W.cell? ⟨Bl, 0, none⟩ = some (.slice a n c)) (hrow : RM W S l a n c) (hS : ∀ b, S b → b < W.heap.size ∧ b ≠ sb ∧ ¬ RowB sb W b) (hsb : sb < W.heap.size) (hlo : lo ≤ W.heap.size) (hsm : smallL l) (hn2 : n ≤ 65536) (h0 : J [] W) :
    CallsIn Fence.wide N Tryd.prog 75 #[.func (.yield L) #[] #[], .pointer (some ⟨Bl, 0, none⟩)] W fun e W' => (∃ v, e = .returned v) ∧ ∃ xs, Given lo sb l xs W' ∧ J xs W' := by
  have hcl : c ≤ maxLen := hrow.2.2.1
  have hlc : n ≤ c := hrow.2.1
  obtain rfl : n = l.length := hrow.1
  unfold maxLen at hcl
  have HROW := Lib.hid hrow
  have HS := Lib.hid hS
  have HY := Lib.hid hY
  have HJ := Lib.hid hJ
  have HR := Lib.hid hR
  have HSM := Lib.hid hsm
  clear hrow hS hY hJ hsm hR
  refine callsIn_of_wp Tryd.func75 rfl trivial ?_ rfl
  simp only [Tryd.ntmps75, List.size_toArray, List.length_cons, List.length_nil, Nat.reduceAdd, Nat.reduceSub, Array.replicate_succ, Array.replicate_zero, List.push_toArray, List.append_toArray, List.nil_append, List.cons_append]
  gi_wp2
  gi_loopw [7] (EW lo sb l J W) (fun i _ => l.length - (intOf i).toNat)
  case atStart => exact ⟨0, [], rfl, Nat.zero_le _, Given.nil _ _ _, h0, KS.refl _ _⟩
  case round =>
    obtain ⟨k, xs, rfl, hk, hgv, hJk, hks⟩ := hrel
    have HGV := Lib.hid hgv
    have HJK := Lib.hid hJk
    have HKS := Lib.hid hks
    have hszk := hks.size
    clear hgv hJk hks
    by_cases hlt : k < l.length
    · obtain ⟨g, o, x, cs, rfl, hSg, hx, hm, hxl, hr⟩ := HROW.out.get hlt
      have hr2 : wr.rangeAt g (o + k * 13) cs := fun j v hv => HKS.out.cell (HS.out g hSg).2.1 (HS.out g hSg).2.2 (hr j v hv)
      have hm2 : IsM wr S x cs := hm.fwd (fun _ h => h) (fun b q v hb hc => HKS.out.cell (HS.out b hb).2.1 (HS.out b hb).2.2 hc)
      obtain ⟨kx, ix, bx, sx, ax, nx, cx, rfl, hD, ht, hrr⟩ := hm2
      have HX := Lib.hid hx
      have HD := Lib.hid hD
      have HT := Lib.hid (And.intro ht hrr)
      have hj0 : (0 : Int) ≤ (k : Int) := by omega
      have hj1 : (k : Int) < (l.length : Int) := by omega
      clear hr hm hx hxl hD ht hrr
      gi_wp2_with (first
        | (refine wpListIn_load_blk rfl 30 _ rfl g (o + k * 13) rfl [.int .i64 x.id, .string x.topic, .int .i64 kx, .int .i64 ix, .int .u64 bx, .string sx, .slice ax nx cx, .int .i64 x.tat, .int .i64 x.til, .string x.reply, .int .i64 x.corr, .int .i64 x.prio, .int .i64 x.hops] _ hr2 Tryd.underlying30 rfl sizeM ?_)
        | (refine wpListIn_store_blk (T := 30) rfl 30 _ _ rfl (wr.heap.size) 0 [] [.int .i64 0, .string ByteArray.empty, .int .i64 0, .int .i64 0, .int .u64 0, .string ByteArray.empty, .slice none 0 0, .int .i64 0, .int .i64 0, .string ByteArray.empty, .int .i64 0, .int .i64 0, .int .i64 0] [] [.int .i64 x.id, .string x.topic, .int .i64 kx, .int .i64 ix, .int .u64 bx, .string sx, .slice ax nx cx, .int .i64 x.tat, .int .i64 x.til, .string x.reply, .int .i64 x.corr, .int .i64 x.prio, .int .i64 x.hops] rfl rfl (Blk.new wr _ _) rfl rfl sizeM (by simp [Value.oneCell']) ?_; intro w1 BX1 U1 K1)
        | (refine wpListIn_load_blk rfl 28 _ rfl (wr.heap.size) 2 rfl [.int .i64 kx, .int .i64 ix, .int .u64 bx, .string sx, .slice ax nx cx] _ (Blk.range (pre := [.int .i64 x.id, .string x.topic]) (post := [.int .i64 x.tat, .int .i64 x.til, .string x.reply, .int .i64 x.corr, .int .i64 x.prio, .int .i64 x.hops]) BX1 rfl) Tryd.underlying28 rfl sizeDt ?_))
      have hb1 : Below wr.heap.size wr w1 := ((Below.refl wr.heap.size wr).alloc (Nat.le_refl _) _).trans (U1.below _ (Nat.le_refl _))
      have hs1 : w1.heap.size = wr.heap.size + 1 := by rw [U1.size]; simp
      have HB1 := Lib.hid hb1
      have HS1 := Lib.hid hs1
      refine ⟨trivial, fun _ => by omega, (callsIn_wide.2 (own_buffer _ x.body (Nat.le_refl _) (HSM.out x (List.mem_of_getElem? HX.out)) w1 S _ (HD.out.under hb1 (fun b hb => Nat.lt_of_lt_of_le (HS.out b hb).1 hszk)) (fun b hb => by have := (HS.out b hb).1; omega))).mono ?_⟩
      rintro e w2 ⟨k1, i1, b1, s1, a1, n1, c1, xs1, rfl, hD1, hO1, hb2⟩
      have BX2 := BX1.under hb2 (by omega)
      have hs2 := hb2.size
      have HD1 := Lib.hid hD1
      have HF1 := Lib.hid (FreeL.of_own (cs := [.int .i64 x.id, .string x.topic, .int .i64 k1, .int .i64 i1, .int .u64 b1, .string s1, .slice a1 n1 c1, .int .i64 x.tat, .int .i64 x.til, .string x.reply, .int .i64 x.corr, .int .i64 x.prio, .int .i64 x.hops]) hO1 rfl)
      have HB2 := Lib.hid hb2
      clear hD1 hO1 hb1 hb2 hr2 U1 K1 BX1 hs1
      gi_upto_region 4 with (refine wpListIn_store_blk (T := 30) rfl 28 _ _ rfl (wr.heap.size) 2 [.int .i64 x.id, .string x.topic] [.int .i64 kx, .int .i64 ix, .int .u64 bx, .string sx, .slice ax nx cx] [.int .i64 x.tat, .int .i64 x.til, .string x.reply, .int .i64 x.corr, .int .i64 x.prio, .int .i64 x.hops] [.int .i64 k1, .int .i64 i1, .int .u64 b1, .string s1, .slice a1 n1 c1] rfl rfl BX2 rfl rfl sizeDt IsD.one5 ?_; intro w3 BX3 U3 K3)
      have hb3 : Below wr.heap.size wr w3 := (HB1.out.trans (HB2.out.mono (by rw [HS1.out]; omega))).trans (U3.below _ (Nat.le_refl _))
      have hs3 : w3.heap.size = w2.heap.size := U3.size
      have hks3 : KS sb wr w3 := KS.below hb3 (by omega)
      have hJ3 : J xs w3 := abides_below HJ.out hb3 HJK.out
      have hxl : xs.length = k := by rw [HGV.out.1, List.length_take]; omega
      obtain ⟨fn, tmps, assign, body, hy, hYR⟩ := HY.out xs ⟨x.id, x.topic, k1, i1, b1, s1, a1, n1, c1, x.tat, x.til, x.reply, x.corr, x.prio, x.hops⟩ w3 hJ3 (by omega)
      have hM3 : IsN w3 (Btw w1.heap.size w2.heap.size) x [.int .i64 x.id, .string x.topic, .int .i64 k1, .int .i64 i1, .int .u64 b1, .string s1, .slice a1 n1 c1, .int .i64 x.tat, .int .i64 x.til, .string x.reply, .int .i64 x.corr, .int .i64 x.prio, .int .i64 x.hops] :=
        ⟨⟨k1, i1, b1, s1, a1, n1, c1, rfl, HD1.out.keep (fun _ h => h) (fun q hq j => U3.cell (by have := hq.1; have := HS1.out; omega)), HT.out.1, HT.out.2⟩, HF1.out.keep (fun _ h => h) (fun q hq => U3.far q (by have := hq.1; have := HS1.out; omega))⟩
      have hG3 : Given lo sb (l.take (k + 1)) (xs ++ [⟨x.id, x.topic, k1, i1, b1, s1, a1, n1, c1, x.tat, x.til, x.reply, x.corr, x.prio, x.hops⟩]) w3 := by
        rw [← take_snoc HX.out]
        refine Given.snoc (S := Btw w1.heap.size w2.heap.size) (HGV.out.ks hks3) hM3 (fun b hb => ⟨by have := hb.1; have := HS1.out; omega, by have := hb.2; omega, by have := hb.1; have := HS1.out; omega, fun hr => ?_⟩)
        rcases hks3.row b hr with h1 | h1
        · have := HR.out xs wr HJK.out b h1
          have := hb.1; have := HS1.out; omega
        · obtain ⟨n', c', hc'⟩ := hr
          have h2 := HR.out xs wr HJK.out b ⟨n', c', (hb3.cell (p := ⟨sb, 0, none⟩) (by show sb < wr.heap.size; omega)).symm.trans hc'⟩
          omega
      have HG3 := Lib.hid hG3
      have HKS3 := Lib.hid hks3
      have HYR := Lib.hid hYR
      simp only [CV.val] at hy
      clear hG3 hks3 hM3 hb3 hJ3 U3 K3 BX2 hYR
      gi_wp2_with (refine wpListIn_load_blk rfl 30 _ rfl (wr.heap.size) 0 rfl [.int .i64 x.id, .string x.topic, .int .i64 k1, .int .i64 i1, .int .u64 b1, .string s1, .slice a1 n1 c1, .int .i64 x.tat, .int .i64 x.til, .string x.reply, .int .i64 x.corr, .int .i64 x.prio, .int .i64 x.hops] _ (Blk.range (pre := []) (post := []) BX3 rfl) Tryd.underlying30 rfl sizeM ?_)
      refine ⟨fun _ => by omega, HYR.out.mono ?_⟩
      rintro e W4 ⟨rfl, hJ4, hk4⟩
      have HJ4 := Lib.hid hJ4
      have HG4 := Lib.hid (HG3.out.ks hk4)
      have HKS4 := Lib.hid ((HKS.out.trans HKS3.out).trans hk4)
      clear hJ4 hk4 hy BX3
      gi_wp2
      go_roundw
      case rel => first | exact ⟨k + 1, _, by go_num, by omega, HG4.out, HJ4.out, HKS4.out⟩ | ((repeat apply Exists.intro); exact ⟨⟨k + 1, _, by go_num, by omega, HG4.out, HJ4.out, HKS4.out⟩, by first | rfl | exact ⟨rfl, rfl⟩ | exact ⟨rfl, rfl, rfl⟩ | exact ⟨rfl, rfl, rfl, rfl⟩⟩)
      case measure => simp [intOf]; omega
    · obtain rfl : k = l.length := by omega
      have hg := HGV.out
      rw [List.take_length] at hg
      have HG := Lib.hid hg
      clear hg
      gi_wp2
      go_end0
      exact ⟨⟨_, rfl⟩, _, HG.out, HJK.out⟩
theorem each1_fin (N : Nat) (hn : 3 ≤ N) (Bl lo sb : Nat) (S : Nat → Prop) (l : List MX) (a : Option Addr) (n c : Nat) (w : World) (hBl : w.cell? ⟨Bl, 0, none⟩ = some (.slice a n c)) (hrow : RM w S l a n c)
    (hS : ∀ b, S b → b < w.heap.size ∧ b ≠ sb ∧ ¬ RowB sb w b) (hsb : sb < w.heap.size) (hlo : lo ≤ w.heap.size) (hsm : smallL l) (hn2 : n ≤ 65536) :
    SeqFin Fence.wide N Tryd.prog 75 #[.pointer (some ⟨Bl, 0, none⟩)] (fun x : CV => #[x.val]) (KS sb) (Given lo sb l) (fun W => ∀ b, RowB sb W b → b < W.heap.size) l.length w :=
  fun L J W hW hJ hR hY h0 => each1_in N hn L Bl lo sb S l a n c J W _ (Nat.le_refl _) hJ hR hY (cell_over hW (World.block_lt_of_cell? _ _ hBl) hBl) (RM.under hrow hW (fun b hb => (hS b hb).1))
    (fun b hb => ⟨Nat.lt_of_lt_of_le (hS b hb).1 hW.size, (hS b hb).2.1, fun hr => (hS b hb).2.2 (by
      obtain ⟨n', c', hc'⟩ := hr
      exact ⟨n', c', (hW.cell (p := ⟨sb, 0, none⟩) hsb).symm.trans hc'⟩)⟩) (Nat.lt_of_lt_of_le hsb hW.size) (Nat.le_trans hlo hW.size) hsm hn2 h0
end Go.Proofs.YtmdcfmdjbncaoaaDoor
