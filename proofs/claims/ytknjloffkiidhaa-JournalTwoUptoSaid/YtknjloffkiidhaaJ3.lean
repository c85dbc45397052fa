/- The walk of JournalOpens. -/
import Derived.Test.YtknjloffkiidhaaJx
namespace Go.Proofs.Ytknjloffkiidhaa
open Go.RowKit Go.Deep
attribute [local go_sem] Go.undef

/-- What a call of New leaves, by its bytes. -/
theorem new_by (w : World) : Calls Try.prog 13 #[] w fun e w' => e = .returned (.slice (some ⟨w.heap.size, 0, none⟩) 5 5) ∧ BY w' (fun b => w.heap.size ≤ b ∧ b < w'.heap.size) (some ⟨w.heap.size, 0, none⟩) headL ∧ Below w.heap.size w w' :=
  (new_any w).mono fun e w' ⟨h1, h2⟩ => by subst h2; exact ⟨h1, by have := NewQ.by (w := w); simpa using this, by go_grown⟩
theorem rnew_by (w : World) : Calls Try.prog 14 #[] w fun e w' => e = .returned (.slice (some ⟨w.heap.size, 0, none⟩) 5 5) ∧ BY w' (fun b => w.heap.size ≤ b ∧ b < w'.heap.size) (some ⟨w.heap.size, 0, none⟩) headL ∧ Below w.heap.size w w' :=
  (rnew_any w).mono fun e w' ⟨h1, h2⟩ => by subst h2; exact ⟨h1, by have := NewQ.by (w := w); simpa using this, by go_grown⟩
theorem same_by (w : World) (S S' : Nat → Prop) (a b : Option Addr) (rs ss : List (List Nat)) (n k c d : Nat) (hn : rs.length = n) (hk : ss.length = k) (hnm : n ≤ 1099511627776) (h : RB w S a rs) (h' : RB w S' b ss) :
    Calls Try.prog 12 #[.slice a n c, .slice b k d] w fun e w' => e = .returned (.bool (decide (rs = ss))) ∧ Below w.heap.size w w' :=
  (same_any w S S' a b rs ss n k c d hn hk hnm h h').mono fun e w' ⟨h1, m, h2⟩ => by subst h2; exact ⟨h1, below_drewN (Below.refl _ _) m⟩

theorem OpenQ.err {w : World} {l : List Nat} {e : Ending} {w' : World} (h : OpenQ w l e w') (hd : l.take 5 ≠ headL) : e = .returned (.tuple #[.slice none 0 0, .int .i64 0, .int .i64 262]) ∧ Below w.heap.size w w' := by
  rcases h with ⟨-, h1, h2⟩ | ⟨rs, at', v, h1, -⟩
  · exact ⟨h1, h2⟩
  · exact absurd h1.1 hd
/-- Something is always told, where the head stands. -/
theorem told_any {l : List Nat} (hb : Bytes l) (hd : l.take 5 = headL) : ∃ rs at', Told l rs at' := by
  obtain ⟨t, h1, h2, h3, h4, h5⟩ := parse_split ((l.drop 5).length + 1) (l.drop 5) (hb.drop 5) (by omega)
  generalize (parseL ((l.drop 5).length + 1) (l.drop 5)).1 = rs at h1 h3 h4 h5
  refine ⟨rs, 5 + (frames rs).length, hd, ?_, rfl, h4, h5, ?_⟩
  · rw [← List.drop_drop]
    conv => rhs; rw [h1, List.drop_left]
    exact h1
  · rw [← List.drop_drop, h1, List.drop_left]
    exact h2

theorem RB.keep {w w' : World} {S : Nat → Prop} {a : Option Addr} {rs : List (List Nat)} (h : RB w S a rs) (hk : ∀ b, S b → ∀ j, w'.cell? ⟨b, j, none⟩ = w.cell? ⟨b, j, none⟩) : RB w' S a rs := fun h0 => by
  obtain ⟨g, o, ha, hs, hc⟩ := h h0
  refine ⟨g, o, ha, hs, fun i r hr => ?_⟩
  obtain ⟨a', c', h1, h2, h3, h4⟩ := hc i r hr
  exact ⟨a', c', by rw [hk g hs]; exact h1, h2, h3, h4.keep (fun _ h => h) hk⟩
/-- Opens of the same bytes tell the same. -/
theorem open_same {l : List Nat} (hb : Bytes l) : ∃ (rs : List (List Nat)) (x y : Int), rs.length ≤ l.length ∧ ∀ w e w', OpenQ w l e w' → ∃ a c, e = .returned (.tuple #[.slice a rs.length c, .int .i64 x, .int .i64 y]) ∧ RB w' (fun b => w.heap.size ≤ b ∧ b < w'.heap.size) a rs ∧ Below w.heap.size w w' := by
  by_cases hd : l.take 5 = headL
  · obtain ⟨rs, at', ht⟩ := told_any hb hd
    refine ⟨rs, at', 0, ?_, fun w e w' h => ?_⟩
    · have h1 := ht.le
      have h2 := ht.2.2.1
      have h3 := frames_len_ge rs
      omega
    · obtain ⟨a, c, h1, -, -, h2, h3⟩ := h.good ht
      exact ⟨a, c, h1, h2, h3⟩
  · refine ⟨[], 0, 262, Nat.zero_le _, fun w e w' h => ?_⟩
    obtain ⟨h1, h2⟩ := h.err hd
    exact ⟨none, 0, h1, fun h => absurd h (by simp), h2⟩
theorem turn8' {a : Nat} (h : a < 256) : bits BinOp.xor IntKind.u8 (a : Int) 255 = ((255 - a : Nat) : Int) := by
  have e1 := turn8 h
  have e2 : bits BinOp.xor IntKind.u8 (a : Int) ((255 : Nat) : Int) = bits BinOp.xor IntKind.u8 ((255 : Nat) : Int) (a : Int) := by
    show IntKind.u8.wrap ((BitVec.ofInt 8 (a : Int) ^^^ BitVec.ofInt 8 ((255 : Nat) : Int)).toNat : Int) = IntKind.u8.wrap ((BitVec.ofInt 8 ((255 : Nat) : Int) ^^^ BitVec.ofInt 8 (a : Int)).toNat : Int)
    rw [BitVec.xor_comm]
  exact e2.trans e1

/-- The state of the loop that turns the own bytes. -/
def TR (W w3 : World) (a1 : Option Addr) (n c1 : Nat) (wr : World) : Prop :=
  ∃ m : List Nat, Bytes m ∧ m.length = n ∧ wr.ownsRow W.heap.size 5 1 (.slice a1 n c1) n (VB m) ∧ Below W.heap.size W wr ∧ w3.heap.size ≤ wr.heap.size ∧ ∀ b, (Value.slice a1 n c1).ownBlock ≠ some b → b < w3.heap.size → ∀ j, wr.cell? ⟨b, j, none⟩ = w3.cell? ⟨b, j, none⟩

set_option maxRecDepth 100000 in
set_option maxHeartbeats 8000000 in
theorem opens_go (l : List Nat) (a : Option Addr) (n c : Nat) (W : World) (hn : l.length = n) (hnc : n ≤ c) (hm : c ≤ 9223372036854775807) (hs : n ≤ 1048576) (h : BY W (· < W.heap.size) a l) :
    Calls Try.prog 3 #[.slice a n c] W fun e w' => e = .returned (.bool true) ∧ Below W.heap.size W w' := by
  obtain ⟨i0, hi0, hz0, hz1, hz2⟩ := info_parts info8
  have hvl : (VB l).length = n * 1 := by rw [VB_len, hn, Nat.mul_one]
  have hsome : 0 < n → a.isSome = true := fun h0 => h.some (by omega)
  have HH := Lib.hid h
  have HN := Lib.hid hn
  have HVL := Lib.hid hvl
  have HSOME := Lib.hid hsome
  have hlb := h.1
  clear h hn hvl hsome
  go_enter Try.func3, Try.ntmps3
  go_wp2_with (at_builtin; refine wpList_append_any _ rfl _ _ 22 rfl W.heap.size 5 i0 _ 1 1 Try.underlying22 hi0 hz0 hz1 hz2 rfl (by omega) _ 0 [] rfl ⟨rfl, .inl ⟨rfl, rfl⟩⟩ a n c (VB l) rfl HSOME.out HVL.out HH.out.news (VB_one _) ?a4 ?a5 ?a6 ?_)
  case a4 => unfold maxLen; omega
  case a5 => omega
  case a6 => simp
  intro v1 w1 hown1 hgr1
  obtain ⟨a1, c1, rfl⟩ := own_slice hown1
  have hb1 : Below W.heap.size W w1 := (Below.refl _ _).grown hgr1 (Nat.le_refl _) (fun k hk => by cases hk)
  obtain ⟨y1, -, y2, y3⟩ := BY.own hown1 hlb
  unfold maxLen at y3
  have hop := open_any w1 _ a1 l n c1 HN.out y2 y3 (by omega) y1 (fun b hb => hb.2)
  have HOP := Lib.hid hop
  have HB1 := Lib.hid hb1
  have HO1 := Lib.hid hown1
  have hs1 := hb1.size
  have hlt1 : Hid (∀ v, (Value.slice a1 n c1).ownBlock = some v → v < w1.heap.size) := fun v hv => (own_row hown1 v hv).2
  clear hop hb1 y1 y2 y3 hown1 hgr1
  go_wp2_with fail
  refine HOP.out.mono ?_
  intro e w2 hq2
  obtain ⟨rs, x, y, hrl, hsame⟩ := open_same hlb
  rw [HN.out] at hrl
  obtain ⟨a2, c2, rfl, hrb2, hb2⟩ := hsame _ _ _ hq2
  have HSAME := Lib.hid hsame
  have hb2' := below_on hb2 HB1.out
  have hro := ropen_any w2 _ a l n c HN.out hnc hm (by omega) (HH.out.under hb2' (fun b h => h)) (fun b hb => Nat.lt_of_lt_of_le hb hb2'.size)
  have HRO := Lib.hid hro
  have HB2 := Lib.hid hb2'
  have HR2 := Lib.hid hrb2
  have HO2 := Lib.hid (own_below HO1.out hb2)
  have hs12 := hb2.size
  clear hro hb2' hrb2 hq2 hb2 hsame
  go_wp2_with fail
  refine HRO.out.mono ?_
  intro e w3 hq3
  obtain ⟨a3, c3, rfl, hrb3, hb3⟩ := HSAME.out _ _ _ hq3
  have hb3' := below_on hb3 HB2.out
  have HB3 := Lib.hid hb3'
  have HR3 := Lib.hid hrb3
  have HR2' := Lib.hid (HR2.out.under hb3 (fun b hb => hb.2))
  have HO3 := Lib.hid (own_below HO2.out hb3)
  have hby3 : BY w3 (· < W.heap.size) a l := HH.out.under hb3' (fun b h => h)
  have hbo3 := (BY.own HO3.out hlb).1
  have hs3 := hb3'.size
  have hs23 := hb3.size
  have hcv := hby3.conv HN.out c
  have hcv1 := hbo3.conv HN.out c1
  have HSUM1 := Lib.hid (sum_any w3 _ a l n c HN.out (by omega) hby3)
  have HSUM2 := Lib.hid (rsum_any w3 _ a l n c HN.out (by omega) hby3)
  clear hrb3 hq3 hb3 hby3 hbo3 hb3'
  go_wp2_with fail
  refine HSUM1.out.mono ?_
  rintro e w4 ⟨rfl, rfl⟩
  go_wp2_with fail
  refine HSUM2.out.mono ?_
  rintro e w4 ⟨rfl, rfl⟩
  go_wp2_with fail
  clear hcv hcv1
  go_loopw [50] (fun iv wr => (∃ j : Nat, iv = .int .i64 j ∧ j ≤ n) ∧ TR W w3 a1 n c1 wr) (fun i _ => n - (intOf i).toNat)
  case atStart => exact ⟨⟨0, rfl, Nat.zero_le _⟩, l, hlb, HN.out, HO3.out, HB3.out, Nat.le_refl _, fun _ _ _ _ => rfl⟩
  case round =>
    obtain ⟨⟨j, rfl, hj⟩, m, m1, m2, m3, m4, m5, m6⟩ := hrel
    by_cases hlt : j < n
    · obtain ⟨g, cap, e1, -, -⟩ := m3.form (by omega)
      injection e1 with e1 _ e2
      subst e1 e2
      have hx : m[j]? = some (m[j]'(by omega)) := List.getElem?_eq_getElem (by omega)
      have hx8 := m1 _ (List.getElem_mem (by omega : j < m.length))
      generalize m[j]'(by omega) = xx at hx hx8
      have d0 : wr.cell? ⟨g, j, none⟩ = some (.int .u8 (xx : Int)) := by
        rw [m3.cellAt j (by omega), VB, List.getElem?_map, hx]; rfl
      have d1 := m3.frozenAt j
      have d2 := turn8' hx8
      have hi0 : (0 : Int) ≤ (j : Int) := by omega
      have hi1 : (j : Int) < (n : Int) := by omega
      have hst := m3.stored j (.int .u8 ((255 - xx : Nat) : Int))
      have hset : (VB m).set j (.int .u8 ((255 - xx : Nat) : Int)) = VB (m.set j (255 - xx)) := by simp [VB, List.map_set]
      have M3 := Lib.hid m3
      have M4 := Lib.hid m4
      have M6 := Lib.hid m6
      have HST := Lib.hid hst
      clear m3 m4 m6 hst hx
      go_wp2_with fail
      go_roundw
      case rel =>
        refine ⟨⟨j + 1, by go_num, by omega⟩, m.set j (255 - xx), ?_, by simp [m2], ?_, ?_, by simpa using m5, ?_⟩
        · intro z hz
          rcases List.mem_or_eq_of_mem_set hz with hz | rfl
          · exact m1 z hz
          · omega
        · rw [← hset]; exact HST.out.1
        · exact M4.out.setCell (by have := (own_row M3.out g rfl).1; simpa using this) _
        · intro b hb hb' q
          rw [← M6.out b hb hb' q]
          exact World.cell?_of_block (a := ⟨b, q, none⟩) (Below.heap_setCell wr _ _ b (fun e => hb (by rw [e]; rfl)))
      case measure => simp [intOf]; omega
    · obtain rfl : j = n := by omega
      have hown1 : ∀ b, w1.heap.size ≤ b → (Value.slice a1 j c1).ownBlock ≠ some b := fun b hb h => by have := hlt1.out b h; omega
      have q2 : RB wr (fun b => w1.heap.size ≤ b ∧ b < w2.heap.size) a2 rs := HR2'.out.keep fun b hb i => m6 b (hown1 b hb.1) (by omega) i
      have q3 : RB wr (fun b => w2.heap.size ≤ b ∧ b < w3.heap.size) a3 rs := HR3.out.keep fun b hb i => m6 b (hown1 b (by omega)) (by omega) i
      have hsm := same_by wr.drew _ _ a2 a3 rs rs _ _ c2 c3 rfl rfl (by omega) (q2.under ((Below.refl wr.heap.size _).drew) (fun b hb => by omega)) (q3.under ((Below.refl wr.heap.size _).drew) (fun b hb => by omega))
      rw [decide_eq_true rfl] at hsm
      have HSM := Lib.hid hsm
      have HB := Lib.hid (m4.drew)
      have hbq := SB_beq headL_bytes headL_bytes
      rw [decide_eq_true rfl] at hbq
      clear hsm m1 m2 m3 m4 m5 m6 hown1 q2 q3
      go_wp2_with fail
      go_region_with (first
        | (go_at_call 12; refine HSM.out.mono ?_; rintro e w4 ⟨rfl, kb4⟩; have kb := below_on kb4 HB.out; clear kb4)
        | (go_at_call 13; refine (new_by _).mono ?_; rintro e w5 ⟨rfl, ky5, kb5⟩; have kc5 := ky5.conv (n := 5) rfl 5; try (have kd6 := (ky6.under kb5 (fun b hb => hb.2)).conv (n := 5) rfl 5))
        | (go_at_call 14; refine (rnew_by _).mono ?_; rintro e w6 ⟨rfl, ky6, kb6⟩; have kc6 := ky6.conv (n := 5) rfl 5; try (have kd5 := (ky5.under kb6 (fun b hb => hb.2)).conv (n := 5) rfl 5))
        | (go_at_call 15; refine (awake_any _).mono ?_; rintro e w7 ⟨rfl, kb7⟩))
      all_goals
        go_wp2_with fail
        go_ret
        first
          | exact ⟨rfl, below_on kb7 (below_on kb6 (below_on kb5 kb))⟩
          | exact ⟨rfl, below_on kb7 (below_on kb5 (below_on kb6 kb))⟩
/-- What JournalOpens is given, opened. -/
theorem walk_JournalOpens {H : Type} {enc : TypeId × Value → H} {base : Nat} (v : Value) {d : DataW H} {p : List MemPlace} {ds : List (DataW H)} (W : World) (ok : Value.okWide Try.prog W .any base 22 v)
    (tr : DataW.Trod enc Try.prog W 0 (fun _ => true) true 22 v d p) (hk : Rows.uptoSmall H ds = true) (hd : d ∈ ds) : Calls Try.prog 3 #[v] W fun e w' => e = .returned (.bool true) ∧ Below W.heap.size W w' := by
  obtain ⟨l, a, n, c, rfl, h1, h2, h3, h4, h5⟩ := bytes_arg ok tr
  unfold maxLen at h3
  exact opens_go l a n c W h1 h2 (by omega) (Nat.le_trans h5 (bulk_bound hk hd)) h4
end Go.Proofs.Ytknjloffkiidhaa
