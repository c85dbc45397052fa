/- fit, of an inbox. -/
import Derived.Test.YtmdcfmdjbncaoaaMt
import Derived.Test.YtmdcfmdjbncaoaaVd
namespace Go.Proofs.Ytmdcfmdjbncaoaa
open Go.RowKit
attribute [local go_sem ↓] Go.wp_at_zero Go.wp_at_succ
attribute [local go_sem] Go.undef

set_option maxHeartbeats 4000000 in
set_option maxRecDepth 100000 in
theorem parts_any (t : Tree) (w : World) (S : Nat → Prop) (cs : List Value) (p1 p2 : Int) (hp : countT t 1 4096 = (p1, p2)) (hd : IsD w S t cs) (hS : ∀ b, S b → b < w.heap.size) :
    Calls Try.prog 37 #[.agg cs.toArray] w fun e w' => e = .returned (.tuple #[.int .i64 p1, .int .i64 p2]) ∧ Below w.heap.size w w' := by
  have hc := count_any _ t (Nat.le_refl _) (w.alloc (.cells cs.toArray 28)) S cs 1 4096 (hd.under ((Below.refl w.heap.size w).alloc (Nat.le_refl _) _) hS) (fun q hq => by have := hS q hq; simp; omega) (by omega) (by omega) (by omega) (by omega)
  rw [hp] at hc
  obtain ⟨k, i, b, s, l⟩ := t
  obtain ⟨a, c, rfl, -, -, -, -, -⟩ := hd.open_
  have HC := Lib.hid hc
  clear hc hp hd hS
  go_enter Try.func37, Try.ntmps37
  go_wp2_with fail
  refine HC.out.mono ?_
  rintro e w1 ⟨rfl, hb1⟩
  have hB1 : Below w.heap.size w w1 := ((Below.refl _ _).alloc (Nat.le_refl _) _).trans (hb1.mono (by simp))
  clear hb1
  go_wp2_with fail
  go_ret2
  exact ⟨rfl, hB1⟩

structure FitQ (q : QX) : Prop where
  len : q.l.length ≤ 1024
  r0 : 0 ≤ q.r
  r1 : q.r ≤ 4611686018427387904
  d0 : 0 ≤ q.d
  d1 : q.d ≤ 4611686018427387904
  small : smallL q.l
def FitPost (w : World) (q : QX) (e : Ending) (w' : World) : Prop := ∃ b : Bool, e = .returned (.bool b) ∧ (b = true → FitQ q) ∧ Below w.heap.size w w'
def FqW (w : World) (l : List MX) (_c0 : Array Value) (sv iv : Value) (wr : World) : Prop :=
  ∃ (j : Nat) (s : Int), iv = .int .i64 j ∧ sv = .int .i64 s ∧ j ≤ l.length ∧ 0 ≤ s ∧ s ≤ 65536 ∧ (∀ i m, i < j → l[i]? = some m → m.body.size ≤ 4096) ∧ Below w.heap.size w wr

set_option maxHeartbeats 8000000 in
set_option maxRecDepth 100000 in
theorem fitq_any (q : QX) (a : Option Addr) (n c : Nat) (S : Nat → Prop) (w : World) (hrow : RM w S q.l a n c) (hS : ∀ b, S b → b < w.heap.size) :
    Calls Try.prog 20 #[.agg #[.slice a n c, .int .i64 q.r, .int .i64 q.d]] w (FitPost w q) := by
  have hcl : c ≤ maxLen := hrow.2.2.1
  have hlc : n ≤ c := hrow.2.1
  obtain rfl : n = q.l.length := hrow.1
  unfold maxLen at hcl
  have HROW := Lib.hid hrow
  have HS := Lib.hid hS
  clear hrow hS
  by_cases h1 : 1024 < q.l.length
  · have h1' : (1024 : Int) < (q.l.length : Int) := by omega
    clear h1
    go_enter Try.func20, Try.ntmps20
    go_wp2_with fail
    go_ret
    exact ⟨false, rfl, (fun h => by cases h), by go_grown⟩
  by_cases h2 : q.r < 0
  · have h1' : ¬ (1024 : Int) < (q.l.length : Int) := by omega
    clear h1
    go_enter Try.func20, Try.ntmps20
    go_wp2_with fail
    go_ret
    exact ⟨false, rfl, (fun h => by cases h), by go_grown⟩
  by_cases h3 : q.d < 0
  · have h1' : ¬ (1024 : Int) < (q.l.length : Int) := by omega
    clear h1
    go_enter Try.func20, Try.ntmps20
    go_wp2_with fail
    go_ret
    exact ⟨false, rfl, (fun h => by cases h), by go_grown⟩
  by_cases h4 : 4611686018427387904 < q.r
  · have h1' : ¬ (1024 : Int) < (q.l.length : Int) := by omega
    clear h1
    go_enter Try.func20, Try.ntmps20
    go_wp2_with fail
    go_ret
    exact ⟨false, rfl, (fun h => by cases h), by go_grown⟩
  by_cases h5 : 4611686018427387904 < q.d
  · have h1' : ¬ (1024 : Int) < (q.l.length : Int) := by omega
    clear h1
    go_enter Try.func20, Try.ntmps20
    go_wp2_with fail
    go_ret
    exact ⟨false, rfl, (fun h => by cases h), by go_grown⟩
  have h1' : ¬ (1024 : Int) < (q.l.length : Int) := by omega
  have hfit : (∀ m ∈ q.l, m.body.size ≤ 4096) → FitQ q := fun h => ⟨by omega, by omega, by omega, by omega, by omega, h⟩
  have HFIT := Lib.hid hfit
  clear hfit
  go_enter Try.func20, Try.ntmps20
  go_wp2_with fail
  go_loopw [3, 35] (FqW w q.l #[]) (fun _ i _ => q.l.length - (intOf i).toNat)
  case atStart => exact ⟨0, 0, rfl, rfl, Nat.zero_le _, by omega, by omega, fun _ _ h => absurd h (by omega), by go_grown⟩
  case round =>
    obtain ⟨j, s, rfl, rfl, hj, hs0, hs1, hall, hbel⟩ := hrel
    have HALL := Lib.hid hall
    have hsz := hbel.size
    clear hall
    by_cases hlt : j < q.l.length
    · obtain ⟨g, o, x, xs, rfl, hSg, hx, hm, hxl, hr⟩ := HROW.out.get hlt
      have hr2 : wr.rangeAt g (o + j * 13) xs := rangeAt_keep hr fun q => hbel.cell (p := ⟨g, q, none⟩) (HS.out g hSg)
      obtain ⟨kx, ix, bx, sx, ax, nx, cx, rfl, hD, ht, hrr⟩ := hm
      have HX := Lib.hid hx
      have HD := Lib.hid hD
      have hbd := count_bd _ x.body (Nat.le_refl _) 1 4096 (by omega) (by omega) (by omega)
      obtain ⟨p1, p2, hp⟩ : ∃ p1 p2, countT x.body 1 4096 = (p1, p2) := ⟨_, _, rfl⟩
      rw [hp] at hbd
      obtain ⟨q1, q2, -, -, -⟩ := hbd
      simp only at q1 q2
      have HP := Lib.hid hp
      clear hr hx hxl hD ht hrr hp
      go_wp2_with (first
        | (refine wpList_load_blk rfl 48 _ rfl g (o + j * 13) rfl [.int .i64 x.id, .string x.topic, .int .i64 kx, .int .i64 ix, .int .u64 bx, .string sx, .slice ax nx cx, .int .i64 x.tat, .int .i64 x.til, .string x.reply, .int .i64 x.corr, .int .i64 x.prio, .int .i64 x.hops] _ hr2 Try.underlying48 rfl sizeM ?_)
        | (refine wpList_store_blk (T := 48) rfl 48 _ _ rfl (wr.heap.size) 0 [] [.int .i64 0, .string ByteArray.empty, .int .i64 0, .int .i64 0, .int .u64 0, .string ByteArray.empty, .slice none 0 0, .int .i64 0, .int .i64 0, .string ByteArray.empty, .int .i64 0, .int .i64 0, .int .i64 0] [] [.int .i64 x.id, .string x.topic, .int .i64 kx, .int .i64 ix, .int .u64 bx, .string sx, .slice ax nx cx, .int .i64 x.tat, .int .i64 x.til, .string x.reply, .int .i64 x.corr, .int .i64 x.prio, .int .i64 x.hops] rfl rfl (Blk.new wr _ _) rfl rfl sizeM (by simp [Value.oneCell']) ?_; intro w1 BX1 U1)
        | (refine wpList_load_blk rfl 28 _ rfl (wr.heap.size) 2 rfl [.int .i64 kx, .int .i64 ix, .int .u64 bx, .string sx, .slice ax nx cx] _ (Blk.range (pre := [.int .i64 x.id, .string x.topic]) (post := [.int .i64 x.tat, .int .i64 x.til, .string x.reply, .int .i64 x.corr, .int .i64 x.prio, .int .i64 x.hops]) BX1 rfl) Try.underlying28 rfl sizeDt ?_))
      have hb1 : Below wr.heap.size wr w1 := ((Below.refl wr.heap.size wr).alloc (Nat.le_refl _) _).trans (U1.below _ (Nat.le_refl _))
      have hB1 : Below w.heap.size w w1 := below_via hbel hb1 hsz
      have hs1' : w1.heap.size = wr.heap.size + 1 := by rw [U1.size]; simp
      have hv := valid_any x.body w1 S _ (HD.out.under hB1 HS.out) (fun q hq => Nat.lt_of_lt_of_le (HS.out q hq) hB1.size)
      clear U1 hr2 hb1
      cases hvb : validT x.body with
      | false =>
        rw [hvb] at hv
        have HV := Lib.hid hv
        clear hv hvb
        refine HV.out.mono ?_
        rintro e w2 ⟨rfl, hb2⟩
        have hB2 := below_on hb2 hB1
        clear hb2
        go_wp2_with fail
        go_ret
        exact ⟨false, rfl, (fun h => by cases h), hB2⟩
      | true =>
        have hsz4 := validT_size hvb
        rw [hvb] at hv
        have HV := Lib.hid hv
        clear hv hvb
        refine HV.out.mono ?_
        rintro e w2 ⟨rfl, hb2⟩
        have hB2 := below_on hb2 hB1
        have BX2 := BX1.under hb2 (by omega)
        clear hb2 BX1
        go_wp2_with (refine wpList_load_blk rfl 28 _ rfl (wr.heap.size) 2 rfl [.int .i64 kx, .int .i64 ix, .int .u64 bx, .string sx, .slice ax nx cx] _ (Blk.range (pre := [.int .i64 x.id, .string x.topic]) (post := [.int .i64 x.tat, .int .i64 x.til, .string x.reply, .int .i64 x.corr, .int .i64 x.prio, .int .i64 x.hops]) BX2 rfl) Try.underlying28 rfl sizeDt ?_)
        refine (parts_any x.body w2 S _ p1 p2 HP.out (HD.out.under hB2 HS.out) (fun q hq => Nat.lt_of_lt_of_le (HS.out q hq) hB2.size)).mono ?_
        rintro e w3 ⟨rfl, hb3⟩
        have hB3 := below_on hb3 hB2
        clear hb3 BX2
        by_cases hgt : 65536 < s + p1
        · go_wp2_with fail
          go_ret
          exact ⟨false, rfl, (fun h => by cases h), hB3⟩
        · go_wp2_with fail
          go_roundw
          case rel =>
            refine ⟨j + 1, s + p1, by go_num, rfl, by omega, by omega, by omega, fun i m hi hm => ?_, hB3⟩
            by_cases e : i = j
            · subst e; rw [HX.out] at hm; cases hm; exact hsz4
            · exact HALL.out i m (by omega) hm
          case measure => simp [intOf]; omega
    · obtain rfl : j = q.l.length := by omega
      go_wp2_with fail
      go_ret
      refine ⟨true, rfl, (fun _ => HFIT.out fun m hm => ?_), hbel⟩
      obtain ⟨i, hi, rfl⟩ := List.getElem_of_mem hm
      exact HALL.out i _ hi (List.getElem?_eq_getElem hi)
end Go.Proofs.Ytmdcfmdjbncaoaa
