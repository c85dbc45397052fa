/- Chapter 19's example. -/
import Derived.Test.YtmdcfmdjbncaoaaTk
namespace Go.Proofs.Ytmdcfmdjbncaoaa
open Go.RowKit
attribute [local go_sem ↓] Go.wp_at_zero Go.wp_at_succ
attribute [local go_sem] Go.undef

theorem RM.upd {w w' : World} {S : Nat → Prop} {l : List MX} {a : Option Addr} {n c g : Nat} (h : RM w S l a n c) (U : Upd g w w') (hS : ∀ b, S b → b ≠ g) : RM w' S l a n c :=
  RowsOf.map h (fun _ _ _ hm => hm.keep (fun _ h => h) fun x hx _j => U.cell (hS x hx)) (fun _ h => h) fun x hx _j => U.cell (hS x hx)
def numM (i p : Int) : MX := ⟨i, ByteArray.empty, .node 0 0 0 ByteArray.empty [], 0, 0, ByteArray.empty, 0, p, 0⟩
theorem numM_is (i p : Int) (w : World) (S : Nat → Prop) : IsM w S (numM i p) [.int .i64 i, .string ByteArray.empty, .int .i64 0, .int .i64 0, .int .u64 0, .string ByteArray.empty, .slice none 0 0, .int .i64 0, .int .i64 0, .string ByteArray.empty, .int .i64 0, .int .i64 p, .int .i64 0] :=
  ⟨0, 0, 0, ByteArray.empty, none, 0, 0, rfl, IsD.shut (by decide) (by decide) (by decide) (Nat.zero_le _) (RowsOf.nil none 0 (Nat.zero_le _)), Nat.zero_le _, Nat.zero_le _⟩
theorem numM_size (i p : Int) : (numM i p).body.size ≤ 4096 := zeroM_size
theorem small_nums {l : List MX} (h : ∀ m ∈ l, ∃ i p, m = numM i p) : smallL l := fun m hm => by obtain ⟨i, p, rfl⟩ := h m hm; exact numM_size i p

theorem aq_put1 : putQ ⟨[], 0, 0⟩ 2 2 (numM 1 1) = (⟨[numM 1 1], 0, 0⟩, zeroM, false, 0) := by simp [putQ]
theorem aq_put2 : putQ ⟨[numM 1 1], 0, 0⟩ 2 2 (numM 2 5) = (⟨[numM 1 1, numM 2 5], 0, 0⟩, zeroM, false, 0) := by simp [putQ]
theorem aq_take : takeQ ⟨[numM 1 1, numM 2 5], 0, 0⟩ = (⟨[numM 1 1], 0, 0⟩, numM 2 5, true) := by
  have h : highI [numM 1 1, numM 2 5] 2 = 1 := by simp [highI, atM, numM]
  show (if (2 : Nat) = 0 then _ else _) = _
  rw [if_neg (by decide)]
  show ((⟨[numM 1 1, numM 2 5].eraseIdx (highI [numM 1 1, numM 2 5] 2), 0, 0⟩ : QX), atM [numM 1 1, numM 2 5] (highI [numM 1 1, numM 2 5] 2), true) = _
  rw [h]
  rfl
theorem aq_put3 : putQ ⟨[numM 1 1, numM 2 5], 0, 0⟩ 2 2 (numM 3 0) = (⟨[numM 1 1, numM 2 5], 1, 0⟩, zeroM, false, 190) := by simp [putQ]

set_option maxHeartbeats 8000000 in
set_option maxRecDepth 100000 in
theorem awakeq_any (w : World) : Calls Try.prog 21 #[] w fun e w' => e = .returned (.bool true) ∧ Below w.heap.size w w' := by
  go_enter Try.func21, Try.ntmps21
  go_wp2_with fail
  have bq0 : Blk (w.alloc (.cells #[.slice none 0 0, .int .i64 0, .int .i64 0] 46)) w.heap.size 46 #[.slice none 0 0, .int .i64 0, .int .i64 0] := Blk.new _ _ _
  have B0 : Below w.heap.size w (w.alloc (.cells #[.slice none 0 0, .int .i64 0, .int .i64 0] 46)) := by go_grown
  have hs0 : (w.alloc (.cells #[.slice none 0 0, .int .i64 0, .int .i64 0] 46)).heap.size = w.heap.size + 1 := by simp
  have hp1 := putp_any ⟨[], 0, 0⟩ none 0 0 (fun _ => False) (w.alloc (.cells #[.slice none 0 0, .int .i64 0, .int .i64 0] 46)) 2 2 (numM 1 1) _ (RowsOf.nil none 0 (Nat.zero_le _)) (fun _ h => h.elim) (fun _ h => absurd h (by simp)) (by omega) (numM_is 1 1 _ (fun _ => False)) (numM_size _ _) (by decide) (by decide) (by decide) (by decide)
  rw [aq_put1] at hp1
  have HP1 := Lib.hid hp1
  have HS0 := Lib.hid hs0
  have BQ0 := Lib.hid bq0
  have HB0 := Lib.hid B0
  clear hp1 hs0 bq0 B0
  refine HP1.out.mono ?_
  rintro e w1 ⟨a1, n1, c1, k1, i1, b1, s1, an1, nn1, cn1, rfl, hr1, -, hb1⟩
  have hs1 := hb1.size
  rw [HS0.out] at hs1 hr1
  have B1 : Below w.heap.size w w1 := HB0.out.trans (hb1.mono (by rw [HS0.out]; omega))
  have bq1 := BQ0.out.under hb1 (by rw [HS0.out]; omega)
  have hn1 : n1 = 1 := hr1.1
  have HR1 := Lib.hid hr1
  clear HP1 BQ0 HB0 hb1 hr1
  subst hn1
  dsimp only [zeroM]
  go_wp2_with (first
    | (refine wpList_store_blk (T := 46) rfl 46 _ _ rfl (w.heap.size) 0 [] [.slice none 0 0, .int .i64 0, .int .i64 0] [] [.slice a1 1 c1, .int .i64 0, .int .i64 0] rfl rfl bq1 rfl rfl sizeI inb_one ?_; intro w2 bq2 U2)
    | (refine wpList_load_blk rfl 46 _ rfl (w.heap.size) 0 rfl [.slice a1 1 c1, .int .i64 0, .int .i64 0] _ (Blk.range (pre := []) (post := []) bq2 rfl) Try.underlying46 rfl sizeI ?_))
  have B2 := B1.trans (U2.below w.heap.size (Nat.le_refl _))
  have hr2 : RM w2 (Btw (w.heap.size + 1) w1.heap.size) [numM 1 1] a1 1 c1 := HR1.out.upd U2 (fun x hx => by have := hx.1; omega)
  have hs2 : w2.heap.size = w1.heap.size := U2.size
  have hp2 := putp_any ⟨[numM 1 1], 0, 0⟩ a1 1 c1 _ w2 2 2 (numM 2 5) _ hr2 (fun x hx => by rw [hs2]; exact hx.2) (small_nums (by intro m hm; simp only [List.mem_cons, List.not_mem_nil, or_false] at hm; subst hm; exact ⟨_, _, rfl⟩)) (by omega) (numM_is 2 5 _ _) (numM_size _ _) (by decide) (by decide) (by decide) (by decide)
  rw [aq_put2] at hp2
  have HP2 := Lib.hid hp2
  clear hp2 HR1 U2 bq1 hr2
  refine HP2.out.mono ?_
  rintro e w3 ⟨a2, n2, c2, k2, i2, b2, s2, an2, nn2, cn2, rfl, hr3, -, hb3⟩
  have hs3 := hb3.size
  have B3 := below_on hb3 B2
  have bq3 := bq2.under hb3 (by omega)
  have hn2 : n2 = 2 := hr3.1
  have HR3 := Lib.hid hr3
  clear HP2 bq2 hb3 hr3
  subst hn2
  dsimp only [zeroM]
  have bq3a := bq3.alloc (.cells #[.int .i64 0, .string ByteArray.empty, .int .i64 0, .int .i64 0, .int .u64 0, .string ByteArray.empty, .slice none 0 0, .int .i64 0, .int .i64 0, .string ByteArray.empty, .int .i64 0, .int .i64 0, .int .i64 0] 48)
  have bz3 : Blk (w3.alloc (.cells #[.int .i64 0, .string ByteArray.empty, .int .i64 0, .int .i64 0, .int .u64 0, .string ByteArray.empty, .slice none 0 0, .int .i64 0, .int .i64 0, .string ByteArray.empty, .int .i64 0, .int .i64 0, .int .i64 0] 48)) w3.heap.size 48 #[.int .i64 0, .string ByteArray.empty, .int .i64 0, .int .i64 0, .int .u64 0, .string ByteArray.empty, .slice none 0 0, .int .i64 0, .int .i64 0, .string ByteArray.empty, .int .i64 0, .int .i64 0, .int .i64 0] := Blk.new _ _ _
  go_wp2_with (first
    | (refine wpList_store_blk (T := 46) rfl 46 _ _ rfl (w.heap.size) 0 [] [.slice a1 1 c1, .int .i64 0, .int .i64 0] [] [.slice a2 2 c2, .int .i64 0, .int .i64 0] rfl rfl bq3a rfl rfl sizeI inb_one ?_; intro w4 bq4 U4; have bz4 := U4.blk bz3 (by omega))
    | (refine wpList_store_blk (T := 48) rfl 48 _ _ rfl (w3.heap.size) 0 [] [.int .i64 0, .string ByteArray.empty, .int .i64 0, .int .i64 0, .int .u64 0, .string ByteArray.empty, .slice none 0 0, .int .i64 0, .int .i64 0, .string ByteArray.empty, .int .i64 0, .int .i64 0, .int .i64 0] [] [.int .i64 0, .string ByteArray.empty, .int .i64 k2, .int .i64 i2, .int .u64 b2, .string s2, .slice an2 nn2 cn2, .int .i64 0, .int .i64 0, .string ByteArray.empty, .int .i64 0, .int .i64 0, .int .i64 0] rfl rfl bz4 rfl rfl sizeM (by simp [Value.oneCell']) ?_; intro w5 bz5 U5; have bq5 := U5.blk bq4 (by omega))
    | (refine wpList_load_blk rfl 46 _ rfl (w.heap.size) 0 rfl [.slice a2 2 c2, .int .i64 0, .int .i64 0] _ (Blk.range (pre := []) (post := []) bq5 rfl) Try.underlying46 rfl sizeI ?_))
  have B5 : Below w.heap.size w w5 := ((B3.alloc (by omega) _).trans (U4.below _ (Nat.le_refl _))).trans (U5.below _ (by omega))
  have hs5 : w5.heap.size = w3.heap.size + 1 := by rw [U5.size, U4.size]; simp
  have hr5 : RM w5 (Btw w2.heap.size w3.heap.size) [numM 1 1, numM 2 5] a2 2 c2 :=
    ((RM.under HR3.out ((Below.refl w3.heap.size w3).alloc (Nat.le_refl _) (.cells #[.int .i64 0, .string ByteArray.empty, .int .i64 0, .int .i64 0, .int .u64 0, .string ByteArray.empty, .slice none 0 0, .int .i64 0, .int .i64 0, .string ByteArray.empty, .int .i64 0, .int .i64 0, .int .i64 0] 48)) (fun x hx => hx.2)).upd U4 (fun x hx => by have := hx.1; omega)).upd U5 (fun x hx => by have := hx.2; omega)
  have hp3 := takep_any ⟨[numM 1 1, numM 2 5], 0, 0⟩ a2 2 c2 _ w5 hr5 (fun x hx => by rw [hs5]; have := hx.2; omega) (small_nums (by intro m hm; simp only [List.mem_cons, List.not_mem_nil, or_false] at hm; rcases hm with rfl | rfl <;> exact ⟨_, _, rfl⟩)) (by omega)
  rw [aq_take] at hp3
  have HP3 := Lib.hid hp3
  have HR5 := Lib.hid hr5
  clear hp3 HR3 U4 U5 bq3 bq3a bz3 bz4 bz5 bq4 hr5
  refine HP3.out.mono ?_
  rintro e w6 ⟨a3, n3, c3, k3, i3, b3, s3, an3, nn3, cn3, rfl, hr6, -, hb6⟩
  have hs6 := hb6.size
  have B6 := below_on hb6 B5
  have bq6 := bq5.under hb6 (by omega)
  have HR6 : Hid (RM w6 (Btw w2.heap.size w3.heap.size) [numM 1 1, numM 2 5] a2 2 c2) := RM.under HR5.out hb6 (fun x hx => by have := hx.2; omega)
  have hn3 : n3 = 1 := hr6.1
  clear HP3 bq5 hb6 hr6 HR5
  subst hn3
  dsimp only [numM]
  have bqa : Blk ((w6.alloc (.cells #[.slice none 0 0, .int .i64 0, .int .i64 0] 46)).alloc (.cells #[.int .i64 0, .string ByteArray.empty, .int .i64 0, .int .i64 0, .int .u64 0, .string ByteArray.empty, .slice none 0 0, .int .i64 0, .int .i64 0, .string ByteArray.empty, .int .i64 0, .int .i64 0, .int .i64 0] 48)) w.heap.size 46 #[.slice a2 2 c2, .int .i64 0, .int .i64 0] := (bq6.alloc _).alloc _
  have bia : Blk ((w6.alloc (.cells #[.slice none 0 0, .int .i64 0, .int .i64 0] 46)).alloc (.cells #[.int .i64 0, .string ByteArray.empty, .int .i64 0, .int .i64 0, .int .u64 0, .string ByteArray.empty, .slice none 0 0, .int .i64 0, .int .i64 0, .string ByteArray.empty, .int .i64 0, .int .i64 0, .int .i64 0] 48)) w6.heap.size 46 #[.slice none 0 0, .int .i64 0, .int .i64 0] := (Blk.new _ _ _).alloc _
  have bma : Blk ((w6.alloc (.cells #[.slice none 0 0, .int .i64 0, .int .i64 0] 46)).alloc (.cells #[.int .i64 0, .string ByteArray.empty, .int .i64 0, .int .i64 0, .int .u64 0, .string ByteArray.empty, .slice none 0 0, .int .i64 0, .int .i64 0, .string ByteArray.empty, .int .i64 0, .int .i64 0, .int .i64 0] 48)) (w6.heap.size + 1) 48 #[.int .i64 0, .string ByteArray.empty, .int .i64 0, .int .i64 0, .int .u64 0, .string ByteArray.empty, .slice none 0 0, .int .i64 0, .int .i64 0, .string ByteArray.empty, .int .i64 0, .int .i64 0, .int .i64 0] := Blk.new' _ _ _ (by simp)
  have B6a : Below w.heap.size w ((w6.alloc (.cells #[.slice none 0 0, .int .i64 0, .int .i64 0] 46)).alloc (.cells #[.int .i64 0, .string ByteArray.empty, .int .i64 0, .int .i64 0, .int .u64 0, .string ByteArray.empty, .slice none 0 0, .int .i64 0, .int .i64 0, .string ByteArray.empty, .int .i64 0, .int .i64 0, .int .i64 0] 48)) := (B6.alloc (by omega) _).alloc (by simp; omega) _
  have hs6a : ((w6.alloc (.cells #[.slice none 0 0, .int .i64 0, .int .i64 0] 46)).alloc (.cells #[.int .i64 0, .string ByteArray.empty, .int .i64 0, .int .i64 0, .int .u64 0, .string ByteArray.empty, .slice none 0 0, .int .i64 0, .int .i64 0, .string ByteArray.empty, .int .i64 0, .int .i64 0, .int .i64 0] 48)).heap.size = w6.heap.size + 2 := by simp
  have hra : RM ((w6.alloc (.cells #[.slice none 0 0, .int .i64 0, .int .i64 0] 46)).alloc (.cells #[.int .i64 0, .string ByteArray.empty, .int .i64 0, .int .i64 0, .int .u64 0, .string ByteArray.empty, .slice none 0 0, .int .i64 0, .int .i64 0, .string ByteArray.empty, .int .i64 0, .int .i64 0, .int .i64 0] 48)) (Btw w2.heap.size w3.heap.size) [numM 1 1, numM 2 5] a2 2 c2 := RM.under HR6.out (((Below.refl w6.heap.size w6).alloc (Nat.le_refl _) _).alloc (by simp) _) (fun x hx => by have := hx.2; omega)
  have HRA := Lib.hid hra
  have HB6 := Lib.hid B6a
  have HS6 := Lib.hid hs6a
  clear bq6 hra HR6 B6a hs6a
  go_wp2_with (first
    | (refine wpList_store_blk (T := 46) rfl 46 _ _ rfl (w6.heap.size) 0 [] [.slice none 0 0, .int .i64 0, .int .i64 0] [] [.slice a3 1 c3, .int .i64 0, .int .i64 0] rfl rfl bia rfl rfl sizeI inb_one ?_; intro w7 bi7 U7; have bm7 := U7.blk bma (by omega); have bq7 := U7.blk bqa (by omega))
    | (refine wpList_store_blk (T := 48) rfl 48 _ _ rfl (w6.heap.size + 1) 0 [] [.int .i64 0, .string ByteArray.empty, .int .i64 0, .int .i64 0, .int .u64 0, .string ByteArray.empty, .slice none 0 0, .int .i64 0, .int .i64 0, .string ByteArray.empty, .int .i64 0, .int .i64 0, .int .i64 0] [] [.int .i64 2, .string ByteArray.empty, .int .i64 k3, .int .i64 i3, .int .u64 b3, .string s3, .slice an3 nn3 cn3, .int .i64 0, .int .i64 0, .string ByteArray.empty, .int .i64 0, .int .i64 5, .int .i64 0] rfl rfl bm7 rfl rfl sizeM (by simp [Value.oneCell']) ?_; intro w8 bm8 U8; have bq8 := U8.blk bq7 (by omega))
    | (refine wpList_load_blk rfl 46 _ rfl (w.heap.size) 0 rfl [.slice a2 2 c2, .int .i64 0, .int .i64 0] _ (Blk.range (pre := []) (post := []) bq8 rfl) Try.underlying46 rfl sizeI ?_))
  have B8 : Below w.heap.size w w8 := (HB6.out.trans (U7.below _ (by omega))).trans (U8.below _ (by omega))
  have hs8 : w8.heap.size = w6.heap.size + 2 := (U8.size.trans U7.size).trans HS6.out
  have hr8 : RM w8 (Btw w2.heap.size w3.heap.size) [numM 1 1, numM 2 5] a2 2 c2 := (HRA.out.upd U7 (fun x hx => by have := hx.2; omega)).upd U8 (fun x hx => by have := hx.2; omega)
  have hp4 := putp_any ⟨[numM 1 1, numM 2 5], 0, 0⟩ a2 2 c2 _ w8 2 2 (numM 3 0) _ hr8 (fun x hx => by rw [hs8]; have := hx.2; omega) (small_nums (by intro m hm; simp only [List.mem_cons, List.not_mem_nil, or_false] at hm; rcases hm with rfl | rfl <;> exact ⟨_, _, rfl⟩)) (by omega) (numM_is 3 0 _ _) (numM_size _ _) (by decide) (by decide) (by decide) (by decide)
  rw [aq_put3] at hp4
  have HP4 := Lib.hid hp4
  clear hp4 HRA HB6 HS6 U7 U8 bqa bia bma bi7 bm7 bq7 hr8
  refine HP4.out.mono ?_
  rintro e w9 ⟨a4, n4, c4, k4, i4, b4, s4, an4, nn4, cn4, rfl, hr9, -, hb9⟩
  have B9 := below_on hb9 B8
  have hs9 := hb9.size
  have bm9 := bm8.under hb9 (by omega)
  clear HP4 hb9 hr9 bm8 bq8
  dsimp only [zeroM]
  have bia : Blk ((w9.alloc (.cells #[.slice none 0 0, .int .i64 0, .int .i64 0] 46)).alloc (.cells #[.int .i64 0, .string ByteArray.empty, .int .i64 0, .int .i64 0, .int .u64 0, .string ByteArray.empty, .slice none 0 0, .int .i64 0, .int .i64 0, .string ByteArray.empty, .int .i64 0, .int .i64 0, .int .i64 0] 48)) w9.heap.size 46 #[.slice none 0 0, .int .i64 0, .int .i64 0] := (Blk.new _ _ _).alloc _
  have bma : Blk ((w9.alloc (.cells #[.slice none 0 0, .int .i64 0, .int .i64 0] 46)).alloc (.cells #[.int .i64 0, .string ByteArray.empty, .int .i64 0, .int .i64 0, .int .u64 0, .string ByteArray.empty, .slice none 0 0, .int .i64 0, .int .i64 0, .string ByteArray.empty, .int .i64 0, .int .i64 0, .int .i64 0] 48)) (w9.heap.size + 1) 48 #[.int .i64 0, .string ByteArray.empty, .int .i64 0, .int .i64 0, .int .u64 0, .string ByteArray.empty, .slice none 0 0, .int .i64 0, .int .i64 0, .string ByteArray.empty, .int .i64 0, .int .i64 0, .int .i64 0] := Blk.new' _ _ _ (by simp)
  have bmx := (bm9.alloc (.cells #[.slice none 0 0, .int .i64 0, .int .i64 0] 46)).alloc (.cells #[.int .i64 0, .string ByteArray.empty, .int .i64 0, .int .i64 0, .int .u64 0, .string ByteArray.empty, .slice none 0 0, .int .i64 0, .int .i64 0, .string ByteArray.empty, .int .i64 0, .int .i64 0, .int .i64 0] 48)
  have hb9a : Below w.heap.size w ((w9.alloc (.cells #[.slice none 0 0, .int .i64 0, .int .i64 0] 46)).alloc (.cells #[.int .i64 0, .string ByteArray.empty, .int .i64 0, .int .i64 0, .int .u64 0, .string ByteArray.empty, .slice none 0 0, .int .i64 0, .int .i64 0, .string ByteArray.empty, .int .i64 0, .int .i64 0, .int .i64 0] 48)) := (B9.alloc (by omega) _).alloc (by simp; omega) _
  have HB9 := Lib.hid hb9a
  clear bm9 hb9a
  go_wp2_with (first
    | (refine wpList_store_blk (T := 46) rfl 46 _ _ rfl (w9.heap.size) 0 [] [.slice none 0 0, .int .i64 0, .int .i64 0] [] [.slice a4 n4 c4, .int .i64 1, .int .i64 0] rfl rfl bia rfl rfl sizeI inb_one ?_; intro w10 bi10 U10; have bm10 := U10.blk bma (by omega); have bmy := U10.blk bmx (by omega))
    | (refine wpList_store_blk (T := 48) rfl 48 _ _ rfl (w9.heap.size + 1) 0 [] [.int .i64 0, .string ByteArray.empty, .int .i64 0, .int .i64 0, .int .u64 0, .string ByteArray.empty, .slice none 0 0, .int .i64 0, .int .i64 0, .string ByteArray.empty, .int .i64 0, .int .i64 0, .int .i64 0] [] [.int .i64 0, .string ByteArray.empty, .int .i64 k4, .int .i64 i4, .int .u64 b4, .string s4, .slice an4 nn4 cn4, .int .i64 0, .int .i64 0, .string ByteArray.empty, .int .i64 0, .int .i64 0, .int .i64 0] rfl rfl bm10 rfl rfl sizeM (by simp [Value.oneCell']) ?_; intro w11 bm11 U11; have bmz := U11.blk bmy (by omega); have e0 : w11.cell? ⟨w6.heap.size + 1, 0, none⟩ = some (.int .i64 2) := Blk.cell bmz 0))
  go_ret
  exact ⟨rfl, (HB9.out.trans (U10.below _ (by omega))).trans (U11.below _ (by omega))⟩
end Go.Proofs.Ytmdcfmdjbncaoaa
