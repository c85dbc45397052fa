/- Has a set a capability; what a chain shows, and its levels. -/
import Derived.Test.YtlnlefebcfnocaaSq
import Derived.Test.YtlnlefebcfnocaaSc
namespace Go.Proofs.Ytlnlefebcfnocaa
open Go.RowKit Go.Deep
attribute [local go_sem] Go.undef

set_option maxRecDepth 100000 in
set_option maxHeartbeats 4000000 in
theorem has_any (w : World) (c : Nat) (k : Int) (hc : c < 4294967296) : Calls Try.prog 33 #[.int .u32 (c : Int), .int .i64 k] w fun e w' => e = .returned (.bool (hasN c k)) ∧ w = w' := by
  by_cases h0 : 0 ≤ k
  · have d0 : decide (0 ≤ k) = true := decide_eq_true h0
    by_cases h1 : k < 11
    · have d1 : decide (k < 11) = true := decide_eq_true h1
      obtain ⟨j, rfl⟩ : ∃ j : Nat, k = (j : Int) := ⟨k.toNat, by omega⟩
      have hb := bit_one (j := j) hc
      have hh : hasN c (j : Int) = c.testBit j := by unfold hasN; rw [decide_eq_true ⟨h0, h1⟩]; simp
      rw [hh]
      cases ht : c.testBit j with
      | true =>
        rw [ht, if_pos rfl] at hb
        go_enter Try.func33, Try.ntmps33
        go_wp2_with fail
        go_ret
        exact ⟨rfl, rfl⟩
      | false =>
        rw [ht, if_neg (by simp)] at hb
        go_enter Try.func33, Try.ntmps33
        go_wp2_with fail
        go_ret
        exact ⟨rfl, rfl⟩
    · have d1 : decide (k < 11) = false := decide_eq_false h1
      have hh : hasN c k = false := by unfold hasN; rw [decide_eq_false (by omega)]; rfl
      rw [hh]
      go_enter Try.func33, Try.ntmps33
      go_wp2_with fail
      go_ret
      exact ⟨rfl, rfl⟩
  · have d0 : decide (0 ≤ k) = false := decide_eq_false h0
    have hh : hasN c k = false := by unfold hasN; rw [decide_eq_false (by omega)]; rfl
    rw [hh]
    go_enter Try.func33, Try.ntmps33
    go_wp2_with fail
    go_ret
    exact ⟨rfl, rfl⟩

/-- A level, by its kind. -/
theorem lv_kind {c : Nat} (hc : c < 4294967296) {r : List (WX × Value)} (h : ∀ p ∈ r, Cap p.1) :
    (r = [] ∧ lvV c r = .iface 80 (.agg #[.int .u32 (c : Int)]) ∧ SZ 75 (.agg #[.int .u32 (c : Int)]) (showsN c (r.map Prod.fst)) ∧ SZ 74 (.agg #[.int .u32 (c : Int)]) (givesN c (r.map Prod.fst))) ∨
    (∃ p q Z, r = p :: q ∧ p.1.opn = false ∧ Z = .agg (lvV c q :: p.1.cells p.2).toArray ∧ lvV c r = .iface 82 Z ∧ SZ 77 Z (showsN c (r.map Prod.fst)) ∧ SZ 76 Z (givesN c (r.map Prod.fst))) ∨
    (∃ p q Z, r = p :: q ∧ p.1.opn = true ∧ Z = .agg (lvV c q :: p.1.cells p.2).toArray ∧ lvV c r = .iface 84 Z ∧ SZ 83 Z (showsN c (r.map Prod.fst)) ∧ SZ 81 Z (givesN c (r.map Prod.fst))) := by
  obtain ⟨k1, k2, -⟩ := lv_shows hc h
  cases r with
  | nil => exact .inl ⟨rfl, rfl, k1 rfl, fun w => inner_gives w c⟩
  | cons p q =>
    obtain ⟨a1, a2⟩ := k2 p q rfl
    have hp := h p (by simp)
    cases ho : p.1.opn with
    | false =>
      refine .inr (.inl ⟨p, q, _, rfl, ho, rfl, by rw [lvV, ho]; rfl, a1 ho, ?_⟩)
      rw [List.map_cons, givesN, opnN, ho, if_neg (by simp), Nat.or_zero]
      exact fun w => gives_shell w _ p.1 p.2
    | true =>
      refine .inr (.inr ⟨p, q, _, rfl, ho, rfl, by rw [lvV, ho]; rfl, a2 ho, ?_⟩)
      rw [List.map_cons, givesN, opnN, ho, if_pos rfl]
      exact fun w => window_gives w _ p.1 p.2 hp

/-- The first j wrappers of a chain, the outermost one first. -/
def rv (ws : List (WX × Value)) (j : Nat) : List (WX × Value) := (ws.take j).reverse
theorem rv_cap {ws : List (WX × Value)} (h : ∀ p ∈ ws, Cap p.1) (j : Nat) : ∀ p ∈ rv ws j, Cap p.1 := fun p hp => h p (List.mem_of_mem_take (List.mem_reverse.1 hp))
def sh (c : Nat) (ws : List (WX × Value)) (j : Nat) : Nat := showsN c ((rv ws j).map Prod.fst)
theorem sh_lt {c : Nat} {ws : List (WX × Value)} (hc : c < 4294967296) (h : ∀ p ∈ ws, Cap p.1) (j : Nat) : sh c ws j < 4294967296 := showsN_lt hc fun x hx => by
  obtain ⟨p, hp, rfl⟩ := List.mem_map.1 hx
  exact rv_cap h j p hp

set_option maxRecDepth 100000 in
set_option maxHeartbeats 8000000 in
theorem shown_any (w : World) (S : Nat → Prop) (op num : Int) (c : Nat) (ws : List (WX × Value)) (a : Option Addr) (n d : Nat) (hr : Wraps w S ws a n d) (hS : ∀ b, S b → b < w.heap.size) (hn : n ≤ 1048576) (hc : c < 4294967296) :
    Calls Try.prog 12 #[.agg #[.int .i64 op, .int .i64 num, .int .u32 (c : Int), .slice a n d]] w fun e w' => e = .returned (.int .u32 (sh c ws n : Int)) ∧ Below w.heap.size w w' := by
  have hb := fun W (hb : Below w.heap.size w W) => build_any W S op num c ws a n d (hr.under hb hS) (fun b h => Nat.lt_of_lt_of_le (hS b h) hb.size) hn
  have hk := lv_kind hc (rv_cap hr.cap n)
  have HB := Lib.hid hb
  have HK := Lib.hid hk
  clear hb hk hr hS
  go_enter Try.func12, Try.ntmps12
  go_wp2_with fail
  refine (HB.out _ (by go_grown)).mono ?_
  rintro e w1 ⟨a1, c1, rfl, hown, hb⟩
  have HB1 : Hid (Below w.heap.size w w1) := below_on hb (by go_grown)
  obtain ⟨g, cap, e3, -, -⟩ := hown.form (by omega)
  injection e3 with e3 _ e3'
  subst e3 e3'
  have dl := hown.cellAt n (by omega)
  rw [lvs_at c ws (Nat.le_refl _)] at dl
  have hi : (n : Int) < (n : Int) + 1 := by omega
  clear hown hb
  rcases HK.out with ⟨-, hl, hz, -⟩ | ⟨-, -, Z, -, -, -, hl, hz, -⟩ | ⟨-, -, Z, -, -, -, hl, hz, -⟩
  all_goals
    rw [show (ws.take n).reverse = rv ws n from rfl, hl] at dl
    have HZ := Lib.hid hz
    clear hz hl
    go_wp2_with fail
    refine (HZ.out _).mono ?_
    rintro e w2 ⟨rfl, hb2⟩
    have hB2 := below_on hb2 HB1.out
    clear hb2
    go_wp2_with fail
    go_ret
    exact ⟨rfl, hB2⟩

theorem infoC : (Try.prog.info? 23).map (fun i => (i.zero, i.size, i.bytes)) = some (some (.int .u32 0), 1, 4) := by kernel_rfl
/-- What the first j levels show. -/
def shv (c : Nat) (ws : List (WX × Value)) (j : Nat) : List Value := (List.range j).map fun i => Value.int .u32 (sh c ws i : Int)
theorem shv_succ (c : Nat) (ws : List (WX × Value)) (j : Nat) : shv c ws (j + 1) = shv c ws j ++ [.int .u32 (sh c ws j : Int)] := by simp [shv, List.range_succ]
theorem shv_at (c : Nat) (ws : List (WX × Value)) {j i : Nat} (h : i < j) : (shv c ws j)[i]? = some (.int .u32 (sh c ws i : Int)) := by simp [shv, h]
/-- The state of Levels' loop. -/
def LL (_w w1 : World) (c : Nat) (ws : List (WX × Value)) (j : Nat) (s3 : Value) (wr : World) : Prop :=
  ∃ a3 c3, s3 = .slice a3 j c3 ∧ wr.ownsRow w1.heap.size 23 1 (.slice a3 j c3) j (shv c ws j) ∧ Below w1.heap.size w1 wr

set_option maxRecDepth 100000 in
set_option maxHeartbeats 8000000 in
theorem levels_any (w : World) (S : Nat → Prop) (op num : Int) (c : Nat) (ws : List (WX × Value)) (a : Option Addr) (n d : Nat) (hr : Wraps w S ws a n d) (hS : ∀ b, S b → b < w.heap.size) (hn : n ≤ 1048576) (hc : c < 4294967296) :
    Calls Try.prog 15 #[.agg #[.int .i64 op, .int .i64 num, .int .u32 (c : Int), .slice a n d]] w fun e w' => ∃ a' c', e = .returned (.slice a' (n + 1) c') ∧ w'.ownsRow w.heap.size 23 1 (.slice a' (n + 1) c') (n + 1) (shv c ws (n + 1)) ∧ Below w.heap.size w w' := by
  obtain ⟨i0, hi0, hz0, hz1, hz2⟩ := info_parts infoC
  have hb := fun W (hb : Below w.heap.size w W) => build_any W S op num c ws a n d (hr.under hb hS) (fun b h => Nat.lt_of_lt_of_le (hS b h) hb.size) hn
  have hk := fun j => lv_kind hc (rv_cap hr.cap j)
  have HB := Lib.hid hb
  have HK := Lib.hid hk
  clear hb hk hr hS
  go_enter Try.func15, Try.ntmps15
  go_wp2_with fail
  refine (HB.out _ (by go_grown)).mono ?_
  rintro e w1 ⟨a1, c1, rfl, hown, hb⟩
  have HB1 : Hid (Below w.heap.size w w1) := below_on hb (by go_grown)
  obtain ⟨g, cap, e3, -, -⟩ := hown.form (by omega)
  injection e3 with e3 _ e3'
  subst e3 e3'
  have HO := Lib.hid hown
  have hgl := own_row hown g rfl
  clear hown hb
  go_wp2_with fail
  go_loopw [3, 9] (fun s3 iv wr => ∃ j : Nat, iv = .int .i64 j ∧ j ≤ n + 1 ∧ LL w w1 c ws j s3 wr) (fun _ i _ => n + 1 - (intOf i).toNat)
  case atStart => exact ⟨0, rfl, Nat.zero_le _, none, 0, rfl, ⟨rfl, .inl ⟨rfl, rfl⟩⟩, Below.refl _ _⟩
  case round =>
    obtain ⟨j, rfl, hj, a3, c3, rfl, h3, h4⟩ := hrel
    by_cases hlt : j < n + 1
    · have dl := (own_below HO.out h4).cellAt j (by omega)
      rw [lvs_at c ws (by omega)] at dl
      have hi0' : (0 : Int) ≤ (j : Int) := by omega
      have hi1 : (j : Int) < (n : Int) + 1 := by omega
      have H3 := Lib.hid h3
      have H4 := Lib.hid h4
      have hs4 := h4.size
      clear h3 h4
      rcases HK.out j with ⟨-, hl, hz, -⟩ | ⟨-, -, Z, -, -, -, hl, hz, -⟩ | ⟨-, -, Z, -, -, -, hl, hz, -⟩
      all_goals
        rw [show (ws.take j).reverse = rv ws j from rfl, hl] at dl
        have HZ : Hid (SZ _ _ (sh c ws j)) := Lib.hid hz
        clear hz hl
        go_wp2_with fail
        refine (HZ.out _).mono ?_
        rintro e w2 ⟨rfl, hb2⟩
        have H5 := Lib.hid (own_below H3.out hb2)
        have H6 := Lib.hid (hb2.size)
        have H7 := Lib.hid (below_on hb2 H4.out)
        have hs2 := hb2.size
        clear hb2 dl
        have hsc := shv_succ c ws j
        have HSC := Lib.hid hsc
        clear hsc
        generalize sh c ws j = N at HSC HZ ⊢
        go_wp2_with (at_builtin; refine wpList_append_lies _ rfl _ _ 40 rfl w1.heap.size 23 i0 _ 1 4 Try.underlying40 hi0 hz0 hz1 hz2 rfl (by omega) _ j (shv c ws j) rfl (H5.out.alloc _) ⟨w2.heap.size, 0, none⟩ 1 1 [.int .u32 (N : Int)] rfl rfl (one_new rfl) (fun u hu => by rw [List.mem_singleton.1 hu]; rfl) (by omega) (by unfold maxLen; omega) (by omega) (by simp; omega) (w2.heap.size + 1) (by simp) ?_)
        intro g5 cap5 w5 hown5 hgr5 hat5 hlt5
        have hB5 : Below w1.heap.size w1 w5 := (H7.out.alloc H7.out.size _).grown hgr5 (by simp; omega) (fun k hk => (own_row H5.out k hk).1)
        rw [← HSC.out] at hown5
        have HO5 := Lib.hid hown5
        have HB5 := Lib.hid hB5
        clear hown5 hgr5 hat5 hlt5 hB5
        go_wp2_with fail
        go_roundw
        · exact ⟨j + 1, by go_num, by omega, _, _, rfl, HO5.out, HB5.out⟩
        · simp [intOf]; omega
    · obtain rfl : j = n + 1 := by omega
      go_wp2_with fail
      go_ret
      exact ⟨a3, c3, rfl, own_mono h3 HB1.out.size, below_on h4 HB1.out⟩
end Go.Proofs.Ytlnlefebcfnocaa
