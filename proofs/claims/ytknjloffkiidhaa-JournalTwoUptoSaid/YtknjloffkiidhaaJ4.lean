/- The walk of JournalAppends. -/
import Derived.Test.YtknjloffkiidhaaJ3
namespace Go.Proofs.Ytknjloffkiidhaa
open Go.RowKit Go.Deep
attribute [local go_sem] Go.undef

theorem AppQ.err1 {w : World} {l r : List Nat} {e : Ending} {w' : World} (h : AppQ w l r e w') (hd : l.take 5 ≠ headL) : e = .returned (.tuple #[.slice none 0 0, .int .i64 262]) ∧ Below w.heap.size w w' := by
  rcases h with ⟨-, h1, h2⟩ | ⟨h1, -⟩ | ⟨-, rs', at2, a', c', h1, -⟩
  · exact ⟨h1, h2⟩
  · exact absurd h1 hd
  · exact absurd h1.1 hd
theorem AppQ.err2 {w : World} {l r : List Nat} {e : Ending} {w' : World} (h : AppQ w l r e w') (hd : l.take 5 = headL) (hr : 65535 < r.length) : e = .returned (.tuple #[.slice none 0 0, .int .i64 270]) ∧ Below w.heap.size w w' := by
  rcases h with ⟨h1, -⟩ | ⟨-, -, h1, h2⟩ | ⟨h1, -⟩
  · exact absurd hd h1
  · exact ⟨h1, h2⟩
  · omega
/-- Appends that cannot: an error number, the same of both. -/
theorem app_err {l r : List Nat} (h : l.take 5 ≠ headL ∨ 65535 < r.length) : ∃ k : Int, k ≠ 0 ∧ ∀ w e w', AppQ w l r e w' → e = .returned (.tuple #[.slice none 0 0, .int .i64 k]) ∧ Below w.heap.size w w' := by
  by_cases hd : l.take 5 = headL
  · exact ⟨270, by decide, fun w e w' q => q.err2 hd (h.resolve_left (fun h => h hd))⟩
  · exact ⟨262, by decide, fun w e w' q => q.err1 hd⟩

set_option maxRecDepth 100000 in
set_option maxHeartbeats 8000000 in
theorem appends_go (l r : List Nat) (a b : Option Addr) (n c m d : Nat) (W : World) (hn : l.length = n) (hnc : n ≤ c) (hm : c ≤ 9223372036854775807) (hs : n ≤ 1048576) (h : BY W (· < W.heap.size) a l)
    (hr : r.length = m) (hmd : m ≤ 1048576) (h' : BY W (· < W.heap.size) b r) :
    Calls Try.prog 4 #[.slice a n c, .slice b m d] W fun e w' => e = .returned (.bool true) ∧ Below W.heap.size W w' := by
  have hlb := h.1
  have hrb := h'.1
  have happ := append_any W _ _ a b l r n c m d hn hnc hm (by omega) h (fun b hb => hb) hr (by omega) h' (fun b hb => hb)
  have hrap := fun (w : World) (hb : Below W.heap.size W w) => rappend_any w _ _ a b l r n c m d hn hnc hm (by omega) (h.under hb (fun b hb => hb)) (fun b hb' => Nat.lt_of_lt_of_le hb' hb.size) hr (by omega) (h'.under hb (fun b hb => hb)) (fun b hb' => Nat.lt_of_lt_of_le hb' hb.size)
  have hopen := fun (w : World) (hb : Below W.heap.size W w) => open_any w _ a l n c hn hnc hm (by omega) (h.under hb (fun b hb => hb)) (fun b hb' => Nat.lt_of_lt_of_le hb' hb.size)
  have hcr := fun (w : World) (hb : Below W.heap.size W w) => (h'.under hb (fun b hb => hb)).conv hr d
  have HAPP := Lib.hid happ
  have HRAP := Lib.hid hrap
  have HOPEN := Lib.hid hopen
  have HCR := Lib.hid hcr
  clear happ hrap hopen hcr h h'
  have q22 : ∀ (w : World), (convert 22 9 (.slice none 0 0)).run Try.prog w = .ok (.string (SB [])) w := fun w => run_convert_bytes_zero w _ _ Try.underlying22 Try.underlying5 none 0 _ Try.underlying9
  by_cases hbad : l.take 5 ≠ headL ∨ 65535 < r.length
  · obtain ⟨k, hk0, hk⟩ := app_err hbad
    have hkk : ((k : Int) == 0) = false := by simpa using hk0
    have HK := Lib.hid hk
    clear hk hk0 hbad hr
    go_enter Try.func4, Try.ntmps4
    go_wp2_with fail
    refine HAPP.out.mono ?_
    intro e w1 hq1
    obtain ⟨rfl, hb1⟩ := HK.out _ _ _ hq1
    have HB1 := Lib.hid hb1
    clear hq1 hb1
    go_wp2_with fail
    refine (HRAP.out _ HB1.out).mono ?_
    intro e w2 hq2
    obtain ⟨rfl, hb2⟩ := HK.out _ _ _ hq2
    have HB2 := Lib.hid (below_on hb2 HB1.out)
    clear hq2 hb2
    go_wp2_with fail
    refine (awake_any _).mono ?_
    rintro e w3 ⟨rfl, hb3⟩
    have HB3 := Lib.hid (below_on hb3 HB2.out)
    clear hb3
    go_wp2_with fail
    go_ret
    exact ⟨rfl, HB3.out⟩
  · have hgood : l.take 5 = headL ∧ r.length ≤ 65535 := by
      constructor
      · exact Classical.byContradiction fun h => hbad (.inl h)
      · exact Nat.le_of_not_lt fun h => hbad (.inr h)
    obtain ⟨hd, hr6⟩ := hgood
    obtain ⟨rs, at', ht⟩ := told_any hlb hd
    have htb : ∀ x ∈ rs ++ [r], Bytes x := fun x hx => (List.mem_append.1 hx).elim (ht.2.2.2.2.1 x) (fun h => by rw [List.mem_singleton.1 h]; exact hrb)
    have hts : Small (rs ++ [r]) := fun x hx => (List.mem_append.1 hx).elim (ht.2.2.2.1 x) (fun h => by rw [List.mem_singleton.1 h]; exact hr6)
    have ht2 := told_JL' hts htb
    have hjb := JL_bytes htb
    have hjl := JL_snoc_len rs r
    have hle := ht.le
    have htk := ht.take
    have hrsl : rs.length ≤ 1048576 := by
      have h2 := ht.2.2.1
      have h3 := frames_len_ge rs
      omega
    have hbig : (JL (rs ++ [r])).length ≤ 1099511627776 := by omega
    have HT := Lib.hid ht
    have HT2 := Lib.hid ht2
    have HJB := Lib.hid hjb
    have HR := Lib.hid hr
    clear hbad hd ht htb hts ht2 hjb hjl hle htk hr
    generalize hJN : (JL (rs ++ [r])).length = N at HT2 hbig
    have HJN := Lib.hid hJN
    clear hJN
    go_enter Try.func4, Try.ntmps4
    go_wp2_with fail
    refine HAPP.out.mono ?_
    intro e w1 hq1
    obtain ⟨a1, c1, rfl, hown1, hb1⟩ := hq1.good HT.out hr6
    rw [HJN.out] at hown1 ⊢
    have HO1 := Lib.hid hown1
    have HB1 := Lib.hid hb1
    clear hq1 hown1 hb1
    go_wp2_with fail
    refine (HRAP.out _ HB1.out).mono ?_
    intro e w2 hq2
    obtain ⟨a2, c2, rfl, hown2, hb2⟩ := hq2.good HT.out hr6
    rw [HJN.out] at hown2 ⊢
    have HO2 := Lib.hid hown2
    have hown1 := own_below HO1.out hb2
    have HB2 := Lib.hid (below_on hb2 HB1.out)
    obtain ⟨y1, -, y2, y3⟩ := BY.own hown1 HJB.out
    have x1 := y1.conv HJN.out c1
    have x2 := (BY.own hown2 HJB.out).1.conv HJN.out c2
    have Y1 := Lib.hid y1
    unfold maxLen at y3
    clear hq2 hown2 hb2 hown1 y1
    go_wp2_with fail
    clear x1 x2
    refine (HOPEN.out _ HB2.out).mono ?_
    intro e w3 hq3
    obtain ⟨a3, c3, rfl, z3, z3', hrb3, hb3⟩ := hq3.good HT.out
    have HB3 := Lib.hid (below_on hb3 HB2.out)
    have HR3 := Lib.hid hrb3
    have y1 := Y1.out.under hb3 (fun b hb => hb.2)
    have hs3 := hb3.size
    have hop := open_any w3 _ a1 _ N c1 HJN.out y2 y3 hbig y1 (fun b hb => by omega)
    have HOP := Lib.hid hop
    clear hq3 hrb3 hb3 y1 hop
    go_wp2_with fail
    refine HOP.out.mono ?_
    intro e w4 hq4
    obtain ⟨a4, c4, rfl, z4, z4', hrb4, hb4⟩ := hq4.good HT2.out
    have hlen : (rs ++ [r]).length = rs.length + 1 := by simp
    obtain ⟨g, o, x, a', c', rfl, -, hx, hc, -, -, hby⟩ := hrb4.at (i := rs.length) (by omega)
    obtain rfl : r = x := by
      rw [List.getElem?_append_right (Nat.le_refl _), Nat.sub_self] at hx
      simpa using hx
    rw [hlen] at z4 ⊢
    have hb4' := below_on hb4 HB3.out
    have HB4 := Lib.hid hb4'
    have hcv1 := fun m => (hby.drewN m).conv rfl c'
    have hcv2 := fun m => HCR.out (w4.drewN m) (below_drewN hb4' m)
    have hqq := SB_beq hrb hrb
    rw [decide_eq_true rfl] at hqq
    have hrbt := hrb4.take rs.length
    rw [List.take_left] at hrbt
    have HR4 := Lib.hid hrbt
    have HR3' := Lib.hid (HR3.out.under hb4 (fun b hb => hb.2))
    have hs43 := hb4.size
    clear hq4 hrb4 hb4 hb4' hby hx hrbt
    have hii : (rs.length : Int) < (rs.length : Int) + 1 := by omega
    go_wp2_with fail
    go_quiet (fail)
    clear hcv1 hcv2 hqq
    go_wp2_with fail
    have hdn : Below w4.heap.size w4 (w4.drewN nq) := below_drewN (Below.refl _ _) nq
    have hb5 := below_on hdn HB4.out
    have q4 : RB (w4.drewN nq) (fun b => w3.heap.size ≤ b ∧ b < w4.heap.size) (some ⟨g, o, none⟩) rs := HR4.out.under hdn (fun b hb => hb.2)
    have q3 := HR3'.out.under hdn (fun b hb => by omega)
    have hsm := same_by (w4.drewN nq) _ _ (some ⟨g, o, none⟩) a3 rs rs _ _ c4 c3 rfl rfl (by omega) q4 q3
    rw [decide_eq_true rfl] at hsm
    refine hsm.mono ?_
    rintro e w5 ⟨rfl, hb6⟩
    have HB6 := Lib.hid (below_on hb6 hb5)
    clear hsm q3 q4 hb6 hb5 hdn
    go_wp2_with fail
    refine (awake_any _).mono ?_
    rintro e w6 ⟨rfl, hb7⟩
    have HB7 := Lib.hid (below_on hb7 HB6.out)
    clear hb7
    go_wp2_with fail
    go_ret
    exact ⟨rfl, HB7.out⟩

/-- What JournalAppends is given, opened. -/
theorem walk_JournalAppends {H : Type} {enc : TypeId × Value → H} {base : Nat} (v v' : Value) {d d' : DataW H} {p p' : List MemPlace} {ds : List (DataW H)} (W : World) (ok : Value.okWide Try.prog W .any base 22 v)
    (tr : DataW.Trod enc Try.prog W 0 (fun _ => true) true 22 v d p) (ok' : Value.okWide Try.prog W .any base 22 v')
    (tr' : DataW.Trod enc Try.prog W 0 (fun _ => true) true 22 v' d' p') (hk : Rows.uptoSmall H ds = true) (hd : d ∈ ds) (hd' : d' ∈ ds) : Calls Try.prog 4 #[v, v'] W fun e w' => e = .returned (.bool true) ∧ Below W.heap.size W w' := by
  obtain ⟨l, a, n, c, rfl, h1, h2, h3, h4, h5⟩ := bytes_arg ok tr
  obtain ⟨r, b, m, d, rfl, k1, k2, k3, k4, k5⟩ := bytes_arg ok' tr'
  unfold maxLen at h3
  exact appends_go l r a b n c m d W h1 h2 (by omega) (Nat.le_trans h5 (bulk_bound hk hd)) h4 k1 (Nat.le_trans k5 (bulk_bound hk hd')) k4
end Go.Proofs.Ytknjloffkiidhaa
