/- RetryTells: Again is the reference's, of any result with a valid body. -/
import Derived.Test.YtmdcfmdjbncaoaaOpn
namespace Go.Proofs.Ytmdcfmdjbncaoaa
open Go.RowKit Go.ChangeShapes Go.WideShapes Go.Deep
attribute [local go_sem ↓] Go.wp_at_zero Go.wp_at_succ
attribute [local go_sem] Go.undef

theorem cell_on {W w1 : World} (hb : Below W.heap.size W w1) {b o : Nat} {v : Value} (h : W.cell? ⟨b, o, none⟩ = some v) : w1.cell? ⟨b, o, none⟩ = some v := cell_over hb (World.block_lt_of_cell? _ _ h) h
theorem below_on {w W w1 : World} (hb : Below W.heap.size W w1) (h : Below w.heap.size w W) : Below w.heap.size w w1 := h.trans (hb.mono h.size)

theorem result_arg {H : Type} {enc : TypeId × Value → H} {W : World} {base : Nat} {v : Value} {d : DataW H} {p : List MemPlace} (ok : Value.okWide Try.prog W .any base 30 v)
    (tr : DataW.Trod enc Try.prog W 0 (fun _ => true) true 30 v d p) : ∃ (r : RV) (t : Tree), v = r.val ∧ IsD W (· < W.heap.size) t r.body := by
  obtain ⟨cs, rfl, -⟩ := okWide_struct Try.underlying30 ok
  obtain ⟨fuel, hf⟩ := tr
  obtain ⟨⟨r, t⟩, hc, hd⟩ := open_result fuel _ _ hf
  refine ⟨r, t, ?_, hd⟩
  have h1 : cs.toList = r.cells := by simpa [Value.cells] using hc
  have h2 : cs = r.cells.toArray := by rw [← h1]
  rw [h2]
  rfl

set_option maxHeartbeats 8000000 in
set_option maxRecDepth 100000 in
theorem tells_go (r : RV) (t : Tree) (w : World) (hd : IsD w (· < w.heap.size) t r.body) :
    Calls Try.prog 3 #[r.val] w fun e w' => e = .returned (.bool true) ∧ Below w.heap.size w w' := by
  have hb0 : Blk (w.alloc (.cells r.cells.toArray 30)) w.heap.size 30 r.cells.toArray := Blk.new _ _ _
  have hv := fun W h1 h2 => valid_any t W (· < w.heap.size) r.body h1 h2
  have ha := fun W => again_any r.err r.code r.pk r.pn r.has (.int .i64 r.k) (.int .i64 r.i) (.int .u64 r.b) (.string r.s) (.slice r.a r.n r.c) W
  have hr := fun W => again_ref r.err r.code r.pk r.pn r.has (.int .i64 r.k) (.int .i64 r.i) (.int .u64 r.b) (.string r.s) (.slice r.a r.n r.c) W
  generalize againB r.err r.code r.pk = ab at ha hr
  have HD := Lib.hid hd
  have HA := Lib.hid ha
  have HR := Lib.hid hr
  clear hd ha hr
  have x0 := hb0.cell 0
  have x1 := hb0.cell 1
  have x2 := hb0.cell 2
  have x3 := hb0.cell 3
  have x4 := hb0.cell 4
  have x5 := hb0.cell 5
  have x6 := hb0.cell 6
  have x7 := hb0.cell 7
  have x8 := hb0.cell 8
  have x9 := hb0.cell 9
  have hB0 : Below w.heap.size w (w.alloc (.cells r.cells.toArray 30)) := (Below.refl _ _).alloc (Nat.le_refl _) _
  simp only [RV.cells, List.getElem?_toArray, List.getElem?_cons_succ, List.getElem?_cons_zero] at x0 x1 x2 x3 x4 x5 x6 x7 x8 x9 hB0
  clear hb0
  generalize hvt : validT t = vb at hv
  have HV := Lib.hid hv
  clear hv hvt
  cases vb with
  | false =>
    go_enter Try.func3, Try.ntmps3
    simp only [RV.val]
    go_wp2_with fail
    have HD1 := Lib.hid (HD.out.under hB0 (fun _ h => h)).drew
    have hlt : w.heap.size < (w.alloc (.cells r.cells.toArray 30)).heap.size := by simp
    first | go_region_with (first
      | (go_at_call 10; refine (HV.out _ HD1.out (fun q hq => Nat.lt_trans hq hlt)).mono ?_; rintro e w1 ⟨rfl, hb⟩)
      | (go_at_call 11; refine (awake_any _).mono ?_; rintro e w2 ⟨rfl, hb2⟩)) | fail
    all_goals
      go_wp2_with fail
      refine bodyPost_ret (v := .bool true) (by simp [results, Try.results3, go_sem]) rfl ⟨rfl, below_on hb2 (below_on hb hB0.drew)⟩
  | true =>
    go_enter Try.func3, Try.ntmps3
    simp only [RV.val]
    go_wp2_with fail
    go_region_held3 (fun w' => w'.cell? ⟨w.heap.size, 0, none⟩ = some (.int .i64 r.err) ∧ w'.cell? ⟨w.heap.size, 1, none⟩ = some (.int .i64 r.code) ∧ w'.cell? ⟨w.heap.size, 2, none⟩ = some (.int .i64 r.pk) ∧
        w'.cell? ⟨w.heap.size, 3, none⟩ = some (.int .i64 r.pn) ∧ w'.cell? ⟨w.heap.size, 4, none⟩ = some (.bool r.has) ∧ w'.cell? ⟨w.heap.size, 5, none⟩ = some (.int .i64 r.k) ∧ w'.cell? ⟨w.heap.size, 6, none⟩ = some (.int .i64 r.i) ∧
        w'.cell? ⟨w.heap.size, 7, none⟩ = some (.int .u64 r.b) ∧ w'.cell? ⟨w.heap.size, 8, none⟩ = some (.string r.s) ∧ w'.cell? ⟨w.heap.size, 9, none⟩ = some (.slice r.a r.n r.c) ∧ Below w.heap.size w w')
      (first
        | (exact ⟨x0, x1, x2, x3, x4, x5, x6, x7, x8, x9, hB0.drew⟩)
        | (go_split_ands; exact ⟨by assumption, by assumption, by assumption, by assumption, by assumption, by assumption, by assumption, by assumption, by assumption, by assumption, by assumption⟩)
        | (go_split_ands; exact ⟨cell_on hb (by assumption), cell_on hb (by assumption), cell_on hb (by assumption), cell_on hb (by assumption), cell_on hb (by assumption), cell_on hb (by assumption), cell_on hb (by assumption), cell_on hb (by assumption), cell_on hb (by assumption), cell_on hb (by assumption), below_on hb (by assumption)⟩))
      (first
        | (go_split_ands; go_at_call 10; refine (HV.out _ (HD.out.under (by assumption) (fun _ h => h)) (fun q hq => Nat.lt_of_lt_of_le hq (Below.size (by assumption)))).mono ?_; rintro e w1 ⟨rfl, hb⟩)
        | (go_at_call 12; refine (HA.out _).mono ?_; rintro e w1 ⟨rfl, hb⟩)
        | (go_at_call 13; refine (HR.out _).mono ?_; rintro e w1 ⟨rfl, hb⟩)
        | (go_at_call 11; refine (awake_any _).mono ?_; rintro e w1 ⟨rfl, hb⟩))
    go_split_ands
    go_wp2_with fail
    go_ret
    exact ⟨rfl, by assumption⟩

theorem walk_RetryTells {H : Type} {enc : TypeId × Value → H} {base : Nat} (v : Value) {d : DataW H} {p : List MemPlace} (W : World) (ok : Value.okWide Try.prog W .any base 30 v)
    (tr : DataW.Trod enc Try.prog W 0 (fun _ => true) true 30 v d p) : Calls Try.prog 3 #[v] W fun e w' => e = .returned (.bool true) ∧ Below W.heap.size W w' := by
  obtain ⟨r, t, rfl, hd⟩ := result_arg ok tr
  exact tells_go r t W hd
end Go.Proofs.Ytmdcfmdjbncaoaa
