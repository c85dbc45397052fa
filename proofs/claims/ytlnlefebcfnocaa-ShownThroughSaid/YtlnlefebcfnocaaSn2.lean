/- What a shell around a shell shows. -/
import Derived.Test.YtlnlefebcfnocaaSm
namespace Go.Proofs.Ytlnlefebcfnocaa
open Go.RowKit Go.Deep
attribute [local go_sem] Go.undef

set_option maxRecDepth 100000 in
set_option maxHeartbeats 8000000 in
theorem shell_shell {Z : Value} {b : Nat} (hb : b < 4294967296) (h : SZ 77 Z b) : SH (.iface 82 Z) b := by
  intro w x v hx
  have hg := fun w => gives_shell w (.iface 82 Z) x v
  have hk := fun w => kept_any w x v b hb hx
  have e1 := bits32_or (givenN_lt hx) (keptN_lt (x := x) b hb)
  obtain ⟨op, xa, xb, caps, want, opn⟩ := x
  obtain ⟨wo, wn, wl⟩ := want
  simp only [WX.cells, WT.op, WT.num] at hg hk ⊢
  generalize (givenN _ ||| keptN _ b) = GK at *
  generalize givenN _ = G at *
  generalize keptN _ b = K at *
  have HG := Lib.hid hg
  have HK := Lib.hid hk
  have HI := Lib.hid h
  have HC : Hid (∀ W', Below ((w.alloc (.cells #[.iface 82 Z, .int .i64 op, .int .i64 xa, .int .i64 xb, .int .u32 (caps : Int), .int .i64 wo, .int .i64 wn, v, .bool opn] 82)).drew).heap.size ((w.alloc (.cells #[.iface 82 Z, .int .i64 op, .int .i64 xa, .int .i64 xb, .int .u32 (caps : Int), .int .i64 wo, .int .i64 wn, v, .bool opn] 82)).drew) W' →
      W'.cell? ⟨w.heap.size, 0, none⟩ = some (.iface 82 Z) ∧ W'.cell? ⟨w.heap.size, 1, none⟩ = some (.int .i64 op) ∧ W'.cell? ⟨w.heap.size, 2, none⟩ = some (.int .i64 xa) ∧ W'.cell? ⟨w.heap.size, 3, none⟩ = some (.int .i64 xb) ∧ W'.cell? ⟨w.heap.size, 4, none⟩ = some (.int .u32 (caps : Int)) ∧
      W'.cell? ⟨w.heap.size, 5, none⟩ = some (.int .i64 wo) ∧ W'.cell? ⟨w.heap.size, 6, none⟩ = some (.int .i64 wn) ∧ W'.cell? ⟨w.heap.size, 7, none⟩ = some v ∧ W'.cell? ⟨w.heap.size, 8, none⟩ = some (.bool opn)) := fun W' hb => by
    have hB := ((Blk.new w 82 #[.iface 82 Z, .int .i64 op, .int .i64 xa, .int .i64 xb, .int .u32 (caps : Int), .int .i64 wo, .int .i64 wn, v, .bool opn]).drew).under hb (by simp)
    exact ⟨hB.cell 0, hB.cell 1, hB.cell 2, hB.cell 3, hB.cell 4, hB.cell 5, hB.cell 6, hB.cell 7, hB.cell 8⟩
  clear hg hk h
  go_enter Try.func77, Try.ntmps77
  go_wp2_with fail
  have kb := Below.refl ((w.alloc (.cells #[.iface 82 Z, .int .i64 op, .int .i64 xa, .int .i64 xb, .int .u32 (caps : Int), .int .i64 wo, .int .i64 wn, v, .bool opn] 82)).drew).heap.size ((w.alloc (.cells #[.iface 82 Z, .int .i64 op, .int .i64 xa, .int .i64 xb, .int .u32 (caps : Int), .int .i64 wo, .int .i64 wn, v, .bool opn] 82)).drew)
  go_region_with (first
    | (go_at_call 76; refine (HG.out _).mono ?_; rintro e w2 ⟨rfl, hb2⟩; have kb' := below_on hb2 kb; clear kb; have kb := kb'; clear kb'; obtain ⟨c0, c1, c2, c3, c4, c5, c6, c7, c8⟩ := HC.out _ kb)
    | (go_at_call 77; refine (HI.out _).mono ?_; rintro e w3 ⟨rfl, hb3⟩; have kb' := below_on hb3 kb; clear kb; have kb := kb'; clear kb'; obtain ⟨c0, c1, c2, c3, c4, c5, c6, c7, c8⟩ := HC.out _ kb)
    | (go_at_call 80; refine (HK.out _).mono ?_; rintro e w4 ⟨rfl, hb4⟩; have kb' := below_on hb4 kb; clear kb; have kb := kb'; clear kb'; obtain ⟨c0, c1, c2, c3, c4, c5, c6, c7, c8⟩ := HC.out _ kb))
  all_goals
    have kb9 : Below w.heap.size w ((w.alloc (.cells #[.iface 82 Z, .int .i64 op, .int .i64 xa, .int .i64 xb, .int .u32 (caps : Int), .int .i64 wo, .int .i64 wn, v, .bool opn] 82)).drew) := by go_grown
    have kb8 := below_on kb kb9
    clear HC kb9
    go_wp2_with fail
    go_ret
    exact ⟨rfl, kb8⟩
end Go.Proofs.Ytlnlefebcfnocaa
