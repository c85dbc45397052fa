/- QueueLoses: the marks, the map of the last ones, and the closure mark. -/
import Derived.Test.YtmdcfmdjbncaoaaLp
import Derived.Test.YtmdcfmdjbncaoaaQtw
import Derived.Maps.Ext
import Derived.Maps.OwnOps
import Derived.Laws.OwnMore
namespace Go.Proofs.Ytmdcfmdjbncaoaa
open Go.RowKit
open Go.Maps (Keyed)
attribute [local go_sem ↓] Go.wp_at_zero Go.wp_at_succ
attribute [local go_sem] Go.undef

/-- The marks in memory: N of them, in block gf. -/
def FateAt (w : World) (gf N : Nat) (F : Nat → Int) : Prop := ∃ cs : Array Value, Blk w gf 3 cs ∧ ∀ k, k < N → cs[k]? = some (.int .i64 (F k))
theorem FateAt.cell {w : World} {gf N k : Nat} {F : Nat → Int} (h : FateAt w gf N F) (hk : k < N) : w.cell? ⟨gf, k, none⟩ = some (.int .i64 (F k)) := by
  obtain ⟨cs, hb, hc⟩ := h
  exact (hb.cell k).trans (hc k hk)
theorem FateAt.free {w : World} {gf N : Nat} {F : Nat → Int} (h : FateAt w gf N F) (k : Nat) : w.frozen? ⟨gf, k, none⟩ = false := by
  obtain ⟨cs, hb, -⟩ := h
  exact hb.free k
theorem FateAt.lt {w : World} {gf N : Nat} {F : Nat → Int} (h : FateAt w gf N F) : gf < w.heap.size := by
  obtain ⟨cs, hb, -⟩ := h
  exact hb.lt
theorem FateAt.far {w w' : World} {gf N : Nat} {F : Nat → Int} (h : FateAt w gf N F) (he : w'.heap[gf]? = w.heap[gf]?) : FateAt w' gf N F := by
  obtain ⟨cs, hb, hc⟩ := h
  exact ⟨cs, he.trans hb, hc⟩
theorem FateAt.on {w w' : World} {gf N : Nat} {F : Nat → Int} (h : FateAt w gf N F) (hb : Below w.heap.size w w') : FateAt w' gf N F := h.far (hb.block gf h.lt)
theorem FateAt.bump {w : World} {gf N k : Nat} {F : Nat → Int} (h : FateAt w gf N F) (hk : k < N) (h0 : F k = 0) : FateAt (w.setCell ⟨gf, k, none⟩ (.int .i64 1)) gf N (bump F k) := by
  obtain ⟨cs, hb, hc⟩ := h
  refine ⟨_, hb.set k _, fun i hi => ?_⟩
  have hlen : k < cs.size := (Array.getElem?_eq_some_iff.1 (hc k hk)).1
  by_cases e : i = k
  · subst e
    rw [Array.getElem?_setIfInBounds_self_of_lt hlen, Go.Proofs.Ytmdcfmdjbncaoaa.bump, if_pos rfl, h0]
    rfl
  · rw [Array.getElem?_setIfInBounds_ne (fun h => e h.symm), Go.Proofs.Ytmdcfmdjbncaoaa.bump, if_neg e]
    exact hc i hi
theorem FateAt.made (w : World) (N : Nat) : FateAt (w.alloc (.cells (madeCells #[.int .i64 0] N) 3)) w.heap.size N (fun _ => 0) := by
  refine ⟨_, Blk.new _ _ _, fun k hk => ?_⟩
  rw [← Array.getElem?_toList, toList_madeCells_one, List.getElem?_replicate, if_pos hk]

theorem FateAt.made' (w : World) (N : Nat) {n : Nat} (hn : n = w.heap.size) : FateAt (w.alloc (.cells (madeCells #[.int .i64 0] N) 3)) n N (fun _ => 0) := by subst hn; exact FateAt.made w N
theorem FateAt.alloc {w : World} {gf N : Nat} {F : Nat → Int} (h : FateAt w gf N F) (o : Obj) : FateAt (w.alloc o) gf N F := h.far (Below.heap_alloc _ _ _ h.lt)

/-- Nothing of what was there has turned but block g. -/
structure Gr (g : Nat) (w w' : World) : Prop where
  below : Below g w w'
  far : ∀ b, b < w.heap.size → b ≠ g → w'.heap[b]? = w.heap[b]?
theorem Gr.blk {g q : Nat} {w w' : World} {t : TypeId} {cs : Array Value} (h : Gr g w w') (hb : Blk w q t cs) (hq : q ≠ g) : Blk w' q t cs := (h.far q hb.lt hq).trans hb
theorem Gr.rm {g n c : Nat} {w w' : World} {S : Nat → Prop} {l : List MX} {a : Option Addr} (h : Gr g w w') (hr : RM w S l a n c) (hS : ∀ b, S b → b < w.heap.size ∧ b ≠ g) : RM w' S l a n c :=
  RowsOf.map hr (fun _ _ _ hm => hm.keep (fun _ h => h) (fun b hb j => World.cell?_of_block (a := ⟨b, j, none⟩) (h.far b (hS b hb).1 (hS b hb).2))) (fun _ h => h) (fun b hb j => World.cell?_of_block (a := ⟨b, j, none⟩) (h.far b (hS b hb).1 (hS b hb).2))
theorem Gr.ism {g : Nat} {w w' : World} {S : Nat → Prop} {m : MX} {cs : List Value} (h : Gr g w w') (hm : IsM w S m cs) (hS : ∀ b, S b → b < w.heap.size ∧ b ≠ g) : IsM w' S m cs :=
  hm.keep (fun _ h => h) (fun b hb j => World.cell?_of_block (a := ⟨b, j, none⟩) (h.far b (hS b hb).1 (hS b hb).2))
theorem Gr.set {g : Nat} (w : World) (k : Nat) (u : Value) : Gr g w (w.setCell ⟨g, k, none⟩ u) := ⟨(Below.refl g w).setCell (Nat.le_refl _) _, fun _b _ hne => heap_set (p := ⟨g, k, none⟩) hne⟩
theorem Gr.refl (g : Nat) (w : World) : Gr g w w := ⟨Below.refl g w, fun _ _ _ => rfl⟩

theorem FateAt.gr {w w' : World} {gf g N : Nat} {F : Nat → Int} (h : FateAt w gf N F) (hg : Gr g w w') (hne : gf ≠ g) : FateAt w' gf N F := h.far (hg.far gf h.lt hne)
theorem gr_of_grown {w w' : World} {g : Nat} (h : w.grownBy w' (some g)) (hg : g ≤ w.heap.size) : Gr g w w' :=
  ⟨(Below.refl g w).grown h hg (fun q hq => by injection hq with hq; omega), fun b hb hne => h.block b hb (fun e => hne (by injection e))⟩
theorem wf_small {v : Int} (h0 : 0 ≤ v) (h1 : v ≤ 1000000) : (Lit.int .i64 v).wf = true := by
  have e1 : IntKind.i64.min = -9223372036854775808 := by decide
  have e2 : IntKind.i64.max = 9223372036854775807 := by decide
  simp only [Lit.wf, e1, e2, Bool.and_eq_true, decide_eq_true_eq]
  omega
theorem drop_cons {l : List MX} {i : Nat} {x : MX} (h : l[i]? = some x) : l.drop i = x :: l.drop (i + 1) := by
  obtain ⟨hi, rfl⟩ := List.getElem?_eq_some_iff.1 h
  exact List.drop_eq_getElem_cons hi

/-- The last one taken of each priority, in a map. -/
def LastAt (w : World) (mb n : Nat) (L : Int → Int) : Prop :=
  ∃ D : DataW Unit, w.ownsMap Try.prog 3 (plainElem Try.prog 2) mb n D ∧ ∀ p, (Lit.int .i64 p).wf = true → D.atKey (.int .i64 p) (.lit (.int .i64 0)) = .lit (.int .i64 (L p))
theorem keyedQ : Keyed Try.prog 3 := Maps.int_keyed Try.underlying3
theorem LastAt.made (w : World) : LastAt (w.alloc (.map #[] 0)) w.heap.size 0 (fun _ => 0) := ⟨.map [], World.ownsMap_made _ _ _ _, fun _p _ => rfl⟩
theorem LastAt.made' (w : World) {n : Nat} (hn : n = w.heap.size) : LastAt (w.alloc (.map #[] 0)) n 0 (fun _ => 0) := by subst hn; exact LastAt.made w
theorem LastAt.lt {w : World} {mb n : Nat} {L : Int → Int} (h : LastAt w mb n L) : mb < w.heap.size := by
  obtain ⟨D, h1, -⟩ := h
  exact h1.lt
theorem LastAt.far {w w' : World} {mb n : Nat} {L : Int → Int} (h : LastAt w mb n L) (he : w'.heap[mb]? = w.heap[mb]?) : LastAt w' mb n L := by
  obtain ⟨D, ⟨es, clock, h1, h3⟩, h2⟩ := h
  exact ⟨D, ⟨es, clock, he.trans h1, h3⟩, h2⟩
theorem LastAt.on {w w' : World} {mb n : Nat} {L : Int → Int} (h : LastAt w mb n L) (hb : Below w.heap.size w w') : LastAt w' mb n L := h.far (hb.block mb h.lt)
theorem LastAt.mono {w : World} {mb n n' : Nat} {L : Int → Int} (h : LastAt w mb n L) (hn : n ≤ n') : LastAt w mb n' L := by
  obtain ⟨D, h1, h2⟩ := h
  exact ⟨D, h1.mono hn, h2⟩
theorem last_put {w w0 : World} {mb n n0 : Nat} {L : Int → Int} {D : DataW Unit} {p v : Int} (h1 : w0.ownsMap Try.prog 3 (plainElem Try.prog 2) mb n0 D) (h2 : ∀ p, (Lit.int .i64 p).wf = true → D.atKey (.int .i64 p) (.lit (.int .i64 0)) = .lit (.int .i64 (L p)))
    (h : w.ownsMap Try.prog 3 (plainElem Try.prog 2) mb n (D.put (.int .i64 p) (.lit (.int .i64 v)))) : LastAt w mb n (fun x => if x = p then v else L x) := by
  refine ⟨_, h, fun x hx => ?_⟩
  by_cases e : x = p
  · subst e
    rw [Maps.atKey_put_same h1.isMap (by simp [WideAt.IsKeyLit])]
    simp
  · rw [Maps.atKey_put_other (fun h => e (by injection h)), h2 x hx]
    simp [e]

def MarkPost (w : World) (gf N : Nat) (F : Nat → Int) (e : Ending) (w' : World) : Prop := e = .returned (.bool true) ∧ FateAt w' gf N F ∧ Gr gf w w'

set_option maxHeartbeats 4000000 in
set_option maxRecDepth 100000 in
theorem mark_any (m : MX) (cs : List Value) (ok : Bool) (pf gf N : Nat) (F : Nat → Int) (S : Nat → Prop) (w : World) (hm : IsM w S m cs) (hP : Blk w pf 59 #[.slice (some ⟨gf, 0, none⟩) N N]) (hF : FateAt w gf N F)
    (hok : ok = true → 1 ≤ m.id ∧ m.id ≤ (N : Int) ∧ F (m.id - 1).toNat = 0) (hN : N ≤ 200) :
    Calls Try.prog 27 #[.agg cs.toArray, .bool ok, .pointer (some ⟨pf, 0, none⟩)] w (MarkPost w gf N (if ok = true then bump F (m.id - 1).toNat else F)) := by
  obtain ⟨kx, ix, bx, sx, ax, nx, cx, rfl, -, -, -⟩ := hm
  cases ok with
  | false =>
    have HF := Lib.hid hF
    clear hF hP hok
    go_enter Try.func27, Try.ntmps27
    go_wp2_with fail
    go_ret
    exact ⟨rfl, HF.out.far (Below.heap_alloc _ _ _ HF.out.lt), ⟨(Below.refl gf w).alloc (Nat.le_of_lt HF.out.lt) _, fun b hb _ => Below.heap_alloc _ _ _ hb⟩⟩
  | true =>
    obtain ⟨h1, h2, h3⟩ := hok rfl
    obtain ⟨k, hk⟩ : ∃ k : Nat, m.id = (k : Int) + 1 := ⟨(m.id - 1).toNat, by omega⟩
    have hkt : (m.id - 1).toNat = k := by omega
    rw [hkt] at h3
    rw [hkt, hk]
    have hkN : k < N := by omega
    have hc := (hF.cell hkN)
    rw [h3] at hc
    have hlt := hF.lt
    have c0 : (w.alloc (.cells #[.int .i64 ((k : Int) + 1), .string m.topic, .int .i64 kx, .int .i64 ix, .int .u64 bx, .string sx, .slice ax nx cx, .int .i64 m.tat, .int .i64 m.til, .string m.reply, .int .i64 m.corr, .int .i64 m.prio, .int .i64 m.hops] 48)).cell? ⟨pf, 0, none⟩ = some (.slice (some ⟨gf, 0, none⟩) N N) := (hP.alloc _).cell 0
    have HFA : FateAt (w.alloc (.cells #[.int .i64 ((k : Int) + 1), .string m.topic, .int .i64 kx, .int .i64 ix, .int .u64 bx, .string sx, .slice ax nx cx, .int .i64 m.tat, .int .i64 m.til, .string m.reply, .int .i64 m.corr, .int .i64 m.prio, .int .i64 m.hops] 48)) gf N F := hF.far (Below.heap_alloc _ _ _ hF.lt)
    have c1 := HFA.cell hkN
    rw [h3] at c1
    have f1 := HFA.free k
    have e1 : ((k : Int) + 1 - 1) = (k : Int) := by omega
    have g1 : ¬ ((k : Int) + 1 < 1) := by omega
    have g2 : ¬ ((N : Int) < (k : Int) + 1) := by omega
    have g3 : (0 : Int) ≤ (k : Int) := by omega
    have g4 : (k : Int) < (N : Int) := by omega
    have HF := Lib.hid HFA
    have H3 := Lib.hid h3
    have HLT := Lib.hid hlt
    clear hF hP hok h1 h2 h3 hk hkt hc HFA hlt
    go_enter Try.func27, Try.ntmps27
    go_wp2_with fail
    go_ret
    refine ⟨rfl, ?_, ?_⟩
    · exact HF.out.bump hkN H3.out
    · exact ⟨((Below.refl gf w).alloc (Nat.le_of_lt HLT.out) _).setCell (Nat.le_refl _) _, fun b hb hne => (heap_set (p := ⟨gf, k, none⟩) hne).trans (Below.heap_alloc _ _ _ hb)⟩
end Go.Proofs.Ytmdcfmdjbncaoaa
