/- spoil writes in the memory of its messages alone. -/
import Derived.Test.YtmdcfmdjbncaoaaDoorBk
import Derived.Test.YtmdcfmdjbncaoaaDoorBx
namespace Go.Proofs.YtmdcfmdjbncaoaaDoor
open Go.RowKit
attribute [local go_sem ↓] Go.wp_at_zero Go.wp_at_succ

/-- Messages in a row of the call's own. -/
def OwnM (w : World) (B : Nat) (l : List MX) (v : Value) : Prop := ∃ S css, OwnE IsN 30 13 w B l v S css
theorem OwnM.nil (w : World) (B : Nat) : OwnM w B [] (.slice none 0 0) := ⟨_, _, OwnE.nil _ _⟩
theorem OwnM.keep {w w' : World} {B : Nat} {l : List MX} {v : Value} (h : OwnM w B l v) (hs : w.heap.size ≤ w'.heap.size) (hk : ∀ b, B ≤ b → b < w.heap.size → w'.heap[b]? = w.heap[b]?) : OwnM w' B l v := by
  obtain ⟨S, css, h⟩ := h
  refine ⟨S, css, h.keep keepsN hs fun b hb => ?_⟩
  rcases hb with hb | hb
  · exact hk b (h.far b hb).1 (h.far b hb).2.1
  · exact hk b (h.far_lt b hb).1 (h.far_lt b hb).2
theorem OwnM.on {w w' : World} {B : Nat} {l : List MX} {v : Value} (h : OwnM w B l v) (hb : Below w.heap.size w w') : OwnM w' B l v := h.keep hb.size fun b _ h => hb.block b h
theorem OwnM.mono {w : World} {B B' : Nat} {l : List MX} {v : Value} (h : OwnM w B l v) (hB : B' ≤ B) : OwnM w B' l v := by
  obtain ⟨S, css, h⟩ := h
  exact ⟨S, css, h.mono hB⟩
theorem OwnM.upd {w w' : World} {B g : Nat} {l : List MX} {v : Value} (h : OwnM w B l v) (U : Upd g w w') (hg : g < B) : OwnM w' B l v := h.keep (by rw [U.size]; exact Nat.le_refl _) fun b hb _ => U.far b (by omega)
theorem OwnM.set {w : World} {B : Nat} {l : List MX} {v : Value} (h : OwnM w B l v) {p : Addr} (hp : p.block < B) (u : Value) : OwnM (w.setCell p u) B l v := h.keep (by simp) fun b hb _ => heap_set (by omega)
theorem OwnM.rows {w : World} {B : Nat} {l : List MX} {a : Option Addr} {n c : Nat} (h : OwnM w B l (.slice a n c)) : RM w (Btw B w.heap.size) l a n c := by
  obtain ⟨S, css, h⟩ := h
  exact RowsOf.map (OwnE.rows keepsN h) (fun _ _ _ hx => hx.ism) (fun _ h => h) fun _ _ _ => rfl
theorem OwnM.slice {w : World} {B : Nat} {l : List MX} {v : Value} (h : OwnM w B l v) : ∃ a c, v = .slice a l.length c := by
  obtain ⟨S, css, h⟩ := h
  exact h.slice

/-- Messages in a row of the call's own, as an older world has them; nothing of it was written since. -/
def OwnT (w : World) (B T : Nat) (l : List MX) (v : Value) : Prop := ∃ w0, OwnM w0 B l v ∧ w0.heap.size = T ∧ T ≤ w.heap.size ∧ ∀ b, B ≤ b → b < T → w.heap[b]? = w0.heap[b]?
theorem OwnT.own {w : World} {B T : Nat} {l : List MX} {v : Value} (h : OwnT w B T l v) : OwnM w B l v := by
  obtain ⟨w0, h1, h2, h3, h4⟩ := h
  exact h1.keep (by omega) fun b hb hl => h4 b hb (by omega)
theorem OwnT.of {w : World} {B T : Nat} {l : List MX} {v : Value} (h : OwnM w B l v) (hT : w.heap.size = T) : OwnT w B T l v := ⟨w, h, hT, by omega, fun _ _ _ => rfl⟩
theorem OwnT.keep {w w' : World} {B T : Nat} {l : List MX} {v : Value} (h : OwnT w B T l v) (hs : w.heap.size ≤ w'.heap.size) (hk : ∀ b, B ≤ b → b < T → w'.heap[b]? = w.heap[b]?) : OwnT w' B T l v := by
  obtain ⟨w0, h1, h2, h3, h4⟩ := h
  exact ⟨w0, h1, h2, by omega, fun b hb hl => (hk b hb hl).trans (h4 b hb hl)⟩
theorem OwnT.lt {w : World} {B T : Nat} {l : List MX} {v : Value} (h : OwnT w B T l v) : T ≤ w.heap.size := by obtain ⟨w0, h1, h2, h3, h4⟩ := h; exact h3
theorem OwnT.on {w w' : World} {B T : Nat} {l : List MX} {v : Value} (h : OwnT w B T l v) (hb : Below w.heap.size w w') : OwnT w' B T l v := h.keep hb.size fun b _ h1 => hb.block b (Nat.lt_of_lt_of_le h1 h.lt)
theorem OwnT.upd {w w' : World} {B T g : Nat} {l : List MX} {v : Value} (h : OwnT w B T l v) (U : Upd g w w') (hg : g < B ∨ T ≤ g) : OwnT w' B T l v := h.keep (by rw [U.size]; exact Nat.le_refl _) fun b hb hl => U.far b (by omega)


/-- Cells stay cells, what may be written may be written; the lists of the bodies stay where they are. -/
structure SpR (lo hi g0 n : Nat) (w wr : World) : Prop where
  below : Below lo w wr
  size : wr.heap.size = w.heap.size
  far : ∀ b, hi ≤ b → wr.heap[b]? = w.heap[b]?
  cells : ∀ b q v, w.cell? ⟨b, q, none⟩ = some v → ∃ u, wr.cell? ⟨b, q, none⟩ = some u
  frz : ∀ b q, w.frozen? ⟨b, q, none⟩ = false → wr.frozen? ⟨b, q, none⟩ = false
  lists : ∀ j, j < n → wr.cell? ⟨g0, j * 13 + 6, none⟩ = w.cell? ⟨g0, j * 13 + 6, none⟩
theorem SpR.refl (lo hi g0 n : Nat) (w : World) : SpR lo hi g0 n w w := ⟨Below.refl _ _, rfl, fun _ _ => rfl, fun _ _ v h => ⟨v, h⟩, fun _ _ h => h, fun _ _ => rfl⟩
theorem SpR.set {lo hi g0 n b q : Nat} {w wr : World} (h : SpR lo hi g0 n w wr) (hlo : lo ≤ b) (hhi : b < hi) (hp : b = g0 → ∀ j, j < n → q ≠ j * 13 + 6) (u : Value) : SpR lo hi g0 n w (wr.setCell ⟨b, q, none⟩ u) := by
  refine ⟨h.below.setCell hlo u, by simpa using h.size, fun b' hb' => (heap_set (p := ⟨b, q, none⟩) (by show b' ≠ b; omega)).trans (h.far b' hb'), fun b' q' v hv => ?_, fun b' q' hf => by rw [World.frozen?_setCell]; exact h.frz b' q' hf, fun j hj => ?_⟩
  · obtain ⟨x, hx⟩ := h.cells b' q' v hv
    by_cases e : (⟨b, q, none⟩ : Addr) = ⟨b', q', none⟩
    · rw [← e] at hx ⊢
      exact ⟨u, World.cell?_setCell_same wr _ u hx⟩
    · exact ⟨x, (World.cell?_setCell_other _ _ _ _ e).trans hx⟩
  · refine (World.cell?_setCell_other _ _ _ _ fun e => ?_).trans (h.lists j hj)
    injection e with e1 e2
    exact hp e1 j hj e2

/-- Where spoil writes. -/
structure SpG (w : World) (lo hi g0 n : Nat) : Prop where
  low : lo ≤ g0
  high : g0 < hi
  topic : ∀ j, j < n → ∃ v, w.cell? ⟨g0, j * 13 + 1, none⟩ = some v
  free : ∀ q, w.frozen? ⟨g0, q, none⟩ = false
  lists : ∀ j, j < n → ∃ a k c, w.cell? ⟨g0, j * 13 + 6, none⟩ = some (.slice a k c) ∧ k ≤ maxLen ∧ (0 < k → ∃ g o, a = some ⟨g, o, none⟩ ∧ lo ≤ g ∧ g < hi ∧ g ≠ g0 ∧ (∀ i, i < k → ∃ v, w.cell? ⟨g, o + i * 5, none⟩ = some v) ∧ ∀ q, w.frozen? ⟨g, q, none⟩ = false)
theorem SpG.of {w : World} {B : Nat} {l : List MX} {a : Option Addr} {c : Nat} (h : OwnM w B l (.slice a l.length c)) (h0 : 0 < l.length) : ∃ g0, a = some ⟨g0, 0, none⟩ ∧ SpG w B w.heap.size g0 l.length := by
  obtain ⟨S, css, h⟩ := h
  have hr : RowsOf (IsN w S) 13 w (fun _ => True) l a l.length c := rows_of_own h.row rfl h.len h.wide (fun j x hx => h.at_ j x hx) (fun _ _ _ _ => trivial)
  rcases h.row.2 with ⟨_, h4⟩ | ⟨g0, cap, cur, hv, h3, h4, -⟩
  · omega
  injection hv with ha _ _
  subst ha
  have far := h.far
  refine ⟨g0, rfl, h3, Blk.lt h4, fun j hj => ?_, fun q => Blk.free h4 q, fun j hj => ?_⟩
  · obtain ⟨g, o, x, cs, ha, -, hx, hm, hl, hc⟩ := hr.get hj
    injection ha with ha
    injection ha with e1 e2
    subst e1 e2
    have h1 := hc 1 (cs[1]'(by omega)) (List.getElem?_eq_getElem (by omega))
    rw [Nat.zero_add] at h1
    exact ⟨_, h1⟩
  · obtain ⟨g, o, x, cs, ha, -, hx, hm, hl, hc⟩ := hr.get hj
    injection ha with ha
    injection ha with e1 e2
    subst e1 e2
    obtain ⟨k, i, b, s, a1, n1, c1, hcs, hd, -, -⟩ := hm.ism
    have h6 := hc 6 (.slice a1 n1 c1) (by rw [hcs]; rfl)
    rw [Nat.zero_add] at h6
    have hn : n1 ≤ maxLen ∧ ∀ g o, a1 = some ⟨g, o, none⟩ → ∀ i, i < n1 → ∃ v, w.cell? ⟨g, o + i * 5, none⟩ = some v := by
      generalize x.body = t at hd
      obtain ⟨k', i', b', s', l'⟩ := t
      obtain ⟨a2, c2, e, -, -, -, -, hrow⟩ := hd.open_
      simp only [List.cons.injEq, Value.slice.injEq] at e
      obtain ⟨-, -, -, -, ⟨rfl, rfl, rfl⟩, -⟩ := e
      refine ⟨Nat.le_trans hrow.2.1 hrow.2.2.1, fun g o he i hi => ?_⟩
      obtain ⟨g', o', y, ds, e', -, -, -, hdl, hrg⟩ := hrow.get hi
      rw [he] at e'
      injection e' with e'
      injection e' with e1 e2
      subst e1 e2
      have h0 := hrg 0 (ds[0]'(by omega)) (List.getElem?_eq_getElem (by omega))
      rw [Nat.add_zero] at h0
      exact ⟨_, h0⟩
    refine ⟨a1, n1, c1, h6, hn.1, fun hk => ?_⟩
    obtain ⟨gl, ol, u, t, ea, hSg, hblk⟩ := hm.free a1 n1 c1 (by rw [hcs]; rfl) hk
    obtain ⟨f1, f2, f3⟩ := far gl hSg
    refine ⟨gl, ol, ea, f1, f2, fun e => f3 (by rw [e]; rfl), hn.2 gl ol ea, fun q => ?_⟩
    exact Blk.free hblk q

theorem SpG.on {w w' : World} {lo hi g0 n : Nat} (h : SpG w lo hi g0 n) (hk : ∀ b, lo ≤ b → b < hi → w'.heap[b]? = w.heap[b]?) : SpG w' lo hi g0 n := by
  have hc : ∀ b q, lo ≤ b → b < hi → w'.cell? ⟨b, q, none⟩ = w.cell? ⟨b, q, none⟩ := fun b q h1 h2 => World.cell?_of_block (a := ⟨b, q, none⟩) (hk b h1 h2)
  have hf : ∀ b q, lo ≤ b → b < hi → w'.frozen? ⟨b, q, none⟩ = w.frozen? ⟨b, q, none⟩ := fun b q h1 h2 => World.frozen?_of_block (a := ⟨b, q, none⟩) (hk b h1 h2)
  refine ⟨h.low, h.high, fun j hj => ?_, fun q => (hf g0 q h.low h.high).trans (h.free q), fun j hj => ?_⟩
  · obtain ⟨v, hv⟩ := h.topic j hj
    exact ⟨v, (hc g0 _ h.low h.high).trans hv⟩
  · obtain ⟨a, k, c, h1, h2, h3⟩ := h.lists j hj
    refine ⟨a, k, c, (hc g0 _ h.low h.high).trans h1, h2, fun hk => ?_⟩
    obtain ⟨g, o, e, f1, f2, f3, f4, f5⟩ := h3 hk
    exact ⟨g, o, e, f1, f2, f3, fun i hi => by obtain ⟨v, hv⟩ := f4 i hi; exact ⟨v, (hc g _ f1 f2).trans hv⟩, fun q => (hf g q f1 f2).trans (f5 q)⟩
theorem SpG.ofT {w : World} {B T : Nat} {l : List MX} {a : Option Addr} {c : Nat} (h : OwnT w B T l (.slice a l.length c)) (h0 : 0 < l.length) : ∃ g0, a = some ⟨g0, 0, none⟩ ∧ SpG w B T g0 l.length := by
  obtain ⟨w0, h1, rfl, h3, h4⟩ := h
  obtain ⟨g0, h5, h6⟩ := SpG.of h1 h0
  exact ⟨g0, h5, h6.on h4⟩

/-- What spoil leaves. -/
structure SpK (B T : Nat) (w w' : World) : Prop where
  below : Below B w w'
  size : w'.heap.size = w.heap.size
  far : ∀ b, T ≤ b → w'.heap[b]? = w.heap[b]?
theorem OwnT.spk {w w' : World} {B T B' T' : Nat} {l : List MX} {v : Value} (h : OwnT w B T l v) (hk : SpK B' T' w w') (hd : T ≤ B' ∨ T' ≤ B) : OwnT w' B T l v := h.keep (Nat.le_of_eq hk.size.symm) fun b hb hl => by
  rcases hd with hd | hd
  · exact hk.below.block b (by omega)
  · exact hk.far b (by omega)

set_option maxHeartbeats 4000000 in
set_option maxRecDepth 100000 in
theorem spoil_any (l : List MX) (a : Option Addr) (c B T : Nat) (w : World) (h : 0 < l.length → OwnT w B T l (.slice a l.length c)) (hl : l.length ≤ 1000000000) :
    Calls Tryd.prog 19 #[.slice a l.length c] w fun e w' => e = .returned (.tuple #[]) ∧ SpK B T w w' := by
  have hG : ∃ g0, (0 < l.length → a = some ⟨g0, 0, none⟩ ∧ SpG w B T g0 l.length) := by
    rcases Nat.eq_zero_or_pos l.length with h0 | h0
    · exact ⟨0, fun h => by omega⟩
    · obtain ⟨g0, h1, h2⟩ := SpG.ofT (h h0) h0
      exact ⟨g0, fun _ => ⟨h1, h2⟩⟩
  obtain ⟨g0, hG⟩ := hG
  obtain ⟨n, hn⟩ : ∃ n, n = l.length := ⟨_, rfl⟩
  rw [← hn] at hG hl ⊢
  have HG := Lib.hid hG
  clear hG h hn
  go_enter Tryd.func19, Tryd.ntmps19
  go_wp2_with fail
  go_loopw [2, 3] (fun iv _ wr => ∃ j : Nat, iv = .int .i64 j ∧ j ≤ n ∧ SpR B T g0 n w wr) (fun i _ _ => n - (intOf i).toNat)
  case atStart => exact ⟨0, rfl, Nat.zero_le _, SpR.refl _ _ _ _ _⟩
  case round =>
    obtain ⟨j, rfl, hj, hrel⟩ := hrel
    have HR := Lib.hid hrel
    clear hrel
    by_cases hlt : j < n
    · obtain ⟨rfl, G⟩ := HG.out (by omega)
      obtain ⟨al, K, cl, hc6, hK, hlist⟩ := G.lists j hlt
      have HL := Lib.hid hlist
      have GG := Lib.hid G
      have d6 := (HR.out.lists j hlt).trans hc6
      clear hlist G hc6
      unfold maxLen at hK
      have hj0 : (0 : Int) ≤ (j : Int) := by omega
      have hj1 : (j : Int) < (n : Int) := by omega
      go_wp2_with fail
      obtain ⟨wo, rfl⟩ : ∃ wo : World, wo = wr := ⟨_, rfl⟩
      go_loopw [3] (fun kv wr => ∃ k : Nat, kv = .int .i64 k ∧ k ≤ K ∧ SpR B T g0 n w wr) (fun k _ => K - (intOf k).toNat)
      case atStart => exact ⟨0, rfl, Nat.zero_le _, HR.out⟩
      case round =>
        obtain ⟨k, rfl, hk, hrel⟩ := hrel
        have HR2 := Lib.hid hrel
        have e6 := (hrel.lists j hlt).trans ((HR.out.lists j hlt).symm.trans d6)
        clear hrel
        by_cases hkl : k < K
        · obtain ⟨g, o, rfl, h1, h2, h3, h4, h5⟩ := HL.out (by omega)
          obtain ⟨v0, hv0⟩ := h4 k hkl
          obtain ⟨v1, c0⟩ := HR2.out.cells _ _ _ hv0
          have f0 := HR2.out.frz _ _ (h5 (o + k * 5))
          have HS : Hid (SpR B T g0 n w (wr.setCell ⟨g, o + k * 5, none⟩ (.int .i64 77))) := HR2.out.set h1 h2 (fun e => absurd e h3) _
          clear h4 h5 hv0
          have hk0 : (0 : Int) ≤ (k : Int) := by omega
          have hk1 : (k : Int) < (K : Int) := by omega
          go_wp2_with fail
          go_roundw
          case rel => exact ⟨k + 1, by go_num, by omega, HS.out⟩
          case measure => simp [intOf]; omega
        · obtain rfl : k = K := by omega
          obtain ⟨v0, hv0⟩ := GG.out.topic j hlt
          obtain ⟨v1, c1⟩ := HR2.out.cells _ _ _ hv0
          have f1 := HR2.out.frz _ _ (GG.out.free (j * 13 + 1))
          have HS : Hid (SpR B T g0 n w (wr.setCell ⟨g0, j * 13 + 1, none⟩ (.string ⟨#[115, 112, 111, 105, 108, 116]⟩))) := HR2.out.set GG.out.low GG.out.high (fun _ j' _ => by omega) _
          clear hv0
          go_wp2_with fail
          go_roundw
          case rel => exact ⟨j + 1, by go_num, by omega, HS.out⟩
          case measure => simp [intOf]; omega
    · obtain rfl : j = n := by omega
      go_wp2_with fail
      exact bodyPost_end (results_none rfl _ _ _) rfl ⟨rfl, HR.out.below, HR.out.size, HR.out.far⟩
end Go.Proofs.YtmdcfmdjbncaoaaDoor
