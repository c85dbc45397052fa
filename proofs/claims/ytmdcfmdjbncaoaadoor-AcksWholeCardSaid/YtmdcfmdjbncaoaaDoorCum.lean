/- slices.Delete of one Sent: what a row of the call's own is behind it; the walk. acks.Ack, acks.Nack and the reference's Nack. The reference's Ack and Next. AcksEnd: the walk. AcksEnd met with its arguments as they come in. -/
import Derived.Test.YtmdcfmdjbncaoaaDoorE
import Derived.Test.YtmdcfmdjbncaoaaDoorBw
import Derived.Test.YtmdcfmdjbncaoaaDoorCa
import Derived.Test.YtmdcfmdjbncaoaaDoorCi
import Derived.Maps.AppendAt
import Derived.Test.YtmdcfmdjbncaoaaDoorBa
import Derived.Test.YtmdcfmdjbncaoaaDoorCd
import Derived.Test.YtmdcfmdjbncaoaaDoorCqx
/- slices.Delete of one Sent: what a row of the call's own is behind it; the walk. -/
namespace Go.Proofs.YtmdcfmdjbncaoaaDoor
open Go.RowKit
attribute [local go_sem ↓] Go.wp_at_zero Go.wp_at_succ

theorem zero_one (cells : List Value) (_h : 0 < cells.length) : (Builtin.zeroCells cells.toArray 1).toList = cells := by
  simp only [Builtin.zeroCells, List.size_toArray, Nat.one_mul]
  apply List.ext_getElem
  · simp
  · intro i h1 h2
    simp at h1
    simp [Nat.mod_eq_of_lt h2, h2]
theorem run_clear_one {P : Program} (w : World) (t e ty : TypeId) (z : Value) (cells : List Value) (ht : P.underlying t = some (.slice e)) (hv : ∀ w, (zeroValue e).run P w = .ok z w) (hz : z.cells = cells.toArray) (h0 : 0 < cells.length) (h1 : ∀ v ∈ cells, v.oneCell' = true) (b o c : Nat)
    (hth : w.there b o cells.length) : (Builtin.clear_ #[t] ty #[.slice (some ⟨b, o, none⟩) 1 c]).run P w = .ok (.tuple #[]) (w.setCells b o cells) := by
  have hzc : (Builtin.zeroCells z.cells 1).toList = cells := by rw [hz]; exact zero_one cells h0
  have hst := run_storeCells_cells (P := P) b o cells 0 w (fun j hj => by simpa using (hth j hj).1) (fun j hj => by simpa using (hth j hj).2) h1
  simp only [Nat.add_zero] at hst
  simp [Builtin.clear_, run_underlying ht, hv, hzc, hst]

section
variable {α : Type} {E : World → (Nat → Prop) → α → List Value → Prop} {T sz : Nat} {w w' : World} {B : Nat} {l : List α} {S : Nat → Prop} {css : List (List Value)} {n c b : Nat} {a : Option Addr}
/-- What a row's block holds: what stands ahead of the k-th, it, what stands behind, what is spare. -/
theorem OwnE.parts (h : OwnE E T sz w B l (.slice a n c) S css) {k : Nat} (hk : k < n) : ∃ b X spare, a = some ⟨b, 0, none⟩ ∧ n = l.length ∧ css[k]? = some X ∧ X.length = sz ∧ spare.length = (c - n) * sz ∧ n ≤ c ∧ c ≤ maxLen ∧ B ≤ b ∧
    Blk w b T ((css.take k).flatten ++ X ++ (css.drop (k + 1)).flatten ++ spare).toArray ∧ (css.take k).flatten.length = k * sz ∧ (css.drop (k + 1)).flatten.length = (n - (k + 1)) * sz := by
  obtain ⟨a', c', he⟩ := own_len h.row
  injection he with h1 h2 h3
  subst h1 h2 h3
  have hl := h.len
  obtain ⟨hx, hr⟩ := h.row
  rcases hr with ⟨_, h0⟩ | ⟨g, cap, cur, hv, hg, hh, hnc, hcm, hcs, htake⟩
  · omega
  injection hv with h1 _ h3
  subst h1 h3
  have hX : css[k]? = some (css[k]'(by omega)) := List.getElem?_eq_getElem (by omega)
  have hXl := h.wide _ (List.mem_of_getElem? hX)
  have hflat : ∀ cs : List (List Value), (∀ x ∈ cs, x.length = sz) → cs.flatten.length = cs.length * sz := fun cs hw => flatten_len hw
  have hcss : css = css.take k ++ css[k]'(by omega) :: css.drop (k + 1) := by
    rw [← List.drop_eq_getElem_cons (by omega), List.take_append_drop]
  have h4 : css.flatten = (css.take k).flatten ++ css[k]'(by omega) ++ (css.drop (k + 1)).flatten := by
    conv => lhs; rw [hcss]
    simp only [List.flatten_append, List.flatten_cons, List.append_assoc]
  refine ⟨g, _, cur.toList.drop (l.length * sz), rfl, rfl, hX, hXl, ?_, hnc, hcm, hg, ?_, ?_, ?_⟩
  · rw [List.length_drop, Array.length_toList, hcs, Nat.sub_mul]
  · rw [← h4, ← htake, List.take_append_drop]
    exact hh
  · rw [hflat _ (fun x hx => h.wide x (List.mem_of_mem_take hx)), List.length_take, Nat.min_eq_left (by omega)]
  · rw [hflat _ (fun x hx => h.wide x (List.mem_of_mem_drop hx)), List.length_drop, hl]

theorem OwnE.erase (hE : Keeps E) (h : OwnE E T sz w B l (.slice (some ⟨b, 0, none⟩) n c) S css) {k : Nat} (hk : k < n) {spare zs : List Value} (hn : n = l.length) (hnc : n ≤ c) (hcm : c ≤ maxLen) (hB : B ≤ b) (hzs : zs.length = sz) (hsp : spare.length = (c - n) * sz)
    (hb : Blk w' b T ((css.take k).flatten ++ (css.drop (k + 1)).flatten ++ zs ++ spare).toArray) (hfar : ∀ q, q ≠ b → w'.heap[q]? = w.heap[q]?) (hsize : w'.heap.size = w.heap.size)
    (h1 : (css.take k).flatten.length = k * sz) (h2 : (css.drop (k + 1)).flatten.length = (n - (k + 1)) * sz) : OwnE E T sz w' B (l.eraseIdx k) (.slice (some ⟨b, 0, none⟩) (n - 1) c) S (css.eraseIdx k) := by
  have hl := h.len
  have hle : (l.eraseIdx k).length = n - 1 := by rw [List.length_eraseIdx]; split <;> omega
  have hfl : (css.eraseIdx k).flatten = (css.take k).flatten ++ (css.drop (k + 1)).flatten := by rw [List.eraseIdx_eq_take_drop_succ, List.flatten_append]
  have hfll : (css.eraseIdx k).flatten.length = (n - 1) * sz := by
    rw [hfl, List.length_append, h1, h2, ← Nat.add_mul]
    congr 1
    omega
  refine ⟨by rw [hle, List.length_eraseIdx]; split <;> omega, ?_, fun q hq => ?_, fun cs hcs => h.wide cs (List.mem_of_mem_eraseIdx hcs), fun j x hx => ?_⟩
  · rw [hle]
    refine ⟨hfll, .inr ⟨b, c, _, rfl, hB, hb, by omega, hcm, ?_, ?_⟩⟩
    · rw [List.size_toArray, List.length_append, List.length_append, ← hfl, hfll, hzs, hsp]
      have e : c = (n - 1) + 1 + (c - n) := by omega
      conv => rhs; rw [e, Nat.add_mul, Nat.add_mul, Nat.one_mul]
    · rw [List.toList_toArray, ← hfl, List.append_assoc, List.take_left' hfll]
  · obtain ⟨g1, g2, g3⟩ := h.far q hq
    exact ⟨g1, by omega, g3⟩
  · have hne : ∀ q, S q → q ≠ b := fun q hq e => (h.far q hq).2.2 (by rw [e]; rfl)
    rw [List.getElem?_eraseIdx] at hx
    rw [List.getElem?_eraseIdx]
    split
    · rename_i hj
      rw [if_pos hj] at hx
      obtain ⟨cs, g1, g2⟩ := h.at_ j x hx
      exact ⟨cs, g1, hE w w' S S x cs (fun _ h => h) (fun q hq => hfar q (hne q hq)) g2⟩
    · rename_i hj
      rw [if_neg hj] at hx
      obtain ⟨cs, g1, g2⟩ := h.at_ (j + 1) x hx
      exact ⟨cs, g1, hE w w' S S x cs (fun _ h => h) (fun q hq => hfar q (hne q hq)) g2⟩
end
def zeroS : List Value := [.int .i64 0, .string ByteArray.empty, .int .i64 0, .int .i64 0, .int .u64 0, .string ByteArray.empty, .slice none 0 0, .int .i64 0, .int .i64 0, .string ByteArray.empty, .int .i64 0, .int .i64 0, .int .i64 0, .int .i64 0, .int .i64 0]
theorem zeroS_one : ∀ v ∈ zeroS, v.oneCell' = true := by simp [zeroS, Value.oneCell']
theorem zeroSV (w : World) : (zeroValue 62).run Tryd.prog w = .ok (.agg zeroS.toArray) w := by kernel_rfl

/-- One Sent is struck out of a row of the call's own. -/
def DelPostS (w : World) (B : Nat) (l : List SX) (k : Nat) (a : Option Addr) (n c : Nat) (S : Nat → Prop) (css : List (List Value)) (e : Ending) (w' : World) : Prop :=
  e = .returned (.slice a (n - 1) c) ∧ OwnE IsS 62 15 w' B (l.eraseIdx k) (.slice a (n - 1) c) S (css.eraseIdx k) ∧ (∀ q, a ≠ some ⟨q, 0, none⟩ → w'.heap[q]? = w.heap[q]?) ∧ w'.heap.size = w.heap.size ∧ ∀ C, C ≤ B → Below C w w'

set_option maxHeartbeats 4000000 in
set_option maxRecDepth 100000 in
theorem dels_any (l : List SX) (k n c B : Nat) (a : Option Addr) (S : Nat → Prop) (css : List (List Value)) (w : World) (h : OwnE IsS 62 15 w B l (.slice a n c) S css) (hk : k < n) :
    Calls Tryd.prog 60 #[.slice a n c, .int .i64 k, .int .i64 ((k : Int) + 1)] w (DelPostS w B l k a n c S css) := by
  obtain ⟨b, X, spare, rfl, hnl, hX, hXl, hsp, hnc, hcm, hBb, hblk, hA, hM⟩ := h.parts hk
  obtain ⟨i0, hi0, hz0, hz1, hz2⟩ := info_parts infoS
  unfold maxLen at hcm
  -- what is moved
  obtain ⟨news, hnews⟩ : ∃ news, news = (css.drop (k + 1)).flatten := ⟨_, rfl⟩
  obtain ⟨A, hAd⟩ : ∃ A, A = (css.take k).flatten := ⟨_, rfl⟩
  have hone : ∀ u ∈ news, u.oneCell' = true := by
    intro u hu
    rw [hnews] at hu
    obtain ⟨cs, hc, hu⟩ := List.mem_flatten.1 hu
    obtain ⟨j, hj, rfl⟩ := List.getElem_of_mem (List.mem_of_mem_drop hc)
    obtain ⟨cs', g1, g2⟩ := h.at_ j _ (List.getElem?_eq_getElem (by rw [← h.len]; exact hj))
    rw [List.getElem?_eq_getElem hj] at g1
    injection g1 with g1
    rw [g1] at hu
    exact g2.one u hu
  rw [← hnews, ← hAd] at hblk
  rw [← hnews] at hM
  rw [← hAd] at hA
  have hsize : (A ++ X ++ news ++ spare).length = c * 15 := by
    rw [List.length_append, List.length_append, List.length_append, hA, hXl, hM, hsp]
    omega
  obtain ⟨ad, had, hsrc⟩ : ∃ ad : Addr, (if c = k + 1 then some (⟨b, 0, none⟩ : Addr) else some ⟨b, (k + 1) * 15, none⟩) = some ad ∧ Hid (∀ t u, news[t]? = some u → w.drew.cell? (ad.add t) = some u) := by
    by_cases hck : c = k + 1
    · refine ⟨⟨b, 0, none⟩, by simp [hck], fun t u hu => ?_⟩
      have h0 : news.length = 0 := by rw [hM]; omega
      rw [List.length_eq_zero_iff.1 h0] at hu
      simp at hu
    · refine ⟨⟨b, (k + 1) * 15, none⟩, by simp [hck], fun t u hu => ?_⟩
      have hr := hblk.range (pre := A ++ X) (mid := news) (post := spare) (by simp)
      have := hr t u hu
      rw [Addr.add_mid]
      rw [List.length_append, hA, hXl] at this
      rw [show (k + 1) * 15 + t = k * 15 + 15 + t by omega]
      exact this
  -- the world behind the append, and behind clear
  obtain ⟨W1, hW1⟩ : ∃ W1, w.drew.setCells b (k * 15) news = W1 := ⟨_, rfl⟩
  have hU1 : Upd b w.drew W1 := by rw [← hW1]; exact upd_setCells b news (k * 15) w.drew
  have hbl1 : Blk W1 b 62 (A ++ news ++ ((X ++ news).drop news.length ++ spare)).toArray := by
    rw [← hW1]
    refine blk_setCells news w.drew (k * 15) A ((X ++ news).take news.length) _ ?_ hA (by rw [List.length_take, List.length_append]; omega)
    have : A ++ (X ++ news).take news.length ++ ((X ++ news).drop news.length ++ spare) = A ++ X ++ news ++ spare := by
      rw [List.append_assoc, ← List.append_assoc ((X ++ news).take news.length), List.take_append_drop]
      simp
    rw [this]
    exact hblk
  have hold : ((X ++ news).drop news.length).length = zeroS.length := by
    rw [List.length_drop, List.length_append, hXl]
    show 15 + news.length - news.length = 15
    omega
  have hpre : (A ++ news).length = (k + (n - (k + 1))) * 15 := by rw [List.length_append, hA, hM, Nat.add_mul]
  have hbl1' : Blk W1 b 62 (A ++ news ++ (X ++ news).drop news.length ++ spare).toArray := by rw [List.append_assoc (A ++ news)]; exact hbl1
  have hcl0 := fun ty => run_clear_one (P := Tryd.prog) W1 50 62 ty (.agg zeroS.toArray) zeroS Tryd.underlying50 zeroSV rfl (by decide) zeroS_one b ((k + (n - (k + 1))) * 15) (c - (k + (n - (k + 1)))) (hbl1'.there (by rw [List.size_toArray]; simp only [List.length_append] at hpre hold ⊢; omega))
  have he1 : n - (k + (n - (k + 1))) = 1 := by omega
  have hcl : ∀ ty, (Builtin.clear_ #[50] ty #[.slice (some ⟨b, (k + (n - (k + 1))) * 15, none⟩) (n - (k + (n - (k + 1)))) (c - (k + (n - (k + 1))))]).run Tryd.prog W1 = .ok (.tuple #[]) (W1.setCells b ((k + (n - (k + 1))) * 15) zeroS) := by rw [he1]; exact hcl0
  have hU2 := upd_setCells b zeroS ((k + (n - (k + 1))) * 15) W1
  have hbl2 := blk_setCells zeroS W1 ((k + (n - (k + 1))) * 15) (A ++ news) ((X ++ news).drop news.length) spare hbl1' hpre hold
  have hfin : DelPostS w B l k (some ⟨b, 0, none⟩) n c S css (.returned (.slice (some ⟨b, 0, none⟩) (n - 1) c)) (W1.setCells b ((k + (n - (k + 1))) * 15) zeroS) := by
    refine ⟨rfl, OwnE.erase keepsS h hk hnl hnc (by unfold maxLen; exact hcm) hBb rfl hsp (by rw [← hAd, ← hnews]; exact hbl2) (fun q hq => (hU2.far q hq).trans (hU1.far q hq)) (hU2.size.trans hU1.size) (by rw [← hAd]; exact hA) (by rw [← hnews]; exact hM), fun q hq => ?_, hU2.size.trans hU1.size, fun C hC => ?_⟩
    · have hqb : q ≠ b := fun e => hq (by rw [e])
      exact (hU2.far q hqb).trans (hU1.far q hqb)
    · exact ((Below.refl _ _).drew.trans (hU1.below C (by omega))).trans (hU2.below C (by omega))
  have h3 : Hid (∀ t, t < news.length → (w.drew.cell? ⟨b, 0 + k * 15 + t, none⟩).isSome = true ∧ w.drew.frozen? ⟨b, 0 + k * 15 + t, none⟩ = false) := by
    intro t ht
    have := hblk.drew.there (o := k * 15) (n := news.length) (by rw [List.size_toArray, hsize]; omega) t ht
    rw [Nat.zero_add]
    exact this
  have HM : Hid (news.length = (n - (k + 1)) * 15) := hM
  have HONE := Lib.hid hone
  have HFIN := Lib.hid hfin
  have HW1 : Hid (w.drew.setCells b (0 + k * 15) news = W1) := by rw [Nat.zero_add]; exact hW1
  have hkc : k ≤ c := by omega
  have hkn : ¬ (k : Int) = (k : Int) + 1 := by omega
  have hk0 : (0 : Int) ≤ (k : Int) := by omega
  have hk1 : (0 : Int) ≤ (k : Int) + 1 := by omega
  have hk2 : (k : Int) + 1 ≤ (n : Int) := by omega
  have hk3 : (k : Int) ≤ (n : Int) := by omega
  have he2 : k + (n - (k + 1)) = n - 1 := by omega
  have HE2 := Lib.hid he2
  clear hcl0 he1 he2 hnl hfin hbl2 hbl1 hbl1' hU1 hU2 hold hpre hsize hone hblk hA hM hsp hXl hX hnews hAd hW1 h
  go_enter Tryd.func60, Tryd.ntmps60
  go_wp2_with fail
  go_region_law (refine step_append_room rfl (.tmp 22) (.tmp 25) 50 rfl 62 i0 15 Tryd.underlying50 hi0 hz1 b 0 k c (by simp [Act.eval, Act.put]) ad (n - (k + 1)) (c - (k + 1)) news (by simp [Act.eval, Act.put]) HM.out hsrc.out HONE.out (by omega) h3.out ?_; rw [HW1.out])
  go_wp2_with fail
  go_ret
  have h := HFIN.out
  show DelPostS w B l k (some ⟨b, 0, none⟩) n c S css (.returned (.slice (some ⟨b, 0, none⟩) (k + (n - (k + 1))) c)) _
  rw [show (Value.slice (some ⟨b, 0, none⟩) (k + (n - (k + 1))) c) = .slice (some ⟨b, 0, none⟩) (n - 1) c by rw [HE2.out]]
  exact h
end Go.Proofs.YtmdcfmdjbncaoaaDoor
/- acks.Ack, acks.Nack and the reference's Nack. -/
namespace Go.Proofs.YtmdcfmdjbncaoaaDoor
open Go.RowKit
attribute [local go_sem ↓] Go.wp_at_zero Go.wp_at_succ
attribute [local go_sem] Go.undef

theorem placeS_some {l : List SX} {id : Int} (h : ¬ placeS l id < 0) : ∃ (k : Nat) (x : SX), placeS l id = (k : Int) ∧ k < l.length ∧ l[k]? = some x ∧ x.m.id = id := by
  induction l with
  | nil => exact absurd (show (-1 : Int) < 0 by decide) h
  | cons y l ih =>
    unfold placeS at h ⊢
    by_cases h0 : y.m.id = id
    · rw [if_pos h0]; exact ⟨0, y, rfl, by simp, rfl, h0⟩
    · rw [if_neg h0] at h ⊢
      by_cases h1 : placeS l id = -1
      · rw [if_pos h1] at h; exact absurd (by decide) h
      · rw [if_neg h1] at h ⊢
        have := placeS_ge l id
        obtain ⟨k, x, h2, h3, h4, h5⟩ := ih (by omega)
        exact ⟨k + 1, x, by rw [h2]; rfl, by simpa using h3, by simpa using h4, h5⟩
/-- What Ack leaves. -/
def ackS (l : List SX) (id : Int) : List SX × Int := if placeS l id < 0 then (l, 221) else (l.eraseIdx (placeS l id).toNat, 0)
def setDue (l : List SX) (k : Nat) (now : Int) : List SX := match l[k]? with
  | some x => l.set k ⟨x.m, x.tries, now⟩
  | none => l
/-- What Nack leaves. -/
def nackS (l : List SX) (id now : Int) : List SX × Int := if placeS l id < 0 then (l, 221) else (setDue l (placeS l id).toNat now, 0)
theorem set_mid (pre post : List Value) (d u : Value) {i : Nat} (h : pre.length = i) : (pre ++ d :: post).set i u = pre ++ u :: post := by
  subst h
  simp
/-- The Due of the k-th. -/
theorem OwnE.dueCell {w : World} {B : Nat} {l : List SX} {b n c : Nat} {S : Nat → Prop} {css : List (List Value)} (h : OwnE IsS 62 15 w B l (.slice (some ⟨b, 0, none⟩) n c) S css) {k : Nat} {x : SX} (hx : l[k]? = some x) :
    w.cell? ⟨b, k * 15 + 14, none⟩ = some (.int .i64 x.due) ∧ w.frozen? ⟨b, k * 15 + 14, none⟩ = false := by
  have hr := h.rows keepsS
  have hk : k < n := by rw [hr.1]; exact (List.getElem?_eq_some_iff.1 hx).1
  obtain ⟨b', X, spare, hb', -, -, -, -, -, -, -, hblk, -⟩ := h.parts hk
  injection hb' with hb'
  injection hb' with hb'
  subst hb'
  refine ⟨?_, hblk.free _⟩
  obtain ⟨g, o, y, cs, ha, -, hy, ⟨ms, hm, rfl⟩, hl, hc⟩ := hr.get hk
  rw [hx] at hy
  injection hy with hy
  subst hy
  injection ha with ha
  injection ha with e1 e2
  subst e1 e2
  have hml : ms.length = 13 := by simpa using hl
  have h1 := hc 14 (.int .i64 x.due) (by rw [List.getElem?_append_right (by omega), hml]; rfl)
  rw [Nat.zero_add] at h1
  exact h1
/-- The k-th made due. -/
theorem OwnE.redue {w : World} {B : Nat} {l : List SX} {b n c : Nat} {S : Nat → Prop} {css : List (List Value)} (h : OwnE IsS 62 15 w B l (.slice (some ⟨b, 0, none⟩) n c) S css) {k : Nat} {x : SX} (hx : l[k]? = some x) (now : Int) :
    ∃ css', OwnE IsS 62 15 (w.setCell ⟨b, k * 15 + 14, none⟩ (.int .i64 now)) B (setDue l k now) (.slice (some ⟨b, 0, none⟩) n c) S css' := by
  have hlk := (List.getElem?_eq_some_iff.1 hx).1
  have hk : k < n := by rw [(h.rows keepsS).1]; exact hlk
  obtain ⟨b', X, spare, hb', hnl, hX, hXl, hsp, hnc, hcm, hBb, hblk, hA, hM⟩ := h.parts hk
  injection hb' with hb'
  injection hb' with hb'
  subst hb'
  obtain ⟨cs, hcs, hE⟩ := h.at_ k x hx
  rw [hX] at hcs
  injection hcs with hcs
  subst hcs
  obtain ⟨ms, hms, rfl⟩ := hE
  have hml : ms.length = 13 := by simpa using hXl
  have hcl : k < css.length := by rw [h.len]; exact hlk
  obtain ⟨Y, hY⟩ : ∃ Y, Y = ms ++ [.int .i64 x.tries, .int .i64 now] := ⟨_, rfl⟩
  have hYl : Y.length = 15 := by rw [hY]; simp [hml]
  have hb2 := Blk.set hblk (k * 15 + 14) (.int .i64 now)
  rw [List.setIfInBounds_toArray, show (css.take k).flatten ++ (ms ++ [.int .i64 x.tries, .int .i64 x.due]) ++ (css.drop (k + 1)).flatten ++ spare = ((css.take k).flatten ++ ms ++ [.int .i64 x.tries]) ++ .int .i64 x.due :: ((css.drop (k + 1)).flatten ++ spare) by simp,
    set_mid _ _ _ _ (by rw [List.length_append, List.length_append, hA, hml]; rfl), show ((css.take k).flatten ++ ms ++ [.int .i64 x.tries]) ++ .int .i64 now :: ((css.drop (k + 1)).flatten ++ spare) = (css.take k).flatten ++ Y ++ (css.drop (k + 1)).flatten ++ spare by rw [hY]; simp] at hb2
  have hfl : (css.set k Y).flatten = (css.take k).flatten ++ Y ++ (css.drop (k + 1)).flatten := by
    rw [List.set_eq_take_append_cons_drop, if_pos hcl, List.flatten_append, List.flatten_cons, List.append_assoc]
  have hfll : (css.set k Y).flatten.length = l.length * 15 := by
    rw [hfl, List.length_append, List.length_append, hA, hYl, hM, ← hnl]
    omega
  have hsd : setDue l k now = l.set k ⟨x.m, x.tries, now⟩ := by rw [setDue, hx]
  have hkeep : ∀ q, S q → (w.setCell ⟨b, k * 15 + 14, none⟩ (.int .i64 now)).heap[q]? = w.heap[q]? := fun q hq => heap_set (fun e => (h.far q hq).2.2 (by rw [e]; rfl))
  rw [hsd]
  refine ⟨css.set k Y, by rw [List.length_set, List.length_set, h.len], ?_, fun q hq => ?_, fun cs hc => ?_, fun j y hy => ?_⟩
  · rw [List.length_set]
    refine ⟨hfll, .inr ⟨b, c, _, by rw [hnl], hBb, hb2, by omega, hcm, ?_, ?_⟩⟩
    · rw [List.size_toArray, ← hfl, List.length_append, hfll, hsp, hnl, ← Nat.add_mul]
      congr 1
      omega
    · rw [List.toList_toArray, ← hfl, List.take_left' hfll]
  · obtain ⟨g1, g2, g3⟩ := h.far q hq
    exact ⟨g1, by simpa using g2, g3⟩
  · rcases List.mem_or_eq_of_mem_set hc with hc | hc
    · exact h.wide cs hc
    · rw [hc]; exact hYl
  · by_cases hj : j = k
    · subst hj
      rw [List.getElem?_set_self hlk] at hy
      injection hy with hy
      subst hy
      refine ⟨Y, List.getElem?_set_self hcl, ?_⟩
      have hms' : IsS w S ⟨x.m, x.tries, now⟩ Y := ⟨ms, hms, hY⟩
      exact keepsS w _ S S _ Y (fun _ h => h) hkeep hms'
    · rw [List.getElem?_set_ne (fun e => hj e.symm)] at hy
      obtain ⟨cs', g1, g2⟩ := h.at_ j y hy
      exact ⟨cs', by rw [List.getElem?_set_ne (fun e => hj e.symm)]; exact g1, keepsS w _ S S y cs' (fun _ h => h) hkeep g2⟩
theorem setDue_len (l : List SX) (k : Nat) (now : Int) : (setDue l k now).length = l.length := by
  unfold setDue
  split
  · rw [List.length_set]
  · rfl

set_option maxHeartbeats 16000000 in
set_option maxRecDepth 100000 in
theorem ackp_any (l : List SX) (id : Int) (a : Option Addr) (n c : Nat) (S : Nat → Prop) (w : World) (hrow : RS w S l a n c) (hS : ∀ b, S b → b < w.heap.size) (hsm : smallS l) (hn : n ≤ 65536) :
    Calls Tryd.prog 37 #[.slice a n c, .int .i64 id] w (SendP w (ackS l id).1 (ackS l id).2) := by
  have hcl : c ≤ maxLen := hrow.2.2.1
  have hlc : n ≤ c := hrow.2.1
  obtain rfl : n = l.length := hrow.1
  unfold maxLen at hcl
  obtain ⟨X, hX⟩ : ∃ X, X = ackS l id := ⟨_, rfl⟩
  rw [← hX]
  have HX := Lib.hid hX
  have HROW := Lib.hid hrow
  have HS := Lib.hid hS
  have HSM := Lib.hid hsm
  clear hrow hS hsm hX
  go_enter Tryd.func37, Tryd.ntmps37
  go_wp2_with fail
  refine (eachs_any a l.length c w).mono ?_
  rintro e w1 ⟨rfl, hw1⟩
  have hb1 : Below w.heap.size w w1 := by rw [hw1]; exact (Below.refl _ _).alloc (Nat.le_refl _) _
  have hcell : w1.cell? ⟨w.heap.size, 0, none⟩ = some (.slice a l.length c) := by rw [hw1]; exact (Blk.new _ _ _).cell 0
  have T := Lib.hid hb1
  have HC := Lib.hid (collects_any l w.heap.size S a l.length c w1 hcell (RS.under HROW.out T.out HS.out) (fun b hb => Nat.lt_of_lt_of_le (HS.out b hb) T.out.size) HSM.out hn)
  have hs1 := hb1.size
  clear hw1 hb1 hcell
  go_wp2_with fail
  refine HC.out.mono ?_
  rintro e w2 ⟨a1, c1, S1, css1, rfl, ho, hb2⟩
  have HO := Lib.hid (ho.mono hs1)
  replace T := Lib.hid (below_on hb2 T.out)
  clear hs1 hb2 ho HC
  have HFD := Lib.hid (find_any l id a l.length c S w2 (RS.under HROW.out T.out HS.out) (fun b hb => Nat.lt_of_lt_of_le (HS.out b hb) T.out.size))
  go_wp2_with fail
  refine HFD.out.mono ?_
  rintro e w3 ⟨rfl, hb3⟩
  replace HO := Lib.hid (HO.out.below keepsS hb3 (Nat.le_refl _))
  replace T := Lib.hid (below_on hb3 T.out)
  clear hb3 HFD
  by_cases h1 : placeS l id < 0
  · have hX2 : ackS l id = (l, 221) := if_pos h1
    obtain rfl := HX.out.trans hX2
    clear hX2
    go_wp2_with fail
    refine bodyPost_ret (results_tmp2 rfl _ _ _) rfl ?_
    exact ⟨a1, c1, S1, css1, rfl, HO.out, T.out⟩
  obtain ⟨k, x, hk, hkl, hxk, -⟩ := placeS_some h1
  have hX2 : ackS l id = (l.eraseIdx k, 0) := by rw [ackS, if_neg h1, hk]; rfl
  obtain rfl := HX.out.trans hX2
  have HD := Lib.hid (dels_any l k l.length c1 w.heap.size a1 S1 css1 w3 HO.out hkl)
  have hw1 : IntKind.i64.wrap ((k : Int) + 1) = (k : Int) + 1 := by rw [IntKind.wrap_i64]; omega
  have hk0 : ¬ (k : Int) < 0 := by omega
  rw [hk]
  clear hX2 h1 hk hxk
  go_wp2_with fail
  refine HD.out.mono ?_
  rintro e w4 ⟨rfl, ho4, hfar, hsz, hbl⟩
  have HO4 := Lib.hid ho4
  have T4 : Hid (Below w.heap.size w w4) := T.out.trans (hbl _ (Nat.le_refl _))
  clear ho4 hfar hsz hbl HD
  go_wp2_with fail
  refine bodyPost_ret (results_tmp2 rfl _ _ _) rfl ?_
  have hlen : (l.eraseIdx k).length = l.length - 1 := by rw [List.length_eraseIdx, if_pos hkl]
  exact ⟨a1, c1, S1, _, by rw [hlen]; rfl, by rw [hlen]; exact HO4.out, T4.out⟩

set_option maxHeartbeats 16000000 in
set_option maxRecDepth 100000 in
theorem nackp_any (l : List SX) (id now : Int) (a : Option Addr) (n c : Nat) (S : Nat → Prop) (w : World) (hrow : RS w S l a n c) (hS : ∀ b, S b → b < w.heap.size) (hsm : smallS l) (hn : n ≤ 65536) :
    Calls Tryd.prog 40 #[.slice a n c, .int .i64 id, .int .i64 now] w (SendP w (nackS l id now).1 (nackS l id now).2) := by
  have hcl : c ≤ maxLen := hrow.2.2.1
  have hlc : n ≤ c := hrow.2.1
  obtain rfl : n = l.length := hrow.1
  unfold maxLen at hcl
  obtain ⟨X, hX⟩ : ∃ X, X = nackS l id now := ⟨_, rfl⟩
  rw [← hX]
  have HX := Lib.hid hX
  have HROW := Lib.hid hrow
  have HS := Lib.hid hS
  have HSM := Lib.hid hsm
  clear hrow hS hsm hX
  go_enter Tryd.func40, Tryd.ntmps40
  go_wp2_with fail
  refine (eachs_any a l.length c w).mono ?_
  rintro e w1 ⟨rfl, hw1⟩
  have hb1 : Below w.heap.size w w1 := by rw [hw1]; exact (Below.refl _ _).alloc (Nat.le_refl _) _
  have hcell : w1.cell? ⟨w.heap.size, 0, none⟩ = some (.slice a l.length c) := by rw [hw1]; exact (Blk.new _ _ _).cell 0
  have T := Lib.hid hb1
  have HC := Lib.hid (collects_any l w.heap.size S a l.length c w1 hcell (RS.under HROW.out T.out HS.out) (fun b hb => Nat.lt_of_lt_of_le (HS.out b hb) T.out.size) HSM.out hn)
  have hs1 := hb1.size
  clear hw1 hb1 hcell
  go_wp2_with fail
  refine HC.out.mono ?_
  rintro e w2 ⟨a1, c1, S1, css1, rfl, ho, hb2⟩
  have HO := Lib.hid (ho.mono hs1)
  replace T := Lib.hid (below_on hb2 T.out)
  clear hs1 hb2 ho HC
  have HFD := Lib.hid (find_any l id a l.length c S w2 (RS.under HROW.out T.out HS.out) (fun b hb => Nat.lt_of_lt_of_le (HS.out b hb) T.out.size))
  go_wp2_with fail
  refine HFD.out.mono ?_
  rintro e w3 ⟨rfl, hb3⟩
  replace HO := Lib.hid (HO.out.below keepsS hb3 (Nat.le_refl _))
  replace T := Lib.hid (below_on hb3 T.out)
  clear hb3 HFD
  by_cases h1 : placeS l id < 0
  · have hX2 : nackS l id now = (l, 221) := if_pos h1
    obtain rfl := HX.out.trans hX2
    clear hX2
    go_wp2_with fail
    refine bodyPost_ret (results_tmp2 rfl _ _ _) rfl ?_
    exact ⟨a1, c1, S1, css1, rfl, HO.out, T.out⟩
  obtain ⟨k, x, hk, hkl, hxk, -⟩ := placeS_some h1
  have hX2 : nackS l id now = (setDue l k now, 0) := by rw [nackS, if_neg h1, hk]; rfl
  obtain rfl := HX.out.trans hX2
  obtain ⟨b, X, spare, rfl, -⟩ := HO.out.parts hkl
  obtain ⟨q14, f14⟩ := HO.out.dueCell hxk
  obtain ⟨css2, ho2⟩ := HO.out.redue hxk now
  have hBb := (HO.out.far_lt b rfl).1
  have hcc : c1 ≤ maxLen := (HO.out.rows keepsS).2.2.1
  have hlc1 : l.length ≤ c1 := (HO.out.rows keepsS).2.1
  unfold maxLen at hcc
  have HO2 := Lib.hid ho2
  have T2 : Hid (Below w.heap.size w (w3.setCell ⟨b, k * 15 + 14, none⟩ (.int .i64 now))) := T.out.setCell hBb _
  have hk0 : (0 : Int) ≤ (k : Int) := by omega
  have hk1 : (k : Int) < (l.length : Int) := by omega
  have hk2 : ¬ (k : Int) < 0 := by omega
  rw [hk]
  clear hX2 h1 hk hxk ho2
  go_wp2_with fail
  refine bodyPost_ret (results_tmp2 rfl _ _ _) rfl ?_
  exact ⟨some ⟨b, 0, none⟩, c1, S1, css2, by rw [setDue_len]; rfl, by rw [setDue_len]; exact HO2.out, T2.out⟩

set_option maxHeartbeats 16000000 in
set_option maxRecDepth 100000 in
theorem nackr_any (l : List SX) (id now : Int) (a : Option Addr) (n c : Nat) (S : Nat → Prop) (w : World) (hrow : RS w S l a n c) (hS : ∀ b, S b → b < w.heap.size) (hsm : smallS l) (hn : n ≤ 65536) :
    Calls Tryd.prog 41 #[.slice a n c, .int .i64 id, .int .i64 now] w (SendP w (nackS l id now).1 (nackS l id now).2) := by
  have hcl : c ≤ maxLen := hrow.2.2.1
  have hlc : n ≤ c := hrow.2.1
  obtain rfl : n = l.length := hrow.1
  unfold maxLen at hcl
  obtain ⟨X, hX⟩ : ∃ X, X = nackS l id now := ⟨_, rfl⟩
  rw [← hX]
  have HX := Lib.hid hX
  have HPL := Lib.hid (place_any l id a l.length c S w hrow)
  have HC := Lib.hid (copys_any l a l.length c S w hrow hS hsm hn)
  clear hrow hS hsm hX
  go_enter Tryd.func41, Tryd.ntmps41
  go_wp2_with fail
  refine HPL.out.mono ?_
  rintro e w1 ⟨rfl, rfl⟩
  clear HPL
  go_wp2_with fail
  refine HC.out.mono ?_
  rintro e w3 ⟨a1, c1, S1, css1, rfl, ho, hb3⟩
  have HO := Lib.hid ho
  have T := Lib.hid hb3
  clear ho hb3 HC
  by_cases h1 : placeS l id < 0
  · have hX2 : nackS l id now = (l, 221) := if_pos h1
    obtain rfl := HX.out.trans hX2
    clear hX2
    go_wp2_with fail
    refine bodyPost_ret (results_tmp2 rfl _ _ _) rfl ?_
    exact ⟨a1, c1, S1, css1, rfl, HO.out, T.out⟩
  obtain ⟨k, x, hk, hkl, hxk, -⟩ := placeS_some h1
  have hX2 : nackS l id now = (setDue l k now, 0) := by rw [nackS, if_neg h1, hk]; rfl
  obtain rfl := HX.out.trans hX2
  obtain ⟨b, X, spare, rfl, -⟩ := HO.out.parts hkl
  obtain ⟨q14, f14⟩ := HO.out.dueCell hxk
  obtain ⟨css2, ho2⟩ := HO.out.redue hxk now
  have hBb := (HO.out.far_lt b rfl).1
  have hcc : c1 ≤ maxLen := (HO.out.rows keepsS).2.2.1
  have hlc1 : l.length ≤ c1 := (HO.out.rows keepsS).2.1
  unfold maxLen at hcc
  have HO2 := Lib.hid ho2
  have T2 : Hid (Below w.heap.size w (w3.setCell ⟨b, k * 15 + 14, none⟩ (.int .i64 now))) := T.out.setCell hBb _
  have hk0 : (0 : Int) ≤ (k : Int) := by omega
  have hk1 : (k : Int) < (l.length : Int) := by omega
  have hk2 : ¬ (k : Int) < 0 := by omega
  rw [hk]
  clear hX2 h1 hk hxk ho2
  go_wp2_with fail
  refine bodyPost_ret (results_tmp2 rfl _ _ _) rfl ?_
  exact ⟨some ⟨b, 0, none⟩, c1, S1, css2, by rw [setDue_len]; rfl, by rw [setDue_len]; exact HO2.out, T2.out⟩
end Go.Proofs.YtmdcfmdjbncaoaaDoor
/- The reference's Ack and Next. -/
namespace Go.Proofs.YtmdcfmdjbncaoaaDoor
open Go.RowKit
attribute [local go_sem ↓] Go.wp_at_zero Go.wp_at_succ
attribute [local go_sem] Go.undef

section
variable {P : Program} {w : World}
theorem run_append_lieS (base : Nat) (t ty e : TypeId) (i : TypeInfo) (z : Value) (size bytes : Nat) (ht : P.underlying t = some (.slice e)) (hi : P.info? e = some i) (hz : i.zero = some z)
    (hsize : i.size = size) (hby : i.bytes = bytes) (hzs : z.cells.size = size) (hsz : 0 < size)
    (v : Value) (n : Nat) (xs : List Value) (hown : w.ownsRow base e size v n xs)
    (ax : Option Addr) (m c : Nat) (news : List Value) (hax : 0 < m → ax.isSome = true) (hl : news.length = m * size) (hnews : ∀ ad, ax = some ad → ∀ j u, news[j]? = some u → w.cell? (ad.add j) = some u) (h1 : ∀ u ∈ news, u.oneCell' = true)
    (h63 : n + m ≤ maxLen) (hbytes : (n + m) * bytes ≤ 140737488355328) (hbase : base ≤ w.heap.size) :
    ∃ v' w', (Builtin.append_ #[t, t] ty #[v, .slice ax m c]).run P w = .ok v' w' ∧ w'.ownsRow base e size v' (n + m) (xs ++ news) ∧ w.grownBy w' v.ownBlock ∧ (v'.ownBlock = v.ownBlock ∨ v'.ownBlock = some w.heap.size) := by
  cases ax with
  | some ad =>
    obtain ⟨v', w', h1, h2, h3, _, h5⟩ := run_append_own_at (P := P) (w := w) base t ty e i z size bytes ht hi hz hsize hby hzs hsz v n xs hown ad m c news hl (hnews ad rfl) h1 h63 hbytes hbase
    exact ⟨v', w', h1, h2, h3, h5⟩
  | none =>
    have hm : m = 0 := by
      rcases Nat.eq_zero_or_pos m with h | h
      · exact h
      · exact absurd (hax h) (by simp)
    subst hm
    have hn : news = [] := List.eq_nil_of_length_eq_zero (by simpa using hl)
    subst hn
    refine ⟨v, w, ?_, by simpa using hown, ⟨rfl, rfl, rfl, Nat.le_refl _, fun _ _ _ => rfl⟩, .inl rfl⟩
    rcases hown.2 with ⟨rfl, rfl⟩ | ⟨g, cap, cur, rfl, hbg, hg, hnc, hcm, hcs, htake⟩
    · simp [Builtin.append_, run_underlying ht, sizeOf, typeInfo, hi, Builtin.lenOf, Builtin.firstCells]
    · simp [Builtin.append_, run_underlying ht, sizeOf, typeInfo, hi, Builtin.lenOf, Builtin.firstCells, loadCells, hnc, storeCells]
theorem step_append_lie {ops : Array Oper} {o : Oper} {a : Act} {K : Act → World → Prop} {Q : Exit → Act → World → Prop} {F : Prop} (hgd : o.guard = none) (s x : Operand) (t : TypeId)
    (ho : o.op = .call { callee := .builtin .append, args := #[s, x], argTypes := #[t, t] })
    (base : Nat) (e : TypeId) (i : TypeInfo) (z : Value) (size bytes : Nat) (ht : P.underlying t = some (.slice e)) (hi : P.info? e = some i) (hz : i.zero = some z)
    (hsize : i.size = size) (hby : i.bytes = bytes) (hzs : z.cells.size = size) (hsz : 0 < size)
    (v : Value) (n : Nat) (xs : List Value) (hs : a.eval s = v) (hown : w.ownsRow base e size v n xs)
    (ax : Option Addr) (m c : Nat) (news : List Value) (hx : a.eval x = .slice ax m c) (hax : 0 < m → ax.isSome = true) (hl : news.length = m * size) (hnews : ∀ ad, ax = some ad → ∀ j u, news[j]? = some u → w.cell? (ad.add j) = some u) (h1 : ∀ u ∈ news, u.oneCell' = true)
    (h63 : n + m ≤ maxLen) (hbytes : (n + m) * bytes ≤ 140737488355328) (hbase : base ≤ w.heap.size)
    (h : ∀ v' w', w'.ownsRow base e size v' (n + m) (xs ++ news) → w.grownBy w' v.ownBlock → (v'.ownBlock = v.ownBlock ∨ v'.ownBlock = some w.heap.size) → K (a.put o.dst v') w') :
    if Region.wanted o (yielded ops a.tmps) = true then Oper.wp P o a w K Q else F := by
  have hw : Region.wanted o (yielded ops a.tmps) = true := by simp [Region.wanted, hgd]
  rw [if_pos hw]
  obtain ⟨v', w', hr, h2, h3, h4⟩ := run_append_lieS (P := P) (w := w) base t o.type e i z size bytes ht hi hz hsize hby hzs hsz v n xs hown ax m c news hax hl hnews h1 h63 hbytes hbase
  unfold Oper.wp execOp
  simp only [ho, resolve, invoke, builtin, Sem.run_bind, Sem.run_pure, Result.andThen_ok, List.map_toArray, List.map_cons, List.map_nil, hs, hx, hr]
  exact h v' w' h2 h3 h4
end
theorem stay_blockS {w w' : World} {row : Option Nat} (hg : w.grownBy w' row) {b : Nat} (h1 : b < w.heap.size) (h2 : row ≠ some b) : w'.heap[b]? = w.heap[b]? := hg.block b h1 (fun e => h2 e.symm)
/-- What waits in a row behind that of a row of the call's own. -/
theorem OwnE.moreS {w w' : World} {B : Nat} {l l2 : List SX} {v v' u : Value} {S S2 : Nat → Prop} {css css2 : List (List Value)} {B2 : Nat} (h : OwnE IsS 62 15 w B l v S css) (h2 : OwnE IsS 62 15 w B2 l2 u S2 css2)
    (hS2 : ∀ b, S2 b → B ≤ b ∧ v.ownBlock ≠ some b) (hown : w'.ownsRow B 62 15 v' (l.length + l2.length) (css.flatten ++ css2.flatten)) (hgrow : w.grownBy w' v.ownBlock) (hat : v'.ownBlock = v.ownBlock ∨ v'.ownBlock = some w.heap.size) :
    OwnE IsS 62 15 w' B (l ++ l2) v' (fun b => S b ∨ S2 b) (css ++ css2) := by
  have hnb : ∀ b, b < w.heap.size → v.ownBlock ≠ some b → v'.ownBlock ≠ some b := fun b h1 h3 => by
    rcases hat with e | e
    · rw [e]; exact h3
    · rw [e]; intro e2; injection e2 with e2; omega
  have hk : ∀ b, b < w.heap.size → v.ownBlock ≠ some b → w'.heap[b]? = w.heap[b]? := fun b h1 h3 => stay_blockS hgrow h1 h3
  have hsz := hgrow.size
  refine ⟨by simp [h.len, h2.len], by rw [List.flatten_append, List.length_append]; exact hown, fun b hb => ?_, fun cs hc => ?_, fun j x hx => ?_⟩
  · rcases hb with hb | hb
    · obtain ⟨h3, h4, h5⟩ := h.far b hb
      exact ⟨h3, by omega, hnb b h4 h5⟩
    · have h4 := (h2.far b hb).2.1
      obtain ⟨h3, h5⟩ := hS2 b hb
      exact ⟨h3, by omega, hnb b h4 h5⟩
  · rcases List.mem_append.1 hc with hc | hc
    · exact h.wide cs hc
    · exact h2.wide cs hc
  · rcases Nat.lt_or_ge j l.length with hj | hj
    · rw [List.getElem?_append_left hj] at hx
      obtain ⟨cs, h3, h4⟩ := h.at_ j x hx
      exact ⟨cs, by rw [List.getElem?_append_left (by rw [h.len]; exact hj)]; exact h3, keepsS w w' S _ x cs (fun b hb => .inl hb) (fun b hb => hk b (h.far b hb).2.1 (h.far b hb).2.2) h4⟩
    · rw [List.getElem?_append_right hj] at hx
      obtain ⟨cs, h3, h4⟩ := h2.at_ _ x hx
      exact ⟨cs, by rw [List.getElem?_append_right (by rw [h.len]; exact hj), h.len]; exact h3, keepsS w w' S2 _ x cs (fun b hb => .inr hb) (fun b hb => hk b (h2.far b hb).2.1 (hS2 b hb).2) h4⟩
/-- Where the cells of a row of the call's own lie. -/
theorem OwnE.srcS {w : World} {B : Nat} {l : List SX} {ax : Option Addr} {n c : Nat} {S : Nat → Prop} {css : List (List Value)} (h : OwnE IsS 62 15 w B l (.slice ax n c) S css) :
    (0 < l.length → ax.isSome = true) ∧ css.flatten.length = l.length * 15 ∧ (∀ ad, ax = some ad → ∀ j u, css.flatten[j]? = some u → w.cell? (ad.add j) = some u) ∧ ∀ u ∈ css.flatten, u.oneCell' = true := by
  refine ⟨fun h0 => ?_, h.row.1, fun ad e j u hu => ?_, fun u hu => ?_⟩
  · obtain ⟨g, cap, hv, -⟩ := h.row.form h0
    injection hv with hv
    rw [hv]; rfl
  · subst e
    rcases h.row.2 with ⟨hv, -⟩ | ⟨g, cap, cur, hv, -⟩
    · injection hv with hv; cases hv
    · injection hv with hv hn hc
      injection hv with hv
      subst hv hn hc
      exact h.row.cells (g := g) rfl j u hu
  · obtain ⟨cs, hc, hu⟩ := List.mem_flatten.1 hu
    obtain ⟨j, hj⟩ := List.mem_iff_getElem?.1 hc
    have hlt : j < l.length := by rw [← h.len]; exact (List.getElem?_eq_some_iff.1 hj).1
    obtain ⟨cs', h1, h2⟩ := h.at_ j _ (List.getElem?_eq_getElem hlt)
    rw [hj] at h1
    injection h1 with h1
    subst h1
    exact h2.one u hu
theorem RowsOf.drop {α : Type} {E : α → List Value → Prop} {sz : Nat} {w : World} {S : Nat → Prop} {l : List α} {g o n c : Nat} (h : RowsOf E sz w S l (some ⟨g, o, none⟩) n c) {k : Nat} (hk : k < n) :
    RowsOf E sz w S (l.drop (k + 1)) (if c = k + 1 then some ⟨g, o, none⟩ else some ⟨g, o + (k + 1) * sz, none⟩) (n - (k + 1)) (c - (k + 1)) := by
  obtain ⟨h1, h2, h3, h4⟩ := h
  refine ⟨by rw [List.length_drop]; omega, by omega, by omega, fun h0 => ?_⟩
  obtain ⟨g', o', ha, hg, hj⟩ := h4 (by omega)
  injection ha with ha
  injection ha with e1 e2
  subst e1 e2
  refine ⟨g, o + (k + 1) * sz, by rw [if_neg (by omega)], hg, fun i x hx => ?_⟩
  rw [List.getElem?_drop] at hx
  obtain ⟨cs, g1, g2, g3⟩ := hj _ x hx
  exact ⟨cs, g1, g2, by rw [show o + (k + 1) * sz + i * sz = o + (k + 1 + i) * sz by rw [Nat.add_mul (k + 1)]; omega]; exact g3⟩
theorem small_take {l : List SX} (h : smallS l) (k : Nat) : smallS (l.take k) := fun x hx => h x (List.mem_of_mem_take hx)
theorem small_drop {l : List SX} (h : smallS l) (k : Nat) : smallS (l.drop k) := fun x hx => h x (List.mem_of_mem_drop hx)

/-- The first tick of one. -/
def lowN (x : SX) : Int := if x.m.til ≠ 0 ∧ x.m.til + 1 < x.due then x.m.til + 1 else x.due
theorem stepN_low (s : Int × Bool) (x : SX) : stepN s x = seeN s (lowN x) := by
  obtain ⟨a, f⟩ := s
  unfold stepN lowN
  by_cases h0 : x.m.til = 0
  · rw [if_pos h0, if_neg (fun h => h.1 h0)]
  · rw [if_neg h0]
    by_cases h1 : x.m.til + 1 < x.due
    · rw [if_pos ⟨h0, h1⟩]
      unfold seeN
      by_cases h2 : f = false ∨ x.due < a
      · rw [if_pos h2, if_pos (.inr h1), if_pos (h2.imp id fun h => by show x.m.til + 1 < a; omega)]
      · rw [if_neg h2]
    · rw [if_neg (fun h => h1 h.2)]
      unfold seeN
      by_cases h2 : f = false ∨ x.due < a
      · rw [if_pos h2, if_neg (by rintro (h | h); cases h; exact h1 h)]
      · rw [if_neg h2, if_neg (by rintro (h | h); exact h2 (.inl h); exact h2 (.inr (by have h : x.m.til + 1 < a := h; show x.due < a; omega)))]
theorem seeN_two (s : Int × Bool) (t : Int) : (seeN s t).2 = true := by
  obtain ⟨a, f⟩ := s
  unfold seeN
  split
  · rfl
  · rename_i h
    cases f
    · exact absurd (.inl rfl) h
    · rfl
theorem nextS_two (l : List SX) : (nextS l).2 = decide (0 < l.length) := by
  have h : ∀ (l : List SX) (s : Int × Bool), s.2 = true → (l.foldl stepN s).2 = true := by
    intro l
    induction l with
    | nil => exact fun s h => h
    | cons x l ih => exact fun s _ => ih _ (by rw [stepN_low]; exact seeN_two _ _)
  cases l with
  | nil => rfl
  | cons x l => rw [nextS, List.foldl_cons, h _ _ (by rw [stepN_low]; exact seeN_two _ _)]; simp

def NxS (w : World) (l : List SX) (lv iv : Value) (wr : World) : Prop := ∃ j : Nat, iv = .int .i64 j ∧ lv = .int .i64 (nextS (l.take j)).1 ∧ j ≤ l.length ∧ w = wr

set_option maxHeartbeats 16000000 in
set_option maxRecDepth 100000 in
theorem nextrs_any (l : List SX) (a : Option Addr) (n c : Nat) (S : Nat → Prop) (w : World) (hrow : RS w S l a n c) (htl : tilT l) :
    Calls Tryd.prog 42 #[.slice a n c] w fun e w' => e = .returned (.tuple #[.int .i64 (nextS l).1, .bool (nextS l).2]) ∧ w = w' := by
  have hcl : c ≤ maxLen := hrow.2.2.1
  have hlc : n ≤ c := hrow.2.1
  obtain rfl : n = l.length := hrow.1
  unfold maxLen at hcl
  have HROW := Lib.hid hrow
  have HTL := Lib.hid htl
  clear hrow htl
  go_enter Tryd.func42, Tryd.ntmps42
  go_upto_region 3 with fail
  go_loopw [4, 5] (NxS w l) (fun _ i _ => l.length - (intOf i).toNat)
  case atStart => exact ⟨0, rfl, rfl, Nat.zero_le _, rfl⟩
  case round =>
    obtain ⟨j, rfl, rfl, hj, rfl⟩ := hrel
    by_cases hlt : j < l.length
    · obtain ⟨g, o, x, xs, rfl, hSg, hx, hm, hxl, hr0⟩ := HROW.out.get hlt
      obtain ⟨ms, hmm, rfl⟩ := hm
      obtain ⟨kx, ix, bx, sx, ax, nx, cx, rfl, -, -, -⟩ := hmm
      have hr : w.rangeAt g (o + j * 15) [.int .i64 x.m.id, .string x.m.topic, .int .i64 kx, .int .i64 ix, .int .u64 bx, .string sx, .slice ax nx cx, .int .i64 x.m.tat, .int .i64 x.m.til, .string x.m.reply, .int .i64 x.m.corr, .int .i64 x.m.prio, .int .i64 x.m.hops, .int .i64 x.tries, .int .i64 x.due] := hr0
      obtain ⟨-, -, -, -, -, -, -, -, c8, -, -, -, -, -, c14⟩ := range15 hr
      have hj0 : (0 : Int) ≤ (j : Int) := by omega
      have hj1 : (j : Int) < (l.length : Int) := by omega
      obtain ⟨t0, t1⟩ := HTL.out x (List.mem_of_getElem? hx)
      have hwt : IntKind.i64.wrap (x.m.til + 1) = x.m.til + 1 := by rw [IntKind.wrap_i64]; omega
      obtain ⟨N, hN⟩ : ∃ N, N = nextS (l.take j) := ⟨_, rfl⟩
      have hN2 : N.2 = decide (0 < j) := by rw [hN, nextS_two, List.length_take]; congr 1; apply propext; omega
      have HSN : Hid (nextS (l.take (j + 1)) = seeN N (lowN x)) := by show _ = _; rw [nextS_snoc hx, stepN_low, hN]
      rw [← hN]
      clear hr0 hr hx hxl hSg hN
      by_cases h0 : x.m.til = 0
      · have e0 : (x.m.til != 0) = false := by rw [h0]; rfl
        have HL : Hid (lowN x = x.due) := if_neg fun h => h.1 h0
        clear h0
        by_cases hj2 : j = 0
        · have ej : ((j : Int) == 0) = true := by rw [hj2]; rfl
          have hN3 : N.2 = false := by rw [hN2, hj2]; rfl
          clear hj2 hN2
          have HR : Hid ((nextS (l.take (j + 1))).1 = x.due) := by show _ = _; rw [HSN.out, HL.out]; exact congrArg Prod.fst (if_pos (.inl hN3))
          go_wp2_with fail
          go_roundw
          case rel => first | exact ⟨j + 1, by go_num, by rw [HR.out], by omega, rfl⟩ | ((repeat apply Exists.intro); exact ⟨⟨j + 1, by go_num, by rw [HR.out], by omega, rfl⟩, by first | rfl | exact ⟨rfl, rfl⟩ | exact ⟨rfl, rfl, rfl⟩ | exact ⟨rfl, rfl, rfl, rfl⟩ | exact ⟨rfl, rfl, rfl, rfl, rfl⟩⟩)
          case measure => simp [intOf]; omega
        have ej : ((j : Int) == 0) = false := beq_eq_false_iff_ne.2 (by omega)
        have hN3 : N.2 = true := by rw [hN2]; exact decide_eq_true (by omega)
        clear hj2 hN2
        by_cases h9 : x.due < N.1
        · have HR : Hid ((nextS (l.take (j + 1))).1 = x.due) := by show _ = _; rw [HSN.out, HL.out]; exact congrArg Prod.fst (if_pos (.inr h9))
          go_wp2_with fail
          go_roundw
          case rel => first | exact ⟨j + 1, by go_num, by rw [HR.out], by omega, rfl⟩ | ((repeat apply Exists.intro); exact ⟨⟨j + 1, by go_num, by rw [HR.out], by omega, rfl⟩, by first | rfl | exact ⟨rfl, rfl⟩ | exact ⟨rfl, rfl, rfl⟩ | exact ⟨rfl, rfl, rfl, rfl⟩ | exact ⟨rfl, rfl, rfl, rfl, rfl⟩⟩)
          case measure => simp [intOf]; omega
        have HR : Hid ((nextS (l.take (j + 1))).1 = N.1) := by show _ = _; rw [HSN.out, HL.out]; exact congrArg Prod.fst (if_neg (by rintro (h | h); rw [hN3] at h; cases h; exact h9 h))
        go_wp2_with fail
        go_roundw
        case rel => first | exact ⟨j + 1, by go_num, by rw [HR.out], by omega, rfl⟩ | ((repeat apply Exists.intro); exact ⟨⟨j + 1, by go_num, by rw [HR.out], by omega, rfl⟩, by first | rfl | exact ⟨rfl, rfl⟩ | exact ⟨rfl, rfl, rfl⟩ | exact ⟨rfl, rfl, rfl, rfl⟩ | exact ⟨rfl, rfl, rfl, rfl, rfl⟩⟩)
        case measure => simp [intOf]; omega
      have e0 : (x.m.til != 0) = true := bne_iff_ne.2 h0
      by_cases h1 : x.m.til + 1 < x.due
      · have HL : Hid (lowN x = x.m.til + 1) := if_pos ⟨h0, h1⟩
        clear h0
        by_cases hj2 : j = 0
        · have ej : ((j : Int) == 0) = true := by rw [hj2]; rfl
          have hN3 : N.2 = false := by rw [hN2, hj2]; rfl
          clear hj2 hN2
          have HR : Hid ((nextS (l.take (j + 1))).1 = x.m.til + 1) := by show _ = _; rw [HSN.out, HL.out]; exact congrArg Prod.fst (if_pos (.inl hN3))
          go_wp2_with fail
          go_roundw
          case rel => first | exact ⟨j + 1, by go_num, by rw [HR.out], by omega, rfl⟩ | ((repeat apply Exists.intro); exact ⟨⟨j + 1, by go_num, by rw [HR.out], by omega, rfl⟩, by first | rfl | exact ⟨rfl, rfl⟩ | exact ⟨rfl, rfl, rfl⟩ | exact ⟨rfl, rfl, rfl, rfl⟩ | exact ⟨rfl, rfl, rfl, rfl, rfl⟩⟩)
          case measure => simp [intOf]; omega
        have ej : ((j : Int) == 0) = false := beq_eq_false_iff_ne.2 (by omega)
        have hN3 : N.2 = true := by rw [hN2]; exact decide_eq_true (by omega)
        clear hj2 hN2
        by_cases h9 : x.m.til + 1 < N.1
        · have HR : Hid ((nextS (l.take (j + 1))).1 = x.m.til + 1) := by show _ = _; rw [HSN.out, HL.out]; exact congrArg Prod.fst (if_pos (.inr h9))
          go_wp2_with fail
          go_roundw
          case rel => first | exact ⟨j + 1, by go_num, by rw [HR.out], by omega, rfl⟩ | ((repeat apply Exists.intro); exact ⟨⟨j + 1, by go_num, by rw [HR.out], by omega, rfl⟩, by first | rfl | exact ⟨rfl, rfl⟩ | exact ⟨rfl, rfl, rfl⟩ | exact ⟨rfl, rfl, rfl, rfl⟩ | exact ⟨rfl, rfl, rfl, rfl, rfl⟩⟩)
          case measure => simp [intOf]; omega
        have HR : Hid ((nextS (l.take (j + 1))).1 = N.1) := by show _ = _; rw [HSN.out, HL.out]; exact congrArg Prod.fst (if_neg (by rintro (h | h); rw [hN3] at h; cases h; exact h9 h))
        go_wp2_with fail
        go_roundw
        case rel => first | exact ⟨j + 1, by go_num, by rw [HR.out], by omega, rfl⟩ | ((repeat apply Exists.intro); exact ⟨⟨j + 1, by go_num, by rw [HR.out], by omega, rfl⟩, by first | rfl | exact ⟨rfl, rfl⟩ | exact ⟨rfl, rfl, rfl⟩ | exact ⟨rfl, rfl, rfl, rfl⟩ | exact ⟨rfl, rfl, rfl, rfl, rfl⟩⟩)
        case measure => simp [intOf]; omega
      have HL : Hid (lowN x = x.due) := if_neg fun h => h1 h.2
      clear h0
      by_cases hj2 : j = 0
      · have ej : ((j : Int) == 0) = true := by rw [hj2]; rfl
        have hN3 : N.2 = false := by rw [hN2, hj2]; rfl
        clear hj2 hN2
        have HR : Hid ((nextS (l.take (j + 1))).1 = x.due) := by show _ = _; rw [HSN.out, HL.out]; exact congrArg Prod.fst (if_pos (.inl hN3))
        go_wp2_with fail
        go_roundw
        case rel => first | exact ⟨j + 1, by go_num, by rw [HR.out], by omega, rfl⟩ | ((repeat apply Exists.intro); exact ⟨⟨j + 1, by go_num, by rw [HR.out], by omega, rfl⟩, by first | rfl | exact ⟨rfl, rfl⟩ | exact ⟨rfl, rfl, rfl⟩ | exact ⟨rfl, rfl, rfl, rfl⟩ | exact ⟨rfl, rfl, rfl, rfl, rfl⟩⟩)
        case measure => simp [intOf]; omega
      have ej : ((j : Int) == 0) = false := beq_eq_false_iff_ne.2 (by omega)
      have hN3 : N.2 = true := by rw [hN2]; exact decide_eq_true (by omega)
      clear hj2 hN2
      by_cases h9 : x.due < N.1
      · have HR : Hid ((nextS (l.take (j + 1))).1 = x.due) := by show _ = _; rw [HSN.out, HL.out]; exact congrArg Prod.fst (if_pos (.inr h9))
        go_wp2_with fail
        go_roundw
        case rel => first | exact ⟨j + 1, by go_num, by rw [HR.out], by omega, rfl⟩ | ((repeat apply Exists.intro); exact ⟨⟨j + 1, by go_num, by rw [HR.out], by omega, rfl⟩, by first | rfl | exact ⟨rfl, rfl⟩ | exact ⟨rfl, rfl, rfl⟩ | exact ⟨rfl, rfl, rfl, rfl⟩ | exact ⟨rfl, rfl, rfl, rfl, rfl⟩⟩)
        case measure => simp [intOf]; omega
      have HR : Hid ((nextS (l.take (j + 1))).1 = N.1) := by show _ = _; rw [HSN.out, HL.out]; exact congrArg Prod.fst (if_neg (by rintro (h | h); rw [hN3] at h; cases h; exact h9 h))
      go_wp2_with fail
      go_roundw
      case rel => first | exact ⟨j + 1, by go_num, by rw [HR.out], by omega, rfl⟩ | ((repeat apply Exists.intro); exact ⟨⟨j + 1, by go_num, by rw [HR.out], by omega, rfl⟩, by first | rfl | exact ⟨rfl, rfl⟩ | exact ⟨rfl, rfl, rfl⟩ | exact ⟨rfl, rfl, rfl, rfl⟩ | exact ⟨rfl, rfl, rfl, rfl, rfl⟩⟩)
      case measure => simp [intOf]; omega
    · obtain rfl : j = l.length := by omega
      rw [List.take_length]
      have h2 := nextS_two l
      rcases Nat.eq_zero_or_pos l.length with h0 | h0
      · have h3 : (nextS l).2 = false := by rw [h2, h0]; rfl
        have h4 : decide ((0 : Int) < (l.length : Int)) = false := decide_eq_false (by omega)
        go_wp2_with fail
        refine bodyPost_ret (results_tmp2 rfl _ _ _) rfl ?_
        exact ⟨by rw [h3]; rfl, rfl⟩
      · have h3 : (nextS l).2 = true := by rw [h2]; exact decide_eq_true h0
        have h4 : (0 : Int) < (l.length : Int) := by omega
        go_wp2_with fail
        refine bodyPost_ret (results_tmp2 rfl _ _ _) rfl ?_
        exact ⟨by rw [h3]; rfl, rfl⟩

set_option maxHeartbeats 16000000 in
set_option maxRecDepth 100000 in
theorem ackr_any (l : List SX) (id : Int) (a : Option Addr) (n c : Nat) (S : Nat → Prop) (w : World) (hrow : RS w S l a n c) (hS : ∀ b, S b → b < w.heap.size) (hsm : smallS l) (hn : n ≤ 65536) :
    Calls Tryd.prog 39 #[.slice a n c, .int .i64 id] w (SendP w (ackS l id).1 (ackS l id).2) := by
  obtain ⟨i0, hi0, hz0, hz1, hz2⟩ := info_parts infoS
  have hcl : c ≤ maxLen := hrow.2.2.1
  have hlc : n ≤ c := hrow.2.1
  obtain rfl : n = l.length := hrow.1
  unfold maxLen at hcl
  obtain ⟨X, hX⟩ : ∃ X, X = ackS l id := ⟨_, rfl⟩
  rw [← hX]
  have HX := Lib.hid hX
  have HPL := Lib.hid (place_any l id a l.length c S w hrow)
  have HC := Lib.hid (copys_any l a l.length c S w hrow hS hsm hn)
  have HROW := Lib.hid hrow
  have HS := Lib.hid hS
  have HSM := Lib.hid hsm
  clear hrow hS hsm hX
  go_enter Tryd.func39, Tryd.ntmps39
  go_wp2_with fail
  refine HPL.out.mono ?_
  rintro e w1 ⟨rfl, rfl⟩
  clear HPL
  by_cases h1 : placeS l id < 0
  · have hX2 : ackS l id = (l, 221) := if_pos h1
    obtain rfl := HX.out.trans hX2
    clear hX2
    go_wp2_with fail
    refine HC.out.mono ?_
    rintro e w3 ⟨a1, c1, S1, css1, rfl, ho, hb3⟩
    have HO := Lib.hid ho
    have T := Lib.hid hb3
    clear ho hb3 HC
    go_wp2_with fail
    refine bodyPost_ret (results_tmp2 rfl _ _ _) rfl ?_
    exact ⟨a1, c1, S1, css1, rfl, HO.out, T.out⟩
  obtain ⟨k, x, hk, hkl, hxk, -⟩ := placeS_some h1
  have hX2 : ackS l id = (l.take k ++ l.drop (k + 1), 0) := by rw [ackS, if_neg h1, hk, ← List.eraseIdx_eq_take_drop_succ]; rfl
  obtain rfl := HX.out.trans hX2
  obtain ⟨g, o, -, -, rfl, -⟩ := HROW.out.get hkl
  have HR1 := Lib.hid (HROW.out.take (j := k) (by omega))
  have HR2 := Lib.hid (HROW.out.drop hkl)
  have hlt1 : (l.take k).length = k := by rw [List.length_take]; omega
  have hlt2 : (l.drop (k + 1)).length = l.length - (k + 1) := List.length_drop
  have hk0 : (0 : Int) ≤ (k : Int) := by omega
  have hk1 : (k : Int) < (l.length : Int) := by omega
  have hk2 : ¬ (k : Int) < 0 := by omega
  have hk3 : (k : Int) + 1 ≤ (l.length : Int) := by omega
  have hk4 : (k : Int) ≤ (l.length : Int) := by omega
  have hk5 : (0 : Int) ≤ (k : Int) + 1 := by omega
  have hkc : k ≤ c := by omega
  have hkc1 : k + 1 ≤ c := by omega
  have hw1 : IntKind.i64.wrap ((k : Int) + 1) = (k : Int) + 1 := by rw [IntKind.wrap_i64]; omega
  rw [hk]
  clear hX2 h1 hk hxk HC
  go_upto_region 4 with fail
  refine wp_region_held_drew (S := (fun _ => True)) (by kernel_rfl) trivial (fun hHeld => ?_)
  obtain ⟨W1, hW1⟩ : ∃ W1, W1 = w.drew := ⟨_, rfl⟩
  have ht : Below w.heap.size w W1 := by rw [hW1]; exact (Below.refl _ _).drew
  rw [← hW1]
  have T := Lib.hid ht
  clear hW1 ht
  refine wpAnyH_take (i := 0) (v := ?_) rfl (by kernel_rfl) (by kernel_rfl) (by kernel_rfl) (fun _ _ _ h => h) (Or.inl ⟨by rfl, ?_⟩) hHeld ?_
  rotate_left
  · intro w hSw
    try dsimp only at hSw
    first | (go_simp; done) | (go_simp; with_reducible rfl)
  try simp only [Act.put, List.getElem_toArray, List.getElem_cons_zero, List.setIfInBounds_toArray, List.set_cons_zero, List.set_cons_succ]
  refine wpAnyH_take (i := 1) (v := ?_) rfl (by kernel_rfl) (by kernel_rfl) (by kernel_rfl) (fun _ _ _ h => h) (Or.inl ⟨by rfl, ?_⟩) hHeld ?_
  rotate_left
  · intro w hSw
    try dsimp only at hSw
    first | (go_simp; done) | (go_simp; with_reducible rfl)
  try simp only [Act.put, List.getElem_toArray, List.getElem_cons_zero, List.getElem_cons_succ, List.setIfInBounds_toArray, List.set_cons_zero, List.set_cons_succ]
  refine wpAnyH_take (i := 2) (v := ?_) rfl (by kernel_rfl) (by kernel_rfl) (by kernel_rfl) (fun _ _ _ h => h) (Or.inl ⟨by rfl, ?_⟩) hHeld ?_
  rotate_left
  · intro w hSw
    try dsimp only at hSw
    first | (go_simp; done) | (go_simp; with_reducible rfl)
  try simp only [Act.put, List.getElem_toArray, List.getElem_cons_zero, List.getElem_cons_succ, List.setIfInBounds_toArray, List.set_cons_zero, List.set_cons_succ]
  refine wpAnyH_take (i := 4) (v := ?_) rfl (by kernel_rfl) (by kernel_rfl) (by kernel_rfl) (fun _ _ _ h => h) (Or.inl ⟨by rfl, ?_⟩) hHeld ?_
  rotate_left
  · intro w hSw
    try dsimp only at hSw
    first | (go_simp; done) | (go_simp; with_reducible rfl)
  try simp only [Act.put, List.getElem_toArray, List.getElem_cons_zero, List.getElem_cons_succ, List.setIfInBounds_toArray, List.set_cons_zero, List.set_cons_succ]
  refine wpAnyH_take (i := 5) (v := ?_) rfl (by kernel_rfl) (by kernel_rfl) (by kernel_rfl) (fun _ _ _ h => h) (Or.inl ⟨by rfl, ?_⟩) hHeld ?_
  rotate_left
  · intro w hSw
    try dsimp only at hSw
    first | (go_simp; done) | (go_simp; with_reducible rfl)
  try simp only [Act.put, List.getElem_toArray, List.getElem_cons_zero, List.getElem_cons_succ, List.setIfInBounds_toArray, List.set_cons_zero, List.set_cons_succ]
  refine wpAnyH_take (i := 6) (v := ?_) rfl (by kernel_rfl) (by kernel_rfl) (by kernel_rfl) (fun _ _ _ h => h) (Or.inl ⟨by rfl, ?_⟩) hHeld ?_
  rotate_left
  · intro w hSw
    try dsimp only at hSw
    first | (go_simp; done) | (go_simp; with_reducible rfl)
  try simp only [Act.put, List.getElem_toArray, List.getElem_cons_zero, List.getElem_cons_succ, List.setIfInBounds_toArray, List.set_cons_zero, List.set_cons_succ]
  refine wpAnyH_take (i := 7) (v := ?_) rfl (by kernel_rfl) (by kernel_rfl) (by kernel_rfl) (fun _ _ _ h => h) (Or.inl ⟨by rfl, ?_⟩) hHeld ?_
  rotate_left
  · intro w hSw
    try dsimp only at hSw
    first | (go_simp; done) | (go_simp; with_reducible rfl)
  try simp only [Act.put, List.getElem_toArray, List.getElem_cons_zero, List.getElem_cons_succ, List.setIfInBounds_toArray, List.set_cons_zero, List.set_cons_succ]
  refine wpAnyH_ready (rs := [3]) (by kernel_rfl) (by simp) ?_
  refine AllReadyH.cons rfl (fun K hK => ?_) AllReadyH.nil
  go_simp
  go_at_call 27
  refine (copys_any (l.take k) _ _ _ S W1 (RS.under HR1.out T.out HS.out) (fun b hb => Nat.lt_of_lt_of_le (HS.out b hb) T.out.size) (small_take HSM.out k) (by omega)).mono ?_
  rintro e w3 ⟨a1, c1, S1, css1, rfl, ho1, hb⟩
  rw [hlt1] at ho1 ⊢
  have HO1 := Lib.hid (ho1.mono (show w.heap.size ≤ _ from T.out.size))
  have HF1 := Lib.hid (fun b hb => ho1.far_lt b hb)
  clear ho1
  refine hK.out _ _ trivial (fun hHeld2 => ?_)
  clear hHeld hK K
  have hHeld := hHeld2
  clear hHeld2
  try simp only [Act.put, List.getElem_toArray, List.getElem_cons_zero, List.getElem_cons_succ, List.setIfInBounds_toArray, List.set_cons_zero, List.set_cons_succ]
  replace T := Lib.hid (below_on hb T.out)
  clear hb
  refine wpAnyH_ready (rs := [8]) (by kernel_rfl) (by simp) ?_
  refine AllReadyH.cons rfl (fun K hK => ?_) AllReadyH.nil
  go_simp
  go_at_call 27
  refine (copys_any (l.drop (k + 1)) _ _ _ S w3 (RS.under HR2.out T.out HS.out) (fun b hb => Nat.lt_of_lt_of_le (HS.out b hb) T.out.size) (small_drop HSM.out (k + 1)) (by omega)).mono ?_
  rintro e w4 ⟨a2, c2, S2, css2, rfl, ho2, hb⟩
  replace HO1 := Lib.hid (HO1.out.below keepsS hb (Nat.le_refl _))
  have hS2 : Hid (∀ b, S2 b → w.heap.size ≤ b ∧ (Value.slice a1 k c1).ownBlock ≠ some b) := fun b hb2 => ⟨by have := (ho2.far b hb2).1; have := T.out.size; omega, fun e => by have := (ho2.far b hb2).1; have := (HF1.out b e).2; omega⟩
  have HO2 := Lib.hid ho2
  have HSRC := Lib.hid (OwnE.srcS ho2)
  clear ho2
  refine hK.out _ _ trivial (fun hHeld2 => ?_)
  clear hHeld hK K
  have hHeld := hHeld2
  clear hHeld2
  try simp only [Act.put, List.getElem_toArray, List.getElem_cons_zero, List.getElem_cons_succ, List.setIfInBounds_toArray, List.set_cons_zero, List.set_cons_succ]
  replace T := Lib.hid (below_on hb T.out)
  clear hb HF1
  have HROW1 : Hid (w4.ownsRow w.heap.size 62 15 (.slice a1 k c1) k css1.flatten) := by have h : w4.ownsRow _ _ _ _ _ _ := HO1.out.row; rw [hlt1] at h; exact h
  refine wpAnyH_ready (rs := [9]) (by kernel_rfl) (by simp) ?_
  refine AllReadyH.cons rfl (fun K hK => ?_) AllReadyH.nil
  refine step_append_lie (by rfl) _ _ _ (by rfl) w.heap.size 62 i0 _ 15 160 Tryd.underlying50 hi0 hz0 hz1 hz2 rfl (by omega) (.slice a1 k c1) k css1.flatten (by rfl) HROW1.out a2 (l.drop (k + 1)).length c2 css2.flatten (by rfl) HSRC.out.1 HSRC.out.2.1 HSRC.out.2.2.1 HSRC.out.2.2.2 (by unfold maxLen; omega) (by omega) (by have := T.out.size; omega) ?_
  intro v5 w5 hown5 hgrow5 hat5
  have HOV := Lib.hid (OwnE.moreS HO1.out HO2.out hS2.out (by rw [hlt1]; exact hown5) hgrow5 hat5)
  replace T : Hid (Below w.heap.size w w5) := T.out.grown hgrow5 T.out.size (fun q hq => (HO1.out.far_lt q hq).1)
  clear hown5 hgrow5 hat5
  refine hK.out _ _ trivial (fun hHeld2 => ?_)
  clear hHeld hK K
  have hHeld := hHeld2
  clear hHeld2
  try simp only [Act.put, List.getElem_toArray, List.getElem_cons_zero, List.getElem_cons_succ, List.setIfInBounds_toArray, List.set_cons_zero, List.set_cons_succ]
  refine wpAnyH_take (i := 10) (v := ?_) rfl (by kernel_rfl) (by kernel_rfl) (by kernel_rfl) (fun _ _ _ h => h) (Or.inl ⟨by rfl, ?_⟩) hHeld ?_
  rotate_left
  · intro w hSw
    try dsimp only at hSw
    first | (go_simp; done) | (go_simp; with_reducible rfl)
  try simp only [Act.put, List.getElem_toArray, List.getElem_cons_zero, List.getElem_cons_succ, List.setIfInBounds_toArray, List.set_cons_zero, List.set_cons_succ]
  refine wpAnyH_take (i := 11) (v := ?_) rfl (by kernel_rfl) (by kernel_rfl) (by kernel_rfl) (fun _ _ _ h => h) (Or.inl ⟨by rfl, ?_⟩) hHeld ?_
  rotate_left
  · intro w hSw
    try dsimp only at hSw
    first | (go_simp; done) | (go_simp; with_reducible rfl)
  try simp only [Act.put, List.getElem_toArray, List.getElem_cons_zero, List.getElem_cons_succ, List.setIfInBounds_toArray, List.set_cons_zero, List.set_cons_succ]
  refine wpAnyH_done (by kernel_rfl) ?_ _
  obtain ⟨av, cv, rfl⟩ := HOV.out.slice
  go_wp2_with fail
  all_goals
    refine bodyPost_ret (results_tmp2 rfl _ _ _) rfl ?_
    have hlen : (l.take k ++ l.drop (k + 1)).length = k + (l.length - (k + 1)) := by rw [List.length_append, hlt1, hlt2]
    have ho := HOV.out
    rw [hlen] at ho
    exact ⟨av, cv, _, _, by rw [hlen]; rfl, by rw [hlen]; exact ho, T.out⟩
end Go.Proofs.YtmdcfmdjbncaoaaDoor
/- AcksEnd: the walk. -/
namespace Go.Proofs.YtmdcfmdjbncaoaaDoor
open Go.RowKit
attribute [local go_sem ↓] Go.wp_at_zero Go.wp_at_succ
attribute [local go_sem] Go.undef

theorem fits_tilE {l : List SX} {p : PX} (h : FitS l p) : tilT l := fun x hx => by
  obtain ⟨j, hj⟩ := List.getElem?_of_mem hx
  exact (h.2 j x hj).1.2

set_option maxHeartbeats 16000000 in
set_option maxRecDepth 100000 in
theorem aend_go (l : List SX) (p : PX) (id now : Int) (a : Option Addr) (n c : Nat) (w : World) (hrow : RSX w l a n c) (hT : Tabs w) :
    Calls Tryd.prog 9 #[.slice a n c, .agg #[.int .i64 p.tries, .int .i64 p.base, .int .i64 p.most], .int .i64 id, .int .i64 now] w fun e w' => e = .returned (.bool true) ∧ Below w.heap.size w w' := by
  obtain rfl : n = l.length := hrow.1
  obtain ⟨W, hWd⟩ : ∃ W, W = w.alloc (.cells #[.int .i64 p.tries, .int .i64 p.base, .int .i64 p.most] 52) := ⟨_, rfl⟩
  have hW : Below w.heap.size w W := by rw [hWd]; go_grown
  have B5 : Hid (Blk W w.heap.size 52 #[.int .i64 p.tries, .int .i64 p.base, .int .i64 p.most]) := by show Blk _ _ _ _; rw [hWd]; exact Blk.new _ _ _
  have HROW := Lib.hid hrow
  have HTB := Lib.hid hT
  have T : Hid (Below w.heap.size w W) := hW
  have HWD := Lib.hid hWd
  clear hrow hT hW hWd
  go_enter Tryd.func9, Tryd.ntmps9
  go_upto_region 1 with fail
  show Code.wp _ _ _ _ (w.alloc (.cells #[.int .i64 p.tries, .int .i64 p.base, .int .i64 p.most] 52))
  rw [← HWD.out]
  clear HWD
  have HF := Lib.hid (fita_any l p now a l.length c _ W (HROW.out.on T.out) (fun _ h => h) (HTB.out.on T.out))
  go_wp2_with (refine wpList_load_blk rfl 52 _ rfl (w.heap.size) 0 rfl [.int .i64 p.tries, .int .i64 p.base, .int .i64 p.most] _ (Blk.range (pre := []) (post := []) B5.out rfl) Tryd.underlying52 rfl sizeP ?_)
  refine HF.out.mono ?_
  rintro e w1 ⟨fb, rfl, hfb, hb1⟩
  clear HF B5
  replace T := Lib.hid (below_on hb1 T.out)
  clear hb1
  cases fb with
  | false =>
    clear hfb
    go_wp2_with fail
    refine (awakek_any _).mono ?_
    rintro e w2 ⟨rfl, hb2⟩
    replace T := Lib.hid (below_on hb2 T.out)
    clear hb2
    go_wp2_with fail
    go_ret
    exact ⟨rfl, T.out⟩
  | true =>
  obtain ⟨-, -, -, hfs⟩ := hfb rfl
  have FIT := Lib.hid hfs
  have hln : l.length ≤ 1024 := hfs.1
  clear hfb hfs
  have HC := Lib.hid (copys_any l a l.length c _ w1 (HROW.out.on T.out) (fun _ h => h) (fits_small FIT.out) (by omega))
  go_wp2_with fail
  refine HC.out.mono ?_
  rintro e w3 ⟨a3, c3, S3, css3, rfl, ho, hb3⟩
  have RO : Hid (RSX w3 l a3 l.length c3) := RS.mono (ho.rows keepsS) (fun b hb => hb.2)
  replace T := Lib.hid (below_on hb3 T.out)
  clear hb3
  clear HC ho
  obtain ⟨X, hX⟩ : ∃ X, X = ackS l id := ⟨_, rfl⟩
  obtain ⟨Y, hY⟩ : ∃ Y, Y = nackS l id now := ⟨_, rfl⟩
  have HX := Lib.hid hX
  have HY := Lib.hid hY
  clear hX hY
  -- Ack
  have hp := ackp_any l id a3 l.length c3 _ w3 RO.out (fun _ h => h) (fits_small FIT.out) (by omega)
  rw [← HX.out] at hp
  have HQ := Lib.hid hp
  clear hp
  go_wp2_with fail
  refine HQ.out.mono ?_
  rintro e w4 ⟨a6, c6, S6, css6, rfl, ho6, hb4⟩
  have R6 : Hid (RSX w4 X.1 a6 X.1.length c6) := RS.mono (ho6.rows keepsS) (fun b hb => hb.2)
  replace RO := Lib.hid (RSX.on RO.out hb4)
  replace T := Lib.hid (below_on hb4 T.out)
  clear hb4
  clear HQ ho6
  have hp := ackr_any l id a l.length c _ w4 (HROW.out.on T.out) (fun _ h => h) (fits_small FIT.out) (by omega)
  rw [← HX.out] at hp
  have HQ := Lib.hid hp
  clear hp HX
  go_wp2_with fail
  refine HQ.out.mono ?_
  rintro e w5 ⟨b6, k6, Z6, cst6, rfl, ho6, hb5⟩
  have Q6 : Hid (RSX w5 X.1 b6 X.1.length k6) := RS.mono (ho6.rows keepsS) (fun b hb => hb.2)
  replace RO := Lib.hid (RSX.on RO.out hb5)
  replace R6 := Lib.hid (RSX.on R6.out hb5)
  replace T := Lib.hid (below_on hb5 T.out)
  clear hb5
  clear HQ ho6
  -- Nack
  have hp := nackp_any l id now a3 l.length c3 _ w5 RO.out (fun _ h => h) (fits_small FIT.out) (by omega)
  rw [← HY.out] at hp
  have HQ := Lib.hid hp
  clear hp
  go_wp2_with fail
  refine HQ.out.mono ?_
  rintro e w6 ⟨a7, c7, S7, css7, rfl, ho7, hb6⟩
  have R7 : Hid (RSX w6 Y.1 a7 Y.1.length c7) := RS.mono (ho7.rows keepsS) (fun b hb => hb.2)
  replace RO := Lib.hid (RSX.on RO.out hb6)
  replace R6 := Lib.hid (RSX.on R6.out hb6)
  replace Q6 := Lib.hid (RSX.on Q6.out hb6)
  replace T := Lib.hid (below_on hb6 T.out)
  clear hb6
  clear HQ ho7
  have hp := nackr_any l id now a l.length c _ w6 (HROW.out.on T.out) (fun _ h => h) (fits_small FIT.out) (by omega)
  rw [← HY.out] at hp
  have HQ := Lib.hid hp
  clear hp HY
  go_wp2_with fail
  refine HQ.out.mono ?_
  rintro e w7 ⟨b7, k7, Z7, cst7, rfl, ho7, hb7⟩
  have Q7 : Hid (RSX w7 Y.1 b7 Y.1.length k7) := RS.mono (ho7.rows keepsS) (fun b hb => hb.2)
  replace RO := Lib.hid (RSX.on RO.out hb7)
  replace R6 := Lib.hid (RSX.on R6.out hb7)
  replace Q6 := Lib.hid (RSX.on Q6.out hb7)
  replace R7 := Lib.hid (RSX.on R7.out hb7)
  replace T := Lib.hid (below_on hb7 T.out)
  clear hb7
  clear HQ ho7
  -- Next
  obtain ⟨N, hN⟩ : ∃ N, N = nextS l := ⟨_, rfl⟩
  have HN := Lib.hid hN
  clear hN
  have hp := nexts_any l a3 l.length c3 _ w7 RO.out (fun _ h => h) (fits_tilE FIT.out)
  rw [← HN.out] at hp
  have HQ := Lib.hid hp
  clear hp
  go_wp2_with fail
  refine HQ.out.mono ?_
  rintro e w8 ⟨rfl, hb8⟩
  replace RO := Lib.hid (RSX.on RO.out hb8)
  replace R6 := Lib.hid (RSX.on R6.out hb8)
  replace Q6 := Lib.hid (RSX.on Q6.out hb8)
  replace R7 := Lib.hid (RSX.on R7.out hb8)
  replace Q7 := Lib.hid (RSX.on Q7.out hb8)
  replace T := Lib.hid (below_on hb8 T.out)
  clear hb8
  clear HQ
  have hp := nextrs_any l a l.length c _ w8 (HROW.out.on T.out) (fits_tilE FIT.out)
  rw [← HN.out] at hp
  have HQ := Lib.hid hp
  clear hp HN
  go_wp2_with fail
  refine HQ.out.mono ?_
  rintro e w9 ⟨rfl, rfl⟩
  clear HQ
  have HSB := Lib.hid (sames_yes X.1 a6 b6 _ _ c6 k6 _ _ w8 R6.out Q6.out (fun _ h => h) (fun _ h => h))
  go_wp2_with fail
  refine HSB.out.mono ?_
  rintro e w10 ⟨rfl, hb10⟩
  replace RO := Lib.hid (RSX.on RO.out hb10)
  replace R7 := Lib.hid (RSX.on R7.out hb10)
  replace Q7 := Lib.hid (RSX.on Q7.out hb10)
  replace T := Lib.hid (below_on hb10 T.out)
  clear hb10
  clear HSB R6 Q6
  have HSB := Lib.hid (sames_yes Y.1 a7 b7 _ _ c7 k7 _ _ w10 R7.out Q7.out (fun _ h => h) (fun _ h => h))
  go_wp2_with fail
  refine HSB.out.mono ?_
  rintro e w11 ⟨rfl, hb11⟩
  replace RO := Lib.hid (RSX.on RO.out hb11)
  replace T := Lib.hid (below_on hb11 T.out)
  clear hb11
  clear HSB R7 Q7
  have HSB := Lib.hid (sames_yes l a3 a _ _ c3 c _ _ w11 RO.out (HROW.out.on T.out) (fun _ h => h) (fun _ h => h))
  have hbb : (N.2 == N.2) = true := beq_self_eq_true _
  go_wp2_with fail
  refine HSB.out.mono ?_
  rintro e w12 ⟨rfl, hb12⟩
  replace T := Lib.hid (below_on hb12 T.out)
  clear hb12
  clear HSB
  go_wp2_with fail
  refine (awakek_any _).mono ?_
  rintro e w13 ⟨rfl, hb13⟩
  replace T := Lib.hid (below_on hb13 T.out)
  clear hb13
  go_wp2_with fail
  go_ret
  exact ⟨rfl, T.out⟩
end Go.Proofs.YtmdcfmdjbncaoaaDoor
/- AcksEnd met with its arguments as they come in. -/
namespace Go.Proofs.YtmdcfmdjbncaoaaDoor
open Go.RowKit Go.ChangeShapes Go.WideShapes Go.Deep
set_option maxRecDepth 100000 in
theorem walk_AcksEnd {H : Type} {enc : TypeId × Value → H} {base : Nat} (v v1 : Value) (id now : Int) {d d1 : DataW H} {q q1 : List MemPlace} (W : World) (ok : Value.okWide Tryd.prog W .any base 50 v)
    (tr : DataW.Trod enc Tryd.prog W 0 (fun _ => true) true 50 v d q) (ok1 : Value.okWide Tryd.prog W .any base 52 v1)
    (tr1 : DataW.Trod enc Tryd.prog W 0 (fun _ => true) true 52 v1 d1 q1) (_ : (Lit.int .i64 id).wf = true) (_ : (Lit.int .i64 now).wf = true) (hT : Tabs W) :
    Calls Tryd.prog 9 #[v, v1, .int .i64 id, .int .i64 now] W fun e w' => e = .returned (.bool true) ∧ Below W.heap.size W w' := by
  obtain ⟨l, a, n, c, rfl, hr⟩ := sents_arg ok tr
  obtain ⟨p, rfl⟩ := policy_arg ok1 tr1
  exact aend_go l p id now a n c W hr hT
end Go.Proofs.YtmdcfmdjbncaoaaDoor
