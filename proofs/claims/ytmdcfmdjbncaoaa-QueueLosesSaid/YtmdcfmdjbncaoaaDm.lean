/- slices.Delete of one message. -/
import Derived.Test.YtmdcfmdjbncaoaaDl
import Derived.Test.YtmdcfmdjbncaoaaMq
namespace Go.Proofs.Ytmdcfmdjbncaoaa
open Go.RowKit
attribute [local go_sem ↓] Go.wp_at_zero Go.wp_at_succ

def zeroC : List Value := [.int .i64 0, .string ByteArray.empty, .int .i64 0, .int .i64 0, .int .u64 0, .string ByteArray.empty, .slice none 0 0, .int .i64 0, .int .i64 0, .string ByteArray.empty, .int .i64 0, .int .i64 0, .int .i64 0]
theorem zeroC_one : ∀ v ∈ zeroC, v.oneCell' = true := by simp [zeroC, Value.oneCell']
theorem zeroV (w : World) : (zeroValue 48).run Try.prog w = .ok (.agg zeroC.toArray) w := by kernel_rfl

/-- One message is struck out of a row of the call's own. -/
def DelPost (w : World) (B : Nat) (l : List MX) (k : Nat) (a : Option Addr) (n c : Nat) (S : Nat → Prop) (css : List (List Value)) (e : Ending) (w' : World) : Prop :=
  e = .returned (.slice a (n - 1) c) ∧ OwnE IsM 48 13 w' B (l.eraseIdx k) (.slice a (n - 1) c) S (css.eraseIdx k) ∧ (∀ q, a ≠ some ⟨q, 0, none⟩ → w'.heap[q]? = w.heap[q]?) ∧ w'.heap.size = w.heap.size ∧ ∀ C, C ≤ B → Below C w w'

set_option maxHeartbeats 4000000 in
set_option maxRecDepth 100000 in
theorem del_any (l : List MX) (k n c B : Nat) (a : Option Addr) (S : Nat → Prop) (css : List (List Value)) (w : World) (h : OwnE IsM 48 13 w B l (.slice a n c) S css) (hk : k < n) :
    Calls Try.prog 43 #[.slice a n c, .int .i64 k, .int .i64 ((k : Int) + 1)] w (DelPost w B l k a n c S css) := by
  obtain ⟨b, X, spare, rfl, hnl, hX, hXl, hsp, hnc, hcm, hBb, hblk, hA, hM⟩ := h.parts hk
  obtain ⟨i0, hi0, hz0, hz1, hz2⟩ := info_parts infoM
  unfold maxLen at hcm
  -- what is moved
  obtain ⟨news, hnews⟩ : ∃ news, news = (css.drop (k + 1)).flatten := ⟨_, rfl⟩
  obtain ⟨A, hAd⟩ : ∃ A, A = (css.take k).flatten := ⟨_, rfl⟩
  have hone : ∀ u ∈ news, u.oneCell' = true := by
    intro u hu
    rw [hnews] at hu
    obtain ⟨cs, hc, hu⟩ := List.mem_flatten.1 hu
    obtain ⟨j, hj, rfl⟩ := List.getElem_of_mem (List.mem_of_mem_drop hc)
    obtain ⟨cs', g1, g2⟩ := h.at_ j _ (List.getElem?_eq_getElem (by rw [← h.len]; exact hj))
    rw [List.getElem?_eq_getElem hj] at g1
    injection g1 with g1
    rw [g1] at hu
    exact g2.one u hu
  rw [← hnews, ← hAd] at hblk
  rw [← hnews] at hM
  rw [← hAd] at hA
  have hsize : (A ++ X ++ news ++ spare).length = c * 13 := by
    rw [List.length_append, List.length_append, List.length_append, hA, hXl, hM, hsp]
    omega
  obtain ⟨ad, had, hsrc⟩ : ∃ ad : Addr, (if c = k + 1 then some (⟨b, 0, none⟩ : Addr) else some ⟨b, (k + 1) * 13, none⟩) = some ad ∧ Hid (∀ t u, news[t]? = some u → w.drew.cell? (ad.add t) = some u) := by
    by_cases hck : c = k + 1
    · refine ⟨⟨b, 0, none⟩, by simp [hck], fun t u hu => ?_⟩
      have h0 : news.length = 0 := by rw [hM]; omega
      rw [List.length_eq_zero_iff.1 h0] at hu
      simp at hu
    · refine ⟨⟨b, (k + 1) * 13, none⟩, by simp [hck], fun t u hu => ?_⟩
      have hr := hblk.range (pre := A ++ X) (mid := news) (post := spare) (by simp)
      have := hr t u hu
      rw [Addr.add_mid]
      rw [List.length_append, hA, hXl] at this
      rw [show (k + 1) * 13 + t = k * 13 + 13 + t by omega]
      exact this
  -- the world behind the append, and behind clear
  obtain ⟨W1, hW1⟩ : ∃ W1, w.drew.setCells b (k * 13) news = W1 := ⟨_, rfl⟩
  have hU1 : Upd b w.drew W1 := by rw [← hW1]; exact upd_setCells b news (k * 13) w.drew
  have hbl1 : Blk W1 b 48 (A ++ news ++ ((X ++ news).drop news.length ++ spare)).toArray := by
    rw [← hW1]
    refine blk_setCells news w.drew (k * 13) A ((X ++ news).take news.length) _ ?_ hA (by rw [List.length_take, List.length_append]; omega)
    have : A ++ (X ++ news).take news.length ++ ((X ++ news).drop news.length ++ spare) = A ++ X ++ news ++ spare := by
      rw [List.append_assoc, ← List.append_assoc ((X ++ news).take news.length), List.take_append_drop]
      simp
    rw [this]
    exact hblk
  have hold : ((X ++ news).drop news.length).length = zeroC.length := by
    rw [List.length_drop, List.length_append, hXl]
    show 13 + news.length - news.length = 13
    omega
  have hpre : (A ++ news).length = (k + (n - (k + 1))) * 13 := by rw [List.length_append, hA, hM, Nat.add_mul]
  have hbl1' : Blk W1 b 48 (A ++ news ++ (X ++ news).drop news.length ++ spare).toArray := by rw [List.append_assoc (A ++ news)]; exact hbl1
  have hcl0 := fun ty => run_clear_one (P := Try.prog) W1 44 48 ty (.agg zeroC.toArray) zeroC Try.underlying44 zeroV rfl (by decide) zeroC_one b ((k + (n - (k + 1))) * 13) (c - (k + (n - (k + 1)))) (hbl1'.there (by rw [List.size_toArray]; simp only [List.length_append] at hpre hold ⊢; omega))
  have he1 : n - (k + (n - (k + 1))) = 1 := by omega
  have hcl : ∀ ty, (Builtin.clear_ #[44] ty #[.slice (some ⟨b, (k + (n - (k + 1))) * 13, none⟩) (n - (k + (n - (k + 1)))) (c - (k + (n - (k + 1))))]).run Try.prog W1 = .ok (.tuple #[]) (W1.setCells b ((k + (n - (k + 1))) * 13) zeroC) := by rw [he1]; exact hcl0
  have hU2 := upd_setCells b zeroC ((k + (n - (k + 1))) * 13) W1
  have hbl2 := blk_setCells zeroC W1 ((k + (n - (k + 1))) * 13) (A ++ news) ((X ++ news).drop news.length) spare hbl1' hpre hold
  have hfin : DelPost w B l k (some ⟨b, 0, none⟩) n c S css (.returned (.slice (some ⟨b, 0, none⟩) (n - 1) c)) (W1.setCells b ((k + (n - (k + 1))) * 13) zeroC) := by
    refine ⟨rfl, OwnE.erase keepsM h hk hnl hnc (by unfold maxLen; exact hcm) hBb rfl hsp (by rw [← hAd, ← hnews]; exact hbl2) (fun q hq => (hU2.far q hq).trans (hU1.far q hq)) (hU2.size.trans hU1.size) (by rw [← hAd]; exact hA) (by rw [← hnews]; exact hM), fun q hq => ?_, hU2.size.trans hU1.size, fun C hC => ?_⟩
    · have hqb : q ≠ b := fun e => hq (by rw [e])
      exact (hU2.far q hqb).trans (hU1.far q hqb)
    · exact ((Below.refl _ _).drew.trans (hU1.below C (by omega))).trans (hU2.below C (by omega))
  have h3 : Hid (∀ t, t < news.length → (w.drew.cell? ⟨b, 0 + k * 13 + t, none⟩).isSome = true ∧ w.drew.frozen? ⟨b, 0 + k * 13 + t, none⟩ = false) := by
    intro t ht
    have := hblk.drew.there (o := k * 13) (n := news.length) (by rw [List.size_toArray, hsize]; omega) t ht
    rw [Nat.zero_add]
    exact this
  have HM : Hid (news.length = (n - (k + 1)) * 13) := hM
  have HONE := Lib.hid hone
  have HFIN := Lib.hid hfin
  have HW1 : Hid (w.drew.setCells b (0 + k * 13) news = W1) := by rw [Nat.zero_add]; exact hW1
  have hkc : k ≤ c := by omega
  have hkn : ¬ (k : Int) = (k : Int) + 1 := by omega
  have hk0 : (0 : Int) ≤ (k : Int) := by omega
  have hk1 : (0 : Int) ≤ (k : Int) + 1 := by omega
  have hk2 : (k : Int) + 1 ≤ (n : Int) := by omega
  have hk3 : (k : Int) ≤ (n : Int) := by omega
  have he2 : k + (n - (k + 1)) = n - 1 := by omega
  have HE2 := Lib.hid he2
  clear hcl0 he1 he2 hnl hfin hbl2 hbl1 hbl1' hU1 hU2 hold hpre hsize hone hblk hA hM hsp hXl hX hnews hAd hW1 h
  go_enter Try.func43, Try.ntmps43
  go_wp2_with fail
  go_region_law (refine step_append_room rfl (.tmp 22) (.tmp 25) 44 rfl 48 i0 13 Try.underlying44 hi0 hz1 b 0 k c (by simp [Act.eval, Act.put]) ad (n - (k + 1)) (c - (k + 1)) news (by simp [Act.eval, Act.put]) HM.out hsrc.out HONE.out (by omega) h3.out ?_; rw [HW1.out])
  go_wp2_with fail
  go_ret
  have h := HFIN.out
  show DelPost w B l k (some ⟨b, 0, none⟩) n c S css (.returned (.slice (some ⟨b, 0, none⟩) (k + (n - (k + 1))) c)) _
  rw [show (Value.slice (some ⟨b, 0, none⟩) (k + (n - (k + 1))) c) = .slice (some ⟨b, 0, none⟩) (n - 1) c by rw [HE2.out]]
  exact h
end Go.Proofs.Ytmdcfmdjbncaoaa
