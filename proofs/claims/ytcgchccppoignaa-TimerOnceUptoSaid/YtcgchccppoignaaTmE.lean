/- Timer: the rings of a wheel in memory; to tie a timer into a ring, to take it out of one. -/
import Derived.Test.YtcgchccppoignaaTmD
namespace Go.Proofs.Ytcgchccppoignaa
open Go.RowKit

/-- A timer that waits: its block, its tick, its number, its id. -/
structure Tm where
  g : Nat
  at_ : Nat
  seq : Nat
  id : Int
abbrev ad (x : Tm) : NA := (x.g, 0)
def Nodes (b : Nat) (L : List Tm) (a : NA) : Prop := (∃ k, k < 448 ∧ a = hd b k) ∨ ∃ x, x ∈ L ∧ a = ad x
structure Dat (w : World) (x : Tm) : Prop where
  t : w.cell? ⟨x.g, 2, none⟩ = some (.int .i64 x.at_)
  s : w.cell? ⟨x.g, 3, none⟩ = some (.int .i64 x.seq)
  i : w.cell? ⟨x.g, 4, none⟩ = some (.int .i64 x.id)
  p : Pl w x.g
/-- Rings hold timers of the list, each in one place at most. -/
structure Ok (b : Nat) (L : List Tm) (ρ : Nat → List Tm) : Prop where
  xb : ∀ x, x ∈ L → x.g ≠ b
  inj : ∀ x y, x ∈ L → y ∈ L → x.g = y.g → x = y
  mem : ∀ k, k < 448 → ∀ x, x ∈ ρ k → x ∈ L
  nd : ∀ k, k < 448 → (ρ k).Nodup
  one : ∀ k j x, k < 448 → j < 448 → x ∈ ρ k → x ∈ ρ j → k = j
def Segs (b : Nat) (ρ : Nat → List Tm) (nx pv : NA → NA) : Prop := ∀ k, k < 448 → Seg nx pv (hd b k) ((ρ k).map ad) (hd b k)
structure Rg (w : World) (b : Nat) (L : List Tm) (ρ : Nat → List Tm) : Prop where
  ok : Ok b L ρ
  pb : Pl w b
  dat : ∀ x, x ∈ L → Dat w x
  lk : ∃ nx pv, Lk w (Nodes b L) nx pv ∧ Segs b ρ nx pv
/-- .. but for the links of x, which is in no ring. -/
structure RgX (w : World) (b : Nat) (L : List Tm) (ρ : Nat → List Tm) (x : Tm) : Prop where
  ok : Ok b L ρ
  pb : Pl w b
  xl : x ∈ L
  out : ∀ k, k < 448 → x ∉ ρ k
  dat : ∀ x, x ∈ L → Dat w x
  nd : ∃ p n, Nd w x.g 0 p n
  lk : ∃ nx pv, Lk w (fun a => Nodes b L a ∧ a ≠ ad x) nx pv ∧ Segs b ρ nx pv
def putR (ρ : Nat → List Tm) (k : Nat) (x : Tm) : Nat → List Tm := fun j => if j = k then ρ j ++ [x] else ρ j
def dropR (ρ : Nat → List Tm) (k : Nat) (x : Tm) : Nat → List Tm := fun j => if j = k then (ρ j).filter (fun y => y.g != x.g) else ρ j

section
variable {w w' : World} {b : Nat} {L : List Tm} {ρ : Nat → List Tm} {x : Tm} {k : Nat}
theorem hd_ne {k j : Nat} (h : k ≠ j) : hd b k ≠ hd b j := fun e => by
  have := congrArg Prod.snd e
  simp only [hd] at this
  omega
theorem Ok.sep (h : Ok b L ρ) : Sep (Nodes b L) := by
  rintro p q (⟨k, hk, rfl⟩ | ⟨x, hx, rfl⟩) (⟨j, hj, rfl⟩ | ⟨y, hy, rfl⟩) e
  · show 3 + 5 * k = 3 + 5 * j ∨ 3 + 5 * k + 5 ≤ 3 + 5 * j ∨ 3 + 5 * j + 5 ≤ 3 + 5 * k
    omega
  · exact absurd e.symm (h.xb y hy)
  · exact absurd e (h.xb x hx)
  · exact .inl rfl
theorem Ok.ad_hd (h : Ok b L ρ) (hx : x ∈ L) (k : Nat) : ad x ≠ hd b k := fun e => h.xb x hx (congrArg Prod.fst e)
theorem Ok.ad_inj (h : Ok b L ρ) {x y : Tm} (hx : x ∈ L) (hy : y ∈ L) (e : ad x = ad y) : x = y := h.inj x y hx hy (congrArg Prod.fst e)
theorem Ok.map_mem (h : Ok b L ρ) (hk : k < 448) (hx : x ∈ L) (hm : ad x ∈ (ρ k).map ad) : x ∈ ρ k := by
  obtain ⟨y, hy, e⟩ := List.mem_map.1 hm
  rw [← h.ad_inj (h.mem k hk y hy) hx e]
  exact hy
theorem nodup_map {l : List Tm} (hn : l.Nodup) (hi : ∀ x y, x ∈ l → y ∈ l → ad x = ad y → x = y) : (l.map ad).Nodup := by
  induction l with
  | nil => exact List.nodup_nil
  | cons a l ih =>
    obtain ⟨h1, h2⟩ := List.nodup_cons.1 hn
    refine List.nodup_cons.2 ⟨fun hm => ?_, ih h2 fun x y hx hy => hi x y (by simp [hx]) (by simp [hy])⟩
    obtain ⟨y, hy, e⟩ := List.mem_map.1 hm
    exact h1 (by rw [← hi y a (by simp [hy]) (by simp) e]; exact hy)
theorem Ok.ring_nodup (h : Ok b L ρ) (hk : k < 448) : (hd b k :: (ρ k).map ad).Nodup := by
  refine List.nodup_cons.2 ⟨fun hm => ?_, nodup_map (h.nd k hk) fun x y hx hy => h.ad_inj (h.mem k hk x hx) (h.mem k hk y hy)⟩
  obtain ⟨y, hy, e⟩ := List.mem_map.1 hm
  exact h.ad_hd (h.mem k hk y hy) k e
/-- The nodes of a ring. -/
def InR (b : Nat) (ρ : Nat → List Tm) (k : Nat) (a : NA) : Prop := a = hd b k ∨ ∃ x, x ∈ ρ k ∧ a = ad x
theorem Ok.inr_node (h : Ok b L ρ) (hk : k < 448) {a : NA} (ha : InR b ρ k a) : Nodes b L a := by
  rcases ha with rfl | ⟨x, hx, rfl⟩
  · exact .inl ⟨k, hk, rfl⟩
  · exact .inr ⟨x, h.mem k hk x hx, rfl⟩
theorem Ok.inr_apart (h : Ok b L ρ) {k j : Nat} (hk : k < 448) (hj : j < 448) (hne : j ≠ k) {a c : NA} (ha : InR b ρ k a) (hc : InR b ρ j c) : c ≠ a := by
  rcases ha with rfl | ⟨x, hx, rfl⟩
  · rcases hc with rfl | ⟨y, hy, rfl⟩
    · exact hd_ne hne
    · exact h.ad_hd (h.mem j hj y hy) k
  · rcases hc with rfl | ⟨y, hy, rfl⟩
    · exact (h.ad_hd (h.mem k hk x hx) j).symm
    · intro e
      have := h.ad_inj (h.mem j hj y hy) (h.mem k hk x hx) e
      subst this
      exact hne (h.one j k y hj hk hy hx)
theorem Ok.inr_x (h : Ok b L ρ) (hx : x ∈ L) (ho : ∀ k, k < 448 → x ∉ ρ k) {j : Nat} (hj : j < 448) {c : NA} (hc : InR b ρ j c) : c ≠ ad x := by
  rcases hc with rfl | ⟨y, hy, rfl⟩
  · exact (h.ad_hd hx j).symm
  · intro e
    have := h.ad_inj (h.mem j hj y hy) hx e
    subst this
    exact ho j hj hy
theorem seg_list_in {l : List Tm} {a : NA} (h : ∀ x, x ∈ l → x ∈ ρ k) (ha : a = hd b k ∨ a ∈ l.map ad) : InR b ρ k a := by
  rcases ha with rfl | ha
  · exact .inl rfl
  · obtain ⟨y, hy, rfl⟩ := List.mem_map.1 ha
    exact .inr ⟨y, h y hy, rfl⟩
/-- Another ring's links stay. -/
theorem Ok.seg_other (_h : Ok b L ρ) {nx pv nx' pv' : NA → NA} {j : Nat} (hs : Segs b ρ nx pv) (hj : j < 448) (h1 : ∀ c, InR b ρ j c → nx' c = nx c) (h2 : ∀ c, InR b ρ j c → pv' c = pv c) : Seg nx' pv' (hd b j) ((ρ j).map ad) (hd b j) :=
  (hs j hj).keep (fun c hc => h1 c (seg_list_in (fun _ h => h) hc)) (fun c hc => h2 c (seg_list_in (fun _ h => h) hc.symm))
theorem Dat.lw (hd : Dat w x) (h : Ok b L ρ) (hx : x ∈ L) (hl : LW (Nodes b L) w w') : Dat w' x := by
  have key : ∀ o, 2 ≤ o → w'.cell? ⟨x.g, o, none⟩ = w.cell? ⟨x.g, o, none⟩ := fun o ho => hl.cell x.g o fun a ha e => by
    rcases ha with ⟨j, hj, rfl⟩ | ⟨y, hy, rfl⟩
    · exact absurd e (h.xb x hx)
    · constructor
      · show o ≠ 0; omega
      · show o ≠ 0 + 1; omega
  exact ⟨(key 2 (by omega)).trans hd.t, (key 3 (by omega)).trans hd.s, (key 4 (by omega)).trans hd.i, hl.pl _ hd.p⟩
theorem Ok.put (h : Ok b L ρ) (hx : x ∈ L) (ho : ∀ k, k < 448 → x ∉ ρ k) : Ok b L (putR ρ k x) where
  xb := h.xb
  inj := h.inj
  mem := fun j hj y hy => by
    unfold putR at hy
    split at hy
    · rcases List.mem_append.1 hy with hy | hy
      · exact h.mem j hj y hy
      · simp at hy; subst hy; exact hx
    · exact h.mem j hj y hy
  nd := fun j hj => by
    unfold putR
    split
    · refine List.nodup_append.2 ⟨h.nd j hj, by simp, fun a ha c hc => ?_⟩
      simp at hc
      subst hc
      intro e
      subst e
      exact ho j hj ha
    · exact h.nd j hj
  one := fun i j y hi hj hy1 hy2 => by
    unfold putR at hy1 hy2
    split at hy1 <;> split at hy2
    · omega
    · rcases List.mem_append.1 hy1 with hy1 | hy1
      · exact h.one i j y hi hj hy1 hy2
      · simp at hy1; subst hy1; exact absurd hy2 (ho j hj)
    · rcases List.mem_append.1 hy2 with hy2 | hy2
      · exact h.one i j y hi hj hy1 hy2
      · simp at hy2; subst hy2; exact absurd hy1 (ho i hi)
    · exact h.one i j y hi hj hy1 hy2
theorem drop_sub {j : Nat} {y : Tm} (hy : y ∈ dropR ρ k x j) : y ∈ ρ j := by
  unfold dropR at hy
  split at hy
  · exact (List.mem_filter.1 hy).1
  · exact hy
theorem Ok.drop (h : Ok b L ρ) : Ok b L (dropR ρ k x) where
  xb := h.xb
  inj := h.inj
  mem := fun j hj y hy => h.mem j hj y (drop_sub hy)
  nd := fun j hj => by
    unfold dropR
    split
    · exact (h.nd j hj).filter _
    · exact h.nd j hj
  one := fun i j y hi hj hy1 hy2 => h.one i j y hi hj (drop_sub hy1) (drop_sub hy2)
theorem Ok.out (h : Ok b L ρ) (hk : k < 448) (hx : x ∈ ρ k) : ∀ j, j < 448 → x ∉ dropR ρ k x j := fun j hj hm => by
  have e := h.one j k x hj hk (drop_sub hm) hx
  subst e
  rw [dropR, if_pos rfl] at hm
  simpa using (List.mem_filter.1 hm).2
theorem Ok.filter_split (h : Ok b L ρ) (hk : k < 448) {l1 l2 : List Tm} (e : ρ k = l1 ++ x :: l2) : (ρ k).filter (fun y => y.g != x.g) = l1 ++ l2 := by
  have hn := h.nd k hk
  have hm := h.mem k hk
  rw [e] at hn hm ⊢
  obtain ⟨n1, n2, n3⟩ := List.nodup_append.1 hn
  have key : ∀ l : List Tm, (∀ y, y ∈ l → y ∈ l1 ++ x :: l2) → x ∉ l → l.filter (fun y => y.g != x.g) = l := fun l hl hx => List.filter_eq_self.2 fun y hy => by
    simp only [bne_iff_ne, ne_eq]
    intro eg
    exact hx (by rw [← h.inj y x (hm y (hl y hy)) (hm x (by simp)) eg]; exact hy)
  rw [List.filter_append, List.filter_cons, if_neg (by simp), key l1 (fun y hy => by simp [hy]) (fun hx => n3 x hx x (by simp) rfl), key l2 (fun y hy => by simp [hy]) (List.nodup_cons.1 n2).1]

/-- To tie a timer, which is in no ring, into one. -/
theorem behind_rg (h : RgX w b L ρ x) (hk : k < 448) :
    Calls Try.prog 30 #[pa (ad x), pa (hd b k)] w fun e w' => e = .returned (.tuple #[]) ∧ Rg w' b L (putR ρ k x) ∧ LW (Nodes b L) w w' := by
  obtain ⟨nx, pv, hl, hs⟩ := h.lk
  obtain ⟨p, n, hnd⟩ := h.nd
  have hpv : InR b ρ k (pv (hd b k)) := by
    have e := Seg.last (hs k hk)
    rw [e]
    have := List.getLast_mem (l := hd b k :: (ρ k).map ad) (by simp)
    exact seg_list_in (fun _ h => h) (List.mem_cons.1 this)
  have he : Nodes b L (ad x) := .inr ⟨x, h.xl, rfl⟩
  have hh : Nodes b L (hd b k) := .inl ⟨k, hk, rfl⟩
  have hne1 : hd b k ≠ ad x := h.ok.inr_x h.xl h.out hk (.inl rfl)
  have hne2 : pv (hd b k) ≠ ad x := h.ok.inr_x h.xl h.out hk hpv
  refine (behind_lk h.ok.sep hl he hh (h.ok.inr_node hk hpv) hnd hne1 hne2).mono ?_
  rintro e w' ⟨rfl, hl', hlw⟩
  refine ⟨rfl, ⟨h.ok.put h.xl h.out, hlw.pl _ h.pb, fun y hy => (h.dat y hy).lw h.ok hy hlw, _, _, hl', fun j hj => ?_⟩, hlw⟩
  unfold putR
  split
  · rename_i ej
    subst ej
    rw [List.map_append]
    refine Seg.behind (hs j hj) (h.ok.ring_nodup hj) fun hm => ?_
    rcases List.mem_cons.1 hm with hm | hm
    · exact hne1 hm.symm
    · exact h.out j hj (h.ok.map_mem hj h.xl hm)
  · rename_i ej
    refine h.ok.seg_other hs hj (fun c hc => ?_) (fun c hc => ?_)
    · rw [upd_off (h.ok.inr_apart hk hj ej hpv hc), upd_off (h.ok.inr_x h.xl h.out hj hc)]
    · rw [upd_off (h.ok.inr_apart hk hj ej (.inl rfl) hc), upd_off (h.ok.inr_x h.xl h.out hj hc)]
/-- To take a timer out of its ring. -/
theorem leave_rg (h : Rg w b L ρ) (hk : k < 448) (hx : x ∈ ρ k) :
    Calls Try.prog 29 #[pa (ad x)] w fun e w' => e = .returned (.tuple #[]) ∧ Rg w' b L (dropR ρ k x) ∧ LW (Nodes b L) w w' := by
  obtain ⟨nx, pv, hl, hs⟩ := h.lk
  have hxl := h.ok.mem k hk x hx
  obtain ⟨l1, l2, hsp⟩ := List.append_of_mem hx
  have hsk := hs k hk
  rw [hsp, List.map_append, List.map_cons] at hsk
  have hnd := h.ok.ring_nodup hk
  rw [hsp, List.map_append, List.map_cons] at hnd
  obtain ⟨s1, s2⟩ := Seg.split.1 hsk
  have e1 := Seg.last s1
  have e2 := Seg.first s2
  have hpv : pv (ad x) = hd b k ∨ ∃ y, y ∈ l1 ∧ pv (ad x) = ad y := by
    have := List.getLast_mem (l := hd b k :: l1.map ad) (by simp)
    rw [← e1] at this
    rcases List.mem_cons.1 this with h | h
    · exact .inl h
    · obtain ⟨y, hy, e⟩ := List.mem_map.1 h
      exact .inr ⟨y, hy, e.symm⟩
  have hnx : nx (ad x) = hd b k ∨ ∃ y, y ∈ l2 ∧ nx (ad x) = ad y := by
    have := List.head_mem (l := l2.map ad ++ [hd b k]) (by simp)
    rw [← e2] at this
    rcases List.mem_append.1 this with h | h
    · obtain ⟨y, hy, e⟩ := List.mem_map.1 h
      exact .inr ⟨y, hy, e.symm⟩
    · exact .inl (by simpa using h)
  have hpr : InR b ρ k (pv (ad x)) := by
    rcases hpv with h | ⟨y, hy, h⟩
    · exact .inl h
    · exact .inr ⟨y, by rw [hsp]; simp [hy], h⟩
  have hnr : InR b ρ k (nx (ad x)) := by
    rcases hnx with h | ⟨y, hy, h⟩
    · exact .inl h
    · exact .inr ⟨y, by rw [hsp]; simp [hy], h⟩
  have hnodup := h.ok.nd k hk
  rw [hsp] at hnodup
  obtain ⟨n1, n2, n3⟩ := List.nodup_append.1 hnodup
  have hp1 : pv (ad x) ≠ ad x := by
    rcases hpv with h2 | ⟨y, hy, h2⟩
    · rw [h2]; exact (h.ok.ad_hd hxl k).symm
    · rw [h2]
      intro e
      have := h.ok.ad_inj (h.ok.mem k hk y (by rw [hsp]; simp [hy])) hxl e
      exact n3 y hy x (by simp) this
  have hn1 : nx (ad x) ≠ ad x := by
    rcases hnx with h2 | ⟨y, hy, h2⟩
    · rw [h2]; exact (h.ok.ad_hd hxl k).symm
    · rw [h2]
      intro e
      have := h.ok.ad_inj (h.ok.mem k hk y (by rw [hsp]; simp [hy])) hxl e
      exact (List.nodup_cons.1 n2).1 (by rw [← this]; exact hy)
  refine (leave_lk h.ok.sep hl (.inr ⟨x, hxl, rfl⟩) (h.ok.inr_node hk hpr) (h.ok.inr_node hk hnr) hp1 hn1).mono ?_
  rintro e w' ⟨rfl, hl', hlw⟩
  refine ⟨rfl, ⟨h.ok.drop, hlw.pl _ h.pb, fun y hy => (h.dat y hy).lw h.ok hy hlw, _, _, hl', fun j hj => ?_⟩, hlw⟩
  unfold dropR
  split
  · rename_i ej
    subst ej
    rw [h.ok.filter_split hj hsp, List.map_append]
    exact Seg.leave hsk hnd _ _
  · rename_i ej
    refine h.ok.seg_other hs hj (fun c hc => ?_) (fun c hc => ?_)
    · rw [upd_off (h.ok.inr_apart hk hj ej (.inr ⟨x, hx, rfl⟩) hc), upd_off (h.ok.inr_apart hk hj ej hpr hc)]
    · rw [upd_off (h.ok.inr_apart hk hj ej (.inr ⟨x, hx, rfl⟩) hc), upd_off (h.ok.inr_apart hk hj ej hnr hc)]
theorem Rg.toX (h : Rg w b L ρ) (hx : x ∈ L) (ho : ∀ k, k < 448 → x ∉ ρ k) : RgX w b L ρ x := by
  obtain ⟨nx, pv, hl, hs⟩ := h.lk
  exact ⟨h.ok, h.pb, hx, ho, h.dat, ⟨_, _, hl _ (.inr ⟨x, hx, rfl⟩)⟩, nx, pv, fun a ha => hl a ha.1, hs⟩
end
end Go.Proofs.Ytcgchccppoignaa
