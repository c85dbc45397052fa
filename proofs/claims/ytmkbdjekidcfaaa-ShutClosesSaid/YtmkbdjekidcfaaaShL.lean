/- Shut: the results as they come in; the walk of ShutCloses. -/
import Derived.Test.YtmkbdjekidcfaaaShH
import Derived.Test.YtmkbdjekidcfaaaShK
namespace Go.Proofs.Ytmkbdjekidcfaaa
open Go.RowKit Go.ChangeShapes Go.WideShapes Go.Deep
attribute [local go_sem ↓] Go.wp_at_zero Go.wp_at_succ

/-- A result with a body of which only the form is known. -/
structure QV where
  r : Rs
  k : Int
  i : Int
  b : Int
  s : ByteArray
  a : Option Addr
  m : Nat
  c : Nat
def QE (q : QV) (cs : List Value) : Prop := cs = [.int .i64 q.r.err, .int .i64 q.r.code, .int .i64 q.r.pk, .int .i64 q.r.pn, .bool q.r.has, .int .i64 q.k, .int .i64 q.i, .int .u64 q.b, .string q.s, .slice q.a q.m q.c]
theorem cellsErr : Try.prog.cellsOf 34 = 1 := by kernel_rfl
theorem cellsI64 : Try.prog.cellsOf 2 = 1 := by kernel_rfl
theorem cellsPan : Try.prog.cellsOf 36 = 2 := by kernel_rfl
theorem cellsBool : Try.prog.cellsOf 4 = 1 := by kernel_rfl
theorem cellsInt : Try.prog.cellsOf 3 = 1 := by kernel_rfl
theorem cellsDat : Try.prog.cellsOf 39 = 5 := by kernel_rfl
theorem cellsRes : Try.prog.cellsOf 41 = 10 := by kernel_rfl
theorem bytesRes : Try.prog.bytesOf 41 = 104 := by kernel_rfl

section
variable {H : Type} {enc : TypeId × Value → H} {w : World} {spare : Nat → Bool} {held : Bool}
theorem open_result (fuel : Nat) (cs : List Value) (x : DataW H × List MemPlace) (h : DataW.trod enc Try.prog w 0 spare held fuel 41 cs = some x) : ∃ q : QV, QE q cs := by
  obtain ⟨ys, n, -, -, hlen, hyl, hf⟩ := DataW.trod_struct Try.underlying41 h
  rw [cellsRes] at hlen
  match cs, hlen with
  | [c0, c1, c2, c3, c4, c5, c6, c7, c8, c9], _ =>
    match ys, hyl with
    | [y0, y1, y2, y3, y4], _ =>
      have g0 : DataW.trod enc Try.prog w 0 spare held n 34 [c0] = some y0 := by simpa [cellsErr, cellsI64, cellsPan, cellsBool, cellsDat] using hf 0 _ rfl
      have g1 : DataW.trod enc Try.prog w 0 spare held n 2 [c1] = some y1 := by simpa [cellsErr, cellsI64, cellsPan, cellsBool, cellsDat] using hf 1 _ rfl
      have g2 : DataW.trod enc Try.prog w 0 spare held n 36 [c2, c3] = some y2 := by simpa [cellsErr, cellsI64, cellsPan, cellsBool, cellsDat] using hf 2 _ rfl
      have g3 : DataW.trod enc Try.prog w 0 spare held n 4 [c4] = some y3 := by simpa [cellsErr, cellsI64, cellsPan, cellsBool, cellsDat] using hf 3 _ rfl
      have g4 : DataW.trod enc Try.prog w 0 spare held n 39 [c5, c6, c7, c8, c9] = some y4 := by simpa [cellsErr, cellsI64, cellsPan, cellsBool, cellsDat] using hf 4 _ rfl
      obtain ⟨e, h0, -, -⟩ := DataW.trod_int Try.underlying34 g0
      obtain ⟨co, h1, -, -⟩ := DataW.trod_int Try.underlying2 g1
      obtain ⟨zs, n', -, -, -, hzl, hz⟩ := DataW.trod_struct Try.underlying36 g2
      obtain ⟨ha, h3, -⟩ := DataW.trod_bool Try.underlying4 g3
      obtain ⟨⟨tk, ti, tb, ts, tl⟩, ht⟩ := open_tree Try.underlying39 (by kernel_rfl) cellsDat Try.underlying3 Try.underlying2 Try.underlying31 Try.underlying9 rfl Try.underlying37 n _ _ g4
      obtain ⟨a, c, hb, -⟩ := ht.open_
      match zs, hzl with
      | [z0, z1], _ =>
        have k0 : DataW.trod enc Try.prog w 0 spare held n' 3 [c2] = some z0 := by simpa [cellsI64, cellsInt] using hz 0 _ rfl
        have k1 : DataW.trod enc Try.prog w 0 spare held n' 2 [c3] = some z1 := by simpa [cellsI64, cellsInt] using hz 1 _ rfl
        obtain ⟨pk, h4, -, -⟩ := DataW.trod_int Try.underlying3 k0
        obtain ⟨pn, h5, -, -⟩ := DataW.trod_int Try.underlying2 k1
        simp at h0 h1 h3 h4 h5 hb
        subst h0 h1 h3 h4 h5
        obtain ⟨rfl, rfl, rfl, rfl, rfl⟩ := hb
        exact ⟨⟨⟨e, co, pk, pn, ha⟩, tk, ti, tb, ts, a, tl.length, c⟩, rfl⟩
end
theorem results_arg {H : Type} {enc : TypeId × Value → H} {W : World} {base : Nat} {v : Value} {d : DataW H} {p : List MemPlace} (ok : Value.okWide Try.prog W .any base 33 v)
    (tr : DataW.Trod enc Try.prog W 0 (fun _ => true) true 33 v d p) (hsz : ∀ n ∈ d.weights Try.prog 33, n ≤ reachBytes) : ∃ (ps : List QV) (a : Option Addr) (n c : Nat), v = .slice a n c ∧ RowsOf QE 10 W (· < W.heap.size) ps a n c ∧ n ≤ 1353245080300 := by
  obtain ⟨a, n, c, rfl⟩ := okWide_slice Try.underlying33 ok
  obtain ⟨fuel, hf⟩ := tr
  have hn : n ≤ 1353245080300 := by
    rcases DataW.trod_slice Try.underlying33 hf with ⟨hcs, _⟩ | ⟨a, len, cap, elems, rest, m, _, hcs, hx, _, _, _, hlen, _, _⟩
    · simp [Value.cells] at hcs
      omega
    · simp only [Prod.mk.injEq] at hx
      obtain ⟨rfl, -⟩ := hx
      simp [Value.cells] at hcs
      have := hsz (((elems.map (·.1)).length + (rest.map (·.1)).length) * Try.prog.bytesOf 41) (by
        simp only [DataW.weights, Try.underlying33]
        exact List.mem_cons_self)
      rw [bytesRes] at this
      simp [reachBytes] at this
      omega
  obtain ⟨ps, a', n', c', hc, hr⟩ := open_rows (E := QE) (sz := 10) Try.underlying33 cellsRes (fun m cs x _ h => open_result m cs x h) hf (by omega)
  simp [Value.cells] at hc
  obtain ⟨rfl, rfl, rfl⟩ := hc
  exact ⟨ps, a, n, c, rfl, hr, hn⟩

theorem good_join (outs : List Rs) (L : List Nat) : decide (joinOf (dsOf outs L) = []) = goodOf outs L := by
  rw [Bool.eq_iff_iff, decide_eq_true_eq]
  unfold joinOf goodOf dsOf
  rw [List.filter_eq_nil_iff, List.all_eq_true]
  constructor
  · intro h i hi
    have := h _ (List.mem_map.2 ⟨i, hi, rfl⟩)
    simpa using this
  · intro h d hd
    obtain ⟨i, hi, rfl⟩ := List.mem_map.1 hd
    have := h i hi
    simpa using this
def Rns (l : List Rs) : List Value := (l.map rcs).flatten
theorem Rns_snoc (l : List Rs) (r : Rs) : Rns (l ++ [r]) = Rns l ++ rcs r := by simp [Rns]
theorem infoRs : (Try.prog.info? 41).map (fun i => (i.zero, i.size, i.bytes)) = some (some (.agg #[.int .i64 0, .int .i64 0, .int .i64 0, .int .i64 0, .bool false, .int .i64 0, .int .i64 0, .int .u64 0, .string ByteArray.empty, .slice none 0 0]), 10, 104) := by kernel_rfl
theorem run_slice_res (err code pk pn : Int) (has : Bool) (w : World) : (Instr.buildSlice 33 1 #[(0, .agg #[.int .i64 err, .int .i64 code, .int .i64 pk, .int .i64 pn, .bool has, .int .i64 0, .int .i64 0, .int .u64 0, .string ByteArray.empty, .slice none 0 0])]).run Try.prog w = .ok (.slice (some ⟨w.heap.size, 0, none⟩) 1 1) (w.alloc (.cells #[.int .i64 err, .int .i64 code, .int .i64 pk, .int .i64 pn, .bool has, .int .i64 0, .int .i64 0, .int .u64 0, .string ByteArray.empty, .slice none 0 0] 41)) := by
  obtain ⟨ie, hie, hz, hs, hb⟩ : ∃ ie, Try.prog.info? 41 = some ie ∧ ie.zero = some (.agg #[.int .i64 0, .int .i64 0, .int .i64 0, .int .i64 0, .bool false, .int .i64 0, .int .i64 0, .int .u64 0, .string ByteArray.empty, .slice none 0 0]) ∧ ie.size = 10 ∧ True := ⟨_, rfl, by kernel_rfl, by kernel_rfl, trivial⟩
  exact run_buildSlice w 33 41 1 _ _ ie _ Try.underlying33 hie hz (by rw [hs]; omega) (by rw [hs]; omega) (by rw [hs]; kernel_rfl)
theorem run_build_zD (w : World) : (Instr.build 39 #[]).run Try.prog w = .ok (.agg #[.int .i64 0, .int .i64 0, .int .u64 0, .string ByteArray.empty, .slice none 0 0]) w := run_build w 39 _ _ (by kernel_rfl)

set_option maxRecDepth 100000 in
set_option maxHeartbeats 4000000 in
theorem closes_go (v : Value) (rows : List (List Int)) (ps : List QV) (a1 : Option Addr) (n c1 : Nat) (w : World) (h : RowsAt w v rows) (ho : RowsOf QE 10 w (· < w.heap.size) ps a1 n c1) (hn : n ≤ 1353245080300) (hs : smallB rows = true) :
    Calls Try.prog 6 #[v, .slice a1 n c1] w fun e w' => e = .returned (.bool true) ∧ Below w.heap.size w w' := by
  obtain ⟨i0, hi0, hz0, hz1, hz2⟩ := info_parts infoRs
  obtain ⟨hlen, -⟩ := smallB_true hs
  have HS := Lib.hid hs
  have HR := Lib.hid h
  have HO := Lib.hid ho
  have hnl : n = ps.length := ho.1
  have HN := Lib.hid hnl
  have hcm : c1 ≤ 9223372036854775807 := by have := ho.2.2.1; unfold maxLen at this; omega
  have hnc := ho.2.1
  obtain ⟨a, c, rfl, -⟩ := h
  have hBz := run_build_zD
  have hSr := run_slice_res
  clear hs ho hnl
  go_enter Try.func6, Try.ntmps6
  go_wp2_with fail
  refine (small_yes _ rows _ HR.out HS.out).mono ?_
  rintro e w1 ⟨rfl, rfl⟩
  go_wp2_with fail
  go_loopw [22, 5] (fun s s5 wr => ∃ (j : Nat) (vd : Value), s = .int .i64 j ∧ vd = s5 ∧ j ≤ n ∧ wr.ownsRow w.heap.size 41 10 vd j (Rns ((ps.take j).map (·.r))) ∧ Below w.heap.size w wr) (fun s _ _ => n - (intOf s).toNat)
  case atStart => exact ⟨0, _, rfl, rfl, by omega, ⟨rfl, .inl ⟨rfl, rfl⟩⟩, Below.refl _ _⟩
  case round =>
    obtain ⟨j, vd, rfl, rfl, hj, hown, hB⟩ := hrel
    have hfr := hB.size
    have HOWN := Lib.hid hown
    have HBB := Lib.hid hB
    clear hown hB
    by_cases hjl : j < n
    · obtain ⟨g, o, q, cs, rfl, hg, hx, hE, -, hrr0⟩ := HO.out.get hjl
      have hrr : wr.rangeAt g (o + j * 10) cs := rangeAt_keep hrr0 fun k => HBB.out.cell (p := ⟨g, k, none⟩) hg
      have hcs : cs = [.int .i64 q.r.err, .int .i64 q.r.code, .int .i64 q.r.pk, .int .i64 q.r.pn, .bool q.r.has, .int .i64 q.k, .int .i64 q.i, .int .u64 q.b, .string q.s, .slice q.a q.m q.c] := hE
      have HT : Hid ((ps.take (j + 1)).map (·.r) = (ps.take j).map (·.r) ++ [q.r]) := by
        have hj2 := (List.getElem?_eq_some_iff.1 hx).1
        have e1 : ps[j] = q := (List.getElem?_eq_some_iff.1 hx).2
        show _ = _
        rw [List.take_succ_eq_append_getElem hj2, List.map_append, e1]
        rfl
      have HRR : Hid (wr.rangeAt g (o + j * 10) [.int .i64 q.r.err, .int .i64 q.r.code, .int .i64 q.r.pk, .int .i64 q.r.pn, .bool q.r.has, .int .i64 q.k, .int .i64 q.i, .int .u64 q.b, .string q.s, .slice q.a q.m q.c]) := by rw [← hcs]; exact hrr
      have HG := Lib.hid hg
      clear hrr0 hrr hcs hE hx hg
      obtain ⟨⟨err, code, pk, pn, has⟩, bk, bi, bb, bs, ba, bm, bc⟩ := q
      go_upto_region 7 with (first | (refine wpList_load_blk rfl 41 _ rfl g (o + j * 10) rfl [.int .i64 err, .int .i64 code, .int .i64 pk, .int .i64 pn, .bool has, .int .i64 bk, .int .i64 bi, .int .u64 bb, .string bs, .slice ba bm bc] _ HRR.out Try.underlying41 rfl sizeR ?_))
      show Code.wp _ _ _ _ (wr.alloc (.cells #[.int .i64 err, .int .i64 code, .int .i64 pk, .int .i64 pn, .bool has, .int .i64 bk, .int .i64 bi, .int .u64 bb, .string bs, .slice ba bm bc] 41))
      generalize hW5 : wr.alloc (.cells #[.int .i64 err, .int .i64 code, .int .i64 pk, .int .i64 pn, .bool has, .int .i64 bk, .int .i64 bi, .int .u64 bb, .string bs, .slice ba bm bc] 41) = w5
      have hb5 : Blk w5 wr.heap.size 41 #[.int .i64 err, .int .i64 code, .int .i64 pk, .int .i64 pn, .bool has, .int .i64 bk, .int .i64 bi, .int .u64 bb, .string bs, .slice ba bm bc] := by rw [← hW5]; exact Blk.new _ _ _
      have hB5 : Below wr.heap.size wr w5 := by rw [← hW5]; exact (Below.refl _ _).alloc (Nat.le_refl _) _
      clear hW5
      have HB5 := Lib.hid hb5
      have HBE := Lib.hid hB5
      have hl5 := hb5.lt
      clear hb5 hB5 HRR
      go_upto_region 8 with (first
        | (refine wpList_store_blk (T := 41) rfl 39 _ _ rfl wr.heap.size 5 [.int .i64 err, .int .i64 code, .int .i64 pk, .int .i64 pn, .bool has] [.int .i64 bk, .int .i64 bi, .int .u64 bb, .string bs, .slice ba bm bc] [] [.int .i64 0, .int .i64 0, .int .u64 0, .string ByteArray.empty, .slice none 0 0] rfl rfl HB5.out rfl rfl sizeD (by simp [Value.oneCell']) ?_; intro w8 hg8 hu8))
      have HG8 : Hid (Blk w8 wr.heap.size 41 #[.int .i64 err, .int .i64 code, .int .i64 pk, .int .i64 pn, .bool has, .int .i64 0, .int .i64 0, .int .u64 0, .string ByteArray.empty, .slice none 0 0]) := hg8
      have HBE8 : Hid (Below wr.heap.size wr w8) := HBE.out.trans (hu8.below _ (Nat.le_refl _))
      have hl8 : wr.heap.size < w8.heap.size := hg8.lt
      clear hg8 hu8 HB5 HBE
      try simp only [Act.put]
      go_wp2_with (first
        | (refine wpList_load_blk rfl 41 _ rfl wr.heap.size 0 rfl [.int .i64 err, .int .i64 code, .int .i64 pk, .int .i64 pn, .bool has, .int .i64 0, .int .i64 0, .int .u64 0, .string ByteArray.empty, .slice none 0 0] _ (Blk.range (pre := []) (post := []) HG8.out rfl) Try.underlying41 rfl sizeR ?_)
        | (at_builtin; refine wpList_append_lies _ rfl _ _ 33 rfl w.heap.size 41 i0 _ 10 104 Try.underlying33 hi0 hz0 hz1 hz2 rfl (by omega) vd j (Rns ((ps.take j).map (·.r))) rfl (own_keep HOWN.out fun k hk => (alloc_old' (Nat.lt_trans (own_row HOWN.out k hk).2 hl8)).trans (HBE8.out.block k (own_row HOWN.out k hk).2)) ⟨w8.heap.size, 0, none⟩ 1 1 [.int .i64 err, .int .i64 code, .int .i64 pk, .int .i64 pn, .bool has, .int .i64 0, .int .i64 0, .int .u64 0, .string ByteArray.empty, .slice none 0 0] rfl rfl (World.news_of_block (cs := #[.int .i64 err, .int .i64 code, .int .i64 pk, .int .i64 pn, .bool has, .int .i64 0, .int .i64 0, .int .u64 0, .string ByteArray.empty, .slice none 0 0]) (t := 41) (fr := (0, 0)) (heap_alloc_new w8 _)) (by simp [Value.oneCell']) (by omega) (by unfold maxLen; omega) (by omega) (by simp; omega) (w8.heap.size + 1) (by simp) ?_; intro g6 cap6 w6 hown6 hgrow6 hat6 hlt6; have HO6 := Lib.hid hown6; have HG6 := Lib.hid hgrow6; clear hown6 hgrow6 hat6))
      go_roundw
      case rel =>
        refine ⟨j + 1, _, by go_num, rfl, by omega, ?_, ?_⟩
        · rw [HT.out, Rns_snoc]; exact HO6.out
        · exact ((HBB.out.trans (HBE8.out.mono hfr)).alloc (by omega) _).grown HG6.out (by simp; omega) (fun k hk => (own_row HOWN.out k hk).1)
      case measure => simp [intOf]; omega
    · obtain rfl : j = n := by omega
      have htk : ps.take j = ps := by rw [HN.out, List.take_length]
      rw [htk] at HOWN
      have HOU : Hid (StAt rcs 10 wr vd (ps.map (·.r))) := StAt.of_own (by rw [List.length_map, ← HN.out]; exact HOWN.out) rcs_len
      have HOB : Hid (∀ g, vd.ownBlock = some g → g < wr.heap.size) := fun g hg => (own_row HOWN.out g hg).2
      have HR1 : Hid (RowsAt wr (.slice a rows.length c) rows) := HR.out.below HBB.out
      generalize hOS : ps.map (·.r) = outs at *
      obtain ⟨ao, co, rfl⟩ := own_len HOWN.out
      clear HO HOWN hOS htk
      have hdl : (dsOf outs (FL rows)).length ≤ 400 := by rw [dsOf_length]; exact Nat.le_trans (FL_length rows) hlen
      have HDL := Lib.hid hdl
      have HC1 := Close_any _ _ rows outs _ HR1.out HS.out HOU.out HOB.out
      have HC2 : ∀ w2, Below wr.heap.size wr w2 → _ := fun w2 (hb2 : Below wr.heap.size wr w2) => rclose_any _ _ rows outs _ (HR1.out.below hb2) HS.out (HOU.out.below hb2) (fun g hg => Nat.lt_of_lt_of_le (HOB.out g hg) hb2.size)
      have HJ1 : ∀ (v : Value) (w : World), StAt dcs 11 w v (dsOf outs (FL rows)) → (∀ g, v.ownBlock = some g → g < w.heap.size) → _ := fun v w h1 h2 => join_any v _ w h1 h2 HDL.out
      have HJ2 : ∀ (v : Value) (w : World), StAt dcs 11 w v (dsOf outs (FL rows)) → (∀ g, v.ownBlock = some g → g < w.heap.size) → _ := fun v w h1 h2 => rjoin_any v _ w h1 h2 HDL.out
      rw [good_join] at HJ1 HJ2
      generalize goodOf outs (FL rows) = G at HC1 HC2 HJ1 HJ2
      have hDL : (FL rows).length = (dsOf outs (FL rows)).length := (dsOf_length _ _).symm
      rw [hDL] at HC1 HC2
      have hjl2 : (joinOf (dsOf outs (FL rows))).length ≤ 400 := Nat.le_trans (joinOf_len _) HDL.out
      generalize dsOf outs (FL rows) = ds at *
      have HC1' := Lib.hid HC1
      have HC2' := Lib.hid HC2
      have HJ1' := Lib.hid HJ1
      have HJ2' := Lib.hid HJ2
      have HJL := Lib.hid hjl2
      have hGG : (G == G) = true := by simp
      clear HC1 HC2 HJ1 HJ2 hDL hdl hjl2
      go_wp2_with fail
      refine HC1'.out.mono ?_
      rintro e w2 ⟨va, rfl, hra, hb2⟩
      have HA : Hid (StAt dcs 11 w2 va ds ∧ ∀ g, va.ownBlock = some g → g < w2.heap.size) := ⟨StAt.of_own hra dcs_len, fun g hg => (own_row hra g hg).2⟩
      have HW2 := Lib.hid hb2
      clear hra hb2
      go_wp2_with fail
      refine (HC2'.out w2 HW2.out).mono ?_
      rintro e w3 ⟨vb, rfl, hrb, hb3⟩
      have HB : Hid (StAt dcs 11 w3 vb ds ∧ ∀ g, vb.ownBlock = some g → g < w3.heap.size) := ⟨StAt.of_own hrb dcs_len, fun g hg => (own_row hrb g hg).2⟩
      replace HA : Hid (StAt dcs 11 w3 va ds ∧ ∀ g, va.ownBlock = some g → g < w3.heap.size) := ⟨HA.out.1.below hb3, fun g hg => Nat.lt_of_lt_of_le (HA.out.2 g hg) hb3.size⟩
      have HW3 : Hid (Below wr.heap.size wr w3) := HW2.out.trans (hb3.mono HW2.out.size)
      clear hrb hb3 HW2
      go_wp2_with fail
      refine (HJ1'.out va w3 HA.out.1 HA.out.2).mono ?_
      rintro e w4 ⟨vj, rfl, hrj, hb4⟩
      have HJ : Hid (StAt dcs 11 w4 vj (joinOf ds)) := StAt.of_own hrj dcs_len
      replace HA : Hid (StAt dcs 11 w4 va ds) := HA.out.1.below hb4
      replace HB : Hid (StAt dcs 11 w4 vb ds ∧ ∀ g, vb.ownBlock = some g → g < w4.heap.size) := ⟨HB.out.1.below hb4, fun g hg => Nat.lt_of_lt_of_le (HB.out.2 g hg) hb4.size⟩
      have HW4 : Hid (Below wr.heap.size wr w4) := HW3.out.trans (hb4.mono HW3.out.size)
      clear hrj hb4 HW3
      go_wp2_with fail
      refine (HJ2'.out vb w4 HB.out.1 HB.out.2).mono ?_
      rintro e w5 ⟨vk, rfl, hrk, hb5⟩
      have HK : Hid (StAt dcs 11 w5 vk (joinOf ds)) := StAt.of_own hrk dcs_len
      replace HA : Hid (StAt dcs 11 w5 va ds) := HA.out.below hb5
      replace HJ : Hid (StAt dcs 11 w5 vj (joinOf ds)) := HJ.out.below hb5
      replace HB : Hid (StAt dcs 11 w5 vb ds) := HB.out.1.below hb5
      have HW5 : Hid (Below wr.heap.size wr w5) := HW4.out.trans (hb5.mono HW4.out.size)
      clear hrk hb5 HW4
      go_wp2_with fail
      refine (dones_any va vb ds _ HA.out HB.out HDL.out).mono ?_
      rintro e w6 ⟨rfl, hb6⟩
      have HJ6 : Hid (StAt dcs 11 w6 vj (joinOf ds) ∧ StAt dcs 11 w6 vk (joinOf ds)) := ⟨HJ.out.below hb6, HK.out.below hb6⟩
      have HW6 : Hid (Below wr.heap.size wr w6) := HW5.out.trans (hb6.mono HW5.out.size)
      clear hb6 HW5
      go_wp2_with fail
      refine (dones_any vj vk _ _ HJ6.out.1 HJ6.out.2 HJL.out).mono ?_
      rintro e w7 ⟨rfl, hb7⟩
      have HW7 : Hid (Below wr.heap.size wr w7) := HW6.out.trans (hb7.mono HW6.out.size)
      clear hb7 HW6
      go_wp2_with fail
      refine (awake_any _).mono ?_
      rintro e w8 ⟨rfl, hb8⟩
      have HW8 : Hid (Below wr.heap.size wr w8) := HW7.out.trans (hb8.mono HW7.out.size)
      clear hb8 HW7
      go_wp2_with fail
      go_ret
      exact ⟨rfl, HBB.out.trans (HW8.out.mono HBB.out.size)⟩
theorem walk_ShutCloses {H : Type} {enc : TypeId × Value → H} {base : Nat} {d0 d1 : DataW H} {p0 p1 : List MemPlace} (v v1 : Value) (W : World) (ok : Value.okWide Try.prog W .any base 22 v) (tr : DataW.Trod enc Try.prog W 0 (fun _ => true) true 22 v d0 p0) (hsz : ∀ n ∈ d0.weights Try.prog 22, n ≤ reachBytes)
    (ok1 : Value.okWide Try.prog W .any base 33 v1) (tr1 : DataW.Trod enc Try.prog W 0 (fun _ => true) true 33 v1 d1 p1) (hsz1 : ∀ n ∈ d1.weights Try.prog 33, n ≤ reachBytes) :
    Calls Try.prog 6 #[v, v1] W fun e w' => e = .returned (.bool true) ∧ Below W.heap.size W w' := by
  obtain ⟨rows, hr⟩ := rows_open ok tr hsz
  obtain ⟨ps, a, n, c, rfl, ho, hn⟩ := results_arg ok1 tr1 hsz1
  cases hs : smallB rows with
  | true => exact closes_go v rows ps a n c W hr ho hn hs
  | false =>
    obtain ⟨a0, c0, rfl, -⟩ := id hr
    go_enter Try.func6, Try.ntmps6
    go_wp2_with fail
    refine (small_no _ rows _ hr hs).mono ?_
    rintro e w1 ⟨rfl, rfl⟩
    go_wp2_with fail
    refine (awake_any _).mono ?_
    rintro e w2 ⟨rfl, hb2⟩
    go_wp2
    go_ret
    exact ⟨rfl, hb2⟩
end Go.Proofs.Ytmkbdjekidcfaaa
