/- AcksWhole met with its arguments as they come in. The statement AcksWhole, framed: the walk (YtmdcfmdjbncaoaaDoorCwx) is met with the arguments as they are read, and its card is closed. -/
import Derived.Test.YtmdcfmdjbncaoaaDoorCww
import Derived.Test.YtmdcfmdjbncaoaaDoorCqx
import Derived.Test.YtmdcfmdjbncaoaaDoorTie
import Derived.Test.YtmdcfmdjbncaoaaDoorCards
import Derived.Lib.LaidIn
import Derived.Lib.LaidU8T
import Derived.Deep.DeepHandedRow
import Derived.Deep.DeepWitnessRowRef
import Derived.ProofKit
import Derived.SizedLaws
import Derived.Lib.SmallJoins
import Derived.SevenTiedAt
namespace Go.Proofs.YtmdcfmdjbncaoaaDoor
open Go.RowKit Go.ChangeShapes Go.WideShapes Go.Deep
theorem qcTurnW : Tryd.prog.cellsOf 77 = 15 := by kernel_rfl
section
variable {H : Type} {enc : TypeId × Value → H} {w : World} {spare : Nat → Bool} {held : Bool}
set_option maxRecDepth 100000 in
theorem open_turnW (fuel : Nat) (cs : List Value) (x : DataW H × List MemPlace) (h : DataW.trod enc Tryd.prog w 0 spare held fuel 77 cs = some x) : ∃ t : TnX, IsT w (· < w.heap.size) t cs := by
  obtain ⟨ys, n, -, -, hlen, hyl, hf⟩ := DataW.trod_struct Tryd.underlying77 h
  rw [qcTurnW] at hlen
  match cs, hlen with
  | [c0, c1, c2, c3, c4, c5, c6, c7, c8, c9, c10, c11, c12, c13, c14], _ =>
    match ys, hyl with
    | [y0, y1, y2], _ =>
      have g0 : DataW.trod enc Tryd.prog w 0 spare held n 3 [c0] = some y0 := by simpa [qcInt, qcI64, qcMsg] using hf 0 _ rfl
      have g1 : DataW.trod enc Tryd.prog w 0 spare held n 30 [c1, c2, c3, c4, c5, c6, c7, c8, c9, c10, c11, c12, c13] = some y1 := by simpa [qcInt, qcI64, qcMsg] using hf 1 _ rfl
      have g2 : DataW.trod enc Tryd.prog w 0 spare held n 2 [c14] = some y2 := by simpa [qcInt, qcI64, qcMsg] using hf 2 _ rfl
      obtain ⟨i0, h0, -, -⟩ := DataW.trod_int Tryd.underlying3 g0
      obtain ⟨m, hm⟩ := open_msg n _ _ g1
      obtain ⟨i2, h2, -, -⟩ := DataW.trod_int Tryd.underlying2 g2
      simp at h0 h2
      subst h0 h2
      exact ⟨⟨i0, m, i2⟩, _, hm, rfl⟩
end
set_option maxRecDepth 100000 in
theorem walk_AcksWhole {H : Type} {enc : TypeId × Value → H} {base : Nat} (v1 v : Value) {d1 d : DataW H} {q1 p : List MemPlace} (W : World) (ok1 : Value.okWide Tryd.prog W .any base 52 v1)
    (tr1 : DataW.Trod enc Tryd.prog W 0 (fun _ => true) true 52 v1 d1 q1)
    (ok : Value.okWide Tryd.prog W .any base 70 v) (tr : DataW.Trod enc Tryd.prog W 0 (fun _ => true) true 70 v d p) (hT : Tabs W) :
    Calls Tryd.prog 8 #[v1, v] W fun e w' => e = .returned (.bool true) ∧ Below W.heap.size W w' := by
  obtain ⟨pp, rfl⟩ := policy_arg ok1 tr1
  obtain ⟨x, n, c, rfl⟩ := okWide_slice Tryd.underlying70 ok
  obtain ⟨fuel, hf⟩ := tr
  obtain ⟨ts, a1, n1, c1, hc, hr⟩ := open_rows (E := IsT W (· < W.heap.size)) (sz := 15) Tryd.underlying70 qcTurnW (fun m cs x _ h => open_turnW m cs x h) hf (by omega)
  simp [Value.cells] at hc
  obtain ⟨rfl, rfl, rfl⟩ := hc
  exact awhole_go pp ts x n c W hr hT
end Go.Proofs.YtmdcfmdjbncaoaaDoor
namespace Go.Proofs.YtmdcfmdjbncaoaaDoor.frAcksWhole
open Go.ChangeShapes Go.WideShapes Go.ChangeAt Go.RowKit Go.Lib Go.Joins
open Go.ChangeMaps (open_string shut_string)
set_option linter.unusedVariables false
theorem own : ownKnob Tryd.prog.godebug = none := by kernel_rfl
theorem laidOut : laidOutB Tryd.prog = true := by kernel_rfl
/-- The witness: the settled world, the two variables holding what their initialisers lay. -/
noncomputable def laidWorld (os : Os) : World :=
  let w0 := World.holding Tryd.prog os ⟨#[], #[], []⟩
  let put (h : Array Obj) (g : Nat) (cs : Array Value) : Array Obj := h.modify g fun
    | .cells _ t frozen => .cells cs t frozen
    | o => o
  let h1 := put w0.heap 0 (Lib.firstTab.map fun z => Value.int .u8 z).toArray
  let h2 := put h1 1 ((List.range 16).flatMap fun i => [Value.int .u8 (Lib.accLo i), Value.int .u8 (Lib.accHi i)]).toArray
  { w0 with heap := h2 }
theorem laid_met (os : Os) (args : Array Value) : laidMet Tryd.prog Rows.acksWholeRow.laid ((laidWorld os).forCall (fun _ _ => 0) ⟨#[], args, []⟩).memory :=
  (LaidIn.of_run (l := Rows.acksWholeRow.laid) [0, 1] 8 (by kernel_rfl) (by kernel_rfl) (by kernel_rfl) (by kernel_rfl)).met
theorem witness_row (os : Os) {H : Type} (enc : TypeId × Value → H) :
    (OpenSpec.ofChange Rows.acksWholeSpec).preRow enc Tryd.prog Tryd.f8 Rows.acksWholeRow.domain false Rows.acksWholeRow.laid ((laidWorld os).forCall (fun _ _ => 0) ⟨#[], #[.agg #[.int .i64 0, .int .i64 0, .int .i64 0], .slice none 0 0], []⟩).memory #[.agg #[.int .i64 0, .int .i64 0, .int .i64 0], .slice none 0 0] := by
  have hw : (DataW.whole enc Tryd.prog ((laidWorld os).forCall (fun _ _ => 0) ⟨#[], #[.agg #[.int .i64 0, .int .i64 0, .int .i64 0], .slice none 0 0], []⟩).memory Tryd.f8.params.toList (OpenSpec.ofChange Rows.acksWholeSpec).vars false #[Value.agg #[.int .i64 0, .int .i64 0, .int .i64 0], Value.slice none 0 0].toList 8).map (fun x => (x.1, x.2.1)) =
      some ([.agg [.lit (.int .i64 0), .lit (.int .i64 0), .lit (.int .i64 0)], .nil], []) := by kernel_rfl
  obtain ⟨⟨x1, x2, x3⟩, hx, hx1⟩ := Option.map_eq_some_iff.1 hw
  simp only [Prod.mk.injEq] at hx1
  obtain ⟨rfl, rfl⟩ := hx1
  exact OpenSpec.preRow_of_cond 8 hx (by kernel_rfl) (fun k hk => by cases hk) (by kernel_rfl) (laid_met os _)
theorem acc_eq : (Rows.laid_unicode_utf8_acceptRanges : DataW Unit) = Lib.acceptData := by kernel_rfl
theorem fst_eq : Rows.laid_unicode_utf8_first = Lib.firstData := by kernel_rfl
set_option maxRecDepth 100000 in
set_option maxHeartbeats 2000000 in
theorem lifted (os : Os) (started : os.Started) (H : Type) (enc : TypeId × Value → H) (F : Stop.Interp) :
    ReturnsInHanded {} Tryd.checked os 8 .any ((OpenSpec.ofChange Rows.acksWholeSpec).preRow enc Tryd.prog Tryd.f8 Rows.acksWholeRow.domain false Rows.acksWholeRow.laid) (((OpenSpec.ofChange Rows.acksWholeSpec).at F).post enc Tryd.prog Tryd.f8 false true false false) := by
  refine returnsInHanded_of_row (C := Tryd.checked) (s := (OpenSpec.ofChange Rows.acksWholeSpec)) own started (by kernel_rfl) Tryd.func8
    (witness_row_atRef (enc := enc) (C := Tryd.checked) false (laidWorld os) #[.agg #[.int .i64 0, .int .i64 0, .int .i64 0], .slice none 0 0] rfl (by kernel_rfl) (by kernel_rfl) (by kernel_rfl) (witness_row os enc)) ?_
  intro W base args ds gs before hval0 hW hcnd _ _ hL _ _
  have hval : ∀ (j : Nat) t v, Tryd.f8.params[j]? = some t → args[j]? = some v → Value.okWide Tryd.prog W .any base t v := hval0
  have hW' := hW
  obtain ⟨p, q, hA0, hV, rfl, hfz, hnd⟩ := hW
  have hA : DataW.TrodAll enc Tryd.prog W 0 (fun _ => true) true Tryd.f8.params.toList args.toList ds p := hA0
  rw [Tryd.params8] at hA hval
  obtain ⟨v0, vs0, d0, ds0, p0, q0, hargs, rfl, rfl, h0, r0⟩ := trodAll_cons hA
  obtain ⟨v1, vs1, d1, ds1, p1, q1, rfl, rfl, rfl, h1, r1⟩ := trodAll_cons r0
  obtain ⟨rfl, rfl, rfl⟩ := trodAll_nil r1
  obtain rfl : args = #[v0, v1] := by cases args; simp_all
  obtain ⟨rfl, rfl⟩ := trodVars_none hV
  have k0 := h0
  have lt0 : ∀ x ∈ p0, x.block < W.heap.size := by obtain ⟨m, hm⟩ := k0; exact DataW.trod_lt m _ _ _ hm
  have k1 := h1
  have lt1 : ∀ x ∈ p1, x.block < W.heap.size := by obtain ⟨m, hm⟩ := k1; exact DataW.trod_lt m _ _ _ hm
  clear hA0 hval0
  have hr1 := Lib.laidMet.reads hL (.head _)
  have hr2 := Lib.laidMet.reads hL (.tail _ (.head _))
  rw [acc_eq] at hr1
  rw [fst_eq] at hr2
  have htab : Tabs W := utf8Tabs_of_readsT (U8Types.of196 laysV) ⟨by kernel_rfl, by kernel_rfl, by kernel_rfl, by kernel_rfl, by kernel_rfl, by kernel_rfl, by kernel_rfl⟩ hr2 hr1
  refine (walk_AcksWhole v0 v1 W (hval 0 52 v0 rfl rfl) h0 (hval 1 70 v1 rfl rfl) h1 htab).mono fun e W' ⟨he, bel⟩ => ?_
  subst he
  exact ⟨_, rfl, _, _, _, [], _, [], hW', trodAll_mk1 (shut_bool Tryd.underlying4 _), (trodAll_cons_mk (Below.trod laidOut (by kernel_rfl) (of_decide_eq_true (by kernel_rfl)) k0 bel lt0) (trodAll_cons_mk (Below.trod laidOut (by kernel_rfl) (of_decide_eq_true (by kernel_rfl)) k1 bel lt1) trodAll_mk0)), rfl, bel.frame _, fun h => by cases h⟩
theorem over : Rows.acksWholeRow.holds Tryd.pinned (OpenSpec.ofChange Rows.acksWholeSpec) :=
  OpenClaim.holds_of_cond 8 Tryd.f8 rfl rfl rfl rfl rfl rfl rfl ⟨rfl, rfl, rfl, rfl, rfl⟩ rfl rfl rfl rfl rfl (by kernel_rfl) Tryd.func8 (by kernel_rfl)
    (of_decide_eq_true (by kernel_rfl)) (by unfold Func.isWrapper; first | (rw [if_pos (by decide +kernel)]; kernel_rfl) | (rw [if_neg (by decide +kernel)]; exact ⟨rfl, rfl⟩))
    (fun os started H enc _ F0 => by rw [OpenClaim.pre_eq_preRow]; exact lifted os started H enc F0)
theorem said : Rows.AcksWholeSaid := over
set_option maxRecDepth 100000 in
theorem proved : Rows.AcksWholeCardSaid :=
  Claim7.holds_tied_plain_at .later [] [.data, .pinned] true (true, "40b0af8142ac0c583ce321e0f9d21d88ee5487042c1a6a44268853e7f015c4fd") false
    said (fun _ h => by cases h) (by kernel_rfl) (fun _ h => by cases h) acksWhole_row_tie rfl ⟨rfl, rfl⟩ (by kernel_rfl) rfl
    (fun f fn hf hfn => by
      obtain rfl : f = 8 := Option.some.inj ((show Tryd.prog.funcNamed "conduit/conduitlaw24.AcksWhole" = some 8 by kernel_rfl).symm.trans hf) |>.symm
      obtain rfl : fn = Tryd.f8 := (Option.some.inj (Tryd.func8.symm.trans hfn)).symm
      exact ⟨by kernel_rfl, fun j t ht => by
        rw [Tryd.params8] at ht
        have h3 : t = 52 ∨ t = 70 := by
          match j, ht with
          | 0, ht => first | (left; simpa using ht.symm) | (right; left; simpa using ht.symm) | (right; right; simpa using ht.symm) | (right; right; left; simpa using ht.symm) | (right; right; right; simpa using ht.symm) | (right; simpa using ht.symm) | simpa using ht.symm
          | 1, ht => first | (left; simpa using ht.symm) | (right; left; simpa using ht.symm) | (right; right; simpa using ht.symm) | (right; right; left; simpa using ht.symm) | (right; right; right; simpa using ht.symm) | (right; simpa using ht.symm) | simpa using ht.symm
          | j + 2, ht => simp at ht
        rcases h3 with rfl | rfl
        · exact (show Tryd.prog.wantsStandIn 52 = false by kernel_rfl)
        · exact (show Tryd.prog.wantsStandIn 70 = false by kernel_rfl)⟩)
    (by kernel_rfl)
#print axioms proved
end Go.Proofs.YtmdcfmdjbncaoaaDoor.frAcksWhole
