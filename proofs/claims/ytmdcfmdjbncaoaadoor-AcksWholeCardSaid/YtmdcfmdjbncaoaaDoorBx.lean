/- A struct stored into its block, at a step of a region that draws its order. -/
import Derived.Test.YtmdcfmdjbncaoaaDoorBw
import Derived.Deep.RegionHeld3
namespace Go.Proofs.YtmdcfmdjbncaoaaDoor
open Go.RowKit
section
variable {P : Program} {w : World} {T : TypeId}
theorem step_store_blk {ops : Array Oper} {op : Oper} {a : Act} {K : Act → World → Prop} {Q : Exit → Act → World → Prop} {E : Prop} (hgd : op.guard = none) (ty : TypeId) (x y : Operand) (ho : op.op = .store ty x y) (g o : Nat) (pre old post us : List Value)
    (hx : a.eval x = .pointer (some ⟨g, o, none⟩)) (hy : a.eval y = .agg us.toArray) (hb : Blk w g T (pre ++ old ++ post).toArray) (hp : pre.length = o) (hl : old.length = us.length) (hi : (P.info? ty).map (·.size) = some us.length) (h1 : ∀ v ∈ us, v.oneCell' = true)
    (h : ∀ w', Blk w' g T (pre ++ us ++ post).toArray → Upd g w w' → K (a.put op.dst undef) w') : if Region.wanted op (yielded ops a.tmps) = true then Oper.wp P op a w K Q else E := by
  have hw : Region.wanted op (yielded ops a.tmps) = true := by simp [Region.wanted, hgd]
  rw [if_pos hw]
  refine wp_store_mid ty x y ho g o us.toArray hx hy (hb.there (by simp; omega)) (by simpa using hi) (all_oneCell_toArray h1) ?_
  rw [List.toList_toArray]
  exact h _ (blk_setCells us w o pre old post hb hp hl) (upd_setCells g us o w)
end
end Go.Proofs.YtmdcfmdjbncaoaaDoor
