/- utf8.ValidString at this program, by its contract. -/
import Derived.Test.YtmdcfmdjbncaoaaDoorK
import Derived.Shelf.Unicode.ValidAny
namespace Go.Proofs.YtmdcfmdjbncaoaaDoor
open Go.RowKit Go.Shelf Go.Lib
def renV : Go.Shelf.Ren := ⟨fun | 196 => 73 | 259 => 76 | n => n, fun | 9 => 9 | 4 => 4 | 3 => 3 | 5 => 5 | 12 => 12 | 119 => 112 | 0 => 0 | 46 => 116 | 139 => 115 | 138 => 114 | 53 => 25 | n => n, fun | 3 => 0 | 4 => 1 | n => n⟩
theorem laysV : Lays.n196 Tryd.prog renV := {
    mixed := by kernel_rfl
    f196 := Tryd.func73.trans (congrArg some (by kernel_rfl))
    f259 := Tryd.func76.trans (congrArg some (by kernel_rfl))
    t0 := Tryd.underlying0
    a0 := Tryd.isAgg0
    z0 := Tryd.sizeOf0
    v0 := Tryd.zeroValue0
    t3 := Tryd.underlying3
    a3 := Tryd.isAgg3
    z3 := Tryd.sizeOf3
    v3 := Tryd.zeroValue3
    t4 := Tryd.underlying4
    a4 := Tryd.isAgg4
    z4 := Tryd.sizeOf4
    v4 := Tryd.zeroValue4
    t5 := Tryd.underlying5
    a5 := Tryd.isAgg5
    z5 := Tryd.sizeOf5
    v5 := Tryd.zeroValue5
    t9 := Tryd.underlying9
    a9 := Tryd.isAgg9
    z9 := Tryd.sizeOf9
    v9 := Tryd.zeroValue9
    t12 := Tryd.underlying12
    a12 := Tryd.isAgg12
    z12 := Tryd.sizeOf12
    v12 := Tryd.zeroValue12
    t46 := Tryd.underlying116
    a46 := Tryd.isAgg116
    z46 := Tryd.sizeOf116
    v46 := Tryd.zeroValue116
    t53 := Tryd.underlying25
    a53 := Tryd.isAgg25
    z53 := Tryd.sizeOf25
    v53 := Tryd.zeroValue25
    t119 := Tryd.underlying112
    a119 := Tryd.isAgg112
    z119 := Tryd.sizeOf112
    t138 := Tryd.underlying114
    a138 := Tryd.isAgg114
    z138 := Tryd.sizeOf114
    v138 := Tryd.zeroValue114
    t139 := Tryd.underlying115
    a139 := Tryd.isAgg115
    z139 := Tryd.sizeOf115
    v139 := Tryd.zeroValue115
    g3 := by kernel_rfl
    g4 := by kernel_rfl }
/-- What start-up code laid in utf8's two tables. -/
def Tabs (w : World) : Prop := Lib.Utf8Tabs 0 1 w
theorem Tabs.on {w w' : World} (h : Tabs w) (hb : Below w.heap.size w w') : Tabs w' := Utf8Tabs_below h hb
theorem valid_str (s : ByteArray) (w : World) (hs : s.size ≤ 9223372036854775807) (hT : Tabs w) : Calls Tryd.prog 73 #[.string s] w fun e w' => e = .returned (.bool (Lib.validD s.data.toList)) ∧ Below w.heap.size w w' :=
  Any.utf8_ValidString laysV s w hs hT
end Go.Proofs.YtmdcfmdjbncaoaaDoor
