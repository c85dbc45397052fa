/- The methods of levels. -/
import Derived.Test.YtlnlefebcfnocaaSl
namespace Go.Proofs.Ytlnlefebcfnocaa
open Go.RowKit Go.Deep
attribute [local go_sem] Go.undef

set_option maxRecDepth 100000 in
set_option maxHeartbeats 4000000 in
theorem gives_shell (w : World) (u : Value) (x : WX) (v : Value) : Calls Try.prog 76 #[.agg (u :: x.cells v).toArray] w fun e w' => e = .returned (.int .u32 (givenN x : Int)) ∧ Below w.heap.size w w' := by
  have hg := fun w => given_any w x v
  simp only [WX.cells] at hg ⊢
  have HG := Lib.hid hg
  clear hg
  go_enter Try.func76, Try.ntmps76
  go_wp2_with fail
  refine (HG.out _).mono ?_
  rintro e w1 ⟨rfl, hb⟩
  have hb1 : Below w.heap.size w w1 := below_on hb (by go_grown)
  clear hb
  go_wp2_with fail
  go_ret
  exact ⟨rfl, hb1⟩
theorem inner_gives (w : World) (c : Nat) : Calls Try.prog 74 #[.agg #[.int .u32 (c : Int)]] w fun e w' => e = .returned (.int .u32 (c : Int)) ∧ Below w.heap.size w w' := by
  go_enter Try.func74, Try.ntmps74
  go_wp2_with fail
  go_ret
  exact ⟨rfl, by go_grown⟩
theorem inner_shows (w : World) (c : Nat) : Calls Try.prog 75 #[.agg #[.int .u32 (c : Int)]] w fun e w' => e = .returned (.int .u32 (c : Int)) ∧ Below w.heap.size w w' := by
  go_enter Try.func75, Try.ntmps75
  go_wp2_with fail
  go_ret
  exact ⟨rfl, by go_grown⟩
theorem window_gives (w : World) (u : Value) (x : WX) (v : Value) (hx : Cap x) : Calls Try.prog 81 #[.agg (u :: x.cells v).toArray] w fun e w' => e = .returned (.int .u32 ((givenN x ||| 1024 : Nat) : Int)) ∧ Below w.heap.size w w' := by
  have hg := fun w => gives_shell w u x v
  simp only [WX.cells] at hg ⊢
  have e1 : bits .or .u32 (givenN x : Int) 1024 = ((givenN x ||| 1024 : Nat) : Int) := bits32_or (givenN_lt hx) (b := 1024) (by omega)
  generalize (givenN x ||| 1024) = GG at *
  generalize givenN x = G at *
  have HG := Lib.hid hg
  clear hg
  go_enter Try.func81, Try.ntmps81
  go_wp2_with fail
  refine (HG.out _).mono ?_
  rintro e w1 ⟨rfl, hb⟩
  have hb1 : Below w.heap.size w w1 := below_on hb (by go_grown)
  clear hb
  go_wp2_with fail
  go_ret
  exact ⟨rfl, hb1⟩

/-- What a shell shows, by what lies below. -/
def SH (u : Value) (b : Nat) : Prop := ∀ (w : World) (x : WX) (v : Value), Cap x → Calls Try.prog 77 #[.agg (u :: x.cells v).toArray] w fun e w' => e = .returned (.int .u32 ((givenN x ||| keptN x b : Nat) : Int)) ∧ Below w.heap.size w w'

/-- What a level shows, by the method of its own. -/
def SZ (f : FuncId) (Z : Value) (b : Nat) : Prop := ∀ w : World, Calls Try.prog f #[Z] w fun e w' => e = .returned (.int .u32 (b : Int)) ∧ Below w.heap.size w w'
theorem window_shows {u : Value} {b : Nat} (hb : b < 4294967296) (h : SH u b) (x : WX) (v : Value) (hx : Cap x) : SZ 83 (.agg (u :: x.cells v).toArray) ((givenN x ||| keptN x b) ||| 1024) := by
  intro w
  have hg := fun w => h w x v hx
  simp only [WX.cells] at hg ⊢
  have e1 : bits .or .u32 ((givenN x ||| keptN x b : Nat) : Int) 1024 = (((givenN x ||| keptN x b) ||| 1024 : Nat) : Int) := bits32_or (or_lt (givenN_lt hx) (keptN_lt b hb)) (b := 1024) (by omega)
  generalize ((givenN x ||| keptN x b) ||| 1024) = GG at *
  generalize (givenN x ||| keptN x b) = G at *
  have HG := Lib.hid hg
  clear hg
  go_enter Try.func83, Try.ntmps83
  go_wp2_with fail
  refine (HG.out _).mono ?_
  rintro e w1 ⟨rfl, hb⟩
  have hb1 : Below w.heap.size w w1 := below_on hb (by go_grown)
  clear hb
  go_wp2_with fail
  go_ret
  exact ⟨rfl, hb1⟩
end Go.Proofs.Ytlnlefebcfnocaa
