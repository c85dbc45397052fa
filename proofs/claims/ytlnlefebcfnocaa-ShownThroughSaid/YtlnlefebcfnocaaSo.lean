/- The levels of a chain: build. -/
import Derived.Test.YtlnlefebcfnocaaSn1
import Derived.Test.YtlnlefebcfnocaaSn2
import Derived.Test.YtlnlefebcfnocaaSn3
namespace Go.Proofs.Ytlnlefebcfnocaa
open Go.RowKit Go.Deep
attribute [local go_sem] Go.undef

/-- What a level gives and shows, by its kind. -/
theorem lv_shows {c : Nat} (hc : c < 4294967296) : ∀ {r : List (WX × Value)}, (∀ p ∈ r, Cap p.1) →
    (r = [] → SZ 75 (.agg #[.int .u32 (c : Int)]) c) ∧
    (∀ p q, r = p :: q → (p.1.opn = false → SZ 77 (.agg (lvV c q :: p.1.cells p.2).toArray) (showsN c (r.map Prod.fst))) ∧ (p.1.opn = true → SZ 83 (.agg (lvV c q :: p.1.cells p.2).toArray) (showsN c (r.map Prod.fst)))) ∧
    SH (lvV c r) (showsN c (r.map Prod.fst))
  | [], _ => by
    have h1 : SZ 75 (.agg #[.int .u32 (c : Int)]) c := fun w => inner_shows w c
    exact ⟨fun _ => h1, (fun p q h => nomatch h), shell_inner hc h1⟩
  | p :: r, h => by
    have ih := (lv_shows hc (r := r) fun q hq => h q (by simp [hq])).2.2
    have hp := h p (by simp)
    have hb : showsN c (r.map Prod.fst) < 4294967296 := showsN_lt hc fun x hx => by
      obtain ⟨q, hq, rfl⟩ := List.mem_map.1 hx
      exact h q (by simp [hq])
    have k1 : SZ 77 (.agg (lvV c r :: p.1.cells p.2).toArray) (givenN p.1 ||| keptN p.1 (showsN c (r.map Prod.fst))) := fun w => ih w p.1 p.2 hp
    have k2 := window_shows hb ih p.1 p.2 hp
    refine ⟨(fun h => nomatch h), (fun p' q' h => ?_), ?_⟩
    · injection h with h1 h2
      subst h1 h2
      rw [List.map_cons, showsN, opnN]
      refine ⟨fun h => ?_, fun h => ?_⟩
      · rw [h, if_neg (by simp), Nat.or_zero]; exact k1
      · rw [h, if_pos rfl]; exact k2
    · rw [List.map_cons, showsN, opnN, lvV]
      cases ho : p.1.opn with
      | false => rw [if_neg (by simp), if_neg (by simp), Nat.or_zero]; exact shell_shell (or_lt (givenN_lt hp) (keptN_lt _ hb)) k1
      | true => rw [if_pos rfl, if_pos rfl]; exact shell_window (or_lt (or_lt (givenN_lt hp) (keptN_lt _ hb)) (by omega)) k2
end Go.Proofs.Ytlnlefebcfnocaa
