-- The next bit of a word, and its ones.
import Derived.Test.YtlhkjkldjhapeaaPrint0
import Derived.Test.YtlhkjkldjhapeaaXB
import Derived.Test.YtlhkjkldjhapeaaSC
set_option linter.unusedVariables false
set_option linter.unusedSimpArgs false
namespace Go.Proofs.Ytlhkjkldjhapeaa.Print
open Go.RowKit Go.Proofs.YtlhkjkldjhapeaaW.PrintWords Go.Proofs.YtlhkjkldjhapeaaW.PrintMore
theorem least_of (q : Nat → Prop) [DecidablePred q] : ∀ n, (∀ i, i < n → ¬ q i) ∨ ∃ p, p < n ∧ q p ∧ ∀ i, i < p → ¬ q i
  | 0 => .inl (fun i hi => by omega)
  | n + 1 => by
    rcases least_of q n with h | ⟨p, hp, hq, h⟩
    · by_cases e : q n
      · exact .inr ⟨n, by omega, e, h⟩
      · refine .inl (fun i hi => ?_)
        by_cases e2 : i = n
        · subst e2; exact e
        · exact h i (by omega)
    · exact .inr ⟨p, by omega, hq, h⟩
end Go.Proofs.Ytlhkjkldjhapeaa.Print
