-- What the width of a word, its ones, and its next bit are.
import Derived.Test.YtlhkjkldjhapeaaPrint0
import Derived.Test.YtlhkjkldjhapeaaXB
import Derived.Test.YtlhkjkldjhapeaaSB
set_option linter.unusedVariables false
set_option linter.unusedSimpArgs false
namespace Go.Proofs.Ytlhkjkldjhapeaa.Print
open Go.RowKit Go.Proofs.YtlhkjkldjhapeaaW.PrintWords Go.Proofs.YtlhkjkldjhapeaaW.PrintMore
theorem topTo_of (l : List Bool) (r : Nat) : ∀ k, r ≤ k → (∀ i, r ≤ i → i < k → bAt l i = false) → (r = 0 ∨ bAt l (r - 1) = true) → topTo l k = (r : Int)
  | 0, h, _, _ => by
    obtain rfl : r = 0 := by omega
    rfl
  | k + 1, h, h1, h2 => by
    simp only [topTo]
    by_cases e : r = k + 1
    · subst e
      rcases h2 with h2 | h2
      · omega
      · rw [if_pos (by simpa using h2)]; omega
    · rw [if_neg (by rw [h1 k (by omega) (by omega)]; simp)]
      exact topTo_of l r k (by omega) (fun i hi hk => h1 i hi (by omega)) h2
end Go.Proofs.Ytlhkjkldjhapeaa.Print
