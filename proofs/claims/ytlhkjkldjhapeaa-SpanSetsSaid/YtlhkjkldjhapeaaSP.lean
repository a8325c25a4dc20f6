-- Words of few bits as bytes: what the program's functions and the document's tell.
import Derived.Test.YtlhkjkldjhapeaaPrint0
import Derived.Test.YtlhkjkldjhapeaaXB
import Derived.Test.YtlhkjkldjhapeaaSG
import Derived.Test.YtlhkjkldjhapeaaSB
import Derived.Test.YtlhkjkldjhapeaaSC
set_option linter.unusedVariables false
set_option linter.unusedSimpArgs false
namespace Go.Proofs.Ytlhkjkldjhapeaa.Print
open Go.RowKit Go.Proofs.YtlhkjkldjhapeaaW.PrintWords Go.Proofs.YtlhkjkldjhapeaaW.PrintMore
/-! ### widths -/
theorem topTo_le (l : List Bool) : ∀ k, 0 ≤ topTo l k ∧ topTo l k ≤ k
  | 0 => by simp [topTo]
  | k + 1 => by
    have := topTo_le l k
    simp only [topTo]
    split <;> omega
/-! ### bits one behind the other, as bytes -/
end Go.Proofs.Ytlhkjkldjhapeaa.Print
