-- Sets as words: how many there are, which one has a number, and their spans as the program tells them.
import Derived.Test.YtlhkjkldjhapeaaPrint0
import Derived.Test.YtlhkjkldjhapeaaSY
import Derived.Test.YtlhkjkldjhapeaaSD
set_option linter.unusedVariables false
set_option linter.unusedSimpArgs false
namespace Go.Proofs.Ytlhkjkldjhapeaa.Print
open Go.RowKit Go.Proofs.YtlhkjkldjhapeaaW.PrintWords Go.Proofs.YtlhkjkldjhapeaaW.PrintMore
/-- how many there are below n -/
def cnt (p : Nat → Bool) : Nat → Nat
  | 0 => 0
  | n + 1 => cnt p n + if p n = true then 1 else 0
def countW (l : List Int) : Nat := cnt (memW l) (64 * l.length)
end Go.Proofs.Ytlhkjkldjhapeaa.Print
