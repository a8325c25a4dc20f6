-- What the functions of bits and of the document's bits tell, bit by bit.
import Derived.Test.YtlhkjkldjhapeaaPrint0
import Derived.Test.YtlhkjkldjhapeaaXB
set_option linter.unusedVariables false
set_option linter.unusedSimpArgs false
namespace Go.Proofs.Ytlhkjkldjhapeaa.Print
open Go.RowKit Go.Proofs.YtlhkjkldjhapeaaW.PrintWords Go.Proofs.YtlhkjkldjhapeaaW.PrintMore
def fieldP (a p w : Int) (i : Nat) : Bool := decide (0 ≤ p ∧ p < 64 ∧ (i : Int) < w) && bit a (p.toNat + i)
end Go.Proofs.Ytlhkjkldjhapeaa.Print
