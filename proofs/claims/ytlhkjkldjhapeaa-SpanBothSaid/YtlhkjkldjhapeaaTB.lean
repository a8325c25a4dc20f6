-- Sets as spans: how many there are, which one has a number, how many are below one, whether one is there; as the program tells it, and as the document does.
import Derived.Test.YtlhkjkldjhapeaaPrint0
import Derived.Test.YtlhkjkldjhapeaaPrint6
import Derived.Test.YtlhkjkldjhapeaaTA
import Derived.Test.YtlhkjkldjhapeaaSO
set_option linter.unusedVariables false
set_option linter.unusedSimpArgs false
namespace Go.Proofs.Ytlhkjkldjhapeaa.Print
open Go.RowKit Go.Proofs.YtlhkjkldjhapeaaW.PrintWords Go.Proofs.YtlhkjkldjhapeaaW.PrintMore
/-- how many places of spans lie below n -/
def rkS : List S43 → Nat → Nat
  | [], _ => 0
  | s :: l, n => (min n s.f1.toNat - min n s.f0.toNat) + rkS l n
end Go.Proofs.Ytlhkjkldjhapeaa.Print
