-- Sets as words: the place with a number, how many are below a place, whether one is there; and the document's places.
import Derived.Test.YtlhkjkldjhapeaaPrint0
import Derived.Test.YtlhkjkldjhapeaaSZ
set_option linter.unusedVariables false
set_option linter.unusedSimpArgs false
namespace Go.Proofs.Ytlhkjkldjhapeaa.Print
open Go.RowKit Go.Proofs.YtlhkjkldjhapeaaW.PrintWords Go.Proofs.YtlhkjkldjhapeaaW.PrintMore
/-- those below n, one behind the other -/
def mems (p : Nat → Bool) : Nat → List Int
  | 0 => []
  | n + 1 => mems p n ++ if p n = true then [(n : Int)] else []
def memsW (l : List Int) : List Int := mems (memW l) (64 * l.length)
noncomputable def pickR (l : List Int) (a : Int) : Int × Int := if mayW l = true then (if a < 0 ∨ (countW l : Int) ≤ a then (0, 3) else (rd (memsW l) a, 0)) else (0, 1)
end Go.Proofs.Ytlhkjkldjhapeaa.Print
