-- Lists of numbers, read by their places; the document's Same.
import Derived.Test.YtlhkjkldjhapeaaPrint0
import Derived.Test.YtlhkjkldjhapeaaXB
set_option linter.unusedVariables false
set_option linter.unusedSimpArgs false
namespace Go.Proofs.Ytlhkjkldjhapeaa.Print
open Go.RowKit Go.Proofs.YtlhkjkldjhapeaaW.PrintWords Go.Proofs.YtlhkjkldjhapeaaW.PrintMore
theorem rd_get (l : List Int) (i : Nat) (h : i < l.length) : rd l (i : Int) = l[i] := by
  unfold rd
  rw [Int.toNat_natCast, List.getD_eq_getElem?_getD, List.getElem?_eq_getElem h]
  rfl
end Go.Proofs.Ytlhkjkldjhapeaa.Print
