/- BitsFields: for every word, place, width and value the program's Field and With are the document's. No condition. -/
import Derived.Test.YtconnhmlpolmnaaPrint4
import Derived.Test.YtconnhmlpolmnaaSB
import Derived.Test.YtconnhmlpolmnaaSA
namespace Go.Proofs.Ytconnhmlpolmnaa.Pure
open Go.RowKit Go.Proofs.Ytconnhmlpolmnaa.Print Go.Proofs.YtconnhmlpolmnaaW.PrintWords Go.Proofs.YtconnhmlpolmnaaW.PrintLast
theorem BitsFields : peristylelaw01_BitsFields.Pure := by
  intro a p w v ha _ _ _
  have h := InI.of_wf ha
  refine ⟨40, ?_⟩
  unfold peristylelaw01_BitsFields.f
  refine obind (bits_Field_eq a p w) (obind (ref_Field_eq a p w) (oif rfl ?_))
  refine obind (bits_With_eq h p w v) (obind (ref_With_eq a p w v) (oif rfl ?_))
  exact obind awake_ok rfl
end Go.Proofs.Ytconnhmlpolmnaa.Pure
