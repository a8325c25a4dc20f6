/- BitsZigs: for every number the program's zig and zag are the document's, and lead back. No condition. -/
import Derived.Test.YtconnhmlpolmnaaPrint2
import Derived.Test.YtconnhmlpolmnaaSE
import Derived.Test.YtconnhmlpolmnaaSA
namespace Go.Proofs.Ytconnhmlpolmnaa.Pure
open Go.RowKit Go.Proofs.Ytconnhmlpolmnaa.Print Go.Proofs.YtconnhmlpolmnaaW.PrintWords Go.Proofs.YtconnhmlpolmnaaW.PrintLast
theorem BitsZigs : peristylelaw01_BitsZigs.Pure := by
  intro a ha
  have h := InI.of_wf ha
  refine ⟨40, ?_⟩
  unfold peristylelaw01_BitsZigs.f
  refine obind (bits_Zig_eq h) (obind (ref_Zig_eq a) (oif rfl ?_))
  refine obind (bits_Zag_eq a) (obind (ref_Zag_eq a) (oif rfl ?_))
  refine obind (bits_Zig_eq h) (obind (zag_zig h) (oif rfl ?_))
  refine obind (bits_Zag_eq a) (obind (zig_zag h) (oif rfl ?_))
  exact obind awake_ok rfl
end Go.Proofs.Ytconnhmlpolmnaa.Pure
