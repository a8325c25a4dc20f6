/- BitsCounts: for every word and every place the program's width, ones, next bit and mask are the document's. No condition. -/
import Derived.Test.YtconnhmlpolmnaaPrint1
import Derived.Test.YtconnhmlpolmnaaPrint2
import Derived.Test.YtconnhmlpolmnaaSB
import Derived.Test.YtconnhmlpolmnaaSD
import Derived.Test.YtconnhmlpolmnaaSA
namespace Go.Proofs.Ytconnhmlpolmnaa.Pure
open Go.RowKit Go.Proofs.Ytconnhmlpolmnaa.Print Go.Proofs.YtconnhmlpolmnaaW.PrintWords Go.Proofs.YtconnhmlpolmnaaW.PrintLast
theorem BitsCounts : peristylelaw01_BitsCounts.Pure := by
  intro a b ha hb
  refine ⟨40, ?_⟩
  unfold peristylelaw01_BitsCounts.f
  rw [bits_Width_eq 33, bits_Ones_eq 21, bits_Next_eq 33, bits_Mask_eq, ref_Mask_eq, awake_ok]
  simp [peristyleref01_Width.f, peristyleref01_Ones.f, peristyleref01_Next.f]
end Go.Proofs.Ytconnhmlpolmnaa.Pure
