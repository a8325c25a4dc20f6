-- What must come, whatever the arguments are: reckoned by the kernel.
import Derived.Test.YtconnhmlpolmnaaPrint2
namespace Go.Proofs.Ytconnhmlpolmnaa.Print
theorem awake_ok : peristylelaw01_awake.f 40 = some true := by decide +kernel
end Go.Proofs.Ytconnhmlpolmnaa.Print
