-- What must come, whatever the arguments are.
import Derived.Test.YtconnhmlpolmnaaPrint2
import Derived.Test.YtconnhmlpolmnaaXB
import Derived.Lib.Strings
namespace Go.Proofs.Ytconnhmlpolmnaa.Print
open Go.RowKit Go.Proofs.YtconnhmlpolmnaaW.PrintWords Go.Proofs.YtconnhmlpolmnaaW.PrintMore
theorem awake_ok : peristylelaw01_awake.f 40 = some true := by decide +kernel
end Go.Proofs.Ytconnhmlpolmnaa.Print
