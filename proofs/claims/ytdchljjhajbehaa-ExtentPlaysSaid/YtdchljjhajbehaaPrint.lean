-- Written by the session's own xprint (over the kit's print program): functions, contracts.
import Derived.Test.YtdchljjhajbehaaPrint0
import Derived.Test.YtdchljjhajbehaaPrint1
import Derived.Test.YtdchljjhajbehaaPrint2
import Derived.Test.YtdchljjhajbehaaPrint3
namespace Go.Proofs.Ytdchljjhajbehaa.Print
open Go.RowKit Go.Proofs.YtdchljjhajbehaaW.PrintWords Go.Proofs.YtdchljjhajbehaaW.PrintLast Go.Proofs.YtdchljjhajbehaaW.PrintMore
attribute [local go_sem] max2_int min2_int max_two min_two max_three min_three max_four min_four   -- for this text's walks alone
set_option linter.unusedVariables false
set_option linter.unusedSimpArgs false

end Go.Proofs.Ytdchljjhajbehaa.Print
