-- Written by the session's own xprint (over the kit's print program): functions, contracts.
import Derived.Test.YtconnhmlpolmnaaProg
import Derived.Below
import Derived.Deep.Draws
import Derived.Deep.AppendLies
import Derived.Maps.AppendAt
import Derived.OwnWalk
import Derived.Laws.BytesArg
import Derived.Laws.MakeOwn
import Derived.Laws.OwnMore
import Derived.Deep.OwnRows
import Derived.Tactics
import Derived.Lib.ConvBytes
import Derived.Laws.Slices
import Derived.WalkKit
import Derived.KernelRfl
import Derived.RowKit3
import Derived.Deep.LoopGhost
import Derived.Deep.QuietTactic
import Derived.BigQuiet
import Derived.WideLaws
import Derived.Deep.DeepCutAuto
import Derived.Deep.CutBlock
import Derived.Deep.RegionHeld3
import Derived.Laws.Rows
import Derived.Lib.AppendStr
import Derived.ArgAppend
import Derived.Laws.IdiomCopy
import Derived.OrdersHeld
import Derived.Laws.BitsLemmas
import Derived.RowKit
import Derived.Test.YtconnhmlpolmnaaWWords
import Derived.Test.YtconnhmlpolmnaaWLast
import Derived.Test.YtconnhmlpolmnaaWTab
import Derived.Test.YtconnhmlpolmnaaWFour
import Derived.Test.YtconnhmlpolmnaaWQPut
import Derived.Test.YtconnhmlpolmnaaWApart
import Derived.Test.YtconnhmlpolmnaaWArr
import Derived.Test.YtconnhmlpolmnaaWZeros
import Derived.Test.YtconnhmlpolmnaaWFoot
import Derived.Test.YtconnhmlpolmnaaWKept
import Derived.Test.YtconnhmlpolmnaaWShare
import Derived.Test.YtconnhmlpolmnaaWN
import Derived.Test.YtconnhmlpolmnaaWFootNe
import Derived.Test.YtconnhmlpolmnaaWAt
import Derived.Test.YtconnhmlpolmnaaWEqStruct
import Derived.Test.YtconnhmlpolmnaaWRepsOne
import Derived.Test.YtconnhmlpolmnaaWInv
import Derived.Test.YtconnhmlpolmnaaWInvWords
import Derived.Test.YtconnhmlpolmnaaWGuard
import Derived.Test.YtconnhmlpolmnaaWNEv
import Derived.Test.YtconnhmlpolmnaaWMore
import Derived.Test.YtconnhmlpolmnaaXW
namespace Go.Proofs.Ytconnhmlpolmnaa.Print
open Go.RowKit Go.Proofs.YtconnhmlpolmnaaW.PrintWords Go.Proofs.YtconnhmlpolmnaaW.PrintLast Go.Proofs.YtconnhmlpolmnaaW.PrintMore
attribute [local go_sem] max2_int min2_int max_two min_two max_three min_three max_four min_four   -- for this text's walks alone
set_option linter.unusedVariables false
set_option linter.unusedSimpArgs false



def errW : Option Int → Value
  | none => .nilIface
  | some c => .iface 0 (.int .i64 c)
theorem errW_none : errW none = .nilIface := rfl
theorem errW_some (c : Int) : errW (some c) = .iface 0 (.int .i64 c) := rfl

-- the values' own types

end Go.Proofs.Ytconnhmlpolmnaa.Print
