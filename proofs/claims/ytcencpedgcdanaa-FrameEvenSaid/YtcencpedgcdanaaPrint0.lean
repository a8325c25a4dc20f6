-- Written by the session's own xprint (over the kit's print program): functions, contracts.
import Derived.Test.YtcencpedgcdanaaProg
import Derived.Below
import Derived.Deep.Draws
import Derived.Deep.AppendLies
import Derived.Maps.AppendAt
import Derived.OwnWalk
import Derived.Laws.BytesArg
import Derived.Laws.MakeOwn
import Derived.Laws.OwnMore
import Derived.Deep.OwnRows
import Derived.Tactics
import Derived.Lib.ConvBytes
import Derived.Laws.Slices
import Derived.WalkKit
import Derived.KernelRfl
import Derived.RowKit3
import Derived.Deep.LoopGhost
import Derived.Deep.QuietTactic
import Derived.BigQuiet
import Derived.WideLaws
import Derived.Deep.DeepCutAuto
import Derived.Deep.CutBlock
import Derived.Deep.RegionHeld3
import Derived.Laws.Rows
import Derived.Lib.AppendStr
import Derived.ArgAppend
import Derived.Laws.IdiomCopy
import Derived.OrdersHeld
import Derived.Laws.BitsLemmas
import Derived.RowKit
import Derived.Test.YtcencpedgcdanaaWWords
import Derived.Test.YtcencpedgcdanaaWLast
import Derived.Test.YtcencpedgcdanaaWTab
import Derived.Test.YtcencpedgcdanaaWFour
import Derived.Test.YtcencpedgcdanaaWQPut
import Derived.Test.YtcencpedgcdanaaWApart
import Derived.Test.YtcencpedgcdanaaWArr
import Derived.Test.YtcencpedgcdanaaWZeros
import Derived.Test.YtcencpedgcdanaaWFoot
import Derived.Test.YtcencpedgcdanaaWKept
import Derived.Test.YtcencpedgcdanaaWShare
import Derived.Test.YtcencpedgcdanaaWN
import Derived.Test.YtcencpedgcdanaaWFootNe
import Derived.Test.YtcencpedgcdanaaWAt
import Derived.Test.YtcencpedgcdanaaWEqStruct
import Derived.Test.YtcencpedgcdanaaWRepsOne
import Derived.Test.YtcencpedgcdanaaWInv
import Derived.Test.YtcencpedgcdanaaWInvWords
import Derived.Test.YtcencpedgcdanaaWGuard
import Derived.Test.YtcencpedgcdanaaWNEv
import Derived.Test.YtcencpedgcdanaaWMore
import Derived.Test.YtcencpedgcdanaaXW
namespace Go.Proofs.Ytcencpedgcdanaa.Print
open Go.RowKit Go.Proofs.YtcencpedgcdanaaW.PrintWords Go.Proofs.YtcencpedgcdanaaW.PrintLast Go.Proofs.YtcencpedgcdanaaW.PrintMore
attribute [local go_sem] max2_int min2_int max_two min_two max_three min_three max_four min_four   -- for this text's walks alone
set_option linter.unusedVariables false
set_option linter.unusedSimpArgs false



def errW : Option Int → Value
  | none => .nilIface
  | some c => .iface 0 (.int .i64 c)
theorem errW_none : errW none = .nilIface := rfl
theorem errW_some (c : Int) : errW (some c) = .iface 0 (.int .i64 c) := rfl

theorem info3 : (Try.prog.info? 3).map (fun i => (i.zero, i.size, i.bytes)) = some (some (.int .i64 0), 1, 8) := by kernel_rfl
theorem info5 : (Try.prog.info? 5).map (fun i => (i.zero, i.size, i.bytes)) = some (some (.int .u8 0), 1, 1) := by kernel_rfl
-- the values' own types

end Go.Proofs.Ytcencpedgcdanaa.Print
