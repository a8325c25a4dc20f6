-- What must come, whatever the arguments are.
import Derived.Test.YtbgdboplkcgpaaaPrint1
import Derived.Test.YtbgdboplkcgpaaaPrint2
import Derived.Test.YtbgdboplkcgpaaaXB
import Derived.Lib.Strings
namespace Go.Proofs.Ytbgdboplkcgpaaa.Print
open Go.RowKit Go.Proofs.YtbgdboplkcgpaaaW.PrintWords Go.Proofs.YtbgdboplkcgpaaaW.PrintMore
theorem awake_ev : Ev (fun k => peristylelaw08_awake.f k) true := by
  unfold peristylelaw08_awake.f
  refine Ev.bind (a := ((⟨#[213, 1]⟩ : ByteArray), 0)) (Ev.of (k := 60) (fun k => pack_Put.mono _ _ k) (by decide +kernel)) ?_
  refine Ev.bind (a := ([5, 2, 7], 0)) (Ev.of (k := 60) (fun k => pack_Take.mono _ _ _ k) (by decide +kernel)) ?_
  refine Ev.bind (a := (7, 0)) (Ev.of (k := 60) (fun k => pack_At.mono _ _ _ k) (by decide +kernel)) ?_
  refine Ev.yes (by rw [Lib.toList_data]) (Ev.yes rfl ?_)
  refine Ev.bind (a := true) (Ev.of (k := 60) (fun k => peristyleref01_Same.mono _ _ k) (by decide +kernel)) (Ev.yes rfl (Ev.yes rfl (Ev.yes rfl (Ev.yes rfl ?_))))
  exact Ev.bind (a := 3) (Ev.of (k := 60) (fun k => pack_Width.mono _ k) (by decide +kernel)) (Ev.now _)
end Go.Proofs.Ytbgdboplkcgpaaa.Print
