-- What must come, whatever the arguments are (chapter 26).
import Derived.Test.YtbmlfbbcgbgnoaaPrint1
import Derived.Test.YtbmlfbbcgbgnoaaPrint2
import Derived.Test.YtbmlfbbcgbgnoaaPrint3
import Derived.Test.YtbmlfbbcgbgnoaaPrint5
import Derived.Test.YtbmlfbbcgbgnoaaPrint6
import Derived.Test.YtbmlfbbcgbgnoaaXB
import Derived.Lib.Strings
namespace Go.Proofs.Ytbmlfbbcgbgnoaa.Print
open Go.RowKit Go.Proofs.YtbmlfbbcgbgnoaaW.PrintWords Go.Proofs.YtbmlfbbcgbgnoaaW.PrintMore
theorem awake26_ev : Ev (fun k => peristylelaw26_awake.f k) true := by
  unfold peristylelaw26_awake.f
  refine Ev.bind (a := ([1, 2, 0], 0)) (Ev.of (k := 60) (fun k => jindex_Turned.mono _ k) (by decide +kernel)) ?_
  refine Ev.bind (a := ([2, 0, 1], 0)) (Ev.of (k := 60) (fun k => jindex_Between.mono _ _ k) (by decide +kernel)) ?_
  refine Ev.bind (a := ((⟨#[18]⟩ : ByteArray), 0)) (Ev.of (k := 60) (fun k => jindex_Put.mono _ k) (by decide +kernel)) ?_
  refine Ev.bind (a := ([2, 0, 1], 1, 0)) (Ev.of (k := 60) (fun k => jindex_Take.mono _ _ k) (by decide +kernel)) ?_
  refine Ev.bind (a := true) (Ev.of (k := 60) (fun k => peristyleref01_Same.mono _ _ k) (by decide +kernel)) (Ev.yes rfl (Ev.yes rfl ?_))
  refine Ev.bind (a := true) (Ev.of (k := 60) (fun k => peristyleref01_Same.mono _ _ k) (by decide +kernel)) (Ev.yes rfl (Ev.yes rfl (Ev.yes (by rw [Lib.toList_data]) (Ev.yes rfl ?_))))
  exact Ev.bind (a := true) (Ev.of (k := 60) (fun k => peristyleref01_Same.mono _ _ k) (by decide +kernel)) (Ev.yes rfl (Ev.yes rfl (Ev.now _)))
end Go.Proofs.Ytbmlfbbcgbgnoaa.Print
