/- FramePuts: for any numbers (up to 100, else it says only that the program is awake) the bytes of the program are the document's, its size tells how many, and taken back they are the numbers. No condition. -/
import Derived.Test.YtcencpedgcdanaaPrint9
import Derived.Test.YtcencpedgcdanaaSI
set_option linter.unusedVariables false
namespace Go.Proofs.Ytcencpedgcdanaa.Pure
open Go.RowKit Go.Proofs.Ytcencpedgcdanaa.Print Go.Proofs.YtcencpedgcdanaaW.PrintWords Go.Proofs.YtcencpedgcdanaaW.PrintLast
theorem FramePuts : peristylelaw09_FramePuts.Pure := by
  intro l hl hb hx
  have hI : ∀ x, x ∈ l → InI x := fun x h => InI.of_wf (hx x h)
  refine Ev.rounds (g := fun k => peristylelaw09_FramePuts.f k l) ?_
  unfold peristylelaw09_FramePuts.f
  by_cases h100 : (l.length : Int) > 100
  · exact Ev.yes h100 (Ev.bind awake09_ev (Ev.now _))
  have hsm := putF_small l
  have ht := frame_Take_ev (putF l).1 (by omega) (l.length : Int)
  rw [takeF_putF hI (by omega)] at ht
  refine Ev.no h100 (Ev.bind (frame_Put_ev hI) (Ev.bind (ref09_Put_ev hI) (Ev.bind ht (Ev.yes rfl (Ev.yes rfl (Ev.bind (frame_Size_ev hI) (Ev.yes rfl ?_)))))))
  exact Ev.bind (ref01_Same_ev _ _ (by show l.length ≤ _; omega)) (Ev.yes (decide_eq_true rfl) (Ev.yes rfl (Ev.bind awake09_ev (Ev.now _))))
end Go.Proofs.Ytcencpedgcdanaa.Pure
