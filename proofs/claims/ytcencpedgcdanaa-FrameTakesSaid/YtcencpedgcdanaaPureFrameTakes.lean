/- FrameTakes: for any bytes (up to 512, else it says only that the program is awake) and any number the program and the document take the same numbers or errors, and the numbers lead to these bytes. No condition. -/
import Derived.Test.YtcencpedgcdanaaPrint12
import Derived.Test.YtcencpedgcdanaaSH
set_option linter.unusedVariables false
namespace Go.Proofs.Ytcencpedgcdanaa.Pure
open Go.RowKit Go.Proofs.Ytcencpedgcdanaa.Print Go.Proofs.YtcencpedgcdanaaW.PrintWords Go.Proofs.YtcencpedgcdanaaW.PrintLast
theorem FrameTakes : peristylelaw09_FrameTakes.Pure := by
  intro s n hs hn
  refine Ev.rounds (g := fun k => peristylelaw09_FrameTakes.f k s n) ?_
  unfold peristylelaw09_FrameTakes.f
  by_cases h5 : (s.size : Int) > 512
  · exact Ev.yes h5 (Ev.bind awake09_ev (Ev.now _))
  have hk := takeF_ok s n
  refine Ev.no h5 (Ev.bind (frame_Take_ev s (by omega) n) (Ev.bind (ref09_Take_ev s (by omega) n) (Ev.bind (frame_Put_ev hk.1.2) ?_)))
  refine Ev.bind (ref01_Same_ev _ _ (by have := hk.1.1; omega)) (Ev.yes (decide_eq_true rfl) (Ev.yes rfl ?_))
  by_cases h0 : (takeF s n).2 = 0
  · exact Ev.yes h0 (Ev.yes (hk.2 h0) (Ev.yes (putF_ok hk.1.1) (Ev.bind awake09_ev (Ev.now _))))
  · exact Ev.no h0 (Ev.bind awake09_ev (Ev.now _))
end Go.Proofs.Ytcencpedgcdanaa.Pure
