/- SpanTells: what any spans tell (up to 60 that, if they may be, lie below 2^11; else it says only that the program is awake): their places, how many there are, which has a number, how many are below one, and whether one is there, are the document's, errors and all. No condition. -/
import Derived.Test.YtlhkjkldjhapeaaPrint9
import Derived.Test.YtlhkjkldjhapeaaTC
set_option linter.unusedVariables false
namespace Go.Proofs.Ytlhkjkldjhapeaa.Pure
open Go.RowKit Go.Proofs.Ytlhkjkldjhapeaa.Print Go.Proofs.YtlhkjkldjhapeaaW.PrintWords Go.Proofs.YtlhkjkldjhapeaaW.PrintLast Go.Proofs.YtlhkjkldjhapeaaW.PrintMore
theorem SpanTells : peristylelaw14_SpanTells.Pure := by
  intro l a at_ hl ha hat
  refine Ev.rounds (g := fun k => peristylelaw14_SpanTells.f k l a at_) ?_
  obtain ⟨f, hf, hf2⟩ := few_all l
  unfold peristylelaw14_SpanTells.f
  refine Ev.bind hf ?_
  cases f with
  | false => exact Ev.no (by decide) (Ev.bind awake14_ev (Ev.now _))
  | true =>
    have la : l.length ≤ 4398046511104 := by have := (hf2 rfl).1; omega
    have h16 := cnt_le (memS l) 65536
    have hP : (if mayB l (-1) = true then (placesR l, (0 : Int)) else ([], 1)).1.length ≤ 65536 := by
      split
      · rename_i hm
        have := placesR_len hm
        show (placesR l).length ≤ _
        omega
      · simp
    refine Ev.yes rfl (Ev.bind (span_Places_ev l la) (Ev.bind (ref14_Places_all l la) (Ev.bind (span_Pick_ev l a (InI.of_wf ha) la) (Ev.bind (ref14_Pick_ev l a la) ?_))))
    refine Ev.bind (ref01_Same_ev _ _ (by omega)) (Ev.yes (by simp) (Ev.yes rfl (Ev.yes rfl (Ev.yes rfl (Ev.bind (span_Count_ev l la) (Ev.yes ?_ ?_))))))
    · cases hm : mayB l (-1) with
      | false => rfl
      | true =>
        have := placesR_len hm
        show (cnt (memS l) 65536 : Int) = ((placesR l).length : Int)
        omega
    · exact Ev.bind (span_Rank_ev l at_ (InI.of_wf hat) la) (Ev.bind (ref14_Rank_ev l at_ la) (Ev.yes rfl (Ev.bind (span_Has_ev l at_ la) (Ev.bind (ref14_Has_evS l at_ la) (Ev.yes (by simp) (Ev.bind awake14_ev (Ev.now _)))))))
end Go.Proofs.Ytlhkjkldjhapeaa.Pure
