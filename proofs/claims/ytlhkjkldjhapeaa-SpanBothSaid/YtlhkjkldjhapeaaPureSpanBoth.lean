/- SpanBoth: what is in both of any two sets of spans (up to 60 each that, if they may be, lie below 2^11; else it says only that the program is awake), in one, and in the first alone, or that they may not be, are the document's. No condition. -/
import Derived.Test.YtlhkjkldjhapeaaPrint10
import Derived.Test.YtlhkjkldjhapeaaTC
set_option linter.unusedVariables false
namespace Go.Proofs.Ytlhkjkldjhapeaa.Pure
open Go.RowKit Go.Proofs.Ytlhkjkldjhapeaa.Print Go.Proofs.YtlhkjkldjhapeaaW.PrintWords Go.Proofs.YtlhkjkldjhapeaaW.PrintLast Go.Proofs.YtlhkjkldjhapeaaW.PrintMore
theorem SpanBoth : peristylelaw14_SpanBoth.Pure := by
  intro a b ha hb
  refine Ev.rounds (g := fun k => peristylelaw14_SpanBoth.f k a b) ?_
  have hyes : Ev (fun k => peristylelaw14_SpanBoth.j0 k a b true) true := Ev.step (fun k => peristylelaw14_SpanBoth.j0_succ k _ _ _) (Ev.yes rfl (Ev.bind awake14_ev (Ev.now _)))
  obtain ⟨f, hf, hf2⟩ := few_all a
  obtain ⟨g, hg, hg2⟩ := few_all b
  unfold peristylelaw14_SpanBoth.f
  refine Ev.bind hf ?_
  cases f with
  | false => exact Ev.no (by decide) hyes
  | true =>
    refine Ev.yes rfl (Ev.bind hg ?_)
    cases g with
    | false => exact hyes
    | true =>
      have la : a.length ≤ 4398046511104 := by have := (hf2 rfl).1; omega
      have lb : b.length ≤ 4398046511104 := by have := (hg2 rfl).1; omega
      have l0 := both14_len 0 a b
      have l1 := both14_len 1 a b
      have l2 := both14_len 2 a b
      refine Ev.step (fun k => peristylelaw14_SpanBoth.j0_succ k _ _ _) (Ev.no (by decide) ?_)
      refine Ev.bind (span_And_ev a b la lb) (Ev.bind (span_Or_ev a b la lb) (Ev.bind (span_Less_ev a b la lb) ?_))
      refine Ev.bind (ref14_Both_ev 0 a b la lb) (Ev.bind (ref14_Both_ev 1 a b la lb) (Ev.bind (ref14_Both_ev 2 a b la lb) ?_))
      refine Ev.bind (ref14_Same_self _ (by omega)) (Ev.yes rfl (Ev.yes rfl ?_))
      refine Ev.bind (ref14_Same_self _ (by omega)) (Ev.yes rfl (Ev.yes rfl ?_))
      refine Ev.bind (ref14_Same_self _ (by omega)) (Ev.yes rfl (Ev.yes rfl ?_))
      exact Ev.bind (span_May_ev a la) (Ev.bind (ref14_May_ev a la) (Ev.yes (by simp) (Ev.bind awake14_ev (Ev.now _))))
end Go.Proofs.Ytlhkjkldjhapeaa.Pure
