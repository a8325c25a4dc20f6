/- SpanSets: of any two sets of spans that may be (up to 60 each, below 2^11; else it says only that the program is awake): in both and in one do not hang on the order, what is in both and what is in the first alone are together the first and have nothing in common, counts go together, and what is in one may be. No condition. -/
import Derived.Test.YtlhkjkldjhapeaaPrint8
import Derived.Test.YtlhkjkldjhapeaaTC
set_option linter.unusedVariables false
namespace Go.Proofs.Ytlhkjkldjhapeaa.Pure
open Go.RowKit Go.Proofs.Ytlhkjkldjhapeaa.Print Go.Proofs.YtlhkjkldjhapeaaW.PrintWords Go.Proofs.YtlhkjkldjhapeaaW.PrintLast Go.Proofs.YtlhkjkldjhapeaaW.PrintMore
theorem SpanSets : peristylelaw14_SpanSets.Pure := by
  intro a b ha hb
  refine Ev.rounds (g := fun k => peristylelaw14_SpanSets.f k a b) ?_
  have hyes : Ev (fun k => peristylelaw14_SpanSets.j0 k a b true) true := Ev.step (fun k => peristylelaw14_SpanSets.j0_succ k _ _ _) (Ev.yes rfl (Ev.bind awake14_ev (Ev.now _)))
  obtain ⟨f, hf, hf2⟩ := few_all a
  obtain ⟨g, hg, hg2⟩ := few_all b
  unfold peristylelaw14_SpanSets.f
  refine Ev.bind hf ?_
  cases f with
  | false => exact Ev.no (by decide) hyes
  | true =>
    refine Ev.yes rfl (Ev.bind hg ?_)
    cases g with
    | false => exact Ev.no (by decide) hyes
    | true =>
      have la : a.length ≤ 4398046511104 := by have := (hf2 rfl).1; omega
      have lb : b.length ≤ 4398046511104 := by have := (hg2 rfl).1; omega
      refine Ev.yes rfl (Ev.bind (ref14_May_ev a la) ?_)
      cases hA : mayB a (-1) with
      | false => exact Ev.no (by decide) hyes
      | true =>
        refine Ev.yes rfl (Ev.bind (ref14_May_ev b lb) ?_)
        cases hB : mayB b (-1) with
        | false => exact hyes
        | true =>
          have x := both14_ok 0 a b hA hB
          have y := both14_ok 0 b a hB hA
          have z := both14_ok 1 a b hA hB
          have w := both14_ok 1 b a hB hA
          have l := both14_ok 2 a b hA hB
          have u := both14_ok 1 _ _ x.1 l.1
          have n := both14_ok 0 _ _ x.1 l.1
          have xy : (both14R 0 b a).1 = (both14R 0 a b).1 := may_ext _ _ (-1) (Int.le_refl _) y.1 x.1 (fun k => by rw [y.2.2.2 k, x.2.2.2 k]; exact Bool.and_comm _ _)
          have zw : (both14R 1 b a).1 = (both14R 1 a b).1 := may_ext _ _ (-1) (Int.le_refl _) w.1 z.1 (fun k => by rw [w.2.2.2 k, z.2.2.2 k]; exact Bool.or_comm _ _)
          have ua : (both14R 1 (both14R 0 a b).1 (both14R 2 a b).1).1 = a := may_ext _ _ (-1) (Int.le_refl _) u.1 hA (fun k => by
            rw [u.2.2.2 k, x.2.2.2 k, l.2.2.2 k]
            show ((memS a k && memS b k) || (memS a k && !memS b k)) = _
            cases memS a k <;> cases memS b k <;> rfl)
          have nn : (both14R 0 (both14R 0 a b).1 (both14R 2 a b).1).1 = [] := may_ext _ _ (-1) (Int.le_refl _) n.1 rfl (fun k => by
            rw [n.2.2.2 k, x.2.2.2 k, l.2.2.2 k]
            show ((memS a k && memS b k) && (memS a k && !memS b k)) = false
            cases memS a k <;> cases memS b k <;> rfl)
          have lx := x.2.2.1
          have lz := z.2.2.1
          have ll := l.2.2.1
          refine Ev.step (fun k => peristylelaw14_SpanSets.j0_succ k _ _ _) (Ev.no (by decide) ?_)
          refine Ev.bind (span_And_ev a b la lb) (Ev.bind (span_And_ev b a lb la) (Ev.bind (span_Or_ev a b la lb) (Ev.bind (span_Or_ev b a lb la) (Ev.bind (span_Less_ev a b la lb) (Ev.bind (span_Or_ev _ _ (by omega) (by omega)) (Ev.bind (span_And_ev _ _ (by omega) (by omega)) ?_))))))
          rw [xy, zw, ua, nn]
          refine Ev.yes x.2.1 (Ev.yes y.2.1 (Ev.yes z.2.1 (Ev.yes w.2.1 (Ev.yes l.2.1 (Ev.yes u.2.1 ?_)))))
          rw [n.2.1]
          refine Ev.step (fun k => peristylelaw14_SpanSets.j1_succ k _ _ _ _ _ _ _ _ _) (Ev.no (by decide) ?_)
          refine Ev.bind (ref14_Same_self _ (by omega)) (Ev.yes rfl (Ev.bind (ref14_Same_self _ (by omega)) (Ev.yes rfl (Ev.bind (ref14_Same_self _ la) (Ev.yes rfl (Ev.yes rfl ?_))))))
          refine Ev.bind (span_Count_ev _ (by omega)) (Ev.bind (span_Count_ev _ (by omega)) (Ev.bind (span_Count_ev a la) (Ev.bind (span_Count_ev b lb) (Ev.yes ?_ ?_))))
          · rw [if_pos z.1, if_pos x.1, if_pos hA, if_pos hB]
            have hi := cnt_incl (memS a) (memS b) 65536
            have e1 : cnt (memS (both14R 1 a b).1) 65536 = cnt (fun k => memS a k || memS b k) 65536 := cnt_congr _ (fun k _ => z.2.2.2 k)
            have e2 : cnt (memS (both14R 0 a b).1) 65536 = cnt (fun k => memS a k && memS b k) 65536 := cnt_congr _ (fun k _ => x.2.2.2 k)
            rw [e1, e2]
            exact wrap_sum hi
          · exact Ev.bind (span_May_ev _ (by omega)) (Ev.yes z.1 (Ev.bind awake14_ev (Ev.now _)))
end Go.Proofs.Ytlhkjkldjhapeaa.Pure
