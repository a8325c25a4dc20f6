/- SpanOf: the spans of any places (up to 100 that lie below 2^11, or may not be; else it says only that the program is awake), in whatever order and however often, are the document's, or that there are none; they have each of these places, may be, and have no more places than were given. No condition. -/
import Derived.Test.YtlhkjkldjhapeaaPrint3
import Derived.Test.YtlhkjkldjhapeaaPrint5
import Derived.Test.YtlhkjkldjhapeaaPrint6
import Derived.Test.YtlhkjkldjhapeaaPrint7
import Derived.Test.YtlhkjkldjhapeaaTC
set_option linter.unusedVariables false
namespace Go.Proofs.Ytlhkjkldjhapeaa.Pure
open Go.RowKit Go.Proofs.Ytlhkjkldjhapeaa.Print Go.Proofs.YtlhkjkldjhapeaaW.PrintWords Go.Proofs.YtlhkjkldjhapeaaW.PrintLast Go.Proofs.YtlhkjkldjhapeaaW.PrintMore
theorem SpanOf : peristylelaw14_SpanOf.Pure := by
  intro l h1 h2 h3
  refine Ev.rounds (g := fun k => peristylelaw14_SpanOf.f k l) ?_
  unfold peristylelaw14_SpanOf.f
  by_cases hbig : (l.length : Int) > 100
  · exact Ev.yes hbig (Ev.bind awake14_ev (Ev.now _))
  refine Ev.no hbig ?_
  have hlen := ofS_len l
  -- behind the spans: each place is there
  have hall : ∀ (e : Int), (ofS l).2 = e → ∀ (d i : Nat), i + d = l.length → Ev (fun k => peristylelaw14_SpanOf.l1 k l (ofS l).1 e (i : Int)) true := by
    intro e he d
    have hend : ∀ i : Nat, Ev (fun k => peristylelaw14_SpanOf.j3 k l (ofS l).1 e (i : Int) false) true := by
      intro i
      refine Ev.step (fun k => peristylelaw14_SpanOf.j3_succ k _ _ _ _ _) (Ev.no (by decide) ?_)
      by_cases h0 : e = 0
      · have hok : okL l = true := by
          cases hk : okL l with
          | true => rfl
          | false =>
            have : (ofS l).2 = 1 := by unfold ofS; rw [if_neg (by rw [hk]; decide)]
            omega
        have hs : (ofS l).1 = runsTo (memL l) (topL l) := by unfold ofS; rw [if_pos hok]
        have ho := ofS_ok hok
        refine Ev.yes h0 ?_
        have hc := span_Count_ev (ofS l).1 (by omega)
        rw [hs, if_pos ho.1] at hc
        rw [hs]
        refine Ev.bind (span_May_ev _ (by rw [← hs]; omega)) (Ev.yes ho.1 (Ev.bind hc (Ev.yes ?_ (Ev.bind awake14_ev (Ev.now _)))))
        have e1 : cnt (memS (runsTo (memL l) (topL l))) 65536 = cnt (memL l) 65536 := cnt_congr _ (fun k _ => ho.2 k)
        have := cnt_memL l 65536
        rw [e1]
        omega
      · exact Ev.no h0 (Ev.bind awake14_ev (Ev.now _))
    induction d with
    | zero =>
      intro i hi
      exact Ev.step (fun k => peristylelaw14_SpanOf.l1_succ k _ _ _ _) (Ev.no (by omega) (hend i))
    | succ d ih =>
      intro i hi
      refine Ev.step (fun k => peristylelaw14_SpanOf.l1_succ k _ _ _ _) (Ev.yes (by omega) ?_)
      by_cases h0 : e = 0
      · have hok : okL l = true := by
          cases hk : okL l with
          | true => rfl
          | false =>
            have : (ofS l).2 = 1 := by unfold ofS; rw [if_neg (by rw [hk]; decide)]
            omega
        have hs : (ofS l).1 = runsTo (memL l) (topL l) := by unfold ofS; rw [if_pos hok]
        have ho := ofS_ok hok
        have hx := okL_mem hok (List.getElem_mem (show i < l.length by omega))
        refine Ev.step (fun k => peristylelaw14_SpanOf.j3_succ k _ _ _ _ _) (Ev.yes (by rw [h0]; rfl) (Ev.yes (by omega) (Ev.yes (by omega) ?_)))
        rw [rd_get l i (by omega), show wrap64 ((i : Int) + 1) = ((i + 1 : Nat) : Int) by unfold wrap64; omega]
        refine Ev.bind (span_Has_ev _ _ (by omega)) (Ev.yes ?_ (ih (i + 1) (by omega)))
        unfold hasS
        rw [hs, ho.1, any_mem ho.1, ho.2, decide_eq_true hx.1, Bool.true_and, Bool.true_and]
        exact decide_eq_true (by rw [show ((l[i].toNat : Nat) : Int) = l[i] by omega]; exact List.getElem_mem _)
      · have hz : (e == 0) = false := by simpa using h0
        rw [hz]
        exact hend i
  have hrest : Ev (fun k => (span_Of.f k l).bind fun bt => ((peristyleref14_Of.f k l).bind fun bt2 => ((peristyleref14_Same.f k bt.1 bt2.1).bind fun t => (if t = true then (peristylelaw14_SpanOf.j1 k l bt.1 bt.2 (bt.2 != bt2.2)) else (peristylelaw14_SpanOf.j1 k l bt.1 bt.2 true))))) true := by
    refine Ev.bind (span_Of_ev l (by omega)) (Ev.bind (ref14_Of_ev l (by omega)) (Ev.bind (ref14_Same_self _ (by omega)) (Ev.yes rfl ?_)))
    rw [show ((ofS l).2 != (ofS l).2) = false by simp]
    exact Ev.step (fun k => peristylelaw14_SpanOf.j1_succ k _ _ _ _) (Ev.no (by decide) (hall _ rfl l.length 0 (by omega)))
  have hscan : ∀ (d i : Nat), i + d = l.length → Ev (fun k => peristylelaw14_SpanOf.l0 k l (i : Int)) true := by
    intro d
    induction d with
    | zero =>
      intro i hi
      exact Ev.step (fun k => peristylelaw14_SpanOf.l0_succ k _ _) (Ev.no (by omega) hrest)
    | succ d ih =>
      intro i hi
      have e2 : wrap64 ((i : Int) + 1) = ((i + 1 : Nat) : Int) := by unfold wrap64; omega
      refine Ev.step (fun k => peristylelaw14_SpanOf.l0_succ k _ _) (Ev.yes (by omega) (Ev.yes (by omega) ?_))
      rw [e2]
      by_cases c1 : rd l (i : Int) ≥ 2048
      · refine Ev.yes c1 ?_
        by_cases c2 : rd l (i : Int) < 65536
        · exact Ev.yes c2 (Ev.bind awake14_ev (Ev.now _))
        · exact Ev.no c2 (ih (i + 1) (by omega))
      · exact Ev.no c1 (ih (i + 1) (by omega))
  exact hscan l.length 0 (by omega)
end Go.Proofs.Ytlhkjkldjhapeaa.Pure
