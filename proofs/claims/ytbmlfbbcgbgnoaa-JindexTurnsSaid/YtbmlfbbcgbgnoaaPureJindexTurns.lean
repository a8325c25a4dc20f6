/- JindexTurns: any numbers (up to 100 each, else it says only that the program is awake), turned, and the way from one order to another. No condition. -/
import Derived.Test.YtbmlfbbcgbgnoaaPrint8
import Derived.Test.YtbmlfbbcgbgnoaaSJ
import Derived.Test.YtbmlfbbcgbgnoaaSL
set_option linter.unusedVariables false
namespace Go.Proofs.Ytbmlfbbcgbgnoaa.Pure
open Go.RowKit Go.Proofs.Ytbmlfbbcgbgnoaa.Print Go.Proofs.YtbmlfbbcgbgnoaaW.PrintWords Go.Proofs.YtbmlfbbcgbgnoaaW.PrintLast Go.Proofs.YtbmlfbbcgbgnoaaW.PrintMore
theorem j4_ev (a b m : List Int) (ha : a.length ≤ 100) (hb : b.length ≤ 100) (hm : m = (BetweenR a b).1) (both : Bool) (hboth : both = decide (isOrd a = true ∧ isOrd b = true ∧ a.length = b.length)) :
    Ev (fun k => peristylelaw26_JindexTurns.j4 k a b m both) true := by
  refine Ev.step (fun k => peristylelaw26_JindexTurns.j4_succ k _ _ _ _) ?_
  by_cases h : isOrd a = true ∧ isOrd b = true ∧ a.length = b.length
  · rw [hboth, decide_eq_true h]
    obtain ⟨h1, h2, h3⟩ := h
    obtain ⟨_, ao⟩ := isOrd_ord h1
    obtain ⟨_, bo⟩ := isOrd_ord h2
    have hbo : Ord a.length b := by rw [h3]; exact bo
    have bb : Back a.length b (turnR b) := by rw [h3]; exact turnR_back bo
    have ab := turnR_back ao
    have hm1 : m = via a (turnR b) := by rw [hm]; unfold BetweenR; rw [if_pos ⟨h1, h2, h3⟩]
    have hn : BetweenR b a = (via b (turnR a), 0) := by unfold BetweenR; rw [if_pos ⟨h2, h1, h3.symm⟩]
    have no : Ord a.length (via b (turnR a)) := Ord.via hbo (ab.ord ao)
    have nl : (via b (turnR a)).length = a.length := by rw [via_length, h3]
    have nis : isOrd (via b (turnR a)) = true := ord_isOrd (by omega) no
    have ht : turnR (via b (turnR a)) = via a (turnR b) := by
      have t1 : Back a.length (via b (turnR a)) (turnR (via b (turnR a))) := by
        have := turnR_back (l := via b (turnR a)) (by rw [nl]; exact no)
        rwa [nl] at this
      exact t1.eq no (between_back ao hbo ab bb)
    refine Ev.yes rfl (Ev.bind (Between_ev b a) ?_)
    rw [hn]
    refine Ev.bind (Turned_ev _) ?_
    unfold TurnedR
    rw [if_pos nis, ht]
    refine Ev.bind (refBetween_ev a b (by omega) ao bo h3) ?_
    rw [← hm1]
    have hml : m.length ≤ 17592186044416 := by rw [hm1, via_length]; omega
    refine Ev.bind (ref01_Same_ev m m hml) (Ev.yes (by simp) (Ev.yes rfl (Ev.yes rfl (Ev.bind (ref01_Same_ev m m hml) (Ev.yes (by simp) (Ev.bind awake26_ev (Ev.now _)))))))
  · rw [hboth, decide_eq_false h]
    exact Ev.no (by decide) (Ev.bind awake26_ev (Ev.now _))
theorem j1_ev (a b : List Int) (ha : a.length ≤ 100) (hb : b.length ≤ 100) :
    Ev (fun k => peristylelaw26_JindexTurns.j1 k a b (TurnedR a).1 (TurnedR a).2 (BetweenR a b).1 (BetweenR a b).2 false) true := by
  refine Ev.step (fun k => peristylelaw26_JindexTurns.j1_succ k _ _ _ _ _ _ _) (Ev.no (by decide) ?_)
  have hj2 : ∀ both, both = decide (isOrd a = true ∧ isOrd b = true ∧ a.length = b.length) → Ev (fun k => peristylelaw26_JindexTurns.j2 k a b (TurnedR a).1 (TurnedR a).2 (BetweenR a b).1 (BetweenR a b).2 both) true := by
    intro both hboth
    have hj3 : Ev (fun k => peristylelaw26_JindexTurns.j3 k a b (TurnedR a).1 (TurnedR a).2 (BetweenR a b).1 both false) true := by
      refine Ev.step (fun k => peristylelaw26_JindexTurns.j3_succ k _ _ _ _ _ _ _) (Ev.no (by decide) ?_)
      have h4 := j4_ev a b (BetweenR a b).1 ha hb rfl both hboth
      by_cases h : isOrd a = true
      · obtain ⟨_, ao⟩ := isOrd_ord h
        have hT : TurnedR a = (turnR a, 0) := by unfold TurnedR; rw [if_pos h]
        have ab := turnR_back ao
        have tor := ab.ord ao
        have hl := ab.1
        have htt : turnR (turnR a) = a := by
          have t1 : Back a.length (turnR a) (turnR (turnR a)) := by
            have := turnR_back (l := turnR a) (by rw [hl]; exact tor)
            rwa [hl] at this
          exact t1.eq tor (ab.back ao)
        have hT2 : TurnedR (turnR a) = (a, 0) := by unfold TurnedR; rw [if_pos (ord_isOrd (by omega) tor), htt]
        rw [hT]
        refine Ev.yes rfl (Ev.bind (Turned_ev _) ?_)
        rw [hT2]
        exact Ev.bind (refTurned_ev a (by omega) ao) (Ev.bind (ref01_Same_ev _ _ (by dsimp only; omega)) (Ev.yes (by simp) (Ev.yes rfl (Ev.bind (ref01_Same_ev a a (by omega)) (Ev.yes (by simp) h4)))))
      · have hT : TurnedR a = ([], 1) := by unfold TurnedR; rw [if_neg h]
        rw [hT]
        exact Ev.no (by decide) h4
    refine Ev.step (fun k => peristylelaw26_JindexTurns.j2_succ k _ _ _ _ _ _ _) ?_
    by_cases h : isOrd a = true ∧ isOrd b = true ∧ a.length = b.length
    · have hB : (BetweenR a b).2 = 0 := by unfold BetweenR; rw [if_pos h]
      rw [hboth, decide_eq_true h] at *
      rw [hB]
      exact Ev.no (by decide) (Ev.yes rfl hj3)
    · have hB : (BetweenR a b).2 = 1 := by unfold BetweenR; rw [if_neg h]
      rw [hboth, decide_eq_false h] at *
      rw [hB]
      exact Ev.no (by decide) (Ev.no (by decide) hj3)
  refine Ev.bind (may_ev a) ?_
  by_cases h1 : isOrd a = true
  · refine Ev.yes h1 (Ev.bind (may_ev b) ?_)
    by_cases h2 : isOrd b = true
    · refine Ev.yes h2 (hj2 _ ?_)
      by_cases h3 : a.length = b.length
      · rw [decide_eq_true ⟨h1, h2, h3⟩]
        simp [h3]
      · rw [decide_eq_false (fun h => h3 h.2.2)]
        simp
        omega
    · refine Ev.no h2 (hj2 _ ?_)
      rw [decide_eq_false (fun h => h2 h.2.1)]
  · refine Ev.no h1 (hj2 _ ?_)
    rw [decide_eq_false (fun h => h1 h.1)]
theorem JindexTurns : peristylelaw26_JindexTurns.Pure := by
  intro a b _ _ _ _ _ _
  refine Ev.rounds (g := fun k => peristylelaw26_JindexTurns.f k a b) ?_
  unfold peristylelaw26_JindexTurns.f
  by_cases h1 : (a.length : Int) > 100
  · exact Ev.yes h1 (Ev.step (fun k => peristylelaw26_JindexTurns.j0_succ k _ _ _) (Ev.yes rfl (Ev.bind awake26_ev (Ev.now _))))
  refine Ev.no h1 ?_
  by_cases h2 : (b.length : Int) > 100
  · rw [decide_eq_true h2]
    exact Ev.step (fun k => peristylelaw26_JindexTurns.j0_succ k _ _ _) (Ev.yes rfl (Ev.bind awake26_ev (Ev.now _)))
  rw [decide_eq_false h2]
  refine Ev.step (fun k => peristylelaw26_JindexTurns.j0_succ k _ _ _) (Ev.no (by decide) (Ev.bind (Turned_ev a) (Ev.bind (Between_ev a b) (Ev.bind (check_ev a) (Ev.bind (may_ev a) ?_)))))
  have hj := j1_ev a b (by omega) (by omega)
  by_cases h : isOrd a = true
  · have hT : (TurnedR a).2 = 0 := by unfold TurnedR; rw [if_pos h]
    rw [if_pos h]
    rw [hT] at hj ⊢
    exact Ev.no (by rw [h]; decide) (Ev.bind (may_ev a) (Ev.no (by rw [h]; decide) (Ev.yes rfl hj)))
  · have hT : (TurnedR a).2 = 1 := by unfold TurnedR; rw [if_neg h]
    have h' : isOrd a = false := by simpa using h
    rw [if_neg h]
    rw [hT] at hj ⊢
    exact Ev.no (by rw [h']; decide) (Ev.bind (may_ev a) (Ev.no (by rw [h']; decide) (Ev.no (by decide) hj)))
end Go.Proofs.Ytbmlfbbcgbgnoaa.Pure
