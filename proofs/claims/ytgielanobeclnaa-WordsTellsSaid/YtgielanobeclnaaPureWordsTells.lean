/- WordsTells: for any words (up to 20, else it says only that the program is awake) and any two numbers their spans, how many places there are, which has a number, how many are below one, and whether one is there, are the document's, errors and all. No condition. -/
import Derived.Test.YtgielanobeclnaaPrint0
import Derived.Test.YtgielanobeclnaaPrint8
import Derived.Test.YtgielanobeclnaaPrint9
import Derived.Test.YtgielanobeclnaaSO
set_option linter.unusedVariables false
namespace Go.Proofs.Ytgielanobeclnaa.Pure
open Go.RowKit Go.Proofs.Ytgielanobeclnaa.Print Go.Proofs.YtgielanobeclnaaW.PrintWords Go.Proofs.YtgielanobeclnaaW.PrintLast Go.Proofs.YtgielanobeclnaaW.PrintMore
theorem WordsTells : peristylelaw15_WordsTells.Pure := by
  intro l a at_ h1 h2 h3 ha hat
  have hll : l.length ≤ 17592186044416 := by omega
  refine Ev.rounds (g := fun k => peristylelaw15_WordsTells.f k l a at_) ?_
  unfold peristylelaw15_WordsTells.f
  refine Ev.call (v := decide ((l.length : Int) ≤ 20)) rfl ?_
  by_cases hf : (l.length : Int) ≤ 20
  · refine Ev.yes (decide_eq_true hf) (Ev.bind (words_Spans_ev l hll) (Ev.bind (ref15_Spans_ev l hll) (Ev.bind (words_Pick_ev l a hll) ?_)))
    by_cases h : mayW l = true
    · have hok := spans_ok l h
      have hrl := runs_len (memW l) (64 * l.length)
      have hs : spansR l = (runsTo (memW l) (64 * l.length), 0) := by unfold spansR; rw [if_pos h]
      have hpl := places_words h
      have hp := ref14_Places_ev (runsTo (memW l) (64 * l.length)) (by omega) hok.1
      rw [hpl] at hp
      have hlenM := memsW_len l
      have hpick : Ev (fun k => peristyleref14_Pick.f k (runsTo (memW l) (64 * l.length)) a) (pickR l a) := by
        unfold peristyleref14_Pick.f pickR
        rw [if_pos h]
        refine Ev.bind hp (Ev.yes rfl ?_)
        by_cases h0 : a < 0
        · exact Ev.yes h0 (Ev.val (if_pos (Or.inl h0)).symm)
        · refine Ev.no h0 ?_
          by_cases h1 : (countW l : Int) ≤ a
          · exact Ev.yes (show a ≥ ((memsW l).length : Int) by omega) (Ev.val (if_pos (Or.inr h1)).symm)
          · have c1 : ¬ (a < 0 ∨ (countW l : Int) ≤ a) := by omega
            have c2 : ¬ a ≥ ((memsW l).length : Int) := by omega
            have c3 : 0 ≤ a := by omega
            have c4 : a < ((memsW l).length : Int) := by omega
            exact Ev.no c2 (Ev.yes c3 (Ev.yes c4 (Ev.val (if_neg c1).symm)))
      have hrank : Ev (fun k => peristyleref14_Rank.f k (runsTo (memW l) (64 * l.length)) at_) (rankR l at_) := by
        unfold peristyleref14_Rank.f rankR
        rw [if_pos h]
        exact Ev.bind hp (ref14_rank_loop l (mayW_norm h).1 at_ _ 0 (Nat.zero_add _))
      have hc := words_Count_ev l hll
      rw [if_pos h] at hc
      rw [hs]
      refine Ev.bind hpick (Ev.yes rfl (Ev.bind hp (Ev.bind (ref14_Same_self (runsTo (memW l) (64 * l.length)) (by omega)) (Ev.yes rfl (Ev.yes rfl (Ev.yes rfl (Ev.yes rfl (Ev.bind hc (Ev.yes ?_ ?_)))))))))
      · show (countW l : Int) = ((memsW l).length : Int)
        omega
      · refine Ev.bind (words_Rank_ev l at_ (InI.of_wf hat) hll) (Ev.bind hrank (Ev.yes rfl (Ev.call (words_Has_eq l at_ hll) (Ev.bind (ref14_Has_ev h at_) (Ev.yes (by simp) (Ev.bind awake15_ev (Ev.now _)))))))
    · have hs : spansR l = ([], 1) := by unfold spansR; rw [if_neg h]
      have hp : pickR l a = (0, 1) := by unfold pickR; rw [if_neg h]
      have hc := words_Count_ev l hll
      rw [if_neg h] at hc
      have hr := words_Rank_ev l at_ (InI.of_wf hat) hll
      rw [show rankR l at_ = 0 by unfold rankR; rw [if_neg h]] at hr
      have hh : hasR l at_ = false := by
        have h : mayW l = false := by simpa using h
        unfold hasR
        rw [h]
        rfl
      have h2 := words_Has_eq l at_ hll
      rw [hh] at h2
      have hpl0 := ref14_Places_ev ([] : List S48) (by simp) rfl
      have hpick0 : ∃ v, Ev (fun k => peristyleref14_Pick.f k ([] : List S48) a) v := by
        unfold peristyleref14_Pick.f
        by_cases h0 : a < 0
        · exact ⟨_, Ev.bind hpl0 (Ev.yes rfl (Ev.yes h0 (Ev.now _)))⟩
        · exact ⟨_, Ev.bind hpl0 (Ev.yes rfl (Ev.no h0 (Ev.yes (show a ≥ 0 by omega) (Ev.now _))))⟩
      obtain ⟨v, hv⟩ := hpick0
      rw [hs, hp]
      refine Ev.bind hv ?_
      refine Ev.no (show ¬ ((1 : Int) = 0) by decide) ?_
      refine Ev.yes rfl (Ev.yes rfl (Ev.yes rfl (Ev.yes rfl (Ev.bind hc (Ev.yes rfl (Ev.bind hr (Ev.yes rfl ?_)))))))
      exact Ev.call h2 (Ev.no Bool.false_ne_true (Ev.bind awake15_ev (Ev.now _)))
  · exact Ev.no (by simpa using hf) (Ev.bind awake15_ev (Ev.now _))
end Go.Proofs.Ytgielanobeclnaa.Pure
