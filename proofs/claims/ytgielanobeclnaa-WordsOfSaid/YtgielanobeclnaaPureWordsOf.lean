/- WordsOf: the words of any spans (up to 60 that, if they may be, lie below 2^11; any number up to 2^11, or one that may not be; else it says only that the program is awake), and the places below any number that are in none of these, are the document's, errors and all. No condition. -/
import Derived.Test.YtgielanobeclnaaPrint0
import Derived.Test.YtgielanobeclnaaPrint1
import Derived.Test.YtgielanobeclnaaPrint8
import Derived.Test.YtgielanobeclnaaSY
set_option linter.unusedVariables false
namespace Go.Proofs.Ytgielanobeclnaa.Pure
open Go.RowKit Go.Proofs.Ytgielanobeclnaa.Print Go.Proofs.YtgielanobeclnaaW.PrintWords Go.Proofs.YtgielanobeclnaaW.PrintLast Go.Proofs.YtgielanobeclnaaW.PrintMore
theorem ofR_len (l : List S48) : (ofR l).1.length ≤ 1024 := by
  unfold ofR
  split
  · rename_i h
    have := (topN_le h).1
    show (wordsTo _ _).length ≤ _
    rw [wordsTo_len]; omega
  · simp
theorem notR_len (l : List Int) (n : Int) : (notR l n).1.length ≤ 17592186044416 := by
  unfold notR
  split
  · simp
  · unfold bothR
    split
    · rename_i h
      have l1 := (mayW_norm h.1).1
      have l2 := (mayW_norm h.2).1
      have := (trimN_ok ((List.range (max (allW n.toNat).length l.length)).map (fun (i : Nat) => Go.bits .andNot .i64 (rd (allW n.toNat) (i : Int)) (rd l (i : Int)))) ((List.range (max (allW n.toNat).length l.length)).map (fun (i : Nat) => Go.bits .andNot .i64 (rd (allW n.toNat) (i : Int)) (rd l (i : Int)))).length).1
      rw [← trimW_len] at this
      simp only [List.length_map, List.length_range] at this
      show (trimW _).length ≤ _
      omega
    · simp
theorem WordsOf : peristylelaw15_WordsOf.Pure := by
  intro l n hl hn
  have hll : l.length ≤ 4398046511104 ∨ 4398046511104 < l.length := by omega
  refine Ev.rounds (g := fun k => peristylelaw15_WordsOf.f k l n) ?_
  have hyes : Ev (fun k => peristylelaw15_WordsOf.j0 k l n true) true := Ev.step (fun k => peristylelaw15_WordsOf.j0_succ k _ _ _) (Ev.yes rfl (Ev.bind awake15_ev (Ev.now _)))
  unfold peristylelaw15_WordsOf.f
  by_cases hbig : (l.length : Int) ≤ 60
  · obtain ⟨b, hb, _⟩ := few_ev l (by omega)
    have hno : Ev (fun k => peristylelaw15_WordsOf.j0 k l n false) true := by
      have l1 := ofR_len l
      refine Ev.step (fun k => peristylelaw15_WordsOf.j0_succ k _ _ _) (Ev.no (by decide) ?_)
      refine Ev.bind (words_Of_ev l (by omega)) (Ev.bind (ref15_Of_ev l (by omega)) (Ev.bind (words_Not_ev _ n (by omega)) (Ev.bind (ref15_Not_ev _ n (by omega)) ?_)))
      refine Ev.bind (ref01_Same_ev _ _ (by omega)) (Ev.yes (by simp) (Ev.yes rfl ?_))
      exact Ev.bind (ref01_Same_ev _ _ (notR_len _ _)) (Ev.yes (by simp) (Ev.yes rfl (Ev.bind awake15_ev (Ev.now _))))
    refine Ev.bind hb ?_
    cases b
    · exact Ev.no (by decide) hyes
    · refine Ev.yes rfl ?_
      by_cases h1 : n > 2048
      · refine Ev.yes h1 ?_
        by_cases h2 : n ≤ 65536
        · rw [decide_eq_true h2]; exact hyes
        · rw [decide_eq_false h2]; exact hno
      · exact Ev.no h1 hno
  · have hf : Ev (fun k => peristyleref14_Few.f k l) false := by
      unfold peristyleref14_Few.f
      exact Ev.no hbig (Ev.now _)
    exact Ev.bind hf (Ev.no (by decide) hyes)
end Go.Proofs.Ytgielanobeclnaa.Pure
