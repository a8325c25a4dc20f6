/- WordsBoth: what is in both of any two sets of words (up to 20 words each, else it says only that the program is awake), in one, and in the first alone, is the document's, errors and all; and so is which words may be. No condition. -/
import Derived.Test.YtgielanobeclnaaPrint9
import Derived.Test.YtgielanobeclnaaSY
set_option linter.unusedVariables false
namespace Go.Proofs.Ytgielanobeclnaa.Pure
open Go.RowKit Go.Proofs.Ytgielanobeclnaa.Print Go.Proofs.YtgielanobeclnaaW.PrintWords Go.Proofs.YtgielanobeclnaaW.PrintLast Go.Proofs.YtgielanobeclnaaW.PrintMore
theorem WordsBoth : peristylelaw15_WordsBoth.Pure := by
  intro a b ha1 ha2 ha3 hb1 hb2 hb3
  refine Ev.rounds (g := fun k => peristylelaw15_WordsBoth.f k a b) ?_
  have la : a.length ≤ 17592186044416 := by omega
  have lb : b.length ≤ 17592186044416 := by omega
  have hyes : Ev (fun k => peristylelaw15_WordsBoth.j0 k a b true) true := Ev.step (fun k => peristylelaw15_WordsBoth.j0_succ k _ _ _) (Ev.yes rfl (Ev.bind awake15_ev (Ev.now _)))
  have hlen : ∀ f, (bothR f a b).1.length ≤ 17592186044416 := fun f => by
    unfold bothR
    split
    · have := (trimN_ok ((List.range (max a.length b.length)).map (fun (i : Nat) => f (rd a (i : Int)) (rd b (i : Int)))) ((List.range (max a.length b.length)).map (fun (i : Nat) => f (rd a (i : Int)) (rd b (i : Int)))).length).1
      rw [← trimW_len] at this
      simp only [List.length_map, List.length_range] at this
      show (trimW _).length ≤ _
      omega
    · simp
  unfold peristylelaw15_WordsBoth.f
  refine Ev.call (v := decide ((a.length : Int) ≤ 20)) rfl ?_
  by_cases h1 : (a.length : Int) ≤ 20
  · refine Ev.yes (decide_eq_true h1) (Ev.call (v := decide ((b.length : Int) ≤ 20)) rfl ?_)
    by_cases h2 : (b.length : Int) ≤ 20
    · rw [decide_eq_true h2]
      refine Ev.step (fun k => peristylelaw15_WordsBoth.j0_succ k _ _ _) (Ev.no (by decide) ?_)
      refine Ev.bind (words_And_ev a b la lb) (Ev.bind (words_Or_ev a b la lb) (Ev.bind (words_Less_ev a b la lb) ?_))
      refine Ev.bind (ref15_Both_ev 0 (Go.bits .and .i64) bothT_and (fun _ _ => InI_bits _ _ _) a b la lb) (Ev.bind (ref15_Both_ev 1 (Go.bits .or .i64) bothT_or (fun _ _ => InI_bits _ _ _) a b la lb) (Ev.bind (ref15_Both_ev 2 (Go.bits .andNot .i64) bothT_less (fun _ _ => InI_bits _ _ _) a b la lb) ?_))
      refine Ev.bind (ref01_Same_ev _ _ (hlen _)) (Ev.yes (by simp) (Ev.yes rfl ?_))
      refine Ev.bind (ref01_Same_ev _ _ (hlen _)) (Ev.yes (by simp) (Ev.yes rfl ?_))
      refine Ev.bind (ref01_Same_ev _ _ (hlen _)) (Ev.yes (by simp) (Ev.yes rfl ?_))
      refine Ev.call (words_May_eq a la) (Ev.call (ref15_May_eq a la) (Ev.yes (by simp) (Ev.bind awake15_ev (Ev.now _))))
    · rw [decide_eq_false h2]
      exact hyes
  · exact Ev.no (by simpa using h1) hyes
end Go.Proofs.Ytgielanobeclnaa.Pure
