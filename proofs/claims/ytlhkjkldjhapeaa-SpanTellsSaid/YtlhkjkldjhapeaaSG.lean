-- Lists of numbers, read by their places; the document's Same.
import Derived.Test.YtlhkjkldjhapeaaPrint8
import Derived.Test.YtlhkjkldjhapeaaXB
set_option linter.unusedVariables false
set_option linter.unusedSimpArgs false
namespace Go.Proofs.Ytlhkjkldjhapeaa.Print
open Go.RowKit Go.Proofs.YtlhkjkldjhapeaaW.PrintWords Go.Proofs.YtlhkjkldjhapeaaW.PrintMore
theorem rd_get (l : List Int) (i : Nat) (h : i < l.length) : rd l (i : Int) = l[i] := by
  unfold rd
  rw [Int.toNat_natCast, List.getD_eq_getElem?_getD, List.getElem?_eq_getElem h]
  rfl
theorem drop_rd (l : List Int) (i : Nat) (h : i < l.length) : l.drop i = rd l (i : Int) :: l.drop (i + 1) := by
  rw [rd_get l i h, List.drop_eq_getElem_cons h]
theorem rd_mem (l : List Int) (i : Nat) (h : i < l.length) : rd l (i : Int) ∈ l := by
  rw [rd_get l i h]
  exact List.getElem_mem h
theorem same_loop (l m : List Int) (hl : l.length = m.length) (hb : l.length ≤ 17592186044416) : ∀ (d i : Nat), i + d = l.length →
    Ev (fun k => peristyleref01_Same.l0 k l m (i : Int)) (decide (l.drop i = m.drop i))
  | 0, i, h => by
    refine Ev.step (fun k => peristyleref01_Same.l0_succ k _ _ _) (Ev.no (by omega) (Ev.val ?_))
    rw [List.drop_of_length_le (by omega), List.drop_of_length_le (by omega)]
    rfl
  | d + 1, i, h => by
    have hih := same_loop l m hl hb d (i + 1) (by omega)
    refine Ev.step (fun k => peristyleref01_Same.l0_succ k _ _ _) (Ev.yes (by omega) (Ev.yes (by omega) (Ev.yes (by omega) ?_)))
    rw [drop_rd l i (by omega), drop_rd m i (by omega), show wrap64 ((i : Int) + 1) = ((i + 1 : Nat) : Int) by unfold wrap64; omega]
    by_cases e : rd l (i : Int) = rd m (i : Int)
    · refine Ev.yes e ?_
      rw [e]
      simp only [List.cons.injEq, true_and]
      exact hih
    · refine Ev.no e (Ev.val ?_)
      simp [e]
theorem ref01_Same_ev (l m : List Int) (hb : l.length ≤ 17592186044416) : Ev (fun k => peristyleref01_Same.f k l m) (decide (l = m)) := by
  unfold peristyleref01_Same.f
  by_cases h : (l.length : Int) = (m.length : Int)
  · exact Ev.yes h (same_loop l m (by omega) hb l.length 0 (by omega))
  · refine Ev.no h (Ev.val ?_)
    rw [decide_eq_false]
    intro e
    rw [e] at h
    exact h rfl
end Go.Proofs.Ytlhkjkldjhapeaa.Print
