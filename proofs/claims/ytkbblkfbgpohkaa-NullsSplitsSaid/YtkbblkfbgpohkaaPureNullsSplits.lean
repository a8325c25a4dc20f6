/- NullsSplits: any cells (up to 100 of few bytes, else it says only that the program is awake), split, have the document's mask and the document's others; joined again they are what they were, nulls as the null cell. No condition. -/
import Derived.Test.YtkbblkfbgpohkaaPrint8
import Derived.Test.YtkbblkfbgpohkaaPrint8
import Derived.Test.YtkbblkfbgpohkaaSN
set_option linter.unusedVariables false
namespace Go.Proofs.Ytkbblkfbgpohkaa.Pure
open Go.RowKit Go.Proofs.Ytkbblkfbgpohkaa.Print Go.Proofs.YtkbblkfbgpohkaaW.PrintWords Go.Proofs.YtkbblkfbgpohkaaW.PrintLast Go.Proofs.YtkbblkfbgpohkaaW.PrintMore
theorem masked_at (l : List S32) (i : Nat) (h : i < l.length) : rd_T32 (maskedL l) (i : Int) = if (rd_T32 l (i : Int)).f0 = 0 then z32 else rd_T32 l (i : Int) := by
  rw [rdT_get l i h, rdT_get (maskedL l) i (by unfold maskedL; rw [List.length_map]; exact h)]
  unfold maskedL
  rw [List.getElem_map]
theorem splits_loop (l : List S32) (hl : l.length ≤ 100) : ∀ (d i : Nat), i + d = l.length → Ev (fun k => peristylelaw12_NullsSplits.l0 k l (maskedL l) (i : Int)) true
  | 0, i, h => Ev.step (fun k => peristylelaw12_NullsSplits.l0_succ k _ _ _) (Ev.no (by omega) (Ev.step (fun k => peristylelaw12_NullsSplits.j2_succ k _ _ _ _) (Ev.no (by decide) (Ev.bind awake12_ev (Ev.now _)))))
  | d + 1, i, h => by
    have hih := splits_loop l hl d (i + 1) (by omega)
    have hm : (maskedL l).length = l.length := by unfold maskedL; rw [List.length_map]
    refine Ev.step (fun k => peristylelaw12_NullsSplits.l0_succ k _ _ _) (Ev.yes (by omega) (Ev.step (fun k => peristylelaw12_NullsSplits.j2_succ k _ _ _ _) (Ev.yes (decide_eq_true (by omega)) (Ev.yes (by omega) (Ev.yes (by omega) ?_)))))
    rw [masked_at l i (by omega), show wrap64 ((i : Int) + 1) = ((i + 1 : Nat) : Int) by unfold wrap64; omega]
    by_cases e : (rd_T32 l (i : Int)).f0 = 0
    · rw [if_pos e]
      refine Ev.yes e (Ev.yes (by omega) (Ev.no ?_ hih))
      have : (z32.f2.toList == ([] : List UInt8)) = true := by
        show ((⟨#[]⟩ : ByteArray).toList == ([] : List UInt8)) = true
        rw [Lib.toList_data]
        rfl
      rw [this]
      simp [z32]
    · rw [if_neg e]
      exact Ev.no e (Ev.yes (by omega) (Ev.no (by simp) hih))
theorem NullsSplits : peristylelaw12_NullsSplits.Pure := by
  intro l hl
  have hll : l.length ≤ 4398046510976 := by have := hl.2.1; omega
  refine Ev.rounds (g := fun k => peristylelaw12_NullsSplits.f k l) ?_
  unfold peristylelaw12_NullsSplits.f
  obtain ⟨b, hb, h100⟩ := light_ev l (by omega)
  refine Ev.bind hb ?_
  cases b
  · exact Ev.no (by decide) (Ev.bind awake12_ev (Ev.now _))
  have h1 := h100 rfl
  have hj := nulls_Join_ev (splitR l).1 (l.length : Int) (splitR l).2 (split_size l (by omega)) (by have := (keep_len l).1; show (keepL l).length ≤ _; omega)
  rw [join_split l (by omega)] at hj
  refine Ev.yes rfl (Ev.bind (nulls_Split_ev l (by omega)) (Ev.bind (ref12_Split_ev l (by omega)) (Ev.bind hj (Ev.yes rfl ?_))))
  refine Ev.bind (ref12_Same_refl (splitR l).2 (by have := (keep_len l).1; show (keepL l).length ≤ _; omega)) (Ev.yes rfl (Ev.yes rfl ?_))
  have hm : (maskedL l).length = l.length := by unfold maskedL; rw [List.length_map]
  exact Ev.step (fun k => peristylelaw12_NullsSplits.j0_succ k _ _ _) (Ev.no (by simp [hm]) (splits_loop l h1 l.length 0 (by omega)))
end Go.Proofs.Ytkbblkfbgpohkaa.Pure
