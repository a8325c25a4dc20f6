/- NullsJoins: any cells (up to 100 of few bytes), joined with any mask (up to 128 bytes) and any number, are the document's cells, and so is how many nulls the mask tells, errors and all. No condition. -/
import Derived.Test.YtkbblkfbgpohkaaPrint10
import Derived.Test.YtkbblkfbgpohkaaPrint10
import Derived.Test.YtkbblkfbgpohkaaSN
set_option linter.unusedVariables false
namespace Go.Proofs.Ytkbblkfbgpohkaa.Pure
open Go.RowKit Go.Proofs.Ytkbblkfbgpohkaa.Print Go.Proofs.YtkbblkfbgpohkaaW.PrintWords Go.Proofs.YtkbblkfbgpohkaaW.PrintLast Go.Proofs.YtkbblkfbgpohkaaW.PrintMore
theorem join_len (b : List Int) : ∀ l : List S32, (mergeL b l).length = b.length := by
  induction b with
  | nil => intro l; rfl
  | cons x b ih =>
    intro l
    cases l with
    | nil => simp [mergeL, ih]
    | cons c m =>
      simp only [mergeL]
      split <;> simp [ih]
theorem joinR_len (s : ByteArray) (n : Int) (l : List S32) : (joinR s n l).1.length ≤ 65536 := by
  have hb := (bitsR_01 s n).2.1
  unfold joinR
  split
  · split
    · show (mergeL (bitsR s n).1 l).length ≤ _
      rw [join_len]; exact hb
    · simp
  · simp
theorem NullsJoins : peristylelaw12_NullsJoins.Pure := by
  intro s n l hs hn hl
  have hll : l.length ≤ 4398046510976 := by have := hl.2.1; omega
  refine Ev.rounds (g := fun k => peristylelaw12_NullsJoins.f k s n l) ?_
  have hyes : Ev (fun k => peristylelaw12_NullsJoins.j0 k s n l true) true := Ev.step (fun k => peristylelaw12_NullsJoins.j0_succ k _ _ _ _) (Ev.yes rfl (Ev.bind awake12_ev (Ev.now _)))
  unfold peristylelaw12_NullsJoins.f
  by_cases h1 : (s.size : Int) > 128
  · exact Ev.yes h1 hyes
  have hsz : s.size ≤ 4294967296 := by omega
  have hno : Ev (fun k => peristylelaw12_NullsJoins.j0 k s n l false) true := by
    refine Ev.step (fun k => peristylelaw12_NullsJoins.j0_succ k _ _ _ _) (Ev.no (by decide) ?_)
    refine Ev.bind (nulls_Join_ev s n l hsz (by omega)) (Ev.bind (ref12_Join_ev s n l hsz (by omega)) (Ev.bind (nulls_Count_ev s n hsz) (Ev.bind (ref12_Count_ev s n hsz) ?_)))
    exact Ev.bind (ref12_Same_refl _ (by have := joinR_len s n l; omega)) (Ev.yes rfl (Ev.yes rfl (Ev.yes rfl (Ev.yes rfl (Ev.bind awake12_ev (Ev.now _))))))
  refine Ev.no h1 ?_
  obtain ⟨b, hb, _⟩ := light_ev l (by omega)
  refine Ev.bind hb ?_
  cases b
  · exact Ev.no (by decide) hyes
  refine Ev.yes rfl ?_
  by_cases h2 : s.toList = ([] : List UInt8)
  · refine Ev.yes h2 ?_
    by_cases h3 : n > 1024
    · rw [decide_eq_true h3]; exact hyes
    · rw [decide_eq_false h3]; exact hno
  · exact Ev.no h2 hno
end Go.Proofs.Ytkbblkfbgpohkaa.Pure
