-- Sets as words beside sets as spans: the document's Spans, Both, Not, and the program's Not.
import Derived.Test.YtlhkjkldjhapeaaPrint0
import Derived.Test.YtlhkjkldjhapeaaSW
set_option linter.unusedVariables false
set_option linter.unusedSimpArgs false
namespace Go.Proofs.Ytlhkjkldjhapeaa.Print
open Go.RowKit Go.Proofs.YtlhkjkldjhapeaaW.PrintWords Go.Proofs.YtlhkjkldjhapeaaW.PrintMore
def spansR (l : List Int) : List S43 × Int := if mayW l = true then (runsTo (memW l) (64 * l.length), 0) else ([], 1)
def bothT (how : Int) (x y : Bool) : Bool := if how = 0 then x && y else if how = 1 then x || y else x && !y
theorem bothT_ff (how : Int) : bothT how false false = false := by unfold bothT; split <;> (try split) <;> rfl
def maxTop (a b : List S43) : Nat := (max (topS a) (topS b)).toNat
def both14R (how : Int) (a b : List S43) : List S43 × Int := if mayB a (-1) = true ∧ mayB b (-1) = true then (runsTo (fun k => bothT how (memS a k) (memS b k)) (maxTop a b), 0) else ([], 1)
theorem both14_ok (how : Int) (A B : List S43) (hA : mayB A (-1) = true) (hB : mayB B (-1) = true) : mayB (both14R how A B).1 (-1) = true ∧ (both14R how A B).2 = 0 ∧ (both14R how A B).1.length ≤ 65536 ∧ ∀ k, memS (both14R how A B).1 k = bothT how (memS A k) (memS B k) := by
  have ta := topS_le hA
  have tb := topS_le hB
  have hmt : maxTop A B ≤ 65536 := by unfold maxTop; omega
  unfold both14R
  rw [if_pos ⟨hA, hB⟩]
  obtain ⟨h1, _, _, h4⟩ := runs_ok (fun k => bothT how (memS A k) (memS B k)) (maxTop A B) hmt
  refine ⟨h1, rfl, Nat.le_trans (runs_len _ _) hmt, fun k => ?_⟩
  rw [h4 k]
  by_cases hk : k < maxTop A B
  · simp [hk]
  · have e : ∀ l : List S43, mayB l (-1) = true → topS l ≤ (maxTop A B : Int) → memS l k = false := fun l hl ht => by
      cases hc : memS l k
      · rfl
      · have := (memS_top hl k hc).1
        omega
    rw [e A hA (by unfold maxTop; omega), e B hB (by unfold maxTop; omega), bothT_ff]
    simp
/-- the words of all places below n -/
def allW (n : Nat) : List Int := wordsTo (fun k => decide (k < n)) ((n + 63) / 64)
noncomputable def notR (l : List Int) (n : Int) : List Int × Int := if n < 0 ∨ 65536 < n then ([], 1) else bothR (Go.bits .andNot .i64) (allW n.toNat) l
end Go.Proofs.Ytlhkjkldjhapeaa.Print
