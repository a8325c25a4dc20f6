-- The next bit of a word, and its ones.
import Derived.Test.YtlhkjkldjhapeaaPrint0
import Derived.Test.YtlhkjkldjhapeaaXB
import Derived.Test.YtlhkjkldjhapeaaSC
set_option linter.unusedVariables false
set_option linter.unusedSimpArgs false
namespace Go.Proofs.Ytlhkjkldjhapeaa.Print
open Go.RowKit Go.Proofs.YtlhkjkldjhapeaaW.PrintWords Go.Proofs.YtlhkjkldjhapeaaW.PrintMore
theorem least_of (q : Nat → Prop) [DecidablePred q] : ∀ n, (∀ i, i < n → ¬ q i) ∨ ∃ p, p < n ∧ q p ∧ ∀ i, i < p → ¬ q i
  | 0 => .inl (fun i hi => by omega)
  | n + 1 => by
    rcases least_of q n with h | ⟨p, hp, hq, h⟩
    · by_cases e : q n
      · exact .inr ⟨n, by omega, e, h⟩
      · refine .inl (fun i hi => ?_)
        by_cases e2 : i = n
        · subst e2; exact e
        · exact h i (by omega)
    · exact .inr ⟨p, by omega, hq, h⟩
theorem nextIn_none (l : List Bool) (frm : Int) : ∀ d, d ≤ 64 → (∀ i, 64 - d ≤ i → i < 64 → bAt l i = true → ¬ frm ≤ (i : Int)) → nextIn l frm d = -1
  | 0, _, _ => rfl
  | d + 1, hd, h => by
    simp only [nextIn]
    rw [if_neg (fun hh => h (63 - d) (by omega) (by omega) hh.1 hh.2)]
    exact nextIn_none l frm d (by omega) (fun i h1 h2 => h i (by omega) h2)
theorem nextIn_some (l : List Bool) (frm : Int) (p : Nat) (hp : p < 64) (hb : bAt l p = true) (hf : frm ≤ (p : Int)) : ∀ d, d ≤ 64 → 64 - d ≤ p → (∀ i, 64 - d ≤ i → i < p → ¬ (bAt l i = true ∧ frm ≤ (i : Int))) → nextIn l frm d = (p : Int)
  | 0, _, h, _ => by omega
  | d + 1, hd, h, hn => by
    simp only [nextIn]
    by_cases e : 63 - d = p
    · rw [e, if_pos ⟨hb, hf⟩]
    · rw [if_neg (hn (63 - d) (by omega) (by omega))]
      exact nextIn_some l frm p hp hb hf d (by omega) (by omega) (fun i h1 h2 => hn i (by omega) h2)
end Go.Proofs.Ytlhkjkldjhapeaa.Print
