-- Sets as words: how many there are, which one has a number, and their spans as the program tells them.
import Derived.Test.YtlhkjkldjhapeaaPrint0
import Derived.Test.YtlhkjkldjhapeaaSY
import Derived.Test.YtlhkjkldjhapeaaSD
set_option linter.unusedVariables false
set_option linter.unusedSimpArgs false
namespace Go.Proofs.Ytlhkjkldjhapeaa.Print
open Go.RowKit Go.Proofs.YtlhkjkldjhapeaaW.PrintWords Go.Proofs.YtlhkjkldjhapeaaW.PrintMore
/-- how many there are below n -/
def cnt (p : Nat → Bool) : Nat → Nat
  | 0 => 0
  | n + 1 => cnt p n + if p n = true then 1 else 0
theorem cnt_le (p : Nat → Bool) : ∀ n, cnt p n ≤ n
  | 0 => Nat.le_refl _
  | n + 1 => by
    have := cnt_le p n
    simp only [cnt]
    split <;> omega
theorem cnt_add (p : Nat → Bool) (n : Nat) : ∀ m, cnt p (n + m) = cnt p n + cnt (fun t => p (n + t)) m
  | 0 => rfl
  | m + 1 => by
    have := cnt_add p n m
    rw [← Nat.add_assoc]
    simp only [cnt]
    omega
theorem cnt_congr {p q : Nat → Bool} : ∀ n, (∀ k, k < n → p k = q k) → cnt p n = cnt q n
  | 0, _ => rfl
  | n + 1, h => by
    simp only [cnt]
    rw [cnt_congr n (fun k hk => h k (by omega)), h n (by omega)]
theorem cnt_skip (p : Nat → Bool) (n : Nat) : ∀ d, (∀ k, n ≤ k → k < n + d → p k = false) → cnt p (n + d) = cnt p n
  | 0, _ => rfl
  | d + 1, h => by
    rw [← Nat.add_assoc]
    simp only [cnt]
    rw [cnt_skip p n d (fun k h1 h2 => h k h1 (by omega)), h (n + d) (by omega) (by omega)]
    simp
theorem cnt_mono (p : Nat → Bool) {a b : Nat} (h : a ≤ b) : cnt p a ≤ cnt p b := by
  obtain ⟨d, rfl⟩ := Nat.exists_eq_add_of_le h
  rw [cnt_add]
  omega
def countW (l : List Int) : Nat := cnt (memW l) (64 * l.length)
end Go.Proofs.Ytlhkjkldjhapeaa.Print
