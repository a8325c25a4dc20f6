-- What the width of a word, its ones, and its next bit are.
import Derived.Test.YtlhkjkldjhapeaaPrint0
import Derived.Test.YtlhkjkldjhapeaaXB
import Derived.Test.YtlhkjkldjhapeaaSB
set_option linter.unusedVariables false
set_option linter.unusedSimpArgs false
namespace Go.Proofs.Ytlhkjkldjhapeaa.Print
open Go.RowKit Go.Proofs.YtlhkjkldjhapeaaW.PrintWords Go.Proofs.YtlhkjkldjhapeaaW.PrintMore
theorem topTo_of (l : List Bool) (r : Nat) : ∀ k, r ≤ k → (∀ i, r ≤ i → i < k → bAt l i = false) → (r = 0 ∨ bAt l (r - 1) = true) → topTo l k = (r : Int)
  | 0, h, _, _ => by
    obtain rfl : r = 0 := by omega
    rfl
  | k + 1, h, h1, h2 => by
    simp only [topTo]
    by_cases e : r = k + 1
    · subst e
      rcases h2 with h2 | h2
      · omega
      · rw [if_pos (by simpa using h2)]; omega
    · rw [if_neg (by rw [h1 k (by omega) (by omega)]; simp)]
      exact topTo_of l r k (by omega) (fun i hi hk => h1 i hi (by omega)) h2
/-- a word as a natural number -/
def wn (a : Int) : Nat := (B a).toNat
theorem wn_lt (a : Int) : wn a < 2 ^ 64 := (B a).isLt
theorem u64_wn (a : Int) : IntKind.u64.wrap a = (wn a : Int) := by
  rw [u64_wrap]
  unfold wn
  rw [B_toNat]
  omega
theorem bit_wn (a : Int) (i : Nat) : bit a i = (wn a).testBit i := by
  unfold bit wn
  rw [BitVec.testBit_toNat]
theorem topTo_wn (a : Int) (r : Nat) (h1 : wn a < 2 ^ r) (h2 : r = 0 ∨ 2 ^ (r - 1) ≤ wn a) (h3 : r ≤ 64) : topTo (bitsOf a) 64 = (r : Int) := by
  refine topTo_of _ r 64 h3 (fun i hi hk => ?_) ?_
  · rw [bAt_bitsOf, bit_wn]
    exact Nat.testBit_lt_two_pow (Nat.lt_of_lt_of_le h1 (Nat.pow_le_pow_right (by decide) hi))
  · rcases h2 with h2 | h2
    · exact .inl h2
    · by_cases h0 : r = 0
      · exact .inl h0
      · right
        obtain ⟨s, rfl⟩ : ∃ s, r = s + 1 := ⟨r - 1, by omega⟩
        rw [bAt_bitsOf, bit_wn, Nat.testBit_eq_decide_div_mod_eq, Nat.add_sub_cancel]
        rw [Nat.add_sub_cancel] at h2
        have : wn a / 2 ^ s = 1 := by
          apply Nat.div_eq_of_lt_le
          · omega
          · rw [Nat.pow_succ] at h1; omega
        rw [this]
        rfl
end Go.Proofs.Ytlhkjkldjhapeaa.Print
