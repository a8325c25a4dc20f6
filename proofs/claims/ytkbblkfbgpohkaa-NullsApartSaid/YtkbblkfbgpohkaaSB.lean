-- What the functions of bits and of the document's bits tell, bit by bit.
import Derived.Test.YtkbblkfbgpohkaaPrint2
import Derived.Test.YtkbblkfbgpohkaaXB
set_option linter.unusedVariables false
set_option linter.unusedSimpArgs false
namespace Go.Proofs.Ytkbblkfbgpohkaa.Print
open Go.RowKit Go.Proofs.YtkbblkfbgpohkaaW.PrintWords Go.Proofs.YtkbblkfbgpohkaaW.PrintMore
def maskP (w : Int) (i : Nat) : Bool := decide ((i : Int) < w)
theorem bits_Mask_eq (w : Int) : bits_Mask.f w = some (wordP (maskP w)) := by
  unfold bits_Mask.f
  by_cases h0 : w ≤ 0
  · rw [if_pos h0]
    congr 1
    refine wordP_of (by unfold InI; decide) _ (fun i hi => ?_)
    rw [bit_zero]
    simp [maskP]
    omega
  · rw [if_neg h0]
    by_cases h1 : w ≥ 64
    · rw [if_pos h1]
      congr 1
      refine wordP_of (by unfold InI; decide) _ (fun i hi => ?_)
      rw [bit_neg1 i hi]
      simp [maskP]
      omega
    · rw [if_neg h1, if_pos (by omega)]
      congr 1
      refine wordP_of (InI_wrap64 _) _ (fun i hi => ?_)
      obtain ⟨n, rfl⟩ := Int.eq_ofNat_of_zero_le (show 0 ≤ w by omega)
      have hn : n < 64 := by omega
      have hs : shl .u64 1 (n : Int) = 2 ^ n := by
        have hp : (2 : Nat) ^ n ≤ 2 ^ 63 := Nat.pow_le_pow_right (by decide) (by omega)
        have hp' : (2 : Int) ^ n ≤ 9223372036854775808 := by rw [pow_cast]; exact Int.ofNat_le.2 hp
        have h0 : (0 : Int) ≤ 2 ^ n := by rw [pow_cast]; exact Int.natCast_nonneg _
        unfold shl
        rw [show min (n : Int).toNat IntKind.u64.bits = n from Nat.min_eq_left (Nat.le_of_lt hn), Int.one_mul, u64_wrap]
        omega
      rw [bit_wrap64, bit_u64, hs, bit_div _ i hi]
      simp only [maskP, decide_eq_decide]
      by_cases hin : i < n
      · obtain ⟨d, rfl⟩ : ∃ d, n = i + 1 + d := ⟨n - (i + 1), by omega⟩
        have e : (2 : Int) ^ (i + 1 + d) - 1 = 2 ^ i * (2 * 2 ^ d - 1) + (2 ^ i - 1) := by
          rw [Int.pow_add, Int.pow_succ, Int.mul_sub]
          rw [Int.mul_assoc]
          omega
        have hpos : (0 : Int) < 2 ^ i := Int.pow_pos (by decide)
        have : ((2 : Int) ^ (i + 1 + d) - 1) / 2 ^ i = 2 * 2 ^ d - 1 := by
          rw [e, Int.add_comm, Int.add_mul_ediv_left _ _ (Int.ne_of_gt hpos), Int.ediv_eq_zero_of_lt (by omega) (by omega)]
          omega
        rw [this]
        omega
      · have hle : (2 : Int) ^ n ≤ 2 ^ i := by
          rw [pow_cast, pow_cast]
          exact_mod_cast Nat.pow_le_pow_right (by decide) (Nat.le_of_not_lt hin)
        have hpos : (0 : Int) < 2 ^ n := Int.pow_pos (by decide)
        rw [Int.ediv_eq_zero_of_lt (by omega) (by omega)]
        omega
end Go.Proofs.Ytkbblkfbgpohkaa.Print
