-- What the functions of bits and of the document's bits tell, bit by bit.
import Derived.Test.YtgielanobeclnaaPrint2
import Derived.Test.YtgielanobeclnaaPrint5
import Derived.Test.YtgielanobeclnaaXB
set_option linter.unusedVariables false
set_option linter.unusedSimpArgs false
namespace Go.Proofs.Ytgielanobeclnaa.Print
open Go.RowKit Go.Proofs.YtgielanobeclnaaW.PrintWords Go.Proofs.YtgielanobeclnaaW.PrintMore
def fieldP (a p w : Int) (i : Nat) : Bool := decide (0 ≤ p ∧ p < 64 ∧ (i : Int) < w) && bit a (p.toNat + i)
def withP (a p w v : Int) (i : Nat) : Bool := if 0 ≤ p ∧ p < 64 ∧ p ≤ (i : Int) ∧ (i : Int) - p < w then bit v (i - p.toNat) else bit a i
def maskP (w : Int) (i : Nat) : Bool := decide ((i : Int) < w)
theorem bits_Mask_eq (w : Int) : bits_Mask.f w = some (wordP (maskP w)) := by
  unfold bits_Mask.f
  by_cases h0 : w ≤ 0
  · rw [if_pos h0]
    congr 1
    refine wordP_of (by unfold InI; decide) _ (fun i hi => ?_)
    rw [bit_zero]
    simp [maskP]
    omega
  · rw [if_neg h0]
    by_cases h1 : w ≥ 64
    · rw [if_pos h1]
      congr 1
      refine wordP_of (by unfold InI; decide) _ (fun i hi => ?_)
      rw [bit_neg1 i hi]
      simp [maskP]
      omega
    · rw [if_neg h1, if_pos (by omega)]
      congr 1
      refine wordP_of (InI_wrap64 _) _ (fun i hi => ?_)
      obtain ⟨n, rfl⟩ := Int.eq_ofNat_of_zero_le (show 0 ≤ w by omega)
      have hn : n < 64 := by omega
      have hs : shl .u64 1 (n : Int) = 2 ^ n := by
        have hp : (2 : Nat) ^ n ≤ 2 ^ 63 := Nat.pow_le_pow_right (by decide) (by omega)
        have hp' : (2 : Int) ^ n ≤ 9223372036854775808 := by rw [pow_cast]; exact Int.ofNat_le.2 hp
        have h0 : (0 : Int) ≤ 2 ^ n := by rw [pow_cast]; exact Int.natCast_nonneg _
        unfold shl
        rw [show min (n : Int).toNat IntKind.u64.bits = n from Nat.min_eq_left (Nat.le_of_lt hn), Int.one_mul, u64_wrap]
        omega
      rw [bit_wrap64, bit_u64, hs, bit_div _ i hi]
      simp only [maskP, decide_eq_decide]
      by_cases hin : i < n
      · obtain ⟨d, rfl⟩ : ∃ d, n = i + 1 + d := ⟨n - (i + 1), by omega⟩
        have e : (2 : Int) ^ (i + 1 + d) - 1 = 2 ^ i * (2 * 2 ^ d - 1) + (2 ^ i - 1) := by
          rw [Int.pow_add, Int.pow_succ, Int.mul_sub]
          rw [Int.mul_assoc]
          omega
        have hpos : (0 : Int) < 2 ^ i := Int.pow_pos (by decide)
        have : ((2 : Int) ^ (i + 1 + d) - 1) / 2 ^ i = 2 * 2 ^ d - 1 := by
          rw [e, Int.add_comm, Int.add_mul_ediv_left _ _ (Int.ne_of_gt hpos), Int.ediv_eq_zero_of_lt (by omega) (by omega)]
          omega
        rw [this]
        omega
      · have hle : (2 : Int) ^ n ≤ 2 ^ i := by
          rw [pow_cast, pow_cast]
          exact_mod_cast Nat.pow_le_pow_right (by decide) (Nat.le_of_not_lt hin)
        have hpos : (0 : Int) < 2 ^ n := Int.pow_pos (by decide)
        rw [Int.ediv_eq_zero_of_lt (by omega) (by omega)]
        omega
theorem bits_placed_eq (p w : Int) : bits_placed.f p w = some (decide (0 ≤ p ∧ p < 64 ∧ 1 ≤ w)) := by
  unfold bits_placed.f
  by_cases h0 : p ≥ 0
  · rw [if_pos h0]
    by_cases h1 : p < 64
    · rw [if_pos h1]; congr 1; simp [h1]; omega
    · rw [if_neg h1]; congr 1; simp [h1]
  · rw [if_neg h0]; congr 1; simp; omega
theorem bits_Field_eq (a p w : Int) : bits_Field.f a p w = some (wordP (fieldP a p w)) := by
  unfold bits_Field.f
  rw [bits_placed_eq]
  simp only [Option.bind_some]
  by_cases h : 0 ≤ p ∧ p < 64 ∧ 1 ≤ w
  · rw [if_pos (by simpa using h), if_pos h.1, bits_Mask_eq]
    simp only [Option.bind_some]
    congr 1
    refine wordP_of (InI_bits _ _ _) _ (fun i hi => ?_)
    rw [bit_and, bit_wrap64, bit_shr (InU_u64 _), bit_u64, bit_wordP _ i hi]
    simp only [maskP, fieldP, h.1, h.2.1, true_and]
    rw [Bool.and_comm]
  · rw [if_neg (by simpa using h)]
    congr 1
    refine wordP_of (by unfold InI; decide) _ (fun i hi => ?_)
    rw [bit_zero]
    simp only [fieldP]
    have : ¬ (0 ≤ p ∧ p < 64 ∧ (i : Int) < w) := by omega
    simp [this]
theorem bits_With_eq {a : Int} (ha : InI a) (p w v : Int) : bits_With.f a p w v = some (wordP (withP a p w v)) := by
  unfold bits_With.f
  rw [bits_placed_eq]
  simp only [Option.bind_some]
  by_cases h : 0 ≤ p ∧ p < 64 ∧ 1 ≤ w
  · rw [if_pos (by simpa using h), bits_Mask_eq]
    simp only [Option.bind_some]
    rw [if_pos h.1]
    congr 1
    refine wordP_of (InI_wrap64 _) _ (fun i hi => ?_)
    rw [bit_wrap64, bit_uor, bit_uandNot, bit_uand, bit_u64, bit_shl _ _ i hi, bit_shl _ _ i hi, bit_u64, bit_u64]
    simp only [withP]
    by_cases hp : p.toNat ≤ i
    · rw [bit_wordP _ (i - p.toNat) (by omega)]
      by_cases hw : (i : Int) - p < w
      · have hm : maskP w (i - p.toNat) = true := by simp [maskP]; omega
        rw [if_pos ⟨h.1, h.2.1, by omega, hw⟩]
        simp [hp, hm]
      · have hm : maskP w (i - p.toNat) = false := by simp [maskP]; omega
        rw [if_neg (by omega)]
        simp [hp, hm]
    · rw [if_neg (by omega)]
      simp [hp]
  · rw [if_neg (by simpa using h)]
    congr 1
    refine wordP_of ha _ (fun i hi => ?_)
    simp only [withP]
    rw [if_neg (by omega)]
end Go.Proofs.Ytgielanobeclnaa.Print
