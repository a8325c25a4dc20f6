-- What the functions of bits and of the document's bits tell, bit by bit.
import Derived.Test.YtcencpedgcdanaaPrint2
import Derived.Test.YtcencpedgcdanaaPrint6
import Derived.Test.YtcencpedgcdanaaPrint9
import Derived.Test.YtcencpedgcdanaaXB
set_option linter.unusedVariables false
set_option linter.unusedSimpArgs false
namespace Go.Proofs.Ytcencpedgcdanaa.Print
open Go.RowKit Go.Proofs.YtcencpedgcdanaaW.PrintWords Go.Proofs.YtcencpedgcdanaaW.PrintMore
def fieldP (a p w : Int) (i : Nat) : Bool := decide (0 ≤ p ∧ p < 64 ∧ (i : Int) < w) && bit a (p.toNat + i)
def withP (a p w v : Int) (i : Nat) : Bool := if 0 ≤ p ∧ p < 64 ∧ p ≤ (i : Int) ∧ (i : Int) - p < w then bit v (i - p.toNat) else bit a i
def maskP (w : Int) (i : Nat) : Bool := decide ((i : Int) < w)
theorem bits_Mask_eq (w : Int) : bits_Mask.f w = some (wordP (maskP w)) := by
  unfold bits_Mask.f
  by_cases h0 : w ≤ 0
  · rw [if_pos h0]
    congr 1
    refine wordP_of (by unfold InI; decide) _ (fun i hi => ?_)
    rw [bit_zero]
    simp [maskP]
    omega
  · rw [if_neg h0]
    by_cases h1 : w ≥ 64
    · rw [if_pos h1]
      congr 1
      refine wordP_of (by unfold InI; decide) _ (fun i hi => ?_)
      rw [bit_neg1 i hi]
      simp [maskP]
      omega
    · rw [if_neg h1, if_pos (by omega)]
      congr 1
      refine wordP_of (InI_wrap64 _) _ (fun i hi => ?_)
      obtain ⟨n, rfl⟩ := Int.eq_ofNat_of_zero_le (show 0 ≤ w by omega)
      have hn : n < 64 := by omega
      have hs : shl .u64 1 (n : Int) = 2 ^ n := by
        have hp : (2 : Nat) ^ n ≤ 2 ^ 63 := Nat.pow_le_pow_right (by decide) (by omega)
        have hp' : (2 : Int) ^ n ≤ 9223372036854775808 := by rw [pow_cast]; exact Int.ofNat_le.2 hp
        have h0 : (0 : Int) ≤ 2 ^ n := by rw [pow_cast]; exact Int.natCast_nonneg _
        unfold shl
        rw [show min (n : Int).toNat IntKind.u64.bits = n from Nat.min_eq_left (Nat.le_of_lt hn), Int.one_mul, u64_wrap]
        omega
      rw [bit_wrap64, bit_u64, hs, bit_div _ i hi]
      simp only [maskP, decide_eq_decide]
      by_cases hin : i < n
      · obtain ⟨d, rfl⟩ : ∃ d, n = i + 1 + d := ⟨n - (i + 1), by omega⟩
        have e : (2 : Int) ^ (i + 1 + d) - 1 = 2 ^ i * (2 * 2 ^ d - 1) + (2 ^ i - 1) := by
          rw [Int.pow_add, Int.pow_succ, Int.mul_sub]
          rw [Int.mul_assoc]
          omega
        have hpos : (0 : Int) < 2 ^ i := Int.pow_pos (by decide)
        have : ((2 : Int) ^ (i + 1 + d) - 1) / 2 ^ i = 2 * 2 ^ d - 1 := by
          rw [e, Int.add_comm, Int.add_mul_ediv_left _ _ (Int.ne_of_gt hpos), Int.ediv_eq_zero_of_lt (by omega) (by omega)]
          omega
        rw [this]
        omega
      · have hle : (2 : Int) ^ n ≤ 2 ^ i := by
          rw [pow_cast, pow_cast]
          exact_mod_cast Nat.pow_le_pow_right (by decide) (Nat.le_of_not_lt hin)
        have hpos : (0 : Int) < 2 ^ n := Int.pow_pos (by decide)
        rw [Int.ediv_eq_zero_of_lt (by omega) (by omega)]
        omega
theorem ref_Field_eq (a p w : Int) : peristyleref01_Field.f a p w = some (wordP (fieldP a p w)) := by
  unfold peristyleref01_Field.f
  congr 1
  refine wordTo_P _ _ (fun i hi => ?_)
  rw [fillTo_at _ _ _ _ (by rw [zB_length]; exact fieldN_le _ _)]
  have hz : bAt zB i = false := bAt_zB i
  rw [hz, bAt_bitsOf]
  simp only [fieldP]
  by_cases h : i < fieldN p w
  · rw [if_pos h]
    obtain ⟨h0, h1, h2, h3, h4⟩ := fieldN_in h
    simp [h0, h1, h2]
  · rw [if_neg h]
    by_cases hc : 0 ≤ p ∧ p < 64 ∧ (i : Int) < w
    · rw [bit_ge a (i := p.toNat + i) (by
        unfold fieldN at h
        rw [if_pos ⟨hc.1, hc.2.1⟩] at h
        omega)]
      simp
    · simp [hc]
theorem putTo_at (l c : List Bool) (p i : Nat) : ∀ k, p + k ≤ l.length → bAt (putTo l c p k) i = if p ≤ i ∧ i < p + k then bAt c (i - p) else bAt l i
  | 0, _ => by simp only [putTo]; rw [if_neg (by omega)]
  | k + 1, h => by
    simp only [putTo]
    rw [bAt_set _ _ _ _ (by rw [putTo_length]; omega), putTo_at l c p i k (by omega)]
    by_cases e : i = p + k
    · rw [if_pos e, if_pos (by omega)]; subst e; rw [Nat.add_sub_cancel_left]
    · rw [if_neg e]
      by_cases h2 : p ≤ i ∧ i < p + k
      · rw [if_pos h2, if_pos (by omega)]
      · rw [if_neg h2, if_neg (by omega)]
theorem ref_With_eq (a p w v : Int) : peristyleref01_With.f a p w v = some (wordP (withP a p w v)) := by
  unfold peristyleref01_With.f
  congr 1
  refine wordTo_P _ _ (fun i hi => ?_)
  have hle : 0 < fieldN p w → p.toNat + fieldN p w ≤ 64 := by
    intro h0
    unfold fieldN at *
    split at h0
    · rename_i hh; rw [if_pos hh]; omega
    · omega
  simp only [withP]
  by_cases h0 : 0 < fieldN p w
  · rw [putTo_at _ _ _ _ _ (by rw [bitsOf_length]; exact hle h0), bAt_bitsOf, bAt_bitsOf]
    have hf : fieldN p w = (min (max w 0) (64 - p)).toNat ∧ 0 ≤ p ∧ p < 64 := by
      unfold fieldN at *
      split at h0
      · rename_i hh; rw [if_pos hh]; exact ⟨rfl, hh⟩
      · omega
    by_cases hc : p.toNat ≤ i ∧ i < p.toNat + fieldN p w
    · rw [if_pos hc, if_pos (by omega)]
    · rw [if_neg hc, if_neg (by omega)]
  · have e : fieldN p w = 0 := by omega
    rw [e]
    simp only [putTo]
    rw [bAt_bitsOf, if_neg]
    intro hh
    unfold fieldN at e
    rw [if_pos ⟨hh.1, hh.2.1⟩] at e
    omega
end Go.Proofs.Ytcencpedgcdanaa.Print
