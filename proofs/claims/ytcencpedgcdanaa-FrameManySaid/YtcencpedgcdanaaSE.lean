-- Zig, Zag and Turn, bit by bit.
import Derived.Test.YtcencpedgcdanaaPrint1
import Derived.Test.YtcencpedgcdanaaPrint3
import Derived.Test.YtcencpedgcdanaaPrint6
import Derived.Test.YtcencpedgcdanaaPrint9
import Derived.Test.YtcencpedgcdanaaXB
set_option linter.unusedVariables false
set_option linter.unusedSimpArgs false
namespace Go.Proofs.Ytcencpedgcdanaa.Print
open Go.RowKit Go.Proofs.YtcencpedgcdanaaW.PrintWords Go.Proofs.YtcencpedgcdanaaW.PrintMore
theorem bit_63 {a : Int} (h : InI a) : bit a 63 = decide (a < 0) := by
  rw [bit_div a 63 (by omega), decide_eq_decide]
  unfold InI at h
  have : (2 : Int) ^ 63 = 9223372036854775808 := by decide
  rw [this]
  omega
def zigP (a : Int) (i : Nat) : Bool := if i = 0 then bit a 63 else (bit a (i - 1) != bit a 63)
theorem bits_Zig_eq {a : Int} (h : InI a) : bits_Zig.f a = some (wordP (zigP a)) := by
  unfold bits_Zig.f
  congr 1
  refine wordP_of (InI_wrap64 _) _ (fun i hi => ?_)
  rw [bit_wrap64, bit_uxor, bit_u64, bit_u64]
  have e2 : bit (IntKind.u64.wrap a * 2) i = (decide (1 ≤ i) && bit a (i - 1)) := by
    have := bit_mul_pow (IntKind.u64.wrap a) 1 i hi
    rw [bit_u64] at this
    exact this
  have e3 : bit (a / 9223372036854775808) i = bit a 63 := by
    rw [bit_63 h]
    unfold InI at h
    by_cases hn : a < 0
    · rw [show a / 9223372036854775808 = -1 by omega, bit_neg1 i hi]; simp [hn]
    · rw [show a / 9223372036854775808 = 0 by omega, bit_zero]; simp [hn]
  rw [e2, e3]
  unfold zigP
  by_cases h0 : i = 0
  · subst h0; simp
  · rw [if_neg h0]
    have : 1 ≤ i := by omega
    rw [decide_eq_true this]
    cases bit a (i - 1) <;> cases bit a 63 <;> rfl
def zagP (a : Int) (i : Nat) : Bool := if i = 63 then bit a 0 else (bit a (i + 1) != bit a 0)
theorem bits_Zag_eq (a : Int) : bits_Zag.f a = some (wordP (zagP a)) := by
  unfold bits_Zag.f
  congr 1
  refine wordP_of (InI_wrap64 _) _ (fun i hi => ?_)
  rw [bit_wrap64, bit_uxor, bit_u64]
  have e2 : bit (IntKind.u64.wrap a / 2) i = bit a (i + 1) := by
    have := bit_div_pow (InU_u64 a) 1 i
    rw [bit_u64, Nat.add_comm] at this
    exact this
  have e3 : Go.bits .and .u64 (IntKind.u64.wrap a) 1 = if bit a 0 = true then 1 else 0 := by
    have hb : ∀ j, j < 64 → bit (Go.bits .and .u64 (IntKind.u64.wrap a) 1) j = (decide (j = 0) && bit a 0) := by
      intro j hj
      rw [bit_uand, bit_u64]
      have : bit 1 j = decide (j = 0) := by
        rw [bit_div 1 j hj, decide_eq_decide]
        by_cases h : j = 0
        · subst h; simp
        · have hp : (2 : Int) ≤ 2 ^ j := by
            rw [pow_cast]
            exact Int.ofNat_le.2 (Nat.pow_le_pow_right (n := 2) (by decide) (show 1 ≤ j by omega))
          rw [Int.ediv_eq_zero_of_lt (by decide) (by omega)]
          simp [h]
      rw [this]
      by_cases h : j = 0
      · subst h; simp
      · simp [h]
    have hU := InU_bits .and (IntKind.u64.wrap a) 1
    have key : ∀ x y : Int, InU x → InU y → (∀ j, j < 64 → bit x j = bit y j) → x = y := by
      intro x y hx hy hxy
      have e : B x = B y := BitVec.eq_of_getLsbD_eq hxy
      rw [← u64_id hx, ← u64_id hy, u64_wrap, u64_wrap]
      have := congrArg BitVec.toNat e
      rw [B_toNat, B_toNat] at this
      omega
    by_cases h : bit a 0 = true
    · rw [if_pos h]
      refine key _ _ hU (by unfold InU; decide) (fun j hj => ?_)
      rw [hb j hj, h, bit_div 1 j hj, Bool.and_true, decide_eq_decide]
      by_cases h : j = 0
      · subst h; simp
      · have hp : (2 : Int) ≤ 2 ^ j := by
          rw [pow_cast]
          exact Int.ofNat_le.2 (Nat.pow_le_pow_right (n := 2) (by decide) (show 1 ≤ j by omega))
        rw [Int.ediv_eq_zero_of_lt (by decide) (by omega)]
        simp [h]
    · rw [if_neg h]
      refine key _ _ hU (by unfold InU; decide) (fun j hj => ?_)
      rw [hb j hj, bit_zero]
      simp [h]
  rw [e2, e3]
  unfold zagP
  have e4 : bit (-(if bit a 0 = true then 1 else 0)) i = bit a 0 := by
    by_cases h : bit a 0 = true
    · rw [if_pos h, bit_neg1 i hi, h]
    · rw [if_neg h, show -(0 : Int) = 0 from rfl, bit_zero]
      simpa using h
  rw [e4]
  by_cases h0 : i = 63
  · subst h0
    rw [bit_ge a (by omega)]
    simp
  · rw [if_neg h0]
theorem ref_Zig_eq (a : Int) : peristyleref01_Zig.f a = some (wordP (zigP a)) := by
  unfold peristyleref01_Zig.f
  congr 1
  refine wordTo_P _ _ (fun i hi => ?_)
  rw [fillTo_at _ _ _ _ (by rw [zB_length]; omega), if_pos hi]
  unfold zigAt zigP
  rw [bAt_bitsOf, bAt_bitsOf]
theorem ref_Zag_eq (a : Int) : peristyleref01_Zag.f a = some (wordP (zagP a)) := by
  unfold peristyleref01_Zag.f
  congr 1
  refine wordTo_P _ _ (fun i hi => ?_)
  rw [bAt_set _ _ _ _ (by rw [fillTo_length _ _ _ (by rw [zB_length]; omega), zB_length]; omega), fillTo_at _ _ _ _ (by rw [zB_length]; omega)]
  unfold zagP
  by_cases h : i = 63
  · rw [if_pos h, if_pos h, bAt_bitsOf]
  · rw [if_neg h, if_neg h, if_pos (by omega)]
    unfold zagAt
    rw [bAt_bitsOf, bAt_bitsOf]
theorem zag_zig {a : Int} (h : InI a) : bits_Zag.f (wordP (zigP a)) = some a := by
  rw [bits_Zag_eq]
  congr 1
  refine (wordP_of h _ (fun i hi => ?_)).symm
  unfold zagP
  by_cases h0 : i = 63
  · subst h0
    rw [if_pos rfl, bit_wordP _ 0 (by omega)]
    rfl
  · rw [if_neg h0, bit_wordP _ (i + 1) (by omega), bit_wordP _ 0 (by omega)]
    unfold zigP
    rw [if_neg (by omega), if_pos rfl, Nat.add_sub_cancel]
    cases bit a i <;> cases bit a 63 <;> rfl
theorem zig_zag {a : Int} (h : InI a) : bits_Zig.f (wordP (zagP a)) = some a := by
  rw [bits_Zig_eq (InI_wordP _)]
  congr 1
  refine (wordP_of h _ (fun i hi => ?_)).symm
  unfold zigP
  have e63 : bit (wordP (zagP a)) 63 = bit a 0 := by
    rw [bit_wordP _ 63 (by omega)]
    unfold zagP
    rw [if_pos rfl]
  by_cases h0 : i = 0
  · subst h0
    rw [if_pos rfl, e63]
  · rw [if_neg h0, e63, bit_wordP _ (i - 1) (by omega)]
    unfold zagP
    rw [if_neg (by omega), show i - 1 + 1 = i by omega]
    cases bit a i <;> cases bit a 0 <;> rfl
end Go.Proofs.Ytcencpedgcdanaa.Print
