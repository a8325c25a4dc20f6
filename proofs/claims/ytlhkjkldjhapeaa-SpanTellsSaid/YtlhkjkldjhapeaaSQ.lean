-- Words of few bits as bytes: the document's bytes, and the words of bytes.
import Derived.Test.YtlhkjkldjhapeaaPrint0
import Derived.Test.YtlhkjkldjhapeaaSP
set_option linter.unusedVariables false
set_option linter.unusedSimpArgs false
namespace Go.Proofs.Ytlhkjkldjhapeaa.Print
open Go.RowKit Go.Proofs.YtlhkjkldjhapeaaW.PrintWords Go.Proofs.YtlhkjkldjhapeaaW.PrintMore
theorem and_7 (x : Int) : Go.bits .and .i64 x 7 = x % 8 := by
  simp only [Go.bits]
  have h : (BitVec.ofInt IntKind.i64.bits x &&& BitVec.ofInt IntKind.i64.bits 7).toNat = (x % 8).toNat := by
    rw [BitVec.toNat_and]
    have h7 : (BitVec.ofInt IntKind.i64.bits 7).toNat = 2 ^ 3 - 1 := by decide
    rw [h7, Nat.and_two_pow_sub_one_eq_mod]
    simp only [BitVec.toNat_ofInt, IntKind.bits]
    omega
  rw [h, IntKind.wrap_i64]
  omega
theorem shr_i64 (x : Int) (j : Nat) (h : j < 64) : shr .i64 x (j : Int) = x / 2 ^ j := by
  unfold shr
  rw [show min (j : Int).toNat IntKind.i64.bits = j from Nat.min_eq_left (by show j ≤ 64; omega)]
theorem test_bit (x : Int) (j : Nat) (h : j < 64) : (Go.bits .and .i64 (shr .i64 x (j : Int)) 1 = 1) ↔ bit x j = true := by
  rw [shr_i64 x j h, ← bitAt_bit x j h]
  unfold bitAt
  rw [beq_iff_eq]
theorem shl_i64 (j : Nat) (h : j < 64) : shl .i64 1 (j : Int) = wrap64 (2 ^ j) := by
  unfold shl
  rw [show min (j : Int).toNat IntKind.i64.bits = j from Nat.min_eq_left (by show j ≤ 64; omega), Int.one_mul, i64_wrap]
theorem bit_pow (j i : Nat) (h : i < 64) : bit (2 ^ j) i = decide (i = j) := by
  unfold bit
  rw [B_pow, BitVec.getLsbD_twoPow]
  by_cases hj : j < 64
  · simp [hj, eq_comm]
  · have : ¬ i = j := by omega
    simp [hj, this]
theorem tdiv8 (n : Nat) : wrap64 (Int.tdiv (n : Int) 8) = ((n / 8 : Nat) : Int) ∨ 9223372036854775807 < n := by
  have e : Int.tdiv (n : Int) 8 = ((n / 8 : Nat) : Int) := rfl
  by_cases h : 9223372036854775807 < n
  · exact .inr h
  · left
    rw [e]
    unfold wrap64
    omega
theorem tmod8 (n : Nat) : Int.tmod (n : Int) 8 = ((n % 8 : Nat) : Int) := rfl
theorem stL_at (l : List Int) (w i j : Nat) (h : j < w) : stL l w (i * w + j) = bit (rd l (i : Int)) j := by
  unfold stL rd
  rw [Int.toNat_natCast, Nat.mul_comm i w, Nat.mul_add_div (by omega), Nat.div_eq_of_lt h, Nat.mul_add_mod, Nat.mod_eq_of_lt h, Nat.add_zero]
def partB (st : Nat → Bool) (N pos : Nat) : List Int := (List.range ((N + 7) / 8)).map fun b => wordP fun t => decide (t < 8 ∧ 8 * b + t < pos) && st (8 * b + t)
theorem partB_length (st : Nat → Bool) (N pos : Nat) : (partB st N pos).length = (N + 7) / 8 := by simp [partB]
theorem partB_rd (st : Nat → Bool) (N pos b : Nat) (h : b < (N + 7) / 8) : rd (partB st N pos) (b : Int) = wordP fun t => decide (t < 8 ∧ 8 * b + t < pos) && st (8 * b + t) := by
  rw [rd_get _ b (by rw [partB_length]; exact h)]
  simp [partB]
theorem partB_zero (st : Nat → Bool) (N : Nat) : partB st N 0 = List.replicate ((N + 7) / 8) 0 := by
  unfold partB
  have : ∀ b, (wordP fun t => decide (t < 8 ∧ 8 * b + t < 0) && st (8 * b + t)) = 0 := fun b => (wordP_of (by unfold InI; decide) _ (fun i hi => by rw [bit_zero]; simp)).symm
  simp only [this]
  rw [List.map_const', List.length_range]
theorem partB_skip (st : Nat → Bool) (N pos : Nat) (h : st pos = false) : partB st N pos = partB st N (pos + 1) := by
  unfold partB
  refine List.map_congr_left (fun b _ => wordP_congr (fun t ht => ?_))
  by_cases e : 8 * b + t = pos
  · rw [e, h]; simp
  · have : (t < 8 ∧ 8 * b + t < pos) ↔ (t < 8 ∧ 8 * b + t < pos + 1) := by omega
    simp only [this]
theorem part_small (st : Nat → Bool) (b pos : Nat) : 0 ≤ (wordP fun t => decide (t < 8 ∧ 8 * b + t < pos) && st (8 * b + t)) ∧ (wordP fun t => decide (t < 8 ∧ 8 * b + t < pos) && st (8 * b + t)) < 256 := by
  have := wordP_small (fun t => decide (t < 8 ∧ 8 * b + t < pos) && st (8 * b + t)) 8 (by omega) (fun i hi => by
    have : ¬ (i < 8 ∧ 8 * b + i < pos) := by omega
    simp only [this]
    rfl)
  exact this
theorem or_u8 (a b : Int) (ha : 0 ≤ a ∧ a < 256) (hb : 0 ≤ b ∧ b < 256) : 0 ≤ Go.bits .or .u8 a b ∧ Go.bits .or .u8 a b < 256 ∧ ∀ i, i < 64 → bit (Go.bits .or .u8 a b) i = (bit a i || bit b i) := by
  obtain ⟨m, rfl⟩ := Int.eq_ofNat_of_zero_le ha.1
  obtain ⟨n, rfl⟩ := Int.eq_ofNat_of_zero_le hb.1
  have hm : m < 2 ^ 8 := by omega
  have hn : n < 2 ^ 8 := by omega
  rw [(bits_nat .u8 8 (by decide) wraps_u8 m n hm hn).2]
  have := Nat.or_lt_two_pow hm hn
  refine ⟨by omega, by omega, fun i hi => ?_⟩
  rw [bit_nat _ i hi, bit_nat _ i hi, bit_nat _ i hi, Nat.testBit_or]
theorem shl_u8 (j : Nat) (h : j < 8) : shl .u8 1 (j : Int) = 2 ^ j := by
  unfold shl
  have hp : (2 : Int) ^ j ≤ 2 ^ 7 := by
    rw [pow_cast, pow_cast]
    exact Int.ofNat_le.2 (Nat.pow_le_pow_right (by decide) (by omega))
  have h0 : (0 : Int) ≤ 2 ^ j := by rw [pow_cast]; exact Int.natCast_nonneg _
  rw [show min (j : Int).toNat IntKind.u8.bits = j from Nat.min_eq_left (by show j ≤ 8; omega), Int.one_mul, IntKind.wrap_u8]
  omega
theorem partB_put (st : Nat → Bool) (N pos : Nat) (h : st pos = true) (hpos : pos < N) :
    (partB st N pos).set (pos / 8) (Go.bits .or .u8 (rd (partB st N pos) ((pos / 8 : Nat) : Int)) (shl .u8 1 ((pos % 8 : Nat) : Int))) = partB st N (pos + 1) := by
  have hb : pos / 8 < (N + 7) / 8 := by omega
  rw [partB_rd st N pos _ hb, shl_u8 _ (by omega)]
  have hs := part_small st (pos / 8) pos
  have hp : (2 : Int) ^ (pos % 8) ≤ 2 ^ 7 := by
    rw [pow_cast, pow_cast]
    exact Int.ofNat_le.2 (Nat.pow_le_pow_right (by decide) (by omega))
  have h0 : (0 : Int) ≤ 2 ^ (pos % 8) := by rw [pow_cast]; exact Int.natCast_nonneg _
  have ho := or_u8 _ (2 ^ (pos % 8)) hs ⟨h0, by omega⟩
  refine List.ext_getElem (by rw [List.length_set, partB_length, partB_length]) (fun i h1 h2 => ?_)
  rw [List.getElem_set]
  by_cases e : pos / 8 = i
  · rw [if_pos e]
    have hg : (partB st N (pos + 1))[i] = wordP fun t => decide (t < 8 ∧ 8 * i + t < pos + 1) && st (8 * i + t) := by simp [partB]
    rw [hg]
    refine wordP_of (InI_of_small ⟨ho.1, ho.2.1⟩) _ (fun t ht => ?_)
    rw [ho.2.2 t ht, bit_wordP _ t ht, bit_pow _ t ht, e]
    by_cases e2 : t = pos % 8
    · have e3 : 8 * i + t = pos := by omega
      rw [e3, h]
      have : t < 8 ∧ pos < pos + 1 := by omega
      simp [e2]
      omega
    · have : (t < 8 ∧ 8 * i + t < pos) ↔ (t < 8 ∧ 8 * i + t < pos + 1) := by omega
      simp only [this, e2]
      simp
  · rw [if_neg e]
    have hg1 : (partB st N pos)[i]'(by rw [partB_length]; rw [partB_length] at h2; exact h2) = wordP fun t => decide (t < 8 ∧ 8 * i + t < pos) && st (8 * i + t) := by simp [partB]
    have hg : (partB st N (pos + 1))[i] = wordP fun t => decide (t < 8 ∧ 8 * i + t < pos + 1) && st (8 * i + t) := by simp [partB]
    rw [hg1, hg]
    refine wordP_congr (fun t ht => ?_)
    have : (t < 8 ∧ 8 * i + t < pos) ↔ (t < 8 ∧ 8 * i + t < pos + 1) := by omega
    simp only [this]
theorem partB_all (st : Nat → Bool) (N : Nat) : partB st N N = packB st N := by
  have hf : ∀ i, i < N / 8 → (fullB st (N / 8))[i]? = some (byteP st i) := fun i hi => by simp [fullB, hi]
  refine List.ext_getElem? (fun i => ?_)
  by_cases h : i < (N + 7) / 8
  · have hg : (partB st N N)[i]? = some (wordP fun t => decide (t < 8 ∧ 8 * i + t < N) && st (8 * i + t)) := by simp [partB, h]
    rw [hg]
    unfold packB
    by_cases e : i < N / 8
    · rw [List.getElem?_append_left (by rw [fullB_length]; exact e), hf i e]
      unfold byteP
      refine congrArg some (wordP_congr (fun t ht => ?_))
      have : (t < 8 ∧ 8 * i + t < N) ↔ t < 8 := by omega
      simp only [this]
    · have hne : ¬ N % 8 = 0 := by omega
      have hi : i = N / 8 := by omega
      subst hi
      rw [List.getElem?_append_right (by rw [fullB_length]; omega), if_neg hne, fullB_length, Nat.sub_self, List.getElem?_cons_zero]
      unfold keptP
      refine congrArg some (wordP_congr (fun t ht => ?_))
      rw [Nat.mul_comm 8]
      have : (t < 8 ∧ N / 8 * 8 + t < N) ↔ t < N % 8 := by omega
      simp only [this]
  · rw [List.getElem?_eq_none (by rw [partB_length]; omega), List.getElem?_eq_none (by rw [packB_length]; omega)]
/-! ### the words of bytes -/
def sbit (s : ByteArray) (j : Nat) : Bool := bit (bt s ((j / 8 : Nat) : Int)) (j % 8)
def wordS (s : ByteArray) (pos w : Nat) : Int := wordP (fun t => decide (t < w) && sbit s (pos + t))
end Go.Proofs.Ytlhkjkldjhapeaa.Print
