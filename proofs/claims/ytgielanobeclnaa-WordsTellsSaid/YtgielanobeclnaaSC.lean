-- What the width of a word, its ones, and its next bit are.
import Derived.Test.YtgielanobeclnaaPrint4
import Derived.Test.YtgielanobeclnaaXB
import Derived.Test.YtgielanobeclnaaSB
set_option linter.unusedVariables false
set_option linter.unusedSimpArgs false
namespace Go.Proofs.Ytgielanobeclnaa.Print
open Go.RowKit Go.Proofs.YtgielanobeclnaaW.PrintWords Go.Proofs.YtgielanobeclnaaW.PrintMore
theorem topTo_of (l : List Bool) (r : Nat) : ∀ k, r ≤ k → (∀ i, r ≤ i → i < k → bAt l i = false) → (r = 0 ∨ bAt l (r - 1) = true) → topTo l k = (r : Int)
  | 0, h, _, _ => by
    obtain rfl : r = 0 := by omega
    rfl
  | k + 1, h, h1, h2 => by
    simp only [topTo]
    by_cases e : r = k + 1
    · subst e
      rcases h2 with h2 | h2
      · omega
      · rw [if_pos (by simpa using h2)]; omega
    · rw [if_neg (by rw [h1 k (by omega) (by omega)]; simp)]
      exact topTo_of l r k (by omega) (fun i hi hk => h1 i hi (by omega)) h2
/-- a word as a natural number -/
def wn (a : Int) : Nat := (B a).toNat
theorem wn_lt (a : Int) : wn a < 2 ^ 64 := (B a).isLt
theorem u64_wn (a : Int) : IntKind.u64.wrap a = (wn a : Int) := by
  rw [u64_wrap]
  unfold wn
  rw [B_toNat]
  omega
theorem bit_wn (a : Int) (i : Nat) : bit a i = (wn a).testBit i := by
  unfold bit wn
  rw [BitVec.testBit_toNat]
theorem topTo_wn (a : Int) (r : Nat) (h1 : wn a < 2 ^ r) (h2 : r = 0 ∨ 2 ^ (r - 1) ≤ wn a) (h3 : r ≤ 64) : topTo (bitsOf a) 64 = (r : Int) := by
  refine topTo_of _ r 64 h3 (fun i hi hk => ?_) ?_
  · rw [bAt_bitsOf, bit_wn]
    exact Nat.testBit_lt_two_pow (Nat.lt_of_lt_of_le h1 (Nat.pow_le_pow_right (by decide) hi))
  · rcases h2 with h2 | h2
    · exact .inl h2
    · by_cases h0 : r = 0
      · exact .inl h0
      · right
        obtain ⟨s, rfl⟩ : ∃ s, r = s + 1 := ⟨r - 1, by omega⟩
        rw [bAt_bitsOf, bit_wn, Nat.testBit_eq_decide_div_mod_eq, Nat.add_sub_cancel]
        rw [Nat.add_sub_cancel] at h2
        have : wn a / 2 ^ s = 1 := by
          apply Nat.div_eq_of_lt_le
          · omega
          · rw [Nat.pow_succ] at h1; omega
        rw [this]
        rfl
theorem width_step (W n w s : Nat) (nI sI s' : Int) (k : Nat) (hnI : nI = (n : Int)) (hsI : sI = (s : Int)) (hs : 0 < s) (hs2 : s ≤ 32) (hs' : wrap64 (Int.tdiv sI 2) = s') (h1 : W / 2 ^ n = w) (h2 : w < 2 ^ (2 * s)) (h3 : n = 0 ∨ 0 < w) (h4 : n + 2 * s ≤ 64) :
    ∃ n' w' : Nat, bits_Width.l0 (k + 1) (w : Int) nI sI = bits_Width.l0 k (w' : Int) (n' : Int) s' ∧ W / 2 ^ n' = w' ∧ w' < 2 ^ s ∧ (n' = 0 ∨ 0 < w') ∧ n' + s ≤ 64 := by
  subst hnI hsI
  have hsh : shr .u64 (w : Int) (s : Int) = ((w / 2 ^ s : Nat) : Int) := by
    unfold shr
    rw [show min (s : Int).toNat IntKind.u64.bits = s from Nat.min_eq_left (by show s ≤ 64; omega), pow_cast, Int.natCast_ediv]
  simp only [bits_Width.l0]
  rw [if_pos (show (s : Int) > 0 by omega), if_pos (show 0 ≤ (s : Int) by omega), hsh, hs']
  by_cases hp : 0 < w / 2 ^ s
  · rw [if_pos (show ((w / 2 ^ s : Nat) : Int) > 0 from Int.ofNat_lt.2 hp)]
    refine ⟨n + s, w / 2 ^ s, ?_, ?_, ?_, .inr hp, by omega⟩
    · rw [show wrap64 ((n : Int) + (s : Int)) = ((n + s : Nat) : Int) by unfold wrap64; omega]
    · rw [Nat.pow_add, ← Nat.div_div_eq_div_mul, h1]
    · rw [Nat.div_lt_iff_lt_mul (Nat.two_pow_pos s), ← Nat.pow_add, ← Nat.two_mul]
      exact h2
  · rw [if_neg (show ¬ ((w / 2 ^ s : Nat) : Int) > 0 from fun h => hp (Int.ofNat_lt.1 h))]
    refine ⟨n, w, rfl, h1, ?_, h3, by omega⟩
    have h0 : w / 2 ^ s = 0 := Nat.eq_zero_of_not_pos hp
    rcases (Nat.div_eq_zero_iff).1 h0 with h | h
    · exact absurd h (Nat.ne_of_gt (Nat.two_pow_pos s))
    · exact h
theorem width_run (W : Nat) (k : Nat) (h : W < 2 ^ (2 * 32)) : ∃ n w : Nat, bits_Width.l0 (k + 7) (W : Int) 0 32 = bits_Width.l0 (k + 1) (w : Int) (n : Int) 0 ∧ W / 2 ^ n = w ∧ w < 2 ^ 1 ∧ (n = 0 ∨ 0 < w) ∧ n + 1 ≤ 64 := by
  obtain ⟨n1, w1, e1, a1, b1, c1, d1⟩ := width_step W 0 W 32 0 32 16 (k + 6) rfl rfl (by decide) (by decide) (by unfold wrap64; decide) (by simp) h (.inl rfl) (by decide)
  obtain ⟨n2, w2, e2, a2, b2, c2, d2⟩ := width_step W n1 w1 16 n1 16 8 (k + 5) rfl rfl (by decide) (by decide) (by unfold wrap64; decide) a1 b1 c1 (by omega)
  obtain ⟨n3, w3, e3, a3, b3, c3, d3⟩ := width_step W n2 w2 8 n2 8 4 (k + 4) rfl rfl (by decide) (by decide) (by unfold wrap64; decide) a2 b2 c2 (by omega)
  obtain ⟨n4, w4, e4, a4, b4, c4, d4⟩ := width_step W n3 w3 4 n3 4 2 (k + 3) rfl rfl (by decide) (by decide) (by unfold wrap64; decide) a3 b3 c3 (by omega)
  obtain ⟨n5, w5, e5, a5, b5, c5, d5⟩ := width_step W n4 w4 2 n4 2 1 (k + 2) rfl rfl (by decide) (by decide) (by unfold wrap64; decide) a4 b4 c4 (by omega)
  obtain ⟨n6, w6, e6, a6, b6, c6, d6⟩ := width_step W n5 w5 1 n5 1 0 (k + 1) rfl rfl (by decide) (by decide) (by unfold wrap64; decide) a5 b5 c5 (by omega)
  exact ⟨n6, w6, by rw [e1, e2, e3, e4, e5, e6], a6, b6, c6, d6⟩
theorem width_end (W n w : Nat) (a6 : W / 2 ^ n = w) (b6 : w < 2 ^ 1) (c6 : n = 0 ∨ 0 < w) : W < 2 ^ (n + w) ∧ (n + w = 0 ∨ 2 ^ (n + w - 1) ≤ W) := by
  have hp := Nat.two_pow_pos n
  have hw : w = 0 ∨ w = 1 := by omega
  rcases hw with rfl | rfl
  · have hn : n = 0 := by rcases c6 with h | h <;> omega
    subst hn
    rw [Nat.pow_zero, Nat.div_one] at a6
    subst a6
    exact ⟨by decide, .inl rfl⟩
  · have h1 := (Nat.le_div_iff_mul_le hp (x := 1) (y := W)).1 (by omega)
    have h2 := (Nat.div_lt_iff_lt_mul hp (x := W) (y := 2)).1 (by omega)
    refine ⟨by rw [Nat.pow_succ]; omega, .inr ?_⟩
    rw [Nat.add_sub_cancel]
    omega
theorem bits_Width_eq (k : Nat) (a : Int) : bits_Width.f (k + 7) a = some (topTo (bitsOf a) 64) := by
  unfold bits_Width.f
  rw [u64_wn]
  obtain ⟨n, w, e, a6, b6, c6, d6⟩ := width_run (wn a) k (wn_lt a)
  rw [e]
  obtain ⟨h1, h2⟩ := width_end _ _ _ a6 b6 c6
  rw [topTo_wn a (n + w) h1 h2 (by omega)]
  simp only [bits_Width.l0]
  rw [if_neg (by omega)]
  congr 1
  have : w < 2 := b6
  unfold wrap64
  omega
end Go.Proofs.Ytgielanobeclnaa.Print
