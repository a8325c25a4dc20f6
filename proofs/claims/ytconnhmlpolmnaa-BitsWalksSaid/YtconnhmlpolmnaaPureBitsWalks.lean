/- BitsWalks: the bits that are set are told one behind the other, as many as there are, whatever the word is. No condition. -/
import Derived.Test.YtconnhmlpolmnaaPrint2
import Derived.Test.YtconnhmlpolmnaaPrint3
import Derived.Test.YtconnhmlpolmnaaSB
import Derived.Test.YtconnhmlpolmnaaSD
import Derived.Test.YtconnhmlpolmnaaSA
namespace Go.Proofs.Ytconnhmlpolmnaa.Pure
set_option linter.unusedSimpArgs false
open Go.RowKit Go.Proofs.Ytconnhmlpolmnaa.Print Go.Proofs.YtconnhmlpolmnaaW.PrintWords Go.Proofs.YtconnhmlpolmnaaW.PrintLast
def lowP (a : Int) (p : Nat) (i : Nat) : Bool := decide (i < p) && bit a i
theorem onesTo_rest (l : List Bool) (p : Nat) : ∀ m, p ≤ m → (∀ i, p ≤ i → i < m → bAt l i = false) → onesTo l m = onesTo l p
  | 0, h, _ => by
    obtain rfl : p = 0 := by omega
    rfl
  | m + 1, h, hz => by
    by_cases e : p = m + 1
    · rw [e]
    · simp only [onesTo]
      rw [hz m (by omega) (by omega), if_neg (by decide)]
      exact onesTo_rest l p m (by omega) (fun i h1 h2 => hz i h1 (by omega))
theorem bit_one (i : Nat) (hi : i < 64) : bit 1 i = decide (i = 0) := by
  rw [bit_div 1 i hi, decide_eq_decide]
  by_cases h : i = 0
  · subst h; simp
  · have hp : (2 : Int) ≤ 2 ^ i := by
      rw [pow_cast]
      exact Int.ofNat_le.2 (Nat.pow_le_pow_right (n := 2) (by decide) (show 1 ≤ i by omega))
    rw [Int.ediv_eq_zero_of_lt (by decide) (by omega)]
    simp [h]
theorem field_one {a : Int} {q : Nat} (hq : q < 64) (hb : bit a q = true) : bits_Field.f a (q : Int) 1 = some 1 := by
  rw [bits_Field_eq]
  refine congrArg some (wordP_of (by unfold InI; decide) _ (fun i hi => ?_)).symm
  rw [bit_one i hi]
  unfold fieldP
  by_cases h : i = 0
  · subst h
    rw [decide_eq_true (show 0 ≤ (q : Int) ∧ (q : Int) < 64 ∧ ((0 : Nat) : Int) < 1 by omega), Int.toNat_natCast, Nat.add_zero, hb]
    rfl
  · rw [decide_eq_false (show ¬ (0 ≤ (q : Int) ∧ (q : Int) < 64 ∧ (i : Int) < 1) by omega), decide_eq_false h]
    rfl
theorem with_low {a : Int} {p q : Nat} (hq : q < 64) (hpq : p ≤ q) (hb : bit a q = true) (hz : ∀ i, p ≤ i → i < q → bit a i = false) : bits_With.f (wordP (lowP a p)) (q : Int) 1 1 = some (wordP (lowP a (q + 1))) := by
  rw [bits_With_eq (InI_wordP _)]
  refine congrArg some (wordP_congr (fun i hi => ?_))
  unfold withP
  by_cases e : i = q
  · subst e
    rw [if_pos (by omega), Int.toNat_natCast, Nat.sub_self, bit_one 0 (by omega)]
    unfold lowP
    simp [hb]
  · rw [if_neg (by omega), bit_wordP _ i hi]
    unfold lowP
    by_cases h1 : i < p
    · have : i < q + 1 := by omega
      simp [h1, this]
    · by_cases h2 : i < q
      · rw [hz i (by omega) h2]; simp
      · have : ¬ i < q + 1 := by omega
        simp [h1, this]
theorem walk_loop {a : Int} (ha : InI a) : ∀ (d k p : Nat), 64 - p ≤ d → p ≤ 64 → 3 * d + 60 ≤ k → (p = 0 ∨ bit a (p - 1) = true) →
    peristylelaw01_BitsWalks.l0 k a (onesTo (bitsOf a) p) ((p : Int) - 1) (wordP (lowP a p)) (nextIn (bitsOf a) (p : Int) 64) = some true := by
  intro d
  induction d with
  | zero =>
    intro k p hd hp hk hb
    obtain rfl : p = 64 := by omega
    obtain ⟨k, rfl⟩ : ∃ m, k = m + 19 + 1 + 1 := ⟨k - 21, by omega⟩
    have hn : nextIn (bitsOf a) ((64 : Nat) : Int) 64 = -1 := nextIn_none _ _ 64 (by omega) (fun i _ hi _ => (by omega : ¬ ((64 : Nat) : Int) ≤ (i : Int)))
    rw [hn, peristylelaw01_BitsWalks.l0_succ]
    refine oelse (by decide) ?_
    rw [peristylelaw01_BitsWalks.j1_succ]
    refine oelse (by decide) (obind (bits_Ones_eq k a) (oif rfl (oif ?_ ?_)))
    · refine (wordP_of ha _ (fun i hi => ?_)).symm
      unfold lowP
      simp [hi]
    · obtain ⟨k, rfl⟩ : ∃ m, k = m + 39 := ⟨k - 39, by omega⟩
      refine obind (bits_Width_eq (k + 39 + 12) a) (oif ?_ (obind (at_rounds peristylelaw01_awake.mono (by omega) awake_ok) rfl))
      rw [topTo_of _ 64 64 (by omega) (fun i h1 h2 => absurd h2 (Nat.not_lt.2 h1)) (by rw [bAt_bitsOf]; exact hb)]
      unfold wrap64
      omega
  | succ d ih =>
    intro k p hd hp hk hb
    obtain ⟨k, rfl⟩ : ∃ m, k = m + 40 + 1 + 1 + 1 := ⟨k - 43, by omega⟩
    have hones := onesTo_le (bitsOf a) p
    rcases least_of (fun i => p ≤ i ∧ bit a i = true) 64 with hn | ⟨q, hq, ⟨hpq, hbq⟩, hlow⟩
    · have hz : ∀ i, p ≤ i → i < 64 → bit a i = false := by
        intro i h1 h2
        have := hn i h2
        simpa [h1] using this
      have hn : nextIn (bitsOf a) (p : Int) 64 = -1 := nextIn_none _ _ 64 (by omega) (fun i _ hi hbi => by
        intro hpi
        rw [bAt_bitsOf, hz i (by omega) hi] at hbi
        exact absurd hbi (by decide))
      rw [hn, peristylelaw01_BitsWalks.l0_succ]
      refine oelse (by decide) ?_
      rw [peristylelaw01_BitsWalks.j1_succ]
      refine oelse (by decide) (obind (bits_Ones_eq (k + 22) a) (oif ?_ (oif ?_ ?_)))
      · exact (onesTo_rest _ p 64 hp (fun i h1 h2 => by rw [bAt_bitsOf]; exact hz i h1 h2)).symm
      · refine (wordP_of ha _ (fun i hi => ?_)).symm
        unfold lowP
        by_cases h1 : i < p
        · simp [h1]
        · rw [hz i (by omega) hi]; simp
      · refine obind (bits_Width_eq (k + 34) a) (oif ?_ (obind (at_rounds peristylelaw01_awake.mono (by omega) awake_ok) rfl))
        rw [topTo_of _ p 64 hp (fun i h1 h2 => by rw [bAt_bitsOf]; exact hz i h1 h2) (by rw [bAt_bitsOf]; exact hb)]
        unfold wrap64
        omega
    · have hz : ∀ i, p ≤ i → i < q → bit a i = false := by
        intro i h1 h2
        have := hlow i h2
        simpa [h1] using this
      have hn : nextIn (bitsOf a) (p : Int) 64 = (q : Int) := nextIn_some _ _ q hq (by rw [bAt_bitsOf]; exact hbq) (by omega) 64 (by omega) (by omega) (fun i _ hi hh => by
        rw [bAt_bitsOf, hz i (by omega) hi] at hh
        exact absurd hh.1 (by decide))
      rw [hn, peristylelaw01_BitsWalks.l0_succ]
      refine oif (by omega) ?_
      rw [peristylelaw01_BitsWalks.j1_succ]
      refine oif (decide_eq_true (by omega)) (oelse (by omega) (oelse (by omega) (obind (field_one hq hbq) ?_)))
      rw [peristylelaw01_BitsWalks.j2_succ]
      refine oelse (by decide) (obind (with_low hq hpq hbq hz) (obind (bits_Next_eq (k + 33) a _) ?_))
      have e1 : onesTo (bitsOf a) (q + 1) = onesTo (bitsOf a) p + 1 := by
        have h1 : onesTo (bitsOf a) (q + 1) = if bAt (bitsOf a) q = true then onesTo (bitsOf a) q + 1 else onesTo (bitsOf a) q := rfl
        rw [h1, bAt_bitsOf, hbq, if_pos rfl, onesTo_rest _ p q hpq (fun i h1 h2 => by rw [bAt_bitsOf]; exact hz i h1 h2)]
      have h := ih (k + 40) (q + 1) (by omega) (by omega) (by omega) (.inr (by rw [Nat.add_sub_cancel]; exact hbq))
      rw [e1, show (((q + 1 : Nat) : Int) - 1) = (q : Int) by omega] at h
      rw [show wrap64 ((q : Int) + 1) = ((q + 1 : Nat) : Int) by unfold wrap64; omega, show wrap64 (onesTo (bitsOf a) p + 1) = onesTo (bitsOf a) p + 1 by unfold wrap64; omega]
      exact h
theorem BitsWalks : peristylelaw01_BitsWalks.Pure := by
  intro a ha
  have h := InI.of_wf ha
  refine ⟨300, ?_⟩
  unfold peristylelaw01_BitsWalks.f
  refine obind (bits_Next_eq 293 a 0) ?_
  have hl := walk_loop h 64 300 0 (by omega) (by omega) (by omega) (.inl rfl)
  have e : wordP (lowP a 0) = 0 := (wordP_of (by unfold InI; decide) _ (fun i hi => by rw [bit_zero]; simp [lowP])).symm
  rw [e] at hl
  exact hl
end Go.Proofs.Ytconnhmlpolmnaa.Pure
