/- BitsStay: what was put is found, the other bits stay. No condition. -/
import Derived.Test.YtconnhmlpolmnaaPrint5
import Derived.Test.YtconnhmlpolmnaaSB
import Derived.Test.YtconnhmlpolmnaaSA
namespace Go.Proofs.Ytconnhmlpolmnaa.Pure
open Go.RowKit Go.Proofs.Ytconnhmlpolmnaa.Print Go.Proofs.YtconnhmlpolmnaaW.PrintWords Go.Proofs.YtconnhmlpolmnaaW.PrintLast
theorem stay_j1 (a : Int) (p n x : Int) (hp : 0 ≤ p ∧ p < 64) (hn : 1 ≤ n ∧ n ≤ 64 - p) (hx : ∀ i : Nat, p + n ≤ (i : Int) → i < 64 → bit x i = bit a i) :
    peristylelaw01_BitsStay.j1 40 a p n x false = some true := by
  rw [peristylelaw01_BitsStay.j1_succ 39]
  refine oelse (by decide) ?_
  by_cases h : wrap64 (p + n) > 63
  · exact oif h (obind (by decide +kernel) rfl)
  · have e : wrap64 (p + n) = p + n := by unfold wrap64; omega
    rw [e] at h ⊢
    refine oelse h (obind (bits_Field_eq x (p + n) 64) (obind (bits_Field_eq a (p + n) 64) (oif ?_ (obind (by decide +kernel) rfl))))
    refine wordP_congr (fun i hi => ?_)
    unfold fieldP
    by_cases h64 : (p + n).toNat + i < 64
    · rw [hx _ (by omega) h64]
    · rw [bit_ge _ (by omega), bit_ge _ (by omega)]
theorem BitsStay : peristylelaw01_BitsStay.Pure := by
  intro a p0 w0 v ha _ _ _
  have h := InI.of_wf ha
  refine ⟨41, ?_⟩
  unfold peristylelaw01_BitsStay.f
  rw [and_63, and_63]
  obtain ⟨p, hp⟩ : ∃ p, p0 % 64 = p := ⟨_, rfl⟩
  obtain ⟨w, hw⟩ : ∃ w, wrap64 (1 + w0 % 64) = w := ⟨_, rfl⟩
  have hp1 : 0 ≤ p ∧ p < 64 := by omega
  have hw1 : 1 ≤ w ∧ w ≤ 64 := by unfold wrap64 at hw; omega
  rw [hp, hw, show wrap64 (64 - p) = 64 - p by unfold wrap64; omega]
  obtain ⟨n, hn⟩ : ∃ n, mn w (64 - p) = n := ⟨_, rfl⟩
  have hn1 : 1 ≤ n ∧ n ≤ 64 - p ∧ n ≤ w ∧ (n = w ∨ n = 64 - p) := by unfold mn at hn; split at hn <;> omega
  rw [hn]
  have hX : ∀ i, i < 64 → bit (wordP (withP a p w v)) i = withP a p w v i := fun i hi => bit_wordP _ i hi
  obtain ⟨x, hx⟩ : ∃ x, wordP (withP a p w v) = x := ⟨_, rfl⟩
  rw [hx] at hX
  have hxI : InI x := hx ▸ InI_wordP _
  refine obind (v := x) (by rw [bits_With_eq h p w v, hx]) (obind (bits_Field_eq x p w) (obind (bits_Field_eq v 0 n) (oif ?_ (obind (bits_Field_eq a p w) (obind (bits_With_eq hxI p w _) ?_)))))
  · refine wordP_congr (fun i hi => ?_)
    unfold fieldP
    by_cases h64 : p.toNat + i < 64
    · rw [hX _ h64]
      unfold withP
      by_cases hiw : (i : Int) < w
      · rw [if_pos (by omega), show p.toNat + i - p.toNat = (0 : Int).toNat + i by omega]
        have h1 : (0 ≤ p ∧ p < 64 ∧ (i : Int) < w) := by omega
        have h2 : ((0 : Int) ≤ 0 ∧ (0 : Int) < 64 ∧ (i : Int) < n) := by omega
        rw [decide_eq_true h1, decide_eq_true h2]
      · have h1 : ¬ (0 ≤ p ∧ p < 64 ∧ (i : Int) < w) := by omega
        have h2 : ¬ ((0 : Int) ≤ 0 ∧ (0 : Int) < 64 ∧ (i : Int) < n) := by omega
        rw [decide_eq_false h1, decide_eq_false h2, Bool.false_and, Bool.false_and]
    · rw [bit_ge x (by omega)]
      have h2 : ¬ ((0 : Int) ≤ 0 ∧ (0 : Int) < 64 ∧ (i : Int) < n) := by omega
      rw [decide_eq_false h2, Bool.false_and, Bool.and_false]
  · have e : wordP (withP x p w (wordP (fieldP a p w))) = a := by
      refine (wordP_of h _ (fun i hi => ?_)).symm
      unfold withP
      by_cases hc : 0 ≤ p ∧ p < 64 ∧ p ≤ (i : Int) ∧ (i : Int) - p < w
      · rw [if_pos hc, bit_wordP _ _ (by omega)]
        unfold fieldP
        rw [decide_eq_true (show 0 ≤ p ∧ p < 64 ∧ ((i - p.toNat : Nat) : Int) < w by omega), Bool.true_and, show p.toNat + (i - p.toNat) = i by omega]
      · rw [if_neg hc, hX i hi]
        unfold withP
        rw [if_neg hc]
    rw [e, show (a != a) = false by simp, peristylelaw01_BitsStay.j0_succ 40]
    refine oelse (by decide) ?_
    have hj := stay_j1 a p n x hp1 ⟨hn1.1, hn1.2.1⟩ (fun i h1 h2 => by
      rw [hX i h2]
      unfold withP
      rw [if_neg (by omega)])
    by_cases hp0 : p > 0
    · refine oif hp0 (obind (bits_Field_eq x 0 p) (obind (bits_Field_eq a 0 p) ?_))
      have e2 : wordP (fieldP x 0 p) = wordP (fieldP a 0 p) := by
        refine wordP_congr (fun i hi => ?_)
        unfold fieldP
        by_cases hip : (i : Int) < p
        · rw [hX _ (by omega)]
          unfold withP
          rw [if_neg (by omega)]
        · have h2 : ¬ ((0 : Int) ≤ 0 ∧ (0 : Int) < 64 ∧ (i : Int) < p) := by omega
          rw [decide_eq_false h2, Bool.false_and, Bool.false_and]
      rw [e2]
      simpa using hj
    · exact oelse hp0 hj
end Go.Proofs.Ytconnhmlpolmnaa.Pure
