/- BitsTurns: a word turned round by any number of bits is the document's, leads there and back, and has as many ones. No condition. -/
import Derived.Test.YtconnhmlpolmnaaPrint2
import Derived.Test.YtconnhmlpolmnaaPrint3
import Derived.Test.YtconnhmlpolmnaaSE
import Derived.Test.YtconnhmlpolmnaaSD
import Derived.Test.YtconnhmlpolmnaaSA
namespace Go.Proofs.Ytconnhmlpolmnaa.Pure
set_option linter.unusedSimpArgs false
open Go.RowKit Go.Proofs.Ytconnhmlpolmnaa.Print Go.Proofs.YtconnhmlpolmnaaW.PrintWords Go.Proofs.YtconnhmlpolmnaaW.PrintLast
theorem turn_turn (a p q : Int) : bits_Turn.f (wordP (turnP a p)) q = some (wordP (turnP a (p + q))) := by
  rw [bits_Turn_eq]
  refine congrArg some (wordP_congr (fun i hi => ?_))
  unfold turnP
  rw [bit_wordP _ _ (by omega)]
  congr 1
  omega
theorem turn_mod {p q : Int} (a : Int) (h : (p - q) % 64 = 0) : wordP (turnP a p) = wordP (turnP a q) := by
  refine wordP_congr (fun i hi => ?_)
  unfold turnP
  congr 1
  omega
theorem turn_zero {a : Int} (ha : InI a) : wordP (turnP a 0) = a := by
  refine (wordP_of ha _ (fun i hi => ?_)).symm
  unfold turnP
  congr 1
  omega
theorem ones_turn (a p : Int) : onesTo (bitsOf (wordP (turnP a p))) 64 = onesTo (bitsOf a) 64 := by
  obtain ⟨s, hs⟩ : ∃ s : Nat, p % 64 = (s : Int) := ⟨(p % 64).toNat, by omega⟩
  have hs64 : s < 64 := by omega
  have hb : ∀ i, i < 64 → bAt (bitsOf (wordP (turnP a p))) i = bit a (((i : Int) - p) % 64).toNat := by
    intro i hi
    rw [bAt_bitsOf, bit_wordP _ i hi]
    rfl
  have e1 := onesTo_add (bitsOf (wordP (turnP a p))) s (64 - s)
  have e2 := onesTo_add (bitsOf a) (64 - s) s
  rw [show s + (64 - s) = 64 by omega] at e1
  rw [show 64 - s + s = 64 by omega] at e2
  have dr : ∀ (l : List Bool) (n i : Nat), bAt (l.drop n) i = bAt l (n + i) := by
    intro l n i
    simp [bAt, List.getD_eq_getElem?_getD, List.getElem?_drop]
  have e3 : onesTo (bitsOf (wordP (turnP a p))) s = onesTo ((bitsOf a).drop (64 - s)) s := by
    refine onesTo_congr s (fun i hi => ?_)
    rw [hb i (by omega), dr, bAt_bitsOf]
    congr 1
    omega
  have e4 : onesTo ((bitsOf (wordP (turnP a p))).drop s) (64 - s) = onesTo (bitsOf a) (64 - s) := by
    refine onesTo_congr (64 - s) (fun i hi => ?_)
    rw [dr, hb (s + i) (by omega), bAt_bitsOf]
    congr 1
    omega
  rw [e1, e2, e3, e4, Int.add_comm]
theorem BitsTurns : peristylelaw01_BitsTurns.Pure := by
  intro a p m ha hp hm
  have h := InI.of_wf ha
  refine ⟨40, ?_⟩
  unfold peristylelaw01_BitsTurns.f
  refine obind (bits_Turn_eq a p) (obind (ref_Turn_eq a p) (oif rfl ?_))
  refine obind (bits_Ones_eq 21 _) (obind (bits_Ones_eq 21 a) (oif (ones_turn a p) ?_))
  refine obind (turn_turn a p _) (oif ?_ ?_)
  · rw [and_63, turn_mod (q := 0) a (by unfold wrap64; omega), turn_zero h]
  refine obind (turn_turn a p _) (obind (bits_Turn_eq a _) (oif ?_ ?_))
  · rw [and_63, and_63]
    exact turn_mod a (by unfold wrap64; omega)
  refine obind (bits_Turn_eq a 64) (oif ?_ ?_)
  · rw [turn_mod (q := 0) a (by decide), turn_zero h]
  exact obind awake_ok rfl
end Go.Proofs.Ytconnhmlpolmnaa.Pure
