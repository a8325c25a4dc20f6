-- What was put is taken as it was (words of any number of bits).
import Derived.Test.YtcencpedgcdanaaPrint0
import Derived.Test.YtcencpedgcdanaaSQ
import Derived.Test.YtcencpedgcdanaaSR
set_option linter.unusedVariables false
set_option linter.unusedSimpArgs false
namespace Go.Proofs.Ytcencpedgcdanaa.Print
open Go.RowKit Go.Proofs.YtcencpedgcdanaaW.PrintWords Go.Proofs.YtcencpedgcdanaaW.PrintMore
theorem wordS_packed (l : List Int) (w k : Nat) (hw : w ≤ 64) (hl : ∀ x, x ∈ l → InI x) (hwid : widL l ≤ (w : Int)) (hk : k < l.length) :
    wordS (strOfNums (packB (stL l w) (l.length * w))) (k * w) w = rd l (k : Int) := by
  have hx := rd_mem l k hk
  refine (wordP_of (hl _ hx) _ (fun t ht => ?_)).symm
  have hN : (k + 1) * w ≤ l.length * w := Nat.mul_le_mul_right w (by omega)
  rw [Nat.succ_mul] at hN
  by_cases h : t < w
  · rw [sbit_pack _ _ _ (by omega), stL_at l w k t h]
    simp [h]
  · rw [(widL_le_iff l w (by omega)).1 hwid _ hx t (by omega)]
    simp [h]
theorem spare_packed (st : Nat → Bool) (N : Nat) : spareOK (strOfNums (packB st N)) N := by
  refine (pack_same _ N (by rw [str_size, packB_length])).1 ?_
  rw [packB_congr (st' := st) N (fun j hj => sbit_pack st N j hj)]
theorem take_put (l : List Int) (w : Nat) (hm : mayPut l (w : Int)) (hl : ∀ x, x ∈ l → InI x) : takeR (putR l (w : Int)).1 (l.length : Int) (w : Int) = (l, 0) := by
  have hm' := hm
  unfold mayPut at hm'
  unfold putR
  rw [if_pos hm, Int.toNat_natCast]
  have hsz : (strOfNums (packB (stL l w) (l.length * w))).size = (l.length * w + 7) / 8 := by rw [str_size, packB_length]
  unfold takeR
  rw [if_neg (by omega), bytesN_nat l.length w (by omega) (by omega), Int.toNat_natCast, Int.toNat_natCast, if_pos ⟨by rw [hsz], spare_packed _ _⟩]
  refine congrArg (fun z => (z, (0 : Int))) (List.ext_getElem (by rw [listS_length]) (fun i h1 h2 => ?_))
  have : (listS (strOfNums (packB (stL l w) (l.length * w))) l.length w)[i] = wordS (strOfNums (packB (stL l w) (l.length * w))) (i * w) w := by simp [listS]
  rw [this, wordS_packed l w i (by omega) hl (by omega) h2, rd_get l i h2]
theorem put_size (l : List Int) (w : Nat) (hm : mayPut l (w : Int)) : (putR l (w : Int)).1.size = (l.length * w + 7) / 8 ∧ (putR l (w : Int)).2 = 0 := by
  unfold putR
  rw [if_pos hm, Int.toNat_natCast]
  exact ⟨by rw [str_size, packB_length], rfl⟩
end Go.Proofs.Ytcencpedgcdanaa.Print
