/- JindexBytes: any order as bytes, and the order of any bytes; what is put is taken as it was. No condition. -/
import Derived.Test.YtbmlfbbcgbgnoaaPrint12
import Derived.Test.YtbmlfbbcgbgnoaaSK
namespace Go.Proofs.Ytbmlfbbcgbgnoaa.Pure
open Go.RowKit Go.Proofs.Ytbmlfbbcgbgnoaa.Print Go.Proofs.YtbmlfbbcgbgnoaaW.PrintWords Go.Proofs.YtbmlfbbcgbgnoaaW.PrintLast Go.Proofs.YtbmlfbbcgbgnoaaW.PrintMore
theorem append_extract (a b : ByteArray) : (a ++ b).extract 0 a.size = a := by
  apply ByteArray.ext
  rw [ByteArray.data_extract, ByteArray.data_append]
  show (a.data ++ b.data).extract 0 a.data.size = a.data
  rw [Array.extract_append]
  simp
theorem JindexBytes : peristylelaw26_JindexBytes.Pure := by
  intro l s n _ _ hx _ _
  refine Ev.rounds (g := fun k => peristylelaw26_JindexBytes.f k l s n) ?_
  unfold peristylelaw26_JindexBytes.f
  by_cases h1 : (l.length : Int) > 100
  · exact Ev.yes h1 (Ev.step (fun k => peristylelaw26_JindexBytes.j0_succ k _ _ _ _) (Ev.yes rfl (Ev.bind awake26_ev (Ev.now _))))
  refine Ev.no h1 ?_
  by_cases h2 : (s.size : Int) > 256
  · rw [decide_eq_true h2]
    exact Ev.step (fun k => peristylelaw26_JindexBytes.j0_succ k _ _ _ _) (Ev.yes rfl (Ev.bind awake26_ev (Ev.now _)))
  rw [decide_eq_false h2]
  refine Ev.step (fun k => peristylelaw26_JindexBytes.j0_succ k _ _ _ _) (Ev.no (by decide) ?_)
  refine Ev.bind (jput_ev l) (Ev.bind (refPut_ev l) (Ev.bind (jtake_ev s n (by omega)) (Ev.bind (refTake_ev s n (by omega)) (Ev.yes rfl (Ev.yes rfl ?_)))))
  have htl : (jtakeR s n).1.length ≤ 4096 := by
    unfold jtakeR
    split
    · simp
    split
    · simp
    split
    · rename_i h; exact (isOrd_ord h.2).1
    · simp
  refine Ev.bind (ref01_Same_ev _ _ (by omega)) (Ev.yes (by simp) (Ev.yes rfl ?_))
  rw [show ((jtakeR s n).2.2 != (jtakeR s n).2.2) = false by simp]
  refine Ev.step (fun k => peristylelaw26_JindexBytes.j1_succ k _ _ _ _ _) (Ev.no (by decide) ?_)
  have hw := jwid_le (l.length : Int)
  obtain ⟨w, hwe⟩ : ∃ w : Nat, jwid (l.length : Int) = (w : Int) := ⟨(jwid (l.length : Int)).toNat, by omega⟩
  have hN : l.length * w ≤ 100 * 64 := Nat.mul_le_mul (by omega) (by omega)
  by_cases h : (jputR l).2 = 0
  · have ho : isOrd l = true := by
      refine Classical.byContradiction fun hno => ?_
      unfold jputR at h
      rw [if_neg hno] at h
      exact absurd h (by decide)
    have hm : mayPut l (w : Int) := by
      refine Classical.byContradiction fun hno => ?_
      unfold jputR putR at h
      rw [if_pos ho, hwe, if_neg hno] at h
      exact absurd h (by decide)
    have hp : jputR l = (strOfNums (packB (stL l w) (l.length * w)), 0) := by
      unfold jputR putR
      rw [if_pos ho, hwe, if_pos hm, Int.toNat_natCast]
    have hsz : (strOfNums (packB (stL l w) (l.length * w))).size = (l.length * w + 7) / 8 := by rw [str_size, packB_length]
    have hsb : (strOfNums (packB (stL l w) (l.length * w)) ++ s).size = (l.length * w + 7) / 8 + s.size := by rw [ByteArray.size_append, hsz]
    have hj : jtakeR (strOfNums (packB (stL l w) (l.length * w)) ++ s) (l.length : Int) = (l, (((l.length * w + 7) / 8 : Nat) : Int), 0) := by
      have hb : bytesN (l.length : Int) (w : Int) = (((l.length * w + 7) / 8 : Nat) : Int) := bytesN_nat l.length w (by omega) (by omega)
      unfold jtakeR
      rw [if_neg (by omega), hwe, hb, if_neg (by omega), Int.toNat_natCast]
      rw [show (strOfNums (packB (stL l w) (l.length * w)) ++ s).extract 0 ((l.length * w + 7) / 8) = strOfNums (packB (stL l w) (l.length * w)) by rw [← hsz]; exact append_extract _ _]
      rw [take_packed l w (by omega) (by omega) (fun x h => InI.of_wf (hx x h)) hm.2.2.2, if_pos ⟨rfl, ho⟩]
    rw [hp]
    refine Ev.yes (by dsimp only; omega) (Ev.bind (jtake_ev _ _ (by dsimp only; omega)) ?_)
    rw [hj]
    exact Ev.yes rfl (Ev.yes rfl (Ev.yes (by dsimp only; omega) (Ev.bind (ref01_Same_ev l l (by omega)) (Ev.yes (by simp) (Ev.bind awake26_ev (Ev.now _))))))
  · have hsz : (jputR l).1.size ≤ 1000000 := by
      unfold jputR
      split
      · unfold putR
        split
        · rw [hwe, Int.toNat_natCast, str_size, packB_length]; omega
        · decide
      · decide
    refine Ev.yes (by omega) (Ev.bind (jtake_ev _ _ (by rw [ByteArray.size_append]; omega)) (Ev.no h (Ev.bind awake26_ev (Ev.now _))))
end Go.Proofs.Ytbmlfbbcgbgnoaa.Pure
