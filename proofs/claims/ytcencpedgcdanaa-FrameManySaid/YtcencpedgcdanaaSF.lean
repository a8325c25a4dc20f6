-- Numbers by how far they are from one another: what the program's frame and the document's tell.
import Derived.Test.YtcencpedgcdanaaPrint1
import Derived.Test.YtcencpedgcdanaaPrint3
import Derived.Test.YtcencpedgcdanaaPrint4
import Derived.Test.YtcencpedgcdanaaPrint7
import Derived.Test.YtcencpedgcdanaaPrint9
import Derived.Test.YtcencpedgcdanaaST
import Derived.Test.YtcencpedgcdanaaSV
import Derived.Lib.Strings
set_option linter.unusedVariables false
set_option linter.unusedSimpArgs false
namespace Go.Proofs.Ytcencpedgcdanaa.Print
open Go.RowKit Go.Proofs.YtcencpedgcdanaaW.PrintWords Go.Proofs.YtcencpedgcdanaaW.PrintMore
theorem rd_InI {l : List Int} (h : ∀ x, x ∈ l → InI x) (i : Nat) : InI (rd l (i : Int)) := by
  by_cases hi : i < l.length
  · exact h _ (rd_mem l i hi)
  · unfold rd
    rw [Int.toNat_natCast, List.getD_eq_getElem?_getD, List.getElem?_eq_none (by omega)]
    unfold InI; decide
def stepsL : List Int → List Int
  | a :: b :: r => wrap64 (b - a) :: stepsL (b :: r)
  | _ => []
theorem stepsL_length : ∀ l : List Int, (stepsL l).length = l.length - 1
  | [] => rfl
  | [_] => rfl
  | a :: b :: r => by
    have := stepsL_length (b :: r)
    simp only [stepsL, List.length_cons] at this ⊢
    omega
theorem stepsL_InI : ∀ l : List Int, ∀ x, x ∈ stepsL l → InI x
  | [], x, h => by simp [stepsL] at h
  | [_], x, h => by simp [stepsL] at h
  | a :: b :: r, x, h => by
    simp only [stepsL] at h
    rcases List.mem_cons.1 h with rfl | h
    · exact InI_wrap64 _
    · exact stepsL_InI (b :: r) x h
theorem stepsL_drop (l : List Int) (i : Nat) (h : i + 1 < l.length) : stepsL (l.drop i) = wrap64 (rd l ((i + 1 : Nat) : Int) - rd l (i : Int)) :: stepsL (l.drop (i + 1)) := by
  rw [drop_rd l i (by omega), drop_rd l (i + 1) h]
  rfl
theorem stepsL_end (l : List Int) (i : Nat) (h : i + 1 = l.length) : stepsL (l.drop i) = [] := by
  rw [drop_rd l i (by omega), List.drop_eq_nil_of_le (by omega)]
  rfl
def minTo (l : List Int) : Nat → Int
  | 0 => rd l 0
  | k + 1 => mn (minTo l k) (rd l ((k + 1 : Nat) : Int))
def minL (l : List Int) : Int := minTo l (l.length - 1)
theorem minTo_InI {l : List Int} (h : ∀ x, x ∈ l → InI x) : ∀ k, InI (minTo l k)
  | 0 => rd_InI h 0
  | k + 1 => by
    have h1 := minTo_InI h k
    have h2 := rd_InI h (k + 1)
    unfold minTo mn
    split
    · exact h2
    · exact h1
def lessL (l : List Int) (m : Int) : List Int := l.map fun x => wrap64 (x - m)
theorem lessL_length (l : List Int) (m : Int) : (lessL l m).length = l.length := by simp [lessL]
theorem lessL_InI (l : List Int) (m : Int) : ∀ x, x ∈ lessL l m → InI x := by
  intro x hx
  obtain ⟨y, _, rfl⟩ := List.mem_map.1 hx
  exact InI_wrap64 _
theorem set_mid (A : List Int) (b v : Int) (C : List Int) : (A ++ b :: C).set A.length v = A ++ v :: C := by simp [List.set_append]
theorem rd_mid (A : List Int) (b : Int) (C : List Int) : rd (A ++ b :: C) (A.length : Int) = b := by
  unfold rd
  rw [Int.toNat_natCast]
  simp
/-- what the numbers' steps are, less the least of these -/
def leastF (l : List Int) : Int := minL (stepsL l)
def wordsF (l : List Int) : List Int := lessL (stepsL l) (leastF l)
theorem leastF_InI (l : List Int) : InI (leastF l) := minTo_InI (stepsL_InI l) _
theorem wordsF_length (l : List Int) : (wordsF l).length = l.length - 1 := by rw [wordsF, lessL_length, stepsL_length]
theorem wordsF_may (l : List Int) (h : l.length ≤ 65536) : mayPut (wordsF l) (widL (wordsF l)) := by
  have := widL_le (wordsF l)
  have h2 := wordsF_length l
  unfold mayPut
  omega
theorem far_eq (a b : Int) : frame_far.f a b = some (wrap64 (b - a)) := by
  unfold frame_far.f
  congr 1
  rw [u64_wrap, u64_wrap, u64_wrap]
  unfold wrap64
  omega
theorem moved_eq (a b : Int) : frame_moved.f a b = some (wrap64 (a + b)) := by
  unfold frame_moved.f
  congr 1
  rw [u64_wrap, u64_wrap, u64_wrap]
  unfold wrap64
  omega
theorem upto_eq (l : List Int) : ∀ k, slices_Min_int_int.upto l k = minTo l k
  | 0 => rfl
  | k + 1 => by
    show mn (slices_Min_int_int.upto l k) _ = mn (minTo l k) _
    rw [upto_eq l k]
theorem min_eq {l : List Int} (h : 0 < l.length) : slices_Min_int_int.f l = some (minL l) := by
  unfold slices_Min_int_int.f
  rw [if_pos h, upto_eq]
  rfl
theorem steps_loop1 (m : Int) : ∀ (rest A : List Int), (A ++ rest).length ≤ 65536 → Ev (fun k => frame_steps.l1 k (A ++ rest) m ((A ++ rest).length : Int) (A.length : Int)) (A ++ lessL rest m, m)
  | [], A, h => by
    refine Ev.step (fun k => frame_steps.l1_succ k _ _ _ _) (Ev.no (by simp) (Ev.val ?_))
    simp [lessL]
  | b :: C, A, h => by
    have hl : (A ++ b :: C).length = A.length + C.length + 1 := by simp; omega
    refine Ev.step (fun k => frame_steps.l1_succ k _ _ _ _) (Ev.yes (by omega) (Ev.yes (by omega) (Ev.yes (by omega) (Ev.call (far_eq _ _) ?_))))
    rw [rd_mid, Int.toNat_natCast, set_mid]
    have ih := steps_loop1 m C (A ++ [wrap64 (b - m)]) (by simp at h ⊢; omega)
    have e1 : A ++ [wrap64 (b - m)] ++ C = A ++ wrap64 (b - m) :: C := by simp
    have e2 : A ++ [wrap64 (b - m)] ++ lessL C m = A ++ lessL (b :: C) m := by simp [lessL]
    have e3 : ((A ++ [wrap64 (b - m)]).length : Int) = wrap64 ((A.length : Int) + 1) := by
      have : A.length ≤ 65536 := by omega
      simp only [List.length_append, List.length_singleton]
      unfold wrap64; omega
    have e4 : (A ++ wrap64 (b - m) :: C).length = (A ++ b :: C).length := by simp
    rw [e1, e2, e3, e4] at ih
    exact ih
theorem steps_loop0 (l : List Int) (hl : 2 ≤ l.length) (h6 : l.length ≤ 65536) (r : List Int × Int) (acc0 : List Int) (hr : 0 < acc0.length ∧ acc0.length ≤ 65536 ∧ r = (lessL acc0 (minL acc0), minL acc0)) : ∀ (d i : Nat) (acc : List Int), i + 1 + d = l.length → acc.length = i → acc ++ stepsL (l.drop i) = acc0 →
    Ev (fun k => frame_steps.l0 k l acc ((i + 1 : Nat) : Int)) r
  | 0, i, acc, h, ha, he => by
    rw [stepsL_end l i (by omega), List.append_nil] at he
    subst he
    obtain ⟨h0, h1, rfl⟩ := hr
    refine Ev.step (fun k => frame_steps.l0_succ k _ _ _) (Ev.no (by omega) (Ev.call (min_eq h0) ?_))
    exact steps_loop1 _ acc [] h1
  | d + 1, i, acc, h, ha, he => by
    have e1 : wrap64 (((i + 1 : Nat) : Int) - 1) = (i : Int) := by unfold wrap64; omega
    have e2 : wrap64 (((i + 1 : Nat) : Int) + 1) = ((i + 1 + 1 : Nat) : Int) := by unfold wrap64; omega
    refine Ev.step (fun k => frame_steps.l0_succ k _ _ _) (Ev.yes (by omega) ?_)
    rw [e1, e2]
    refine Ev.yes (by omega) (Ev.yes (by omega) (Ev.yes (by omega) (Ev.call (far_eq _ _) (Ev.yes (by omega) ?_))))
    refine steps_loop0 l hl h6 r acc0 hr d (i + 1) _ (by omega) (by simp; omega) ?_
    rw [stepsL_drop l i (by omega)] at he
    rw [← he]
    simp
theorem frame_steps_ev (l : List Int) (hl : 2 ≤ l.length) (h6 : l.length ≤ 65536) : Ev (fun k => frame_steps.f k l) (wordsF l, leastF l) := by
  unfold frame_steps.f
  have hs := stepsL_length l
  refine Ev.yes (by omega) (Ev.yes (by omega) ?_)
  exact steps_loop0 l hl h6 _ (stepsL l) ⟨by omega, by omega, rfl⟩ (l.length - 1) 0 [] (by omega) rfl (by simp)
theorem ref09_steps_loop (l : List Int) (h6 : l.length ≤ 65536) (r : List Int) : ∀ (d i : Nat) (acc : List Int), i + 1 + d = l.length → acc.length = i → acc ++ stepsL (l.drop i) = r →
    Ev (fun k => peristyleref09_steps.l0 k l acc ((i + 1 : Nat) : Int)) r
  | 0, i, acc, h, ha, he => by
    rw [stepsL_end l i (by omega), List.append_nil] at he
    exact Ev.step (fun k => peristyleref09_steps.l0_succ k _ _ _) (Ev.no (by omega) (Ev.val he))
  | d + 1, i, acc, h, ha, he => by
    have e1 : wrap64 (((i + 1 : Nat) : Int) - 1) = (i : Int) := by unfold wrap64; omega
    have e2 : wrap64 (((i + 1 : Nat) : Int) + 1) = ((i + 1 + 1 : Nat) : Int) := by unfold wrap64; omega
    refine Ev.step (fun k => peristyleref09_steps.l0_succ k _ _ _) (Ev.yes (by omega) ?_)
    rw [e1, e2]
    refine Ev.yes (by omega) (Ev.yes (by omega) (Ev.yes (by omega) (Ev.yes (by omega) ?_)))
    refine ref09_steps_loop l h6 r d (i + 1) _ (by omega) (by simp; omega) ?_
    rw [stepsL_drop l i (by omega)] at he
    rw [← he]
    simp
theorem ref09_steps_ev (l : List Int) (hl : 2 ≤ l.length) (h6 : l.length ≤ 65536) : Ev (fun k => peristyleref09_steps.f k l) (stepsL l) :=
  ref09_steps_loop l h6 _ (l.length - 1) 0 [] (by omega) rfl (by simp)
theorem ref09_least_loop (l : List Int) (h6 : l.length ≤ 65536) : ∀ (d i : Nat), i + 1 + d = l.length → Ev (fun k => peristyleref09_least.l0 k l (minTo l i) ((i + 1 : Nat) : Int)) (minL l)
  | 0, i, h => by
    refine Ev.step (fun k => peristyleref09_least.l0_succ k _ _ _) (Ev.no (by omega) (Ev.val ?_))
    unfold minL
    rw [show l.length - 1 = i by omega]
  | d + 1, i, h => by
    have e2 : wrap64 (((i + 1 : Nat) : Int) + 1) = ((i + 1 + 1 : Nat) : Int) := by unfold wrap64; omega
    refine Ev.step (fun k => peristyleref09_least.l0_succ k _ _ _) (Ev.yes (by omega) (Ev.yes (by omega) ?_))
    rw [e2]
    exact ref09_least_loop l h6 d (i + 1) (by omega)
theorem ref09_least_ev (l : List Int) (h0 : 0 < l.length) (h6 : l.length ≤ 65536) : Ev (fun k => peristyleref09_least.f k l) (minL l) := by
  unfold peristyleref09_least.f
  exact Ev.yes (by omega) (ref09_least_loop l h6 (l.length - 1) 0 (by omega))
def headF (l : List Int) : ByteArray := (putV (rd l 0) ++ putV (leastF l)) ++ strOfNums [widL (wordsF l) % 256]
def putF (l : List Int) : ByteArray × Int :=
  if l.length > 65536 then ((⟨#[]⟩ : ByteArray), 1) else if l.length = 0 then ((⟨#[]⟩ : ByteArray), 0) else if l.length = 1 then (putV (rd l 0), 0)
  else (headF l ++ (putR (wordsF l) (widL (wordsF l))).1, 0)
theorem putV_le (a : Int) : 1 ≤ (putV a).size ∧ (putV a).size ≤ 10 := by
  rw [putV_size]
  exact vl_le _
theorem putR_words (l : List Int) (h : l.length ≤ 65536) : (putR (wordsF l) (widL (wordsF l))).1.size = ((wordsF l).length * (widL (wordsF l)).toNat + 7) / 8 ∧ (putR (wordsF l) (widL (wordsF l))).2 = 0 ∧ (putR (wordsF l) (widL (wordsF l))).1.size ≤ 524288 := by
  have hw := widL_le (wordsF l)
  obtain ⟨w, hw2⟩ := Int.eq_ofNat_of_zero_le hw.1
  have hm := wordsF_may l h
  rw [hw2] at hm ⊢
  have hp := put_size (wordsF l) w hm
  refine ⟨hp.1, hp.2, ?_⟩
  rw [hp.1, wordsF_length]
  have : (l.length - 1) * w ≤ 65536 * 64 := Nat.mul_le_mul (by omega) (by omega)
  omega
theorem headF_size (l : List Int) : (headF l).size = vl (zig (rd l 0)) + vl (zig (leastF l)) + 1 := by
  unfold headF
  rw [ByteArray.size_append, ByteArray.size_append, putV_size, putV_size, str_size]
  rfl
theorem frame_Put_ev {l : List Int} (hI : ∀ x, x ∈ l → InI x) : Ev (fun k => frame_Put.f k l) (putF l) := by
  unfold frame_Put.f putF
  by_cases h6 : l.length > 65536
  · rw [if_pos h6]; exact Ev.yes (by omega) (Ev.now _)
  rw [if_neg h6]
  refine Ev.no (by omega) ?_
  by_cases h0 : l.length = 0
  · rw [if_pos h0]; exact Ev.yes (by omega) (Ev.now _)
  rw [if_neg h0]
  refine Ev.no (by omega) ?_
  by_cases h1 : l.length = 1
  · rw [if_pos h1]
    exact Ev.yes (by omega) (Ev.yes (by omega) (Ev.call (vint_Put_eq (rd_InI hI 0)) (Ev.now _)))
  rw [if_neg h1]
  have hp := putR_words l (by omega)
  have hv1 := putV_le (rd l 0)
  have hv2 := putV_le (leastF l)
  have hwl := wordsF_length l
  refine Ev.no (by omega) (Ev.bind (frame_steps_ev l (by omega) (by omega)) (Ev.bind (pack_Width_ev (wordsF l) (by omega)) (Ev.bind (pack_Put_ev (wordsF l) (widL (wordsF l)) (by omega)) (Ev.yes (by omega) (Ev.call (vint_Put_eq (rd_InI hI 0)) (Ev.call (vint_Put_eq (leastF_InI l)) (Ev.yes (show (putV (rd l 0)).size + (putV (leastF l)).size ≤ 9223372036854775807 by omega) (Ev.call rfl ?_))))))))
  have hs1 : (strOfNums [widL (wordsF l) % 256]).size = 1 := by rw [str_size]; rfl
  refine Ev.yes (show (putV (rd l 0) ++ putV (leastF l)).size + (strOfNums [widL (wordsF l) % 256]).size ≤ 9223372036854775807 by rw [ByteArray.size_append, hs1]; omega) (Ev.yes (show ((putV (rd l 0) ++ putV (leastF l)) ++ strOfNums [widL (wordsF l) % 256]).size + (putR (wordsF l) (widL (wordsF l))).1.size ≤ 9223372036854775807 by rw [ByteArray.size_append, ByteArray.size_append, hs1]; omega) (Ev.val ?_))
  rw [hp.2.1]
  rfl
theorem ref09_put_loop (l : List Int) (h2 : 2 ≤ l.length) (h6 : l.length ≤ 65536) (s : ByteArray) (hs : s.size ≤ 10) : ∀ (d i : Nat) (acc : List Int), i + d = (stepsL l).length → acc.length = i → acc ++ lessL ((stepsL l).drop i) (leastF l) = wordsF l →
    Ev (fun k => peristyleref09_Put.l0 k s (stepsL l) (leastF l) acc (i : Int)) (((s ++ putV (leastF l)) ++ strOfNums [widL (wordsF l) % 256]) ++ (putR (wordsF l) (widL (wordsF l))).1, 0)
  | 0, i, acc, h, ha, he => by
    rw [List.drop_eq_nil_of_le (by omega)] at he
    have he : acc = wordsF l := by rw [← he]; simp [lessL]
    subst he
    have hp := putR_words l (by omega)
    have hv2 := putV_le (leastF l)
    have hwl := wordsF_length l
    refine Ev.step (fun k => peristyleref09_Put.l0_succ k _ _ _ _ _) (Ev.no (by omega) (Ev.bind (ref08_Width_ev _ (by omega)) (Ev.bind (ref08_Put_ev _ _ (by omega)) (Ev.bind (ref02_Put_ev (leastF_InI l)) (Ev.yes (by omega) (Ev.call rfl ?_))))))
    have hs1 : (strOfNums [widL (wordsF l) % 256]).size = 1 := by rw [str_size]; rfl
    exact Ev.yes (by rw [ByteArray.size_append, hs1]; omega) (Ev.yes (by rw [ByteArray.size_append, ByteArray.size_append, hs1]; omega) (Ev.now _))
  | d + 1, i, acc, h, ha, he => by
    have hsl := stepsL_length l
    have e2 : wrap64 ((i : Int) + 1) = ((i + 1 : Nat) : Int) := by unfold wrap64; omega
    refine Ev.step (fun k => peristyleref09_Put.l0_succ k _ _ _ _ _) (Ev.yes (by omega) (Ev.yes (by omega) (Ev.yes (by omega) ?_)))
    rw [e2]
    refine ref09_put_loop l h2 h6 s hs d (i + 1) _ (by omega) (by simp; omega) ?_
    rw [drop_rd _ i (by omega)] at he
    rw [← he]
    simp [lessL]
theorem ref09_Put_ev {l : List Int} (hI : ∀ x, x ∈ l → InI x) : Ev (fun k => peristyleref09_Put.f k l) (putF l) := by
  unfold peristyleref09_Put.f putF
  by_cases h6 : l.length > 65536
  · rw [if_pos h6]; exact Ev.yes (by omega) (Ev.now _)
  rw [if_neg h6]
  refine Ev.no (by omega) ?_
  by_cases h0 : l.length = 0
  · rw [if_pos h0]; exact Ev.yes (by omega) (Ev.now _)
  rw [if_neg h0]
  refine Ev.no (by omega) (Ev.yes (by omega) (Ev.bind (ref02_Put_ev (rd_InI hI 0)) ?_))
  by_cases h1 : l.length = 1
  · rw [if_pos h1]
    exact Ev.yes (by omega) (Ev.now _)
  rw [if_neg h1]
  have hsl := stepsL_length l
  refine Ev.no (by omega) (Ev.bind (ref09_steps_ev l (by omega) (by omega)) (Ev.bind (ref09_least_ev _ (by omega) (by omega)) ?_))
  exact ref09_put_loop l (by omega) (by omega) _ (putV_le _).2 (stepsL l).length 0 [] (by omega) rfl (by rfl)
end Go.Proofs.Ytcencpedgcdanaa.Print
