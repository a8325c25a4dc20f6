/- NullsApart: two lists of cells (up to 64 each) have one mask just if the same cells are nulls, of as many; a list has no mask just if it has no null; as many cells are left as are none. No condition. -/
import Derived.Test.YtkbblkfbgpohkaaPrint0
import Derived.Test.YtkbblkfbgpohkaaPrint7
import Derived.Test.YtkbblkfbgpohkaaSN
set_option linter.unusedVariables false
namespace Go.Proofs.Ytkbblkfbgpohkaa.Pure
open Go.RowKit Go.Proofs.Ytkbblkfbgpohkaa.Print Go.Proofs.YtkbblkfbgpohkaaW.PrintWords Go.Proofs.YtkbblkfbgpohkaaW.PrintLast Go.Proofs.YtkbblkfbgpohkaaW.PrintMore
def cellAt (b : Bool) (i : Nat) : S32 := if b = true then z32 else ⟨1, (i : Int), (⟨#[]⟩ : ByteArray)⟩
def at_ (a : List Bool) (i : Nat) : Bool := rdOf false a (i : Int)
def cellsTo (a : List Bool) : Nat → List S32
  | 0 => []
  | i + 1 => cellsTo a i ++ [cellAt (at_ a i) i]
def freeTo (a : List Bool) : Nat → Int
  | 0 => 0
  | i + 1 => if at_ a i = true then freeTo a i else freeTo a i + 1
def anyTo (a : List Bool) : Nat → Bool
  | 0 => false
  | i + 1 => if at_ a i = true then true else anyTo a i
def sameTo (a b : List Bool) : Nat → Bool
  | 0 => true
  | i + 1 => if sameTo a b i = true then (at_ a i == at_ b i) else false
theorem cells_len (a : List Bool) : ∀ i, (cellsTo a i).length = i
  | 0 => rfl
  | i + 1 => by simp [cellsTo, cells_len a i]
theorem free_le (a : List Bool) : ∀ i : Nat, 0 ≤ freeTo a i ∧ freeTo a i ≤ i
  | 0 => by simp [freeTo]
  | i + 1 => by
    have := free_le a i
    simp only [freeTo]
    split <;> omega
theorem nb_snoc (l : List S32) (x : S32) : nb (l ++ [x]) = nb l ++ [if x.f0 = 0 then 1 else 0] := by
  unfold nb
  rw [List.map_append]
  rfl
theorem keep_snoc (l : List S32) (x : S32) : keepL (l ++ [x]) = keepL l ++ (if x.f0 = 0 then [] else [x]) := by
  unfold keepL
  rw [List.filter_append]
  by_cases e : x.f0 = 0
  · rw [if_pos e, List.filter_cons_of_neg (by simp [e])]; rfl
  · rw [if_neg e, List.filter_cons_of_pos (by simp [e])]; rfl
theorem nb_cells (a : List Bool) (i : Nat) : nb (cellsTo a (i + 1)) = nb (cellsTo a i) ++ [if at_ a i = true then 1 else 0] := by
  rw [cellsTo, nb_snoc]
  congr 2
  cases h : at_ a i
  · rfl
  · rfl
theorem any_iff (a : List Bool) : ∀ i, 1 ∈ nb (cellsTo a i) ↔ anyTo a i = true
  | 0 => by simp [cellsTo, nb, anyTo]
  | i + 1 => by
    rw [nb_cells, List.mem_append, any_iff a i]
    simp only [anyTo]
    cases h : at_ a i
    · simp
    · simp
theorem keep_free (a : List Bool) : ∀ i, ((keepL (cellsTo a i)).length : Int) = freeTo a i
  | 0 => rfl
  | i + 1 => by
    have ih := keep_free a i
    rw [cellsTo, keep_snoc, List.length_append]
    simp only [freeTo]
    cases h : at_ a i
    · have e : ¬ (cellAt false i).f0 = 0 := fun h => absurd (show (1 : Int) = 0 from h) (by decide)
      simp only [if_neg e]
      simp only [List.length_singleton, Bool.false_eq_true, if_false]
      omega
    · have e : (cellAt true i).f0 = 0 := rfl
      simp only [if_pos e, if_true, List.length_nil]
      omega
theorem nb_same (a b : List Bool) : ∀ i, nb (cellsTo a i) = nb (cellsTo b i) ↔ sameTo a b i = true
  | 0 => by simp [cellsTo, sameTo]
  | i + 1 => by
    rw [nb_cells, nb_cells]
    constructor
    · intro h
      have h1 := List.append_inj h (by rw [nb_length, nb_length, cells_len, cells_len])
      rw [sameTo, if_pos ((nb_same a b i).1 h1.1)]
      have h2 := h1.2
      cases ha : at_ a i <;> cases hb : at_ b i <;> simp [ha, hb] at h2 ⊢
    · intro h
      simp only [sameTo] at h
      split at h
      · rename_i h3
        rw [(nb_same a b i).2 h3, beq_iff_eq.1 h]
      · cases h
theorem mask_inj {v w : List Int} (h1 : ∀ x, x ∈ v → x = 0 ∨ x = 1) (h2 : ∀ x, x ∈ w → x = 0 ∨ x = 1) (hl : v.length ≤ 65536) (he : v.length = w.length) (h : maskS v = maskS w) : v = w := by
  have b1 := bitsR_mask v h1 hl
  have b2 := bitsR_mask w h2 (by omega)
  rw [h, he, b2] at b1
  exact (congrArg Prod.fst b1).symm
theorem mask_toList_inj {a b : ByteArray} (h : a.toList = b.toList) : a = b := toList_inj h
def sT (a : List Bool) : ByteArray := (splitR (cellsTo a a.length)).1
theorem sT_none (a : List Bool) (hl : a.length ≤ 64) : (((sT a).toList == ([] : List UInt8)) == (!anyTo a a.length)) = true := by
  have := mask_toList (nb (cellsTo a a.length)) (nb_01 _) (by rw [nb_length, cells_len]; omega)
  rw [any_iff] at this
  unfold sT splitR
  cases h : anyTo a a.length
  · rw [h] at this
    rw [this.2 (by decide)]
    rfl
  · rw [h] at this
    have h2 : ¬ (maskS (nb (cellsTo a a.length))).toList = ([] : List UInt8) := fun e => this.1 e rfl
    simpa using h2
theorem sT_same (a b : List Bool) (hl : a.length ≤ 64) (he : a.length = b.length) : ((sT a).toList == (sT b).toList) = sameTo a b a.length := by
  have hs := nb_same a b a.length
  unfold sT splitR
  cases h : sameTo a b a.length
  · rw [beq_eq_false_iff_ne]
    intro e
    have e1 := mask_toList_inj e
    have e2 := mask_inj (nb_01 _) (nb_01 _) (by rw [nb_length, cells_len]; omega) (by rw [nb_length, nb_length, cells_len, cells_len, he]) e1
    rw [← he] at e2
    rw [hs.1 e2] at h
    cases h
  · rw [beq_iff_eq]
    show (maskS (nb (cellsTo a a.length))).toList = (maskS (nb (cellsTo b b.length))).toList
    rw [hs.2 h, he]
theorem apart_end (a b : List Bool) (x18 : Bool) (hl : a.length ≤ 64) (hl2 : b.length ≤ 64) (hx : a.length = b.length → x18 = sameTo a b a.length) (i : Int) (hi : ¬ (i < (a.length : Int) ∧ i < (b.length : Int))) :
    Ev (fun k => peristylelaw12_NullsApart.l2 k a b (freeTo a a.length) (anyTo a a.length) (anyTo b b.length) (sT a) (splitR (cellsTo a a.length)).2 (sT b) x18 i) true := by
  have h1 := sT_none a hl
  have h2 := sT_none b hl2
  have h3 : (((splitR (cellsTo a a.length)).2).length : Int) = freeTo a a.length := keep_free a a.length
  refine Ev.step (fun k => peristylelaw12_NullsApart.l2_succ k _ _ _ _ _ _ _ _ _ _) ?_
  by_cases c1 : i < (a.length : Int)
  · refine Ev.yes c1 (Ev.no (fun c => hi ⟨c1, c⟩) ?_)
    by_cases c2 : (a.length : Int) = (b.length : Int)
    · refine Ev.yes c2 (Ev.no ?_ (Ev.yes h3 (Ev.yes h1 (Ev.yes h2 (Ev.bind awake12_ev (Ev.now _))))))
      rw [sT_same a b hl (by omega), hx (by omega)]
      simp
    · exact Ev.no c2 (Ev.yes h3 (Ev.yes h1 (Ev.yes h2 (Ev.bind awake12_ev (Ev.now _)))))
  · refine Ev.no c1 ?_
    by_cases c2 : (a.length : Int) = (b.length : Int)
    · refine Ev.yes c2 (Ev.no ?_ (Ev.yes h3 (Ev.yes h1 (Ev.yes h2 (Ev.bind awake12_ev (Ev.now _))))))
      rw [sT_same a b hl (by omega), hx (by omega)]
      simp
    · exact Ev.no c2 (Ev.yes h3 (Ev.yes h1 (Ev.yes h2 (Ev.bind awake12_ev (Ev.now _)))))
theorem apart_l2 (a b : List Bool) (hl : a.length ≤ 64) (hl2 : b.length ≤ 64) : ∀ (d i : Nat), i + d = a.length → i ≤ b.length →
    Ev (fun k => peristylelaw12_NullsApart.l2 k a b (freeTo a a.length) (anyTo a a.length) (anyTo b b.length) (sT a) (splitR (cellsTo a a.length)).2 (sT b) (((a.length : Int) == (b.length : Int)) && sameTo a b i) (i : Int)) true
  | 0, i, h, hb => by
    refine apart_end a b _ hl hl2 (fun he => ?_) _ (by omega)
    obtain rfl : i = a.length := by omega
    simp [he]
  | d + 1, i, h, hb => by
    by_cases hi : i < b.length
    · have hih := apart_l2 a b hl hl2 d (i + 1) (by omega) (by omega)
      refine Ev.step (fun k => peristylelaw12_NullsApart.l2_succ k _ _ _ _ _ _ _ _ _ _) (Ev.yes (by omega) (Ev.yes (by omega) ?_))
      rw [show wrap64 ((i : Int) + 1) = ((i + 1 : Nat) : Int) by unfold wrap64; omega]
      cases c : (((a.length : Int) == (b.length : Int)) && sameTo a b i)
      · refine Ev.no (by decide) ?_
        have : (((a.length : Int) == (b.length : Int)) && sameTo a b (i + 1)) = false := by
          simp only [sameTo]
          cases c2 : sameTo a b i
          · simp
          · rw [c2] at c; simp only [Bool.and_true] at c; rw [c]; rfl
        rw [this] at hih
        exact hih
      · refine Ev.yes rfl (Ev.yes (by omega) ?_)
        rw [Bool.and_eq_true] at c
        have : (((a.length : Int) == (b.length : Int)) && sameTo a b (i + 1)) = (at_ a i == at_ b i) := by
          rw [c.1, sameTo, if_pos c.2, Bool.true_and]
        rw [this] at hih
        exact hih
    · refine apart_end a b _ hl hl2 (fun he => ?_) _ (by omega)
      omega
theorem apart_l1 (a b : List Bool) (hl : a.length ≤ 64) (hl2 : b.length ≤ 64) : ∀ (d i : Nat), i + d = b.length →
    Ev (fun k => peristylelaw12_NullsApart.l1 k a b (cellsTo a a.length) (cellsTo b i) (freeTo a a.length) (anyTo a a.length) (anyTo b i) (i : Int)) true
  | 0, i, h => by
    obtain rfl : i = b.length := by omega
    refine Ev.step (fun k => peristylelaw12_NullsApart.l1_succ k _ _ _ _ _ _ _ _) (Ev.no (by omega) ?_)
    refine Ev.bind (nulls_Split_ev _ (by rw [cells_len]; omega)) (Ev.bind (nulls_Split_ev _ (by rw [cells_len]; omega)) ?_)
    have := apart_l2 a b hl hl2 a.length 0 (by omega) (by omega)
    simp only [sameTo, Bool.and_true] at this
    exact this
  | d + 1, i, h => by
    have hih := apart_l1 a b hl hl2 d (i + 1) (by omega)
    have hc := cells_len b i
    refine Ev.step (fun k => peristylelaw12_NullsApart.l1_succ k _ _ _ _ _ _ _ _) (Ev.yes (by omega) (Ev.call rfl (Ev.yes (by omega) ?_)))
    rw [show wrap64 ((i : Int) + 1) = ((i + 1 : Nat) : Int) by unfold wrap64; omega]
    simp only [cellsTo, anyTo] at hih
    by_cases c : at_ b i = true
    · rw [if_pos c, c] at hih
      exact Ev.yes c (Ev.yes (by omega) hih)
    · rw [if_neg c, Bool.eq_false_iff.2 c] at hih
      exact Ev.no c (Ev.yes (by omega) hih)
theorem apart_l0 (a b : List Bool) (hl : a.length ≤ 64) (hl2 : b.length ≤ 64) : ∀ (d i : Nat), i + d = a.length →
    Ev (fun k => peristylelaw12_NullsApart.l0 k a b (cellsTo a i) (freeTo a i) (anyTo a i) false (i : Int)) true
  | 0, i, h => by
    obtain rfl : i = a.length := by omega
    exact Ev.step (fun k => peristylelaw12_NullsApart.l0_succ k _ _ _ _ _ _ _) (Ev.no (by omega) (apart_l1 a b hl hl2 b.length 0 (by omega)))
  | d + 1, i, h => by
    have hih := apart_l0 a b hl hl2 d (i + 1) (by omega)
    have hc := cells_len a i
    have hf := free_le a i
    refine Ev.step (fun k => peristylelaw12_NullsApart.l0_succ k _ _ _ _ _ _ _) (Ev.yes (by omega) (Ev.call rfl (Ev.yes (by omega) ?_)))
    rw [show wrap64 ((i : Int) + 1) = ((i + 1 : Nat) : Int) by unfold wrap64; omega, show wrap64 (freeTo a i + 1) = freeTo a i + 1 by unfold wrap64; omega]
    simp only [cellsTo, anyTo, freeTo] at hih
    by_cases c : at_ a i = true
    · rw [if_pos c, if_pos c, c] at hih
      exact Ev.yes c (Ev.yes (by omega) hih)
    · rw [if_neg c, if_neg c, Bool.eq_false_iff.2 c] at hih
      exact Ev.no c (Ev.yes (by omega) hih)
theorem NullsApart : peristylelaw12_NullsApart.Pure := by
  intro a b _ _
  refine Ev.rounds (g := fun k => peristylelaw12_NullsApart.f k a b) ?_
  have hyes : Ev (fun k => peristylelaw12_NullsApart.j0 k a b true) true := Ev.step (fun k => peristylelaw12_NullsApart.j0_succ k _ _ _) (Ev.yes rfl (Ev.bind awake12_ev (Ev.now _)))
  unfold peristylelaw12_NullsApart.f
  by_cases h1 : (a.length : Int) > 64
  · exact Ev.yes h1 hyes
  refine Ev.no h1 ?_
  by_cases h2 : (b.length : Int) > 64
  · rw [decide_eq_true h2]; exact hyes
  · rw [decide_eq_false h2]
    exact Ev.step (fun k => peristylelaw12_NullsApart.j0_succ k _ _ _) (Ev.no (by decide) (apart_l0 a b (by omega) (by omega) a.length 0 (by omega)))
end Go.Proofs.Ytkbblkfbgpohkaa.Pure
