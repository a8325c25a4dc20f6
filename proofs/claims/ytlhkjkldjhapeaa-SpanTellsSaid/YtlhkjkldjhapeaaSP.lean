-- Words of few bits as bytes: what the program's functions and the document's tell.
import Derived.Test.YtlhkjkldjhapeaaPrint0
import Derived.Test.YtlhkjkldjhapeaaXB
import Derived.Test.YtlhkjkldjhapeaaSG
import Derived.Test.YtlhkjkldjhapeaaSB
import Derived.Test.YtlhkjkldjhapeaaSC
set_option linter.unusedVariables false
set_option linter.unusedSimpArgs false
namespace Go.Proofs.Ytlhkjkldjhapeaa.Print
open Go.RowKit Go.Proofs.YtlhkjkldjhapeaaW.PrintWords Go.Proofs.YtlhkjkldjhapeaaW.PrintMore
/-! ### widths -/
theorem topTo_le (l : List Bool) : ∀ k, 0 ≤ topTo l k ∧ topTo l k ≤ k
  | 0 => by simp [topTo]
  | k + 1 => by
    have := topTo_le l k
    simp only [topTo]
    split <;> omega
theorem topTo_le_iff (l : List Bool) (r : Int) (hr : 0 ≤ r) : ∀ k, topTo l k ≤ r ↔ ∀ i : Nat, r ≤ (i : Int) → i < k → bAt l i = false
  | 0 => by
    refine ⟨fun _ i _ h => absurd h (Nat.not_lt_zero i), fun _ => ?_⟩
    simp only [topTo]
    exact hr
  | k + 1 => by
    have ih := topTo_le_iff l r hr k
    simp only [topTo]
    by_cases hb : bAt l k = true
    · rw [if_pos hb]
      constructor
      · intro h i h1 h2
        omega
      · intro h
        by_cases hk : (k : Int) + 1 ≤ r
        · exact hk
        · have := h k (by omega) (by omega)
          rw [hb] at this
          exact absurd this (by decide)
    · rw [if_neg hb]
      rw [ih]
      constructor
      · intro h i h1 h2
        by_cases e : i = k
        · subst e; simpa using hb
        · exact h i h1 (by omega)
      · intro h i h1 h2
        exact h i h1 (by omega)
def wid (a : Int) : Int := topTo (bitsOf a) 64
theorem wid_le (a : Int) : 0 ≤ wid a ∧ wid a ≤ 64 := topTo_le _ 64
theorem wid_le_iff (a : Int) (r : Int) (hr : 0 ≤ r) : wid a ≤ r ↔ ∀ i : Nat, r ≤ (i : Int) → bit a i = false := by
  unfold wid
  rw [topTo_le_iff _ _ hr 64]
  constructor
  · intro h i h1
    by_cases h2 : i < 64
    · rw [← bAt_bitsOf]; exact h i h1 h2
    · exact bit_ge a (by omega)
  · intro h i h1 _
    rw [bAt_bitsOf]; exact h i h1
theorem wid_or (a b : Int) : wid (Go.bits .or .i64 a b) = mx (wid a) (wid b) := by
  have ha := wid_le a
  have hb := wid_le b
  have ho := wid_le (Go.bits .or .i64 a b)
  have key : ∀ r : Int, 0 ≤ r → (wid (Go.bits .or .i64 a b) ≤ r ↔ wid a ≤ r ∧ wid b ≤ r) := by
    intro r hr
    rw [wid_le_iff _ r hr, wid_le_iff _ r hr, wid_le_iff _ r hr]
    constructor
    · intro h
      constructor
      · intro i hi
        have := h i hi
        rw [bit_or] at this
        simp at this
        exact this.1
      · intro i hi
        have := h i hi
        rw [bit_or] at this
        simp at this
        exact this.2
    · intro h i hi
      rw [bit_or, h.1 i hi, h.2 i hi]
      rfl
  have h1 := (key (wid (Go.bits .or .i64 a b)) ho.1).1 (Int.le_refl _)
  have h2 := (key (mx (wid a) (wid b)) (by unfold mx; split <;> omega)).2 (by unfold mx; split <;> omega)
  unfold mx at *
  split at h2 <;> omega
def orF (acc : Int) (l : List Int) : Int := l.foldl (fun x y => Go.bits .or .i64 x y) acc
theorem bit_orF (l : List Int) : ∀ (acc : Int) (i : Nat), bit (orF acc l) i = (bit acc i || l.any (fun x => bit x i)) := by
  induction l with
  | nil => intro acc i; simp [orF]
  | cons x l ih =>
    intro acc i
    have := ih (Go.bits .or .i64 acc x) i
    unfold orF at this ⊢
    rw [List.foldl_cons, this, bit_or, List.any_cons, Bool.or_assoc]
/-- how many bits each of some words needs, at least -/
def widL (l : List Int) : Int := wid (orF 0 l)
theorem widL_le (l : List Int) : 0 ≤ widL l ∧ widL l ≤ 64 := wid_le _
theorem widL_le_iff (l : List Int) (r : Int) (hr : 0 ≤ r) : widL l ≤ r ↔ ∀ x, x ∈ l → ∀ i : Nat, r ≤ (i : Int) → bit x i = false := by
  unfold widL
  rw [wid_le_iff _ r hr]
  constructor
  · intro h x hx i hi
    have := h i hi
    rw [bit_orF, bit_zero] at this
    simp at this
    exact this x hx
  · intro h i hi
    rw [bit_orF, bit_zero]
    simp
    intro x hx
    exact h x hx i hi
/-! ### bits one behind the other, as bytes -/
def byteP (st : Nat → Bool) (b : Nat) : Int := wordP (fun t => decide (t < 8) && st (8 * b + t))
def keptP (st : Nat → Bool) (pos : Nat) : Int := wordP (fun t => decide (t < pos % 8) && st (pos / 8 * 8 + t))
def fullB (st : Nat → Bool) (m : Nat) : List Int := (List.range m).map (byteP st)
def packB (st : Nat → Bool) (N : Nat) : List Int := fullB st (N / 8) ++ if N % 8 = 0 then [] else [keptP st N]
theorem fullB_length (st : Nat → Bool) (m : Nat) : (fullB st m).length = m := by simp [fullB]
theorem fullB_succ (st : Nat → Bool) (m : Nat) : fullB st (m + 1) = fullB st m ++ [byteP st m] := by simp [fullB, List.range_succ]
theorem byteP_small (st : Nat → Bool) (b : Nat) : 0 ≤ byteP st b ∧ byteP st b < 256 := by
  have := wordP_small (fun t => decide (t < 8) && st (8 * b + t)) 8 (by omega) (fun i hi => by
    have : ¬ i < 8 := by omega
    simp [this])
  exact this
theorem keptP_small (st : Nat → Bool) (pos : Nat) : 0 ≤ keptP st pos ∧ keptP st pos < 256 := by
  have := wordP_small (fun t => decide (t < pos % 8) && st (pos / 8 * 8 + t)) 8 (by omega) (fun i hi => by
    have : ¬ i < pos % 8 := by omega
    simp [this])
  exact this
theorem keptP_zero (st : Nat → Bool) (pos : Nat) (h : pos % 8 = 0) : keptP st pos = 0 :=
  (wordP_of (by unfold InI; decide) _ (fun i hi => by rw [bit_zero, h]; simp)).symm
theorem packB_length (st : Nat → Bool) (N : Nat) : (packB st N).length = (N + 7) / 8 := by
  unfold packB
  rw [List.length_append, fullB_length]
  split
  · simp; omega
  · simp; omega
theorem packB_small (st : Nat → Bool) (N : Nat) : ∀ x, x ∈ packB st N → 0 ≤ x ∧ x < 256 := by
  intro x hx
  unfold packB at hx
  rcases List.mem_append.1 hx with h | h
  · obtain ⟨b, _, rfl⟩ := List.mem_map.1 h
    exact byteP_small st b
  · split at h
    · simp at h
    · simp at h
      subst h
      exact keptP_small st N
/-- the bit stream of words -/
def stL (l : List Int) (w : Nat) (j : Nat) : Bool := bit (l.getD (j / w) 0) (j % w)
theorem InU_of_small {x : Int} (h : 0 ≤ x ∧ x < 256) : InU x := by unfold InU; omega
theorem InI_of_small {x : Int} (h : 0 ≤ x ∧ x < 256) : InI x := by unfold InI; omega
end Go.Proofs.Ytlhkjkldjhapeaa.Print
