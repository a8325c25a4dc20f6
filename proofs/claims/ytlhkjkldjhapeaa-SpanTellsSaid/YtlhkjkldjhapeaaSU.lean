-- Sets as words: the place with a number, how many are below a place, whether one is there; and the document's places.
import Derived.Test.YtlhkjkldjhapeaaPrint0
import Derived.Test.YtlhkjkldjhapeaaSZ
set_option linter.unusedVariables false
set_option linter.unusedSimpArgs false
namespace Go.Proofs.Ytlhkjkldjhapeaa.Print
open Go.RowKit Go.Proofs.YtlhkjkldjhapeaaW.PrintWords Go.Proofs.YtlhkjkldjhapeaaW.PrintMore
/-- those below n, one behind the other -/
def mems (p : Nat → Bool) : Nat → List Int
  | 0 => []
  | n + 1 => mems p n ++ if p n = true then [(n : Int)] else []
theorem mems_len (p : Nat → Bool) : ∀ n, (mems p n).length = cnt p n
  | 0 => rfl
  | n + 1 => by
    have := mems_len p n
    simp only [mems, cnt, List.length_append, this]
    split <;> simp
theorem rd_left (A B : List Int) (i : Nat) (h : i < A.length) : rd (A ++ B) (i : Int) = rd A (i : Int) := by
  rw [rd_get _ _ (by rw [List.length_append]; omega), rd_get _ _ h, List.getElem_append_left h]
theorem mems_at (p : Nat → Bool) : ∀ N n, n < N → p n = true → rd (mems p N) (cnt p n : Int) = (n : Int)
  | 0, n, h, _ => absurd h (by omega)
  | N + 1, n, h, hp => by
    simp only [mems]
    by_cases hn : n = N
    · subst hn
      rw [if_pos hp, ← mems_len]
      unfold rd
      rw [Int.toNat_natCast]
      simp
    · have h1 : cnt p n < (mems p N).length := by
        have := cnt_mono p (show n + 1 ≤ N by omega)
        simp only [cnt, if_pos hp] at this
        rw [mems_len]
        omega
      rw [rd_left _ _ _ h1]
      exact mems_at p N n (by omega) hp
theorem mems_idx (p : Nat → Bool) : ∀ N i, i < cnt p N → ∃ n, n < N ∧ p n = true ∧ cnt p n = i
  | 0, i, h => absurd h (by simp [cnt])
  | N + 1, i, h => by
    by_cases h1 : i < cnt p N
    · obtain ⟨n, h2, h3, h4⟩ := mems_idx p N i h1
      exact ⟨n, by omega, h3, h4⟩
    · simp only [cnt] at h
      split at h
      · rename_i hp
        exact ⟨N, by omega, hp, by omega⟩
      · omega
theorem mems_skip (p : Nat → Bool) (n : Nat) : ∀ d, (∀ k, n ≤ k → k < n + d → p k = false) → mems p (n + d) = mems p n
  | 0, _ => rfl
  | d + 1, h => by
    rw [← Nat.add_assoc]
    simp only [mems]
    rw [mems_skip p n d (fun k h1 h2 => h k h1 (by omega)), h (n + d) (by omega) (by omega)]
    simp
def memsW (l : List Int) : List Int := mems (memW l) (64 * l.length)
theorem memsW_len (l : List Int) : (memsW l).length = countW l := mems_len _ _
noncomputable def pickR (l : List Int) (a : Int) : Int × Int := if mayW l = true then (if a < 0 ∨ (countW l : Int) ≤ a then (0, 3) else (rd (memsW l) a, 0)) else (0, 1)
theorem cnt_one (p : Nat → Bool) (b q : Nat) (h : p (b + q) = true) : cnt p (b + (q + 1)) = cnt p (b + q) + 1 := by
  rw [← Nat.add_assoc]
  simp only [cnt]
  rw [if_pos h]
theorem at_arith (i q : Nat) (h : i < 1024) (hq : q < 64) : wrap64 (wrap64 (64 * (i : Int)) + (q : Int)) = ((64 * i + q : Nat) : Int) := by unfold wrap64; omega
theorem next_arith (q : Nat) (hq : q < 64) : wrap64 ((q : Int) + 1) = ((q + 1 : Nat) : Int) := by unfold wrap64; omega
theorem mul_arith (i q n : Nat) (hi : i < n) (hq : q < 64) : 64 * i + q < 64 * n := by omega
theorem more_arith (f q d : Nat) (h1 : f ≤ q) (h2 : q < 64) (hd : 64 ≤ f + (d + 1)) : q + 1 ≤ 64 ∧ 64 ≤ q + 1 + d := by omega
theorem low_arith (a c n : Nat) (h1 : a < c) (h2 : c ≤ 64 * n) (h3 : n ≤ 1024) : a < 70000 := by omega
theorem pick_arith (a c : Nat) (ha : a < 70000) (h : c + 1 ≤ a) : wrap64 (((a - c : Nat) : Int) - 1) = ((a - (c + 1) : Nat) : Int) ∧ (((a - (c + 1) : Nat) : Int) ≥ 0) := by unfold wrap64; omega
theorem pick_arith2 (a c : Nat) (h : c ≤ a) (h1 : ¬ c + 1 ≤ a) : ¬ wrap64 (((a - c : Nat) : Int) - 1) ≥ 0 := by unfold wrap64; omega
theorem pick_arith3 (a c : Nat) (h : c ≤ a) (h1 : ¬ c + 1 ≤ a) : a = c := by omega
def rankR (l : List Int) (at_ : Int) : Int := if mayW l = true then (cnt (memW l) (min at_.toNat (64 * l.length)) : Int) else 0
def hasR (l : List Int) (a : Int) : Bool := mayW l && (decide (0 ≤ a) && memW l a.toNat)
end Go.Proofs.Ytlhkjkldjhapeaa.Print
