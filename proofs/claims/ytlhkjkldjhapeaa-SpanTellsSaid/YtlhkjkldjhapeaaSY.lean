-- Sets as words beside sets as spans: the document's Spans, Both, Not, and the program's Not.
import Derived.Test.YtlhkjkldjhapeaaPrint0
import Derived.Test.YtlhkjkldjhapeaaSW
set_option linter.unusedVariables false
set_option linter.unusedSimpArgs false
namespace Go.Proofs.Ytlhkjkldjhapeaa.Print
open Go.RowKit Go.Proofs.YtlhkjkldjhapeaaW.PrintWords Go.Proofs.YtlhkjkldjhapeaaW.PrintMore
def spansR (l : List Int) : List S43 × Int := if mayW l = true then (runsTo (memW l) (64 * l.length), 0) else ([], 1)
theorem spans_ok (l : List Int) (h : mayW l = true) : mayB (runsTo (memW l) (64 * l.length)) (-1) = true ∧ ∀ k, memS (runsTo (memW l) (64 * l.length)) k = memW l k := by
  have hl := (mayW_norm h).1
  obtain ⟨h1, _, _, h4⟩ := runs_ok (memW l) (64 * l.length) (by omega)
  refine ⟨h1, fun k => ?_⟩
  rw [h4 k]
  by_cases hk : k < 64 * l.length
  · simp [hk]
  · rw [memW_ge l k (by omega)]; simp
def bothT (how : Int) (x y : Bool) : Bool := if how = 0 then x && y else if how = 1 then x || y else x && !y
theorem bothT_ff (how : Int) : bothT how false false = false := by unfold bothT; split <;> (try split) <;> rfl
def maxTop (a b : List S43) : Nat := (max (topS a) (topS b)).toNat
def both14R (how : Int) (a b : List S43) : List S43 × Int := if mayB a (-1) = true ∧ mayB b (-1) = true then (runsTo (fun k => bothT how (memS a k) (memS b k)) (maxTop a b), 0) else ([], 1)
theorem both14_ok (how : Int) (A B : List S43) (hA : mayB A (-1) = true) (hB : mayB B (-1) = true) : mayB (both14R how A B).1 (-1) = true ∧ (both14R how A B).2 = 0 ∧ (both14R how A B).1.length ≤ 65536 ∧ ∀ k, memS (both14R how A B).1 k = bothT how (memS A k) (memS B k) := by
  have ta := topS_le hA
  have tb := topS_le hB
  have hmt : maxTop A B ≤ 65536 := by unfold maxTop; omega
  unfold both14R
  rw [if_pos ⟨hA, hB⟩]
  obtain ⟨h1, _, _, h4⟩ := runs_ok (fun k => bothT how (memS A k) (memS B k)) (maxTop A B) hmt
  refine ⟨h1, rfl, Nat.le_trans (runs_len _ _) hmt, fun k => ?_⟩
  rw [h4 k]
  by_cases hk : k < maxTop A B
  · simp [hk]
  · have e : ∀ l : List S43, mayB l (-1) = true → topS l ≤ (maxTop A B : Int) → memS l k = false := fun l hl ht => by
      cases hc : memS l k
      · rfl
      · have := (memS_top hl k hc).1
        omega
    rw [e A hA (by unfold maxTop; omega), e B hB (by unfold maxTop; omega), bothT_ff]
    simp
/-- words put together are the words of the spans put together -/
theorem of_both (how : Int) (f : Int → Int → Int) (hf : ∀ x y i, bit (f x y) i = bothT how (bit x i) (bit y i)) (hI : ∀ x y, InI (f x y)) (A B : List S43) (hA : mayB A (-1) = true) (hB : mayB B (-1) = true) (a b : List Int) (ha : ∀ n, memW a n = memS A n) (hb : ∀ n, memW b n = memS B n) :
    ofR (both14R how A B).1 = (trimW ((List.range (max a.length b.length)).map (fun (i : Nat) => f (rd a (i : Int)) (rd b (i : Int)))), 0) := by
  obtain ⟨h1, _, _, h4⟩ := both14_ok how A B hA hB
  unfold ofR
  rw [if_pos h1]
  refine congrArg (fun z => (z, (0 : Int))) (norm_unique (wordsTo_InI _ _) (trimW_InI (fun x hx => ?_)) (of_norm h1) (trimW_norm _) (fun n => ?_))
  · obtain ⟨i, _, rfl⟩ := List.mem_map.1 hx
    exact hI _ _
  · rw [of_mem h1, h4, trimW_mem, comb_mem f (bothT how) hf (bothT_ff how), ha, hb]
theorem bothT_and (x y : Int) (i : Nat) : bit (Go.bits .and .i64 x y) i = bothT 0 (bit x i) (bit y i) := by rw [bit_and]; rfl
theorem bothT_or (x y : Int) (i : Nat) : bit (Go.bits .or .i64 x y) i = bothT 1 (bit x i) (bit y i) := by rw [bit_or]; rfl
theorem bothT_less (x y : Int) (i : Nat) : bit (Go.bits .andNot .i64 x y) i = bothT 2 (bit x i) (bit y i) := by rw [bit_andNot]; rfl
/-- the words of all places below n -/
def allW (n : Nat) : List Int := wordsTo (fun k => decide (k < n)) ((n + 63) / 64)
def allS (n : Nat) : List S43 := if 0 < n then [⟨0, (n : Int)⟩] else []
theorem allS_ok (n : Nat) (h : n ≤ 65536) : mayB (allS n) (-1) = true ∧ topS (allS n) = (n : Int) ∧ (allS n).length ≤ 1 ∧ ∀ k, memS (allS n) k = decide (k < n) := by
  unfold allS
  by_cases h0 : 0 < n
  · rw [if_pos h0]
    refine ⟨by simp only [mayB, Bool.and_true, decide_eq_true_eq]; omega, rfl, Nat.le_refl _, fun k => ?_⟩
    rw [memS_cons]
    simp only [memS, List.any_nil, Bool.or_false]
    rw [decide_eq_decide]; omega
  · rw [if_neg h0]
    refine ⟨rfl, by show (0 : Int) = _; omega, by simp, fun k => ?_⟩
    rw [decide_eq_false (by omega)]; rfl
theorem allW_ok (n : Nat) (h : n ≤ 65536) : mayW (allW n) = true ∧ ∀ k, memW (allW n) k = decide (k < n) := by
  have hl : (allW n).length = (n + 63) / 64 := wordsTo_len _ _
  have hmem : ∀ k, memW (allW n) k = decide (k < n) := fun k => by
    unfold allW
    rw [memW_wordsTo]
    by_cases hk : k < n
    · have : k < 64 * ((n + 63) / 64) := by omega
      simp [hk, this]
    · simp [hk]
  refine ⟨?_, hmem⟩
  unfold mayW
  rw [hl]
  by_cases h0 : (n + 63) / 64 = 0
  · rw [decide_eq_true ⟨by omega, .inl h0⟩]
  · refine decide_eq_true ⟨by omega, .inr (fun hz => ?_)⟩
    have h1 := hmem (n - 1)
    unfold memW at h1
    rw [show (n - 1) / 64 = (n + 63) / 64 - 1 by omega, hz, bit_zero] at h1
    have h2 : decide (n - 1 < n) = true := decide_eq_true (by omega)
    rw [h2] at h1
    exact absurd h1 (by decide)
noncomputable def notR (l : List Int) (n : Int) : List Int × Int := if n < 0 ∨ 65536 < n then ([], 1) else bothR (Go.bits .andNot .i64) (allW n.toNat) l
end Go.Proofs.Ytlhkjkldjhapeaa.Print
