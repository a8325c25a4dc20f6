-- Sets as words beside sets as spans: the document's Spans, Both, Not, and the program's Not.
import Derived.Test.YtgielanobeclnaaPrint0
import Derived.Test.YtgielanobeclnaaPrint2
import Derived.Test.YtgielanobeclnaaPrint3
import Derived.Test.YtgielanobeclnaaPrint4
import Derived.Test.YtgielanobeclnaaPrint5
import Derived.Test.YtgielanobeclnaaPrint6
import Derived.Test.YtgielanobeclnaaPrint7
import Derived.Test.YtgielanobeclnaaSW
set_option linter.unusedVariables false
set_option linter.unusedSimpArgs false
namespace Go.Proofs.Ytgielanobeclnaa.Print
open Go.RowKit Go.Proofs.YtgielanobeclnaaW.PrintWords Go.Proofs.YtgielanobeclnaaW.PrintMore
def spansR (l : List Int) : List S48 × Int := if mayW l = true then (runsTo (memW l) (64 * l.length), 0) else ([], 1)
theorem spans_ok (l : List Int) (h : mayW l = true) : mayB (runsTo (memW l) (64 * l.length)) (-1) = true ∧ ∀ k, memS (runsTo (memW l) (64 * l.length)) k = memW l k := by
  have hl := (mayW_norm h).1
  obtain ⟨h1, _, _, h4⟩ := runs_ok (memW l) (64 * l.length) (by omega)
  refine ⟨h1, fun k => ?_⟩
  rw [h4 k]
  by_cases hk : k < 64 * l.length
  · simp [hk]
  · rw [memW_ge l k (by omega)]; simp
theorem ref15_spans_in (l : List Int) (hl : l.length ≤ 1024) (i : Nat) (hi : i < l.length) (r : List S48 × Int) (hr : ∀ s : List Bool, s.length = 64 * l.length → (∀ k, k < 64 * (i + 1) → tAt s k = memW l k) → Ev (fun m => peristyleref15_Spans.l0 m l s ((i + 1 : Nat) : Int)) r) : ∀ (d b : Nat) (s : List Bool), b + d = 64 → s.length = 64 * l.length → (∀ k, k < 64 * i + b → tAt s k = memW l k) →
    Ev (fun m => peristyleref15_Spans.l1 m l s (i : Int) (b : Int)) r
  | 0, b, s, h, hs, hk => by
    refine Ev.step (fun m => peristyleref15_Spans.l1_succ m _ _ _ _) (Ev.no (by omega) ?_)
    rw [show wrap64 ((i : Int) + 1) = ((i + 1 : Nat) : Int) by unfold wrap64; omega]
    exact hr s hs (fun k h1 => hk k (by omega))
  | d + 1, b, s, h, hs, hk => by
    have hw : wrap64 (wrap64 (64 * (i : Int)) + (b : Int)) = ((64 * i + b : Nat) : Int) := by unfold wrap64; omega
    refine Ev.step (fun m => peristyleref15_Spans.l1_succ m _ _ _ _) (Ev.yes (by omega) (Ev.yes (by omega) (Ev.yes (by omega) (Ev.yes (by omega) ?_))))
    rw [hw, show wrap64 ((b : Int) + 1) = ((b + 1 : Nat) : Int) by unfold wrap64; omega]
    refine Ev.yes (by omega) (Ev.yes (by omega) ?_)
    have hbit : (Go.bits .and .i64 (shr .i64 (rd l (i : Int)) (b : Int)) 1 == 1) = memW l (64 * i + b) := by
      rw [memW_at _ _ _ (by omega)]
      have := test_bit (rd l (i : Int)) b (by omega)
      cases hc : bit (rd l (i : Int)) b
      · rw [hc] at this
        rw [beq_eq_false_iff_ne]
        exact fun h => by have := this.1 h; cases this
      · rw [hc] at this
        rw [beq_iff_eq]
        exact this.2 rfl
    rw [hbit, Int.toNat_natCast]
    refine ref15_spans_in l hl i hi r hr d (b + 1) _ (by omega) (by rw [List.length_set]; exact hs) (fun k h1 => ?_)
    rw [tAt_set _ _ _ _ (by omega)]
    by_cases e : k = 64 * i + b
    · rw [if_pos e, e]
    · rw [if_neg e]; exact hk k (by omega)
theorem ref15_spans_out (l : List Int) (hl : l.length ≤ 1024) : ∀ (d i : Nat) (s : List Bool), i + d = l.length → s.length = 64 * l.length → (∀ k, k < 64 * i → tAt s k = memW l k) →
    Ev (fun m => peristyleref15_Spans.l0 m l s (i : Int)) (runsTo (memW l) (64 * l.length), 0)
  | 0, i, s, h, hs, hk => by
    refine Ev.step (fun m => peristyleref15_Spans.l0_succ m _ _ _) (Ev.no (by omega) (Ev.bind (ref14_Spans_ev s (by omega)) (Ev.val ?_)))
    rw [hs, runs_congr (q := memW l) _ (fun k h1 => hk k (by omega))]
  | d + 1, i, s, h, hs, hk => by
    refine Ev.step (fun m => peristyleref15_Spans.l0_succ m _ _ _) (Ev.yes (by omega) ?_)
    have := ref15_spans_in l hl i (by omega) _ (fun s' hs' hk' => ref15_spans_out l hl d (i + 1) s' (by omega) hs' hk') 64 0 s (by omega) hs (fun k h1 => hk k (by omega))
    exact this
theorem ref15_Spans_ev (l : List Int) (hl : l.length ≤ 17592186044416) : Ev (fun k => peristyleref15_Spans.f k l) (spansR l) := by
  unfold peristyleref15_Spans.f
  refine Ev.call (ref15_May_eq l hl) ?_
  cases h : mayW l
  · unfold spansR
    rw [h]
    exact Ev.no (by decide) (Ev.now _)
  · have hs : spansR l = (runsTo (memW l) (64 * l.length), 0) := by unfold spansR; rw [if_pos h]
    rw [hs]
    have h1 := (mayW_norm h).1
    rw [show wrap64 (64 * (l.length : Int)) = ((64 * l.length : Nat) : Int) by unfold wrap64; omega]
    refine Ev.yes rfl (Ev.yes (by omega) (Ev.yes (by omega) ?_))
    rw [Int.toNat_natCast]
    exact ref15_spans_out l h1 l.length 0 _ (by omega) (by rw [List.length_replicate]) (fun k h2 => by omega)
def bothT (how : Int) (x y : Bool) : Bool := if how = 0 then x && y else if how = 1 then x || y else x && !y
theorem bothT_ff (how : Int) : bothT how false false = false := by unfold bothT; split <;> (try split) <;> rfl
def maxTop (a b : List S48) : Nat := (max (topS a) (topS b)).toNat
def both14R (how : Int) (a b : List S48) : List S48 × Int := if mayB a (-1) = true ∧ mayB b (-1) = true then (runsTo (fun k => bothT how (memS a k) (memS b k)) (maxTop a b), 0) else ([], 1)
theorem both14_ok (how : Int) (A B : List S48) (hA : mayB A (-1) = true) (hB : mayB B (-1) = true) : mayB (both14R how A B).1 (-1) = true ∧ (both14R how A B).2 = 0 ∧ (both14R how A B).1.length ≤ 65536 ∧ ∀ k, memS (both14R how A B).1 k = bothT how (memS A k) (memS B k) := by
  have ta := topS_le hA
  have tb := topS_le hB
  have hmt : maxTop A B ≤ 65536 := by unfold maxTop; omega
  unfold both14R
  rw [if_pos ⟨hA, hB⟩]
  obtain ⟨h1, _, _, h4⟩ := runs_ok (fun k => bothT how (memS A k) (memS B k)) (maxTop A B) hmt
  refine ⟨h1, rfl, Nat.le_trans (runs_len _ _) hmt, fun k => ?_⟩
  rw [h4 k]
  by_cases hk : k < maxTop A B
  · simp [hk]
  · have e : ∀ l : List S48, mayB l (-1) = true → topS l ≤ (maxTop A B : Int) → memS l k = false := fun l hl ht => by
      cases hc : memS l k
      · rfl
      · have := (memS_top hl k hc).1
        omega
    rw [e A hA (by unfold maxTop; omega), e B hB (by unfold maxTop; omega), bothT_ff]
    simp
/-- words put together are the words of the spans put together -/
theorem of_both (how : Int) (f : Int → Int → Int) (hf : ∀ x y i, bit (f x y) i = bothT how (bit x i) (bit y i)) (hI : ∀ x y, InI (f x y)) (A B : List S48) (hA : mayB A (-1) = true) (hB : mayB B (-1) = true) (a b : List Int) (ha : ∀ n, memW a n = memS A n) (hb : ∀ n, memW b n = memS B n) :
    ofR (both14R how A B).1 = (trimW ((List.range (max a.length b.length)).map (fun (i : Nat) => f (rd a (i : Int)) (rd b (i : Int)))), 0) := by
  obtain ⟨h1, _, _, h4⟩ := both14_ok how A B hA hB
  unfold ofR
  rw [if_pos h1]
  refine congrArg (fun z => (z, (0 : Int))) (norm_unique (wordsTo_InI _ _) (trimW_InI (fun x hx => ?_)) (of_norm h1) (trimW_norm _) (fun n => ?_))
  · obtain ⟨i, _, rfl⟩ := List.mem_map.1 hx
    exact hI _ _
  · rw [of_mem h1, h4, trimW_mem, comb_mem f (bothT how) hf (bothT_ff how), ha, hb]
theorem bothT_and (x y : Int) (i : Nat) : bit (Go.bits .and .i64 x y) i = bothT 0 (bit x i) (bit y i) := by rw [bit_and]; rfl
theorem bothT_or (x y : Int) (i : Nat) : bit (Go.bits .or .i64 x y) i = bothT 1 (bit x i) (bit y i) := by rw [bit_or]; rfl
theorem bothT_less (x y : Int) (i : Nat) : bit (Go.bits .andNot .i64 x y) i = bothT 2 (bit x i) (bit y i) := by rw [bit_andNot]; rfl
/-- the words of all places below n -/
def allW (n : Nat) : List Int := wordsTo (fun k => decide (k < n)) ((n + 63) / 64)
def allS (n : Nat) : List S48 := if 0 < n then [⟨0, (n : Int)⟩] else []
theorem allS_ok (n : Nat) (h : n ≤ 65536) : mayB (allS n) (-1) = true ∧ topS (allS n) = (n : Int) ∧ (allS n).length ≤ 1 ∧ ∀ k, memS (allS n) k = decide (k < n) := by
  unfold allS
  by_cases h0 : 0 < n
  · rw [if_pos h0]
    refine ⟨by simp only [mayB, Bool.and_true, decide_eq_true_eq]; omega, rfl, Nat.le_refl _, fun k => ?_⟩
    rw [memS_cons]
    simp only [memS, List.any_nil, Bool.or_false]
    rw [decide_eq_decide]; omega
  · rw [if_neg h0]
    refine ⟨rfl, by show (0 : Int) = _; omega, by simp, fun k => ?_⟩
    rw [decide_eq_false (by omega)]; rfl
theorem allW_ok (n : Nat) (h : n ≤ 65536) : mayW (allW n) = true ∧ ∀ k, memW (allW n) k = decide (k < n) := by
  have hl : (allW n).length = (n + 63) / 64 := wordsTo_len _ _
  have hmem : ∀ k, memW (allW n) k = decide (k < n) := fun k => by
    unfold allW
    rw [memW_wordsTo]
    by_cases hk : k < n
    · have : k < 64 * ((n + 63) / 64) := by omega
      simp [hk, this]
    · simp [hk]
  refine ⟨?_, hmem⟩
  unfold mayW
  rw [hl]
  by_cases h0 : (n + 63) / 64 = 0
  · rw [decide_eq_true ⟨by omega, .inl h0⟩]
  · refine decide_eq_true ⟨by omega, .inr (fun hz => ?_)⟩
    have h1 := hmem (n - 1)
    unfold memW at h1
    rw [show (n - 1) / 64 = (n + 63) / 64 - 1 by omega, hz, bit_zero] at h1
    have h2 : decide (n - 1 < n) = true := decide_eq_true (by omega)
    rw [h2] at h1
    exact absurd h1 (by decide)
noncomputable def notR (l : List Int) (n : Int) : List Int × Int := if n < 0 ∨ 65536 < n then ([], 1) else bothR (Go.bits .andNot .i64) (allW n.toNat) l
theorem words_Not_ev (l : List Int) (n : Int) (hl : l.length ≤ 17592186044416) : Ev (fun k => words_Not.f k l n) (notR l n) := by
  unfold words_Not.f
  by_cases h1 : n < 0
  · have : notR l n = ([], 1) := by unfold notR; rw [if_pos (.inl h1)]
    rw [this]
    exact Ev.yes h1 (Ev.step (fun k => words_Not.j0_succ k _ _ _) (Ev.yes rfl (Ev.now _)))
  refine Ev.no h1 (Ev.step (fun k => words_Not.j0_succ k _ _ _) ?_)
  by_cases h2 : n > 65536
  · have : notR l n = ([], 1) := by unfold notR; rw [if_pos (.inr h2)]
    rw [this]
    exact Ev.yes (decide_eq_true h2) (Ev.now _)
  have hr : notR l n = bothR (Go.bits .andNot .i64) (allW n.toNat) l := by unfold notR; rw [if_neg (by omega)]
  rw [hr]
  obtain ⟨m, rfl⟩ := Int.eq_ofNat_of_zero_le (show 0 ≤ n by omega)
  rw [Int.toNat_natCast]
  have hN : wrap64 (wrap64 ((m : Int) + 64) - 1) / 64 = (((m + 63) / 64 : Nat) : Int) := by
    rw [show wrap64 (wrap64 ((m : Int) + 64) - 1) = ((m + 63 : Nat) : Int) by unfold wrap64; omega]
    rfl
  rw [hN]
  refine Ev.no (by simpa using h2) (Ev.yes (by omega) (Ev.yes (by omega) ?_))
  rw [Int.toNat_natCast, wordsTo_zero]
  have hf := fills_ev (fun _ => false) ((m + 63) / 64) (by omega) 0 m (by omega)
  have e : wordsTo (fun n => false || decide (0 ≤ n ∧ n < m)) ((m + 63) / 64) = allW m := wordsTo_congr _ (fun k _ => by simp)
  rw [e] at hf
  refine Ev.bind hf (Ev.bind (words_Less_ev (allW m) l (by unfold allW; rw [wordsTo_len]; omega) hl) (Ev.now _))
theorem awake15_ev : Ev (fun k => peristylelaw15_awake.f k) true := by
  unfold peristylelaw15_awake.f
  refine Ev.bind (a := ([3, 1], 0)) (Ev.of (k := 60) (fun k => words_Of.mono _ k) (by decide +kernel)) ?_
  refine Ev.bind (a := ([12], 0)) (Ev.of (k := 60) (fun k => words_Not.mono _ _ k) (by decide +kernel)) ?_
  refine Ev.bind (a := (64, 0)) (Ev.of (k := 60) (fun k => words_Pick.mono _ _ k) (by decide +kernel)) ?_
  refine Ev.yes rfl (Ev.bind (ref01_Same_ev _ _ (by simp)) (Ev.yes rfl (Ev.yes rfl (Ev.bind (ref01_Same_ev _ _ (by simp)) (Ev.yes rfl (Ev.yes rfl (Ev.yes rfl ?_)))))))
  refine Ev.bind (a := 3) (Ev.of (k := 60) (fun k => words_Count.mono _ k) (by decide +kernel)) (Ev.yes rfl ?_)
  refine Ev.bind (a := 2) (Ev.of (k := 60) (fun k => words_Rank.mono _ _ k) (by decide +kernel)) (Ev.yes rfl ?_)
  exact Ev.call (v := true) (by decide +kernel) (Ev.now _)
end Go.Proofs.Ytgielanobeclnaa.Print
