-- Sets as words beside sets as spans: the document's Spans, Both, Not, and the program's Not.
import Derived.Test.YtlhkjkldjhapeaaPrint0
import Derived.Test.YtlhkjkldjhapeaaPrint9
import Derived.Test.YtlhkjkldjhapeaaSW
set_option linter.unusedVariables false
set_option linter.unusedSimpArgs false
namespace Go.Proofs.Ytlhkjkldjhapeaa.Print
open Go.RowKit Go.Proofs.YtlhkjkldjhapeaaW.PrintWords Go.Proofs.YtlhkjkldjhapeaaW.PrintMore
def spansR (l : List Int) : List S43 × Int := if mayW l = true then (runsTo (memW l) (64 * l.length), 0) else ([], 1)
def bothT (how : Int) (x y : Bool) : Bool := if how = 0 then x && y else if how = 1 then x || y else x && !y
theorem bothT_ff (how : Int) : bothT how false false = false := by unfold bothT; split <;> (try split) <;> rfl
def maxTop (a b : List S43) : Nat := (max (topS a) (topS b)).toNat
def both14R (how : Int) (a b : List S43) : List S43 × Int := if mayB a (-1) = true ∧ mayB b (-1) = true then (runsTo (fun k => bothT how (memS a k) (memS b k)) (maxTop a b), 0) else ([], 1)
theorem ref14_both_loop (how : Int) (a b : List S43) (n : Nat) (hn : n ≤ 65536) : ∀ (d i : Nat) (s : List Bool), i + d = n → s.length = n → (∀ k, k < i → tAt s k = bothT how (memS a k) (memS b k)) →
    Ev (fun m => peristyleref14_Both.l0 m how (n : Int) (setL a n) (setL b n) s (i : Int)) (runsTo (fun k => bothT how (memS a k) (memS b k)) n, 0)
  | 0, i, s, h, hs, hk => by
    refine Ev.step (fun m => peristyleref14_Both.l0_succ m _ _ _ _ _ _) (Ev.no (by omega) (Ev.bind (ref14_Spans_ev s (by omega)) (Ev.val ?_)))
    rw [hs, runs_congr (q := fun k => bothT how (memS a k) (memS b k)) _ (fun k h1 => hk k (by omega))]
  | d + 1, i, s, h, hs, hk => by
    have hw : wrap64 ((i : Int) + 1) = ((i + 1 : Nat) : Int) := by unfold wrap64; omega
    have ha : rdOf false (setL a n) (i : Int) = memS a i := setL_at a n i (by omega)
    have hb : rdOf false (setL b n) (i : Int) = memS b i := setL_at b n i (by omega)
    have hla := setL_len a n
    have hlb := setL_len b n
    have hnext : ∀ v, v = bothT how (memS a i) (memS b i) → Ev (fun m => peristyleref14_Both.l0 m how (n : Int) (setL a n) (setL b n) (s.set (i : Int).toNat v) (wrap64 ((i : Int) + 1))) (runsTo (fun k => bothT how (memS a k) (memS b k)) n, 0) := by
      intro v hv
      rw [hw, Int.toNat_natCast]
      refine ref14_both_loop how a b n hn d (i + 1) _ (by omega) (by rw [List.length_set]; exact hs) (fun k h1 => ?_)
      rw [tAt_set _ _ _ _ (by omega)]
      by_cases e : k = i
      · rw [if_pos e, e, hv]
      · rw [if_neg e]; exact hk k (by omega)
    refine Ev.step (fun m => peristyleref14_Both.l0_succ m _ _ _ _ _ _) (Ev.yes (by omega) ?_)
    rw [ha, hb]
    by_cases h0 : how = 0
    · have hv : bothT how (memS a i) (memS b i) = (memS a i && memS b i) := by unfold bothT; rw [if_pos h0]
      refine Ev.yes h0 (Ev.yes (by omega) (Ev.yes (by omega) ?_))
      cases hc : memS a i
      · rw [hc] at hv
        exact Ev.no (by decide) (Ev.yes (by omega) (hnext false (by rw [hc, hv]; rfl)))
      · rw [hc] at hv
        exact Ev.yes rfl (Ev.yes (by omega) (Ev.yes (by omega) (hnext _ (by rw [hc, hv]; rfl))))
    · refine Ev.no h0 ?_
      by_cases h1 : how = 1
      · have hv : bothT how (memS a i) (memS b i) = (memS a i || memS b i) := by unfold bothT; rw [if_neg h0, if_pos h1]
        refine Ev.yes h1 (Ev.yes (by omega) (Ev.yes (by omega) ?_))
        cases hc : memS a i
        · rw [hc] at hv
          exact Ev.no (by decide) (Ev.yes (by omega) (Ev.yes (by omega) (hnext _ (by rw [hc, hv]; rfl))))
        · rw [hc] at hv
          exact Ev.yes rfl (Ev.yes (by omega) (hnext true (by rw [hc, hv]; rfl)))
      · have hv : bothT how (memS a i) (memS b i) = (memS a i && !memS b i) := by unfold bothT; rw [if_neg h0, if_neg h1]
        refine Ev.no h1 (Ev.yes (by omega) (Ev.yes (by omega) ?_))
        cases hc : memS a i
        · rw [hc] at hv
          exact Ev.no (by decide) (Ev.yes (by omega) (hnext false (by rw [hc, hv]; rfl)))
        · rw [hc] at hv
          exact Ev.yes rfl (Ev.yes (by omega) (Ev.yes (by omega) (hnext _ (by rw [hc, hv]; rfl))))
theorem ref14_Both_ev (how : Int) (a b : List S43) (hla : a.length ≤ 4398046511104) (hlb : b.length ≤ 4398046511104) : Ev (fun m => peristyleref14_Both.f m how a b) (both14R how a b) := by
  unfold peristyleref14_Both.f
  have hno : ¬ (mayB a (-1) = true ∧ mayB b (-1) = true) → Ev (fun m => peristyleref14_Both.j0 m how a b true) (both14R how a b) := fun h => by
    have : both14R how a b = ([], 1) := by unfold both14R; rw [if_neg h]
    rw [this]
    exact Ev.step (fun m => peristyleref14_Both.j0_succ m _ _ _ _) (Ev.yes rfl (Ev.now _))
  refine Ev.bind (ref14_May_ev a hla) ?_
  by_cases h1 : mayB a (-1) = true
  · refine Ev.yes h1 (Ev.bind (ref14_May_ev b hlb) ?_)
    by_cases h2 : mayB b (-1) = true
    · have hr : both14R how a b = (runsTo (fun k => bothT how (memS a k) (memS b k)) (maxTop a b), 0) := by unfold both14R; rw [if_pos ⟨h1, h2⟩]
      have ta := topS_le h1
      have tb := topS_le h2
      have hm : mx (topS a) (topS b) = (maxTop a b : Int) := by unfold mx maxTop; split <;> omega
      have hmt : maxTop a b ≤ 65536 := by unfold maxTop; omega
      rw [hr, h2]
      refine Ev.step (fun m => peristyleref14_Both.j0_succ m _ _ _ _) (Ev.no (by decide) (Ev.call (ref14_Top_eq a hla) (Ev.call (ref14_Top_eq b hlb) ?_)))
      rw [hm]
      refine Ev.bind (ref14_Set_ev a (maxTop a b) (by omega) hla h1) (Ev.bind (ref14_Set_ev b (maxTop a b) (by omega) hlb h2) (Ev.yes (by omega) (Ev.yes (by omega) ?_)))
      rw [Int.toNat_natCast]
      exact ref14_both_loop how a b (maxTop a b) hmt (maxTop a b) 0 _ (by omega) (by rw [List.length_replicate]) (fun k h => by omega)
    · have := hno (fun h => h2 h.2)
      rw [Bool.eq_false_iff.2 h2]
      exact this
  · exact Ev.no h1 (hno (fun h => h1 h.1))
theorem both14_ok (how : Int) (A B : List S43) (hA : mayB A (-1) = true) (hB : mayB B (-1) = true) : mayB (both14R how A B).1 (-1) = true ∧ (both14R how A B).2 = 0 ∧ (both14R how A B).1.length ≤ 65536 ∧ ∀ k, memS (both14R how A B).1 k = bothT how (memS A k) (memS B k) := by
  have ta := topS_le hA
  have tb := topS_le hB
  have hmt : maxTop A B ≤ 65536 := by unfold maxTop; omega
  unfold both14R
  rw [if_pos ⟨hA, hB⟩]
  obtain ⟨h1, _, _, h4⟩ := runs_ok (fun k => bothT how (memS A k) (memS B k)) (maxTop A B) hmt
  refine ⟨h1, rfl, Nat.le_trans (runs_len _ _) hmt, fun k => ?_⟩
  rw [h4 k]
  by_cases hk : k < maxTop A B
  · simp [hk]
  · have e : ∀ l : List S43, mayB l (-1) = true → topS l ≤ (maxTop A B : Int) → memS l k = false := fun l hl ht => by
      cases hc : memS l k
      · rfl
      · have := (memS_top hl k hc).1
        omega
    rw [e A hA (by unfold maxTop; omega), e B hB (by unfold maxTop; omega), bothT_ff]
    simp
/-- the words of all places below n -/
def allW (n : Nat) : List Int := wordsTo (fun k => decide (k < n)) ((n + 63) / 64)
noncomputable def notR (l : List Int) (n : Int) : List Int × Int := if n < 0 ∨ 65536 < n then ([], 1) else bothR (Go.bits .andNot .i64) (allW n.toNat) l
end Go.Proofs.Ytlhkjkldjhapeaa.Print
