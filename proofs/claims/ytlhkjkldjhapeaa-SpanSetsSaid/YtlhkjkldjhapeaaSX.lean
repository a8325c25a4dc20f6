-- Sets of places as spans, as truths: plain words; what the document's functions of layer 14 tell.
import Derived.Test.YtlhkjkldjhapeaaPrint0
import Derived.Test.YtlhkjkldjhapeaaPrint2
import Derived.Test.YtlhkjkldjhapeaaPrint4
import Derived.Test.YtlhkjkldjhapeaaXB
set_option linter.unusedVariables false
set_option linter.unusedSimpArgs false
namespace Go.Proofs.Ytlhkjkldjhapeaa.Print
open Go.RowKit Go.Proofs.YtlhkjkldjhapeaaW.PrintWords Go.Proofs.YtlhkjkldjhapeaaW.PrintMore
theorem rdS_get (l : List S43) (i : Nat) (h : i < l.length) : rd_T43 l (i : Int) = l[i] := by simp [rd_T43, List.getD_eq_getElem?_getD, h]
theorem S_ext {x y : S43} (h0 : x.f0 = y.f0) (h1 : x.f1 = y.f1) : x = y := by
  cases x; cases y; simp_all
/-- may spans be, behind a place -/
def mayB : List S43 → Int → Bool
  | [], _ => true
  | s :: l, last => decide (last < s.f0 ∧ s.f0 < s.f1 ∧ s.f1 ≤ 65536) && mayB l s.f1
theorem mayB_cons {s : S43} {l : List S43} {last : Int} (h : mayB (s :: l) last = true) : last < s.f0 ∧ s.f0 < s.f1 ∧ s.f1 ≤ 65536 ∧ mayB l s.f1 = true := by
  simp only [mayB, Bool.and_eq_true, decide_eq_true_eq] at h
  exact ⟨h.1.1, h.1.2.1, h.1.2.2, h.2⟩
theorem mayB_low {l : List S43} {a : Int} (h : mayB l a = true) : ∀ s, s ∈ l → a < s.f0 ∧ s.f0 < s.f1 ∧ s.f1 ≤ 65536 := by
  induction l generalizing a with
  | nil => intro s hs; simp at hs
  | cons x l ih =>
    obtain ⟨h1, h2, h3, h4⟩ := mayB_cons h
    intro s hs
    rcases List.mem_cons.1 hs with rfl | hs
    · exact ⟨h1, h2, h3⟩
    · have := ih h4 s hs
      omega
/-- is a place in spans? -/
def memS (l : List S43) (n : Nat) : Bool := l.any (fun s => decide (s.f0 ≤ (n : Int) ∧ (n : Int) < s.f1))
theorem memS_cons (s : S43) (l : List S43) (n : Nat) : memS (s :: l) n = (decide (s.f0 ≤ (n : Int) ∧ (n : Int) < s.f1) || memS l n) := by simp [memS]
theorem memS_append (l m : List S43) (n : Nat) : memS (l ++ m) n = (memS l n || memS m n) := by simp [memS]
def topS (l : List S43) : Int := match l.getLast? with | none => 0 | some s => s.f1
theorem topS_snoc (l : List S43) (s : S43) : topS (l ++ [s]) = s.f1 := by simp [topS]
theorem mayB_snoc : ∀ (l : List S43) (s : S43) (a : Int), mayB (l ++ [s]) a = true ↔ (mayB l a = true ∧ (if l = [] then a else topS l) < s.f0 ∧ s.f0 < s.f1 ∧ s.f1 ≤ 65536)
  | [], s, a => by simp [mayB]
  | x :: l, s, a => by
    have ih := mayB_snoc l s x.f1
    rw [List.cons_append]
    simp only [mayB, Bool.and_eq_true, decide_eq_true_eq]
    rw [ih, if_neg (by simp : ¬ (x :: l) = [])]
    have e : (if l = [] then x.f1 else topS l) = topS (x :: l) := by
      cases l with
      | nil => rfl
      | cons y m => simp [topS, List.getLast?_cons_cons]
    rw [e]
    constructor
    · rintro ⟨h1, h2, h3⟩; exact ⟨⟨h1, h2⟩, h3⟩
    · rintro ⟨⟨h1, h2⟩, h3⟩; exact ⟨h1, h2, h3⟩
theorem topS_le {l : List S43} (h : mayB l (-1) = true) : 0 ≤ topS l ∧ topS l ≤ 65536 := by
  unfold topS
  cases hl : l.getLast? with
  | none => simp
  | some s =>
    have := mayB_low h s (List.mem_of_getLast? hl)
    simp only
    omega
theorem memS_top : ∀ {l : List S43} {a : Int}, mayB l a = true → ∀ n, memS l n = true → (n : Int) < topS l ∧ a < (n : Int)
  | [], a, _, n, h => by simp [memS] at h
  | s :: l, a, hm, n, h => by
    obtain ⟨h1, h2, h3, h4⟩ := mayB_cons hm
    have htop : s.f1 ≤ topS (s :: l) := by
      cases l with
      | nil => simp [topS]
      | cons y m =>
        have hy : (y :: m).getLast? = some ((y :: m).getLast (by simp)) := List.getLast?_eq_some_getLast _
        have := mayB_low h4 _ (List.getLast_mem (l := y :: m) (by simp))
        simp only [topS, List.getLast?_cons_cons, hy]
        omega
    rw [memS_cons, Bool.or_eq_true, decide_eq_true_eq] at h
    rcases h with h | h
    · omega
    · have ih := memS_top h4 n h
      refine ⟨?_, by omega⟩
      cases l with
      | nil => simp [memS] at h
      | cons y m => simpa [topS, List.getLast?_cons_cons] using ih.1
/-- the spans of truths below n -/
def runsTo (p : Nat → Bool) : Nat → List S43
  | 0 => []
  | n + 1 => if p n = true then (if n ≠ 0 ∧ p (n - 1) = true then (runsTo p n).dropLast ++ [⟨(rd_T43 (runsTo p n) (((runsTo p n).length - 1 : Nat) : Int)).f0, (n : Int) + 1⟩] else runsTo p n ++ [⟨(n : Int), (n : Int) + 1⟩]) else runsTo p n
theorem runs_at (p : Nat → Bool) : ∀ n, n ≠ 0 → p (n - 1) = true → ∃ A a, runsTo p n = A ++ [⟨a, (n : Int)⟩]
  | 0, h, _ => absurd rfl h
  | n + 1, _, h => by
    rw [Nat.add_sub_cancel] at h
    simp only [runsTo, if_pos h]
    split
    · exact ⟨_, _, rfl⟩
    · exact ⟨_, _, rfl⟩
theorem runs_step_in (p : Nat → Bool) (n : Nat) (A : List S43) (a : Int) (h : p n = true) (h0 : n ≠ 0) (h1 : p (n - 1) = true) (hA : runsTo p n = A ++ [⟨a, (n : Int)⟩]) : runsTo p (n + 1) = A ++ [⟨a, (n : Int) + 1⟩] := by
  simp only [runsTo, if_pos h, if_pos (And.intro h0 h1)]
  rw [hA, List.dropLast_concat]
  have hl : (A ++ [(⟨a, (n : Int)⟩ : S43)]).length - 1 = A.length := by simp
  rw [hl, rdS_get _ _ (by simp)]
  simp
theorem runs_ok (p : Nat → Bool) : ∀ n, n ≤ 65536 → mayB (runsTo p n) (-1) = true ∧ (runsTo p n = [] ∨ topS (runsTo p n) ≤ n) ∧ (n ≠ 0 → p (n - 1) = false → runsTo p n = [] ∨ topS (runsTo p n) < n) ∧ ∀ k, memS (runsTo p n) k = (decide (k < n) && p k)
  | 0, _ => ⟨rfl, .inl rfl, fun h => absurd rfl h, fun k => by simp [runsTo, memS]⟩
  | n + 1, hn => by
    obtain ⟨h1, h2, h3, h4⟩ := runs_ok p n (by omega)
    rw [Nat.add_sub_cancel]
    by_cases hp : p n = true
    · by_cases hq : n ≠ 0 ∧ p (n - 1) = true
      · obtain ⟨A, a, hA⟩ := runs_at p n hq.1 hq.2
        rw [runs_step_in p n A a hp hq.1 hq.2 hA]
        rw [hA] at h1 h4
        have hs := (mayB_snoc A ⟨a, (n : Int)⟩ (-1)).1 h1
        simp only at hs
        refine ⟨(mayB_snoc A _ (-1)).2 ⟨hs.1, hs.2.1, by simp only; omega, by simp only; omega⟩, .inr (by rw [topS_snoc]; simp only; omega), fun _ h => (by rw [hp] at h; cases h), fun k => ?_⟩
        have hk := h4 k
        rw [memS_append, memS_cons] at hk ⊢
        simp only [memS, List.any_nil, Bool.or_false] at hk ⊢
        by_cases hkn : k = n
        · subst hkn
          have h5 : a ≤ (k : Int) ∧ (k : Int) < (k : Int) + 1 := by omega
          simp [hp, h5]
        · have e1 : (decide (a ≤ (k : Int) ∧ (k : Int) < (n : Int) + 1)) = decide (a ≤ (k : Int) ∧ (k : Int) < (n : Int)) := by rw [decide_eq_decide]; omega
          have e2 : decide (k < n + 1) = decide (k < n) := by rw [decide_eq_decide]; omega
          rw [e1, e2]
          exact hk
      · have e : runsTo p (n + 1) = runsTo p n ++ [⟨(n : Int), (n : Int) + 1⟩] := by simp only [runsTo, if_pos hp, if_neg hq]
        rw [e]
        have hlow : (if runsTo p n = [] then -1 else topS (runsTo p n)) < (n : Int) := by
          by_cases hn0 : n = 0
          · subst hn0; simp [runsTo]
          · have hpn : p (n - 1) = false := by
              cases hc : p (n - 1)
              · rfl
              · exact absurd ⟨hn0, hc⟩ hq
            rcases h3 hn0 hpn with h | h
            · rw [if_pos h]; omega
            · split <;> omega
        refine ⟨(mayB_snoc _ _ (-1)).2 ⟨h1, hlow, by simp only; omega, by simp only; omega⟩, .inr (by rw [topS_snoc]; simp only; omega), fun _ h => (by rw [hp] at h; cases h), fun k => ?_⟩
        rw [memS_append, h4 k, memS_cons]
        simp only [memS, List.any_nil, Bool.or_false]
        by_cases hkn : k = n
        · subst hkn
          have h5 : (k : Int) ≤ (k : Int) ∧ (k : Int) < (k : Int) + 1 := by omega
          simp only [hp, decide_eq_true h5, Bool.or_true, Bool.and_true, Nat.lt_succ_self, decide_true]
        · have e1 : (decide ((n : Int) ≤ (k : Int) ∧ (k : Int) < (n : Int) + 1)) = false := by rw [decide_eq_false_iff_not]; omega
          have e2 : decide (k < n + 1) = decide (k < n) := by rw [decide_eq_decide]; omega
          rw [e1, e2, Bool.or_false]
    · have e : runsTo p (n + 1) = runsTo p n := by simp only [runsTo, if_neg hp]
      rw [e]
      refine ⟨h1, ?_, fun _ _ => ?_, fun k => ?_⟩
      · rcases h2 with h | h
        · exact .inl h
        · exact .inr (by omega)
      · rcases h2 with h | h
        · exact .inl h
        · exact .inr (by omega)
      · rw [h4 k]
        by_cases hkn : k = n
        · subst hkn
          have : p k = false := by simpa using hp
          simp [this]
        · have e2 : decide (k < n + 1) = decide (k < n) := by rw [decide_eq_decide]; omega
          rw [e2]
theorem runs_len (p : Nat → Bool) : ∀ n, (runsTo p n).length ≤ n
  | 0 => Nat.le_refl _
  | n + 1 => by
    have := runs_len p n
    simp only [runsTo]
    split
    · split
      · simp only [List.length_append, List.length_dropLast, List.length_singleton]; omega
      · simp only [List.length_append, List.length_singleton]; omega
    · omega
theorem ref14_may_loop (l : List S43) (hl : l.length ≤ 4398046511104) : ∀ (d i : Nat), i + d = l.length → (i = 0 ∨ 0 ≤ (rd_T43 l ((i - 1 : Nat) : Int)).f1) → Ev (fun k => peristyleref14_May.l0 k l (i : Int)) (mayB (l.drop i) (if i = 0 then -1 else (rd_T43 l ((i - 1 : Nat) : Int)).f1))
  | 0, i, h, _ => by
    refine Ev.step (fun k => peristyleref14_May.l0_succ k _ _) (Ev.no (by omega) (Ev.val ?_))
    rw [List.drop_of_length_le (by omega)]
    rfl
  | d + 1, i, h, hpos => by
    have hi : i < l.length := by omega
    refine Ev.step (fun k => peristyleref14_May.l0_succ k _ _) (Ev.yes (by omega) (Ev.yes (by omega) ?_))
    rw [List.drop_eq_getElem_cons hi]
    have hrd := rdS_get l i hi
    rw [hrd]
    simp only [mayB]
    by_cases h1 : l[i].f0 < 0
    · refine Ev.yes h1 (Ev.val ?_)
      rw [decide_eq_false (by split <;> omega)]; rfl
    refine Ev.no h1 ?_
    by_cases h2 : l[i].f0 ≥ l[i].f1
    · refine Ev.yes h2 (Ev.val ?_)
      rw [decide_eq_false (by omega)]; rfl
    refine Ev.no h2 ?_
    by_cases h3 : l[i].f1 > 65536
    · refine Ev.yes h3 (Ev.val ?_)
      rw [decide_eq_false (by omega)]; rfl
    refine Ev.no h3 ?_
    have hih := ref14_may_loop l hl d (i + 1) (by omega) (.inr (by rw [Nat.add_sub_cancel, hrd]; omega))
    rw [if_neg (by omega : ¬ i + 1 = 0), Nat.add_sub_cancel, hrd] at hih
    have hw : wrap64 ((i : Int) + 1) = ((i + 1 : Nat) : Int) := by unfold wrap64; omega
    rw [hw]
    by_cases h0 : i = 0
    · refine Ev.no (by omega) ?_
      rw [if_pos h0, decide_eq_true (by omega), Bool.true_and]
      exact hih
    · have hw2 : wrap64 ((i : Int) - 1) = ((i - 1 : Nat) : Int) := by unfold wrap64; omega
      rw [hw2, if_neg h0]
      refine Ev.yes (by omega) (Ev.yes (by omega) (Ev.yes (by omega) ?_))
      by_cases h4 : l[i].f0 ≤ (rd_T43 l ((i - 1 : Nat) : Int)).f1
      · refine Ev.yes h4 (Ev.val ?_)
        rw [decide_eq_false (by omega)]; rfl
      · refine Ev.no h4 ?_
        rw [decide_eq_true (by omega), Bool.true_and]
        exact hih
theorem ref14_May_ev (l : List S43) (hl : l.length ≤ 4398046511104) : Ev (fun k => peristyleref14_May.f k l) (mayB l (-1)) := by
  have := ref14_may_loop l hl l.length 0 (by omega) (.inl rfl)
  exact this
theorem span_may_loop (l : List S43) (hl : l.length ≤ 4398046511104) : ∀ (d i : Nat) (last : Int), i + d = l.length → Ev (fun k => span_May.l0 k last l (l.length : Int) (i : Int)) (mayB (l.drop i) last)
  | 0, i, last, h => by
    refine Ev.step (fun k => span_May.l0_succ k _ _ _ _) (Ev.no (by omega) (Ev.val ?_))
    rw [List.drop_of_length_le (by omega)]
    rfl
  | d + 1, i, last, h => by
    have hi : i < l.length := by omega
    refine Ev.step (fun k => span_May.l0_succ k _ _ _ _) (Ev.yes (by omega) (Ev.yes (by omega) (Ev.yes (by omega) ?_)))
    rw [List.drop_eq_getElem_cons hi, rdS_get l i hi]
    simp only [mayB]
    by_cases h1 : l[i].f0 ≤ last
    · refine Ev.yes h1 (Ev.val ?_)
      rw [decide_eq_false (by omega)]; rfl
    refine Ev.no h1 ?_
    by_cases h2 : l[i].f0 ≥ l[i].f1
    · refine Ev.yes h2 (Ev.val ?_)
      rw [decide_eq_false (by omega)]; rfl
    refine Ev.no h2 ?_
    by_cases h3 : l[i].f1 > 65536
    · refine Ev.yes h3 (Ev.val ?_)
      rw [decide_eq_false (by omega)]; rfl
    refine Ev.no h3 ?_
    rw [show wrap64 ((i : Int) + 1) = ((i + 1 : Nat) : Int) by unfold wrap64; omega, decide_eq_true (by omega), Bool.true_and]
    exact span_may_loop l hl d (i + 1) _ (by omega)
theorem span_May_ev (l : List S43) (hl : l.length ≤ 4398046511104) : Ev (fun k => span_May.f k l) (mayB l (-1)) := by
  have := span_may_loop l hl l.length 0 (-1) (by omega)
  exact this
theorem ref14_Top_eq (l : List S43) (hl : l.length ≤ 4398046511104) : peristyleref14_Top.f l = some (topS l) := by
  unfold peristyleref14_Top.f
  rcases List.eq_nil_or_concat l with rfl | ⟨m, s, rfl⟩
  · rw [if_pos (by simp)]; rfl
  · rw [List.concat_eq_append] at hl ⊢
    have hle : (m ++ [s]).length = m.length + 1 := by simp
    have hw : wrap64 (((m ++ [s]).length : Int) - 1) = (m.length : Int) := by rw [hle]; unfold wrap64; omega
    rw [hw, if_neg (by omega), if_pos (by omega), if_pos (by omega), rdS_get _ _ (by omega), topS_snoc]
    simp
theorem few_ev (l : List S43) (hl : l.length ≤ 4398046511104) : ∃ b, Ev (fun k => peristyleref14_Few.f k l) b ∧ (b = true → l.length ≤ 60 ∧ (mayB l (-1) = true → topS l ≤ 2048)) := by
  unfold peristyleref14_Few.f
  by_cases h1 : (l.length : Int) ≤ 60
  · cases hm : mayB l (-1)
    · refine ⟨true, Ev.yes h1 (Ev.bind (ref14_May_ev l hl) ?_), fun _ => ⟨by omega, fun h => by cases h⟩⟩
      rw [hm]
      exact Ev.no (by decide) (Ev.now _)
    · refine ⟨decide (topS l ≤ 2048), Ev.yes h1 (Ev.bind (ref14_May_ev l hl) ?_), fun h => ⟨by omega, fun _ => of_decide_eq_true h⟩⟩
      rw [hm]
      exact Ev.yes rfl (Ev.call (ref14_Top_eq l hl) (Ev.now _))
  · exact ⟨false, Ev.no h1 (Ev.now _), fun h => by cases h⟩
/-! ### truths -/
end Go.Proofs.Ytlhkjkldjhapeaa.Print
