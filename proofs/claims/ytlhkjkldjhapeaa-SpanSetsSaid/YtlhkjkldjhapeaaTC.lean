-- Sets as spans: the spans of any places, as the program tells them, and as the document does.
import Derived.Test.YtlhkjkldjhapeaaPrint0
import Derived.Test.YtlhkjkldjhapeaaPrint2
import Derived.Test.YtlhkjkldjhapeaaPrint3
import Derived.Test.YtlhkjkldjhapeaaPrint6
import Derived.Test.YtlhkjkldjhapeaaPrint7
import Derived.Test.YtlhkjkldjhapeaaTB
set_option linter.unusedVariables false
set_option linter.unusedSimpArgs false
namespace Go.Proofs.Ytlhkjkldjhapeaa.Print
open Go.RowKit Go.Proofs.YtlhkjkldjhapeaaW.PrintWords Go.Proofs.YtlhkjkldjhapeaaW.PrintMore
def memL (l : List Int) (n : Nat) : Bool := decide ((n : Int) ∈ l)
def okL (l : List Int) : Bool := l.all (fun x => decide (0 ≤ x ∧ x < 65536))
def topL : List Int → Nat
  | [] => 0
  | x :: l => max (x + 1).toNat (topL l)
theorem topL_le : ∀ (l : List Int), okL l = true → topL l ≤ 65536
  | [], _ => by simp [topL]
  | x :: l, h => by
    simp only [okL, List.all_cons, Bool.and_eq_true, decide_eq_true_eq] at h
    have := topL_le l h.2
    simp only [topL]
    omega
theorem topL_mem : ∀ (l : List Int) (n : Nat), (n : Int) ∈ l → n < topL l
  | [], n, h => by cases h
  | x :: l, n, h => by
    simp only [topL]
    rcases List.mem_cons.mp h with h | h
    · omega
    · have := topL_mem l n h; omega
theorem okL_mem {l : List Int} (h : okL l = true) {x : Int} (hx : x ∈ l) : 0 ≤ x ∧ x < 65536 := by
  have := List.all_eq_true.mp h x hx
  simpa using this
/-- the spans of places -/
def ofS (l : List Int) : List S43 × Int := if okL l = true then (runsTo (memL l) (topL l), 0) else ([], 1)
theorem ofS_ok {l : List Int} (h : okL l = true) : mayB (runsTo (memL l) (topL l)) (-1) = true ∧ ∀ n, memS (runsTo (memL l) (topL l)) n = memL l n := by
  have ht := topL_le l h
  have hr := runs_ok (memL l) (topL l) ht
  refine ⟨hr.1, fun n => ?_⟩
  rw [hr.2.2.2 n]
  by_cases hn : memL l n = true
  · rw [hn, decide_eq_true (topL_mem l n (of_decide_eq_true hn))]; rfl
  · rw [Bool.not_eq_true] at hn
    rw [hn, Bool.and_false]
theorem of_loop (m : List Int) (hl : m.length ≤ 4398046511104) (hs : m.Pairwise (fun x y => x ≤ y)) (hok : okL m = true) : ∀ (B A : List Int) (o : List S43), m = A ++ B → mayB o (-1) = true → (∀ n, memS o n = memL A n) → (∀ A' s, o = A' ++ [s] → ∀ x, x ∈ B → s.f0 ≤ x ∧ s.f1 ≤ x + 1) →
    ∃ o2, Ev (fun k => span_Of.l0 k o m (m.length : Int) (A.length : Int)) (o2, 0) ∧ mayB o2 (-1) = true ∧ ∀ n, memS o2 n = memL m n
  | [], A, o, h, hm, hmem, hlast => by
    rw [List.append_nil] at h
    subst h
    exact ⟨o, Ev.step (fun k => span_Of.l0_succ k _ _ _ _) (Ev.no (by omega) (Ev.now _)), hm, hmem⟩
  | x :: B, A, o, h, hm, hmem, hlast => by
    have hlen : A.length < m.length := by rw [h]; simp
    have hx := okL_mem hok (x := x) (by rw [h]; simp)
    have hrd : rd m (A.length : Int) = x := by rw [rd_get _ _ hlen]; simp [h]
    have e1 : wrap64 (x + 1) = x + 1 := by unfold wrap64; omega
    obtain ⟨A', s, ha, hs0, hs1, hsm, hsn⟩ := adds_ok o x (x + 1) hm hx.1 (by omega) (by omega) (fun A' s he => hlast A' s he x (by simp))
    have hsort : ∀ y, y ∈ B → x ≤ y := by
      rw [h] at hs
      have := (List.pairwise_append.mp hs).2.1
      exact (List.pairwise_cons.mp this).1
    obtain ⟨o2, ho, h2, h3⟩ := of_loop m hl hs hok B (A ++ [x]) (A' ++ [s]) (by rw [h]; simp) hsm (fun n => by
        rw [hsn n, hmem n]
        unfold memL
        rw [← Bool.decide_or]
        exact decide_eq_decide.2 (by simp only [List.mem_append, List.mem_singleton]; constructor <;> (rintro (h | h); exact .inl h; exact .inr (by omega))))
      (fun A2 s2 he y hy => by
        have hq : s = s2 := by
          have := congrArg List.getLast? he
          simpa using this
        have := hsort y hy
        rw [← hq]
        omega)
    refine ⟨o2, Ev.step (fun k => span_Of.l0_succ k _ _ _ _) (Ev.yes (by omega) (Ev.yes (by omega) (Ev.yes (by omega) ?_))), h2, h3⟩
    rw [hrd, e1]
    refine Ev.call ha ?_
    have e2 : wrap64 ((A.length : Int) + 1) = ((A ++ [x]).length : Int) := by
      simp only [List.length_append, List.length_cons, List.length_nil]
      unfold wrap64
      omega
    rw [e2]
    exact ho
theorem bad_loop (l : List Int) (hl : l.length ≤ 4398046511104) : ∀ (d i : Nat), i + d = l.length → ∃ t, Ev (fun k => slices_IndexFunc_int_int_fn30.l0 k l (l.length : Int) (i : Int)) t ∧ (decide (t ≥ 0)) = !(okL (l.drop i))
  | 0, i, h => by
    refine ⟨-1, Ev.step (fun k => slices_IndexFunc_int_int_fn30.l0_succ k _ _ _) (Ev.no (by omega) (Ev.now _)), ?_⟩
    rw [List.drop_of_length_le (by omega)]
    rfl
  | d + 1, i, h => by
    have hi : i < l.length := by omega
    obtain ⟨t, ht, he⟩ := bad_loop l hl d (i + 1) (by omega)
    have e2 : wrap64 ((i : Int) + 1) = ((i + 1 : Nat) : Int) := by unfold wrap64; omega
    rw [List.drop_eq_getElem_cons hi]
    have hf : span_Of_1.f (rd l (i : Int)) = some (!(decide (0 ≤ l[i] ∧ l[i] < 65536))) := by
      rw [rd_get l i hi]
      unfold span_Of_1.f
      split
      · rw [decide_eq_false (by omega)]; rfl
      · by_cases h2 : l[i] ≥ 65536
        · rw [decide_eq_true h2, decide_eq_false (by omega)]; rfl
        · rw [decide_eq_false h2, decide_eq_true (by omega)]; rfl
    by_cases hc : 0 ≤ l[i] ∧ l[i] < 65536
    · refine ⟨t, Ev.step (fun k => slices_IndexFunc_int_int_fn30.l0_succ k _ _ _) (Ev.yes (by omega) (Ev.yes (by omega) (Ev.yes (by omega) (Ev.call hf (Ev.no (by rw [decide_eq_true hc]; decide) ?_))))), ?_⟩
      · rw [e2]; exact ht
      · rw [he]
        simp only [okL, List.all_cons]
        rw [decide_eq_true hc, Bool.true_and]
    · refine ⟨(i : Int), Ev.step (fun k => slices_IndexFunc_int_int_fn30.l0_succ k _ _ _) (Ev.yes (by omega) (Ev.yes (by omega) (Ev.yes (by omega) (Ev.call hf (Ev.yes (by rw [decide_eq_false hc]; rfl) (Ev.now _)))))), ?_⟩
      simp only [okL, List.all_cons]
      rw [decide_eq_false hc, Bool.false_and, decide_eq_true (by omega)]; rfl
theorem span_Of_ev (l : List Int) (hl : l.length ≤ 2000000000000) : Ev (fun k => span_Of.f k l) (ofS l) := by
  unfold span_Of.f
  obtain ⟨t, ht, he⟩ := bad_loop l (by omega) l.length 0 (by omega)
  have hC : Ev (fun k => slices_ContainsFunc_int_int_fn30.f k l) (decide (t ≥ 0)) := Ev.bind ht (Ev.now _)
  refine Ev.bind hC ?_
  rw [he, List.drop_zero]
  unfold ofS
  cases hok : okL l with
  | false => exact Ev.yes rfl (Ev.now _)
  | true =>
    refine Ev.no (by decide) ?_
    rw [if_pos rfl]
    refine Ev.call (v := l) (by unfold slices_Clone_int_int.f; rw [if_pos hl]) (Ev.call (v := l.mergeSort fun x y => decide (x ≤ y)) (by unfold slices_Sort_int_int.f; rw [if_pos hl]) ?_)
    have hperm := List.mergeSort_perm l (fun x y => decide (x ≤ y))
    have hlen : (l.mergeSort fun x y => decide (x ≤ y)).length = l.length := List.length_mergeSort l
    have hsort : (l.mergeSort fun x y => decide (x ≤ y)).Pairwise (fun x y => x ≤ y) :=
      (List.pairwise_mergeSort (le := fun (x y : Int) => decide (x ≤ y)) (fun a b c h1 h2 => by simp only [decide_eq_true_eq] at *; omega) (fun a b => by simp only [Bool.or_eq_true, decide_eq_true_eq]; omega) l).imp (fun h => of_decide_eq_true h)
    have hok2 : okL (l.mergeSort fun x y => decide (x ≤ y)) = true := by
      unfold okL
      rw [List.all_eq_true]
      intro x hx
      have := okL_mem hok (hperm.mem_iff.mp hx)
      simpa using this
    obtain ⟨o2, ho, h2, h3⟩ := of_loop _ (by omega) hsort hok2 _ [] [] rfl rfl (fun n => by simp [memS, memL]) (fun A s he => by simp at he)
    rw [hlen] at ho
    have hm := ofS_ok hok
    have e : o2 = runsTo (memL l) (topL l) := may_ext _ _ (-1) (Int.le_refl _) h2 hm.1 (fun n => by
      rw [h3 n, hm.2 n]
      exact decide_eq_decide.2 hperm.mem_iff)
    rw [e] at ho
    exact ho
theorem few_all (l : List S43) : ∃ b, Ev (fun k => peristyleref14_Few.f k l) b ∧ (b = true → l.length ≤ 60 ∧ (mayB l (-1) = true → topS l ≤ 2048)) := by
  by_cases h : (l.length : Int) ≤ 60
  · exact few_ev l (by omega)
  · refine ⟨false, ?_, fun h => by cases h⟩
    unfold peristyleref14_Few.f
    exact Ev.no h (Ev.now _)
theorem cnt_incl (p q : Nat → Bool) : ∀ n, cnt (fun k => p k || q k) n + cnt (fun k => p k && q k) n = cnt p n + cnt q n
  | 0 => rfl
  | n + 1 => by
    have ih := cnt_incl p q n
    have e : (if (p n || q n) = true then 1 else 0 : Nat) + (if (p n && q n) = true then 1 else 0) = (if p n = true then 1 else 0) + (if q n = true then 1 else 0) := by
      cases p n <;> cases q n <;> rfl
    show (cnt (fun k => p k || q k) n + (if (p n || q n) = true then 1 else 0)) + (cnt (fun k => p k && q k) n + (if (p n && q n) = true then 1 else 0)) = _
    simp only [cnt]
    omega
theorem wrap_sum {x y z w : Nat} (h : x + y = z + w) : wrap64 ((x : Int) + (y : Int)) = wrap64 ((z : Int) + (w : Int)) := by
  have : (x : Int) + (y : Int) = (z : Int) + (w : Int) := by omega
  rw [this]
theorem awake14_ev : Ev (fun k => peristylelaw14_awake.f k) true := by
  unfold peristylelaw14_awake.f
  refine Ev.bind (span_Of_ev [7, 3, 4] (by simp)) ?_
  rw [show ofS [7, 3, 4] = ([⟨3, 5⟩, ⟨7, 8⟩], 0) by kernel_rfl]
  refine Ev.bind (a := ([⟨4, 5⟩, ⟨7, 8⟩], 0)) (Ev.of (k := 80) (fun k => span_And.mono _ _ k) (by kernel_rfl)) ?_
  refine Ev.bind (a := (7, 0)) (Ev.of (k := 60) (fun k => span_Pick.mono _ _ k) (by decide +kernel)) ?_
  refine Ev.yes rfl (Ev.bind (ref14_Same_self _ (by simp)) (Ev.yes rfl (Ev.yes rfl (Ev.bind (ref14_Same_self _ (by simp)) (Ev.yes rfl (Ev.yes rfl (Ev.yes rfl ?_)))))))
  refine Ev.bind (a := 3) (Ev.of (k := 60) (fun k => span_Count.mono _ k) (by decide +kernel)) (Ev.yes rfl ?_)
  exact Ev.bind (a := 1) (Ev.of (k := 60) (fun k => span_Rank.mono _ _ k) (by decide +kernel)) (Ev.now _)
end Go.Proofs.Ytlhkjkldjhapeaa.Print
