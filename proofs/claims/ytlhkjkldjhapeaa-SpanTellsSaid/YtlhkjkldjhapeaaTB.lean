-- Sets as spans: how many there are, which one has a number, how many are below one, whether one is there; as the program tells it, and as the document does.
import Derived.Test.YtlhkjkldjhapeaaPrint0
import Derived.Test.YtlhkjkldjhapeaaPrint6
import Derived.Test.YtlhkjkldjhapeaaPrint7
import Derived.Test.YtlhkjkldjhapeaaPrint8
import Derived.Test.YtlhkjkldjhapeaaTA
import Derived.Test.YtlhkjkldjhapeaaSO
set_option linter.unusedVariables false
set_option linter.unusedSimpArgs false
namespace Go.Proofs.Ytlhkjkldjhapeaa.Print
open Go.RowKit Go.Proofs.YtlhkjkldjhapeaaW.PrintWords Go.Proofs.YtlhkjkldjhapeaaW.PrintMore
/-- how many places of spans lie below n -/
def rkS : List S43 → Nat → Nat
  | [], _ => 0
  | s :: l, n => (min n s.f1.toNat - min n s.f0.toNat) + rkS l n
theorem rkS_append : ∀ (A B : List S43) (n : Nat), rkS (A ++ B) n = rkS A n + rkS B n
  | [], B, n => by simp [rkS]
  | s :: A, B, n => by simp only [List.cons_append, rkS, rkS_append A B n]; omega
theorem cnt_or (p q : Nat → Bool) (h : ∀ k, p k = true → q k = false) : ∀ n, cnt (fun k => p k || q k) n = cnt p n + cnt q n
  | 0 => rfl
  | n + 1 => by
    have ih := cnt_or p q h n
    have hn := h n
    have e : (if (p n || q n) = true then 1 else 0 : Nat) = (if p n = true then 1 else 0) + (if q n = true then 1 else 0) := by
      cases hp : p n with
      | true => rw [hn hp]; rfl
      | false => simp
    show cnt (fun k => p k || q k) n + (if (p n || q n) = true then 1 else 0) = _
    rw [ih, e]
    simp only [cnt]
    omega
theorem cnt_iv (a b : Nat) (h : a ≤ b) : ∀ n, cnt (fun k => decide (a ≤ k ∧ k < b)) n = min n b - min n a
  | 0 => by simp [cnt]
  | n + 1 => by
    have ih := cnt_iv a b h n
    simp only [cnt, ih, decide_eq_true_eq]
    split <;> omega
theorem rkS_cnt : ∀ (l : List S43) (x : Int), -1 ≤ x → mayB l x = true → ∀ n, cnt (memS l) n = rkS l n
  | [], x, _, _, n => by
    rw [cnt_congr n (q := fun k => decide (0 ≤ k ∧ k < 0)) (fun k _ => by simp [memS]), cnt_iv 0 0 (Nat.le_refl _)]
    simp [rkS]
  | s :: l, x, hx, hm, n => by
    obtain ⟨h1, h2, h3, h4⟩ := mayB_cons hm
    rw [cnt_congr n (q := fun k => (fun k => decide (s.f0.toNat ≤ k ∧ k < s.f1.toNat)) k || memS l k) (fun k _ => by rw [memS_cons]; congr 1; exact decide_eq_decide.2 (by omega))]
    rw [cnt_or (fun k => decide (s.f0.toNat ≤ k ∧ k < s.f1.toNat)) (memS l) (fun k hk => memS_none h4 (by simp only [decide_eq_true_eq] at hk; omega)) n]
    rw [cnt_iv _ _ (by omega), rkS_cnt l s.f1 (by omega) h4 n]
    rfl
theorem memS_high {l : List S43} (hm : mayB l (-1) = true) {n : Nat} (hn : 65536 ≤ n) : memS l n = false := by
  cases hc : memS l n with
  | false => rfl
  | true => have := (memS_top hm n hc).1; have := topS_le hm; omega
theorem cntS_le {l : List S43} (hm : mayB l (-1) = true) (n : Nat) : cnt (memS l) n ≤ cnt (memS l) 65536 := by
  by_cases h : n ≤ 65536
  · exact cnt_mono _ h
  · obtain ⟨d, hd⟩ := Nat.exists_eq_add_of_le (show 65536 ≤ n by omega)
    rw [hd, cnt_skip _ _ _ (fun k h1 _ => memS_high hm h1)]
    exact Nat.le_refl _
theorem cntS_top {l : List S43} (hm : mayB l (-1) = true) : cnt (memS l) (topS l).toNat = cnt (memS l) 65536 := by
  have ht := topS_le hm
  obtain ⟨d, hd⟩ := Nat.exists_eq_add_of_le (show (topS l).toNat ≤ 65536 by omega)
  rw [hd, cnt_skip _ _ _ (fun k h1 _ => ?_)]
  cases hc : memS l k with
  | false => rfl
  | true => have := (memS_top hm k hc).1; omega
theorem may_mid : ∀ (A : List S43) (s : S43) (B : List S43) (x : Int), mayB (A ++ s :: B) x = true → (∀ s', s' ∈ A → x < s'.f0 ∧ s'.f0 < s'.f1 ∧ s'.f1 < s.f0) ∧ x < s.f0 ∧ s.f0 < s.f1 ∧ s.f1 ≤ 65536 ∧ mayB B s.f1 = true
  | [], s, B, x, h => by
    obtain ⟨h1, h2, h3, h4⟩ := mayB_cons h
    exact ⟨fun s' hs => by (cases hs), h1, h2, h3, h4⟩
  | a :: A, s, B, x, h => by
    obtain ⟨h1, h2, h3, h4⟩ := mayB_cons h
    obtain ⟨i1, i2, i3, i4, i5⟩ := may_mid A s B a.f1 h4
    refine ⟨fun s' hs => ?_, by omega, i3, i4, i5⟩
    rcases List.mem_cons.mp hs with rfl | hs
    · exact ⟨h1, h2, i2⟩
    · have := i1 s' hs; omega
theorem rkS_part {A B : List S43} {s : S43} (hm : mayB (A ++ s :: B) (-1) = true) (n : Nat) : rkS (A ++ [s]) n ≤ 65536 := by
  have h1 := rkS_cnt _ (-1) (Int.le_refl _) hm n
  have h2 := cntS_le hm n
  have h3 := cnt_le (memS (A ++ s :: B)) 65536
  rw [show A ++ s :: B = (A ++ [s]) ++ B by simp, rkS_append] at h1
  rw [show A ++ s :: B = (A ++ [s]) ++ B by simp] at h2 h3
  omega
theorem span_count_loop {l : List S43} (hl : l.length ≤ 4398046511104) (hm : mayB l (-1) = true) : ∀ (B A : List S43), l = A ++ B → Ev (fun k => span_Count.l0 k (rkS A 65536 : Int) l (l.length : Int) (A.length : Int)) (cnt (memS l) 65536 : Int)
  | [], A, h => by
    rw [List.append_nil] at h
    subst h
    exact Ev.step (fun k => span_Count.l0_succ k _ _ _ _) (Ev.no (by omega) (Ev.val (by rw [rkS_cnt l (-1) (Int.le_refl _) hm])))
  | s :: B, A, h => by
    have hlen : A.length < l.length := by rw [h]; simp
    have hrd : rd_T43 l (A.length : Int) = s := by rw [h]; exact rdS_mid A B s
    rw [h] at hm
    obtain ⟨h1, h2, h3, h4, h5⟩ := may_mid A s B (-1) hm
    have hp := rkS_part hm 65536
    rw [rkS_append] at hp
    simp only [rkS] at hp
    refine Ev.step (fun k => span_Count.l0_succ k _ _ _ _) (Ev.yes (by omega) (Ev.yes (by omega) (Ev.yes (by omega) ?_)))
    rw [hrd]
    have e1 : wrap64 ((rkS A 65536 : Int) + wrap64 (s.f1 - s.f0)) = (rkS (A ++ [s]) 65536 : Int) := by
      rw [rkS_append]
      simp only [rkS]
      unfold wrap64
      omega
    have e2 : wrap64 ((A.length : Int) + 1) = ((A ++ [s]).length : Int) := by
      simp only [List.length_append, List.length_cons, List.length_nil]
      unfold wrap64
      omega
    rw [e1, e2]
    rw [← h] at hm
    exact span_count_loop hl hm B (A ++ [s]) (by rw [h]; simp)
theorem span_Count_ev (l : List S43) (hl : l.length ≤ 4398046511104) : Ev (fun k => span_Count.f k l) (if mayB l (-1) = true then (cnt (memS l) 65536 : Int) else 0) := by
  unfold span_Count.f
  refine Ev.bind (span_May_ev l hl) ?_
  cases hm : mayB l (-1) with
  | false => exact Ev.no (by decide) (Ev.now _)
  | true => exact Ev.yes rfl (span_count_loop hl hm l [] rfl)
theorem span_rank_loop {l : List S43} (hl : l.length ≤ 4398046511104) (hm : mayB l (-1) = true) (m : Nat) (hm63 : m ≤ 9223372036854775807) : ∀ (B A : List S43), l = A ++ B → Ev (fun k => span_Rank.l0 k (m : Int) (rkS A m : Int) l (l.length : Int) (A.length : Int)) (cnt (memS l) m : Int)
  | [], A, h => by
    rw [List.append_nil] at h
    subst h
    exact Ev.step (fun k => span_Rank.l0_succ k _ _ _ _ _) (Ev.no (by omega) (Ev.val (by rw [rkS_cnt l (-1) (Int.le_refl _) hm])))
  | s :: B, A, h => by
    have hlen : A.length < l.length := by rw [h]; simp
    have hrd : rd_T43 l (A.length : Int) = s := by rw [h]; exact rdS_mid A B s
    rw [h] at hm
    obtain ⟨h1, h2, h3, h4, h5⟩ := may_mid A s B (-1) hm
    have hp := rkS_part hm m
    rw [rkS_append] at hp
    simp only [rkS] at hp
    refine Ev.step (fun k => span_Rank.l0_succ k _ _ _ _ _) (Ev.yes (by omega) (Ev.yes (by omega) (Ev.yes (by omega) ?_)))
    rw [hrd]
    have e1 : wrap64 ((rkS A m : Int) + mx 0 (wrap64 (mn (m : Int) s.f1 - s.f0))) = (rkS (A ++ [s]) m : Int) := by
      rw [rkS_append]
      simp only [rkS]
      unfold wrap64 mx mn
      split <;> split <;> omega
    have e2 : wrap64 ((A.length : Int) + 1) = ((A ++ [s]).length : Int) := by
      simp only [List.length_append, List.length_cons, List.length_nil]
      unfold wrap64
      omega
    rw [e1, e2]
    rw [← h] at hm
    exact span_rank_loop hl hm m hm63 B (A ++ [s]) (by rw [h]; simp)
theorem span_Rank_ev (l : List S43) (a : Int) (ha : InI a) (hl : l.length ≤ 4398046511104) : Ev (fun k => span_Rank.f k l a) (if mayB l (-1) = true then (cnt (memS l) a.toNat : Int) else 0) := by
  unfold span_Rank.f
  refine Ev.bind (span_May_ev l hl) ?_
  cases hm : mayB l (-1) with
  | false => exact Ev.no (by decide) (Ev.now _)
  | true =>
    unfold InI at ha
    rw [show mx a 0 = (a.toNat : Int) by unfold mx; split <;> omega]
    exact Ev.yes rfl (span_rank_loop hl hm a.toNat (by omega) l [] rfl)
/-- the place with a number -/
noncomputable def pickS (l : List S43) (a : Int) : Int × Int := if mayB l (-1) = true then (if a < 0 ∨ (cnt (memS l) 65536 : Int) ≤ a then (0, 3) else (rd (placesR l) a, 0)) else (0, 1)
theorem rkS_all : ∀ (A : List S43) (n : Nat), n ≤ 65536 → (∀ s, s ∈ A → s.f0 < s.f1 ∧ s.f1 ≤ (n : Int)) → rkS A n = rkS A 65536
  | [], n, hn, h => rfl
  | s :: A, n, hn, h => by
    have := h s (by simp)
    simp only [rkS]
    rw [rkS_all A n hn (fun s' hs => h s' (by simp [hs]))]
    omega
theorem rkS_zero : ∀ (B : List S43) (y : Int) (n : Nat), mayB B y = true → (n : Int) ≤ y → rkS B n = 0
  | [], y, n, h, hn => rfl
  | s :: B, y, n, h, hn => by
    obtain ⟨h1, h2, h3, h4⟩ := mayB_cons h
    simp only [rkS]
    rw [rkS_zero B s.f1 n h4 (by omega)]
    omega
theorem placesR_at {l : List S43} (hm : mayB l (-1) = true) (n : Nat) (hn : memS l n = true) : rd (placesR l) (cnt (memS l) n : Int) = (n : Int) := by
  have := (memS_top hm n hn).1
  exact mems_at (memS l) _ n (by omega) hn
theorem placesR_len {l : List S43} (hm : mayB l (-1) = true) : (placesR l).length = cnt (memS l) 65536 := by
  unfold placesR
  rw [mems_len, cntS_top hm]
theorem span_pick_loop {l : List S43} (hl : l.length ≤ 4398046511104) (hm : mayB l (-1) = true) (a : Nat) (ha : a ≤ 9223372036854775807) : ∀ (B A : List S43), l = A ++ B → rkS A 65536 ≤ a → Ev (fun k => span_Pick.l0 k ((a - rkS A 65536 : Nat) : Int) l (l.length : Int) (A.length : Int)) (if (cnt (memS l) 65536 : Int) ≤ (a : Int) then (0, 3) else (rd (placesR l) (a : Int), 0))
  | [], A, h, hle => by
    rw [List.append_nil] at h
    subst h
    refine Ev.step (fun k => span_Pick.l0_succ k _ _ _ _) (Ev.no (by omega) (Ev.val ?_))
    rw [if_pos (by rw [rkS_cnt l (-1) (Int.le_refl _) hm]; omega)]
  | s :: B, A, h, hle => by
    have hlen : A.length < l.length := by rw [h]; simp
    have hrd : rd_T43 l (A.length : Int) = s := by rw [h]; exact rdS_mid A B s
    have hm' := hm
    rw [h] at hm
    obtain ⟨h1, h2, h3, h4, h5⟩ := may_mid A s B (-1) hm
    have hp := rkS_part hm 65536
    have hap := rkS_append A [s] 65536
    rw [hap] at hp
    simp only [rkS] at hp hap
    refine Ev.step (fun k => span_Pick.l0_succ k _ _ _ _) (Ev.yes (by omega) (Ev.yes (by omega) (Ev.yes (by omega) ?_)))
    rw [hrd]
    have e1 : wrap64 (s.f1 - s.f0) = s.f1 - s.f0 := by unfold wrap64; omega
    rw [e1]
    by_cases hc : ((a - rkS A 65536 : Nat) : Int) ≥ s.f1 - s.f0
    · refine Ev.yes hc ?_
      have e3 : wrap64 (((a - rkS A 65536 : Nat) : Int) - (s.f1 - s.f0)) = ((a - rkS (A ++ [s]) 65536 : Nat) : Int) := by
        rw [hap]
        unfold wrap64
        omega
      have e2 : wrap64 ((A.length : Int) + 1) = ((A ++ [s]).length : Int) := by
        simp only [List.length_append, List.length_cons, List.length_nil]
        unfold wrap64
        omega
      rw [e3, e2]
      exact span_pick_loop hl hm' a ha B (A ++ [s]) (by rw [h]; simp) (by rw [hap]; omega)
    · refine Ev.no hc (Ev.val ?_)
      obtain ⟨f, hf⟩ := Int.eq_ofNat_of_zero_le (show 0 ≤ s.f0 by omega)
      have hn : memS l (f + (a - rkS A 65536)) = true := by
        rw [h, memS_append, memS_cons, decide_eq_true (by omega)]
        simp
      have hcn : cnt (memS l) (f + (a - rkS A 65536)) = a := by
        rw [rkS_cnt l (-1) (Int.le_refl _) hm', h, rkS_append]
        simp only [rkS]
        rw [rkS_all A _ (by omega) (fun s' hs => by have := h1 s' hs; omega), rkS_zero B s.f1 _ h5 (by omega)]
        omega
      have hlt : cnt (memS l) (f + (a - rkS A 65536) + 1) ≤ cnt (memS l) 65536 := cntS_le hm' _
      have hlt1 : cnt (memS l) (f + (a - rkS A 65536) + 1) = a + 1 := by
        rw [show cnt (memS l) (f + (a - rkS A 65536) + 1) = cnt (memS l) (f + (a - rkS A 65536)) + (if memS l (f + (a - rkS A 65536)) = true then 1 else 0) from rfl, if_pos hn, hcn]
      rw [if_neg (by omega)]
      have := placesR_at hm' _ hn
      rw [hcn] at this
      rw [this]
      have e4 : wrap64 (s.f0 + ((a - rkS A 65536 : Nat) : Int)) = ((f + (a - rkS A 65536) : Nat) : Int) := by unfold wrap64; omega
      rw [e4]
theorem span_Pick_ev (l : List S43) (a : Int) (ha : InI a) (hl : l.length ≤ 4398046511104) : Ev (fun k => span_Pick.f k l a) (pickS l a) := by
  unfold span_Pick.f pickS
  unfold InI at ha
  refine Ev.bind (span_May_ev l hl) ?_
  cases hm : mayB l (-1) with
  | false => exact Ev.no (by decide) (Ev.now _)
  | true =>
    refine Ev.yes rfl ?_
    rw [if_pos rfl]
    by_cases h0 : a < 0
    · exact Ev.yes h0 (Ev.val (if_pos (.inl h0)).symm)
    · refine Ev.no h0 ?_
      obtain ⟨n, rfl⟩ := Int.eq_ofNat_of_zero_le (show 0 ≤ a by omega)
      have this : Ev (fun k => span_Pick.l0 k (n : Int) l (l.length : Int) 0) (if (cnt (memS l) 65536 : Int) ≤ (n : Int) then (0, 3) else (rd (placesR l) (n : Int), 0)) := span_pick_loop hl hm n (by omega) l [] rfl (Nat.zero_le _)
      by_cases h1 : (cnt (memS l) 65536 : Int) ≤ (n : Int)
      · rw [if_pos (.inr h1)]
        rw [if_pos h1] at this
        exact this
      · rw [if_neg (by omega)]
        rw [if_neg h1] at this
        exact this
theorem ref14_Pick_ev (l : List S43) (a : Int) (hl : l.length ≤ 4398046511104) : Ev (fun k => peristyleref14_Pick.f k l a) (pickS l a) := by
  unfold peristyleref14_Pick.f pickS
  cases hm : mayB l (-1) with
  | false =>
    have hP : Ev (fun k => peristyleref14_Places.f k l) ([], 1) := by
      unfold peristyleref14_Places.f
      exact Ev.bind (ref14_May_ev l hl) (Ev.no (by rw [hm]; decide) (Ev.now _))
    exact Ev.bind hP (Ev.no (by decide) (Ev.now _))
  | true =>
    have hlen := placesR_len hm
    refine Ev.bind (ref14_Places_ev l hl hm) (Ev.yes rfl ?_)
    rw [if_pos rfl]
    by_cases h0 : a < 0
    · exact Ev.yes h0 (Ev.val (if_pos (.inl h0)).symm)
    · refine Ev.no h0 ?_
      by_cases h1 : (cnt (memS l) 65536 : Int) ≤ a
      · exact Ev.yes (show a ≥ ((placesR l).length : Int) by omega) (Ev.val (if_pos (.inr h1)).symm)
      · exact Ev.no (show ¬ a ≥ ((placesR l).length : Int) by omega) (Ev.yes (by omega) (Ev.yes (by show a < ((placesR l).length : Int); omega) (Ev.val (if_neg (by omega)).symm)))
theorem placesR_take (l : List S43) (i : Nat) (hi : i < (placesR l).length) : ∃ n : Nat, memS l n = true ∧ cnt (memS l) n = i ∧ rd (placesR l) (i : Int) = (n : Int) := by
  unfold placesR at hi ⊢
  rw [mems_len] at hi
  obtain ⟨n, h1, h2, h3⟩ := mems_idx (memS l) _ i hi
  exact ⟨n, h2, h3, by rw [← h3]; exact mems_at _ _ n h1 h2⟩
theorem ref14_rank_loopS {l : List S43} (hm : mayB l (-1) = true) (a : Int) : ∀ (d i : Nat), i + d = cnt (memS l) a.toNat → Ev (fun k => peristyleref14_Rank.l0 k a (placesR l) (i : Int)) (cnt (memS l) a.toNat : Int) := by
  have hlen := placesR_len hm
  have hle := cntS_le hm a.toNat
  have h16 := cnt_le (memS l) 65536
  intro d
  induction d with
  | zero =>
    intro i hi
    refine Ev.step (fun k => peristyleref14_Rank.l0_succ k _ _ _) ?_
    by_cases hlt : (i : Int) < ((placesR l).length : Int)
    · refine Ev.yes hlt (Ev.yes (by omega) (Ev.no ?_ (Ev.val (by omega))))
      obtain ⟨n, hn, hc, hr⟩ := placesR_take l i (by omega)
      rw [hr]
      intro hh
      have := cnt_mono (memS l) (show n + 1 ≤ a.toNat by omega)
      simp only [cnt, if_pos hn] at this
      omega
    · exact Ev.no hlt (Ev.val (by omega))
  | succ d ih =>
    intro i hi
    obtain ⟨n, hn, hc, hr⟩ := placesR_take l i (by omega)
    refine Ev.step (fun k => peristyleref14_Rank.l0_succ k _ _ _) (Ev.yes (by omega) (Ev.yes (by omega) ?_))
    have hlt : (n : Int) < a := by
      have hna : n < a.toNat := by
        apply Classical.byContradiction
        intro hh
        have := cnt_mono (memS l) (show a.toNat ≤ n by omega)
        omega
      omega
    rw [hr]
    refine Ev.yes hlt ?_
    rw [show wrap64 ((i : Int) + 1) = ((i + 1 : Nat) : Int) by unfold wrap64; omega]
    exact ih (i + 1) (by omega)
theorem ref14_Rank_ev (l : List S43) (a : Int) (hl : l.length ≤ 4398046511104) : Ev (fun k => peristyleref14_Rank.f k l a) (if mayB l (-1) = true then (cnt (memS l) a.toNat : Int) else 0) := by
  unfold peristyleref14_Rank.f
  cases hm : mayB l (-1) with
  | false =>
    have hP : Ev (fun k => peristyleref14_Places.f k l) ([], 1) := by
      unfold peristyleref14_Places.f
      exact Ev.bind (ref14_May_ev l hl) (Ev.no (by rw [hm]; decide) (Ev.now _))
    refine Ev.bind hP (Ev.step (fun k => peristyleref14_Rank.l0_succ k _ _ _) (Ev.no (by simp) (Ev.now _)))
  | true =>
    exact Ev.bind (ref14_Places_ev l hl hm) (ref14_rank_loopS hm a _ 0 (Nat.zero_add _))
/-- is a place there -/
def hasS (l : List S43) (a : Int) : Bool := mayB l (-1) && l.any (fun s => decide (s.f0 ≤ a ∧ a < s.f1))
theorem any_mem {l : List S43} (hm : mayB l (-1) = true) (a : Int) : l.any (fun s => decide (s.f0 ≤ a ∧ a < s.f1)) = (decide (0 ≤ a) && memS l a.toNat) := by
  by_cases h0 : 0 ≤ a
  · rw [decide_eq_true h0, Bool.true_and]
    unfold memS
    rw [show ((a.toNat : Nat) : Int) = a by omega]
  · rw [decide_eq_false h0, Bool.false_and, List.any_eq_false]
    intro s hs
    have := mayB_low hm s hs
    simp only [decide_eq_true_eq]
    omega
theorem span_has_loop {l : List S43} (hl : l.length ≤ 4398046511104) (a : Int) : ∀ (d i : Nat), i + d = l.length → Ev (fun k => span_Has.l0 k true l (l.length : Int) (i : Int) a) ((l.drop i).any (fun s => decide (s.f0 ≤ a ∧ a < s.f1)))
  | 0, i, h => by
    refine Ev.step (fun k => span_Has.l0_succ k _ _ _ _ _) (Ev.no (by omega) (Ev.yes rfl (Ev.val ?_)))
    rw [List.drop_of_length_le (by omega)]
    rfl
  | d + 1, i, h => by
    have hi : i < l.length := by omega
    have ih := span_has_loop hl a d (i + 1) (by omega)
    have e2 : wrap64 ((i : Int) + 1) = ((i + 1 : Nat) : Int) := by unfold wrap64; omega
    refine Ev.step (fun k => span_Has.l0_succ k _ _ _ _ _) (Ev.yes (by omega) (Ev.yes (by omega) (Ev.yes (by omega) ?_)))
    rw [rdS_get l i hi, List.drop_eq_getElem_cons hi, List.any_cons, e2]
    by_cases h1 : a ≥ l[i].f0
    · refine Ev.yes h1 ?_
      by_cases h2 : a < l[i].f1
      · refine Ev.yes h2 (Ev.yes rfl (Ev.val ?_))
        rw [decide_eq_true (show (i : Int) ≥ 0 by omega), decide_eq_true (show (l[i].f0 ≤ a ∧ a < l[i].f1) by omega)]; rfl
      · rw [decide_eq_false (show ¬ (l[i].f0 ≤ a ∧ a < l[i].f1) by omega), Bool.false_or]
        exact Ev.no h2 ih
    · rw [decide_eq_false (show ¬ (l[i].f0 ≤ a ∧ a < l[i].f1) by omega), Bool.false_or]
      exact Ev.no h1 ih
theorem span_Has_ev (l : List S43) (a : Int) (hl : l.length ≤ 4398046511104) : Ev (fun k => span_Has.f k l a) (hasS l a) := by
  unfold span_Has.f hasS
  refine Ev.bind (span_May_ev l hl) ?_
  cases hm : mayB l (-1) with
  | false => exact Ev.no (by decide) (Ev.now _)
  | true =>
    rw [Bool.true_and]
    exact Ev.yes rfl (span_has_loop hl a l.length 0 (by omega))
theorem ref14_Has_evS (l : List S43) (a : Int) (hl : l.length ≤ 4398046511104) : Ev (fun k => peristyleref14_Has.f k l a) (hasS l a) := by
  unfold hasS
  cases hm : mayB l (-1) with
  | true =>
    rw [Bool.true_and]
    have := ref14_has_loop l hl hm a l.length 0 (by omega)
    exact this
  | false =>
    unfold peristyleref14_Has.f
    refine Ev.step (fun k => peristyleref14_Has.l0_succ k _ _ _) ?_
    by_cases h0 : (0 : Int) < (l.length : Int)
    · refine Ev.yes h0 (Ev.bind (ref14_May_ev l hl) (Ev.step (fun k => peristyleref14_Has.j1_succ k _ _ _ _) (Ev.no (by rw [hm]; decide) (Ev.now _))))
    · exact Ev.no h0 (Ev.step (fun k => peristyleref14_Has.j1_succ k _ _ _ _) (Ev.no (by decide) (Ev.now _)))
theorem span_places_in (q : List S43) (hl : q.length ≤ 4398046511104) (pre : List S43) (s : S43) (post : List S43) (hq : q = pre ++ s :: post) (h0 : 0 ≤ s.f0) (h01 : s.f0 < s.f1) (h16 : s.f1 ≤ 65536) (r : List Int × Int)
    (hr : Ev (fun k => span_Places.l0 k (mems (memS q) s.f1.toNat) q (q.length : Int) ((pre.length + 1 : Nat) : Int)) r) : ∀ (d c : Nat), c + d = s.f1.toNat → s.f0 ≤ (c : Int) →
    Ev (fun k => span_Places.l1 k (mems (memS q) c) (c : Int) q (q.length : Int) (pre.length : Int) s.f0 s.f1) r := by
  have hlen : pre.length < q.length := by rw [hq]; simp
  intro d
  induction d with
  | zero =>
    intro c hc h
    have e : wrap64 ((pre.length : Int) + 1) = ((pre.length + 1 : Nat) : Int) := by unfold wrap64; omega
    refine Ev.step (fun k => span_Places.l1_succ k _ _ _ _ _ _ _) (Ev.no (by omega) ?_)
    rw [e, show c = s.f1.toNat by omega]
    exact hr
  | succ d ih =>
    intro c hc h
    have e : wrap64 ((c : Int) + 1) = ((c + 1 : Nat) : Int) := by unfold wrap64; omega
    have hm : memS q c = true := by
      rw [hq, memS_append, memS_cons, decide_eq_true (by omega)]
      simp
    have hlc := cnt_le (memS q) c
    rw [← mems_len] at hlc
    refine Ev.step (fun k => span_Places.l1_succ k _ _ _ _ _ _ _) (Ev.yes (by omega) (Ev.yes (by omega) ?_))
    have hstep : mems (memS q) c ++ [(c : Int)] = mems (memS q) (c + 1) := by simp only [mems]; rw [if_pos hm]
    rw [e, hstep]
    exact ih (c + 1) (by omega) (by omega)
theorem span_places_loop (q : List S43) (hl : q.length ≤ 4398046511104) (hm : mayB q (-1) = true) : ∀ (post pre : List S43) (n : Nat), q = pre ++ post → mayB post ((n : Int) - 1) = true → (∀ k, n ≤ k → memS pre k = false) → (post = [] → n = (topS q).toNat) →
    Ev (fun k => span_Places.l0 k (mems (memS q) n) q (q.length : Int) (pre.length : Int)) (placesR q, 0)
  | [], pre, n, hq, hp, hk, he => by
    have hlen : q.length = pre.length := by rw [hq]; simp
    refine Ev.step (fun k => span_Places.l0_succ k _ _ _ _) (Ev.no (by omega) (Ev.val ?_))
    unfold placesR
    rw [he rfl]
  | s :: post, pre, n, hq, hp, hk, he => by
    have hlen : pre.length < q.length := by rw [hq]; simp
    have hat : rd_T43 q (pre.length : Int) = s := by rw [rdS_get _ _ hlen]; simp [hq]
    obtain ⟨h1, h2, h3, h4⟩ := mayB_cons hp
    obtain ⟨f, hf⟩ := Int.eq_ofNat_of_zero_le (show 0 ≤ s.f0 by omega)
    have hskip : mems (memS q) f = mems (memS q) n := by
      obtain ⟨d, rfl⟩ := Nat.exists_eq_add_of_le (show n ≤ f by omega)
      refine mems_skip _ n d (fun k hk1 hk2 => ?_)
      rw [hq, memS_append, hk k hk1, memS_cons, decide_eq_false (by omega)]
      simp only [Bool.false_or]
      exact memS_none h4 (by omega)
    refine Ev.step (fun k => span_Places.l0_succ k _ _ _ _) (Ev.yes (by omega) (Ev.yes (by omega) (Ev.yes (by omega) ?_)))
    rw [hat, ← hskip]
    have hin := span_places_in q hl pre s post hq (by omega) h2 h3 (placesR q, 0) ?_ (s.f1.toNat - f) f (by omega) (by omega)
    · rw [← show s.f0 = (f : Int) from hf] at hin
      exact hin
    have hpl : ((pre.length + 1 : Nat) : Int) = ((pre ++ [s]).length : Int) := by simp
    rw [hpl]
    refine span_places_loop q hl hm post (pre ++ [s]) s.f1.toNat (by rw [hq]; simp) (mayB_mono h4 (by omega)) (fun k hk1 => ?_) (fun hpo => ?_)
    · rw [memS_append, hk k (by omega), memS_cons, decide_eq_false (by omega)]
      rfl
    · rw [hq, hpo, topS_snoc]
theorem span_Places_ev (q : List S43) (hl : q.length ≤ 4398046511104) : Ev (fun k => span_Places.f k q) (if mayB q (-1) = true then (placesR q, 0) else ([], 1)) := by
  unfold span_Places.f
  refine Ev.bind (span_May_ev q hl) ?_
  cases hm : mayB q (-1) with
  | false => exact Ev.no (by decide) (Ev.now _)
  | true =>
    have hc := span_Count_ev q hl
    rw [hm, if_pos rfl] at hc
    have h16 := cnt_le (memS q) 65536
    refine Ev.yes rfl (Ev.bind hc (Ev.yes (by omega) (Ev.yes (by omega) ?_)))
    exact span_places_loop q hl hm q [] 0 rfl (mayB_mono hm (by omega)) (fun k _ => rfl) (fun h => by subst h; rfl)
end Go.Proofs.Ytlhkjkldjhapeaa.Print
