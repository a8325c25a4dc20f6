-- Sets as spans: how many there are, which one has a number, how many are below one, whether one is there; as the program tells it, and as the document does.
import Derived.Test.YtlhkjkldjhapeaaPrint0
import Derived.Test.YtlhkjkldjhapeaaPrint6
import Derived.Test.YtlhkjkldjhapeaaTA
import Derived.Test.YtlhkjkldjhapeaaSO
set_option linter.unusedVariables false
set_option linter.unusedSimpArgs false
namespace Go.Proofs.Ytlhkjkldjhapeaa.Print
open Go.RowKit Go.Proofs.YtlhkjkldjhapeaaW.PrintWords Go.Proofs.YtlhkjkldjhapeaaW.PrintMore
/-- how many places of spans lie below n -/
def rkS : List S43 → Nat → Nat
  | [], _ => 0
  | s :: l, n => (min n s.f1.toNat - min n s.f0.toNat) + rkS l n
theorem rkS_append : ∀ (A B : List S43) (n : Nat), rkS (A ++ B) n = rkS A n + rkS B n
  | [], B, n => by simp [rkS]
  | s :: A, B, n => by simp only [List.cons_append, rkS, rkS_append A B n]; omega
theorem cnt_or (p q : Nat → Bool) (h : ∀ k, p k = true → q k = false) : ∀ n, cnt (fun k => p k || q k) n = cnt p n + cnt q n
  | 0 => rfl
  | n + 1 => by
    have ih := cnt_or p q h n
    have hn := h n
    have e : (if (p n || q n) = true then 1 else 0 : Nat) = (if p n = true then 1 else 0) + (if q n = true then 1 else 0) := by
      cases hp : p n with
      | true => rw [hn hp]; rfl
      | false => simp
    show cnt (fun k => p k || q k) n + (if (p n || q n) = true then 1 else 0) = _
    rw [ih, e]
    simp only [cnt]
    omega
theorem cnt_iv (a b : Nat) (h : a ≤ b) : ∀ n, cnt (fun k => decide (a ≤ k ∧ k < b)) n = min n b - min n a
  | 0 => by simp [cnt]
  | n + 1 => by
    have ih := cnt_iv a b h n
    simp only [cnt, ih, decide_eq_true_eq]
    split <;> omega
theorem rkS_cnt : ∀ (l : List S43) (x : Int), -1 ≤ x → mayB l x = true → ∀ n, cnt (memS l) n = rkS l n
  | [], x, _, _, n => by
    rw [cnt_congr n (q := fun k => decide (0 ≤ k ∧ k < 0)) (fun k _ => by simp [memS]), cnt_iv 0 0 (Nat.le_refl _)]
    simp [rkS]
  | s :: l, x, hx, hm, n => by
    obtain ⟨h1, h2, h3, h4⟩ := mayB_cons hm
    rw [cnt_congr n (q := fun k => (fun k => decide (s.f0.toNat ≤ k ∧ k < s.f1.toNat)) k || memS l k) (fun k _ => by rw [memS_cons]; congr 1; exact decide_eq_decide.2 (by omega))]
    rw [cnt_or (fun k => decide (s.f0.toNat ≤ k ∧ k < s.f1.toNat)) (memS l) (fun k hk => memS_none h4 (by simp only [decide_eq_true_eq] at hk; omega)) n]
    rw [cnt_iv _ _ (by omega), rkS_cnt l s.f1 (by omega) h4 n]
    rfl
theorem memS_high {l : List S43} (hm : mayB l (-1) = true) {n : Nat} (hn : 65536 ≤ n) : memS l n = false := by
  cases hc : memS l n with
  | false => rfl
  | true => have := (memS_top hm n hc).1; have := topS_le hm; omega
theorem cntS_le {l : List S43} (hm : mayB l (-1) = true) (n : Nat) : cnt (memS l) n ≤ cnt (memS l) 65536 := by
  by_cases h : n ≤ 65536
  · exact cnt_mono _ h
  · obtain ⟨d, hd⟩ := Nat.exists_eq_add_of_le (show 65536 ≤ n by omega)
    rw [hd, cnt_skip _ _ _ (fun k h1 _ => memS_high hm h1)]
    exact Nat.le_refl _
theorem may_mid : ∀ (A : List S43) (s : S43) (B : List S43) (x : Int), mayB (A ++ s :: B) x = true → (∀ s', s' ∈ A → x < s'.f0 ∧ s'.f0 < s'.f1 ∧ s'.f1 < s.f0) ∧ x < s.f0 ∧ s.f0 < s.f1 ∧ s.f1 ≤ 65536 ∧ mayB B s.f1 = true
  | [], s, B, x, h => by
    obtain ⟨h1, h2, h3, h4⟩ := mayB_cons h
    exact ⟨fun s' hs => by (cases hs), h1, h2, h3, h4⟩
  | a :: A, s, B, x, h => by
    obtain ⟨h1, h2, h3, h4⟩ := mayB_cons h
    obtain ⟨i1, i2, i3, i4, i5⟩ := may_mid A s B a.f1 h4
    refine ⟨fun s' hs => ?_, by omega, i3, i4, i5⟩
    rcases List.mem_cons.mp hs with rfl | hs
    · exact ⟨h1, h2, i2⟩
    · have := i1 s' hs; omega
theorem rkS_part {A B : List S43} {s : S43} (hm : mayB (A ++ s :: B) (-1) = true) (n : Nat) : rkS (A ++ [s]) n ≤ 65536 := by
  have h1 := rkS_cnt _ (-1) (Int.le_refl _) hm n
  have h2 := cntS_le hm n
  have h3 := cnt_le (memS (A ++ s :: B)) 65536
  rw [show A ++ s :: B = (A ++ [s]) ++ B by simp, rkS_append] at h1
  rw [show A ++ s :: B = (A ++ [s]) ++ B by simp] at h2 h3
  omega
theorem span_count_loop {l : List S43} (hl : l.length ≤ 4398046511104) (hm : mayB l (-1) = true) : ∀ (B A : List S43), l = A ++ B → Ev (fun k => span_Count.l0 k (rkS A 65536 : Int) l (l.length : Int) (A.length : Int)) (cnt (memS l) 65536 : Int)
  | [], A, h => by
    rw [List.append_nil] at h
    subst h
    exact Ev.step (fun k => span_Count.l0_succ k _ _ _ _) (Ev.no (by omega) (Ev.val (by rw [rkS_cnt l (-1) (Int.le_refl _) hm])))
  | s :: B, A, h => by
    have hlen : A.length < l.length := by rw [h]; simp
    have hrd : rd_T43 l (A.length : Int) = s := by rw [h]; exact rdS_mid A B s
    rw [h] at hm
    obtain ⟨h1, h2, h3, h4, h5⟩ := may_mid A s B (-1) hm
    have hp := rkS_part hm 65536
    rw [rkS_append] at hp
    simp only [rkS] at hp
    refine Ev.step (fun k => span_Count.l0_succ k _ _ _ _) (Ev.yes (by omega) (Ev.yes (by omega) (Ev.yes (by omega) ?_)))
    rw [hrd]
    have e1 : wrap64 ((rkS A 65536 : Int) + wrap64 (s.f1 - s.f0)) = (rkS (A ++ [s]) 65536 : Int) := by
      rw [rkS_append]
      simp only [rkS]
      unfold wrap64
      omega
    have e2 : wrap64 ((A.length : Int) + 1) = ((A ++ [s]).length : Int) := by
      simp only [List.length_append, List.length_cons, List.length_nil]
      unfold wrap64
      omega
    rw [e1, e2]
    rw [← h] at hm
    exact span_count_loop hl hm B (A ++ [s]) (by rw [h]; simp)
theorem span_Count_ev (l : List S43) (hl : l.length ≤ 4398046511104) : Ev (fun k => span_Count.f k l) (if mayB l (-1) = true then (cnt (memS l) 65536 : Int) else 0) := by
  unfold span_Count.f
  refine Ev.bind (span_May_ev l hl) ?_
  cases hm : mayB l (-1) with
  | false => exact Ev.no (by decide) (Ev.now _)
  | true => exact Ev.yes rfl (span_count_loop hl hm l [] rfl)
end Go.Proofs.Ytlhkjkldjhapeaa.Print
