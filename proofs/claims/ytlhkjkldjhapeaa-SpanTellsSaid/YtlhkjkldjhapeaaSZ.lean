-- Sets as words: how many there are, which one has a number, and their spans as the program tells them.
import Derived.Test.YtlhkjkldjhapeaaPrint0
import Derived.Test.YtlhkjkldjhapeaaSY
import Derived.Test.YtlhkjkldjhapeaaSD
set_option linter.unusedVariables false
set_option linter.unusedSimpArgs false
namespace Go.Proofs.Ytlhkjkldjhapeaa.Print
open Go.RowKit Go.Proofs.YtlhkjkldjhapeaaW.PrintWords Go.Proofs.YtlhkjkldjhapeaaW.PrintMore
/-- how many there are below n -/
def cnt (p : Nat → Bool) : Nat → Nat
  | 0 => 0
  | n + 1 => cnt p n + if p n = true then 1 else 0
theorem cnt_le (p : Nat → Bool) : ∀ n, cnt p n ≤ n
  | 0 => Nat.le_refl _
  | n + 1 => by
    have := cnt_le p n
    simp only [cnt]
    split <;> omega
theorem cnt_add (p : Nat → Bool) (n : Nat) : ∀ m, cnt p (n + m) = cnt p n + cnt (fun t => p (n + t)) m
  | 0 => rfl
  | m + 1 => by
    have := cnt_add p n m
    rw [← Nat.add_assoc]
    simp only [cnt]
    omega
theorem cnt_congr {p q : Nat → Bool} : ∀ n, (∀ k, k < n → p k = q k) → cnt p n = cnt q n
  | 0, _ => rfl
  | n + 1, h => by
    simp only [cnt]
    rw [cnt_congr n (fun k hk => h k (by omega)), h n (by omega)]
theorem cnt_skip (p : Nat → Bool) (n : Nat) : ∀ d, (∀ k, n ≤ k → k < n + d → p k = false) → cnt p (n + d) = cnt p n
  | 0, _ => rfl
  | d + 1, h => by
    rw [← Nat.add_assoc]
    simp only [cnt]
    rw [cnt_skip p n d (fun k h1 h2 => h k h1 (by omega)), h (n + d) (by omega) (by omega)]
    simp
theorem cnt_mono (p : Nat → Bool) {a b : Nat} (h : a ≤ b) : cnt p a ≤ cnt p b := by
  obtain ⟨d, rfl⟩ := Nat.exists_eq_add_of_le h
  rw [cnt_add]
  omega
theorem cnt_not (p q : Nat → Bool) : ∀ n, (∀ k, k < n → q k = !p k) → cnt p n + cnt q n = n
  | 0, _ => rfl
  | n + 1, h => by
    have := cnt_not p q n (fun k hk => h k (by omega))
    simp only [cnt]
    rw [h n (by omega)]
    cases p n <;> simp <;> omega
theorem ones_cnt (a : Int) : ∀ n, onesTo (bitsOf a) n = (cnt (bit a) n : Int)
  | 0 => rfl
  | n + 1 => by
    have := ones_cnt a n
    simp only [onesTo, cnt]
    rw [bAt_bitsOf]
    split <;> omega
theorem next_or (w : Int) (f : Nat) : (nextIn (bitsOf w) (f : Int) 64 = -1 ∧ ∀ t, f ≤ t → t < 64 → bit w t = false) ∨ ∃ q, f ≤ q ∧ q < 64 ∧ nextIn (bitsOf w) (f : Int) 64 = (q : Int) ∧ bit w q = true ∧ ∀ t, f ≤ t → t < q → bit w t = false := by
  rcases least_of (fun i => f ≤ i ∧ bit w i = true) 64 with h | ⟨q, h1, h2, h3⟩
  · refine .inl ⟨nextIn_none _ _ 64 (by omega) (fun i _ hi hb hf => h i hi ⟨by omega, by rw [← bAt_bitsOf]; exact hb⟩), fun t ht h64 => ?_⟩
    have := h t h64
    cases hb : bit w t
    · rfl
    · exact absurd ⟨ht, hb⟩ this
  · refine .inr ⟨q, h2.1, h1, nextIn_some _ _ q h1 (by rw [bAt_bitsOf]; exact h2.2) (by omega) 64 (by omega) (by omega) (fun i _ hi hh => h3 i hi ⟨by omega, by rw [← bAt_bitsOf]; exact hh.1⟩), h2.2, fun t ht hq => ?_⟩
    have := h3 t hq
    cases hb : bit w t
    · rfl
    · exact absurd ⟨ht, hb⟩ this
theorem word_cnt (l : List Int) (i m : Nat) (hm : m ≤ 64) : cnt (memW l) (64 * i + m) = cnt (memW l) (64 * i) + cnt (bit (rd l (i : Int))) m := by
  rw [cnt_add]
  congr 1
  exact cnt_congr m (fun k hk => memW_at l i k (by omega))
def countW (l : List Int) : Nat := cnt (memW l) (64 * l.length)
theorem and_small (x : Int) (m n : Nat) (hn : n < 64) (h : m < 2 ^ n) : 0 ≤ Go.bits .and .i64 x (m : Int) ∧ Go.bits .and .i64 x (m : Int) < 2 ^ n := by
  have e : Go.bits .and .i64 x (m : Int) = wordP (fun i => bit x i && bit (m : Int) i) := wordP_of (InI_bits _ _ _) _ (fun i _ => bit_and _ _ i)
  rw [e]
  refine wordP_small _ n hn (fun i hi => ?_)
  by_cases h64 : i < 64
  · rw [bit_nat _ i h64, Nat.testBit_lt_two_pow (Nat.lt_of_lt_of_le h (Nat.pow_le_pow_right (by decide) hi))]
    simp
  · rw [bit_ge _ (by omega)]
    simp
theorem mayW_of {l : List Int} (h1 : l.length ≤ 1024) (h2 : normW l) : mayW l = true := decide_eq_true ⟨h1, h2⟩
theorem bothR_ok (f : Int → Int → Int) (o : Bool → Bool → Bool) (hf : ∀ x y i, bit (f x y) i = o (bit x i) (bit y i)) (h0 : o false false = false) (hI : ∀ x y, InI (f x y)) {a b : List Int} (ha : mayW a = true) (hb : mayW b = true) :
    ∃ c, bothR f a b = (c, 0) ∧ mayW c = true ∧ (∀ x, x ∈ c → InI x) ∧ ∀ k, memW c k = o (memW a k) (memW b k) := by
  refine ⟨trimW ((List.range (max a.length b.length)).map (fun (i : Nat) => f (rd a (i : Int)) (rd b (i : Int)))), ?_, mayW_of ?_ (trimW_norm _), trimW_InI ?_, fun k => ?_⟩
  · unfold bothR
    rw [if_pos ⟨ha, hb⟩]
  · have l1 := (mayW_norm ha).1
    have l2 := (mayW_norm hb).1
    have := (trimN_ok ((List.range (max a.length b.length)).map (fun (i : Nat) => f (rd a (i : Int)) (rd b (i : Int)))) ((List.range (max a.length b.length)).map (fun (i : Nat) => f (rd a (i : Int)) (rd b (i : Int)))).length).1
    rw [← trimW_len] at this
    simp only [List.length_map, List.length_range] at this
    omega
  · intro x hx
    obtain ⟨i, _, rfl⟩ := List.mem_map.1 hx
    exact hI _ _
  · rw [trimW_mem, comb_mem f o hf h0]
theorem notR_ok {a : List Int} (ha : mayW a = true) (N : Nat) (hN : N ≤ 65536) : ∃ c, notR a (N : Int) = (c, 0) ∧ mayW c = true ∧ (∀ x, x ∈ c → InI x) ∧ ∀ k, memW c k = (decide (k < N) && !memW a k) := by
  have hal := allW_ok N hN
  obtain ⟨c, h1, h2, h3, h4⟩ := bothR_ok (Go.bits .andNot .i64) (fun x y => x && !y) (fun x y i => bit_andNot x y i) rfl (fun x y => InI_bits _ _ _) hal.1 ha
  refine ⟨c, ?_, h2, h3, fun k => by rw [h4 k, hal.2 k]⟩
  unfold notR
  rw [if_neg (by omega), Int.toNat_natCast, h1]
theorem runs_all (N : Nat) : ∀ n, n ≤ N → runsTo (fun k => decide (k < N)) n = if n = 0 then [] else [⟨0, (n : Int)⟩]
  | 0, _ => rfl
  | n + 1, h => by
    have ih := runs_all N n (by omega)
    rw [if_neg (by omega)]
    by_cases h0 : n = 0
    · subst h0
      simp only [runsTo]
      rw [if_pos (decide_eq_true (by omega)), if_neg (by simp)]
      rfl
    · rw [if_neg h0] at ih
      have := runs_step_in (fun k => decide (k < N)) n [] 0 (decide_eq_true (by omega)) h0 (decide_eq_true (by omega)) (by rw [ih]; rfl)
      rw [this]
      simp
theorem runs_full {l : List Int} (N : Nat) (h : ∀ k, memW l k = decide (k < N)) : runsTo (memW l) (64 * l.length) = if N = 0 then [] else [⟨0, (N : Int)⟩] := by
  have hp : memW l = fun k => decide (k < N) := funext h
  by_cases h0 : N = 0
  · subst h0
    rw [if_pos rfl]
    have := runs_skip (memW l) 0 (64 * l.length) (fun k _ _ => by rw [h k]; simp)
    rw [Nat.zero_add] at this
    rw [this]
    rfl
  · have hle : N ≤ 64 * l.length := by
      refine Nat.le_of_not_lt (fun hlt => ?_)
      have h1 := memW_ge l (N - 1) (by omega)
      rw [h (N - 1), decide_eq_true (by omega)] at h1
      exact absurd h1 (by decide)
    obtain ⟨d, hd⟩ := Nat.exists_eq_add_of_le hle
    have := runs_skip (memW l) N d (fun k h1 _ => by rw [h k]; exact decide_eq_false (by omega))
    rw [hd, this, hp, runs_all N N (Nat.le_refl _)]
theorem countW_at (l : List Int) (N : Nat) (h : ∀ k, N ≤ k → memW l k = false) : countW l = cnt (memW l) N := by
  unfold countW
  rcases Nat.le_total (64 * l.length) N with h1 | h1
  · obtain ⟨d, hd⟩ := Nat.exists_eq_add_of_le h1
    rw [hd]
    exact (cnt_skip _ _ d (fun k h2 _ => memW_ge l k h2)).symm
  · obtain ⟨d, hd⟩ := Nat.exists_eq_add_of_le h1
    rw [hd]
    exact cnt_skip _ _ d (fun k h2 _ => h k h2)
end Go.Proofs.Ytlhkjkldjhapeaa.Print
