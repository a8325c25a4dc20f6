-- Sets as words: the place with a number, how many are below a place, whether one is there; and the document's places.
import Derived.Test.YtgielanobeclnaaPrint5
import Derived.Test.YtgielanobeclnaaSZ
set_option linter.unusedVariables false
set_option linter.unusedSimpArgs false
namespace Go.Proofs.Ytgielanobeclnaa.Print
open Go.RowKit Go.Proofs.YtgielanobeclnaaW.PrintWords Go.Proofs.YtgielanobeclnaaW.PrintMore
/-- those below n, one behind the other -/
def mems (p : Nat → Bool) : Nat → List Int
  | 0 => []
  | n + 1 => mems p n ++ if p n = true then [(n : Int)] else []
theorem mems_len (p : Nat → Bool) : ∀ n, (mems p n).length = cnt p n
  | 0 => rfl
  | n + 1 => by
    have := mems_len p n
    simp only [mems, cnt, List.length_append, this]
    split <;> simp
theorem rd_left (A B : List Int) (i : Nat) (h : i < A.length) : rd (A ++ B) (i : Int) = rd A (i : Int) := by
  rw [rd_get _ _ (by rw [List.length_append]; omega), rd_get _ _ h, List.getElem_append_left h]
theorem mems_at (p : Nat → Bool) : ∀ N n, n < N → p n = true → rd (mems p N) (cnt p n : Int) = (n : Int)
  | 0, n, h, _ => absurd h (by omega)
  | N + 1, n, h, hp => by
    simp only [mems]
    by_cases hn : n = N
    · subst hn
      rw [if_pos hp, ← mems_len]
      unfold rd
      rw [Int.toNat_natCast]
      simp
    · have h1 : cnt p n < (mems p N).length := by
        have := cnt_mono p (show n + 1 ≤ N by omega)
        simp only [cnt, if_pos hp] at this
        rw [mems_len]
        omega
      rw [rd_left _ _ _ h1]
      exact mems_at p N n (by omega) hp
theorem mems_idx (p : Nat → Bool) : ∀ N i, i < cnt p N → ∃ n, n < N ∧ p n = true ∧ cnt p n = i
  | 0, i, h => absurd h (by simp [cnt])
  | N + 1, i, h => by
    by_cases h1 : i < cnt p N
    · obtain ⟨n, h2, h3, h4⟩ := mems_idx p N i h1
      exact ⟨n, by omega, h3, h4⟩
    · simp only [cnt] at h
      split at h
      · rename_i hp
        exact ⟨N, by omega, hp, by omega⟩
      · omega
theorem mems_skip (p : Nat → Bool) (n : Nat) : ∀ d, (∀ k, n ≤ k → k < n + d → p k = false) → mems p (n + d) = mems p n
  | 0, _ => rfl
  | d + 1, h => by
    rw [← Nat.add_assoc]
    simp only [mems]
    rw [mems_skip p n d (fun k h1 h2 => h k h1 (by omega)), h (n + d) (by omega) (by omega)]
    simp
def memsW (l : List Int) : List Int := mems (memW l) (64 * l.length)
theorem memsW_len (l : List Int) : (memsW l).length = countW l := mems_len _ _
noncomputable def pickR (l : List Int) (a : Int) : Int × Int := if mayW l = true then (if a < 0 ∨ (countW l : Int) ≤ a then (0, 3) else (rd (memsW l) a, 0)) else (0, 1)
theorem cnt_one (p : Nat → Bool) (b q : Nat) (h : p (b + q) = true) : cnt p (b + (q + 1)) = cnt p (b + q) + 1 := by
  rw [← Nat.add_assoc]
  simp only [cnt]
  rw [if_pos h]
theorem at_arith (i q : Nat) (h : i < 1024) (hq : q < 64) : wrap64 (wrap64 (64 * (i : Int)) + (q : Int)) = ((64 * i + q : Nat) : Int) := by unfold wrap64; omega
theorem next_arith (q : Nat) (hq : q < 64) : wrap64 ((q : Int) + 1) = ((q + 1 : Nat) : Int) := by unfold wrap64; omega
theorem mul_arith (i q n : Nat) (hi : i < n) (hq : q < 64) : 64 * i + q < 64 * n := by omega
theorem more_arith (f q d : Nat) (h1 : f ≤ q) (h2 : q < 64) (hd : 64 ≤ f + (d + 1)) : q + 1 ≤ 64 ∧ 64 ≤ q + 1 + d := by omega
theorem low_arith (a c n : Nat) (h1 : a < c) (h2 : c ≤ 64 * n) (h3 : n ≤ 1024) : a < 70000 := by omega
theorem pick_arith (a c : Nat) (ha : a < 70000) (h : c + 1 ≤ a) : wrap64 (((a - c : Nat) : Int) - 1) = ((a - (c + 1) : Nat) : Int) ∧ (((a - (c + 1) : Nat) : Int) ≥ 0) := by unfold wrap64; omega
theorem pick_arith2 (a c : Nat) (h : c ≤ a) (h1 : ¬ c + 1 ≤ a) : ¬ wrap64 (((a - c : Nat) : Int) - 1) ≥ 0 := by unfold wrap64; omega
theorem pick_arith3 (a c : Nat) (h : c ≤ a) (h1 : ¬ c + 1 ≤ a) : a = c := by omega
theorem pick_word (l : List Int) (hl : l.length ≤ 1024) (i : Nat) (hi : i < l.length) (a : Nat) (ha : a < countW l)
    (hr : ∀ fnd : Int, cnt (memW l) (64 * (i + 1)) ≤ a → Ev (fun k => words_Pick.l0 k l (l.length : Int) ((i + 1 : Nat) : Int) ((a - cnt (memW l) (64 * (i + 1)) : Nat) : Int) fnd) (rd (memsW l) (a : Int), 0)) : ∀ (d f : Nat) (fnd : Int), f ≤ 64 → 64 ≤ f + d → cnt (memW l) (64 * i + f) ≤ a →
    Ev (fun k => words_Pick.l1 k (i : Int) (rd l (i : Int)) (nextIn (bitsOf (rd l (i : Int))) (f : Int) 64) l (l.length : Int) (i : Int) ((a - cnt (memW l) (64 * i + f) : Nat) : Int) fnd) (rd (memsW l) (a : Int), 0) := by
  have hcl := cnt_le (memW l) (64 * l.length)
  unfold countW at ha
  intro d
  induction d with
  | zero =>
    intro f fnd hf hd hc
    obtain rfl : f = 64 := by omega
    rcases next_or (rd l (i : Int)) 64 with ⟨h1, _⟩ | ⟨q, h1, h2, _⟩
    · have e2 : wrap64 ((i : Int) + 1) = ((i + 1 : Nat) : Int) := by unfold wrap64; omega
      have e64 : 64 * i + 64 = 64 * (i + 1) := by omega
      have hneg : ¬ (-1 : Int) ≥ 0 := by omega
      rw [e64] at hc
      rw [h1, e64]
      refine Ev.step (fun k => words_Pick.l1_succ k _ _ _ _ _ _ _ _) (Ev.no hneg ?_)
      rw [e2]
      exact hr fnd hc
    · exact absurd h2 (Nat.not_lt.2 h1)
  | succ d ih =>
    intro f fnd hf hd hc
    rcases next_or (rd l (i : Int)) f with ⟨h1, h2⟩ | ⟨q, h1, h2, h3, h4, h5⟩
    · have e2 : wrap64 ((i : Int) + 1) = ((i + 1 : Nat) : Int) := by unfold wrap64; omega
      have hsk : cnt (memW l) (64 * (i + 1)) = cnt (memW l) (64 * i + f) := by
        have := cnt_skip (memW l) (64 * i + f) (64 - f) (fun k hk1 hk2 => by
          have := memW_at l i (k - 64 * i) (by omega)
          rw [show 64 * i + (k - 64 * i) = k by omega] at this
          rw [this]
          exact h2 _ (by omega) (by omega))
        rw [← this]
        congr 1
        omega
      have hneg : ¬ (-1 : Int) ≥ 0 := by omega
      rw [h1, ← hsk]
      rw [← hsk] at hc
      refine Ev.step (fun k => words_Pick.l1_succ k _ _ _ _ _ _ _ _) (Ev.no hneg ?_)
      rw [e2]
      exact hr fnd hc
    · have hsk : cnt (memW l) (64 * i + q) = cnt (memW l) (64 * i + f) := by
        have := cnt_skip (memW l) (64 * i + f) (q - f) (fun k hk1 hk2 => by
          have := memW_at l i (k - 64 * i) (by omega)
          rw [show 64 * i + (k - 64 * i) = k by omega] at this
          rw [this]
          exact h5 _ (by omega) (by omega))
        rw [← this]
        congr 1
        omega
      have hm : memW l (64 * i + q) = true := by rw [memW_at l i q h2]; exact h4
      have hat : wrap64 (wrap64 (64 * (i : Int)) + (q : Int)) = ((64 * i + q : Nat) : Int) := at_arith i q (Nat.lt_of_lt_of_le hi hl) h2
      have e2 : wrap64 ((q : Int) + 1) = ((q + 1 : Nat) : Int) := next_arith q h2
      have hqN : 64 * i + q < 64 * l.length := mul_arith i q l.length hi h2
      have hq1 : q + 1 ≤ 64 ∧ 64 ≤ q + 1 + d := more_arith f q d h1 h2 hd
      have hq0 : (q : Int) ≥ 0 := Int.natCast_nonneg q
      have ha7 : a < 70000 := low_arith a _ l.length ha hcl hl
      rw [h3, ← hsk]
      rw [← hsk] at hc
      refine Ev.step (fun k => words_Pick.l1_succ k _ _ _ _ _ _ _ _) (Ev.yes hq0 ?_)
      rw [hat, e2]
      by_cases hca : cnt (memW l) (64 * i + q) + 1 ≤ a
      · have hs := cnt_one (memW l) (64 * i) q hm
        rw [(pick_arith a (cnt (memW l) (64 * i + q)) ha7 hca).1]
        refine Ev.yes (pick_arith a (cnt (memW l) (64 * i + q)) ha7 hca).2 (Ev.bind (Ev.at_ 7 (fun k => bits_Next_eq k _ _)) ?_)
        have hih := ih (q + 1) ((64 * i + q : Nat) : Int) hq1.1 hq1.2 (by rw [hs]; exact hca)
        rw [hs] at hih
        exact hih
      · refine Ev.no (pick_arith2 a (cnt (memW l) (64 * i + q)) hc hca) (Ev.val ?_)
        have hme := mems_at (memW l) (64 * l.length) (64 * i + q) hqN hm
        rw [pick_arith3 a (cnt (memW l) (64 * i + q)) hc hca]
        unfold memsW
        rw [hme]
theorem pick_loop (l : List Int) (hl : l.length ≤ 1024) (a : Nat) (ha : a < countW l) : ∀ (d i : Nat) (fnd : Int), i + d = l.length → cnt (memW l) (64 * i) ≤ a → Ev (fun k => words_Pick.l0 k l (l.length : Int) (i : Int) ((a - cnt (memW l) (64 * i) : Nat) : Int) fnd) (rd (memsW l) (a : Int), 0)
  | 0, i, fnd, h, hc => by
    obtain rfl : i = l.length := by omega
    unfold countW at ha
    omega
  | d + 1, i, fnd, h, hc => by
    refine Ev.step (fun k => words_Pick.l0_succ k _ _ _ _ _) (Ev.yes (by omega) (Ev.yes (by omega) (Ev.yes (by omega) (Ev.bind (Ev.at_ 7 (fun k => bits_Next_eq k _ _)) ?_))))
    exact pick_word l hl i (by omega) a ha (fun fnd' hc' => pick_loop l hl a ha d (i + 1) fnd' (by omega) hc') 64 0 fnd (by omega) (by omega) hc
theorem words_Pick_ev (l : List Int) (a : Int) (hl : l.length ≤ 17592186044416) : Ev (fun k => words_Pick.f k l a) (pickR l a) := by
  unfold words_Pick.f pickR
  refine Ev.call (words_May_eq l hl) ?_
  by_cases h : mayW l = true
  · rw [if_pos h]
    refine Ev.yes h ?_
    have hc := words_Count_ev l hl
    rw [if_pos h] at hc
    by_cases h0 : a < 0
    · rw [if_pos (.inl h0)]
      exact Ev.yes h0 (Ev.now _)
    · refine Ev.no h0 (Ev.bind hc ?_)
      by_cases h1 : (countW l : Int) ≤ a
      · rw [if_pos (.inr h1)]
        exact Ev.yes h1 (Ev.now _)
      · rw [if_neg (by omega)]
        obtain ⟨m, rfl⟩ := Int.eq_ofNat_of_zero_le (show 0 ≤ a by omega)
        exact Ev.no (by omega) (pick_loop l (mayW_norm h).1 m (by omega) l.length 0 0 (by omega) (Nat.zero_le _))
  · rw [if_neg h]
    exact Ev.no h (Ev.now _)
def rankR (l : List Int) (at_ : Int) : Int := if mayW l = true then (cnt (memW l) (min at_.toNat (64 * l.length)) : Int) else 0
theorem field_cnt (w : Int) (r : Nat) (hr : r ≤ 64) : onesTo (bitsOf (wordP (fieldP w 0 (r : Int)))) 64 = (cnt (bit w) r : Int) := by
  rw [ones_cnt]
  have hb : ∀ t, t < 64 → bit (wordP (fieldP w 0 (r : Int))) t = (decide (t < r) && bit w t) := by
    intro t ht
    rw [bit_wordP _ t ht]
    unfold fieldP
    have e : (0 : Int).toNat + t = t := by simp
    rw [e]
    by_cases h : t < r
    · have : (t : Int) < (r : Int) := by omega
      simp [h, this]
    · have : ¬ (t : Int) < (r : Int) := by omega
      simp [h, this]
  obtain ⟨d, hd⟩ : ∃ d, 64 = r + d := ⟨64 - r, by omega⟩
  have hq : cnt (bit (wordP (fieldP w 0 (r : Int)))) (r + d) = cnt (bit w) r := by
    rw [cnt_skip _ r d (fun k h1 h2 => by
      have hk : ¬ k < r := by omega
      rw [hb k (by omega)]
      simp [hk])]
    exact cnt_congr r (fun k hk => by rw [hb k (by omega)]; simp [hk])
  rw [hd, hq]
theorem rank_loop (l : List Int) (hl : l.length ≤ 1024) (m : Nat) (hm : m ≤ 9223372036854775807) : ∀ (d i : Nat), i + d = l.length → Ev (fun k => words_Rank.l0 k (m : Int) (cnt (memW l) (min m (64 * i)) : Int) l (l.length : Int) (i : Int)) (cnt (memW l) (min m (64 * l.length)) : Int)
  | 0, i, h => by
    obtain rfl : i = l.length := by omega
    exact Ev.step (fun k => words_Rank.l0_succ k _ _ _ _ _) (Ev.no (by omega) (Ev.now _))
  | d + 1, i, h => by
    have e2 : wrap64 ((i : Int) + 1) = ((i + 1 : Nat) : Int) := by unfold wrap64; omega
    have e3 : wrap64 (wrap64 (64 * (i : Int)) + 64) = ((64 * (i + 1) : Nat) : Int) := by unfold wrap64; omega
    have e4 : wrap64 (64 * (i : Int)) = ((64 * i : Nat) : Int) := by unfold wrap64; omega
    have hcl := cnt_le (memW l) (64 * i)
    have ih := rank_loop l hl m hm d (i + 1) (by omega)
    refine Ev.step (fun k => words_Rank.l0_succ k _ _ _ _ _) (Ev.yes (by omega) (Ev.yes (by omega) (Ev.yes (by omega) ?_)))
    rw [e2, e3, e4]
    by_cases h1 : 64 * (i + 1) ≤ m
    · refine Ev.yes (by omega) (Ev.bind (Ev.at_ 19 (fun k => bits_Ones_eq k _)) ?_)
      rw [Nat.min_eq_right h1] at ih
      rw [Nat.min_eq_right (by omega), ones_cnt]
      have hw := word_cnt l i 64 (Nat.le_refl _)
      have hc2 := cnt_le (bit (rd l (i : Int))) 64
      have e5 : wrap64 ((cnt (memW l) (64 * i) : Int) + (cnt (bit (rd l (i : Int))) 64 : Int)) = (cnt (memW l) (64 * (i + 1)) : Int) := by
        rw [show 64 * (i + 1) = 64 * i + 64 by omega, hw]
        unfold wrap64; omega
      rw [e5]
      exact ih
    · refine Ev.no (by omega) ?_
      rw [Nat.min_eq_left (by omega)] at ih
      by_cases h2 : 64 * i < m
      · have e6 : wrap64 ((m : Int) - ((64 * i : Nat) : Int)) = ((m - 64 * i : Nat) : Int) := by unfold wrap64; omega
        refine Ev.yes (by omega) ?_
        rw [e6, Nat.min_eq_right (by omega)]
        refine Ev.call (bits_Field_eq _ _ _) (Ev.bind (Ev.at_ 19 (fun k => bits_Ones_eq k _)) ?_)
        rw [field_cnt _ _ (by omega)]
        have hw := word_cnt l i (m - 64 * i) (by omega)
        have hc2 := cnt_le (bit (rd l (i : Int))) (m - 64 * i)
        have e5 : wrap64 ((cnt (memW l) (64 * i) : Int) + (cnt (bit (rd l (i : Int))) (m - 64 * i) : Int)) = (cnt (memW l) m : Int) := by
          rw [show 64 * i + (m - 64 * i) = m by omega] at hw
          rw [hw]
          unfold wrap64; omega
        rw [e5]
        exact ih
      · rw [Nat.min_eq_left (by omega)]
        exact Ev.no (by omega) ih
theorem words_Rank_ev (l : List Int) (a : Int) (ha : InI a) (hl : l.length ≤ 17592186044416) : Ev (fun k => words_Rank.f k l a) (rankR l a) := by
  unfold words_Rank.f rankR
  have hbad : Ev (fun k => words_Rank.j0 k l a true) 0 := Ev.step (fun k => words_Rank.j0_succ k _ _ _) (Ev.yes rfl (Ev.now _))
  refine Ev.call (words_May_eq l hl) ?_
  by_cases h : mayW l = true
  · rw [if_pos h]
    refine Ev.yes h ?_
    by_cases h0 : a ≤ 0
    · rw [decide_eq_true h0, show a.toNat = 0 by omega, Nat.zero_min]
      exact hbad
    · rw [decide_eq_false h0]
      obtain ⟨m, rfl⟩ := Int.eq_ofNat_of_zero_le (show 0 ≤ a by omega)
      have := rank_loop l (mayW_norm h).1 m (by unfold InI at ha; omega) l.length 0 (by omega)
      rw [show min m (64 * 0) = 0 by omega] at this
      rw [Int.toNat_natCast]
      exact Ev.step (fun k => words_Rank.j0_succ k _ _ _) (Ev.no (by decide) this)
  · rw [if_neg h]
    exact Ev.no h hbad
def hasR (l : List Int) (a : Int) : Bool := mayW l && (decide (0 ≤ a) && memW l a.toNat)
theorem field_one (w : Int) (p : Nat) (hp : p < 64) : wordP (fieldP w (p : Int) 1) = if bit w p = true then 1 else 0 := by
  have hb : ∀ b : Bool, ∀ i, i < 64 → bit (if b = true then 1 else 0) i = (decide (i = 0) && b) := by
    intro b i hi
    cases b
    · simp [bit_zero]
    · simp only [if_true, Bool.and_true]
      by_cases h0 : i = 0
      · subst h0; decide
      · rw [show (1 : Int) = ((1 : Nat) : Int) from rfl, bit_nat _ _ hi, decide_eq_false h0]
        exact Nat.testBit_lt_two_pow (Nat.one_lt_two_pow h0)
  refine (wordP_of (by unfold InI; split <;> decide) _ (fun i hi => ?_)).symm
  rw [hb _ i hi]
  unfold fieldP
  rw [Int.toNat_natCast]
  by_cases h0 : i = 0
  · subst h0
    have : (0 : Int) ≤ (p : Int) ∧ (p : Int) < 64 := by omega
    simp [this]
  · have : ¬ ((i : Int) < 1) := by omega
    simp [h0, this]
theorem words_Has_eq (l : List Int) (a : Int) (hl : l.length ≤ 17592186044416) : words_Has.f l a = some (hasR l a) := by
  unfold words_Has.f hasR
  rw [words_May_eq l hl]
  simp only [Option.bind_some]
  by_cases h : mayW l = true
  · rw [if_pos h, h]
    by_cases h0 : a ≥ 0
    · obtain ⟨m, rfl⟩ := Int.eq_ofNat_of_zero_le h0
      have e1 : (m : Int) / 64 = ((m / 64 : Nat) : Int) := rfl
      rw [if_pos h0, e1, decide_eq_true h0, Int.toNat_natCast]
      by_cases h1 : m / 64 < l.length
      · rw [if_pos (by omega), if_pos (by omega), and_63, show (m : Int) % 64 = ((m % 64 : Nat) : Int) from rfl, bits_Field_eq]
        simp only [Option.bind_some]
        rw [field_one _ _ (by omega)]
        unfold memW
        cases bit (rd l ((m / 64 : Nat) : Int)) (m % 64) <;> rfl
      · rw [if_neg (by omega), memW_ge l m (by omega)]
        rfl
    · rw [if_neg h0, decide_eq_false (by omega)]
      rfl
  · rw [if_neg h]
    have h : mayW l = false := by simpa using h
    rw [h]
    rfl
end Go.Proofs.Ytgielanobeclnaa.Print
