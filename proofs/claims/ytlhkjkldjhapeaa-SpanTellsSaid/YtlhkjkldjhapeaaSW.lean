-- Sets of places as words: what the program's functions and the document's of layer 15 tell.
import Derived.Test.YtlhkjkldjhapeaaPrint0
import Derived.Test.YtlhkjkldjhapeaaSG
import Derived.Test.YtlhkjkldjhapeaaSB
import Derived.Test.YtlhkjkldjhapeaaSD
import Derived.Test.YtlhkjkldjhapeaaSQ
import Derived.Test.YtlhkjkldjhapeaaSX
set_option linter.unusedVariables false
set_option linter.unusedSimpArgs false
namespace Go.Proofs.Ytlhkjkldjhapeaa.Print
open Go.RowKit Go.Proofs.YtlhkjkldjhapeaaW.PrintWords Go.Proofs.YtlhkjkldjhapeaaW.PrintMore
theorem rd_ge (l : List Int) (i : Nat) (h : l.length ≤ i) : rd l (i : Int) = 0 := by
  unfold rd; rw [Int.toNat_natCast, List.getD_eq_getElem?_getD, List.getElem?_eq_none h]; rfl
/-- is a place in words? -/
def memW (l : List Int) (n : Nat) : Bool := bit (rd l ((n / 64 : Nat) : Int)) (n % 64)
theorem memW_at (l : List Int) (i t : Nat) (h : t < 64) : memW l (64 * i + t) = bit (rd l (i : Int)) t := by
  unfold memW
  rw [show (64 * i + t) / 64 = i by omega, show (64 * i + t) % 64 = t by omega]
theorem memW_ge (l : List Int) (n : Nat) (h : 64 * l.length ≤ n) : memW l n = false := by
  unfold memW
  rw [rd_ge _ _ (by omega), bit_zero]
def wordsTo (p : Nat → Bool) (N : Nat) : List Int := (List.range N).map (fun i => wordP (fun t => p (64 * i + t)))
theorem wordsTo_len (p : Nat → Bool) (N : Nat) : (wordsTo p N).length = N := by simp [wordsTo]
theorem wordsTo_rd (p : Nat → Bool) (N i : Nat) (h : i < N) : rd (wordsTo p N) (i : Int) = wordP (fun t => p (64 * i + t)) := by
  rw [rd_get _ i (by rw [wordsTo_len]; exact h)]
  simp [wordsTo]
theorem wordsTo_InI (p : Nat → Bool) (N : Nat) : ∀ x, x ∈ wordsTo p N → InI x := by
  intro x hx
  obtain ⟨i, _, rfl⟩ := List.mem_map.1 hx
  exact InI_wordP _
theorem memW_wordsTo (p : Nat → Bool) (N n : Nat) : memW (wordsTo p N) n = (decide (n < 64 * N) && p n) := by
  by_cases h : n < 64 * N
  · unfold memW
    rw [wordsTo_rd p N _ (by omega), bit_wordP _ _ (by omega), show 64 * (n / 64) + n % 64 = n by omega]
    simp [h]
  · rw [memW_ge _ _ (by rw [wordsTo_len]; omega)]
    simp [h]
theorem wordsTo_succ (p : Nat → Bool) (N : Nat) : wordsTo p (N + 1) = wordsTo p N ++ [wordP (fun t => p (64 * N + t))] := by simp [wordsTo, List.range_succ]
theorem wordsTo_congr {p q : Nat → Bool} (N : Nat) (h : ∀ n, n < 64 * N → p n = q n) : wordsTo p N = wordsTo q N := by
  unfold wordsTo
  refine List.map_congr_left (fun i hi => wordP_congr (fun t ht => h _ ?_))
  have := List.mem_range.1 hi
  omega
theorem words_ext {a b : List Int} (hl : a.length = b.length) (ha : ∀ x, x ∈ a → InI x) (hb : ∀ x, x ∈ b → InI x) (h : ∀ n, n < 64 * a.length → memW a n = memW b n) : a = b := by
  refine List.ext_getElem hl (fun i h1 h2 => ?_)
  refine bit_inj (ha _ (List.getElem_mem h1)) (hb _ (List.getElem_mem h2)) (fun t ht => ?_)
  have := h (64 * i + t) (by omega)
  rw [memW_at _ _ _ ht, memW_at _ _ _ ht, rd_get a i h1, rd_get b i h2] at this
  exact this
theorem wordsTo_zero (N : Nat) : List.replicate N 0 = wordsTo (fun _ => false) N := by
  have : wordP (fun _ => false) = 0 := (wordP_of (by unfold InI; decide) _ (fun i _ => by rw [bit_zero])).symm
  unfold wordsTo
  simp only [this]
  rw [List.map_const', List.length_range]
def mayW (l : List Int) : Bool := decide (l.length ≤ 1024 ∧ (l.length = 0 ∨ rd l ((l.length - 1 : Nat) : Int) ≠ 0))
def normW (l : List Int) : Prop := l.length = 0 ∨ rd l ((l.length - 1 : Nat) : Int) ≠ 0
theorem bit_some {x : Int} (h : InI x) (h0 : x ≠ 0) : ∃ t, t < 64 ∧ bit x t = true := by
  refine Classical.byContradiction (fun hn => h0 (bit_inj h (by unfold InI; decide) (fun t ht => ?_)))
  rw [bit_zero]
  cases hb : bit x t
  · rfl
  · exact absurd ⟨t, ht, hb⟩ hn
theorem norm_len {a : List Int} (ha : ∀ x, x ∈ a → InI x) (hn : normW a) (m : Nat) (h : ∀ n, 64 * m ≤ n → memW a n = false) : a.length ≤ m := by
  rcases hn with h0 | h0
  · omega
  · refine Nat.le_of_not_lt (fun hlt => ?_)
    obtain ⟨t, ht, hb⟩ := bit_some (ha _ (rd_mem a (a.length - 1) (by omega))) h0
    have := h (64 * (a.length - 1) + t) (by omega)
    rw [memW_at _ _ _ ht, hb] at this
    cases this
theorem norm_unique {a b : List Int} (ha : ∀ x, x ∈ a → InI x) (hb : ∀ x, x ∈ b → InI x) (na : normW a) (nb : normW b) (h : ∀ n, memW a n = memW b n) : a = b := by
  have h1 := norm_len ha na b.length (fun n hn => by rw [h n]; exact memW_ge b n hn)
  have h2 := norm_len hb nb a.length (fun n hn => by rw [← h n]; exact memW_ge a n hn)
  exact words_ext (by omega) ha hb (fun n _ => h n)
def trimN (l : List Int) : Nat → Nat
  | 0 => 0
  | n + 1 => if rd l (n : Int) = 0 then trimN l n else n + 1
theorem trimN_ok (l : List Int) : ∀ n, trimN l n ≤ n ∧ (trimN l n = 0 ∨ rd l ((trimN l n - 1 : Nat) : Int) ≠ 0) ∧ ∀ i, trimN l n ≤ i → i < n → rd l (i : Int) = 0
  | 0 => ⟨Nat.le_refl _, .inl rfl, fun i _ h => absurd h (Nat.not_lt_zero i)⟩
  | n + 1 => by
    obtain ⟨h1, h2, h3⟩ := trimN_ok l n
    simp only [trimN]
    split
    · rename_i h0
      refine ⟨by omega, h2, fun i hi hlt => ?_⟩
      by_cases e : i = n
      · subst e; exact h0
      · exact h3 i hi (by omega)
    · rename_i h0
      exact ⟨Nat.le_refl _, .inr (by rw [Nat.add_sub_cancel]; exact h0), fun i hi hlt => by omega⟩
def trimW (l : List Int) : List Int := l.take (trimN l l.length)
theorem rd_take (l : List Int) (m i : Nat) (h : i < m) : rd (l.take m) (i : Int) = rd l (i : Int) := by
  unfold rd
  rw [Int.toNat_natCast, List.getD_eq_getElem?_getD, List.getD_eq_getElem?_getD, List.getElem?_take, if_pos h]
theorem trimW_len (l : List Int) : (trimW l).length = trimN l l.length := by
  have := (trimN_ok l l.length).1
  unfold trimW
  rw [List.length_take, Nat.min_eq_left this]
theorem trimW_mem (l : List Int) (n : Nat) : memW (trimW l) n = memW l n := by
  have hk := trimN_ok l l.length
  unfold memW
  by_cases h : n / 64 < trimN l l.length
  · unfold trimW; rw [rd_take _ _ _ h]
  · rw [rd_ge (trimW l) _ (by rw [trimW_len]; omega)]
    by_cases h2 : n / 64 < l.length
    · rw [hk.2.2 _ (by omega) h2]
    · rw [rd_ge l _ (by omega)]
theorem trimW_norm (l : List Int) : normW (trimW l) := by
  have hk := trimN_ok l l.length
  unfold normW
  rw [trimW_len]
  rcases hk.2.1 with h | h
  · exact .inl h
  · by_cases h0 : trimN l l.length = 0
    · exact .inl h0
    · right
      unfold trimW
      rw [rd_take _ _ _ (by omega)]
      exact h
theorem trimW_InI {l : List Int} (h : ∀ x, x ∈ l → InI x) : ∀ x, x ∈ trimW l → InI x := fun x hx => h x (List.mem_of_mem_take hx)
theorem mayW_norm {l : List Int} (h : mayW l = true) : l.length ≤ 1024 ∧ normW l := by
  unfold mayW at h
  have h2 := of_decide_eq_true h
  exact h2
def topN (l : List S43) : Nat := ((topS l + 63) / 64).toNat
noncomputable def ofR (l : List S43) : List Int × Int := if mayB l (-1) = true then (wordsTo (memS l) (topN l), 0) else ([], 1)
theorem topN_le {l : List S43} (h : mayB l (-1) = true) : topN l ≤ 1024 ∧ topS l ≤ ((64 * topN l : Nat) : Int) ∧ (topN l : Int) = (topS l + 63) / 64 := by
  have := topS_le h
  unfold topN
  omega
theorem of_norm {l : List S43} (hm : mayB l (-1) = true) : normW (wordsTo (memS l) (topN l)) := by
  have htl := topN_le hm
  have hts := topS_le hm
  unfold normW
  rw [wordsTo_len]
  by_cases h0 : topN l = 0
  · exact .inl h0
  · right
    rw [wordsTo_rd _ _ _ (by omega)]
    intro hz
    rcases List.eq_nil_or_concat l with rfl | ⟨m, s, rfl⟩
    · simp [topN, topS] at h0
    · rw [List.concat_eq_append] at *
      have hs := (mayB_snoc m s (-1)).1 hm
      have hf : 0 ≤ s.f0 := by have := mayB_low hm s (by simp); omega
      have htop := topS_snoc m s
      obtain ⟨t, ht⟩ := Int.eq_ofNat_of_zero_le (show 0 ≤ s.f1 - 1 by omega)
      have hmem : memS (m ++ [s]) t = true := by
        rw [memS_append, memS_cons]
        have : decide (s.f0 ≤ (t : Int) ∧ (t : Int) < s.f1) = true := by rw [decide_eq_true_eq]; omega
        rw [this]; simp
      have hb : bit (wordP (fun x => memS (m ++ [s]) (64 * (topN (m ++ [s]) - 1) + x))) (t - 64 * (topN (m ++ [s]) - 1)) = true := by
        rw [bit_wordP _ _ (by omega), show 64 * (topN (m ++ [s]) - 1) + (t - 64 * (topN (m ++ [s]) - 1)) = t by omega]
        exact hmem
      rw [hz, bit_zero] at hb
      cases hb
theorem of_mem {l : List S43} (hm : mayB l (-1) = true) (n : Nat) : memW (wordsTo (memS l) (topN l)) n = memS l n := by
  rw [memW_wordsTo]
  by_cases h : n < 64 * topN l
  · simp [h]
  · have htl := topN_le hm
    cases hc : memS l n
    · simp
    · have := (memS_top hm n hc).1
      omega
/-! ### two sets -/
noncomputable def bothR (f : Int → Int → Int) (a b : List Int) : List Int × Int := if mayW a = true ∧ mayW b = true then (trimW ((List.range (max a.length b.length)).map (fun (i : Nat) => f (rd a (i : Int)) (rd b (i : Int)))), 0) else ([], 1)
theorem comb_mem (f : Int → Int → Int) (o : Bool → Bool → Bool) (hf : ∀ x y i, bit (f x y) i = o (bit x i) (bit y i)) (h0 : o false false = false) (a b : List Int) (n : Nat) : memW ((List.range (max a.length b.length)).map (fun (i : Nat) => f (rd a (i : Int)) (rd b (i : Int)))) n = o (memW a n) (memW b n) := by
  by_cases h : n / 64 < max a.length b.length
  · unfold memW
    rw [rd_get _ (n / 64) (by simp; omega)]
    simp only [List.getElem_map, List.getElem_range]
    exact hf _ _ _
  · rw [memW_ge _ _ (by simp; omega), memW_ge a _ (by omega), memW_ge b _ (by omega), h0]
end Go.Proofs.Ytlhkjkldjhapeaa.Print
