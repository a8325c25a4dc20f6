-- Sets of places as words: what the program's functions and the document's of layer 15 tell.
import Derived.Test.YtgielanobeclnaaPrint0
import Derived.Test.YtgielanobeclnaaPrint2
import Derived.Test.YtgielanobeclnaaPrint3
import Derived.Test.YtgielanobeclnaaPrint6
import Derived.Test.YtgielanobeclnaaSG
import Derived.Test.YtgielanobeclnaaSB
import Derived.Test.YtgielanobeclnaaSD
import Derived.Test.YtgielanobeclnaaSQ
import Derived.Test.YtgielanobeclnaaSX
set_option linter.unusedVariables false
set_option linter.unusedSimpArgs false
namespace Go.Proofs.Ytgielanobeclnaa.Print
open Go.RowKit Go.Proofs.YtgielanobeclnaaW.PrintWords Go.Proofs.YtgielanobeclnaaW.PrintMore
theorem rd_ge (l : List Int) (i : Nat) (h : l.length ≤ i) : rd l (i : Int) = 0 := by
  unfold rd; rw [Int.toNat_natCast, List.getD_eq_getElem?_getD, List.getElem?_eq_none h]; rfl
/-- is a place in words? -/
def memW (l : List Int) (n : Nat) : Bool := bit (rd l ((n / 64 : Nat) : Int)) (n % 64)
theorem memW_at (l : List Int) (i t : Nat) (h : t < 64) : memW l (64 * i + t) = bit (rd l (i : Int)) t := by
  unfold memW
  rw [show (64 * i + t) / 64 = i by omega, show (64 * i + t) % 64 = t by omega]
theorem memW_ge (l : List Int) (n : Nat) (h : 64 * l.length ≤ n) : memW l n = false := by
  unfold memW
  rw [rd_ge _ _ (by omega), bit_zero]
def wordsTo (p : Nat → Bool) (N : Nat) : List Int := (List.range N).map (fun i => wordP (fun t => p (64 * i + t)))
theorem wordsTo_len (p : Nat → Bool) (N : Nat) : (wordsTo p N).length = N := by simp [wordsTo]
theorem wordsTo_rd (p : Nat → Bool) (N i : Nat) (h : i < N) : rd (wordsTo p N) (i : Int) = wordP (fun t => p (64 * i + t)) := by
  rw [rd_get _ i (by rw [wordsTo_len]; exact h)]
  simp [wordsTo]
theorem wordsTo_InI (p : Nat → Bool) (N : Nat) : ∀ x, x ∈ wordsTo p N → InI x := by
  intro x hx
  obtain ⟨i, _, rfl⟩ := List.mem_map.1 hx
  exact InI_wordP _
theorem memW_wordsTo (p : Nat → Bool) (N n : Nat) : memW (wordsTo p N) n = (decide (n < 64 * N) && p n) := by
  by_cases h : n < 64 * N
  · unfold memW
    rw [wordsTo_rd p N _ (by omega), bit_wordP _ _ (by omega), show 64 * (n / 64) + n % 64 = n by omega]
    simp [h]
  · rw [memW_ge _ _ (by rw [wordsTo_len]; omega)]
    simp [h]
theorem wordsTo_succ (p : Nat → Bool) (N : Nat) : wordsTo p (N + 1) = wordsTo p N ++ [wordP (fun t => p (64 * N + t))] := by simp [wordsTo, List.range_succ]
theorem wordsTo_congr {p q : Nat → Bool} (N : Nat) (h : ∀ n, n < 64 * N → p n = q n) : wordsTo p N = wordsTo q N := by
  unfold wordsTo
  refine List.map_congr_left (fun i hi => wordP_congr (fun t ht => h _ ?_))
  have := List.mem_range.1 hi
  omega
theorem words_ext {a b : List Int} (hl : a.length = b.length) (ha : ∀ x, x ∈ a → InI x) (hb : ∀ x, x ∈ b → InI x) (h : ∀ n, n < 64 * a.length → memW a n = memW b n) : a = b := by
  refine List.ext_getElem hl (fun i h1 h2 => ?_)
  refine bit_inj (ha _ (List.getElem_mem h1)) (hb _ (List.getElem_mem h2)) (fun t ht => ?_)
  have := h (64 * i + t) (by omega)
  rw [memW_at _ _ _ ht, memW_at _ _ _ ht, rd_get a i h1, rd_get b i h2] at this
  exact this
theorem wordsTo_zero (N : Nat) : List.replicate N 0 = wordsTo (fun _ => false) N := by
  have : wordP (fun _ => false) = 0 := (wordP_of (by unfold InI; decide) _ (fun i _ => by rw [bit_zero])).symm
  unfold wordsTo
  simp only [this]
  rw [List.map_const', List.length_range]
def mayW (l : List Int) : Bool := decide (l.length ≤ 1024 ∧ (l.length = 0 ∨ rd l ((l.length - 1 : Nat) : Int) ≠ 0))
def normW (l : List Int) : Prop := l.length = 0 ∨ rd l ((l.length - 1 : Nat) : Int) ≠ 0
theorem bit_some {x : Int} (h : InI x) (h0 : x ≠ 0) : ∃ t, t < 64 ∧ bit x t = true := by
  refine Classical.byContradiction (fun hn => h0 (bit_inj h (by unfold InI; decide) (fun t ht => ?_)))
  rw [bit_zero]
  cases hb : bit x t
  · rfl
  · exact absurd ⟨t, ht, hb⟩ hn
theorem norm_len {a : List Int} (ha : ∀ x, x ∈ a → InI x) (hn : normW a) (m : Nat) (h : ∀ n, 64 * m ≤ n → memW a n = false) : a.length ≤ m := by
  rcases hn with h0 | h0
  · omega
  · refine Nat.le_of_not_lt (fun hlt => ?_)
    obtain ⟨t, ht, hb⟩ := bit_some (ha _ (rd_mem a (a.length - 1) (by omega))) h0
    have := h (64 * (a.length - 1) + t) (by omega)
    rw [memW_at _ _ _ ht, hb] at this
    cases this
theorem norm_unique {a b : List Int} (ha : ∀ x, x ∈ a → InI x) (hb : ∀ x, x ∈ b → InI x) (na : normW a) (nb : normW b) (h : ∀ n, memW a n = memW b n) : a = b := by
  have h1 := norm_len ha na b.length (fun n hn => by rw [h n]; exact memW_ge b n hn)
  have h2 := norm_len hb nb a.length (fun n hn => by rw [← h n]; exact memW_ge a n hn)
  exact words_ext (by omega) ha hb (fun n _ => h n)
def trimN (l : List Int) : Nat → Nat
  | 0 => 0
  | n + 1 => if rd l (n : Int) = 0 then trimN l n else n + 1
theorem trimN_ok (l : List Int) : ∀ n, trimN l n ≤ n ∧ (trimN l n = 0 ∨ rd l ((trimN l n - 1 : Nat) : Int) ≠ 0) ∧ ∀ i, trimN l n ≤ i → i < n → rd l (i : Int) = 0
  | 0 => ⟨Nat.le_refl _, .inl rfl, fun i _ h => absurd h (Nat.not_lt_zero i)⟩
  | n + 1 => by
    obtain ⟨h1, h2, h3⟩ := trimN_ok l n
    simp only [trimN]
    split
    · rename_i h0
      refine ⟨by omega, h2, fun i hi hlt => ?_⟩
      by_cases e : i = n
      · subst e; exact h0
      · exact h3 i hi (by omega)
    · rename_i h0
      exact ⟨Nat.le_refl _, .inr (by rw [Nat.add_sub_cancel]; exact h0), fun i hi hlt => by omega⟩
def trimW (l : List Int) : List Int := l.take (trimN l l.length)
theorem rd_take (l : List Int) (m i : Nat) (h : i < m) : rd (l.take m) (i : Int) = rd l (i : Int) := by
  unfold rd
  rw [Int.toNat_natCast, List.getD_eq_getElem?_getD, List.getD_eq_getElem?_getD, List.getElem?_take, if_pos h]
theorem trimW_len (l : List Int) : (trimW l).length = trimN l l.length := by
  have := (trimN_ok l l.length).1
  unfold trimW
  rw [List.length_take, Nat.min_eq_left this]
theorem trimW_mem (l : List Int) (n : Nat) : memW (trimW l) n = memW l n := by
  have hk := trimN_ok l l.length
  unfold memW
  by_cases h : n / 64 < trimN l l.length
  · unfold trimW; rw [rd_take _ _ _ h]
  · rw [rd_ge (trimW l) _ (by rw [trimW_len]; omega)]
    by_cases h2 : n / 64 < l.length
    · rw [hk.2.2 _ (by omega) h2]
    · rw [rd_ge l _ (by omega)]
theorem trimW_norm (l : List Int) : normW (trimW l) := by
  have hk := trimN_ok l l.length
  unfold normW
  rw [trimW_len]
  rcases hk.2.1 with h | h
  · exact .inl h
  · by_cases h0 : trimN l l.length = 0
    · exact .inl h0
    · right
      unfold trimW
      rw [rd_take _ _ _ (by omega)]
      exact h
theorem trimW_InI {l : List Int} (h : ∀ x, x ∈ l → InI x) : ∀ x, x ∈ trimW l → InI x := fun x hx => h x (List.mem_of_mem_take hx)
theorem mayW_norm {l : List Int} (h : mayW l = true) : l.length ≤ 1024 ∧ normW l := by
  unfold mayW at h
  have h2 := of_decide_eq_true h
  exact h2
theorem words_May_eq (l : List Int) (hl : l.length ≤ 17592186044416) : words_May.f l = some (mayW l) := by
  unfold words_May.f mayW
  by_cases h1 : (l.length : Int) ≤ 1024
  · rw [if_pos h1]
    by_cases h2 : (l.length : Int) = 0
    · rw [if_pos h2, decide_eq_true ⟨by omega, .inl (by omega)⟩]
    · have hw : wrap64 ((l.length : Int) - 1) = ((l.length - 1 : Nat) : Int) := by unfold wrap64; omega
      rw [if_neg h2, hw, if_pos (by omega), if_pos (by omega)]
      congr 1
      by_cases h3 : rd l ((l.length - 1 : Nat) : Int) = 0
      · rw [decide_eq_false (fun h => by rcases h.2 with h | h; omega; exact h h3), h3]; rfl
      · rw [decide_eq_true ⟨by omega, .inr h3⟩]; simpa using h3
  · rw [if_neg h1, decide_eq_false (fun h => by omega)]
theorem ref15_May_eq (l : List Int) (hl : l.length ≤ 17592186044416) : peristyleref15_May.f l = some (mayW l) := words_May_eq l hl
theorem trimmed_loop (l : List Int) (hl : l.length ≤ 17592186044416) : ∀ n, n ≤ l.length → Ev (fun k => words_trimmed.l0 k (l.take n)) (l.take (trimN l n))
  | 0, _ => by
    refine Ev.step (fun k => words_trimmed.l0_succ k _) (Ev.no (by simp) (Ev.now _))
  | n + 1, h => by
    have hlen : (l.take (n + 1)).length = n + 1 := by rw [List.length_take]; omega
    have hw : wrap64 (((l.take (n + 1)).length : Int) - 1) = (n : Int) := by rw [hlen]; unfold wrap64; omega
    refine Ev.step (fun k => words_trimmed.l0_succ k _) (Ev.yes (by omega) ?_)
    rw [hw]
    refine Ev.yes (by omega) (Ev.yes (by omega) ?_)
    rw [rd_take _ _ _ (Nat.lt_succ_self n)]
    simp only [trimN]
    by_cases h0 : rd l (n : Int) = 0
    · rw [if_pos h0]
      refine Ev.yes h0 (Ev.yes (by omega) ?_)
      rw [Int.toNat_natCast, List.take_take, Nat.min_eq_left (Nat.le_succ n)]
      exact trimmed_loop l hl n (by omega)
    · rw [if_neg h0]
      exact Ev.no h0 (Ev.now _)
theorem words_trimmed_ev (l : List Int) (hl : l.length ≤ 17592186044416) : Ev (fun k => words_trimmed.f k l) (trimW l) := by
  have := trimmed_loop l hl l.length (Nat.le_refl _)
  rw [List.take_length] at this
  exact this
theorem memW_set (l : List Int) (q n : Nat) (x : Int) (h : q < l.length) : memW (l.set q x) n = if n / 64 = q then bit x (n % 64) else memW l n := by
  unfold memW rd
  rw [Int.toNat_natCast, List.getD_eq_getElem?_getD, List.getD_eq_getElem?_getD]
  by_cases e : n / 64 = q
  · rw [if_pos e, e, List.getElem?_set_self h]; rfl
  · rw [if_neg e, List.getElem?_set_ne (fun h => e h.symm)]
theorem fills_loop (N : Nat) (hN : N ≤ 1048576) (hi : Nat) (hhi : hi ≤ 64 * N) (q : Nat → Bool) : ∀ (d lo : Nat) (V : List Int), lo + d = hi ∨ (hi ≤ lo ∧ d = 0) → V.length = N → (∀ x, x ∈ V → InI x) → (∀ n, n < 64 * N → q n = (memW V n || decide (lo ≤ n ∧ n < hi))) →
    Ev (fun k => words_fills.l0 k V (lo : Int) (hi : Int)) (wordsTo q N) := by
  intro d
  induction d using Nat.strongRecOn with
  | ind d ih =>
    intro lo V hd hV hI hq
    by_cases hlt : lo < hi
    · have hlo : lo + d = hi := by omega
      have hA : Go.bits .and .i64 (lo : Int) 63 = ((lo % 64 : Nat) : Int) := by rw [and_63]; rfl
      have hD : (lo : Int) / 64 = ((lo / 64 : Nat) : Int) := rfl
      obtain ⟨m, hm⟩ : ∃ m : Nat, mn (wrap64 (64 - ((lo % 64 : Nat) : Int))) (wrap64 ((hi : Int) - (lo : Int))) = (m : Int) := ⟨(mn (wrap64 (64 - ((lo % 64 : Nat) : Int))) (wrap64 ((hi : Int) - (lo : Int)))).toNat, by unfold mn wrap64; split <;> omega⟩
      have hm1 : 0 < m ∧ lo % 64 + m ≤ 64 ∧ lo + m ≤ hi := by unfold mn wrap64 at hm; split at hm <;> omega
      refine Ev.step (fun k => words_fills.l0_succ k _ _ _) (Ev.yes (by omega) ?_)
      rw [hA, hD, hm]
      refine Ev.yes (by omega) (Ev.yes (by omega) (Ev.call (bits_With_eq (hI _ (rd_mem V (lo / 64) (by omega))) _ _ _) ?_))
      rw [show wrap64 ((lo : Int) + (m : Int)) = ((lo + m : Nat) : Int) by unfold wrap64; omega, Int.toNat_natCast]
      refine ih (d - m) (by omega) (lo + m) _ (by omega) (by rw [List.length_set]; exact hV) (fun x hx => ?_) (fun n hn => ?_)
      · rcases List.mem_or_eq_of_mem_set hx with h | h
        · exact hI x h
        · rw [h]; exact InI_wordP _
      · rw [hq n hn, memW_set _ _ _ _ (by omega)]
        by_cases e : n / 64 = lo / 64
        · rw [if_pos e, bit_wordP _ _ (by omega)]
          unfold withP
          have hmem : memW V n = bit (rd V ((lo / 64 : Nat) : Int)) (n % 64) := by unfold memW; rw [e]
          by_cases c : lo ≤ n ∧ n < lo + m
          · have c1 : (0 : Int) ≤ ((lo % 64 : Nat) : Int) ∧ ((lo % 64 : Nat) : Int) < 64 ∧ ((lo % 64 : Nat) : Int) ≤ ((n % 64 : Nat) : Int) ∧ ((n % 64 : Nat) : Int) - ((lo % 64 : Nat) : Int) < (m : Int) := by omega
            rw [if_pos c1, bit_neg1 _ (by omega), decide_eq_true (show lo ≤ n ∧ n < hi by omega)]
            simp
          · have c1 : ¬ ((0 : Int) ≤ ((lo % 64 : Nat) : Int) ∧ ((lo % 64 : Nat) : Int) < 64 ∧ ((lo % 64 : Nat) : Int) ≤ ((n % 64 : Nat) : Int) ∧ ((n % 64 : Nat) : Int) - ((lo % 64 : Nat) : Int) < (m : Int)) := by omega
            rw [if_neg c1, ← hmem]
            congr 1
            rw [decide_eq_decide]; omega
        · rw [if_neg e]
          congr 1
          rw [decide_eq_decide]; omega
    · refine Ev.step (fun k => words_fills.l0_succ k _ _ _) (Ev.no (by omega) (Ev.val ?_))
      refine words_ext (by rw [hV, wordsTo_len]) hI (wordsTo_InI _ _) (fun n hn => ?_)
      rw [memW_wordsTo, hq n (by omega)]
      have h1 : n < 64 * N := by omega
      have h2 : ¬ (lo ≤ n ∧ n < hi) := by omega
      simp [h1, h2]
theorem fills_ev (p : Nat → Bool) (N : Nat) (hN : N ≤ 1048576) (lo hi : Nat) (hhi : hi ≤ 64 * N) : Ev (fun k => words_fills.f k (wordsTo p N) (lo : Int) (hi : Int)) (wordsTo (fun n => p n || decide (lo ≤ n ∧ n < hi)) N) :=
  fills_loop N hN hi hhi _ (hi - lo) lo _ (by omega) (wordsTo_len _ _) (wordsTo_InI _ _) (fun n hn => by
    rw [memW_wordsTo]; simp [hn])
def topN (l : List S48) : Nat := ((topS l + 63) / 64).toNat
noncomputable def ofR (l : List S48) : List Int × Int := if mayB l (-1) = true then (wordsTo (memS l) (topN l), 0) else ([], 1)
theorem topN_le {l : List S48} (h : mayB l (-1) = true) : topN l ≤ 1024 ∧ topS l ≤ ((64 * topN l : Nat) : Int) ∧ (topN l : Int) = (topS l + 63) / 64 := by
  have := topS_le h
  unfold topN
  omega
theorem words_of_loop (l : List S48) (hl : l.length ≤ 4398046511104) (hm : mayB l (-1) = true) (hN : ∀ s, s ∈ l → s.f1 ≤ ((64 * topN l : Nat) : Int)) : ∀ (d i : Nat), i + d = l.length → Ev (fun k => words_Of.l0 k (wordsTo (memS (l.take i)) (topN l)) l (l.length : Int) (i : Int)) (wordsTo (memS l) (topN l), 0)
  | 0, i, h => by
    refine Ev.step (fun k => words_Of.l0_succ k _ _ _ _) (Ev.no (by omega) (Ev.val ?_))
    rw [List.take_of_length_le (by omega)]
  | d + 1, i, h => by
    have hi : i < l.length := by omega
    have hlow := mayB_low hm l[i] (List.getElem_mem hi)
    obtain ⟨lo, hlo⟩ := Int.eq_ofNat_of_zero_le (show 0 ≤ l[i].f0 by omega)
    obtain ⟨hi', hhi⟩ := Int.eq_ofNat_of_zero_le (show 0 ≤ l[i].f1 by omega)
    have hNi := hN l[i] (List.getElem_mem hi)
    have ht := topN_le hm
    refine Ev.step (fun k => words_Of.l0_succ k _ _ _ _) (Ev.yes (by omega) (Ev.yes (by omega) (Ev.yes (by omega) ?_)))
    rw [rdS_get l i hi, hlo, hhi]
    refine Ev.bind (fills_ev (memS (l.take i)) (topN l) (by omega) lo hi' (by omega)) ?_
    have hih := words_of_loop l hl hm hN d (i + 1) (by omega)
    have e : wordsTo (fun n => memS (l.take i) n || decide (lo ≤ n ∧ n < hi')) (topN l) = wordsTo (memS (l.take (i + 1))) (topN l) := by
      refine wordsTo_congr _ (fun n _ => ?_)
      rw [List.take_succ_eq_append_getElem hi, memS_append, memS_cons, hlo, hhi]
      simp only [memS, List.any_nil, Bool.or_false]
      congr 1
      rw [decide_eq_decide]; omega
    rw [e, show wrap64 ((i : Int) + 1) = ((i + 1 : Nat) : Int) by unfold wrap64; omega]
    exact hih
theorem low_top {l : List S48} {a : Int} (hm : mayB l a = true) : ∀ s, s ∈ l → s.f1 ≤ topS l := by
  induction l generalizing a with
  | nil => intro s hs; simp at hs
  | cons x l ih =>
    obtain ⟨h1, h2, h3, h4⟩ := mayB_cons hm
    intro s hs
    cases l with
    | nil =>
      have : s = x := by simpa using hs
      subst this
      simp [topS]
    | cons y m =>
      have e : topS (x :: y :: m) = topS (y :: m) := by simp [topS, List.getLast?_cons_cons]
      rw [e]
      rcases List.mem_cons.1 hs with rfl | hs
      · have := ih h4 y List.mem_cons_self
        have := mayB_cons h4
        omega
      · exact ih h4 s hs
theorem words_Of_ev (l : List S48) (hl : l.length ≤ 4398046511104) : Ev (fun k => words_Of.f k l) (ofR l) := by
  unfold words_Of.f
  refine Ev.bind (span_May_ev l hl) ?_
  cases hm : mayB l (-1)
  · unfold ofR
    rw [hm]
    exact Ev.no (by decide) (Ev.now _)
  · have hof : ofR l = (wordsTo (memS l) (topN l), 0) := by unfold ofR; rw [if_pos hm]
    rw [hof]
    refine Ev.yes rfl ?_
    have htl := topN_le hm
    have hts := topS_le hm
    by_cases h0 : (l.length : Int) = 0
    · obtain rfl : l = [] := List.eq_nil_of_length_eq_zero (by omega)
      exact Ev.yes rfl (Ev.now _)
    · have hw : wrap64 ((l.length : Int) - 1) = ((l.length - 1 : Nat) : Int) := by unfold wrap64; omega
      have htop : (rd_T48 l ((l.length - 1 : Nat) : Int)).f1 = topS l := by
        rw [rdS_get l _ (by omega)]
        unfold topS
        rw [List.getLast?_eq_getElem?, List.getElem?_eq_getElem (by omega)]
      refine Ev.no h0 ?_
      rw [hw, htop]
      have hNe : wrap64 (wrap64 (topS l + 64) - 1) / 64 = (topN l : Int) := by
        rw [htl.2.2, show wrap64 (wrap64 (topS l + 64) - 1) = topS l + 63 by unfold wrap64; omega]
      rw [hNe]
      refine Ev.yes (by omega) (Ev.yes (by omega) (Ev.yes (by omega) (Ev.yes (by omega) ?_)))
      rw [Int.toNat_natCast, wordsTo_zero]
      have := words_of_loop l hl hm (fun s hs => by have := low_top hm s hs; omega) l.length 0 (by omega)
      have e : wordsTo (memS (l.take 0)) (topN l) = wordsTo (fun _ => false) (topN l) := wordsTo_congr _ (fun n _ => by simp [memS])
      rw [e] at this
      exact this
theorem of_norm {l : List S48} (hm : mayB l (-1) = true) : normW (wordsTo (memS l) (topN l)) := by
  have htl := topN_le hm
  have hts := topS_le hm
  unfold normW
  rw [wordsTo_len]
  by_cases h0 : topN l = 0
  · exact .inl h0
  · right
    rw [wordsTo_rd _ _ _ (by omega)]
    intro hz
    rcases List.eq_nil_or_concat l with rfl | ⟨m, s, rfl⟩
    · simp [topN, topS] at h0
    · rw [List.concat_eq_append] at *
      have hs := (mayB_snoc m s (-1)).1 hm
      have hf : 0 ≤ s.f0 := by have := mayB_low hm s (by simp); omega
      have htop := topS_snoc m s
      obtain ⟨t, ht⟩ := Int.eq_ofNat_of_zero_le (show 0 ≤ s.f1 - 1 by omega)
      have hmem : memS (m ++ [s]) t = true := by
        rw [memS_append, memS_cons]
        have : decide (s.f0 ≤ (t : Int) ∧ (t : Int) < s.f1) = true := by rw [decide_eq_true_eq]; omega
        rw [this]; simp
      have hb : bit (wordP (fun x => memS (m ++ [s]) (64 * (topN (m ++ [s]) - 1) + x))) (t - 64 * (topN (m ++ [s]) - 1)) = true := by
        rw [bit_wordP _ _ (by omega), show 64 * (topN (m ++ [s]) - 1) + (t - 64 * (topN (m ++ [s]) - 1)) = t by omega]
        exact hmem
      rw [hz, bit_zero] at hb
      cases hb
theorem of_mem {l : List S48} (hm : mayB l (-1) = true) (n : Nat) : memW (wordsTo (memS l) (topN l)) n = memS l n := by
  rw [memW_wordsTo]
  by_cases h : n < 64 * topN l
  · simp [h]
  · have htl := topN_le hm
    cases hc : memS l n
    · simp
    · have := (memS_top hm n hc).1
      omega
/-! ### two sets -/
noncomputable def bothR (f : Int → Int → Int) (a b : List Int) : List Int × Int := if mayW a = true ∧ mayW b = true then (trimW ((List.range (max a.length b.length)).map (fun (i : Nat) => f (rd a (i : Int)) (rd b (i : Int)))), 0) else ([], 1)
theorem comb_mem (f : Int → Int → Int) (o : Bool → Bool → Bool) (hf : ∀ x y i, bit (f x y) i = o (bit x i) (bit y i)) (h0 : o false false = false) (a b : List Int) (n : Nat) : memW ((List.range (max a.length b.length)).map (fun (i : Nat) => f (rd a (i : Int)) (rd b (i : Int)))) n = o (memW a n) (memW b n) := by
  by_cases h : n / 64 < max a.length b.length
  · unfold memW
    rw [rd_get _ (n / 64) (by simp; omega)]
    simp only [List.getElem_map, List.getElem_range]
    exact hf _ _ _
  · rw [memW_ge _ _ (by simp; omega), memW_ge a _ (by omega), memW_ge b _ (by omega), h0]
theorem both_loop_Less (a b : List Int) (hN : max a.length b.length ≤ 1024) : ∀ (d i : Nat), i + d = max a.length b.length → Ev (fun k => words_both_fn41.l0 k a b ((List.range i).map (fun (i : Nat) => Go.bits .andNot .i64 (rd a (i : Int)) (rd b (i : Int))) ++ List.replicate d 0) ((max a.length b.length : Nat) : Int) (i : Int)) (trimW ((List.range (max a.length b.length)).map (fun (i : Nat) => Go.bits .andNot .i64 (rd a (i : Int)) (rd b (i : Int)))), 0)
  | 0, i, h => by
    obtain rfl : i = max a.length b.length := by omega
    refine Ev.step (fun k => words_both_fn41.l0_succ k _ _ _ _ _) (Ev.no (by omega) ?_)
    rw [List.replicate_zero, List.append_nil]
    exact Ev.bind (words_trimmed_ev _ (by simp; omega)) (Ev.now _)
  | d + 1, i, h => by
    have hih := both_loop_Less a b hN d (i + 1) (by omega)
    have hg : ∀ l : List Int, words_both_1.f l (i : Int) = some (rd l (i : Int)) := fun l => by
      unfold words_both_1.f
      by_cases c : (i : Int) < (l.length : Int)
      · rw [if_pos c, if_pos (by omega)]
      · rw [if_neg c, rd_ge l i (by omega)]
    refine Ev.step (fun k => words_both_fn41.l0_succ k _ _ _ _ _) (Ev.yes (by omega) (Ev.call (hg a) (Ev.call (hg b) (Ev.call rfl (Ev.yes (by omega) (Ev.yes (by simp; omega) ?_))))))
    have e : ((List.range i).map (fun (i : Nat) => Go.bits .andNot .i64 (rd a (i : Int)) (rd b (i : Int))) ++ List.replicate (d + 1) 0).set (i : Int).toNat (Go.bits .andNot .i64 (rd a (i : Int)) (rd b (i : Int))) = (List.range (i + 1)).map (fun (i : Nat) => Go.bits .andNot .i64 (rd a (i : Int)) (rd b (i : Int))) ++ List.replicate d 0 := by
      rw [Int.toNat_natCast, List.set_append_right _ _ (by simp), List.range_succ, List.replicate_succ]
      simp
    rw [e, show wrap64 ((i : Int) + 1) = ((i + 1 : Nat) : Int) by unfold wrap64; omega]
    exact hih
theorem words_Less_ev (a b : List Int) (ha : a.length ≤ 17592186044416) (hb : b.length ≤ 17592186044416) : Ev (fun k => words_Less.f k a b) (bothR (Go.bits .andNot .i64) a b) := by
  have hin : Ev (fun k => words_both_fn41.f k a b) (bothR (Go.bits .andNot .i64) a b) := by
    unfold words_both_fn41.f
    refine Ev.call (words_May_eq a ha) ?_
    unfold bothR
    cases h1 : mayW a
    · exact Ev.no (by decide) (Ev.step (fun k => words_both_fn41.j0_succ k _ _ _) (Ev.yes rfl (Ev.now _)))
    · refine Ev.yes rfl (Ev.call (words_May_eq b hb) (Ev.step (fun k => words_both_fn41.j0_succ k _ _ _) ?_))
      cases h2 : mayW b
      · exact Ev.yes rfl (Ev.now _)
      · have l1 := (mayW_norm h1).1
        have l2 := (mayW_norm h2).1
        rw [if_pos (And.intro rfl rfl)]
        have hmx : mx (a.length : Int) (b.length : Int) = ((max a.length b.length : Nat) : Int) := by unfold mx; split <;> omega
        refine Ev.no (by decide) ?_
        rw [hmx]
        refine Ev.yes (by omega) (Ev.yes (by omega) (Ev.call rfl ?_))
        rw [Int.toNat_natCast, List.length_replicate]
        have := both_loop_Less a b (by omega) (max a.length b.length) 0 (by omega)
        exact this
  unfold words_Less.f
  exact Ev.bind hin (Ev.now _)
end Go.Proofs.Ytgielanobeclnaa.Print
