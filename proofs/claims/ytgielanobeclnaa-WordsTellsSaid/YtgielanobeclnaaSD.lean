-- The next bit of a word, and its ones.
import Derived.Test.YtgielanobeclnaaPrint4
import Derived.Test.YtgielanobeclnaaXB
import Derived.Test.YtgielanobeclnaaSC
set_option linter.unusedVariables false
set_option linter.unusedSimpArgs false
namespace Go.Proofs.Ytgielanobeclnaa.Print
open Go.RowKit Go.Proofs.YtgielanobeclnaaW.PrintWords Go.Proofs.YtgielanobeclnaaW.PrintMore
theorem least_of (q : Nat → Prop) [DecidablePred q] : ∀ n, (∀ i, i < n → ¬ q i) ∨ ∃ p, p < n ∧ q p ∧ ∀ i, i < p → ¬ q i
  | 0 => .inl (fun i hi => by omega)
  | n + 1 => by
    rcases least_of q n with h | ⟨p, hp, hq, h⟩
    · by_cases e : q n
      · exact .inr ⟨n, by omega, e, h⟩
      · refine .inl (fun i hi => ?_)
        by_cases e2 : i = n
        · subst e2; exact e
        · exact h i (by omega)
    · exact .inr ⟨p, by omega, hq, h⟩
theorem nextIn_none (l : List Bool) (frm : Int) : ∀ d, d ≤ 64 → (∀ i, 64 - d ≤ i → i < 64 → bAt l i = true → ¬ frm ≤ (i : Int)) → nextIn l frm d = -1
  | 0, _, _ => rfl
  | d + 1, hd, h => by
    simp only [nextIn]
    rw [if_neg (fun hh => h (63 - d) (by omega) (by omega) hh.1 hh.2)]
    exact nextIn_none l frm d (by omega) (fun i h1 h2 => h i (by omega) h2)
theorem nextIn_some (l : List Bool) (frm : Int) (p : Nat) (hp : p < 64) (hb : bAt l p = true) (hf : frm ≤ (p : Int)) : ∀ d, d ≤ 64 → 64 - d ≤ p → (∀ i, 64 - d ≤ i → i < p → ¬ (bAt l i = true ∧ frm ≤ (i : Int))) → nextIn l frm d = (p : Int)
  | 0, _, h, _ => by omega
  | d + 1, hd, h, hn => by
    simp only [nextIn]
    by_cases e : 63 - d = p
    · rw [e, if_pos ⟨hb, hf⟩]
    · rw [if_neg (hn (63 - d) (by omega) (by omega))]
      exact nextIn_some l frm p hp hb hf d (by omega) (by omega) (fun i h1 h2 => hn i (by omega) h2)
theorem bits_Next_eq (k : Nat) (a frm : Int) : bits_Next.f (k + 7) a frm = some (nextIn (bitsOf a) frm 64) := by
  unfold bits_Next.f
  have hm : mx frm 0 = if frm < 0 then 0 else frm := rfl
  obtain ⟨m, hmm⟩ : ∃ m : Nat, mx frm 0 = (m : Int) := ⟨(mx frm 0).toNat, by rw [hm]; split <;> omega⟩
  have hfi : ∀ i : Nat, frm ≤ (i : Int) ↔ m ≤ i := by
    intro i
    rw [hm] at hmm
    split at hmm <;> omega
  rw [hmm]
  by_cases h64 : (m : Int) ≥ 64
  · rw [if_pos h64, nextIn_none _ _ 64 (by omega) (fun i _ hi _ => by rw [hfi]; omega)]
  · rw [if_neg h64]
    have hbw : ∀ i, i < 64 → bit (shl .u64 (shr .u64 (IntKind.u64.wrap a) m) m) i = (decide (m ≤ i) && bit a i) := by
      intro i hi
      rw [bit_shl _ _ i hi, bit_shr (InU_u64 _), bit_u64, Int.toNat_natCast]
      by_cases h : m ≤ i
      · rw [show m + (i - m) = i by omega]
      · simp [h]
    have hU : InU (shl .u64 (shr .u64 (IntKind.u64.wrap a) m) m) := InU_shl _ _
    generalize shl .u64 (shr .u64 (IntKind.u64.wrap a) m) m = w at hbw hU ⊢
    rcases least_of (fun i => bit w i = true) 64 with hn | ⟨p, hp, hq, hlow⟩
    · have h0 : w = 0 := by
        have e : B w = B 0 := BitVec.eq_of_getLsbD_eq (fun i hi => by
          show bit w i = bit 0 i
          rw [bit_zero]
          simpa using hn i hi)
        have e2 : IntKind.u64.wrap w = IntKind.u64.wrap 0 := by rw [u64_wn, u64_wn]; unfold wn; rw [e]
        rw [u64_id hU] at e2
        rw [e2, u64_wrap]; rfl
      rw [if_pos h0, nextIn_none _ _ 64 (by omega) (fun i _ hi hb => by
        rw [hfi]
        intro hmi
        have := hn i hi
        rw [hbw i hi] at this
        rw [bAt_bitsOf] at hb
        simp [hmi, hb] at this)]
    · have h0 : ¬ w = 0 := by
        intro e
        rw [e, bit_zero] at hq
        exact absurd hq (by simp)
      rw [if_neg h0, bits_Width_eq]
      simp only [Option.bind_some]
      congr 1
      have hbv : ∀ i, i < 64 → bit (wrap64 (Go.bits .and .u64 w (IntKind.u64.wrap (-w)))) i = decide (i = p) := by
        intro i hi
        rw [bit_wrap64, bit_uand, bit_u64, bit_neg _ i hi]
        by_cases e : i = p
        · subst e
          have : ¬ ∃ j, j < i ∧ bit w j = true := fun ⟨j, hj, hb⟩ => hlow j hj hb
          simp [hq, this]
        · by_cases hlt : i < p
          · have : bit w i = false := by simpa using hlow i hlt
            simp [this, e]
          · have : ∃ j, j < i ∧ bit w j = true := ⟨p, by omega, hq⟩
            simp [this, e]
      rw [topTo_of _ (p + 1) 64 (by omega) (fun i h1 h2 => by rw [bAt_bitsOf, hbv i h2]; simp; omega) (.inr (by rw [bAt_bitsOf, Nat.add_sub_cancel, hbv p hp]; simp))]
      rw [hbw p hp] at hq
      simp at hq
      rw [nextIn_some _ _ p hp (by rw [bAt_bitsOf]; exact hq.2) ((hfi p).2 hq.1) 64 (by omega) (by omega) (fun i _ hi hh => by
        have := hlow i hi
        rw [hbw i (by omega)] at this
        rw [bAt_bitsOf] at hh
        simp [hh.1, (hfi i).1 hh.2] at this)]
      unfold wrap64
      omega
theorem uand_15 (x : Int) (hx : InU x) : Go.bits .and .u64 x 15 = x % 16 := by
  have h : IntKind.u64.wrap (Go.bits .and .u64 x 15) = IntKind.u64.wrap (x % 16) := by
    rw [u64_wn, u64_wn]
    unfold wn
    congr 1
    rw [B_uand, BitVec.toNat_and, show (B 15).toNat = 2 ^ 4 - 1 by decide, Nat.and_two_pow_sub_one_eq_mod, B_toNat, B_toNat]
    omega
  rw [u64_id (InU_bits _ _ _), u64_id (by unfold InU; omega)] at h
  exact h
theorem ones_bit (x : Int) (i : Nat) (h : i < 4) : bit x i = decide (x % 16 / 2 ^ i % 2 = 1) := by
  rw [bit_div x i (by omega), decide_eq_decide]
  have : i = 0 ∨ i = 1 ∨ i = 2 ∨ i = 3 := by omega
  rcases this with rfl | rfl | rfl | rfl <;> simp <;> omega
theorem if_one (acc t : Int) (h : t = 0 ∨ t = 1) : (if decide (t = 1) = true then acc + 1 else acc) = acc + t := by
  rcases h with rfl | rfl <;> simp
theorem ones_nib (x : Int) : onesTo (bitsOf x) 4 = x % 16 % 2 + x % 16 / 2 % 2 + x % 16 / 4 % 2 + x % 16 / 8 % 2 := by
  simp only [onesTo, bAt_bitsOf, ones_bit x 0 (by omega), ones_bit x 1 (by omega), ones_bit x 2 (by omega), ones_bit x 3 (by omega)]
  rw [if_one 0 _ (by omega), if_one _ _ (by omega), if_one _ _ (by omega), if_one _ _ (by omega)]
  simp
theorem half_j1 (k : Nat) (c : Int) (b : Bool) : bits_half.j1 (k + 1) 0 c b = if b = true then some 2 else if c = 1 ∨ c = 2 ∨ c = 4 ∨ c = 8 then some 1 else some 0 := by
  rw [bits_half.j1_succ]
  rw [show wrap64 (0 + 1) = 1 by unfold wrap64; rfl, show wrap64 (1 + 1) = 2 by unfold wrap64; rfl]
  split
  · rfl
  · by_cases h1 : c = 1
    · simp [h1]
    · by_cases h2 : c = 2
      · simp [h2]
      · by_cases h4 : c = 4
        · simp [h4]
        · by_cases h8 : c = 8
          · simp [h8]
          · simp [h1, h2, h4, h8]
theorem half_j0 (k : Nat) (c : Int) (b : Bool) : bits_half.j0 (k + 2) 0 c b = if b = true then some 3 else if c = 3 ∨ c = 5 ∨ c = 6 ∨ c = 9 ∨ c = 10 ∨ c = 12 then some 2 else if c = 1 ∨ c = 2 ∨ c = 4 ∨ c = 8 then some 1 else some 0 := by
  rw [bits_half.j0_succ]
  simp only [half_j1]
  rw [show wrap64 (0 + 1) = 1 by unfold wrap64; rfl, show wrap64 (1 + 1) = 2 by unfold wrap64; rfl, show wrap64 (2 + 1) = 3 by unfold wrap64; rfl]
  by_cases hb : b = true
  · simp [hb]
  · rw [if_neg hb, if_neg hb]
    by_cases h3 : c = 3
    · simp [h3]
    · by_cases h5 : c = 5
      · simp [h5]
      · by_cases h6 : c = 6
        · simp [h6]
        · by_cases h9 : c = 9
          · simp [h9]
          · by_cases h10 : c = 10
            · simp [h10]
            · by_cases h12 : c = 12
              · simp [h12]
              · simp [h3, h5, h6, h9, h10, h12]
theorem bits_half_eq (k : Nat) (x : Int) (hx : InU x) : bits_half.f (k + 2) x = some (onesTo (bitsOf x) 4) := by
  rw [ones_nib]
  unfold bits_half.f
  rw [uand_15 x hx]
  simp only [half_j0]
  have h0 : 0 ≤ x % 16 := by omega
  have h1 : x % 16 < 16 := by omega
  generalize x % 16 = c at h0 h1 ⊢
  by_cases e15 : c = 15
  · subst e15; rfl
  · rw [if_neg e15]
    by_cases e7 : c = 7
    · subst e7; rfl
    · rw [if_neg e7]
      by_cases e11 : c = 11
      · subst e11; rfl
      · rw [if_neg e11]
        by_cases e13 : c = 13
        · subst e13; rfl
        · rw [if_neg e13]
          by_cases e14 : c = 14
          · subst e14; rfl
          · rw [if_neg (by simpa using e14)]
            by_cases a : c = 3 ∨ c = 5 ∨ c = 6 ∨ c = 9 ∨ c = 10 ∨ c = 12
            · rw [if_pos a]
              congr 1
              omega
            · rw [if_neg a]
              by_cases b : c = 1 ∨ c = 2 ∨ c = 4 ∨ c = 8
              · rw [if_pos b]
                congr 1
                omega
              · rw [if_neg b]
                congr 1
                omega
theorem onesTo_add (l : List Bool) (n : Nat) : ∀ m, onesTo l (n + m) = onesTo l n + onesTo (l.drop n) m
  | 0 => by simp [onesTo]
  | m + 1 => by
    have e : bAt (l.drop n) m = bAt l (n + m) := by simp [bAt, List.getD_eq_getElem?_getD, List.getElem?_drop]
    rw [← Nat.add_assoc]
    simp only [onesTo]
    rw [e, onesTo_add l n m]
    split <;> omega
theorem onesTo_congr {l l' : List Bool} : ∀ m, (∀ i, i < m → bAt l i = bAt l' i) → onesTo l m = onesTo l' m
  | 0, _ => rfl
  | m + 1, h => by
    simp only [onesTo]
    rw [h m (by omega), onesTo_congr m (fun i hi => h i (by omega))]
theorem ones_end (a : Int) (k : Nat) (x n : Int) (h : ¬ n < 16) : bits_Ones.l0 (k + 1) a x n = some x := by
  rw [bits_Ones.l0_succ, if_neg h]
theorem ones_at (a : Int) (n : Nat) (m : Int) (hm : m = ((4 * n : Nat) : Int)) : onesTo (bitsOf (shr .u64 (IntKind.u64.wrap a) m)) 4 = onesTo ((bitsOf a).drop (4 * n)) 4 := by
  subst hm
  refine onesTo_congr 4 (fun i hi => ?_)
  rw [bAt_bitsOf, bit_shr (InU_u64 _), bit_u64, Int.toNat_natCast]
  have e : bAt ((bitsOf a).drop (4 * n)) i = bAt (bitsOf a) (4 * n + i) := by simp [bAt, List.getD_eq_getElem?_getD, List.getElem?_drop]
  rw [e, bAt_bitsOf]
theorem ones_in (a : Int) (k n : Nat) (acc : Int) (hn : n < 16) : bits_Ones.l0 (k + 1) a acc (n : Int) = (bits_half.f k (shr .u64 (IntKind.u64.wrap a) (wrap64 (4 * (n : Int))))).bind fun t101 => bits_Ones.l0 k a (wrap64 (acc + t101)) (wrap64 ((n : Int) + 1)) := by
  rw [bits_Ones.l0_succ, if_pos (by omega), if_pos (by unfold wrap64; omega)]
theorem ones_round (a : Int) (k n : Nat) (acc acc' : Int) (hn : n < 16) (hacc : wrap64 (acc + onesTo ((bitsOf a).drop (4 * n)) 4) = acc') : bits_Ones.l0 (k + 2 + 1) a acc (n : Int) = bits_Ones.l0 (k + 2) a acc' ((n + 1 : Nat) : Int) := by
  have h1 := ones_in a (k + 2) n acc hn
  have h2 : bits_half.f (k + 2) (shr .u64 (IntKind.u64.wrap a) (wrap64 (4 * (n : Int)))) = some (onesTo ((bitsOf a).drop (4 * n)) 4) := by
    rw [bits_half_eq k _ (InU_shr (InU_u64 _) _), ones_at a n _ (by unfold wrap64; omega)]
  have h3 : wrap64 ((n : Int) + 1) = ((n + 1 : Nat) : Int) := by unfold wrap64; omega
  rw [h2, Option.bind_some, hacc, h3] at h1
  exact h1
theorem ones_loop (a : Int) (d : Nat) : ∀ (k n m : Nat), n + d = 16 → d + 2 < k → m = 4 * n → bits_Ones.l0 k a (onesTo (bitsOf a) m) (n : Int) = some (onesTo (bitsOf a) 64) := by
  induction d with
  | zero =>
    intro k n m hn hk hm
    obtain ⟨k, rfl⟩ : ∃ m, k = m + 1 := ⟨k - 1, by omega⟩
    obtain rfl : m = 64 := by omega
    exact ones_end a k _ _ (by omega)
  | succ d ih =>
    intro k n m hn hk hm
    obtain ⟨k, rfl⟩ : ∃ m, k = m + 2 + 1 := ⟨k - 3, by omega⟩
    subst hm
    have b1 := onesTo_le (bitsOf a) (4 * n)
    have b2 := onesTo_le ((bitsOf a).drop (4 * n)) 4
    have e := onesTo_add (bitsOf a) (4 * n) 4
    rw [ones_round a k n _ (onesTo (bitsOf a) (4 * n + 4)) (by omega) (by rw [e]; unfold wrap64; omega)]
    exact ih (k + 2) (n + 1) (4 * n + 4) (by omega) (by omega) (by omega)
theorem bits_Ones_eq (k : Nat) (a : Int) : bits_Ones.f (k + 19) a = some (onesTo (bitsOf a) 64) := by
  unfold bits_Ones.f
  exact ones_loop a 16 (k + 19) 0 0 rfl (by omega) rfl
end Go.Proofs.Ytgielanobeclnaa.Print
