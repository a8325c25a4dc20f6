-- Words of few bits as bytes: the document's bytes, and the words of bytes.
import Derived.Test.YtcencpedgcdanaaPrint10
import Derived.Test.YtcencpedgcdanaaPrint4
import Derived.Test.YtcencpedgcdanaaPrint7
import Derived.Test.YtcencpedgcdanaaPrint8
import Derived.Test.YtcencpedgcdanaaSP
set_option linter.unusedVariables false
set_option linter.unusedSimpArgs false
namespace Go.Proofs.Ytcencpedgcdanaa.Print
open Go.RowKit Go.Proofs.YtcencpedgcdanaaW.PrintWords Go.Proofs.YtcencpedgcdanaaW.PrintMore
theorem and_7 (x : Int) : Go.bits .and .i64 x 7 = x % 8 := by
  simp only [Go.bits]
  have h : (BitVec.ofInt IntKind.i64.bits x &&& BitVec.ofInt IntKind.i64.bits 7).toNat = (x % 8).toNat := by
    rw [BitVec.toNat_and]
    have h7 : (BitVec.ofInt IntKind.i64.bits 7).toNat = 2 ^ 3 - 1 := by decide
    rw [h7, Nat.and_two_pow_sub_one_eq_mod]
    simp only [BitVec.toNat_ofInt, IntKind.bits]
    omega
  rw [h, IntKind.wrap_i64]
  omega
theorem shr_i64 (x : Int) (j : Nat) (h : j < 64) : shr .i64 x (j : Int) = x / 2 ^ j := by
  unfold shr
  rw [show min (j : Int).toNat IntKind.i64.bits = j from Nat.min_eq_left (by show j ≤ 64; omega)]
theorem test_bit (x : Int) (j : Nat) (h : j < 64) : (Go.bits .and .i64 (shr .i64 x (j : Int)) 1 = 1) ↔ bit x j = true := by
  rw [shr_i64 x j h, ← bitAt_bit x j h]
  unfold bitAt
  rw [beq_iff_eq]
theorem shl_i64 (j : Nat) (h : j < 64) : shl .i64 1 (j : Int) = wrap64 (2 ^ j) := by
  unfold shl
  rw [show min (j : Int).toNat IntKind.i64.bits = j from Nat.min_eq_left (by show j ≤ 64; omega), Int.one_mul, i64_wrap]
theorem bit_pow (j i : Nat) (h : i < 64) : bit (2 ^ j) i = decide (i = j) := by
  unfold bit
  rw [B_pow, BitVec.getLsbD_twoPow]
  by_cases hj : j < 64
  · simp [hj, eq_comm]
  · have : ¬ i = j := by omega
    simp [hj, this]
theorem tdiv8 (n : Nat) : wrap64 (Int.tdiv (n : Int) 8) = ((n / 8 : Nat) : Int) ∨ 9223372036854775807 < n := by
  have e : Int.tdiv (n : Int) 8 = ((n / 8 : Nat) : Int) := rfl
  by_cases h : 9223372036854775807 < n
  · exact .inr h
  · left
    rw [e]
    unfold wrap64
    omega
theorem tmod8 (n : Nat) : Int.tmod (n : Int) 8 = ((n % 8 : Nat) : Int) := rfl
theorem stL_at (l : List Int) (w i j : Nat) (h : j < w) : stL l w (i * w + j) = bit (rd l (i : Int)) j := by
  unfold stL rd
  rw [Int.toNat_natCast, Nat.mul_comm i w, Nat.mul_add_div (by omega), Nat.div_eq_of_lt h, Nat.mul_add_mod, Nat.mod_eq_of_lt h, Nat.add_zero]
def partB (st : Nat → Bool) (N pos : Nat) : List Int := (List.range ((N + 7) / 8)).map fun b => wordP fun t => decide (t < 8 ∧ 8 * b + t < pos) && st (8 * b + t)
theorem partB_length (st : Nat → Bool) (N pos : Nat) : (partB st N pos).length = (N + 7) / 8 := by simp [partB]
theorem partB_rd (st : Nat → Bool) (N pos b : Nat) (h : b < (N + 7) / 8) : rd (partB st N pos) (b : Int) = wordP fun t => decide (t < 8 ∧ 8 * b + t < pos) && st (8 * b + t) := by
  rw [rd_get _ b (by rw [partB_length]; exact h)]
  simp [partB]
theorem partB_zero (st : Nat → Bool) (N : Nat) : partB st N 0 = List.replicate ((N + 7) / 8) 0 := by
  unfold partB
  have : ∀ b, (wordP fun t => decide (t < 8 ∧ 8 * b + t < 0) && st (8 * b + t)) = 0 := fun b => (wordP_of (by unfold InI; decide) _ (fun i hi => by rw [bit_zero]; simp)).symm
  simp only [this]
  rw [List.map_const', List.length_range]
theorem partB_skip (st : Nat → Bool) (N pos : Nat) (h : st pos = false) : partB st N pos = partB st N (pos + 1) := by
  unfold partB
  refine List.map_congr_left (fun b _ => wordP_congr (fun t ht => ?_))
  by_cases e : 8 * b + t = pos
  · rw [e, h]; simp
  · have : (t < 8 ∧ 8 * b + t < pos) ↔ (t < 8 ∧ 8 * b + t < pos + 1) := by omega
    simp only [this]
theorem part_small (st : Nat → Bool) (b pos : Nat) : 0 ≤ (wordP fun t => decide (t < 8 ∧ 8 * b + t < pos) && st (8 * b + t)) ∧ (wordP fun t => decide (t < 8 ∧ 8 * b + t < pos) && st (8 * b + t)) < 256 := by
  have := wordP_small (fun t => decide (t < 8 ∧ 8 * b + t < pos) && st (8 * b + t)) 8 (by omega) (fun i hi => by
    have : ¬ (i < 8 ∧ 8 * b + i < pos) := by omega
    simp only [this]
    rfl)
  exact this
theorem or_u8 (a b : Int) (ha : 0 ≤ a ∧ a < 256) (hb : 0 ≤ b ∧ b < 256) : 0 ≤ Go.bits .or .u8 a b ∧ Go.bits .or .u8 a b < 256 ∧ ∀ i, i < 64 → bit (Go.bits .or .u8 a b) i = (bit a i || bit b i) := by
  obtain ⟨m, rfl⟩ := Int.eq_ofNat_of_zero_le ha.1
  obtain ⟨n, rfl⟩ := Int.eq_ofNat_of_zero_le hb.1
  have hm : m < 2 ^ 8 := by omega
  have hn : n < 2 ^ 8 := by omega
  rw [(bits_nat .u8 8 (by decide) wraps_u8 m n hm hn).2]
  have := Nat.or_lt_two_pow hm hn
  refine ⟨by omega, by omega, fun i hi => ?_⟩
  rw [bit_nat _ i hi, bit_nat _ i hi, bit_nat _ i hi, Nat.testBit_or]
theorem shl_u8 (j : Nat) (h : j < 8) : shl .u8 1 (j : Int) = 2 ^ j := by
  unfold shl
  have hp : (2 : Int) ^ j ≤ 2 ^ 7 := by
    rw [pow_cast, pow_cast]
    exact Int.ofNat_le.2 (Nat.pow_le_pow_right (by decide) (by omega))
  have h0 : (0 : Int) ≤ 2 ^ j := by rw [pow_cast]; exact Int.natCast_nonneg _
  rw [show min (j : Int).toNat IntKind.u8.bits = j from Nat.min_eq_left (by show j ≤ 8; omega), Int.one_mul, IntKind.wrap_u8]
  omega
theorem partB_put (st : Nat → Bool) (N pos : Nat) (h : st pos = true) (hpos : pos < N) :
    (partB st N pos).set (pos / 8) (Go.bits .or .u8 (rd (partB st N pos) ((pos / 8 : Nat) : Int)) (shl .u8 1 ((pos % 8 : Nat) : Int))) = partB st N (pos + 1) := by
  have hb : pos / 8 < (N + 7) / 8 := by omega
  rw [partB_rd st N pos _ hb, shl_u8 _ (by omega)]
  have hs := part_small st (pos / 8) pos
  have hp : (2 : Int) ^ (pos % 8) ≤ 2 ^ 7 := by
    rw [pow_cast, pow_cast]
    exact Int.ofNat_le.2 (Nat.pow_le_pow_right (by decide) (by omega))
  have h0 : (0 : Int) ≤ 2 ^ (pos % 8) := by rw [pow_cast]; exact Int.natCast_nonneg _
  have ho := or_u8 _ (2 ^ (pos % 8)) hs ⟨h0, by omega⟩
  refine List.ext_getElem (by rw [List.length_set, partB_length, partB_length]) (fun i h1 h2 => ?_)
  rw [List.getElem_set]
  by_cases e : pos / 8 = i
  · rw [if_pos e]
    have hg : (partB st N (pos + 1))[i] = wordP fun t => decide (t < 8 ∧ 8 * i + t < pos + 1) && st (8 * i + t) := by simp [partB]
    rw [hg]
    refine wordP_of (InI_of_small ⟨ho.1, ho.2.1⟩) _ (fun t ht => ?_)
    rw [ho.2.2 t ht, bit_wordP _ t ht, bit_pow _ t ht, e]
    by_cases e2 : t = pos % 8
    · have e3 : 8 * i + t = pos := by omega
      rw [e3, h]
      have : t < 8 ∧ pos < pos + 1 := by omega
      simp [e2]
      omega
    · have : (t < 8 ∧ 8 * i + t < pos) ↔ (t < 8 ∧ 8 * i + t < pos + 1) := by omega
      simp only [this, e2]
      simp
  · rw [if_neg e]
    have hg1 : (partB st N pos)[i]'(by rw [partB_length]; rw [partB_length] at h2; exact h2) = wordP fun t => decide (t < 8 ∧ 8 * i + t < pos) && st (8 * i + t) := by simp [partB]
    have hg : (partB st N (pos + 1))[i] = wordP fun t => decide (t < 8 ∧ 8 * i + t < pos + 1) && st (8 * i + t) := by simp [partB]
    rw [hg1, hg]
    refine wordP_congr (fun t ht => ?_)
    have : (t < 8 ∧ 8 * i + t < pos) ↔ (t < 8 ∧ 8 * i + t < pos + 1) := by omega
    simp only [this]
theorem partB_all (st : Nat → Bool) (N : Nat) : partB st N N = packB st N := by
  have hf : ∀ i, i < N / 8 → (fullB st (N / 8))[i]? = some (byteP st i) := fun i hi => by simp [fullB, hi]
  refine List.ext_getElem? (fun i => ?_)
  by_cases h : i < (N + 7) / 8
  · have hg : (partB st N N)[i]? = some (wordP fun t => decide (t < 8 ∧ 8 * i + t < N) && st (8 * i + t)) := by simp [partB, h]
    rw [hg]
    unfold packB
    by_cases e : i < N / 8
    · rw [List.getElem?_append_left (by rw [fullB_length]; exact e), hf i e]
      unfold byteP
      refine congrArg some (wordP_congr (fun t ht => ?_))
      have : (t < 8 ∧ 8 * i + t < N) ↔ t < 8 := by omega
      simp only [this]
    · have hne : ¬ N % 8 = 0 := by omega
      have hi : i = N / 8 := by omega
      subst hi
      rw [List.getElem?_append_right (by rw [fullB_length]; omega), if_neg hne, fullB_length, Nat.sub_self, List.getElem?_cons_zero]
      unfold keptP
      refine congrArg some (wordP_congr (fun t ht => ?_))
      rw [Nat.mul_comm 8]
      have : (t < 8 ∧ N / 8 * 8 + t < N) ↔ t < N % 8 := by omega
      simp only [this]
  · rw [List.getElem?_eq_none (by rw [partB_length]; omega), List.getElem?_eq_none (by rw [packB_length]; omega)]
theorem ref_Bytes_eq (n w : Int) : peristyleref08_Bytes.f n w = some (if n < 1 ∨ 65536 < n ∨ w < 1 ∨ 64 < w then 0 else (n * w + 7) / 8) := by
  unfold peristyleref08_Bytes.f
  by_cases h1 : n < 1
  · rw [if_pos h1, if_pos (.inl h1)]
  · rw [if_neg h1]
    by_cases h2 : n > 65536
    · rw [if_pos h2, if_pos (.inr (.inl h2))]
    · rw [if_neg h2]
      by_cases h3 : w < 1
      · rw [if_pos h3, if_pos (.inr (.inr (.inl h3)))]
      · rw [if_neg h3]
        by_cases h4 : w > 64
        · rw [if_pos h4, if_pos (.inr (.inr (.inr h4)))]
        · rw [if_neg h4, if_neg (by omega)]
          have hp : 0 ≤ n * w ∧ n * w ≤ 65536 * 64 := ⟨Int.mul_nonneg (by omega) (by omega), Int.mul_le_mul (by omega) (by omega) (by omega) (by omega)⟩
          rw [show wrap64 (n * w) = n * w by unfold wrap64; omega, show wrap64 (n * w + 7) = n * w + 7 by unfold wrap64; omega]
          obtain ⟨m, hm⟩ := Int.eq_ofNat_of_zero_le (show 0 ≤ n * w + 7 by omega)
          rw [hm]
          rcases tdiv8 m with h | h
          · rw [h]; rfl
          · omega
theorem ref_put_inner (l : List Int) (w : Nat) (hw : w ≤ 64) (hl : l.length ≤ 65536) (i : Nat) (hi : i < l.length) (r : ByteArray × Int) : ∀ (d j : Nat), j + d = w →
    Ev (fun k => peristyleref08_Put.l0 k l (w : Int) (partB (stL l w) (l.length * w) (i * w + w)) ((i + 1 : Nat) : Int)) r →
    Ev (fun k => peristyleref08_Put.l1 k l (w : Int) (partB (stL l w) (l.length * w) (i * w + j)) (i : Int) (j : Int)) r
  | 0, j, h, hr => by
    obtain rfl : j = w := by omega
    refine Ev.step (fun k => peristyleref08_Put.l1_succ k _ _ _ _ _) (Ev.no (by omega) ?_)
    rw [show wrap64 ((i : Int) + 1) = ((i + 1 : Nat) : Int) by unfold wrap64; omega]
    exact hr
  | d + 1, j, h, hr => by
    have hN : (i + 1) * w ≤ l.length * w := Nat.mul_le_mul_right w (by omega)
    have hN2 : l.length * w ≤ 65536 * 64 := Nat.mul_le_mul hl hw
    have hs : (i + 1) * w = i * w + w := Nat.succ_mul i w
    have hih := ref_put_inner l w hw hl i hi r d (j + 1) (by omega) hr
    have hc : wrap64 (wrap64 ((i : Int) * (w : Int)) + (j : Int)) = ((i * w + j : Nat) : Int) := by
      rw [← Int.natCast_mul]
      unfold wrap64
      omega
    have hst := stL_at l w i j (by omega)
    refine Ev.step (fun k => peristyleref08_Put.l1_succ k _ _ _ _ _) (Ev.yes (by omega) (Ev.yes (by omega) (Ev.yes (by omega) (Ev.yes (by omega) ?_))))
    have hd : wrap64 (Int.tdiv ((i * w + j : Nat) : Int) 8) = (((i * w + j) / 8 : Nat) : Int) := by
      rcases tdiv8 (i * w + j) with h | h
      · exact h
      · omega
    rw [hc, hd, tmod8, show wrap64 ((j : Int) + 1) = ((j + 1 : Nat) : Int) by unfold wrap64; omega]
    by_cases hb : bit (rd l (i : Int)) j = true
    · refine Ev.yes ((test_bit _ j (by omega)).2 hb) (Ev.yes (by omega) (Ev.yes (by rw [partB_length]; omega) (Ev.yes (by omega) ?_)))
      rw [Int.toNat_natCast, partB_put _ _ _ (by rw [hst]; exact hb) (by omega)]
      exact hih
    · refine Ev.no (fun h => hb ((test_bit _ j (by omega)).1 h)) ?_
      rw [partB_skip _ _ _ (by rw [hst]; simpa using hb)]
      exact hih
theorem ref_put_outer (l : List Int) (w : Nat) (hw : w ≤ 64) (hl : l.length ≤ 65536) : ∀ (d i : Nat), i + d = l.length →
    Ev (fun k => peristyleref08_Put.l0 k l (w : Int) (partB (stL l w) (l.length * w) (i * w)) (i : Int)) (strOfNums (packB (stL l w) (l.length * w)), 0)
  | 0, i, h => by
    obtain rfl : i = l.length := by omega
    refine Ev.step (fun k => peristyleref08_Put.l0_succ k _ _ _ _) (Ev.no (by omega) (Ev.val ?_))
    rw [partB_all]
  | d + 1, i, h => by
    have hih := ref_put_outer l w hw hl d (i + 1) (by omega)
    rw [Nat.succ_mul] at hih
    exact Ev.step (fun k => peristyleref08_Put.l0_succ k _ _ _ _) (Ev.yes (by omega) (ref_put_inner l w hw hl i (by omega) _ w 0 (by omega) hih))
theorem ref_put_no (l : List Int) (w : Int) : Ev (fun k => peristyleref08_Put.j0 k l w true) ((⟨#[]⟩ : ByteArray), 1) :=
  Ev.step (fun k => peristyleref08_Put.j0_succ k _ _ _) (Ev.yes rfl (Ev.now _))
theorem ref08_Put_ev (l : List Int) (w : Int) (hl : l.length ≤ 17592186044416) : Ev (fun k => peristyleref08_Put.f k l w) (putR l w) := by
  have hno : ¬ mayPut l w → Ev (fun k => peristyleref08_Put.j0 k l w true) (putR l w) := fun h => by
    unfold putR
    rw [if_neg h]
    exact ref_put_no l w
  unfold peristyleref08_Put.f
  by_cases h1 : w < 0
  · exact Ev.yes h1 (hno (fun h => by unfold mayPut at h; omega))
  refine Ev.no h1 ?_
  by_cases h2 : w > 64
  · exact Ev.yes h2 (hno (fun h => by unfold mayPut at h; omega))
  refine Ev.no h2 ?_
  by_cases h3 : (l.length : Int) > 65536
  · exact Ev.yes h3 (hno (fun h => by unfold mayPut at h; omega))
  refine Ev.no h3 (Ev.bind (ref08_Width_ev l hl) ?_)
  by_cases h4 : widL l > w
  · rw [decide_eq_true h4]
    exact hno (fun h => by unfold mayPut at h; omega)
  rw [decide_eq_false h4]
  have hm : mayPut l w := by unfold mayPut; omega
  unfold putR
  rw [if_pos hm]
  obtain ⟨n, rfl⟩ := Int.eq_ofNat_of_zero_le (show 0 ≤ w by omega)
  have hp : l.length * n ≤ 65536 * 64 := Nat.mul_le_mul (by omega) (by omega)
  refine Ev.step (fun k => peristyleref08_Put.j0_succ k _ _ _) (Ev.no (by decide) (Ev.call (ref_Bytes_eq _ _) ?_))
  have hb : (if (l.length : Int) < 1 ∨ 65536 < (l.length : Int) ∨ (n : Int) < 1 ∨ 64 < (n : Int) then 0 else ((l.length : Int) * (n : Int) + 7) / 8) = (((l.length * n + 7) / 8 : Nat) : Int) := by
    have hc : (l.length : Int) * (n : Int) = ((l.length * n : Nat) : Int) := (Int.natCast_mul _ _).symm
    rw [hc]
    split
    · rename_i hh
      have : l.length = 0 ∨ n = 0 := by omega
      rcases this with h | h
      · rw [h]; simp
      · rw [h]; simp
    · omega
  rw [hb, Int.toNat_natCast]
  refine Ev.yes (by omega) (Ev.yes (by omega) ?_)
  have := ref_put_outer l n (by omega) (by omega) l.length 0 (by omega)
  rw [Nat.zero_mul, partB_zero] at this
  exact this
/-! ### the words of bytes -/
def sbit (s : ByteArray) (j : Nat) : Bool := bit (bt s ((j / 8 : Nat) : Int)) (j % 8)
def wordS (s : ByteArray) (pos w : Nat) : Int := wordP (fun t => decide (t < w) && sbit s (pos + t))
theorem word_bits (s : ByteArray) (pos got n : Nat) (hn : (pos + got) % 8 + n ≤ 8) (hg : got + n ≤ 64) :
    Go.bits .or .u64 (IntKind.u64.wrap (wordS s pos got)) (shl .u64 (Go.bits .and .u64 (shr .u64 (IntKind.u64.wrap (bt s (((pos + got) / 8 : Nat) : Int))) (((pos + got) % 8 : Nat) : Int)) (IntKind.u64.wrap (wordP (maskP (n : Int))))) (got : Int)) = IntKind.u64.wrap (wordS s pos (got + n)) := by
  refine InU_inj (InU_bits _ _ _) (InU_u64 _) (fun i hi => ?_)
  rw [bit_uor, bit_u64, bit_u64]
  unfold wordS
  rw [bit_wordP _ i hi, bit_wordP _ i hi, bit_shl _ _ i hi, Int.toNat_natCast, bit_uand, bit_u64, bit_shr (InU_u64 _), bit_u64, Int.toNat_natCast]
  by_cases h1 : i < got
  · have h2 : i < got + n := by omega
    have h3 : ¬ got ≤ i := by omega
    simp [h1, h2, h3]
  · rw [bit_wordP _ (i - got) (by omega)]
    have h3 : got ≤ i := by omega
    by_cases h2 : i < got + n
    · have h4 : maskP (n : Int) (i - got) = true := by simp [maskP]; omega
      have h5 : sbit s (pos + i) = bit (bt s (((pos + got) / 8 : Nat) : Int)) ((pos + got) % 8 + (i - got)) := by
        unfold sbit
        rw [show (pos + i) / 8 = (pos + got) / 8 by omega, show (pos + i) % 8 = (pos + got) % 8 + (i - got) by omega]
      rw [h4, h5]
      simp [h1, h2, h3]
    · have h4 : maskP (n : Int) (i - got) = false := by simp [maskP]; omega
      simp [h1, h2, h4]
theorem pack_word_loop (s : ByteArray) (pos w : Nat) (hw : w ≤ 64) (hs : pos + w ≤ 8 * s.size) (hp : pos + w ≤ 4294967296) : ∀ (left got : Nat), got + left = w →
    Ev (fun k => pack_word.l0 k s (w : Int) (IntKind.u64.wrap (wordS s pos got)) ((pos + got : Nat) : Int) (got : Int)) (wordS s pos w) := by
  intro left
  induction left using Nat.strongRecOn with
  | ind left ih =>
    intro got hgl
    by_cases h0 : left = 0
    · obtain rfl : got = w := by omega
      refine Ev.step (fun k => pack_word.l0_succ k _ _ _ _ _) (Ev.no (by omega) (Ev.val ?_))
      have hI := InI_wordP (fun t => decide (t < got) && sbit s (pos + t))
      refine B_inj (InI_wrap64 _) hI ?_
      rw [B_wrap64, B_u64]
    · have ha : Go.bits .and .i64 ((pos + got : Nat) : Int) 7 = (((pos + got) % 8 : Nat) : Int) := by rw [and_7]; omega
      have hw8 : wrap64 (8 - (((pos + got) % 8 : Nat) : Int)) = 8 - (((pos + got) % 8 : Nat) : Int) := by unfold wrap64; omega
      have hwl : wrap64 ((w : Int) - (got : Int)) = (left : Int) := by unfold wrap64; omega
      obtain ⟨n, hn⟩ : ∃ n : Nat, mn (8 - (((pos + got) % 8 : Nat) : Int)) (left : Int) = (n : Int) := ⟨(mn (8 - (((pos + got) % 8 : Nat) : Int)) (left : Int)).toNat, by unfold mn; split <;> omega⟩
      have hn1 : 0 < n ∧ n ≤ left ∧ (pos + got) % 8 + n ≤ 8 := by unfold mn at hn; split at hn <;> omega
      have hih := ih (left - n) (by omega) (got + n) (by omega)
      refine Ev.step (fun k => pack_word.l0_succ k _ _ _ _ _) (Ev.yes (by omega) (Ev.yes (by omega) (Ev.yes (by omega) ?_)))
      rw [ha, hw8, hwl, hn]
      refine Ev.yes (by omega) (Ev.call (bits_Mask_eq (n : Int)) (Ev.yes (by omega) ?_))
      rw [show ((pos + got : Nat) : Int) / 8 = (((pos + got) / 8 : Nat) : Int) by omega, word_bits s pos got n hn1.2.2 (by omega)]
      rw [show wrap64 (((pos + got : Nat) : Int) + (n : Int)) = ((pos + (got + n) : Nat) : Int) by unfold wrap64; omega, show wrap64 ((got : Int) + (n : Int)) = ((got + n : Nat) : Int) by unfold wrap64; omega]
      exact hih
theorem pack_word_ev (s : ByteArray) (k w : Nat) (hw : w ≤ 64) (hs : k * w + w ≤ 8 * s.size) (hp : k * w + w ≤ 4294967296) : Ev (fun n => pack_word.f n s (k : Int) (w : Int)) (wordS s (k * w) w) := by
  unfold pack_word.f
  have := pack_word_loop s (k * w) w hw hs hp w 0 (by omega)
  have e0 : IntKind.u64.wrap (wordS s (k * w) 0) = 0 := by
    have : wordS s (k * w) 0 = 0 := (wordP_of (by unfold InI; decide) _ (fun i hi => by rw [bit_zero]; simp)).symm
    rw [this]
    exact u64_id (by unfold InU; decide)
  rw [e0] at this
  rw [show wrap64 ((k : Int) * (w : Int)) = ((k * w + 0 : Nat) : Int) by rw [← Int.natCast_mul]; unfold wrap64; omega]
  exact this
theorem ref_word_loop (s : ByteArray) (k w : Nat) (hw : w ≤ 64) (hs : k * w + w ≤ 8 * s.size) (hp : k * w + w ≤ 4294967296) : ∀ (d j : Nat), j + d = w →
    Ev (fun n => peristyleref08_word.l0 n s (k : Int) (w : Int) (wordS s (k * w) j) (j : Int)) (wordS s (k * w) w)
  | 0, j, h => by
    obtain rfl : j = w := by omega
    exact Ev.step (fun k => peristyleref08_word.l0_succ k _ _ _ _ _) (Ev.no (by omega) (Ev.now _))
  | d + 1, j, h => by
    have hih := ref_word_loop s k w hw hs hp d (j + 1) (by omega)
    have hc : wrap64 (wrap64 ((k : Int) * (w : Int)) + (j : Int)) = ((k * w + j : Nat) : Int) := by
      rw [← Int.natCast_mul]
      unfold wrap64
      omega
    have hd : wrap64 (Int.tdiv ((k * w + j : Nat) : Int) 8) = (((k * w + j) / 8 : Nat) : Int) := by
      rcases tdiv8 (k * w + j) with h | h
      · exact h
      · omega
    have hbt := bt_range s (((k * w + j) / 8 : Nat) : Int)
    refine Ev.step (fun n => peristyleref08_word.l0_succ n _ _ _ _ _) (Ev.yes (by omega) ?_)
    rw [hc, hd, tmod8, show wrap64 ((j : Int) + 1) = ((j + 1 : Nat) : Int) by unfold wrap64; omega]
    refine Ev.yes (by omega) (Ev.yes (by omega) (Ev.yes (by omega) ?_))
    rw [show wrap64 (bt s (((k * w + j) / 8 : Nat) : Int)) = bt s (((k * w + j) / 8 : Nat) : Int) by unfold wrap64; omega]
    by_cases hb : sbit s (k * w + j) = true
    · refine Ev.yes ((test_bit _ _ (by omega)).2 hb) (Ev.yes (by omega) ?_)
      have e : Go.bits .or .i64 (wordS s (k * w) j) (shl .i64 1 (j : Int)) = wordS s (k * w) (j + 1) := by
        refine wordP_of (InI_bits _ _ _) _ (fun i hi => ?_)
        rw [bit_or, shl_i64 j (by omega), bit_wrap64, bit_pow j i hi]
        unfold wordS
        rw [bit_wordP _ i hi]
        by_cases e : i = j
        · subst e; simp [hb]
        · have : i < j ↔ i < j + 1 := by omega
          simp [e, this]
      rw [e]
      exact hih
    · refine Ev.no (fun h => hb ((test_bit _ _ (by omega)).1 h)) ?_
      have e : wordS s (k * w) j = wordS s (k * w) (j + 1) := by
        refine wordP_congr (fun i hi => ?_)
        by_cases e : i = j
        · subst e
          have : sbit s (k * w + i) = false := by simpa using hb
          simp [this]
        · have : i < j ↔ i < j + 1 := by omega
          simp [this]
      rw [e]
      exact hih
theorem ref_word_ev (s : ByteArray) (k w : Nat) (hw : w ≤ 64) (hs : k * w + w ≤ 8 * s.size) (hp : k * w + w ≤ 4294967296) : Ev (fun n => peristyleref08_word.f n s (k : Int) (w : Int)) (wordS s (k * w) w) := by
  have := ref_word_loop s k w hw hs hp w 0 (by omega)
  have e0 : wordS s (k * w) 0 = 0 := (wordP_of (by unfold InI; decide) _ (fun i hi => by rw [bit_zero]; simp)).symm
  rw [e0] at this
  exact this
end Go.Proofs.Ytcencpedgcdanaa.Print
