-- Words on bits: what Go's operations on 64 bits tell, bit by bit. Plain Lean; no program in sight.
import Derived.Test.YtdchljjhajbehaaXW
import Derived.Test.YtdchljjhajbehaaWMore
set_option linter.unusedVariables false
set_option linter.unusedSimpArgs false
namespace Go.Proofs.YtdchljjhajbehaaW.PrintWords
open Go.RowKit Go.Proofs.YtdchljjhajbehaaW.PrintMore
/-- one step of a printed function: a call that tells v -/
theorem obind {α β : Type} {x : Option α} {v : α} {g : α → Option β} {r : Option β} (h : x = some v) (h2 : g v = r) : x.bind g = r := by rw [h]; exact h2
/-- a test that holds -/
theorem oif {α : Type} {c : Prop} [Decidable c] {x y r : α} (h : c) (h2 : x = r) : (if c then x else y) = r := by rw [if_pos h]; exact h2
/-- a test that doesn't hold -/
theorem oelse {α : Type} {c : Prop} [Decidable c] {x y r : α} (h : ¬ c) (h2 : y = r) : (if c then x else y) = r := by rw [if_neg h]; exact h2
/-! ### enough rounds -/
theorem Ev.at_ {α : Type} {g : Nat → Option α} {r : α} (c : Nat) (h : ∀ k, g (k + c) = some r) : Ev g r :=
  ⟨c, fun k hk => by obtain ⟨m, rfl⟩ : ∃ m, k = m + c := ⟨k - c, by omega⟩; exact h m⟩
theorem Ev.all {α : Type} {g : Nat → Option α} {r : α} (h : ∀ k, g k = some r) : Ev g r := ⟨0, fun k _ => h k⟩
theorem Ev.call {α β : Type} {x : Option α} {v : α} {f : Nat → α → Option β} {r : β} (h : x = some v) (k : Ev (fun n => f n v) r) : Ev (fun n => x.bind (f n)) r := by
  subst h; exact k
theorem Ev.yes {α : Type} {c : Prop} [Decidable c] {x y : Nat → Option α} {r : α} (h : c) (k : Ev x r) : Ev (fun n => if c then x n else y n) r :=
  Ev.congr (fun n => if_pos h) k
theorem Ev.no {α : Type} {c : Prop} [Decidable c] {x y : Nat → Option α} {r : α} (h : ¬ c) (k : Ev y r) : Ev (fun n => if c then x n else y n) r :=
  Ev.congr (fun n => if_neg h) k
theorem Ev.val {α : Type} {v r : α} (h : v = r) : Ev (fun _ => some v) r := by subst h; exact Ev.now _
/-- a number is an int -/
def InI (a : Int) : Prop := -9223372036854775808 ≤ a ∧ a ≤ 9223372036854775807
/-- a number is a uint64 -/
def InU (a : Int) : Prop := 0 ≤ a ∧ a ≤ 18446744073709551615
theorem InI.of_wf {a : Int} (h : (Lit.int .i64 a).wf = true) : InI a := by
  simp [Lit.wf, IntKind.min, IntKind.max, IntKind.signed, IntKind.bits] at h
  unfold InI
  omega
def B (a : Int) : BitVec 64 := BitVec.ofInt 64 a
/-- bit i of a number of 64 bits -/
def bit (a : Int) (i : Nat) : Bool := (B a).getLsbD i
theorem bit_lt {a : Int} {i : Nat} (h : bit a i = true) : i < 64 := BitVec.lt_of_getLsbD h
theorem bit_ge (a : Int) {i : Nat} (h : 64 ≤ i) : bit a i = false := BitVec.getLsbD_of_ge _ _ h
theorem InI_wrap64 (x : Int) : InI (wrap64 x) := by unfold InI wrap64; omega
theorem wrap64_id {a : Int} (h : InI a) : wrap64 a = a := by unfold InI at h; unfold wrap64; omega
theorem wrap64_eq (x : Int) : wrap64 x = (B x).toInt := by
  unfold B wrap64
  rw [BitVec.toInt_ofInt, Int.bmod_def]
  split <;> omega
theorem B_toInt (v : BitVec 64) : B v.toInt = v := BitVec.ofInt_toInt
theorem B_wrap64 (x : Int) : B (wrap64 x) = B x := by rw [wrap64_eq, B_toInt]
theorem B_inj {a b : Int} (ha : InI a) (hb : InI b) (h : B a = B b) : a = b := by
  rw [← wrap64_id ha, ← wrap64_id hb, wrap64_eq, wrap64_eq, h]
theorem bit_inj {a b : Int} (ha : InI a) (hb : InI b) (h : ∀ i, i < 64 → bit a i = bit b i) : a = b :=
  B_inj ha hb (BitVec.eq_of_getLsbD_eq h)
theorem bit_wrap64 (x : Int) (i : Nat) : bit (wrap64 x) i = bit x i := by unfold bit; rw [B_wrap64]
theorem u64_wrap (x : Int) : IntKind.u64.wrap x = x % 18446744073709551616 := by simp [IntKind.wrap, IntKind.bits, IntKind.signed]
theorem B_toNat (x : Int) : (B x).toNat = (x % 18446744073709551616).toNat := by
  unfold B
  rw [BitVec.toNat_ofInt]
  rfl
theorem B_u64 (x : Int) : B (IntKind.u64.wrap x) = B x := by
  apply BitVec.eq_of_toNat_eq
  rw [B_toNat, B_toNat, u64_wrap, Int.emod_emod]
theorem InU_u64 (x : Int) : InU (IntKind.u64.wrap x) := by unfold InU; rw [u64_wrap]; omega
theorem bit_u64 (x : Int) (i : Nat) : bit (IntKind.u64.wrap x) i = bit x i := by unfold bit; rw [B_u64]
theorem u64_id {a : Int} (h : InU a) : IntKind.u64.wrap a = a := by unfold InU at h; rw [u64_wrap]; omega
theorem B_nat (v : BitVec 64) : B (v.toNat : Int) = v := by
  unfold B
  rw [BitVec.ofInt_natCast, BitVec.ofNat_toNat, BitVec.setWidth_eq]
theorem i64_wrap (x : Int) : IntKind.i64.wrap x = wrap64 x := by rw [IntKind.wrap_i64]; unfold wrap64; rfl
theorem B_and (a b : Int) : B (Go.bits .and .i64 a b) = B a &&& B b := by
  show B (IntKind.i64.wrap _) = _
  rw [i64_wrap, B_wrap64]
  exact B_nat _
theorem B_or (a b : Int) : B (Go.bits .or .i64 a b) = B a ||| B b := by
  show B (IntKind.i64.wrap _) = _
  rw [i64_wrap, B_wrap64]
  exact B_nat _
theorem B_xor (a b : Int) : B (Go.bits .xor .i64 a b) = B a ^^^ B b := by
  show B (IntKind.i64.wrap _) = _
  rw [i64_wrap, B_wrap64]
  exact B_nat _
theorem B_andNot (a b : Int) : B (Go.bits .andNot .i64 a b) = B a &&& ~~~ (B b) := by
  show B (IntKind.i64.wrap _) = _
  rw [i64_wrap, B_wrap64]
  exact B_nat _
theorem B_uand (a b : Int) : B (Go.bits .and .u64 a b) = B a &&& B b := by
  show B (IntKind.u64.wrap _) = _
  rw [B_u64]
  exact B_nat _
theorem B_uor (a b : Int) : B (Go.bits .or .u64 a b) = B a ||| B b := by
  show B (IntKind.u64.wrap _) = _
  rw [B_u64]
  exact B_nat _
theorem B_uxor (a b : Int) : B (Go.bits .xor .u64 a b) = B a ^^^ B b := by
  show B (IntKind.u64.wrap _) = _
  rw [B_u64]
  exact B_nat _
theorem B_uandNot (a b : Int) : B (Go.bits .andNot .u64 a b) = B a &&& ~~~ (B b) := by
  show B (IntKind.u64.wrap _) = _
  rw [B_u64]
  exact B_nat _
theorem InI_bits (o : BinOp) (a b : Int) : InI (Go.bits o .i64 a b) := by
  unfold Go.bits
  rw [i64_wrap]
  exact InI_wrap64 _
theorem InU_bits (o : BinOp) (a b : Int) : InU (Go.bits o .u64 a b) := by
  unfold Go.bits
  exact InU_u64 _
theorem bit_and (a b : Int) (i : Nat) : bit (Go.bits .and .i64 a b) i = (bit a i && bit b i) := by unfold bit; rw [B_and, BitVec.getLsbD_and]
theorem bit_or (a b : Int) (i : Nat) : bit (Go.bits .or .i64 a b) i = (bit a i || bit b i) := by unfold bit; rw [B_or, BitVec.getLsbD_or]
theorem bit_xor (a b : Int) (i : Nat) : bit (Go.bits .xor .i64 a b) i = (bit a i ^^ bit b i) := by unfold bit; rw [B_xor, BitVec.getLsbD_xor]
theorem bit_andNot (a b : Int) (i : Nat) : bit (Go.bits .andNot .i64 a b) i = (bit a i && !bit b i) := by
  unfold bit
  rw [B_andNot, BitVec.getLsbD_and, BitVec.getLsbD_not]
  by_cases h : i < 64
  · simp [h]
  · simp [h, BitVec.getLsbD_of_ge (B a) i (by omega)]
theorem bit_uand (a b : Int) (i : Nat) : bit (Go.bits .and .u64 a b) i = (bit a i && bit b i) := by unfold bit; rw [B_uand, BitVec.getLsbD_and]
theorem bit_uor (a b : Int) (i : Nat) : bit (Go.bits .or .u64 a b) i = (bit a i || bit b i) := by unfold bit; rw [B_uor, BitVec.getLsbD_or]
theorem bit_uxor (a b : Int) (i : Nat) : bit (Go.bits .xor .u64 a b) i = (bit a i ^^ bit b i) := by unfold bit; rw [B_uxor, BitVec.getLsbD_xor]
theorem bit_uandNot (a b : Int) (i : Nat) : bit (Go.bits .andNot .u64 a b) i = (bit a i && !bit b i) := by
  unfold bit
  rw [B_uandNot, BitVec.getLsbD_and, BitVec.getLsbD_not]
  by_cases h : i < 64
  · simp [h]
  · simp [h, BitVec.getLsbD_of_ge (B a) i (by omega)]
theorem bit_zero (i : Nat) : bit 0 i = false := by unfold bit B; simp
theorem B_neg1 : B (-1) = BitVec.allOnes 64 := by decide
theorem bit_neg1 (i : Nat) (h : i < 64) : bit (-1) i = true := by unfold bit; rw [B_neg1, BitVec.getLsbD_allOnes]; simp [h]
theorem pow_cast (n : Nat) : (2 : Int) ^ n = ((2 ^ n : Nat) : Int) := by simp
theorem B_pow (n : Nat) : B (2 ^ n) = BitVec.twoPow 64 n := by
  unfold B
  rw [pow_cast, BitVec.ofInt_natCast, BitVec.twoPow_eq]
  apply BitVec.eq_of_toNat_eq
  simp [BitVec.toNat_shiftLeft, Nat.shiftLeft_eq]
theorem B_mul_pow (x : Int) (n : Nat) : B (x * 2 ^ n) = B x <<< n := by
  have h : B (x * 2 ^ n) = B x * B (2 ^ n) := BitVec.ofInt_mul x _
  rw [h, B_pow, BitVec.mul_twoPow_eq_shiftLeft]
theorem bit_mul_pow (x : Int) (n i : Nat) (h : i < 64) : bit (x * 2 ^ n) i = (decide (n ≤ i) && bit x (i - n)) := by
  unfold bit
  rw [B_mul_pow, BitVec.getLsbD_shiftLeft]
  by_cases h' : n ≤ i
  · have : ¬ i < n := by omega
    simp [h, h', this]
  · have : i < n := by omega
    simp [h, h', this]
theorem bit_div_pow {x : Int} (hx : InU x) (n i : Nat) : bit (x / 2 ^ n) i = bit x (n + i) := by
  have h : B (x / 2 ^ n) = B x >>> n := by
    apply BitVec.eq_of_toNat_eq
    unfold InU at hx
    obtain ⟨m, rfl⟩ := Int.eq_ofNat_of_zero_le hx.1
    rw [BitVec.toNat_ushiftRight, B_toNat, B_toNat, Nat.shiftRight_eq_div_pow, pow_cast, ← Int.natCast_ediv]
    have h1 : m / 2 ^ n ≤ m := Nat.div_le_self _ _
    have h2 : ∀ q, q ≤ m → q % 18446744073709551616 = q := fun q h => Nat.mod_eq_of_lt (by omega)
    rw [Int.toNat_emod (Int.natCast_nonneg _) (by decide), Int.toNat_emod (Int.natCast_nonneg _) (by decide)]
    simp only [Int.toNat_natCast]
    rw [show Int.toNat 18446744073709551616 = 18446744073709551616 from rfl, h2 _ h1, h2 _ (Nat.le_refl _)]
  unfold bit
  rw [h, BitVec.getLsbD_ushiftRight]
theorem InU_div {x : Int} (hx : InU x) (n : Nat) : InU (x / 2 ^ n) := by
  unfold InU at *
  obtain ⟨m, rfl⟩ := Int.eq_ofNat_of_zero_le hx.1
  rw [pow_cast, ← Int.natCast_ediv]
  have h1 : m / 2 ^ n ≤ m := Nat.div_le_self _ _
  generalize m / 2 ^ n = q at h1 ⊢
  omega
theorem bit_shl (x y : Int) (i : Nat) (h : i < 64) : bit (shl .u64 x y) i = (decide (y.toNat ≤ i) && bit x (i - y.toNat)) := by
  unfold shl
  rw [bit_u64, bit_mul_pow _ _ _ h]
  show (decide (min y.toNat 64 ≤ i) && bit x (i - min y.toNat 64)) = _
  by_cases hy : y.toNat ≤ 64
  · rw [Nat.min_eq_left hy]
  · have h1 : ¬ y.toNat ≤ i := by omega
    have h2 : ¬ min y.toNat 64 ≤ i := by omega
    simp [h1, h2]
theorem InU_shl (x y : Int) : InU (shl .u64 x y) := InU_u64 _
theorem bit_shr {x : Int} (hx : InU x) (y : Int) (i : Nat) : bit (shr .u64 x y) i = bit x (y.toNat + i) := by
  unfold shr
  show bit (x / 2 ^ min y.toNat 64) i = _
  rw [bit_div_pow hx]
  by_cases hy : y.toNat ≤ 64
  · rw [Nat.min_eq_left hy]
  · rw [Nat.min_eq_right (by omega), bit_ge _ (by omega), bit_ge _ (by omega)]
theorem InU_shr {x : Int} (hx : InU x) (y : Int) : InU (shr .u64 x y) := InU_div hx _
theorem bit_neg (x : Int) (i : Nat) (h : i < 64) : bit (-x) i = (bit x i ^^ decide (∃ j, j < i ∧ bit x j = true)) := by
  unfold bit B
  rw [BitVec.ofInt_neg, BitVec.getLsbD_neg]
  simp [h]
/-- a number's bit by division -/
theorem bit_div (x : Int) (i : Nat) (h : i < 64) : bit x i = decide (x / 2 ^ i % 2 = 1) := by
  unfold bit
  rw [← BitVec.testBit_toNat, Nat.testBit_eq_decide_div_mod_eq, B_toNat]
  have hp : (18446744073709551616 : Int) = 2 ^ i * (2 * 2 ^ (63 - i)) := by
    rw [← Int.mul_assoc, ← Int.pow_succ, ← Int.pow_add]
    rw [show i + 1 + (63 - i) = 64 by omega]
    rfl
  have hm := Int.emod_nonneg x (show (18446744073709551616 : Int) ≠ 0 by decide)
  have h2 : x % 18446744073709551616 / 2 ^ i % 2 = x / 2 ^ i % 2 := by
    have hx := Int.mul_ediv_add_emod x 18446744073709551616
    have hx2 : x / 2 ^ i = (2 * 2 ^ (63 - i)) * (x / 18446744073709551616) + x % 18446744073709551616 / 2 ^ i := by
      conv => lhs; rw [← hx]
      rw [hp, Int.mul_assoc, ← hp, Int.add_comm, Int.add_mul_ediv_left _ _ (Int.ne_of_gt (Int.pow_pos (by decide))), Int.add_comm]
    rw [hx2, Int.mul_assoc, Int.add_comm, Int.add_mul_emod_self_left]
  have h3 : (((x % 18446744073709551616).toNat / 2 ^ i % 2 : Nat) : Int) = x / 2 ^ i % 2 := by
    rw [Int.natCast_emod, Int.natCast_ediv, Int.toNat_of_nonneg hm, ← pow_cast]
    exact h2
  rw [decide_eq_decide]
  omega
theorem bitAt_bit (w : Int) (k : Nat) (h : k < 64) : bitAt w k = bit w k := by
  rw [bit_div w k h]
  unfold bitAt
  have e : Go.bits .and .i64 (w / 2 ^ k) 1 = w / 2 ^ k % 2 := by
    apply B_inj (InI_bits _ _ _) (by unfold InI; omega)
    apply BitVec.eq_of_toNat_eq
    rw [B_and, BitVec.toNat_and, show (B 1).toNat = 2 ^ 1 - 1 by decide, Nat.and_two_pow_sub_one_eq_mod, B_toNat, B_toNat]
    omega
  rw [e]
  rfl
theorem bAt_bitsOf (w : Int) (i : Nat) : bAt (bitsOf w) i = bit w i := by
  unfold bAt bitsOf
  by_cases h : i < 64
  · simp [List.getD_eq_getElem?_getD, h, bitAt_bit w i h]
  · rw [bit_ge w (by omega)]
    simp [List.getD_eq_getElem?_getD, h]
theorem bAt_zB (i : Nat) : bAt zB i = false := by
  unfold bAt zB
  rw [List.getD_eq_getElem?_getD, List.getElem?_replicate]
  split <;> rfl
theorem bAt_set (l : List Bool) (k i : Nat) (b : Bool) (h : k < l.length) : bAt (l.set k b) i = if i = k then b else bAt l i := by
  unfold bAt
  simp only [List.getD_eq_getElem?_getD]
  by_cases e : i = k
  · subst e; rw [List.getElem?_set_self h]; simp
  · rw [List.getElem?_set_ne (fun q => e q.symm)]; simp [e]
theorem bit_wordTo (l : List Bool) (k i : Nat) (h : i < 64) : bit (wordTo l k) i = (decide (i < k) && bAt l i) := by
  induction k with
  | zero => simp [wordTo, bit_zero]
  | succ k ih =>
    simp only [wordTo]
    split
    · rename_i hb
      rw [bit_or, ih, bit_wrap64]
      unfold bit
      rw [B_pow, BitVec.getLsbD_twoPow]
      by_cases hk : k = i
      · subst hk; simp [h, hb]
      · by_cases hlt : i < k
        · simp [hk, hlt, Nat.lt_succ_of_lt hlt]
        · have : ¬ i < k + 1 := by omega
          simp [hk, hlt, this]
    · rename_i hb
      rw [ih]
      by_cases hk : i = k
      · subst hk
        simp at hb
        simp [hb]
      · by_cases hlt : i < k
        · simp [hlt, Nat.lt_succ_of_lt hlt]
        · have : ¬ i < k + 1 := by omega
          simp [hlt, this]
theorem InI_wordTo (l : List Bool) : ∀ k, InI (wordTo l k)
  | 0 => by simp [wordTo, InI]
  | k + 1 => by
    simp only [wordTo]
    split
    · exact InI_bits _ _ _
    · exact InI_wordTo l k
theorem bit_nat (n i : Nat) (h : i < 64) : bit (n : Int) i = n.testBit i := by
  unfold bit
  rw [← BitVec.testBit_toNat, B_toNat]
  rw [show ((n : Int) % 18446744073709551616).toNat = n % 2 ^ 64 by omega, Nat.testBit_mod_two_pow]
  simp [h]
/-- the number whose bits p tells -/
def wordP (p : Nat → Bool) : Int := wordTo ((List.range 64).map p) 64
theorem InI_wordP (p : Nat → Bool) : InI (wordP p) := InI_wordTo _ _
theorem bit_wordP (p : Nat → Bool) (i : Nat) (h : i < 64) : bit (wordP p) i = p i := by
  unfold wordP
  rw [bit_wordTo _ _ _ h]
  simp [h, bAt, List.getD_eq_getElem?_getD]
theorem wordP_of {a : Int} (h : InI a) (p : Nat → Bool) (hp : ∀ i, i < 64 → bit a i = p i) : a = wordP p :=
  bit_inj h (InI_wordP p) (fun i hi => by rw [hp i hi, bit_wordP p i hi])
theorem wordP_congr {p q : Nat → Bool} (h : ∀ i, i < 64 → p i = q i) : wordP p = wordP q :=
  wordP_of (InI_wordP p) q (fun i hi => by rw [bit_wordP p i hi, h i hi])
theorem wordTo_P (l : List Bool) (p : Nat → Bool) (hp : ∀ i, i < 64 → bAt l i = p i) : wordTo l 64 = wordP p :=
  wordP_of (InI_wordTo _ _) p (fun i hi => by rw [bit_wordTo _ _ _ hi, hp i hi]; simp [hi])
theorem InU_inj {x y : Int} (hx : InU x) (hy : InU y) (h : ∀ j, j < 64 → bit x j = bit y j) : x = y := by
  have e : B x = B y := BitVec.eq_of_getLsbD_eq h
  rw [← u64_id hx, ← u64_id hy, u64_wrap, u64_wrap]
  have := congrArg BitVec.toNat e
  rw [B_toNat, B_toNat] at this
  omega
/-- bits below n alone: the number is below 2^n -/
theorem wordP_small (p : Nat → Bool) (n : Nat) (hn : n < 64) (h : ∀ i, n ≤ i → p i = false) : 0 ≤ wordP p ∧ wordP p < 2 ^ n := by
  have hb : ∀ i, n ≤ i → i < 64 → bit (wordP p) i = false := fun i h1 h2 => by rw [bit_wordP p i h2, h i h1]
  have hlt : (B (wordP p)).toNat < 2 ^ n := by
    refine Nat.lt_pow_two_of_testBit _ (fun i hi => ?_)
    rw [BitVec.testBit_toNat]
    by_cases h2 : i < 64
    · exact hb i hi h2
    · exact BitVec.getLsbD_of_ge _ _ (by omega)
  have hI := InI_wordP p
  unfold InI at hI
  rw [B_toNat] at hlt
  have hp : (2 : Nat) ^ n ≤ 2 ^ 63 := Nat.pow_le_pow_right (by decide) (by omega)
  have h2 : ((wordP p % 18446744073709551616).toNat : Int) < ((2 ^ n : Nat) : Int) := Int.ofNat_lt.2 hlt
  rw [← pow_cast] at h2
  have hp' : (2 : Int) ^ n ≤ 9223372036854775808 := by rw [pow_cast]; exact Int.ofNat_le.2 hp
  constructor <;> omega
theorem wordP_bit {a : Int} (h : InI a) : wordP (bit a) = a := (wordP_of h (bit a) (fun _ _ => rfl)).symm
end Go.Proofs.YtdchljjhajbehaaW.PrintWords
