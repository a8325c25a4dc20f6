-- Functions and laws: texts of the session's own and of the kit's print program, joined; what nothing names is left out.
import Derived.Test.YtfohecpfenegkaaGreatKW
import Derived.Test.YtfohecpfenegkaaGreatKA
import Derived.Test.YtfohecpfenegkaaGreatKD
import Derived.Sort.Walk0
import Derived.Test.YtfohecpfenegkaaGreatKB
import Derived.Test.YtfohecpfenegkaaGreatKC
import Derived.Lib.Strings
section
set_option linter.unusedVariables false
set_option linter.unusedSimpArgs false
namespace Go.Proofs.YtfohecpfenegkaaGreatW.PrintWords
open Go.RowKit Go.Proofs.YtfohecpfenegkaaGreatW.PrintMore
theorem obind {α β : Type} {x : Option α} {v : α} {g : α → Option β} {r : Option β} (h : x = some v) (h2 : g v = r) : x.bind g = r := by rw [h]; exact h2
/-! ### enough rounds -/
theorem Ev.at_ {α : Type} {g : Nat → Option α} {r : α} (c : Nat) (h : ∀ k, g (k + c) = some r) : Ev g r :=
  ⟨c, fun k hk => by obtain ⟨m, rfl⟩ : ∃ m, k = m + c := ⟨k - c, by omega⟩; exact h m⟩
theorem Ev.call {α β : Type} {x : Option α} {v : α} {f : Nat → α → Option β} {r : β} (h : x = some v) (k : Ev (fun n => f n v) r) : Ev (fun n => x.bind (f n)) r := by
  subst h; exact k
theorem Ev.yes {α : Type} {c : Prop} [Decidable c] {x y : Nat → Option α} {r : α} (h : c) (k : Ev x r) : Ev (fun n => if c then x n else y n) r :=
  Ev.congr (fun n => if_pos h) k
theorem Ev.no {α : Type} {c : Prop} [Decidable c] {x y : Nat → Option α} {r : α} (h : ¬ c) (k : Ev y r) : Ev (fun n => if c then x n else y n) r :=
  Ev.congr (fun n => if_neg h) k
theorem Ev.val {α : Type} {v r : α} (h : v = r) : Ev (fun _ => some v) r := by subst h; exact Ev.now _
def InI (a : Int) : Prop := -9223372036854775808 ≤ a ∧ a ≤ 9223372036854775807
def InU (a : Int) : Prop := 0 ≤ a ∧ a ≤ 18446744073709551615
def B (a : Int) : BitVec 64 := BitVec.ofInt 64 a
def bit (a : Int) (i : Nat) : Bool := (B a).getLsbD i
theorem bit_ge (a : Int) {i : Nat} (h : 64 ≤ i) : bit a i = false := BitVec.getLsbD_of_ge _ _ h
theorem InI_wrap64 (x : Int) : InI (wrap64 x) := by unfold InI wrap64; omega
theorem wrap64_id {a : Int} (h : InI a) : wrap64 a = a := by unfold InI at h; unfold wrap64; omega
theorem wrap64_eq (x : Int) : wrap64 x = (B x).toInt := by
  unfold B wrap64
  rw [BitVec.toInt_ofInt, Int.bmod_def]
  split <;> omega
theorem B_toInt (v : BitVec 64) : B v.toInt = v := BitVec.ofInt_toInt
theorem B_wrap64 (x : Int) : B (wrap64 x) = B x := by rw [wrap64_eq, B_toInt]
theorem B_inj {a b : Int} (ha : InI a) (hb : InI b) (h : B a = B b) : a = b := by
  rw [← wrap64_id ha, ← wrap64_id hb, wrap64_eq, wrap64_eq, h]
theorem bit_inj {a b : Int} (ha : InI a) (hb : InI b) (h : ∀ i, i < 64 → bit a i = bit b i) : a = b :=
  B_inj ha hb (BitVec.eq_of_getLsbD_eq h)
theorem bit_wrap64 (x : Int) (i : Nat) : bit (wrap64 x) i = bit x i := by unfold bit; rw [B_wrap64]
theorem u64_wrap (x : Int) : IntKind.u64.wrap x = x % 18446744073709551616 := by simp [IntKind.wrap, IntKind.bits, IntKind.signed]
theorem B_toNat (x : Int) : (B x).toNat = (x % 18446744073709551616).toNat := by
  unfold B
  rw [BitVec.toNat_ofInt]
  rfl
theorem B_u64 (x : Int) : B (IntKind.u64.wrap x) = B x := by
  apply BitVec.eq_of_toNat_eq
  rw [B_toNat, B_toNat, u64_wrap, Int.emod_emod]
theorem InU_u64 (x : Int) : InU (IntKind.u64.wrap x) := by unfold InU; rw [u64_wrap]; omega
theorem bit_u64 (x : Int) (i : Nat) : bit (IntKind.u64.wrap x) i = bit x i := by unfold bit; rw [B_u64]
theorem u64_id {a : Int} (h : InU a) : IntKind.u64.wrap a = a := by unfold InU at h; rw [u64_wrap]; omega
theorem B_nat (v : BitVec 64) : B (v.toNat : Int) = v := by
  unfold B
  rw [BitVec.ofInt_natCast, BitVec.ofNat_toNat, BitVec.setWidth_eq]
theorem i64_wrap (x : Int) : IntKind.i64.wrap x = wrap64 x := by rw [IntKind.wrap_i64]; unfold wrap64; rfl
theorem B_and (a b : Int) : B (Go.bits .and .i64 a b) = B a &&& B b := by
  show B (IntKind.i64.wrap _) = _
  rw [i64_wrap, B_wrap64]
  exact B_nat _
theorem B_or (a b : Int) : B (Go.bits .or .i64 a b) = B a ||| B b := by
  show B (IntKind.i64.wrap _) = _
  rw [i64_wrap, B_wrap64]
  exact B_nat _
theorem B_uand (a b : Int) : B (Go.bits .and .u64 a b) = B a &&& B b := by
  show B (IntKind.u64.wrap _) = _
  rw [B_u64]
  exact B_nat _
theorem B_uor (a b : Int) : B (Go.bits .or .u64 a b) = B a ||| B b := by
  show B (IntKind.u64.wrap _) = _
  rw [B_u64]
  exact B_nat _
theorem B_uxor (a b : Int) : B (Go.bits .xor .u64 a b) = B a ^^^ B b := by
  show B (IntKind.u64.wrap _) = _
  rw [B_u64]
  exact B_nat _
theorem InI_bits (o : BinOp) (a b : Int) : InI (Go.bits o .i64 a b) := by
  unfold Go.bits
  rw [i64_wrap]
  exact InI_wrap64 _
theorem InU_bits (o : BinOp) (a b : Int) : InU (Go.bits o .u64 a b) := by
  unfold Go.bits
  exact InU_u64 _
theorem bit_or (a b : Int) (i : Nat) : bit (Go.bits .or .i64 a b) i = (bit a i || bit b i) := by unfold bit; rw [B_or, BitVec.getLsbD_or]
theorem bit_uand (a b : Int) (i : Nat) : bit (Go.bits .and .u64 a b) i = (bit a i && bit b i) := by unfold bit; rw [B_uand, BitVec.getLsbD_and]
theorem bit_uor (a b : Int) (i : Nat) : bit (Go.bits .or .u64 a b) i = (bit a i || bit b i) := by unfold bit; rw [B_uor, BitVec.getLsbD_or]
theorem bit_uxor (a b : Int) (i : Nat) : bit (Go.bits .xor .u64 a b) i = (bit a i ^^ bit b i) := by unfold bit; rw [B_uxor, BitVec.getLsbD_xor]
theorem bit_zero (i : Nat) : bit 0 i = false := by unfold bit B; simp
theorem B_neg1 : B (-1) = BitVec.allOnes 64 := by decide
theorem bit_neg1 (i : Nat) (h : i < 64) : bit (-1) i = true := by unfold bit; rw [B_neg1, BitVec.getLsbD_allOnes]; simp [h]
theorem pow_cast (n : Nat) : (2 : Int) ^ n = ((2 ^ n : Nat) : Int) := by simp
theorem B_pow (n : Nat) : B (2 ^ n) = BitVec.twoPow 64 n := by
  unfold B
  rw [pow_cast, BitVec.ofInt_natCast, BitVec.twoPow_eq]
  apply BitVec.eq_of_toNat_eq
  simp [BitVec.toNat_shiftLeft, Nat.shiftLeft_eq]
theorem B_mul_pow (x : Int) (n : Nat) : B (x * 2 ^ n) = B x <<< n := by
  have h : B (x * 2 ^ n) = B x * B (2 ^ n) := BitVec.ofInt_mul x _
  rw [h, B_pow, BitVec.mul_twoPow_eq_shiftLeft]
theorem bit_mul_pow (x : Int) (n i : Nat) (h : i < 64) : bit (x * 2 ^ n) i = (decide (n ≤ i) && bit x (i - n)) := by
  unfold bit
  rw [B_mul_pow, BitVec.getLsbD_shiftLeft]
  by_cases h' : n ≤ i
  · have : ¬ i < n := by omega
    simp [h, h', this]
  · have : i < n := by omega
    simp [h, h', this]
theorem bit_div_pow {x : Int} (hx : InU x) (n i : Nat) : bit (x / 2 ^ n) i = bit x (n + i) := by
  have h : B (x / 2 ^ n) = B x >>> n := by
    apply BitVec.eq_of_toNat_eq
    unfold InU at hx
    obtain ⟨m, rfl⟩ := Int.eq_ofNat_of_zero_le hx.1
    rw [BitVec.toNat_ushiftRight, B_toNat, B_toNat, Nat.shiftRight_eq_div_pow, pow_cast, ← Int.natCast_ediv]
    have h1 : m / 2 ^ n ≤ m := Nat.div_le_self _ _
    have h2 : ∀ q, q ≤ m → q % 18446744073709551616 = q := fun q h => Nat.mod_eq_of_lt (by omega)
    rw [Int.toNat_emod (Int.natCast_nonneg _) (by decide), Int.toNat_emod (Int.natCast_nonneg _) (by decide)]
    simp only [Int.toNat_natCast]
    rw [show Int.toNat 18446744073709551616 = 18446744073709551616 from rfl, h2 _ h1, h2 _ (Nat.le_refl _)]
  unfold bit
  rw [h, BitVec.getLsbD_ushiftRight]
theorem InU_div {x : Int} (hx : InU x) (n : Nat) : InU (x / 2 ^ n) := by
  unfold InU at *
  obtain ⟨m, rfl⟩ := Int.eq_ofNat_of_zero_le hx.1
  rw [pow_cast, ← Int.natCast_ediv]
  have h1 : m / 2 ^ n ≤ m := Nat.div_le_self _ _
  generalize m / 2 ^ n = q at h1 ⊢
  omega
theorem bit_shl (x y : Int) (i : Nat) (h : i < 64) : bit (shl .u64 x y) i = (decide (y.toNat ≤ i) && bit x (i - y.toNat)) := by
  unfold shl
  rw [bit_u64, bit_mul_pow _ _ _ h]
  show (decide (min y.toNat 64 ≤ i) && bit x (i - min y.toNat 64)) = _
  by_cases hy : y.toNat ≤ 64
  · rw [Nat.min_eq_left hy]
  · have h1 : ¬ y.toNat ≤ i := by omega
    have h2 : ¬ min y.toNat 64 ≤ i := by omega
    simp [h1, h2]
theorem bit_shr {x : Int} (hx : InU x) (y : Int) (i : Nat) : bit (shr .u64 x y) i = bit x (y.toNat + i) := by
  unfold shr
  show bit (x / 2 ^ min y.toNat 64) i = _
  rw [bit_div_pow hx]
  by_cases hy : y.toNat ≤ 64
  · rw [Nat.min_eq_left hy]
  · rw [Nat.min_eq_right (by omega), bit_ge _ (by omega), bit_ge _ (by omega)]
theorem InU_shr {x : Int} (hx : InU x) (y : Int) : InU (shr .u64 x y) := InU_div hx _
theorem bit_div (x : Int) (i : Nat) (h : i < 64) : bit x i = decide (x / 2 ^ i % 2 = 1) := by
  unfold bit
  rw [← BitVec.testBit_toNat, Nat.testBit_eq_decide_div_mod_eq, B_toNat]
  have hp : (18446744073709551616 : Int) = 2 ^ i * (2 * 2 ^ (63 - i)) := by
    rw [← Int.mul_assoc, ← Int.pow_succ, ← Int.pow_add]
    rw [show i + 1 + (63 - i) = 64 by omega]
    rfl
  have hm := Int.emod_nonneg x (show (18446744073709551616 : Int) ≠ 0 by decide)
  have h2 : x % 18446744073709551616 / 2 ^ i % 2 = x / 2 ^ i % 2 := by
    have hx := Int.mul_ediv_add_emod x 18446744073709551616
    have hx2 : x / 2 ^ i = (2 * 2 ^ (63 - i)) * (x / 18446744073709551616) + x % 18446744073709551616 / 2 ^ i := by
      conv => lhs; rw [← hx]
      rw [hp, Int.mul_assoc, ← hp, Int.add_comm, Int.add_mul_ediv_left _ _ (Int.ne_of_gt (Int.pow_pos (by decide))), Int.add_comm]
    rw [hx2, Int.mul_assoc, Int.add_comm, Int.add_mul_emod_self_left]
  have h3 : (((x % 18446744073709551616).toNat / 2 ^ i % 2 : Nat) : Int) = x / 2 ^ i % 2 := by
    rw [Int.natCast_emod, Int.natCast_ediv, Int.toNat_of_nonneg hm, ← pow_cast]
    exact h2
  rw [decide_eq_decide]
  omega
theorem bitAt_bit (w : Int) (k : Nat) (h : k < 64) : bitAt w k = bit w k := by
  rw [bit_div w k h]
  unfold bitAt
  have e : Go.bits .and .i64 (w / 2 ^ k) 1 = w / 2 ^ k % 2 := by
    apply B_inj (InI_bits _ _ _) (by unfold InI; omega)
    apply BitVec.eq_of_toNat_eq
    rw [B_and, BitVec.toNat_and, show (B 1).toNat = 2 ^ 1 - 1 by decide, Nat.and_two_pow_sub_one_eq_mod, B_toNat, B_toNat]
    omega
  rw [e]
  rfl
theorem bAt_bitsOf (w : Int) (i : Nat) : bAt (bitsOf w) i = bit w i := by
  unfold bAt bitsOf
  by_cases h : i < 64
  · simp [List.getD_eq_getElem?_getD, h, bitAt_bit w i h]
  · rw [bit_ge w (by omega)]
    simp [List.getD_eq_getElem?_getD, h]
theorem bAt_zB (i : Nat) : bAt zB i = false := by
  unfold bAt zB
  rw [List.getD_eq_getElem?_getD, List.getElem?_replicate]
  split <;> rfl
theorem bAt_set (l : List Bool) (k i : Nat) (b : Bool) (h : k < l.length) : bAt (l.set k b) i = if i = k then b else bAt l i := by
  unfold bAt
  simp only [List.getD_eq_getElem?_getD]
  by_cases e : i = k
  · subst e; rw [List.getElem?_set_self h]; simp
  · rw [List.getElem?_set_ne (fun q => e q.symm)]; simp [e]
theorem bit_wordTo (l : List Bool) (k i : Nat) (h : i < 64) : bit (wordTo l k) i = (decide (i < k) && bAt l i) := by
  induction k with
  | zero => simp [wordTo, bit_zero]
  | succ k ih =>
    simp only [wordTo]
    split
    · rename_i hb
      rw [bit_or, ih, bit_wrap64]
      unfold bit
      rw [B_pow, BitVec.getLsbD_twoPow]
      by_cases hk : k = i
      · subst hk; simp [h, hb]
      · by_cases hlt : i < k
        · simp [hk, hlt, Nat.lt_succ_of_lt hlt]
        · have : ¬ i < k + 1 := by omega
          simp [hk, hlt, this]
    · rename_i hb
      rw [ih]
      by_cases hk : i = k
      · subst hk
        simp at hb
        simp [hb]
      · by_cases hlt : i < k
        · simp [hlt, Nat.lt_succ_of_lt hlt]
        · have : ¬ i < k + 1 := by omega
          simp [hlt, this]
theorem InI_wordTo (l : List Bool) : ∀ k, InI (wordTo l k)
  | 0 => by simp [wordTo, InI]
  | k + 1 => by
    simp only [wordTo]
    split
    · exact InI_bits _ _ _
    · exact InI_wordTo l k
theorem bit_nat (n i : Nat) (h : i < 64) : bit (n : Int) i = n.testBit i := by
  unfold bit
  rw [← BitVec.testBit_toNat, B_toNat]
  rw [show ((n : Int) % 18446744073709551616).toNat = n % 2 ^ 64 by omega, Nat.testBit_mod_two_pow]
  simp [h]
def wordP (p : Nat → Bool) : Int := wordTo ((List.range 64).map p) 64
theorem InI_wordP (p : Nat → Bool) : InI (wordP p) := InI_wordTo _ _
theorem bit_wordP (p : Nat → Bool) (i : Nat) (h : i < 64) : bit (wordP p) i = p i := by
  unfold wordP
  rw [bit_wordTo _ _ _ h]
  simp [h, bAt, List.getD_eq_getElem?_getD]
theorem wordP_of {a : Int} (h : InI a) (p : Nat → Bool) (hp : ∀ i, i < 64 → bit a i = p i) : a = wordP p :=
  bit_inj h (InI_wordP p) (fun i hi => by rw [hp i hi, bit_wordP p i hi])
theorem wordP_congr {p q : Nat → Bool} (h : ∀ i, i < 64 → p i = q i) : wordP p = wordP q :=
  wordP_of (InI_wordP p) q (fun i hi => by rw [bit_wordP p i hi, h i hi])
theorem wordTo_P (l : List Bool) (p : Nat → Bool) (hp : ∀ i, i < 64 → bAt l i = p i) : wordTo l 64 = wordP p :=
  wordP_of (InI_wordTo _ _) p (fun i hi => by rw [bit_wordTo _ _ _ hi, hp i hi]; simp [hi])
theorem InU_inj {x y : Int} (hx : InU x) (hy : InU y) (h : ∀ j, j < 64 → bit x j = bit y j) : x = y := by
  have e : B x = B y := BitVec.eq_of_getLsbD_eq h
  rw [← u64_id hx, ← u64_id hy, u64_wrap, u64_wrap]
  have := congrArg BitVec.toNat e
  rw [B_toNat, B_toNat] at this
  omega
theorem wordP_small (p : Nat → Bool) (n : Nat) (hn : n < 64) (h : ∀ i, n ≤ i → p i = false) : 0 ≤ wordP p ∧ wordP p < 2 ^ n := by
  have hb : ∀ i, n ≤ i → i < 64 → bit (wordP p) i = false := fun i h1 h2 => by rw [bit_wordP p i h2, h i h1]
  have hlt : (B (wordP p)).toNat < 2 ^ n := by
    refine Nat.lt_pow_two_of_testBit _ (fun i hi => ?_)
    rw [BitVec.testBit_toNat]
    by_cases h2 : i < 64
    · exact hb i hi h2
    · exact BitVec.getLsbD_of_ge _ _ (by omega)
  have hI := InI_wordP p
  unfold InI at hI
  rw [B_toNat] at hlt
  have hp : (2 : Nat) ^ n ≤ 2 ^ 63 := Nat.pow_le_pow_right (by decide) (by omega)
  have h2 : ((wordP p % 18446744073709551616).toNat : Int) < ((2 ^ n : Nat) : Int) := Int.ofNat_lt.2 hlt
  rw [← pow_cast] at h2
  have hp' : (2 : Int) ^ n ≤ 9223372036854775808 := by rw [pow_cast]; exact Int.ofNat_le.2 hp
  constructor <;> omega
end Go.Proofs.YtfohecpfenegkaaGreatW.PrintWords
end
section
set_option linter.unusedVariables false
set_option linter.unusedSimpArgs false
namespace Go.Proofs.YtfohecpfenegkaaGreat.Print
structure SO {α : Type} (lt : α → α → Prop) : Prop where
  irr : ∀ a, ¬ lt a a
  tr : ∀ {a b c}, lt a b → lt b c → lt a c
  tri : ∀ {a b}, ¬ lt a b → ¬ lt b a → a = b
section
variable {α : Type} {lt : α → α → Prop}
theorem rise_ext (S : SO lt) : ∀ (a b : List α), a.Pairwise lt → b.Pairwise lt → (∀ x, x ∈ a ↔ x ∈ b) → a = b
  | [], [], _, _, _ => rfl
  | [], y :: b, _, _, h => absurd ((h y).2 (by simp)) (by simp)
  | x :: a, [], _, _, h => absurd ((h x).1 (by simp)) (by simp)
  | x :: a, y :: b, ha, hb, h => by
    obtain ⟨ha1, ha2⟩ := List.pairwise_cons.1 ha
    obtain ⟨hb1, hb2⟩ := List.pairwise_cons.1 hb
    have e : x = y := by
      rcases List.mem_cons.1 ((h x).1 (by simp)) with e | h1
      · exact e
      rcases List.mem_cons.1 ((h y).2 (by simp)) with e | h2
      · exact e.symm
      exact absurd (S.tr (hb1 x h1) (ha1 y h2)) (S.irr _)
    subst e
    rw [rise_ext S a b ha2 hb2 (fun z => ?_)]
    constructor
    · intro hz
      rcases List.mem_cons.1 ((h z).1 (List.mem_cons_of_mem _ hz)) with e | h1
      · exact absurd (ha1 z hz) (by rw [e]; exact S.irr _)
      · exact h1
    · intro hz
      rcases List.mem_cons.1 ((h z).2 (List.mem_cons_of_mem _ hz)) with e | h1
      · exact absurd (hb1 z hz) (by rw [e]; exact S.irr _)
      · exact h1
theorem rise_lt {d : List α} (h : d.Pairwise lt) {i j : Nat} (hi : i < d.length) (hj : j < d.length) (hij : i < j) : lt d[i] d[j] := List.pairwise_iff_getElem.1 h i j hi hj hij
theorem rise_lt_iff (S : SO lt) {d : List α} (h : d.Pairwise lt) {i j : Nat} (hi : i < d.length) (hj : j < d.length) : lt d[i] d[j] ↔ i < j := by
  constructor
  · intro hl
    rcases Nat.lt_trichotomy i j with c | c | c
    · exact c
    · subst c; exact absurd hl (S.irr _)
    · exact absurd (S.tr hl (rise_lt h hj hi c)) (S.irr _)
  · exact rise_lt h hi hj
theorem rise_eq_iff (S : SO lt) {d : List α} (h : d.Pairwise lt) {i j : Nat} (hi : i < d.length) (hj : j < d.length) : d[i] = d[j] ↔ i = j := by
  constructor
  · intro e
    rcases Nat.lt_trichotomy i j with c | c | c
    · exact absurd (rise_lt h hi hj c) (by rw [e]; exact S.irr _)
    · exact c
    · exact absurd (rise_lt h hj hi c) (by rw [e]; exact S.irr _)
  · rintro rfl; rfl
def IsOf (lt : α → α → Prop) (l d : List α) (p : List Int) : Prop := d.Pairwise lt ∧ (∀ x, x ∈ d ↔ x ∈ l) ∧ p.length = l.length ∧ ∀ i (hi : i < l.length), ∃ k : Nat, ∃ hk : k < d.length, p[i]? = some (k : Int) ∧ d[k] = l[i]
theorem IsOf.uniq (S : SO lt) {l d d' : List α} {p p' : List Int} (h : IsOf lt l d p) (h' : IsOf lt l d' p') : d = d' ∧ p = p' := by
  have e : d = d' := rise_ext S d d' h.1 h'.1 (fun x => (h.2.1 x).trans (h'.2.1 x).symm)
  subst e
  refine ⟨rfl, ?_⟩
  apply List.ext_getElem?
  intro i
  by_cases hi : i < l.length
  · obtain ⟨k, hk, h1, h2⟩ := h.2.2.2 i hi
    obtain ⟨k', hk', h1', h2'⟩ := h'.2.2.2 i hi
    rw [h1, h1', (rise_eq_iff S h.1 hk hk').1 (h2.trans h2'.symm)]
  · rw [List.getElem?_eq_none (by rw [h.2.2.1]; omega), List.getElem?_eq_none (by rw [h'.2.2.1]; omega)]
def KP (lt : α → α → Prop) (l K : List α) (j : Nat) : Prop := K.Pairwise lt ∧ (∀ x, x ∈ K ↔ x ∈ l.take j) ∧ ∀ h : j - 1 < l.length, 0 < j → ∃ A, K = A ++ [l[j - 1]]
theorem KP.one {l : List α} (h : 0 < l.length) : KP lt l (l.take 1) 1 := by
  obtain ⟨x, m, rfl⟩ : ∃ x m, l = x :: m := by
    cases l with
    | nil => simp at h
    | cons x m => exact ⟨x, m, rfl⟩
  exact ⟨by simp, fun y => Iff.rfl, fun _ _ => ⟨[], by simp⟩⟩
theorem KP.same {l K : List α} {j : Nat} (h : KP lt l K (j + 1)) (hj : j + 1 < l.length) (e : l[j + 1] = l[j]) : KP lt l K (j + 2) := by
  obtain ⟨h1, h2, h3⟩ := h
  refine ⟨h1, fun x => ?_, fun h4 _ => ?_⟩
  · rw [h2, List.take_succ_eq_append_getElem hj, List.mem_append, List.mem_singleton]
    constructor
    · exact .inl
    · rintro (h | rfl)
      · exact h
      · rw [e]; exact List.mem_take_iff_getElem.2 ⟨j, by omega, rfl⟩
  · obtain ⟨A, hA⟩ := h3 (by omega) (by omega)
    exact ⟨A, by rw [hA]; simp only [Nat.add_sub_cancel, show j + 2 - 1 = j + 1 by omega]; rw [e]⟩
theorem KP.more (S : SO lt) {l K : List α} {j : Nat} (hs : l.Pairwise (fun a b => ¬ lt b a)) (h : KP lt l K (j + 1)) (hj : j + 1 < l.length) (e : ¬ l[j + 1] = l[j]) : KP lt l (K ++ [l[j + 1]]) (j + 2) := by
  obtain ⟨h1, h2, h3⟩ := h
  have hlt : lt l[j] l[j + 1] := Classical.byContradiction fun hn => e (S.tri (List.pairwise_iff_getElem.1 hs j (j + 1) (by omega) hj (by omega)) hn)
  obtain ⟨A, hA⟩ := h3 (by omega) (by omega)
  simp only [Nat.add_sub_cancel] at hA
  refine ⟨List.pairwise_append.2 ⟨h1, by simp, fun x hx y hy => ?_⟩, fun x => ?_, fun h4 _ => ⟨K, rfl⟩⟩
  · obtain rfl := List.mem_singleton.1 hy
    rw [hA] at hx h1
    rcases List.mem_append.1 hx with h | h
    · exact S.tr ((List.pairwise_append.1 h1).2.2 x h _ (List.mem_singleton.2 rfl)) hlt
    · rw [List.mem_singleton.1 h]; exact hlt
  · rw [List.take_succ_eq_append_getElem hj, List.mem_append, List.mem_append, h2]
end
end Go.Proofs.YtfohecpfenegkaaGreat.Print
end
section
set_option linter.unusedVariables false
set_option linter.unusedSimpArgs false
namespace Go.Proofs.YtfohecpfenegkaaGreat.Print
open Go.RowKit Go.Proofs.YtfohecpfenegkaaGreatW.PrintWords Go.Proofs.YtfohecpfenegkaaGreatW.PrintMore
theorem bytes_inj {a b : ByteArray} (h : a.toList = b.toList) : a = b := by
  rw [Lib.toList_data, Lib.toList_data] at h
  exact ByteArray.ext (Array.toList_inj.1 h)
theorem dict_mid (lo hi : Nat) (h : hi ≤ 4398046511104) (hl : lo < hi) : wrap64 ((IntKind.u64.wrap (wrap64 ((lo : Int) + (hi : Int)))) / 2) = (((lo + hi) / 2 : Nat) : Int) := by
  have e : wrap64 ((lo : Int) + (hi : Int)) = ((lo + hi : Nat) : Int) := by unfold wrap64; omega
  rw [e, u64_id (by unfold InU; omega)]
  unfold wrap64; omega
def ltint (a b : Int) : Prop := a < b
theorem soint : SO ltint where
  irr := fun a => Int.lt_irrefl a
  tr := fun h1 h2 => Int.lt_trans h1 h2
  tri := fun {a b} h1 h2 => by unfold ltint at h1 h2; omega
theorem ltint_dec (a b : Int) : cmp_Less_int.f a b = some (decide (a < b)) := by
  simp [cmp_Less_int.f, cmp_isNaN_int.f]
theorem kpint_ok {l : List Int} (hs : l.Pairwise (fun a b => ¬ ltint b a)) : ∀ j, j + 1 ≤ l.length → KP ltint l (slices_Compact_int_int.kp l (j + 1)) (j + 1)
  | 0, h => KP.one (by omega)
  | j + 1, h => by
    have ih := kpint_ok hs j (by omega)
    have e1 : rd l ((j + 1 : Nat) : Int) = l[j + 1] := slices_Compact_int_int.rd_get l (j + 1) (by omega)
    have e0 : rd l (j : Int) = l[j] := slices_Compact_int_int.rd_get l j (by omega)
    show KP ltint l (if slices_Compact_int_int.eq (rd l ((j + 1 : Nat) : Int)) (rd l (j : Int)) then slices_Compact_int_int.kp l (j + 1) else slices_Compact_int_int.kp l (j + 1) ++ [rd l ((j + 1 : Nat) : Int)]) (j + 2)
    rw [e1, e0]
    by_cases c : slices_Compact_int_int.eq l[j + 1] l[j]
    · rw [if_pos c]
      exact KP.same ih (by omega) (id c)
    · rw [if_neg c]
      exact KP.more soint hs ih (by omega) (fun e => c (by rw [e]))
theorem kpint_len (l : List Int) : ∀ j, (slices_Compact_int_int.kp l j).length ≤ j
  | 0 => Nat.le_refl _
  | 1 => by simp [slices_Compact_int_int.kp]; omega
  | j + 2 => by
    have ih := kpint_len l (j + 1)
    simp only [slices_Compact_int_int.kp]
    split
    · omega
    · simp; omega
theorem srtint_ok (l : List Int) (hl : l.length ≤ 2000000000000) : ∃ s, slices_Sort_int_int.f l = some s ∧ s.Pairwise (fun a b => ¬ ltint b a) ∧ (∀ x, x ∈ s ↔ x ∈ l) ∧ s.length = l.length := by
  refine ⟨_, if_pos hl, ?_, fun x => List.mem_mergeSort, List.length_mergeSort l⟩
  have h := List.pairwise_mergeSort (le := fun (x y : Int) => decide (x ≤ y)) (fun a b c h1 h2 => by simp only [decide_eq_true_eq] at *; omega) (fun a b => by simp only [Bool.or_eq_true, decide_eq_true_eq]; omega) l
  exact h.imp (fun {a b} hab => by unfold ltint; simp only [decide_eq_true_eq] at hab; omega)
theorem dicint_ok (l : List Int) (hl : l.length ≤ 2000000000000) : ∃ s d, slices_Sort_int_int.f l = some s ∧ slices_Compact_int_int.f s = some d ∧ d.Pairwise ltint ∧ (∀ x, x ∈ d ↔ x ∈ l) ∧ d.length ≤ l.length := by
  obtain ⟨s, h1, h2, h3, h4⟩ := srtint_ok l hl
  refine ⟨s, _, h1, if_pos (by rw [h4]; exact hl), ?_, ?_, ?_⟩
  · cases hs : s.length with
    | zero => exact List.Pairwise.nil
    | succ j => exact (kpint_ok h2 j (by omega)).1
  · intro x
    rw [← h3]
    cases hs : s.length with
    | zero => rw [List.length_eq_zero_iff.1 hs]; rfl
    | succ j => rw [(kpint_ok h2 j (by omega)).2.1, List.take_of_length_le (by omega)]
  · have := kpint_len s s.length
    omega
theorem findint (d : List Int) (hd : d.Pairwise ltint) (hn : d.length ≤ 4398046511104) (m : Nat) (hm : m < d.length) : ∀ (n lo hi : Nat), hi - lo ≤ n → lo ≤ m → m ≤ hi → hi ≤ d.length →
    Ev (fun k => slices_BinarySearch_int_int.l0 k d d[m] (d.length : Int) (lo : Int) (hi : Int)) ((m : Int), true)
  | n, lo, hi, hk, h1, h2, h3 => by
    by_cases hlt : lo < hi
    · obtain ⟨n, rfl⟩ : ∃ e, n = e + 1 := ⟨n - 1, by omega⟩
      have em := dict_mid lo hi (by omega) hlt
      have hml : (lo + hi) / 2 < d.length := by omega
      have er : rd d (((lo + hi) / 2 : Nat) : Int) = d[(lo + hi) / 2] := slices_Compact_int_int.rd_get d _ hml
      have hiff : ltint d[(lo + hi) / 2] d[m] ↔ (lo + hi) / 2 < m := rise_lt_iff soint hd hml hm
      refine Ev.step (fun k => slices_BinarySearch_int_int.l0_succ k _ _ _ _ _) (Ev.yes (by omega) ?_)
      rw [em]
      refine Ev.yes (by omega) (Ev.yes (by omega) ?_)
      rw [er]
      refine Ev.call (ltint_dec _ _) ?_
      by_cases c : (lo + hi) / 2 < m
      · refine Ev.yes (decide_eq_true (hiff.2 c)) ?_
        rw [show wrap64 ((((lo + hi) / 2 : Nat) : Int) + 1) = (((lo + hi) / 2 + 1 : Nat) : Int) by unfold wrap64; omega]
        exact findint d hd hn m hm n ((lo + hi) / 2 + 1) hi (by omega) (by omega) h2 h3
      · refine Ev.no (by rw [decide_eq_true_eq]; exact fun h => c (hiff.1 h)) ?_
        exact findint d hd hn m hm n lo ((lo + hi) / 2) (by omega) h1 (by omega) (by omega)
    · have e : lo = m := by omega
      have er : rd d (m : Int) = d[m] := slices_Compact_int_int.rd_get d m hm
      subst e
      refine Ev.step (fun k => slices_BinarySearch_int_int.l0_succ k _ _ _ _ _) (Ev.no (by omega) (Ev.yes (by omega) (Ev.yes (by omega) (Ev.yes (by omega) ?_))))
      rw [er]
      exact Ev.yes rfl (Ev.now _)
theorem ofint_loop (l d : List Int) (hd : d.Pairwise ltint) (hn : d.length ≤ 4398046511104) (hl : l.length ≤ 2000000000000) (hm : ∀ x, x ∈ l → x ∈ d) : ∀ (n i : Nat) (p : List Int), i + n = l.length → p.length = i →
    (∀ j (hj : j < l.length), j < i → ∃ k : Nat, ∃ hk : k < d.length, p[j]? = some (k : Int) ∧ d[k] = l[j]) →
    ∃ q, Ev (fun k => dict_Of_int.l0 k d p l (l.length : Int) (i : Int)) (d, q) ∧ q.length = l.length ∧ ∀ j (hj : j < l.length), ∃ k : Nat, ∃ hk : k < d.length, q[j]? = some (k : Int) ∧ d[k] = l[j]
  | 0, i, p, h, hp, hq => ⟨p, Ev.step (fun k => dict_Of_int.l0_succ k _ _ _ _ _) (Ev.no (by omega) (Ev.now _)), by omega, fun j hj => hq j hj (by omega)⟩
  | n + 1, i, p, h, hp, hq => by
    have hi : i < l.length := by omega
    obtain ⟨m, hmd, e⟩ := List.getElem_of_mem (hm l[i] (List.getElem_mem hi))
    have er : rd l (i : Int) = l[i] := slices_Compact_int_int.rd_get l i hi
    have ei : wrap64 ((i : Int) + 1) = ((i + 1 : Nat) : Int) := by unfold wrap64; omega
    have hs := findint d hd hn m hmd d.length 0 d.length (by omega) (by omega) (by omega) (Nat.le_refl _)
    rw [e] at hs
    obtain ⟨q, h1, h2, h3⟩ := ofint_loop l d hd hn hl hm n (i + 1) (p ++ [(m : Int)]) (by omega) (by simp; omega) (fun j hj hji => by
      by_cases c : j < i
      · obtain ⟨k, hk, a, b⟩ := hq j hj c
        exact ⟨k, hk, by rw [List.getElem?_append_left (by omega)]; exact a, b⟩
      · obtain rfl : j = i := by omega
        exact ⟨m, hmd, by rw [List.getElem?_append_right (by omega), hp, Nat.sub_self]; rfl, e⟩)
    refine ⟨q, Ev.step (fun k => dict_Of_int.l0_succ k _ _ _ _ _) (Ev.yes (by omega) (Ev.yes (by omega) (Ev.yes (by omega) ?_))), h2, h3⟩
    rw [er, ei]
    exact Ev.bind (show Ev (fun k => slices_BinarySearch_int_int.f k d l[i]) ((m : Int), true) from hs) (Ev.yes (by omega) h1)
theorem ofint_ev (l : List Int) (hl : l.length ≤ 2000000000000) : ∃ d p, Ev (fun k => dict_Of_int.f k l) (d, p) ∧ IsOf ltint l d p ∧ d.length ≤ l.length := by
  obtain ⟨s, d, h1, h2, h3, h4, h5⟩ := dicint_ok l hl
  obtain ⟨q, a, b, c⟩ := ofint_loop l d h3 (by omega) hl (fun x hx => (h4 x).2 hx) l.length 0 [] (by omega) rfl (fun j hj h => absurd h (Nat.not_lt_zero j))
  refine ⟨d, q, ?_, ⟨h3, h4, b, c⟩, h5⟩
  unfold dict_Of_int.f
  exact Ev.call (v := l) (if_pos hl) (Ev.call h1 (Ev.call h2 a))
def ltstring (a b : ByteArray) : Prop := a.toList < b.toList
theorem sostring : SO ltstring where
  irr := fun a => List.lt_irrefl _
  tr := fun h1 h2 => List.lt_trans h1 h2
  tri := fun {a b} h1 h2 => bytes_inj (List.le_antisymm (List.not_lt.1 h2) (List.not_lt.1 h1))
theorem ltstring_dec (a b : ByteArray) : cmp_Less_string.f a b = some (decide (a.toList < b.toList)) := by
  simp [cmp_Less_string.f, cmp_isNaN_string.f, Go.Proofs.bytesLess_eq]
theorem kpstring_ok {l : List ByteArray} (hs : l.Pairwise (fun a b => ¬ ltstring b a)) : ∀ j, j + 1 ≤ l.length → KP ltstring l (slices_Compact_string_string.kp l (j + 1)) (j + 1)
  | 0, h => KP.one (by omega)
  | j + 1, h => by
    have ih := kpstring_ok hs j (by omega)
    have e1 : rdOf ByteArray.empty l ((j + 1 : Nat) : Int) = l[j + 1] := slices_Compact_string_string.rd_get l (j + 1) (by omega)
    have e0 : rdOf ByteArray.empty l (j : Int) = l[j] := slices_Compact_string_string.rd_get l j (by omega)
    show KP ltstring l (if slices_Compact_string_string.eq (rdOf ByteArray.empty l ((j + 1 : Nat) : Int)) (rdOf ByteArray.empty l (j : Int)) then slices_Compact_string_string.kp l (j + 1) else slices_Compact_string_string.kp l (j + 1) ++ [rdOf ByteArray.empty l ((j + 1 : Nat) : Int)]) (j + 2)
    rw [e1, e0]
    by_cases c : slices_Compact_string_string.eq l[j + 1] l[j]
    · rw [if_pos c]
      exact KP.same ih (by omega) (bytes_inj c)
    · rw [if_neg c]
      exact KP.more sostring hs ih (by omega) (fun e => c (by rw [e]))
theorem kpstring_len (l : List ByteArray) : ∀ j, (slices_Compact_string_string.kp l j).length ≤ j
  | 0 => Nat.le_refl _
  | 1 => by simp [slices_Compact_string_string.kp]; omega
  | j + 2 => by
    have ih := kpstring_len l (j + 1)
    simp only [slices_Compact_string_string.kp]
    split
    · omega
    · simp; omega
theorem srtstring_ok (l : List ByteArray) (hl : l.length ≤ 2000000000000) : ∃ s, slices_Sort_string_string.f l = some s ∧ s.Pairwise (fun a b => ¬ ltstring b a) ∧ (∀ x, x ∈ s ↔ x ∈ l) ∧ s.length = l.length := by
  refine ⟨_, if_pos hl, ?_, fun x => ?_, by rw [List.length_map, List.length_mergeSort, List.length_map]⟩
  · have h := List.pairwise_mergeSort (le := fun (x y : List UInt8) => decide (x ≤ y)) (fun a b c h1 h2 => by simp only [decide_eq_true_eq] at *; exact List.le_trans h1 h2) (fun a b => by simp only [Bool.or_eq_true, decide_eq_true_eq]; exact List.le_total a b) (l.map slices_Sort_string_string.bl)
    refine List.pairwise_map.2 (h.imp (fun {a b} hab => ?_))
    simp only [decide_eq_true_eq] at hab
    unfold ltstring slices_Sort_string_string.bs
    rw [Lib.toList_data, Lib.toList_data]
    exact List.not_lt.2 hab
  · rw [List.mem_map]
    constructor
    · rintro ⟨y, hy, rfl⟩
      rw [List.mem_mergeSort, List.mem_map] at hy
      obtain ⟨z, hz, rfl⟩ := hy
      exact hz
    · intro hx
      exact ⟨slices_Sort_string_string.bl x, by rw [List.mem_mergeSort, List.mem_map]; exact ⟨x, hx, rfl⟩, rfl⟩
theorem dicstring_ok (l : List ByteArray) (hl : l.length ≤ 2000000000000) : ∃ s d, slices_Sort_string_string.f l = some s ∧ slices_Compact_string_string.f s = some d ∧ d.Pairwise ltstring ∧ (∀ x, x ∈ d ↔ x ∈ l) ∧ d.length ≤ l.length := by
  obtain ⟨s, h1, h2, h3, h4⟩ := srtstring_ok l hl
  refine ⟨s, _, h1, if_pos (by rw [h4]; exact hl), ?_, ?_, ?_⟩
  · cases hs : s.length with
    | zero => exact List.Pairwise.nil
    | succ j => exact (kpstring_ok h2 j (by omega)).1
  · intro x
    rw [← h3]
    cases hs : s.length with
    | zero => rw [List.length_eq_zero_iff.1 hs]; rfl
    | succ j => rw [(kpstring_ok h2 j (by omega)).2.1, List.take_of_length_le (by omega)]
  · have := kpstring_len s s.length
    omega
theorem findstring (d : List ByteArray) (hd : d.Pairwise ltstring) (hn : d.length ≤ 4398046511104) (m : Nat) (hm : m < d.length) : ∀ (n lo hi : Nat), hi - lo ≤ n → lo ≤ m → m ≤ hi → hi ≤ d.length →
    Ev (fun k => slices_BinarySearch_string_string.l0 k d d[m] (d.length : Int) (lo : Int) (hi : Int)) ((m : Int), true)
  | n, lo, hi, hk, h1, h2, h3 => by
    by_cases hlt : lo < hi
    · obtain ⟨n, rfl⟩ : ∃ e, n = e + 1 := ⟨n - 1, by omega⟩
      have em := dict_mid lo hi (by omega) hlt
      have hml : (lo + hi) / 2 < d.length := by omega
      have er : rdOf ByteArray.empty d (((lo + hi) / 2 : Nat) : Int) = d[(lo + hi) / 2] := slices_Compact_string_string.rd_get d _ hml
      have hiff : ltstring d[(lo + hi) / 2] d[m] ↔ (lo + hi) / 2 < m := rise_lt_iff sostring hd hml hm
      refine Ev.step (fun k => slices_BinarySearch_string_string.l0_succ k _ _ _ _ _) (Ev.yes (by omega) ?_)
      rw [em]
      refine Ev.yes (by omega) (Ev.yes (by omega) ?_)
      rw [er]
      refine Ev.call (ltstring_dec _ _) ?_
      by_cases c : (lo + hi) / 2 < m
      · refine Ev.yes (decide_eq_true (hiff.2 c)) ?_
        rw [show wrap64 ((((lo + hi) / 2 : Nat) : Int) + 1) = (((lo + hi) / 2 + 1 : Nat) : Int) by unfold wrap64; omega]
        exact findstring d hd hn m hm n ((lo + hi) / 2 + 1) hi (by omega) (by omega) h2 h3
      · refine Ev.no (by rw [decide_eq_true_eq]; exact fun h => c (hiff.1 h)) ?_
        exact findstring d hd hn m hm n lo ((lo + hi) / 2) (by omega) h1 (by omega) (by omega)
    · have e : lo = m := by omega
      have er : rdOf ByteArray.empty d (m : Int) = d[m] := slices_Compact_string_string.rd_get d m hm
      subst e
      refine Ev.step (fun k => slices_BinarySearch_string_string.l0_succ k _ _ _ _ _) (Ev.no (by omega) (Ev.yes (by omega) (Ev.yes (by omega) (Ev.yes (by omega) ?_))))
      rw [er]
      exact Ev.yes rfl (Ev.now _)
theorem ofstring_loop (l d : List ByteArray) (hd : d.Pairwise ltstring) (hn : d.length ≤ 4398046511104) (hl : l.length ≤ 2000000000000) (hm : ∀ x, x ∈ l → x ∈ d) : ∀ (n i : Nat) (p : List Int), i + n = l.length → p.length = i →
    (∀ j (hj : j < l.length), j < i → ∃ k : Nat, ∃ hk : k < d.length, p[j]? = some (k : Int) ∧ d[k] = l[j]) →
    ∃ q, Ev (fun k => dict_Of_string.l0 k d p l (l.length : Int) (i : Int)) (d, q) ∧ q.length = l.length ∧ ∀ j (hj : j < l.length), ∃ k : Nat, ∃ hk : k < d.length, q[j]? = some (k : Int) ∧ d[k] = l[j]
  | 0, i, p, h, hp, hq => ⟨p, Ev.step (fun k => dict_Of_string.l0_succ k _ _ _ _ _) (Ev.no (by omega) (Ev.now _)), by omega, fun j hj => hq j hj (by omega)⟩
  | n + 1, i, p, h, hp, hq => by
    have hi : i < l.length := by omega
    obtain ⟨m, hmd, e⟩ := List.getElem_of_mem (hm l[i] (List.getElem_mem hi))
    have er : rdOf ByteArray.empty l (i : Int) = l[i] := slices_Compact_string_string.rd_get l i hi
    have ei : wrap64 ((i : Int) + 1) = ((i + 1 : Nat) : Int) := by unfold wrap64; omega
    have hs := findstring d hd hn m hmd d.length 0 d.length (by omega) (by omega) (by omega) (Nat.le_refl _)
    rw [e] at hs
    obtain ⟨q, h1, h2, h3⟩ := ofstring_loop l d hd hn hl hm n (i + 1) (p ++ [(m : Int)]) (by omega) (by simp; omega) (fun j hj hji => by
      by_cases c : j < i
      · obtain ⟨k, hk, a, b⟩ := hq j hj c
        exact ⟨k, hk, by rw [List.getElem?_append_left (by omega)]; exact a, b⟩
      · obtain rfl : j = i := by omega
        exact ⟨m, hmd, by rw [List.getElem?_append_right (by omega), hp, Nat.sub_self]; rfl, e⟩)
    refine ⟨q, Ev.step (fun k => dict_Of_string.l0_succ k _ _ _ _ _) (Ev.yes (by omega) (Ev.yes (by omega) (Ev.yes (by omega) ?_))), h2, h3⟩
    rw [er, ei]
    exact Ev.bind (show Ev (fun k => slices_BinarySearch_string_string.f k d l[i]) ((m : Int), true) from hs) (Ev.yes (by omega) h1)
theorem ofstring_ev (l : List ByteArray) (hl : l.length ≤ 2000000000000) : ∃ d p, Ev (fun k => dict_Of_string.f k l) (d, p) ∧ IsOf ltstring l d p ∧ d.length ≤ l.length := by
  obtain ⟨s, d, h1, h2, h3, h4, h5⟩ := dicstring_ok l hl
  obtain ⟨q, a, b, c⟩ := ofstring_loop l d h3 (by omega) hl (fun x hx => (h4 x).2 hx) l.length 0 [] (by omega) rfl (fun j hj h => absurd h (Nat.not_lt_zero j))
  refine ⟨d, q, ?_, ⟨h3, h4, b, c⟩, h5⟩
  unfold dict_Of_string.f
  exact Ev.call (v := l) (if_pos hl) (Ev.call h1 (Ev.call h2 a))
end Go.Proofs.YtfohecpfenegkaaGreat.Print
end
section
set_option linter.unusedVariables false
set_option linter.unusedSimpArgs false
namespace Go.Proofs.YtfohecpfenegkaaGreat.Print
open Go.RowKit Go.Proofs.YtfohecpfenegkaaGreatW.PrintWords Go.Proofs.YtfohecpfenegkaaGreatW.PrintMore
theorem same07_loop (l : List ByteArray) (hl : l.length ≤ 4398046511104) : ∀ (d i : Nat), i + d = l.length → Ev (fun k => peristyleref07_Same.l0 k l l (i : Int)) true
  | 0, i, h => Ev.step (fun k => peristyleref07_Same.l0_succ k _ _ _) (Ev.no (by omega) (Ev.now _))
  | d + 1, i, h => by
    have e : wrap64 ((i : Int) + 1) = ((i + 1 : Nat) : Int) := by unfold wrap64; omega
    have ih := same07_loop l hl d (i + 1) (by omega)
    rw [← e] at ih
    exact Ev.step (fun k => peristyleref07_Same.l0_succ k _ _ _) (Ev.yes (by omega) (Ev.yes (by omega) (Ev.yes (by omega) (Ev.yes rfl ih))))
theorem same07_ev (l : List ByteArray) (hl : l.length ≤ 4398046511104) : Ev (fun k => peristyleref07_Same.f k l l) true := Ev.yes rfl (same07_loop l hl l.length 0 (by omega))
theorem awake11_of : Ev (fun k => dict_Of_string.f k [(⟨#[98]⟩ : ByteArray), (⟨#[97]⟩ : ByteArray), (⟨#[98]⟩ : ByteArray)]) ([(⟨#[97]⟩ : ByteArray), (⟨#[98]⟩ : ByteArray)], [1, 0, 1]) := by
  obtain ⟨d, p, h1, h2, _⟩ := ofstring_ev [(⟨#[98]⟩ : ByteArray), (⟨#[97]⟩ : ByteArray), (⟨#[98]⟩ : ByteArray)] (by simp)
  have h3 : IsOf ltstring [(⟨#[98]⟩ : ByteArray), (⟨#[97]⟩ : ByteArray), (⟨#[98]⟩ : ByteArray)] [(⟨#[97]⟩ : ByteArray), (⟨#[98]⟩ : ByteArray)] [1, 0, 1] := by
    refine ⟨?_, fun x => ?_, rfl, fun i hi => ?_⟩
    · refine List.pairwise_cons.2 ⟨fun x hx => ?_, List.pairwise_cons.2 ⟨fun x hx => by simp at hx, List.Pairwise.nil⟩⟩
      obtain rfl := List.mem_singleton.1 hx
      unfold ltstring
      rw [Lib.toList_data, Lib.toList_data]
      show [(97 : UInt8)] < [98]
      decide
    · simp only [List.mem_cons, List.not_mem_nil, or_false]
      constructor
      · rintro (h | h)
        · exact .inr (.inl h)
        · exact .inl h
      · rintro (h | h | h)
        · exact .inr h
        · exact .inl h
        · exact .inr h
    · match i, hi with
      | 0, _ => exact ⟨1, by simp, rfl, rfl⟩
      | 1, _ => exact ⟨0, by simp, rfl, rfl⟩
      | 2, _ => exact ⟨1, by simp, rfl, rfl⟩
      | n + 3, h => exact absurd h (by simp)
  obtain ⟨rfl, rfl⟩ := IsOf.uniq sostring h2 h3
  exact h1
theorem awake11_put : Ev (fun k => plain_PutTexts.f k [(⟨#[97]⟩ : ByteArray), (⟨#[98]⟩ : ByteArray)]) ((⟨#[1, 97, 1, 98]⟩ : ByteArray), 0) := Ev.of (plain_PutTexts.mono _) (k := 10) (by kernel_rfl)
theorem awake11_width : Ev (fun k => pack_Width.f k [1, 0, 1]) 1 := Ev.of (pack_Width.mono _) (k := 100) (by kernel_rfl)
theorem awake11_pack : Ev (fun k => pack_Put.f k [1, 0, 1] 1) ((⟨#[5]⟩ : ByteArray), 0) := Ev.of (pack_Put.mono _ _) (k := 100) (by kernel_rfl)
theorem awake11_vint : vint_Put.f 2 = some (⟨#[4]⟩ : ByteArray) := by kernel_rfl
theorem awake11_take : Ev (fun k => dict_TakeInts.f k (⟨#[4, 10, 14, 1]⟩ : ByteArray) 2) ([7, 5], 0) := Ev.of (dict_TakeInts.mono _ _) (k := 200) (by kernel_rfl)
theorem awake11_bytes : ((⟨#[4]⟩ : ByteArray) ++ (⟨#[1, 97, 1, 98]⟩ : ByteArray) ++ (⟨#[5]⟩ : ByteArray)).toList = [4, 1, 97, 1, 98, 5] := by
  rw [Lib.toList_data]
  rfl
theorem awake11_same (l : List Int) (h : peristyleref01_Same.f 50 l l = some true) : Ev (fun k => peristyleref01_Same.f k l l) true := Ev.of (peristyleref01_Same.mono _ _) (k := 50) h
theorem awake11_ev : Ev (fun k => peristylelaw11_awake.f k) true := by
  have hp : Ev (fun k => dict_PutTexts.f k [(⟨#[98]⟩ : ByteArray), (⟨#[97]⟩ : ByteArray), (⟨#[98]⟩ : ByteArray)]) ((⟨#[4]⟩ : ByteArray) ++ (⟨#[1, 97, 1, 98]⟩ : ByteArray) ++ (⟨#[5]⟩ : ByteArray), 0) := by
    unfold dict_PutTexts.f
    refine Ev.bind (a := ((⟨#[4]⟩ : ByteArray) ++ (⟨#[1, 97, 1, 98]⟩ : ByteArray) ++ (⟨#[5]⟩ : ByteArray), 0)) ?_ (Ev.now _)
    unfold dict_put_string_fn34.f
    exact Ev.no (by simp) (Ev.no (by simp) (Ev.bind awake11_of (Ev.bind awake11_put (Ev.yes rfl (Ev.bind awake11_width (Ev.bind awake11_pack (Ev.call awake11_vint (Ev.yes (by decide) (Ev.yes (by decide) (Ev.now _))))))))))
  unfold peristylelaw11_awake.f
  exact Ev.bind awake11_of (Ev.bind hp (Ev.bind awake11_take (Ev.bind (same07_ev _ (by simp)) (Ev.yes rfl (Ev.bind (awake11_same _ (by kernel_rfl)) (Ev.yes rfl (Ev.yes awake11_bytes (Ev.yes rfl (Ev.bind (awake11_same _ (by kernel_rfl)) (Ev.yes rfl (Ev.now _)))))))))))
end Go.Proofs.YtfohecpfenegkaaGreat.Print
end
section
set_option linter.unusedVariables false
set_option linter.unusedSimpArgs false
namespace Go.Proofs.YtfohecpfenegkaaGreat.Print
open Go.RowKit Go.Proofs.YtfohecpfenegkaaGreatW.PrintWords Go.Proofs.YtfohecpfenegkaaGreatW.PrintMore
theorem rise_put {α : Type} {lt : α → α → Prop} (S : SO lt) {d : List α} (h : d.Pairwise lt) {v : α} {k : Nat} (hk : k ≤ d.length) (h1 : ∀ j (hj : j < d.length), j < k → lt d[j] v) (h2 : ∀ hk : k < d.length, lt v d[k]) :
    (d.take k ++ [v] ++ d.drop k).Pairwise lt ∧ (∀ x, x ∈ d.take k ++ [v] ++ d.drop k ↔ x ∈ d ∨ x = v) := by
  have ha : ∀ x, x ∈ d.take k → lt x v := fun x hx => by
    obtain ⟨j, hj, rfl⟩ := List.mem_take_iff_getElem.1 hx
    exact h1 j (by omega) (by omega)
  have hb : ∀ y, y ∈ d.drop k → lt v y := fun y hy => by
    obtain ⟨j, hj, rfl⟩ := List.getElem_of_mem hy
    rw [List.length_drop] at hj
    rw [List.getElem_drop]
    by_cases c : j = 0
    · subst c; exact h2 (by omega)
    · exact S.tr (h2 (by omega)) (rise_lt h (by omega) (by omega) (by omega))
  refine ⟨List.pairwise_append.2 ⟨List.pairwise_append.2 ⟨h.sublist (List.take_sublist k d), by simp, fun x hx y hy => by rw [List.mem_singleton.1 hy]; exact ha x hx⟩, h.sublist (List.drop_sublist k d), fun x hx y hy => ?_⟩, fun x => ?_⟩
  · rcases List.mem_append.1 hx with q | q
    · exact S.tr (ha x q) (hb y hy)
    · rw [List.mem_singleton.1 q]; exact hb y hy
  · have e : x ∈ d ↔ x ∈ d.take k ∨ x ∈ d.drop k := by rw [← List.mem_append, List.take_append_drop]
    rw [e, List.mem_append, List.mem_append, List.mem_singleton]
    constructor
    · rintro ((h | h) | h)
      · exact .inl (.inl h)
      · exact .inr h
      · exact .inl (.inr h)
    · rintro ((h | h) | h)
      · exact .inl (.inl h)
      · exact .inr h
      · exact .inl (.inr h)
theorem blY {a b : ByteArray} (h : ltstring a b) : Op.bytesLess a.toList b.toList = true := by
  rw [Go.Proofs.bytesLess_eq]
  exact decide_eq_true (show a.toList < b.toList from h)
theorem blN {a b : ByteArray} (h : Op.bytesLess a.toList b.toList = true) : ltstring a b := by
  rw [Go.Proofs.bytesLess_eq] at h
  exact (of_decide_eq_true h : a.toList < b.toList)
theorem refint_put (l d : List Int) (hd : d.Pairwise ltint) (hl : l.length ≤ 1000000000) (hn : d.length ≤ 1000000000) (i : Nat) (hi : i < l.length) : ∀ (n k : Nat), k + n = d.length → (∀ j (hj : j < d.length), j < k → ltint d[j] l[i]) →
    ∃ d', d'.Pairwise ltint ∧ (∀ x, x ∈ d' ↔ x ∈ d ∨ x = l[i]) ∧ d'.length ≤ d.length + 1 ∧ ∀ R, Ev (fun q => peristyleref11_Ints.l0 q l d' ((i + 1 : Nat) : Int)) R → Ev (fun q => peristyleref11_Ints.l1 q l d (i : Int) (k : Int)) R
  | 0, k, h, hlow => by
    have el : rd l (i : Int) = l[i] := slices_Compact_int_int.rd_get l i hi
    have ei := Aside0.mk (show wrap64 ((i : Int) + 1) = ((i + 1 : Nat) : Int) by unfold wrap64; omega)
    have r := rise_put soint hd (k := k) (by omega) hlow (fun hk => absurd hk (by omega))
    refine ⟨_, r.1, r.2, by simp; omega, fun R hR => Ev.step (fun q => peristyleref11_Ints.l1_succ q _ _ _ _) (Ev.no (by omega) (Ev.yes (by omega) (Ev.yes (by omega) ?_)))⟩
    rw [el, ei.out, Int.toNat_natCast]
    exact Ev.call rfl (Ev.yes (by simp; omega) (Ev.call rfl (Ev.yes (by omega) (Ev.yes (by omega) (Ev.yes (by simp; omega) (Ev.call rfl (Ev.call rfl (Ev.yes (by simp; omega) hR))))))))
  | n + 1, k, h, hlow => by
    have hk : k < d.length := by omega
    have el : rd l (i : Int) = l[i] := slices_Compact_int_int.rd_get l i hi
    have ek : rd d (k : Int) = d[k] := slices_Compact_int_int.rd_get d k hk
    have ei := Aside0.mk (show wrap64 ((i : Int) + 1) = ((i + 1 : Nat) : Int) by unfold wrap64; omega)
    have e1 := Aside0.mk (show wrap64 ((k : Int) + 1) = ((k + 1 : Nat) : Int) by unfold wrap64; omega)
    by_cases c : ltint d[k] l[i]
    · obtain ⟨d', a1, a2, a3, a4⟩ := refint_put l d hd hl hn i hi n (k + 1) (by omega) (fun j hj hjk => by
        by_cases e : j = k
        · subst e; exact c
        · exact hlow j hj (by omega))
      refine ⟨d', a1, a2, a3, fun R hR => Ev.step (fun q => peristyleref11_Ints.l1_succ q _ _ _ _) (Ev.yes (by omega) (Ev.yes (by omega) (Ev.yes (by omega) (Ev.yes (by omega) ?_))))⟩
      rw [ek, el, e1.out]
      exact Ev.yes (id c) (a4 R hR)
    · by_cases ce : d[k] = l[i]
      · refine ⟨d, hd, fun x => ⟨.inl, fun h => h.elim id (fun h => by rw [h, ← ce]; exact List.getElem_mem hk)⟩, by omega, fun R hR => Ev.step (fun q => peristyleref11_Ints.l1_succ q _ _ _ _) (Ev.yes (by omega) (Ev.yes (by omega) (Ev.yes (by omega) (Ev.yes (by omega) ?_))))⟩
        rw [ek, el, ei.out]
        exact Ev.no (fun h => c (id h)) (Ev.yes (id ce) hR)
      · have hlt : ltint l[i] d[k] := Classical.byContradiction fun hq => ce (soint.tri c hq)
        have r := rise_put soint hd (k := k) (by omega) hlow (fun _ => hlt)
        refine ⟨_, r.1, r.2, by simp; omega, fun R hR => Ev.step (fun q => peristyleref11_Ints.l1_succ q _ _ _ _) (Ev.yes (by omega) (Ev.yes (by omega) (Ev.yes (by omega) (Ev.yes (by omega) ?_))))⟩
        rw [ek, el, ei.out, Int.toNat_natCast]
        exact Ev.no (fun h => c (id h)) (Ev.no (fun h => ce (id h)) (Ev.yes (by omega) (Ev.call rfl (Ev.yes (by simp; omega) (Ev.call rfl (Ev.yes (by simp; omega) (Ev.call rfl (Ev.call rfl (Ev.yes (by simp; omega) hR)))))))))
theorem refint_find (l d : List Int) (hd : d.Pairwise ltint) (p : List Int) (hp : p.length ≤ 1000000000) (hn : d.length ≤ 1000000000) (i : Nat) (hi : i < l.length) (hl : l.length ≤ 1000000000) (m : Nat) (hm : m < d.length) (e : d[m] = l[i]) {R : List Int × List Int}
    (hR : Ev (fun q => peristyleref11_Ints.l2 q l d (p ++ [(m : Int)]) ((i + 1 : Nat) : Int)) R) : ∀ (n k : Nat), k + n = m → Ev (fun q => peristyleref11_Ints.l3 q l d p (i : Int) (k : Int)) R
  | n, k, h => by
    have hk : k < d.length := by omega
    have el : rd l (i : Int) = l[i] := slices_Compact_int_int.rd_get l i hi
    have ek : rd d (k : Int) = d[k] := slices_Compact_int_int.rd_get d k hk
    have ei := Aside0.mk (show wrap64 ((i : Int) + 1) = ((i + 1 : Nat) : Int) by unfold wrap64; omega)
    have e1 := Aside0.mk (show wrap64 ((k : Int) + 1) = ((k + 1 : Nat) : Int) by unfold wrap64; omega)
    refine Ev.step (fun q => peristyleref11_Ints.l3_succ q _ _ _ _ _) (Ev.yes (by omega) (Ev.yes (by omega) (Ev.yes (by omega) (Ev.yes (by omega) ?_))))
    rw [ek, el, ei.out, e1.out]
    by_cases c : k = m
    · subst c
      exact Ev.yes (id e) (Ev.yes (by omega) hR)
    · match n, h with
      | 0, h => exact absurd h (by omega)
      | n + 1, h => exact Ev.no (fun q => c ((rise_eq_iff soint hd hk hm).1 ((id q).trans e.symm))) (refint_find l d hd p hp hn i hi hl m hm e hR n (k + 1) (by omega))
theorem refint_places (l d : List Int) (hd : d.Pairwise ltint) (hn : d.length ≤ 1000000000) (hl : l.length ≤ 1000000000) (hm : ∀ x, x ∈ l → x ∈ d) : ∀ (n i : Nat) (p : List Int), i + n = l.length → p.length = i →
    (∀ j (hj : j < l.length), j < i → ∃ k : Nat, ∃ hk : k < d.length, p[j]? = some (k : Int) ∧ d[k] = l[j]) →
    ∃ q, Ev (fun k => peristyleref11_Ints.l2 k l d p (i : Int)) (d, q) ∧ q.length = l.length ∧ ∀ j (hj : j < l.length), ∃ k : Nat, ∃ hk : k < d.length, q[j]? = some (k : Int) ∧ d[k] = l[j]
  | 0, i, p, h, hp, hq => ⟨p, Ev.step (fun k => peristyleref11_Ints.l2_succ k _ _ _ _) (Ev.no (by omega) (Ev.now _)), by omega, fun j hj => hq j hj (by omega)⟩
  | n + 1, i, p, h, hp, hq => by
    have hi : i < l.length := by omega
    obtain ⟨m, hmd, e⟩ := List.getElem_of_mem (hm l[i] (List.getElem_mem hi))
    obtain ⟨q, h1, h2, h3⟩ := refint_places l d hd hn hl hm n (i + 1) (p ++ [(m : Int)]) (by omega) (by simp; omega) (fun j hj hji => by
      by_cases c : j < i
      · obtain ⟨k, hk, a, b⟩ := hq j hj c
        exact ⟨k, hk, by rw [List.getElem?_append_left (by omega)]; exact a, b⟩
      · obtain rfl : j = i := by omega
        exact ⟨m, hmd, by rw [List.getElem?_append_right (by omega), hp, Nat.sub_self]; rfl, e⟩)
    exact ⟨q, Ev.step (fun k => peristyleref11_Ints.l2_succ k _ _ _ _) (Ev.yes (by omega) (refint_find l d hd p (by omega) hn i hi hl m hmd e h1 m 0 (by omega))), h2, h3⟩
theorem refint_loop (l : List Int) (hl : l.length ≤ 1000000) : ∀ (n i : Nat) (d : List Int), i + n = l.length → d.Pairwise ltint → (∀ x, x ∈ d ↔ x ∈ l.take i) → d.length ≤ i → ∃ d' p, Ev (fun k => peristyleref11_Ints.l0 k l d (i : Int)) (d', p) ∧ IsOf ltint l d' p
  | 0, i, d, h, hd, hm, hdl => by
    have hm' : ∀ x, x ∈ d ↔ x ∈ l := fun x => by rw [hm, List.take_of_length_le (by omega)]
    obtain ⟨q, a, b, c⟩ := refint_places l d hd (by omega) (by omega) (fun x hx => (hm' x).2 hx) l.length 0 [] (by omega) rfl (fun j hj h => absurd h (Nat.not_lt_zero j))
    exact ⟨d, q, Ev.step (fun k => peristyleref11_Ints.l0_succ k _ _ _) (Ev.no (by omega) a), hd, hm', b, c⟩
  | n + 1, i, d, h, hd, hm, hdl => by
    have hi : i < l.length := by omega
    obtain ⟨d', a1, a2, a3, a4⟩ := refint_put l d hd (by omega) (by omega) i hi d.length 0 (by omega) (fun j hj hjk => absurd hjk (Nat.not_lt_zero j))
    obtain ⟨d2, p, b1, b2⟩ := refint_loop l hl n (i + 1) d' (by omega) a1 (fun x => by rw [a2, hm, List.take_succ_eq_append_getElem hi, List.mem_append, List.mem_singleton]) (by omega)
    exact ⟨d2, p, Ev.step (fun k => peristyleref11_Ints.l0_succ k _ _ _) (Ev.yes (by omega) (a4 _ b1)), b2⟩
theorem refint_ev (l : List Int) (hl : l.length ≤ 1000000) : ∃ d p, Ev (fun k => peristyleref11_Ints.f k l) (d, p) ∧ IsOf ltint l d p := refint_loop l hl l.length 0 [] (by omega) List.Pairwise.nil (fun x => by simp) (Nat.le_refl _)
theorem refstring_put (l d : List ByteArray) (hd : d.Pairwise ltstring) (hl : l.length ≤ 1000000000) (hn : d.length ≤ 1000000000) (i : Nat) (hi : i < l.length) : ∀ (n k : Nat), k + n = d.length → (∀ j (hj : j < d.length), j < k → ltstring d[j] l[i]) →
    ∃ d', d'.Pairwise ltstring ∧ (∀ x, x ∈ d' ↔ x ∈ d ∨ x = l[i]) ∧ d'.length ≤ d.length + 1 ∧ ∀ R, Ev (fun q => peristyleref11_Texts.l0 q l d' ((i + 1 : Nat) : Int)) R → Ev (fun q => peristyleref11_Texts.l1 q l d (i : Int) (k : Int)) R
  | 0, k, h, hlow => by
    have el : rdOf ByteArray.empty l (i : Int) = l[i] := slices_Compact_string_string.rd_get l i hi
    have ei := Aside0.mk (show wrap64 ((i : Int) + 1) = ((i + 1 : Nat) : Int) by unfold wrap64; omega)
    have r := rise_put sostring hd (k := k) (by omega) hlow (fun hk => absurd hk (by omega))
    refine ⟨_, r.1, r.2, by simp; omega, fun R hR => Ev.step (fun q => peristyleref11_Texts.l1_succ q _ _ _ _) (Ev.no (by omega) (Ev.yes (by omega) (Ev.yes (by omega) ?_)))⟩
    rw [el, ei.out, Int.toNat_natCast]
    exact Ev.call rfl (Ev.yes (by simp; omega) (Ev.call rfl (Ev.yes (by omega) (Ev.yes (by omega) (Ev.yes (by simp; omega) (Ev.call rfl (Ev.call rfl (Ev.yes (by simp; omega) hR))))))))
  | n + 1, k, h, hlow => by
    have hk : k < d.length := by omega
    have el : rdOf ByteArray.empty l (i : Int) = l[i] := slices_Compact_string_string.rd_get l i hi
    have ek : rdOf ByteArray.empty d (k : Int) = d[k] := slices_Compact_string_string.rd_get d k hk
    have ei := Aside0.mk (show wrap64 ((i : Int) + 1) = ((i + 1 : Nat) : Int) by unfold wrap64; omega)
    have e1 := Aside0.mk (show wrap64 ((k : Int) + 1) = ((k + 1 : Nat) : Int) by unfold wrap64; omega)
    by_cases c : ltstring d[k] l[i]
    · obtain ⟨d', a1, a2, a3, a4⟩ := refstring_put l d hd hl hn i hi n (k + 1) (by omega) (fun j hj hjk => by
        by_cases e : j = k
        · subst e; exact c
        · exact hlow j hj (by omega))
      refine ⟨d', a1, a2, a3, fun R hR => Ev.step (fun q => peristyleref11_Texts.l1_succ q _ _ _ _) (Ev.yes (by omega) (Ev.yes (by omega) (Ev.yes (by omega) (Ev.yes (by omega) ?_))))⟩
      rw [ek, el, e1.out]
      exact Ev.yes (blY c) (a4 R hR)
    · by_cases ce : d[k] = l[i]
      · refine ⟨d, hd, fun x => ⟨.inl, fun h => h.elim id (fun h => by rw [h, ← ce]; exact List.getElem_mem hk)⟩, by omega, fun R hR => Ev.step (fun q => peristyleref11_Texts.l1_succ q _ _ _ _) (Ev.yes (by omega) (Ev.yes (by omega) (Ev.yes (by omega) (Ev.yes (by omega) ?_))))⟩
        rw [ek, el, ei.out]
        exact Ev.no (fun h => c (blN h)) (Ev.yes (congrArg ByteArray.toList ce) hR)
      · have hlt : ltstring l[i] d[k] := Classical.byContradiction fun hq => ce (sostring.tri c hq)
        have r := rise_put sostring hd (k := k) (by omega) hlow (fun _ => hlt)
        refine ⟨_, r.1, r.2, by simp; omega, fun R hR => Ev.step (fun q => peristyleref11_Texts.l1_succ q _ _ _ _) (Ev.yes (by omega) (Ev.yes (by omega) (Ev.yes (by omega) (Ev.yes (by omega) ?_))))⟩
        rw [ek, el, ei.out, Int.toNat_natCast]
        exact Ev.no (fun h => c (blN h)) (Ev.no (fun h => ce (bytes_inj h)) (Ev.yes (by omega) (Ev.call rfl (Ev.yes (by simp; omega) (Ev.call rfl (Ev.yes (by simp; omega) (Ev.call rfl (Ev.call rfl (Ev.yes (by simp; omega) hR)))))))))
theorem refstring_find (l d : List ByteArray) (hd : d.Pairwise ltstring) (p : List Int) (hp : p.length ≤ 1000000000) (hn : d.length ≤ 1000000000) (i : Nat) (hi : i < l.length) (hl : l.length ≤ 1000000000) (m : Nat) (hm : m < d.length) (e : d[m] = l[i]) {R : List ByteArray × List Int}
    (hR : Ev (fun q => peristyleref11_Texts.l2 q l d (p ++ [(m : Int)]) ((i + 1 : Nat) : Int)) R) : ∀ (n k : Nat), k + n = m → Ev (fun q => peristyleref11_Texts.l3 q l d p (i : Int) (k : Int)) R
  | n, k, h => by
    have hk : k < d.length := by omega
    have el : rdOf ByteArray.empty l (i : Int) = l[i] := slices_Compact_string_string.rd_get l i hi
    have ek : rdOf ByteArray.empty d (k : Int) = d[k] := slices_Compact_string_string.rd_get d k hk
    have ei := Aside0.mk (show wrap64 ((i : Int) + 1) = ((i + 1 : Nat) : Int) by unfold wrap64; omega)
    have e1 := Aside0.mk (show wrap64 ((k : Int) + 1) = ((k + 1 : Nat) : Int) by unfold wrap64; omega)
    refine Ev.step (fun q => peristyleref11_Texts.l3_succ q _ _ _ _ _) (Ev.yes (by omega) (Ev.yes (by omega) (Ev.yes (by omega) (Ev.yes (by omega) ?_))))
    rw [ek, el, ei.out, e1.out]
    by_cases c : k = m
    · subst c
      exact Ev.yes (congrArg ByteArray.toList e) (Ev.yes (by omega) hR)
    · match n, h with
      | 0, h => exact absurd h (by omega)
      | n + 1, h => exact Ev.no (fun q => c ((rise_eq_iff sostring hd hk hm).1 ((bytes_inj q).trans e.symm))) (refstring_find l d hd p hp hn i hi hl m hm e hR n (k + 1) (by omega))
theorem refstring_places (l d : List ByteArray) (hd : d.Pairwise ltstring) (hn : d.length ≤ 1000000000) (hl : l.length ≤ 1000000000) (hm : ∀ x, x ∈ l → x ∈ d) : ∀ (n i : Nat) (p : List Int), i + n = l.length → p.length = i →
    (∀ j (hj : j < l.length), j < i → ∃ k : Nat, ∃ hk : k < d.length, p[j]? = some (k : Int) ∧ d[k] = l[j]) →
    ∃ q, Ev (fun k => peristyleref11_Texts.l2 k l d p (i : Int)) (d, q) ∧ q.length = l.length ∧ ∀ j (hj : j < l.length), ∃ k : Nat, ∃ hk : k < d.length, q[j]? = some (k : Int) ∧ d[k] = l[j]
  | 0, i, p, h, hp, hq => ⟨p, Ev.step (fun k => peristyleref11_Texts.l2_succ k _ _ _ _) (Ev.no (by omega) (Ev.now _)), by omega, fun j hj => hq j hj (by omega)⟩
  | n + 1, i, p, h, hp, hq => by
    have hi : i < l.length := by omega
    obtain ⟨m, hmd, e⟩ := List.getElem_of_mem (hm l[i] (List.getElem_mem hi))
    obtain ⟨q, h1, h2, h3⟩ := refstring_places l d hd hn hl hm n (i + 1) (p ++ [(m : Int)]) (by omega) (by simp; omega) (fun j hj hji => by
      by_cases c : j < i
      · obtain ⟨k, hk, a, b⟩ := hq j hj c
        exact ⟨k, hk, by rw [List.getElem?_append_left (by omega)]; exact a, b⟩
      · obtain rfl : j = i := by omega
        exact ⟨m, hmd, by rw [List.getElem?_append_right (by omega), hp, Nat.sub_self]; rfl, e⟩)
    exact ⟨q, Ev.step (fun k => peristyleref11_Texts.l2_succ k _ _ _ _) (Ev.yes (by omega) (refstring_find l d hd p (by omega) hn i hi hl m hmd e h1 m 0 (by omega))), h2, h3⟩
theorem refstring_loop (l : List ByteArray) (hl : l.length ≤ 1000000) : ∀ (n i : Nat) (d : List ByteArray), i + n = l.length → d.Pairwise ltstring → (∀ x, x ∈ d ↔ x ∈ l.take i) → d.length ≤ i → ∃ d' p, Ev (fun k => peristyleref11_Texts.l0 k l d (i : Int)) (d', p) ∧ IsOf ltstring l d' p
  | 0, i, d, h, hd, hm, hdl => by
    have hm' : ∀ x, x ∈ d ↔ x ∈ l := fun x => by rw [hm, List.take_of_length_le (by omega)]
    obtain ⟨q, a, b, c⟩ := refstring_places l d hd (by omega) (by omega) (fun x hx => (hm' x).2 hx) l.length 0 [] (by omega) rfl (fun j hj h => absurd h (Nat.not_lt_zero j))
    exact ⟨d, q, Ev.step (fun k => peristyleref11_Texts.l0_succ k _ _ _) (Ev.no (by omega) a), hd, hm', b, c⟩
  | n + 1, i, d, h, hd, hm, hdl => by
    have hi : i < l.length := by omega
    obtain ⟨d', a1, a2, a3, a4⟩ := refstring_put l d hd (by omega) (by omega) i hi d.length 0 (by omega) (fun j hj hjk => absurd hjk (Nat.not_lt_zero j))
    obtain ⟨d2, p, b1, b2⟩ := refstring_loop l hl n (i + 1) d' (by omega) a1 (fun x => by rw [a2, hm, List.take_succ_eq_append_getElem hi, List.mem_append, List.mem_singleton]) (by omega)
    exact ⟨d2, p, Ev.step (fun k => peristyleref11_Texts.l0_succ k _ _ _) (Ev.yes (by omega) (a4 _ b1)), b2⟩
theorem refstring_ev (l : List ByteArray) (hl : l.length ≤ 1000000) : ∃ d p, Ev (fun k => peristyleref11_Texts.f k l) (d, p) ∧ IsOf ltstring l d p := refstring_loop l hl l.length 0 [] (by omega) List.Pairwise.nil (fun x => by simp) (Nat.le_refl _)
end Go.Proofs.YtfohecpfenegkaaGreat.Print
end
section
set_option linter.unusedVariables false
set_option linter.unusedSimpArgs false
namespace Go.Proofs.YtfohecpfenegkaaGreat.Print
open Go.RowKit Go.Proofs.YtfohecpfenegkaaGreatW.PrintWords Go.Proofs.YtfohecpfenegkaaGreatW.PrintMore
theorem rd_get (l : List Int) (i : Nat) (h : i < l.length) : rd l (i : Int) = l[i] := by
  unfold rd
  rw [Int.toNat_natCast, List.getD_eq_getElem?_getD, List.getElem?_eq_getElem h]
  rfl
theorem drop_rd (l : List Int) (i : Nat) (h : i < l.length) : l.drop i = rd l (i : Int) :: l.drop (i + 1) := by
  rw [rd_get l i h, List.drop_eq_getElem_cons h]
theorem rd_mem (l : List Int) (i : Nat) (h : i < l.length) : rd l (i : Int) ∈ l := by
  rw [rd_get l i h]
  exact List.getElem_mem h
end Go.Proofs.YtfohecpfenegkaaGreat.Print
end
section
set_option linter.unusedVariables false
set_option linter.unusedSimpArgs false
namespace Go.Proofs.YtfohecpfenegkaaGreat.Print
open Go.RowKit Go.Proofs.YtfohecpfenegkaaGreatW.PrintWords Go.Proofs.YtfohecpfenegkaaGreatW.PrintMore
def fieldP (a p w : Int) (i : Nat) : Bool := decide (0 ≤ p ∧ p < 64 ∧ (i : Int) < w) && bit a (p.toNat + i)
def withP (a p w v : Int) (i : Nat) : Bool := if 0 ≤ p ∧ p < 64 ∧ p ≤ (i : Int) ∧ (i : Int) - p < w then bit v (i - p.toNat) else bit a i
def maskP (w : Int) (i : Nat) : Bool := decide ((i : Int) < w)
theorem bits_Mask_eq (w : Int) : bits_Mask.f w = some (wordP (maskP w)) := by
  unfold bits_Mask.f
  by_cases h0 : w ≤ 0
  · rw [if_pos h0]
    congr 1
    refine wordP_of (by unfold InI; decide) _ (fun i hi => ?_)
    rw [bit_zero]
    simp [maskP]
    omega
  · rw [if_neg h0]
    by_cases h1 : w ≥ 64
    · rw [if_pos h1]
      congr 1
      refine wordP_of (by unfold InI; decide) _ (fun i hi => ?_)
      rw [bit_neg1 i hi]
      simp [maskP]
      omega
    · rw [if_neg h1, if_pos (by omega)]
      congr 1
      refine wordP_of (InI_wrap64 _) _ (fun i hi => ?_)
      obtain ⟨n, rfl⟩ := Int.eq_ofNat_of_zero_le (show 0 ≤ w by omega)
      have hn : n < 64 := by omega
      have hs : shl .u64 1 (n : Int) = 2 ^ n := by
        have hp : (2 : Nat) ^ n ≤ 2 ^ 63 := Nat.pow_le_pow_right (by decide) (by omega)
        have hp' : (2 : Int) ^ n ≤ 9223372036854775808 := by rw [pow_cast]; exact Int.ofNat_le.2 hp
        have h0 : (0 : Int) ≤ 2 ^ n := by rw [pow_cast]; exact Int.natCast_nonneg _
        unfold shl
        rw [show min (n : Int).toNat IntKind.u64.bits = n from Nat.min_eq_left (Nat.le_of_lt hn), Int.one_mul, u64_wrap]
        omega
      rw [bit_wrap64, bit_u64, hs, bit_div _ i hi]
      simp only [maskP, decide_eq_decide]
      by_cases hin : i < n
      · obtain ⟨d, rfl⟩ : ∃ d, n = i + 1 + d := ⟨n - (i + 1), by omega⟩
        have e : (2 : Int) ^ (i + 1 + d) - 1 = 2 ^ i * (2 * 2 ^ d - 1) + (2 ^ i - 1) := by
          rw [Int.pow_add, Int.pow_succ, Int.mul_sub]
          rw [Int.mul_assoc]
          omega
        have hpos : (0 : Int) < 2 ^ i := Int.pow_pos (by decide)
        have : ((2 : Int) ^ (i + 1 + d) - 1) / 2 ^ i = 2 * 2 ^ d - 1 := by
          rw [e, Int.add_comm, Int.add_mul_ediv_left _ _ (Int.ne_of_gt hpos), Int.ediv_eq_zero_of_lt (by omega) (by omega)]
          omega
        rw [this]
        omega
      · have hle : (2 : Int) ^ n ≤ 2 ^ i := by
          rw [pow_cast, pow_cast]
          exact_mod_cast Nat.pow_le_pow_right (by decide) (Nat.le_of_not_lt hin)
        have hpos : (0 : Int) < 2 ^ n := Int.pow_pos (by decide)
        rw [Int.ediv_eq_zero_of_lt (by omega) (by omega)]
        omega
theorem ref_Field_eq (a p w : Int) : peristyleref01_Field.f a p w = some (wordP (fieldP a p w)) := by
  unfold peristyleref01_Field.f
  congr 1
  refine wordTo_P _ _ (fun i hi => ?_)
  rw [fillTo_at _ _ _ _ (by rw [zB_length]; exact fieldN_le _ _)]
  have hz : bAt zB i = false := bAt_zB i
  rw [hz, bAt_bitsOf]
  simp only [fieldP]
  by_cases h : i < fieldN p w
  · rw [if_pos h]
    obtain ⟨h0, h1, h2, h3, h4⟩ := fieldN_in h
    simp [h0, h1, h2]
  · rw [if_neg h]
    by_cases hc : 0 ≤ p ∧ p < 64 ∧ (i : Int) < w
    · rw [bit_ge a (i := p.toNat + i) (by
        unfold fieldN at h
        rw [if_pos ⟨hc.1, hc.2.1⟩] at h
        omega)]
      simp
    · simp [hc]
theorem putTo_at (l c : List Bool) (p i : Nat) : ∀ k, p + k ≤ l.length → bAt (putTo l c p k) i = if p ≤ i ∧ i < p + k then bAt c (i - p) else bAt l i
  | 0, _ => by simp only [putTo]; rw [if_neg (by omega)]
  | k + 1, h => by
    simp only [putTo]
    rw [bAt_set _ _ _ _ (by rw [putTo_length]; omega), putTo_at l c p i k (by omega)]
    by_cases e : i = p + k
    · rw [if_pos e, if_pos (by omega)]; subst e; rw [Nat.add_sub_cancel_left]
    · rw [if_neg e]
      by_cases h2 : p ≤ i ∧ i < p + k
      · rw [if_pos h2, if_pos (by omega)]
      · rw [if_neg h2, if_neg (by omega)]
theorem ref_With_eq (a p w v : Int) : peristyleref01_With.f a p w v = some (wordP (withP a p w v)) := by
  unfold peristyleref01_With.f
  congr 1
  refine wordTo_P _ _ (fun i hi => ?_)
  have hle : 0 < fieldN p w → p.toNat + fieldN p w ≤ 64 := by
    intro h0
    unfold fieldN at *
    split at h0
    · rename_i hh; rw [if_pos hh]; omega
    · omega
  simp only [withP]
  by_cases h0 : 0 < fieldN p w
  · rw [putTo_at _ _ _ _ _ (by rw [bitsOf_length]; exact hle h0), bAt_bitsOf, bAt_bitsOf]
    have hf : fieldN p w = (min (max w 0) (64 - p)).toNat ∧ 0 ≤ p ∧ p < 64 := by
      unfold fieldN at *
      split at h0
      · rename_i hh; rw [if_pos hh]; exact ⟨rfl, hh⟩
      · omega
    by_cases hc : p.toNat ≤ i ∧ i < p.toNat + fieldN p w
    · rw [if_pos hc, if_pos (by omega)]
    · rw [if_neg hc, if_neg (by omega)]
  · have e : fieldN p w = 0 := by omega
    rw [e]
    simp only [putTo]
    rw [bAt_bitsOf, if_neg]
    intro hh
    unfold fieldN at e
    rw [if_pos ⟨hh.1, hh.2.1⟩] at e
    omega
end Go.Proofs.YtfohecpfenegkaaGreat.Print
end
section
set_option linter.unusedVariables false
set_option linter.unusedSimpArgs false
namespace Go.Proofs.YtfohecpfenegkaaGreat.Print
open Go.RowKit Go.Proofs.YtfohecpfenegkaaGreatW.PrintWords Go.Proofs.YtfohecpfenegkaaGreatW.PrintMore
theorem topTo_of (l : List Bool) (r : Nat) : ∀ k, r ≤ k → (∀ i, r ≤ i → i < k → bAt l i = false) → (r = 0 ∨ bAt l (r - 1) = true) → topTo l k = (r : Int)
  | 0, h, _, _ => by
    obtain rfl : r = 0 := by omega
    rfl
  | k + 1, h, h1, h2 => by
    simp only [topTo]
    by_cases e : r = k + 1
    · subst e
      rcases h2 with h2 | h2
      · omega
      · rw [if_pos (by simpa using h2)]; omega
    · rw [if_neg (by rw [h1 k (by omega) (by omega)]; simp)]
      exact topTo_of l r k (by omega) (fun i hi hk => h1 i hi (by omega)) h2
def wn (a : Int) : Nat := (B a).toNat
theorem wn_lt (a : Int) : wn a < 2 ^ 64 := (B a).isLt
theorem u64_wn (a : Int) : IntKind.u64.wrap a = (wn a : Int) := by
  rw [u64_wrap]
  unfold wn
  rw [B_toNat]
  omega
theorem bit_wn (a : Int) (i : Nat) : bit a i = (wn a).testBit i := by
  unfold bit wn
  rw [BitVec.testBit_toNat]
theorem topTo_wn (a : Int) (r : Nat) (h1 : wn a < 2 ^ r) (h2 : r = 0 ∨ 2 ^ (r - 1) ≤ wn a) (h3 : r ≤ 64) : topTo (bitsOf a) 64 = (r : Int) := by
  refine topTo_of _ r 64 h3 (fun i hi hk => ?_) ?_
  · rw [bAt_bitsOf, bit_wn]
    exact Nat.testBit_lt_two_pow (Nat.lt_of_lt_of_le h1 (Nat.pow_le_pow_right (by decide) hi))
  · rcases h2 with h2 | h2
    · exact .inl h2
    · by_cases h0 : r = 0
      · exact .inl h0
      · right
        obtain ⟨s, rfl⟩ : ∃ s, r = s + 1 := ⟨r - 1, by omega⟩
        rw [bAt_bitsOf, bit_wn, Nat.testBit_eq_decide_div_mod_eq, Nat.add_sub_cancel]
        rw [Nat.add_sub_cancel] at h2
        have : wn a / 2 ^ s = 1 := by
          apply Nat.div_eq_of_lt_le
          · omega
          · rw [Nat.pow_succ] at h1; omega
        rw [this]
        rfl
theorem width_step (W n w s : Nat) (nI sI s' : Int) (k : Nat) (hnI : nI = (n : Int)) (hsI : sI = (s : Int)) (hs : 0 < s) (hs2 : s ≤ 32) (hs' : wrap64 (Int.tdiv sI 2) = s') (h1 : W / 2 ^ n = w) (h2 : w < 2 ^ (2 * s)) (h3 : n = 0 ∨ 0 < w) (h4 : n + 2 * s ≤ 64) :
    ∃ n' w' : Nat, bits_Width.l0 (k + 1) (w : Int) nI sI = bits_Width.l0 k (w' : Int) (n' : Int) s' ∧ W / 2 ^ n' = w' ∧ w' < 2 ^ s ∧ (n' = 0 ∨ 0 < w') ∧ n' + s ≤ 64 := by
  subst hnI hsI
  have hsh : shr .u64 (w : Int) (s : Int) = ((w / 2 ^ s : Nat) : Int) := by
    unfold shr
    rw [show min (s : Int).toNat IntKind.u64.bits = s from Nat.min_eq_left (by show s ≤ 64; omega), pow_cast, Int.natCast_ediv]
  simp only [bits_Width.l0]
  rw [if_pos (show (s : Int) > 0 by omega), if_pos (show 0 ≤ (s : Int) by omega), hsh, hs']
  by_cases hp : 0 < w / 2 ^ s
  · rw [if_pos (show ((w / 2 ^ s : Nat) : Int) > 0 from Int.ofNat_lt.2 hp)]
    refine ⟨n + s, w / 2 ^ s, ?_, ?_, ?_, .inr hp, by omega⟩
    · rw [show wrap64 ((n : Int) + (s : Int)) = ((n + s : Nat) : Int) by unfold wrap64; omega]
    · rw [Nat.pow_add, ← Nat.div_div_eq_div_mul, h1]
    · rw [Nat.div_lt_iff_lt_mul (Nat.two_pow_pos s), ← Nat.pow_add, ← Nat.two_mul]
      exact h2
  · rw [if_neg (show ¬ ((w / 2 ^ s : Nat) : Int) > 0 from fun h => hp (Int.ofNat_lt.1 h))]
    refine ⟨n, w, rfl, h1, ?_, h3, by omega⟩
    have h0 : w / 2 ^ s = 0 := Nat.eq_zero_of_not_pos hp
    rcases (Nat.div_eq_zero_iff).1 h0 with h | h
    · exact absurd h (Nat.ne_of_gt (Nat.two_pow_pos s))
    · exact h
theorem width_run (W : Nat) (k : Nat) (h : W < 2 ^ (2 * 32)) : ∃ n w : Nat, bits_Width.l0 (k + 7) (W : Int) 0 32 = bits_Width.l0 (k + 1) (w : Int) (n : Int) 0 ∧ W / 2 ^ n = w ∧ w < 2 ^ 1 ∧ (n = 0 ∨ 0 < w) ∧ n + 1 ≤ 64 := by
  obtain ⟨n1, w1, e1, a1, b1, c1, d1⟩ := width_step W 0 W 32 0 32 16 (k + 6) rfl rfl (by decide) (by decide) (by unfold wrap64; decide) (by simp) h (.inl rfl) (by decide)
  obtain ⟨n2, w2, e2, a2, b2, c2, d2⟩ := width_step W n1 w1 16 n1 16 8 (k + 5) rfl rfl (by decide) (by decide) (by unfold wrap64; decide) a1 b1 c1 (by omega)
  obtain ⟨n3, w3, e3, a3, b3, c3, d3⟩ := width_step W n2 w2 8 n2 8 4 (k + 4) rfl rfl (by decide) (by decide) (by unfold wrap64; decide) a2 b2 c2 (by omega)
  obtain ⟨n4, w4, e4, a4, b4, c4, d4⟩ := width_step W n3 w3 4 n3 4 2 (k + 3) rfl rfl (by decide) (by decide) (by unfold wrap64; decide) a3 b3 c3 (by omega)
  obtain ⟨n5, w5, e5, a5, b5, c5, d5⟩ := width_step W n4 w4 2 n4 2 1 (k + 2) rfl rfl (by decide) (by decide) (by unfold wrap64; decide) a4 b4 c4 (by omega)
  obtain ⟨n6, w6, e6, a6, b6, c6, d6⟩ := width_step W n5 w5 1 n5 1 0 (k + 1) rfl rfl (by decide) (by decide) (by unfold wrap64; decide) a5 b5 c5 (by omega)
  exact ⟨n6, w6, by rw [e1, e2, e3, e4, e5, e6], a6, b6, c6, d6⟩
theorem width_end (W n w : Nat) (a6 : W / 2 ^ n = w) (b6 : w < 2 ^ 1) (c6 : n = 0 ∨ 0 < w) : W < 2 ^ (n + w) ∧ (n + w = 0 ∨ 2 ^ (n + w - 1) ≤ W) := by
  have hp := Nat.two_pow_pos n
  have hw : w = 0 ∨ w = 1 := by omega
  rcases hw with rfl | rfl
  · have hn : n = 0 := by rcases c6 with h | h <;> omega
    subst hn
    rw [Nat.pow_zero, Nat.div_one] at a6
    subst a6
    exact ⟨by decide, .inl rfl⟩
  · have h1 := (Nat.le_div_iff_mul_le hp (x := 1) (y := W)).1 (by omega)
    have h2 := (Nat.div_lt_iff_lt_mul hp (x := W) (y := 2)).1 (by omega)
    refine ⟨by rw [Nat.pow_succ]; omega, .inr ?_⟩
    rw [Nat.add_sub_cancel]
    omega
theorem bits_Width_eq (k : Nat) (a : Int) : bits_Width.f (k + 7) a = some (topTo (bitsOf a) 64) := by
  unfold bits_Width.f
  rw [u64_wn]
  obtain ⟨n, w, e, a6, b6, c6, d6⟩ := width_run (wn a) k (wn_lt a)
  rw [e]
  obtain ⟨h1, h2⟩ := width_end _ _ _ a6 b6 c6
  rw [topTo_wn a (n + w) h1 h2 (by omega)]
  simp only [bits_Width.l0]
  rw [if_neg (by omega)]
  congr 1
  have : w < 2 := b6
  unfold wrap64
  omega
end Go.Proofs.YtfohecpfenegkaaGreat.Print
end
section
set_option linter.unusedVariables false
set_option linter.unusedSimpArgs false
namespace Go.Proofs.YtfohecpfenegkaaGreat.Print
open Go.RowKit Go.Proofs.YtfohecpfenegkaaGreatW.PrintWords Go.Proofs.YtfohecpfenegkaaGreatW.PrintMore
/-! ### widths -/
theorem topTo_le (l : List Bool) : ∀ k, 0 ≤ topTo l k ∧ topTo l k ≤ k
  | 0 => by simp [topTo]
  | k + 1 => by
    have := topTo_le l k
    simp only [topTo]
    split <;> omega
theorem topTo_le_iff (l : List Bool) (r : Int) (hr : 0 ≤ r) : ∀ k, topTo l k ≤ r ↔ ∀ i : Nat, r ≤ (i : Int) → i < k → bAt l i = false
  | 0 => by
    refine ⟨fun _ i _ h => absurd h (Nat.not_lt_zero i), fun _ => ?_⟩
    simp only [topTo]
    exact hr
  | k + 1 => by
    have ih := topTo_le_iff l r hr k
    simp only [topTo]
    by_cases hb : bAt l k = true
    · rw [if_pos hb]
      constructor
      · intro h i h1 h2
        omega
      · intro h
        by_cases hk : (k : Int) + 1 ≤ r
        · exact hk
        · have := h k (by omega) (by omega)
          rw [hb] at this
          exact absurd this (by decide)
    · rw [if_neg hb]
      rw [ih]
      constructor
      · intro h i h1 h2
        by_cases e : i = k
        · subst e; simpa using hb
        · exact h i h1 (by omega)
      · intro h i h1 h2
        exact h i h1 (by omega)
def wid (a : Int) : Int := topTo (bitsOf a) 64
theorem wid_le (a : Int) : 0 ≤ wid a ∧ wid a ≤ 64 := topTo_le _ 64
theorem wid_le_iff (a : Int) (r : Int) (hr : 0 ≤ r) : wid a ≤ r ↔ ∀ i : Nat, r ≤ (i : Int) → bit a i = false := by
  unfold wid
  rw [topTo_le_iff _ _ hr 64]
  constructor
  · intro h i h1
    by_cases h2 : i < 64
    · rw [← bAt_bitsOf]; exact h i h1 h2
    · exact bit_ge a (by omega)
  · intro h i h1 _
    rw [bAt_bitsOf]; exact h i h1
theorem wid_or (a b : Int) : wid (Go.bits .or .i64 a b) = mx (wid a) (wid b) := by
  have ha := wid_le a
  have hb := wid_le b
  have ho := wid_le (Go.bits .or .i64 a b)
  have key : ∀ r : Int, 0 ≤ r → (wid (Go.bits .or .i64 a b) ≤ r ↔ wid a ≤ r ∧ wid b ≤ r) := by
    intro r hr
    rw [wid_le_iff _ r hr, wid_le_iff _ r hr, wid_le_iff _ r hr]
    constructor
    · intro h
      constructor
      · intro i hi
        have := h i hi
        rw [bit_or] at this
        simp at this
        exact this.1
      · intro i hi
        have := h i hi
        rw [bit_or] at this
        simp at this
        exact this.2
    · intro h i hi
      rw [bit_or, h.1 i hi, h.2 i hi]
      rfl
  have h1 := (key (wid (Go.bits .or .i64 a b)) ho.1).1 (Int.le_refl _)
  have h2 := (key (mx (wid a) (wid b)) (by unfold mx; split <;> omega)).2 (by unfold mx; split <;> omega)
  unfold mx at *
  split at h2 <;> omega
def orF (acc : Int) (l : List Int) : Int := l.foldl (fun x y => Go.bits .or .i64 x y) acc
theorem bit_orF (l : List Int) : ∀ (acc : Int) (i : Nat), bit (orF acc l) i = (bit acc i || l.any (fun x => bit x i)) := by
  induction l with
  | nil => intro acc i; simp [orF]
  | cons x l ih =>
    intro acc i
    have := ih (Go.bits .or .i64 acc x) i
    unfold orF at this ⊢
    rw [List.foldl_cons, this, bit_or, List.any_cons, Bool.or_assoc]
def widL (l : List Int) : Int := wid (orF 0 l)
theorem widL_le (l : List Int) : 0 ≤ widL l ∧ widL l ≤ 64 := wid_le _
theorem widL_le_iff (l : List Int) (r : Int) (hr : 0 ≤ r) : widL l ≤ r ↔ ∀ x, x ∈ l → ∀ i : Nat, r ≤ (i : Int) → bit x i = false := by
  unfold widL
  rw [wid_le_iff _ r hr]
  constructor
  · intro h x hx i hi
    have := h i hi
    rw [bit_orF, bit_zero] at this
    simp at this
    exact this x hx
  · intro h i hi
    rw [bit_orF, bit_zero]
    simp
    intro x hx
    exact h x hx i hi
theorem pack_Width_loop (l : List Int) (hl : l.length ≤ 17592186044416) : ∀ (d i : Nat) (acc : Int), i + d = l.length → Ev (fun k => pack_Width.l0 k acc l (l.length : Int) (i : Int)) (wid (orF acc (l.drop i)))
  | 0, i, acc, h => by
    refine Ev.step (fun k => pack_Width.l0_succ k _ _ _ _) (Ev.no (by omega) ?_)
    refine Ev.bind (Ev.at_ 7 (fun k => bits_Width_eq k acc)) (Ev.val ?_)
    rw [List.drop_of_length_le (by omega)]
    rfl
  | d + 1, i, acc, h => by
    refine Ev.step (fun k => pack_Width.l0_succ k _ _ _ _) (Ev.yes (by omega) (Ev.yes (by omega) (Ev.yes (by omega) ?_)))
    rw [show wrap64 ((i : Int) + 1) = ((i + 1 : Nat) : Int) by unfold wrap64; omega, drop_rd l i (by omega)]
    exact pack_Width_loop l hl d (i + 1) _ (by omega)
theorem pack_Width_ev (l : List Int) (hl : l.length ≤ 17592186044416) : Ev (fun k => pack_Width.f k l) (widL l) := by
  have := pack_Width_loop l hl l.length 0 0 (by omega)
  exact this
theorem ref_Width_loop (l : List Int) (hl : l.length ≤ 17592186044416) : ∀ (d i : Nat) (acc : Int), i + d = l.length → Ev (fun k => peristyleref08_Width.l0 k l (wid acc) (i : Int)) (wid (orF acc (l.drop i)))
  | 0, i, acc, h => by
    refine Ev.step (fun k => peristyleref08_Width.l0_succ k _ _ _) (Ev.no (by omega) (Ev.val ?_))
    rw [List.drop_of_length_le (by omega)]
    rfl
  | d + 1, i, acc, h => by
    refine Ev.step (fun k => peristyleref08_Width.l0_succ k _ _ _) (Ev.yes (by omega) (Ev.yes (by omega) (Ev.call (v := wid (rd l (i : Int))) rfl ?_)))
    rw [show wrap64 ((i : Int) + 1) = ((i + 1 : Nat) : Int) by unfold wrap64; omega, drop_rd l i (by omega), ← wid_or]
    exact ref_Width_loop l hl d (i + 1) _ (by omega)
theorem ref08_Width_ev (l : List Int) (hl : l.length ≤ 17592186044416) : Ev (fun k => peristyleref08_Width.f k l) (widL l) := by
  have := ref_Width_loop l hl l.length 0 0 (by omega)
  have e : wid 0 = 0 := by
    have h := wid_le 0
    have := (wid_le_iff 0 0 (by omega)).2 (fun i _ => bit_zero i)
    omega
  rw [e] at this
  exact this
/-! ### bits one behind the other, as bytes -/
def byteP (st : Nat → Bool) (b : Nat) : Int := wordP (fun t => decide (t < 8) && st (8 * b + t))
def keptP (st : Nat → Bool) (pos : Nat) : Int := wordP (fun t => decide (t < pos % 8) && st (pos / 8 * 8 + t))
def fullB (st : Nat → Bool) (m : Nat) : List Int := (List.range m).map (byteP st)
def packB (st : Nat → Bool) (N : Nat) : List Int := fullB st (N / 8) ++ if N % 8 = 0 then [] else [keptP st N]
theorem fullB_length (st : Nat → Bool) (m : Nat) : (fullB st m).length = m := by simp [fullB]
theorem fullB_succ (st : Nat → Bool) (m : Nat) : fullB st (m + 1) = fullB st m ++ [byteP st m] := by simp [fullB, List.range_succ]
theorem byteP_small (st : Nat → Bool) (b : Nat) : 0 ≤ byteP st b ∧ byteP st b < 256 := by
  have := wordP_small (fun t => decide (t < 8) && st (8 * b + t)) 8 (by omega) (fun i hi => by
    have : ¬ i < 8 := by omega
    simp [this])
  exact this
theorem keptP_small (st : Nat → Bool) (pos : Nat) : 0 ≤ keptP st pos ∧ keptP st pos < 256 := by
  have := wordP_small (fun t => decide (t < pos % 8) && st (pos / 8 * 8 + t)) 8 (by omega) (fun i hi => by
    have : ¬ i < pos % 8 := by omega
    simp [this])
  exact this
theorem keptP_zero (st : Nat → Bool) (pos : Nat) (h : pos % 8 = 0) : keptP st pos = 0 :=
  (wordP_of (by unfold InI; decide) _ (fun i hi => by rw [bit_zero, h]; simp)).symm
theorem packB_length (st : Nat → Bool) (N : Nat) : (packB st N).length = (N + 7) / 8 := by
  unfold packB
  rw [List.length_append, fullB_length]
  split
  · simp; omega
  · simp; omega
theorem packB_small (st : Nat → Bool) (N : Nat) : ∀ x, x ∈ packB st N → 0 ≤ x ∧ x < 256 := by
  intro x hx
  unfold packB at hx
  rcases List.mem_append.1 hx with h | h
  · obtain ⟨b, _, rfl⟩ := List.mem_map.1 h
    exact byteP_small st b
  · split at h
    · simp at h
    · simp at h
      subst h
      exact keptP_small st N
def stL (l : List Int) (w : Nat) (j : Nat) : Bool := bit (l.getD (j / w) 0) (j % w)
theorem InU_of_small {x : Int} (h : 0 ≤ x ∧ x < 256) : InU x := by unfold InU; omega
theorem InI_of_small {x : Int} (h : 0 ≤ x ∧ x < 256) : InI x := by unfold InI; omega
theorem put_bits (st : Nat → Bool) (pos n : Nat) (u : Int) (hu : InU u) (hn : pos % 8 + n ≤ 8) (hb : ∀ t, t < n → bit u t = st (pos + t)) :
    Go.bits .or .u64 (keptP st pos) (shl .u64 (Go.bits .and .u64 u (IntKind.u64.wrap (wordP (maskP (n : Int))))) ((pos % 8 : Nat) : Int)) = wordP (fun t => decide (t < pos % 8 + n) && st (pos / 8 * 8 + t)) := by
  have hr := wordP_small (fun t => decide (t < pos % 8 + n) && st (pos / 8 * 8 + t)) 8 (by omega) (fun i hi => by
    have : ¬ i < pos % 8 + n := by omega
    simp [this])
  refine InU_inj (InU_bits _ _ _) (InU_of_small hr) (fun i hi => ?_)
  rw [bit_uor, bit_wordP _ i hi]
  unfold keptP
  rw [bit_wordP _ i hi, bit_shl _ _ i hi, Int.toNat_natCast, bit_uand, bit_u64]
  by_cases h1 : i < pos % 8
  · have h2 : i < pos % 8 + n := by omega
    have h3 : ¬ pos % 8 ≤ i := by omega
    simp [h1, h2, h3]
  · rw [bit_wordP _ (i - pos % 8) (by omega)]
    by_cases h2 : i < pos % 8 + n
    · rw [hb (i - pos % 8) (by omega), show pos + (i - pos % 8) = pos / 8 * 8 + i by omega]
      have h3 : pos % 8 ≤ i := by omega
      have h4 : maskP (n : Int) (i - pos % 8) = true := by simp [maskP]; omega
      simp [h1, h2, h3, h4]
    · have h4 : maskP (n : Int) (i - pos % 8) = false := by simp [maskP]; omega
      simp [h1, h2, h4]
theorem put_inner (st : Nat → Bool) (l : List Int) (width : Int) (i : Nat) (r : ByteArray × Int) : ∀ (left pos : Nat) (u : Int), InU u → left ≤ 64 → pos + left ≤ 4294967296 → (∀ t, t < left → bit u t = st (pos + t)) →
    Ev (fun k => pack_Put.l0 k width (fullB st ((pos + left) / 8)) (keptP st (pos + left)) (((pos + left) % 8 : Nat) : Int) l (l.length : Int) (wrap64 ((i : Int) + 1))) r →
    Ev (fun k => pack_Put.l1 k width (fullB st (pos / 8)) (keptP st pos) ((pos % 8 : Nat) : Int) u (left : Int) l (l.length : Int) (i : Int)) r := by
  intro left
  induction left using Nat.strongRecOn with
  | ind left ih =>
    intro pos u hu hle hpos hb hr
    by_cases h0 : left = 0
    · subst h0
      refine Ev.step (fun k => pack_Put.l1_succ k _ _ _ _ _ _ _ _ _) (Ev.no (by omega) ?_)
      exact hr
    · have hw8 : wrap64 (8 - ((pos % 8 : Nat) : Int)) = 8 - ((pos % 8 : Nat) : Int) := by unfold wrap64; omega
      obtain ⟨n, hn⟩ : ∃ n : Nat, mn (8 - ((pos % 8 : Nat) : Int)) (left : Int) = (n : Int) := ⟨(mn (8 - ((pos % 8 : Nat) : Int)) (left : Int)).toNat, by unfold mn; split <;> omega⟩
      have hn1 : 0 < n ∧ n ≤ left ∧ pos % 8 + n ≤ 8 ∧ (pos % 8 + n < 8 → n = left) := by unfold mn at hn; split at hn <;> omega
      have hu' : InU (shr .u64 u (n : Int)) := InU_shr hu _
      have hb' : ∀ t, t < left - n → bit (shr .u64 u (n : Int)) t = st (pos + n + t) := by
        intro t ht
        rw [bit_shr hu, Int.toNat_natCast, hb (n + t) (by omega)]
        congr 1
        omega
      have hl' : wrap64 ((left : Int) - (n : Int)) = ((left - n : Nat) : Int) := by unfold wrap64; omega
      have hih := ih (left - n) (by omega) (pos + n) (shr .u64 u (n : Int)) hu' (by omega) (by omega) hb'
      rw [show pos + n + (left - n) = pos + left by omega] at hih
      have hih := hih hr
      have hput := put_bits st pos n u hu hn1.2.2.1 (fun t ht => hb t (by omega))
      refine Ev.step (fun k => pack_Put.l1_succ k _ _ _ _ _ _ _ _ _) (Ev.yes (by omega) ?_)
      rw [hw8, hn]
      refine Ev.call (bits_Mask_eq (n : Int)) (Ev.yes (by omega) (Ev.yes (by omega) ?_))
      rw [hput, hl']
      by_cases h8 : pos % 8 + n = 8
      · refine Ev.yes (by unfold wrap64; omega) (Ev.yes (by rw [fullB_length]; omega) ?_)
        have e1 : (pos + n) / 8 = pos / 8 + 1 := by omega
        have e2 : (pos + n) % 8 = 0 := by omega
        have hbyte : wordP (fun t => decide (t < pos % 8 + n) && st (pos / 8 * 8 + t)) % 256 = byteP st (pos / 8) := by
          rw [h8]
          have e : wordP (fun t => decide (t < 8) && st (pos / 8 * 8 + t)) = byteP st (pos / 8) := by
            unfold byteP
            rw [Nat.mul_comm]
          rw [e]
          have := byteP_small st (pos / 8)
          omega
        rw [hbyte, ← fullB_succ]
        rw [keptP_zero st (pos + n) e2, e1, e2] at hih
        exact hih
      · refine Ev.no (by unfold wrap64; omega) ?_
        have e1 : (pos + n) / 8 = pos / 8 := by omega
        have e2 : (pos + n) % 8 = pos % 8 + n := by omega
        rw [show wrap64 (((pos % 8 : Nat) : Int) + (n : Int)) = ((pos % 8 + n : Nat) : Int) by unfold wrap64; omega]
        have ek : keptP st (pos + n) = wordP (fun t => decide (t < pos % 8 + n) && st (pos / 8 * 8 + t)) := by
          unfold keptP
          rw [e1, e2]
        rw [ek, e1, e2] at hih
        exact hih
theorem put_outer (l : List Int) (w : Nat) (hw : w ≤ 64) (hl : l.length ≤ 65536) : ∀ (d i : Nat), i + d = l.length →
    Ev (fun k => pack_Put.l0 k (w : Int) (fullB (stL l w) (i * w / 8)) (keptP (stL l w) (i * w)) ((i * w % 8 : Nat) : Int) l (l.length : Int) (i : Int)) (strOfNums (packB (stL l w) (l.length * w)), 0)
  | 0, i, h => by
    have hi : i = l.length := by omega
    subst hi
    have hN : l.length * w ≤ 65536 * 64 := Nat.mul_le_mul hl hw
    refine Ev.step (fun k => pack_Put.l0_succ k _ _ _ _ _ _ _) (Ev.no (by omega) ?_)
    by_cases h0 : l.length * w % 8 = 0
    · refine Ev.no (by omega) (Ev.val ?_)
      unfold packB
      rw [if_pos h0, List.append_nil]
    · refine Ev.yes (by omega) (Ev.yes (by rw [fullB_length]; omega) (Ev.val ?_))
      unfold packB
      have := keptP_small (stL l w) (l.length * w)
      rw [if_neg h0, show keptP (stL l w) (l.length * w) % 256 = keptP (stL l w) (l.length * w) by omega]
  | d + 1, i, h => by
    have hN : (i + 1) * w ≤ 65536 * 64 := Nat.mul_le_mul (by omega) hw
    have hs : (i + 1) * w = i * w + w := Nat.succ_mul i w
    have hih := put_outer l w hw hl d (i + 1) (by omega)
    refine Ev.step (fun k => pack_Put.l0_succ k _ _ _ _ _ _ _) (Ev.yes (by omega) (Ev.yes (by omega) (Ev.yes (by omega) ?_)))
    refine put_inner (stL l w) l (w : Int) i _ w (i * w) _ (InU_u64 _) hw (by omega) (fun t ht => ?_) ?_
    · rw [bit_u64]
      unfold stL rd
      rw [Int.toNat_natCast, Nat.mul_comm i w, Nat.mul_add_div (by omega), Nat.div_eq_of_lt ht, Nat.mul_add_mod, Nat.mod_eq_of_lt ht, Nat.add_zero]
    · rw [show wrap64 ((i : Int) + 1) = ((i + 1 : Nat) : Int) by unfold wrap64; omega, ← hs]
      exact hih
theorem pack_Bytes_eq (n w : Int) : pack_Bytes.f n w = some (if n < 1 ∨ 65536 < n ∨ w < 1 ∨ 64 < w then 0 else (n * w + 7) / 8) := by
  unfold pack_Bytes.f
  by_cases h1 : n < 1
  · rw [if_pos h1, if_pos (.inl h1)]
  · rw [if_neg h1]
    by_cases h2 : n > 65536
    · rw [if_pos h2, if_pos (.inr (.inl h2))]
    · rw [if_neg h2]
      by_cases h3 : w < 1
      · rw [if_pos h3, if_pos (.inr (.inr (.inl h3)))]
      · rw [if_neg h3]
        by_cases h4 : w > 64
        · rw [if_pos h4, if_pos (.inr (.inr (.inr h4)))]
        · rw [if_neg h4, if_neg (by omega)]
          have hp : 0 ≤ n * w ∧ n * w ≤ 65536 * 64 := ⟨Int.mul_nonneg (by omega) (by omega), Int.mul_le_mul (by omega) (by omega) (by omega) (by omega)⟩
          rw [show wrap64 (n * w) = n * w by unfold wrap64; omega, show wrap64 (n * w + 7) = n * w + 7 by unfold wrap64; omega]
def mayPut (l : List Int) (w : Int) : Prop := 0 ≤ w ∧ w ≤ 64 ∧ l.length ≤ 65536 ∧ widL l ≤ w
instance (l : List Int) (w : Int) : Decidable (mayPut l w) := by unfold mayPut; infer_instance
def putR (l : List Int) (w : Int) : ByteArray × Int := if mayPut l w then (strOfNums (packB (stL l w.toNat) (l.length * w.toNat)), 0) else ((⟨#[]⟩ : ByteArray), 1)
theorem put_no (l : List Int) (w : Int) : Ev (fun k => pack_Put.j0 k l w true) ((⟨#[]⟩ : ByteArray), 1) :=
  Ev.step (fun k => pack_Put.j0_succ k _ _ _) (Ev.yes rfl (Ev.now _))
theorem pack_Put_ev (l : List Int) (w : Int) (hl : l.length ≤ 17592186044416) : Ev (fun k => pack_Put.f k l w) (putR l w) := by
  have hno : ¬ mayPut l w → Ev (fun k => pack_Put.j0 k l w true) (putR l w) := fun h => by
    unfold putR
    rw [if_neg h]
    exact put_no l w
  unfold pack_Put.f
  by_cases h1 : w < 0
  · exact Ev.yes h1 (hno (fun h => by unfold mayPut at h; omega))
  refine Ev.no h1 ?_
  by_cases h2 : w > 64
  · exact Ev.yes h2 (hno (fun h => by unfold mayPut at h; omega))
  refine Ev.no h2 ?_
  by_cases h3 : (l.length : Int) > 65536
  · exact Ev.yes h3 (hno (fun h => by unfold mayPut at h; omega))
  refine Ev.no h3 (Ev.bind (pack_Width_ev l hl) ?_)
  by_cases h4 : widL l > w
  · rw [decide_eq_true h4]
    exact hno (fun h => by unfold mayPut at h; omega)
  rw [decide_eq_false h4]
  have hm : mayPut l w := by unfold mayPut; omega
  unfold putR
  rw [if_pos hm]
  obtain ⟨n, rfl⟩ := Int.eq_ofNat_of_zero_le (show 0 ≤ w by omega)
  have hp : l.length * n ≤ 65536 * 64 := Nat.mul_le_mul (by omega) (by omega)
  refine Ev.step (fun k => pack_Put.j0_succ k _ _ _) (Ev.no (by decide) (Ev.call (pack_Bytes_eq _ _) ?_))
  obtain ⟨b, hb⟩ : ∃ b : Int, (if (l.length : Int) < 1 ∨ 65536 < (l.length : Int) ∨ (n : Int) < 1 ∨ 64 < (n : Int) then 0 else ((l.length : Int) * (n : Int) + 7) / 8) = b := ⟨_, rfl⟩
  have hb2 : 0 ≤ b ∧ b ≤ 600000 := by
    have hc : (l.length : Int) * (n : Int) = ((l.length * n : Nat) : Int) := (Int.natCast_mul _ _).symm
    rw [hc] at hb
    split at hb <;> omega
  rw [hb]
  refine Ev.yes (by unfold wrap64; omega) (Ev.yes (by unfold wrap64; omega) ?_)
  have := put_outer l n (by omega) (by omega) l.length 0 (by omega)
  rw [Nat.zero_mul, keptP_zero _ 0 rfl] at this
  exact this
end Go.Proofs.YtfohecpfenegkaaGreat.Print
end
section
set_option linter.unusedVariables false
set_option linter.unusedSimpArgs false
namespace Go.Proofs.YtfohecpfenegkaaGreat.Print
open Go.RowKit Go.Proofs.YtfohecpfenegkaaGreatW.PrintWords Go.Proofs.YtfohecpfenegkaaGreatW.PrintMore
theorem and_7 (x : Int) : Go.bits .and .i64 x 7 = x % 8 := by
  simp only [Go.bits]
  have h : (BitVec.ofInt IntKind.i64.bits x &&& BitVec.ofInt IntKind.i64.bits 7).toNat = (x % 8).toNat := by
    rw [BitVec.toNat_and]
    have h7 : (BitVec.ofInt IntKind.i64.bits 7).toNat = 2 ^ 3 - 1 := by decide
    rw [h7, Nat.and_two_pow_sub_one_eq_mod]
    simp only [BitVec.toNat_ofInt, IntKind.bits]
    omega
  rw [h, IntKind.wrap_i64]
  omega
theorem shr_i64 (x : Int) (j : Nat) (h : j < 64) : shr .i64 x (j : Int) = x / 2 ^ j := by
  unfold shr
  rw [show min (j : Int).toNat IntKind.i64.bits = j from Nat.min_eq_left (by show j ≤ 64; omega)]
theorem test_bit (x : Int) (j : Nat) (h : j < 64) : (Go.bits .and .i64 (shr .i64 x (j : Int)) 1 = 1) ↔ bit x j = true := by
  rw [shr_i64 x j h, ← bitAt_bit x j h]
  unfold bitAt
  rw [beq_iff_eq]
theorem shl_i64 (j : Nat) (h : j < 64) : shl .i64 1 (j : Int) = wrap64 (2 ^ j) := by
  unfold shl
  rw [show min (j : Int).toNat IntKind.i64.bits = j from Nat.min_eq_left (by show j ≤ 64; omega), Int.one_mul, i64_wrap]
theorem bit_pow (j i : Nat) (h : i < 64) : bit (2 ^ j) i = decide (i = j) := by
  unfold bit
  rw [B_pow, BitVec.getLsbD_twoPow]
  by_cases hj : j < 64
  · simp [hj, eq_comm]
  · have : ¬ i = j := by omega
    simp [hj, this]
theorem tdiv8 (n : Nat) : wrap64 (Int.tdiv (n : Int) 8) = ((n / 8 : Nat) : Int) ∨ 9223372036854775807 < n := by
  have e : Int.tdiv (n : Int) 8 = ((n / 8 : Nat) : Int) := rfl
  by_cases h : 9223372036854775807 < n
  · exact .inr h
  · left
    rw [e]
    unfold wrap64
    omega
theorem tmod8 (n : Nat) : Int.tmod (n : Int) 8 = ((n % 8 : Nat) : Int) := rfl
theorem stL_at (l : List Int) (w i j : Nat) (h : j < w) : stL l w (i * w + j) = bit (rd l (i : Int)) j := by
  unfold stL rd
  rw [Int.toNat_natCast, Nat.mul_comm i w, Nat.mul_add_div (by omega), Nat.div_eq_of_lt h, Nat.mul_add_mod, Nat.mod_eq_of_lt h, Nat.add_zero]
def partB (st : Nat → Bool) (N pos : Nat) : List Int := (List.range ((N + 7) / 8)).map fun b => wordP fun t => decide (t < 8 ∧ 8 * b + t < pos) && st (8 * b + t)
theorem partB_length (st : Nat → Bool) (N pos : Nat) : (partB st N pos).length = (N + 7) / 8 := by simp [partB]
theorem partB_rd (st : Nat → Bool) (N pos b : Nat) (h : b < (N + 7) / 8) : rd (partB st N pos) (b : Int) = wordP fun t => decide (t < 8 ∧ 8 * b + t < pos) && st (8 * b + t) := by
  rw [rd_get _ b (by rw [partB_length]; exact h)]
  simp [partB]
theorem partB_zero (st : Nat → Bool) (N : Nat) : partB st N 0 = List.replicate ((N + 7) / 8) 0 := by
  unfold partB
  have : ∀ b, (wordP fun t => decide (t < 8 ∧ 8 * b + t < 0) && st (8 * b + t)) = 0 := fun b => (wordP_of (by unfold InI; decide) _ (fun i hi => by rw [bit_zero]; simp)).symm
  simp only [this]
  rw [List.map_const', List.length_range]
theorem partB_skip (st : Nat → Bool) (N pos : Nat) (h : st pos = false) : partB st N pos = partB st N (pos + 1) := by
  unfold partB
  refine List.map_congr_left (fun b _ => wordP_congr (fun t ht => ?_))
  by_cases e : 8 * b + t = pos
  · rw [e, h]; simp
  · have : (t < 8 ∧ 8 * b + t < pos) ↔ (t < 8 ∧ 8 * b + t < pos + 1) := by omega
    simp only [this]
theorem part_small (st : Nat → Bool) (b pos : Nat) : 0 ≤ (wordP fun t => decide (t < 8 ∧ 8 * b + t < pos) && st (8 * b + t)) ∧ (wordP fun t => decide (t < 8 ∧ 8 * b + t < pos) && st (8 * b + t)) < 256 := by
  have := wordP_small (fun t => decide (t < 8 ∧ 8 * b + t < pos) && st (8 * b + t)) 8 (by omega) (fun i hi => by
    have : ¬ (i < 8 ∧ 8 * b + i < pos) := by omega
    simp only [this]
    rfl)
  exact this
theorem or_u8 (a b : Int) (ha : 0 ≤ a ∧ a < 256) (hb : 0 ≤ b ∧ b < 256) : 0 ≤ Go.bits .or .u8 a b ∧ Go.bits .or .u8 a b < 256 ∧ ∀ i, i < 64 → bit (Go.bits .or .u8 a b) i = (bit a i || bit b i) := by
  obtain ⟨m, rfl⟩ := Int.eq_ofNat_of_zero_le ha.1
  obtain ⟨n, rfl⟩ := Int.eq_ofNat_of_zero_le hb.1
  have hm : m < 2 ^ 8 := by omega
  have hn : n < 2 ^ 8 := by omega
  rw [(bits_nat .u8 8 (by decide) wraps_u8 m n hm hn).2]
  have := Nat.or_lt_two_pow hm hn
  refine ⟨by omega, by omega, fun i hi => ?_⟩
  rw [bit_nat _ i hi, bit_nat _ i hi, bit_nat _ i hi, Nat.testBit_or]
theorem shl_u8 (j : Nat) (h : j < 8) : shl .u8 1 (j : Int) = 2 ^ j := by
  unfold shl
  have hp : (2 : Int) ^ j ≤ 2 ^ 7 := by
    rw [pow_cast, pow_cast]
    exact Int.ofNat_le.2 (Nat.pow_le_pow_right (by decide) (by omega))
  have h0 : (0 : Int) ≤ 2 ^ j := by rw [pow_cast]; exact Int.natCast_nonneg _
  rw [show min (j : Int).toNat IntKind.u8.bits = j from Nat.min_eq_left (by show j ≤ 8; omega), Int.one_mul, IntKind.wrap_u8]
  omega
theorem partB_put (st : Nat → Bool) (N pos : Nat) (h : st pos = true) (hpos : pos < N) :
    (partB st N pos).set (pos / 8) (Go.bits .or .u8 (rd (partB st N pos) ((pos / 8 : Nat) : Int)) (shl .u8 1 ((pos % 8 : Nat) : Int))) = partB st N (pos + 1) := by
  have hb : pos / 8 < (N + 7) / 8 := by omega
  rw [partB_rd st N pos _ hb, shl_u8 _ (by omega)]
  have hs := part_small st (pos / 8) pos
  have hp : (2 : Int) ^ (pos % 8) ≤ 2 ^ 7 := by
    rw [pow_cast, pow_cast]
    exact Int.ofNat_le.2 (Nat.pow_le_pow_right (by decide) (by omega))
  have h0 : (0 : Int) ≤ 2 ^ (pos % 8) := by rw [pow_cast]; exact Int.natCast_nonneg _
  have ho := or_u8 _ (2 ^ (pos % 8)) hs ⟨h0, by omega⟩
  refine List.ext_getElem (by rw [List.length_set, partB_length, partB_length]) (fun i h1 h2 => ?_)
  rw [List.getElem_set]
  by_cases e : pos / 8 = i
  · rw [if_pos e]
    have hg : (partB st N (pos + 1))[i] = wordP fun t => decide (t < 8 ∧ 8 * i + t < pos + 1) && st (8 * i + t) := by simp [partB]
    rw [hg]
    refine wordP_of (InI_of_small ⟨ho.1, ho.2.1⟩) _ (fun t ht => ?_)
    rw [ho.2.2 t ht, bit_wordP _ t ht, bit_pow _ t ht, e]
    by_cases e2 : t = pos % 8
    · have e3 : 8 * i + t = pos := by omega
      rw [e3, h]
      have : t < 8 ∧ pos < pos + 1 := by omega
      simp [e2]
      omega
    · have : (t < 8 ∧ 8 * i + t < pos) ↔ (t < 8 ∧ 8 * i + t < pos + 1) := by omega
      simp only [this, e2]
      simp
  · rw [if_neg e]
    have hg1 : (partB st N pos)[i]'(by rw [partB_length]; rw [partB_length] at h2; exact h2) = wordP fun t => decide (t < 8 ∧ 8 * i + t < pos) && st (8 * i + t) := by simp [partB]
    have hg : (partB st N (pos + 1))[i] = wordP fun t => decide (t < 8 ∧ 8 * i + t < pos + 1) && st (8 * i + t) := by simp [partB]
    rw [hg1, hg]
    refine wordP_congr (fun t ht => ?_)
    have : (t < 8 ∧ 8 * i + t < pos) ↔ (t < 8 ∧ 8 * i + t < pos + 1) := by omega
    simp only [this]
theorem partB_all (st : Nat → Bool) (N : Nat) : partB st N N = packB st N := by
  have hf : ∀ i, i < N / 8 → (fullB st (N / 8))[i]? = some (byteP st i) := fun i hi => by simp [fullB, hi]
  refine List.ext_getElem? (fun i => ?_)
  by_cases h : i < (N + 7) / 8
  · have hg : (partB st N N)[i]? = some (wordP fun t => decide (t < 8 ∧ 8 * i + t < N) && st (8 * i + t)) := by simp [partB, h]
    rw [hg]
    unfold packB
    by_cases e : i < N / 8
    · rw [List.getElem?_append_left (by rw [fullB_length]; exact e), hf i e]
      unfold byteP
      refine congrArg some (wordP_congr (fun t ht => ?_))
      have : (t < 8 ∧ 8 * i + t < N) ↔ t < 8 := by omega
      simp only [this]
    · have hne : ¬ N % 8 = 0 := by omega
      have hi : i = N / 8 := by omega
      subst hi
      rw [List.getElem?_append_right (by rw [fullB_length]; omega), if_neg hne, fullB_length, Nat.sub_self, List.getElem?_cons_zero]
      unfold keptP
      refine congrArg some (wordP_congr (fun t ht => ?_))
      rw [Nat.mul_comm 8]
      have : (t < 8 ∧ N / 8 * 8 + t < N) ↔ t < N % 8 := by omega
      simp only [this]
  · rw [List.getElem?_eq_none (by rw [partB_length]; omega), List.getElem?_eq_none (by rw [packB_length]; omega)]
theorem ref_Bytes_eq (n w : Int) : peristyleref08_Bytes.f n w = some (if n < 1 ∨ 65536 < n ∨ w < 1 ∨ 64 < w then 0 else (n * w + 7) / 8) := by
  unfold peristyleref08_Bytes.f
  by_cases h1 : n < 1
  · rw [if_pos h1, if_pos (.inl h1)]
  · rw [if_neg h1]
    by_cases h2 : n > 65536
    · rw [if_pos h2, if_pos (.inr (.inl h2))]
    · rw [if_neg h2]
      by_cases h3 : w < 1
      · rw [if_pos h3, if_pos (.inr (.inr (.inl h3)))]
      · rw [if_neg h3]
        by_cases h4 : w > 64
        · rw [if_pos h4, if_pos (.inr (.inr (.inr h4)))]
        · rw [if_neg h4, if_neg (by omega)]
          have hp : 0 ≤ n * w ∧ n * w ≤ 65536 * 64 := ⟨Int.mul_nonneg (by omega) (by omega), Int.mul_le_mul (by omega) (by omega) (by omega) (by omega)⟩
          rw [show wrap64 (n * w) = n * w by unfold wrap64; omega, show wrap64 (n * w + 7) = n * w + 7 by unfold wrap64; omega]
          obtain ⟨m, hm⟩ := Int.eq_ofNat_of_zero_le (show 0 ≤ n * w + 7 by omega)
          rw [hm]
          rcases tdiv8 m with h | h
          · rw [h]; rfl
          · omega
theorem ref_put_inner (l : List Int) (w : Nat) (hw : w ≤ 64) (hl : l.length ≤ 65536) (i : Nat) (hi : i < l.length) (r : ByteArray × Int) : ∀ (d j : Nat), j + d = w →
    Ev (fun k => peristyleref08_Put.l0 k l (w : Int) (partB (stL l w) (l.length * w) (i * w + w)) ((i + 1 : Nat) : Int)) r →
    Ev (fun k => peristyleref08_Put.l1 k l (w : Int) (partB (stL l w) (l.length * w) (i * w + j)) (i : Int) (j : Int)) r
  | 0, j, h, hr => by
    obtain rfl : j = w := by omega
    refine Ev.step (fun k => peristyleref08_Put.l1_succ k _ _ _ _ _) (Ev.no (by omega) ?_)
    rw [show wrap64 ((i : Int) + 1) = ((i + 1 : Nat) : Int) by unfold wrap64; omega]
    exact hr
  | d + 1, j, h, hr => by
    have hN : (i + 1) * w ≤ l.length * w := Nat.mul_le_mul_right w (by omega)
    have hN2 : l.length * w ≤ 65536 * 64 := Nat.mul_le_mul hl hw
    have hs : (i + 1) * w = i * w + w := Nat.succ_mul i w
    have hih := ref_put_inner l w hw hl i hi r d (j + 1) (by omega) hr
    have hc : wrap64 (wrap64 ((i : Int) * (w : Int)) + (j : Int)) = ((i * w + j : Nat) : Int) := by
      rw [← Int.natCast_mul]
      unfold wrap64
      omega
    have hst := stL_at l w i j (by omega)
    refine Ev.step (fun k => peristyleref08_Put.l1_succ k _ _ _ _ _) (Ev.yes (by omega) (Ev.yes (by omega) (Ev.yes (by omega) (Ev.yes (by omega) ?_))))
    have hd : wrap64 (Int.tdiv ((i * w + j : Nat) : Int) 8) = (((i * w + j) / 8 : Nat) : Int) := by
      rcases tdiv8 (i * w + j) with h | h
      · exact h
      · omega
    rw [hc, hd, tmod8, show wrap64 ((j : Int) + 1) = ((j + 1 : Nat) : Int) by unfold wrap64; omega]
    by_cases hb : bit (rd l (i : Int)) j = true
    · refine Ev.yes ((test_bit _ j (by omega)).2 hb) (Ev.yes (by omega) (Ev.yes (by rw [partB_length]; omega) (Ev.yes (by omega) ?_)))
      rw [Int.toNat_natCast, partB_put _ _ _ (by rw [hst]; exact hb) (by omega)]
      exact hih
    · refine Ev.no (fun h => hb ((test_bit _ j (by omega)).1 h)) ?_
      rw [partB_skip _ _ _ (by rw [hst]; simpa using hb)]
      exact hih
theorem ref_put_outer (l : List Int) (w : Nat) (hw : w ≤ 64) (hl : l.length ≤ 65536) : ∀ (d i : Nat), i + d = l.length →
    Ev (fun k => peristyleref08_Put.l0 k l (w : Int) (partB (stL l w) (l.length * w) (i * w)) (i : Int)) (strOfNums (packB (stL l w) (l.length * w)), 0)
  | 0, i, h => by
    obtain rfl : i = l.length := by omega
    refine Ev.step (fun k => peristyleref08_Put.l0_succ k _ _ _ _) (Ev.no (by omega) (Ev.val ?_))
    rw [partB_all]
  | d + 1, i, h => by
    have hih := ref_put_outer l w hw hl d (i + 1) (by omega)
    rw [Nat.succ_mul] at hih
    exact Ev.step (fun k => peristyleref08_Put.l0_succ k _ _ _ _) (Ev.yes (by omega) (ref_put_inner l w hw hl i (by omega) _ w 0 (by omega) hih))
theorem ref_put_no (l : List Int) (w : Int) : Ev (fun k => peristyleref08_Put.j0 k l w true) ((⟨#[]⟩ : ByteArray), 1) :=
  Ev.step (fun k => peristyleref08_Put.j0_succ k _ _ _) (Ev.yes rfl (Ev.now _))
theorem ref08_Put_ev (l : List Int) (w : Int) (hl : l.length ≤ 17592186044416) : Ev (fun k => peristyleref08_Put.f k l w) (putR l w) := by
  have hno : ¬ mayPut l w → Ev (fun k => peristyleref08_Put.j0 k l w true) (putR l w) := fun h => by
    unfold putR
    rw [if_neg h]
    exact ref_put_no l w
  unfold peristyleref08_Put.f
  by_cases h1 : w < 0
  · exact Ev.yes h1 (hno (fun h => by unfold mayPut at h; omega))
  refine Ev.no h1 ?_
  by_cases h2 : w > 64
  · exact Ev.yes h2 (hno (fun h => by unfold mayPut at h; omega))
  refine Ev.no h2 ?_
  by_cases h3 : (l.length : Int) > 65536
  · exact Ev.yes h3 (hno (fun h => by unfold mayPut at h; omega))
  refine Ev.no h3 (Ev.bind (ref08_Width_ev l hl) ?_)
  by_cases h4 : widL l > w
  · rw [decide_eq_true h4]
    exact hno (fun h => by unfold mayPut at h; omega)
  rw [decide_eq_false h4]
  have hm : mayPut l w := by unfold mayPut; omega
  unfold putR
  rw [if_pos hm]
  obtain ⟨n, rfl⟩ := Int.eq_ofNat_of_zero_le (show 0 ≤ w by omega)
  have hp : l.length * n ≤ 65536 * 64 := Nat.mul_le_mul (by omega) (by omega)
  refine Ev.step (fun k => peristyleref08_Put.j0_succ k _ _ _) (Ev.no (by decide) (Ev.call (ref_Bytes_eq _ _) ?_))
  have hb : (if (l.length : Int) < 1 ∨ 65536 < (l.length : Int) ∨ (n : Int) < 1 ∨ 64 < (n : Int) then 0 else ((l.length : Int) * (n : Int) + 7) / 8) = (((l.length * n + 7) / 8 : Nat) : Int) := by
    have hc : (l.length : Int) * (n : Int) = ((l.length * n : Nat) : Int) := (Int.natCast_mul _ _).symm
    rw [hc]
    split
    · rename_i hh
      have : l.length = 0 ∨ n = 0 := by omega
      rcases this with h | h
      · rw [h]; simp
      · rw [h]; simp
    · omega
  rw [hb, Int.toNat_natCast]
  refine Ev.yes (by omega) (Ev.yes (by omega) ?_)
  have := ref_put_outer l n (by omega) (by omega) l.length 0 (by omega)
  rw [Nat.zero_mul, partB_zero] at this
  exact this
/-! ### the words of bytes -/
def sbit (s : ByteArray) (j : Nat) : Bool := bit (bt s ((j / 8 : Nat) : Int)) (j % 8)
def wordS (s : ByteArray) (pos w : Nat) : Int := wordP (fun t => decide (t < w) && sbit s (pos + t))
theorem word_bits (s : ByteArray) (pos got n : Nat) (hn : (pos + got) % 8 + n ≤ 8) (hg : got + n ≤ 64) :
    Go.bits .or .u64 (IntKind.u64.wrap (wordS s pos got)) (shl .u64 (Go.bits .and .u64 (shr .u64 (IntKind.u64.wrap (bt s (((pos + got) / 8 : Nat) : Int))) (((pos + got) % 8 : Nat) : Int)) (IntKind.u64.wrap (wordP (maskP (n : Int))))) (got : Int)) = IntKind.u64.wrap (wordS s pos (got + n)) := by
  refine InU_inj (InU_bits _ _ _) (InU_u64 _) (fun i hi => ?_)
  rw [bit_uor, bit_u64, bit_u64]
  unfold wordS
  rw [bit_wordP _ i hi, bit_wordP _ i hi, bit_shl _ _ i hi, Int.toNat_natCast, bit_uand, bit_u64, bit_shr (InU_u64 _), bit_u64, Int.toNat_natCast]
  by_cases h1 : i < got
  · have h2 : i < got + n := by omega
    have h3 : ¬ got ≤ i := by omega
    simp [h1, h2, h3]
  · rw [bit_wordP _ (i - got) (by omega)]
    have h3 : got ≤ i := by omega
    by_cases h2 : i < got + n
    · have h4 : maskP (n : Int) (i - got) = true := by simp [maskP]; omega
      have h5 : sbit s (pos + i) = bit (bt s (((pos + got) / 8 : Nat) : Int)) ((pos + got) % 8 + (i - got)) := by
        unfold sbit
        rw [show (pos + i) / 8 = (pos + got) / 8 by omega, show (pos + i) % 8 = (pos + got) % 8 + (i - got) by omega]
      rw [h4, h5]
      simp [h1, h2, h3]
    · have h4 : maskP (n : Int) (i - got) = false := by simp [maskP]; omega
      simp [h1, h2, h4]
theorem pack_word_loop (s : ByteArray) (pos w : Nat) (hw : w ≤ 64) (hs : pos + w ≤ 8 * s.size) (hp : pos + w ≤ 4294967296) : ∀ (left got : Nat), got + left = w →
    Ev (fun k => pack_word.l0 k s (w : Int) (IntKind.u64.wrap (wordS s pos got)) ((pos + got : Nat) : Int) (got : Int)) (wordS s pos w) := by
  intro left
  induction left using Nat.strongRecOn with
  | ind left ih =>
    intro got hgl
    by_cases h0 : left = 0
    · obtain rfl : got = w := by omega
      refine Ev.step (fun k => pack_word.l0_succ k _ _ _ _ _) (Ev.no (by omega) (Ev.val ?_))
      have hI := InI_wordP (fun t => decide (t < got) && sbit s (pos + t))
      refine B_inj (InI_wrap64 _) hI ?_
      rw [B_wrap64, B_u64]
    · have ha : Go.bits .and .i64 ((pos + got : Nat) : Int) 7 = (((pos + got) % 8 : Nat) : Int) := by rw [and_7]; omega
      have hw8 : wrap64 (8 - (((pos + got) % 8 : Nat) : Int)) = 8 - (((pos + got) % 8 : Nat) : Int) := by unfold wrap64; omega
      have hwl : wrap64 ((w : Int) - (got : Int)) = (left : Int) := by unfold wrap64; omega
      obtain ⟨n, hn⟩ : ∃ n : Nat, mn (8 - (((pos + got) % 8 : Nat) : Int)) (left : Int) = (n : Int) := ⟨(mn (8 - (((pos + got) % 8 : Nat) : Int)) (left : Int)).toNat, by unfold mn; split <;> omega⟩
      have hn1 : 0 < n ∧ n ≤ left ∧ (pos + got) % 8 + n ≤ 8 := by unfold mn at hn; split at hn <;> omega
      have hih := ih (left - n) (by omega) (got + n) (by omega)
      refine Ev.step (fun k => pack_word.l0_succ k _ _ _ _ _) (Ev.yes (by omega) (Ev.yes (by omega) (Ev.yes (by omega) ?_)))
      rw [ha, hw8, hwl, hn]
      refine Ev.yes (by omega) (Ev.call (bits_Mask_eq (n : Int)) (Ev.yes (by omega) ?_))
      rw [show ((pos + got : Nat) : Int) / 8 = (((pos + got) / 8 : Nat) : Int) by omega, word_bits s pos got n hn1.2.2 (by omega)]
      rw [show wrap64 (((pos + got : Nat) : Int) + (n : Int)) = ((pos + (got + n) : Nat) : Int) by unfold wrap64; omega, show wrap64 ((got : Int) + (n : Int)) = ((got + n : Nat) : Int) by unfold wrap64; omega]
      exact hih
theorem pack_word_ev (s : ByteArray) (k w : Nat) (hw : w ≤ 64) (hs : k * w + w ≤ 8 * s.size) (hp : k * w + w ≤ 4294967296) : Ev (fun n => pack_word.f n s (k : Int) (w : Int)) (wordS s (k * w) w) := by
  unfold pack_word.f
  have := pack_word_loop s (k * w) w hw hs hp w 0 (by omega)
  have e0 : IntKind.u64.wrap (wordS s (k * w) 0) = 0 := by
    have : wordS s (k * w) 0 = 0 := (wordP_of (by unfold InI; decide) _ (fun i hi => by rw [bit_zero]; simp)).symm
    rw [this]
    exact u64_id (by unfold InU; decide)
  rw [e0] at this
  rw [show wrap64 ((k : Int) * (w : Int)) = ((k * w + 0 : Nat) : Int) by rw [← Int.natCast_mul]; unfold wrap64; omega]
  exact this
theorem ref_word_loop (s : ByteArray) (k w : Nat) (hw : w ≤ 64) (hs : k * w + w ≤ 8 * s.size) (hp : k * w + w ≤ 4294967296) : ∀ (d j : Nat), j + d = w →
    Ev (fun n => peristyleref08_word.l0 n s (k : Int) (w : Int) (wordS s (k * w) j) (j : Int)) (wordS s (k * w) w)
  | 0, j, h => by
    obtain rfl : j = w := by omega
    exact Ev.step (fun k => peristyleref08_word.l0_succ k _ _ _ _ _) (Ev.no (by omega) (Ev.now _))
  | d + 1, j, h => by
    have hih := ref_word_loop s k w hw hs hp d (j + 1) (by omega)
    have hc : wrap64 (wrap64 ((k : Int) * (w : Int)) + (j : Int)) = ((k * w + j : Nat) : Int) := by
      rw [← Int.natCast_mul]
      unfold wrap64
      omega
    have hd : wrap64 (Int.tdiv ((k * w + j : Nat) : Int) 8) = (((k * w + j) / 8 : Nat) : Int) := by
      rcases tdiv8 (k * w + j) with h | h
      · exact h
      · omega
    have hbt := bt_range s (((k * w + j) / 8 : Nat) : Int)
    refine Ev.step (fun n => peristyleref08_word.l0_succ n _ _ _ _ _) (Ev.yes (by omega) ?_)
    rw [hc, hd, tmod8, show wrap64 ((j : Int) + 1) = ((j + 1 : Nat) : Int) by unfold wrap64; omega]
    refine Ev.yes (by omega) (Ev.yes (by omega) (Ev.yes (by omega) ?_))
    rw [show wrap64 (bt s (((k * w + j) / 8 : Nat) : Int)) = bt s (((k * w + j) / 8 : Nat) : Int) by unfold wrap64; omega]
    by_cases hb : sbit s (k * w + j) = true
    · refine Ev.yes ((test_bit _ _ (by omega)).2 hb) (Ev.yes (by omega) ?_)
      have e : Go.bits .or .i64 (wordS s (k * w) j) (shl .i64 1 (j : Int)) = wordS s (k * w) (j + 1) := by
        refine wordP_of (InI_bits _ _ _) _ (fun i hi => ?_)
        rw [bit_or, shl_i64 j (by omega), bit_wrap64, bit_pow j i hi]
        unfold wordS
        rw [bit_wordP _ i hi]
        by_cases e : i = j
        · subst e; simp [hb]
        · have : i < j ↔ i < j + 1 := by omega
          simp [e, this]
      rw [e]
      exact hih
    · refine Ev.no (fun h => hb ((test_bit _ _ (by omega)).1 h)) ?_
      have e : wordS s (k * w) j = wordS s (k * w) (j + 1) := by
        refine wordP_congr (fun i hi => ?_)
        by_cases e : i = j
        · subst e
          have : sbit s (k * w + i) = false := by simpa using hb
          simp [this]
        · have : i < j ↔ i < j + 1 := by omega
          simp [this]
      rw [e]
      exact hih
theorem ref_word_ev (s : ByteArray) (k w : Nat) (hw : w ≤ 64) (hs : k * w + w ≤ 8 * s.size) (hp : k * w + w ≤ 4294967296) : Ev (fun n => peristyleref08_word.f n s (k : Int) (w : Int)) (wordS s (k * w) w) := by
  have := ref_word_loop s k w hw hs hp w 0 (by omega)
  have e0 : wordS s (k * w) 0 = 0 := (wordP_of (by unfold InI; decide) _ (fun i hi => by rw [bit_zero]; simp)).symm
  rw [e0] at this
  exact this
end Go.Proofs.YtfohecpfenegkaaGreat.Print
end
section
set_option linter.unusedVariables false
set_option linter.unusedSimpArgs false
namespace Go.Proofs.YtfohecpfenegkaaGreat.Print
open Go.RowKit Go.Proofs.YtfohecpfenegkaaGreatW.PrintWords Go.Proofs.YtfohecpfenegkaaGreatW.PrintMore
/-! ### bytes and their numbers -/
theorem bytesOf_str (l : List Int) (h : ∀ x, x ∈ l → 0 ≤ x ∧ x < 256) : bytesOf (strOfNums l) = l := by
  unfold bytesOf strOfNums
  simp only [List.map_map]
  conv => rhs; rw [← List.map_id l]
  refine List.map_congr_left (fun x hx => ?_)
  have := h x hx
  simp
  omega
theorem str_bytesOf (s : ByteArray) : strOfNums (bytesOf s) = s := by
  unfold bytesOf strOfNums
  rw [List.map_map]
  have : (s.data.toList.map ((fun n : Int => UInt8.ofNat n.toNat) ∘ fun b : UInt8 => (b.toNat : Int))) = s.data.toList := by
    conv => rhs; rw [← List.map_id s.data.toList]
    refine List.map_congr_left (fun x _ => ?_)
    simp
  rw [this]
theorem toList_inj {a b : ByteArray} (h : a.toList = b.toList) : a = b := by
  rw [Lib.toList_data, Lib.toList_data] at h
  cases a with | mk x => cases b with | mk y => exact congrArg ByteArray.mk (Array.toList_inj.1 h)
theorem str_size (l : List Int) : (strOfNums l).size = l.length := by simp [strOfNums, ByteArray.size]
theorem bt_str (l : List Int) (h : ∀ x, x ∈ l → 0 ≤ x ∧ x < 256) (i : Int) : bt (strOfNums l) i = rd l i := by
  rw [← rd_bytesOf, bytesOf_str l h]
theorem small_bits {x : Int} (h : 0 ≤ x ∧ x < 256) (t : Nat) (ht : 8 ≤ t) : bit x t = false := by
  by_cases h64 : t < 64
  · obtain ⟨m, rfl⟩ := Int.eq_ofNat_of_zero_le h.1
    rw [bit_nat _ t h64]
    exact Nat.testBit_lt_two_pow (Nat.lt_of_lt_of_le (show m < 2 ^ 8 by omega) (Nat.pow_le_pow_right (by decide) ht))
  · exact bit_ge _ (by omega)
theorem packB_congr {st st' : Nat → Bool} (N : Nat) (h : ∀ j, j < N → st j = st' j) : packB st N = packB st' N := by
  unfold packB fullB
  have e1 : (List.range (N / 8)).map (byteP st) = (List.range (N / 8)).map (byteP st') := by
    refine List.map_congr_left (fun b hb => ?_)
    have hb' : b < N / 8 := List.mem_range.1 hb
    unfold byteP
    refine wordP_congr (fun t ht => ?_)
    by_cases h8 : t < 8
    · rw [h (8 * b + t) (by omega)]
    · simp [h8]
  have e2 : keptP st N = keptP st' N := by
    unfold keptP
    refine wordP_congr (fun t ht => ?_)
    by_cases h8 : t < N % 8
    · rw [h (N / 8 * 8 + t) (by omega)]
    · simp [h8]
  rw [e1, e2]
theorem packB_rd_full (st : Nat → Bool) (N b : Nat) (h : b < N / 8) : rd (packB st N) (b : Int) = byteP st b := by
  rw [rd_get _ b (by rw [packB_length]; omega)]
  have : (packB st N)[b]? = some (byteP st b) := by
    unfold packB
    rw [List.getElem?_append_left (by rw [fullB_length]; exact h)]
    simp [fullB, h]
  exact (List.getElem?_eq_some_iff.1 this).2
theorem packB_rd_last (st : Nat → Bool) (N : Nat) (h : ¬ N % 8 = 0) : rd (packB st N) ((N / 8 : Nat) : Int) = keptP st N := by
  rw [rd_get _ (N / 8) (by rw [packB_length]; omega)]
  have : (packB st N)[N / 8]? = some (keptP st N) := by
    unfold packB
    rw [List.getElem?_append_right (by rw [fullB_length]; omega), if_neg h, fullB_length, Nat.sub_self]
    rfl
  exact (List.getElem?_eq_some_iff.1 this).2
theorem sbit_pack (st : Nat → Bool) (N j : Nat) (h : j < N) : sbit (strOfNums (packB st N)) j = st j := by
  unfold sbit
  rw [bt_str _ (packB_small st N)]
  by_cases e : j / 8 < N / 8
  · rw [packB_rd_full st N _ e]
    unfold byteP
    rw [bit_wordP _ _ (by omega), show 8 * (j / 8) + j % 8 = j by omega]
    have : j % 8 < 8 := by omega
    simp [this]
  · have e1 : j / 8 = N / 8 := by omega
    rw [e1, packB_rd_last st N (by omega)]
    unfold keptP
    rw [bit_wordP _ _ (by omega), show N / 8 * 8 + j % 8 = j by omega]
    have : j % 8 < N % 8 := by omega
    simp [this]
def spareOK (s : ByteArray) (N : Nat) : Prop := N % 8 = 0 ∨ ∀ t, N % 8 ≤ t → bit (bt s ((N / 8 : Nat) : Int)) t = false
theorem pack_same (s : ByteArray) (N : Nat) (hs : s.size = (N + 7) / 8) : strOfNums (packB (sbit s) N) = s ↔ spareOK s N := by
  have hbt : ∀ i : Nat, 0 ≤ bt s (i : Int) ∧ bt s (i : Int) < 256 := fun i => by have := bt_range s (i : Int); omega
  have hfull : ∀ b, b < N / 8 → byteP (sbit s) b = bt s (b : Int) := fun b hb => by
    unfold byteP
    refine (wordP_of (InI_of_small (hbt b)) _ (fun t ht => ?_)).symm
    by_cases h8 : t < 8
    · unfold sbit
      rw [show (8 * b + t) / 8 = b by omega, show (8 * b + t) % 8 = t by omega]
      simp [h8]
    · rw [small_bits (hbt b) t (by omega)]
      simp [h8]
  constructor
  · intro h
    by_cases h0 : N % 8 = 0
    · exact .inl h0
    · right
      intro t ht
      rw [← h, bt_str _ (packB_small _ N), packB_rd_last _ N h0]
      unfold keptP
      by_cases h64 : t < 64
      · rw [bit_wordP _ t h64]
        have : ¬ t < N % 8 := by omega
        simp [this]
      · exact bit_ge _ (by omega)
  · intro h
    have hl : packB (sbit s) N = bytesOf s := by
      refine List.ext_getElem (by rw [packB_length, bytesOf_length, hs]) (fun i h1 h2 => ?_)
      have hi : i < (N + 7) / 8 := by rw [packB_length] at h1; exact h1
      rw [← rd_get (packB (sbit s) N) i h1, ← rd_get (bytesOf s) i h2, rd_bytesOf]
      by_cases e : i < N / 8
      · rw [packB_rd_full _ N i e]
        exact hfull i e
      · have hne : ¬ N % 8 = 0 := by omega
        obtain rfl : i = N / 8 := by omega
        rw [packB_rd_last _ N hne]
        rcases h with h | h
        · exact absurd h hne
        · unfold keptP
          refine (wordP_of (InI_of_small (hbt _)) _ (fun t ht => ?_)).symm
          by_cases h8 : t < N % 8
          · unfold sbit
            rw [show (N / 8 * 8 + t) / 8 = N / 8 by omega, show (N / 8 * 8 + t) % 8 = t by omega]
            simp [h8]
          · rw [h t (by omega)]
            simp [h8]
    rw [hl, str_bytesOf]
def listS (s : ByteArray) (n w : Nat) : List Int := (List.range n).map fun k => wordS s (k * w) w
theorem listS_length (s : ByteArray) (n w : Nat) : (listS s n w).length = n := by simp [listS]
theorem listS_getD (s : ByteArray) (n w k : Nat) (h : k < n) : (listS s n w).getD k 0 = wordS s (k * w) w := by simp [listS, List.getD_eq_getElem?_getD, h]
theorem stL_listS (s : ByteArray) (n w j : Nat) (hw : w ≤ 64) (h : j < n * w) : stL (listS s n w) w j = sbit s j := by
  unfold stL
  have hw0 : 0 < w := by
    rcases Nat.eq_zero_or_pos w with h0 | h0
    · subst h0; simp at h
    · exact h0
  have hk : j / w < n := (Nat.div_lt_iff_lt_mul hw0).2 h
  have hm : j % w < w := Nat.mod_lt _ hw0
  rw [listS_getD _ _ _ _ hk]
  unfold wordS
  rw [bit_wordP _ _ (by omega), Nat.mul_comm, Nat.div_add_mod]
  simp [hm]
theorem widL_listS (s : ByteArray) (n w : Nat) (hw : w ≤ 64) : widL (listS s n w) ≤ (w : Int) := by
  rw [widL_le_iff _ _ (by omega)]
  intro x hx i hi
  obtain ⟨k, _, rfl⟩ := List.mem_map.1 hx
  unfold wordS
  by_cases h64 : i < 64
  · rw [bit_wordP _ i h64]
    have : ¬ i < w := by omega
    simp [this]
  · exact bit_ge _ (by omega)
noncomputable instance (s : ByteArray) (N : Nat) : Decidable (spareOK s N) := Classical.propDecidable _
def bytesN (n w : Int) : Int := if n < 1 ∨ 65536 < n ∨ w < 1 ∨ 64 < w then 0 else (n * w + 7) / 8
theorem bytesN_nat (n w : Nat) (hn : n ≤ 65536) (hw : w ≤ 64) : bytesN (n : Int) (w : Int) = (((n * w + 7) / 8 : Nat) : Int) := by
  unfold bytesN
  have hc : (n : Int) * (w : Int) = ((n * w : Nat) : Int) := (Int.natCast_mul _ _).symm
  rw [hc]
  split
  · have : n = 0 ∨ w = 0 := by omega
    rcases this with h | h
    · rw [h]; simp
    · rw [h]; simp
  · omega
noncomputable def takeR (s : ByteArray) (n w : Int) : List Int × Int :=
  if w < 0 ∨ 64 < w ∨ n < 0 ∨ 65536 < n then ([], 1)
  else if (s.size : Int) = bytesN n w ∧ spareOK s (n.toNat * w.toNat) then (listS s n.toNat w.toNat, 0) else ([], 20)
theorem shr_u8_pos (x : Int) (h : 0 ≤ x ∧ x < 256) (m : Nat) (hm : m < 8) : shr .u8 x (m : Int) > 0 ↔ ¬ ∀ t, m ≤ t → bit x t = false := by
  obtain ⟨y, rfl⟩ := Int.eq_ofNat_of_zero_le h.1
  have e : shr .u8 (y : Int) (m : Int) = ((y / 2 ^ m : Nat) : Int) := by
    unfold shr
    rw [show min (m : Int).toNat IntKind.u8.bits = m from Nat.min_eq_left (by show m ≤ 8; omega), pow_cast, Int.natCast_ediv]
  rw [e]
  have hp := Nat.two_pow_pos m
  have key : y / 2 ^ m = 0 ↔ ∀ t, m ≤ t → bit (y : Int) t = false := by
    constructor
    · intro h0 t ht
      rcases (Nat.div_eq_zero_iff).1 h0 with h1 | h1
      · exact absurd h1 (Nat.ne_of_gt hp)
      · by_cases h64 : t < 64
        · rw [bit_nat _ t h64]
          exact Nat.testBit_lt_two_pow (Nat.lt_of_lt_of_le h1 (Nat.pow_le_pow_right (by decide) ht))
        · exact bit_ge _ (by omega)
    · intro hb
      refine Nat.div_eq_of_lt (Nat.lt_pow_two_of_testBit y (fun t ht => ?_))
      by_cases h64 : t < 64
      · rw [← bit_nat _ t h64]; exact hb t ht
      · exact Nat.testBit_lt_two_pow (Nat.lt_of_lt_of_le (show y < 2 ^ 8 by omega) (Nat.pow_le_pow_right (by decide) (by omega)))
  rw [← key]
  constructor
  · intro h1 h2
    rw [h2] at h1
    exact absurd h1 (by decide)
  · intro h1
    exact Int.ofNat_lt.2 (Nat.pos_of_ne_zero h1)
theorem take_loop (s : ByteArray) (n w : Nat) (hw : w ≤ 64) (hn : n ≤ 65536) (hs : s.size = (n * w + 7) / 8) : ∀ (d i : Nat), i + d = n →
    Ev (fun k => pack_Take.l0 k s (w : Int) ((List.range i).map (fun k => wordS s (k * w) w) ++ List.replicate (n - i) 0) (n : Int) (i : Int)) (listS s n w, 0)
  | 0, i, h => by
    obtain rfl : i = n := by omega
    refine Ev.step (fun k => pack_Take.l0_succ k _ _ _ _ _) (Ev.no (by omega) (Ev.val ?_))
    unfold listS
    simp
  | d + 1, i, h => by
    have hN : (i + 1) * w ≤ n * w := Nat.mul_le_mul_right w (by omega)
    have hN2 : n * w ≤ 65536 * 64 := Nat.mul_le_mul hn hw
    rw [Nat.succ_mul] at hN
    have hih := take_loop s n w hw hn hs d (i + 1) (by omega)
    refine Ev.step (fun k => pack_Take.l0_succ k _ _ _ _ _) (Ev.yes (by omega) (Ev.bind (pack_word_ev s i w hw (by omega) (by omega)) (Ev.yes (by omega) (Ev.yes (by simp; omega) ?_))))
    have e : ((List.range i).map (fun k => wordS s (k * w) w) ++ List.replicate (n - i) 0).set (i : Int).toNat (wordS s (i * w) w) = (List.range (i + 1)).map (fun k => wordS s (k * w) w) ++ List.replicate (n - (i + 1)) 0 := by
      obtain ⟨m, hm⟩ : ∃ m, n - i = m + 1 := ⟨n - i - 1, by omega⟩
      rw [hm, show n - (i + 1) = m by omega, Int.toNat_natCast, List.set_append_right _ _ (by simp), List.range_succ, List.replicate_succ]
      simp
    rw [e, show wrap64 ((i : Int) + 1) = ((i + 1 : Nat) : Int) by unfold wrap64; omega]
    exact hih
theorem take_no (s : ByteArray) (n w : Int) : Ev (fun k => pack_Take.j0 k s n w true) (([] : List Int), 1) :=
  Ev.step (fun k => pack_Take.j0_succ k _ _ _ _) (Ev.yes rfl (Ev.now _))
theorem pack_Take_ev (s : ByteArray) (n w : Int) (hsz : s.size ≤ 4294967296) : Ev (fun k => pack_Take.f k s n w) (takeR s n w) := by
  have hno : (w < 0 ∨ 64 < w ∨ n < 0 ∨ 65536 < n) → Ev (fun k => pack_Take.j0 k s n w true) (takeR s n w) := fun h => by
    unfold takeR
    rw [if_pos h]
    exact take_no s n w
  unfold pack_Take.f
  by_cases h1 : w < 0
  · exact Ev.yes h1 (hno (.inl h1))
  refine Ev.no h1 ?_
  by_cases h2 : w > 64
  · exact Ev.yes h2 (hno (.inr (.inl h2)))
  refine Ev.no h2 ?_
  by_cases h3 : n < 0
  · exact Ev.yes h3 (hno (.inr (.inr (.inl h3))))
  refine Ev.no h3 ?_
  by_cases h4 : n > 65536
  · rw [decide_eq_true h4]
    exact hno (.inr (.inr (.inr h4)))
  rw [decide_eq_false h4]
  unfold takeR
  rw [if_neg (by omega)]
  obtain ⟨n, rfl⟩ := Int.eq_ofNat_of_zero_le (show 0 ≤ n by omega)
  obtain ⟨w, rfl⟩ := Int.eq_ofNat_of_zero_le (show 0 ≤ w by omega)
  have hN2 : n * w ≤ 65536 * 64 := Nat.mul_le_mul (by omega) (by omega)
  simp only [Int.toNat_natCast]
  refine Ev.step (fun k => pack_Take.j0_succ k _ _ _ _) (Ev.no (by decide) (Ev.call (v := bytesN n w) (pack_Bytes_eq _ _) ?_))
  by_cases h5 : (s.size : Int) = bytesN n w
  · refine Ev.yes h5 ?_
    have h5' : s.size = (n * w + 7) / 8 := by rw [bytesN_nat n w (by omega) (by omega)] at h5; omega
    have hpw : wrap64 ((n : Int) * (w : Int)) = ((n * w : Nat) : Int) := by rw [← Int.natCast_mul]; unfold wrap64; omega
    have h7 : Go.bits .and .i64 ((n * w : Nat) : Int) 7 = ((n * w % 8 : Nat) : Int) := by rw [and_7]; omega
    rw [hpw, h7]
    have hgood : spareOK s (n * w) → Ev (fun k => pack_Take.j1 k s (n : Int) (w : Int) false) (if (s.size : Int) = bytesN n w ∧ spareOK s (n * w) then (listS s n w, 0) else ([], 20)) := fun hg => by
      rw [if_pos ⟨h5, hg⟩]
      refine Ev.step (fun k => pack_Take.j1_succ k _ _ _ _) (Ev.no (by decide) (Ev.yes (by omega) (Ev.yes (by omega) ?_)))
      have := take_loop s n w (by omega) (by omega) h5' n 0 (by omega)
      exact this
    have hbad : ¬ spareOK s (n * w) → Ev (fun k => pack_Take.j1 k s (n : Int) (w : Int) true) (if (s.size : Int) = bytesN n w ∧ spareOK s (n * w) then (listS s n w, 0) else ([], 20)) := fun hg => by
      rw [if_neg (fun h => hg h.2)]
      exact Ev.step (fun k => pack_Take.j1_succ k _ _ _ _) (Ev.yes rfl (Ev.now _))
    by_cases h8 : n * w % 8 = 0
    · exact Ev.no (by omega) (hgood (.inl h8))
    · have hbt : 0 ≤ bt s ((n * w / 8 : Nat) : Int) ∧ bt s ((n * w / 8 : Nat) : Int) < 256 := by have := bt_range s ((n * w / 8 : Nat) : Int); omega
      refine Ev.yes (by omega) (Ev.yes (by unfold wrap64; omega) (Ev.yes (by unfold wrap64; omega) (Ev.yes (by omega) ?_)))
      rw [show wrap64 ((s.size : Int) - 1) = ((n * w / 8 : Nat) : Int) by unfold wrap64; omega]
      by_cases hg : spareOK s (n * w)
      · rw [decide_eq_false (fun h => by
          rcases hg with hg | hg
          · exact h8 hg
          · exact (shr_u8_pos _ hbt _ (by omega)).1 h hg)]
        exact hgood hg
      · rw [decide_eq_true ((shr_u8_pos _ hbt _ (by omega)).2 (fun h => hg (.inr h)))]
        exact hbad hg
  · refine Ev.no h5 ?_
    rw [if_neg (fun h => h5 h.1)]
    exact Ev.now _
theorem ref_take_loop (s : ByteArray) (n w : Nat) (hw : w ≤ 64) (hn : n ≤ 65536) (hs : s.size = (n * w + 7) / 8) (hb : (s.size : Int) = bytesN n w) : ∀ (d i : Nat), i + d = n →
    Ev (fun k => peristyleref08_Take.l0 k s (n : Int) (w : Int) ((List.range i).map (fun k => wordS s (k * w) w)) (i : Int)) (if (s.size : Int) = bytesN n w ∧ spareOK s (n * w) then (listS s n w, 0) else ([], 20))
  | 0, i, h => by
    obtain rfl : i = n := by omega
    refine Ev.step (fun k => peristyleref08_Take.l0_succ k _ _ _ _ _) (Ev.no (by omega) (Ev.bind (ref08_Put_ev _ _ (by simp; omega)) ?_))
    have hput : putR (listS s i w) (w : Int) = (strOfNums (packB (sbit s) (i * w)), 0) := by
      unfold putR
      rw [if_pos (by unfold mayPut; rw [listS_length]; exact ⟨by omega, by omega, hn, widL_listS s i w hw⟩), listS_length, Int.toNat_natCast]
      rw [packB_congr (st' := sbit s) _ (fun j hj => stL_listS s i w j hw hj)]
    have hput' : putR ((List.range i).map (fun k => wordS s (k * w) w)) (w : Int) = (strOfNums (packB (sbit s) (i * w)), 0) := hput
    rw [hput']
    by_cases hg : spareOK s (i * w)
    · refine Ev.yes (by rw [(pack_same s (i * w) hs).2 hg]) (Ev.val ?_)
      rw [if_pos ⟨hb, hg⟩]
      rfl
    · refine Ev.no (fun h => hg ((pack_same s (i * w) hs).1 (toList_inj h))) (Ev.val ?_)
      rw [if_neg (fun h => hg h.2)]
  | d + 1, i, h => by
    have hN : (i + 1) * w ≤ n * w := Nat.mul_le_mul_right w (by omega)
    have hN2 : n * w ≤ 65536 * 64 := Nat.mul_le_mul hn hw
    rw [Nat.succ_mul] at hN
    have hih := ref_take_loop s n w hw hn hs hb d (i + 1) (by omega)
    refine Ev.step (fun k => peristyleref08_Take.l0_succ k _ _ _ _ _) (Ev.yes (by omega) (Ev.bind (ref_word_ev s i w hw (by omega) (by omega)) (Ev.yes (by simp; omega) ?_)))
    rw [show wrap64 ((i : Int) + 1) = ((i + 1 : Nat) : Int) by unfold wrap64; omega]
    rw [List.range_succ, List.map_append] at hih
    exact hih
theorem ref_take_no (s : ByteArray) (n w : Int) : Ev (fun k => peristyleref08_Take.j0 k s n w true) (([] : List Int), 1) :=
  Ev.step (fun k => peristyleref08_Take.j0_succ k _ _ _ _) (Ev.yes rfl (Ev.now _))
theorem ref08_Take_ev (s : ByteArray) (n w : Int) (hsz : s.size ≤ 4294967296) : Ev (fun k => peristyleref08_Take.f k s n w) (takeR s n w) := by
  have hno : (w < 0 ∨ 64 < w ∨ n < 0 ∨ 65536 < n) → Ev (fun k => peristyleref08_Take.j0 k s n w true) (takeR s n w) := fun h => by
    unfold takeR
    rw [if_pos h]
    exact ref_take_no s n w
  unfold peristyleref08_Take.f
  by_cases h1 : w < 0
  · exact Ev.yes h1 (hno (.inl h1))
  refine Ev.no h1 ?_
  by_cases h2 : w > 64
  · exact Ev.yes h2 (hno (.inr (.inl h2)))
  refine Ev.no h2 ?_
  by_cases h3 : n < 0
  · exact Ev.yes h3 (hno (.inr (.inr (.inl h3))))
  refine Ev.no h3 ?_
  by_cases h4 : n > 65536
  · rw [decide_eq_true h4]
    exact hno (.inr (.inr (.inr h4)))
  rw [decide_eq_false h4]
  unfold takeR
  rw [if_neg (by omega)]
  obtain ⟨n, rfl⟩ := Int.eq_ofNat_of_zero_le (show 0 ≤ n by omega)
  obtain ⟨w, rfl⟩ := Int.eq_ofNat_of_zero_le (show 0 ≤ w by omega)
  simp only [Int.toNat_natCast]
  refine Ev.step (fun k => peristyleref08_Take.j0_succ k _ _ _ _) (Ev.no (by decide) (Ev.call (v := bytesN n w) (ref_Bytes_eq _ _) ?_))
  by_cases h5 : (s.size : Int) = bytesN n w
  · refine Ev.yes h5 ?_
    have h5' : s.size = (n * w + 7) / 8 := by rw [bytesN_nat n w (by omega) (by omega)] at h5; omega
    exact ref_take_loop s n w (by omega) (by omega) h5' h5 n 0 (by omega)
  · refine Ev.no h5 ?_
    rw [if_neg (fun h => h5 h.1)]
    exact Ev.now _
end Go.Proofs.YtfohecpfenegkaaGreat.Print
end
section
set_option linter.unusedVariables false
set_option linter.unusedSimpArgs false
namespace Go.Proofs.YtfohecpfenegkaaGreat.Print
open Go.RowKit Go.Proofs.YtfohecpfenegkaaGreatW.PrintWords Go.Proofs.YtfohecpfenegkaaGreatW.PrintMore
theorem wordS_packed (l : List Int) (w k : Nat) (hw : w ≤ 64) (hl : ∀ x, x ∈ l → InI x) (hwid : widL l ≤ (w : Int)) (hk : k < l.length) :
    wordS (strOfNums (packB (stL l w) (l.length * w))) (k * w) w = rd l (k : Int) := by
  have hx := rd_mem l k hk
  refine (wordP_of (hl _ hx) _ (fun t ht => ?_)).symm
  have hN : (k + 1) * w ≤ l.length * w := Nat.mul_le_mul_right w (by omega)
  rw [Nat.succ_mul] at hN
  by_cases h : t < w
  · rw [sbit_pack _ _ _ (by omega), stL_at l w k t h]
    simp [h]
  · rw [(widL_le_iff l w (by omega)).1 hwid _ hx t (by omega)]
    simp [h]
theorem spare_packed (st : Nat → Bool) (N : Nat) : spareOK (strOfNums (packB st N)) N := by
  refine (pack_same _ N (by rw [str_size, packB_length])).1 ?_
  rw [packB_congr (st' := st) N (fun j hj => sbit_pack st N j hj)]
theorem take_put (l : List Int) (w : Nat) (hm : mayPut l (w : Int)) (hl : ∀ x, x ∈ l → InI x) : takeR (putR l (w : Int)).1 (l.length : Int) (w : Int) = (l, 0) := by
  have hm' := hm
  unfold mayPut at hm'
  unfold putR
  rw [if_pos hm, Int.toNat_natCast]
  have hsz : (strOfNums (packB (stL l w) (l.length * w))).size = (l.length * w + 7) / 8 := by rw [str_size, packB_length]
  unfold takeR
  rw [if_neg (by omega), bytesN_nat l.length w (by omega) (by omega), Int.toNat_natCast, Int.toNat_natCast, if_pos ⟨by rw [hsz], spare_packed _ _⟩]
  refine congrArg (fun z => (z, (0 : Int))) (List.ext_getElem (by rw [listS_length]) (fun i h1 h2 => ?_))
  have : (listS (strOfNums (packB (stL l w) (l.length * w))) l.length w)[i] = wordS (strOfNums (packB (stL l w) (l.length * w))) (i * w) w := by simp [listS]
  rw [this, wordS_packed l w i (by omega) hl (by omega) h2, rd_get l i h2]
theorem put_size (l : List Int) (w : Nat) (hm : mayPut l (w : Int)) : (putR l (w : Int)).1.size = (l.length * w + 7) / 8 ∧ (putR l (w : Int)).2 = 0 := by
  unfold putR
  rw [if_pos hm, Int.toNat_natCast]
  exact ⟨by rw [str_size, packB_length], rfl⟩
end Go.Proofs.YtfohecpfenegkaaGreat.Print
end
section
set_option linter.unusedVariables false
set_option linter.unusedSimpArgs false
namespace Go.Proofs.YtfohecpfenegkaaGreat.Print
open Go.RowKit Go.Proofs.YtfohecpfenegkaaGreatW.PrintWords Go.Proofs.YtfohecpfenegkaaGreatW.PrintMore
theorem bit_63 {a : Int} (h : InI a) : bit a 63 = decide (a < 0) := by
  rw [bit_div a 63 (by omega), decide_eq_decide]
  unfold InI at h
  have : (2 : Int) ^ 63 = 9223372036854775808 := by decide
  rw [this]
  omega
def zigP (a : Int) (i : Nat) : Bool := if i = 0 then bit a 63 else (bit a (i - 1) != bit a 63)
theorem bits_Zig_eq {a : Int} (h : InI a) : bits_Zig.f a = some (wordP (zigP a)) := by
  unfold bits_Zig.f
  congr 1
  refine wordP_of (InI_wrap64 _) _ (fun i hi => ?_)
  rw [bit_wrap64, bit_uxor, bit_u64, bit_u64]
  have e2 : bit (IntKind.u64.wrap a * 2) i = (decide (1 ≤ i) && bit a (i - 1)) := by
    have := bit_mul_pow (IntKind.u64.wrap a) 1 i hi
    rw [bit_u64] at this
    exact this
  have e3 : bit (a / 9223372036854775808) i = bit a 63 := by
    rw [bit_63 h]
    unfold InI at h
    by_cases hn : a < 0
    · rw [show a / 9223372036854775808 = -1 by omega, bit_neg1 i hi]; simp [hn]
    · rw [show a / 9223372036854775808 = 0 by omega, bit_zero]; simp [hn]
  rw [e2, e3]
  unfold zigP
  by_cases h0 : i = 0
  · subst h0; simp
  · rw [if_neg h0]
    have : 1 ≤ i := by omega
    rw [decide_eq_true this]
    cases bit a (i - 1) <;> cases bit a 63 <;> rfl
def zagP (a : Int) (i : Nat) : Bool := if i = 63 then bit a 0 else (bit a (i + 1) != bit a 0)
theorem bits_Zag_eq (a : Int) : bits_Zag.f a = some (wordP (zagP a)) := by
  unfold bits_Zag.f
  congr 1
  refine wordP_of (InI_wrap64 _) _ (fun i hi => ?_)
  rw [bit_wrap64, bit_uxor, bit_u64]
  have e2 : bit (IntKind.u64.wrap a / 2) i = bit a (i + 1) := by
    have := bit_div_pow (InU_u64 a) 1 i
    rw [bit_u64, Nat.add_comm] at this
    exact this
  have e3 : Go.bits .and .u64 (IntKind.u64.wrap a) 1 = if bit a 0 = true then 1 else 0 := by
    have hb : ∀ j, j < 64 → bit (Go.bits .and .u64 (IntKind.u64.wrap a) 1) j = (decide (j = 0) && bit a 0) := by
      intro j hj
      rw [bit_uand, bit_u64]
      have : bit 1 j = decide (j = 0) := by
        rw [bit_div 1 j hj, decide_eq_decide]
        by_cases h : j = 0
        · subst h; simp
        · have hp : (2 : Int) ≤ 2 ^ j := by
            rw [pow_cast]
            exact Int.ofNat_le.2 (Nat.pow_le_pow_right (n := 2) (by decide) (show 1 ≤ j by omega))
          rw [Int.ediv_eq_zero_of_lt (by decide) (by omega)]
          simp [h]
      rw [this]
      by_cases h : j = 0
      · subst h; simp
      · simp [h]
    have hU := InU_bits .and (IntKind.u64.wrap a) 1
    have key : ∀ x y : Int, InU x → InU y → (∀ j, j < 64 → bit x j = bit y j) → x = y := by
      intro x y hx hy hxy
      have e : B x = B y := BitVec.eq_of_getLsbD_eq hxy
      rw [← u64_id hx, ← u64_id hy, u64_wrap, u64_wrap]
      have := congrArg BitVec.toNat e
      rw [B_toNat, B_toNat] at this
      omega
    by_cases h : bit a 0 = true
    · rw [if_pos h]
      refine key _ _ hU (by unfold InU; decide) (fun j hj => ?_)
      rw [hb j hj, h, bit_div 1 j hj, Bool.and_true, decide_eq_decide]
      by_cases h : j = 0
      · subst h; simp
      · have hp : (2 : Int) ≤ 2 ^ j := by
          rw [pow_cast]
          exact Int.ofNat_le.2 (Nat.pow_le_pow_right (n := 2) (by decide) (show 1 ≤ j by omega))
        rw [Int.ediv_eq_zero_of_lt (by decide) (by omega)]
        simp [h]
    · rw [if_neg h]
      refine key _ _ hU (by unfold InU; decide) (fun j hj => ?_)
      rw [hb j hj, bit_zero]
      simp [h]
  rw [e2, e3]
  unfold zagP
  have e4 : bit (-(if bit a 0 = true then 1 else 0)) i = bit a 0 := by
    by_cases h : bit a 0 = true
    · rw [if_pos h, bit_neg1 i hi, h]
    · rw [if_neg h, show -(0 : Int) = 0 from rfl, bit_zero]
      simpa using h
  rw [e4]
  by_cases h0 : i = 63
  · subst h0
    rw [bit_ge a (by omega)]
    simp
  · rw [if_neg h0]
theorem ref_Zig_eq (a : Int) : peristyleref01_Zig.f a = some (wordP (zigP a)) := by
  unfold peristyleref01_Zig.f
  congr 1
  refine wordTo_P _ _ (fun i hi => ?_)
  rw [fillTo_at _ _ _ _ (by rw [zB_length]; omega), if_pos hi]
  unfold zigAt zigP
  rw [bAt_bitsOf, bAt_bitsOf]
theorem ref_Zag_eq (a : Int) : peristyleref01_Zag.f a = some (wordP (zagP a)) := by
  unfold peristyleref01_Zag.f
  congr 1
  refine wordTo_P _ _ (fun i hi => ?_)
  rw [bAt_set _ _ _ _ (by rw [fillTo_length _ _ _ (by rw [zB_length]; omega), zB_length]; omega), fillTo_at _ _ _ _ (by rw [zB_length]; omega)]
  unfold zagP
  by_cases h : i = 63
  · rw [if_pos h, if_pos h, bAt_bitsOf]
  · rw [if_neg h, if_neg h, if_pos (by omega)]
    unfold zagAt
    rw [bAt_bitsOf, bAt_bitsOf]
theorem zag_zig {a : Int} (h : InI a) : bits_Zag.f (wordP (zigP a)) = some a := by
  rw [bits_Zag_eq]
  congr 1
  refine (wordP_of h _ (fun i hi => ?_)).symm
  unfold zagP
  by_cases h0 : i = 63
  · subst h0
    rw [if_pos rfl, bit_wordP _ 0 (by omega)]
    rfl
  · rw [if_neg h0, bit_wordP _ (i + 1) (by omega), bit_wordP _ 0 (by omega)]
    unfold zigP
    rw [if_neg (by omega), if_pos rfl, Nat.add_sub_cancel]
    cases bit a i <;> cases bit a 63 <;> rfl
theorem zig_zag {a : Int} (h : InI a) : bits_Zig.f (wordP (zagP a)) = some a := by
  rw [bits_Zig_eq (InI_wordP _)]
  congr 1
  refine (wordP_of h _ (fun i hi => ?_)).symm
  unfold zigP
  have e63 : bit (wordP (zagP a)) 63 = bit a 0 := by
    rw [bit_wordP _ 63 (by omega)]
    unfold zagP
    rw [if_pos rfl]
  by_cases h0 : i = 0
  · subst h0
    rw [if_pos rfl, e63]
  · rw [if_neg h0, e63, bit_wordP _ (i - 1) (by omega)]
    unfold zagP
    rw [if_neg (by omega), show i - 1 + 1 = i by omega]
    cases bit a i <;> cases bit a 0 <;> rfl
end Go.Proofs.YtfohecpfenegkaaGreat.Print
end
section
set_option linter.unusedVariables false
set_option linter.unusedSimpArgs false
namespace Go.Proofs.YtfohecpfenegkaaGreat.Print
open Go.RowKit Go.Proofs.YtfohecpfenegkaaGreatW.PrintWords Go.Proofs.YtfohecpfenegkaaGreatW.PrintMore
theorem byte_ops : ∀ m : Fin 256, Go.bits .andNot .u8 (m.val : Int) 128 = ((m.val % 128 : Nat) : Int) ∧ Go.bits .and .u8 (m.val : Int) 127 = ((m.val % 128 : Nat) : Int) ∧ Go.bits .or .u8 (m.val : Int) 128 = ((m.val % 128 + 128 : Nat) : Int) := by decide +kernel
theorem byte_op {c : Int} (h : 0 ≤ c ∧ c < 256) : Go.bits .andNot .u8 c 128 = c % 128 ∧ Go.bits .and .u8 c 127 = c % 128 ∧ Go.bits .or .u8 c 128 = c % 128 + 128 := by
  obtain ⟨m, rfl⟩ := Int.eq_ofNat_of_zero_le h.1
  have := byte_ops ⟨m, by omega⟩
  simp only at this
  omega
theorem bit_mod {x : Int} (hx : 0 ≤ x) (n i : Nat) (hi : i < 64) : bit (x % 2 ^ n) i = (decide (i < n) && bit x i) := by
  obtain ⟨m, rfl⟩ := Int.eq_ofNat_of_zero_le hx
  rw [pow_cast, ← Int.natCast_emod, bit_nat _ i hi, bit_nat _ i hi, Nat.testBit_mod_two_pow]
def uw (a : Int) : Nat := wn a
theorem uw_eq (a : Int) : IntKind.u64.wrap a = (uw a : Int) := u64_wn a
theorem uw_lt (a : Int) : uw a < 18446744073709551616 := wn_lt a
theorem bit_uw (a : Int) (i : Nat) : bit a i = (uw a).testBit i := bit_wn a i
theorem wid_uw (a : Int) (r : Nat) : wid a ≤ (r : Int) ↔ uw a < 2 ^ r := by
  rw [wid_le_iff a r (by omega)]
  constructor
  · intro h
    refine Nat.lt_pow_two_of_testBit _ (fun i hi => ?_)
    rw [← bit_uw]
    exact h i (by omega)
  · intro h i hi
    rw [bit_uw]
    exact Nat.testBit_lt_two_pow (Nat.lt_of_lt_of_le h (Nat.pow_le_pow_right (by decide) (by omega)))
def vb : Nat → Nat → List Int
  | 0, x => [(x : Int)]
  | d + 1, x => if 128 ≤ x then ((x % 128 + 128 : Nat) : Int) :: vb d (x / 128) else [(x : Int)]
theorem vb_len : ∀ (d x : Nat), 1 ≤ (vb d x).length ∧ (vb d x).length ≤ d + 1
  | 0, x => by simp [vb]
  | d + 1, x => by
    have := vb_len d (x / 128)
    simp only [vb]
    split
    · simp only [List.length_cons]; omega
    · simp
theorem vb_small : ∀ (d x : Nat), x < 2 * 128 ^ d → ∀ y, y ∈ vb d x → 0 ≤ y ∧ y < 256
  | 0, x, h, y, hy => by
    simp only [vb, List.mem_singleton] at hy
    simp at h
    omega
  | d + 1, x, h, y, hy => by
    simp only [vb] at hy
    split at hy
    · rcases List.mem_cons.1 hy with rfl | hy
      · omega
      · exact vb_small d (x / 128) (by rw [Nat.pow_succ] at h; omega) y hy
    · simp only [List.mem_singleton] at hy; omega
theorem vb_get : ∀ (d x j : Nat), x < 2 * 128 ^ d → (j + 1 < (vb d x).length → rd (vb d x) (j : Int) = ((x / 128 ^ j % 128 + 128 : Nat) : Int)) ∧ (j + 1 = (vb d x).length → rd (vb d x) (j : Int) = ((x / 128 ^ j : Nat) : Int))
  | 0, x, j, h => by
    simp only [vb, List.length_singleton]
    refine ⟨fun h => by omega, fun h => ?_⟩
    obtain rfl : j = 0 := by omega
    rw [Nat.pow_zero, Nat.div_one]
    rfl
  | d + 1, x, j, h => by
    have hx : x / 128 < 2 * 128 ^ d := by rw [Nat.pow_succ] at h; omega
    have hl := vb_len d (x / 128)
    by_cases h128 : 128 ≤ x
    · have hv : vb (d + 1) x = ((x % 128 + 128 : Nat) : Int) :: vb d (x / 128) := by simp only [vb]; rw [if_pos h128]
      rw [hv]
      cases j with
      | zero =>
        refine ⟨fun _ => ?_, fun hh => ?_⟩
        · rw [Nat.pow_zero, Nat.div_one]; rfl
        · simp only [List.length_cons] at hh; omega
      | succ j =>
        have ih := vb_get d (x / 128) j hx
        have e : rd ((((x % 128 + 128 : Nat) : Int)) :: vb d (x / 128)) ((j + 1 : Nat) : Int) = rd (vb d (x / 128)) (j : Int) := by
          unfold rd
          rw [Int.toNat_natCast, Int.toNat_natCast, List.getD_cons_succ]
        have e2 : x / 128 / 128 ^ j = x / 128 ^ (j + 1) := by rw [Nat.div_div_eq_div_mul, ← Nat.pow_succ']
        rw [e, ← e2]
        simp only [List.length_cons, Nat.add_lt_add_iff_right, Nat.add_right_cancel_iff]
        exact ih
    · have hv : vb (d + 1) x = [(x : Int)] := by simp only [vb]; rw [if_neg h128]
      rw [hv]
      simp only [List.length_singleton]
      refine ⟨fun h => by omega, fun h => ?_⟩
      obtain rfl : j = 0 := by omega
      rw [Nat.pow_zero, Nat.div_one]
      rfl
theorem vb_bounds : ∀ (d x : Nat), x < 2 * 128 ^ d → ((vb d x).length ≤ d → x < 128 ^ (vb d x).length) ∧ ((vb d x).length = 1 ∨ 128 ^ ((vb d x).length - 1) ≤ x)
  | 0, x, h => by simp [vb]
  | d + 1, x, h => by
    have hl := vb_len d (x / 128)
    have hx : x / 128 < 2 * 128 ^ d := by rw [Nat.pow_succ] at h; omega
    have ih := vb_bounds d (x / 128) hx
    simp only [vb]
    split
    · rename_i h128
      simp only [List.length_cons]
      refine ⟨fun hle => ?_, .inr ?_⟩
      · have := ih.1 (by omega)
        rw [Nat.pow_succ]
        omega
      · rw [Nat.add_sub_cancel]
        rcases ih.2 with h1 | h1
        · rw [h1]; omega
        · have e : 128 ^ (vb d (x / 128)).length = 128 ^ ((vb d (x / 128)).length - 1) * 128 := by
            rw [← Nat.pow_succ, Nat.succ_eq_add_one, Nat.sub_add_cancel hl.1]
          rw [e]
          omega
    · simp only [List.length_singleton]
      exact ⟨fun _ => by omega, .inl trivial⟩
theorem pow128 (n : Nat) : (128 : Nat) ^ n = 2 ^ (7 * n) := by rw [Nat.pow_mul]
theorem top9 : 2 * 128 ^ 9 = 18446744073709551616 := by decide
theorem vb9_lt (a : Int) : uw a < 2 * 128 ^ 9 := by rw [top9]; exact uw_lt a
def vl (a : Int) : Nat := (vb 9 (uw a)).length
theorem vl_le (a : Int) : 1 ≤ vl a ∧ vl a ≤ 10 := vb_len 9 _
theorem vl_wid (a : Int) : mx 1 (Int.tdiv (wid a + 6) 7) = (vl a : Int) := by
  have hw := wid_le a
  have hl := vl_le a
  have hb := vb_bounds 9 (uw a) (vb9_lt a)
  obtain ⟨r, hr⟩ := Int.eq_ofNat_of_zero_le hw.1
  have hu : r ≤ 7 * vl a := by
    have : wid a ≤ ((7 * vl a : Nat) : Int) := by
      rw [wid_uw]
      by_cases h : vl a ≤ 9
      · rw [← pow128]; exact hb.1 h
      · have : vl a = 10 := by omega
        rw [this]
        exact Nat.lt_trans (uw_lt a) (by decide)
    omega
  have hd : vl a = 1 ∨ 7 * (vl a - 1) < r := by
    rcases hb.2 with h | h
    · exact .inl h
    · right
      refine Nat.lt_of_not_le (fun hle => ?_)
      have : wid a ≤ ((7 * (vl a - 1) : Nat) : Int) := by omega
      rw [wid_uw, ← pow128] at this
      exact absurd this (Nat.not_lt.2 h)
  rw [hr]
  have e : Int.tdiv ((r : Int) + 6) 7 = (((r + 6) / 7 : Nat) : Int) := rfl
  rw [e]
  unfold mx
  split <;> omega
theorem loop_vb : ∀ (d x : Nat), x < 2 * 128 ^ d → vint_Put.loop d (x : Int) = vb d x
  | 0, x, h => by
    simp at h
    simp only [vint_Put.loop, vb]
    rw [show ((x : Int) % 256) = (x : Int) by omega]
  | d + 1, x, h => by
    have hx : x / 128 < 2 * 128 ^ d := by rw [Nat.pow_succ] at h; omega
    simp only [vint_Put.loop, vb]
    by_cases h1 : 128 ≤ x
    · rw [if_pos (by omega), if_pos h1, (byte_op (c := (x : Int) % 256) (by omega)).2.2, show ((x : Int) / 128) = ((x / 128 : Nat) : Int) from rfl, loop_vb d _ hx]
      congr 1
      omega
    · rw [if_neg (by omega), if_neg h1, show ((x : Int) % 256) = (x : Int) by omega]
def zig (a : Int) : Int := wordP (zigP a)
def putV (a : Int) : ByteArray := strOfNums (vb 9 (uw (zig a)))
theorem putV_small (a : Int) : ∀ y, y ∈ vb 9 (uw (zig a)) → 0 ≤ y ∧ y < 256 := vb_small 9 _ (vb9_lt _)
theorem putV_size (a : Int) : (putV a).size = vl (zig a) := str_size _
theorem vint_Put_eq {a : Int} (h : InI a) : vint_Put.f a = some (putV a) := by
  unfold vint_Put.f
  rw [bits_Zig_eq h]
  simp only [Option.bind_some]
  rw [uw_eq, loop_vb 9 _ (vb9_lt _)]
  rfl
theorem field_low (x : Int) : wordP (fieldP x 0 7) = ((uw x % 128 : Nat) : Int) := by
  refine (wordP_of (by unfold InI; omega) _ (fun i hi => ?_)).symm
  rw [bit_nat _ i hi, show (128 : Nat) = 2 ^ 7 from rfl, Nat.testBit_mod_two_pow]
  unfold fieldP
  rw [← bit_uw]
  by_cases h : i < 7
  · have : (i : Int) < 7 := by omega
    simp [h, this]
  · have : ¬ (i : Int) < 7 := by omega
    simp [h, this]
theorem field_high (x : Int) : uw (wordP (fieldP x 7 64)) = uw x / 128 := by
  refine Nat.eq_of_testBit_eq (fun i => ?_)
  rw [← bit_uw]
  by_cases hi : i < 64
  · rw [bit_wordP _ i hi, show (128 : Nat) = 2 ^ 7 from rfl, Nat.testBit_div_two_pow]
    unfold fieldP
    rw [← bit_uw]
    have : (i : Int) < 64 := by omega
    simp [this, Nat.add_comm]
  · rw [bit_ge _ (by omega), show (128 : Nat) = 2 ^ 7 from rfl, Nat.testBit_div_two_pow]
    exact (Nat.testBit_lt_two_pow (Nat.lt_of_lt_of_le (uw_lt x) (Nat.pow_le_pow_right (n := 2) (i := 64) (by decide) (by omega)))).symm
theorem uw_zero {x : Int} (h : InI x) : x = 0 ↔ uw x = 0 := by
  constructor
  · rintro rfl
    refine Nat.eq_of_testBit_eq (fun i => ?_)
    rw [← bit_uw, bit_zero]; simp
  · intro h0
    refine bit_inj h (by unfold InI; decide) (fun i _ => ?_)
    rw [bit_uw, h0, bit_zero]
    simp
theorem ref02_put_loop : ∀ (d : Nat) (x : Int) (acc : List Int), uw x < 2 * 128 ^ d → acc.length + d ≤ 20 → Ev (fun k => peristyleref02_Put.l0 k x acc) (strOfNums (acc ++ vb d (uw x)))
  | 0, x, acc, h, ha => by
    simp at h
    refine Ev.step (fun k => peristyleref02_Put.l0_succ k _ _) (Ev.call (ref_Field_eq _ _ _) (Ev.call (ref_Field_eq _ _ _) (Ev.yes ?_ (Ev.yes (by omega) (Ev.val ?_)))))
    · rw [uw_zero (InI_wordP _), field_high]; omega
    · rw [field_low]
      simp only [vb]
      rw [show (((uw x % 128 : Nat) : Int) % 256) = ((uw x : Nat) : Int) by omega]
  | d + 1, x, acc, h, ha => by
    have hh := field_high x
    refine Ev.step (fun k => peristyleref02_Put.l0_succ k _ _) (Ev.call (ref_Field_eq _ _ _) (Ev.call (ref_Field_eq _ _ _) ?_))
    rw [field_low]
    simp only [vb]
    by_cases h1 : 128 ≤ uw x
    · have hne : ¬ wordP (fieldP x 7 64) = 0 := by rw [uw_zero (InI_wordP _), hh]; omega
      refine Ev.no hne (Ev.yes (by omega) ?_)
      rw [if_pos h1]
      have hih := ref02_put_loop d (wordP (fieldP x 7 64)) (acc ++ [((uw x % 128 + 128 : Nat) : Int)]) (by rw [hh]; rw [Nat.pow_succ] at h; omega) (by simp; omega)
      rw [hh, List.append_assoc] at hih
      have e : wrap64 (128 + ((uw x % 128 : Nat) : Int)) % 256 = ((uw x % 128 + 128 : Nat) : Int) := by unfold wrap64; omega
      rw [e]
      exact hih
    · rw [if_neg h1]
      refine Ev.yes ?_ (Ev.yes (by omega) (Ev.val ?_))
      · rw [uw_zero (InI_wordP _), hh]; omega
      · rw [show (((uw x % 128 : Nat) : Int) % 256) = ((uw x : Nat) : Int) by omega]
theorem ref02_Put_ev {a : Int} (h : InI a) : Ev (fun k => peristyleref02_Put.f k a) (putV a) := by
  unfold peristyleref02_Put.f
  refine Ev.call (ref_Zig_eq a) ?_
  have := ref02_put_loop 9 (wordP (zigP a)) [] (vb9_lt _) (by decide)
  rw [List.nil_append] at this
  exact this
/-! ### bytes read -/
def dbit (s : ByteArray) (t : Nat) : Bool := bit (bt s ((t / 7 : Nat) : Int)) (t % 7)
def wk (s : ByteArray) (k : Nat) : Int := wordP (fun t => decide (t < 7 * k) && dbit s t)
theorem wk_zero (s : ByteArray) : wk s 0 = 0 := (wordP_of (by unfold InI; decide) _ (fun i _ => by rw [bit_zero]; simp)).symm
def zag (w : Int) : Int := wordP (zagP w)
def okV (s : ByteArray) (k : Nat) : Prop := vl (wk s (k + 1)) = k + 1 ∧ (k < 9 ∨ bt s (k : Int) = 1)
instance (s : ByteArray) (k : Nat) : Decidable (okV s k) := by unfold okV; infer_instance
def takeFrom (s : ByteArray) : Nat → Nat → Int × Int × Int
  | 0, _ => (0, 0, 20)
  | d + 1, k => if k < s.size then if 128 ≤ bt s (k : Int) then takeFrom s d (k + 1) else if okV s k then (zag (wk s (k + 1)), ((k + 1 : Nat) : Int), 0) else (0, 0, 20) else (0, 0, 20)
def takeV (s : ByteArray) : Int × Int × Int := takeFrom s 10 0
theorem takeFrom_or (s : ByteArray) : ∀ d k, (takeFrom s d k = (0, 0, 20)) ∨ ∃ j, k ≤ j ∧ j < k + d ∧ j < s.size ∧ takeFrom s d k = (zag (wk s (j + 1)), ((j + 1 : Nat) : Int), 0)
  | 0, k => .inl rfl
  | d + 1, k => by
    simp only [takeFrom]
    split
    · split
      · rcases takeFrom_or s d (k + 1) with h | ⟨j, h1, h2, h3, h4⟩
        · exact .inl h
        · exact .inr ⟨j, by omega, by omega, h3, h4⟩
      · split
        · exact .inr ⟨k, by omega, by omega, by assumption, rfl⟩
        · exact .inl rfl
    · exact .inl rfl
theorem takeV_or (s : ByteArray) : (takeV s = (0, 0, 20)) ∨ ∃ x : Int, ∃ j : Nat, InI x ∧ 1 ≤ j ∧ j ≤ 10 ∧ j ≤ s.size ∧ takeV s = (x, (j : Int), 0) := by
  rcases takeFrom_or s 10 0 with h | ⟨j, h1, h2, h3, h4⟩
  · exact .inl h
  · exact .inr ⟨_, j + 1, InI_wordP _, by omega, by omega, by omega, h4⟩
theorem wk_step (s : ByteArray) (k : Nat) (hk : k < 10) : Go.bits .or .u64 (IntKind.u64.wrap (wk s k)) (shl .u64 (IntKind.u64.wrap (Go.bits .andNot .u8 (bt s (k : Int)) 128)) ((7 * k : Nat) : Int)) = IntKind.u64.wrap (wk s (k + 1)) := by
  have hc := bt_range s (k : Int)
  rw [(byte_op (c := bt s (k : Int)) (by omega)).1]
  refine InU_inj (InU_bits _ _ _) (InU_u64 _) (fun i hi => ?_)
  rw [bit_uor, bit_u64, bit_u64, bit_shl _ _ i hi, bit_u64, Int.toNat_natCast]
  unfold wk
  rw [bit_wordP _ i hi, bit_wordP _ i hi]
  by_cases h1 : i < 7 * k
  · have h2 : ¬ 7 * k ≤ i := by omega
    have h3 : i < 7 * (k + 1) := by omega
    simp [h1, h2, h3]
  · have h2 : 7 * k ≤ i := by omega
    rw [show (128 : Int) = 2 ^ 7 from rfl, bit_mod hc.1 7 _ (by omega)]
    by_cases h3 : i < 7 * (k + 1)
    · have h4 : i - 7 * k < 7 := by omega
      unfold dbit
      rw [show i / 7 = k by omega, show i % 7 = i - 7 * k by omega]
      simp [h1, h2, h3, h4]
    · have h4 : ¬ i - 7 * k < 7 := by omega
      simp [h1, h2, h3, h4]
theorem vint_Len_ev {a : Int} (h : InI a) : Ev (fun k => vint_Len.f k a) (vl (zig a) : Int) := by
  unfold vint_Len.f
  refine Ev.call (bits_Zig_eq h) (Ev.bind (Ev.at_ 7 (fun k => bits_Width_eq k _)) (Ev.val ?_))
  have hw := wid_le (wordP (zigP a))
  show mx 1 (wrap64 (Int.tdiv (wrap64 (wrap64 (wid (wordP (zigP a)) + 7) - 1)) 7)) = _
  rw [show wrap64 (wrap64 (wid (wordP (zigP a)) + 7) - 1) = wid (wordP (zigP a)) + 6 by unfold wrap64; omega]
  obtain ⟨r, hr⟩ := Int.eq_ofNat_of_zero_le hw.1
  have hv := vl_wid (wordP (zigP a))
  rw [hr] at hv ⊢
  have e : Int.tdiv ((r : Int) + 6) 7 = (((r + 6) / 7 : Nat) : Int) := rfl
  rw [e] at hv ⊢
  rw [show wrap64 (((r + 6) / 7 : Nat) : Int) = (((r + 6) / 7 : Nat) : Int) by unfold wrap64; omega]
  exact hv
theorem zig_of_zag {w : Int} (h : InI w) : zig (zag w) = w := by
  have h1 := zig_zag h
  rw [bits_Zig_eq (InI_wordP _)] at h1
  exact Option.some.inj h1
theorem vint_take_loop (s : ByteArray) (hs : s.size ≤ 9000000000000000000) : ∀ (d k : Nat), k + d = 10 → k ≤ s.size →
    Ev (fun n => vint_Take.l0 n s (IntKind.u64.wrap (wk s k)) (mn (s.size : Int) 10) (k : Int)) (takeFrom s d k)
  | 0, k, h, hk => by
    refine Ev.step (fun n => vint_Take.l0_succ n _ _ _ _) (Ev.no ?_ (Ev.now _))
    unfold mn; split <;> omega
  | d + 1, k, h, hk => by
    refine Ev.step (fun n => vint_Take.l0_succ n _ _ _ _) ?_
    simp only [takeFrom]
    by_cases h1 : k < s.size
    · rw [if_pos h1]
      have hlt : (k : Int) < mn (s.size : Int) 10 := by unfold mn; split <;> omega
      have h7 : wrap64 (7 * (k : Int)) = ((7 * k : Nat) : Int) := by unfold wrap64; omega
      have hw1 : wrap64 ((k : Int) + 1) = ((k + 1 : Nat) : Int) := by unfold wrap64; omega
      refine Ev.yes hlt (Ev.yes (by omega) (Ev.yes (by omega) ?_))
      rw [h7, wk_step s k (by omega), hw1]
      refine Ev.yes (by omega) ?_
      by_cases h2 : 128 ≤ bt s (k : Int)
      · rw [if_pos h2]
        exact Ev.yes h2 (vint_take_loop s hs d (k + 1) (by omega) (by omega))
      · rw [if_neg h2]
        refine Ev.no h2 ?_
        have hww : wrap64 (IntKind.u64.wrap (wk s (k + 1))) = wk s (k + 1) := by
          refine bit_inj (InI_wrap64 _) (InI_wordP _) (fun i _ => ?_)
          rw [bit_wrap64, bit_u64]
        rw [hww]
        refine Ev.call (bits_Zag_eq _) (Ev.bind (vint_Len_ev (InI_wordP _)) ?_)
        have hz := zig_of_zag (w := wk s (k + 1)) (InI_wordP _)
        unfold zag at hz
        rw [hz]
        by_cases h3 : vl (wk s (k + 1)) = k + 1
        · refine Ev.yes (by omega) ?_
          by_cases h4 : k < 9
          · rw [if_pos (show okV s k from ⟨h3, .inl h4⟩)]
            exact Ev.yes (by omega) (Ev.val rfl)
          · refine Ev.no (by omega) ?_
            by_cases h5 : bt s (k : Int) = 1
            · rw [if_pos (show okV s k from ⟨h3, .inr h5⟩)]
              exact Ev.yes h5 (Ev.val rfl)
            · rw [if_neg (show ¬ okV s k from fun h => by rcases h.2 with h | h; exact h4 h; exact h5 h)]
              exact Ev.no h5 (Ev.now _)
        · rw [if_neg (show ¬ okV s k from fun h => h3 h.1)]
          exact Ev.no (by omega) (Ev.now _)
    · rw [if_neg h1]
      refine Ev.no ?_ (Ev.now _)
      unfold mn; split <;> omega
theorem vint_Take_ev (s : ByteArray) (hs : s.size ≤ 9000000000000000000) : Ev (fun n => vint_Take.f n s) (takeV s) := by
  have := vint_take_loop s hs 10 0 (by omega) (by omega)
  rw [wk_zero] at this
  exact this
/-! ### bytes beside bytes -/
theorem bt_append_left (a b : ByteArray) (i : Nat) (h : i < a.size) : bt (a ++ b) (i : Int) = bt a (i : Int) := by
  have h2 : i < (a ++ b).size := by rw [ByteArray.size_append]; omega
  unfold bt
  rw [Int.toNat_natCast, dif_pos h, dif_pos h2, ByteArray.getElem_append_left h]
theorem bt_extract (a : ByteArray) (i j k : Nat) (h : i + k < j) (hj : j ≤ a.size) : bt (a.extract i j) (k : Int) = bt a ((i + k : Nat) : Int) := by
  have h2 : k < (a.extract i j).size := by rw [ByteArray.size_extract]; omega
  unfold bt
  rw [Int.toNat_natCast, Int.toNat_natCast, dif_pos h2, dif_pos (by omega), ByteArray.getElem_extract]
theorem bytes_length (s : ByteArray) : (bytesOf s).length = s.size := by unfold bytesOf; rw [List.length_map, Array.length_toList]; rfl
theorem bytes_getElem (s : ByteArray) (j : Nat) (h : j < (bytesOf s).length) : (bytesOf s)[j] = bt s (j : Int) := by
  have h2 : j < s.size := by rw [bytes_length] at h; exact h
  unfold bt
  rw [Int.toNat_natCast, dif_pos h2]
  simp [bytesOf, ByteArray.getElem_eq_getElem_data]
theorem str_eq_iff (l : List Int) (hl : ∀ x, x ∈ l → 0 ≤ x ∧ x < 256) (s : ByteArray) : (strOfNums l).toList = s.toList ↔ l = bytesOf s := by
  constructor
  · intro h
    rw [← toList_inj h, bytesOf_str l hl]
  · rintro rfl
    rw [str_bytesOf]
theorem dig (s : ByteArray) (k j : Nat) (hj : j < k) (h8 : j ≤ 8) : uw (wk s k) / 128 ^ j % 128 = (bt s (j : Int)).toNat % 128 := by
  obtain ⟨c, hc⟩ := Int.eq_ofNat_of_zero_le (bt_range s (j : Int)).1
  rw [hc, Int.toNat_natCast, pow128]
  refine Nat.eq_of_testBit_eq (fun i => ?_)
  rw [show (128 : Nat) = 2 ^ 7 from rfl, Nat.testBit_mod_two_pow, Nat.testBit_mod_two_pow]
  by_cases h7 : i < 7
  · rw [Nat.testBit_div_two_pow, ← bit_uw]
    unfold wk
    rw [show i + 7 * j = 7 * j + i by omega, bit_wordP _ _ (by omega)]
    unfold dbit
    rw [show (7 * j + i) / 7 = j by omega, show (7 * j + i) % 7 = i by omega, hc, bit_nat _ _ (by omega)]
    have h : 7 * j + i < 7 * k := by omega
    simp [h]
  · simp [h7]
theorem ok_iff (s : ByteArray) (k : Nat) (hk : k < 10) (hs : k < s.size) (hc : ∀ j : Nat, j < k → 128 ≤ bt s (j : Int)) (hl : bt s (k : Int) < 128) :
    okV s k ↔ vb 9 (uw (wk s (k + 1))) = bytesOf (s.extract 0 (k + 1)) := by
  have hX := vb9_lt (wk s (k + 1))
  have hlen : (vb 9 (uw (wk s (k + 1)))).length = vl (wk s (k + 1)) := rfl
  have hel : (bytesOf (s.extract 0 (k + 1))).length = k + 1 := by rw [bytes_length, ByteArray.size_extract]; omega
  have heg : ∀ (j : Nat) (h : j < (bytesOf (s.extract 0 (k + 1))).length), (bytesOf (s.extract 0 (k + 1)))[j] = bt s (j : Int) := by
    intro j h
    rw [bytes_getElem, bt_extract s 0 (k + 1) j (by omega) (by omega), Nat.zero_add]
  have hbd := vb_bounds 9 _ hX
  have hk9 : vl (wk s (k + 1)) = k + 1 → k = 9 → rd (vb 9 (uw (wk s (k + 1)))) (k : Int) = 1 := by
    rintro h1 rfl
    rw [(vb_get 9 _ 9 hX).2 (by rw [hlen, h1])]
    rcases hbd.2 with h | h
    · rw [hlen, h1] at h; omega
    · rw [hlen, h1] at h
      have h : (128 : Nat) ^ 9 ≤ uw (wk s (9 + 1)) := h
      have : uw (wk s (9 + 1)) / 128 ^ 9 = 1 := by omega
      rw [this]; rfl
  constructor
  · rintro ⟨h1, h2⟩
    refine List.ext_getElem (by rw [hlen, hel, h1]) (fun j hj1 hj2 => ?_)
    rw [heg, ← rd_get _ _ hj1]
    have hbr := bt_range s (j : Int)
    have hjk : j < k + 1 := by omega
    by_cases hlast : j = k
    · subst hlast
      by_cases h9 : j = 9
      · rw [hk9 h1 h9]; omega
      · have hd := dig s (j + 1) j (by omega) (by omega)
        rw [(vb_get 9 _ j hX).2 (by rw [hlen, h1])]
        have hb1 := hbd.1 (by rw [hlen, h1]; omega)
        rw [hlen, h1, Nat.pow_succ] at hb1
        have h128 : uw (wk s (j + 1)) / 128 ^ j < 128 := Nat.div_lt_of_lt_mul hb1
        generalize uw (wk s (j + 1)) / 128 ^ j = q at hd h128 ⊢
        omega
    · have hd := dig s (k + 1) j (by omega) (by omega)
      rw [(vb_get 9 _ j hX).1 (by rw [hlen, h1]; omega), hd]
      have := hc j (by omega)
      omega
  · intro he
    have h1 : vl (wk s (k + 1)) = k + 1 := by rw [← hlen, he, hel]
    refine ⟨h1, ?_⟩
    by_cases h9 : k = 9
    · right
      have h := hk9 h1 h9
      rw [he, rd_get _ _ (by omega), heg] at h
      exact h
    · left; omega
theorem with_step (s : ByteArray) (k : Nat) (hk : k < 10) : wordP (withP (wk s k) ((7 * k : Nat) : Int) 7 (bt s (k : Int) % 128)) = wk s (k + 1) := by
  have hc := bt_range s (k : Int)
  refine wordP_congr (fun i hi => ?_)
  unfold withP
  by_cases h2 : 7 * k ≤ i
  · by_cases h3 : i < 7 * (k + 1)
    · rw [if_pos (by omega), show (128 : Int) = 2 ^ 7 from rfl, bit_mod hc.1 7 _ (by omega)]
      unfold dbit
      rw [show i / 7 = k by omega, show i % 7 = i - 7 * k by omega, Int.toNat_natCast]
      have h4 : i - 7 * k < 7 := by omega
      simp [h3, h4]
    · rw [if_neg (by omega)]
      unfold wk
      rw [bit_wordP _ i hi]
      have h4 : ¬ i < 7 * k := by omega
      simp [h3, h4]
  · rw [if_neg (by omega)]
    unfold wk
    rw [bit_wordP _ i hi]
    have h4 : i < 7 * k := by omega
    have h3 : i < 7 * (k + 1) := by omega
    simp [h3, h4]
theorem zigzag {w : Int} (h : InI w) : zig (zag w) = w := by
  have h1 := zig_zag h
  rw [bits_Zig_eq (InI_wordP _)] at h1
  exact Option.some.inj h1
theorem ref02_take_end (s : ByteArray) (k : Nat) (x : Int) (h : ¬ ((k : Int) < (s.size : Int) ∧ (k : Int) < 10)) : Ev (fun n => peristyleref02_Take.l0 n s x (k : Int)) (0, 0, 20) := by
  refine Ev.step (fun n => peristyleref02_Take.l0_succ n _ _ _) ?_
  by_cases h1 : (k : Int) < (s.size : Int)
  · refine Ev.yes h1 ?_
    have h2 : decide ((k : Int) < 10) = false := decide_eq_false (fun h2 => h ⟨h1, h2⟩)
    rw [h2]
    exact Ev.step (fun n => peristyleref02_Take.j1_succ n _ _ _ _) (Ev.no (by decide) (Ev.now _))
  · exact Ev.no h1 (Ev.step (fun n => peristyleref02_Take.j1_succ n _ _ _ _) (Ev.no (by decide) (Ev.now _)))
theorem ref02_take_loop (s : ByteArray) (hs : s.size ≤ 9000000000000000000) : ∀ (d k : Nat), k + d = 10 → k ≤ s.size → (∀ j : Nat, j < k → 128 ≤ bt s (j : Int)) →
    Ev (fun n => peristyleref02_Take.l0 n s (wk s k) (k : Int)) (takeFrom s d k)
  | 0, k, h, hk, hc => ref02_take_end s k _ (by omega)
  | d + 1, k, h, hk, hc => by
    simp only [takeFrom]
    by_cases h1 : k < s.size
    · rw [if_pos h1]
      refine Ev.step (fun n => peristyleref02_Take.l0_succ n _ _ _) (Ev.yes (by omega) ?_)
      have h2 : decide ((k : Int) < 10) = true := decide_eq_true (by omega)
      rw [h2]
      have hbr := bt_range s (k : Int)
      have h7 : wrap64 (7 * (k : Int)) = ((7 * k : Nat) : Int) := by unfold wrap64; omega
      have hw1 : wrap64 ((k : Int) + 1) = ((k + 1 : Nat) : Int) := by unfold wrap64; omega
      have hand : wrap64 (Go.bits .and .u8 (bt s (k : Int)) 127) = bt s (k : Int) % 128 := by
        rw [(byte_op (c := bt s (k : Int)) (by omega)).2.1]
        unfold wrap64; omega
      refine Ev.step (fun n => peristyleref02_Take.j1_succ n _ _ _ _) (Ev.yes rfl (Ev.yes (by omega) (Ev.yes (by omega) (Ev.call (ref_With_eq _ _ _ _) ?_))))
      rw [h7, hand, hw1, with_step s k (by omega)]
      by_cases h3 : 128 ≤ bt s (k : Int)
      · rw [if_pos h3]
        refine Ev.no (by omega) (ref02_take_loop s hs d (k + 1) (by omega) (by omega) (fun j hj => ?_))
        by_cases hjk : j = k
        · subst hjk; exact h3
        · exact hc j (by omega)
      · rw [if_neg h3]
        refine Ev.yes (by omega) (Ev.call (ref_Zag_eq _) (Ev.bind (ref02_Put_ev (InI_wordP _)) (Ev.yes (by omega) (Ev.yes (by omega) ?_))))
        have hz := zigzag (w := wk s (k + 1)) (InI_wordP _)
        unfold zag at hz
        have hp : putV (wordP (zagP (wk s (k + 1)))) = strOfNums (vb 9 (uw (wk s (k + 1)))) := by unfold putV; rw [hz]
        have hiff := ok_iff s k (by omega) h1 hc (by omega)
        rw [hp, Int.toNat_natCast]
        by_cases h4 : okV s k
        · rw [if_pos h4]
          exact Ev.yes ((str_eq_iff _ (vb_small 9 _ (vb9_lt _)) _).2 (hiff.1 h4)) (Ev.val rfl)
        · rw [if_neg h4]
          exact Ev.no (fun h => h4 (hiff.2 ((str_eq_iff _ (vb_small 9 _ (vb9_lt _)) _).1 h))) (Ev.now _)
    · rw [if_neg h1]
      exact ref02_take_end s k _ (by omega)
theorem ref02_Take_ev (s : ByteArray) (hs : s.size ≤ 9000000000000000000) : Ev (fun n => peristyleref02_Take.f n s) (takeV s) := by
  have := ref02_take_loop s hs 10 0 (by omega) (by omega) (fun j hj => absurd hj (by omega))
  rw [wk_zero] at this
  exact this
theorem add_testBit (y t : Nat) (h : t < 7) : (y % 128 + 128).testBit t = y.testBit t := by
  have e : (y % 128 + 128) % 2 ^ 7 = y % 2 ^ 7 := by rw [show (2 : Nat) ^ 7 = 128 from rfl]; omega
  have h1 := Nat.testBit_mod_two_pow (y % 128 + 128) 7 t
  have h2 := Nat.testBit_mod_two_pow y 7 t
  rw [e] at h1
  rw [h1] at h2
  simpa [h] using h2
theorem take_putV {a : Int} (ha : InI a) (r : ByteArray) : takeV (putV a ++ r) = (a, (vl (zig a) : Int), 0) := by
  have hX := vb9_lt (zig a)
  have hlen : (vb 9 (uw (zig a))).length = vl (zig a) := rfl
  have hbd := vb_bounds 9 _ hX
  have hvl := vl_le (zig a)
  have hb : ∀ j : Nat, j < vl (zig a) → bt (putV a ++ r) (j : Int) = rd (vb 9 (uw (zig a))) (j : Int) := by
    intro j hj
    rw [bt_append_left _ _ _ (by rw [putV_size]; exact hj)]
    exact bt_str _ (putV_small a) _
  have hsz : vl (zig a) ≤ (putV a ++ r).size := by rw [ByteArray.size_append, putV_size]; omega
  generalize putV a ++ r = s at hb hsz
  have hlow : vl (zig a) ≤ 9 → uw (zig a) < 128 ^ vl (zig a) := fun h => hbd.1 h
  have hwk : wk s (vl (zig a)) = zig a := by
    refine bit_inj (InI_wordP _) (InI_wordP _) (fun i hi => ?_)
    unfold wk
    rw [bit_wordP _ i hi, bit_uw]
    by_cases h1 : i < 7 * vl (zig a)
    · unfold dbit
      have hj : i / 7 < vl (zig a) := by omega
      have hs : (uw (zig a) / 128 ^ (i / 7)).testBit (i % 7) = (uw (zig a)).testBit i := by
        rw [pow128, Nat.testBit_div_two_pow]
        congr 1
        omega
      rw [hb _ hj]
      by_cases h2 : i / 7 + 1 < vl (zig a)
      · rw [(vb_get 9 _ (i / 7) hX).1 h2, bit_nat _ _ (by omega), add_testBit _ _ (by omega), hs]
        simp [h1]
      · rw [(vb_get 9 _ (i / 7) hX).2 (by rw [hlen]; omega), bit_nat _ _ (by omega), hs]
        simp [h1]
    · have h9 := hlow (by omega)
      rw [pow128] at h9
      rw [Nat.testBit_lt_two_pow (Nat.lt_of_lt_of_le h9 (Nat.pow_le_pow_right (by decide) (by omega)))]
      simp [h1]
  have main : ∀ (d k : Nat), k + d = 10 → k < vl (zig a) → takeFrom s d k = (a, (vl (zig a) : Int), 0) := by
    intro d
    induction d with
    | zero => intro k h1 h2; omega
    | succ d ih =>
      intro k h1 h2
      simp only [takeFrom]
      rw [if_pos (by omega), hb k h2]
      by_cases h3 : k + 1 < vl (zig a)
      · rw [(vb_get 9 _ k hX).1 h3, if_pos (by omega)]
        exact ih (k + 1) (by omega) h3
      · have hk : k + 1 = vl (zig a) := by omega
        have hlast := (vb_get 9 _ k hX).2 hk
        have h10 : k = 9 → uw (zig a) / 128 ^ k = 1 := by
          rintro rfl
          rcases hbd.2 with h | h
          · rw [hlen, ← hk] at h; omega
          · rw [hlen, ← hk] at h
            have h : (128 : Nat) ^ 9 ≤ uw (zig a) := h
            omega
        have hsm : uw (zig a) / 128 ^ k < 128 := by
          by_cases h9 : k = 9
          · rw [h10 h9]; decide
          · have hh := hlow (by omega)
            rw [← hk, Nat.pow_succ] at hh
            exact Nat.div_lt_of_lt_mul hh
        rw [hlast, if_neg (by omega), hk, hwk]
        have hok : okV s k := by
          refine ⟨by rw [hk, hwk], ?_⟩
          by_cases h9 : k = 9
          · right
            rw [hb k h2, hlast, h10 h9]
            rfl
          · left; omega
        rw [if_pos hok]
        have hz := zag_zig ha
        rw [bits_Zag_eq] at hz
        have hz : zag (zig a) = a := Option.some.inj hz
        rw [hz]
  exact main 10 0 (by omega) (by omega)
end Go.Proofs.YtfohecpfenegkaaGreat.Print
end
section
set_option linter.unusedVariables false
set_option linter.unusedSimpArgs false
namespace Go.Proofs.YtfohecpfenegkaaGreat.Print
open Go.RowKit Go.Proofs.YtfohecpfenegkaaGreatW.PrintWords Go.Proofs.YtfohecpfenegkaaGreatW.PrintMore
theorem putV_short (a : Int) : (putV a).size ≤ 10 := by rw [putV_size]; exact (vl_le _).2
def catV : List Int → ByteArray
  | [] => ByteArray.empty
  | x :: l => putV x ++ catV l
theorem catV_le : ∀ l : List Int, (catV l).size ≤ 10 * l.length
  | [] => by simp [catV]
  | x :: l => by
    have := catV_le l
    have := putV_short x
    simp only [catV, ByteArray.size_append, List.length_cons]
    omega
theorem rd_mid (A B : List Int) (x : Int) : rd (A ++ x :: B) (A.length : Int) = x := by simp [rd, List.getD_eq_getElem?_getD]
theorem ints_loop (d : List Int) (hd : d.length ≤ 100000) (hv : ∀ x, x ∈ d → InI x) : ∀ (B A : List Int) (s : ByteArray), d = A ++ B → s.size + 10 * B.length ≤ 10000000 → Ev (fun k => dict_ints.l0 k d s (A.length : Int)) (s ++ catV B)
  | [], A, s, h, _ => by
    rw [List.append_nil] at h
    subst h
    rw [show catV [] = ByteArray.empty from rfl, ByteArray.append_empty]
    exact Ev.step (fun k => dict_ints.l0_succ k _ _ _) (Ev.no (by omega) (Ev.now _))
  | x :: B, A, s, h, hs => by
    have hlen : d.length = A.length + (B.length + 1) := by rw [h]; simp
    have er : rd d (A.length : Int) = x := by rw [h]; exact rd_mid A B x
    have ei := Aside0.mk (show wrap64 ((A.length : Int) + 1) = ((A ++ [x]).length : Int) by simp; unfold wrap64; omega)
    have hx := putV_short x
    simp only [List.length_cons] at hs
    have ih := ints_loop d hd hv B (A ++ [x]) (s ++ putV x) (by rw [h]; simp) (by rw [ByteArray.size_append]; omega)
    rw [← ei.out, ByteArray.append_assoc] at ih
    refine Ev.step (fun k => dict_ints.l0_succ k _ _ _) (Ev.yes (by omega) (Ev.yes (by omega) ?_))
    rw [er]
    exact Ev.call (vint_Put_eq (hv x (by rw [h]; simp))) (Ev.yes (by omega) ih)
theorem ints_ev (d : List Int) (hd : d.length ≤ 100000) (hv : ∀ x, x ∈ d → InI x) : Ev (fun k => dict_ints.f k d) (catV d, 0) := by
  have h := ints_loop d hd hv d [] ByteArray.empty rfl (by simp; omega)
  rw [ByteArray.empty_append] at h
  exact Ev.bind h (Ev.now _)
def packV (p : List Int) : ByteArray := (putR p (widL p)).1
theorem may_width (p : List Int) (hp : p.length ≤ 65536) : mayPut p (widL p) := ⟨(widL_le p).1, (widL_le p).2, hp, Int.le_refl _⟩
theorem packV_ok (p : List Int) (hp : p.length ≤ 65536) : putR p (widL p) = (packV p, 0) ∧ (packV p).size ≤ 8 * p.length + 1 := by
  obtain ⟨w, hw⟩ : ∃ w : Nat, widL p = (w : Int) := ⟨(widL p).toNat, by have := (widL_le p).1; omega⟩
  have hm := may_width p hp
  have h64 := (widL_le p).2
  have h := put_size p w (by rw [← hw]; exact hm)
  rw [← hw] at h
  have hmul : p.length * w ≤ p.length * 64 := Nat.mul_le_mul_left _ (by omega)
  refine ⟨by unfold packV; rw [← h.2], ?_⟩
  unfold packV
  rw [h.1]
  omega
theorem packed_ev (p : List Int) (hp : p.length ≤ 65536) : Ev (fun k => peristyleref11_packed.f k p) (packV p) :=
  Ev.bind (ref08_Width_ev p (by omega)) (Ev.bind (ref08_Put_ev p _ (by omega)) (Ev.now _))
def putI (d p : List Int) : ByteArray := putV (d.length : Int) ++ catV d ++ packV p
theorem refints_loop (d p : List Int) (hd : d.length ≤ 65536) (hp : p.length ≤ 65536) (hv : ∀ x, x ∈ d → InI x) : ∀ (B A : List Int) (s : ByteArray), d = A ++ B → s.size + 10 * B.length ≤ 10000000 → Ev (fun k => peristyleref11_PutInts.l0 k d p s (A.length : Int)) (s ++ catV B ++ packV p, 0)
  | [], A, s, h, hs => by
    rw [List.append_nil] at h
    subst h
    have hq := (packV_ok p (by omega)).2
    rw [show catV [] = ByteArray.empty from rfl, ByteArray.append_empty]
    simp only [List.length_nil] at hs
    exact Ev.step (fun k => peristyleref11_PutInts.l0_succ k _ _ _ _) (Ev.no (by omega) (Ev.bind (packed_ev p (by omega)) (Ev.yes (by omega) (Ev.now _))))
  | x :: B, A, s, h, hs => by
    have hlen : d.length = A.length + (B.length + 1) := by rw [h]; simp
    have er : rd d (A.length : Int) = x := by rw [h]; exact rd_mid A B x
    have ei := Aside0.mk (show wrap64 ((A.length : Int) + 1) = ((A ++ [x]).length : Int) by simp; unfold wrap64; omega)
    have hx := putV_short x
    simp only [List.length_cons] at hs
    have ih := refints_loop d p hd hp hv B (A ++ [x]) (s ++ putV x) (by rw [h]; simp) (by rw [ByteArray.size_append]; omega)
    rw [← ei.out, show s ++ putV x ++ catV B = s ++ catV (x :: B) from ByteArray.append_assoc] at ih
    refine Ev.step (fun k => peristyleref11_PutInts.l0_succ k _ _ _ _) (Ev.yes (by omega) (Ev.yes (by omega) ?_))
    rw [er]
    exact Ev.bind (ref02_Put_ev (hv x (by rw [h]; simp))) (Ev.yes (by omega) ih)
theorem putints_ev (l d p : List Int) (h0 : l ≠ []) (hl : l.length ≤ 65536) (hdl : d.length ≤ l.length) (hpl : p.length = l.length) (hv : ∀ x, x ∈ d → InI x) (ho : Ev (fun k => dict_Of_int.f k l) (d, p)) (hr : Ev (fun k => peristyleref11_Ints.f k l) (d, p)) :
    Ev (fun k => dict_PutInts.f k l) (putI d p, 0) ∧ Ev (fun k => peristyleref11_PutInts.f k l) (putI d p, 0) := by
  have hne : ¬ (l.length : Int) = 0 := fun h => h0 (List.length_eq_zero_iff.1 (by omega))
  have hc := catV_le d
  have hq := packV_ok p (by omega)
  have hi : InI (d.length : Int) := by unfold InI; omega
  have hs := putV_short (d.length : Int)
  have hpp := pack_Put_ev p (widL p) (by omega)
  rw [hq.1] at hpp
  constructor
  · unfold dict_PutInts.f
    refine Ev.bind (a := (putI d p, 0)) ?_ (Ev.now _)
    unfold dict_put_int_fn32.f
    refine Ev.no (by omega) (Ev.no hne (Ev.bind ho ?_))
    dsimp only
    exact Ev.bind (ints_ev d (by omega) hv) (Ev.yes rfl (Ev.bind (pack_Width_ev p (by omega)) (Ev.bind hpp (Ev.call (vint_Put_eq hi) (Ev.yes (by show _ + (catV d).size ≤ _; omega) (Ev.yes (by rw [ByteArray.size_append]; show _ + (catV d).size + (packV p).size ≤ _; omega) (Ev.now _)))))))
  · unfold peristyleref11_PutInts.f
    refine Ev.no (by omega) (Ev.no hne (Ev.bind hr ?_))
    dsimp only
    exact Ev.bind (ref02_Put_ev hi) (refints_loop d p (by omega) (by omega) hv d [] _ rfl (by omega))
end Go.Proofs.YtfohecpfenegkaaGreat.Print
end
section
set_option linter.unusedVariables false
set_option linter.unusedSimpArgs false
namespace Go.Proofs.YtfohecpfenegkaaGreat.Print
open Go.RowKit Go.Proofs.YtfohecpfenegkaaGreatW.PrintWords Go.Proofs.YtfohecpfenegkaaGreatW.PrintMore
theorem uw_small {x : Int} (h0 : 0 ≤ x) (h1 : x ≤ 1000000) : uw x = x.toNat := by
  have h := uw_eq x
  rw [u64_id (by unfold InU; omega)] at h
  omega
theorem width_eq (p : List Int) (D : Nat) (hD : 1 ≤ D) (hD2 : D ≤ 100000) (hp : ∀ x, x ∈ p → 0 ≤ x ∧ x < (D : Int)) (hm : ((D : Int) - 1) ∈ p) : widL p = widL [(D : Int) - 1] := by
  apply Int.le_antisymm
  · have hr := (widL_le [(D : Int) - 1]).1
    rw [widL_le_iff _ _ hr]
    intro x hx i hi
    have h1 := (widL_le_iff [(D : Int) - 1] _ hr).1 (Int.le_refl _) ((D : Int) - 1) (by simp)
    obtain ⟨r, er⟩ : ∃ r : Nat, widL [(D : Int) - 1] = (r : Int) := ⟨(widL [(D : Int) - 1]).toNat, by omega⟩
    rw [er] at h1 hi
    have h2 : ((D : Int) - 1).toNat < 2 ^ r := Nat.lt_pow_two_of_testBit _ (fun j hj => by
      have := h1 j (by omega)
      rw [bit_uw, uw_small (by omega) (by omega)] at this
      exact this)
    have hxp := hp x hx
    rw [bit_uw, uw_small hxp.1 (by omega)]
    have h3 : 2 ^ r ≤ 2 ^ i := Nat.pow_le_pow_right (by decide) (by omega)
    exact Nat.testBit_lt_two_pow (by omega)
  · have hr := (widL_le p).1
    rw [widL_le_iff _ _ hr]
    intro x hx i hi
    obtain rfl := List.mem_singleton.1 hx
    exact (widL_le_iff p _ hr).1 (Int.le_refl _) _ hm i hi
end Go.Proofs.YtfohecpfenegkaaGreat.Print
end
section
set_option linter.unusedVariables false
set_option linter.unusedSimpArgs false
namespace Go.Proofs.YtfohecpfenegkaaGreat.Print
open Go.RowKit Go.Proofs.YtfohecpfenegkaaGreatW.PrintWords Go.Proofs.YtfohecpfenegkaaGreatW.PrintMore
theorem bl_len (a : ByteArray) : a.data.toList.length = a.size := by rw [Array.length_toList]; rfl
theorem bl_ext {a b : ByteArray} (h : a.data.toList = b.data.toList) : a = b := ByteArray.ext (Array.ext' h)
theorem bl_app (a b : ByteArray) : (a ++ b).data.toList = a.data.toList ++ b.data.toList := by rw [ByteArray.data_append, Array.toList_append]
theorem bl_ex (a : ByteArray) (i j : Nat) : (a.extract i j).data.toList = (a.data.toList.drop i).take (j - i) := by
  rw [ByteArray.data_extract, Array.toList_extract, List.extract_eq_take_drop]
def tlB (s : ByteArray) (i : Nat) : ByteArray := s.extract i s.size
theorem tl_list (s : ByteArray) (i : Nat) : (tlB s i).data.toList = s.data.toList.drop i := by
  unfold tlB
  rw [bl_ex, List.take_of_length_le (by rw [List.length_drop, bl_len]; omega)]
theorem tl_size (s : ByteArray) (i : Nat) : (tlB s i).size = s.size - i := by rw [← bl_len, tl_list, List.length_drop, bl_len]
theorem tl_zero (s : ByteArray) : tlB s 0 = s := bl_ext (by rw [tl_list, List.drop_zero])
theorem tl_app {s x y : ByteArray} {i : Nat} (h : tlB s i = x ++ y) : tlB s (i + x.size) = y := by
  apply bl_ext
  have := congrArg (fun z => z.data.toList) h
  simp only [tl_list, bl_app] at this
  rw [tl_list, ← List.drop_drop, this, ← bl_len x, List.drop_left]
theorem tl_head (s : ByteArray) (n : Nat) : s = s.extract 0 n ++ tlB s n := by
  apply bl_ext
  rw [bl_app, tl_list, bl_ex, List.drop_zero, Nat.sub_zero, List.take_append_drop]
theorem takeFrom_canon (s : ByteArray) : ∀ (d k : Nat), k + d = 10 → (∀ j : Nat, j < k → 128 ≤ bt s (j : Int)) → ∀ x j, takeFrom s d k = (x, j, 0) → ∃ m : Nat, j = (m : Int) ∧ m ≤ s.size ∧ 1 ≤ m ∧ InI x ∧ putV x = s.extract 0 m
  | 0, k, h, hc, x, j, e => by
    have := congrArg (fun z => z.2.2) e
    simp [takeFrom] at this
  | d + 1, k, h, hc, x, j, e => by
    simp only [takeFrom] at e
    have h20 : ∀ {x j : Int}, ((0 : Int), (0 : Int), (20 : Int)) = (x, j, 0) → False := fun h => by
      have := congrArg (fun z => z.2.2) h
      simp at this
    split at e
    · rename_i hk
      split at e
      · rename_i h3
        exact takeFrom_canon s d (k + 1) (by omega) (fun j hj => by
          by_cases c : j = k
          · subst c; exact h3
          · exact hc j (by omega)) x j e
      · rename_i h3
        split at e
        · rename_i h4
          obtain ⟨rfl, rfl⟩ : zag (wk s (k + 1)) = x ∧ ((k + 1 : Nat) : Int) = j := by
            have h1 := congrArg (fun z => z.1) e
            have h2 := congrArg (fun z => z.2.1) e
            exact ⟨h1, h2⟩
          refine ⟨k + 1, rfl, by omega, by omega, InI_wordP _, ?_⟩
          have hz : zig (zag (wk s (k + 1))) = wk s (k + 1) := by
            have h1 := zig_zag (a := wk s (k + 1)) (InI_wordP _)
            rw [bits_Zig_eq (InI_wordP _)] at h1
            exact Option.some.inj h1
          unfold putV
          rw [hz, (ok_iff s k (by omega) hk hc (by omega)).1 h4, str_bytesOf]
        · exact absurd e h20
    · exact absurd e h20
theorem takeV_canon {s : ByteArray} {x j : Int} (h : takeV s = (x, j, 0)) : ∃ m : Nat, j = (m : Int) ∧ m ≤ s.size ∧ 1 ≤ m ∧ InI x ∧ putV x = s.extract 0 m := takeFrom_canon s 10 0 rfl (fun j hj => absurd hj (Nat.not_lt_zero j)) x j h
section
variable {α : Type} (it : ByteArray → Option (α × Nat)) (pt : α → ByteArray) (ok : α → Prop)
structure Rdr : Prop where
  take : ∀ x r, ok x → it (pt x ++ r) = some (x, (pt x).size)
  canon : ∀ s x u, it s = some (x, u) → ok x ∧ u ≤ s.size ∧ 1 ≤ u ∧ pt x = s.extract 0 u
def catL : List α → ByteArray
  | [] => ByteArray.empty
  | x :: l => pt x ++ catL l
def rdN (s : ByteArray) : Nat → Nat → Option (List α × Nat)
  | 0, at_ => some ([], at_)
  | n + 1, at_ => match it (tlB s at_) with
    | none => none
    | some (x, u) => match rdN s n (at_ + u) with
      | none => none
      | some (l, e) => some (x :: l, e)
variable {it pt ok}
theorem rdN_canon (R : Rdr it pt ok) (s : ByteArray) : ∀ (n a : Nat) (l : List α) (e : Nat), a ≤ s.size → rdN it s n a = some (l, e) → l.length = n ∧ (∀ x, x ∈ l → ok x) ∧ e = a + (catL pt l).size ∧ e ≤ s.size ∧ tlB s a = catL pt l ++ tlB s e
  | 0, a, l, e, ha, h => by
    obtain ⟨rfl, rfl⟩ : [] = l ∧ a = e := by
      have := Option.some.inj h
      exact ⟨congrArg Prod.fst this, congrArg Prod.snd this⟩
    exact ⟨rfl, fun x hx => absurd hx List.not_mem_nil, rfl, ha, (ByteArray.empty_append).symm⟩
  | n + 1, a, l, e, ha, h => by
    simp only [rdN] at h
    cases hi : it (tlB s a) with
    | none => rw [hi] at h; cases h
    | some r =>
      obtain ⟨x, u⟩ := r
      rw [hi] at h
      dsimp only at h
      cases hr : rdN it s n (a + u) with
      | none => rw [hr] at h; cases h
      | some q =>
        obtain ⟨l', e'⟩ := q
        rw [hr] at h
        dsimp only at h
        obtain ⟨rfl, rfl⟩ : x :: l' = l ∧ e' = e := by
          have := Option.some.inj h
          exact ⟨congrArg Prod.fst this, congrArg Prod.snd this⟩
        obtain ⟨c1, c2, c3, c4⟩ := R.canon _ _ _ hi
        rw [tl_size] at c2
        obtain ⟨i1, i2, i3, i4, i5⟩ := rdN_canon R s n (a + u) l' e' (by omega) hr
        have hx : (pt x).size = u := by rw [c4, ByteArray.size_extract, tl_size]; omega
        have ht : tlB s a = pt x ++ tlB s (a + u) := by
          have h1 := tl_head (tlB s a) u
          rw [← c4] at h1
          have h2 := tl_app h1
          rw [hx] at h2
          rw [h1, h2]
        refine ⟨by simp [i1], fun y hy => ?_, by rw [show catL pt (x :: l') = pt x ++ catL pt l' from rfl, ByteArray.size_append, hx, i3]; omega, i4, ?_⟩
        · rcases List.mem_cons.1 hy with rfl | hy
          · exact c1
          · exact i2 y hy
        · rw [ht, i5, show catL pt (x :: l') = pt x ++ catL pt l' from rfl, ByteArray.append_assoc]
theorem rdN_put (R : Rdr it pt ok) (s r : ByteArray) : ∀ (l : List α) (a : Nat), (∀ x, x ∈ l → ok x) → tlB s a = catL pt l ++ r → rdN it s l.length a = some (l, a + (catL pt l).size)
  | [], a, _, _ => rfl
  | x :: l, a, hl, h => by
    have h' : tlB s a = pt x ++ (catL pt l ++ r) := by rw [h, show catL pt (x :: l) = pt x ++ catL pt l from rfl, ByteArray.append_assoc]
    have ih := rdN_put R s r l (a + (pt x).size) (fun y hy => hl y (List.mem_cons_of_mem _ hy)) (tl_app h')
    show (match it (tlB s a) with
      | none => none
      | some (x, u) => match rdN it s l.length (a + u) with
        | none => none
        | some (l, e) => some (x :: l, e)) = _
    rw [h', R.take x _ (hl x (by simp))]
    dsimp only
    rw [ih]
    dsimp only
    rw [show catL pt (x :: l) = pt x ++ catL pt l from rfl, ByteArray.size_append, Nat.add_assoc]
end
theorem takeR_canon {s : ByteArray} {n w : Nat} {p : List Int} (hw : w ≤ 64) (hn : n ≤ 65536) (h : takeR s (n : Int) (w : Int) = (p, 0)) : p.length = n ∧ widL p ≤ (w : Int) ∧ (putR p (w : Int)).1 = s := by
  unfold takeR at h
  rw [if_neg (by omega)] at h
  split at h
  · rename_i c
    rw [bytesN_nat n w hn hw, Int.toNat_natCast, Int.toNat_natCast] at c
    obtain ⟨c1, c2⟩ := c
    have e : listS s n w = p := congrArg Prod.fst h
    have hl : p.length = n := by rw [← e, listS_length]
    have hp : widL p ≤ (w : Int) := by rw [← e]; exact widL_listS s n w hw
    refine ⟨hl, hp, ?_⟩
    unfold putR
    rw [if_pos (show mayPut p (w : Int) from ⟨by omega, by omega, by omega, hp⟩), Int.toNat_natCast, hl]
    show strOfNums (packB (stL p w) (n * w)) = s
    rw [packB_congr (st' := sbit s) (n * w) (fun j hj => by rw [← e]; exact stL_listS s n w j hw hj)]
    exact (pack_same s (n * w) (by omega)).2 c2
  · exact absurd (congrArg Prod.snd h) (show ¬ (20 : Int) = 0 by decide)
section
variable {α : Type} (lt : α → α → Prop) (pt : α → ByteArray) (ok : α → Prop)
structure Good (s : ByteArray) (l d : List α) (p : List Int) : Prop where
  isof : IsOf lt l d p
  one : 1 ≤ l.length
  most : l.length ≤ 65536
  dle : d.length ≤ l.length
  good : ∀ x, x ∈ d → ok x
  eq : s = putV (d.length : Int) ++ catL pt d ++ packV p
variable {lt pt ok} {it : ByteArray → Option (α × Nat)}
theorem IsOf.inside {l d : List α} {p : List Int} (h : IsOf lt l d p) : ∀ x, x ∈ p → 0 ≤ x ∧ x < (d.length : Int) := fun x hx => by
  obtain ⟨i, hi, rfl⟩ := List.getElem_of_mem hx
  have hpl := h.2.2.1
  obtain ⟨k, hk, a, _⟩ := h.2.2.2 i (by omega)
  rw [List.getElem?_eq_getElem hi] at a
  have := Option.some.inj a
  omega
theorem IsOf.all (S : SO lt) {l d : List α} {p : List Int} (h : IsOf lt l d p) : ∀ m : Nat, m < d.length → (m : Int) ∈ p := fun m hmd => by
  obtain ⟨j, hj, e⟩ := List.getElem_of_mem ((h.2.1 d[m]).1 (List.getElem_mem hmd))
  obtain ⟨k, hk, a, b⟩ := h.2.2.2 j hj
  have : k = m := (rise_eq_iff S h.1 hk hmd).1 (b.trans e)
  subst this
  exact List.mem_of_getElem? a
theorem IsOf.vals {l d : List α} {p : List Int} (h : IsOf lt l d p) (z : α) : l = p.map (fun x => d.getD x.toNat z) := by
  apply List.ext_getElem (by rw [List.length_map, h.2.2.1])
  intro i h1 h2
  obtain ⟨k, hk, a, b⟩ := h.2.2.2 i h1
  rw [List.getElem_map]
  rw [List.length_map] at h2
  rw [List.getElem?_eq_getElem h2] at a
  rw [Option.some.inj a, Int.toNat_natCast, List.getD_eq_getElem?_getD, List.getElem?_eq_getElem hk, ← b]
  rfl
theorem IsOf.of_places {d : List α} {p : List Int} (z : α) (hr : d.Pairwise lt) (hv : ∀ x, x ∈ p → 0 ≤ x ∧ x < (d.length : Int)) (hall : ∀ m : Nat, m < d.length → (m : Int) ∈ p) : IsOf lt (p.map (fun x => d.getD x.toNat z)) d p := by
  refine ⟨hr, fun x => ?_, (List.length_map _).symm, fun i hi => ?_⟩
  · rw [List.mem_map]
    constructor
    · intro hx
      obtain ⟨m, hm, rfl⟩ := List.getElem_of_mem hx
      exact ⟨(m : Int), hall m hm, by rw [Int.toNat_natCast, List.getD_eq_getElem?_getD, List.getElem?_eq_getElem hm]; rfl⟩
    · rintro ⟨y, hy, rfl⟩
      have := hv y hy
      rw [List.getD_eq_getElem?_getD, List.getElem?_eq_getElem (show y.toNat < d.length by omega)]
      exact List.getElem_mem _
  · rw [List.length_map] at hi
    have := hv p[i] (List.getElem_mem hi)
    refine ⟨p[i].toNat, by omega, ?_, ?_⟩
    · rw [List.getElem?_eq_getElem hi]; congr 1; omega
    · rw [List.getElem_map, List.getD_eq_getElem?_getD, List.getElem?_eq_getElem (show p[i].toNat < d.length by omega)]; rfl
theorem Good.dpos {s : ByteArray} {l d : List α} {p : List Int} (g : Good lt pt ok s l d p) : 1 ≤ d.length := by
  have h := g.one
  have : l[0] ∈ d := (g.isof.2.1 _).2 (List.getElem_mem h)
  exact List.length_pos_of_mem this
theorem Good.parse (S : SO lt) (R : Rdr it pt ok) {s : ByteArray} {l d : List α} {p : List Int} (g : Good lt pt ok s l d p) :
    takeV s = ((d.length : Int), ((putV (d.length : Int)).size : Int), 0) ∧ rdN it s d.length (putV (d.length : Int)).size = some (d, (putV (d.length : Int)).size + (catL pt d).size) ∧
    takeR (tlB s ((putV (d.length : Int)).size + (catL pt d).size)) (l.length : Int) (widL [(d.length : Int) - 1]) = (p, 0) := by
  have hd1 := g.dpos; have hdl := g.dle; have hm := g.most
  have hpl := g.isof.2.2.1
  have hiD : InI (d.length : Int) := by unfold InI; omega
  have h1 : tlB s (putV (d.length : Int)).size = catL pt d ++ packV p := by
    have := tl_app (s := s) (i := 0) (x := putV (d.length : Int)) (y := catL pt d ++ packV p) (by rw [tl_zero, g.eq, ByteArray.append_assoc])
    rwa [Nat.zero_add] at this
  have h2 := tl_app h1
  have hv := g.isof.inside
  have hall := g.isof.all S
  refine ⟨by rw [g.eq, ByteArray.append_assoc, take_putV hiD, ← putV_size], rdN_put R s (packV p) d _ g.good h1, ?_⟩
  rw [h2]
  have hw := width_eq p d.length hd1 (by omega) hv (by have := hall (d.length - 1) (by omega); rwa [show ((d.length - 1 : Nat) : Int) = (d.length : Int) - 1 by omega] at this)
  obtain ⟨w, ew⟩ : ∃ w : Nat, widL p = (w : Int) := ⟨(widL p).toNat, by have := (widL_le p).1; omega⟩
  have ht := take_put p w (by rw [← ew]; exact may_width p (by omega)) (fun x hx => by have := hv x hx; unfold InI; omega)
  rw [← hw, ← hpl, ew]
  unfold packV
  rw [ew]
  exact ht
theorem Good.of (S : SO lt) (R : Rdr it pt ok) (z : α) {s : ByteArray} {n D : Nat} {d : List α} {p : List Int} {a e : Nat} (h1 : 1 ≤ D) (h2 : D ≤ n) (h3 : n ≤ 65536) (ht : takeV s = ((D : Int), (a : Int), 0)) (hr : rdN it s D a = some (d, e))
    (hk : takeR (tlB s e) (n : Int) (widL [(D : Int) - 1]) = (p, 0)) (hs : d.Pairwise lt) (hv : ∀ x, x ∈ p → 0 ≤ x ∧ x < (D : Int)) (hall : ∀ m : Nat, m < D → (m : Int) ∈ p) :
    Good lt pt ok s (p.map (fun x => d.getD x.toNat z)) d p ∧ p.length = n ∧ d.length = D := by
  obtain ⟨m, em, c1, c2, c3, c4⟩ := takeV_canon ht
  obtain rfl : m = a := by omega
  obtain ⟨r1, r2, r3, r4, r5⟩ := rdN_canon R s D m d e c1 hr
  subst r1
  have hw := width_eq p d.length h1 (by omega) hv (by have := hall (d.length - 1) (by omega); rwa [show ((d.length - 1 : Nat) : Int) = (d.length : Int) - 1 by omega] at this)
  obtain ⟨w, ew⟩ : ∃ w : Nat, widL p = (w : Int) := ⟨(widL p).toNat, by have := (widL_le p).1; omega⟩
  rw [← hw, ew] at hk
  have hw64 := (widL_le p).2
  obtain ⟨k1, k2, k3⟩ := takeR_canon (by omega) h3 hk
  refine ⟨⟨IsOf.of_places z hs hv hall, by rw [List.length_map]; omega, by rw [List.length_map]; omega, by rw [List.length_map]; omega, r2, ?_⟩, k1, rfl⟩
  have e1 : packV p = tlB s e := by unfold packV; rw [ew]; exact k3
  rw [e1, ByteArray.append_assoc, ← r5, c4]
  exact tl_head s m
end
def itV (s : ByteArray) : Option (Int × Nat) := if (takeV s).2.2 = 0 then some ((takeV s).1, (takeV s).2.1.toNat) else none
theorem rdrV : Rdr itV putV InI := by
  refine ⟨fun x r hx => ?_, fun s x u h => ?_⟩
  · unfold itV
    rw [take_putV hx, if_pos rfl, putV_size, Int.toNat_natCast]
  · unfold itV at h
    split at h
    · rename_i c
      have h1 := congrArg Prod.fst (Option.some.inj h)
      have h2 := congrArg Prod.snd (Option.some.inj h)
      dsimp only at h1 h2
      obtain ⟨m, e, c1, c2, c3, c4⟩ := takeV_canon (s := s) (x := (takeV s).1) (j := (takeV s).2.1) (Prod.ext rfl (Prod.ext rfl c))
      rw [h1] at c3 c4
      rw [e, Int.toNat_natCast] at h2
      subst h2
      exact ⟨c3, c1, c2, c4⟩
    · cases h
def itS (s : ByteArray) : Option (ByteArray × Nat) := if s.size = 0 then none else if 32 < (bt s 0).toNat ∨ s.size ≤ (bt s 0).toNat then none else some (s.extract 1 (1 + (bt s 0).toNat), 1 + (bt s 0).toNat)
def putS (t : ByteArray) : ByteArray := byteS (t.size : Int) ++ t
def okS (t : ByteArray) : Prop := t.size ≤ 32
theorem byteS_size (c : Int) : (byteS c).size = 1 := rfl
theorem bt_byteS {c : Int} (h0 : 0 ≤ c) (h1 : c < 256) : bt (byteS c) 0 = c := by
  unfold bt
  rw [dif_pos (show (0 : Int).toNat < (byteS c).size from Nat.one_pos)]
  show ((UInt8.ofNat c.toNat).toNat : Int) = c
  rw [UInt8.toNat_ofNat']
  omega
theorem putS_size (t : ByteArray) : (putS t).size = 1 + t.size := by unfold putS; rw [ByteArray.size_append, byteS_size]
theorem rdrS : Rdr itS putS okS := by
  refine ⟨fun x r hx => ?_, fun s x u h => ?_⟩
  · have hb : bt (putS x ++ r) 0 = (x.size : Int) := by
      have h1 := bt_append_left (putS x) r 0 (by rw [putS_size]; omega)
      have h2 := bt_append_left (byteS (x.size : Int)) x 0 (by rw [byteS_size]; omega)
      rw [Int.ofNat_zero] at h1 h2
      rw [h1]
      unfold putS
      unfold okS at hx
      rw [h2, bt_byteS (by omega) (by omega)]
    unfold itS okS at *
    rw [hb, Int.toNat_natCast, ByteArray.size_append, putS_size, if_neg (by omega), if_neg (by omega)]
    congr 1
    refine Prod.ext ?_ rfl
    apply bl_ext
    rw [bl_ex, bl_app]
    unfold putS
    rw [bl_app, List.append_assoc]
    have : (byteS (x.size : Int)).data.toList.length = 1 := by rw [bl_len, byteS_size]
    rw [← this, List.drop_left, Nat.add_sub_cancel_left, ← bl_len x, List.take_left]
  · unfold itS at h
    split at h
    · cases h
    · split at h
      · cases h
      · rename_i c1 c2
        have h1 := congrArg Prod.fst (Option.some.inj h)
        have h2 := congrArg Prod.snd (Option.some.inj h)
        dsimp only at h1 h2
        have hbr := bt_range s 0
        have hxs : x.size = (bt s 0).toNat := by rw [← h1, ByteArray.size_extract]; omega
        refine ⟨by unfold okS; omega, by omega, by omega, ?_⟩
        apply bl_ext
        unfold putS
        rw [bl_app, bl_ex, ← h1, bl_ex, ← h2, h1, hxs, List.drop_zero, Nat.sub_zero, Nat.add_sub_cancel_left]
        cases hS : s.data.toList with
        | nil =>
          have := bl_len s
          rw [hS] at this
          exact absurd this.symm c1
        | cons b bs =>
          rw [List.drop_one, List.tail_cons, Nat.add_comm 1, List.take_succ_cons]
          have e0 : (byteS ((bt s 0).toNat : Int)).data.toList = [b] := by
            show [UInt8.ofNat ((bt s 0).toNat : Int).toNat] = [b]
            rw [Int.toNat_natCast]
            congr 1
            have : bt s 0 = (b.toNat : Int) := by
              unfold bt
              rw [dif_pos (show (0 : Int).toNat < s.size by show 0 < s.size; omega)]
              have : s[(0 : Int).toNat]'(by show 0 < s.size; omega) = b := by
                show s.data[0]'(by have := bl_len s; rw [hS] at this; show 0 < s.data.size; rw [← Array.length_toList, hS]; simp) = b
                rw [← Array.getElem_toList]
                simp [hS]
              rw [this]
            rw [this, Int.toNat_natCast, UInt8.ofNat_toNat]
          rw [e0]
          rfl
end Go.Proofs.YtfohecpfenegkaaGreat.Print
end
section
set_option linter.unusedVariables false
set_option linter.unusedSimpArgs false
namespace Go.Proofs.YtfohecpfenegkaaGreat.Print
open Go.RowKit Go.Proofs.YtfohecpfenegkaaGreatW.PrintWords Go.Proofs.YtfohecpfenegkaaGreatW.PrintMore
def SeenOK (D : Nat) (p : List Int) : Prop := (∀ x, x ∈ p → 0 ≤ x ∧ x < (D : Int)) ∧ ∀ m : Nat, m < D → (m : Int) ∈ p
theorem rd_at_mid (A B : List Int) (x : Int) : rd (A ++ x :: B) (A.length : Int) = x := by simp [rd, List.getD_eq_getElem?_getD]
theorem index_ev (u : List Bool) (hu : u.length ≤ 1000000) : ∀ (n i : Nat), i + n = u.length → (∀ m : Nat, m < i → rdOf false u (m : Int) = true) → ∃ r : Int, Ev (fun k => slices_Index_bool_bool.l0 k u false (u.length : Int) (i : Int)) r ∧ ((r = -1 ∧ ∀ m : Nat, m < u.length → rdOf false u (m : Int) = true) ∨ (0 ≤ r ∧ ∃ m : Nat, m < u.length ∧ rdOf false u (m : Int) = false))
  | 0, i, h, hp => ⟨-1, Ev.step (fun k => slices_Index_bool_bool.l0_succ k _ _ _ _) (Ev.no (by omega) (Ev.now _)), .inl ⟨rfl, fun m hm => hp m (by omega)⟩⟩
  | n + 1, i, h, hp => by
    by_cases c : rdOf false u (i : Int) = true
    · have e := Aside0.mk (show wrap64 ((i : Int) + 1) = ((i + 1 : Nat) : Int) by unfold wrap64; omega)
      obtain ⟨r, h1, h2⟩ := index_ev u hu n (i + 1) (by omega) (fun m hm => by
        by_cases q : m = i
        · subst q; exact c
        · exact hp m (by omega))
      rw [← e.out] at h1
      exact ⟨r, Ev.step (fun k => slices_Index_bool_bool.l0_succ k _ _ _ _) (Ev.yes (by omega) (Ev.yes (by omega) (Ev.yes (by omega) (Ev.no (by rw [c]; decide) h1)))), h2⟩
    · have c' : rdOf false u (i : Int) = false := by simpa using c
      exact ⟨(i : Int), Ev.step (fun k => slices_Index_bool_bool.l0_succ k _ _ _ _) (Ev.yes (by omega) (Ev.yes (by omega) (Ev.yes (by omega) (Ev.yes (by rw [c']; decide) (Ev.now _))))), .inr ⟨by omega, i, by omega, c'⟩⟩
theorem contains_ev (u : List Bool) (hu : u.length ≤ 1000000) : ∃ b : Bool, Ev (fun k => slices_Contains_bool_bool.f k u false) b ∧ (b = false ↔ ∀ m : Nat, m < u.length → rdOf false u (m : Int) = true) := by
  obtain ⟨r, h1, h2⟩ := index_ev u hu u.length 0 (by omega) (fun m hm => absurd hm (Nat.not_lt_zero m))
  refine ⟨decide (r ≥ 0), Ev.bind (show Ev (fun k => slices_Index_bool_bool.f k u false) r from h1) (Ev.now _), ?_⟩
  rcases h2 with ⟨rfl, h⟩ | ⟨h, m, hm, e⟩
  · exact ⟨fun _ => h, fun _ => by decide⟩
  · constructor
    · intro q
      exact absurd h (of_decide_eq_false q)
    · intro q
      rw [q m hm] at e
      cases e
theorem oneint_ev (s : ByteArray) (hs : s.size ≤ 1000000) : Ev (fun k => dict_TakeInts_1.f k s) (match itV s with | none => (0, 0) | some (x, u) => (x, (u : Int))) := by
  have h1 := vint_Take_ev s (by omega)
  unfold itV
  rcases takeV_or s with e | ⟨x, j, hx, hj1, hj2, hj3, e⟩
  · rw [e] at h1 ⊢
    exact Ev.bind h1 (Ev.no (by decide) (Ev.now _))
  · rw [e] at h1 ⊢
    exact Ev.bind h1 (Ev.yes rfl (Ev.now _))
theorem int_seen (D : Nat) (d : List Int) (p : List Int) (hD : D ≤ 100000) (hp : p.length ≤ 65536) {R : List Int × List Int × Int} (hy : SeenOK D p → R = (d, p, 0)) (hn : ¬ SeenOK D p → R = ([], [], 20)) : ∀ (B A : List Int) (u : List Bool), p = A ++ B → u.length = D →
    (∀ x, x ∈ A → 0 ≤ x ∧ x < (D : Int)) → (∀ m : Nat, m < D → (rdOf false u (m : Int) = true ↔ (m : Int) ∈ A)) → Ev (fun k => dict_take_int_fn17.l1 k (D : Int) d p u p (p.length : Int) (A.length : Int)) R
  | [], A, u, h, hu, hA, hq => by
    rw [List.append_nil] at h
    subst h
    obtain ⟨b, hb, e⟩ := contains_ev u (by omega)
    refine Ev.step (fun k => dict_take_int_fn17.l1_succ k _ _ _ _ _ _ _) (Ev.no (by omega) (Ev.bind hb ?_))
    by_cases c : b = true
    · have : ¬ SeenOK D p := fun s => by
        have : b = false := e.2 fun m hm => (hq m (by omega)).2 (s.2 m (by omega))
        rw [this] at c
        cases c
      rw [hn this]
      exact Ev.yes c (Ev.now _)
    · have hb' := e.1 (by simpa using c)
      rw [hy ⟨hA, fun m hm => (hq m hm).1 (hb' m (by omega))⟩]
      exact Ev.no c (Ev.now _)
  | x :: B, A, u, h, hu, hA, hq => by
    have hlen : p.length = A.length + (B.length + 1) := by rw [h]; simp
    have er : rd p (A.length : Int) = x := by rw [h]; exact rd_at_mid A B x
    have ei := Aside0.mk (show wrap64 ((A.length : Int) + 1) = ((A ++ [x]).length : Int) by simp; unfold wrap64; omega)
    refine Ev.step (fun k => dict_take_int_fn17.l1_succ k _ _ _ _ _ _ _) (Ev.yes (by omega) (Ev.yes (by omega) (Ev.yes (by omega) ?_)))
    rw [er]
    have hxp : x ∈ p := by rw [h]; simp
    by_cases c1 : x < 0
    · rw [hn fun s => by have := s.1 x hxp; omega]
      exact Ev.yes c1 (Ev.now _)
    by_cases c2 : x ≥ (D : Int)
    · rw [hn fun s => by have := s.1 x hxp; omega]
      exact Ev.no c1 (Ev.yes c2 (Ev.now _))
    obtain ⟨k, rfl⟩ : ∃ k : Nat, x = (k : Int) := ⟨x.toNat, by omega⟩
    have ih := int_seen D d p hD hp hy hn B (A ++ [(k : Int)]) (u.set k true) (by rw [h]; simp) (by rw [List.length_set]; exact hu) (fun y hy => by
      rcases List.mem_append.1 hy with q | q
      · exact hA y q
      · rw [List.mem_singleton.1 q]; omega) (fun m hm => by
      rw [List.mem_append, List.mem_singleton, ← hq m hm]
      by_cases c : m = k
      · subst c
        simp [rdOf, List.getD_eq_getElem?_getD, List.getElem?_set, show m < u.length by omega]
      · rw [or_iff_left (by omega)]
        simp [rdOf, List.getD_eq_getElem?_getD, List.getElem?_set, show ¬ k = m by omega])
    rw [← ei.out] at ih
    rw [Int.toNat_natCast]
    exact Ev.no c1 (Ev.no c2 (Ev.yes (by omega) (Ev.yes (by omega) ih)))
theorem int_loop (s : ByteArray) (hs : s.size ≤ 1000000) (n D a0 : Nat) (hD1 : 1 ≤ D) (hD : D ≤ 65536) (hn6 : n ≤ 65536) {R : List Int × List Int × Int}
    (hy : ∀ d e p, rdN itV s D a0 = some (d, e) → d.Pairwise ltint → takeR (tlB s e) (n : Int) (widL [(D : Int) - 1]) = (p, 0) → SeenOK D p → R = (d, p, 0))
    (hn : (∀ d e p, rdN itV s D a0 = some (d, e) → d.Pairwise ltint → takeR (tlB s e) (n : Int) (widL [(D : Int) - 1]) = (p, 0) → SeenOK D p → False) → R = ([], [], 20)) :
    ∀ (m a : Nat) (A : List Int), A.length + m = D → a ≤ s.size → A.Pairwise ltint → rdN itV s D a0 = (rdN itV s m a).map (fun q => (A ++ q.1, q.2)) → Ev (fun k => dict_take_int_fn17.l0 k s (n : Int) (D : Int) (a : Int) A (D : Int) (A.length : Int)) R
  | 0, a, A, hA, ha, hr, hsp => by
    have hsp' : rdN itV s D a0 = some (A, a) := by rw [hsp]; simp [rdN]
    have e1 := Aside0.mk (show wrap64 ((D : Int) - 1) = (D : Int) - 1 by unfold wrap64; omega)
    have hpw := pack_Width_ev [(D : Int) - 1] (by simp)
    have htk := pack_Take_ev (tlB s a) (n : Int) (widL [(D : Int) - 1]) (by rw [tl_size]; omega)
    refine Ev.step (fun k => dict_take_int_fn17.l0_succ k _ _ _ _ _ _ _) (Ev.no (by omega) (Ev.yes (by omega) (Ev.yes (by omega) ?_)))
    rw [e1.out, Int.toNat_natCast, Int.toNat_natCast]
    refine Ev.bind hpw (Ev.bind htk ?_)
    have hw := widL_le [(D : Int) - 1]
    by_cases c : (takeR (tlB s a) (n : Int) (widL [(D : Int) - 1])).2 = 0
    · obtain ⟨w, ew⟩ : ∃ w : Nat, widL [(D : Int) - 1] = (w : Int) := ⟨(widL [(D : Int) - 1]).toNat, by omega⟩
      have hpl := (takeR_canon (s := tlB s a) (n := n) (w := w) (p := (takeR (tlB s a) (n : Int) (widL [(D : Int) - 1])).1) (by omega) hn6 (by rw [← ew]; exact Prod.ext rfl c)).1
      refine Ev.yes c (Ev.yes (by omega) (Ev.yes (by omega) ?_))
      exact int_seen D A (takeR (tlB s a) (n : Int) (widL [(D : Int) - 1])).1 (by omega) (by omega) (fun h => hy A a _ hsp' hr (Prod.ext rfl c) h) (fun h => hn fun d e p h1 h2 h3 h4 => h (by
        rw [hsp'] at h1
        obtain ⟨rfl, rfl⟩ := Prod.mk.inj (Option.some.inj h1)
        rw [h3]
        exact h4)) _ [] (List.replicate D false) rfl (by simp) (fun x hx => absurd hx List.not_mem_nil) (fun m hm => ⟨fun h => absurd h (by simp [rdOf, List.getD_eq_getElem?_getD, List.getElem?_replicate, hm]), fun h => absurd h List.not_mem_nil⟩)
    · rw [hn fun d e p h1 h2 h3 h4 => c (by
        rw [hsp'] at h1
        obtain ⟨rfl, rfl⟩ := Prod.mk.inj (Option.some.inj h1)
        rw [h3])]
      exact Ev.no c (Ev.now _)
  | m + 1, a, A, hA, ha, hr, hsp => by
    have ei : ∀ x : Int, Aside0 (wrap64 ((A.length : Int) + 1) = ((A ++ [x]).length : Int)) := fun x => Aside0.mk (by simp; unfold wrap64; omega)
    have hone := oneint_ev (tlB s a) (by rw [tl_size]; omega)
    refine Ev.step (fun k => dict_take_int_fn17.l0_succ k _ _ _ _ _ _ _) (Ev.yes (by omega) (Ev.yes (by omega) (Ev.yes (by omega) ?_)))
    rw [Int.toNat_natCast]
    refine Ev.bind hone ?_
    cases hi : itV (tlB s a) with
    | none =>
      rw [hn fun d e p h1 => by rw [hsp] at h1; simp [rdN, hi] at h1]
      exact Ev.yes rfl (Ev.now _)
    | some q =>
      obtain ⟨x, u⟩ := q
      obtain ⟨c1, c2, c3, c4⟩ := rdrV.canon _ _ _ hi
      rw [tl_size] at c2
      dsimp only
      refine Ev.no (by omega) ?_
      have hsp2 : rdN itV s D a0 = (rdN itV s m (a + u)).map (fun q => (A ++ [x] ++ q.1, q.2)) := by
        rw [hsp]
        simp only [rdN, hi]
        cases rdN itV s m (a + u) with
        | none => rfl
        | some q => simp
      have ea := Aside0.mk (show wrap64 ((a : Int) + (u : Int)) = ((a + u : Nat) : Int) by unfold wrap64; omega)
      have ih : (A ++ [x]).Pairwise ltint → Ev (fun k => dict_take_int_fn17.l0 k s (n : Int) (D : Int) ((a + u : Nat) : Int) (A ++ [x]) (D : Int) ((A ++ [x]).length : Int)) R := fun hr' => int_loop s hs n D a0 hD1 hD hn6 hy hn m (a + u) (A ++ [x]) (by simp; omega) (by omega) hr' hsp2
      rcases List.eq_nil_or_concat A with hA0 | ⟨C, y, hA0⟩
      · have ih' := ih (by rw [hA0]; simp)
        rw [← ea.out, ← (ei x).out] at ih'
        exact Ev.no (by rw [hA0]; decide) (Ev.yes (by omega) ih')
      · rw [List.concat_eq_append] at hA0
        have hAl : A.length = C.length + 1 := by rw [hA0]; simp
        have ey := Aside0.mk (show wrap64 ((A.length : Int) - 1) = (C.length : Int) by unfold wrap64; omega)
        have er : rd A (C.length : Int) = y := by rw [hA0]; simp [rd, List.getD_eq_getElem?_getD]
        rw [ey.out, er]
        refine Ev.yes (by omega) (Ev.yes (by omega) (Ev.yes (by omega) ?_))
        by_cases c : ltint y x
        · have ih' := ih (List.pairwise_append.2 ⟨hr, by simp, fun z hz v hv => by
            rw [List.mem_singleton.1 hv]
            rw [hA0] at hz hr
            rcases List.mem_append.1 hz with hz | hz
            · exact soint.tr ((List.pairwise_append.1 hr).2.2 z hz y (by simp)) c
            · rw [List.mem_singleton.1 hz]; exact c⟩)
          rw [← ea.out, ← (ei x).out] at ih'
          exact Ev.no (Int.not_le.2 (id c)) (Ev.yes (by omega) ih')
        · rw [hn fun d e p h1 h2 => by
            rw [hsp2] at h1
            cases hq : rdN itV s m (a + u) with
            | none => rw [hq] at h1; cases h1
            | some q =>
              rw [hq] at h1
              have e1 : A ++ [x] ++ q.1 = d := congrArg Prod.fst (Option.some.inj h1)
              rw [← e1, hA0, List.append_assoc] at h2
              exact absurd ((List.pairwise_append.1 (show (C ++ [y] ++ ([x] ++ q.1)).Pairwise ltint from by simpa using h2)).2.2 y (by simp) x (by simp)) c]
          exact Ev.yes (Int.not_lt.1 (fun h => c (id h))) (Ev.now _)
theorem int_take (s : ByteArray) (hs : s.size ≤ 1000000) (n : Nat) (h1 : 1 ≤ n) (h2 : n ≤ 65536) {R : List Int × List Int × Int} (hy : ∀ l d p, Good ltint putV InI s l d p → l.length = n → R = (d, p, 0))
    (hn : (∀ l d p, Good ltint putV InI s l d p → ¬ l.length = n) → R = ([], [], 20)) : Ev (fun k => dict_take_int_fn17.f k s (n : Int)) R := by
  have hvt := vint_Take_ev s (by omega)
  unfold dict_take_int_fn17.f
  refine Ev.no (by omega) ?_
  rw [decide_eq_false (show ¬ (n : Int) > 65536 by omega)]
  refine Ev.step (fun k => dict_take_int_fn17.j0_succ k _ _ _) (Ev.no (by decide) (Ev.no (by omega) (Ev.bind hvt ?_)))
  have bad : (∀ l d p, Good ltint putV InI s l d p → ¬ l.length = n) → ∀ (x y : Int), Ev (fun k => dict_take_int_fn17.j1 k s (n : Int) x y true) R := fun h x y => by
    rw [hn h]
    exact Ev.step (fun k => dict_take_int_fn17.j1_succ k _ _ _ _ _) (Ev.yes rfl (Ev.now _))
  rcases takeV_or s with e | ⟨x, j, hx, hj1, hj2, hj3, e⟩
  · have hno : ∀ l d p, Good ltint putV InI s l d p → ¬ l.length = n := fun l d p g => by
      have := (g.parse soint rdrV).1
      rw [e] at this
      have := congrArg (fun z => z.2.2) this
      exact absurd this (show ¬ (20 : Int) = 0 by decide)
    rw [e]
    exact Ev.no (by decide) (bad hno _ _)
  · rw [e]
    refine Ev.yes rfl ?_
    have hD : ∀ l d p, Good ltint putV InI s l d p → x = (d.length : Int) ∧ 1 ≤ d.length ∧ d.length ≤ l.length ∧ (j : Int) = ((putV (d.length : Int)).size : Int) := fun l d p g => by
      have := (g.parse soint rdrV).1
      rw [e] at this
      exact ⟨congrArg (fun z => z.1) this, g.dpos, g.dle, congrArg (fun z => z.2.1) this⟩
    by_cases c1 : x < 1
    · exact Ev.yes c1 (bad (fun l d p g hl => by have := hD l d p g; omega) _ _)
    refine Ev.no c1 ?_
    by_cases c2 : x > (n : Int)
    · rw [decide_eq_true c2]
      exact bad (fun l d p g hl => by have := hD l d p g; omega) _ _
    rw [decide_eq_false c2]
    obtain ⟨D, rfl⟩ : ∃ D : Nat, x = (D : Int) := ⟨x.toNat, by omega⟩
    refine Ev.step (fun k => dict_take_int_fn17.j1_succ k _ _ _ _ _) (Ev.no (by decide) ?_)
    refine int_loop s hs n D j (by omega) (by omega) h2 (fun d e' p r1 r2 r3 r4 => ?_) (fun h => hn fun l d p g hl => ?_) D j [] (by simp) hj3 List.Pairwise.nil (by simp)
    · obtain ⟨g, g1, g2⟩ := Good.of soint rdrV 0 (by omega) (by omega) h2 e r1 r3 r2 r4.1 r4.2
      exact hy _ d p g (by rw [List.length_map]; exact g1)
    · obtain ⟨q1, q2, q3, q4⟩ := hD l d p g
      have hp := g.parse soint rdrV
      obtain rfl : D = d.length := by omega
      obtain rfl : j = (putV (d.length : Int)).size := by omega
      subst hl
      exact h d _ p hp.2.1 g.isof.1 hp.2.2 ⟨g.isof.inside, g.isof.all soint⟩
theorem int_flat_loop {l d : List Int} {p : List Int} (hl : l.length ≤ 65536) (hdl : d.length ≤ 65536) (h : IsOf ltint l d p) : ∀ (n i : Nat), i + n = l.length → Ev (fun k => dict_flat_int.l0 k d (l.take i) p (p.length : Int) (i : Int)) l
  | 0, i, h' => by
    have hp := h.2.2.1
    exact Ev.step (fun k => dict_flat_int.l0_succ k _ _ _ _ _) (Ev.no (by omega) (Ev.val (List.take_of_length_le (by omega))))
  | n + 1, i, h' => by
    have hp := h.2.2.1
    have hi : i < l.length := by omega
    obtain ⟨k, hk, a, b⟩ := h.2.2.2 i hi
    have er : rd p (i : Int) = (k : Int) := by simp [rd, List.getD_eq_getElem?_getD, a]
    have ed : rd d (k : Int) = l[i] := by rw [← b]; exact slices_Compact_int_int.rd_get d k hk
    have ei := Aside0.mk (show wrap64 ((i : Int) + 1) = ((i + 1 : Nat) : Int) by unfold wrap64; omega)
    have ih := int_flat_loop hl hdl h n (i + 1) (by omega)
    rw [List.take_succ_eq_append_getElem hi, ← ei.out] at ih
    refine Ev.step (fun k => dict_flat_int.l0_succ k _ _ _ _ _) (Ev.yes (by omega) (Ev.yes (by omega) ?_))
    rw [er]
    refine Ev.yes (by omega) (Ev.yes (by omega) (Ev.yes (by omega) (Ev.yes (by simp; omega) ?_)))
    rw [ed]
    exact ih
theorem int_flat {l d : List Int} {p : List Int} (hl : l.length ≤ 65536) (hdl : d.length ≤ 65536) (h : IsOf ltint l d p) : Ev (fun k => dict_flat_int.f k d p) l := by
  have := int_flat_loop hl hdl h l.length 0 (by omega)
  exact this
theorem onestring_ev (s : ByteArray) (hs : s.size ≤ 1000000) : dict_Places_1.f s = some (match itS s with | none => ((⟨#[]⟩ : ByteArray), (0 : Int)) | some (x, u) => (x, (u : Int))) := by
  unfold dict_Places_1.f itS
  have hbr := bt_range s 0
  by_cases c : s.size = 0
  · rw [if_pos c, if_pos (by rw [Lib.toList_data]; exact List.length_eq_zero_iff.1 (by rw [bl_len]; exact c))]
  · rw [if_neg c, if_neg (fun h => c (by rw [← bl_len, ← Lib.toList_data, h]; rfl)), if_pos (by omega)]
    have ew := Aside0.mk (show wrap64 (bt s 0) = bt s 0 by unfold wrap64; omega)
    have ew2 := Aside0.mk (show wrap64 (1 + bt s 0) = 1 + bt s 0 by unfold wrap64; omega)
    rw [ew.out, ew2.out]
    by_cases c1 : bt s 0 > 32
    · rw [if_pos c1, if_pos (by omega)]
    rw [if_neg c1]
    by_cases c2 : bt s 0 ≥ (s.size : Int)
    · rw [if_pos c2, if_pos (by omega)]
    rw [if_neg c2, if_pos (by omega), if_pos (by omega), if_neg (by omega)]
    obtain ⟨b, eb⟩ : ∃ b : Nat, bt s 0 = (b : Int) := ⟨(bt s 0).toNat, by omega⟩
    rw [eb, show (1 + (b : Int)).toNat = 1 + b by omega, Int.toNat_natCast]
    simp
theorem string_seen (D : Nat) (d : List ByteArray) (p : List Int) (hD : D ≤ 100000) (hp : p.length ≤ 65536) {R : List ByteArray × List Int × Int} (hy : SeenOK D p → R = (d, p, 0)) (hn : ¬ SeenOK D p → R = ([], [], 20)) : ∀ (B A : List Int) (u : List Bool), p = A ++ B → u.length = D →
    (∀ x, x ∈ A → 0 ≤ x ∧ x < (D : Int)) → (∀ m : Nat, m < D → (rdOf false u (m : Int) = true ↔ (m : Int) ∈ A)) → Ev (fun k => dict_take_string_fn29.l1 k (D : Int) d p u p (p.length : Int) (A.length : Int)) R
  | [], A, u, h, hu, hA, hq => by
    rw [List.append_nil] at h
    subst h
    obtain ⟨b, hb, e⟩ := contains_ev u (by omega)
    refine Ev.step (fun k => dict_take_string_fn29.l1_succ k _ _ _ _ _ _ _) (Ev.no (by omega) (Ev.bind hb ?_))
    by_cases c : b = true
    · have : ¬ SeenOK D p := fun s => by
        have : b = false := e.2 fun m hm => (hq m (by omega)).2 (s.2 m (by omega))
        rw [this] at c
        cases c
      rw [hn this]
      exact Ev.yes c (Ev.now _)
    · have hb' := e.1 (by simpa using c)
      rw [hy ⟨hA, fun m hm => (hq m hm).1 (hb' m (by omega))⟩]
      exact Ev.no c (Ev.now _)
  | x :: B, A, u, h, hu, hA, hq => by
    have hlen : p.length = A.length + (B.length + 1) := by rw [h]; simp
    have er : rd p (A.length : Int) = x := by rw [h]; exact rd_at_mid A B x
    have ei := Aside0.mk (show wrap64 ((A.length : Int) + 1) = ((A ++ [x]).length : Int) by simp; unfold wrap64; omega)
    refine Ev.step (fun k => dict_take_string_fn29.l1_succ k _ _ _ _ _ _ _) (Ev.yes (by omega) (Ev.yes (by omega) (Ev.yes (by omega) ?_)))
    rw [er]
    have hxp : x ∈ p := by rw [h]; simp
    by_cases c1 : x < 0
    · rw [hn fun s => by have := s.1 x hxp; omega]
      exact Ev.yes c1 (Ev.now _)
    by_cases c2 : x ≥ (D : Int)
    · rw [hn fun s => by have := s.1 x hxp; omega]
      exact Ev.no c1 (Ev.yes c2 (Ev.now _))
    obtain ⟨k, rfl⟩ : ∃ k : Nat, x = (k : Int) := ⟨x.toNat, by omega⟩
    have ih := string_seen D d p hD hp hy hn B (A ++ [(k : Int)]) (u.set k true) (by rw [h]; simp) (by rw [List.length_set]; exact hu) (fun y hy => by
      rcases List.mem_append.1 hy with q | q
      · exact hA y q
      · rw [List.mem_singleton.1 q]; omega) (fun m hm => by
      rw [List.mem_append, List.mem_singleton, ← hq m hm]
      by_cases c : m = k
      · subst c
        simp [rdOf, List.getD_eq_getElem?_getD, List.getElem?_set, show m < u.length by omega]
      · rw [or_iff_left (by omega)]
        simp [rdOf, List.getD_eq_getElem?_getD, List.getElem?_set, show ¬ k = m by omega])
    rw [← ei.out] at ih
    rw [Int.toNat_natCast]
    exact Ev.no c1 (Ev.no c2 (Ev.yes (by omega) (Ev.yes (by omega) ih)))
theorem string_loop (s : ByteArray) (hs : s.size ≤ 1000000) (n D a0 : Nat) (hD1 : 1 ≤ D) (hD : D ≤ 65536) (hn6 : n ≤ 65536) {R : List ByteArray × List Int × Int}
    (hy : ∀ d e p, rdN itS s D a0 = some (d, e) → d.Pairwise ltstring → takeR (tlB s e) (n : Int) (widL [(D : Int) - 1]) = (p, 0) → SeenOK D p → R = (d, p, 0))
    (hn : (∀ d e p, rdN itS s D a0 = some (d, e) → d.Pairwise ltstring → takeR (tlB s e) (n : Int) (widL [(D : Int) - 1]) = (p, 0) → SeenOK D p → False) → R = ([], [], 20)) :
    ∀ (m a : Nat) (A : List ByteArray), A.length + m = D → a ≤ s.size → A.Pairwise ltstring → rdN itS s D a0 = (rdN itS s m a).map (fun q => (A ++ q.1, q.2)) → Ev (fun k => dict_take_string_fn29.l0 k s (n : Int) (D : Int) (a : Int) A (D : Int) (A.length : Int)) R
  | 0, a, A, hA, ha, hr, hsp => by
    have hsp' : rdN itS s D a0 = some (A, a) := by rw [hsp]; simp [rdN]
    have e1 := Aside0.mk (show wrap64 ((D : Int) - 1) = (D : Int) - 1 by unfold wrap64; omega)
    have hpw := pack_Width_ev [(D : Int) - 1] (by simp)
    have htk := pack_Take_ev (tlB s a) (n : Int) (widL [(D : Int) - 1]) (by rw [tl_size]; omega)
    refine Ev.step (fun k => dict_take_string_fn29.l0_succ k _ _ _ _ _ _ _) (Ev.no (by omega) (Ev.yes (by omega) (Ev.yes (by omega) ?_)))
    rw [e1.out, Int.toNat_natCast, Int.toNat_natCast]
    refine Ev.bind hpw (Ev.bind htk ?_)
    have hw := widL_le [(D : Int) - 1]
    by_cases c : (takeR (tlB s a) (n : Int) (widL [(D : Int) - 1])).2 = 0
    · obtain ⟨w, ew⟩ : ∃ w : Nat, widL [(D : Int) - 1] = (w : Int) := ⟨(widL [(D : Int) - 1]).toNat, by omega⟩
      have hpl := (takeR_canon (s := tlB s a) (n := n) (w := w) (p := (takeR (tlB s a) (n : Int) (widL [(D : Int) - 1])).1) (by omega) hn6 (by rw [← ew]; exact Prod.ext rfl c)).1
      refine Ev.yes c (Ev.yes (by omega) (Ev.yes (by omega) ?_))
      exact string_seen D A (takeR (tlB s a) (n : Int) (widL [(D : Int) - 1])).1 (by omega) (by omega) (fun h => hy A a _ hsp' hr (Prod.ext rfl c) h) (fun h => hn fun d e p h1 h2 h3 h4 => h (by
        rw [hsp'] at h1
        obtain ⟨rfl, rfl⟩ := Prod.mk.inj (Option.some.inj h1)
        rw [h3]
        exact h4)) _ [] (List.replicate D false) rfl (by simp) (fun x hx => absurd hx List.not_mem_nil) (fun m hm => ⟨fun h => absurd h (by simp [rdOf, List.getD_eq_getElem?_getD, List.getElem?_replicate, hm]), fun h => absurd h List.not_mem_nil⟩)
    · rw [hn fun d e p h1 h2 h3 h4 => c (by
        rw [hsp'] at h1
        obtain ⟨rfl, rfl⟩ := Prod.mk.inj (Option.some.inj h1)
        rw [h3])]
      exact Ev.no c (Ev.now _)
  | m + 1, a, A, hA, ha, hr, hsp => by
    have ei : ∀ x : ByteArray, Aside0 (wrap64 ((A.length : Int) + 1) = ((A ++ [x]).length : Int)) := fun x => Aside0.mk (by simp; unfold wrap64; omega)
    have hone := onestring_ev (tlB s a) (by rw [tl_size]; omega)
    refine Ev.step (fun k => dict_take_string_fn29.l0_succ k _ _ _ _ _ _ _) (Ev.yes (by omega) (Ev.yes (by omega) (Ev.yes (by omega) ?_)))
    rw [Int.toNat_natCast]
    refine Ev.call hone ?_
    cases hi : itS (tlB s a) with
    | none =>
      rw [hn fun d e p h1 => by rw [hsp] at h1; simp [rdN, hi] at h1]
      exact Ev.yes rfl (Ev.now _)
    | some q =>
      obtain ⟨x, u⟩ := q
      obtain ⟨c1, c2, c3, c4⟩ := rdrS.canon _ _ _ hi
      rw [tl_size] at c2
      dsimp only
      refine Ev.no (by omega) ?_
      have hsp2 : rdN itS s D a0 = (rdN itS s m (a + u)).map (fun q => (A ++ [x] ++ q.1, q.2)) := by
        rw [hsp]
        simp only [rdN, hi]
        cases rdN itS s m (a + u) with
        | none => rfl
        | some q => simp
      have ea := Aside0.mk (show wrap64 ((a : Int) + (u : Int)) = ((a + u : Nat) : Int) by unfold wrap64; omega)
      have ih : (A ++ [x]).Pairwise ltstring → Ev (fun k => dict_take_string_fn29.l0 k s (n : Int) (D : Int) ((a + u : Nat) : Int) (A ++ [x]) (D : Int) ((A ++ [x]).length : Int)) R := fun hr' => string_loop s hs n D a0 hD1 hD hn6 hy hn m (a + u) (A ++ [x]) (by simp; omega) (by omega) hr' hsp2
      rcases List.eq_nil_or_concat A with hA0 | ⟨C, y, hA0⟩
      · have ih' := ih (by rw [hA0]; simp)
        rw [← ea.out, ← (ei x).out] at ih'
        exact Ev.no (by rw [hA0]; decide) (Ev.yes (by omega) ih')
      · rw [List.concat_eq_append] at hA0
        have hAl : A.length = C.length + 1 := by rw [hA0]; simp
        have ey := Aside0.mk (show wrap64 ((A.length : Int) - 1) = (C.length : Int) by unfold wrap64; omega)
        have er : rdOf ByteArray.empty A (C.length : Int) = y := by rw [hA0]; simp [rdOf, List.getD_eq_getElem?_getD]
        rw [ey.out, er]
        refine Ev.yes (by omega) (Ev.yes (by omega) (Ev.yes (by omega) ?_))
        by_cases c : ltstring y x
        · have ih' := ih (List.pairwise_append.2 ⟨hr, by simp, fun z hz v hv => by
            rw [List.mem_singleton.1 hv]
            rw [hA0] at hz hr
            rcases List.mem_append.1 hz with hz | hz
            · exact sostring.tr ((List.pairwise_append.1 hr).2.2 z hz y (by simp)) c
            · rw [List.mem_singleton.1 hz]; exact c⟩)
          rw [← ea.out, ← (ei x).out] at ih'
          exact Ev.yes (blY c) (Ev.yes (by omega) ih')
        · rw [hn fun d e p h1 h2 => by
            rw [hsp2] at h1
            cases hq : rdN itS s m (a + u) with
            | none => rw [hq] at h1; cases h1
            | some q =>
              rw [hq] at h1
              have e1 : A ++ [x] ++ q.1 = d := congrArg Prod.fst (Option.some.inj h1)
              rw [← e1, hA0, List.append_assoc] at h2
              exact absurd ((List.pairwise_append.1 (show (C ++ [y] ++ ([x] ++ q.1)).Pairwise ltstring from by simpa using h2)).2.2 y (by simp) x (by simp)) c]
          exact Ev.no (fun h => c (blN h)) (Ev.now _)
theorem string_take (s : ByteArray) (hs : s.size ≤ 1000000) (n : Nat) (h1 : 1 ≤ n) (h2 : n ≤ 65536) {R : List ByteArray × List Int × Int} (hy : ∀ l d p, Good ltstring putS okS s l d p → l.length = n → R = (d, p, 0))
    (hn : (∀ l d p, Good ltstring putS okS s l d p → ¬ l.length = n) → R = ([], [], 20)) : Ev (fun k => dict_take_string_fn29.f k s (n : Int)) R := by
  have hvt := vint_Take_ev s (by omega)
  unfold dict_take_string_fn29.f
  refine Ev.no (by omega) ?_
  rw [decide_eq_false (show ¬ (n : Int) > 65536 by omega)]
  refine Ev.step (fun k => dict_take_string_fn29.j0_succ k _ _ _) (Ev.no (by decide) (Ev.no (by omega) (Ev.bind hvt ?_)))
  have bad : (∀ l d p, Good ltstring putS okS s l d p → ¬ l.length = n) → ∀ (x y : Int), Ev (fun k => dict_take_string_fn29.j1 k s (n : Int) x y true) R := fun h x y => by
    rw [hn h]
    exact Ev.step (fun k => dict_take_string_fn29.j1_succ k _ _ _ _ _) (Ev.yes rfl (Ev.now _))
  rcases takeV_or s with e | ⟨x, j, hx, hj1, hj2, hj3, e⟩
  · have hno : ∀ l d p, Good ltstring putS okS s l d p → ¬ l.length = n := fun l d p g => by
      have := (g.parse sostring rdrS).1
      rw [e] at this
      have := congrArg (fun z => z.2.2) this
      exact absurd this (show ¬ (20 : Int) = 0 by decide)
    rw [e]
    exact Ev.no (by decide) (bad hno _ _)
  · rw [e]
    refine Ev.yes rfl ?_
    have hD : ∀ l d p, Good ltstring putS okS s l d p → x = (d.length : Int) ∧ 1 ≤ d.length ∧ d.length ≤ l.length ∧ (j : Int) = ((putV (d.length : Int)).size : Int) := fun l d p g => by
      have := (g.parse sostring rdrS).1
      rw [e] at this
      exact ⟨congrArg (fun z => z.1) this, g.dpos, g.dle, congrArg (fun z => z.2.1) this⟩
    by_cases c1 : x < 1
    · exact Ev.yes c1 (bad (fun l d p g hl => by have := hD l d p g; omega) _ _)
    refine Ev.no c1 ?_
    by_cases c2 : x > (n : Int)
    · rw [decide_eq_true c2]
      exact bad (fun l d p g hl => by have := hD l d p g; omega) _ _
    rw [decide_eq_false c2]
    obtain ⟨D, rfl⟩ : ∃ D : Nat, x = (D : Int) := ⟨x.toNat, by omega⟩
    refine Ev.step (fun k => dict_take_string_fn29.j1_succ k _ _ _ _ _) (Ev.no (by decide) ?_)
    refine string_loop s hs n D j (by omega) (by omega) h2 (fun d e' p r1 r2 r3 r4 => ?_) (fun h => hn fun l d p g hl => ?_) D j [] (by simp) hj3 List.Pairwise.nil (by simp)
    · obtain ⟨g, g1, g2⟩ := Good.of sostring rdrS ByteArray.empty (by omega) (by omega) h2 e r1 r3 r2 r4.1 r4.2
      exact hy _ d p g (by rw [List.length_map]; exact g1)
    · obtain ⟨q1, q2, q3, q4⟩ := hD l d p g
      have hp := g.parse sostring rdrS
      obtain rfl : D = d.length := by omega
      obtain rfl : j = (putV (d.length : Int)).size := by omega
      subst hl
      exact h d _ p hp.2.1 g.isof.1 hp.2.2 ⟨g.isof.inside, g.isof.all sostring⟩
theorem string_flat_loop {l d : List ByteArray} {p : List Int} (hl : l.length ≤ 65536) (hdl : d.length ≤ 65536) (h : IsOf ltstring l d p) : ∀ (n i : Nat), i + n = l.length → Ev (fun k => dict_flat_string.l0 k d (l.take i) p (p.length : Int) (i : Int)) l
  | 0, i, h' => by
    have hp := h.2.2.1
    exact Ev.step (fun k => dict_flat_string.l0_succ k _ _ _ _ _) (Ev.no (by omega) (Ev.val (List.take_of_length_le (by omega))))
  | n + 1, i, h' => by
    have hp := h.2.2.1
    have hi : i < l.length := by omega
    obtain ⟨k, hk, a, b⟩ := h.2.2.2 i hi
    have er : rd p (i : Int) = (k : Int) := by simp [rd, List.getD_eq_getElem?_getD, a]
    have ed : rdOf ByteArray.empty d (k : Int) = l[i] := by rw [← b]; exact slices_Compact_string_string.rd_get d k hk
    have ei := Aside0.mk (show wrap64 ((i : Int) + 1) = ((i + 1 : Nat) : Int) by unfold wrap64; omega)
    have ih := string_flat_loop hl hdl h n (i + 1) (by omega)
    rw [List.take_succ_eq_append_getElem hi, ← ei.out] at ih
    refine Ev.step (fun k => dict_flat_string.l0_succ k _ _ _ _ _) (Ev.yes (by omega) (Ev.yes (by omega) ?_))
    rw [er]
    refine Ev.yes (by omega) (Ev.yes (by omega) (Ev.yes (by omega) (Ev.yes (by simp; omega) ?_)))
    rw [ed]
    exact ih
theorem string_flat {l d : List ByteArray} {p : List Int} (hl : l.length ≤ 65536) (hdl : d.length ≤ 65536) (h : IsOf ltstring l d p) : Ev (fun k => dict_flat_string.f k d p) l := by
  have := string_flat_loop hl hdl h l.length 0 (by omega)
  exact this
end Go.Proofs.YtfohecpfenegkaaGreat.Print
end
section
set_option linter.unusedVariables false
set_option linter.unusedSimpArgs false
namespace Go.Proofs.YtfohecpfenegkaaGreat.Print
open Go.RowKit Go.Proofs.YtfohecpfenegkaaGreatW.PrintWords Go.Proofs.YtfohecpfenegkaaGreatW.PrintMore
def putG {α : Type} (pt : α → ByteArray) (d : List α) (p : List Int) : ByteArray := putV (d.length : Int) ++ catL pt d ++ packV p
theorem catV_eq : ∀ d : List Int, catV d = catL putV d
  | [] => rfl
  | x :: d => by rw [show catV (x :: d) = putV x ++ catV d from rfl, catV_eq d]; rfl
theorem putI_eq (d p : List Int) : putI d p = putG putV d p := by unfold putI putG; rw [catV_eq]
theorem toL_inj {a b : ByteArray} (h : a.toList = b.toList) : a = b := by rw [Lib.toList_data, Lib.toList_data] at h; exact bl_ext h
instance (t : ByteArray) : Decidable (okS t) := by unfold okS; infer_instance
def putT (s : ByteArray) : List ByteArray → ByteArray × Int
  | [] => (s, 0)
  | x :: l => if okS x then putT (s ++ putS x) l else (ByteArray.empty, 1)
theorem putT_ok : ∀ (l : List ByteArray) (s : ByteArray), (∀ x, x ∈ l → okS x) → putT s l = (s ++ catL putS l, 0)
  | [], s, h => by rw [show catL putS [] = ByteArray.empty from rfl, ByteArray.append_empty]; rfl
  | x :: l, s, h => by
    simp only [putT]
    rw [if_pos (h x (by simp)), putT_ok l _ (fun y hy => h y (List.mem_cons_of_mem _ hy)), ByteArray.append_assoc]
    rfl
theorem putT_bad : ∀ (l : List ByteArray) (s : ByteArray), (¬ ∀ x, x ∈ l → okS x) → putT s l = (ByteArray.empty, 1)
  | [], s, h => absurd (fun x hx => absurd hx List.not_mem_nil) h
  | x :: l, s, h => by
    simp only [putT]
    by_cases c : okS x
    · rw [if_pos c]
      exact putT_bad l _ fun q => h fun y hy => by
        rcases List.mem_cons.1 hy with rfl | hy
        · exact c
        · exact q y hy
    · rw [if_neg c]
theorem catS_le : ∀ l : List ByteArray, (∀ x, x ∈ l → okS x) → (catL putS l).size ≤ 33 * l.length
  | [], _ => by simp [catL]
  | x :: l, h => by
    have h1 := catS_le l (fun y hy => h y (List.mem_cons_of_mem _ hy))
    have h2 : okS x := h x (by simp)
    unfold okS at h2
    have h3 := putS_size x
    rw [show catL putS (x :: l) = putS x ++ catL putS l from rfl, ByteArray.size_append, List.length_cons]
    omega
theorem plain_loop (d : List ByteArray) (hd : d.length ≤ 100000) : ∀ (B A : List ByteArray) (s : ByteArray), d = A ++ B → s.size + 33 * B.length ≤ 10000000 → Ev (fun k => plain_PutTexts.l0 k d s (A.length : Int)) (putT s B)
  | [], A, s, h, _ => by
    rw [List.append_nil] at h
    subst h
    exact Ev.step (fun k => plain_PutTexts.l0_succ k _ _ _) (Ev.no (by omega) (Ev.now _))
  | x :: B, A, s, h, hs => by
    have hlen : d.length = A.length + (B.length + 1) := by rw [h]; simp
    have er : rdOf ByteArray.empty d (A.length : Int) = x := by rw [h]; simp [rdOf, List.getD_eq_getElem?_getD]
    have ei := Aside0.mk (show wrap64 ((A.length : Int) + 1) = ((A ++ [x]).length : Int) by simp; unfold wrap64; omega)
    simp only [List.length_cons] at hs
    refine Ev.step (fun k => plain_PutTexts.l0_succ k _ _ _) (Ev.yes (by omega) (Ev.yes (by omega) ?_))
    rw [er]
    simp only [putT]
    by_cases c : okS x
    · rw [if_pos c]
      unfold okS at c
      have ih := plain_loop d hd B (A ++ [x]) (s ++ putS x) (by rw [h]; simp) (by rw [ByteArray.size_append, putS_size]; omega)
      rw [← ei.out] at ih
      rw [show s ++ byteS (x.size : Int) ++ x = s ++ putS x from ByteArray.append_assoc]
      exact Ev.no (by omega) (Ev.yes (by omega) ih)
    · rw [if_neg c]
      unfold okS at c
      exact Ev.yes (by omega) (Ev.now _)
theorem plain_ev (d : List ByteArray) (hd : d.length ≤ 65536) : Ev (fun k => plain_PutTexts.f k d) (putT ByteArray.empty d) := plain_loop d (by omega) d [] _ rfl (by simp; omega)
theorem bytesOf_app (a b : ByteArray) : bytesOf (a ++ b) = bytesOf a ++ bytesOf b := by unfold bytesOf; rw [bl_app, List.map_append]
theorem bytesOf_putS {x : ByteArray} (h : okS x) : bytesOf (putS x) = [((x.size : Int)) % 256] ++ bytesOf x := by
  unfold putS
  unfold okS at h
  rw [bytesOf_app]
  congr 1
theorem refplain_loop (d : List ByteArray) (hd : d.length ≤ 100000) : ∀ (B A : List ByteArray) (s : ByteArray), d = A ++ B → s.size + 33 * B.length ≤ 10000000 → Ev (fun k => peristyleref07_PutTexts.l0 k d (bytesOf s) (A.length : Int)) (putT s B)
  | [], A, s, h, _ => by
    rw [List.append_nil] at h
    subst h
    exact Ev.step (fun k => peristyleref07_PutTexts.l0_succ k _ _ _) (Ev.no (by omega) (Ev.val (by rw [str_bytesOf]; rfl)))
  | x :: B, A, s, h, hs => by
    have hlen : d.length = A.length + (B.length + 1) := by rw [h]; simp
    have er : rdOf ByteArray.empty d (A.length : Int) = x := by rw [h]; simp [rdOf, List.getD_eq_getElem?_getD]
    have ei := Aside0.mk (show wrap64 ((A.length : Int) + 1) = ((A ++ [x]).length : Int) by simp; unfold wrap64; omega)
    have hbl := bytes_length s
    simp only [List.length_cons] at hs
    refine Ev.step (fun k => peristyleref07_PutTexts.l0_succ k _ _ _) (Ev.yes (by omega) (Ev.yes (by omega) ?_))
    rw [er]
    simp only [putT]
    by_cases c : okS x
    · rw [if_pos c]
      have ih := refplain_loop d hd B (A ++ [x]) (s ++ putS x) (by rw [h]; simp) (by rw [ByteArray.size_append, putS_size]; unfold okS at c; omega)
      rw [← ei.out, bytesOf_app, bytesOf_putS c, ← List.append_assoc] at ih
      unfold okS at c
      exact Ev.no (by omega) (Ev.yes (by omega) (Ev.call rfl (Ev.yes (by rw [List.length_append, hbl]; simp; omega) ih)))
    · rw [if_neg c]
      unfold okS at c
      exact Ev.yes (by omega) (Ev.now _)
theorem refplain_ev (d : List ByteArray) (hd : d.length ≤ 65536) : Ev (fun k => peristyleref07_PutTexts.f k d) (putT ByteArray.empty d) := refplain_loop d (by omega) d [] ByteArray.empty rfl (by simp; omega)
theorem texts_ev (l d : List ByteArray) (p : List Int) (h0 : l ≠ []) (hl : l.length ≤ 65536) (hdl : d.length ≤ l.length) (hpl : p.length = l.length) (ho : Ev (fun k => dict_Of_string.f k l) (d, p)) (hr : Ev (fun k => peristyleref11_Texts.f k l) (d, p)) :
    ((∀ x, x ∈ d → okS x) → Ev (fun k => dict_PutTexts.f k l) (putG putS d p, 0) ∧ Ev (fun k => peristyleref11_PutTexts.f k l) (putG putS d p, 0)) ∧
    ((¬ ∀ x, x ∈ d → okS x) → Ev (fun k => dict_PutTexts.f k l) ((⟨#[]⟩ : ByteArray), 1) ∧ Ev (fun k => peristyleref11_PutTexts.f k l) ((⟨#[]⟩ : ByteArray), 1)) := by
  have hne : ¬ (l.length : Int) = 0 := fun h => h0 (List.length_eq_zero_iff.1 (by omega))
  have hq := packV_ok p (by omega)
  have hi : InI (d.length : Int) := by unfold InI; omega
  have hs := putV_short (d.length : Int)
  have hpp := pack_Put_ev p (widL p) (by omega)
  rw [hq.1] at hpp
  have h1 := plain_ev d (by omega)
  have h2 := refplain_ev d (by omega)
  constructor
  · intro hok
    have hc := catS_le d hok
    rw [putT_ok d _ hok, ByteArray.empty_append] at h1 h2
    constructor
    · unfold dict_PutTexts.f
      refine Ev.bind (a := (putG putS d p, 0)) ?_ (Ev.now _)
      unfold dict_put_string_fn34.f
      refine Ev.no (by omega) (Ev.no hne (Ev.bind ho ?_))
      dsimp only
      exact Ev.bind h1 (Ev.yes rfl (Ev.bind (pack_Width_ev p (by omega)) (Ev.bind hpp (Ev.call (vint_Put_eq hi) (Ev.yes (by show _ + (catL putS d).size ≤ _; omega) (Ev.yes (by rw [ByteArray.size_append]; show _ + (catL putS d).size + (packV p).size ≤ _; omega) (Ev.now _)))))))
    · unfold peristyleref11_PutTexts.f
      refine Ev.no (by omega) (Ev.no hne (Ev.bind hr ?_))
      dsimp only
      exact Ev.bind h2 (Ev.yes rfl (Ev.bind (ref02_Put_ev hi) (Ev.yes (by show _ + (catL putS d).size ≤ _; omega) (Ev.bind (packed_ev p (by omega)) (Ev.yes (by rw [ByteArray.size_append]; show _ + (catL putS d).size + (packV p).size ≤ _; omega) (Ev.now _))))))
  · intro hok
    rw [putT_bad d _ hok] at h1 h2
    constructor
    · unfold dict_PutTexts.f
      refine Ev.bind (a := ((⟨#[]⟩ : ByteArray), 1)) ?_ (Ev.now _)
      unfold dict_put_string_fn34.f
      refine Ev.no (by omega) (Ev.no hne (Ev.bind ho ?_))
      dsimp only
      exact Ev.bind h1 (Ev.no (by decide) (Ev.now _))
    · unfold peristyleref11_PutTexts.f
      refine Ev.no (by omega) (Ev.no hne (Ev.bind hr ?_))
      dsimp only
      exact Ev.bind h2 (Ev.no (by decide) (Ev.now _))
theorem placesS_ev {s : ByteArray} {n : Int} {r : List ByteArray × List Int × Int} (h : Ev (fun k => dict_take_string_fn29.f k s n) r) : Ev (fun k => dict_Places.f k s n) r := by
  unfold dict_Places.f
  exact Ev.bind h (Ev.now _)
theorem taketexts_good {s : ByteArray} (hs : s.size ≤ 1000000) {l d : List ByteArray} {p : List Int} (g : Good ltstring putS okS s l d p) : Ev (fun k => dict_Places.f k s (l.length : Int)) (d, p, 0) ∧ Ev (fun k => dict_TakeTexts.f k s (l.length : Int)) (l, 0) := by
  have hm := g.most; have hdl := g.dle
  have h1 := placesS_ev (string_take s hs l.length g.one g.most (R := (d, p, 0)) (fun l' d' p' g' e => by
    have a := g'.parse sostring rdrS
    have b := g.parse sostring rdrS
    have e1 : (d'.length : Int) = (d.length : Int) := congrArg (fun z => z.1) (a.1.symm.trans b.1)
    have e2 : d'.length = d.length := by omega
    rw [e2] at a
    have e3 := Option.some.inj (a.2.1.symm.trans b.2.1)
    obtain rfl : d' = d := congrArg Prod.fst e3
    rw [e] at a
    rw [show p' = p from congrArg Prod.fst (a.2.2.symm.trans b.2.2)]) (fun h => absurd rfl (h l d p g)))
  refine ⟨h1, ?_⟩
  unfold dict_TakeTexts.f
  exact Ev.bind h1 (Ev.yes rfl (Ev.bind (string_flat hm (show d.length ≤ 65536 by omega) g.isof) (Ev.now _)))
theorem taketexts_zero : Ev (fun k => dict_Places.f k (⟨#[]⟩ : ByteArray) 0) ([], [], 0) ∧ Ev (fun k => dict_TakeTexts.f k (⟨#[]⟩ : ByteArray) 0) ([], 0) := by
  have h : Ev (fun k => dict_take_string_fn29.f k (⟨#[]⟩ : ByteArray) 0) ([], [], 0) := by
    unfold dict_take_string_fn29.f
    refine Ev.no (by decide) (Ev.step (fun k => dict_take_string_fn29.j0_succ k _ _ _) (Ev.no (by decide) (Ev.yes rfl (Ev.yes ?_ (Ev.now _)))))
    rw [Lib.toList_data]
  refine ⟨placesS_ev h, ?_⟩
  unfold dict_TakeTexts.f
  exact Ev.bind (placesS_ev h) (Ev.yes rfl (Ev.bind (show Ev (fun k => dict_flat_string.f k [] []) [] from Ev.step (fun k => dict_flat_string.l0_succ k _ _ _ _ _) (Ev.no (by simp) (Ev.now _))) (Ev.now _)))
end Go.Proofs.YtfohecpfenegkaaGreat.Print
end
section
set_option linter.unusedVariables false
set_option linter.unusedSimpArgs false
namespace Go.Proofs.YtfohecpfenegkaaGreat.Print
open Go.RowKit Go.Proofs.YtfohecpfenegkaaGreatW.PrintWords Go.Proofs.YtfohecpfenegkaaGreatW.PrintMore
def SeenIn (D : Nat) (p : List Int) : Prop := ∀ x, x ∈ p → 0 ≤ x ∧ x < (D : Int)
theorem head_ev (s : ByteArray) (hs : s.size ≤ 1000000) (n : Int) : Ev (fun k => peristyleref11_head.f k s n) ((takeV s).1, (takeV s).2.1, decide ((takeV s).2.2 = 0 ∧ (takeV s).1 ≥ 1 ∧ (takeV s).1 ≤ n)) := by
  have h1 := ref02_Take_ev s (by omega)
  unfold peristyleref11_head.f
  refine Ev.bind h1 ?_
  by_cases c : (takeV s).2.2 = 0
  · refine Ev.yes c ?_
    by_cases c1 : (takeV s).1 ≥ 1
    · exact Ev.yes c1 (Ev.val (by simp only [c, c1, true_and]))
    · exact Ev.no c1 (Ev.val (by rw [decide_eq_false (fun h => c1 h.2.1)]))
  · exact Ev.no c (Ev.val (by rw [decide_eq_false (fun h => c h.1)]))
theorem width11_ev (D : Nat) (h1 : 1 ≤ D) (hD : D ≤ 65536) : Ev (fun k => peristyleref11_width.f k (D : Int)) (widL [(D : Int) - 1]) := by
  have e1 := Aside0.mk (show wrap64 ((D : Int) - 1) = (D : Int) - 1 by unfold wrap64; omega)
  unfold peristyleref11_width.f
  rw [e1.out]
  exact Ev.bind (ref08_Width_ev _ (by simp)) (Ev.now _)
theorem int_out (s : ByteArray) (n D : Nat) (hn6 : n ≤ 65536) (d : List Int) (hd : d.length = D) (hD : D ≤ 65536) (p : List Int) (hp : p.length = n) {R : List Int × Int}
    (hy : SeenIn D p → Ev (fun k => peristyleref11_TakeInts.l1 k s d p (p.map (fun x => d.getD x.toNat 0)) (p.length : Int)) R) (hn : ¬ SeenIn D p → R = ([], 20)) : ∀ (B A : List Int), p = A ++ B → SeenIn D A →
    Ev (fun k => peristyleref11_TakeInts.l1 k s d p (A.map (fun x => d.getD x.toNat 0)) (A.length : Int)) R
  | [], A, h, hA => by
    rw [List.append_nil] at h
    subst h
    exact hy hA
  | x :: B, A, h, hA => by
    have hlen : p.length = A.length + (B.length + 1) := by rw [h]; simp
    have er : rd p (A.length : Int) = x := by rw [h]; exact rd_at_mid A B x
    have ei := Aside0.mk (show wrap64 ((A.length : Int) + 1) = ((A ++ [x]).length : Int) by simp; unfold wrap64; omega)
    refine Ev.step (fun k => peristyleref11_TakeInts.l1_succ k _ _ _ _ _) (Ev.yes (by omega) (Ev.yes (by omega) ?_))
    rw [er]
    have hxp : x ∈ p := by rw [h]; simp
    by_cases c1 : x < 0
    · rw [hn fun s => by have := s x hxp; omega]
      exact Ev.yes c1 (Ev.now _)
    by_cases c2 : x ≥ (d.length : Int)
    · rw [hn fun s => by have := s x hxp; omega]
      exact Ev.no c1 (Ev.yes c2 (Ev.now _))
    have ih := int_out s n D hn6 d hd hD p hp hy hn B (A ++ [x]) (by rw [h]; simp) (fun y hy => by
      rcases List.mem_append.1 hy with q | q
      · exact hA y q
      · rw [List.mem_singleton.1 q]; omega)
    rw [← ei.out, List.map_append] at ih
    exact Ev.no c1 (Ev.no c2 (Ev.yes (by omega) (Ev.yes (by omega) (Ev.yes (by rw [List.length_map]; omega) ih))))
theorem int_end (s : ByteArray) (hs : s.size ≤ 1000000) (n D a : Nat) (h1 : 1 ≤ n) (h2 : n ≤ 65536) (hD1 : 1 ≤ D) (hD : D ≤ n) (ht : takeV s = ((D : Int), (a : Int), 0)) (d : List Int) (e : Nat) (hr : rdN itV s D a = some (d, e)) {R : List Int × Int}
    (hy : ∀ l d p, Good ltint putV InI s l d p → l.length = n → R = (l, 0)) (hn : (∀ l d p, Good ltint putV InI s l d p → ¬ l.length = n) → R = ([], 20)) :
    Ev (fun k => (peristyleref08_Take.f k (tlB s e) (n : Int) (widL [(D : Int) - 1])).bind fun bt => (if bt.2 = 0 then (peristyleref11_TakeInts.l1 k s d bt.1 ([] : List Int) 0) else (some (([] : List Int), 20)))) R := by
  have hc := takeV_canon ht
  obtain ⟨m, em, c1, c2, c3, c4⟩ := hc
  obtain ⟨r1, r2, r3, r4, r5⟩ := rdN_canon rdrV s D a d e (by omega) hr
  have htk := ref08_Take_ev (tlB s e) (n : Int) (widL [(D : Int) - 1]) (by rw [tl_size]; omega)
  have hw := widL_le [(D : Int) - 1]
  have same : ∀ l dd p, Good ltint putV InI s l dd p → l.length = n → dd = d ∧ takeR (tlB s e) (n : Int) (widL [(D : Int) - 1]) = (p, 0) := fun l dd p g hl => by
    have q := g.parse soint rdrV
    have e1 : (dd.length : Int) = (D : Int) := congrArg (fun z => z.1) (q.1.symm.trans ht)
    have e2 : ((putV (dd.length : Int)).size : Int) = (a : Int) := congrArg (fun z => z.2.1) (q.1.symm.trans ht)
    obtain rfl : dd.length = D := by omega
    obtain rfl : (putV (dd.length : Int)).size = a := by omega
    have e3 := Option.some.inj (q.2.1.symm.trans hr)
    obtain rfl : dd = d := congrArg Prod.fst e3
    have e4 : (putV (dd.length : Int)).size + (catL putV dd).size = e := congrArg Prod.snd e3
    rw [← e4, ← hl]
    exact ⟨rfl, q.2.2⟩
  refine Ev.bind htk ?_
  by_cases c : (takeR (tlB s e) (n : Int) (widL [(D : Int) - 1])).2 = 0
  · obtain ⟨p, hp⟩ : ∃ p, takeR (tlB s e) (n : Int) (widL [(D : Int) - 1]) = (p, 0) := ⟨_, Prod.ext rfl c⟩
    rw [hp] at same
    rw [hp]
    obtain ⟨w, ew⟩ : ∃ w : Nat, widL [(D : Int) - 1] = (w : Int) := ⟨(widL [(D : Int) - 1]).toNat, by omega⟩
    have hpl := (takeR_canon (s := tlB s e) (n := n) (w := w) (p := p) (by omega) h2 (by rw [← ew]; exact hp)).1
    refine Ev.yes rfl ?_
    refine int_out s n D h2 d r1 (by omega) p hpl (R := R) (fun hin => ?_) (fun hin => hn fun l dd pp g hl => ?_) p [] rfl (fun x hx => absurd hx List.not_mem_nil)
    · let out := p.map (fun x => d.getD x.toNat 0)
      have hol : out.length = n := by show (p.map _).length = n; rw [List.length_map, hpl]
      obtain ⟨d1, p1, a1, a2, a3⟩ := ofint_ev out (by omega)
      obtain ⟨d2, p2, b1, b2⟩ := refint_ev out (by omega)
      obtain ⟨rfl, rfl⟩ := IsOf.uniq soint a2 b2
      have hok : ∀ x, x ∈ d1 → InI x := fun x hx => by
        obtain ⟨y, hy, rfl⟩ := List.mem_map.1 ((a2.2.1 x).1 hx)
        have := hin y hy
        refine r2 _ ?_
        rw [List.getD_eq_getElem?_getD, List.getElem?_eq_getElem (show y.toNat < d.length by omega)]
        exact List.getElem_mem _
      have hput : Ev (fun k => peristyleref11_PutInts.f k out) (putG putV d1 p1, 0) := by have q := (putints_ev out d1 p1 (fun h => by rw [h] at hol; simp at hol; omega) (by omega) a3 a2.2.2.1 hok a1 b1).2; rw [putI_eq] at q; exact q
      refine Ev.step (fun k => peristyleref11_TakeInts.l1_succ k _ _ _ _ _) (Ev.no (by omega) (Ev.bind hput ?_))
      by_cases cs : (putG putV d1 p1).toList = s.toList
      · have es := toL_inj cs
        have g : Good ltint putV InI s out d1 p1 := ⟨a2, by omega, by omega, a3, hok, es.symm⟩
        rw [hy out d1 p1 g hol]
        exact Ev.yes cs (Ev.now _)
      · rw [hn fun l dd pp g hl => cs (by
          obtain ⟨rfl, q2⟩ := same l dd pp g hl
          obtain rfl : p = pp := congrArg Prod.fst q2
          have eo : l = out := g.isof.vals 0
          subst eo
          obtain ⟨rfl, rfl⟩ := IsOf.uniq soint a2 g.isof
          rw [g.eq]
          rfl)]
        exact Ev.no cs (Ev.now _)
    · obtain ⟨rfl, q2⟩ := same l dd pp g hl
      obtain rfl : p = pp := congrArg Prod.fst q2
      exact hin (fun x hx => by have := g.isof.inside x hx; omega)
  · rw [hn fun l dd p g hl => c (by rw [(same l dd p g hl).2])]
    exact Ev.no c (Ev.now _)
theorem int_items (s : ByteArray) (hs : s.size ≤ 1000000) (n D a0 : Nat) (h1 : 1 ≤ n) (h2 : n ≤ 65536) (hD1 : 1 ≤ D) (hD : D ≤ n) (ht : takeV s = ((D : Int), (a0 : Int), 0)) {R : List Int × Int}
    (hy : ∀ l d p, Good ltint putV InI s l d p → l.length = n → R = (l, 0)) (hn : (∀ l d p, Good ltint putV InI s l d p → ¬ l.length = n) → R = ([], 20)) :
    ∀ (m a : Nat) (A : List Int), A.length + m = D → a ≤ s.size → rdN itV s D a0 = (rdN itV s m a).map (fun q => (A ++ q.1, q.2)) → Ev (fun k => peristyleref11_TakeInts.l0 k s (n : Int) (D : Int) (a : Int) A (A.length : Int)) R
  | 0, a, A, hA, ha, hsp => by
    have hsp' : rdN itV s D a0 = some (A, a) := by rw [hsp]; simp [rdN]
    have := int_end s hs n D a0 h1 h2 hD1 hD ht A a hsp' hy hn
    refine Ev.step (fun k => peristyleref11_TakeInts.l0_succ k _ _ _ _ _ _) (Ev.no (by omega) (Ev.yes (by omega) (Ev.yes (by omega) (Ev.bind (width11_ev D hD1 (by omega)) ?_))))
    rw [Int.toNat_natCast]
    exact this
  | m + 1, a, A, hA, ha, hsp => by
    have hone := ref02_Take_ev (tlB s a) (by rw [tl_size]; omega)
    refine Ev.step (fun k => peristyleref11_TakeInts.l0_succ k _ _ _ _ _ _) (Ev.yes (by omega) (Ev.yes (by omega) (Ev.yes (by omega) ?_)))
    rw [Int.toNat_natCast]
    refine Ev.bind hone ?_
    cases hi : itV (tlB s a) with
    | none =>
      have c : ¬ (takeV (tlB s a)).2.2 = 0 := fun c => by unfold itV at hi; rw [if_pos c] at hi; cases hi
      rw [hn fun l d p g hl => by
        have q := g.parse soint rdrV
        have e1 : (d.length : Int) = (D : Int) := congrArg (fun z => z.1) (q.1.symm.trans ht)
        have e2 : ((putV (d.length : Int)).size : Int) = (a0 : Int) := congrArg (fun z => z.2.1) (q.1.symm.trans ht)
        obtain rfl : d.length = D := by omega
        obtain rfl : (putV (d.length : Int)).size = a0 := by omega
        have e3 := q.2.1
        rw [hsp] at e3
        simp [rdN, hi] at e3]
      exact Ev.no c (Ev.now _)
    | some q =>
      obtain ⟨x, u⟩ := q
      obtain ⟨c1, c2, c3, c4⟩ := rdrV.canon _ _ _ hi
      rw [tl_size] at c2
      unfold itV at hi
      split at hi
      · rename_i c
        have hx : (takeV (tlB s a)).1 = x := congrArg Prod.fst (Option.some.inj hi)
        have hu : (takeV (tlB s a)).2.1.toNat = u := congrArg Prod.snd (Option.some.inj hi)
        have hu' : (takeV (tlB s a)).2.1 = (u : Int) := by
          rcases takeV_or (tlB s a) with e | ⟨y, j, _, hj1, hj2, hj3, e⟩
          · rw [e] at hu; simp at hu; omega
          · rw [e] at hu ⊢; simp at hu ⊢; omega
        have hsp2 : rdN itV s D a0 = (rdN itV s m (a + u)).map (fun q => (A ++ [x] ++ q.1, q.2)) := by
          rw [hsp]
          have hi' : itV (tlB s a) = some (x, u) := by unfold itV; rw [if_pos c]; exact hi
          simp only [rdN, hi']
          cases rdN itV s m (a + u) with
          | none => rfl
          | some q => simp
        have ea := Aside0.mk (show wrap64 ((a : Int) + (u : Int)) = ((a + u : Nat) : Int) by unfold wrap64; omega)
        have ei := Aside0.mk (show wrap64 ((A.length : Int) + 1) = ((A ++ [x]).length : Int) by simp; unfold wrap64; omega)
        have ih := int_items s hs n D a0 h1 h2 hD1 hD ht hy hn m (a + u) (A ++ [x]) (by simp; omega) (by omega) hsp2
        rw [← ea.out, ← ei.out] at ih
        rw [hx, hu']
        exact Ev.yes c (Ev.yes (by omega) ih)
      · cases hi
theorem int_doc (s : ByteArray) (hs : s.size ≤ 1000000) (n : Nat) (h1 : 1 ≤ n) (h2 : n ≤ 65536) {R : List Int × Int} (hy : ∀ l d p, Good ltint putV InI s l d p → l.length = n → R = (l, 0))
    (hn : (∀ l d p, Good ltint putV InI s l d p → ¬ l.length = n) → R = ([], 20)) : Ev (fun k => peristyleref11_TakeInts.f k s (n : Int)) R := by
  unfold peristyleref11_TakeInts.f
  refine Ev.no (by omega) ?_
  rw [decide_eq_false (show ¬ (n : Int) > 65536 by omega)]
  refine Ev.step (fun k => peristyleref11_TakeInts.j0_succ k _ _ _) (Ev.no (by decide) (Ev.no (by omega) (Ev.step (fun k => peristyleref11_TakeInts.j1_succ k _ _ _) (Ev.no (by decide) (Ev.bind (head_ev s hs (n : Int)) ?_)))))
  by_cases c : (takeV s).2.2 = 0 ∧ (takeV s).1 ≥ 1 ∧ (takeV s).1 ≤ (n : Int)
  · obtain ⟨c1, c2, c3⟩ := c
    obtain ⟨m, em, q1, q2, q3, q4⟩ := takeV_canon (s := s) (x := (takeV s).1) (j := (takeV s).2.1) (Prod.ext rfl (Prod.ext rfl c1))
    obtain ⟨D, eD⟩ : ∃ D : Nat, (takeV s).1 = (D : Int) := ⟨(takeV s).1.toNat, by omega⟩
    have ht : takeV s = ((D : Int), (m : Int), 0) := Prod.ext eD (Prod.ext em c1)
    rw [ht]
    exact Ev.yes (by simp; omega) (int_items s hs n D m h1 h2 (by omega) (by omega) ht hy hn D m [] (by simp) q1 (by simp))
  · rw [hn fun l d p g hl => c (by
      rw [(g.parse soint rdrV).1]
      have := g.dpos; have := g.dle
      exact ⟨rfl, by show (d.length : Int) ≥ 1; omega, by show (d.length : Int) ≤ (n : Int); omega⟩)]
    exact Ev.no (by rw [decide_eq_false c]; simp) (Ev.now _)
theorem string_out (s : ByteArray) (n D : Nat) (hn6 : n ≤ 65536) (d : List ByteArray) (hd : d.length = D) (hD : D ≤ 65536) (p : List Int) (hp : p.length = n) {R : List ByteArray × Int}
    (hy : SeenIn D p → Ev (fun k => peristyleref11_TakeTexts.l0 k s d p (p.map (fun x => d.getD x.toNat ByteArray.empty)) (p.length : Int)) R) (hn : ¬ SeenIn D p → R = ([], 20)) : ∀ (B A : List Int), p = A ++ B → SeenIn D A →
    Ev (fun k => peristyleref11_TakeTexts.l0 k s d p (A.map (fun x => d.getD x.toNat ByteArray.empty)) (A.length : Int)) R
  | [], A, h, hA => by
    rw [List.append_nil] at h
    subst h
    exact hy hA
  | x :: B, A, h, hA => by
    have hlen : p.length = A.length + (B.length + 1) := by rw [h]; simp
    have er : rd p (A.length : Int) = x := by rw [h]; exact rd_at_mid A B x
    have ei := Aside0.mk (show wrap64 ((A.length : Int) + 1) = ((A ++ [x]).length : Int) by simp; unfold wrap64; omega)
    refine Ev.step (fun k => peristyleref11_TakeTexts.l0_succ k _ _ _ _ _) (Ev.yes (by omega) (Ev.yes (by omega) ?_))
    rw [er]
    have hxp : x ∈ p := by rw [h]; simp
    by_cases c1 : x < 0
    · rw [hn fun s => by have := s x hxp; omega]
      exact Ev.yes c1 (Ev.now _)
    by_cases c2 : x ≥ (d.length : Int)
    · rw [hn fun s => by have := s x hxp; omega]
      exact Ev.no c1 (Ev.yes c2 (Ev.now _))
    have ih := string_out s n D hn6 d hd hD p hp hy hn B (A ++ [x]) (by rw [h]; simp) (fun y hy => by
      rcases List.mem_append.1 hy with q | q
      · exact hA y q
      · rw [List.mem_singleton.1 q]; omega)
    rw [← ei.out, List.map_append] at ih
    exact Ev.no c1 (Ev.no c2 (Ev.yes (by omega) (Ev.yes (by omega) (Ev.yes (by rw [List.length_map]; omega) ih))))
theorem string_end (s : ByteArray) (hs : s.size ≤ 1000000) (n D a : Nat) (h1 : 1 ≤ n) (h2 : n ≤ 65536) (hD1 : 1 ≤ D) (hD : D ≤ n) (ht : takeV s = ((D : Int), (a : Int), 0)) (d : List ByteArray) (e : Nat) (hr : rdN itS s D a = some (d, e)) {R : List ByteArray × Int}
    (hy : ∀ l d p, Good ltstring putS okS s l d p → l.length = n → R = (l, 0)) (hn : (∀ l d p, Good ltstring putS okS s l d p → ¬ l.length = n) → R = ([], 20)) :
    Ev (fun k => (peristyleref08_Take.f k (tlB s e) (n : Int) (widL [(D : Int) - 1])).bind fun bt => (if bt.2 = 0 then (peristyleref11_TakeTexts.l0 k s d bt.1 ([] : List ByteArray) 0) else (some (([] : List ByteArray), 20)))) R := by
  have hc := takeV_canon ht
  obtain ⟨m, em, c1, c2, c3, c4⟩ := hc
  obtain ⟨r1, r2, r3, r4, r5⟩ := rdN_canon rdrS s D a d e (by omega) hr
  have htk := ref08_Take_ev (tlB s e) (n : Int) (widL [(D : Int) - 1]) (by rw [tl_size]; omega)
  have hw := widL_le [(D : Int) - 1]
  have same : ∀ l dd p, Good ltstring putS okS s l dd p → l.length = n → dd = d ∧ takeR (tlB s e) (n : Int) (widL [(D : Int) - 1]) = (p, 0) := fun l dd p g hl => by
    have q := g.parse sostring rdrS
    have e1 : (dd.length : Int) = (D : Int) := congrArg (fun z => z.1) (q.1.symm.trans ht)
    have e2 : ((putV (dd.length : Int)).size : Int) = (a : Int) := congrArg (fun z => z.2.1) (q.1.symm.trans ht)
    obtain rfl : dd.length = D := by omega
    obtain rfl : (putV (dd.length : Int)).size = a := by omega
    have e3 := Option.some.inj (q.2.1.symm.trans hr)
    obtain rfl : dd = d := congrArg Prod.fst e3
    have e4 : (putV (dd.length : Int)).size + (catL putS dd).size = e := congrArg Prod.snd e3
    rw [← e4, ← hl]
    exact ⟨rfl, q.2.2⟩
  refine Ev.bind htk ?_
  by_cases c : (takeR (tlB s e) (n : Int) (widL [(D : Int) - 1])).2 = 0
  · obtain ⟨p, hp⟩ : ∃ p, takeR (tlB s e) (n : Int) (widL [(D : Int) - 1]) = (p, 0) := ⟨_, Prod.ext rfl c⟩
    rw [hp] at same
    rw [hp]
    obtain ⟨w, ew⟩ : ∃ w : Nat, widL [(D : Int) - 1] = (w : Int) := ⟨(widL [(D : Int) - 1]).toNat, by omega⟩
    have hpl := (takeR_canon (s := tlB s e) (n := n) (w := w) (p := p) (by omega) h2 (by rw [← ew]; exact hp)).1
    refine Ev.yes rfl ?_
    refine string_out s n D h2 d r1 (by omega) p hpl (R := R) (fun hin => ?_) (fun hin => hn fun l dd pp g hl => ?_) p [] rfl (fun x hx => absurd hx List.not_mem_nil)
    · let out := p.map (fun x => d.getD x.toNat ByteArray.empty)
      have hol : out.length = n := by show (p.map _).length = n; rw [List.length_map, hpl]
      obtain ⟨d1, p1, a1, a2, a3⟩ := ofstring_ev out (by omega)
      obtain ⟨d2, p2, b1, b2⟩ := refstring_ev out (by omega)
      obtain ⟨rfl, rfl⟩ := IsOf.uniq sostring a2 b2
      have hok : ∀ x, x ∈ d1 → okS x := fun x hx => by
        obtain ⟨y, hy, rfl⟩ := List.mem_map.1 ((a2.2.1 x).1 hx)
        have := hin y hy
        refine r2 _ ?_
        rw [List.getD_eq_getElem?_getD, List.getElem?_eq_getElem (show y.toNat < d.length by omega)]
        exact List.getElem_mem _
      have hput : Ev (fun k => peristyleref11_PutTexts.f k out) (putG putS d1 p1, 0) := ((texts_ev out d1 p1 (fun h => by rw [h] at hol; simp at hol; omega) (by omega) a3 a2.2.2.1 a1 b1).1 hok).2
      refine Ev.step (fun k => peristyleref11_TakeTexts.l0_succ k _ _ _ _ _) (Ev.no (by omega) (Ev.bind hput ?_))
      by_cases cs : (putG putS d1 p1).toList = s.toList
      · have es := toL_inj cs
        have g : Good ltstring putS okS s out d1 p1 := ⟨a2, by omega, by omega, a3, hok, es.symm⟩
        rw [hy out d1 p1 g hol]
        exact Ev.yes cs (Ev.now _)
      · rw [hn fun l dd pp g hl => cs (by
          obtain ⟨rfl, q2⟩ := same l dd pp g hl
          obtain rfl : p = pp := congrArg Prod.fst q2
          have eo : l = out := g.isof.vals ByteArray.empty
          subst eo
          obtain ⟨rfl, rfl⟩ := IsOf.uniq sostring a2 g.isof
          rw [g.eq]
          rfl)]
        exact Ev.no cs (Ev.now _)
    · obtain ⟨rfl, q2⟩ := same l dd pp g hl
      obtain rfl : p = pp := congrArg Prod.fst q2
      exact hin (fun x hx => by have := g.isof.inside x hx; omega)
  · rw [hn fun l dd p g hl => c (by rw [(same l dd p g hl).2])]
    exact Ev.no c (Ev.now _)
theorem string_texts (s : ByteArray) (hs : s.size ≤ 1000000) (D b : Nat) (hb : b ≤ s.size) (hD : D ≤ 65536) {R : List ByteArray × Int × Bool} (hy : ∀ d e, rdN itS s D b = some (d, e) → R = (d, ((e - b : Nat) : Int), true)) (hn : rdN itS s D b = none → R = ([], 0, false)) :
    ∀ (m a : Nat) (A : List ByteArray), A.length + m = D → b + a ≤ s.size → rdN itS s D b = (rdN itS s m (b + a)).map (fun q => (A ++ q.1, q.2)) → Ev (fun k => peristyleref11_texts.l0 k (tlB s b) (D : Int) A (a : Int) (A.length : Int)) R
  | 0, a, A, hA, ha, hsp => by
    rw [hy A (b + a) (by rw [hsp]; simp [rdN])]
    exact Ev.step (fun k => peristyleref11_texts.l0_succ k _ _ _ _ _) (Ev.no (by omega) (Ev.val (by rw [show b + a - b = a by omega])))
  | m + 1, a, A, hA, ha, hsp => by
    have hts := tl_size s b
    have htl : (tlB s (b + a)).size = s.size - (b + a) := tl_size _ _
    have hbt : a < (tlB s b).size → bt (tlB s (b + a)) 0 = bt (tlB s b) (a : Int) := fun h => by
      have := bt_extract s (b + a) s.size 0 (by omega) (by omega)
      have h2 := bt_extract s b s.size a (by omega) (by omega)
      rw [Int.ofNat_zero, Nat.add_zero] at this
      unfold tlB
      rw [this, h2]
    have hbr := bt_range (tlB s b) (a : Int)
    refine Ev.step (fun k => peristyleref11_texts.l0_succ k _ _ _ _ _) (Ev.yes (by omega) ?_)
    cases hi : itS (tlB s (b + a)) with
    | none =>
      rw [hn (by rw [hsp]; simp [rdN, hi])]
      unfold itS at hi
      by_cases c0 : (a : Int) ≥ ((tlB s b).size : Int)
      · exact Ev.yes c0 (Ev.now _)
      · rw [if_neg (by omega), hbt (by omega)] at hi
        split at hi
        · rename_i c
          refine Ev.no c0 (Ev.yes (by omega) (Ev.yes (by omega) ?_))
          by_cases c1 : bt (tlB s b) (a : Int) > 32
          · exact Ev.yes c1 (Ev.now _)
          · have e1 := Aside0.mk (show wrap64 (wrap64 (((tlB s b).size : Int) - (a : Int)) - 1) = ((tlB s b).size : Int) - (a : Int) - 1 by unfold wrap64; omega)
            have e2 := Aside0.mk (show wrap64 (bt (tlB s b) (a : Int)) = bt (tlB s b) (a : Int) by unfold wrap64; omega)
            rw [e1.out, e2.out]
            exact Ev.no c1 (Ev.yes (by omega) (Ev.now _))
        · cases hi
    | some q =>
      obtain ⟨x, u⟩ := q
      obtain ⟨c1, c2, c3, c4⟩ := rdrS.canon _ _ _ hi
      have hi' := hi
      unfold itS at hi
      split at hi
      · cases hi
      · rename_i k0
        rw [hbt (by omega)] at hi
        split at hi
        · cases hi
        · rename_i k1
          have hx := congrArg Prod.fst (Option.some.inj hi)
          have hu := congrArg Prod.snd (Option.some.inj hi)
          dsimp only at hx hu
          have e1 := Aside0.mk (show wrap64 (wrap64 (((tlB s b).size : Int) - (a : Int)) - 1) = ((tlB s b).size : Int) - (a : Int) - 1 by unfold wrap64; omega)
          have e2 := Aside0.mk (show wrap64 (bt (tlB s b) (a : Int)) = bt (tlB s b) (a : Int) by unfold wrap64; omega)
          have e3 := Aside0.mk (show wrap64 ((a : Int) + 1) = ((a + 1 : Nat) : Int) by unfold wrap64; omega)
          have e4 := Aside0.mk (show wrap64 (((a + 1 : Nat) : Int) + bt (tlB s b) (a : Int)) = ((a + u : Nat) : Int) by unfold wrap64; omega)
          have ei := Aside0.mk (show wrap64 ((A.length : Int) + 1) = ((A ++ [x]).length : Int) by simp; unfold wrap64; omega)
          have hsp2 : rdN itS s D b = (rdN itS s m (b + (a + u))).map (fun q => (A ++ [x] ++ q.1, q.2)) := by
            rw [hsp]
            simp only [rdN, hi', ← Nat.add_assoc]
            cases rdN itS s m (b + a + u) with
            | none => rfl
            | some q => simp
          have ih := string_texts s hs D b hb hD hy hn m (a + u) (A ++ [x]) (by simp; omega) (by omega) hsp2
          have hex : (tlB s b).extract (a + 1) (a + u) = x := by
            rw [← hx]
            apply bl_ext
            rw [bl_ex, bl_ex, tl_list, tl_list, List.drop_drop, List.drop_drop]
            congr 1
            all_goals first | omega | (congr 1; done) | (congr 1; omega)
          rw [← ei.out] at ih
          rw [e1.out, e2.out, e3.out, e4.out, Int.toNat_natCast, Int.toNat_natCast, hex]
          exact Ev.no (by omega) (Ev.yes (by omega) (Ev.yes (by omega) (Ev.no (by omega) (Ev.no (by omega) (Ev.yes (by omega) (Ev.yes (by omega) (Ev.yes (by omega) (Ev.yes (by omega) ih))))))))
theorem string_doc (s : ByteArray) (hs : s.size ≤ 1000000) (n : Nat) (h1 : 1 ≤ n) (h2 : n ≤ 65536) {R : List ByteArray × Int} (hy : ∀ l d p, Good ltstring putS okS s l d p → l.length = n → R = (l, 0))
    (hn : (∀ l d p, Good ltstring putS okS s l d p → ¬ l.length = n) → R = ([], 20)) : Ev (fun k => peristyleref11_TakeTexts.f k s (n : Int)) R := by
  unfold peristyleref11_TakeTexts.f
  refine Ev.no (by omega) ?_
  rw [decide_eq_false (show ¬ (n : Int) > 65536 by omega)]
  refine Ev.step (fun k => peristyleref11_TakeTexts.j0_succ k _ _ _) (Ev.no (by decide) (Ev.no (by omega) (Ev.step (fun k => peristyleref11_TakeTexts.j1_succ k _ _ _) (Ev.no (by decide) (Ev.bind (head_ev s hs (n : Int)) ?_)))))
  by_cases c : (takeV s).2.2 = 0 ∧ (takeV s).1 ≥ 1 ∧ (takeV s).1 ≤ (n : Int)
  · obtain ⟨c1, c2, c3⟩ := c
    obtain ⟨m, em, q1, q2, q3, q4⟩ := takeV_canon (s := s) (x := (takeV s).1) (j := (takeV s).2.1) (Prod.ext rfl (Prod.ext rfl c1))
    obtain ⟨D, eD⟩ : ∃ D : Nat, (takeV s).1 = (D : Int) := ⟨(takeV s).1.toNat, by omega⟩
    have ht : takeV s = ((D : Int), (m : Int), 0) := Prod.ext eD (Prod.ext em c1)
    rw [ht]
    refine Ev.yes (by simp; omega) (Ev.yes (by show 0 ≤ (m : Int); omega) (Ev.yes (by show (m : Int) ≤ _; omega) ?_))
    show Ev (fun k => (peristyleref11_texts.f k (s.extract ((m : Int)).toNat s.size) (D : Int)).bind _) R
    rw [Int.toNat_natCast]
    cases hr : rdN itS s D m with
    | none =>
      have ht2 : Ev (fun k => peristyleref11_texts.f k (tlB s m) (D : Int)) ([], 0, false) := string_texts s hs D m q1 (by omega) (fun d e h => by rw [hr] at h; cases h) (fun _ => rfl) D 0 [] (by simp) (by omega) (by simp)
      rw [hn fun l d p g hl => by
        have q := g.parse sostring rdrS
        have e1 : (d.length : Int) = (D : Int) := congrArg (fun z => z.1) (q.1.symm.trans ht)
        have e2 : ((putV (d.length : Int)).size : Int) = (m : Int) := congrArg (fun z => z.2.1) (q.1.symm.trans ht)
        obtain rfl : d.length = D := by omega
        obtain rfl : (putV (d.length : Int)).size = m := by omega
        rw [hr] at q
        exact absurd q.2.1 (by simp)]
      exact Ev.bind ht2 (Ev.no (by decide) (Ev.now _))
    | some q =>
      obtain ⟨d, e⟩ := q
      have hc := rdN_canon rdrS s D m d e q1 hr
      have ht2 : Ev (fun k => peristyleref11_texts.f k (tlB s m) (D : Int)) (d, ((e - m : Nat) : Int), true) := string_texts s hs D m q1 (by omega) (fun d' e' h => by
        rw [hr] at h
        obtain ⟨rfl, rfl⟩ := Prod.mk.inj (Option.some.inj h)
        rfl) (fun h => by rw [hr] at h; cases h) D 0 [] (by simp) (by omega) (by simp)
      have hend := string_end s hs n D m h1 h2 (by omega) (by omega) ht d e hr hy hn
      have ea := Aside0.mk (show wrap64 ((m : Int) + ((e - m : Nat) : Int)) = (e : Int) by unfold wrap64; omega)
      refine Ev.bind ht2 (Ev.yes rfl ?_)
      rw [ea.out, Int.toNat_natCast]
      exact Ev.yes (by omega) (Ev.yes (by omega) (Ev.bind (width11_ev D (by omega) (by omega)) hend))
  · rw [hn fun l d p g hl => c (by
      rw [(g.parse sostring rdrS).1]
      have := g.dpos; have := g.dle
      exact ⟨rfl, by show (d.length : Int) ≥ 1; omega, by show (d.length : Int) ≤ (n : Int); omega⟩)]
    exact Ev.no (by rw [decide_eq_false c]; simp) (Ev.now _)
end Go.Proofs.YtfohecpfenegkaaGreat.Print
end
section
set_option linter.unusedVariables false
set_option linter.unusedSimpArgs false
namespace Go.Proofs.YtfohecpfenegkaaGreat.Pure
open Go.RowKit Go.Proofs.YtfohecpfenegkaaGreat.Print Go.Proofs.YtfohecpfenegkaaGreatW.PrintWords Go.Proofs.YtfohecpfenegkaaGreatW.PrintLast Go.Proofs.YtfohecpfenegkaaGreatW.PrintMore
theorem same01_loop (l : List Int) (hl : l.length ≤ 4398046511104) : ∀ (d i : Nat), i + d = l.length → Ev (fun k => peristyleref01_Same.l0 k l l (i : Int)) true
  | 0, i, h => Ev.step (fun k => peristyleref01_Same.l0_succ k _ _ _) (Ev.no (by omega) (Ev.now _))
  | d + 1, i, h => by
    have e := Aside0.mk (show wrap64 ((i : Int) + 1) = ((i + 1 : Nat) : Int) by unfold wrap64; omega)
    have ih := same01_loop l hl d (i + 1) (by omega)
    rw [← e.out] at ih
    exact Ev.step (fun k => peristyleref01_Same.l0_succ k _ _ _) (Ev.yes (by omega) (Ev.yes (by omega) (Ev.yes (by omega) (Ev.yes rfl ih))))
theorem same01_ev (l : List Int) (hl : l.length ≤ 4398046511104) : Ev (fun k => peristyleref01_Same.f k l l) true := Ev.yes rfl (same01_loop l hl l.length 0 (by omega))
theorem putints_nil : Ev (fun k => dict_PutInts.f k []) ((⟨#[]⟩ : ByteArray), 0) := by
  unfold dict_PutInts.f
  refine Ev.bind (a := ((⟨#[]⟩ : ByteArray), 0)) ?_ (Ev.now _)
  unfold dict_put_int_fn32.f
  exact Ev.no (by decide) (Ev.yes rfl (Ev.now _))
theorem puttexts_nil : Ev (fun k => dict_PutTexts.f k []) ((⟨#[]⟩ : ByteArray), 0) := by
  unfold dict_PutTexts.f
  refine Ev.bind (a := ((⟨#[]⟩ : ByteArray), 0)) ?_ (Ev.now _)
  unfold dict_put_string_fn34.f
  exact Ev.no (by decide) (Ev.yes rfl (Ev.now _))
theorem empty_iff (s : ByteArray) : s.toList = ([] : List UInt8) ↔ s = (⟨#[]⟩ : ByteArray) := by
  rw [Lib.toList_data]
  constructor
  · intro h
    apply bl_ext
    rw [h]
  · rintro rfl; rfl
theorem head_zero (s : ByteArray) (hs : s.size ≤ 1000000) : ∃ a b, Ev (fun k => peristyleref11_head.f k s 0) (a, b, false) := by
  have h := head_ev s hs 0
  rw [decide_eq_false (fun h => by omega)] at h
  exact ⟨_, _, h⟩
theorem ints_both (s : ByteArray) (hs : s.size ≤ 1000000) (n : Int) : ∃ l e x y, Ev (fun k => dict_TakeInts.f k s n) (l, e) ∧ Ev (fun k => peristyleref11_TakeInts.f k s n) (l, e) ∧ l.length ≤ 65536 ∧ Ev (fun k => dict_PutInts.f k l) (x, y) ∧ (e = 0 → x = s ∧ y = 0) := by
  have out : (n < 0 ∨ n > 65536) → ∃ l e x y, Ev (fun k => dict_TakeInts.f k s n) (l, e) ∧ Ev (fun k => peristyleref11_TakeInts.f k s n) (l, e) ∧ l.length ≤ 65536 ∧ Ev (fun k => dict_PutInts.f k l) (x, y) ∧ (e = 0 → x = s ∧ y = 0) := fun h => by
    refine ⟨[], 1, _, _, ?_, ?_, by simp, putints_nil, fun h => absurd h (by decide)⟩
    · unfold dict_TakeInts.f
      refine Ev.bind (a := ([], [], 1)) ?_ (Ev.no (by decide) (Ev.now _))
      unfold dict_take_int_fn17.f
      have hj : Ev (fun k => dict_take_int_fn17.j0 k s n true) ([], [], 1) := Ev.step (fun k => dict_take_int_fn17.j0_succ k _ _ _) (Ev.yes rfl (Ev.now _))
      by_cases c : n < 0
      · exact Ev.yes c hj
      · rw [decide_eq_true (show n > 65536 by omega)]
        exact Ev.no c hj
    · unfold peristyleref11_TakeInts.f
      have hj : Ev (fun k => peristyleref11_TakeInts.j0 k s n true) ([], 1) := Ev.step (fun k => peristyleref11_TakeInts.j0_succ k _ _ _) (Ev.yes rfl (Ev.now _))
      by_cases c : n < 0
      · exact Ev.yes c hj
      · rw [decide_eq_true (show n > 65536 by omega)]
        exact Ev.no c hj
  by_cases h : n < 0 ∨ n > 65536
  · exact out h
  obtain ⟨n, rfl⟩ : ∃ m : Nat, n = (m : Int) := ⟨n.toNat, by omega⟩
  by_cases h0 : n = 0
  · subst h0
    by_cases hse : s.toList = ([] : List UInt8)
    · obtain rfl := (empty_iff s).1 hse
      refine ⟨[], 0, _, _, ?_, ?_, by simp, putints_nil, fun _ => ⟨rfl, rfl⟩⟩
      · unfold dict_TakeInts.f
        refine Ev.bind (a := ([], [], 0)) ?_ (Ev.yes rfl (Ev.bind (show Ev (fun k => dict_flat_int.f k [] []) [] from Ev.step (fun k => dict_flat_int.l0_succ k _ _ _ _ _) (Ev.no (by simp) (Ev.now _))) (Ev.now _)))
        unfold dict_take_int_fn17.f
        exact Ev.no (by decide) (Ev.step (fun k => dict_take_int_fn17.j0_succ k _ _ _) (Ev.no (by decide) (Ev.yes rfl (Ev.yes hse (Ev.now _)))))
      · unfold peristyleref11_TakeInts.f
        exact Ev.no (by decide) (Ev.step (fun k => peristyleref11_TakeInts.j0_succ k _ _ _) (Ev.no (by decide) (Ev.yes rfl (Ev.step (fun k => peristyleref11_TakeInts.j1_succ k _ _ _) (Ev.yes (by rw [hse]; rfl) (Ev.now _))))))
    · refine ⟨[], 20, _, _, ?_, ?_, by simp, putints_nil, fun h => absurd h (by decide)⟩
      · unfold dict_TakeInts.f
        refine Ev.bind (a := ([], [], 20)) ?_ (Ev.no (by decide) (Ev.now _))
        unfold dict_take_int_fn17.f
        exact Ev.no (by decide) (Ev.step (fun k => dict_take_int_fn17.j0_succ k _ _ _) (Ev.no (by decide) (Ev.yes rfl (Ev.no hse (Ev.now _)))))
      · obtain ⟨a, b, hh⟩ := head_zero s hs
        unfold peristyleref11_TakeInts.f
        exact Ev.no (by decide) (Ev.step (fun k => peristyleref11_TakeInts.j0_succ k _ _ _) (Ev.no (by decide) (Ev.yes rfl (Ev.step (fun k => peristyleref11_TakeInts.j1_succ k _ _ _) (Ev.no (by simpa using hse) (Ev.bind hh (Ev.no (by simp) (Ev.now _))))))))
  have h1 : 1 ≤ n := by omega
  have h2 : n ≤ 65536 := by omega
  by_cases g : ∃ l d p, Print.Good ltint putV InI s l d p ∧ l.length = n
  · obtain ⟨l, d, p, g, rfl⟩ := g
    have hdl := g.dle
    have uni : ∀ l' d' p', Print.Good ltint putV InI s l' d' p' → l'.length = l.length → d' = d ∧ p' = p ∧ l' = l := fun l' d' p' g' e => by
      have a := g'.parse soint rdrV
      have b := g.parse soint rdrV
      have e1 : (d'.length : Int) = (d.length : Int) := congrArg (fun z => z.1) (a.1.symm.trans b.1)
      have e2 : d'.length = d.length := by omega
      rw [e2] at a
      have e3 := Option.some.inj (a.2.1.symm.trans b.2.1)
      obtain rfl : d' = d := congrArg Prod.fst e3
      rw [e] at a
      obtain rfl : p' = p := congrArg Prod.fst (a.2.2.symm.trans b.2.2)
      exact ⟨rfl, rfl, (g'.isof.vals 0).trans (g.isof.vals 0).symm⟩
    have t1 := int_take s hs l.length g.one g.most (R := (d, p, 0)) (fun l' d' p' g' e => by obtain ⟨rfl, rfl, _⟩ := uni l' d' p' g' e; rfl) (fun h => absurd rfl (h l d p g))
    have t2 := int_doc s hs l.length g.one g.most (R := (l, 0)) (fun l' d' p' g' e => by rw [(uni l' d' p' g' e).2.2]) (fun h => absurd rfl (h l d p g))
    obtain ⟨d1, p1, a1, a2, a3⟩ := ofint_ev l (by have := g.most; omega)
    obtain ⟨d2, p2, b1, b2⟩ := refint_ev l (by have := g.most; omega)
    obtain ⟨rfl, rfl⟩ := IsOf.uniq soint a2 g.isof
    obtain ⟨rfl, rfl⟩ := IsOf.uniq soint b2 a2
    have q := (putints_ev l d2 p2 (fun h => by have := g.one; rw [h] at this; simp at this) g.most a3 a2.2.2.1 g.good a1 b1).1
    rw [putI_eq] at q
    refine ⟨l, 0, _, _, ?_, t2, g.most, q, fun _ => ⟨g.eq.symm, rfl⟩⟩
    unfold dict_TakeInts.f
    exact Ev.bind t1 (Ev.yes rfl (Ev.bind (int_flat g.most (show d2.length ≤ 65536 by have := g.most; omega) g.isof) (Ev.now _)))
  · have hb : ∀ l d p, Print.Good ltint putV InI s l d p → ¬ l.length = n := fun l d p q e => g ⟨l, d, p, q, e⟩
    refine ⟨[], 20, _, _, ?_, int_doc s hs n h1 h2 (fun l d p q e => absurd e (hb l d p q)) (fun _ => rfl), by simp, putints_nil, fun h => absurd h (by decide)⟩
    unfold dict_TakeInts.f
    exact Ev.bind (int_take s hs n h1 h2 (R := ([], [], 20)) (fun l d p q e => absurd e (hb l d p q)) (fun _ => rfl)) (Ev.no (by decide) (Ev.now _))
theorem texts_both (s : ByteArray) (hs : s.size ≤ 1000000) (n : Int) : ∃ l e d p x y, Ev (fun k => dict_TakeTexts.f k s n) (l, e) ∧ Ev (fun k => peristyleref11_TakeTexts.f k s n) (l, e) ∧ Ev (fun k => dict_Places.f k s n) (d, p, e) ∧ Ev (fun k => peristyleref11_Places.f k s n) (d, p, e) ∧
    l.length ≤ 65536 ∧ d.length ≤ 65536 ∧ p.length ≤ 65536 ∧ Ev (fun k => dict_PutTexts.f k l) (x, y) ∧ (e = 0 → x = s ∧ y = 0) := by
  have bad : ∀ e : Int, e ≠ 0 → Ev (fun k => dict_take_string_fn29.f k s n) ([], [], e) → Ev (fun k => peristyleref11_TakeTexts.f k s n) ([], e) → ∃ l e d p x y, Ev (fun k => dict_TakeTexts.f k s n) (l, e) ∧ Ev (fun k => peristyleref11_TakeTexts.f k s n) (l, e) ∧ Ev (fun k => dict_Places.f k s n) (d, p, e) ∧ Ev (fun k => peristyleref11_Places.f k s n) (d, p, e) ∧
    l.length ≤ 65536 ∧ d.length ≤ 65536 ∧ p.length ≤ 65536 ∧ Ev (fun k => dict_PutTexts.f k l) (x, y) ∧ (e = 0 → x = s ∧ y = 0) := fun e he h1 h2 => by
    refine ⟨[], e, [], [], _, _, ?_, h2, placesS_ev h1, ?_, by simp, by simp, by simp, puttexts_nil, fun h => absurd h he⟩
    · unfold dict_TakeTexts.f
      exact Ev.bind (placesS_ev h1) (Ev.no he (Ev.now _))
    · unfold peristyleref11_Places.f
      exact Ev.bind h2 (Ev.no he (Ev.now _))
  by_cases h : n < 0 ∨ n > 65536
  · refine bad 1 (by decide) ?_ ?_
    · unfold dict_take_string_fn29.f
      have hj : Ev (fun k => dict_take_string_fn29.j0 k s n true) ([], [], 1) := Ev.step (fun k => dict_take_string_fn29.j0_succ k _ _ _) (Ev.yes rfl (Ev.now _))
      by_cases c : n < 0
      · exact Ev.yes c hj
      · rw [decide_eq_true (show n > 65536 by omega)]
        exact Ev.no c hj
    · unfold peristyleref11_TakeTexts.f
      have hj : Ev (fun k => peristyleref11_TakeTexts.j0 k s n true) ([], 1) := Ev.step (fun k => peristyleref11_TakeTexts.j0_succ k _ _ _) (Ev.yes rfl (Ev.now _))
      by_cases c : n < 0
      · exact Ev.yes c hj
      · rw [decide_eq_true (show n > 65536 by omega)]
        exact Ev.no c hj
  obtain ⟨n, rfl⟩ : ∃ m : Nat, n = (m : Int) := ⟨n.toNat, by omega⟩
  by_cases h0 : n = 0
  · subst h0
    by_cases hse : s.toList = ([] : List UInt8)
    · obtain rfl := (empty_iff s).1 hse
      have hr : Ev (fun k => peristyleref11_TakeTexts.f k (⟨#[]⟩ : ByteArray) 0) ([], 0) := by
        unfold peristyleref11_TakeTexts.f
        exact Ev.no (by decide) (Ev.step (fun k => peristyleref11_TakeTexts.j0_succ k _ _ _) (Ev.no (by decide) (Ev.yes rfl (Ev.step (fun k => peristyleref11_TakeTexts.j1_succ k _ _ _) (Ev.yes (by rw [hse]; rfl) (Ev.now _))))))
      obtain ⟨d2, p2, b1, b2⟩ := refstring_ev [] (by simp)
      have hd0 : d2 = [] := by
        cases d2 with
        | nil => rfl
        | cons x d => exact absurd ((b2.2.1 x).1 (by simp)) (by simp)
      have hp0 : p2 = [] := List.length_eq_zero_iff.1 (by rw [b2.2.2.1]; rfl)
      subst hd0; subst hp0
      refine ⟨[], 0, [], [], _, _, taketexts_zero.2, hr, taketexts_zero.1, ?_, by simp, by simp, by simp, puttexts_nil, fun _ => ⟨rfl, rfl⟩⟩
      unfold peristyleref11_Places.f
      exact Ev.bind hr (Ev.yes rfl (Ev.bind b1 (Ev.now _)))
    · refine bad 20 (by decide) ?_ ?_
      · unfold dict_take_string_fn29.f
        exact Ev.no (by decide) (Ev.step (fun k => dict_take_string_fn29.j0_succ k _ _ _) (Ev.no (by decide) (Ev.yes rfl (Ev.no hse (Ev.now _)))))
      · obtain ⟨a, b, hh⟩ := head_zero s hs
        unfold peristyleref11_TakeTexts.f
        exact Ev.no (by decide) (Ev.step (fun k => peristyleref11_TakeTexts.j0_succ k _ _ _) (Ev.no (by decide) (Ev.yes rfl (Ev.step (fun k => peristyleref11_TakeTexts.j1_succ k _ _ _) (Ev.no (by simpa using hse) (Ev.bind hh (Ev.no (by simp) (Ev.now _))))))))
  have h1 : 1 ≤ n := by omega
  have h2 : n ≤ 65536 := by omega
  by_cases g : ∃ l d p, Print.Good ltstring putS okS s l d p ∧ l.length = n
  · obtain ⟨l, d, p, g, rfl⟩ := g
    have hdl := g.dle
    have hm := g.most
    have hpl := g.isof.2.2.1
    have uni : ∀ l' d' p', Print.Good ltstring putS okS s l' d' p' → l'.length = l.length → l' = l := fun l' d' p' g' e => by
      have a := g'.parse sostring rdrS
      have b := g.parse sostring rdrS
      have e1 : (d'.length : Int) = (d.length : Int) := congrArg (fun z => z.1) (a.1.symm.trans b.1)
      have e2 : d'.length = d.length := by omega
      rw [e2] at a
      have e3 := Option.some.inj (a.2.1.symm.trans b.2.1)
      obtain rfl : d' = d := congrArg Prod.fst e3
      rw [e] at a
      obtain rfl : p' = p := congrArg Prod.fst (a.2.2.symm.trans b.2.2)
      exact (g'.isof.vals ByteArray.empty).trans (g.isof.vals ByteArray.empty).symm
    have t1 := taketexts_good hs g
    have t2 := string_doc s hs l.length g.one g.most (R := (l, 0)) (fun l' d' p' g' e => by rw [uni l' d' p' g' e]) (fun h => absurd rfl (h l d p g))
    obtain ⟨d1, p1, a1, a2, a3⟩ := ofstring_ev l (by omega)
    obtain ⟨d2, p2, b1, b2⟩ := refstring_ev l (by omega)
    obtain ⟨rfl, rfl⟩ := IsOf.uniq sostring a2 g.isof
    obtain ⟨rfl, rfl⟩ := IsOf.uniq sostring b2 a2
    have q := ((texts_ev l d2 p2 (fun h => by have := g.one; rw [h] at this; simp at this) g.most a3 a2.2.2.1 a1 b1).1 g.good).1
    refine ⟨l, 0, d2, p2, _, _, t1.2, t2, t1.1, ?_, g.most, by omega, by omega, q, fun _ => ⟨g.eq.symm, rfl⟩⟩
    unfold peristyleref11_Places.f
    exact Ev.bind t2 (Ev.yes rfl (Ev.bind b1 (Ev.now _)))
  · have hb : ∀ l d p, Print.Good ltstring putS okS s l d p → ¬ l.length = n := fun l d p q e => g ⟨l, d, p, q, e⟩
    exact bad 20 (by decide) (string_take s hs n h1 h2 (R := ([], [], 20)) (fun l d p q e => absurd e (hb l d p q)) (fun _ => rfl)) (string_doc s hs n h1 h2 (fun l d p q e => absurd e (hb l d p q)) (fun _ => rfl))
theorem DictTakes : peristylelaw11_DictTakes.Pure := by
  intro s n
  intros
  refine Ev.rounds (g := fun k => peristylelaw11_DictTakes.f k s n) ?_
  unfold peristylelaw11_DictTakes.f
  by_cases h : (s.size : Int) > 512
  · exact Ev.yes h (Ev.bind awake11_ev (Ev.now _))
  refine Ev.no h ?_
  obtain ⟨a, e, t, u, i1, i2, i3, i4, i5⟩ := ints_both s (by omega) n
  obtain ⟨c, g, d, p, v, w, s1, s2, s3, s4, s5, s6, s7, s8, s9⟩ := texts_both s (by omega) n
  refine Ev.bind i1 (Ev.bind i2 (Ev.bind s1 (Ev.bind s2 (Ev.bind s3 (Ev.bind s4 (Ev.bind i4 (Ev.bind s8 (Ev.bind (same01_ev a (by omega)) (Ev.yes rfl (Ev.yes rfl (Ev.bind (same07_ev c (by omega)) (Ev.yes rfl (Ev.yes rfl (Ev.bind (same07_ev d (by omega)) (Ev.yes rfl (Ev.bind (same01_ev p (by omega)) (Ev.yes rfl (Ev.yes rfl ?_))))))))))))))))))
  by_cases he : e = 0
  · obtain ⟨rfl, rfl⟩ := i5 he
    refine Ev.yes he (Ev.yes rfl (Ev.yes rfl ?_))
    by_cases hg : g = 0
    · obtain ⟨rfl, rfl⟩ := s9 hg
      exact Ev.yes hg (Ev.yes rfl (Ev.yes rfl (Ev.bind awake11_ev (Ev.now _))))
    · exact Ev.no hg (Ev.bind awake11_ev (Ev.now _))
  · refine Ev.no he ?_
    by_cases hg : g = 0
    · obtain ⟨rfl, rfl⟩ := s9 hg
      exact Ev.yes hg (Ev.yes rfl (Ev.yes rfl (Ev.bind awake11_ev (Ev.now _))))
    · exact Ev.no hg (Ev.bind awake11_ev (Ev.now _))
end Go.Proofs.YtfohecpfenegkaaGreat.Pure
end
