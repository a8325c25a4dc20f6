-- Numbers as few bytes (seven bits each): what the program's functions and the document's tell.
import Derived.Test.YtcencpedgcdanaaPrint1
import Derived.Test.YtcencpedgcdanaaPrint10
import Derived.Test.YtcencpedgcdanaaPrint3
import Derived.Test.YtcencpedgcdanaaPrint4
import Derived.Test.YtcencpedgcdanaaPrint6
import Derived.Test.YtcencpedgcdanaaSG
import Derived.Test.YtcencpedgcdanaaSB
import Derived.Test.YtcencpedgcdanaaSC
import Derived.Test.YtcencpedgcdanaaSE
import Derived.Test.YtcencpedgcdanaaSP
import Derived.Test.YtcencpedgcdanaaSQ
import Derived.Test.YtcencpedgcdanaaSR
set_option linter.unusedVariables false
set_option linter.unusedSimpArgs false
namespace Go.Proofs.Ytcencpedgcdanaa.Print
open Go.RowKit Go.Proofs.YtcencpedgcdanaaW.PrintWords Go.Proofs.YtcencpedgcdanaaW.PrintMore
theorem byte_ops : ∀ m : Fin 256, Go.bits .andNot .u8 (m.val : Int) 128 = ((m.val % 128 : Nat) : Int) ∧ Go.bits .and .u8 (m.val : Int) 127 = ((m.val % 128 : Nat) : Int) ∧ Go.bits .or .u8 (m.val : Int) 128 = ((m.val % 128 + 128 : Nat) : Int) := by decide +kernel
theorem byte_op {c : Int} (h : 0 ≤ c ∧ c < 256) : Go.bits .andNot .u8 c 128 = c % 128 ∧ Go.bits .and .u8 c 127 = c % 128 ∧ Go.bits .or .u8 c 128 = c % 128 + 128 := by
  obtain ⟨m, rfl⟩ := Int.eq_ofNat_of_zero_le h.1
  have := byte_ops ⟨m, by omega⟩
  simp only at this
  omega
theorem bit_mod {x : Int} (hx : 0 ≤ x) (n i : Nat) (hi : i < 64) : bit (x % 2 ^ n) i = (decide (i < n) && bit x i) := by
  obtain ⟨m, rfl⟩ := Int.eq_ofNat_of_zero_le hx
  rw [pow_cast, ← Int.natCast_emod, bit_nat _ i hi, bit_nat _ i hi, Nat.testBit_mod_two_pow]
/-- a word's number without sign -/
def uw (a : Int) : Nat := wn a
theorem uw_eq (a : Int) : IntKind.u64.wrap a = (uw a : Int) := u64_wn a
theorem uw_lt (a : Int) : uw a < 18446744073709551616 := wn_lt a
theorem bit_uw (a : Int) (i : Nat) : bit a i = (uw a).testBit i := bit_wn a i
theorem wid_uw (a : Int) (r : Nat) : wid a ≤ (r : Int) ↔ uw a < 2 ^ r := by
  rw [wid_le_iff a r (by omega)]
  constructor
  · intro h
    refine Nat.lt_pow_two_of_testBit _ (fun i hi => ?_)
    rw [← bit_uw]
    exact h i (by omega)
  · intro h i hi
    rw [bit_uw]
    exact Nat.testBit_lt_two_pow (Nat.lt_of_lt_of_le h (Nat.pow_le_pow_right (by decide) (by omega)))
/-- a number's bytes -/
def vb : Nat → Nat → List Int
  | 0, x => [(x : Int)]
  | d + 1, x => if 128 ≤ x then ((x % 128 + 128 : Nat) : Int) :: vb d (x / 128) else [(x : Int)]
theorem vb_len : ∀ (d x : Nat), 1 ≤ (vb d x).length ∧ (vb d x).length ≤ d + 1
  | 0, x => by simp [vb]
  | d + 1, x => by
    have := vb_len d (x / 128)
    simp only [vb]
    split
    · simp only [List.length_cons]; omega
    · simp
theorem vb_small : ∀ (d x : Nat), x < 2 * 128 ^ d → ∀ y, y ∈ vb d x → 0 ≤ y ∧ y < 256
  | 0, x, h, y, hy => by
    simp only [vb, List.mem_singleton] at hy
    simp at h
    omega
  | d + 1, x, h, y, hy => by
    simp only [vb] at hy
    split at hy
    · rcases List.mem_cons.1 hy with rfl | hy
      · omega
      · exact vb_small d (x / 128) (by rw [Nat.pow_succ] at h; omega) y hy
    · simp only [List.mem_singleton] at hy; omega
/-- its byte j -/
theorem vb_get : ∀ (d x j : Nat), x < 2 * 128 ^ d → (j + 1 < (vb d x).length → rd (vb d x) (j : Int) = ((x / 128 ^ j % 128 + 128 : Nat) : Int)) ∧ (j + 1 = (vb d x).length → rd (vb d x) (j : Int) = ((x / 128 ^ j : Nat) : Int))
  | 0, x, j, h => by
    simp only [vb, List.length_singleton]
    refine ⟨fun h => by omega, fun h => ?_⟩
    obtain rfl : j = 0 := by omega
    rw [Nat.pow_zero, Nat.div_one]
    rfl
  | d + 1, x, j, h => by
    have hx : x / 128 < 2 * 128 ^ d := by rw [Nat.pow_succ] at h; omega
    have hl := vb_len d (x / 128)
    by_cases h128 : 128 ≤ x
    · have hv : vb (d + 1) x = ((x % 128 + 128 : Nat) : Int) :: vb d (x / 128) := by simp only [vb]; rw [if_pos h128]
      rw [hv]
      cases j with
      | zero =>
        refine ⟨fun _ => ?_, fun hh => ?_⟩
        · rw [Nat.pow_zero, Nat.div_one]; rfl
        · simp only [List.length_cons] at hh; omega
      | succ j =>
        have ih := vb_get d (x / 128) j hx
        have e : rd ((((x % 128 + 128 : Nat) : Int)) :: vb d (x / 128)) ((j + 1 : Nat) : Int) = rd (vb d (x / 128)) (j : Int) := by
          unfold rd
          rw [Int.toNat_natCast, Int.toNat_natCast, List.getD_cons_succ]
        have e2 : x / 128 / 128 ^ j = x / 128 ^ (j + 1) := by rw [Nat.div_div_eq_div_mul, ← Nat.pow_succ']
        rw [e, ← e2]
        simp only [List.length_cons, Nat.add_lt_add_iff_right, Nat.add_right_cancel_iff]
        exact ih
    · have hv : vb (d + 1) x = [(x : Int)] := by simp only [vb]; rw [if_neg h128]
      rw [hv]
      simp only [List.length_singleton]
      refine ⟨fun h => by omega, fun h => ?_⟩
      obtain rfl : j = 0 := by omega
      rw [Nat.pow_zero, Nat.div_one]
      rfl
/-- how long it is -/
theorem vb_bounds : ∀ (d x : Nat), x < 2 * 128 ^ d → ((vb d x).length ≤ d → x < 128 ^ (vb d x).length) ∧ ((vb d x).length = 1 ∨ 128 ^ ((vb d x).length - 1) ≤ x)
  | 0, x, h => by simp [vb]
  | d + 1, x, h => by
    have hl := vb_len d (x / 128)
    have hx : x / 128 < 2 * 128 ^ d := by rw [Nat.pow_succ] at h; omega
    have ih := vb_bounds d (x / 128) hx
    simp only [vb]
    split
    · rename_i h128
      simp only [List.length_cons]
      refine ⟨fun hle => ?_, .inr ?_⟩
      · have := ih.1 (by omega)
        rw [Nat.pow_succ]
        omega
      · rw [Nat.add_sub_cancel]
        rcases ih.2 with h1 | h1
        · rw [h1]; omega
        · have e : 128 ^ (vb d (x / 128)).length = 128 ^ ((vb d (x / 128)).length - 1) * 128 := by
            rw [← Nat.pow_succ, Nat.succ_eq_add_one, Nat.sub_add_cancel hl.1]
          rw [e]
          omega
    · simp only [List.length_singleton]
      exact ⟨fun _ => by omega, .inl trivial⟩
theorem pow128 (n : Nat) : (128 : Nat) ^ n = 2 ^ (7 * n) := by rw [Nat.pow_mul]
theorem top9 : 2 * 128 ^ 9 = 18446744073709551616 := by decide
theorem vb9_lt (a : Int) : uw a < 2 * 128 ^ 9 := by rw [top9]; exact uw_lt a
def vl (a : Int) : Nat := (vb 9 (uw a)).length
theorem vl_le (a : Int) : 1 ≤ vl a ∧ vl a ≤ 10 := vb_len 9 _
theorem vl_wid (a : Int) : mx 1 (Int.tdiv (wid a + 6) 7) = (vl a : Int) := by
  have hw := wid_le a
  have hl := vl_le a
  have hb := vb_bounds 9 (uw a) (vb9_lt a)
  obtain ⟨r, hr⟩ := Int.eq_ofNat_of_zero_le hw.1
  have hu : r ≤ 7 * vl a := by
    have : wid a ≤ ((7 * vl a : Nat) : Int) := by
      rw [wid_uw]
      by_cases h : vl a ≤ 9
      · rw [← pow128]; exact hb.1 h
      · have : vl a = 10 := by omega
        rw [this]
        exact Nat.lt_trans (uw_lt a) (by decide)
    omega
  have hd : vl a = 1 ∨ 7 * (vl a - 1) < r := by
    rcases hb.2 with h | h
    · exact .inl h
    · right
      refine Nat.lt_of_not_le (fun hle => ?_)
      have : wid a ≤ ((7 * (vl a - 1) : Nat) : Int) := by omega
      rw [wid_uw, ← pow128] at this
      exact absurd this (Nat.not_lt.2 h)
  rw [hr]
  have e : Int.tdiv ((r : Int) + 6) 7 = (((r + 6) / 7 : Nat) : Int) := rfl
  rw [e]
  unfold mx
  split <;> omega
theorem loop_vb : ∀ (d x : Nat), x < 2 * 128 ^ d → vint_Put.loop d (x : Int) = vb d x
  | 0, x, h => by
    simp at h
    simp only [vint_Put.loop, vb]
    rw [show ((x : Int) % 256) = (x : Int) by omega]
  | d + 1, x, h => by
    have hx : x / 128 < 2 * 128 ^ d := by rw [Nat.pow_succ] at h; omega
    simp only [vint_Put.loop, vb]
    by_cases h1 : 128 ≤ x
    · rw [if_pos (by omega), if_pos h1, (byte_op (c := (x : Int) % 256) (by omega)).2.2, show ((x : Int) / 128) = ((x / 128 : Nat) : Int) from rfl, loop_vb d _ hx]
      congr 1
      omega
    · rw [if_neg (by omega), if_neg h1, show ((x : Int) % 256) = (x : Int) by omega]
def zig (a : Int) : Int := wordP (zigP a)
/-- a number's bytes -/
def putV (a : Int) : ByteArray := strOfNums (vb 9 (uw (zig a)))
theorem putV_small (a : Int) : ∀ y, y ∈ vb 9 (uw (zig a)) → 0 ≤ y ∧ y < 256 := vb_small 9 _ (vb9_lt _)
theorem putV_size (a : Int) : (putV a).size = vl (zig a) := str_size _
theorem vint_Put_eq {a : Int} (h : InI a) : vint_Put.f a = some (putV a) := by
  unfold vint_Put.f
  rw [bits_Zig_eq h]
  simp only [Option.bind_some]
  rw [uw_eq, loop_vb 9 _ (vb9_lt _)]
  rfl
theorem field_low (x : Int) : wordP (fieldP x 0 7) = ((uw x % 128 : Nat) : Int) := by
  refine (wordP_of (by unfold InI; omega) _ (fun i hi => ?_)).symm
  rw [bit_nat _ i hi, show (128 : Nat) = 2 ^ 7 from rfl, Nat.testBit_mod_two_pow]
  unfold fieldP
  rw [← bit_uw]
  by_cases h : i < 7
  · have : (i : Int) < 7 := by omega
    simp [h, this]
  · have : ¬ (i : Int) < 7 := by omega
    simp [h, this]
theorem field_high (x : Int) : uw (wordP (fieldP x 7 64)) = uw x / 128 := by
  refine Nat.eq_of_testBit_eq (fun i => ?_)
  rw [← bit_uw]
  by_cases hi : i < 64
  · rw [bit_wordP _ i hi, show (128 : Nat) = 2 ^ 7 from rfl, Nat.testBit_div_two_pow]
    unfold fieldP
    rw [← bit_uw]
    have : (i : Int) < 64 := by omega
    simp [this, Nat.add_comm]
  · rw [bit_ge _ (by omega), show (128 : Nat) = 2 ^ 7 from rfl, Nat.testBit_div_two_pow]
    exact (Nat.testBit_lt_two_pow (Nat.lt_of_lt_of_le (uw_lt x) (Nat.pow_le_pow_right (n := 2) (i := 64) (by decide) (by omega)))).symm
theorem uw_zero {x : Int} (h : InI x) : x = 0 ↔ uw x = 0 := by
  constructor
  · rintro rfl
    refine Nat.eq_of_testBit_eq (fun i => ?_)
    rw [← bit_uw, bit_zero]; simp
  · intro h0
    refine bit_inj h (by unfold InI; decide) (fun i _ => ?_)
    rw [bit_uw, h0, bit_zero]
    simp
theorem ref02_put_loop : ∀ (d : Nat) (x : Int) (acc : List Int), uw x < 2 * 128 ^ d → acc.length + d ≤ 20 → Ev (fun k => peristyleref02_Put.l0 k x acc) (strOfNums (acc ++ vb d (uw x)))
  | 0, x, acc, h, ha => by
    simp at h
    refine Ev.step (fun k => peristyleref02_Put.l0_succ k _ _) (Ev.call (ref_Field_eq _ _ _) (Ev.call (ref_Field_eq _ _ _) (Ev.yes ?_ (Ev.yes (by omega) (Ev.val ?_)))))
    · rw [uw_zero (InI_wordP _), field_high]; omega
    · rw [field_low]
      simp only [vb]
      rw [show (((uw x % 128 : Nat) : Int) % 256) = ((uw x : Nat) : Int) by omega]
  | d + 1, x, acc, h, ha => by
    have hh := field_high x
    refine Ev.step (fun k => peristyleref02_Put.l0_succ k _ _) (Ev.call (ref_Field_eq _ _ _) (Ev.call (ref_Field_eq _ _ _) ?_))
    rw [field_low]
    simp only [vb]
    by_cases h1 : 128 ≤ uw x
    · have hne : ¬ wordP (fieldP x 7 64) = 0 := by rw [uw_zero (InI_wordP _), hh]; omega
      refine Ev.no hne (Ev.yes (by omega) ?_)
      rw [if_pos h1]
      have hih := ref02_put_loop d (wordP (fieldP x 7 64)) (acc ++ [((uw x % 128 + 128 : Nat) : Int)]) (by rw [hh]; rw [Nat.pow_succ] at h; omega) (by simp; omega)
      rw [hh, List.append_assoc] at hih
      have e : wrap64 (128 + ((uw x % 128 : Nat) : Int)) % 256 = ((uw x % 128 + 128 : Nat) : Int) := by unfold wrap64; omega
      rw [e]
      exact hih
    · rw [if_neg h1]
      refine Ev.yes ?_ (Ev.yes (by omega) (Ev.val ?_))
      · rw [uw_zero (InI_wordP _), hh]; omega
      · rw [show (((uw x % 128 : Nat) : Int) % 256) = ((uw x : Nat) : Int) by omega]
theorem ref02_Put_ev {a : Int} (h : InI a) : Ev (fun k => peristyleref02_Put.f k a) (putV a) := by
  unfold peristyleref02_Put.f
  refine Ev.call (ref_Zig_eq a) ?_
  have := ref02_put_loop 9 (wordP (zigP a)) [] (vb9_lt _) (by decide)
  rw [List.nil_append] at this
  exact this
/-! ### bytes read -/
def dbit (s : ByteArray) (t : Nat) : Bool := bit (bt s ((t / 7 : Nat) : Int)) (t % 7)
/-- the word of the first k bytes -/
def wk (s : ByteArray) (k : Nat) : Int := wordP (fun t => decide (t < 7 * k) && dbit s t)
theorem wk_zero (s : ByteArray) : wk s 0 = 0 := (wordP_of (by unfold InI; decide) _ (fun i _ => by rw [bit_zero]; simp)).symm
def zag (w : Int) : Int := wordP (zagP w)
def okV (s : ByteArray) (k : Nat) : Prop := vl (wk s (k + 1)) = k + 1 ∧ (k < 9 ∨ bt s (k : Int) = 1)
instance (s : ByteArray) (k : Nat) : Decidable (okV s k) := by unfold okV; infer_instance
def takeFrom (s : ByteArray) : Nat → Nat → Int × Int × Int
  | 0, _ => (0, 0, 20)
  | d + 1, k => if k < s.size then if 128 ≤ bt s (k : Int) then takeFrom s d (k + 1) else if okV s k then (zag (wk s (k + 1)), ((k + 1 : Nat) : Int), 0) else (0, 0, 20) else (0, 0, 20)
def takeV (s : ByteArray) : Int × Int × Int := takeFrom s 10 0
theorem takeFrom_or (s : ByteArray) : ∀ d k, (takeFrom s d k = (0, 0, 20)) ∨ ∃ j, k ≤ j ∧ j < k + d ∧ j < s.size ∧ takeFrom s d k = (zag (wk s (j + 1)), ((j + 1 : Nat) : Int), 0)
  | 0, k => .inl rfl
  | d + 1, k => by
    simp only [takeFrom]
    split
    · split
      · rcases takeFrom_or s d (k + 1) with h | ⟨j, h1, h2, h3, h4⟩
        · exact .inl h
        · exact .inr ⟨j, by omega, by omega, h3, h4⟩
      · split
        · exact .inr ⟨k, by omega, by omega, by assumption, rfl⟩
        · exact .inl rfl
    · exact .inl rfl
theorem takeV_or (s : ByteArray) : (takeV s = (0, 0, 20)) ∨ ∃ x : Int, ∃ j : Nat, InI x ∧ 1 ≤ j ∧ j ≤ 10 ∧ j ≤ s.size ∧ takeV s = (x, (j : Int), 0) := by
  rcases takeFrom_or s 10 0 with h | ⟨j, h1, h2, h3, h4⟩
  · exact .inl h
  · exact .inr ⟨_, j + 1, InI_wordP _, by omega, by omega, by omega, h4⟩
theorem wk_step (s : ByteArray) (k : Nat) (hk : k < 10) : Go.bits .or .u64 (IntKind.u64.wrap (wk s k)) (shl .u64 (IntKind.u64.wrap (Go.bits .andNot .u8 (bt s (k : Int)) 128)) ((7 * k : Nat) : Int)) = IntKind.u64.wrap (wk s (k + 1)) := by
  have hc := bt_range s (k : Int)
  rw [(byte_op (c := bt s (k : Int)) (by omega)).1]
  refine InU_inj (InU_bits _ _ _) (InU_u64 _) (fun i hi => ?_)
  rw [bit_uor, bit_u64, bit_u64, bit_shl _ _ i hi, bit_u64, Int.toNat_natCast]
  unfold wk
  rw [bit_wordP _ i hi, bit_wordP _ i hi]
  by_cases h1 : i < 7 * k
  · have h2 : ¬ 7 * k ≤ i := by omega
    have h3 : i < 7 * (k + 1) := by omega
    simp [h1, h2, h3]
  · have h2 : 7 * k ≤ i := by omega
    rw [show (128 : Int) = 2 ^ 7 from rfl, bit_mod hc.1 7 _ (by omega)]
    by_cases h3 : i < 7 * (k + 1)
    · have h4 : i - 7 * k < 7 := by omega
      unfold dbit
      rw [show i / 7 = k by omega, show i % 7 = i - 7 * k by omega]
      simp [h1, h2, h3, h4]
    · have h4 : ¬ i - 7 * k < 7 := by omega
      simp [h1, h2, h3, h4]
theorem vint_Len_ev {a : Int} (h : InI a) : Ev (fun k => vint_Len.f k a) (vl (zig a) : Int) := by
  unfold vint_Len.f
  refine Ev.call (bits_Zig_eq h) (Ev.bind (Ev.at_ 7 (fun k => bits_Width_eq k _)) (Ev.val ?_))
  have hw := wid_le (wordP (zigP a))
  show mx 1 (wrap64 (Int.tdiv (wrap64 (wrap64 (wid (wordP (zigP a)) + 7) - 1)) 7)) = _
  rw [show wrap64 (wrap64 (wid (wordP (zigP a)) + 7) - 1) = wid (wordP (zigP a)) + 6 by unfold wrap64; omega]
  obtain ⟨r, hr⟩ := Int.eq_ofNat_of_zero_le hw.1
  have hv := vl_wid (wordP (zigP a))
  rw [hr] at hv ⊢
  have e : Int.tdiv ((r : Int) + 6) 7 = (((r + 6) / 7 : Nat) : Int) := rfl
  rw [e] at hv ⊢
  rw [show wrap64 (((r + 6) / 7 : Nat) : Int) = (((r + 6) / 7 : Nat) : Int) by unfold wrap64; omega]
  exact hv
theorem zig_of_zag {w : Int} (h : InI w) : zig (zag w) = w := by
  have h1 := zig_zag h
  rw [bits_Zig_eq (InI_wordP _)] at h1
  exact Option.some.inj h1
theorem zag_of_zig {a : Int} (h : InI a) : zag (zig a) = a := by
  have h1 := zag_zig h
  rw [bits_Zag_eq] at h1
  exact Option.some.inj h1
theorem vint_take_loop (s : ByteArray) (hs : s.size ≤ 9000000000000000000) : ∀ (d k : Nat), k + d = 10 → k ≤ s.size →
    Ev (fun n => vint_Take.l0 n s (IntKind.u64.wrap (wk s k)) (mn (s.size : Int) 10) (k : Int)) (takeFrom s d k)
  | 0, k, h, hk => by
    refine Ev.step (fun n => vint_Take.l0_succ n _ _ _ _) (Ev.no ?_ (Ev.now _))
    unfold mn; split <;> omega
  | d + 1, k, h, hk => by
    refine Ev.step (fun n => vint_Take.l0_succ n _ _ _ _) ?_
    simp only [takeFrom]
    by_cases h1 : k < s.size
    · rw [if_pos h1]
      have hlt : (k : Int) < mn (s.size : Int) 10 := by unfold mn; split <;> omega
      have h7 : wrap64 (7 * (k : Int)) = ((7 * k : Nat) : Int) := by unfold wrap64; omega
      have hw1 : wrap64 ((k : Int) + 1) = ((k + 1 : Nat) : Int) := by unfold wrap64; omega
      refine Ev.yes hlt (Ev.yes (by omega) (Ev.yes (by omega) ?_))
      rw [h7, wk_step s k (by omega), hw1]
      refine Ev.yes (by omega) ?_
      by_cases h2 : 128 ≤ bt s (k : Int)
      · rw [if_pos h2]
        exact Ev.yes h2 (vint_take_loop s hs d (k + 1) (by omega) (by omega))
      · rw [if_neg h2]
        refine Ev.no h2 ?_
        have hww : wrap64 (IntKind.u64.wrap (wk s (k + 1))) = wk s (k + 1) := by
          refine bit_inj (InI_wrap64 _) (InI_wordP _) (fun i _ => ?_)
          rw [bit_wrap64, bit_u64]
        rw [hww]
        refine Ev.call (bits_Zag_eq _) (Ev.bind (vint_Len_ev (InI_wordP _)) ?_)
        have hz := zig_of_zag (w := wk s (k + 1)) (InI_wordP _)
        unfold zag at hz
        rw [hz]
        by_cases h3 : vl (wk s (k + 1)) = k + 1
        · refine Ev.yes (by omega) ?_
          by_cases h4 : k < 9
          · rw [if_pos (show okV s k from ⟨h3, .inl h4⟩)]
            exact Ev.yes (by omega) (Ev.val rfl)
          · refine Ev.no (by omega) ?_
            by_cases h5 : bt s (k : Int) = 1
            · rw [if_pos (show okV s k from ⟨h3, .inr h5⟩)]
              exact Ev.yes h5 (Ev.val rfl)
            · rw [if_neg (show ¬ okV s k from fun h => by rcases h.2 with h | h; exact h4 h; exact h5 h)]
              exact Ev.no h5 (Ev.now _)
        · rw [if_neg (show ¬ okV s k from fun h => h3 h.1)]
          exact Ev.no (by omega) (Ev.now _)
    · rw [if_neg h1]
      refine Ev.no ?_ (Ev.now _)
      unfold mn; split <;> omega
theorem vint_Take_ev (s : ByteArray) (hs : s.size ≤ 9000000000000000000) : Ev (fun n => vint_Take.f n s) (takeV s) := by
  have := vint_take_loop s hs 10 0 (by omega) (by omega)
  rw [wk_zero] at this
  exact this
/-! ### bytes beside bytes -/
theorem bt_append_left (a b : ByteArray) (i : Nat) (h : i < a.size) : bt (a ++ b) (i : Int) = bt a (i : Int) := by
  have h2 : i < (a ++ b).size := by rw [ByteArray.size_append]; omega
  unfold bt
  rw [Int.toNat_natCast, dif_pos h, dif_pos h2, ByteArray.getElem_append_left h]
theorem bt_extract (a : ByteArray) (i j k : Nat) (h : i + k < j) (hj : j ≤ a.size) : bt (a.extract i j) (k : Int) = bt a ((i + k : Nat) : Int) := by
  have h2 : k < (a.extract i j).size := by rw [ByteArray.size_extract]; omega
  unfold bt
  rw [Int.toNat_natCast, Int.toNat_natCast, dif_pos h2, dif_pos (by omega), ByteArray.getElem_extract]
theorem bytes_length (s : ByteArray) : (bytesOf s).length = s.size := by unfold bytesOf; rw [List.length_map, Array.length_toList]; rfl
theorem bytes_getElem (s : ByteArray) (j : Nat) (h : j < (bytesOf s).length) : (bytesOf s)[j] = bt s (j : Int) := by
  have h2 : j < s.size := by rw [bytes_length] at h; exact h
  unfold bt
  rw [Int.toNat_natCast, dif_pos h2]
  simp [bytesOf, ByteArray.getElem_eq_getElem_data]
theorem bytes_small (s : ByteArray) : ∀ x, x ∈ bytesOf s → 0 ≤ x ∧ x < 256 := by
  intro x hx
  obtain ⟨i, hi, rfl⟩ := List.getElem_of_mem hx
  rw [bytes_getElem]
  have := bt_range s (i : Int)
  omega
theorem str_eq_iff (l : List Int) (hl : ∀ x, x ∈ l → 0 ≤ x ∧ x < 256) (s : ByteArray) : (strOfNums l).toList = s.toList ↔ l = bytesOf s := by
  constructor
  · intro h
    rw [← toList_inj h, bytesOf_str l hl]
  · rintro rfl
    rw [str_bytesOf]
theorem dig (s : ByteArray) (k j : Nat) (hj : j < k) (h8 : j ≤ 8) : uw (wk s k) / 128 ^ j % 128 = (bt s (j : Int)).toNat % 128 := by
  obtain ⟨c, hc⟩ := Int.eq_ofNat_of_zero_le (bt_range s (j : Int)).1
  rw [hc, Int.toNat_natCast, pow128]
  refine Nat.eq_of_testBit_eq (fun i => ?_)
  rw [show (128 : Nat) = 2 ^ 7 from rfl, Nat.testBit_mod_two_pow, Nat.testBit_mod_two_pow]
  by_cases h7 : i < 7
  · rw [Nat.testBit_div_two_pow, ← bit_uw]
    unfold wk
    rw [show i + 7 * j = 7 * j + i by omega, bit_wordP _ _ (by omega)]
    unfold dbit
    rw [show (7 * j + i) / 7 = j by omega, show (7 * j + i) % 7 = i by omega, hc, bit_nat _ _ (by omega)]
    have h : 7 * j + i < 7 * k := by omega
    simp [h]
  · simp [h7]
theorem ok_iff (s : ByteArray) (k : Nat) (hk : k < 10) (hs : k < s.size) (hc : ∀ j : Nat, j < k → 128 ≤ bt s (j : Int)) (hl : bt s (k : Int) < 128) :
    okV s k ↔ vb 9 (uw (wk s (k + 1))) = bytesOf (s.extract 0 (k + 1)) := by
  have hX := vb9_lt (wk s (k + 1))
  have hlen : (vb 9 (uw (wk s (k + 1)))).length = vl (wk s (k + 1)) := rfl
  have hel : (bytesOf (s.extract 0 (k + 1))).length = k + 1 := by rw [bytes_length, ByteArray.size_extract]; omega
  have heg : ∀ (j : Nat) (h : j < (bytesOf (s.extract 0 (k + 1))).length), (bytesOf (s.extract 0 (k + 1)))[j] = bt s (j : Int) := by
    intro j h
    rw [bytes_getElem, bt_extract s 0 (k + 1) j (by omega) (by omega), Nat.zero_add]
  have hbd := vb_bounds 9 _ hX
  have hk9 : vl (wk s (k + 1)) = k + 1 → k = 9 → rd (vb 9 (uw (wk s (k + 1)))) (k : Int) = 1 := by
    rintro h1 rfl
    rw [(vb_get 9 _ 9 hX).2 (by rw [hlen, h1])]
    rcases hbd.2 with h | h
    · rw [hlen, h1] at h; omega
    · rw [hlen, h1] at h
      have h : (128 : Nat) ^ 9 ≤ uw (wk s (9 + 1)) := h
      have : uw (wk s (9 + 1)) / 128 ^ 9 = 1 := by omega
      rw [this]; rfl
  constructor
  · rintro ⟨h1, h2⟩
    refine List.ext_getElem (by rw [hlen, hel, h1]) (fun j hj1 hj2 => ?_)
    rw [heg, ← rd_get _ _ hj1]
    have hbr := bt_range s (j : Int)
    have hjk : j < k + 1 := by omega
    by_cases hlast : j = k
    · subst hlast
      by_cases h9 : j = 9
      · rw [hk9 h1 h9]; omega
      · have hd := dig s (j + 1) j (by omega) (by omega)
        rw [(vb_get 9 _ j hX).2 (by rw [hlen, h1])]
        have hb1 := hbd.1 (by rw [hlen, h1]; omega)
        rw [hlen, h1, Nat.pow_succ] at hb1
        have h128 : uw (wk s (j + 1)) / 128 ^ j < 128 := Nat.div_lt_of_lt_mul hb1
        generalize uw (wk s (j + 1)) / 128 ^ j = q at hd h128 ⊢
        omega
    · have hd := dig s (k + 1) j (by omega) (by omega)
      rw [(vb_get 9 _ j hX).1 (by rw [hlen, h1]; omega), hd]
      have := hc j (by omega)
      omega
  · intro he
    have h1 : vl (wk s (k + 1)) = k + 1 := by rw [← hlen, he, hel]
    refine ⟨h1, ?_⟩
    by_cases h9 : k = 9
    · right
      have h := hk9 h1 h9
      rw [he, rd_get _ _ (by omega), heg] at h
      exact h
    · left; omega
theorem with_step (s : ByteArray) (k : Nat) (hk : k < 10) : wordP (withP (wk s k) ((7 * k : Nat) : Int) 7 (bt s (k : Int) % 128)) = wk s (k + 1) := by
  have hc := bt_range s (k : Int)
  refine wordP_congr (fun i hi => ?_)
  unfold withP
  by_cases h2 : 7 * k ≤ i
  · by_cases h3 : i < 7 * (k + 1)
    · rw [if_pos (by omega), show (128 : Int) = 2 ^ 7 from rfl, bit_mod hc.1 7 _ (by omega)]
      unfold dbit
      rw [show i / 7 = k by omega, show i % 7 = i - 7 * k by omega, Int.toNat_natCast]
      have h4 : i - 7 * k < 7 := by omega
      simp [h3, h4]
    · rw [if_neg (by omega)]
      unfold wk
      rw [bit_wordP _ i hi]
      have h4 : ¬ i < 7 * k := by omega
      simp [h3, h4]
  · rw [if_neg (by omega)]
    unfold wk
    rw [bit_wordP _ i hi]
    have h4 : i < 7 * k := by omega
    have h3 : i < 7 * (k + 1) := by omega
    simp [h3, h4]
theorem zigzag {w : Int} (h : InI w) : zig (zag w) = w := by
  have h1 := zig_zag h
  rw [bits_Zig_eq (InI_wordP _)] at h1
  exact Option.some.inj h1
theorem ref02_take_end (s : ByteArray) (k : Nat) (x : Int) (h : ¬ ((k : Int) < (s.size : Int) ∧ (k : Int) < 10)) : Ev (fun n => peristyleref02_Take.l0 n s x (k : Int)) (0, 0, 20) := by
  refine Ev.step (fun n => peristyleref02_Take.l0_succ n _ _ _) ?_
  by_cases h1 : (k : Int) < (s.size : Int)
  · refine Ev.yes h1 ?_
    have h2 : decide ((k : Int) < 10) = false := decide_eq_false (fun h2 => h ⟨h1, h2⟩)
    rw [h2]
    exact Ev.step (fun n => peristyleref02_Take.j1_succ n _ _ _ _) (Ev.no (by decide) (Ev.now _))
  · exact Ev.no h1 (Ev.step (fun n => peristyleref02_Take.j1_succ n _ _ _ _) (Ev.no (by decide) (Ev.now _)))
theorem ref02_take_loop (s : ByteArray) (hs : s.size ≤ 9000000000000000000) : ∀ (d k : Nat), k + d = 10 → k ≤ s.size → (∀ j : Nat, j < k → 128 ≤ bt s (j : Int)) →
    Ev (fun n => peristyleref02_Take.l0 n s (wk s k) (k : Int)) (takeFrom s d k)
  | 0, k, h, hk, hc => ref02_take_end s k _ (by omega)
  | d + 1, k, h, hk, hc => by
    simp only [takeFrom]
    by_cases h1 : k < s.size
    · rw [if_pos h1]
      refine Ev.step (fun n => peristyleref02_Take.l0_succ n _ _ _) (Ev.yes (by omega) ?_)
      have h2 : decide ((k : Int) < 10) = true := decide_eq_true (by omega)
      rw [h2]
      have hbr := bt_range s (k : Int)
      have h7 : wrap64 (7 * (k : Int)) = ((7 * k : Nat) : Int) := by unfold wrap64; omega
      have hw1 : wrap64 ((k : Int) + 1) = ((k + 1 : Nat) : Int) := by unfold wrap64; omega
      have hand : wrap64 (Go.bits .and .u8 (bt s (k : Int)) 127) = bt s (k : Int) % 128 := by
        rw [(byte_op (c := bt s (k : Int)) (by omega)).2.1]
        unfold wrap64; omega
      refine Ev.step (fun n => peristyleref02_Take.j1_succ n _ _ _ _) (Ev.yes rfl (Ev.yes (by omega) (Ev.yes (by omega) (Ev.call (ref_With_eq _ _ _ _) ?_))))
      rw [h7, hand, hw1, with_step s k (by omega)]
      by_cases h3 : 128 ≤ bt s (k : Int)
      · rw [if_pos h3]
        refine Ev.no (by omega) (ref02_take_loop s hs d (k + 1) (by omega) (by omega) (fun j hj => ?_))
        by_cases hjk : j = k
        · subst hjk; exact h3
        · exact hc j (by omega)
      · rw [if_neg h3]
        refine Ev.yes (by omega) (Ev.call (ref_Zag_eq _) (Ev.bind (ref02_Put_ev (InI_wordP _)) (Ev.yes (by omega) (Ev.yes (by omega) ?_))))
        have hz := zigzag (w := wk s (k + 1)) (InI_wordP _)
        unfold zag at hz
        have hp : putV (wordP (zagP (wk s (k + 1)))) = strOfNums (vb 9 (uw (wk s (k + 1)))) := by unfold putV; rw [hz]
        have hiff := ok_iff s k (by omega) h1 hc (by omega)
        rw [hp, Int.toNat_natCast]
        by_cases h4 : okV s k
        · rw [if_pos h4]
          exact Ev.yes ((str_eq_iff _ (vb_small 9 _ (vb9_lt _)) _).2 (hiff.1 h4)) (Ev.val rfl)
        · rw [if_neg h4]
          exact Ev.no (fun h => h4 (hiff.2 ((str_eq_iff _ (vb_small 9 _ (vb9_lt _)) _).1 h))) (Ev.now _)
    · rw [if_neg h1]
      exact ref02_take_end s k _ (by omega)
theorem ref02_Take_ev (s : ByteArray) (hs : s.size ≤ 9000000000000000000) : Ev (fun n => peristyleref02_Take.f n s) (takeV s) := by
  have := ref02_take_loop s hs 10 0 (by omega) (by omega) (fun j hj => absurd hj (by omega))
  rw [wk_zero] at this
  exact this
theorem add_testBit (y t : Nat) (h : t < 7) : (y % 128 + 128).testBit t = y.testBit t := by
  have e : (y % 128 + 128) % 2 ^ 7 = y % 2 ^ 7 := by rw [show (2 : Nat) ^ 7 = 128 from rfl]; omega
  have h1 := Nat.testBit_mod_two_pow (y % 128 + 128) 7 t
  have h2 := Nat.testBit_mod_two_pow y 7 t
  rw [e] at h1
  rw [h1] at h2
  simpa [h] using h2
theorem take_putV {a : Int} (ha : InI a) (r : ByteArray) : takeV (putV a ++ r) = (a, (vl (zig a) : Int), 0) := by
  have hX := vb9_lt (zig a)
  have hlen : (vb 9 (uw (zig a))).length = vl (zig a) := rfl
  have hbd := vb_bounds 9 _ hX
  have hvl := vl_le (zig a)
  have hb : ∀ j : Nat, j < vl (zig a) → bt (putV a ++ r) (j : Int) = rd (vb 9 (uw (zig a))) (j : Int) := by
    intro j hj
    rw [bt_append_left _ _ _ (by rw [putV_size]; exact hj)]
    exact bt_str _ (putV_small a) _
  have hsz : vl (zig a) ≤ (putV a ++ r).size := by rw [ByteArray.size_append, putV_size]; omega
  generalize putV a ++ r = s at hb hsz
  have hlow : vl (zig a) ≤ 9 → uw (zig a) < 128 ^ vl (zig a) := fun h => hbd.1 h
  have hwk : wk s (vl (zig a)) = zig a := by
    refine bit_inj (InI_wordP _) (InI_wordP _) (fun i hi => ?_)
    unfold wk
    rw [bit_wordP _ i hi, bit_uw]
    by_cases h1 : i < 7 * vl (zig a)
    · unfold dbit
      have hj : i / 7 < vl (zig a) := by omega
      have hs : (uw (zig a) / 128 ^ (i / 7)).testBit (i % 7) = (uw (zig a)).testBit i := by
        rw [pow128, Nat.testBit_div_two_pow]
        congr 1
        omega
      rw [hb _ hj]
      by_cases h2 : i / 7 + 1 < vl (zig a)
      · rw [(vb_get 9 _ (i / 7) hX).1 h2, bit_nat _ _ (by omega), add_testBit _ _ (by omega), hs]
        simp [h1]
      · rw [(vb_get 9 _ (i / 7) hX).2 (by rw [hlen]; omega), bit_nat _ _ (by omega), hs]
        simp [h1]
    · have h9 := hlow (by omega)
      rw [pow128] at h9
      rw [Nat.testBit_lt_two_pow (Nat.lt_of_lt_of_le h9 (Nat.pow_le_pow_right (by decide) (by omega)))]
      simp [h1]
  have main : ∀ (d k : Nat), k + d = 10 → k < vl (zig a) → takeFrom s d k = (a, (vl (zig a) : Int), 0) := by
    intro d
    induction d with
    | zero => intro k h1 h2; omega
    | succ d ih =>
      intro k h1 h2
      simp only [takeFrom]
      rw [if_pos (by omega), hb k h2]
      by_cases h3 : k + 1 < vl (zig a)
      · rw [(vb_get 9 _ k hX).1 h3, if_pos (by omega)]
        exact ih (k + 1) (by omega) h3
      · have hk : k + 1 = vl (zig a) := by omega
        have hlast := (vb_get 9 _ k hX).2 hk
        have h10 : k = 9 → uw (zig a) / 128 ^ k = 1 := by
          rintro rfl
          rcases hbd.2 with h | h
          · rw [hlen, ← hk] at h; omega
          · rw [hlen, ← hk] at h
            have h : (128 : Nat) ^ 9 ≤ uw (zig a) := h
            omega
        have hsm : uw (zig a) / 128 ^ k < 128 := by
          by_cases h9 : k = 9
          · rw [h10 h9]; decide
          · have hh := hlow (by omega)
            rw [← hk, Nat.pow_succ] at hh
            exact Nat.div_lt_of_lt_mul hh
        rw [hlast, if_neg (by omega), hk, hwk]
        have hok : okV s k := by
          refine ⟨by rw [hk, hwk], ?_⟩
          by_cases h9 : k = 9
          · right
            rw [hb k h2, hlast, h10 h9]
            rfl
          · left; omega
        rw [if_pos hok]
        have hz := zag_zig ha
        rw [bits_Zag_eq] at hz
        have hz : zag (zig a) = a := Option.some.inj hz
        rw [hz]
  exact main 10 0 (by omega) (by omega)
end Go.Proofs.Ytcencpedgcdanaa.Print
