-- The words of bytes: Take and At, the program's and the document's.
import Derived.Test.YtcencpedgcdanaaPrint10
import Derived.Test.YtcencpedgcdanaaPrint4
import Derived.Test.YtcencpedgcdanaaSQ
import Derived.Lib.Strings
set_option linter.unusedVariables false
set_option linter.unusedSimpArgs false
namespace Go.Proofs.Ytcencpedgcdanaa.Print
open Go.RowKit Go.Proofs.YtcencpedgcdanaaW.PrintWords Go.Proofs.YtcencpedgcdanaaW.PrintMore
/-! ### bytes and their numbers -/
theorem bytesOf_str (l : List Int) (h : ∀ x, x ∈ l → 0 ≤ x ∧ x < 256) : bytesOf (strOfNums l) = l := by
  unfold bytesOf strOfNums
  simp only [List.map_map]
  conv => rhs; rw [← List.map_id l]
  refine List.map_congr_left (fun x hx => ?_)
  have := h x hx
  simp
  omega
theorem str_bytesOf (s : ByteArray) : strOfNums (bytesOf s) = s := by
  unfold bytesOf strOfNums
  rw [List.map_map]
  have : (s.data.toList.map ((fun n : Int => UInt8.ofNat n.toNat) ∘ fun b : UInt8 => (b.toNat : Int))) = s.data.toList := by
    conv => rhs; rw [← List.map_id s.data.toList]
    refine List.map_congr_left (fun x _ => ?_)
    simp
  rw [this]
theorem toList_inj {a b : ByteArray} (h : a.toList = b.toList) : a = b := by
  rw [Lib.toList_data, Lib.toList_data] at h
  cases a with | mk x => cases b with | mk y => exact congrArg ByteArray.mk (Array.toList_inj.1 h)
theorem str_size (l : List Int) : (strOfNums l).size = l.length := by simp [strOfNums, ByteArray.size]
theorem bt_str (l : List Int) (h : ∀ x, x ∈ l → 0 ≤ x ∧ x < 256) (i : Int) : bt (strOfNums l) i = rd l i := by
  rw [← rd_bytesOf, bytesOf_str l h]
theorem small_bits {x : Int} (h : 0 ≤ x ∧ x < 256) (t : Nat) (ht : 8 ≤ t) : bit x t = false := by
  by_cases h64 : t < 64
  · obtain ⟨m, rfl⟩ := Int.eq_ofNat_of_zero_le h.1
    rw [bit_nat _ t h64]
    exact Nat.testBit_lt_two_pow (Nat.lt_of_lt_of_le (show m < 2 ^ 8 by omega) (Nat.pow_le_pow_right (by decide) ht))
  · exact bit_ge _ (by omega)
theorem packB_congr {st st' : Nat → Bool} (N : Nat) (h : ∀ j, j < N → st j = st' j) : packB st N = packB st' N := by
  unfold packB fullB
  have e1 : (List.range (N / 8)).map (byteP st) = (List.range (N / 8)).map (byteP st') := by
    refine List.map_congr_left (fun b hb => ?_)
    have hb' : b < N / 8 := List.mem_range.1 hb
    unfold byteP
    refine wordP_congr (fun t ht => ?_)
    by_cases h8 : t < 8
    · rw [h (8 * b + t) (by omega)]
    · simp [h8]
  have e2 : keptP st N = keptP st' N := by
    unfold keptP
    refine wordP_congr (fun t ht => ?_)
    by_cases h8 : t < N % 8
    · rw [h (N / 8 * 8 + t) (by omega)]
    · simp [h8]
  rw [e1, e2]
theorem packB_rd_full (st : Nat → Bool) (N b : Nat) (h : b < N / 8) : rd (packB st N) (b : Int) = byteP st b := by
  rw [rd_get _ b (by rw [packB_length]; omega)]
  have : (packB st N)[b]? = some (byteP st b) := by
    unfold packB
    rw [List.getElem?_append_left (by rw [fullB_length]; exact h)]
    simp [fullB, h]
  exact (List.getElem?_eq_some_iff.1 this).2
theorem packB_rd_last (st : Nat → Bool) (N : Nat) (h : ¬ N % 8 = 0) : rd (packB st N) ((N / 8 : Nat) : Int) = keptP st N := by
  rw [rd_get _ (N / 8) (by rw [packB_length]; omega)]
  have : (packB st N)[N / 8]? = some (keptP st N) := by
    unfold packB
    rw [List.getElem?_append_right (by rw [fullB_length]; omega), if_neg h, fullB_length, Nat.sub_self]
    rfl
  exact (List.getElem?_eq_some_iff.1 this).2
/-- what was put is found -/
theorem sbit_pack (st : Nat → Bool) (N j : Nat) (h : j < N) : sbit (strOfNums (packB st N)) j = st j := by
  unfold sbit
  rw [bt_str _ (packB_small st N)]
  by_cases e : j / 8 < N / 8
  · rw [packB_rd_full st N _ e]
    unfold byteP
    rw [bit_wordP _ _ (by omega), show 8 * (j / 8) + j % 8 = j by omega]
    have : j % 8 < 8 := by omega
    simp [this]
  · have e1 : j / 8 = N / 8 := by omega
    rw [e1, packB_rd_last st N (by omega)]
    unfold keptP
    rw [bit_wordP _ _ (by omega), show N / 8 * 8 + j % 8 = j by omega]
    have : j % 8 < N % 8 := by omega
    simp [this]
/-- the spare bits of the last byte are none -/
def spareOK (s : ByteArray) (N : Nat) : Prop := N % 8 = 0 ∨ ∀ t, N % 8 ≤ t → bit (bt s ((N / 8 : Nat) : Int)) t = false
theorem pack_same (s : ByteArray) (N : Nat) (hs : s.size = (N + 7) / 8) : strOfNums (packB (sbit s) N) = s ↔ spareOK s N := by
  have hbt : ∀ i : Nat, 0 ≤ bt s (i : Int) ∧ bt s (i : Int) < 256 := fun i => by have := bt_range s (i : Int); omega
  have hfull : ∀ b, b < N / 8 → byteP (sbit s) b = bt s (b : Int) := fun b hb => by
    unfold byteP
    refine (wordP_of (InI_of_small (hbt b)) _ (fun t ht => ?_)).symm
    by_cases h8 : t < 8
    · unfold sbit
      rw [show (8 * b + t) / 8 = b by omega, show (8 * b + t) % 8 = t by omega]
      simp [h8]
    · rw [small_bits (hbt b) t (by omega)]
      simp [h8]
  constructor
  · intro h
    by_cases h0 : N % 8 = 0
    · exact .inl h0
    · right
      intro t ht
      rw [← h, bt_str _ (packB_small _ N), packB_rd_last _ N h0]
      unfold keptP
      by_cases h64 : t < 64
      · rw [bit_wordP _ t h64]
        have : ¬ t < N % 8 := by omega
        simp [this]
      · exact bit_ge _ (by omega)
  · intro h
    have hl : packB (sbit s) N = bytesOf s := by
      refine List.ext_getElem (by rw [packB_length, bytesOf_length, hs]) (fun i h1 h2 => ?_)
      have hi : i < (N + 7) / 8 := by rw [packB_length] at h1; exact h1
      rw [← rd_get (packB (sbit s) N) i h1, ← rd_get (bytesOf s) i h2, rd_bytesOf]
      by_cases e : i < N / 8
      · rw [packB_rd_full _ N i e]
        exact hfull i e
      · have hne : ¬ N % 8 = 0 := by omega
        obtain rfl : i = N / 8 := by omega
        rw [packB_rd_last _ N hne]
        rcases h with h | h
        · exact absurd h hne
        · unfold keptP
          refine (wordP_of (InI_of_small (hbt _)) _ (fun t ht => ?_)).symm
          by_cases h8 : t < N % 8
          · unfold sbit
            rw [show (N / 8 * 8 + t) / 8 = N / 8 by omega, show (N / 8 * 8 + t) % 8 = t by omega]
            simp [h8]
          · rw [h t (by omega)]
            simp [h8]
    rw [hl, str_bytesOf]
def listS (s : ByteArray) (n w : Nat) : List Int := (List.range n).map fun k => wordS s (k * w) w
theorem listS_length (s : ByteArray) (n w : Nat) : (listS s n w).length = n := by simp [listS]
theorem listS_getD (s : ByteArray) (n w k : Nat) (h : k < n) : (listS s n w).getD k 0 = wordS s (k * w) w := by simp [listS, List.getD_eq_getElem?_getD, h]
theorem stL_listS (s : ByteArray) (n w j : Nat) (hw : w ≤ 64) (h : j < n * w) : stL (listS s n w) w j = sbit s j := by
  unfold stL
  have hw0 : 0 < w := by
    rcases Nat.eq_zero_or_pos w with h0 | h0
    · subst h0; simp at h
    · exact h0
  have hk : j / w < n := (Nat.div_lt_iff_lt_mul hw0).2 h
  have hm : j % w < w := Nat.mod_lt _ hw0
  rw [listS_getD _ _ _ _ hk]
  unfold wordS
  rw [bit_wordP _ _ (by omega), Nat.mul_comm, Nat.div_add_mod]
  simp [hm]
theorem widL_listS (s : ByteArray) (n w : Nat) (hw : w ≤ 64) : widL (listS s n w) ≤ (w : Int) := by
  rw [widL_le_iff _ _ (by omega)]
  intro x hx i hi
  obtain ⟨k, _, rfl⟩ := List.mem_map.1 hx
  unfold wordS
  by_cases h64 : i < 64
  · rw [bit_wordP _ i h64]
    have : ¬ i < w := by omega
    simp [this]
  · exact bit_ge _ (by omega)
noncomputable instance (s : ByteArray) (N : Nat) : Decidable (spareOK s N) := Classical.propDecidable _
def bytesN (n w : Int) : Int := if n < 1 ∨ 65536 < n ∨ w < 1 ∨ 64 < w then 0 else (n * w + 7) / 8
theorem bytesN_nat (n w : Nat) (hn : n ≤ 65536) (hw : w ≤ 64) : bytesN (n : Int) (w : Int) = (((n * w + 7) / 8 : Nat) : Int) := by
  unfold bytesN
  have hc : (n : Int) * (w : Int) = ((n * w : Nat) : Int) := (Int.natCast_mul _ _).symm
  rw [hc]
  split
  · have : n = 0 ∨ w = 0 := by omega
    rcases this with h | h
    · rw [h]; simp
    · rw [h]; simp
  · omega
/-- what Take tells -/
noncomputable def takeR (s : ByteArray) (n w : Int) : List Int × Int :=
  if w < 0 ∨ 64 < w ∨ n < 0 ∨ 65536 < n then ([], 1)
  else if (s.size : Int) = bytesN n w ∧ spareOK s (n.toNat * w.toNat) then (listS s n.toNat w.toNat, 0) else ([], 20)
theorem shr_u8_pos (x : Int) (h : 0 ≤ x ∧ x < 256) (m : Nat) (hm : m < 8) : shr .u8 x (m : Int) > 0 ↔ ¬ ∀ t, m ≤ t → bit x t = false := by
  obtain ⟨y, rfl⟩ := Int.eq_ofNat_of_zero_le h.1
  have e : shr .u8 (y : Int) (m : Int) = ((y / 2 ^ m : Nat) : Int) := by
    unfold shr
    rw [show min (m : Int).toNat IntKind.u8.bits = m from Nat.min_eq_left (by show m ≤ 8; omega), pow_cast, Int.natCast_ediv]
  rw [e]
  have hp := Nat.two_pow_pos m
  have key : y / 2 ^ m = 0 ↔ ∀ t, m ≤ t → bit (y : Int) t = false := by
    constructor
    · intro h0 t ht
      rcases (Nat.div_eq_zero_iff).1 h0 with h1 | h1
      · exact absurd h1 (Nat.ne_of_gt hp)
      · by_cases h64 : t < 64
        · rw [bit_nat _ t h64]
          exact Nat.testBit_lt_two_pow (Nat.lt_of_lt_of_le h1 (Nat.pow_le_pow_right (by decide) ht))
        · exact bit_ge _ (by omega)
    · intro hb
      refine Nat.div_eq_of_lt (Nat.lt_pow_two_of_testBit y (fun t ht => ?_))
      by_cases h64 : t < 64
      · rw [← bit_nat _ t h64]; exact hb t ht
      · exact Nat.testBit_lt_two_pow (Nat.lt_of_lt_of_le (show y < 2 ^ 8 by omega) (Nat.pow_le_pow_right (by decide) (by omega)))
  rw [← key]
  constructor
  · intro h1 h2
    rw [h2] at h1
    exact absurd h1 (by decide)
  · intro h1
    exact Int.ofNat_lt.2 (Nat.pos_of_ne_zero h1)
theorem take_loop (s : ByteArray) (n w : Nat) (hw : w ≤ 64) (hn : n ≤ 65536) (hs : s.size = (n * w + 7) / 8) : ∀ (d i : Nat), i + d = n →
    Ev (fun k => pack_Take.l0 k s (w : Int) ((List.range i).map (fun k => wordS s (k * w) w) ++ List.replicate (n - i) 0) (n : Int) (i : Int)) (listS s n w, 0)
  | 0, i, h => by
    obtain rfl : i = n := by omega
    refine Ev.step (fun k => pack_Take.l0_succ k _ _ _ _ _) (Ev.no (by omega) (Ev.val ?_))
    unfold listS
    simp
  | d + 1, i, h => by
    have hN : (i + 1) * w ≤ n * w := Nat.mul_le_mul_right w (by omega)
    have hN2 : n * w ≤ 65536 * 64 := Nat.mul_le_mul hn hw
    rw [Nat.succ_mul] at hN
    have hih := take_loop s n w hw hn hs d (i + 1) (by omega)
    refine Ev.step (fun k => pack_Take.l0_succ k _ _ _ _ _) (Ev.yes (by omega) (Ev.bind (pack_word_ev s i w hw (by omega) (by omega)) (Ev.yes (by omega) (Ev.yes (by simp; omega) ?_))))
    have e : ((List.range i).map (fun k => wordS s (k * w) w) ++ List.replicate (n - i) 0).set (i : Int).toNat (wordS s (i * w) w) = (List.range (i + 1)).map (fun k => wordS s (k * w) w) ++ List.replicate (n - (i + 1)) 0 := by
      obtain ⟨m, hm⟩ : ∃ m, n - i = m + 1 := ⟨n - i - 1, by omega⟩
      rw [hm, show n - (i + 1) = m by omega, Int.toNat_natCast, List.set_append_right _ _ (by simp), List.range_succ, List.replicate_succ]
      simp
    rw [e, show wrap64 ((i : Int) + 1) = ((i + 1 : Nat) : Int) by unfold wrap64; omega]
    exact hih
theorem take_no (s : ByteArray) (n w : Int) : Ev (fun k => pack_Take.j0 k s n w true) (([] : List Int), 1) :=
  Ev.step (fun k => pack_Take.j0_succ k _ _ _ _) (Ev.yes rfl (Ev.now _))
theorem pack_Take_ev (s : ByteArray) (n w : Int) (hsz : s.size ≤ 4294967296) : Ev (fun k => pack_Take.f k s n w) (takeR s n w) := by
  have hno : (w < 0 ∨ 64 < w ∨ n < 0 ∨ 65536 < n) → Ev (fun k => pack_Take.j0 k s n w true) (takeR s n w) := fun h => by
    unfold takeR
    rw [if_pos h]
    exact take_no s n w
  unfold pack_Take.f
  by_cases h1 : w < 0
  · exact Ev.yes h1 (hno (.inl h1))
  refine Ev.no h1 ?_
  by_cases h2 : w > 64
  · exact Ev.yes h2 (hno (.inr (.inl h2)))
  refine Ev.no h2 ?_
  by_cases h3 : n < 0
  · exact Ev.yes h3 (hno (.inr (.inr (.inl h3))))
  refine Ev.no h3 ?_
  by_cases h4 : n > 65536
  · rw [decide_eq_true h4]
    exact hno (.inr (.inr (.inr h4)))
  rw [decide_eq_false h4]
  unfold takeR
  rw [if_neg (by omega)]
  obtain ⟨n, rfl⟩ := Int.eq_ofNat_of_zero_le (show 0 ≤ n by omega)
  obtain ⟨w, rfl⟩ := Int.eq_ofNat_of_zero_le (show 0 ≤ w by omega)
  have hN2 : n * w ≤ 65536 * 64 := Nat.mul_le_mul (by omega) (by omega)
  simp only [Int.toNat_natCast]
  refine Ev.step (fun k => pack_Take.j0_succ k _ _ _ _) (Ev.no (by decide) (Ev.call (v := bytesN n w) (pack_Bytes_eq _ _) ?_))
  by_cases h5 : (s.size : Int) = bytesN n w
  · refine Ev.yes h5 ?_
    have h5' : s.size = (n * w + 7) / 8 := by rw [bytesN_nat n w (by omega) (by omega)] at h5; omega
    have hpw : wrap64 ((n : Int) * (w : Int)) = ((n * w : Nat) : Int) := by rw [← Int.natCast_mul]; unfold wrap64; omega
    have h7 : Go.bits .and .i64 ((n * w : Nat) : Int) 7 = ((n * w % 8 : Nat) : Int) := by rw [and_7]; omega
    rw [hpw, h7]
    have hgood : spareOK s (n * w) → Ev (fun k => pack_Take.j1 k s (n : Int) (w : Int) false) (if (s.size : Int) = bytesN n w ∧ spareOK s (n * w) then (listS s n w, 0) else ([], 20)) := fun hg => by
      rw [if_pos ⟨h5, hg⟩]
      refine Ev.step (fun k => pack_Take.j1_succ k _ _ _ _) (Ev.no (by decide) (Ev.yes (by omega) (Ev.yes (by omega) ?_)))
      have := take_loop s n w (by omega) (by omega) h5' n 0 (by omega)
      exact this
    have hbad : ¬ spareOK s (n * w) → Ev (fun k => pack_Take.j1 k s (n : Int) (w : Int) true) (if (s.size : Int) = bytesN n w ∧ spareOK s (n * w) then (listS s n w, 0) else ([], 20)) := fun hg => by
      rw [if_neg (fun h => hg h.2)]
      exact Ev.step (fun k => pack_Take.j1_succ k _ _ _ _) (Ev.yes rfl (Ev.now _))
    by_cases h8 : n * w % 8 = 0
    · exact Ev.no (by omega) (hgood (.inl h8))
    · have hbt : 0 ≤ bt s ((n * w / 8 : Nat) : Int) ∧ bt s ((n * w / 8 : Nat) : Int) < 256 := by have := bt_range s ((n * w / 8 : Nat) : Int); omega
      refine Ev.yes (by omega) (Ev.yes (by unfold wrap64; omega) (Ev.yes (by unfold wrap64; omega) (Ev.yes (by omega) ?_)))
      rw [show wrap64 ((s.size : Int) - 1) = ((n * w / 8 : Nat) : Int) by unfold wrap64; omega]
      by_cases hg : spareOK s (n * w)
      · rw [decide_eq_false (fun h => by
          rcases hg with hg | hg
          · exact h8 hg
          · exact (shr_u8_pos _ hbt _ (by omega)).1 h hg)]
        exact hgood hg
      · rw [decide_eq_true ((shr_u8_pos _ hbt _ (by omega)).2 (fun h => hg (.inr h)))]
        exact hbad hg
  · refine Ev.no h5 ?_
    rw [if_neg (fun h => h5 h.1)]
    exact Ev.now _
theorem ref_take_loop (s : ByteArray) (n w : Nat) (hw : w ≤ 64) (hn : n ≤ 65536) (hs : s.size = (n * w + 7) / 8) (hb : (s.size : Int) = bytesN n w) : ∀ (d i : Nat), i + d = n →
    Ev (fun k => peristyleref08_Take.l0 k s (n : Int) (w : Int) ((List.range i).map (fun k => wordS s (k * w) w)) (i : Int)) (if (s.size : Int) = bytesN n w ∧ spareOK s (n * w) then (listS s n w, 0) else ([], 20))
  | 0, i, h => by
    obtain rfl : i = n := by omega
    refine Ev.step (fun k => peristyleref08_Take.l0_succ k _ _ _ _ _) (Ev.no (by omega) (Ev.bind (ref08_Put_ev _ _ (by simp; omega)) ?_))
    have hput : putR (listS s i w) (w : Int) = (strOfNums (packB (sbit s) (i * w)), 0) := by
      unfold putR
      rw [if_pos (by unfold mayPut; rw [listS_length]; exact ⟨by omega, by omega, hn, widL_listS s i w hw⟩), listS_length, Int.toNat_natCast]
      rw [packB_congr (st' := sbit s) _ (fun j hj => stL_listS s i w j hw hj)]
    have hput' : putR ((List.range i).map (fun k => wordS s (k * w) w)) (w : Int) = (strOfNums (packB (sbit s) (i * w)), 0) := hput
    rw [hput']
    by_cases hg : spareOK s (i * w)
    · refine Ev.yes (by rw [(pack_same s (i * w) hs).2 hg]) (Ev.val ?_)
      rw [if_pos ⟨hb, hg⟩]
      rfl
    · refine Ev.no (fun h => hg ((pack_same s (i * w) hs).1 (toList_inj h))) (Ev.val ?_)
      rw [if_neg (fun h => hg h.2)]
  | d + 1, i, h => by
    have hN : (i + 1) * w ≤ n * w := Nat.mul_le_mul_right w (by omega)
    have hN2 : n * w ≤ 65536 * 64 := Nat.mul_le_mul hn hw
    rw [Nat.succ_mul] at hN
    have hih := ref_take_loop s n w hw hn hs hb d (i + 1) (by omega)
    refine Ev.step (fun k => peristyleref08_Take.l0_succ k _ _ _ _ _) (Ev.yes (by omega) (Ev.bind (ref_word_ev s i w hw (by omega) (by omega)) (Ev.yes (by simp; omega) ?_)))
    rw [show wrap64 ((i : Int) + 1) = ((i + 1 : Nat) : Int) by unfold wrap64; omega]
    rw [List.range_succ, List.map_append] at hih
    exact hih
theorem ref_take_no (s : ByteArray) (n w : Int) : Ev (fun k => peristyleref08_Take.j0 k s n w true) (([] : List Int), 1) :=
  Ev.step (fun k => peristyleref08_Take.j0_succ k _ _ _ _) (Ev.yes rfl (Ev.now _))
theorem ref08_Take_ev (s : ByteArray) (n w : Int) (hsz : s.size ≤ 4294967296) : Ev (fun k => peristyleref08_Take.f k s n w) (takeR s n w) := by
  have hno : (w < 0 ∨ 64 < w ∨ n < 0 ∨ 65536 < n) → Ev (fun k => peristyleref08_Take.j0 k s n w true) (takeR s n w) := fun h => by
    unfold takeR
    rw [if_pos h]
    exact ref_take_no s n w
  unfold peristyleref08_Take.f
  by_cases h1 : w < 0
  · exact Ev.yes h1 (hno (.inl h1))
  refine Ev.no h1 ?_
  by_cases h2 : w > 64
  · exact Ev.yes h2 (hno (.inr (.inl h2)))
  refine Ev.no h2 ?_
  by_cases h3 : n < 0
  · exact Ev.yes h3 (hno (.inr (.inr (.inl h3))))
  refine Ev.no h3 ?_
  by_cases h4 : n > 65536
  · rw [decide_eq_true h4]
    exact hno (.inr (.inr (.inr h4)))
  rw [decide_eq_false h4]
  unfold takeR
  rw [if_neg (by omega)]
  obtain ⟨n, rfl⟩ := Int.eq_ofNat_of_zero_le (show 0 ≤ n by omega)
  obtain ⟨w, rfl⟩ := Int.eq_ofNat_of_zero_le (show 0 ≤ w by omega)
  simp only [Int.toNat_natCast]
  refine Ev.step (fun k => peristyleref08_Take.j0_succ k _ _ _ _) (Ev.no (by decide) (Ev.call (v := bytesN n w) (ref_Bytes_eq _ _) ?_))
  by_cases h5 : (s.size : Int) = bytesN n w
  · refine Ev.yes h5 ?_
    have h5' : s.size = (n * w + 7) / 8 := by rw [bytesN_nat n w (by omega) (by omega)] at h5; omega
    exact ref_take_loop s n w (by omega) (by omega) h5' h5 n 0 (by omega)
  · refine Ev.no h5 ?_
    rw [if_neg (fun h => h5 h.1)]
    exact Ev.now _
/-- what At tells -/
def atR (s : ByteArray) (k w : Int) : Int × Int :=
  if w < 1 ∨ 64 < w then (0, 1) else if k < 0 ∨ 8 * (s.size : Int) / w ≤ k then (0, 3) else (wordS s (k.toNat * w.toNat) w.toNat, 0)
theorem at_bounds (s : ByteArray) (k w : Nat) (hsz : s.size ≤ 134217728) (hw : 1 ≤ w) (hw2 : w ≤ 64) : wrap64 (Int.tdiv (wrap64 (8 * (s.size : Int))) (w : Int)) = ((8 * s.size / w : Nat) : Int) ∧ 8 * (s.size : Int) / (w : Int) = ((8 * s.size / w : Nat) : Int) ∧ (k < 8 * s.size / w → k * w + w ≤ 8 * s.size) := by
  have e1 : wrap64 (8 * (s.size : Int)) = ((8 * s.size : Nat) : Int) := by unfold wrap64; omega
  have e2 : Int.tdiv ((8 * s.size : Nat) : Int) (w : Int) = ((8 * s.size / w : Nat) : Int) := rfl
  have hle : 8 * s.size / w ≤ 8 * s.size := Nat.div_le_self _ _
  refine ⟨?_, ?_, fun h => ?_⟩
  · rw [e1, e2]
    generalize 8 * s.size / w = q at hle ⊢
    unfold wrap64
    omega
  · rw [show 8 * (s.size : Int) = ((8 * s.size : Nat) : Int) by omega, Int.natCast_ediv]
  · have := (Nat.le_div_iff_mul_le (show 0 < w by omega) (x := k + 1) (y := 8 * s.size)).1 h
    rw [Nat.succ_mul] at this
    exact this
end Go.Proofs.Ytcencpedgcdanaa.Print
