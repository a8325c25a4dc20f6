-- Words of few bits as bytes: what the program's functions and the document's tell.
import Derived.Test.YtcencpedgcdanaaPrint1
import Derived.Test.YtcencpedgcdanaaPrint2
import Derived.Test.YtcencpedgcdanaaPrint7
import Derived.Test.YtcencpedgcdanaaXB
import Derived.Test.YtcencpedgcdanaaSG
import Derived.Test.YtcencpedgcdanaaSB
import Derived.Test.YtcencpedgcdanaaSC
set_option linter.unusedVariables false
set_option linter.unusedSimpArgs false
namespace Go.Proofs.Ytcencpedgcdanaa.Print
open Go.RowKit Go.Proofs.YtcencpedgcdanaaW.PrintWords Go.Proofs.YtcencpedgcdanaaW.PrintMore
/-! ### widths -/
theorem topTo_le (l : List Bool) : ∀ k, 0 ≤ topTo l k ∧ topTo l k ≤ k
  | 0 => by simp [topTo]
  | k + 1 => by
    have := topTo_le l k
    simp only [topTo]
    split <;> omega
theorem topTo_le_iff (l : List Bool) (r : Int) (hr : 0 ≤ r) : ∀ k, topTo l k ≤ r ↔ ∀ i : Nat, r ≤ (i : Int) → i < k → bAt l i = false
  | 0 => by
    refine ⟨fun _ i _ h => absurd h (Nat.not_lt_zero i), fun _ => ?_⟩
    simp only [topTo]
    exact hr
  | k + 1 => by
    have ih := topTo_le_iff l r hr k
    simp only [topTo]
    by_cases hb : bAt l k = true
    · rw [if_pos hb]
      constructor
      · intro h i h1 h2
        omega
      · intro h
        by_cases hk : (k : Int) + 1 ≤ r
        · exact hk
        · have := h k (by omega) (by omega)
          rw [hb] at this
          exact absurd this (by decide)
    · rw [if_neg hb]
      rw [ih]
      constructor
      · intro h i h1 h2
        by_cases e : i = k
        · subst e; simpa using hb
        · exact h i h1 (by omega)
      · intro h i h1 h2
        exact h i h1 (by omega)
def wid (a : Int) : Int := topTo (bitsOf a) 64
theorem wid_le (a : Int) : 0 ≤ wid a ∧ wid a ≤ 64 := topTo_le _ 64
theorem wid_le_iff (a : Int) (r : Int) (hr : 0 ≤ r) : wid a ≤ r ↔ ∀ i : Nat, r ≤ (i : Int) → bit a i = false := by
  unfold wid
  rw [topTo_le_iff _ _ hr 64]
  constructor
  · intro h i h1
    by_cases h2 : i < 64
    · rw [← bAt_bitsOf]; exact h i h1 h2
    · exact bit_ge a (by omega)
  · intro h i h1 _
    rw [bAt_bitsOf]; exact h i h1
theorem wid_or (a b : Int) : wid (Go.bits .or .i64 a b) = mx (wid a) (wid b) := by
  have ha := wid_le a
  have hb := wid_le b
  have ho := wid_le (Go.bits .or .i64 a b)
  have key : ∀ r : Int, 0 ≤ r → (wid (Go.bits .or .i64 a b) ≤ r ↔ wid a ≤ r ∧ wid b ≤ r) := by
    intro r hr
    rw [wid_le_iff _ r hr, wid_le_iff _ r hr, wid_le_iff _ r hr]
    constructor
    · intro h
      constructor
      · intro i hi
        have := h i hi
        rw [bit_or] at this
        simp at this
        exact this.1
      · intro i hi
        have := h i hi
        rw [bit_or] at this
        simp at this
        exact this.2
    · intro h i hi
      rw [bit_or, h.1 i hi, h.2 i hi]
      rfl
  have h1 := (key (wid (Go.bits .or .i64 a b)) ho.1).1 (Int.le_refl _)
  have h2 := (key (mx (wid a) (wid b)) (by unfold mx; split <;> omega)).2 (by unfold mx; split <;> omega)
  unfold mx at *
  split at h2 <;> omega
def orF (acc : Int) (l : List Int) : Int := l.foldl (fun x y => Go.bits .or .i64 x y) acc
theorem bit_orF (l : List Int) : ∀ (acc : Int) (i : Nat), bit (orF acc l) i = (bit acc i || l.any (fun x => bit x i)) := by
  induction l with
  | nil => intro acc i; simp [orF]
  | cons x l ih =>
    intro acc i
    have := ih (Go.bits .or .i64 acc x) i
    unfold orF at this ⊢
    rw [List.foldl_cons, this, bit_or, List.any_cons, Bool.or_assoc]
/-- how many bits each of some words needs, at least -/
def widL (l : List Int) : Int := wid (orF 0 l)
theorem widL_le (l : List Int) : 0 ≤ widL l ∧ widL l ≤ 64 := wid_le _
theorem widL_le_iff (l : List Int) (r : Int) (hr : 0 ≤ r) : widL l ≤ r ↔ ∀ x, x ∈ l → ∀ i : Nat, r ≤ (i : Int) → bit x i = false := by
  unfold widL
  rw [wid_le_iff _ r hr]
  constructor
  · intro h x hx i hi
    have := h i hi
    rw [bit_orF, bit_zero] at this
    simp at this
    exact this x hx
  · intro h i hi
    rw [bit_orF, bit_zero]
    simp
    intro x hx
    exact h x hx i hi
theorem pack_Width_loop (l : List Int) (hl : l.length ≤ 17592186044416) : ∀ (d i : Nat) (acc : Int), i + d = l.length → Ev (fun k => pack_Width.l0 k acc l (l.length : Int) (i : Int)) (wid (orF acc (l.drop i)))
  | 0, i, acc, h => by
    refine Ev.step (fun k => pack_Width.l0_succ k _ _ _ _) (Ev.no (by omega) ?_)
    refine Ev.bind (Ev.at_ 7 (fun k => bits_Width_eq k acc)) (Ev.val ?_)
    rw [List.drop_of_length_le (by omega)]
    rfl
  | d + 1, i, acc, h => by
    refine Ev.step (fun k => pack_Width.l0_succ k _ _ _ _) (Ev.yes (by omega) (Ev.yes (by omega) (Ev.yes (by omega) ?_)))
    rw [show wrap64 ((i : Int) + 1) = ((i + 1 : Nat) : Int) by unfold wrap64; omega, drop_rd l i (by omega)]
    exact pack_Width_loop l hl d (i + 1) _ (by omega)
theorem pack_Width_ev (l : List Int) (hl : l.length ≤ 17592186044416) : Ev (fun k => pack_Width.f k l) (widL l) := by
  have := pack_Width_loop l hl l.length 0 0 (by omega)
  exact this
theorem ref_Width_loop (l : List Int) (hl : l.length ≤ 17592186044416) : ∀ (d i : Nat) (acc : Int), i + d = l.length → Ev (fun k => peristyleref08_Width.l0 k l (wid acc) (i : Int)) (wid (orF acc (l.drop i)))
  | 0, i, acc, h => by
    refine Ev.step (fun k => peristyleref08_Width.l0_succ k _ _ _) (Ev.no (by omega) (Ev.val ?_))
    rw [List.drop_of_length_le (by omega)]
    rfl
  | d + 1, i, acc, h => by
    refine Ev.step (fun k => peristyleref08_Width.l0_succ k _ _ _) (Ev.yes (by omega) (Ev.yes (by omega) (Ev.call (v := wid (rd l (i : Int))) rfl ?_)))
    rw [show wrap64 ((i : Int) + 1) = ((i + 1 : Nat) : Int) by unfold wrap64; omega, drop_rd l i (by omega), ← wid_or]
    exact ref_Width_loop l hl d (i + 1) _ (by omega)
theorem ref08_Width_ev (l : List Int) (hl : l.length ≤ 17592186044416) : Ev (fun k => peristyleref08_Width.f k l) (widL l) := by
  have := ref_Width_loop l hl l.length 0 0 (by omega)
  have e : wid 0 = 0 := by
    have h := wid_le 0
    have := (wid_le_iff 0 0 (by omega)).2 (fun i _ => bit_zero i)
    omega
  rw [e] at this
  exact this
/-! ### bits one behind the other, as bytes -/
def byteP (st : Nat → Bool) (b : Nat) : Int := wordP (fun t => decide (t < 8) && st (8 * b + t))
def keptP (st : Nat → Bool) (pos : Nat) : Int := wordP (fun t => decide (t < pos % 8) && st (pos / 8 * 8 + t))
def fullB (st : Nat → Bool) (m : Nat) : List Int := (List.range m).map (byteP st)
def packB (st : Nat → Bool) (N : Nat) : List Int := fullB st (N / 8) ++ if N % 8 = 0 then [] else [keptP st N]
theorem fullB_length (st : Nat → Bool) (m : Nat) : (fullB st m).length = m := by simp [fullB]
theorem fullB_succ (st : Nat → Bool) (m : Nat) : fullB st (m + 1) = fullB st m ++ [byteP st m] := by simp [fullB, List.range_succ]
theorem byteP_small (st : Nat → Bool) (b : Nat) : 0 ≤ byteP st b ∧ byteP st b < 256 := by
  have := wordP_small (fun t => decide (t < 8) && st (8 * b + t)) 8 (by omega) (fun i hi => by
    have : ¬ i < 8 := by omega
    simp [this])
  exact this
theorem keptP_small (st : Nat → Bool) (pos : Nat) : 0 ≤ keptP st pos ∧ keptP st pos < 256 := by
  have := wordP_small (fun t => decide (t < pos % 8) && st (pos / 8 * 8 + t)) 8 (by omega) (fun i hi => by
    have : ¬ i < pos % 8 := by omega
    simp [this])
  exact this
theorem keptP_zero (st : Nat → Bool) (pos : Nat) (h : pos % 8 = 0) : keptP st pos = 0 :=
  (wordP_of (by unfold InI; decide) _ (fun i hi => by rw [bit_zero, h]; simp)).symm
theorem packB_length (st : Nat → Bool) (N : Nat) : (packB st N).length = (N + 7) / 8 := by
  unfold packB
  rw [List.length_append, fullB_length]
  split
  · simp; omega
  · simp; omega
theorem packB_small (st : Nat → Bool) (N : Nat) : ∀ x, x ∈ packB st N → 0 ≤ x ∧ x < 256 := by
  intro x hx
  unfold packB at hx
  rcases List.mem_append.1 hx with h | h
  · obtain ⟨b, _, rfl⟩ := List.mem_map.1 h
    exact byteP_small st b
  · split at h
    · simp at h
    · simp at h
      subst h
      exact keptP_small st N
/-- the bit stream of words -/
def stL (l : List Int) (w : Nat) (j : Nat) : Bool := bit (l.getD (j / w) 0) (j % w)
theorem InU_of_small {x : Int} (h : 0 ≤ x ∧ x < 256) : InU x := by unfold InU; omega
theorem InI_of_small {x : Int} (h : 0 ≤ x ∧ x < 256) : InI x := by unfold InI; omega
/-- one step: bits put behind those that are kept -/
theorem put_bits (st : Nat → Bool) (pos n : Nat) (u : Int) (hu : InU u) (hn : pos % 8 + n ≤ 8) (hb : ∀ t, t < n → bit u t = st (pos + t)) :
    Go.bits .or .u64 (keptP st pos) (shl .u64 (Go.bits .and .u64 u (IntKind.u64.wrap (wordP (maskP (n : Int))))) ((pos % 8 : Nat) : Int)) = wordP (fun t => decide (t < pos % 8 + n) && st (pos / 8 * 8 + t)) := by
  have hr := wordP_small (fun t => decide (t < pos % 8 + n) && st (pos / 8 * 8 + t)) 8 (by omega) (fun i hi => by
    have : ¬ i < pos % 8 + n := by omega
    simp [this])
  refine InU_inj (InU_bits _ _ _) (InU_of_small hr) (fun i hi => ?_)
  rw [bit_uor, bit_wordP _ i hi]
  unfold keptP
  rw [bit_wordP _ i hi, bit_shl _ _ i hi, Int.toNat_natCast, bit_uand, bit_u64]
  by_cases h1 : i < pos % 8
  · have h2 : i < pos % 8 + n := by omega
    have h3 : ¬ pos % 8 ≤ i := by omega
    simp [h1, h2, h3]
  · rw [bit_wordP _ (i - pos % 8) (by omega)]
    by_cases h2 : i < pos % 8 + n
    · rw [hb (i - pos % 8) (by omega), show pos + (i - pos % 8) = pos / 8 * 8 + i by omega]
      have h3 : pos % 8 ≤ i := by omega
      have h4 : maskP (n : Int) (i - pos % 8) = true := by simp [maskP]; omega
      simp [h1, h2, h3, h4]
    · have h4 : maskP (n : Int) (i - pos % 8) = false := by simp [maskP]; omega
      simp [h1, h2, h4]
theorem put_inner (st : Nat → Bool) (l : List Int) (width : Int) (i : Nat) (r : ByteArray × Int) : ∀ (left pos : Nat) (u : Int), InU u → left ≤ 64 → pos + left ≤ 4294967296 → (∀ t, t < left → bit u t = st (pos + t)) →
    Ev (fun k => pack_Put.l0 k width (fullB st ((pos + left) / 8)) (keptP st (pos + left)) (((pos + left) % 8 : Nat) : Int) l (l.length : Int) (wrap64 ((i : Int) + 1))) r →
    Ev (fun k => pack_Put.l1 k width (fullB st (pos / 8)) (keptP st pos) ((pos % 8 : Nat) : Int) u (left : Int) l (l.length : Int) (i : Int)) r := by
  intro left
  induction left using Nat.strongRecOn with
  | ind left ih =>
    intro pos u hu hle hpos hb hr
    by_cases h0 : left = 0
    · subst h0
      refine Ev.step (fun k => pack_Put.l1_succ k _ _ _ _ _ _ _ _ _) (Ev.no (by omega) ?_)
      exact hr
    · have hw8 : wrap64 (8 - ((pos % 8 : Nat) : Int)) = 8 - ((pos % 8 : Nat) : Int) := by unfold wrap64; omega
      obtain ⟨n, hn⟩ : ∃ n : Nat, mn (8 - ((pos % 8 : Nat) : Int)) (left : Int) = (n : Int) := ⟨(mn (8 - ((pos % 8 : Nat) : Int)) (left : Int)).toNat, by unfold mn; split <;> omega⟩
      have hn1 : 0 < n ∧ n ≤ left ∧ pos % 8 + n ≤ 8 ∧ (pos % 8 + n < 8 → n = left) := by unfold mn at hn; split at hn <;> omega
      have hu' : InU (shr .u64 u (n : Int)) := InU_shr hu _
      have hb' : ∀ t, t < left - n → bit (shr .u64 u (n : Int)) t = st (pos + n + t) := by
        intro t ht
        rw [bit_shr hu, Int.toNat_natCast, hb (n + t) (by omega)]
        congr 1
        omega
      have hl' : wrap64 ((left : Int) - (n : Int)) = ((left - n : Nat) : Int) := by unfold wrap64; omega
      have hih := ih (left - n) (by omega) (pos + n) (shr .u64 u (n : Int)) hu' (by omega) (by omega) hb'
      rw [show pos + n + (left - n) = pos + left by omega] at hih
      have hih := hih hr
      have hput := put_bits st pos n u hu hn1.2.2.1 (fun t ht => hb t (by omega))
      refine Ev.step (fun k => pack_Put.l1_succ k _ _ _ _ _ _ _ _ _) (Ev.yes (by omega) ?_)
      rw [hw8, hn]
      refine Ev.call (bits_Mask_eq (n : Int)) (Ev.yes (by omega) (Ev.yes (by omega) ?_))
      rw [hput, hl']
      by_cases h8 : pos % 8 + n = 8
      · refine Ev.yes (by unfold wrap64; omega) (Ev.yes (by rw [fullB_length]; omega) ?_)
        have e1 : (pos + n) / 8 = pos / 8 + 1 := by omega
        have e2 : (pos + n) % 8 = 0 := by omega
        have hbyte : wordP (fun t => decide (t < pos % 8 + n) && st (pos / 8 * 8 + t)) % 256 = byteP st (pos / 8) := by
          rw [h8]
          have e : wordP (fun t => decide (t < 8) && st (pos / 8 * 8 + t)) = byteP st (pos / 8) := by
            unfold byteP
            rw [Nat.mul_comm]
          rw [e]
          have := byteP_small st (pos / 8)
          omega
        rw [hbyte, ← fullB_succ]
        rw [keptP_zero st (pos + n) e2, e1, e2] at hih
        exact hih
      · refine Ev.no (by unfold wrap64; omega) ?_
        have e1 : (pos + n) / 8 = pos / 8 := by omega
        have e2 : (pos + n) % 8 = pos % 8 + n := by omega
        rw [show wrap64 (((pos % 8 : Nat) : Int) + (n : Int)) = ((pos % 8 + n : Nat) : Int) by unfold wrap64; omega]
        have ek : keptP st (pos + n) = wordP (fun t => decide (t < pos % 8 + n) && st (pos / 8 * 8 + t)) := by
          unfold keptP
          rw [e1, e2]
        rw [ek, e1, e2] at hih
        exact hih
theorem put_outer (l : List Int) (w : Nat) (hw : w ≤ 64) (hl : l.length ≤ 65536) : ∀ (d i : Nat), i + d = l.length →
    Ev (fun k => pack_Put.l0 k (w : Int) (fullB (stL l w) (i * w / 8)) (keptP (stL l w) (i * w)) ((i * w % 8 : Nat) : Int) l (l.length : Int) (i : Int)) (strOfNums (packB (stL l w) (l.length * w)), 0)
  | 0, i, h => by
    have hi : i = l.length := by omega
    subst hi
    have hN : l.length * w ≤ 65536 * 64 := Nat.mul_le_mul hl hw
    refine Ev.step (fun k => pack_Put.l0_succ k _ _ _ _ _ _ _) (Ev.no (by omega) ?_)
    by_cases h0 : l.length * w % 8 = 0
    · refine Ev.no (by omega) (Ev.val ?_)
      unfold packB
      rw [if_pos h0, List.append_nil]
    · refine Ev.yes (by omega) (Ev.yes (by rw [fullB_length]; omega) (Ev.val ?_))
      unfold packB
      have := keptP_small (stL l w) (l.length * w)
      rw [if_neg h0, show keptP (stL l w) (l.length * w) % 256 = keptP (stL l w) (l.length * w) by omega]
  | d + 1, i, h => by
    have hN : (i + 1) * w ≤ 65536 * 64 := Nat.mul_le_mul (by omega) hw
    have hs : (i + 1) * w = i * w + w := Nat.succ_mul i w
    have hih := put_outer l w hw hl d (i + 1) (by omega)
    refine Ev.step (fun k => pack_Put.l0_succ k _ _ _ _ _ _ _) (Ev.yes (by omega) (Ev.yes (by omega) (Ev.yes (by omega) ?_)))
    refine put_inner (stL l w) l (w : Int) i _ w (i * w) _ (InU_u64 _) hw (by omega) (fun t ht => ?_) ?_
    · rw [bit_u64]
      unfold stL rd
      rw [Int.toNat_natCast, Nat.mul_comm i w, Nat.mul_add_div (by omega), Nat.div_eq_of_lt ht, Nat.mul_add_mod, Nat.mod_eq_of_lt ht, Nat.add_zero]
    · rw [show wrap64 ((i : Int) + 1) = ((i + 1 : Nat) : Int) by unfold wrap64; omega, ← hs]
      exact hih
theorem pack_Bytes_eq (n w : Int) : pack_Bytes.f n w = some (if n < 1 ∨ 65536 < n ∨ w < 1 ∨ 64 < w then 0 else (n * w + 7) / 8) := by
  unfold pack_Bytes.f
  by_cases h1 : n < 1
  · rw [if_pos h1, if_pos (.inl h1)]
  · rw [if_neg h1]
    by_cases h2 : n > 65536
    · rw [if_pos h2, if_pos (.inr (.inl h2))]
    · rw [if_neg h2]
      by_cases h3 : w < 1
      · rw [if_pos h3, if_pos (.inr (.inr (.inl h3)))]
      · rw [if_neg h3]
        by_cases h4 : w > 64
        · rw [if_pos h4, if_pos (.inr (.inr (.inr h4)))]
        · rw [if_neg h4, if_neg (by omega)]
          have hp : 0 ≤ n * w ∧ n * w ≤ 65536 * 64 := ⟨Int.mul_nonneg (by omega) (by omega), Int.mul_le_mul (by omega) (by omega) (by omega) (by omega)⟩
          rw [show wrap64 (n * w) = n * w by unfold wrap64; omega, show wrap64 (n * w + 7) = n * w + 7 by unfold wrap64; omega]
/-- may words be put in so many bits? -/
def mayPut (l : List Int) (w : Int) : Prop := 0 ≤ w ∧ w ≤ 64 ∧ l.length ≤ 65536 ∧ widL l ≤ w
instance (l : List Int) (w : Int) : Decidable (mayPut l w) := by unfold mayPut; infer_instance
def putR (l : List Int) (w : Int) : ByteArray × Int := if mayPut l w then (strOfNums (packB (stL l w.toNat) (l.length * w.toNat)), 0) else ((⟨#[]⟩ : ByteArray), 1)
theorem put_no (l : List Int) (w : Int) : Ev (fun k => pack_Put.j0 k l w true) ((⟨#[]⟩ : ByteArray), 1) :=
  Ev.step (fun k => pack_Put.j0_succ k _ _ _) (Ev.yes rfl (Ev.now _))
theorem pack_Put_ev (l : List Int) (w : Int) (hl : l.length ≤ 17592186044416) : Ev (fun k => pack_Put.f k l w) (putR l w) := by
  have hno : ¬ mayPut l w → Ev (fun k => pack_Put.j0 k l w true) (putR l w) := fun h => by
    unfold putR
    rw [if_neg h]
    exact put_no l w
  unfold pack_Put.f
  by_cases h1 : w < 0
  · exact Ev.yes h1 (hno (fun h => by unfold mayPut at h; omega))
  refine Ev.no h1 ?_
  by_cases h2 : w > 64
  · exact Ev.yes h2 (hno (fun h => by unfold mayPut at h; omega))
  refine Ev.no h2 ?_
  by_cases h3 : (l.length : Int) > 65536
  · exact Ev.yes h3 (hno (fun h => by unfold mayPut at h; omega))
  refine Ev.no h3 (Ev.bind (pack_Width_ev l hl) ?_)
  by_cases h4 : widL l > w
  · rw [decide_eq_true h4]
    exact hno (fun h => by unfold mayPut at h; omega)
  rw [decide_eq_false h4]
  have hm : mayPut l w := by unfold mayPut; omega
  unfold putR
  rw [if_pos hm]
  obtain ⟨n, rfl⟩ := Int.eq_ofNat_of_zero_le (show 0 ≤ w by omega)
  have hp : l.length * n ≤ 65536 * 64 := Nat.mul_le_mul (by omega) (by omega)
  refine Ev.step (fun k => pack_Put.j0_succ k _ _ _) (Ev.no (by decide) (Ev.call (pack_Bytes_eq _ _) ?_))
  obtain ⟨b, hb⟩ : ∃ b : Int, (if (l.length : Int) < 1 ∨ 65536 < (l.length : Int) ∨ (n : Int) < 1 ∨ 64 < (n : Int) then 0 else ((l.length : Int) * (n : Int) + 7) / 8) = b := ⟨_, rfl⟩
  have hb2 : 0 ≤ b ∧ b ≤ 600000 := by
    have hc : (l.length : Int) * (n : Int) = ((l.length * n : Nat) : Int) := (Int.natCast_mul _ _).symm
    rw [hc] at hb
    split at hb <;> omega
  rw [hb]
  refine Ev.yes (by unfold wrap64; omega) (Ev.yes (by unfold wrap64; omega) ?_)
  have := put_outer l n (by omega) (by omega) l.length 0 (by omega)
  rw [Nat.zero_mul, keptP_zero _ 0 rfl] at this
  exact this
end Go.Proofs.Ytcencpedgcdanaa.Print
