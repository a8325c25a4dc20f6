-- Orders as bytes: jindex.Put and Take, and the document's.
import Derived.Test.YtbmlfbbcgbgnoaaPrint1
import Derived.Test.YtbmlfbbcgbgnoaaPrint10
import Derived.Test.YtbmlfbbcgbgnoaaPrint11
import Derived.Test.YtbmlfbbcgbgnoaaPrint2
import Derived.Test.YtbmlfbbcgbgnoaaPrint3
import Derived.Test.YtbmlfbbcgbgnoaaPrint5
import Derived.Test.YtbmlfbbcgbgnoaaPrint6
import Derived.Test.YtbmlfbbcgbgnoaaPrint9
import Derived.Test.YtbmlfbbcgbgnoaaSJ
import Derived.Test.YtbmlfbbcgbgnoaaXB
import Derived.Lib.Strings
set_option linter.unusedVariables false
set_option linter.unusedSimpArgs false
namespace Go.Proofs.Ytbmlfbbcgbgnoaa.Print
open Go.RowKit Go.Proofs.YtbmlfbbcgbgnoaaW.PrintWords Go.Proofs.YtbmlfbbcgbgnoaaW.PrintMore
theorem wordS_packed (l : List Int) (w k : Nat) (hw : w ≤ 64) (hl : ∀ x, x ∈ l → InI x) (hwid : widL l ≤ (w : Int)) (hk : k < l.length) :
    wordS (strOfNums (packB (stL l w) (l.length * w))) (k * w) w = rd l (k : Int) := by
  have hx := rd_mem l k hk
  refine (wordP_of (hl _ hx) _ (fun t ht => ?_)).symm
  have hN : (k + 1) * w ≤ l.length * w := Nat.mul_le_mul_right w (by omega)
  rw [Nat.succ_mul] at hN
  by_cases h : t < w
  · rw [sbit_pack _ _ _ (by omega), stL_at l w k t h]
    simp [h]
  · rw [(widL_le_iff l w (by omega)).1 hwid _ hx t (by omega)]
    simp [h]
theorem spare_packed (st : Nat → Bool) (N : Nat) : spareOK (strOfNums (packB st N)) N := by
  refine (pack_same _ N (by rw [str_size, packB_length])).1 ?_
  rw [packB_congr (st' := st) N (fun j hj => sbit_pack st N j hj)]
/-- what was put is taken -/
theorem take_packed (l : List Int) (w : Nat) (hw : w ≤ 64) (hn : l.length ≤ 65536) (hl : ∀ x, x ∈ l → InI x) (hwid : widL l ≤ (w : Int)) :
    takeR (strOfNums (packB (stL l w) (l.length * w))) (l.length : Int) (w : Int) = (l, 0) := by
  unfold takeR
  rw [if_neg (by omega), bytesN_nat l.length w hn hw, Int.toNat_natCast, Int.toNat_natCast, if_pos ⟨by rw [str_size, packB_length], spare_packed _ _⟩]
  refine congrArg (fun z => (z, (0 : Int))) (List.ext_getElem (by rw [listS_length]) (fun i h1 h2 => ?_))
  have : (listS (strOfNums (packB (stL l w) (l.length * w))) l.length w)[i] = wordS (strOfNums (packB (stL l w) (l.length * w))) (i * w) w := by simp [listS]
  rw [this, wordS_packed l w i hw hl hwid h2, rd_get l i h2]
/-- how many bits the numbers of an order need -/
def jwid (n : Int) : Int := if n < 1 then 0 else widL [n - 1]
theorem jwid_le (n : Int) : 0 ≤ jwid n ∧ jwid n ≤ 64 := by
  unfold jwid
  split
  · omega
  · exact widL_le _
theorem widL_zero : widL [0] = 0 := by
  have h := widL_le [0]
  have := (widL_le_iff [0] 0 (by omega)).2 (fun x hx i _ => by
    rw [List.mem_singleton.1 hx]
    exact bit_zero i)
  omega
theorem width_ev (n : Int) (hn : 0 ≤ n ∧ n ≤ 65536) : Ev (fun k => jindex_width.f k n) (jwid n) := by
  unfold jindex_width.f
  have e : widL [mx 0 (wrap64 (n - 1))] = jwid n := by
    unfold jwid
    by_cases h : n < 1
    · rw [if_pos h, show mx 0 (wrap64 (n - 1)) = 0 by unfold mx wrap64; split <;> omega, widL_zero]
    · rw [if_neg h, show mx 0 (wrap64 (n - 1)) = n - 1 by unfold mx wrap64; split <;> omega]
  refine Ev.bind (pack_Width_ev _ (by simp)) (Ev.val ?_)
  exact e
theorem refWidth_ev (n : Int) (hn : 0 ≤ n ∧ n ≤ 65536) : Ev (fun k => peristyleref26_width.f k n) (jwid n) := by
  unfold peristyleref26_width.f jwid
  by_cases h : n < 1
  · rw [if_pos h]
    exact Ev.yes h (Ev.now _)
  · rw [if_neg h]
    refine Ev.no h (Ev.bind (ref08_Width_ev _ (by simp)) (Ev.val ?_))
    rw [show wrap64 (n - 1) = n - 1 by unfold wrap64; omega]
def jputR (l : List Int) : ByteArray × Int := if isOrd l = true then putR l (jwid (l.length : Int)) else ((⟨#[]⟩ : ByteArray), 1)
theorem jput_ev (l : List Int) : Ev (fun k => jindex_Put.f k l) (jputR l) := by
  unfold jindex_Put.f jputR
  refine Ev.bind (check_ev l) ?_
  by_cases h : isOrd l = true
  · obtain ⟨h4, _⟩ := isOrd_ord h
    rw [if_pos h, if_pos h]
    exact Ev.yes rfl (Ev.bind (width_ev _ (by omega)) (Ev.bind (pack_Put_ev l _ (by omega)) (Ev.now _)))
  · rw [if_neg h, if_neg h]
    exact Ev.no (by decide) (Ev.now _)
theorem refPut_ev (l : List Int) : Ev (fun k => peristyleref26_Put.f k l) (jputR l) := by
  unfold peristyleref26_Put.f jputR
  refine Ev.bind (may_ev l) ?_
  by_cases h : isOrd l = true
  · obtain ⟨h4, _⟩ := isOrd_ord h
    rw [if_pos h]
    exact Ev.yes h (Ev.bind (refWidth_ev _ (by omega)) (Ev.bind (ref08_Put_ev l _ (by omega)) (Ev.now _)))
  · rw [if_neg h]
    exact Ev.no h (Ev.now _)
noncomputable def jtakeR (s : ByteArray) (n : Int) : List Int × Int × Int :=
  if n < 0 ∨ 4096 < n then ([], 0, 1)
  else if bytesN n (jwid n) > (s.size : Int) then ([], 0, 20)
  else if (takeR (s.extract 0 (bytesN n (jwid n)).toNat) n (jwid n)).2 = 0 ∧ isOrd (takeR (s.extract 0 (bytesN n (jwid n)).toNat) n (jwid n)).1 = true then ((takeR (s.extract 0 (bytesN n (jwid n)).toNat) n (jwid n)).1, bytesN n (jwid n), 0)
  else ([], 0, 20)
theorem bytesN_nonneg (n w : Int) : 0 ≤ bytesN n w := by
  unfold bytesN
  split
  · omega
  · have : 0 ≤ n * w := Int.mul_nonneg (by omega) (by omega)
    omega
theorem extract_size_le (s : ByteArray) (m : Nat) : (s.extract 0 m).size ≤ s.size := by
  rw [ByteArray.size_extract]
  omega
theorem jtake_ev (s : ByteArray) (n : Int) (hsz : s.size ≤ 4294967296) : Ev (fun k => jindex_Take.f k s n) (jtakeR s n) := by
  unfold jindex_Take.f jtakeR
  by_cases h1 : n < 0
  · rw [if_pos (.inl h1)]
    exact Ev.yes h1 (Ev.step (fun k => jindex_Take.j0_succ k _ _ _) (Ev.yes rfl (Ev.now _)))
  refine Ev.no h1 ?_
  by_cases h2 : n > 4096
  · rw [if_pos (.inr h2), decide_eq_true h2]
    exact Ev.step (fun k => jindex_Take.j0_succ k _ _ _) (Ev.yes rfl (Ev.now _))
  rw [if_neg (by omega), decide_eq_false h2]
  refine Ev.step (fun k => jindex_Take.j0_succ k _ _ _) (Ev.no (by decide) (Ev.bind (width_ev n (by omega)) (Ev.call (v := bytesN n (jwid n)) (pack_Bytes_eq _ _) ?_)))
  have hb := bytesN_nonneg n (jwid n)
  have hsx := extract_size_le s (bytesN n (jwid n)).toNat
  obtain ⟨b, hbe⟩ : ∃ b, bytesN n (jwid n) = b := ⟨_, rfl⟩
  rw [hbe] at hb hsx ⊢
  by_cases h3 : b > (s.size : Int)
  · rw [if_pos h3]
    exact Ev.yes h3 (Ev.now _)
  rw [if_neg h3]
  refine Ev.no h3 (Ev.yes hb (Ev.yes (by omega) (Ev.bind (width_ev n (by omega)) (Ev.bind (pack_Take_ev _ _ _ (by omega)) ?_))))
  obtain ⟨r, hr⟩ : ∃ r, takeR (s.extract 0 b.toNat) n (jwid n) = r := ⟨_, rfl⟩
  rw [hr]
  by_cases h4 : r.2 = 0
  · refine Ev.yes h4 (Ev.bind (check_ev _) ?_)
    by_cases h5 : isOrd r.1 = true
    · rw [if_pos h5, if_pos (show r.2 = 0 ∧ isOrd r.1 = true from ⟨h4, h5⟩)]
      exact Ev.yes rfl (Ev.now _)
    · rw [if_neg h5, if_neg (fun h : r.2 = 0 ∧ isOrd r.1 = true => h5 h.2)]
      exact Ev.no (by decide) (Ev.now _)
  · rw [if_neg (fun h => h4 h.1)]
    exact Ev.no h4 (Ev.now _)
theorem refTake_ev (s : ByteArray) (n : Int) (hsz : s.size ≤ 4294967296) : Ev (fun k => peristyleref26_Take.f k s n) (jtakeR s n) := by
  unfold peristyleref26_Take.f jtakeR
  by_cases h1 : n < 0
  · rw [if_pos (.inl h1)]
    exact Ev.yes h1 (Ev.step (fun k => peristyleref26_Take.j0_succ k _ _ _) (Ev.yes rfl (Ev.now _)))
  refine Ev.no h1 ?_
  by_cases h2 : n > 4096
  · rw [if_pos (.inr h2), decide_eq_true h2]
    exact Ev.step (fun k => peristyleref26_Take.j0_succ k _ _ _) (Ev.yes rfl (Ev.now _))
  rw [if_neg (by omega), decide_eq_false h2]
  refine Ev.step (fun k => peristyleref26_Take.j0_succ k _ _ _) (Ev.no (by decide) (Ev.bind (refWidth_ev n (by omega)) (Ev.call (v := bytesN n (jwid n)) (ref_Bytes_eq _ _) ?_)))
  have hb := bytesN_nonneg n (jwid n)
  have hsx := extract_size_le s (bytesN n (jwid n)).toNat
  obtain ⟨b, hbe⟩ : ∃ b, bytesN n (jwid n) = b := ⟨_, rfl⟩
  rw [hbe] at hb hsx ⊢
  by_cases h3 : b > (s.size : Int)
  · rw [if_pos h3]
    exact Ev.yes h3 (Ev.now _)
  rw [if_neg h3]
  refine Ev.no h3 (Ev.yes hb (Ev.yes (by omega) (Ev.bind (refWidth_ev n (by omega)) (Ev.bind (ref08_Take_ev _ _ _ (by omega)) ?_))))
  obtain ⟨r, hr⟩ : ∃ r, takeR (s.extract 0 b.toNat) n (jwid n) = r := ⟨_, rfl⟩
  rw [hr]
  by_cases h4 : r.2 = 0
  · refine Ev.yes h4 (Ev.bind (may_ev _) ?_)
    by_cases h5 : isOrd r.1 = true
    · rw [if_pos (show r.2 = 0 ∧ isOrd r.1 = true from ⟨h4, h5⟩)]
      exact Ev.yes h5 (Ev.now _)
    · rw [if_neg (fun h : r.2 = 0 ∧ isOrd r.1 = true => h5 h.2)]
      exact Ev.no h5 (Ev.now _)
  · rw [if_neg (fun h => h4 h.1)]
    exact Ev.no h4 (Ev.now _)
theorem awake26_ev : Ev (fun k => peristylelaw26_awake.f k) true := by
  unfold peristylelaw26_awake.f
  refine Ev.bind (a := ([1, 2, 0], 0)) (Ev.of (k := 60) (fun k => jindex_Turned.mono _ k) (by decide +kernel)) ?_
  refine Ev.bind (a := ([2, 0, 1], 0)) (Ev.of (k := 60) (fun k => jindex_Between.mono _ _ k) (by decide +kernel)) ?_
  refine Ev.bind (a := ((⟨#[18]⟩ : ByteArray), 0)) (Ev.of (k := 60) (fun k => jindex_Put.mono _ k) (by decide +kernel)) ?_
  refine Ev.bind (a := ([2, 0, 1], 1, 0)) (Ev.of (k := 60) (fun k => jindex_Take.mono _ _ k) (by decide +kernel)) ?_
  refine Ev.bind (a := true) (Ev.of (k := 60) (fun k => peristyleref01_Same.mono _ _ k) (by decide +kernel)) (Ev.yes rfl (Ev.yes rfl ?_))
  refine Ev.bind (a := true) (Ev.of (k := 60) (fun k => peristyleref01_Same.mono _ _ k) (by decide +kernel)) (Ev.yes rfl (Ev.yes rfl (Ev.yes (by rw [Lib.toList_data]) (Ev.yes rfl ?_))))
  exact Ev.bind (a := true) (Ev.of (k := 60) (fun k => peristyleref01_Same.mono _ _ k) (by decide +kernel)) (Ev.yes rfl (Ev.yes rfl (Ev.now _)))
end Go.Proofs.Ytbmlfbbcgbgnoaa.Print
