/- Left and Longest. -/
import Derived.Test.YtdchljjhajbehaaEQ
namespace Go.Proofs.Ytdchljjhajbehaa.Ex
open Go.RowKit Go.Proofs.Ytdchljjhajbehaa.Print Go.Proofs.YtdchljjhajbehaaW.PrintWords Go.Proofs.YtdchljjhajbehaaW.PrintLast Go.Proofs.YtdchljjhajbehaaW.PrintMore Go.Proofs.Ytdchljjhajbehaa.Holes
set_option linter.unusedVariables false
set_option linter.unusedSimpArgs false
theorem wrap_id {x : Int} (h : -9223372036854775808 ≤ x ∧ x ≤ 9223372036854775807) : wrap64 x = x := by unfold wrap64; omega
theorem wrap_id' {x : Int} (h : -9223372036854775808 ≤ x ∧ x ≤ 9223372036854775807) : IntKind.i64.wrap x = x := by rw [IntKind.wrap_i64]; omega
theorem bnd {x z : Int} (h : 0 ≤ z ∧ z ≤ 1000000) (e : x = z) : -9223372036854775808 ≤ x ∧ x ≤ 9223372036854775807 := by omega
theorem meas {a k : Nat} (h : k < a) : a - ((k : Int) + 1).toNat < a - ((k : Int)).toNat := by omega
theorem maxif (a b : Int) : (if a < b then b else a) = max a b := by
  rw [Int.max_def]
  split <;> split <;> omega
/-- how many blocks extents have -/
def sumE (hs : List Ext) : Int := (hs.map (·.2)).sum
def maxE : Int → List Ext → Int
  | m, [] => m
  | m, h :: hs => maxE (max m h.2) hs
theorem sumE_take (hs : List Ext) (k : Nat) (hk : k < hs.length) : sumE (hs.take (k + 1)) = sumE (hs.take k) + hs[k].2 := by
  unfold sumE
  rw [List.take_succ_eq_append_getElem hk, List.map_append, List.sum_append]
  simp
theorem maxE_app : ∀ (a b : List Ext) (m : Int), maxE m (a ++ b) = maxE (maxE m a) b
  | [], b, m => rfl
  | h :: a, b, m => maxE_app a b _
theorem maxE_take (hs : List Ext) (k : Nat) (hk : k < hs.length) : maxE 0 (hs.take (k + 1)) = max (maxE 0 (hs.take k)) hs[k].2 := by
  rw [List.take_succ_eq_append_getElem hk, maxE_app]
  rfl
set_option maxHeartbeats 8000000 in
set_option maxRecDepth 100000 in
theorem left_calls (b g c : Nat) (n : Int) (hs : List Ext) (w : World) (h : MapAt w b g c n hs) (hlen : hs.length ≤ 10000) (hsm : ∀ k, k ≤ hs.length → 0 ≤ sumE (hs.take k) ∧ sumE (hs.take k) ≤ 1000000) :
    Calls Try.prog 12 #[.pointer (some ⟨b, 0, none⟩)] w fun e w' => e = .returned (.int .i64 (sumE hs)) ∧ Below w.heap.size w w' := by
  have HH := Aside0.mk (holes_calls b g c n hs w h hlen)
  have HL := Aside0.mk hlen
  have HSM := Aside0.mk hsm
  clear h hlen hsm
  go_enter Try.func12, Try.ntmps12
  go_wp2_with (go_at_call 21; refine HH.out.mono ?_; rintro e w8 ⟨v, rfl, hv, hb⟩; have ho := R_cells hv; have HB8 := Aside0.mk hb; obtain ⟨A, cc, rfl, hlc, hC⟩ := Kd.R_reads hv; rw [List.length_map] at *; have HO8 := Aside0.mk ho; have HC8 := Aside0.mk hC; have HLC := Aside0.mk hlc; clear hv hb ho hC hlc)
  go_loopw [3, 5, 9] (fun v3 _ v9 wr => ∃ kk : Nat, Aside0 (kk ≤ hs.length) ∧ v3 = .int .i64 (sumE (hs.take kk)) ∧ v9 = .int .i64 (kk : Int) ∧ Aside0 (Below w8.heap.size w8 wr)) (fun _ _ v9 _ => hs.length - (intOf v9).toNat)
  case atStart => exact ⟨0, ⟨Nat.zero_le _⟩, rfl, rfl, ⟨Below.refl _ _⟩⟩
  case round =>
    obtain ⟨kk, hkk, rfl, rfl, HB⟩ := hrel
    by_cases hlt : kk < hs.length
    · have hltz : (kk : Int) < (hs.length : Int) := Int.ofNat_lt.2 hlt
      have hltz0 : (0 : Int) ≤ (kk : Int) := Int.natCast_nonneg kk
      have hk1 := wrap_succ (k := kk) (Nat.lt_of_lt_of_le hlt (Nat.le_trans HL.out (by decide)))
      have hk2 := wrap_succ' (k := kk) (Nat.lt_of_lt_of_le hlt (Nat.le_trans HL.out (by decide)))
      have HLT := Aside0.mk hlt
      have hrd : rd_T31 (hs.map toS) (kk : Int) = toS hs[kk] := by simp [rd_T31, List.getD_eq_getElem?_getD, hlt]
      obtain ⟨ad, he, hx0, hx1⟩ := at_T31 (Kd.C_below HC8.out HB.out) (kk : Int) hltz0 (by first | exact hltz | (rw [List.length_map]; exact hltz))
      rw [hrd] at hx0 hx1
      obtain ⟨y, hy⟩ : ∃ y, y = hs[kk] := ⟨_, rfl⟩
      rw [← hy] at hx0 hx1
      have HY := Aside0.mk hy
      obtain ⟨sm, hsm⟩ : ∃ sm, sm = sumE (hs.take kk) := ⟨_, rfl⟩
      have HS := Aside0.mk hsm
      have hadd : sm + y.2 = sumE (hs.take (kk + 1)) := by rw [sumE_take hs kk hlt, hsm, hy]
      have HADD := Aside0.mk hadd
      have hwr : -9223372036854775808 ≤ sm + y.2 ∧ sm + y.2 ≤ 9223372036854775807 := bnd (HSM.out (kk + 1) hlt) hadd
      have hw1 : wrap64 (sm + y.2) = sm + y.2 := Go.Proofs.Ytdchljjhajbehaa.Ex.wrap_id hwr
      have hw2 : IntKind.i64.wrap (sm + y.2) = sm + y.2 := Go.Proofs.Ytdchljjhajbehaa.Ex.wrap_id' hwr
      rw [← hsm]
      simp only [toS, Int.toNat_natCast] at hx0 hx1
      clear hrd hy hsm hadd hwr
      subst he
      go_wp2
      go_roundw
      case rel => exact ⟨kk + 1, ⟨HLT.out⟩, by first | rfl | (rw [HADD.out]; done) | (rw [← HADD.out]; done), rfl, ⟨by first | exact HB.out | exact below_alloc HB.out _ | exact below_drew1 HB.out⟩⟩
      case measure => exact meas HLT.out
    · have hltz : ¬ (kk : Int) < (hs.length : Int) := fun h => hlt (Int.ofNat_lt.1 h)
      have HE := Aside0.mk (Nat.le_antisymm hkk.out (Nat.le_of_not_lt hlt))
      go_wp2
      go_ret
      exact ⟨by first | rfl | (rw [HE.out, List.take_length]; rfl) | (rw [HE.out, List.take_length]), below_then HB8.out HB8.out.size HB.out⟩
set_option maxHeartbeats 8000000 in
set_option maxRecDepth 100000 in
theorem longest_calls (b g c : Nat) (n : Int) (hs : List Ext) (w : World) (h : MapAt w b g c n hs) (hlen : hs.length ≤ 10000) :
    Calls Try.prog 10 #[.pointer (some ⟨b, 0, none⟩)] w fun e w' => e = .returned (.int .i64 (maxE 0 hs)) ∧ Below w.heap.size w w' := by
  have HH := Aside0.mk (holes_calls b g c n hs w h hlen)
  have HL := Aside0.mk hlen
  clear h hlen
  go_enter Try.func10, Try.ntmps10
  go_wp2_with (go_at_call 21; refine HH.out.mono ?_; rintro e w8 ⟨v, rfl, hv, hb⟩; have ho := R_cells hv; have HB8 := Aside0.mk hb; obtain ⟨A, cc, rfl, hlc, hC⟩ := Kd.R_reads hv; rw [List.length_map] at *; have HO8 := Aside0.mk ho; have HC8 := Aside0.mk hC; have HLC := Aside0.mk hlc; clear hv hb ho hC hlc)
  go_loopw [3, 5, 9] (fun v3 _ v9 wr => ∃ kk : Nat, Aside0 (kk ≤ hs.length) ∧ v3 = .int .i64 (maxE 0 (hs.take kk)) ∧ v9 = .int .i64 (kk : Int) ∧ Aside0 (Below w8.heap.size w8 wr)) (fun _ _ v9 _ => hs.length - (intOf v9).toNat)
  case atStart => exact ⟨0, ⟨Nat.zero_le _⟩, rfl, rfl, ⟨Below.refl _ _⟩⟩
  case round =>
    obtain ⟨kk, hkk, rfl, rfl, HB⟩ := hrel
    by_cases hlt : kk < hs.length
    · have hltz : (kk : Int) < (hs.length : Int) := Int.ofNat_lt.2 hlt
      have hltz0 : (0 : Int) ≤ (kk : Int) := Int.natCast_nonneg kk
      have hk1 := wrap_succ (k := kk) (Nat.lt_of_lt_of_le hlt (Nat.le_trans HL.out (by decide)))
      have hk2 := wrap_succ' (k := kk) (Nat.lt_of_lt_of_le hlt (Nat.le_trans HL.out (by decide)))
      have HLT := Aside0.mk hlt
      have hrd : rd_T31 (hs.map toS) (kk : Int) = toS hs[kk] := by simp [rd_T31, List.getD_eq_getElem?_getD, hlt]
      obtain ⟨ad, he, hx0, hx1⟩ := at_T31 (Kd.C_below HC8.out HB.out) (kk : Int) hltz0 (by first | exact hltz | (rw [List.length_map]; exact hltz))
      rw [hrd] at hx0 hx1
      obtain ⟨y, hy⟩ : ∃ y, y = hs[kk] := ⟨_, rfl⟩
      rw [← hy] at hx0 hx1
      have HY := Aside0.mk hy
      obtain ⟨sm, hsm⟩ : ∃ sm, sm = maxE 0 (hs.take kk) := ⟨_, rfl⟩
      have HS := Aside0.mk hsm
      have hadd : max sm y.2 = maxE 0 (hs.take (kk + 1)) := by rw [maxE_take hs kk hlt, hsm, hy]
      have HADD := Aside0.mk hadd
      rw [← hsm]
      simp only [toS, Int.toNat_natCast] at hx0 hx1
      clear hrd hy hsm hadd
      subst he
      go_wp2
      go_roundw
      case rel => exact ⟨kk + 1, ⟨HLT.out⟩, by first | rfl | (rw [← HADD.out, maxif]; done) | (rw [HADD.out]; done) | (rw [← HADD.out]; done), rfl, ⟨by first | exact HB.out | exact below_alloc HB.out _ | exact below_drew1 HB.out⟩⟩
      case measure => exact meas HLT.out
    · have hltz : ¬ (kk : Int) < (hs.length : Int) := fun h => hlt (Int.ofNat_lt.1 h)
      have HE := Aside0.mk (Nat.le_antisymm hkk.out (Nat.le_of_not_lt hlt))
      go_wp2
      go_ret
      exact ⟨by first | rfl | (rw [HE.out, List.take_length]; rfl) | (rw [HE.out, List.take_length]), below_then HB8.out HB8.out.size HB.out⟩
end Go.Proofs.Ytdchljjhajbehaa.Ex
