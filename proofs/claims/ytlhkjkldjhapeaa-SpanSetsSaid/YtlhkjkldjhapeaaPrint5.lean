-- Written by the session's own xprint (over the kit's print program): functions, contracts.
import Derived.Test.YtlhkjkldjhapeaaPrint0
import Derived.Test.YtlhkjkldjhapeaaPrint4
import Derived.Test.YtlhkjkldjhapeaaXR
namespace Go.Proofs.Ytlhkjkldjhapeaa.Print
open Go.RowKit Go.Proofs.YtlhkjkldjhapeaaW.PrintWords Go.Proofs.YtlhkjkldjhapeaaW.PrintLast Go.Proofs.YtlhkjkldjhapeaaW.PrintMore
attribute [local go_sem] max2_int min2_int max_two min_two max_three min_three max_four min_four   -- for this text's walks alone
set_option linter.unusedVariables false
set_option linter.unusedSimpArgs false

/-! ### span_parts_1: function 59 -/
mutual
def span_parts_1.l0 : Nat → Int → Int → Int → List (S43) → List (S43) → Option (List (S55))
 | 0, _, _, _, _, _ => none
 | k + 1, x16, x17, x18, x137000, x138000 => if x17 < (x137000.length : Int) then (span_parts_1.j1 k x16 x17 x18 true x137000 x138000) else (span_parts_1.j1 k x16 x17 x18 (decide (x18 < (x138000.length : Int))) x137000 x138000)
def span_parts_1.j1 : Nat → Int → Int → Int → Bool → List (S43) → List (S43) → Option (List (S55))
 | 0, _, _, _, _, _, _ => none
 | k + 1, x16, x17, x18, x29, x137000, x138000 => if x29 = true then (if x17 < (x137000.length : Int) then (if 0 ≤ x17 then ((span_edge.f ((rd_T43 x137000 x17).f0) ((rd_T43 x137000 x17).f1) x16).bind fun t141 => (span_parts_1.j2 k x16 x17 x18 x137000 x138000 x16 (mn 65536 t141) (decide (((rd_T43 x137000 x17).f0) ≤ x16)) false)) else (none)) else (span_parts_1.j2 k x16 x17 x18 x137000 x138000 x16 65536 false false)) else (some [])
def span_parts_1.j2 : Nat → Int → Int → Int → List (S43) → List (S43) → Int → Int → Bool → Bool → Option (List (S55))
 | 0, _, _, _, _, _, _, _, _, _ => none
 | k + 1, x16, x17, x18, x137000, x138000, x139000, x139001, x139002, x139003 => if x18 < (x138000.length : Int) then (if 0 ≤ x18 then ((span_edge.f ((rd_T43 x138000 x18).f0) ((rd_T43 x138000 x18).f1) x16).bind fun t144 => (span_parts_1.j3 k x17 x18 x137000 x138000 x139000 (mn x139001 t144) x139002 (decide (((rd_T43 x138000 x18).f0) ≤ x16)))) else (none)) else (span_parts_1.j3 k x17 x18 x137000 x138000 x139000 x139001 x139002 x139003)
def span_parts_1.j3 : Nat → Int → Int → List (S43) → List (S43) → Int → Int → Bool → Bool → Option (List (S55))
 | 0, _, _, _, _, _, _, _, _ => none
 | k + 1, x17, x18, x137000, x138000, x139000, x139001, x139002, x139003 => (if x17 < (x137000.length : Int) then (if 0 ≤ x17 then (span_parts_1.j4 k x139001 x17 x18 (decide (((rd_T43 x137000 x17).f1) ≤ x139001)) x137000 x138000) else (none)) else (span_parts_1.j4 k x139001 x17 x18 false x137000 x138000)).bind fun lr_ => (some ((⟨(⟨x139000, x139001⟩ : S43), x139002, x139003⟩ : S55) :: lr_))
def span_parts_1.j4 : Nat → Int → Int → Int → Bool → List (S43) → List (S43) → Option (List (S55))
 | 0, _, _, _, _, _, _ => none
 | k + 1, x16, x17, x18, x100, x137000, x138000 => if x100 = true then (span_parts_1.j5 k x16 (wrap64 (x17 + 1)) x18 x137000 x138000) else (span_parts_1.j5 k x16 x17 x18 x137000 x138000)
def span_parts_1.j5 : Nat → Int → Int → Int → List (S43) → List (S43) → Option (List (S55))
 | 0, _, _, _, _, _ => none
 | k + 1, x16, x17, x18, x137000, x138000 => if x18 < (x138000.length : Int) then (if 0 ≤ x18 then (span_parts_1.j6 k x16 x17 x18 (decide (((rd_T43 x138000 x18).f1) ≤ x16)) x137000 x138000) else (none)) else (span_parts_1.j6 k x16 x17 x18 false x137000 x138000)
def span_parts_1.j6 : Nat → Int → Int → Int → Bool → List (S43) → List (S43) → Option (List (S55))
 | 0, _, _, _, _, _, _ => none
 | k + 1, x16, x17, x18, x115, x137000, x138000 => if x115 = true then (span_parts_1.l0 k x16 x17 (wrap64 (x18 + 1)) x137000 x138000) else (span_parts_1.l0 k x16 x17 x18 x137000 x138000)
end
def span_parts_1.f (k : Nat) (l0 : List (S43)) (l1 : List (S43)) : Option (List (S55)) := span_parts_1.l0 k 0 0 0 l0 l1
theorem span_parts_1.l0_succ (k : Nat) (x16 : Int) (x17 : Int) (x18 : Int) (x137000 : List (S43)) (x138000 : List (S43)) : span_parts_1.l0 (k + 1) x16 x17 x18 x137000 x138000 = (if x17 < (x137000.length : Int) then (span_parts_1.j1 k x16 x17 x18 true x137000 x138000) else (span_parts_1.j1 k x16 x17 x18 (decide (x18 < (x138000.length : Int))) x137000 x138000)) := by
 simp only [span_parts_1.l0]
theorem span_parts_1.j1_succ (k : Nat) (x16 : Int) (x17 : Int) (x18 : Int) (x29 : Bool) (x137000 : List (S43)) (x138000 : List (S43)) : span_parts_1.j1 (k + 1) x16 x17 x18 x29 x137000 x138000 = (if x29 = true then (if x17 < (x137000.length : Int) then (if 0 ≤ x17 then ((span_edge.f ((rd_T43 x137000 x17).f0) ((rd_T43 x137000 x17).f1) x16).bind fun t141 => (span_parts_1.j2 k x16 x17 x18 x137000 x138000 x16 (mn 65536 t141) (decide (((rd_T43 x137000 x17).f0) ≤ x16)) false)) else (none)) else (span_parts_1.j2 k x16 x17 x18 x137000 x138000 x16 65536 false false)) else (some [])) := by
 simp only [span_parts_1.j1]
theorem span_parts_1.j2_succ (k : Nat) (x16 : Int) (x17 : Int) (x18 : Int) (x137000 : List (S43)) (x138000 : List (S43)) (x139000 : Int) (x139001 : Int) (x139002 : Bool) (x139003 : Bool) : span_parts_1.j2 (k + 1) x16 x17 x18 x137000 x138000 x139000 x139001 x139002 x139003 = (if x18 < (x138000.length : Int) then (if 0 ≤ x18 then ((span_edge.f ((rd_T43 x138000 x18).f0) ((rd_T43 x138000 x18).f1) x16).bind fun t144 => (span_parts_1.j3 k x17 x18 x137000 x138000 x139000 (mn x139001 t144) x139002 (decide (((rd_T43 x138000 x18).f0) ≤ x16)))) else (none)) else (span_parts_1.j3 k x17 x18 x137000 x138000 x139000 x139001 x139002 x139003)) := by
 simp only [span_parts_1.j2]
theorem span_parts_1.j3_succ (k : Nat) (x17 : Int) (x18 : Int) (x137000 : List (S43)) (x138000 : List (S43)) (x139000 : Int) (x139001 : Int) (x139002 : Bool) (x139003 : Bool) : span_parts_1.j3 (k + 1) x17 x18 x137000 x138000 x139000 x139001 x139002 x139003 = ((if x17 < (x137000.length : Int) then (if 0 ≤ x17 then (span_parts_1.j4 k x139001 x17 x18 (decide (((rd_T43 x137000 x17).f1) ≤ x139001)) x137000 x138000) else (none)) else (span_parts_1.j4 k x139001 x17 x18 false x137000 x138000)).bind fun lr_ => (some ((⟨(⟨x139000, x139001⟩ : S43), x139002, x139003⟩ : S55) :: lr_))) := by
 simp only [span_parts_1.j3]
theorem span_parts_1.j4_succ (k : Nat) (x16 : Int) (x17 : Int) (x18 : Int) (x100 : Bool) (x137000 : List (S43)) (x138000 : List (S43)) : span_parts_1.j4 (k + 1) x16 x17 x18 x100 x137000 x138000 = (if x100 = true then (span_parts_1.j5 k x16 (wrap64 (x17 + 1)) x18 x137000 x138000) else (span_parts_1.j5 k x16 x17 x18 x137000 x138000)) := by
 simp only [span_parts_1.j4]
theorem span_parts_1.j5_succ (k : Nat) (x16 : Int) (x17 : Int) (x18 : Int) (x137000 : List (S43)) (x138000 : List (S43)) : span_parts_1.j5 (k + 1) x16 x17 x18 x137000 x138000 = (if x18 < (x138000.length : Int) then (if 0 ≤ x18 then (span_parts_1.j6 k x16 x17 x18 (decide (((rd_T43 x138000 x18).f1) ≤ x16)) x137000 x138000) else (none)) else (span_parts_1.j6 k x16 x17 x18 false x137000 x138000)) := by
 simp only [span_parts_1.j5]
theorem span_parts_1.j6_succ (k : Nat) (x16 : Int) (x17 : Int) (x18 : Int) (x115 : Bool) (x137000 : List (S43)) (x138000 : List (S43)) : span_parts_1.j6 (k + 1) x16 x17 x18 x115 x137000 x138000 = (if x115 = true then (span_parts_1.l0 k x16 x17 (wrap64 (x18 + 1)) x137000 x138000) else (span_parts_1.l0 k x16 x17 x18 x137000 x138000)) := by
 simp only [span_parts_1.j6]
theorem span_parts_1.mono_l : ∀ k, (∀ y0 y1 y2 y3 y4, LeO (span_parts_1.l0 k y0 y1 y2 y3 y4) (span_parts_1.l0 (k + 1) y0 y1 y2 y3 y4)) ∧ (∀ y0 y1 y2 y3 y4 y5, LeO (span_parts_1.j1 k y0 y1 y2 y3 y4 y5) (span_parts_1.j1 (k + 1) y0 y1 y2 y3 y4 y5)) ∧ (∀ y0 y1 y2 y3 y4 y5 y6 y7 y8, LeO (span_parts_1.j2 k y0 y1 y2 y3 y4 y5 y6 y7 y8) (span_parts_1.j2 (k + 1) y0 y1 y2 y3 y4 y5 y6 y7 y8)) ∧ (∀ y0 y1 y2 y3 y4 y5 y6 y7, LeO (span_parts_1.j3 k y0 y1 y2 y3 y4 y5 y6 y7) (span_parts_1.j3 (k + 1) y0 y1 y2 y3 y4 y5 y6 y7)) ∧ (∀ y0 y1 y2 y3 y4 y5, LeO (span_parts_1.j4 k y0 y1 y2 y3 y4 y5) (span_parts_1.j4 (k + 1) y0 y1 y2 y3 y4 y5)) ∧ (∀ y0 y1 y2 y3 y4, LeO (span_parts_1.j5 k y0 y1 y2 y3 y4) (span_parts_1.j5 (k + 1) y0 y1 y2 y3 y4)) ∧ (∀ y0 y1 y2 y3 y4 y5, LeO (span_parts_1.j6 k y0 y1 y2 y3 y4 y5) (span_parts_1.j6 (k + 1) y0 y1 y2 y3 y4 y5))
 | 0 => ⟨fun _ _ _ _ _ r h => by simp [span_parts_1.l0] at h, fun _ _ _ _ _ _ r h => by simp [span_parts_1.j1] at h, fun _ _ _ _ _ _ _ _ _ r h => by simp [span_parts_1.j2] at h, fun _ _ _ _ _ _ _ _ r h => by simp [span_parts_1.j3] at h, fun _ _ _ _ _ _ r h => by simp [span_parts_1.j4] at h, fun _ _ _ _ _ r h => by simp [span_parts_1.j5] at h, fun _ _ _ _ _ _ r h => by simp [span_parts_1.j6] at h⟩
 | k + 1 => by
  obtain ⟨ih0, ih1, ih2, ih3, ih4, ih5, ih6⟩ := span_parts_1.mono_l k
  refine ⟨?_, ?_, ?_, ?_, ?_, ?_, ?_⟩
  ·intro y0 y1 y2 y3 y4
   unfold span_parts_1.l0
   repeat' first
   | (with_reducible exact ih0 _ _ _ _ _)
   | (with_reducible exact ih1 _ _ _ _ _ _)
   | (with_reducible exact ih2 _ _ _ _ _ _ _ _ _)
   | (with_reducible exact ih3 _ _ _ _ _ _ _ _)
   | (with_reducible exact ih4 _ _ _ _ _ _)
   | (with_reducible exact ih5 _ _ _ _ _)
   | (with_reducible exact ih6 _ _ _ _ _ _)
   | (with_reducible exact LeO.refl _)
   | (with_reducible exact LeO.none _)
   | (with_reducible refine LeO.ite ?_ ?_)
   | (with_reducible refine LeO.bind ?_ (fun _ => ?_))
   | exact ih0 _ _ _ _ _
   | exact ih1 _ _ _ _ _ _
   | exact ih2 _ _ _ _ _ _ _ _ _
   | exact ih3 _ _ _ _ _ _ _ _
   | exact ih4 _ _ _ _ _ _
   | exact ih5 _ _ _ _ _
   | exact ih6 _ _ _ _ _ _
   | exact LeO.none _
   | refine LeO.ite ?_ ?_
   | refine LeO.bind ?_ (fun _ => ?_)
  ·intro y0 y1 y2 y3 y4 y5
   unfold span_parts_1.j1
   repeat' first
   | (with_reducible exact ih0 _ _ _ _ _)
   | (with_reducible exact ih1 _ _ _ _ _ _)
   | (with_reducible exact ih2 _ _ _ _ _ _ _ _ _)
   | (with_reducible exact ih3 _ _ _ _ _ _ _ _)
   | (with_reducible exact ih4 _ _ _ _ _ _)
   | (with_reducible exact ih5 _ _ _ _ _)
   | (with_reducible exact ih6 _ _ _ _ _ _)
   | (with_reducible exact LeO.refl _)
   | (with_reducible exact LeO.none _)
   | (with_reducible refine LeO.ite ?_ ?_)
   | (with_reducible refine LeO.bind ?_ (fun _ => ?_))
   | exact ih0 _ _ _ _ _
   | exact ih1 _ _ _ _ _ _
   | exact ih2 _ _ _ _ _ _ _ _ _
   | exact ih3 _ _ _ _ _ _ _ _
   | exact ih4 _ _ _ _ _ _
   | exact ih5 _ _ _ _ _
   | exact ih6 _ _ _ _ _ _
   | exact LeO.none _
   | refine LeO.ite ?_ ?_
   | refine LeO.bind ?_ (fun _ => ?_)
  ·intro y0 y1 y2 y3 y4 y5 y6 y7 y8
   unfold span_parts_1.j2
   repeat' first
   | (with_reducible exact ih0 _ _ _ _ _)
   | (with_reducible exact ih1 _ _ _ _ _ _)
   | (with_reducible exact ih2 _ _ _ _ _ _ _ _ _)
   | (with_reducible exact ih3 _ _ _ _ _ _ _ _)
   | (with_reducible exact ih4 _ _ _ _ _ _)
   | (with_reducible exact ih5 _ _ _ _ _)
   | (with_reducible exact ih6 _ _ _ _ _ _)
   | (with_reducible exact LeO.refl _)
   | (with_reducible exact LeO.none _)
   | (with_reducible refine LeO.ite ?_ ?_)
   | (with_reducible refine LeO.bind ?_ (fun _ => ?_))
   | exact ih0 _ _ _ _ _
   | exact ih1 _ _ _ _ _ _
   | exact ih2 _ _ _ _ _ _ _ _ _
   | exact ih3 _ _ _ _ _ _ _ _
   | exact ih4 _ _ _ _ _ _
   | exact ih5 _ _ _ _ _
   | exact ih6 _ _ _ _ _ _
   | exact LeO.none _
   | refine LeO.ite ?_ ?_
   | refine LeO.bind ?_ (fun _ => ?_)
  ·intro y0 y1 y2 y3 y4 y5 y6 y7
   unfold span_parts_1.j3
   repeat' first
   | (with_reducible exact ih0 _ _ _ _ _)
   | (with_reducible exact ih1 _ _ _ _ _ _)
   | (with_reducible exact ih2 _ _ _ _ _ _ _ _ _)
   | (with_reducible exact ih3 _ _ _ _ _ _ _ _)
   | (with_reducible exact ih4 _ _ _ _ _ _)
   | (with_reducible exact ih5 _ _ _ _ _)
   | (with_reducible exact ih6 _ _ _ _ _ _)
   | (with_reducible exact LeO.refl _)
   | (with_reducible exact LeO.none _)
   | (with_reducible refine LeO.ite ?_ ?_)
   | (with_reducible refine LeO.bind ?_ (fun _ => ?_))
   | exact ih0 _ _ _ _ _
   | exact ih1 _ _ _ _ _ _
   | exact ih2 _ _ _ _ _ _ _ _ _
   | exact ih3 _ _ _ _ _ _ _ _
   | exact ih4 _ _ _ _ _ _
   | exact ih5 _ _ _ _ _
   | exact ih6 _ _ _ _ _ _
   | exact LeO.none _
   | refine LeO.ite ?_ ?_
   | refine LeO.bind ?_ (fun _ => ?_)
  ·intro y0 y1 y2 y3 y4 y5
   unfold span_parts_1.j4
   repeat' first
   | (with_reducible exact ih0 _ _ _ _ _)
   | (with_reducible exact ih1 _ _ _ _ _ _)
   | (with_reducible exact ih2 _ _ _ _ _ _ _ _ _)
   | (with_reducible exact ih3 _ _ _ _ _ _ _ _)
   | (with_reducible exact ih4 _ _ _ _ _ _)
   | (with_reducible exact ih5 _ _ _ _ _)
   | (with_reducible exact ih6 _ _ _ _ _ _)
   | (with_reducible exact LeO.refl _)
   | (with_reducible exact LeO.none _)
   | (with_reducible refine LeO.ite ?_ ?_)
   | (with_reducible refine LeO.bind ?_ (fun _ => ?_))
   | exact ih0 _ _ _ _ _
   | exact ih1 _ _ _ _ _ _
   | exact ih2 _ _ _ _ _ _ _ _ _
   | exact ih3 _ _ _ _ _ _ _ _
   | exact ih4 _ _ _ _ _ _
   | exact ih5 _ _ _ _ _
   | exact ih6 _ _ _ _ _ _
   | exact LeO.none _
   | refine LeO.ite ?_ ?_
   | refine LeO.bind ?_ (fun _ => ?_)
  ·intro y0 y1 y2 y3 y4
   unfold span_parts_1.j5
   repeat' first
   | (with_reducible exact ih0 _ _ _ _ _)
   | (with_reducible exact ih1 _ _ _ _ _ _)
   | (with_reducible exact ih2 _ _ _ _ _ _ _ _ _)
   | (with_reducible exact ih3 _ _ _ _ _ _ _ _)
   | (with_reducible exact ih4 _ _ _ _ _ _)
   | (with_reducible exact ih5 _ _ _ _ _)
   | (with_reducible exact ih6 _ _ _ _ _ _)
   | (with_reducible exact LeO.refl _)
   | (with_reducible exact LeO.none _)
   | (with_reducible refine LeO.ite ?_ ?_)
   | (with_reducible refine LeO.bind ?_ (fun _ => ?_))
   | exact ih0 _ _ _ _ _
   | exact ih1 _ _ _ _ _ _
   | exact ih2 _ _ _ _ _ _ _ _ _
   | exact ih3 _ _ _ _ _ _ _ _
   | exact ih4 _ _ _ _ _ _
   | exact ih5 _ _ _ _ _
   | exact ih6 _ _ _ _ _ _
   | exact LeO.none _
   | refine LeO.ite ?_ ?_
   | refine LeO.bind ?_ (fun _ => ?_)
  ·intro y0 y1 y2 y3 y4 y5
   unfold span_parts_1.j6
   repeat' first
   | (with_reducible exact ih0 _ _ _ _ _)
   | (with_reducible exact ih1 _ _ _ _ _ _)
   | (with_reducible exact ih2 _ _ _ _ _ _ _ _ _)
   | (with_reducible exact ih3 _ _ _ _ _ _ _ _)
   | (with_reducible exact ih4 _ _ _ _ _ _)
   | (with_reducible exact ih5 _ _ _ _ _)
   | (with_reducible exact ih6 _ _ _ _ _ _)
   | (with_reducible exact LeO.refl _)
   | (with_reducible exact LeO.none _)
   | (with_reducible refine LeO.ite ?_ ?_)
   | (with_reducible refine LeO.bind ?_ (fun _ => ?_))
   | exact ih0 _ _ _ _ _
   | exact ih1 _ _ _ _ _ _
   | exact ih2 _ _ _ _ _ _ _ _ _
   | exact ih3 _ _ _ _ _ _ _ _
   | exact ih4 _ _ _ _ _ _
   | exact ih5 _ _ _ _ _
   | exact ih6 _ _ _ _ _ _
   | exact LeO.none _
   | refine LeO.ite ?_ ?_
   | refine LeO.bind ?_ (fun _ => ?_)
theorem span_parts_1.mono : ∀ a0 a1 k, LeO (span_parts_1.f k a0 a1) (span_parts_1.f (k + 1) a0 a1) := by
 intro a0 a1 k
 obtain ⟨ih0, ih1, ih2, ih3, ih4, ih5, ih6⟩ := span_parts_1.mono_l k
 unfold span_parts_1.f
 repeat' first
   | (with_reducible exact ih0 _ _ _ _ _)
   | (with_reducible exact ih1 _ _ _ _ _ _)
   | (with_reducible exact ih2 _ _ _ _ _ _ _ _ _)
   | (with_reducible exact ih3 _ _ _ _ _ _ _ _)
   | (with_reducible exact ih4 _ _ _ _ _ _)
   | (with_reducible exact ih5 _ _ _ _ _)
   | (with_reducible exact ih6 _ _ _ _ _ _)
   | (with_reducible exact LeO.refl _)
   | (with_reducible exact LeO.none _)
   | (with_reducible refine LeO.ite ?_ ?_)
   | (with_reducible refine LeO.bind ?_ (fun _ => ?_))
   | exact ih0 _ _ _ _ _
   | exact ih1 _ _ _ _ _ _
   | exact ih2 _ _ _ _ _ _ _ _ _
   | exact ih3 _ _ _ _ _ _ _ _
   | exact ih4 _ _ _ _ _ _
   | exact ih5 _ _ _ _ _
   | exact ih6 _ _ _ _ _ _
   | exact LeO.none _
   | refine LeO.ite ?_ ?_
   | refine LeO.bind ?_ (fun _ => ?_)
def span_parts_1.T5 : Bool × List (List Nat × List Nat) := (true, [([], []), ([0], [0]), ([1], [1]), ([], []), ([], []), ([3, 4], [3, 4]), ([5], [5]), ([], []), ([6, 7], [6, 7]), ([2, 8], [2, 8]), ([0, 1, 2, 3, 4, 5, 6, 7, 8, 9], []), ([10, 0, 1, 2, 3, 4, 5, 6, 7, 8, 9], [10]), ([11, 9, 8, 0, 1, 2, 3, 4, 5, 6, 7, 8, 9], [9, 11])])
def span_parts_1.B5 : List Nat := [0, 1, 3, 0, 0, 24, 56, 0, 248, 511, 1023, 2047, 4095]
theorem span_parts_1.tab5 : rtab .any (opsOf Try.f59 5) = span_parts_1.T5 := by kernel_rfl
theorem span_parts_1.bits5 : waitsOk span_parts_1.T5.2 span_parts_1.B5 = true := by kernel_rfl
def span_parts_1.T8 : Bool × List (List Nat × List Nat) := (true, [([], []), ([0], [0]), ([1], [1]), ([], []), ([], []), ([3, 4], [3, 4]), ([5], [5]), ([], []), ([6, 7], [6, 7]), ([2, 8], [2, 8]), ([0, 1, 2, 3, 4, 5, 6, 7, 8, 9], []), ([10, 0, 1, 2, 3, 4, 5, 6, 7, 8, 9], [10]), ([11, 9, 8, 0, 1, 2, 3, 4, 5, 6, 7, 8, 9], [9, 11])])
def span_parts_1.B8 : List Nat := [0, 1, 3, 0, 0, 24, 56, 0, 248, 511, 1023, 2047, 4095]
theorem span_parts_1.tab8 : rtab .any (opsOf Try.f59 8) = span_parts_1.T8 := by kernel_rfl
theorem span_parts_1.bits8 : waitsOk span_parts_1.T8.2 span_parts_1.B8 = true := by kernel_rfl
set_option maxHeartbeats 8000000 in
set_option maxRecDepth 100000 in
theorem span_parts_1.iter (k : Nat) (A0 : Option Addr) (c0 : Nat) (l0 : List (S43)) (A1 : Option Addr) (c1 : Nat) (l1 : List (S43)) (xs : List (S55)) (w W0 : World) (gb136 gb137 : Nat) (hr0 : Kd.C k43 w A0 l0.length l0) (hc0 : l0.length ≤ c0) (hr1 : Kd.C k43 w A1 l1.length l1) (hc1 : l1.length ≤ c1) (hB0 : Below w.heap.size w W0) (hg0 : W0.heap[gb136]? = some (.cells #[.slice A0 l0.length c0] 24 (0, 0))) (hg1 : W0.heap[gb137]? = some (.cells #[.slice A1 l1.length c1] 24 (0, 0))) (he0 : w.heap.size ≤ gb136) (he1 : w.heap.size ≤ gb137) (hn0_1 : gb136 ≠ gb137) (h : span_parts_1.f k l0 l1 = some xs) :
  XR.Iter Try.prog (fun x : S55 => #[.agg #[.int .i64 x.f0.f0, .int .i64 x.f0.f1, .bool x.f1, .bool x.f2]]) w (fun k_ => k_ = gb136 ∨ k_ = gb137) 59 #[.pointer (some ⟨gb136, 0, none⟩), .pointer (some ⟨gb137, 0, none⟩)] xs W0 := by
 intro n_ l_ J_ Jx_ W_ hWs_ hWf_ hJs_ hJxs_ hJB_ hY_ h0_
 refine callsIn_wide.2 ?_
 have hu43 := Try.underlying43
 have hu55 := Try.underlying55
 have HR0 := Aside0.mk hr0
 have HC0 := Aside0.mk hc0
 clear hr0 hc0
 have HR1 := Aside0.mk hr1
 have HC1 := Aside0.mk hc1
 clear hr1 hc1
 have H : (span_parts_1.l0 k 0 0 0 l0 l1) = some xs := h
 clear h
 have H' := Aside0.mk H
 clear H
 have BK136 := Aside0.mk ((hWf_ _ (Array.getElem?_eq_some_iff.1 hg0).1 (.inl rfl)).trans hg0)
 have GE136 := Aside0.mk he0
 have GW136 := Aside0.mk he0
 have NB136_137 := Aside0.mk hn0_1
 have NB137_136 := Aside0.mk (Ne.symm hn0_1)
 have BK137 := Aside0.mk ((hWf_ _ (Array.getElem?_eq_some_iff.1 hg1).1 (.inr rfl)).trans hg1)
 have GE137 := Aside0.mk he1
 have GW137 := Aside0.mk he1
 have HB := Aside0.mk (hJB_ _ _ h0_)
 have HJ_ := Aside0.mk h0_
 go_enter Try.func59, Try.ntmps59
 go_wp2
 go_loopg [4, 5, 6] k (fun kq v16 v17 v18 w' => ∃ (pre_ r : List (S55)) (x16_1 : Int) (x17_1 : Int) (x18_1 : Int), v16 = .int .i64 x16_1 ∧ v17 = .int .i64 x17_1 ∧ v18 = .int .i64 x18_1 ∧ Aside0 (span_parts_1.l0 kq x16_1 x17_1 x18_1 l0 l1 = some r) ∧ Aside0 (xs = pre_ ++ r) ∧ Aside0 (J_ pre_ w') ∧ Aside0 (kq ≤ k) ∧ Aside0 (w'.heap[gb136]? = some (.cells #[(.slice A0 l0.length c0)] 24 (0, 0))) ∧ Aside0 (w'.heap[gb137]? = some (.cells #[(.slice A1 l1.length c1)] 24 (0, 0))) ∧ Aside0 (Below w.heap.size w w'))
 case atStart => exact ⟨[], xs, (0), (0), (0), (by first | rfl | (simp; done) | (simp [*]; done)), (by first | rfl | (simp; done) | (simp [*]; done)), (by first | rfl | (simp; done) | (simp [*]; done)), H', ⟨rfl⟩, HJ_, ⟨Nat.le_refl _⟩, ⟨by (with_reducible repeat (first | refine blk_drewN ?_ _ | refine blk_drew ?_ | refine blk_alloc ?_ _)); exact BK136.out⟩, ⟨by (with_reducible repeat (first | refine blk_drewN ?_ _ | refine blk_drew ?_ | refine blk_alloc ?_ _)); exact BK137.out⟩, ⟨by repeat (first | (with_reducible first | exact HB.out | apply below_alloc | apply pw_below_drewN | apply below_drew1 | refine below_set ?_ GE136.out | refine below_set ?_ GE137.out) | exact HB.out)⟩⟩
 case round =>
  clear H'
  try clear c1
  try clear p2
  obtain ⟨pre_, r, x16_1, x17_1, x18_1, rfl, rfl, rfl, HA, HX_, HJ_, HK1, BK136, BK137, HB⟩ := hrel
  have HB := Aside0.mk (XR.b2_refl HB.out)
  cases gk with
  | zero => exact absurd HA.out (by simp [span_parts_1.l0])
  | succ k1 =>
   have H := HA.out
   clear HA
   simp only [span_parts_1.l0] at H
   have HC5 := Aside0.mk H
   clear H
   go_upto_region 1 with (go_in)
   go_cut [17] (fun v29 wc => ∃ (kq : Nat) (x29_4 : Bool), v29 = .bool x29_4 ∧ Aside0 (span_parts_1.j1 kq x16_1 x17_1 x18_1 x29_4 l0 l1 = some r) ∧ Aside0 (kq ≤ k1) ∧ Aside0 (wc.heap[gb136]? = some (.cells #[(.slice A0 l0.length c0)] 24 (0, 0))) ∧ Aside0 (wc.heap[gb137]? = some (.cells #[(.slice A1 l1.length c1)] 24 (0, 0))) ∧ Aside0 (XR.B2 w wr wc))
   case first =>
    have H := HC5.out
    clear HC5
    by_cases c6 : x17_1 < (l0.length : Int)
    ·rw [if_pos c6] at H
     have c6b0 : decide (x17_1 < (l0.length : Int)) = true := decide_eq_true c6
     clear c6
     (first | rw [c6b0] | (simp only [i64_w, i32_w]; rw [c6b0]) | skip)
     have H' := Aside0.mk H
     clear H
     have hnb7 := NB136_137.out
     have hnc7 := NB137_136.out
     have hcz8_0 : wr.cell? ⟨gb136, 0, none⟩ = some (.slice A0 l0.length c0) := (blk_cell BK136.out 0).trans rfl
     have hfz8_0 := blk_frozen BK136.out 0
     go_wp2
     go_meet
     case rel => exact ⟨_, (true), (by first | rfl | (simp; done) | (simp [*]; done)), H', ⟨by have := HK1.out; first | omega | exact Nat.le_refl _⟩, ⟨by (with_reducible repeat (first | refine blk_drewN ?_ _ | refine blk_drew ?_ | refine blk_alloc ?_ _)); exact BK136.out⟩, ⟨by (with_reducible repeat (first | refine blk_drewN ?_ _ | refine blk_drew ?_ | refine blk_alloc ?_ _)); exact BK137.out⟩, ⟨by repeat (first | (with_reducible first | exact HB.out | apply XR.b2_alloc | apply XR.b2_drewN | apply XR.b2_drew1 | refine XR.b2_set ?_ GE136.out | refine XR.b2_set ?_ GE137.out) | exact HB.out)⟩⟩
    ·rw [if_neg c6] at H
     have c6b0 : decide (x17_1 < (l0.length : Int)) = false := decide_eq_false c6
     clear c6
     (first | rw [c6b0] | (simp only [i64_w, i32_w]; rw [c6b0]) | skip)
     have H' := Aside0.mk H
     clear H
     have hnb9 := NB136_137.out
     have hnc9 := NB137_136.out
     have hcz10_0 : wr.cell? ⟨gb136, 0, none⟩ = some (.slice A0 l0.length c0) := (blk_cell BK136.out 0).trans rfl
     have hfz10_0 := blk_frozen BK136.out 0
     have hcz11_0 : wr.cell? ⟨gb137, 0, none⟩ = some (.slice A1 l1.length c1) := (blk_cell BK137.out 0).trans rfl
     have hfz11_0 := blk_frozen BK137.out 0
     go_wp2
     go_meet
     case rel => exact ⟨_, (decide (x18_1 < (l1.length : Int))), (by first | rfl | (simp; done) | (simp [*]; done)), H', ⟨by have := HK1.out; first | omega | exact Nat.le_refl _⟩, ⟨by (with_reducible repeat (first | refine blk_drewN ?_ _ | refine blk_drew ?_ | refine blk_alloc ?_ _)); exact BK136.out⟩, ⟨by (with_reducible repeat (first | refine blk_drewN ?_ _ | refine blk_drew ?_ | refine blk_alloc ?_ _)); exact BK137.out⟩, ⟨by repeat (first | (with_reducible first | exact HB.out | apply XR.b2_alloc | apply XR.b2_drewN | apply XR.b2_drew1 | refine XR.b2_set ?_ GE136.out | refine XR.b2_set ?_ GE137.out) | exact HB.out)⟩⟩
   case rest =>
    clear HC5
    try clear c1
    try clear p2
    try clear c6
    try clear c6b0
    try clear c7
    try clear c8
    try clear c9
    try clear hcz10_0
    try clear hcz11_0
    try clear hcz8_0
    try clear hfz10_0
    try clear hfz11_0
    try clear hfz8_0
    try clear p2
    obtain ⟨kq, x29_4, rfl, HA, HJ4, BK136, BK137, HB⟩ := hcut
    cases kq with
    | zero => exact absurd HA.out (by simp [span_parts_1.j1])
    | succ kj4 =>
     have H := HA.out
     clear HA
     simp only [span_parts_1.j1] at H
     by_cases c12 : x29_4 = true
     ·subst c12
      have H1 : (if x17_1 < (l0.length : Int) then (if 0 ≤ x17_1 then ((span_edge.f ((rd_T43 l0 x17_1).f0) ((rd_T43 l0 x17_1).f1) x16_1).bind fun t141 => (span_parts_1.j2 kj4 x16_1 x17_1 x18_1 l0 l1 x16_1 (mn 65536 t141) (decide (((rd_T43 l0 x17_1).f0) ≤ x16_1)) false)) else (none)) else (span_parts_1.j2 kj4 x16_1 x17_1 x18_1 l0 l1 x16_1 65536 false false)) = some r := by rw [if_pos rfl] at H; exact H
      clear H
      have H := H1
      clear H1
      have HC13 := Aside0.mk H
      clear H
      go_upto_if 24 with (first | ((with_reducible refine gate_dst (N := 7) rfl ?_); (try (refine gate_guard (by rfl) ?_; dsimp only)); refine box_event ?hg (N := 7) ?hd (cs := #[.int .i64 0, .int .i64 0, .bool false, .bool false]) (t := 55) ?hr ?_; (case hd => rfl); (case hg => rfl); (case hr => first | (go_simp; done) | (go_simp; rfl)); intro gb138 hg w14 hbox hb; have n0_ := Aside0.mk (blk_below (g := gb136) (o := .cells #[.slice A0 l0.length c0] 24 (0, 0)) (by (with_reducible repeat (first | refine blk_drewN ?_ _ | refine blk_drew ?_ | refine blk_alloc ?_ _)); exact BK136.out) hb); have n1_ := Aside0.mk (blk_below (g := gb137) (o := .cells #[.slice A1 l1.length c1] 24 (0, 0)) (by (with_reducible repeat (first | refine blk_drewN ?_ _ | refine blk_drew ?_ | refine blk_alloc ?_ _)); exact BK137.out) hb); have n2_ := Aside0.mk (XR.b2_step (by repeat (first | (with_reducible first | exact HB.out | apply XR.b2_alloc | apply XR.b2_drewN | apply XR.b2_drew1 | refine XR.b2_set ?_ GE136.out | refine XR.b2_set ?_ GE137.out) | exact HB.out)) hb); have n3_ := Aside0.mk (hbox); have n4_ := Aside0.mk ((by rw [hg]; exact (XR.b2_size (by repeat (first | (with_reducible first | exact HB.out | apply XR.b2_alloc | apply XR.b2_drewN | apply XR.b2_drew1 | refine XR.b2_set ?_ GE136.out | refine XR.b2_set ?_ GE137.out) | exact HB.out))) : w.heap.size ≤ gb138 ∧ wr.heap.size ≤ gb138)); have n5_ := Aside0.mk ((by rw [hg]; exact (XR.b2_size (by repeat (first | (with_reducible first | exact HB.out | apply XR.b2_alloc | apply XR.b2_drewN | apply XR.b2_drew1 | refine XR.b2_set ?_ GE136.out | refine XR.b2_set ?_ GE137.out) | exact HB.out))) : w.heap.size ≤ gb138 ∧ wr.heap.size ≤ gb138)); have n6_ := Aside0.mk ((by rw [hg]; exact Nat.ne_of_lt (blk_lt (g := gb136) (o := .cells #[.slice A0 l0.length c0] 24 (0, 0)) (by (with_reducible repeat (first | refine blk_drewN ?_ _ | refine blk_drew ?_ | refine blk_alloc ?_ _)); exact BK136.out)) : gb136 ≠ gb138)); have n7_ := Aside0.mk ((by rw [hg]; exact Nat.ne_of_gt (blk_lt (g := gb136) (o := .cells #[.slice A0 l0.length c0] 24 (0, 0)) (by (with_reducible repeat (first | refine blk_drewN ?_ _ | refine blk_drew ?_ | refine blk_alloc ?_ _)); exact BK136.out)) : gb138 ≠ gb136)); have n8_ := Aside0.mk ((by rw [hg]; exact Nat.ne_of_lt (blk_lt (g := gb137) (o := .cells #[.slice A1 l1.length c1] 24 (0, 0)) (by (with_reducible repeat (first | refine blk_drewN ?_ _ | refine blk_drew ?_ | refine blk_alloc ?_ _)); exact BK137.out)) : gb137 ≠ gb138)); have n9_ := Aside0.mk ((by rw [hg]; exact Nat.ne_of_gt (blk_lt (g := gb137) (o := .cells #[.slice A1 l1.length c1] 24 (0, 0)) (by (with_reducible repeat (first | refine blk_drewN ?_ _ | refine blk_drew ?_ | refine blk_alloc ?_ _)); exact BK137.out)) : gb138 ≠ gb137)); clear BK136; clear BK137; clear HB; have BK136 := n0_; have BK137 := n1_; have HB := n2_; have BK138 := n3_; have GW138 := n4_; have GE138 := n5_; have NB136_138 := n6_; have NB138_136 := n7_; have NB137_138 := n8_; have NB138_137 := n9_; clear n0_ n1_ n2_ n3_ n4_ n5_ n6_ n7_ n8_ n9_; clear hb hbox hg; have hnb15 := NB138_136.out; have hnc15 := NB136_138.out; have hnb16 := NB138_137.out; have hnc16 := NB137_138.out; have hcz17_0 : w14.cell? ⟨gb138, 0, none⟩ = some (.int .i64 0) := (blk_cell BK138.out 0).trans rfl; have hcz17_1 : w14.cell? ⟨gb138, 1, none⟩ = some (.int .i64 0) := (blk_cell BK138.out 1).trans rfl; have hcz17_2 : w14.cell? ⟨gb138, 2, none⟩ = some (.bool false) := (blk_cell BK138.out 2).trans rfl; have hcz17_3 : w14.cell? ⟨gb138, 3, none⟩ = some (.bool false) := (blk_cell BK138.out 3).trans rfl; have hfz17_0 := blk_frozen BK138.out 0; have hfz17_1 := blk_frozen BK138.out 1; have hfz17_2 := blk_frozen BK138.out 2; have hfz17_3 := blk_frozen BK138.out 3) | ((with_reducible refine gate_store (t := 55) (p := 7) rfl ?_); refine store_event (t := 55) (p := 7) (v := ?vo_w18) (w1 := ((((w14.setCell ⟨gb138, 0, none⟩ (.int .i64 x16_1)).setCell ⟨gb138, 1, none⟩ (.int .i64 65536)).setCell ⟨gb138, 2, none⟩ (.bool false)).setCell ⟨gb138, 3, none⟩ (.bool false))) ?hg ?ho ?hn ?hr ?_; (case ho => rfl); (case hg => rfl); (case hn => rfl); (case hr => first | (go_simp; done) | (go_simp; rfl)); intro w18 hw; have n0_ : Aside0 (w18.heap[gb136]? = some (.cells #[.slice A0 l0.length c0] 24 (0, 0))) := ⟨(by rw [hw]; exact (by (with_reducible repeat (first | refine blk_drewN ?_ _ | refine blk_drew ?_ | refine blk_alloc ?_ _)); refine blk_far ?_ NB136_138.out _; (with_reducible repeat (first | refine blk_drewN ?_ _ | refine blk_drew ?_ | refine blk_alloc ?_ _)); refine blk_far ?_ NB136_138.out _; (with_reducible repeat (first | refine blk_drewN ?_ _ | refine blk_drew ?_ | refine blk_alloc ?_ _)); refine blk_far ?_ NB136_138.out _; (with_reducible repeat (first | refine blk_drewN ?_ _ | refine blk_drew ?_ | refine blk_alloc ?_ _)); refine blk_far ?_ NB136_138.out _; (with_reducible repeat (first | refine blk_drewN ?_ _ | refine blk_drew ?_ | refine blk_alloc ?_ _)); exact BK136.out))⟩; have n1_ : Aside0 (w18.heap[gb137]? = some (.cells #[.slice A1 l1.length c1] 24 (0, 0))) := ⟨(by rw [hw]; exact (by (with_reducible repeat (first | refine blk_drewN ?_ _ | refine blk_drew ?_ | refine blk_alloc ?_ _)); refine blk_far ?_ NB137_138.out _; (with_reducible repeat (first | refine blk_drewN ?_ _ | refine blk_drew ?_ | refine blk_alloc ?_ _)); refine blk_far ?_ NB137_138.out _; (with_reducible repeat (first | refine blk_drewN ?_ _ | refine blk_drew ?_ | refine blk_alloc ?_ _)); refine blk_far ?_ NB137_138.out _; (with_reducible repeat (first | refine blk_drewN ?_ _ | refine blk_drew ?_ | refine blk_alloc ?_ _)); refine blk_far ?_ NB137_138.out _; (with_reducible repeat (first | refine blk_drewN ?_ _ | refine blk_drew ?_ | refine blk_alloc ?_ _)); exact BK137.out))⟩; have n2_ : Aside0 (w18.heap[gb138]? = some (.cells #[.int .i64 x16_1, .int .i64 65536, .bool false, .bool false] 55 (0, 0))) := ⟨(by rw [hw]; exact (by (with_reducible repeat (first | refine blk_drewN ?_ _ | refine blk_drew ?_ | refine blk_alloc ?_ _)); refine blk_put (cs := #[.int .i64 x16_1, .int .i64 65536, .bool false, .bool false]) ?_ 3 _ rfl; (with_reducible repeat (first | refine blk_drewN ?_ _ | refine blk_drew ?_ | refine blk_alloc ?_ _)); refine blk_put (cs := #[.int .i64 x16_1, .int .i64 65536, .bool false, .bool false]) ?_ 2 _ rfl; (with_reducible repeat (first | refine blk_drewN ?_ _ | refine blk_drew ?_ | refine blk_alloc ?_ _)); refine blk_put (cs := #[.int .i64 x16_1, .int .i64 0, .bool false, .bool false]) ?_ 1 _ rfl; (with_reducible repeat (first | refine blk_drewN ?_ _ | refine blk_drew ?_ | refine blk_alloc ?_ _)); refine blk_put (cs := #[.int .i64 0, .int .i64 0, .bool false, .bool false]) ?_ 0 _ rfl; (with_reducible repeat (first | refine blk_drewN ?_ _ | refine blk_drew ?_ | refine blk_alloc ?_ _)); exact BK138.out))⟩; have n3_ : Aside0 (XR.B2 w wr w18) := ⟨(by rw [hw]; exact (by repeat (first | (with_reducible first | exact HB.out | apply XR.b2_alloc | apply XR.b2_drewN | apply XR.b2_drew1 | refine XR.b2_set ?_ GE136.out | refine XR.b2_set ?_ GE137.out | refine XR.b2_set ?_ GE138.out) | exact HB.out)))⟩; clear hw; clear BK136; clear BK137; clear BK138; clear HB; have BK136 := n0_; have BK137 := n1_; have BK138 := n2_; have HB := n3_; clear n0_ n1_ n2_ n3_; have hnb19 := NB136_137.out; have hnc19 := NB137_136.out; have hcz20_0 : w18.cell? ⟨gb136, 0, none⟩ = some (.slice A0 l0.length c0) := (blk_cell BK136.out 0).trans rfl; have hfz20_0 := blk_frozen BK136.out 0) | go_in)
      (try simp only [Act.put, List.setIfInBounds_toArray, List.set_cons_zero, List.set_cons_succ])
      go_cut [] (fun wc => ∃ (kq : Nat) (x139001_12 : Int) (x139002_12 : Bool), Aside0 (span_parts_1.j2 kq x16_1 x17_1 x18_1 l0 l1 x16_1 x139001_12 x139002_12 false = some r) ∧ Aside0 (kq ≤ kj4) ∧ Aside0 (wc.heap[gb136]? = some (.cells #[(.slice A0 l0.length c0)] 24 (0, 0))) ∧ Aside0 (wc.heap[gb137]? = some (.cells #[(.slice A1 l1.length c1)] 24 (0, 0))) ∧ Aside0 (wc.heap[gb138]? = some (.cells #[.int .i64 x16_1, .int .i64 x139001_12, .bool x139002_12, .bool false] 55 (0, 0))) ∧ Aside0 (XR.B2 w wr wc))
      case first =>
       have H := HC13.out
       clear HC13
       by_cases c21 : x17_1 < (l0.length : Int)
       ·rw [if_pos c21] at H
        have c21b0 : decide (x17_1 < (l0.length : Int)) = true := decide_eq_true c21
        clear c21
        (first | rw [c21b0] | (simp only [i64_w, i32_w]; rw [c21b0]) | skip)
        by_cases c22 : 0 ≤ x17_1
        ·rw [if_pos c22] at H
         have c22b0 : decide (0 ≤ x17_1) = true := decide_eq_true c22
         clear c22
         replace H := Option.bind_eq_some_iff.mp H
         obtain ⟨t141, A230, H⟩ := H
         replace H : (span_parts_1.j2 kj4 x16_1 x17_1 x18_1 l0 l1 x16_1 (mn 65536 t141) (decide (((rd_T43 l0 x17_1).f0) ≤ x16_1)) false) = some r := H
         have A23 := Aside0.mk A230
         clear A230
         obtain ⟨ji24, hji24⟩ : ∃ j_ : Int, (mn 65536 t141) = j_ := ⟨_, rfl⟩
         replace H : (span_parts_1.j2 kj4 x16_1 x17_1 x18_1 l0 l1 x16_1 ji24 (decide (((rd_T43 l0 x17_1).f0) ≤ x16_1)) false) = some r := by first | (rw [hji24] at H; exact H) | (simp only [hji24] at H ⊢; exact H)
         (try rw [hji24] at A23)
         (try (have hji24h : ji24 ≤ 65536 := by (rw [← hji24]; unfold mn; (repeat' split) <;> omega)))
         (try (have hji24g : ji24 ≤ 64 := by omega))
         have hji24_ : (if t141 < 65536 then t141 else 65536) = ji24 := hji24
         have H' := Aside0.mk H
         clear H
         have hnb25 := NB136_137.out
         have hnc25 := NB137_136.out
         have hnb26 := NB136_138.out
         have hnc26 := NB138_136.out
         have hcz27_0 : w18.cell? ⟨gb136, 0, none⟩ = some (.slice A0 l0.length c0) := (blk_cell BK136.out 0).trans rfl
         have hfz27_0 := blk_frozen BK136.out 0
         have p139 : 0 ≤ (x17_1 : Int) := of_decide_eq_true (by assumption)
         have q139 : x17_1 < (l0.length : Int) := of_decide_eq_true (by assumption)
         obtain ⟨ad139, e139, hx139_0, hx139_1⟩ := at_T43 HR0.out x17_1 p139 q139
         cases e139
         replace hx139_0 := (HB.out.cell (World.block_lt_of_cell? w _ hx139_0)).trans hx139_0
         replace hx139_1 := (HB.out.cell (World.block_lt_of_cell? w _ hx139_1)).trans hx139_1
         replace p139 := eq_true p139
         replace q139 := eq_true q139
         have hnb28 := NB138_137.out
         have hnc28 := NB137_138.out
         have hcz29_0 : w18.cell? ⟨gb138, 0, none⟩ = some (.int .i64 x16_1) := (blk_cell BK138.out 0).trans rfl
         have hcz29_1 : w18.cell? ⟨gb138, 1, none⟩ = some (.int .i64 65536) := (blk_cell BK138.out 1).trans rfl
         have hcz29_2 : w18.cell? ⟨gb138, 2, none⟩ = some (.bool false) := (blk_cell BK138.out 2).trans rfl
         have hcz29_3 : w18.cell? ⟨gb138, 3, none⟩ = some (.bool false) := (blk_cell BK138.out 3).trans rfl
         have hfz29_0 := blk_frozen BK138.out 0
         have hfz29_1 := blk_frozen BK138.out 1
         have hfz29_2 := blk_frozen BK138.out 2
         have hfz29_3 := blk_frozen BK138.out 3
         try go_wp2
         have n0_ : Aside0 ((w18.setCell ⟨gb138, 2, none⟩ (.bool (decide (((rd_T43 l0 x17_1).f0) ≤ x16_1)))).heap[gb136]? = some (.cells #[.slice (some ad139) l0.length c0] 24 (0, 0))) := ⟨by (with_reducible repeat (first | refine blk_drewN ?_ _ | refine blk_drew ?_ | refine blk_alloc ?_ _)); refine blk_far ?_ NB136_138.out _; (with_reducible repeat (first | refine blk_drewN ?_ _ | refine blk_drew ?_ | refine blk_alloc ?_ _)); exact BK136.out⟩
         have n1_ : Aside0 ((w18.setCell ⟨gb138, 2, none⟩ (.bool (decide (((rd_T43 l0 x17_1).f0) ≤ x16_1)))).heap[gb137]? = some (.cells #[.slice A1 l1.length c1] 24 (0, 0))) := ⟨by (with_reducible repeat (first | refine blk_drewN ?_ _ | refine blk_drew ?_ | refine blk_alloc ?_ _)); refine blk_far ?_ NB137_138.out _; (with_reducible repeat (first | refine blk_drewN ?_ _ | refine blk_drew ?_ | refine blk_alloc ?_ _)); exact BK137.out⟩
         have n2_ : Aside0 ((w18.setCell ⟨gb138, 2, none⟩ (.bool (decide (((rd_T43 l0 x17_1).f0) ≤ x16_1)))).heap[gb138]? = some (.cells #[.int .i64 x16_1, .int .i64 65536, .bool (decide (((rd_T43 l0 x17_1).f0) ≤ x16_1)), .bool false] 55 (0, 0))) := ⟨by (with_reducible repeat (first | refine blk_drewN ?_ _ | refine blk_drew ?_ | refine blk_alloc ?_ _)); refine blk_put (cs := #[.int .i64 x16_1, .int .i64 65536, .bool false, .bool false]) ?_ 2 _ rfl; (with_reducible repeat (first | refine blk_drewN ?_ _ | refine blk_drew ?_ | refine blk_alloc ?_ _)); exact BK138.out⟩
         have n3_ : Aside0 (XR.B2 w wr (w18.setCell ⟨gb138, 2, none⟩ (.bool (decide (((rd_T43 l0 x17_1).f0) ≤ x16_1))))) := ⟨by repeat (first | (with_reducible first | exact HB.out | apply XR.b2_alloc | apply XR.b2_drewN | apply XR.b2_drew1 | refine XR.b2_set ?_ GE136.out | refine XR.b2_set ?_ GE137.out | refine XR.b2_set ?_ GE138.out) | exact HB.out)⟩
         (try clear BK136)
         (try clear BK137)
         (try clear BK138)
         (try clear HB)
         generalize (w18.setCell ⟨gb138, 2, none⟩ (.bool (decide (((rd_T43 l0 x17_1).f0) ≤ x16_1)))) = w30 at n0_ n1_ n2_ n3_ ⊢
         have BK136 := n0_
         have BK137 := n1_
         have BK138 := n2_
         have HB := n3_
         clear n0_ n1_ n2_ n3_
         have n0_ := Aside0.mk (blk_drew BK136.out)
         have n1_ := Aside0.mk (blk_drew BK137.out)
         have n2_ := Aside0.mk (blk_drew BK138.out)
         have n3_ := Aside0.mk (XR.b2_drew1 HB.out)
         clear BK136
         clear BK137
         clear BK138
         clear HB
         have BK136 := n0_
         have BK137 := n1_
         have BK138 := n2_
         have HB := n3_
         clear n0_ n1_ n2_ n3_
         have p140 : 0 ≤ (x17_1 : Int) := of_decide_eq_true (by assumption)
         have q140 : x17_1 < (l0.length : Int) := of_decide_eq_true (by assumption)
         obtain ⟨ad140, e140, hx140_0, hx140_1⟩ := at_T43 HR0.out x17_1 p140 q140
         have hw140_1 := hx140_1
         have hw140_0 := hx140_0
         obtain rfl : ad139 = ad140 := (by injection e140)
         replace hx140_0 := (HB.out.cell (World.block_lt_of_cell? w _ hx140_0)).trans hx140_0
         replace hx140_1 := (HB.out.cell (World.block_lt_of_cell? w _ hx140_1)).trans hx140_1
         replace p140 := eq_true p140
         replace q140 := eq_true q140
         refine start_ (n := 13) (S := fun w' => w'.cell? ⟨gb138, 0, none⟩ = some (.int .i64 x16_1) ∧ w'.cell? ⟨gb138, 1, none⟩ = some (.int .i64 65536) ∧ w'.cell? ⟨gb138, 2, none⟩ = some (.bool (decide (((rd_T43 l0 x17_1).f0) ≤ x16_1))) ∧ w'.cell? ⟨gb138, 3, none⟩ = some (.bool false) ∧ w'.cell? ⟨gb136, 0, none⟩ = some (.slice (some ad139) l0.length c0) ∧ w'.cell? (ad139.add ((x17_1).toNat * 2)) = some (.int .i64 ((rd_T43 l0 x17_1).f0)) ∧ w'.cell? ⟨(ad139.add ((x17_1).toNat * 2)).block, (ad139.add ((x17_1).toNat * 2)).off + 1, none⟩ = some (.int .i64 ((rd_T43 l0 x17_1).f1))) (ds := [12]) #[false, false, false, false, false, false, false, false, false, false, false, false, false] (by kernel_rfl) rfl rfl ⟨(blk_cell BK138.out 0).trans rfl, (blk_cell BK138.out 1).trans rfl, (blk_cell BK138.out 2).trans rfl, (blk_cell BK138.out 3).trans rfl, (blk_cell BK136.out 0).trans rfl, ((HB.out.cell (World.block_lt_of_cell? w _ hw140_0)).trans hw140_0), ((HB.out.cell (World.block_lt_of_cell? w _ hw140_1)).trans hw140_1)⟩ (fun hHeld => ?_); refine with_tabW span_parts_1.tab5 span_parts_1.bits5 (fun HT_ HW_ => ?_)
         generalize w30.drew = w31 at BK136 BK137 BK138 HB hx140_0 hx140_1 hHeld ⊢
         refine pure_ (i := 0) (N := some 33) (v := ?_) (a' := ?_) #[true, false, false, false, false, false, false, false, false, false, false, false, false] rfl rfl (any_of HT_.out (by kernel_rfl)) (fun _ _ _ h => h) (Or.inl ⟨by rfl, ?_⟩) ?_ ?_
         rotate_left
         ·intro w'
          go_simp
          with_reducible rfl
         rotate_left
         ·simp only [Act.put, List.setIfInBounds_toArray, List.set_cons_zero, List.set_cons_succ, i64_w, i32_w]
          rfl
         refine pure_ (i := 1) (N := some 34) (v := ?_) (a' := ?_) #[true, true, false, false, false, false, false, false, false, false, false, false, false] rfl rfl (any_of HT_.out (by kernel_rfl)) (fun _ _ _ h => h) (Or.inl ⟨by rfl, ?_⟩) ?_ ?_
         rotate_left
         ·intro w'
          go_simp
          with_reducible rfl
         rotate_left
         ·simp only [Act.put, List.setIfInBounds_toArray, List.set_cons_zero, List.set_cons_succ, i64_w, i32_w]
          rfl
         refine pure_ (i := 4) (N := some 37) (v := ?_) (a' := ?_) #[true, true, false, false, true, false, false, false, false, false, false, false, false] rfl rfl (any_of HT_.out (by kernel_rfl)) (fun _ _ _ h => h) (Or.inl ⟨by rfl, ?_⟩) ?_ ?_
         rotate_left
         ·intro w'
          go_simp
          with_reducible rfl
         rotate_left
         ·simp only [Act.put, List.setIfInBounds_toArray, List.set_cons_zero, List.set_cons_succ, i64_w, i32_w]
          rfl
         refine pure_ (i := 7) (N := some 40) (v := ?_) (a' := ?_) #[true, true, false, false, true, false, false, true, false, false, false, false, false] rfl rfl (any_of HT_.out (by kernel_rfl)) (fun _ _ _ h => h) (Or.inl ⟨by rfl, ?_⟩) ?_ ?_
         rotate_left
         ·intro w'
          go_simp
          with_reducible rfl
         rotate_left
         ·simp only [Act.put, List.setIfInBounds_toArray, List.set_cons_zero, List.set_cons_succ, i64_w, i32_w]
          rfl
         refine take_ (i := 2) (N := some 35) (v := ?_) (a' := ?_) #[true, true, true, false, true, false, false, true, false, false, false, false, false] rfl rfl (take_ofW HT_.out HW_.out (by kernel_rfl)) (fun _ _ _ h => h) (Or.inl ⟨by rfl, ?_⟩) hHeld ?_ ?_
         rotate_left
         ·rintro w' ⟨s0, s1, s2, s3, s4, s5, s6⟩
          go_simp
          with_reducible rfl
         rotate_left
         ·simp only [Act.put, List.setIfInBounds_toArray, List.set_cons_zero, List.set_cons_succ, i64_w, i32_w]
          rfl
         refine take_ (i := 3) (N := some 36) (v := ?_) (a' := ?_) #[true, true, true, true, true, false, false, true, false, false, false, false, false] rfl rfl (take_ofW HT_.out HW_.out (by kernel_rfl)) (fun _ _ _ h => h) (Or.inl ⟨by rfl, ?_⟩) hHeld ?_ ?_
         rotate_left
         ·rintro w' ⟨s0, s1, s2, s3, s4, s5, s6⟩
          go_simp
          with_reducible rfl
         rotate_left
         ·simp only [Act.put, List.setIfInBounds_toArray, List.set_cons_zero, List.set_cons_succ, i64_w, i32_w]
          rfl
         refine pure_ (i := 5) (N := some 38) (v := ?_) (a' := ?_) #[true, true, true, true, true, true, false, true, false, false, false, false, false] rfl rfl (any_of HT_.out (by kernel_rfl)) (fun _ _ _ h => h) (Or.inl ⟨by rfl, ?_⟩) ?_ ?_
         rotate_left
         ·intro w'
          go_simp
          with_reducible rfl
         rotate_left
         ·simp only [Act.put, List.setIfInBounds_toArray, List.set_cons_zero, List.set_cons_succ, i64_w, i32_w]
          rfl
         refine take_ (i := 6) (N := some 39) (v := ?_) (a' := ?_) #[true, true, true, true, true, true, true, true, false, false, false, false, false] rfl rfl (take_ofW HT_.out HW_.out (by kernel_rfl)) (fun _ _ _ h => h) (Or.inl ⟨by rfl, ?_⟩) hHeld ?_ ?_
         rotate_left
         ·rintro w' ⟨s0, s1, s2, s3, s4, s5, s6⟩
          go_simp
          with_reducible rfl
         rotate_left
         ·simp only [Act.put, List.setIfInBounds_toArray, List.set_cons_zero, List.set_cons_succ, i64_w, i32_w]
          rfl
         refine one_ (i := 8) (N := some 41) #[true, true, true, true, true, true, true, true, true, false, false, false, false] rfl rfl (one_of HT_.out (by kernel_rfl)) (by decide) (fun K hK => ?_)
         refine goes_ Try.func60 (by kernel_rfl) rfl #[.agg #[.int .i64 ((rd_T43 l0 x17_1).f0), .int .i64 ((rd_T43 l0 x17_1).f1)], .int .i64 x16_1] (by rfl) rfl rfl (by (try simp only [List.map_toArray, List.map_cons, List.map_nil]); first | done | rfl) ?_
         with_reducible refine (span_edge.calls ((rd_T43 l0 x17_1).f0) ((rd_T43 l0 x17_1).f1) x16_1 t141 _ A23.out).mono ?_
         rintro e w32 ⟨rfl, hb⟩
         refine ⟨_, rfl, ?_⟩
         have n0_ := Aside0.mk (blk_below (g := gb136) (o := .cells #[.slice (some ad139) l0.length c0] 24 (0, 0)) (by (with_reducible repeat (first | refine blk_drewN ?_ _ | refine blk_drew ?_ | refine blk_alloc ?_ _)); exact BK136.out) hb)
         have n1_ := Aside0.mk (blk_below (g := gb137) (o := .cells #[.slice A1 l1.length c1] 24 (0, 0)) (by (with_reducible repeat (first | refine blk_drewN ?_ _ | refine blk_drew ?_ | refine blk_alloc ?_ _)); exact BK137.out) hb)
         have n2_ := Aside0.mk (blk_below (g := gb138) (o := .cells #[.int .i64 x16_1, .int .i64 65536, .bool (decide (((rd_T43 l0 x17_1).f0) ≤ x16_1)), .bool false] 55 (0, 0)) (by (with_reducible repeat (first | refine blk_drewN ?_ _ | refine blk_drew ?_ | refine blk_alloc ?_ _)); exact BK138.out) hb)
         have n3_ := Aside0.mk (XR.b2_step (by repeat (first | (with_reducible first | exact HB.out | apply XR.b2_alloc | apply XR.b2_drewN | apply XR.b2_drew1 | refine XR.b2_set ?_ GE136.out | refine XR.b2_set ?_ GE137.out | refine XR.b2_set ?_ GE138.out) | exact HB.out)) hb)
         clear BK136
         clear BK137
         clear BK138
         clear HB
         have BK136 := n0_
         have BK137 := n1_
         have BK138 := n2_
         have HB := n3_
         clear n0_ n1_ n2_ n3_
         (try clear hb)
         (try clear hb2)
         (try clear hk)
         (try clear hi)
         refine hK.out _ _ ⟨(blk_cell BK138.out 0).trans rfl, (blk_cell BK138.out 1).trans rfl, (blk_cell BK138.out 2).trans rfl, (blk_cell BK138.out 3).trans rfl, (blk_cell BK136.out 0).trans rfl, ((HB.out.cell (World.block_lt_of_cell? w _ hw140_0)).trans hw140_0), ((HB.out.cell (World.block_lt_of_cell? w _ hw140_1)).trans hw140_1)⟩ (fun hHeld => ?_)
         clear hK K
         refine norm_ (a' := ?_) ?_ ?_
         rotate_left
         ·show Act.put _ (some 41) _ = _
          simp only [Act.put, List.setIfInBounds_toArray, List.set_cons_zero, List.set_cons_succ, i64_w, i32_w]
          rfl
         refine pure_ (i := 9) (N := some 42) (v := ?_) (a' := ?_) #[true, true, true, true, true, true, true, true, true, true, false, false, false] rfl rfl (any_of HT_.out (by kernel_rfl)) (fun _ _ _ h => h) (Or.inl ⟨by rfl, ?_⟩) ?_ ?_
         rotate_left
         ·intro w'
          go_simp
          with_reducible rfl
         rotate_left
         ·simp only [Act.put, List.setIfInBounds_toArray, List.set_cons_zero, List.set_cons_succ, i64_w, i32_w]
          rfl
         refine pure_ (i := 10) (N := some 43) (v := ?_) (a' := ?_) #[true, true, true, true, true, true, true, true, true, true, true, false, false] rfl rfl (any_of HT_.out (by kernel_rfl)) (fun _ _ _ h => h) (Or.inl ⟨by rfl, ?_⟩) ?_ ?_
         rotate_left
         ·intro w'
          go_simp
          with_reducible rfl
         rotate_left
         ·simp only [Act.put, List.setIfInBounds_toArray, List.set_cons_zero, List.set_cons_succ, i64_w, i32_w]
          rfl
         refine pure_ (i := 11) (N := some 44) (v := ?_) (a' := ?_) #[true, true, true, true, true, true, true, true, true, true, true, true, false] rfl rfl (any_of HT_.out (by kernel_rfl)) (fun _ _ _ h => h) (Or.inl ⟨by rfl, ?_⟩) ?_ ?_
         rotate_left
         ·intro w'
          go_simp
          with_reducible rfl
         rotate_left
         ·simp only [Act.put, List.setIfInBounds_toArray, List.set_cons_zero, List.set_cons_succ, i64_w, i32_w]
          rfl
         refine last_ (i := 12) (N := none) #[true, true, true, true, true, true, true, true, true, true, true, true, true] rfl rfl (one_of HT_.out (by kernel_rfl)) (by decide) (fun K hK => ?_)
         have hs33 : w32.cell? ⟨gb138, 1, none⟩ = some (.int .i64 65536) := (blk_cell BK138.out 1).trans rfl
         have hfs33 := blk_frozen BK138.out 1
         have hns33_0 := NB136_138.out
         have hns33_1 := NB137_138.out
         have hms33_0 := NB138_136.out
         have hms33_1 := NB138_137.out
         refine skip_ (w1 := ?_) (by rfl) rfl ?_ ?_
         rotate_left
         ·go_simp
          rfl
         refine hK.out _ _ ?_
         clear hK K
         refine done_ (done_of HT_.out (by kernel_rfl)) ?_
         try go_wp2
         go_meet
         case rel => exact ⟨_, (ji24), (decide (((rd_T43 l0 x17_1).f0) ≤ x16_1)), (by first | exact H' | (simp only [hji24]; exact H')), ⟨by have := HK1.out; have := HJ4.out; first | omega | exact Nat.le_refl _⟩, ⟨by (with_reducible repeat (first | refine blk_drewN ?_ _ | refine blk_drew ?_ | refine blk_alloc ?_ _)); refine blk_far ?_ NB136_138.out _; (with_reducible repeat (first | refine blk_drewN ?_ _ | refine blk_drew ?_ | refine blk_alloc ?_ _)); exact BK136.out⟩, ⟨by (with_reducible repeat (first | refine blk_drewN ?_ _ | refine blk_drew ?_ | refine blk_alloc ?_ _)); refine blk_far ?_ NB137_138.out _; (with_reducible repeat (first | refine blk_drewN ?_ _ | refine blk_drew ?_ | refine blk_alloc ?_ _)); exact BK137.out⟩, ⟨by (with_reducible repeat (first | refine blk_drewN ?_ _ | refine blk_drew ?_ | refine blk_alloc ?_ _)); refine blk_put (cs := #[.int .i64 x16_1, .int .i64 65536, .bool (decide (((rd_T43 l0 x17_1).f0) ≤ x16_1)), .bool false]) ?_ 1 _ rfl; (with_reducible repeat (first | refine blk_drewN ?_ _ | refine blk_drew ?_ | refine blk_alloc ?_ _)); exact BK138.out⟩, ⟨by repeat (first | (with_reducible first | exact HB.out | apply XR.b2_alloc | apply XR.b2_drewN | apply XR.b2_drew1 | refine XR.b2_set ?_ GE136.out | refine XR.b2_set ?_ GE137.out | refine XR.b2_set ?_ GE138.out) | exact HB.out)⟩⟩
        ·rw [if_neg c22] at H
         exact absurd H (by simp)
       ·rw [if_neg c21] at H
        have c21b0 : decide (x17_1 < (l0.length : Int)) = false := decide_eq_false c21
        clear c21
        (first | rw [c21b0] | (simp only [i64_w, i32_w]; rw [c21b0]) | skip)
        have H' := Aside0.mk H
        clear H
        go_wp2
        go_meet
        case rel => exact ⟨_, (65536), (false), H', ⟨by have := HK1.out; have := HJ4.out; first | omega | exact Nat.le_refl _⟩, ⟨by (with_reducible repeat (first | refine blk_drewN ?_ _ | refine blk_drew ?_ | refine blk_alloc ?_ _)); exact BK136.out⟩, ⟨by (with_reducible repeat (first | refine blk_drewN ?_ _ | refine blk_drew ?_ | refine blk_alloc ?_ _)); exact BK137.out⟩, ⟨by (with_reducible repeat (first | refine blk_drewN ?_ _ | refine blk_drew ?_ | refine blk_alloc ?_ _)); exact BK138.out⟩, ⟨by repeat (first | (with_reducible first | exact HB.out | apply XR.b2_alloc | apply XR.b2_drewN | apply XR.b2_drew1 | refine XR.b2_set ?_ GE136.out | refine XR.b2_set ?_ GE137.out | refine XR.b2_set ?_ GE138.out) | exact HB.out)⟩⟩
      case rest =>
       clear HC13
       try clear c1
       try clear p1
       try clear q1
       try clear hx1
       try clear c2
       try clear p2
       try clear c6
       try clear c6b0
       try clear c7
       try clear c8
       try clear c9
       try clear c12
       try clear p13
       try clear q13
       try clear hx13
       try clear p14
       try clear q14
       try clear hx14
       try clear c15
       try clear c16
       try clear c19
       try clear c21
       try clear c21b0
       try clear c22
       try clear c22b0
       try clear c25
       try clear c26
       try clear c28
       try clear hcz10_0
       try clear hcz11_0
       try clear hcz17_0
       try clear hcz17_1
       try clear hcz17_2
       try clear hcz17_3
       try clear hcz20_0
       try clear hcz27_0
       try clear hcz29_0
       try clear hcz29_1
       try clear hcz29_2
       try clear hcz29_3
       try clear hcz8_0
       try clear hfz10_0
       try clear hfz11_0
       try clear hfz17_0
       try clear hfz17_1
       try clear hfz17_2
       try clear hfz17_3
       try clear hfz20_0
       try clear hfz27_0
       try clear hfz29_0
       try clear hfz29_1
       try clear hfz29_2
       try clear hfz29_3
       try clear hfz8_0
       try clear hx139_0
       try clear hx139_1
       try clear hx140_0
       try clear hx140_1
       try clear p139
       try clear p140
       try clear p2
       try clear q139
       try clear q140
       obtain ⟨kq, x139001_12, x139002_12, HA, HJ12, BK136, BK137, BK138, HB⟩ := hcut
       cases kq with
       | zero => exact absurd HA.out (by simp [span_parts_1.j2])
       | succ kj12 =>
        have H := HA.out
        clear HA
        simp only [span_parts_1.j2] at H
        have HC34 := Aside0.mk H
        clear H
        have hnb35 := NB137_136.out
        have hnc35 := NB136_137.out
        have hnb36 := NB137_138.out
        have hnc36 := NB138_137.out
        have hcz37_0 : wc.cell? ⟨gb137, 0, none⟩ = some (.slice A1 l1.length c1) := (blk_cell BK137.out 0).trans rfl
        have hfz37_0 := blk_frozen BK137.out 0
        go_upto_if 48 with (go_in)
        go_cut [] (fun wc => ∃ (kq : Nat) (x139001_33 : Int) (x139003_33 : Bool), Aside0 (span_parts_1.j3 kq x17_1 x18_1 l0 l1 x16_1 x139001_33 x139002_12 x139003_33 = some r) ∧ Aside0 (kq ≤ kj12) ∧ Aside0 (wc.heap[gb136]? = some (.cells #[(.slice A0 l0.length c0)] 24 (0, 0))) ∧ Aside0 (wc.heap[gb137]? = some (.cells #[(.slice A1 l1.length c1)] 24 (0, 0))) ∧ Aside0 (wc.heap[gb138]? = some (.cells #[.int .i64 x16_1, .int .i64 x139001_33, .bool x139002_12, .bool x139003_33] 55 (0, 0))) ∧ Aside0 (XR.B2 w wr wc))
        case first =>
         have H := HC34.out
         clear HC34
         by_cases c38 : x18_1 < (l1.length : Int)
         ·rw [if_pos c38] at H
          have c38b0 : decide (x18_1 < (l1.length : Int)) = true := decide_eq_true c38
          clear c38
          (first | rw [c38b0] | (simp only [i64_w, i32_w]; rw [c38b0]) | skip)
          by_cases c39 : 0 ≤ x18_1
          ·rw [if_pos c39] at H
           have c39b0 : decide (0 ≤ x18_1) = true := decide_eq_true c39
           clear c39
           replace H := Option.bind_eq_some_iff.mp H
           obtain ⟨t144, A400, H⟩ := H
           replace H : (span_parts_1.j3 kj12 x17_1 x18_1 l0 l1 x16_1 (mn x139001_12 t144) x139002_12 (decide (((rd_T43 l1 x18_1).f0) ≤ x16_1))) = some r := H
           have A40 := Aside0.mk A400
           clear A400
           obtain ⟨ji41, hji41⟩ : ∃ j_ : Int, (mn x139001_12 t144) = j_ := ⟨_, rfl⟩
           replace H : (span_parts_1.j3 kj12 x17_1 x18_1 l0 l1 x16_1 ji41 x139002_12 (decide (((rd_T43 l1 x18_1).f0) ≤ x16_1))) = some r := by first | (rw [hji41] at H; exact H) | (simp only [hji41] at H ⊢; exact H)
           (try rw [hji41] at A40)
           have hji41_ : (if t144 < x139001_12 then t144 else x139001_12) = ji41 := hji41
           have H' := Aside0.mk H
           clear H
           have hnb42 := NB137_136.out
           have hnc42 := NB136_137.out
           have hnb43 := NB137_138.out
           have hnc43 := NB138_137.out
           have hcz44_0 : wc.cell? ⟨gb137, 0, none⟩ = some (.slice A1 l1.length c1) := (blk_cell BK137.out 0).trans rfl
           have hfz44_0 := blk_frozen BK137.out 0
           have p142 : 0 ≤ (x18_1 : Int) := of_decide_eq_true (by assumption)
           have q142 : x18_1 < (l1.length : Int) := of_decide_eq_true (by assumption)
           obtain ⟨ad142, e142, hx142_0, hx142_1⟩ := at_T43 HR1.out x18_1 p142 q142
           cases e142
           replace hx142_0 := (HB.out.cell (World.block_lt_of_cell? w _ hx142_0)).trans hx142_0
           replace hx142_1 := (HB.out.cell (World.block_lt_of_cell? w _ hx142_1)).trans hx142_1
           replace p142 := eq_true p142
           replace q142 := eq_true q142
           have hnb45 := NB138_136.out
           have hnc45 := NB136_138.out
           have hcz46_0 : wc.cell? ⟨gb138, 0, none⟩ = some (.int .i64 x16_1) := (blk_cell BK138.out 0).trans rfl
           have hcz46_1 : wc.cell? ⟨gb138, 1, none⟩ = some (.int .i64 x139001_12) := (blk_cell BK138.out 1).trans rfl
           have hcz46_2 : wc.cell? ⟨gb138, 2, none⟩ = some (.bool x139002_12) := (blk_cell BK138.out 2).trans rfl
           have hcz46_3 : wc.cell? ⟨gb138, 3, none⟩ = some (.bool false) := (blk_cell BK138.out 3).trans rfl
           have hfz46_0 := blk_frozen BK138.out 0
           have hfz46_1 := blk_frozen BK138.out 1
           have hfz46_2 := blk_frozen BK138.out 2
           have hfz46_3 := blk_frozen BK138.out 3
           try go_wp2
           have n0_ : Aside0 ((wc.setCell ⟨gb138, 3, none⟩ (.bool (decide (((rd_T43 l1 x18_1).f0) ≤ x16_1)))).heap[gb136]? = some (.cells #[.slice A0 l0.length c0] 24 (0, 0))) := ⟨by (with_reducible repeat (first | refine blk_drewN ?_ _ | refine blk_drew ?_ | refine blk_alloc ?_ _)); refine blk_far ?_ NB136_138.out _; (with_reducible repeat (first | refine blk_drewN ?_ _ | refine blk_drew ?_ | refine blk_alloc ?_ _)); exact BK136.out⟩
           have n1_ : Aside0 ((wc.setCell ⟨gb138, 3, none⟩ (.bool (decide (((rd_T43 l1 x18_1).f0) ≤ x16_1)))).heap[gb137]? = some (.cells #[.slice (some ad142) l1.length c1] 24 (0, 0))) := ⟨by (with_reducible repeat (first | refine blk_drewN ?_ _ | refine blk_drew ?_ | refine blk_alloc ?_ _)); refine blk_far ?_ NB137_138.out _; (with_reducible repeat (first | refine blk_drewN ?_ _ | refine blk_drew ?_ | refine blk_alloc ?_ _)); exact BK137.out⟩
           have n2_ : Aside0 ((wc.setCell ⟨gb138, 3, none⟩ (.bool (decide (((rd_T43 l1 x18_1).f0) ≤ x16_1)))).heap[gb138]? = some (.cells #[.int .i64 x16_1, .int .i64 x139001_12, .bool x139002_12, .bool (decide (((rd_T43 l1 x18_1).f0) ≤ x16_1))] 55 (0, 0))) := ⟨by (with_reducible repeat (first | refine blk_drewN ?_ _ | refine blk_drew ?_ | refine blk_alloc ?_ _)); refine blk_put (cs := #[.int .i64 x16_1, .int .i64 x139001_12, .bool x139002_12, .bool false]) ?_ 3 _ rfl; (with_reducible repeat (first | refine blk_drewN ?_ _ | refine blk_drew ?_ | refine blk_alloc ?_ _)); exact BK138.out⟩
           have n3_ : Aside0 (XR.B2 w wr (wc.setCell ⟨gb138, 3, none⟩ (.bool (decide (((rd_T43 l1 x18_1).f0) ≤ x16_1))))) := ⟨by repeat (first | (with_reducible first | exact HB.out | apply XR.b2_alloc | apply XR.b2_drewN | apply XR.b2_drew1 | refine XR.b2_set ?_ GE136.out | refine XR.b2_set ?_ GE137.out | refine XR.b2_set ?_ GE138.out) | exact HB.out)⟩
           (try clear BK136)
           (try clear BK137)
           (try clear BK138)
           (try clear HB)
           generalize (wc.setCell ⟨gb138, 3, none⟩ (.bool (decide (((rd_T43 l1 x18_1).f0) ≤ x16_1)))) = w47 at n0_ n1_ n2_ n3_ ⊢
           have BK136 := n0_
           have BK137 := n1_
           have BK138 := n2_
           have HB := n3_
           clear n0_ n1_ n2_ n3_
           have n0_ := Aside0.mk (blk_drew BK136.out)
           have n1_ := Aside0.mk (blk_drew BK137.out)
           have n2_ := Aside0.mk (blk_drew BK138.out)
           have n3_ := Aside0.mk (XR.b2_drew1 HB.out)
           clear BK136
           clear BK137
           clear BK138
           clear HB
           have BK136 := n0_
           have BK137 := n1_
           have BK138 := n2_
           have HB := n3_
           clear n0_ n1_ n2_ n3_
           have p143 : 0 ≤ (x18_1 : Int) := of_decide_eq_true (by assumption)
           have q143 : x18_1 < (l1.length : Int) := of_decide_eq_true (by assumption)
           obtain ⟨ad143, e143, hx143_0, hx143_1⟩ := at_T43 HR1.out x18_1 p143 q143
           have hw143_1 := hx143_1
           have hw143_0 := hx143_0
           obtain rfl : ad142 = ad143 := (by injection e143)
           replace hx143_0 := (HB.out.cell (World.block_lt_of_cell? w _ hx143_0)).trans hx143_0
           replace hx143_1 := (HB.out.cell (World.block_lt_of_cell? w _ hx143_1)).trans hx143_1
           replace p143 := eq_true p143
           replace q143 := eq_true q143
           refine start_ (n := 13) (S := fun w' => w'.cell? ⟨gb138, 0, none⟩ = some (.int .i64 x16_1) ∧ w'.cell? ⟨gb138, 1, none⟩ = some (.int .i64 x139001_12) ∧ w'.cell? ⟨gb138, 2, none⟩ = some (.bool x139002_12) ∧ w'.cell? ⟨gb138, 3, none⟩ = some (.bool (decide (((rd_T43 l1 x18_1).f0) ≤ x16_1))) ∧ w'.cell? ⟨gb137, 0, none⟩ = some (.slice (some ad142) l1.length c1) ∧ w'.cell? (ad142.add ((x18_1).toNat * 2)) = some (.int .i64 ((rd_T43 l1 x18_1).f0)) ∧ w'.cell? ⟨(ad142.add ((x18_1).toNat * 2)).block, (ad142.add ((x18_1).toNat * 2)).off + 1, none⟩ = some (.int .i64 ((rd_T43 l1 x18_1).f1))) (ds := [12]) #[false, false, false, false, false, false, false, false, false, false, false, false, false] (by kernel_rfl) rfl rfl ⟨(blk_cell BK138.out 0).trans rfl, (blk_cell BK138.out 1).trans rfl, (blk_cell BK138.out 2).trans rfl, (blk_cell BK138.out 3).trans rfl, (blk_cell BK137.out 0).trans rfl, ((HB.out.cell (World.block_lt_of_cell? w _ hw143_0)).trans hw143_0), ((HB.out.cell (World.block_lt_of_cell? w _ hw143_1)).trans hw143_1)⟩ (fun hHeld => ?_); refine with_tabW span_parts_1.tab8 span_parts_1.bits8 (fun HT_ HW_ => ?_)
           generalize w47.drew = w48 at BK136 BK137 BK138 HB hx143_0 hx143_1 hHeld ⊢
           refine pure_ (i := 0) (N := some 57) (v := ?_) (a' := ?_) #[true, false, false, false, false, false, false, false, false, false, false, false, false] rfl rfl (any_of HT_.out (by kernel_rfl)) (fun _ _ _ h => h) (Or.inl ⟨by rfl, ?_⟩) ?_ ?_
           rotate_left
           ·intro w'
            go_simp
            with_reducible rfl
           rotate_left
           ·simp only [Act.put, List.setIfInBounds_toArray, List.set_cons_zero, List.set_cons_succ, i64_w, i32_w]
            rfl
           refine pure_ (i := 1) (N := some 58) (v := ?_) (a' := ?_) #[true, true, false, false, false, false, false, false, false, false, false, false, false] rfl rfl (any_of HT_.out (by kernel_rfl)) (fun _ _ _ h => h) (Or.inl ⟨by rfl, ?_⟩) ?_ ?_
           rotate_left
           ·intro w'
            go_simp
            with_reducible rfl
           rotate_left
           ·simp only [Act.put, List.setIfInBounds_toArray, List.set_cons_zero, List.set_cons_succ, i64_w, i32_w]
            rfl
           refine pure_ (i := 4) (N := some 61) (v := ?_) (a' := ?_) #[true, true, false, false, true, false, false, false, false, false, false, false, false] rfl rfl (any_of HT_.out (by kernel_rfl)) (fun _ _ _ h => h) (Or.inl ⟨by rfl, ?_⟩) ?_ ?_
           rotate_left
           ·intro w'
            go_simp
            with_reducible rfl
           rotate_left
           ·simp only [Act.put, List.setIfInBounds_toArray, List.set_cons_zero, List.set_cons_succ, i64_w, i32_w]
            rfl
           refine pure_ (i := 7) (N := some 64) (v := ?_) (a' := ?_) #[true, true, false, false, true, false, false, true, false, false, false, false, false] rfl rfl (any_of HT_.out (by kernel_rfl)) (fun _ _ _ h => h) (Or.inl ⟨by rfl, ?_⟩) ?_ ?_
           rotate_left
           ·intro w'
            go_simp
            with_reducible rfl
           rotate_left
           ·simp only [Act.put, List.setIfInBounds_toArray, List.set_cons_zero, List.set_cons_succ, i64_w, i32_w]
            rfl
           refine take_ (i := 2) (N := some 59) (v := ?_) (a' := ?_) #[true, true, true, false, true, false, false, true, false, false, false, false, false] rfl rfl (take_ofW HT_.out HW_.out (by kernel_rfl)) (fun _ _ _ h => h) (Or.inl ⟨by rfl, ?_⟩) hHeld ?_ ?_
           rotate_left
           ·rintro w' ⟨s0, s1, s2, s3, s4, s5, s6⟩
            go_simp
            with_reducible rfl
           rotate_left
           ·simp only [Act.put, List.setIfInBounds_toArray, List.set_cons_zero, List.set_cons_succ, i64_w, i32_w]
            rfl
           refine take_ (i := 3) (N := some 60) (v := ?_) (a' := ?_) #[true, true, true, true, true, false, false, true, false, false, false, false, false] rfl rfl (take_ofW HT_.out HW_.out (by kernel_rfl)) (fun _ _ _ h => h) (Or.inl ⟨by rfl, ?_⟩) hHeld ?_ ?_
           rotate_left
           ·rintro w' ⟨s0, s1, s2, s3, s4, s5, s6⟩
            go_simp
            with_reducible rfl
           rotate_left
           ·simp only [Act.put, List.setIfInBounds_toArray, List.set_cons_zero, List.set_cons_succ, i64_w, i32_w]
            rfl
           refine pure_ (i := 5) (N := some 62) (v := ?_) (a' := ?_) #[true, true, true, true, true, true, false, true, false, false, false, false, false] rfl rfl (any_of HT_.out (by kernel_rfl)) (fun _ _ _ h => h) (Or.inl ⟨by rfl, ?_⟩) ?_ ?_
           rotate_left
           ·intro w'
            go_simp
            with_reducible rfl
           rotate_left
           ·simp only [Act.put, List.setIfInBounds_toArray, List.set_cons_zero, List.set_cons_succ, i64_w, i32_w]
            rfl
           refine take_ (i := 6) (N := some 63) (v := ?_) (a' := ?_) #[true, true, true, true, true, true, true, true, false, false, false, false, false] rfl rfl (take_ofW HT_.out HW_.out (by kernel_rfl)) (fun _ _ _ h => h) (Or.inl ⟨by rfl, ?_⟩) hHeld ?_ ?_
           rotate_left
           ·rintro w' ⟨s0, s1, s2, s3, s4, s5, s6⟩
            go_simp
            with_reducible rfl
           rotate_left
           ·simp only [Act.put, List.setIfInBounds_toArray, List.set_cons_zero, List.set_cons_succ, i64_w, i32_w]
            rfl
           refine one_ (i := 8) (N := some 65) #[true, true, true, true, true, true, true, true, true, false, false, false, false] rfl rfl (one_of HT_.out (by kernel_rfl)) (by decide) (fun K hK => ?_)
           refine goes_ Try.func60 (by kernel_rfl) rfl #[.agg #[.int .i64 ((rd_T43 l1 x18_1).f0), .int .i64 ((rd_T43 l1 x18_1).f1)], .int .i64 x16_1] (by rfl) rfl rfl (by (try simp only [List.map_toArray, List.map_cons, List.map_nil]); first | done | rfl) ?_
           with_reducible refine (span_edge.calls ((rd_T43 l1 x18_1).f0) ((rd_T43 l1 x18_1).f1) x16_1 t144 _ A40.out).mono ?_
           rintro e w49 ⟨rfl, hb⟩
           refine ⟨_, rfl, ?_⟩
           have n0_ := Aside0.mk (blk_below (g := gb136) (o := .cells #[.slice A0 l0.length c0] 24 (0, 0)) (by (with_reducible repeat (first | refine blk_drewN ?_ _ | refine blk_drew ?_ | refine blk_alloc ?_ _)); exact BK136.out) hb)
           have n1_ := Aside0.mk (blk_below (g := gb137) (o := .cells #[.slice (some ad142) l1.length c1] 24 (0, 0)) (by (with_reducible repeat (first | refine blk_drewN ?_ _ | refine blk_drew ?_ | refine blk_alloc ?_ _)); exact BK137.out) hb)
           have n2_ := Aside0.mk (blk_below (g := gb138) (o := .cells #[.int .i64 x16_1, .int .i64 x139001_12, .bool x139002_12, .bool (decide (((rd_T43 l1 x18_1).f0) ≤ x16_1))] 55 (0, 0)) (by (with_reducible repeat (first | refine blk_drewN ?_ _ | refine blk_drew ?_ | refine blk_alloc ?_ _)); exact BK138.out) hb)
           have n3_ := Aside0.mk (XR.b2_step (by repeat (first | (with_reducible first | exact HB.out | apply XR.b2_alloc | apply XR.b2_drewN | apply XR.b2_drew1 | refine XR.b2_set ?_ GE136.out | refine XR.b2_set ?_ GE137.out | refine XR.b2_set ?_ GE138.out) | exact HB.out)) hb)
           clear BK136
           clear BK137
           clear BK138
           clear HB
           have BK136 := n0_
           have BK137 := n1_
           have BK138 := n2_
           have HB := n3_
           clear n0_ n1_ n2_ n3_
           (try clear hb)
           (try clear hb2)
           (try clear hk)
           (try clear hi)
           refine hK.out _ _ ⟨(blk_cell BK138.out 0).trans rfl, (blk_cell BK138.out 1).trans rfl, (blk_cell BK138.out 2).trans rfl, (blk_cell BK138.out 3).trans rfl, (blk_cell BK137.out 0).trans rfl, ((HB.out.cell (World.block_lt_of_cell? w _ hw143_0)).trans hw143_0), ((HB.out.cell (World.block_lt_of_cell? w _ hw143_1)).trans hw143_1)⟩ (fun hHeld => ?_)
           clear hK K
           refine norm_ (a' := ?_) ?_ ?_
           rotate_left
           ·show Act.put _ (some 65) _ = _
            simp only [Act.put, List.setIfInBounds_toArray, List.set_cons_zero, List.set_cons_succ, i64_w, i32_w]
            rfl
           refine pure_ (i := 9) (N := some 66) (v := ?_) (a' := ?_) #[true, true, true, true, true, true, true, true, true, true, false, false, false] rfl rfl (any_of HT_.out (by kernel_rfl)) (fun _ _ _ h => h) (Or.inl ⟨by rfl, ?_⟩) ?_ ?_
           rotate_left
           ·intro w'
            go_simp
            with_reducible rfl
           rotate_left
           ·simp only [Act.put, List.setIfInBounds_toArray, List.set_cons_zero, List.set_cons_succ, i64_w, i32_w]
            rfl
           refine pure_ (i := 10) (N := some 67) (v := ?_) (a' := ?_) #[true, true, true, true, true, true, true, true, true, true, true, false, false] rfl rfl (any_of HT_.out (by kernel_rfl)) (fun _ _ _ h => h) (Or.inl ⟨by rfl, ?_⟩) ?_ ?_
           rotate_left
           ·intro w'
            go_simp
            with_reducible rfl
           rotate_left
           ·simp only [Act.put, List.setIfInBounds_toArray, List.set_cons_zero, List.set_cons_succ, i64_w, i32_w]
            rfl
           refine pure_ (i := 11) (N := some 68) (v := ?_) (a' := ?_) #[true, true, true, true, true, true, true, true, true, true, true, true, false] rfl rfl (any_of HT_.out (by kernel_rfl)) (fun _ _ _ h => h) (Or.inl ⟨by rfl, ?_⟩) ?_ ?_
           rotate_left
           ·intro w'
            go_simp
            with_reducible rfl
           rotate_left
           ·simp only [Act.put, List.setIfInBounds_toArray, List.set_cons_zero, List.set_cons_succ, i64_w, i32_w]
            rfl
           refine last_ (i := 12) (N := none) #[true, true, true, true, true, true, true, true, true, true, true, true, true] rfl rfl (one_of HT_.out (by kernel_rfl)) (by decide) (fun K hK => ?_)
           have hs50 : w49.cell? ⟨gb138, 1, none⟩ = some (.int .i64 x139001_12) := (blk_cell BK138.out 1).trans rfl
           have hfs50 := blk_frozen BK138.out 1
           have hns50_0 := NB136_138.out
           have hns50_1 := NB137_138.out
           have hms50_0 := NB138_136.out
           have hms50_1 := NB138_137.out
           refine skip_ (w1 := ?_) (by rfl) rfl ?_ ?_
           rotate_left
           ·go_simp
            rfl
           refine hK.out _ _ ?_
           clear hK K
           refine done_ (done_of HT_.out (by kernel_rfl)) ?_
           try go_wp2
           go_meet
           case rel => exact ⟨_, (ji41), (decide (((rd_T43 l1 x18_1).f0) ≤ x16_1)), (by first | exact H' | (simp only [hji41]; exact H')), ⟨by have := HK1.out; have := HJ4.out; have := HJ12.out; first | omega | exact Nat.le_refl _⟩, ⟨by (with_reducible repeat (first | refine blk_drewN ?_ _ | refine blk_drew ?_ | refine blk_alloc ?_ _)); refine blk_far ?_ NB136_138.out _; (with_reducible repeat (first | refine blk_drewN ?_ _ | refine blk_drew ?_ | refine blk_alloc ?_ _)); exact BK136.out⟩, ⟨by (with_reducible repeat (first | refine blk_drewN ?_ _ | refine blk_drew ?_ | refine blk_alloc ?_ _)); refine blk_far ?_ NB137_138.out _; (with_reducible repeat (first | refine blk_drewN ?_ _ | refine blk_drew ?_ | refine blk_alloc ?_ _)); exact BK137.out⟩, ⟨by (with_reducible repeat (first | refine blk_drewN ?_ _ | refine blk_drew ?_ | refine blk_alloc ?_ _)); refine blk_put (cs := #[.int .i64 x16_1, .int .i64 x139001_12, .bool x139002_12, .bool (decide (((rd_T43 l1 x18_1).f0) ≤ x16_1))]) ?_ 1 _ rfl; (with_reducible repeat (first | refine blk_drewN ?_ _ | refine blk_drew ?_ | refine blk_alloc ?_ _)); exact BK138.out⟩, ⟨by repeat (first | (with_reducible first | exact HB.out | apply XR.b2_alloc | apply XR.b2_drewN | apply XR.b2_drew1 | refine XR.b2_set ?_ GE136.out | refine XR.b2_set ?_ GE137.out | refine XR.b2_set ?_ GE138.out) | exact HB.out)⟩⟩
          ·rw [if_neg c39] at H
           exact absurd H (by simp)
         ·rw [if_neg c38] at H
          have c38b0 : decide (x18_1 < (l1.length : Int)) = false := decide_eq_false c38
          clear c38
          (first | rw [c38b0] | (simp only [i64_w, i32_w]; rw [c38b0]) | skip)
          have H' := Aside0.mk H
          clear H
          go_wp2
          go_meet
          case rel => exact ⟨_, (x139001_12), (false), H', ⟨by have := HK1.out; have := HJ4.out; have := HJ12.out; first | omega | exact Nat.le_refl _⟩, ⟨by (with_reducible repeat (first | refine blk_drewN ?_ _ | refine blk_drew ?_ | refine blk_alloc ?_ _)); exact BK136.out⟩, ⟨by (with_reducible repeat (first | refine blk_drewN ?_ _ | refine blk_drew ?_ | refine blk_alloc ?_ _)); exact BK137.out⟩, ⟨by (with_reducible repeat (first | refine blk_drewN ?_ _ | refine blk_drew ?_ | refine blk_alloc ?_ _)); exact BK138.out⟩, ⟨by repeat (first | (with_reducible first | exact HB.out | apply XR.b2_alloc | apply XR.b2_drewN | apply XR.b2_drew1 | refine XR.b2_set ?_ GE136.out | refine XR.b2_set ?_ GE137.out | refine XR.b2_set ?_ GE138.out) | exact HB.out)⟩⟩
        case rest =>
         clear HC34
         try clear c1
         try clear p1
         try clear q1
         try clear hx1
         try clear c2
         try clear p2
         try clear c3
         try clear c4
         try clear c6
         try clear c6b0
         try clear c7
         try clear c8
         try clear c9
         try clear c12
         try clear p13
         try clear q13
         try clear hx13
         try clear p14
         try clear q14
         try clear hx14
         try clear c15
         try clear c16
         try clear c19
         try clear c21
         try clear c21b0
         try clear c22
         try clear c22b0
         try clear c25
         try clear c26
         try clear c28
         try clear c35
         try clear c36
         try clear c38
         try clear c38b0
         try clear c39
         try clear c39b0
         try clear c42
         try clear c43
         try clear c45
         try clear hcz10_0
         try clear hcz11_0
         try clear hcz17_0
         try clear hcz17_1
         try clear hcz17_2
         try clear hcz17_3
         try clear hcz20_0
         try clear hcz27_0
         try clear hcz29_0
         try clear hcz29_1
         try clear hcz29_2
         try clear hcz29_3
         try clear hcz37_0
         try clear hcz44_0
         try clear hcz46_0
         try clear hcz46_1
         try clear hcz46_2
         try clear hcz46_3
         try clear hcz8_0
         try clear hfz10_0
         try clear hfz11_0
         try clear hfz17_0
         try clear hfz17_1
         try clear hfz17_2
         try clear hfz17_3
         try clear hfz20_0
         try clear hfz27_0
         try clear hfz29_0
         try clear hfz29_1
         try clear hfz29_2
         try clear hfz29_3
         try clear hfz37_0
         try clear hfz44_0
         try clear hfz46_0
         try clear hfz46_1
         try clear hfz46_2
         try clear hfz46_3
         try clear hfz8_0
         try clear hx139_0
         try clear hx139_1
         try clear hx140_0
         try clear hx140_1
         try clear hx142_0
         try clear hx142_1
         try clear hx143_0
         try clear hx143_1
         try clear p1
         try clear p13
         try clear p139
         try clear p14
         try clear p140
         try clear p142
         try clear p143
         try clear p2
         try clear q1
         try clear q13
         try clear q139
         try clear q14
         try clear q140
         try clear q142
         try clear q143
         obtain ⟨kq, x139001_33, x139003_33, HA, HJ33, BK136, BK137, BK138, HB⟩ := hcut
         cases kq with
         | zero => exact absurd HA.out (by simp [span_parts_1.j3])
         | succ kj33 =>
          have H := HA.out
          clear HA
          simp only [span_parts_1.j3] at H
          replace H := Option.bind_eq_some_iff.mp H
          obtain ⟨r2_, H, hr2_⟩ := H
          replace hr2_ : (⟨(⟨x16_1, x139001_33⟩ : S43), x139002_12, x139003_33⟩ : S55) :: r2_ = r := Option.some.inj hr2_
          have HR2_ := Aside0.mk hr2_
          clear hr2_
          replace H : (if x17_1 < (l0.length : Int) then (if 0 ≤ x17_1 then (span_parts_1.j4 kj33 x139001_33 x17_1 x18_1 (decide (((rd_T43 l0 x17_1).f1) ≤ x139001_33)) l0 l1) else (none)) else (span_parts_1.j4 kj33 x139001_33 x17_1 x18_1 false l0 l1)) = some r2_ := H
          have HC52 := Aside0.mk H
          clear H
          have hnb53 := NB138_136.out
          have hnc53 := NB136_138.out
          have hnb54 := NB138_137.out
          have hnc54 := NB137_138.out
          have hcz55_0 : wc.cell? ⟨gb138, 0, none⟩ = some (.int .i64 x16_1) := (blk_cell BK138.out 0).trans rfl
          have hcz55_1 : wc.cell? ⟨gb138, 1, none⟩ = some (.int .i64 x139001_33) := (blk_cell BK138.out 1).trans rfl
          have hcz55_2 : wc.cell? ⟨gb138, 2, none⟩ = some (.bool x139002_12) := (blk_cell BK138.out 2).trans rfl
          have hcz55_3 : wc.cell? ⟨gb138, 3, none⟩ = some (.bool x139003_33) := (blk_cell BK138.out 3).trans rfl
          have hfz55_0 := blk_frozen BK138.out 0
          have hfz55_1 := blk_frozen BK138.out 1
          have hfz55_2 := blk_frozen BK138.out 2
          have hfz55_3 := blk_frozen BK138.out 3
          go_upto_region 9 with (go_in)
          refine (wpIn_wide (n := n_)).1 ?_
          obtain ⟨fn_, tm_, as_, bd_, hy_, hR_⟩ := hY_ pre_ (⟨(⟨x16_1, x139001_33⟩ : S43), x139002_12, x139003_33⟩ : S55) r2_ _ _ (by rw [HX_.out, ← HR2_.out]) HJ_.out HB.out.2
          (try dsimp only at hy_)
          gi_wp2
          refine ⟨fun hd_ => (by cases hd_), hR_.mono ?_⟩
          rintro e_ w56 (⟨rfl, hJ3_, hsz_, hkp_⟩ | ⟨rfl, hx3_⟩)
          rotate_left
          ·gi_wp2
           try go_wp2
           refine bodyPost_ret (results_none rfl _ _ _) rfl ?_
           exact ⟨⟨_, rfl⟩, .inr ⟨pre_ ++ [(⟨(⟨x16_1, x139001_33⟩ : S43), x139002_12, x139003_33⟩ : S55)], ⟨r2_, by rw [HX_.out, ← HR2_.out]; simp⟩, hx3_⟩⟩
          have n0_ := Aside0.mk ((hkp_ _ (blk_lt BK136.out) (.inl (.inl rfl))).trans BK136.out)
          have n1_ := Aside0.mk ((hkp_ _ (blk_lt BK137.out) (.inl (.inr rfl))).trans BK137.out)
          have n2_ := Aside0.mk ((hkp_ _ (blk_lt BK138.out) (.inr GE138.out.2)).trans BK138.out)
          have n3_ := Aside0.mk (XR.bj (hJB_ _ _ hJ3_) hJ3_)
          clear BK136
          clear BK137
          clear BK138
          clear HB
          have BK136 := n0_
          have BK137 := n1_
          have BK138 := n2_
          have HB := n3_
          clear n0_ n1_ n2_ n3_
          have hcz57_0 : w56.cell? ⟨gb138, 0, none⟩ = some (.int .i64 x16_1) := (blk_cell BK138.out 0).trans rfl
          have hcz57_1 : w56.cell? ⟨gb138, 1, none⟩ = some (.int .i64 x139001_33) := (blk_cell BK138.out 1).trans rfl
          have hcz57_2 : w56.cell? ⟨gb138, 2, none⟩ = some (.bool x139002_12) := (blk_cell BK138.out 2).trans rfl
          have hcz57_3 : w56.cell? ⟨gb138, 3, none⟩ = some (.bool x139003_33) := (blk_cell BK138.out 3).trans rfl
          have hfz57_0 := blk_frozen BK138.out 0
          have hfz57_1 := blk_frozen BK138.out 1
          have hfz57_2 := blk_frozen BK138.out 2
          have hfz57_3 := blk_frozen BK138.out 3
          gi_wp2
          go_upto_region 11 with (go_in)
          (try simp only [Act.put, List.setIfInBounds_toArray, List.set_cons_zero, List.set_cons_succ])
          go_cut [88] (fun v100 wc => ∃ (kq : Nat) (x100_51 : Bool), v100 = .bool x100_51 ∧ Aside0 (span_parts_1.j4 kq x139001_33 x17_1 x18_1 x100_51 l0 l1 = some r2_) ∧ Aside0 (kq ≤ kj33) ∧ Aside0 (wc.heap[gb136]? = some (.cells #[(.slice A0 l0.length c0)] 24 (0, 0))) ∧ Aside0 (wc.heap[gb137]? = some (.cells #[(.slice A1 l1.length c1)] 24 (0, 0))) ∧ Aside0 (wc.heap[gb138]? = some (.cells #[.int .i64 x16_1, .int .i64 x139001_33, .bool x139002_12, .bool x139003_33] 55 (0, 0))) ∧ Aside0 (XR.BJ w (J_ (pre_ ++ [(⟨(⟨x16_1, x139001_33⟩ : S43), x139002_12, x139003_33⟩ : S55)])) wc))
          case first =>
           have H := HC52.out
           clear HC52
           by_cases c58 : x17_1 < (l0.length : Int)
           ·rw [if_pos c58] at H
            have c58b0 : decide (x17_1 < (l0.length : Int)) = true := decide_eq_true c58
            clear c58
            (first | rw [c58b0] | (simp only [i64_w, i32_w]; rw [c58b0]) | skip)
            by_cases c59 : 0 ≤ x17_1
            ·rw [if_pos c59] at H
             have c59b0 : decide (0 ≤ x17_1) = true := decide_eq_true c59
             clear c59
             have H' := Aside0.mk H
             clear H
             have hnb60 := NB136_137.out
             have hnc60 := NB137_136.out
             have hnb61 := NB136_138.out
             have hnc61 := NB138_136.out
             have hcz62_0 : w56.cell? ⟨gb136, 0, none⟩ = some (.slice A0 l0.length c0) := (blk_cell BK136.out 0).trans rfl
             have hfz62_0 := blk_frozen BK136.out 0
             have p145 : 0 ≤ (x17_1 : Int) := of_decide_eq_true (by assumption)
             have q145 : x17_1 < (l0.length : Int) := of_decide_eq_true (by assumption)
             obtain ⟨ad145, e145, hx145_0, hx145_1⟩ := at_T43 HR0.out x17_1 p145 q145
             cases e145
             replace hx145_0 := (HB.out.cell (World.block_lt_of_cell? w _ hx145_0)).trans hx145_0
             replace hx145_1 := (HB.out.cell (World.block_lt_of_cell? w _ hx145_1)).trans hx145_1
             replace p145 := eq_true p145
             replace q145 := eq_true q145
             go_wp2
             go_meet
             case rel => exact ⟨_, (decide (((rd_T43 l0 x17_1).f1) ≤ x139001_33)), (by first | rfl | (simp; done) | (simp [*]; done)), H', ⟨by have := HK1.out; have := HJ4.out; have := HJ12.out; have := HJ33.out; first | omega | exact Nat.le_refl _⟩, ⟨by (with_reducible repeat (first | refine blk_drewN ?_ _ | refine blk_drew ?_ | refine blk_alloc ?_ _)); exact BK136.out⟩, ⟨by (with_reducible repeat (first | refine blk_drewN ?_ _ | refine blk_drew ?_ | refine blk_alloc ?_ _)); exact BK137.out⟩, ⟨by (with_reducible repeat (first | refine blk_drewN ?_ _ | refine blk_drew ?_ | refine blk_alloc ?_ _)); exact BK138.out⟩, ⟨by repeat (first | (with_reducible first | exact HB.out | apply below_alloc | apply pw_below_drewN | apply below_drew1 | refine below_set ?_ GE136.out | refine below_set ?_ GE137.out | refine below_set ?_ GE138.out) | exact HB.out)⟩⟩
            ·rw [if_neg c59] at H
             exact absurd H (by simp)
           ·rw [if_neg c58] at H
            have c58b0 : decide (x17_1 < (l0.length : Int)) = false := decide_eq_false c58
            clear c58
            (first | rw [c58b0] | (simp only [i64_w, i32_w]; rw [c58b0]) | skip)
            have H' := Aside0.mk H
            clear H
            have hnb63 := NB136_137.out
            have hnc63 := NB137_136.out
            have hnb64 := NB136_138.out
            have hnc64 := NB138_136.out
            have hcz65_0 : w56.cell? ⟨gb136, 0, none⟩ = some (.slice A0 l0.length c0) := (blk_cell BK136.out 0).trans rfl
            have hfz65_0 := blk_frozen BK136.out 0
            go_wp2
            go_meet
            case rel => exact ⟨_, (false), (by first | rfl | (simp; done) | (simp [*]; done)), H', ⟨by have := HK1.out; have := HJ4.out; have := HJ12.out; have := HJ33.out; first | omega | exact Nat.le_refl _⟩, ⟨by (with_reducible repeat (first | refine blk_drewN ?_ _ | refine blk_drew ?_ | refine blk_alloc ?_ _)); exact BK136.out⟩, ⟨by (with_reducible repeat (first | refine blk_drewN ?_ _ | refine blk_drew ?_ | refine blk_alloc ?_ _)); exact BK137.out⟩, ⟨by (with_reducible repeat (first | refine blk_drewN ?_ _ | refine blk_drew ?_ | refine blk_alloc ?_ _)); exact BK138.out⟩, ⟨by repeat (first | (with_reducible first | exact HB.out | apply below_alloc | apply pw_below_drewN | apply below_drew1 | refine below_set ?_ GE136.out | refine below_set ?_ GE137.out | refine below_set ?_ GE138.out) | exact HB.out)⟩⟩
          case rest =>
           clear HC52
           try clear c1
           try clear p1
           try clear q1
           try clear hx1
           try clear c2
           try clear p2
           try clear c3
           try clear c4
           try clear c5
           try clear c6
           try clear c6b0
           try clear c7
           try clear c8
           try clear c9
           try clear c12
           try clear p13
           try clear q13
           try clear hx13
           try clear p14
           try clear q14
           try clear hx14
           try clear c15
           try clear c16
           try clear c19
           try clear c21
           try clear c21b0
           try clear c22
           try clear c22b0
           try clear c25
           try clear c26
           try clear c28
           try clear c35
           try clear c36
           try clear c38
           try clear c38b0
           try clear c39
           try clear c39b0
           try clear c42
           try clear c43
           try clear c45
           try clear c53
           try clear c54
           try clear c58
           try clear c58b0
           try clear c59
           try clear c59b0
           try clear c60
           try clear c61
           try clear c63
           try clear c64
           try clear hcz10_0
           try clear hcz11_0
           try clear hcz17_0
           try clear hcz17_1
           try clear hcz17_2
           try clear hcz17_3
           try clear hcz20_0
           try clear hcz27_0
           try clear hcz29_0
           try clear hcz29_1
           try clear hcz29_2
           try clear hcz29_3
           try clear hcz37_0
           try clear hcz44_0
           try clear hcz46_0
           try clear hcz46_1
           try clear hcz46_2
           try clear hcz46_3
           try clear hcz55_0
           try clear hcz55_1
           try clear hcz55_2
           try clear hcz55_3
           try clear hcz57_0
           try clear hcz57_1
           try clear hcz57_2
           try clear hcz57_3
           try clear hcz62_0
           try clear hcz65_0
           try clear hcz8_0
           try clear hfz10_0
           try clear hfz11_0
           try clear hfz17_0
           try clear hfz17_1
           try clear hfz17_2
           try clear hfz17_3
           try clear hfz20_0
           try clear hfz27_0
           try clear hfz29_0
           try clear hfz29_1
           try clear hfz29_2
           try clear hfz29_3
           try clear hfz37_0
           try clear hfz44_0
           try clear hfz46_0
           try clear hfz46_1
           try clear hfz46_2
           try clear hfz46_3
           try clear hfz55_0
           try clear hfz55_1
           try clear hfz55_2
           try clear hfz55_3
           try clear hfz57_0
           try clear hfz57_1
           try clear hfz57_2
           try clear hfz57_3
           try clear hfz62_0
           try clear hfz65_0
           try clear hfz8_0
           try clear hx139_0
           try clear hx139_1
           try clear hx140_0
           try clear hx140_1
           try clear hx142_0
           try clear hx142_1
           try clear hx143_0
           try clear hx143_1
           try clear hx145_0
           try clear hx145_1
           try clear p1
           try clear p13
           try clear p139
           try clear p14
           try clear p140
           try clear p142
           try clear p143
           try clear p145
           try clear p2
           try clear q1
           try clear q13
           try clear q139
           try clear q14
           try clear q140
           try clear q142
           try clear q143
           try clear q145
           obtain ⟨kq, x100_51, rfl, HA, HJ51, BK136, BK137, BK138, HB⟩ := hcut
           cases kq with
           | zero => exact absurd HA.out (by simp [span_parts_1.j4])
           | succ kj51 =>
            have H := HA.out
            clear HA
            simp only [span_parts_1.j4] at H
            have HC66 := Aside0.mk H
            clear H
            go_upto_if 88 with (go_in)
            go_cut [5] (fun v17 wc => ∃ (kq : Nat) (x17_65 : Int), v17 = .int .i64 x17_65 ∧ Aside0 (span_parts_1.j5 kq x139001_33 x17_65 x18_1 l0 l1 = some r2_) ∧ Aside0 (kq ≤ kj51) ∧ Aside0 (wc.heap[gb136]? = some (.cells #[(.slice A0 l0.length c0)] 24 (0, 0))) ∧ Aside0 (wc.heap[gb137]? = some (.cells #[(.slice A1 l1.length c1)] 24 (0, 0))) ∧ Aside0 (wc.heap[gb138]? = some (.cells #[.int .i64 x16_1, .int .i64 x139001_33, .bool x139002_12, .bool x139003_33] 55 (0, 0))) ∧ Aside0 (XR.BJ w (J_ (pre_ ++ [(⟨(⟨x16_1, x139001_33⟩ : S43), x139002_12, x139003_33⟩ : S55)])) wc))
            case first =>
             have H := HC66.out
             clear HC66
             by_cases c67 : x100_51 = true
             ·subst c67
              have H1 : (span_parts_1.j5 kj51 x139001_33 (wrap64 (x17_1 + 1)) x18_1 l0 l1) = some r2_ := by rw [if_pos rfl] at H; exact H
              clear H
              have H := H1
              clear H1
              have H' := Aside0.mk H
              clear H
              go_wp2
              go_meet
              case rel => exact ⟨_, (wrap64 (x17_1 + 1)), (by first | rfl | (simp; done) | (simp [*]; done)), H', ⟨by have := HK1.out; have := HJ4.out; have := HJ12.out; have := HJ33.out; have := HJ51.out; first | omega | exact Nat.le_refl _⟩, ⟨by (with_reducible repeat (first | refine blk_drewN ?_ _ | refine blk_drew ?_ | refine blk_alloc ?_ _)); exact BK136.out⟩, ⟨by (with_reducible repeat (first | refine blk_drewN ?_ _ | refine blk_drew ?_ | refine blk_alloc ?_ _)); exact BK137.out⟩, ⟨by (with_reducible repeat (first | refine blk_drewN ?_ _ | refine blk_drew ?_ | refine blk_alloc ?_ _)); exact BK138.out⟩, ⟨by repeat (first | (with_reducible first | exact HB.out | apply below_alloc | apply pw_below_drewN | apply below_drew1 | refine below_set ?_ GE136.out | refine below_set ?_ GE137.out | refine below_set ?_ GE138.out) | exact HB.out)⟩⟩
             ·replace c67 := Bool.eq_false_iff.mpr c67
              subst c67
              have H1 : (span_parts_1.j5 kj51 x139001_33 x17_1 x18_1 l0 l1) = some r2_ := by rw [if_neg (show ¬ (false = true) by decide)] at H; exact H
              clear H
              have H := H1
              clear H1
              have H' := Aside0.mk H
              clear H
              go_wp2
              go_meet
              case rel => exact ⟨_, (x17_1), (by first | rfl | (simp; done) | (simp [*]; done)), H', ⟨by have := HK1.out; have := HJ4.out; have := HJ12.out; have := HJ33.out; have := HJ51.out; first | omega | exact Nat.le_refl _⟩, ⟨by (with_reducible repeat (first | refine blk_drewN ?_ _ | refine blk_drew ?_ | refine blk_alloc ?_ _)); exact BK136.out⟩, ⟨by (with_reducible repeat (first | refine blk_drewN ?_ _ | refine blk_drew ?_ | refine blk_alloc ?_ _)); exact BK137.out⟩, ⟨by (with_reducible repeat (first | refine blk_drewN ?_ _ | refine blk_drew ?_ | refine blk_alloc ?_ _)); exact BK138.out⟩, ⟨by repeat (first | (with_reducible first | exact HB.out | apply below_alloc | apply pw_below_drewN | apply below_drew1 | refine below_set ?_ GE136.out | refine below_set ?_ GE137.out | refine below_set ?_ GE138.out) | exact HB.out)⟩⟩
            case rest =>
             clear HC66
             try clear c1
             try clear p1
             try clear q1
             try clear hx1
             try clear c2
             try clear p2
             try clear c3
             try clear c4
             try clear c5
             try clear c6
             try clear c6b0
             try clear p6
             try clear c7
             try clear c8
             try clear c9
             try clear c12
             try clear p13
             try clear q13
             try clear hx13
             try clear p14
             try clear q14
             try clear hx14
             try clear c15
             try clear c16
             try clear c19
             try clear c21
             try clear c21b0
             try clear c22
             try clear c22b0
             try clear c25
             try clear c26
             try clear c28
             try clear c35
             try clear c36
             try clear c38
             try clear c38b0
             try clear c39
             try clear c39b0
             try clear c42
             try clear c43
             try clear c45
             try clear c53
             try clear c54
             try clear c58
             try clear c58b0
             try clear c59
             try clear c59b0
             try clear c60
             try clear c61
             try clear c63
             try clear c64
             try clear p64
             try clear c67
             try clear hcz10_0
             try clear hcz11_0
             try clear hcz17_0
             try clear hcz17_1
             try clear hcz17_2
             try clear hcz17_3
             try clear hcz20_0
             try clear hcz27_0
             try clear hcz29_0
             try clear hcz29_1
             try clear hcz29_2
             try clear hcz29_3
             try clear hcz37_0
             try clear hcz44_0
             try clear hcz46_0
             try clear hcz46_1
             try clear hcz46_2
             try clear hcz46_3
             try clear hcz55_0
             try clear hcz55_1
             try clear hcz55_2
             try clear hcz55_3
             try clear hcz57_0
             try clear hcz57_1
             try clear hcz57_2
             try clear hcz57_3
             try clear hcz62_0
             try clear hcz65_0
             try clear hcz8_0
             try clear hfz10_0
             try clear hfz11_0
             try clear hfz17_0
             try clear hfz17_1
             try clear hfz17_2
             try clear hfz17_3
             try clear hfz20_0
             try clear hfz27_0
             try clear hfz29_0
             try clear hfz29_1
             try clear hfz29_2
             try clear hfz29_3
             try clear hfz37_0
             try clear hfz44_0
             try clear hfz46_0
             try clear hfz46_1
             try clear hfz46_2
             try clear hfz46_3
             try clear hfz55_0
             try clear hfz55_1
             try clear hfz55_2
             try clear hfz55_3
             try clear hfz57_0
             try clear hfz57_1
             try clear hfz57_2
             try clear hfz57_3
             try clear hfz62_0
             try clear hfz65_0
             try clear hfz8_0
             try clear hx139_0
             try clear hx139_1
             try clear hx140_0
             try clear hx140_1
             try clear hx142_0
             try clear hx142_1
             try clear hx143_0
             try clear hx143_1
             try clear hx145_0
             try clear hx145_1
             try clear p1
             try clear p13
             try clear p139
             try clear p14
             try clear p140
             try clear p142
             try clear p143
             try clear p145
             try clear p2
             try clear q1
             try clear q13
             try clear q139
             try clear q14
             try clear q140
             try clear q142
             try clear q143
             try clear q145
             obtain ⟨kq, x17_65, rfl, HA, HJ65, BK136, BK137, BK138, HB⟩ := hcut
             cases kq with
             | zero => exact absurd HA.out (by simp [span_parts_1.j5])
             | succ kj65 =>
              have H := HA.out
              clear HA
              simp only [span_parts_1.j5] at H
              have HC68 := Aside0.mk H
              clear H
              go_upto_region 13 with (go_in)
              go_cut [103] (fun v115 wc => ∃ (kq : Nat) (x115_67 : Bool), v115 = .bool x115_67 ∧ Aside0 (span_parts_1.j6 kq x139001_33 x17_65 x18_1 x115_67 l0 l1 = some r2_) ∧ Aside0 (kq ≤ kj65) ∧ Aside0 (wc.heap[gb136]? = some (.cells #[(.slice A0 l0.length c0)] 24 (0, 0))) ∧ Aside0 (wc.heap[gb137]? = some (.cells #[(.slice A1 l1.length c1)] 24 (0, 0))) ∧ Aside0 (wc.heap[gb138]? = some (.cells #[.int .i64 x16_1, .int .i64 x139001_33, .bool x139002_12, .bool x139003_33] 55 (0, 0))) ∧ Aside0 (XR.BJ w (J_ (pre_ ++ [(⟨(⟨x16_1, x139001_33⟩ : S43), x139002_12, x139003_33⟩ : S55)])) wc))
              case first =>
               have H := HC68.out
               clear HC68
               by_cases c69 : x18_1 < (l1.length : Int)
               ·rw [if_pos c69] at H
                have c69b0 : decide (x18_1 < (l1.length : Int)) = true := decide_eq_true c69
                clear c69
                (first | rw [c69b0] | (simp only [i64_w, i32_w]; rw [c69b0]) | skip)
                by_cases c70 : 0 ≤ x18_1
                ·rw [if_pos c70] at H
                 have c70b0 : decide (0 ≤ x18_1) = true := decide_eq_true c70
                 clear c70
                 have H' := Aside0.mk H
                 clear H
                 have hnb71 := NB137_136.out
                 have hnc71 := NB136_137.out
                 have hnb72 := NB137_138.out
                 have hnc72 := NB138_137.out
                 have hcz73_0 : wc.cell? ⟨gb137, 0, none⟩ = some (.slice A1 l1.length c1) := (blk_cell BK137.out 0).trans rfl
                 have hfz73_0 := blk_frozen BK137.out 0
                 have p146 : 0 ≤ (x18_1 : Int) := of_decide_eq_true (by assumption)
                 have q146 : x18_1 < (l1.length : Int) := of_decide_eq_true (by assumption)
                 obtain ⟨ad146, e146, hx146_0, hx146_1⟩ := at_T43 HR1.out x18_1 p146 q146
                 cases e146
                 replace hx146_0 := (HB.out.cell (World.block_lt_of_cell? w _ hx146_0)).trans hx146_0
                 replace hx146_1 := (HB.out.cell (World.block_lt_of_cell? w _ hx146_1)).trans hx146_1
                 replace p146 := eq_true p146
                 replace q146 := eq_true q146
                 go_wp2
                 go_meet
                 case rel => exact ⟨_, (decide (((rd_T43 l1 x18_1).f1) ≤ x139001_33)), (by first | rfl | (simp; done) | (simp [*]; done)), H', ⟨by have := HK1.out; have := HJ4.out; have := HJ12.out; have := HJ33.out; have := HJ51.out; have := HJ65.out; first | omega | exact Nat.le_refl _⟩, ⟨by (with_reducible repeat (first | refine blk_drewN ?_ _ | refine blk_drew ?_ | refine blk_alloc ?_ _)); exact BK136.out⟩, ⟨by (with_reducible repeat (first | refine blk_drewN ?_ _ | refine blk_drew ?_ | refine blk_alloc ?_ _)); exact BK137.out⟩, ⟨by (with_reducible repeat (first | refine blk_drewN ?_ _ | refine blk_drew ?_ | refine blk_alloc ?_ _)); exact BK138.out⟩, ⟨by repeat (first | (with_reducible first | exact HB.out | apply below_alloc | apply pw_below_drewN | apply below_drew1 | refine below_set ?_ GE136.out | refine below_set ?_ GE137.out | refine below_set ?_ GE138.out) | exact HB.out)⟩⟩
                ·rw [if_neg c70] at H
                 exact absurd H (by simp)
               ·rw [if_neg c69] at H
                have c69b0 : decide (x18_1 < (l1.length : Int)) = false := decide_eq_false c69
                clear c69
                (first | rw [c69b0] | (simp only [i64_w, i32_w]; rw [c69b0]) | skip)
                have H' := Aside0.mk H
                clear H
                have hnb74 := NB137_136.out
                have hnc74 := NB136_137.out
                have hnb75 := NB137_138.out
                have hnc75 := NB138_137.out
                have hcz76_0 : wc.cell? ⟨gb137, 0, none⟩ = some (.slice A1 l1.length c1) := (blk_cell BK137.out 0).trans rfl
                have hfz76_0 := blk_frozen BK137.out 0
                go_wp2
                go_meet
                case rel => exact ⟨_, (false), (by first | rfl | (simp; done) | (simp [*]; done)), H', ⟨by have := HK1.out; have := HJ4.out; have := HJ12.out; have := HJ33.out; have := HJ51.out; have := HJ65.out; first | omega | exact Nat.le_refl _⟩, ⟨by (with_reducible repeat (first | refine blk_drewN ?_ _ | refine blk_drew ?_ | refine blk_alloc ?_ _)); exact BK136.out⟩, ⟨by (with_reducible repeat (first | refine blk_drewN ?_ _ | refine blk_drew ?_ | refine blk_alloc ?_ _)); exact BK137.out⟩, ⟨by (with_reducible repeat (first | refine blk_drewN ?_ _ | refine blk_drew ?_ | refine blk_alloc ?_ _)); exact BK138.out⟩, ⟨by repeat (first | (with_reducible first | exact HB.out | apply below_alloc | apply pw_below_drewN | apply below_drew1 | refine below_set ?_ GE136.out | refine below_set ?_ GE137.out | refine below_set ?_ GE138.out) | exact HB.out)⟩⟩
              case rest =>
               clear HC68
               try clear c1
               try clear p1
               try clear q1
               try clear hx1
               try clear c2
               try clear p2
               try clear c3
               try clear c4
               try clear c5
               try clear c6
               try clear c6b0
               try clear p6
               try clear c7
               try clear c8
               try clear c9
               try clear c12
               try clear p13
               try clear q13
               try clear hx13
               try clear p14
               try clear q14
               try clear hx14
               try clear c15
               try clear c16
               try clear c19
               try clear c21
               try clear c21b0
               try clear c22
               try clear c22b0
               try clear c25
               try clear c26
               try clear c28
               try clear c35
               try clear c36
               try clear c38
               try clear c38b0
               try clear c39
               try clear c39b0
               try clear c42
               try clear c43
               try clear c45
               try clear c53
               try clear c54
               try clear c58
               try clear c58b0
               try clear c59
               try clear c59b0
               try clear c60
               try clear c61
               try clear c63
               try clear c64
               try clear p64
               try clear c67
               try clear c69
               try clear c69b0
               try clear c70
               try clear c70b0
               try clear c71
               try clear c72
               try clear c74
               try clear c75
               try clear hcz10_0
               try clear hcz11_0
               try clear hcz17_0
               try clear hcz17_1
               try clear hcz17_2
               try clear hcz17_3
               try clear hcz20_0
               try clear hcz27_0
               try clear hcz29_0
               try clear hcz29_1
               try clear hcz29_2
               try clear hcz29_3
               try clear hcz37_0
               try clear hcz44_0
               try clear hcz46_0
               try clear hcz46_1
               try clear hcz46_2
               try clear hcz46_3
               try clear hcz55_0
               try clear hcz55_1
               try clear hcz55_2
               try clear hcz55_3
               try clear hcz57_0
               try clear hcz57_1
               try clear hcz57_2
               try clear hcz57_3
               try clear hcz62_0
               try clear hcz65_0
               try clear hcz73_0
               try clear hcz76_0
               try clear hcz8_0
               try clear hfz10_0
               try clear hfz11_0
               try clear hfz17_0
               try clear hfz17_1
               try clear hfz17_2
               try clear hfz17_3
               try clear hfz20_0
               try clear hfz27_0
               try clear hfz29_0
               try clear hfz29_1
               try clear hfz29_2
               try clear hfz29_3
               try clear hfz37_0
               try clear hfz44_0
               try clear hfz46_0
               try clear hfz46_1
               try clear hfz46_2
               try clear hfz46_3
               try clear hfz55_0
               try clear hfz55_1
               try clear hfz55_2
               try clear hfz55_3
               try clear hfz57_0
               try clear hfz57_1
               try clear hfz57_2
               try clear hfz57_3
               try clear hfz62_0
               try clear hfz65_0
               try clear hfz73_0
               try clear hfz76_0
               try clear hfz8_0
               try clear hx139_0
               try clear hx139_1
               try clear hx140_0
               try clear hx140_1
               try clear hx142_0
               try clear hx142_1
               try clear hx143_0
               try clear hx143_1
               try clear hx145_0
               try clear hx145_1
               try clear hx146_0
               try clear hx146_1
               try clear p1
               try clear p13
               try clear p139
               try clear p14
               try clear p140
               try clear p142
               try clear p143
               try clear p145
               try clear p146
               try clear p2
               try clear p6
               try clear p64
               try clear q1
               try clear q13
               try clear q139
               try clear q14
               try clear q140
               try clear q142
               try clear q143
               try clear q145
               try clear q146
               obtain ⟨kq, x115_67, rfl, HA, HJ67, BK136, BK137, BK138, HB⟩ := hcut
               cases kq with
               | zero => exact absurd HA.out (by simp [span_parts_1.j6])
               | succ kj67 =>
                have H := HA.out
                clear HA
                simp only [span_parts_1.j6] at H
                by_cases c77 : x115_67 = true
                ·subst c77
                 have H1 : (span_parts_1.l0 kj67 x139001_33 x17_65 (wrap64 (x18_1 + 1)) l0 l1) = some r2_ := by rw [if_pos rfl] at H; exact H
                 clear H
                 have H := H1
                 clear H1
                 have H' := Aside0.mk H
                 clear H
                 go_wp2
                 go_roundg kj67
                 case measure => have := HK1.out; have := HJ4.out; have := HJ12.out; have := HJ33.out; have := HJ51.out; have := HJ65.out; have := HJ67.out; omega
                 case rel => exact ⟨(pre_ ++ [(⟨(⟨x16_1, x139001_33⟩ : S43), x139002_12, x139003_33⟩ : S55)]), r2_, (x139001_33), (x17_65), (wrap64 (x18_1 + 1)), (by first | rfl | (simp; done) | (simp [*]; done)), (by first | rfl | (simp; done) | (simp [*]; done)), (by first | rfl | (simp; done) | (simp [*]; done)), H', ⟨by rw [HX_.out, ← HR2_.out]; simp⟩, ⟨HB.out.2⟩, ⟨by have := HK1.out; have := HJ4.out; have := HJ12.out; have := HJ33.out; have := HJ51.out; have := HJ65.out; have := HJ67.out; omega⟩, ⟨by (with_reducible repeat (first | refine blk_drewN ?_ _ | refine blk_drew ?_ | refine blk_alloc ?_ _)); exact BK136.out⟩, ⟨by (with_reducible repeat (first | refine blk_drewN ?_ _ | refine blk_drew ?_ | refine blk_alloc ?_ _)); exact BK137.out⟩, ⟨HB.out.1⟩⟩
                ·replace c77 := Bool.eq_false_iff.mpr c77
                 subst c77
                 have H1 : (span_parts_1.l0 kj67 x139001_33 x17_65 x18_1 l0 l1) = some r2_ := by rw [if_neg (show ¬ (false = true) by decide)] at H; exact H
                 clear H
                 have H := H1
                 clear H1
                 have H' := Aside0.mk H
                 clear H
                 go_wp2
                 go_roundg kj67
                 case measure => have := HK1.out; have := HJ4.out; have := HJ12.out; have := HJ33.out; have := HJ51.out; have := HJ65.out; have := HJ67.out; omega
                 case rel => exact ⟨(pre_ ++ [(⟨(⟨x16_1, x139001_33⟩ : S43), x139002_12, x139003_33⟩ : S55)]), r2_, (x139001_33), (x17_65), (x18_1), (by first | rfl | (simp; done) | (simp [*]; done)), (by first | rfl | (simp; done) | (simp [*]; done)), (by first | rfl | (simp; done) | (simp [*]; done)), H', ⟨by rw [HX_.out, ← HR2_.out]; simp⟩, ⟨HB.out.2⟩, ⟨by have := HK1.out; have := HJ4.out; have := HJ12.out; have := HJ33.out; have := HJ51.out; have := HJ65.out; have := HJ67.out; omega⟩, ⟨by (with_reducible repeat (first | refine blk_drewN ?_ _ | refine blk_drew ?_ | refine blk_alloc ?_ _)); exact BK136.out⟩, ⟨by (with_reducible repeat (first | refine blk_drewN ?_ _ | refine blk_drew ?_ | refine blk_alloc ?_ _)); exact BK137.out⟩, ⟨HB.out.1⟩⟩
     ·replace c12 := Bool.eq_false_iff.mpr c12
      subst c12
      have H1 : (some []) = some r := by rw [if_neg (show ¬ (false = true) by decide)] at H; exact H
      clear H
      have H := H1
      clear H1
      obtain rfl : [] = r := Option.some.inj H
      go_wp2
      go_end0
      exact ⟨⟨_, rfl⟩, .inl (by have hx_ := HX_.out; rw [List.append_nil] at hx_; rw [hx_]; exact hJs_ _ _ _ HJ_.out HB.out.2)⟩

end Go.Proofs.Ytlhkjkldjhapeaa.Print
