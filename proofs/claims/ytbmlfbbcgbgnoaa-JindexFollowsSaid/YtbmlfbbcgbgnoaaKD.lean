-- Functions and laws: texts of the session's own and of the kit's print program, joined; what nothing names is left out.
import Derived.Test.YtbmlfbbcgbgnoaaKA
import Derived.Test.YtbmlfbbcgbgnoaaKB
import Derived.Test.YtbmlfbbcgbgnoaaKC
import Derived.Test.YtbmlfbbcgbgnoaaKR
import Derived.Ground.NamesProg
import Derived.Lib.SortBridge
import Derived.Shelf.Slices.In.SortNone
import Derived.Shelf.Sort.Plain
import Derived.Sort.EveryDepth
import Derived.Sort.OwnSortedInts
section
namespace Go.Proofs.Ytbmlfbbcgbgnoaa.Print
open Go.RowKit Go.Proofs.YtbmlfbbcgbgnoaaW.PrintWords Go.Proofs.YtbmlfbbcgbgnoaaW.PrintLast Go.Proofs.YtbmlfbbcgbgnoaaW.PrintMore
attribute [local go_sem] max2_int min2_int max_two min_two max_three min_three max_four min_four   -- for this text's walks alone
set_option linter.unusedVariables false
set_option linter.unusedSimpArgs false
/-! ### slices_BinarySearch_int_int: function 85 -/
def slices_BinarySearch_int_int.l0 : Nat → List Int → Int → Int → Int → Int → Option (Int × Bool)
 | 0, _, _, _, _, _ => none
 | k + 1, x0, x1, x6, x7, x8 => if x7 < x8 then (if 0 ≤ (wrap64 ((IntKind.u64.wrap (wrap64 (x7 + x8))) / 2)) then (if (wrap64 ((IntKind.u64.wrap (wrap64 (x7 + x8))) / 2)) < (x0.length : Int) then ((cmp_Less_int.f (rd x0 (wrap64 ((IntKind.u64.wrap (wrap64 (x7 + x8))) / 2))) x1).bind fun t274 => (if t274 = true then (slices_BinarySearch_int_int.l0 k x0 x1 x6 (wrap64 ((wrap64 ((IntKind.u64.wrap (wrap64 (x7 + x8))) / 2)) + 1)) x8) else (slices_BinarySearch_int_int.l0 k x0 x1 x6 x7 (wrap64 ((IntKind.u64.wrap (wrap64 (x7 + x8))) / 2))))) else (none)) else (none)) else (if x7 < x6 then (if 0 ≤ x7 then (if x7 < (x0.length : Int) then (if (rd x0 x7) = x1 then (some (x7, true)) else ((slices_isNaN_int.f (rd x0 x7)).bind fun t277 => (if t277 = true then ((slices_isNaN_int.f x1).bind fun t278 => (some (x7, t278))) else (some (x7, false))))) else (none)) else (none)) else (some (x7, false)))
def slices_BinarySearch_int_int.f (k : Nat) (l0 : List Int) (a1 : Int) : Option (Int × Bool) := slices_BinarySearch_int_int.l0 k l0 a1 (l0.length : Int) 0 (l0.length : Int)
theorem slices_BinarySearch_int_int.l0_succ (k : Nat) (x0 : List Int) (x1 : Int) (x6 : Int) (x7 : Int) (x8 : Int) : slices_BinarySearch_int_int.l0 (k + 1) x0 x1 x6 x7 x8 = (if x7 < x8 then (if 0 ≤ (wrap64 ((IntKind.u64.wrap (wrap64 (x7 + x8))) / 2)) then (if (wrap64 ((IntKind.u64.wrap (wrap64 (x7 + x8))) / 2)) < (x0.length : Int) then ((cmp_Less_int.f (rd x0 (wrap64 ((IntKind.u64.wrap (wrap64 (x7 + x8))) / 2))) x1).bind fun t274 => (if t274 = true then (slices_BinarySearch_int_int.l0 k x0 x1 x6 (wrap64 ((wrap64 ((IntKind.u64.wrap (wrap64 (x7 + x8))) / 2)) + 1)) x8) else (slices_BinarySearch_int_int.l0 k x0 x1 x6 x7 (wrap64 ((IntKind.u64.wrap (wrap64 (x7 + x8))) / 2))))) else (none)) else (none)) else (if x7 < x6 then (if 0 ≤ x7 then (if x7 < (x0.length : Int) then (if (rd x0 x7) = x1 then (some (x7, true)) else ((slices_isNaN_int.f (rd x0 x7)).bind fun t277 => (if t277 = true then ((slices_isNaN_int.f x1).bind fun t278 => (some (x7, t278))) else (some (x7, false))))) else (none)) else (none)) else (some (x7, false)))) := by
 simp only [slices_BinarySearch_int_int.l0]
set_option maxHeartbeats 8000000 in
set_option maxRecDepth 100000 in
theorem slices_BinarySearch_int_int.calls (k : Nat) (A0 : Option Addr) (c0 : Nat) (l0 : List Int) (a1 : Int) (r1 : Int) (r2 : Bool) (w : World) (hr0 : Kd.C (Kd.int .i64) w A0 l0.length l0) (hc0 : l0.length ≤ c0) (h : slices_BinarySearch_int_int.f k l0 a1 = some (r1, r2)) :
  Calls Try.prog 85 #[.slice A0 l0.length c0, .int .i64 a1] w fun e w' => e = .returned (.tuple #[.int .i64 r1, .bool r2]) ∧ Drawn0 w w' := by
 have HR0 := Aside0.mk hr0
 have HC0 := Aside0.mk hc0
 clear hr0 hc0
 have H : (slices_BinarySearch_int_int.l0 k l0 a1 (l0.length : Int) 0 (l0.length : Int)) = some (r1, r2) := h
 clear h
 have H' := Aside0.mk H
 clear H
 go_enter Try.func85, Try.ntmps85
 go_wp2
 go_loopg [7, 8] k (fun kq v7 v8 w' => ∃ (x7_1 : Int) (x8_1 : Int), v7 = .int .i64 x7_1 ∧ v8 = .int .i64 x8_1 ∧ Aside0 (slices_BinarySearch_int_int.l0 kq l0 a1 (l0.length : Int) x7_1 x8_1 = some (r1, r2)) ∧ Aside0 (kq ≤ k) ∧ Drawn0 w w')
 case atStart => exact ⟨(0), ((l0.length : Int)), (by first | rfl | (simp; done) | (simp [*]; done)), (by first | rfl | (simp; done) | (simp [*]; done)), H', ⟨Nat.le_refl _⟩, by repeat (first | exact Drawn0.refl _ | apply Drawn0.step)⟩
 case round =>
  clear H'
  obtain ⟨x7_1, x8_1, rfl, rfl, HA, HK1, ⟨m1, rfl⟩⟩ := hrel
  cases gk with
  | zero => exact absurd HA.out (by simp [slices_BinarySearch_int_int.l0])
  | succ k1 =>
   have H := HA.out
   clear HA
   simp only [slices_BinarySearch_int_int.l0] at H
   by_cases c3 : x7_1 < x8_1
   ·rw [if_pos c3] at H
    have c3b0 : decide (x7_1 < x8_1) = true := decide_eq_true c3
    clear c3
    obtain ⟨ji4, hji4⟩ : ∃ j_ : Int, (wrap64 ((IntKind.u64.wrap (wrap64 (x7_1 + x8_1))) / 2)) = j_ := ⟨_, rfl⟩
    replace H : (if 0 ≤ (ji4) then (if (ji4) < (l0.length : Int) then ((cmp_Less_int.f (rd l0 (ji4)) a1).bind fun t274 => (if t274 = true then (slices_BinarySearch_int_int.l0 k1 l0 a1 (l0.length : Int) (wrap64 ((ji4) + 1)) x8_1) else (slices_BinarySearch_int_int.l0 k1 l0 a1 (l0.length : Int) x7_1 ji4))) else (none)) else (none)) = some (r1, r2) := by first | (rw [hji4] at H; exact H) | (simp only [hji4] at H ⊢; exact H)
    have hji4w : (IntKind.i64.wrap ((IntKind.u64.wrap (wrap64 (x7_1 + x8_1))) / 2)) = ji4 := (i64_w _).trans hji4
    by_cases c5 : 0 ≤ (ji4)
    ·rw [if_pos c5] at H
     have c5b0 : decide (0 ≤ (ji4)) = true := decide_eq_true c5
     clear c5
     by_cases c6 : (ji4) < (l0.length : Int)
     ·rw [if_pos c6] at H
      have c6b0 : decide ((ji4) < (l0.length : Int)) = true := decide_eq_true c6
      clear c6
      replace H := Option.bind_eq_some_iff.mp H
      obtain ⟨t274, A70, H⟩ := H
      replace H : (if t274 = true then (slices_BinarySearch_int_int.l0 k1 l0 a1 (l0.length : Int) (wrap64 ((ji4) + 1)) x8_1) else (slices_BinarySearch_int_int.l0 k1 l0 a1 (l0.length : Int) x7_1 ji4)) = some (r1, r2) := H
      have A7 := Aside0.mk A70
      clear A70
      by_cases c8 : t274 = true
      ·subst c8
       have H1 : (slices_BinarySearch_int_int.l0 k1 l0 a1 (l0.length : Int) (wrap64 ((ji4) + 1)) x8_1) = some (r1, r2) := by rw [if_pos rfl] at H; exact H
       clear H
       have H := H1
       clear H1
       have H' := Aside0.mk H
       clear H
       have p273 : 0 ≤ ((ji4) : Int) := of_decide_eq_true (by assumption)
       have q273 : (ji4) < (l0.length : Int) := of_decide_eq_true (by assumption)
       obtain ⟨ad273, e273, hx273_0⟩ := Kd.at_int HR0.out (ji4) p273 q273
       cases e273
       replace p273 := eq_true p273
       replace q273 := eq_true q273
       go_wp2_with (first | ((with_reducible refine gate_callee (f := 118) rfl ?_); refine goesL_ (some 27) rfl rfl Try.func118 (by kernel_rfl) rfl #[.int .i64 (rd l0 (ji4)), .int .i64 a1] rfl (by (try simp only [List.map_toArray, List.map_cons, List.map_nil]); first | done | (simp only [hji4]; rfl) | rfl | (simp only [List.length_drop, List.length_take]; rfl)) ?_; (with_reducible refine (cmp_Less_int.calls (rd l0 (ji4)) a1 true _ A7.out).mono ?_); rintro e w' ⟨rfl, ⟨nd, rfl⟩⟩; refine ⟨_, rfl, ?_⟩))
       go_roundg k1
       case measure => have := HK1.out; omega
       case rel => exact ⟨(wrap64 ((ji4) + 1)), (x8_1), (by first | rfl | (simp; done) | (simp only [← hji4] <;> (first | rfl | simp)) | (simp [*]; done)), (by first | rfl | (simp; done) | (simp [*]; done)), (by first | exact H' | (simp only [hji4]; exact H')), ⟨by have := HK1.out; omega⟩, by repeat (first | exact Drawn0.refl _ | apply Drawn0.step)⟩
      ·replace c8 := Bool.eq_false_iff.mpr c8
       subst c8
       have H1 : (slices_BinarySearch_int_int.l0 k1 l0 a1 (l0.length : Int) x7_1 ji4) = some (r1, r2) := by rw [if_neg (show ¬ (false = true) by decide)] at H; exact H
       clear H
       have H := H1
       clear H1
       have H' := Aside0.mk H
       clear H
       have p273 : 0 ≤ ((ji4) : Int) := of_decide_eq_true (by assumption)
       have q273 : (ji4) < (l0.length : Int) := of_decide_eq_true (by assumption)
       obtain ⟨ad273, e273, hx273_0⟩ := Kd.at_int HR0.out (ji4) p273 q273
       cases e273
       replace p273 := eq_true p273
       replace q273 := eq_true q273
       go_wp2_with (first | ((with_reducible refine gate_callee (f := 118) rfl ?_); refine goesL_ (some 27) rfl rfl Try.func118 (by kernel_rfl) rfl #[.int .i64 (rd l0 (ji4)), .int .i64 a1] rfl (by (try simp only [List.map_toArray, List.map_cons, List.map_nil]); first | done | (simp only [hji4]; rfl) | rfl | (simp only [List.length_drop, List.length_take]; rfl)) ?_; (with_reducible refine (cmp_Less_int.calls (rd l0 (ji4)) a1 false _ A7.out).mono ?_); rintro e w' ⟨rfl, ⟨nd, rfl⟩⟩; refine ⟨_, rfl, ?_⟩))
       go_roundg k1
       case measure => have := HK1.out; omega
       case rel => exact ⟨(x7_1), (ji4), (by first | rfl | (simp; done) | (simp [*]; done)), (by first | rfl | (simp; done) | (simp only [← hji4] <;> (first | rfl | simp)) | (simp [*]; done)), (by first | exact H' | (simp only [hji4]; exact H')), ⟨by have := HK1.out; omega⟩, by repeat (first | exact Drawn0.refl _ | apply Drawn0.step)⟩
     ·rw [if_neg c6] at H
      exact absurd H (by simp)
    ·rw [if_neg c5] at H
     exact absurd H (by simp)
   ·rw [if_neg c3] at H
    have c3b0 : decide (x7_1 < x8_1) = false := decide_eq_false c3
    clear c3
    by_cases c9 : x7_1 < (l0.length : Int)
    ·rw [if_pos c9] at H
     have c9b0 : decide (x7_1 < (l0.length : Int)) = true := decide_eq_true c9
     clear c9
     by_cases c10 : 0 ≤ x7_1
     ·rw [if_pos c10] at H
      have c10b0 : decide (0 ≤ x7_1) = true := decide_eq_true c10
      clear c10
      by_cases c11 : x7_1 < (l0.length : Int)
      ·rw [if_pos c11] at H
       have c11b0 : decide (x7_1 < (l0.length : Int)) = true := decide_eq_true c11
       clear c11
       by_cases c12 : (rd l0 x7_1) = a1
       ·rw [if_pos c12] at H
        have c12b0 : ((rd l0 x7_1) == a1) = true := beq_iff_eq.mpr c12
        have c12b1 : ((rd l0 x7_1) != a1) = false := bne_eq_false_iff_eq.mpr c12
        clear c12
        simp only [Option.some.injEq, Prod.mk.injEq] at H
        obtain ⟨rfl, rfl⟩ := H
        have p275 : 0 ≤ (x7_1 : Int) := of_decide_eq_true (by assumption)
        have q275 : x7_1 < (l0.length : Int) := of_decide_eq_true (by assumption)
        obtain ⟨ad275, e275, hx275_0⟩ := Kd.at_int HR0.out x7_1 p275 q275
        cases e275
        replace p275 := eq_true p275
        replace q275 := eq_true q275
        go_wp2
        go_ret2
        exact ⟨by first | rfl | (unfold wrap64; rfl) | (simp; done) | (simp [*]; done), by repeat (first | exact Drawn0.refl _ | apply Drawn0.step)⟩
       ·rw [if_neg c12] at H
        have c12b0 : ((rd l0 x7_1) == a1) = false := beq_eq_false_iff_ne.mpr c12
        have c12b1 : ((rd l0 x7_1) != a1) = true := bne_iff_ne.mpr c12
        replace H := Option.bind_eq_some_iff.mp H
        obtain ⟨t277, A130, H⟩ := H
        replace H : (if t277 = true then ((slices_isNaN_int.f a1).bind fun t278 => (some (x7_1, t278))) else (some (x7_1, false))) = some (r1, r2) := H
        have A13 := Aside0.mk A130
        clear A130
        by_cases c14 : t277 = true
        ·subst c14
         have H1 : ((slices_isNaN_int.f a1).bind fun t278 => (some (x7_1, t278))) = some (r1, r2) := by rw [if_pos rfl] at H; exact H
         clear H
         have H := H1
         clear H1
         replace H := Option.bind_eq_some_iff.mp H
         obtain ⟨t278, A150, H⟩ := H
         replace H : (some (x7_1, t278)) = some (r1, r2) := H
         have A15 := Aside0.mk A150
         clear A150
         simp only [Option.some.injEq, Prod.mk.injEq] at H
         obtain ⟨rfl, rfl⟩ := H
         have p275 : 0 ≤ (x7_1 : Int) := of_decide_eq_true (by assumption)
         have q275 : x7_1 < (l0.length : Int) := of_decide_eq_true (by assumption)
         obtain ⟨ad275, e275, hx275_0⟩ := Kd.at_int HR0.out x7_1 p275 q275
         cases e275
         replace p275 := eq_true p275
         replace q275 := eq_true q275
         have p276 : 0 ≤ (x7_1 : Int) := of_decide_eq_true (by assumption)
         have q276 : x7_1 < (l0.length : Int) := of_decide_eq_true (by assumption)
         obtain ⟨ad276, e276, hx276_0⟩ := Kd.at_int HR0.out x7_1 p276 q276
         obtain rfl : ad275 = ad276 := (by injection e276)
         replace p276 := eq_true p276
         replace q276 := eq_true q276
         go_wp2_with (first | (go_at_call 119; (with_reducible refine (slices_isNaN_int.calls (rd l0 x7_1) true _ A13.out).mono ?_); rintro e w' ⟨rfl, ⟨nd, rfl⟩⟩; (try clear A13)) | (go_at_call 119; (with_reducible refine (slices_isNaN_int.calls a1 t278 _ A15.out).mono ?_); rintro e w' ⟨rfl, ⟨nd, rfl⟩⟩; (try clear A15)))
         go_ret2
         exact ⟨by first | rfl | (unfold wrap64; rfl) | (simp; done) | (simp [*]; done), by repeat (first | exact Drawn0.refl _ | apply Drawn0.step)⟩
        ·replace c14 := Bool.eq_false_iff.mpr c14
         subst c14
         have H1 : (some (x7_1, false)) = some (r1, r2) := by rw [if_neg (show ¬ (false = true) by decide)] at H; exact H
         clear H
         have H := H1
         clear H1
         simp only [Option.some.injEq, Prod.mk.injEq] at H
         obtain ⟨rfl, rfl⟩ := H
         have p275 : 0 ≤ (x7_1 : Int) := of_decide_eq_true (by assumption)
         have q275 : x7_1 < (l0.length : Int) := of_decide_eq_true (by assumption)
         obtain ⟨ad275, e275, hx275_0⟩ := Kd.at_int HR0.out x7_1 p275 q275
         cases e275
         replace p275 := eq_true p275
         replace q275 := eq_true q275
         have p276 : 0 ≤ (x7_1 : Int) := of_decide_eq_true (by assumption)
         have q276 : x7_1 < (l0.length : Int) := of_decide_eq_true (by assumption)
         obtain ⟨ad276, e276, hx276_0⟩ := Kd.at_int HR0.out x7_1 p276 q276
         obtain rfl : ad275 = ad276 := (by injection e276)
         replace p276 := eq_true p276
         replace q276 := eq_true q276
         go_wp2_with (first | (go_at_call 119; (with_reducible refine (slices_isNaN_int.calls (rd l0 x7_1) false _ A13.out).mono ?_); rintro e w' ⟨rfl, ⟨nd, rfl⟩⟩; (try clear A13)))
         go_ret2
         exact ⟨by first | rfl | (unfold wrap64; rfl) | (simp; done) | (simp [*]; done), by repeat (first | exact Drawn0.refl _ | apply Drawn0.step)⟩
      ·rw [if_neg c11] at H
       exact absurd H (by simp)
     ·rw [if_neg c10] at H
      exact absurd H (by simp)
    ·rw [if_neg c9] at H
     have c9b0 : decide (x7_1 < (l0.length : Int)) = false := decide_eq_false c9
     clear c9
     simp only [Option.some.injEq, Prod.mk.injEq] at H
     obtain ⟨rfl, rfl⟩ := H
     go_wp2
     go_ret2
     exact ⟨by first | rfl | (unfold wrap64; rfl) | (simp; done) | (simp [*]; done), by repeat (first | exact Drawn0.refl _ | apply Drawn0.step)⟩
/-! ### span_Rank: function 86 -/
def span_Rank.l0 : Nat → Int → Int → List (S79) → Int → Int → Option (Int)
 | 0, _, _, _, _, _ => none
 | k + 1, x1, x5, x12, x13, x14 => if x14 < x13 then (if 0 ≤ x14 then (if x14 < (x12.length : Int) then (span_Rank.l0 k x1 (wrap64 (x5 + (mx 0 (wrap64 ((mn x1 ((rd_T79 x12 x14).f1)) - ((rd_T79 x12 x14).f0)))))) x12 x13 (wrap64 (x14 + 1))) else (none)) else (none)) else (some x5)
def span_Rank.f (k : Nat) (l0 : List (S79)) (a1 : Int) : Option (Int) := (span_May.f k l0).bind fun t279 => (if t279 = true then (span_Rank.l0 k (mx a1 0) 0 l0 (l0.length : Int) 0) else (some 0))
theorem span_Rank.l0_succ (k : Nat) (x1 : Int) (x5 : Int) (x12 : List (S79)) (x13 : Int) (x14 : Int) : span_Rank.l0 (k + 1) x1 x5 x12 x13 x14 = (if x14 < x13 then (if 0 ≤ x14 then (if x14 < (x12.length : Int) then (span_Rank.l0 k x1 (wrap64 (x5 + (mx 0 (wrap64 ((mn x1 ((rd_T79 x12 x14).f1)) - ((rd_T79 x12 x14).f0)))))) x12 x13 (wrap64 (x14 + 1))) else (none)) else (none)) else (some x5)) := by
 simp only [span_Rank.l0]
set_option maxHeartbeats 8000000 in
set_option maxRecDepth 100000 in
theorem span_Rank.calls (k : Nat) (A0 : Option Addr) (c0 : Nat) (l0 : List (S79)) (a1 : Int) (r : Int) (w : World) (hr0 : Kd.C k79 w A0 l0.length l0) (hc0 : l0.length ≤ c0) (h : span_Rank.f k l0 a1 = some r) :
  Calls Try.prog 86 #[.slice A0 l0.length c0, .int .i64 a1] w fun e w' => e = .returned (.int .i64 r) ∧ Below w.heap.size w w' := by
 have hu79 := Try.underlying79
 have HR0 := Aside0.mk hr0
 have HC0 := Aside0.mk hc0
 clear hr0 hc0
 have HB := Aside0.mk (Below.refl w.heap.size w)
 have H : ((span_May.f k l0).bind fun t279 => (if t279 = true then (span_Rank.l0 k (mx a1 0) 0 l0 (l0.length : Int) 0) else (some 0))) = some r := h
 clear h
 obtain ⟨ji3, hji3⟩ : ∃ j_ : Int, (mx a1 0) = j_ := ⟨_, rfl⟩
 replace H : ((span_May.f k l0).bind fun t279 => (if t279 = true then (span_Rank.l0 k ji3 0 l0 (l0.length : Int) 0) else (some 0))) = some r := by first | (rw [hji3] at H; exact H) | (simp only [hji3] at H ⊢; exact H)
 (try (have hji3l : 0 ≤ ji3 := by (rw [← hji3]; unfold mx; (repeat' split) <;> omega)))
 (try (have hji3m : 0 ≤ ji3 := by omega))
 have hji3_ : (if a1 < 0 then 0 else a1) = ji3 := hji3
 replace H := Option.bind_eq_some_iff.mp H
 obtain ⟨t279, A40, H⟩ := H
 replace H : (if t279 = true then (span_Rank.l0 k ji3 0 l0 (l0.length : Int) 0) else (some 0)) = some r := H
 have A4 := Aside0.mk A40
 clear A40
 by_cases c5 : t279 = true
 ·subst c5
  have H1 : (span_Rank.l0 k ji3 0 l0 (l0.length : Int) 0) = some r := by rw [if_pos rfl] at H; exact H
  clear H
  have H := H1
  clear H1
  have H' := Aside0.mk H
  clear H
  go_enter Try.func86, Try.ntmps86
  go_wp2_with (first | ((with_reducible refine gate_callee (f := 55) rfl ?_); refine goesL_ (some 11) rfl rfl Try.func55 (by kernel_rfl) rfl #[.slice A0 l0.length c0] rfl (by (try simp only [List.map_toArray, List.map_cons, List.map_nil]); first | done | rfl) ?_; (with_reducible refine (span_May.calls k _ _ l0 true _ ?side1 ?side2 A4.out).mono ?_); (case side1 => exact cx HR0.out); (case side2 => exact HC0.out); rintro e w6 ⟨rfl, hb⟩; refine ⟨_, rfl, ?_⟩; replace HB := bsa HB hb; (try clear hb)))
  go_loopg [5, 14] k (fun kq v5 v14 w' => ∃ (x5_1 : Int) (x14_1 : Int), v5 = .int .i64 x5_1 ∧ v14 = .int .i64 x14_1 ∧ Aside0 (span_Rank.l0 kq ji3 x5_1 l0 (l0.length : Int) x14_1 = some r) ∧ Aside0 (kq ≤ k) ∧ Aside0 (Below w.heap.size w w'))
  case atStart => exact ⟨(0), (0), (by first | rfl | (simp; done) | (simp [*]; done)), (by first | rfl | (simp; done) | (simp [*]; done)), H', ⟨Nat.le_refl _⟩, ⟨bh HB.out⟩⟩
  case round =>
   clear H'
   try clear c5
   obtain ⟨x5_1, x14_1, rfl, rfl, HA, HK1, HB⟩ := hrel
   cases gk with
   | zero => exact absurd HA.out (by simp [span_Rank.l0])
   | succ k1 =>
    have H := HA.out
    clear HA
    simp only [span_Rank.l0] at H
    by_cases c7 : x14_1 < (l0.length : Int)
    ·rw [if_pos c7] at H
     have c7b0 : decide (x14_1 < (l0.length : Int)) = true := decide_eq_true c7
     clear c7
     by_cases c8 : 0 ≤ x14_1
     ·rw [if_pos c8] at H
      have c8b0 : decide (0 ≤ x14_1) = true := decide_eq_true c8
      clear c8
      by_cases c9 : x14_1 < (l0.length : Int)
      ·rw [if_pos c9] at H
       have c9b0 : decide (x14_1 < (l0.length : Int)) = true := decide_eq_true c9
       clear c9
       obtain ⟨ji10, hji10⟩ : ∃ j_ : Int, (mn ji3 ((rd_T79 l0 x14_1).f1)) = j_ := ⟨_, rfl⟩
       replace H : (span_Rank.l0 k1 ji3 (wrap64 (x5_1 + (mx 0 (wrap64 ((ji10) - ((rd_T79 l0 x14_1).f0)))))) l0 (l0.length : Int) (wrap64 (x14_1 + 1))) = some r := by first | (rw [hji10] at H; exact H) | (simp only [hji10] at H ⊢; exact H)
       have hji10_ : (if ((rd_T79 l0 x14_1).f1) < ji3 then ((rd_T79 l0 x14_1).f1) else ji3) = ji10 := hji10
       obtain ⟨ji11, hji11⟩ : ∃ j_ : Int, (mx 0 (wrap64 ((ji10) - ((rd_T79 l0 x14_1).f0)))) = j_ := ⟨_, rfl⟩
       replace H : (span_Rank.l0 k1 ji3 (wrap64 (x5_1 + (ji11))) l0 (l0.length : Int) (wrap64 (x14_1 + 1))) = some r := by first | (rw [hji11] at H; exact H) | (simp only [hji11] at H ⊢; exact H)
       have hji11_ : (if 0 < (wrap64 ((ji10) - ((rd_T79 l0 x14_1).f0))) then (wrap64 ((ji10) - ((rd_T79 l0 x14_1).f0))) else 0) = ji11 := hji11
       have H' := Aside0.mk H
       clear H
       have p280 : 0 ≤ (x14_1 : Int) := of_decide_eq_true (by assumption)
       have q280 : x14_1 < (l0.length : Int) := of_decide_eq_true (by assumption)
       obtain ⟨ad280, e280, hx280_0, hx280_1⟩ := at_T79 HR0.out x14_1 p280 q280
       cases e280
       replace hx280_0 := (HB.out.cell (World.block_lt_of_cell? w _ hx280_0)).trans hx280_0
       replace hx280_1 := (HB.out.cell (World.block_lt_of_cell? w _ hx280_1)).trans hx280_1
       replace p280 := eq_true p280
       replace q280 := eq_true q280
       go_wp2_with (first | ((with_reducible refine gate_dst (N := 7) rfl ?_); refine box_event ?hg (N := 7) ?hd (cs := #[.int .i64 0, .int .i64 0]) (t := 79) ?hr ?_; (case hd => rfl); (case hg => rfl); (case hr => first | (go_simp; done) | (go_simp; rfl)); intro gb281 hg w12 hbox hb; have BK281 := Aside0.mk (hbox); have GW281 := bza HB hg; have GE281 := bza HB hg; replace HB := bsa HB hb; clear hb hbox hg; have hcz13_0 : w12.cell? ⟨gb281, 0, none⟩ = some (.int .i64 0) := (blk_cell BK281.out 0).trans rfl; have hcz13_1 : w12.cell? ⟨gb281, 1, none⟩ = some (.int .i64 0) := (blk_cell BK281.out 1).trans rfl; have hfz13_0 := blk_frozen BK281.out 0; have hfz13_1 := blk_frozen BK281.out 1))
       go_roundg k1
       case measure => have := HK1.out; omega
       case rel => exact ⟨(wrap64 (x5_1 + (ji11))), (wrap64 (x14_1 + 1)), (by first | rfl | (simp; done) | (simp only [← hji11] <;> (first | rfl | simp)) | (simp [*]; done)), (by first | rfl | (simp; done) | (simp [*]; done)), (by first | exact H' | (simp only [hji3, hji10, hji11]; exact H')), ⟨by have := HK1.out; omega⟩, ⟨bh HB.out⟩⟩
      ·rw [if_neg c9] at H
       exact absurd H (by simp)
     ·rw [if_neg c8] at H
      exact absurd H (by simp)
    ·rw [if_neg c7] at H
     have c7b0 : decide (x14_1 < (l0.length : Int)) = false := decide_eq_false c7
     clear c7
     obtain rfl := Option.some.inj H
     go_wp2
     go_ret
     exact ⟨by first | rfl | (simp [errW_none, errW_some] <;> rfl) | (simp only [← hji3]; first | rfl | (simp [errW_none, errW_some] <;> rfl)) | (simp [*, errW_none, errW_some] <;> rfl), bh HB.out⟩
 ·replace c5 := Bool.eq_false_iff.mpr c5
  subst c5
  have H1 : (some 0) = some r := by rw [if_neg (show ¬ (false = true) by decide)] at H; exact H
  clear H
  have H := H1
  clear H1
  obtain rfl := Option.some.inj H
  go_enter Try.func86, Try.ntmps86
  go_wp2_with (first | ((with_reducible refine gate_callee (f := 55) rfl ?_); refine goesL_ (some 11) rfl rfl Try.func55 (by kernel_rfl) rfl #[.slice A0 l0.length c0] rfl (by (try simp only [List.map_toArray, List.map_cons, List.map_nil]); first | done | rfl) ?_; (with_reducible refine (span_May.calls k _ _ l0 false _ ?side1 ?side2 A4.out).mono ?_); (case side1 => exact cx HR0.out); (case side2 => exact HC0.out); rintro e w14 ⟨rfl, hb⟩; refine ⟨_, rfl, ?_⟩; replace HB := bsa HB hb; (try clear hb)))
  go_ret
  exact ⟨by first | rfl | (simp [errW_none, errW_some] <;> rfl) | (simp only [← hji3]; first | rfl | (simp [errW_none, errW_some] <;> rfl)) | (simp [*, errW_none, errW_some] <;> rfl), bh HB.out⟩
/-! ### poslist_List_Rank: function 58 -/
def poslist_List_Rank.f (k : Nat) (a0_0 : Int) (l0_1 : List (S79)) (l0_2 : List Int) (l0_3 : List Int) (a1 : Int) : Option (Int) := if a0_0 = 2 then ((words_Rank.f k l0_2 a1).bind fun t283 => (some t283)) else (if a0_0 = 3 then ((slices_BinarySearch_int_int.f k l0_3 a1).bind fun bt284 => (some bt284.1)) else ((span_Rank.f k l0_1 a1).bind fun t286 => (some t286)))
set_option maxHeartbeats 8000000 in
set_option maxRecDepth 100000 in
theorem poslist_List_Rank.calls (k : Nat) (a0_0 : Int) (A0_1 : Option Addr) (c0_1 : Nat) (l0_1 : List (S79)) (A0_2 : Option Addr) (c0_2 : Nat) (l0_2 : List Int) (A0_3 : Option Addr) (c0_3 : Nat) (l0_3 : List Int) (a1 : Int) (r : Int) (w : World) (hr0_1 : Kd.C k79 w A0_1 l0_1.length l0_1) (hc0_1 : l0_1.length ≤ c0_1) (hr0_2 : Kd.C (Kd.int .i64) w A0_2 l0_2.length l0_2) (hc0_2 : l0_2.length ≤ c0_2) (hr0_3 : Kd.C (Kd.int .i64) w A0_3 l0_3.length l0_3) (hc0_3 : l0_3.length ≤ c0_3) (h : poslist_List_Rank.f k a0_0 l0_1 l0_2 l0_3 a1 = some r) :
  Calls Try.prog 58 #[.agg #[.int .i64 a0_0, .slice A0_1 l0_1.length c0_1, .slice A0_2 l0_2.length c0_2, .slice A0_3 l0_3.length c0_3], .int .i64 a1] w fun e w' => e = .returned (.int .i64 r) ∧ Below w.heap.size w w' := by
 have hu52 := Try.underlying52
 have HR0_1 := Aside0.mk hr0_1
 have HC0_1 := Aside0.mk hc0_1
 clear hr0_1 hc0_1
 have HR0_2 := Aside0.mk hr0_2
 have HC0_2 := Aside0.mk hc0_2
 clear hr0_2 hc0_2
 have HR0_3 := Aside0.mk hr0_3
 have HC0_3 := Aside0.mk hc0_3
 clear hr0_3 hc0_3
 have HB := Aside0.mk (Below.refl w.heap.size w)
 have H : (if a0_0 = 2 then ((words_Rank.f k l0_2 a1).bind fun t283 => (some t283)) else (if a0_0 = 3 then ((slices_BinarySearch_int_int.f k l0_3 a1).bind fun bt284 => (some bt284.1)) else ((span_Rank.f k l0_1 a1).bind fun t286 => (some t286)))) = some r := h
 clear h
 by_cases c3 : a0_0 = 2
 ·rw [if_pos c3] at H
  have c3b0 : (a0_0 == 2) = true := beq_iff_eq.mpr c3
  have c3b1 : (a0_0 != 2) = false := bne_eq_false_iff_eq.mpr c3
  clear c3
  replace H := Option.bind_eq_some_iff.mp H
  obtain ⟨t283, A40, H⟩ := H
  replace H : (some t283) = some r := H
  have A4 := Aside0.mk A40
  clear A40
  obtain rfl := Option.some.inj H
  go_enter Try.func58, Try.ntmps58
  go_wp2_with (first | ((with_reducible refine gate_dst (N := 2) rfl ?_); refine box_event ?hg (N := 2) ?hd (cs := #[.int .i64 a0_0, .slice A0_1 l0_1.length c0_1, .slice A0_2 l0_2.length c0_2, .slice A0_3 l0_3.length c0_3]) (t := 52) ?hr ?_; (case hd => rfl); (case hg => rfl); (case hr => first | (go_simp; done) | (go_simp; rfl)); intro gb282 hg w5 hbox hb; have BK282 := Aside0.mk (hbox); have GW282 := bza HB hg; have GE282 := bza HB hg; replace HB := bsa HB hb; clear hb hbox hg; have hcz6_0 : w5.cell? ⟨gb282, 0, none⟩ = some (.int .i64 a0_0) := (blk_cell BK282.out 0).trans rfl; have hcz6_1 : w5.cell? ⟨gb282, 1, none⟩ = some (.slice A0_1 l0_1.length c0_1) := (blk_cell BK282.out 1).trans rfl; have hcz6_2 : w5.cell? ⟨gb282, 2, none⟩ = some (.slice A0_2 l0_2.length c0_2) := (blk_cell BK282.out 2).trans rfl; have hcz6_3 : w5.cell? ⟨gb282, 3, none⟩ = some (.slice A0_3 l0_3.length c0_3) := (blk_cell BK282.out 3).trans rfl; have hfz6_0 := blk_frozen BK282.out 0; have hfz6_1 := blk_frozen BK282.out 1; have hfz6_2 := blk_frozen BK282.out 2; have hfz6_3 := blk_frozen BK282.out 3) | ((with_reducible refine gate_callee (f := 84) rfl ?_); refine goesL_ (some 14) rfl rfl Try.func84 (by kernel_rfl) rfl #[.slice A0_2 l0_2.length c0_2, .int .i64 a1] rfl (by (try simp only [List.map_toArray, List.map_cons, List.map_nil]); first | done | rfl) ?_; (with_reducible refine (words_Rank.calls k _ _ l0_2 a1 t283 _ ?side1 ?side2 A4.out).mono ?_); (case side1 => exact cx (Kd.C_below HR0_2.out HB.out)); (case side2 => exact HC0_2.out); rintro e w' ⟨rfl, ⟨nd, rfl⟩⟩; refine ⟨_, rfl, ?_⟩))
  go_ret
  exact ⟨er, bh HB.out⟩
 ·rw [if_neg c3] at H
  have c3b0 : (a0_0 == 2) = false := beq_eq_false_iff_ne.mpr c3
  have c3b1 : (a0_0 != 2) = true := bne_iff_ne.mpr c3
  by_cases c7 : a0_0 = 3
  ·rw [if_pos c7] at H
   have c7b0 : (a0_0 == 3) = true := beq_iff_eq.mpr c7
   have c7b1 : (a0_0 != 3) = false := bne_eq_false_iff_eq.mpr c7
   clear c7
   replace H := Option.bind_eq_some_iff.mp H
   obtain ⟨⟨t284, t285⟩, A80, H⟩ := H
   replace H : (some t284) = some r := H
   have A8 := Aside0.mk A80
   clear A80
   obtain rfl := Option.some.inj H
   go_enter Try.func58, Try.ntmps58
   go_wp2_with (first | ((with_reducible refine gate_dst (N := 2) rfl ?_); refine box_event ?hg (N := 2) ?hd (cs := #[.int .i64 a0_0, .slice A0_1 l0_1.length c0_1, .slice A0_2 l0_2.length c0_2, .slice A0_3 l0_3.length c0_3]) (t := 52) ?hr ?_; (case hd => rfl); (case hg => rfl); (case hr => first | (go_simp; done) | (go_simp; rfl)); intro gb282 hg w9 hbox hb; have BK282 := Aside0.mk (hbox); have GW282 := bza HB hg; have GE282 := bza HB hg; replace HB := bsa HB hb; clear hb hbox hg; have hcz10_0 : w9.cell? ⟨gb282, 0, none⟩ = some (.int .i64 a0_0) := (blk_cell BK282.out 0).trans rfl; have hcz10_1 : w9.cell? ⟨gb282, 1, none⟩ = some (.slice A0_1 l0_1.length c0_1) := (blk_cell BK282.out 1).trans rfl; have hcz10_2 : w9.cell? ⟨gb282, 2, none⟩ = some (.slice A0_2 l0_2.length c0_2) := (blk_cell BK282.out 2).trans rfl; have hcz10_3 : w9.cell? ⟨gb282, 3, none⟩ = some (.slice A0_3 l0_3.length c0_3) := (blk_cell BK282.out 3).trans rfl; have hfz10_0 := blk_frozen BK282.out 0; have hfz10_1 := blk_frozen BK282.out 1; have hfz10_2 := blk_frozen BK282.out 2; have hfz10_3 := blk_frozen BK282.out 3) | ((with_reducible refine gate_callee (f := 85) rfl ?_); refine goesL_ (some 21) rfl rfl Try.func85 (by kernel_rfl) rfl #[.slice A0_3 l0_3.length c0_3, .int .i64 a1] rfl (by (try simp only [List.map_toArray, List.map_cons, List.map_nil]); first | done | rfl) ?_; (with_reducible refine (slices_BinarySearch_int_int.calls k _ _ l0_3 a1 t284 t285 _ ?side1 ?side2 A8.out).mono ?_); (case side1 => exact cx (Kd.C_below HR0_3.out HB.out)); (case side2 => exact HC0_3.out); rintro e w' ⟨rfl, ⟨nd, rfl⟩⟩; refine ⟨_, rfl, ?_⟩))
   go_ret
   exact ⟨er, bh HB.out⟩
  ·rw [if_neg c7] at H
   have c7b0 : (a0_0 == 3) = false := beq_eq_false_iff_ne.mpr c7
   have c7b1 : (a0_0 != 3) = true := bne_iff_ne.mpr c7
   replace H := Option.bind_eq_some_iff.mp H
   obtain ⟨t286, A110, H⟩ := H
   replace H : (some t286) = some r := H
   have A11 := Aside0.mk A110
   clear A110
   obtain rfl := Option.some.inj H
   go_enter Try.func58, Try.ntmps58
   go_wp2_with (first | ((with_reducible refine gate_dst (N := 2) rfl ?_); refine box_event ?hg (N := 2) ?hd (cs := #[.int .i64 a0_0, .slice A0_1 l0_1.length c0_1, .slice A0_2 l0_2.length c0_2, .slice A0_3 l0_3.length c0_3]) (t := 52) ?hr ?_; (case hd => rfl); (case hg => rfl); (case hr => first | (go_simp; done) | (go_simp; rfl)); intro gb282 hg w12 hbox hb; have BK282 := Aside0.mk (hbox); have GW282 := bza HB hg; have GE282 := bza HB hg; replace HB := bsa HB hb; clear hb hbox hg; have hcz13_0 : w12.cell? ⟨gb282, 0, none⟩ = some (.int .i64 a0_0) := (blk_cell BK282.out 0).trans rfl; have hcz13_1 : w12.cell? ⟨gb282, 1, none⟩ = some (.slice A0_1 l0_1.length c0_1) := (blk_cell BK282.out 1).trans rfl; have hcz13_2 : w12.cell? ⟨gb282, 2, none⟩ = some (.slice A0_2 l0_2.length c0_2) := (blk_cell BK282.out 2).trans rfl; have hcz13_3 : w12.cell? ⟨gb282, 3, none⟩ = some (.slice A0_3 l0_3.length c0_3) := (blk_cell BK282.out 3).trans rfl; have hfz13_0 := blk_frozen BK282.out 0; have hfz13_1 := blk_frozen BK282.out 1; have hfz13_2 := blk_frozen BK282.out 2; have hfz13_3 := blk_frozen BK282.out 3) | ((with_reducible refine gate_callee (f := 86) rfl ?_); refine goesL_ (some 28) rfl rfl Try.func86 (by kernel_rfl) rfl #[.slice A0_1 l0_1.length c0_1, .int .i64 a1] rfl (by (try simp only [List.map_toArray, List.map_cons, List.map_nil]); first | done | rfl) ?_; (with_reducible refine (span_Rank.calls k _ _ l0_1 a1 t286 _ ?side1 ?side2 A11.out).mono ?_); (case side1 => exact cx (Kd.C_below HR0_1.out HB.out)); (case side2 => exact HC0_1.out); rintro e w14 ⟨rfl, hb⟩; refine ⟨_, rfl, ?_⟩; replace BK282 := bba BK282 hb; replace HB := bsa HB hb; (try clear hb)))
   go_ret
   exact ⟨er, bh HB.out⟩
/-! ### words_Count: function 65 -/
def words_Count.l0 : Nat → Int → List Int → Int → Int → Option (Int)
 | 0, _, _, _, _ => none
 | k + 1, x3, x8, x9, x10 => if x10 < x9 then (if 0 ≤ x10 then (if x10 < (x8.length : Int) then ((bits_Ones.f k (rd x8 x10)).bind fun t289 => (words_Count.l0 k (wrap64 (x3 + t289)) x8 x9 (wrap64 (x10 + 1)))) else (none)) else (none)) else (some x3)
def words_Count.f (k : Nat) (l0 : List Int) : Option (Int) := (words_May.f l0).bind fun t287 => (if t287 = true then (words_Count.l0 k 0 l0 (l0.length : Int) 0) else (some 0))
theorem words_Count.l0_succ (k : Nat) (x3 : Int) (x8 : List Int) (x9 : Int) (x10 : Int) : words_Count.l0 (k + 1) x3 x8 x9 x10 = (if x10 < x9 then (if 0 ≤ x10 then (if x10 < (x8.length : Int) then ((bits_Ones.f k (rd x8 x10)).bind fun t289 => (words_Count.l0 k (wrap64 (x3 + t289)) x8 x9 (wrap64 (x10 + 1)))) else (none)) else (none)) else (some x3)) := by
 simp only [words_Count.l0]
set_option maxHeartbeats 8000000 in
set_option maxRecDepth 100000 in
theorem words_Count.calls (k : Nat) (A0 : Option Addr) (c0 : Nat) (l0 : List Int) (r : Int) (w : World) (hr0 : Kd.C (Kd.int .i64) w A0 l0.length l0) (hc0 : l0.length ≤ c0) (h : words_Count.f k l0 = some r) :
  Calls Try.prog 65 #[.slice A0 l0.length c0] w fun e w' => e = .returned (.int .i64 r) ∧ Drawn0 w w' := by
 have HR0 := Aside0.mk hr0
 have HC0 := Aside0.mk hc0
 clear hr0 hc0
 have H : ((words_May.f l0).bind fun t287 => (if t287 = true then (words_Count.l0 k 0 l0 (l0.length : Int) 0) else (some 0))) = some r := h
 clear h
 replace H := Option.bind_eq_some_iff.mp H
 obtain ⟨t287, A20, H⟩ := H
 replace H : (if t287 = true then (words_Count.l0 k 0 l0 (l0.length : Int) 0) else (some 0)) = some r := H
 have A2 := Aside0.mk A20
 clear A20
 by_cases c3 : t287 = true
 ·subst c3
  have H1 : (words_Count.l0 k 0 l0 (l0.length : Int) 0) = some r := by rw [if_pos rfl] at H; exact H
  clear H
  have H := H1
  clear H1
  have H' := Aside0.mk H
  clear H
  go_enter Try.func65, Try.ntmps65
  go_wp2_with (first | ((with_reducible refine gate_callee (f := 91) rfl ?_); refine goesL_ (some 7) rfl rfl Try.func91 (by kernel_rfl) rfl #[.slice A0 l0.length c0] rfl (by (try simp only [List.map_toArray, List.map_cons, List.map_nil]); first | done | rfl) ?_; (with_reducible refine (words_May.calls _ _ l0 true _ ?side1 ?side2 A2.out).mono ?_); (case side1 => exact cx HR0.out); (case side2 => exact HC0.out); rintro e w' ⟨rfl, ⟨nd, rfl⟩⟩; refine ⟨_, rfl, ?_⟩))
  go_loopg [3, 10] k (fun kq v3 v10 w' => ∃ (x3_1 : Int) (x10_1 : Int), v3 = .int .i64 x3_1 ∧ v10 = .int .i64 x10_1 ∧ Aside0 (words_Count.l0 kq x3_1 l0 (l0.length : Int) x10_1 = some r) ∧ Aside0 (kq ≤ k) ∧ Drawn0 w w')
  case atStart => exact ⟨(0), (0), (by first | rfl | (simp; done) | (simp [*]; done)), (by first | rfl | (simp; done) | (simp [*]; done)), H', ⟨Nat.le_refl _⟩, by repeat (first | exact Drawn0.refl _ | apply Drawn0.step)⟩
  case round =>
   clear H'
   try clear c3
   obtain ⟨x3_1, x10_1, rfl, rfl, HA, HK1, ⟨m1, rfl⟩⟩ := hrel
   cases gk with
   | zero => exact absurd HA.out (by simp [words_Count.l0])
   | succ k1 =>
    have H := HA.out
    clear HA
    simp only [words_Count.l0] at H
    by_cases c4 : x10_1 < (l0.length : Int)
    ·rw [if_pos c4] at H
     have c4b0 : decide (x10_1 < (l0.length : Int)) = true := decide_eq_true c4
     clear c4
     by_cases c5 : 0 ≤ x10_1
     ·rw [if_pos c5] at H
      have c5b0 : decide (0 ≤ x10_1) = true := decide_eq_true c5
      clear c5
      by_cases c6 : x10_1 < (l0.length : Int)
      ·rw [if_pos c6] at H
       have c6b0 : decide (x10_1 < (l0.length : Int)) = true := decide_eq_true c6
       clear c6
       replace H := Option.bind_eq_some_iff.mp H
       obtain ⟨t289, A70, H⟩ := H
       replace H : (words_Count.l0 k1 (wrap64 (x3_1 + t289)) l0 (l0.length : Int) (wrap64 (x10_1 + 1))) = some r := H
       have A7 := Aside0.mk A70
       clear A70
       have H' := Aside0.mk H
       clear H
       have p288 : 0 ≤ (x10_1 : Int) := of_decide_eq_true (by assumption)
       have q288 : x10_1 < (l0.length : Int) := of_decide_eq_true (by assumption)
       obtain ⟨ad288, e288, hx288_0⟩ := Kd.at_int HR0.out x10_1 p288 q288
       cases e288
       replace p288 := eq_true p288
       replace q288 := eq_true q288
       go_wp2_with (first | ((with_reducible refine gate_callee (f := 99) rfl ?_); refine goesL_ (some 16) rfl rfl Try.func99 (by kernel_rfl) rfl #[.int .i64 (rd l0 x10_1)] rfl (by (try simp only [List.map_toArray, List.map_cons, List.map_nil]); first | done | rfl) ?_; (with_reducible refine (bits_Ones.calls k1 (rd l0 x10_1) t289 _ A7.out).mono ?_); rintro e w' ⟨rfl, ⟨nd, rfl⟩⟩; refine ⟨_, rfl, ?_⟩))
       go_roundg k1
       case measure => have := HK1.out; omega
       case rel => exact ⟨(wrap64 (x3_1 + t289)), (wrap64 (x10_1 + 1)), (by first | rfl | (simp; done) | (simp [*]; done)), (by first | rfl | (simp; done) | (simp [*]; done)), H', ⟨by have := HK1.out; omega⟩, by repeat (first | exact Drawn0.refl _ | apply Drawn0.step)⟩
      ·rw [if_neg c6] at H
       exact absurd H (by simp)
     ·rw [if_neg c5] at H
      exact absurd H (by simp)
    ·rw [if_neg c4] at H
     have c4b0 : decide (x10_1 < (l0.length : Int)) = false := decide_eq_false c4
     clear c4
     obtain rfl := Option.some.inj H
     go_wp2
     go_ret
     exact ⟨by first | rfl | (unfold wrap64; rfl) | (simp; done) | (simp [*]; done), by repeat (first | exact Drawn0.refl _ | apply Drawn0.step)⟩
 ·replace c3 := Bool.eq_false_iff.mpr c3
  subst c3
  have H1 : (some 0) = some r := by rw [if_neg (show ¬ (false = true) by decide)] at H; exact H
  clear H
  have H := H1
  clear H1
  obtain rfl := Option.some.inj H
  go_enter Try.func65, Try.ntmps65
  go_wp2_with (first | ((with_reducible refine gate_callee (f := 91) rfl ?_); refine goesL_ (some 7) rfl rfl Try.func91 (by kernel_rfl) rfl #[.slice A0 l0.length c0] rfl (by (try simp only [List.map_toArray, List.map_cons, List.map_nil]); first | done | rfl) ?_; (with_reducible refine (words_May.calls _ _ l0 false _ ?side1 ?side2 A2.out).mono ?_); (case side1 => exact cx HR0.out); (case side2 => exact HC0.out); rintro e w' ⟨rfl, ⟨nd, rfl⟩⟩; refine ⟨_, rfl, ?_⟩))
  go_ret
  exact ⟨by first | rfl | (unfold wrap64; rfl) | (simp; done) | (simp [*]; done), by repeat (first | exact Drawn0.refl _ | apply Drawn0.step)⟩
/-! ### poslist_List_Count: function 35 -/
def poslist_List_Count.f (k : Nat) (a0_0 : Int) (l0_1 : List (S79)) (l0_2 : List Int) (l0_3 : List Int) : Option (Int) := if a0_0 = 2 then ((words_Count.f k l0_2).bind fun t291 => (some t291)) else (if a0_0 = 3 then (some (l0_3.length : Int)) else ((span_Count.f k l0_1).bind fun t292 => (some t292)))
set_option maxHeartbeats 8000000 in
set_option maxRecDepth 100000 in
theorem poslist_List_Count.calls (k : Nat) (a0_0 : Int) (A0_1 : Option Addr) (c0_1 : Nat) (l0_1 : List (S79)) (A0_2 : Option Addr) (c0_2 : Nat) (l0_2 : List Int) (A0_3 : Option Addr) (c0_3 : Nat) (l0_3 : List Int) (r : Int) (w : World) (hr0_1 : Kd.C k79 w A0_1 l0_1.length l0_1) (hc0_1 : l0_1.length ≤ c0_1) (hr0_2 : Kd.C (Kd.int .i64) w A0_2 l0_2.length l0_2) (hc0_2 : l0_2.length ≤ c0_2) (hr0_3 : Kd.C (Kd.int .i64) w A0_3 l0_3.length l0_3) (hc0_3 : l0_3.length ≤ c0_3) (h : poslist_List_Count.f k a0_0 l0_1 l0_2 l0_3 = some r) :
  Calls Try.prog 35 #[.agg #[.int .i64 a0_0, .slice A0_1 l0_1.length c0_1, .slice A0_2 l0_2.length c0_2, .slice A0_3 l0_3.length c0_3]] w fun e w' => e = .returned (.int .i64 r) ∧ Below w.heap.size w w' := by
 have hu52 := Try.underlying52
 have HR0_1 := Aside0.mk hr0_1
 have HC0_1 := Aside0.mk hc0_1
 clear hr0_1 hc0_1
 have HR0_2 := Aside0.mk hr0_2
 have HC0_2 := Aside0.mk hc0_2
 clear hr0_2 hc0_2
 have HR0_3 := Aside0.mk hr0_3
 have HC0_3 := Aside0.mk hc0_3
 clear hr0_3 hc0_3
 have HB := Aside0.mk (Below.refl w.heap.size w)
 have H : (if a0_0 = 2 then ((words_Count.f k l0_2).bind fun t291 => (some t291)) else (if a0_0 = 3 then (some (l0_3.length : Int)) else ((span_Count.f k l0_1).bind fun t292 => (some t292)))) = some r := h
 clear h
 by_cases c2 : a0_0 = 2
 ·rw [if_pos c2] at H
  have c2b0 : (a0_0 == 2) = true := beq_iff_eq.mpr c2
  have c2b1 : (a0_0 != 2) = false := bne_eq_false_iff_eq.mpr c2
  clear c2
  replace H := Option.bind_eq_some_iff.mp H
  obtain ⟨t291, A30, H⟩ := H
  replace H : (some t291) = some r := H
  have A3 := Aside0.mk A30
  clear A30
  obtain rfl := Option.some.inj H
  go_enter Try.func35, Try.ntmps35
  go_wp2_with (first | ((with_reducible refine gate_dst (N := 1) rfl ?_); refine box_event ?hg (N := 1) ?hd (cs := #[.int .i64 a0_0, .slice A0_1 l0_1.length c0_1, .slice A0_2 l0_2.length c0_2, .slice A0_3 l0_3.length c0_3]) (t := 52) ?hr ?_; (case hd => rfl); (case hg => rfl); (case hr => first | (go_simp; done) | (go_simp; rfl)); intro gb290 hg w4 hbox hb; have BK290 := Aside0.mk (hbox); have GW290 := bza HB hg; have GE290 := bza HB hg; replace HB := bsa HB hb; clear hb hbox hg; have hcz5_0 : w4.cell? ⟨gb290, 0, none⟩ = some (.int .i64 a0_0) := (blk_cell BK290.out 0).trans rfl; have hcz5_1 : w4.cell? ⟨gb290, 1, none⟩ = some (.slice A0_1 l0_1.length c0_1) := (blk_cell BK290.out 1).trans rfl; have hcz5_2 : w4.cell? ⟨gb290, 2, none⟩ = some (.slice A0_2 l0_2.length c0_2) := (blk_cell BK290.out 2).trans rfl; have hcz5_3 : w4.cell? ⟨gb290, 3, none⟩ = some (.slice A0_3 l0_3.length c0_3) := (blk_cell BK290.out 3).trans rfl; have hfz5_0 := blk_frozen BK290.out 0; have hfz5_1 := blk_frozen BK290.out 1; have hfz5_2 := blk_frozen BK290.out 2; have hfz5_3 := blk_frozen BK290.out 3) | ((with_reducible refine gate_callee (f := 65) rfl ?_); refine goesL_ (some 9) rfl rfl Try.func65 (by kernel_rfl) rfl #[.slice A0_2 l0_2.length c0_2] rfl (by (try simp only [List.map_toArray, List.map_cons, List.map_nil]); first | done | rfl) ?_; (with_reducible refine (words_Count.calls k _ _ l0_2 t291 _ ?side1 ?side2 A3.out).mono ?_); (case side1 => exact cx (Kd.C_below HR0_2.out HB.out)); (case side2 => exact HC0_2.out); rintro e w' ⟨rfl, ⟨nd, rfl⟩⟩; refine ⟨_, rfl, ?_⟩))
  go_ret
  exact ⟨er, bh HB.out⟩
 ·rw [if_neg c2] at H
  have c2b0 : (a0_0 == 2) = false := beq_eq_false_iff_ne.mpr c2
  have c2b1 : (a0_0 != 2) = true := bne_iff_ne.mpr c2
  by_cases c6 : a0_0 = 3
  ·rw [if_pos c6] at H
   have c6b0 : (a0_0 == 3) = true := beq_iff_eq.mpr c6
   have c6b1 : (a0_0 != 3) = false := bne_eq_false_iff_eq.mpr c6
   clear c6
   obtain rfl := Option.some.inj H
   go_enter Try.func35, Try.ntmps35
   go_wp2_with (first | ((with_reducible refine gate_dst (N := 1) rfl ?_); refine box_event ?hg (N := 1) ?hd (cs := #[.int .i64 a0_0, .slice A0_1 l0_1.length c0_1, .slice A0_2 l0_2.length c0_2, .slice A0_3 l0_3.length c0_3]) (t := 52) ?hr ?_; (case hd => rfl); (case hg => rfl); (case hr => first | (go_simp; done) | (go_simp; rfl)); intro gb290 hg w7 hbox hb; have BK290 := Aside0.mk (hbox); have GW290 := bza HB hg; have GE290 := bza HB hg; replace HB := bsa HB hb; clear hb hbox hg; have hcz8_0 : w7.cell? ⟨gb290, 0, none⟩ = some (.int .i64 a0_0) := (blk_cell BK290.out 0).trans rfl; have hcz8_1 : w7.cell? ⟨gb290, 1, none⟩ = some (.slice A0_1 l0_1.length c0_1) := (blk_cell BK290.out 1).trans rfl; have hcz8_2 : w7.cell? ⟨gb290, 2, none⟩ = some (.slice A0_2 l0_2.length c0_2) := (blk_cell BK290.out 2).trans rfl; have hcz8_3 : w7.cell? ⟨gb290, 3, none⟩ = some (.slice A0_3 l0_3.length c0_3) := (blk_cell BK290.out 3).trans rfl; have hfz8_0 := blk_frozen BK290.out 0; have hfz8_1 := blk_frozen BK290.out 1; have hfz8_2 := blk_frozen BK290.out 2; have hfz8_3 := blk_frozen BK290.out 3))
   go_ret
   exact ⟨er, bh HB.out⟩
  ·rw [if_neg c6] at H
   have c6b0 : (a0_0 == 3) = false := beq_eq_false_iff_ne.mpr c6
   have c6b1 : (a0_0 != 3) = true := bne_iff_ne.mpr c6
   replace H := Option.bind_eq_some_iff.mp H
   obtain ⟨t292, A90, H⟩ := H
   replace H : (some t292) = some r := H
   have A9 := Aside0.mk A90
   clear A90
   obtain rfl := Option.some.inj H
   go_enter Try.func35, Try.ntmps35
   go_wp2_with (first | ((with_reducible refine gate_dst (N := 1) rfl ?_); refine box_event ?hg (N := 1) ?hd (cs := #[.int .i64 a0_0, .slice A0_1 l0_1.length c0_1, .slice A0_2 l0_2.length c0_2, .slice A0_3 l0_3.length c0_3]) (t := 52) ?hr ?_; (case hd => rfl); (case hg => rfl); (case hr => first | (go_simp; done) | (go_simp; rfl)); intro gb290 hg w10 hbox hb; have BK290 := Aside0.mk (hbox); have GW290 := bza HB hg; have GE290 := bza HB hg; replace HB := bsa HB hb; clear hb hbox hg; have hcz11_0 : w10.cell? ⟨gb290, 0, none⟩ = some (.int .i64 a0_0) := (blk_cell BK290.out 0).trans rfl; have hcz11_1 : w10.cell? ⟨gb290, 1, none⟩ = some (.slice A0_1 l0_1.length c0_1) := (blk_cell BK290.out 1).trans rfl; have hcz11_2 : w10.cell? ⟨gb290, 2, none⟩ = some (.slice A0_2 l0_2.length c0_2) := (blk_cell BK290.out 2).trans rfl; have hcz11_3 : w10.cell? ⟨gb290, 3, none⟩ = some (.slice A0_3 l0_3.length c0_3) := (blk_cell BK290.out 3).trans rfl; have hfz11_0 := blk_frozen BK290.out 0; have hfz11_1 := blk_frozen BK290.out 1; have hfz11_2 := blk_frozen BK290.out 2; have hfz11_3 := blk_frozen BK290.out 3) | ((with_reducible refine gate_callee (f := 66) rfl ?_); refine goesL_ (some 17) rfl rfl Try.func66 (by kernel_rfl) rfl #[.slice A0_1 l0_1.length c0_1] rfl (by (try simp only [List.map_toArray, List.map_cons, List.map_nil]); first | done | rfl) ?_; (with_reducible refine (span_Count.calls k _ _ l0_1 t292 _ ?side1 ?side2 A9.out).mono ?_); (case side1 => exact cx (Kd.C_below HR0_1.out HB.out)); (case side2 => exact HC0_1.out); rintro e w12 ⟨rfl, hb⟩; refine ⟨_, rfl, ?_⟩; replace BK290 := bba BK290 hb; replace HB := bsa HB hb; (try clear hb)))
   go_ret
   exact ⟨er, bh HB.out⟩
/-! ### bits_Next: function 88 -/
def bits_Next.f (k : Nat) (a0 : Int) (a1 : Int) : Option (Int) := if (mx a1 0) ≥ 64 then (some (-1)) else (if (shl .u64 (shr .u64 (IntKind.u64.wrap (a0)) (mx a1 0)) (mx a1 0)) = 0 then (some (-1)) else ((bits_Width.f k (wrap64 (Go.bits .and .u64 (shl .u64 (shr .u64 (IntKind.u64.wrap (a0)) (mx a1 0)) (mx a1 0)) (IntKind.u64.wrap (-(shl .u64 (shr .u64 (IntKind.u64.wrap (a0)) (mx a1 0)) (mx a1 0))))))).bind fun t293 => (some (wrap64 (t293 - 1)))))
set_option maxHeartbeats 8000000 in
set_option maxRecDepth 100000 in
theorem bits_Next.calls (k : Nat) (a0 : Int) (a1 : Int) (r : Int) (w : World) (h : bits_Next.f k a0 a1 = some r) :
  Calls Try.prog 88 #[.int .i64 a0, .int .i64 a1] w fun e w' => e = .returned (.int .i64 r) ∧ Below w.heap.size w w' := by
 have HB := Aside0.mk (Below.refl w.heap.size w)
 have H : (if (mx a1 0) ≥ 64 then (some (-1)) else (if (shl .u64 (shr .u64 (IntKind.u64.wrap (a0)) (mx a1 0)) (mx a1 0)) = 0 then (some (-1)) else ((bits_Width.f k (wrap64 (Go.bits .and .u64 (shl .u64 (shr .u64 (IntKind.u64.wrap (a0)) (mx a1 0)) (mx a1 0)) (IntKind.u64.wrap (-(shl .u64 (shr .u64 (IntKind.u64.wrap (a0)) (mx a1 0)) (mx a1 0))))))).bind fun t293 => (some (wrap64 (t293 - 1)))))) = some r := h
 clear h
 obtain ⟨ji3, hji3⟩ : ∃ j_ : Int, (mx a1 0) = j_ := ⟨_, rfl⟩
 replace H : (if (ji3) ≥ 64 then (some (-1)) else (if (shl .u64 (shr .u64 (IntKind.u64.wrap (a0)) (ji3)) (ji3)) = 0 then (some (-1)) else ((bits_Width.f k (wrap64 (Go.bits .and .u64 (shl .u64 (shr .u64 (IntKind.u64.wrap (a0)) (ji3)) (ji3)) (IntKind.u64.wrap (-(shl .u64 (shr .u64 (IntKind.u64.wrap (a0)) (ji3)) (ji3))))))).bind fun t293 => (some (wrap64 (t293 - 1)))))) = some r := by first | (rw [hji3] at H; exact H) | (simp only [hji3] at H ⊢; exact H)
 (try (have hji3l : 0 ≤ ji3 := by (rw [← hji3]; unfold mx; (repeat' split) <;> omega)))
 (try (have hji3m : 0 ≤ ji3 := by omega))
 have hji3_ : (if a1 < 0 then 0 else a1) = ji3 := hji3
 by_cases c4 : (ji3) ≥ 64
 ·rw [if_pos c4] at H
  have c4b0 : decide (64 ≤ (ji3)) = true := decide_eq_true c4
  clear c4
  obtain rfl := Option.some.inj H
  go_enter Try.func88, Try.ntmps88
  go_wp2
  go_ret
  exact ⟨by first | rfl | (simp [errW_none, errW_some] <;> rfl) | (simp only [← hji3]; first | rfl | (simp [errW_none, errW_some] <;> rfl)) | (simp [*, errW_none, errW_some] <;> rfl), bh HB.out⟩
 ·rw [if_neg c4] at H
  have c4b0 : decide (64 ≤ (ji3)) = false := decide_eq_false c4
  clear c4
  obtain ⟨ji5, hji5⟩ : ∃ j_ : Int, (shr .u64 (IntKind.u64.wrap (a0)) (ji3)) = j_ := ⟨_, rfl⟩
  replace H : (if (shl .u64 (ji5) (ji3)) = 0 then (some (-1)) else ((bits_Width.f k (wrap64 (Go.bits .and .u64 (shl .u64 (ji5) (ji3)) (IntKind.u64.wrap (-(shl .u64 (ji5) (ji3))))))).bind fun t293 => (some (wrap64 (t293 - 1))))) = some r := by first | (rw [hji5] at H; exact H) | (simp only [hji5] at H ⊢; exact H)
  have hji5_ : ((IntKind.u64.wrap (a0)) / 2 ^ min (ji3).toNat 64) = ji5 := hji5
  have hji5z : (ji3) ≤ 64 → ((IntKind.u64.wrap (a0)) / 2 ^ (ji3).toNat) = ji5 := shr_small hji5
  obtain ⟨ji6, hji6⟩ : ∃ j_ : Int, (shl .u64 (ji5) (ji3)) = j_ := ⟨_, rfl⟩
  replace H : (if (ji6) = 0 then (some (-1)) else ((bits_Width.f k (wrap64 (Go.bits .and .u64 (ji6) (IntKind.u64.wrap (-(ji6)))))).bind fun t293 => (some (wrap64 (t293 - 1))))) = some r := by first | (rw [hji6] at H; exact H) | (simp only [hji6] at H ⊢; exact H)
  have hji6_ : (IntKind.u64.wrap ((ji5) * 2 ^ min (ji3).toNat 64)) = ji6 := hji6
  have hji6z : (ji3) ≤ 64 → (IntKind.u64.wrap ((ji5) * 2 ^ (ji3).toNat)) = ji6 := shl_small hji6
  by_cases c7 : (ji6) = 0
  ·rw [if_pos c7] at H
   have c7b0 : ((ji6) == 0) = true := beq_iff_eq.mpr c7
   have c7b1 : ((ji6) != 0) = false := bne_eq_false_iff_eq.mpr c7
   clear c7
   obtain rfl := Option.some.inj H
   go_enter Try.func88, Try.ntmps88
   go_wp2
   go_ret
   exact ⟨by first | rfl | (simp [errW_none, errW_some] <;> rfl) | (simp only [← hji3, ← hji5, ← hji6]; first | rfl | (simp [errW_none, errW_some] <;> rfl)) | (simp [*, errW_none, errW_some] <;> rfl), bh HB.out⟩
  ·rw [if_neg c7] at H
   have c7b0 : ((ji6) == 0) = false := beq_eq_false_iff_ne.mpr c7
   have c7b1 : ((ji6) != 0) = true := bne_iff_ne.mpr c7
   replace H := Option.bind_eq_some_iff.mp H
   obtain ⟨t293, A80, H⟩ := H
   replace H : (some (wrap64 (t293 - 1))) = some r := H
   have A8 := Aside0.mk A80
   clear A80
   obtain rfl := Option.some.inj H
   go_enter Try.func88, Try.ntmps88
   go_wp2_with (first | ((with_reducible refine gate_callee (f := 100) rfl ?_); refine goesL_ (some 23) rfl rfl Try.func100 (by kernel_rfl) rfl #[.int .i64 (wrap64 (Go.bits .and .u64 (ji6) (IntKind.u64.wrap (-(ji6)))))] rfl (by (try simp only [List.map_toArray, List.map_cons, List.map_nil]); first | done | (simp only [hji6]; rfl) | rfl | (simp only [List.length_drop, List.length_take]; rfl)) ?_; (with_reducible refine (bits_Width.calls k (wrap64 (Go.bits .and .u64 (ji6) (IntKind.u64.wrap (-(ji6))))) t293 _ A8.out).mono ?_); rintro e w' ⟨rfl, ⟨nd, rfl⟩⟩; refine ⟨_, rfl, ?_⟩))
   go_ret
   exact ⟨by first | rfl | (simp [errW_none, errW_some] <;> rfl) | (simp only [← hji3, ← hji5, ← hji6]; first | rfl | (simp [errW_none, errW_some] <;> rfl)) | (simp [*, errW_none, errW_some] <;> rfl), bh HB.out⟩
end Go.Proofs.Ytbmlfbbcgbgnoaa.Print
end
section
namespace Go.Proofs.Ytbmlfbbcgbgnoaa.Print
open Go.RowKit Go.Proofs.YtbmlfbbcgbgnoaaW.PrintWords Go.Proofs.YtbmlfbbcgbgnoaaW.PrintLast Go.Proofs.YtbmlfbbcgbgnoaaW.PrintMore
attribute [local go_sem] max2_int min2_int max_two min_two max_three min_three max_four min_four   -- for this text's walks alone
set_option linter.unusedVariables false
set_option linter.unusedSimpArgs false
/-! ### poslist_List_Places_1: function 87 -/
mutual
def poslist_List_Places_1.l0 : Nat → List Int → Int → Int → Option (List (Int))
 | 0, _, _, _ => none
 | k + 1, x18, x19, x20 => if x20 < x19 then (if 0 ≤ x20 then (if x20 < (x18.length : Int) then ((bits_Next.f k (rd x18 x20) 0).bind fun t296 => (poslist_List_Places_1.l1 k x20 (rd x18 x20) t296 x18 x19 x20)) else (none)) else (none)) else (some [])
def poslist_List_Places_1.l1 : Nat → Int → Int → Int → List Int → Int → Int → Option (List (Int))
 | 0, _, _, _, _, _, _ => none
 | k + 1, x14, x15, x16, x18, x19, x20 => if x16 ≥ 0 then (((bits_Next.f k x15 (wrap64 (x16 + 1))).bind fun t297 => (poslist_List_Places_1.l1 k x14 x15 t297 x18 x19 x20)).bind fun lr_ => (some ((wrap64 ((wrap64 (64 * x14)) + x16)) :: lr_))) else (poslist_List_Places_1.l0 k x18 x19 (wrap64 (x20 + 1)))
end
def poslist_List_Places_1.f (k : Nat) (a0_0 : Int) (l0_1 : List (S79)) (l0_2 : List Int) (l0_3 : List Int) : Option (List (Int)) := poslist_List_Places_1.l0 k l0_2 (l0_2.length : Int) 0
theorem poslist_List_Places_1.l0_succ (k : Nat) (x18 : List Int) (x19 : Int) (x20 : Int) : poslist_List_Places_1.l0 (k + 1) x18 x19 x20 = (if x20 < x19 then (if 0 ≤ x20 then (if x20 < (x18.length : Int) then ((bits_Next.f k (rd x18 x20) 0).bind fun t296 => (poslist_List_Places_1.l1 k x20 (rd x18 x20) t296 x18 x19 x20)) else (none)) else (none)) else (some [])) := by
 simp only [poslist_List_Places_1.l0]
theorem poslist_List_Places_1.l1_succ (k : Nat) (x14 : Int) (x15 : Int) (x16 : Int) (x18 : List Int) (x19 : Int) (x20 : Int) : poslist_List_Places_1.l1 (k + 1) x14 x15 x16 x18 x19 x20 = (if x16 ≥ 0 then (((bits_Next.f k x15 (wrap64 (x16 + 1))).bind fun t297 => (poslist_List_Places_1.l1 k x14 x15 t297 x18 x19 x20)).bind fun lr_ => (some ((wrap64 ((wrap64 (64 * x14)) + x16)) :: lr_))) else (poslist_List_Places_1.l0 k x18 x19 (wrap64 (x20 + 1)))) := by
 simp only [poslist_List_Places_1.l1]
set_option maxHeartbeats 8000000 in
set_option maxRecDepth 100000 in
theorem poslist_List_Places_1.iter (k : Nat) (a0_0 : Int) (A0_1 : Option Addr) (c0_1 : Nat) (l0_1 : List (S79)) (A0_2 : Option Addr) (c0_2 : Nat) (l0_2 : List Int) (A0_3 : Option Addr) (c0_3 : Nat) (l0_3 : List Int) (xs : List (Int)) (w W0 : World) (gb294 : Nat) (hr0_1 : Kd.C k79 w A0_1 l0_1.length l0_1) (hc0_1 : l0_1.length ≤ c0_1) (hr0_2 : Kd.C (Kd.int .i64) w A0_2 l0_2.length l0_2) (hc0_2 : l0_2.length ≤ c0_2) (hr0_3 : Kd.C (Kd.int .i64) w A0_3 l0_3.length l0_3) (hc0_3 : l0_3.length ≤ c0_3) (hB0 : Below w.heap.size w W0) (hg0 : W0.heap[gb294]? = some (.cells #[.int .i64 a0_0, .slice A0_1 l0_1.length c0_1, .slice A0_2 l0_2.length c0_2, .slice A0_3 l0_3.length c0_3] 52 (0, 0))) (he0 : w.heap.size ≤ gb294)  (h : poslist_List_Places_1.f k a0_0 l0_1 l0_2 l0_3 = some xs) :
  XR.Iter Try.prog (fun x : Int => #[.int .i64 x]) w (fun k_ => k_ = gb294) 87 #[.pointer (some ⟨gb294, 0, none⟩)] xs W0 := by
 intro n_ l_ J_ Jx_ W_ hWs_ hWf_ hJs_ hJxs_ hJB_ hY_ h0_
 refine callsIn_wide.2 ?_
 have hu52 := Try.underlying52
 have HR0_1 := Aside0.mk hr0_1
 have HC0_1 := Aside0.mk hc0_1
 clear hr0_1 hc0_1
 have HR0_2 := Aside0.mk hr0_2
 have HC0_2 := Aside0.mk hc0_2
 clear hr0_2 hc0_2
 have HR0_3 := Aside0.mk hr0_3
 have HC0_3 := Aside0.mk hc0_3
 clear hr0_3 hc0_3
 have H : (poslist_List_Places_1.l0 k l0_2 (l0_2.length : Int) 0) = some xs := h
 clear h
 have H' := Aside0.mk H
 clear H
 have BK294 := Aside0.mk ((hWf_ _ (Array.getElem?_eq_some_iff.1 hg0).1 rfl).trans hg0)
 have GE294 := Aside0.mk he0
 have GW294 := Aside0.mk he0
 have HB := Aside0.mk (XR.b2_refl (hJB_ _ _ _ h0_))
 obtain ⟨G_, HJ_⟩ : ∃ G', Aside0 (J_ G' [] W_) := ⟨_, ⟨h0_⟩⟩
 have HX_ := Aside0.mk (show xs = [] ++ xs from rfl)
 go_enter Try.func87, Try.ntmps87
 have hcz3_0 : W_.cell? ⟨gb294, 0, none⟩ = some (.int .i64 a0_0) := (blk_cell BK294.out 0).trans rfl
 have hcz3_1 : W_.cell? ⟨gb294, 1, none⟩ = some (.slice A0_1 l0_1.length c0_1) := (blk_cell BK294.out 1).trans rfl
 have hcz3_2 : W_.cell? ⟨gb294, 2, none⟩ = some (.slice A0_2 l0_2.length c0_2) := (blk_cell BK294.out 2).trans rfl
 have hcz3_3 : W_.cell? ⟨gb294, 3, none⟩ = some (.slice A0_3 l0_3.length c0_3) := (blk_cell BK294.out 3).trans rfl
 have hfz3_0 := blk_frozen BK294.out 0
 have hfz3_1 := blk_frozen BK294.out 1
 have hfz3_2 := blk_frozen BK294.out 2
 have hfz3_3 := blk_frozen BK294.out 3
 go_wp2
 go_loopg [9] k (fun kq v20 w' => ∃ (G_ : Nat → Prop) (pre_ r : List (Int)) (x20_1 : Int), v20 = .int .i64 x20_1 ∧ Aside0 (poslist_List_Places_1.l0 kq l0_2 (l0_2.length : Int) x20_1 = some r) ∧ Aside0 (xs = pre_ ++ r) ∧ Aside0 (J_ G_ pre_ w') ∧ Aside0 (kq ≤ k) ∧ Aside0 (w'.heap[gb294]? = some (.cells #[.int .i64 a0_0, (.slice A0_1 l0_1.length c0_1), (.slice A0_2 l0_2.length c0_2), (.slice A0_3 l0_3.length c0_3)] 52 (0, 0))) ∧ Aside0 (Below w.heap.size w w'))
 case atStart => exact ⟨XR.grow G_ W_ _, [], xs, (0), (by first | rfl | (simp; done) | (simp [*]; done)), H', ⟨HX_.out⟩, ⟨hJs_ _ _ _ _ HJ_.out (XR.B2.two (w := w) (by repeat (first | (with_reducible first | exact HB.out | apply XR.b2_alloc | apply XR.b2_drewN | apply XR.b2_drew1 | refine XR.b2_set ?_ GE294.out) | exact HB.out)))⟩, ⟨Nat.le_refl _⟩, ⟨bx BK294.out⟩, ⟨XR.B2.one (w1 := W_) (by repeat (first | (with_reducible first | exact HB.out | apply XR.b2_alloc | apply XR.b2_drewN | apply XR.b2_drew1 | refine XR.b2_set ?_ GE294.out) | exact HB.out))⟩⟩
 case round =>
  clear H'
  try clear hcz3_0
  try clear hcz3_1
  try clear hcz3_2
  try clear hcz3_3
  try clear hfz3_0
  try clear hfz3_1
  try clear hfz3_2
  try clear hfz3_3
  obtain ⟨G_, pre_, r, x20_1, rfl, HA, HX_, HJ_, HK1, BK294, HB⟩ := hrel
  have HB := Aside0.mk (XR.b2_refl HB.out)
  cases gk with
  | zero => exact absurd HA.out (by simp [poslist_List_Places_1.l0])
  | succ k1 =>
   have H := HA.out
   clear HA
   simp only [poslist_List_Places_1.l0] at H
   by_cases c4 : x20_1 < (l0_2.length : Int)
   ·rw [if_pos c4] at H
    have c4b0 : decide (x20_1 < (l0_2.length : Int)) = true := decide_eq_true c4
    clear c4
    by_cases c5 : 0 ≤ x20_1
    ·rw [if_pos c5] at H
     have c5b0 : decide (0 ≤ x20_1) = true := decide_eq_true c5
     clear c5
     by_cases c6 : x20_1 < (l0_2.length : Int)
     ·rw [if_pos c6] at H
      have c6b0 : decide (x20_1 < (l0_2.length : Int)) = true := decide_eq_true c6
      clear c6
      replace H := Option.bind_eq_some_iff.mp H
      obtain ⟨t296, A70, H⟩ := H
      replace H : (poslist_List_Places_1.l1 k1 x20_1 (rd l0_2 x20_1) t296 l0_2 (l0_2.length : Int) x20_1) = some r := H
      have A7 := Aside0.mk A70
      clear A70
      have H' := Aside0.mk H
      clear H
      have p295 : 0 ≤ (x20_1 : Int) := of_decide_eq_true (by assumption)
      have q295 : x20_1 < (l0_2.length : Int) := of_decide_eq_true (by assumption)
      obtain ⟨ad295, e295, hx295_0⟩ := Kd.at_int HR0_2.out x20_1 p295 q295
      cases e295
      replace hx295_0 := (HB.out.cell (World.block_lt_of_cell? w _ hx295_0)).trans hx295_0
      replace p295 := eq_true p295
      replace q295 := eq_true q295
      go_wp2_with (first | ((with_reducible refine gate_callee (f := 88) rfl ?_); refine goesL_ (some 15) rfl rfl Try.func88 (by kernel_rfl) rfl #[.int .i64 (rd l0_2 x20_1), .int .i64 0] rfl (by (try simp only [List.map_toArray, List.map_cons, List.map_nil]); first | done | rfl) ?_; (with_reducible refine (bits_Next.calls k1 (rd l0_2 x20_1) 0 t296 _ A7.out).mono ?_); rintro e w8 ⟨rfl, hb⟩; refine ⟨_, rfl, ?_⟩; replace BK294 := bba BK294 hb; replace HB := Aside0.mk (XR.b2_step (by repeat (first | (with_reducible first | exact HB.out | apply XR.b2_alloc | apply XR.b2_drewN | apply XR.b2_drew1 | refine XR.b2_set ?_ GE294.out) | exact HB.out)) hb); (try clear hb)) | go_in)
      go_loopg [5] k1 (fun kq v16 w' => ∃ (G_ : Nat → Prop) (pre_ r : List (Int)) (x16_2 : Int), v16 = .int .i64 x16_2 ∧ Aside0 (poslist_List_Places_1.l1 kq x20_1 (rd l0_2 x20_1) x16_2 l0_2 (l0_2.length : Int) x20_1 = some r) ∧ Aside0 (xs = pre_ ++ r) ∧ Aside0 (J_ G_ pre_ w') ∧ Aside0 (kq ≤ k1) ∧ Aside0 (w'.heap[gb294]? = some (.cells #[.int .i64 a0_0, (.slice A0_1 l0_1.length c0_1), (.slice (some ad295) l0_2.length c0_2), (.slice A0_3 l0_3.length c0_3)] 52 (0, 0))) ∧ Aside0 (Below w.heap.size w w'))
      case atStart => exact ⟨XR.grow G_ wr _, pre_, r, (t296), (by first | rfl | (simp; done) | (simp [*]; done)), H', ⟨HX_.out⟩, ⟨hJs_ _ _ _ _ HJ_.out (XR.B2.two (w := w) (by repeat (first | (with_reducible first | exact HB.out | apply XR.b2_alloc | apply XR.b2_drewN | apply XR.b2_drew1 | refine XR.b2_set ?_ GE294.out) | exact HB.out)))⟩, ⟨Nat.le_refl _⟩, ⟨bx BK294.out⟩, ⟨XR.B2.one (w1 := wr) (by repeat (first | (with_reducible first | exact HB.out | apply XR.b2_alloc | apply XR.b2_drewN | apply XR.b2_drew1 | refine XR.b2_set ?_ GE294.out) | exact HB.out))⟩⟩
      case round =>
       clear H'
       try clear c4
       try clear c4b0
       try clear c5
       try clear c5b0
       try clear c6
       try clear c6b0
       try clear hcz3_0
       try clear hcz3_1
       try clear hcz3_2
       try clear hcz3_3
       try clear hfz3_0
       try clear hfz3_1
       try clear hfz3_2
       try clear hfz3_3
       try clear hx295_0
       try clear p295
       try clear q295
       obtain ⟨G_, pre_, r, x16_2, rfl, HA, HX_, HJ_, HK2, BK294, HB⟩ := hrel
       have HB := Aside0.mk (XR.b2_refl HB.out)
       cases gk with
       | zero => exact absurd HA.out (by simp [poslist_List_Places_1.l1])
       | succ k2 =>
        have H := HA.out
        clear HA
        simp only [poslist_List_Places_1.l1] at H
        by_cases c9 : x16_2 ≥ 0
        ·rw [if_pos c9] at H
         have c9b0 : decide (0 ≤ x16_2) = true := decide_eq_true c9
         clear c9
         replace H := Option.bind_eq_some_iff.mp H
         obtain ⟨r2_, H, hr2_⟩ := H
         replace hr2_ : (wrap64 ((wrap64 (64 * x20_1)) + x16_2)) :: r2_ = r := Option.some.inj hr2_
         have HR2_ := Aside0.mk hr2_
         clear hr2_
         replace H : ((bits_Next.f k2 (rd l0_2 x20_1) (wrap64 (x16_2 + 1))).bind fun t297 => (poslist_List_Places_1.l1 k2 x20_1 (rd l0_2 x20_1) t297 l0_2 (l0_2.length : Int) x20_1)) = some r2_ := H
         replace H := Option.bind_eq_some_iff.mp H
         obtain ⟨t297, A110, H⟩ := H
         replace H : (poslist_List_Places_1.l1 k2 x20_1 (rd l0_2 x20_1) t297 l0_2 (l0_2.length : Int) x20_1) = some r2_ := H
         have A11 := Aside0.mk A110
         clear A110
         have H' := Aside0.mk H
         clear H
         go_upto_region 6 with (go_in)
         refine (wpIn_wide (n := n_)).1 ?_
         obtain ⟨fn_, tm_, as_, bd_, hy_, hR_⟩ := hY_ pre_ (wrap64 ((wrap64 (64 * x20_1)) + x16_2)) r2_ _ _ (by rw [HX_.out, ← HR2_.out]) (hJs_ _ _ _ _ HJ_.out (XR.B2.two (w := w) HB.out))
         (try dsimp only at hy_)
         gi_wp2
         refine ⟨fun hd_ => (by cases hd_), hR_.mono ?_⟩
         rintro e_ w12 (⟨rfl, hJ3_, hsz_, hkp_⟩ | ⟨rfl, hx3_⟩)
         rotate_left
         ·gi_wp2
          try go_wp2
          refine bodyPost_ret (results_none rfl _ _ _) rfl ?_
          exact ⟨⟨_, rfl⟩, .inr ⟨pre_ ++ [(wrap64 ((wrap64 (64 * x20_1)) + x16_2))], ⟨r2_, by rw [HX_.out, ← HR2_.out]; simp⟩, hx3_⟩⟩
         have lt294_ := blk_lt BK294.out
         replace BK294 := Aside0.mk ((hkp_ _ lt294_ (.inl rfl)).trans BK294.out)
         replace HB := Aside0.mk (XR.b2_refl (hJB_ _ _ _ hJ3_))
         obtain ⟨G_, HJ_⟩ : ∃ G', Aside0 (J_ G' (pre_ ++ [(wrap64 ((wrap64 (64 * x20_1)) + x16_2))]) w12) := ⟨_, ⟨hJ3_⟩⟩
         have HX_ := Aside0.mk (show xs = (pre_ ++ [(wrap64 ((wrap64 (64 * x20_1)) + x16_2))]) ++ r2_ by rw [HX_.out, ← HR2_.out]; simp)
         clear hJ3_ hkp_
         gi_wp2
         go_wp2_with (first | ((with_reducible refine gate_callee (f := 88) rfl ?_); refine goesL_ (some 21) rfl rfl Try.func88 (by kernel_rfl) rfl #[.int .i64 (rd l0_2 x20_1), .int .i64 (wrap64 (x16_2 + 1))] rfl (by (try simp only [List.map_toArray, List.map_cons, List.map_nil]); first | done | rfl) ?_; (with_reducible refine (bits_Next.calls k2 (rd l0_2 x20_1) (wrap64 (x16_2 + 1)) t297 _ A11.out).mono ?_); rintro e w13 ⟨rfl, hb⟩; refine ⟨_, rfl, ?_⟩; replace BK294 := bba BK294 hb; replace HB := Aside0.mk (XR.b2_step (by repeat (first | (with_reducible first | exact HB.out | apply XR.b2_alloc | apply XR.b2_drewN | apply XR.b2_drew1 | refine XR.b2_set ?_ GE294.out) | exact HB.out)) hb); (try clear hb)) | go_in)
         go_roundg k2
         case measure => have := HK1.out; have := HK2.out; omega
         case rel => exact ⟨XR.grow G_ w12 _, (pre_ ++ [(wrap64 ((wrap64 (64 * x20_1)) + x16_2))]), r2_, (t297), (by first | rfl | (simp; done) | (simp [*]; done)), H', ⟨HX_.out⟩, ⟨hJs_ _ _ _ _ HJ_.out (XR.B2.two (w := w) (by repeat (first | (with_reducible first | exact HB.out | apply XR.b2_alloc | apply XR.b2_drewN | apply XR.b2_drew1 | refine XR.b2_set ?_ GE294.out) | exact HB.out)))⟩, ⟨by have := HK1.out; have := HK2.out; omega⟩, ⟨bx BK294.out⟩, ⟨XR.B2.one (w1 := w12) (by repeat (first | (with_reducible first | exact HB.out | apply XR.b2_alloc | apply XR.b2_drewN | apply XR.b2_drew1 | refine XR.b2_set ?_ GE294.out) | exact HB.out))⟩⟩
        ·rw [if_neg c9] at H
         have c9b0 : decide (0 ≤ x16_2) = false := decide_eq_false c9
         clear c9
         have H' := Aside0.mk H
         clear H
         go_wp2
         go_roundg k2
         case measure => have := HK1.out; have := HK2.out; omega
         case rel => exact ⟨XR.grow G_ wr _, pre_, r, (wrap64 (x20_1 + 1)), (by first | rfl | (simp; done) | (simp [*]; done)), H', ⟨HX_.out⟩, ⟨hJs_ _ _ _ _ HJ_.out (XR.B2.two (w := w) (by repeat (first | (with_reducible first | exact HB.out | apply XR.b2_alloc | apply XR.b2_drewN | apply XR.b2_drew1 | refine XR.b2_set ?_ GE294.out) | exact HB.out)))⟩, ⟨by have := HK1.out; have := HK2.out; omega⟩, ⟨bx BK294.out⟩, ⟨XR.B2.one (w1 := wr) (by repeat (first | (with_reducible first | exact HB.out | apply XR.b2_alloc | apply XR.b2_drewN | apply XR.b2_drew1 | refine XR.b2_set ?_ GE294.out) | exact HB.out))⟩⟩
     ·rw [if_neg c6] at H
      exact absurd H (by simp)
    ·rw [if_neg c5] at H
     exact absurd H (by simp)
   ·rw [if_neg c4] at H
    have c4b0 : decide (x20_1 < (l0_2.length : Int)) = false := decide_eq_false c4
    clear c4
    obtain rfl : [] = r := Option.some.inj H
    go_wp2
    go_end0
    exact ⟨⟨_, rfl⟩, .inl ⟨_, by have hx_ := HX_.out; rw [List.append_nil] at hx_; rw [hx_]; exact hJs_ _ _ _ _ HJ_.out (XR.B2.two (w := w) (by repeat (first | (with_reducible first | exact HB.out | apply XR.b2_alloc | apply XR.b2_drewN | apply XR.b2_drew1 | refine XR.b2_set ?_ GE294.out) | exact HB.out)))⟩⟩
/-! ### slices_Values_int_int_1: function 120 -/
def slices_Values_int_int_1.l0 : Nat → List Int → Int → Int → Option (List (Int))
 | 0, _, _, _ => none
 | k + 1, x16, x17, x18 => if x18 < x17 then (if 0 ≤ x18 then (if x18 < (x16.length : Int) then ((slices_Values_int_int_1.l0 k x16 x17 (wrap64 (x18 + 1))).bind fun lr_ => (some ((rd x16 x18) :: lr_))) else (none)) else (none)) else (some [])
def slices_Values_int_int_1.f (k : Nat) (l0 : List Int) : Option (List (Int)) := slices_Values_int_int_1.l0 k l0 (l0.length : Int) 0
theorem slices_Values_int_int_1.l0_succ (k : Nat) (x16 : List Int) (x17 : Int) (x18 : Int) : slices_Values_int_int_1.l0 (k + 1) x16 x17 x18 = (if x18 < x17 then (if 0 ≤ x18 then (if x18 < (x16.length : Int) then ((slices_Values_int_int_1.l0 k x16 x17 (wrap64 (x18 + 1))).bind fun lr_ => (some ((rd x16 x18) :: lr_))) else (none)) else (none)) else (some [])) := by
 simp only [slices_Values_int_int_1.l0]
set_option maxHeartbeats 8000000 in
set_option maxRecDepth 100000 in
theorem slices_Values_int_int_1.iter (k : Nat) (A0 : Option Addr) (c0 : Nat) (l0 : List Int) (xs : List (Int)) (w W0 : World) (gb298 : Nat) (hr0 : Kd.C (Kd.int .i64) w A0 l0.length l0) (hc0 : l0.length ≤ c0) (hB0 : Below w.heap.size w W0) (hg0 : W0.heap[gb298]? = some (.cells #[.slice A0 l0.length c0] 22 (0, 0))) (he0 : w.heap.size ≤ gb298)  (h : slices_Values_int_int_1.f k l0 = some xs) :
  XR.Iter Try.prog (fun x : Int => #[.int .i64 x]) w (fun k_ => k_ = gb298) 120 #[.pointer (some ⟨gb298, 0, none⟩)] xs W0 := by
 intro n_ l_ J_ Jx_ W_ hWs_ hWf_ hJs_ hJxs_ hJB_ hY_ h0_
 refine callsIn_wide.2 ?_
 have HR0 := Aside0.mk hr0
 have HC0 := Aside0.mk hc0
 clear hr0 hc0
 have H : (slices_Values_int_int_1.l0 k l0 (l0.length : Int) 0) = some xs := h
 clear h
 have H' := Aside0.mk H
 clear H
 have BK298 := Aside0.mk ((hWf_ _ (Array.getElem?_eq_some_iff.1 hg0).1 rfl).trans hg0)
 have GE298 := Aside0.mk he0
 have GW298 := Aside0.mk he0
 have HB := Aside0.mk (XR.b2_refl (hJB_ _ _ _ h0_))
 obtain ⟨G_, HJ_⟩ : ∃ G', Aside0 (J_ G' [] W_) := ⟨_, ⟨h0_⟩⟩
 have HX_ := Aside0.mk (show xs = [] ++ xs from rfl)
 go_enter Try.func120, Try.ntmps120
 have hcz3_0 : W_.cell? ⟨gb298, 0, none⟩ = some (.slice A0 l0.length c0) := (blk_cell BK298.out 0).trans rfl
 have hfz3_0 := blk_frozen BK298.out 0
 go_wp2
 go_loopg [7] k (fun kq v18 w' => ∃ (G_ : Nat → Prop) (pre_ r : List (Int)) (x18_1 : Int), v18 = .int .i64 x18_1 ∧ Aside0 (slices_Values_int_int_1.l0 kq l0 (l0.length : Int) x18_1 = some r) ∧ Aside0 (xs = pre_ ++ r) ∧ Aside0 (J_ G_ pre_ w') ∧ Aside0 (kq ≤ k) ∧ Aside0 (w'.heap[gb298]? = some (.cells #[(.slice A0 l0.length c0)] 22 (0, 0))) ∧ Aside0 (Below w.heap.size w w'))
 case atStart => exact ⟨XR.grow G_ W_ _, [], xs, (0), (by first | rfl | (simp; done) | (simp [*]; done)), H', ⟨HX_.out⟩, ⟨hJs_ _ _ _ _ HJ_.out (XR.B2.two (w := w) (by repeat (first | (with_reducible first | exact HB.out | apply XR.b2_alloc | apply XR.b2_drewN | apply XR.b2_drew1 | refine XR.b2_set ?_ GE298.out) | exact HB.out)))⟩, ⟨Nat.le_refl _⟩, ⟨bx BK298.out⟩, ⟨XR.B2.one (w1 := W_) (by repeat (first | (with_reducible first | exact HB.out | apply XR.b2_alloc | apply XR.b2_drewN | apply XR.b2_drew1 | refine XR.b2_set ?_ GE298.out) | exact HB.out))⟩⟩
 case round =>
  clear H'
  try clear hcz3_0
  try clear hfz3_0
  obtain ⟨G_, pre_, r, x18_1, rfl, HA, HX_, HJ_, HK1, BK298, HB⟩ := hrel
  have HB := Aside0.mk (XR.b2_refl HB.out)
  cases gk with
  | zero => exact absurd HA.out (by simp [slices_Values_int_int_1.l0])
  | succ k1 =>
   have H := HA.out
   clear HA
   simp only [slices_Values_int_int_1.l0] at H
   by_cases c4 : x18_1 < (l0.length : Int)
   ·rw [if_pos c4] at H
    have c4b0 : decide (x18_1 < (l0.length : Int)) = true := decide_eq_true c4
    clear c4
    by_cases c5 : 0 ≤ x18_1
    ·rw [if_pos c5] at H
     have c5b0 : decide (0 ≤ x18_1) = true := decide_eq_true c5
     clear c5
     by_cases c6 : x18_1 < (l0.length : Int)
     ·rw [if_pos c6] at H
      have c6b0 : decide (x18_1 < (l0.length : Int)) = true := decide_eq_true c6
      clear c6
      replace H := Option.bind_eq_some_iff.mp H
      obtain ⟨r2_, H, hr2_⟩ := H
      replace hr2_ : (rd l0 x18_1) :: r2_ = r := Option.some.inj hr2_
      have HR2_ := Aside0.mk hr2_
      clear hr2_
      replace H : (slices_Values_int_int_1.l0 k1 l0 (l0.length : Int) (wrap64 (x18_1 + 1))) = some r2_ := H
      have H' := Aside0.mk H
      clear H
      have p299 : 0 ≤ (x18_1 : Int) := of_decide_eq_true (by assumption)
      have q299 : x18_1 < (l0.length : Int) := of_decide_eq_true (by assumption)
      obtain ⟨ad299, e299, hx299_0⟩ := Kd.at_int HR0.out x18_1 p299 q299
      cases e299
      replace hx299_0 := (HB.out.cell (World.block_lt_of_cell? w _ hx299_0)).trans hx299_0
      replace p299 := eq_true p299
      replace q299 := eq_true q299
      go_upto_region 3 with (go_in)
      refine (wpIn_wide (n := n_)).1 ?_
      obtain ⟨fn_, tm_, as_, bd_, hy_, hR_⟩ := hY_ pre_ (rd l0 x18_1) r2_ _ _ (by rw [HX_.out, ← HR2_.out]) (hJs_ _ _ _ _ HJ_.out (XR.B2.two (w := w) HB.out))
      (try dsimp only at hy_)
      gi_wp2
      refine ⟨fun hd_ => (by cases hd_), hR_.mono ?_⟩
      rintro e_ w8 (⟨rfl, hJ3_, hsz_, hkp_⟩ | ⟨rfl, hx3_⟩)
      rotate_left
      ·gi_wp2
       try go_wp2
       refine bodyPost_ret (results_none rfl _ _ _) rfl ?_
       exact ⟨⟨_, rfl⟩, .inr ⟨pre_ ++ [(rd l0 x18_1)], ⟨r2_, by rw [HX_.out, ← HR2_.out]; simp⟩, hx3_⟩⟩
      have lt298_ := blk_lt BK298.out
      replace BK298 := Aside0.mk ((hkp_ _ lt298_ (.inl rfl)).trans BK298.out)
      replace HB := Aside0.mk (XR.b2_refl (hJB_ _ _ _ hJ3_))
      obtain ⟨G_, HJ_⟩ : ∃ G', Aside0 (J_ G' (pre_ ++ [(rd l0 x18_1)]) w8) := ⟨_, ⟨hJ3_⟩⟩
      have HX_ := Aside0.mk (show xs = (pre_ ++ [(rd l0 x18_1)]) ++ r2_ by rw [HX_.out, ← HR2_.out]; simp)
      clear hJ3_ hkp_
      gi_wp2
      go_wp2_with (go_in)
      go_roundg k1
      case measure => have := HK1.out; omega
      case rel => exact ⟨XR.grow G_ w8 _, (pre_ ++ [(rd l0 x18_1)]), r2_, (wrap64 (x18_1 + 1)), (by first | rfl | (simp; done) | (simp [*]; done)), H', ⟨HX_.out⟩, ⟨hJs_ _ _ _ _ HJ_.out (XR.B2.two (w := w) (by repeat (first | (with_reducible first | exact HB.out | apply XR.b2_alloc | apply XR.b2_drewN | apply XR.b2_drew1 | refine XR.b2_set ?_ GE298.out) | exact HB.out)))⟩, ⟨by have := HK1.out; omega⟩, ⟨bx BK298.out⟩, ⟨XR.B2.one (w1 := w8) (by repeat (first | (with_reducible first | exact HB.out | apply XR.b2_alloc | apply XR.b2_drewN | apply XR.b2_drew1 | refine XR.b2_set ?_ GE298.out) | exact HB.out))⟩⟩
     ·rw [if_neg c6] at H
      exact absurd H (by simp)
    ·rw [if_neg c5] at H
     exact absurd H (by simp)
   ·rw [if_neg c4] at H
    have c4b0 : decide (x18_1 < (l0.length : Int)) = false := decide_eq_false c4
    clear c4
    obtain rfl : [] = r := Option.some.inj H
    go_wp2
    go_end0
    exact ⟨⟨_, rfl⟩, .inl ⟨_, by have hx_ := HX_.out; rw [List.append_nil] at hx_; rw [hx_]; exact hJs_ _ _ _ _ HJ_.out (XR.B2.two (w := w) (by repeat (first | (with_reducible first | exact HB.out | apply XR.b2_alloc | apply XR.b2_drewN | apply XR.b2_drew1 | refine XR.b2_set ?_ GE298.out) | exact HB.out)))⟩⟩
/-! ### slices_Values_int_int: function 89 (a contract of the session's own) -/
set_option maxHeartbeats 8000000 in
set_option maxRecDepth 100000 in
theorem slices_Values_int_int.calls (k : Nat) (A0 : Option Addr) (c0 : Nat) (l0 : List Int) (xs : List Int) (w0 w : World) (hb0 : Below w0.heap.size w0 w) (hr0 : Kd.C (Kd.int .i64) w0 A0 l0.length l0) (hc0 : l0.length ≤ c0) (h : slices_Values_int_int_1.f k l0 = some xs) :
    Calls Try.prog 89 #[.slice A0 l0.length c0] w fun e w' => ∃ gb : Nat, e = .returned (.func (.func 120) #[] #[.pointer (some ⟨gb, 0, none⟩)]) ∧ w.heap.size ≤ gb ∧ gb < w'.heap.size ∧ XR.Iter Try.prog (fun x : Int => #[.int .i64 x]) w0 (fun k_ => k_ = gb) 120 #[.pointer (some ⟨gb, 0, none⟩)] xs w' ∧ Below w.heap.size w w' := by
  have hmf : ∀ (fn : Fn) (first cap : Array Value) (w : World), (Instr.makeFunc fn first cap).run Try.prog w = .ok (.func fn first cap) w := fun _ _ _ _ => rfl
  have HB := Aside0.mk (Below.refl w.heap.size w)
  have H0 := Aside0.mk (And.intro hb0 (And.intro hr0 (And.intro hc0 h)))
  clear hb0 hr0 hc0 h
  go_enter Try.func89, Try.ntmps89
  go_wp2_with (first | ((with_reducible refine gate_dst (N := 1) rfl ?_); refine box_event ?hg (N := 1) ?hd (cs := #[.slice A0 l0.length c0]) (t := 22) ?hr ?_; (case hd => rfl); (case hg => rfl); (case hr => first | (go_simp; done) | (go_simp; rfl)); intro g1 hg w2 hbox hb; have n0_ := Aside0.mk (below_step HB.out hb); have n1_ := Aside0.mk (hbox); have n2_ := Aside0.mk ((by rw [hg]; exact below_size HB.out : w.heap.size ≤ g1)); clear HB; have HB := n0_; have BK1 := n1_; have GE1 := n2_; clear n0_ n1_ n2_ hb hbox hg) | go_in)
  go_ret
  obtain ⟨hb0, hr0, hc0, h⟩ := H0.out
  exact ⟨_, rfl, GE1.out, blk_lt BK1.out, slices_Values_int_int_1.iter k A0 c0 l0 xs w0 _ g1 hr0 hc0 (below_step hb0 HB.out) BK1.out (by have := hb0.size; have := GE1.out; omega) h, HB.out⟩
/-! ### poslist_List_Places_2: function 90 -/
mutual
def poslist_List_Places_2.l0 : Nat → List (S79) → Int → Int → Option (List (Int))
 | 0, _, _, _ => none
 | k + 1, x18, x19, x20 => if x20 < x19 then (if 0 ≤ x20 then (if x20 < (x18.length : Int) then (poslist_List_Places_2.l1 k ((rd_T79 x18 x20).f0) x18 x19 x20 ((rd_T79 x18 x20).f0) ((rd_T79 x18 x20).f1)) else (none)) else (none)) else (some [])
def poslist_List_Places_2.l1 : Nat → Int → List (S79) → Int → Int → Int → Int → Option (List (Int))
 | 0, _, _, _, _, _, _ => none
 | k + 1, x16, x18, x19, x20, x303000, x303001 => if x16 < x303001 then ((poslist_List_Places_2.l1 k (wrap64 (x16 + 1)) x18 x19 x20 x303000 x303001).bind fun lr_ => (some (x16 :: lr_))) else (poslist_List_Places_2.l0 k x18 x19 (wrap64 (x20 + 1)))
end
def poslist_List_Places_2.f (k : Nat) (a0_0 : Int) (l0_1 : List (S79)) (l0_2 : List Int) (l0_3 : List Int) : Option (List (Int)) := poslist_List_Places_2.l0 k l0_1 (l0_1.length : Int) 0
theorem poslist_List_Places_2.l0_succ (k : Nat) (x18 : List (S79)) (x19 : Int) (x20 : Int) : poslist_List_Places_2.l0 (k + 1) x18 x19 x20 = (if x20 < x19 then (if 0 ≤ x20 then (if x20 < (x18.length : Int) then (poslist_List_Places_2.l1 k ((rd_T79 x18 x20).f0) x18 x19 x20 ((rd_T79 x18 x20).f0) ((rd_T79 x18 x20).f1)) else (none)) else (none)) else (some [])) := by
 simp only [poslist_List_Places_2.l0]
theorem poslist_List_Places_2.l1_succ (k : Nat) (x16 : Int) (x18 : List (S79)) (x19 : Int) (x20 : Int) (x303000 : Int) (x303001 : Int) : poslist_List_Places_2.l1 (k + 1) x16 x18 x19 x20 x303000 x303001 = (if x16 < x303001 then ((poslist_List_Places_2.l1 k (wrap64 (x16 + 1)) x18 x19 x20 x303000 x303001).bind fun lr_ => (some (x16 :: lr_))) else (poslist_List_Places_2.l0 k x18 x19 (wrap64 (x20 + 1)))) := by
 simp only [poslist_List_Places_2.l1]
set_option maxHeartbeats 8000000 in
set_option maxRecDepth 100000 in
theorem poslist_List_Places_2.iter (k : Nat) (a0_0 : Int) (A0_1 : Option Addr) (c0_1 : Nat) (l0_1 : List (S79)) (A0_2 : Option Addr) (c0_2 : Nat) (l0_2 : List Int) (A0_3 : Option Addr) (c0_3 : Nat) (l0_3 : List Int) (xs : List (Int)) (w W0 : World) (gb300 : Nat) (hr0_1 : Kd.C k79 w A0_1 l0_1.length l0_1) (hc0_1 : l0_1.length ≤ c0_1) (hr0_2 : Kd.C (Kd.int .i64) w A0_2 l0_2.length l0_2) (hc0_2 : l0_2.length ≤ c0_2) (hr0_3 : Kd.C (Kd.int .i64) w A0_3 l0_3.length l0_3) (hc0_3 : l0_3.length ≤ c0_3) (hB0 : Below w.heap.size w W0) (hg0 : W0.heap[gb300]? = some (.cells #[.int .i64 a0_0, .slice A0_1 l0_1.length c0_1, .slice A0_2 l0_2.length c0_2, .slice A0_3 l0_3.length c0_3] 52 (0, 0))) (he0 : w.heap.size ≤ gb300)  (h : poslist_List_Places_2.f k a0_0 l0_1 l0_2 l0_3 = some xs) :
  XR.Iter Try.prog (fun x : Int => #[.int .i64 x]) w (fun k_ => k_ = gb300) 90 #[.pointer (some ⟨gb300, 0, none⟩)] xs W0 := by
 intro n_ l_ J_ Jx_ W_ hWs_ hWf_ hJs_ hJxs_ hJB_ hY_ h0_
 refine callsIn_wide.2 ?_
 have hu52 := Try.underlying52
 have hu79 := Try.underlying79
 have HR0_1 := Aside0.mk hr0_1
 have HC0_1 := Aside0.mk hc0_1
 clear hr0_1 hc0_1
 have HR0_2 := Aside0.mk hr0_2
 have HC0_2 := Aside0.mk hc0_2
 clear hr0_2 hc0_2
 have HR0_3 := Aside0.mk hr0_3
 have HC0_3 := Aside0.mk hc0_3
 clear hr0_3 hc0_3
 have H : (poslist_List_Places_2.l0 k l0_1 (l0_1.length : Int) 0) = some xs := h
 clear h
 have H' := Aside0.mk H
 clear H
 have BK300 := Aside0.mk ((hWf_ _ (Array.getElem?_eq_some_iff.1 hg0).1 rfl).trans hg0)
 have GE300 := Aside0.mk he0
 have GW300 := Aside0.mk he0
 have HB := Aside0.mk (XR.b2_refl (hJB_ _ _ _ h0_))
 obtain ⟨G_, HJ_⟩ : ∃ G', Aside0 (J_ G' [] W_) := ⟨_, ⟨h0_⟩⟩
 have HX_ := Aside0.mk (show xs = [] ++ xs from rfl)
 go_enter Try.func90, Try.ntmps90
 have hcz3_0 : W_.cell? ⟨gb300, 0, none⟩ = some (.int .i64 a0_0) := (blk_cell BK300.out 0).trans rfl
 have hcz3_1 : W_.cell? ⟨gb300, 1, none⟩ = some (.slice A0_1 l0_1.length c0_1) := (blk_cell BK300.out 1).trans rfl
 have hcz3_2 : W_.cell? ⟨gb300, 2, none⟩ = some (.slice A0_2 l0_2.length c0_2) := (blk_cell BK300.out 2).trans rfl
 have hcz3_3 : W_.cell? ⟨gb300, 3, none⟩ = some (.slice A0_3 l0_3.length c0_3) := (blk_cell BK300.out 3).trans rfl
 have hfz3_0 := blk_frozen BK300.out 0
 have hfz3_1 := blk_frozen BK300.out 1
 have hfz3_2 := blk_frozen BK300.out 2
 have hfz3_3 := blk_frozen BK300.out 3
 go_wp2
 go_loopg [9] k (fun kq v20 w' => ∃ (G_ : Nat → Prop) (pre_ r : List (Int)) (x20_1 : Int), v20 = .int .i64 x20_1 ∧ Aside0 (poslist_List_Places_2.l0 kq l0_1 (l0_1.length : Int) x20_1 = some r) ∧ Aside0 (xs = pre_ ++ r) ∧ Aside0 (J_ G_ pre_ w') ∧ Aside0 (kq ≤ k) ∧ Aside0 (w'.heap[gb300]? = some (.cells #[.int .i64 a0_0, (.slice A0_1 l0_1.length c0_1), (.slice A0_2 l0_2.length c0_2), (.slice A0_3 l0_3.length c0_3)] 52 (0, 0))) ∧ Aside0 (Below w.heap.size w w'))
 case atStart => exact ⟨XR.grow G_ W_ _, [], xs, (0), (by first | rfl | (simp; done) | (simp [*]; done)), H', ⟨HX_.out⟩, ⟨hJs_ _ _ _ _ HJ_.out (XR.B2.two (w := w) (by repeat (first | (with_reducible first | exact HB.out | apply XR.b2_alloc | apply XR.b2_drewN | apply XR.b2_drew1 | refine XR.b2_set ?_ GE300.out) | exact HB.out)))⟩, ⟨Nat.le_refl _⟩, ⟨bx BK300.out⟩, ⟨XR.B2.one (w1 := W_) (by repeat (first | (with_reducible first | exact HB.out | apply XR.b2_alloc | apply XR.b2_drewN | apply XR.b2_drew1 | refine XR.b2_set ?_ GE300.out) | exact HB.out))⟩⟩
 case round =>
  clear H'
  try clear hcz3_0
  try clear hcz3_1
  try clear hcz3_2
  try clear hcz3_3
  try clear hfz3_0
  try clear hfz3_1
  try clear hfz3_2
  try clear hfz3_3
  obtain ⟨G_, pre_, r, x20_1, rfl, HA, HX_, HJ_, HK1, BK300, HB⟩ := hrel
  have HB := Aside0.mk (XR.b2_refl HB.out)
  cases gk with
  | zero => exact absurd HA.out (by simp [poslist_List_Places_2.l0])
  | succ k1 =>
   have H := HA.out
   clear HA
   simp only [poslist_List_Places_2.l0] at H
   by_cases c4 : x20_1 < (l0_1.length : Int)
   ·rw [if_pos c4] at H
    have c4b0 : decide (x20_1 < (l0_1.length : Int)) = true := decide_eq_true c4
    clear c4
    by_cases c5 : 0 ≤ x20_1
    ·rw [if_pos c5] at H
     have c5b0 : decide (0 ≤ x20_1) = true := decide_eq_true c5
     clear c5
     by_cases c6 : x20_1 < (l0_1.length : Int)
     ·rw [if_pos c6] at H
      have c6b0 : decide (x20_1 < (l0_1.length : Int)) = true := decide_eq_true c6
      clear c6
      have H' := Aside0.mk H
      clear H
      have p301 : 0 ≤ (x20_1 : Int) := of_decide_eq_true (by assumption)
      have q301 : x20_1 < (l0_1.length : Int) := of_decide_eq_true (by assumption)
      obtain ⟨ad301, e301, hx301_0, hx301_1⟩ := at_T79 HR0_1.out x20_1 p301 q301
      cases e301
      replace hx301_0 := (HB.out.cell (World.block_lt_of_cell? w _ hx301_0)).trans hx301_0
      replace hx301_1 := (HB.out.cell (World.block_lt_of_cell? w _ hx301_1)).trans hx301_1
      replace p301 := eq_true p301
      replace q301 := eq_true q301
      go_wp2_with (first | ((with_reducible refine gate_dst (N := 4) rfl ?_); refine box_event ?hg (N := 4) ?hd (cs := #[.int .i64 0, .int .i64 0]) (t := 79) ?hr ?_; (case hd => rfl); (case hg => rfl); (case hr => first | (go_simp; done) | (go_simp; rfl)); intro gb302 hg w7 hbox hb; have BK302 := Aside0.mk (hbox); have GW302 := Aside0.mk ((by rw [hg]; exact (XR.b2_size (by repeat (first | (with_reducible first | exact HB.out | apply XR.b2_alloc | apply XR.b2_drewN | apply XR.b2_drew1 | refine XR.b2_set ?_ GE300.out) | exact HB.out))) : w.heap.size ≤ gb302 ∧ wr.heap.size ≤ gb302)); have GE302 := Aside0.mk ((by rw [hg]; exact (XR.b2_size (by repeat (first | (with_reducible first | exact HB.out | apply XR.b2_alloc | apply XR.b2_drewN | apply XR.b2_drew1 | refine XR.b2_set ?_ GE300.out) | exact HB.out))) : w.heap.size ≤ gb302 ∧ wr.heap.size ≤ gb302)); replace HB := Aside0.mk (XR.b2_step (by repeat (first | (with_reducible first | exact HB.out | apply XR.b2_alloc | apply XR.b2_drewN | apply XR.b2_drew1 | refine XR.b2_set ?_ GE300.out) | exact HB.out)) hb); have NB300_302 := bna BK300 hg; have NB302_300 := bma BK300 hg; replace BK300 := bba BK300 hb; clear hb hbox hg; have hnb8 := NB302_300.out; have hnc8 := NB300_302.out; have hcz9_0 : w7.cell? ⟨gb302, 0, none⟩ = some (.int .i64 0) := (blk_cell BK302.out 0).trans rfl; have hcz9_1 : w7.cell? ⟨gb302, 1, none⟩ = some (.int .i64 0) := (blk_cell BK302.out 1).trans rfl; have hfz9_0 := blk_frozen BK302.out 0; have hfz9_1 := blk_frozen BK302.out 1) | go_in)
      go_loopg [5] k1 (fun kq v16 w' => ∃ (G_ : Nat → Prop) (pre_ r : List (Int)) (x16_2 : Int), v16 = .int .i64 x16_2 ∧ Aside0 (poslist_List_Places_2.l1 kq x16_2 l0_1 (l0_1.length : Int) x20_1 ((rd_T79 l0_1 x20_1).f0) ((rd_T79 l0_1 x20_1).f1) = some r) ∧ Aside0 (xs = pre_ ++ r) ∧ Aside0 (J_ G_ pre_ w') ∧ Aside0 (kq ≤ k1) ∧ Aside0 (w'.heap[gb300]? = some (.cells #[.int .i64 a0_0, (.slice (some ad301) l0_1.length c0_1), (.slice A0_2 l0_2.length c0_2), (.slice A0_3 l0_3.length c0_3)] 52 (0, 0))) ∧ Aside0 (w'.heap[gb302]? = some (.cells #[.int .i64 ((rd_T79 l0_1 x20_1).f0), .int .i64 ((rd_T79 l0_1 x20_1).f1)] 79 (0, 0))) ∧ Aside0 (G_ gb302) ∧ Aside0 (Below w.heap.size w w'))
      case atStart => exact ⟨XR.grow G_ wr _, pre_, r, ((rd_T79 l0_1 x20_1).f0), (by first | rfl | (simp; done) | (simp [*]; done)), H', ⟨HX_.out⟩, ⟨hJs_ _ _ _ _ HJ_.out (XR.B2.two (w := w) (by repeat (first | (with_reducible first | exact HB.out | apply XR.b2_alloc | apply XR.b2_drewN | apply XR.b2_drew1 | refine XR.b2_set ?_ GE300.out | refine XR.b2_set ?_ GE302.out) | exact HB.out)))⟩, ⟨Nat.le_refl _⟩, ⟨bx BK300.out⟩, ⟨by (with_reducible repeat (first | refine blk_drewN ?_ _ | refine blk_drew ?_ | refine blk_alloc ?_ _)); refine blk_put (cs := #[.int .i64 ((rd_T79 l0_1 x20_1).f0), .int .i64 0]) ?_ 1 _ rfl; (with_reducible repeat (first | refine blk_drewN ?_ _ | refine blk_drew ?_ | refine blk_alloc ?_ _)); refine blk_put (cs := #[.int .i64 0, .int .i64 0]) ?_ 0 _ rfl; (with_reducible repeat (first | refine blk_drewN ?_ _ | refine blk_drew ?_ | refine blk_alloc ?_ _)); exact BK302.out⟩, ⟨.inr ⟨GE302.out.2, blk_lt (g := gb302) (o := .cells #[.int .i64 ((rd_T79 l0_1 x20_1).f0), .int .i64 ((rd_T79 l0_1 x20_1).f1)] 79 (0, 0)) (by (with_reducible repeat (first | refine blk_drewN ?_ _ | refine blk_drew ?_ | refine blk_alloc ?_ _)); refine blk_put (cs := #[.int .i64 ((rd_T79 l0_1 x20_1).f0), .int .i64 0]) ?_ 1 _ rfl; (with_reducible repeat (first | refine blk_drewN ?_ _ | refine blk_drew ?_ | refine blk_alloc ?_ _)); refine blk_put (cs := #[.int .i64 0, .int .i64 0]) ?_ 0 _ rfl; (with_reducible repeat (first | refine blk_drewN ?_ _ | refine blk_drew ?_ | refine blk_alloc ?_ _)); exact BK302.out)⟩⟩, ⟨XR.B2.one (w1 := wr) (by repeat (first | (with_reducible first | exact HB.out | apply XR.b2_alloc | apply XR.b2_drewN | apply XR.b2_drew1 | refine XR.b2_set ?_ GE300.out | refine XR.b2_set ?_ GE302.out) | exact HB.out))⟩⟩
      case round =>
       clear H'
       try clear c4
       try clear c4b0
       try clear c5
       try clear c5b0
       try clear c6
       try clear c6b0
       try clear hcz3_0
       try clear hcz3_1
       try clear hcz3_2
       try clear hcz3_3
       try clear hcz9_0
       try clear hcz9_1
       try clear hfz3_0
       try clear hfz3_1
       try clear hfz3_2
       try clear hfz3_3
       try clear hfz9_0
       try clear hfz9_1
       try clear hx301_0
       try clear hx301_1
       try clear p301
       try clear q301
       obtain ⟨G_, pre_, r, x16_2, rfl, HA, HX_, HJ_, HK2, BK300, BK302, HG302, HB⟩ := hrel
       have HB := Aside0.mk (XR.b2_refl HB.out)
       cases gk with
       | zero => exact absurd HA.out (by simp [poslist_List_Places_2.l1])
       | succ k2 =>
        have H := HA.out
        clear HA
        simp only [poslist_List_Places_2.l1] at H
        by_cases c10 : x16_2 < ((rd_T79 l0_1 x20_1).f1)
        ·rw [if_pos c10] at H
         have c10b0 : decide (x16_2 < ((rd_T79 l0_1 x20_1).f1)) = true := decide_eq_true c10
         clear c10
         replace H := Option.bind_eq_some_iff.mp H
         obtain ⟨r2_, H, hr2_⟩ := H
         replace hr2_ : x16_2 :: r2_ = r := Option.some.inj hr2_
         have HR2_ := Aside0.mk hr2_
         clear hr2_
         replace H : (poslist_List_Places_2.l1 k2 (wrap64 (x16_2 + 1)) l0_1 (l0_1.length : Int) x20_1 ((rd_T79 l0_1 x20_1).f0) ((rd_T79 l0_1 x20_1).f1)) = some r2_ := H
         have H' := Aside0.mk H
         clear H
         have hnb12 := NB302_300.out
         have hnc12 := NB300_302.out
         have hcz13_0 : wr.cell? ⟨gb302, 0, none⟩ = some (.int .i64 ((rd_T79 l0_1 x20_1).f0)) := (blk_cell BK302.out 0).trans rfl
         have hcz13_1 : wr.cell? ⟨gb302, 1, none⟩ = some (.int .i64 ((rd_T79 l0_1 x20_1).f1)) := (blk_cell BK302.out 1).trans rfl
         have hfz13_0 := blk_frozen BK302.out 0
         have hfz13_1 := blk_frozen BK302.out 1
         go_upto_region 6 with (go_in)
         refine (wpIn_wide (n := n_)).1 ?_
         obtain ⟨fn_, tm_, as_, bd_, hy_, hR_⟩ := hY_ pre_ x16_2 r2_ _ _ (by rw [HX_.out, ← HR2_.out]) (hJs_ _ _ _ _ HJ_.out (XR.B2.two (w := w) HB.out))
         (try dsimp only at hy_)
         gi_wp2
         refine ⟨fun hd_ => (by cases hd_), hR_.mono ?_⟩
         rintro e_ w14 (⟨rfl, hJ3_, hsz_, hkp_⟩ | ⟨rfl, hx3_⟩)
         rotate_left
         ·gi_wp2
          try go_wp2
          refine bodyPost_ret (results_none rfl _ _ _) rfl ?_
          exact ⟨⟨_, rfl⟩, .inr ⟨pre_ ++ [x16_2], ⟨r2_, by rw [HX_.out, ← HR2_.out]; simp⟩, hx3_⟩⟩
         have lt302_ := blk_lt BK302.out
         have lt300_ := blk_lt BK300.out
         replace BK300 := Aside0.mk ((hkp_ _ lt300_ (.inl rfl)).trans BK300.out)
         replace BK302 := Aside0.mk ((hkp_ _ lt302_ (.inr (.inl HG302.out))).trans BK302.out)
         replace HB := Aside0.mk (XR.b2_refl (hJB_ _ _ _ hJ3_))
         obtain ⟨G_, HJ_, HG302⟩ : ∃ G', Aside0 (J_ G' (pre_ ++ [x16_2]) w14) ∧ Aside0 (G' gb302) := ⟨_, ⟨hJ3_⟩, ⟨.inl HG302.out⟩⟩
         have HX_ := Aside0.mk (show xs = (pre_ ++ [x16_2]) ++ r2_ by rw [HX_.out, ← HR2_.out]; simp)
         clear hJ3_ hkp_
         gi_wp2
         go_wp2_with (go_in)
         go_roundg k2
         case measure => have := HK1.out; have := HK2.out; omega
         case rel => exact ⟨XR.grow G_ w14 _, (pre_ ++ [x16_2]), r2_, (wrap64 (x16_2 + 1)), (by first | rfl | (simp; done) | (simp [*]; done)), H', ⟨HX_.out⟩, ⟨hJs_ _ _ _ _ HJ_.out (XR.B2.two (w := w) (by repeat (first | (with_reducible first | exact HB.out | apply XR.b2_alloc | apply XR.b2_drewN | apply XR.b2_drew1 | refine XR.b2_set ?_ GE300.out | refine XR.b2_set ?_ GE302.out) | exact HB.out)))⟩, ⟨by have := HK1.out; have := HK2.out; omega⟩, ⟨bx BK300.out⟩, ⟨bx BK302.out⟩, ⟨.inl HG302.out⟩, ⟨XR.B2.one (w1 := w14) (by repeat (first | (with_reducible first | exact HB.out | apply XR.b2_alloc | apply XR.b2_drewN | apply XR.b2_drew1 | refine XR.b2_set ?_ GE300.out | refine XR.b2_set ?_ GE302.out) | exact HB.out))⟩⟩
        ·rw [if_neg c10] at H
         have c10b0 : decide (x16_2 < ((rd_T79 l0_1 x20_1).f1)) = false := decide_eq_false c10
         clear c10
         have H' := Aside0.mk H
         clear H
         have hnb15 := NB302_300.out
         have hnc15 := NB300_302.out
         have hcz16_0 : wr.cell? ⟨gb302, 0, none⟩ = some (.int .i64 ((rd_T79 l0_1 x20_1).f0)) := (blk_cell BK302.out 0).trans rfl
         have hcz16_1 : wr.cell? ⟨gb302, 1, none⟩ = some (.int .i64 ((rd_T79 l0_1 x20_1).f1)) := (blk_cell BK302.out 1).trans rfl
         have hfz16_0 := blk_frozen BK302.out 0
         have hfz16_1 := blk_frozen BK302.out 1
         go_wp2
         go_roundg k2
         case measure => have := HK1.out; have := HK2.out; omega
         case rel => exact ⟨XR.grow G_ wr _, pre_, r, (wrap64 (x20_1 + 1)), (by first | rfl | (simp; done) | (simp [*]; done)), H', ⟨HX_.out⟩, ⟨hJs_ _ _ _ _ HJ_.out (XR.B2.two (w := w) (by repeat (first | (with_reducible first | exact HB.out | apply XR.b2_alloc | apply XR.b2_drewN | apply XR.b2_drew1 | refine XR.b2_set ?_ GE300.out | refine XR.b2_set ?_ GE302.out) | exact HB.out)))⟩, ⟨by have := HK1.out; have := HK2.out; omega⟩, ⟨bx BK300.out⟩, ⟨XR.B2.one (w1 := wr) (by repeat (first | (with_reducible first | exact HB.out | apply XR.b2_alloc | apply XR.b2_drewN | apply XR.b2_drew1 | refine XR.b2_set ?_ GE300.out | refine XR.b2_set ?_ GE302.out) | exact HB.out))⟩⟩
     ·rw [if_neg c6] at H
      exact absurd H (by simp)
    ·rw [if_neg c5] at H
     exact absurd H (by simp)
   ·rw [if_neg c4] at H
    have c4b0 : decide (x20_1 < (l0_1.length : Int)) = false := decide_eq_false c4
    clear c4
    obtain rfl : [] = r := Option.some.inj H
    go_wp2
    go_end0
    exact ⟨⟨_, rfl⟩, .inl ⟨_, by have hx_ := HX_.out; rw [List.append_nil] at hx_; rw [hx_]; exact hJs_ _ _ _ _ HJ_.out (XR.B2.two (w := w) (by repeat (first | (with_reducible first | exact HB.out | apply XR.b2_alloc | apply XR.b2_drewN | apply XR.b2_drew1 | refine XR.b2_set ?_ GE300.out) | exact HB.out)))⟩⟩
/-! ### poslist_List_Places: function 59 (a contract of the session's own) -/
def poslist_List_Places.f (k : Nat) (a0_0 : Int) (l0_1 : List (S79)) (l0_2 : List Int) (l0_3 : List Int) : Option (List Int) := if a0_0 = 2 then poslist_List_Places_1.f k a0_0 l0_1 l0_2 l0_3 else if a0_0 = 3 then slices_Values_int_int_1.f k l0_3 else poslist_List_Places_2.f k a0_0 l0_1 l0_2 l0_3
set_option maxHeartbeats 8000000 in
set_option maxRecDepth 100000 in
theorem poslist_List_Places.calls (k : Nat) (a0_0 : Int) (A0_1 : Option Addr) (c0_1 : Nat) (l0_1 : List (S79)) (A0_2 : Option Addr) (c0_2 : Nat) (l0_2 : List Int) (A0_3 : Option Addr) (c0_3 : Nat) (l0_3 : List Int) (xs : List Int) (w0 w : World) (hb0 : Below w0.heap.size w0 w) (hr0_1 : Kd.C k79 w0 A0_1 l0_1.length l0_1) (hc0_1 : l0_1.length ≤ c0_1) (hr0_2 : Kd.C (Kd.int .i64) w0 A0_2 l0_2.length l0_2) (hc0_2 : l0_2.length ≤ c0_2) (hr0_3 : Kd.C (Kd.int .i64) w0 A0_3 l0_3.length l0_3) (hc0_3 : l0_3.length ≤ c0_3) (h : poslist_List_Places.f k a0_0 l0_1 l0_2 l0_3 = some xs) :
    Calls Try.prog 59 #[.agg #[.int .i64 a0_0, .slice A0_1 l0_1.length c0_1, .slice A0_2 l0_2.length c0_2, .slice A0_3 l0_3.length c0_3]] w fun e w' => ∃ gf gb : Nat, e = .returned (.func (.func gf) #[] #[.pointer (some ⟨gb, 0, none⟩)]) ∧ (∀ args W, (callFunc gf args).run Try.prog W = .ok (.enter gf args) W) ∧ w.heap.size ≤ gb ∧ gb < w'.heap.size ∧ XR.Iter Try.prog (fun x : Int => #[.int .i64 x]) w0 (fun k_ => k_ = gb) gf #[.pointer (some ⟨gb, 0, none⟩)] xs w' ∧ Below w.heap.size w w' := by
  have hmf : ∀ (fn : Fn) (first cap : Array Value) (w : World), (Instr.makeFunc fn first cap).run Try.prog w = .ok (.func fn first cap) w := fun _ _ _ _ => rfl
  have hu27 := Try.underlying52
  have HR0_1 := Aside0.mk hr0_1
  have HC0_1 := Aside0.mk hc0_1
  clear hr0_1 hc0_1
  have HR0_2 := Aside0.mk hr0_2
  have HC0_2 := Aside0.mk hc0_2
  clear hr0_2 hc0_2
  have HR0_3 := Aside0.mk hr0_3
  have HC0_3 := Aside0.mk hc0_3
  clear hr0_3 hc0_3
  have HB := Aside0.mk (Below.refl w.heap.size w)
  have H0 := Aside0.mk (And.intro hb0 trivial)
  clear hb0
  have H : (if a0_0 = 2 then poslist_List_Places_1.f k a0_0 l0_1 l0_2 l0_3 else if a0_0 = 3 then slices_Values_int_int_1.f k l0_3 else poslist_List_Places_2.f k a0_0 l0_1 l0_2 l0_3) = some xs := h
  clear h
  by_cases c2 : a0_0 = 2
  · rw [if_pos c2] at H
    have c2b0 : (a0_0 == 2) = true := beq_iff_eq.mpr c2
    clear c2
    have H1 := Aside0.mk H
    clear H
    go_enter Try.func59, Try.ntmps59
    go_wp2_with (first | ((with_reducible refine gate_dst (N := 1) rfl ?_); refine box_event ?hg (N := 1) ?hd (cs := #[.int .i64 a0_0, .slice A0_1 l0_1.length c0_1, .slice A0_2 l0_2.length c0_2, .slice A0_3 l0_3.length c0_3]) (t := 52) ?hr ?_; (case hd => rfl); (case hg => rfl); (case hr => first | (go_simp; done) | (go_simp; rfl)); intro g1 hg w2 hbox hb; have n0_ := Aside0.mk (below_step HB.out hb); have n1_ := Aside0.mk (hbox); have n2_ := Aside0.mk ((by rw [hg]; exact below_size HB.out : w.heap.size ≤ g1)); clear HB; have HB := n0_; have BK1 := n1_; have GE1 := n2_; clear n0_ n1_ n2_ hb hbox hg; have hc10 : w2.cell? ⟨g1, 0, none⟩ = some (Value.int .i64 a0_0) := (blk_cell BK1.out 0).trans rfl; have hc11 : w2.cell? ⟨g1, 1, none⟩ = some (.slice A0_1 l0_1.length c0_1) := (blk_cell BK1.out 1).trans rfl; have hc12 : w2.cell? ⟨g1, 2, none⟩ = some (.slice A0_2 l0_2.length c0_2) := (blk_cell BK1.out 2).trans rfl; have hc13 : w2.cell? ⟨g1, 3, none⟩ = some (.slice A0_3 l0_3.length c0_3) := (blk_cell BK1.out 3).trans rfl; have hf10 := blk_frozen BK1.out 0; have hf11 := blk_frozen BK1.out 1; have hf12 := blk_frozen BK1.out 2; have hf13 := blk_frozen BK1.out 3) | go_in)
    go_ret
    exact ⟨87, _, rfl, enters_of Try.func87 (by kernel_rfl) rfl, GE1.out, blk_lt BK1.out, poslist_List_Places_1.iter k a0_0 A0_1 c0_1 l0_1 A0_2 c0_2 l0_2 A0_3 c0_3 l0_3 xs w0 _ g1 HR0_1.out HC0_1.out HR0_2.out HC0_2.out HR0_3.out HC0_3.out (below_step H0.out.1 HB.out) BK1.out (by have := H0.out.1.size; have := GE1.out; omega) H1.out, HB.out⟩
  rw [if_neg c2] at H
  have c2b0 : (a0_0 == 2) = false := beq_eq_false_iff_ne.mpr c2
  clear c2
  by_cases c3 : a0_0 = 3
  · rw [if_pos c3] at H
    have c3b0 : (a0_0 == 3) = true := beq_iff_eq.mpr c3
    clear c3
    have H1 := Aside0.mk H
    clear H
    go_enter Try.func59, Try.ntmps59
    go_wp2_with (first | ((with_reducible refine gate_dst (N := 1) rfl ?_); refine box_event ?hg (N := 1) ?hd (cs := #[.int .i64 a0_0, .slice A0_1 l0_1.length c0_1, .slice A0_2 l0_2.length c0_2, .slice A0_3 l0_3.length c0_3]) (t := 52) ?hr ?_; (case hd => rfl); (case hg => rfl); (case hr => first | (go_simp; done) | (go_simp; rfl)); intro g1 hg w2 hbox hb; have n0_ := Aside0.mk (below_step HB.out hb); have n1_ := Aside0.mk (hbox); have n2_ := Aside0.mk ((by rw [hg]; exact below_size HB.out : w.heap.size ≤ g1)); clear HB; have HB := n0_; have BK1 := n1_; have GE1 := n2_; clear n0_ n1_ n2_ hb hbox hg; have hc10 : w2.cell? ⟨g1, 0, none⟩ = some (Value.int .i64 a0_0) := (blk_cell BK1.out 0).trans rfl; have hc11 : w2.cell? ⟨g1, 1, none⟩ = some (.slice A0_1 l0_1.length c0_1) := (blk_cell BK1.out 1).trans rfl; have hc12 : w2.cell? ⟨g1, 2, none⟩ = some (.slice A0_2 l0_2.length c0_2) := (blk_cell BK1.out 2).trans rfl; have hc13 : w2.cell? ⟨g1, 3, none⟩ = some (.slice A0_3 l0_3.length c0_3) := (blk_cell BK1.out 3).trans rfl; have hf10 := blk_frozen BK1.out 0; have hf11 := blk_frozen BK1.out 1; have hf12 := blk_frozen BK1.out 2; have hf13 := blk_frozen BK1.out 3) | (go_at_call 89; (with_reducible refine (slices_Values_int_int.calls k _ _ l0_3 xs w0 _ (below_step H0.out.1 HB.out) HR0_3.out HC0_3.out H1.out).mono ?_); have HB0 := Aside0.mk (below_size HB.out); rintro e w3 ⟨gb, rfl, hgb, hlt, hit, hb⟩; have n0_ := Aside0.mk (below_step HB.out hb); clear HB; have HB := n0_; clear n0_ hb) | go_in)
    go_ret
    exact ⟨120, _, rfl, enters_of Try.func120 (by kernel_rfl) rfl, by have := HB0.out; omega, hlt, hit, HB.out⟩
  · rw [if_neg c3] at H
    have c3b0 : (a0_0 == 3) = false := beq_eq_false_iff_ne.mpr c3
    clear c3
    have H1 := Aside0.mk H
    clear H
    go_enter Try.func59, Try.ntmps59
    go_wp2_with (first | ((with_reducible refine gate_dst (N := 1) rfl ?_); refine box_event ?hg (N := 1) ?hd (cs := #[.int .i64 a0_0, .slice A0_1 l0_1.length c0_1, .slice A0_2 l0_2.length c0_2, .slice A0_3 l0_3.length c0_3]) (t := 52) ?hr ?_; (case hd => rfl); (case hg => rfl); (case hr => first | (go_simp; done) | (go_simp; rfl)); intro g1 hg w2 hbox hb; have n0_ := Aside0.mk (below_step HB.out hb); have n1_ := Aside0.mk (hbox); have n2_ := Aside0.mk ((by rw [hg]; exact below_size HB.out : w.heap.size ≤ g1)); clear HB; have HB := n0_; have BK1 := n1_; have GE1 := n2_; clear n0_ n1_ n2_ hb hbox hg; have hc10 : w2.cell? ⟨g1, 0, none⟩ = some (Value.int .i64 a0_0) := (blk_cell BK1.out 0).trans rfl; have hc11 : w2.cell? ⟨g1, 1, none⟩ = some (.slice A0_1 l0_1.length c0_1) := (blk_cell BK1.out 1).trans rfl; have hc12 : w2.cell? ⟨g1, 2, none⟩ = some (.slice A0_2 l0_2.length c0_2) := (blk_cell BK1.out 2).trans rfl; have hc13 : w2.cell? ⟨g1, 3, none⟩ = some (.slice A0_3 l0_3.length c0_3) := (blk_cell BK1.out 3).trans rfl; have hf10 := blk_frozen BK1.out 0; have hf11 := blk_frozen BK1.out 1; have hf12 := blk_frozen BK1.out 2; have hf13 := blk_frozen BK1.out 3) | go_in)
    go_ret
    exact ⟨90, _, rfl, enters_of Try.func90 (by kernel_rfl) rfl, GE1.out, blk_lt BK1.out, poslist_List_Places_2.iter k a0_0 A0_1 c0_1 l0_1 A0_2 c0_2 l0_2 A0_3 c0_3 l0_3 xs w0 _ g1 HR0_1.out HC0_1.out HR0_2.out HC0_2.out HR0_3.out HC0_3.out (below_step H0.out.1 HB.out) BK1.out (by have := H0.out.1.size; have := GE1.out; omega) H1.out, HB.out⟩
/-! ### span_Of_1: function 95 -/
def span_Of_1.f (a0 : Int) : Option (Bool) := if a0 < 0 then (some true) else (some (decide (a0 ≥ 65536)))
set_option maxHeartbeats 8000000 in
set_option maxRecDepth 100000 in
theorem span_Of_1.calls (a0 : Int) (r : Bool) (w : World) (h : span_Of_1.f a0 = some r) :
  Calls Try.prog 95 #[.int .i64 a0] w fun e w' => e = .returned (.bool r) ∧ Drawn0 w w' := by
 have H : (if a0 < 0 then (some true) else (some (decide (a0 ≥ 65536)))) = some r := h
 clear h
 by_cases c2 : a0 < 0
 ·rw [if_pos c2] at H
  have c2b0 : decide (a0 < 0) = true := decide_eq_true c2
  clear c2
  obtain rfl := Option.some.inj H
  go_enter Try.func95, Try.ntmps95
  go_wp2
  go_ret
  exact ⟨by first | rfl | (unfold wrap64; rfl) | (simp; done) | (simp [*]; done), by repeat (first | exact Drawn0.refl _ | apply Drawn0.step)⟩
 ·rw [if_neg c2] at H
  have c2b0 : decide (a0 < 0) = false := decide_eq_false c2
  clear c2
  obtain rfl := Option.some.inj H
  go_enter Try.func95, Try.ntmps95
  go_wp2
  go_ret
  exact ⟨by first | rfl | (unfold wrap64; rfl) | (simp; done) | (simp [*]; done), by repeat (first | exact Drawn0.refl _ | apply Drawn0.step)⟩
/-! ### slices_IndexFunc_int_int_fn95: function 121 -/
def slices_IndexFunc_int_int_fn95.l0 : Nat → List Int → Int → Int → Option (Int)
 | 0, _, _, _ => none
 | k + 1, x0, x7, x8 => if x8 < x7 then (if 0 ≤ x8 then (if x8 < (x0.length : Int) then ((span_Of_1.f (rd x0 x8)).bind fun t304 => (if t304 = true then (some x8) else (slices_IndexFunc_int_int_fn95.l0 k x0 x7 (wrap64 (x8 + 1))))) else (none)) else (none)) else (some (-1))
def slices_IndexFunc_int_int_fn95.f (k : Nat) (l0 : List Int)  : Option (Int) := slices_IndexFunc_int_int_fn95.l0 k l0 (l0.length : Int) 0
theorem slices_IndexFunc_int_int_fn95.l0_succ (k : Nat) (x0 : List Int) (x7 : Int) (x8 : Int) : slices_IndexFunc_int_int_fn95.l0 (k + 1) x0 x7 x8 = (if x8 < x7 then (if 0 ≤ x8 then (if x8 < (x0.length : Int) then ((span_Of_1.f (rd x0 x8)).bind fun t304 => (if t304 = true then (some x8) else (slices_IndexFunc_int_int_fn95.l0 k x0 x7 (wrap64 (x8 + 1))))) else (none)) else (none)) else (some (-1))) := by
 simp only [slices_IndexFunc_int_int_fn95.l0]
set_option maxHeartbeats 8000000 in
set_option maxRecDepth 100000 in
theorem slices_IndexFunc_int_int_fn95.calls (k : Nat) (A0 : Option Addr) (c0 : Nat) (l0 : List Int)  (r : Int) (w : World) (hr0 : Kd.C (Kd.int .i64) w A0 l0.length l0) (hc0 : l0.length ≤ c0) (h : slices_IndexFunc_int_int_fn95.f k l0 = some r) :
  Calls Try.prog 121 #[.slice A0 l0.length c0, .func (.func 95) #[] #[]] w fun e w' => e = .returned (.int .i64 r) ∧ Below w.heap.size w w' := by
 have HR0 := Aside0.mk hr0
 have HC0 := Aside0.mk hc0
 clear hr0 hc0
 have HB := Aside0.mk (Below.refl w.heap.size w)
 have H : (slices_IndexFunc_int_int_fn95.l0 k l0 (l0.length : Int) 0) = some r := h
 clear h
 have H' := Aside0.mk H
 clear H
 go_enter Try.func121, Try.ntmps121
 go_wp2
 go_loopg [8] k (fun kq v8 w' => ∃ (x8_1 : Int), v8 = .int .i64 x8_1 ∧ Aside0 (slices_IndexFunc_int_int_fn95.l0 kq l0 (l0.length : Int) x8_1 = some r) ∧ Aside0 (kq ≤ k) ∧ Aside0 (Below w.heap.size w w'))
 case atStart => exact ⟨(0), (by first | rfl | (simp; done) | (simp [*]; done)), H', ⟨Nat.le_refl _⟩, ⟨bh HB.out⟩⟩
 case round =>
  clear H'
  obtain ⟨x8_1, rfl, HA, HK1, HB⟩ := hrel
  cases gk with
  | zero => exact absurd HA.out (by simp [slices_IndexFunc_int_int_fn95.l0])
  | succ k1 =>
   have H := HA.out
   clear HA
   simp only [slices_IndexFunc_int_int_fn95.l0] at H
   by_cases c3 : x8_1 < (l0.length : Int)
   ·rw [if_pos c3] at H
    have c3b0 : decide (x8_1 < (l0.length : Int)) = true := decide_eq_true c3
    clear c3
    by_cases c4 : 0 ≤ x8_1
    ·rw [if_pos c4] at H
     have c4b0 : decide (0 ≤ x8_1) = true := decide_eq_true c4
     clear c4
     by_cases c5 : x8_1 < (l0.length : Int)
     ·rw [if_pos c5] at H
      have c5b0 : decide (x8_1 < (l0.length : Int)) = true := decide_eq_true c5
      clear c5
      replace H := Option.bind_eq_some_iff.mp H
      obtain ⟨t304, A60, H⟩ := H
      replace H : (if t304 = true then (some x8_1) else (slices_IndexFunc_int_int_fn95.l0 k1 l0 (l0.length : Int) (wrap64 (x8_1 + 1)))) = some r := H
      have A6 := Aside0.mk A60
      clear A60
      by_cases c7 : t304 = true
      ·subst c7
       have H1 : (some x8_1) = some r := by rw [if_pos rfl] at H; exact H
       clear H
       have H := H1
       clear H1
       obtain rfl := Option.some.inj H
       have p303 : 0 ≤ (x8_1 : Int) := of_decide_eq_true (by assumption)
       have q303 : x8_1 < (l0.length : Int) := of_decide_eq_true (by assumption)
       obtain ⟨ad303, e303, hx303_0⟩ := Kd.at_int HR0.out x8_1 p303 q303
       cases e303
       replace hx303_0 := (HB.out.cell (World.block_lt_of_cell? w _ hx303_0)).trans hx303_0
       replace p303 := eq_true p303
       replace q303 := eq_true q303
       go_wp2_with (first | ((with_reducible refine gate_list ?_); refine gate_value rfl ?_; refine goesV_ (some 16) rfl rfl Try.func95 (by kernel_rfl) rfl #[.int .i64 (rd l0 x8_1)] rfl (by first | rfl | simp) (by (try simp only [List.map_toArray, List.map_cons, List.map_nil]); first | done | rfl) ?_; (with_reducible refine (span_Of_1.calls (rd l0 x8_1) true _ A6.out).mono ?_); rintro e w' ⟨rfl, ⟨nd, rfl⟩⟩; refine ⟨_, rfl, ?_⟩))
       go_ret
       exact ⟨er, bh HB.out⟩
      ·replace c7 := Bool.eq_false_iff.mpr c7
       subst c7
       have H1 : (slices_IndexFunc_int_int_fn95.l0 k1 l0 (l0.length : Int) (wrap64 (x8_1 + 1))) = some r := by rw [if_neg (show ¬ (false = true) by decide)] at H; exact H
       clear H
       have H := H1
       clear H1
       have H' := Aside0.mk H
       clear H
       have p303 : 0 ≤ (x8_1 : Int) := of_decide_eq_true (by assumption)
       have q303 : x8_1 < (l0.length : Int) := of_decide_eq_true (by assumption)
       obtain ⟨ad303, e303, hx303_0⟩ := Kd.at_int HR0.out x8_1 p303 q303
       cases e303
       replace hx303_0 := (HB.out.cell (World.block_lt_of_cell? w _ hx303_0)).trans hx303_0
       replace p303 := eq_true p303
       replace q303 := eq_true q303
       go_wp2_with (first | ((with_reducible refine gate_list ?_); refine gate_value rfl ?_; refine goesV_ (some 16) rfl rfl Try.func95 (by kernel_rfl) rfl #[.int .i64 (rd l0 x8_1)] rfl (by first | rfl | simp) (by (try simp only [List.map_toArray, List.map_cons, List.map_nil]); first | done | rfl) ?_; (with_reducible refine (span_Of_1.calls (rd l0 x8_1) false _ A6.out).mono ?_); rintro e w' ⟨rfl, ⟨nd, rfl⟩⟩; refine ⟨_, rfl, ?_⟩))
       go_roundg k1
       case measure => have := HK1.out; omega
       case rel => exact ⟨(wrap64 (x8_1 + 1)), (by first | rfl | (simp; done) | (simp [*]; done)), H', ⟨by have := HK1.out; omega⟩, ⟨bh HB.out⟩⟩
     ·rw [if_neg c5] at H
      exact absurd H (by simp)
    ·rw [if_neg c4] at H
     exact absurd H (by simp)
   ·rw [if_neg c3] at H
    have c3b0 : decide (x8_1 < (l0.length : Int)) = false := decide_eq_false c3
    clear c3
    obtain rfl := Option.some.inj H
    go_wp2
    go_ret
    exact ⟨er, bh HB.out⟩
end Go.Proofs.Ytbmlfbbcgbgnoaa.Print
end
section
namespace Go.Proofs.Ytbmlfbbcgbgnoaa.Print
open Go.RowKit Go.Proofs.YtbmlfbbcgbgnoaaW.PrintWords Go.Proofs.YtbmlfbbcgbgnoaaW.PrintLast Go.Proofs.YtbmlfbbcgbgnoaaW.PrintMore
attribute [local go_sem] max2_int min2_int max_two min_two max_three min_three max_four min_four   -- for this text's walks alone
set_option linter.unusedVariables false
set_option linter.unusedSimpArgs false
/-! ### slices_ContainsFunc_int_int_fn95: function 94 -/
def slices_ContainsFunc_int_int_fn95.f (k : Nat) (l0 : List Int)  : Option (Bool) := (slices_IndexFunc_int_int_fn95.f k l0).bind fun t305 => (some (decide (t305 ≥ 0)))
set_option maxHeartbeats 8000000 in
set_option maxRecDepth 100000 in
theorem slices_ContainsFunc_int_int_fn95.calls (k : Nat) (A0 : Option Addr) (c0 : Nat) (l0 : List Int)  (r : Bool) (w : World) (hr0 : Kd.C (Kd.int .i64) w A0 l0.length l0) (hc0 : l0.length ≤ c0) (h : slices_ContainsFunc_int_int_fn95.f k l0 = some r) :
  Calls Try.prog 94 #[.slice A0 l0.length c0, .func (.func 95) #[] #[]] w fun e w' => e = .returned (.bool r) ∧ Below w.heap.size w w' := by
 have HR0 := Aside0.mk hr0
 have HC0 := Aside0.mk hc0
 clear hr0 hc0
 have HB := Aside0.mk (Below.refl w.heap.size w)
 have H : ((slices_IndexFunc_int_int_fn95.f k l0).bind fun t305 => (some (decide (t305 ≥ 0)))) = some r := h
 clear h
 replace H := Option.bind_eq_some_iff.mp H
 obtain ⟨t305, A30, H⟩ := H
 replace H : (some (decide (t305 ≥ 0))) = some r := H
 have A3 := Aside0.mk A30
 clear A30
 obtain rfl := Option.some.inj H
 go_enter Try.func94, Try.ntmps94
 go_wp2_with (first | ((with_reducible refine gate_callee (f := 121) rfl ?_); refine goesL_ (some 7) rfl rfl Try.func121 (by kernel_rfl) rfl #[.slice A0 l0.length c0, .func (.func 95) #[] #[]] rfl (by (try simp only [List.map_toArray, List.map_cons, List.map_nil]); first | done | rfl) ?_; (with_reducible refine (slices_IndexFunc_int_int_fn95.calls k _ _ l0  t305 _ ?side1 ?side2 A3.out).mono ?_); (case side1 => exact cx HR0.out); (case side2 => exact HC0.out); rintro e w4 ⟨rfl, hb⟩; refine ⟨_, rfl, ?_⟩; replace HB := bsa HB hb; (try clear hb)))
 go_ret
 exact ⟨er, bh HB.out⟩
/-! ### slices_Clone_int_int: function 96 (a contract of the session's own) -/
def slices_Clone_int_int.f (l0 : List Int) : Option (List Int) := if l0.length ≤ 2000000000000 then some l0 else none
set_option maxHeartbeats 4000000 in
set_option maxRecDepth 100000 in
theorem slices_Clone_int_int.calls (A0 : Option Addr) (c0 : Nat) (l0 : List Int) (r : List Int) (w : World) (hr0 : (Kd.int .i64).C w A0 l0.length l0) (hc0 : l0.length ≤ c0) (h : slices_Clone_int_int.f l0 = some r) :
    Calls Try.prog 96 #[.slice A0 l0.length c0] w fun e w' => ∃ v0_ : Value, e = .returned v0_ ∧ (Kd.int .i64).R 3 w' w.heap.size (fun _ => True) v0_ r ∧ Below w.heap.size w w' := by
  have hl : l0.length ≤ 2000000000000 := by
    unfold slices_Clone_int_int.f at h
    split at h
    · assumption
    · exact absurd h (by simp)
  obtain rfl : l0 = r := by
    unfold slices_Clone_int_int.f at h
    rw [if_pos hl] at h
    exact Option.some.inj h
  have HR := Aside0.mk hr0
  have HC := Aside0.mk hc0
  have HL := Aside0.mk hl
  clear hr0 hc0 hl h
  go_enter Try.func96, Try.ntmps96
  rcases A0 with _ | ad
  · have h0 : l0 = [] := by
      have := HR.out.2.2
      rcases l0 with _ | ⟨x, l⟩
      · rfl
      · obtain ⟨ad, he, _⟩ := this (by simp)
        exact absurd he (by simp)
    subst h0
    have hE := Go.Lib.run_eql_slice_nil_nil (P := Try.prog) w (t := 22) (e := 3) 0 c0 Try.underlying22
    go_wp2
    go_ret
    exact ⟨_, rfl, Kd.R_nil _ _ _ _ _, Below.refl _ _⟩
  · have hE := Go.Lib.run_eql_slice_some_nil (P := Try.prog) w (t := 22) (e := 3) ad l0.length c0 Try.underlying22
    go_wp2_with (first | ((with_reducible refine gate_dst (N := 5) rfl ?_); refine Kd.R_lit (Kd.int .i64) (w0 := w) w.heap.size 3 rfl (N := 5) rfl (xs := []) (inner := []) (ok := fun _ => True) (okp := fun _ => True) (by first | rfl | (go_simp; done) | (go_simp; rfl)) (Reps.none _ _) (fun _ _ => trivial) trivial (Below.refl _ _) (Nat.le_refl _) (by simp) ?_; intro v5 w1 ho5 hb hg_ hnew_; have HO5 := Aside0.mk ho5; have HB := Aside0.mk hb; clear ho5 hb hg_ hnew_; obtain ⟨Ao5, co5, eo5⟩ := Kd.R_slice HO5.out; subst eo5) | ((with_reducible refine gate_builtin (b := .append) (xs := #[.tmp 5, .tmp 6]) rfl ?_); at_builtin; refine Kd.R_append_rows (Kd.int .i64) (w0 := w) w.heap.size rfl (.tmp 5) (.tmp 6) 22 3 _ _ rfl Try.underlying22 info3 rfl (by decide) (by omega) _ [] l0 _ _ _ (fun _ => True) (fun _ => False) rfl rfl HO5.out (Kd.C_below HR.out HB.out) (fun _ _ h => h) (fun _ h => h.elim) (fun _ _ => trivial) HB.out (below_size HB.out) (by have := HL.out; simp; omega) ?_; intro v7 w2 ho7 hb7 hg_ hat_; have HO7 := Aside0.mk ho7; have HB7 := Aside0.mk hb7; clear ho7 hb7 hg_ hat_))
    go_ret
    exact ⟨_, rfl, by simpa using HO7.out, HB7.out⟩
/-! ### slices_Sort_int_int: function 97 (a contract of the session's own) -/
def Try.laysSort_ren : Go.Shelf.Ren := ⟨fun | 189 => 97 | 125 => 77 | 257 => 122 | 128 => 113 | 129 => 114 | 294 => 135 | 295 => 136 | 296 => 137 | 297 => 138 | 298 => 139 | 299 => 140 | 216 => 118 | 300 => 141 | 301 => 142 | 328 => 144 | 329 => 127 | 330 => 128 | 331 => 145 | 332 => 146 | 215 => 78 | 343 => 147 | n => n, fun | 28 => 22 | 3 => 3 | 46 => 92 | 0 => 0 | 51 => 129 | 53 => 91 | 4 => 4 | 183 => 123 | 182 => 122 | 131 => 107 | 5 => 5 | 9 => 9 | 218 => 143 | 222 => 147 | 228 => 158 | 229 => 159 | n => n, fun | n => n⟩
theorem Try.laysSort : Go.Proofs.Lays.n189 Try.prog Try.laysSort_ren := {
  mixed := by kernel_rfl
  f125 := Try.func77.trans (congrArg some (by kernel_rfl))
  f128 := Try.func113.trans (congrArg some (by kernel_rfl))
  f129 := Try.func114.trans (congrArg some (by kernel_rfl))
  f189 := Try.func97.trans (congrArg some (by kernel_rfl))
  f215 := Try.func78.trans (congrArg some (by kernel_rfl))
  f216 := Try.func118.trans (congrArg some (by kernel_rfl))
  f257 := Try.func122.trans (congrArg some (by kernel_rfl))
  f294 := Try.func135.trans (congrArg some (by kernel_rfl))
  f295 := Try.func136.trans (congrArg some (by kernel_rfl))
  f296 := Try.func137.trans (congrArg some (by kernel_rfl))
  f297 := Try.func138.trans (congrArg some (by kernel_rfl))
  f298 := Try.func139.trans (congrArg some (by kernel_rfl))
  f299 := Try.func140.trans (congrArg some (by kernel_rfl))
  f300 := Try.func141.trans (congrArg some (by kernel_rfl))
  f301 := Try.func142.trans (congrArg some (by kernel_rfl))
  f328 := Try.func144.trans (congrArg some (by kernel_rfl))
  f329 := Try.func127.trans (congrArg some (by kernel_rfl))
  f330 := Try.func128.trans (congrArg some (by kernel_rfl))
  f331 := Try.func145.trans (congrArg some (by kernel_rfl))
  f332 := Try.func146.trans (congrArg some (by kernel_rfl))
  f343 := Try.func147.trans (congrArg some (by kernel_rfl))
  t0 := Try.underlying0
  a0 := Try.isAgg0
  z0 := Try.sizeOf0
  v0 := Try.zeroValue0
  t3 := Try.underlying3
  a3 := Try.isAgg3
  z3 := Try.sizeOf3
  v3 := Try.zeroValue3
  t4 := Try.underlying4
  a4 := Try.isAgg4
  z4 := Try.sizeOf4
  v4 := Try.zeroValue4
  t5 := Try.underlying5
  a5 := Try.isAgg5
  z5 := Try.sizeOf5
  v5 := Try.zeroValue5
  t9 := Try.underlying9
  a9 := Try.isAgg9
  z9 := Try.sizeOf9
  v9 := Try.zeroValue9
  t28 := Try.underlying22
  a28 := Try.isAgg22
  z28 := Try.sizeOf22
  v28 := Try.zeroValue22
  t46 := Try.underlying92
  a46 := Try.isAgg92
  z46 := Try.sizeOf92
  v46 := Try.zeroValue92
  t51 := Try.underlying129
  a51 := Try.isAgg129
  z51 := Try.sizeOf129
  v51 := Try.zeroValue129
  t53 := Try.underlying91
  a53 := Try.isAgg91
  z53 := Try.sizeOf91
  v53 := Try.zeroValue91
  t131 := Try.underlying107
  a131 := Try.isAgg107
  z131 := Try.sizeOf107
  v131 := Try.zeroValue107
  t182 := Try.underlying122
  a182 := Try.isAgg122
  z182 := Try.sizeOf122
  v182 := Try.zeroValue122
  t183 := Try.underlying123
  a183 := Try.isAgg123
  z183 := Try.sizeOf123
  v183 := Try.zeroValue123
  t218 := Try.underlying143
  a218 := Try.isAgg143
  z218 := Try.sizeOf143
  v218 := Try.zeroValue143
  t222 := Try.underlying147
  a222 := Try.isAgg147
  z222 := Try.sizeOf147
  v222 := Try.zeroValue147
  t228 := Try.underlying158
  a228 := Try.isAgg158
  z228 := Try.sizeOf158
  v228 := Try.zeroValue158
  t229 := Try.underlying159
  a229 := Try.isAgg159
  z229 := Try.sizeOf159
  v229 := Try.zeroValue159 }
def slices_Sort_int_int.f (l0 : List Int) : Option (List Int) := if l0.length ≤ 2000000000000 then some (l0.mergeSort fun x y => decide (x ≤ y)) else none
theorem slices_Sort_int_int.calls (P0_ : Nat → Prop) (u9000_ : Value) (l0 : List Int) (r : List Int) (w0 w : World) (hB : Below w0.heap.size w0 w) (ho0 : Kd.R (Kd.int .i64) 3 w w0.heap.size P0_ u9000_ l0) (h : slices_Sort_int_int.f l0 = some r) :
    Calls Try.prog 97 #[u9000_] w fun e w' => e = .returned (.tuple #[]) ∧ Kd.R (Kd.int .i64) 3 w' w0.heap.size (fun k_ => (P0_ k_ ∨ w.heap.size ≤ k_)) u9000_ r ∧ Below w0.heap.size w0 w' ∧ Kept w w' (fun k_ => P0_ k_) := by
  have hl : l0.length ≤ 2000000000000 := by
    unfold slices_Sort_int_int.f at h
    split at h
    · assumption
    · exact absurd h (by simp)
  obtain rfl : (l0.mergeSort fun x y => decide (x ≤ y)) = r := by
    unfold slices_Sort_int_int.f at h
    rw [if_pos hl] at h
    exact Option.some.inj h
  have hown := Kd.own_of_R ho0
  have hok := ho0.1
  have hlen : (l0.mergeSort fun x y => decide (x ≤ y)).length = l0.length := List.length_mergeSort l0
  rcases hown.2 with ⟨rfl, hnil⟩ | ⟨g, cap, cur, rfl, hb, hh, hn, hcap, hsz, htk⟩
  · have h0 : l0 = [] := by
      cases l0 with
      | nil => rfl
      | cons x l => simp at hnil
    subst h0
    refine (calls_of_every_depth fun D => AnyS.slices_Sort_int_none_alone Try.laysSort D none 0 w).mono ?_
    rintro e w' ⟨rfl, rfl⟩
    rw [show (([] : List Int).mergeSort fun x y => decide (x ≤ y)) = [] by simp]
    exact ⟨rfl, Kd.R_mono ho0 (fun k hk => .inl hk), hB, Kept.refl _ _⟩
  · have hH := holds_of_blockI (ss := l0) hh (by simpa [encs] using htk)
    have hg : g < w.heap.size := (Array.getElem?_eq_some_iff.1 hh).1
    refine (Go.Proofs.Any.slices_Sort_int Try.laysSort g 0 cap l0 w hH hg (by omega)).mono ?_
    rintro e w' ⟨rfl, n, os, rfl⟩
    have hgr := grownBy_sortedI (w := w) (g := g) (n := n) (os := os) (l0.mergeSort fun x y => decide (x ≤ y)).toArray
    have ho := ownsRow_sortedI (n := n) (os := os) (ss := l0) hlen hb hh hn hcap hsz
    refine ⟨rfl, ?_, pw_below_grown hB (some g) hB.size hgr (fun k hk => by cases hk; exact hb), Kept.of_grown hgr (Kept.refl _ _) (fun k hk => by cases hk; exact .inl (hok g rfl))⟩
    have ho2 := ho
    rw [← hlen] at ho2
    refine Kd.R_of_own ?_ (fun k hk => .inl (hok k hk))
    rw [hlen]
    exact ho
/-! ### span_adds: function 98 -/
def span_adds.f (l0 : List (S79)) (a1_0 : Int) (a1_1 : Int) : Option ((List (S79))) := if a1_0 ≥ a1_1 then (some l0) else (if (wrap64 ((l0.length : Int) - 1)) ≥ 0 then (if 0 ≤ (wrap64 ((l0.length : Int) - 1)) then (if (wrap64 ((l0.length : Int) - 1)) < (l0.length : Int) then (if ((rd_T79 l0 (wrap64 ((l0.length : Int) - 1))).f1) ≥ a1_0 then (some (l0.set ((wrap64 ((l0.length : Int) - 1)) : Int).toNat (⟨(rd_T79 l0 (wrap64 ((l0.length : Int) - 1))).f0, mx ((rd_T79 l0 (wrap64 ((l0.length : Int) - 1))).f1) a1_1⟩ : S79))) else (if l0.length < 8796093022208 then (some (l0 ++ [(⟨a1_0, a1_1⟩ : S79)])) else (none))) else (none)) else (none)) else (if l0.length < 8796093022208 then (some (l0 ++ [(⟨a1_0, a1_1⟩ : S79)])) else (none)))
def span_adds.T4 : Bool × List (List Nat × List Nat) := (true, [([], []), ([0], [0]), ([1], [1]), ([2], [2]), ([2], [2]), ([3, 4, 2], [2, 3, 4]), ([5, 2], [2, 5]), ([6, 2], [2, 6]), ([2], [2]), ([8, 2], [2, 8]), ([7, 9, 2], [2, 7, 9]), ([2, 10], [2, 10]), ([11, 2], [11])])
def span_adds.B4 : List Nat := [0, 1, 3, 7, 7, 31, 63, 127, 7, 263, 1023, 2047, 4095]
theorem span_adds.tab4 : rtab .any (opsOf Try.f98 4) = span_adds.T4 := by kernel_rfl
theorem span_adds.bits4 : waitsOk span_adds.T4.2 span_adds.B4 = true := by kernel_rfl
def span_adds.T5 : Bool × List (List Nat × List Nat) := (true, [([], []), ([], []), ([], []), ([], []), ([2, 3], [2, 3]), ([4], [4]), ([5], [5]), ([], []), ([7], [7]), ([6, 8], [6, 8]), ([0, 1, 0, 1, 2, 3, 4, 5, 6, 7, 8, 9], [0, 1]), ([10, 0, 1, 2, 3, 4, 5, 6, 7, 8, 9], [10]), ([11, 9, 0, 1, 2, 3, 4, 5, 6, 7, 8, 9], [9, 11])])
def span_adds.B5 : List Nat := [0, 0, 0, 0, 12, 28, 60, 0, 128, 508, 1023, 2047, 4095]
theorem span_adds.tab5 : rtab .any (opsOf Try.f98 5) = span_adds.T5 := by kernel_rfl
theorem span_adds.bits5 : waitsOk span_adds.T5.2 span_adds.B5 = true := by kernel_rfl
set_option maxHeartbeats 8000000 in
set_option maxRecDepth 100000 in
theorem span_adds.calls (P0_ : Nat → Prop) (u9000_ : Value) (l0 : List (S79)) (a1_0 : Int) (a1_1 : Int) (r : List (S79)) (w0 w : World) (hB : Below w0.heap.size w0 w) (ho0 : Kd.R k79 79 w w0.heap.size P0_ u9000_ l0) (h : span_adds.f l0 a1_0 a1_1 = some r) :
  Calls Try.prog 98 #[u9000_, .agg #[.int .i64 a1_0, .int .i64 a1_1]] w fun e w' => ∃ v0_ : Value, e = .returned (v0_) ∧ Kd.R k79 79 w' w0.heap.size (fun k_ => (P0_ k_ ∨ w.heap.size ≤ k_)) v0_ r ∧ Below w0.heap.size w0 w' ∧ Kept w w' (fun k_ => P0_ k_) := by
 have hu79 := Try.underlying79
 have HO0 := Aside0.mk (show Kd.R k79 79 w w0.heap.size (fun k_ => (P0_ k_ ∨ w.heap.size ≤ k_)) u9000_ l0 from Kd.R_mono ho0 (fun k_ hk => (.inl hk)))
 have HK := Aside0.mk (Kept.refl w (fun k_ => P0_ k_))
 have HW0 := Aside0.mk hB.size
 have HB := Aside0.mk hB
 clear hB
 have H : (if a1_0 ≥ a1_1 then (some l0) else (if (wrap64 ((l0.length : Int) - 1)) ≥ 0 then (if 0 ≤ (wrap64 ((l0.length : Int) - 1)) then (if (wrap64 ((l0.length : Int) - 1)) < (l0.length : Int) then (if ((rd_T79 l0 (wrap64 ((l0.length : Int) - 1))).f1) ≥ a1_0 then (some (l0.set ((wrap64 ((l0.length : Int) - 1)) : Int).toNat (⟨(rd_T79 l0 (wrap64 ((l0.length : Int) - 1))).f0, mx ((rd_T79 l0 (wrap64 ((l0.length : Int) - 1))).f1) a1_1⟩ : S79))) else (if l0.length < 8796093022208 then (some (l0 ++ [(⟨a1_0, a1_1⟩ : S79)])) else (none))) else (none)) else (none)) else (if l0.length < 8796093022208 then (some (l0 ++ [(⟨a1_0, a1_1⟩ : S79)])) else (none)))) = some r := h
 clear h
 by_cases c3 : a1_0 ≥ a1_1
 ·rw [if_pos c3] at H
  have c3b0 : decide (a1_1 ≤ a1_0) = true := decide_eq_true c3
  clear c3
  obtain rfl := Option.some.inj H
  go_enter Try.func98, Try.ntmps98
  go_wp2_with (first | ((with_reducible refine gate_dst (N := 3) rfl ?_); refine box_event ?hg (N := 3) ?hd (cs := #[.int .i64 a1_0, .int .i64 a1_1]) (t := 79) ?hr ?_; (case hd => rfl); (case hg => rfl); (case hr => first | (go_simp; done) | (go_simp; rfl)); intro gb306 hg w4 hbox hb; replace HO0 := Aside0.mk (Kd.R_below (Kd.R_elderB (rx HO0.out) gb306 (Nat.le_of_eq hg.symm)) hb); have BK306 := Aside0.mk (hbox); have GW306 := Aside0.mk ((by rw [hg]; exact (by first | exact HK.out.1 | exact (show Kept w _ (fun k_ => P0_ k_) from by repeat (first | (with_reducible first | exact HK.out | apply Kept.alloc | apply Kept.drewN | apply Kept.drew) | exact HK.out)).1) : w.heap.size ≤ gb306)); replace HK := Aside0.mk (Kept.below (S := (fun k_ => P0_ k_)) (by repeat (first | (with_reducible first | exact HK.out | apply Kept.alloc | apply Kept.drewN | apply Kept.drew) | exact HK.out)) hb); have GE306 := Aside0.mk ((by rw [hg]; exact (below_size (bh HB.out)) : w0.heap.size ≤ gb306)); replace HB := bsa HB hb; clear hb hbox hg; obtain ⟨Ao5, co5, eo5⟩ := Kd.R_slice HO0.out; subst eo5; have hcz6_0 : w4.cell? ⟨gb306, 0, none⟩ = some (.int .i64 a1_0) := (blk_cell BK306.out 0).trans rfl; have hcz6_1 : w4.cell? ⟨gb306, 1, none⟩ = some (.int .i64 a1_1) := (blk_cell BK306.out 1).trans rfl; have hfz6_0 := blk_frozen BK306.out 0; have hfz6_1 := blk_frozen BK306.out 1))
  go_ret
  exact ⟨_, er, by (with_reducible repeat (first | apply Kd.R_alloc | apply Kd.R_drewN | apply Kd.R_drew)); exact Kd.R_mono HO0.out (fun _ hk => hk.1), bh HB.out, by repeat (first | (with_reducible first | exact HK.out | apply Kept.alloc | apply Kept.drewN | apply Kept.drew | refine Kept.setCell ?_ (.inr GW306.out) _) | exact HK.out)⟩
 ·rw [if_neg c3] at H
  have c3b0 : decide (a1_1 ≤ a1_0) = false := decide_eq_false c3
  clear c3
  by_cases c7 : (wrap64 ((l0.length : Int) - 1)) ≥ 0
  ·rw [if_pos c7] at H
   have c7b0 : decide (0 ≤ (wrap64 ((l0.length : Int) - 1))) = true := decide_eq_true c7
   clear c7
   obtain ⟨ji8, hji8⟩ : ∃ j_ : Int, (wrap64 ((l0.length : Int) - 1)) = j_ := ⟨_, rfl⟩
   replace H : (if 0 ≤ (ji8) then (if (ji8) < (l0.length : Int) then (if ((rd_T79 l0 (ji8)).f1) ≥ a1_0 then (some (l0.set ((ji8) : Int).toNat (⟨(rd_T79 l0 (ji8)).f0, mx ((rd_T79 l0 (ji8)).f1) a1_1⟩ : S79))) else (if l0.length < 8796093022208 then (some (l0 ++ [(⟨a1_0, a1_1⟩ : S79)])) else (none))) else (none)) else (none)) = some r := by first | (rw [hji8] at H; exact H) | (simp only [hji8] at H ⊢; exact H)
   (try rw [hji8] at c7b0)
   have hji8w : (IntKind.i64.wrap ((l0.length : Int) - 1)) = ji8 := (i64_w _).trans hji8
   by_cases c9 : 0 ≤ (ji8)
   ·rw [if_pos c9] at H
    have c9b0 : decide (0 ≤ (ji8)) = true := decide_eq_true c9
    clear c9
    by_cases c10 : (ji8) < (l0.length : Int)
    ·rw [if_pos c10] at H
     have c10b0 : decide ((ji8) < (l0.length : Int)) = true := decide_eq_true c10
     clear c10
     by_cases c11 : ((rd_T79 l0 (ji8)).f1) ≥ a1_0
     ·rw [if_pos c11] at H
      have c11b0 : decide (a1_0 ≤ ((rd_T79 l0 (ji8)).f1)) = true := decide_eq_true c11
      clear c11
      obtain ⟨ji12, hji12⟩ : ∃ j_ : Int, (mx ((rd_T79 l0 (ji8)).f1) a1_1) = j_ := ⟨_, rfl⟩
      replace H : (some (l0.set ((ji8) : Int).toNat (⟨(rd_T79 l0 (ji8)).f0, ji12⟩ : S79))) = some r := by first | (rw [hji12] at H; exact H) | (simp only [hji12] at H ⊢; exact H)
      have hji12_ : (if ((rd_T79 l0 (ji8)).f1) < a1_1 then a1_1 else ((rd_T79 l0 (ji8)).f1)) = ji12 := hji12
      obtain ⟨y309, hy309⟩ : ∃ y_ : List (S79), y_ = (l0.set ((ji8) : Int).toNat (⟨(rd_T79 l0 (ji8)).f0, ji12⟩ : S79)) := ⟨_, rfl⟩
      replace H : (some y309) = some r := by first | (rw [hy309]; with_reducible exact H) | (have H2_ := (Option.bind_some _ _).symm.trans H; rw [hy309]; with_reducible exact H2_) | (have H2_ := (Option.bind_some _ _).symm.trans H; with_reducible exact H2_) | with_reducible exact H | (rw [hy309]; exact H) | exact H
      have Ny309 := Aside0.mk hy309
      clear hy309
      obtain rfl := Option.some.inj H
      go_enter Try.func98, Try.ntmps98
      try go_wp2_with (first | ((with_reducible refine gate_dst (N := 3) rfl ?_); refine box_event ?hg (N := 3) ?hd (cs := #[.int .i64 a1_0, .int .i64 a1_1]) (t := 79) ?hr ?_; (case hd => rfl); (case hg => rfl); (case hr => first | (go_simp; done) | (go_simp; rfl)); intro gb306 hg w14 hbox hb; replace HO0 := Aside0.mk (Kd.R_below (Kd.R_elderB (rx HO0.out) gb306 (Nat.le_of_eq hg.symm)) hb); have BK306 := Aside0.mk (hbox); have GW306 := Aside0.mk ((by rw [hg]; exact (by first | exact HK.out.1 | exact (show Kept w _ (fun k_ => P0_ k_) from by repeat (first | (with_reducible first | exact HK.out | apply Kept.alloc | apply Kept.drewN | apply Kept.drew) | exact HK.out)).1) : w.heap.size ≤ gb306)); replace HK := Aside0.mk (Kept.below (S := (fun k_ => P0_ k_)) (by repeat (first | (with_reducible first | exact HK.out | apply Kept.alloc | apply Kept.drewN | apply Kept.drew) | exact HK.out)) hb); have GE306 := Aside0.mk ((by rw [hg]; exact (below_size (bh HB.out)) : w0.heap.size ≤ gb306)); replace HB := bsa HB hb; clear hb hbox hg; obtain ⟨Ao15, co15, eo15⟩ := Kd.R_slice HO0.out; subst eo15; have hcz16_0 : w14.cell? ⟨gb306, 0, none⟩ = some (.int .i64 a1_0) := (blk_cell BK306.out 0).trans rfl; have hcz16_1 : w14.cell? ⟨gb306, 1, none⟩ = some (.int .i64 a1_1) := (blk_cell BK306.out 1).trans rfl; have hfz16_0 := blk_frozen BK306.out 0; have hfz16_1 := blk_frozen BK306.out 1))
      replace HO0 := Aside0.mk (Kd.R_drew HO0.out)
      replace BK306 := Aside0.mk (blk_drew BK306.out)
      replace HK := Aside0.mk (Kept.drew HK.out)
      replace HB := Aside0.mk (below_drew1 HB.out)
      have p307 : 0 ≤ ((ji8) : Int) := of_decide_eq_true (by assumption)
      have q307 : (ji8) < (l0.length : Int) := of_decide_eq_true (by assumption)
      obtain ⟨ad307, e307, hx307_0, hx307_1⟩ := at_T79 (Kd.R_reads' HO0.out).2.2 (ji8) p307 q307
      cases e307
      replace p307 := eq_true p307
      replace q307 := eq_true q307
      refine start_ (n := 13) (S := fun w' => w'.cell? ⟨gb306, 0, none⟩ = some (.int .i64 a1_0) ∧ w'.cell? ⟨gb306, 1, none⟩ = some (.int .i64 a1_1) ∧ w'.cell? (ad307.add (((ji8)).toNat * 2)) = some (.int .i64 ((rd_T79 l0 (ji8)).f0)) ∧ w'.cell? ⟨(ad307.add (((ji8)).toNat * 2)).block, (ad307.add (((ji8)).toNat * 2)).off + 1, none⟩ = some (.int .i64 ((rd_T79 l0 (ji8)).f1))) (ds := []) #[false, false, false, false, false, false, false, false, false, false, false, false, false] (by kernel_rfl) rfl rfl ⟨(blk_cell BK306.out 0).trans rfl, (blk_cell BK306.out 1).trans rfl, hx307_0, hx307_1⟩ (fun hHeld => ?_); refine with_tabW span_adds.tab4 span_adds.bits4 (fun HT_ HW_ => ?_)
      generalize w14.drew = w17 at HO0 BK306 HK HB hx307_0 hx307_1 hHeld ⊢
      refine pure_ (i := 0) (N := some 20) (v := ?_) (a' := ?_) #[true, false, false, false, false, false, false, false, false, false, false, false, false] rfl rfl (any_of HT_.out (by kernel_rfl)) (fun _ _ _ h => h) (Or.inl ⟨by rfl, ?_⟩) ?_ ?_
      rotate_left
      ·intro w'
       go_simp
       with_reducible rfl
      rotate_left
      ·simp only [Act.put, List.setIfInBounds_toArray, List.set_cons_zero, List.set_cons_succ, i64_w, i32_w]
       rfl
      refine pure_ (i := 1) (N := some 21) (v := ?_) (a' := ?_) #[true, true, false, false, false, false, false, false, false, false, false, false, false] rfl rfl (any_of HT_.out (by kernel_rfl)) (fun _ _ _ h => h) (Or.inl ⟨by rfl, ?_⟩) ?_ ?_
      rotate_left
      ·intro w'
       go_simp
       with_reducible rfl
      rotate_left
      ·simp only [Act.put, List.setIfInBounds_toArray, List.set_cons_zero, List.set_cons_succ, i64_w, i32_w]
       rfl
      refine pure_ (i := 2) (N := some 22) (v := ?_) (a' := ?_) #[true, true, true, false, false, false, false, false, false, false, false, false, false] rfl rfl (any_of HT_.out (by kernel_rfl)) (fun _ _ _ h => h) (Or.inl ⟨by rfl, ?_⟩) ?_ ?_
      rotate_left
      ·intro w'
       go_simp
       with_reducible rfl
      rotate_left
      ·simp only [Act.put, List.setIfInBounds_toArray, List.set_cons_zero, List.set_cons_succ, i64_w, i32_w]
       rfl
      refine pure_ (i := 3) (N := some 23) (v := ?_) (a' := ?_) #[true, true, true, true, false, false, false, false, false, false, false, false, false] rfl rfl (any_of HT_.out (by kernel_rfl)) (fun _ _ _ h => h) (Or.inl ⟨by rfl, ?_⟩) ?_ ?_
      rotate_left
      ·intro w'
       go_simp
       with_reducible rfl
      rotate_left
      ·simp only [Act.put, List.setIfInBounds_toArray, List.set_cons_zero, List.set_cons_succ, i64_w, i32_w]
       rfl
      refine pure_ (i := 4) (N := some 24) (v := ?_) (a' := ?_) #[true, true, true, true, true, false, false, false, false, false, false, false, false] rfl rfl (any_of HT_.out (by kernel_rfl)) (fun _ _ _ h => h) (Or.inl ⟨by rfl, ?_⟩) ?_ ?_
      rotate_left
      ·intro w'
       go_simp
       with_reducible rfl
      rotate_left
      ·simp only [Act.put, List.setIfInBounds_toArray, List.set_cons_zero, List.set_cons_succ, i64_w, i32_w]
       rfl
      refine pure_ (i := 5) (N := some 25) (v := ?_) (a' := ?_) #[true, true, true, true, true, true, false, false, false, false, false, false, false] rfl rfl (any_of HT_.out (by kernel_rfl)) (fun _ _ _ h => h) (Or.inl ⟨by rfl, ?_⟩) ?_ ?_
      rotate_left
      ·intro w'
       go_simp
       with_reducible rfl
      rotate_left
      ·simp only [Act.put, List.setIfInBounds_toArray, List.set_cons_zero, List.set_cons_succ, i64_w, i32_w]
       rfl
      refine pure_ (i := 6) (N := some 26) (v := ?_) (a' := ?_) #[true, true, true, true, true, true, true, false, false, false, false, false, false] rfl rfl (any_of HT_.out (by kernel_rfl)) (fun _ _ _ h => h) (Or.inl ⟨by rfl, ?_⟩) ?_ ?_
      rotate_left
      ·intro w'
       go_simp
       with_reducible rfl
      rotate_left
      ·simp only [Act.put, List.setIfInBounds_toArray, List.set_cons_zero, List.set_cons_succ, i64_w, i32_w]
       rfl
      refine pure_ (i := 8) (N := some 28) (v := ?_) (a' := ?_) #[true, true, true, true, true, true, true, false, true, false, false, false, false] rfl rfl (any_of HT_.out (by kernel_rfl)) (fun _ _ _ h => h) (Or.inl ⟨by rfl, ?_⟩) ?_ ?_
      rotate_left
      ·intro w'
       go_simp
       with_reducible rfl
      rotate_left
      ·simp only [Act.put, List.setIfInBounds_toArray, List.set_cons_zero, List.set_cons_succ, i64_w, i32_w]
       rfl
      refine take_ (i := 7) (N := some 27) (v := ?_) (a' := ?_) #[true, true, true, true, true, true, true, true, true, false, false, false, false] rfl rfl (take_ofW HT_.out HW_.out (by kernel_rfl)) (fun _ _ _ h => h) (Or.inl ⟨by rfl, ?_⟩) hHeld ?_ ?_
      rotate_left
      ·rintro w' ⟨s0, s1, s2, s3⟩
       go_simp
       with_reducible rfl
      rotate_left
      ·simp only [Act.put, List.setIfInBounds_toArray, List.set_cons_zero, List.set_cons_succ, i64_w, i32_w]
       rfl
      refine take_ (i := 9) (N := some 29) (v := ?_) (a' := ?_) #[true, true, true, true, true, true, true, true, true, true, false, false, false] rfl rfl (take_ofW HT_.out HW_.out (by kernel_rfl)) (fun _ _ _ h => h) (Or.inl ⟨by rfl, ?_⟩) hHeld ?_ ?_
      rotate_left
      ·rintro w' ⟨s0, s1, s2, s3⟩
       go_simp
       with_reducible rfl
      rotate_left
      ·simp only [Act.put, List.setIfInBounds_toArray, List.set_cons_zero, List.set_cons_succ, i64_w, i32_w]
       rfl
      refine pure_ (i := 10) (N := some 30) (v := ?_) (a' := ?_) #[true, true, true, true, true, true, true, true, true, true, true, false, false] rfl rfl (any_of HT_.out (by kernel_rfl)) (fun _ _ _ h => h) (Or.inl ⟨by rfl, ?_⟩) ?_ ?_
      rotate_left
      ·intro w'
       go_simp
       with_reducible rfl
      rotate_left
      ·simp only [Act.put, List.setIfInBounds_toArray, List.set_cons_zero, List.set_cons_succ, i64_w, i32_w]
       rfl
      refine pure_ (i := 11) (N := some 31) (v := ?_) (a' := ?_) #[true, true, true, true, true, true, true, true, true, true, true, true, false] rfl rfl (any_of HT_.out (by kernel_rfl)) (fun _ _ _ h => h) (Or.inl ⟨by rfl, ?_⟩) ?_ ?_
      rotate_left
      ·intro w'
       go_simp
       with_reducible rfl
      rotate_left
      ·simp only [Act.put, List.setIfInBounds_toArray, List.set_cons_zero, List.set_cons_succ, i64_w, i32_w]
       rfl
      refine pure_ (i := 12) (N := some 19) (v := ?_) (a' := ?_) #[true, true, true, true, true, true, true, true, true, true, true, true, true] rfl rfl (any_of HT_.out (by kernel_rfl)) (fun _ _ _ h => h) (Or.inl ⟨by rfl, ?_⟩) ?_ ?_
      rotate_left
      ·intro w'
       go_simp
       with_reducible rfl
      rotate_left
      ·simp only [Act.put, List.setIfInBounds_toArray, List.set_cons_zero, List.set_cons_succ, i64_w, i32_w]
       rfl
      refine done_ (done_of HT_.out (by kernel_rfl)) ?_
      try go_wp2
      replace HO0 := Aside0.mk (Kd.R_drew HO0.out)
      replace BK306 := Aside0.mk (blk_drew BK306.out)
      replace HK := Aside0.mk (Kept.drew HK.out)
      replace HB := Aside0.mk (below_drew1 HB.out)
      have p308 : 0 ≤ ((ji8) : Int) := of_decide_eq_true (by assumption)
      have q308 : (ji8) < (l0.length : Int) := of_decide_eq_true (by assumption)
      obtain ⟨ad308, e308, hx308_0, hx308_1⟩ := at_T79 (Kd.R_reads' HO0.out).2.2 (ji8) p308 q308
      obtain rfl : ad307 = ad308 := (by injection e308)
      replace p308 := eq_true p308
      replace q308 := eq_true q308
      have p13 : 0 ≤ ((ji8) : Int) := of_decide_eq_true (by assumption)
      have q13 : ((ji8) : Int) < ((l0.length : Int) : Int) := of_decide_eq_true (by assumption)
      obtain ⟨go13, co13, eo13, gb13, gl13, cl13, HG13⟩ := Kd.R_form HO0.out (by omega)
      (first | cases eo13 | (injection eo13 with ea_ en_ ec_; (first | subst ea_ | (injection ea_ with ea_; subst ea_)); subst ec_; clear en_))
      have GB13 := Aside0.mk gb13
      have GG13 := Aside0.mk HG13
      clear gb13 gl13 HG13
      have HMgo13 := Aside0.mk (show (P0_ go13 ∨ w.heap.size ≤ go13) from (HO0.out.1 _ rfl).1)
      (first | simp only [add_plain] at hx307_0 | skip)
      (first | simp only [add_plain] at hx307_1 | skip)
      (first | simp only [add_plain] at hx308_0 | skip)
      (first | simp only [add_plain] at hx308_1 | skip)
      obtain ⟨ce13, hcl13, hM13, hcc13, hfr13⟩ := Kd.R_elem HO0.out z79 ((ji8) : Int) p13 q13
      obtain rfl := k79_openM hM13
      have hx13_0 : World.cell? _ ⟨go13, ((ji8) : Int).toNat * 2, none⟩ = some (.int .i64 ((rd_T79 l0 (ji8)).f0)) := hcc13 0 _ rfl
      have hx13_1 : World.cell? _ ⟨go13, ((ji8) : Int).toNat * 2 + 1, none⟩ = some (.int .i64 ((rd_T79 l0 (ji8)).f1)) := hcc13 1 _ rfl
      have hf13_0 : World.frozen? _ ⟨go13, ((ji8) : Int).toNat * 2, none⟩ = false := hfr13 0
      have hf13_1 : World.frozen? _ ⟨go13, ((ji8) : Int).toNat * 2 + 1, none⟩ = false := hfr13 1
      clear hcl13 hcc13 hfr13 hM13
      replace p13 := eq_true p13
      replace q13 := eq_true q13
      obtain ⟨ce19, hcl19, hM19, hcc19, hfr19⟩ := Kd.R_elem HO0.out z79 ((ji8) : Int) (of_decide_eq_true (by assumption)) (by have h_ : ((ji8) : Int) < ((l0.length : Int) : Int) := of_decide_eq_true (by assumption); first | exact h_ | (have e_ := (Kd.R_reads' HO0.out).1; omega) | simpa using h_)
      obtain rfl := k79_openM hM19
      have HP19 := (Kd.R_seg HO0.out ((ji8) : Int) (of_decide_eq_true (by assumption)) (by have h_ : ((ji8) : Int) < ((l0.length : Int) : Int) := of_decide_eq_true (by assumption); first | exact h_ | (have e_ := (Kd.R_reads' HO0.out).1; omega) | simpa using h_) (seg := [.int .i64 ji12]) (j := 1) hcl19 hcc19 (show 2 ≤ 2 from by decide) (x' := (⟨(rd_T79 l0 (ji8)).f0, ji12⟩ : S79)) (k79_mkM _ _ _ (⟨(rd_T79 l0 (ji8)).f0, ji12⟩ : S79) ) (fun _ hk => hk)).1
      rw [← Ny309.out] at HP19
      have HQ19 := Aside0.mk HP19
      clear hcl19 hcc19 hfr19 hM19 HP19
      refine start_ (n := 13) (S := fun w' => w'.cell? ⟨gb306, 0, none⟩ = some (.int .i64 a1_0) ∧ w'.cell? ⟨gb306, 1, none⟩ = some (.int .i64 a1_1) ∧ w'.cell? ⟨go13, ((ji8)).toNat * 2, none⟩ = some (.int .i64 ((rd_T79 l0 (ji8)).f0)) ∧ w'.cell? ⟨go13, ((ji8)).toNat * 2 + 1, none⟩ = some (.int .i64 ((rd_T79 l0 (ji8)).f1))) (ds := [12]) #[false, false, false, false, false, false, false, false, false, false, false, false, false] (by kernel_rfl) rfl rfl ⟨(blk_cell BK306.out 0).trans rfl, (blk_cell BK306.out 1).trans rfl, hx308_0, hx308_1⟩ (fun hHeld => ?_); refine with_tabW span_adds.tab5 span_adds.bits5 (fun HT_ HW_ => ?_)
      generalize w17.drew = w18 at HO0 BK306 HK HB GG13 HQ19 hf13_0 hf13_1 hx13_0 hx13_1 hx307_0 hx307_1 hx308_0 hx308_1 hHeld ⊢
      refine pure_ (i := 0) (N := some 32) (v := ?_) (a' := ?_) #[true, false, false, false, false, false, false, false, false, false, false, false, false] rfl rfl (any_of HT_.out (by kernel_rfl)) (fun _ _ _ h => h) (Or.inl ⟨by rfl, ?_⟩) ?_ ?_
      rotate_left
      ·intro w'
       go_simp
       with_reducible rfl
      rotate_left
      ·simp only [Act.put, List.setIfInBounds_toArray, List.set_cons_zero, List.set_cons_succ, i64_w, i32_w]
       rfl
      refine pure_ (i := 1) (N := some 33) (v := ?_) (a' := ?_) #[true, true, false, false, false, false, false, false, false, false, false, false, false] rfl rfl (any_of HT_.out (by kernel_rfl)) (fun _ _ _ h => h) (Or.inl ⟨by rfl, ?_⟩) ?_ ?_
      rotate_left
      ·intro w'
       go_simp
       with_reducible rfl
      rotate_left
      ·simp only [Act.put, List.setIfInBounds_toArray, List.set_cons_zero, List.set_cons_succ, i64_w, i32_w]
       rfl
      refine pure_ (i := 2) (N := some 34) (v := ?_) (a' := ?_) #[true, true, true, false, false, false, false, false, false, false, false, false, false] rfl rfl (any_of HT_.out (by kernel_rfl)) (fun _ _ _ h => h) (Or.inl ⟨by rfl, ?_⟩) ?_ ?_
      rotate_left
      ·intro w'
       go_simp
       with_reducible rfl
      rotate_left
      ·simp only [Act.put, List.setIfInBounds_toArray, List.set_cons_zero, List.set_cons_succ, i64_w, i32_w]
       rfl
      refine pure_ (i := 3) (N := some 35) (v := ?_) (a' := ?_) #[true, true, true, true, false, false, false, false, false, false, false, false, false] rfl rfl (any_of HT_.out (by kernel_rfl)) (fun _ _ _ h => h) (Or.inl ⟨by rfl, ?_⟩) ?_ ?_
      rotate_left
      ·intro w'
       go_simp
       with_reducible rfl
      rotate_left
      ·simp only [Act.put, List.setIfInBounds_toArray, List.set_cons_zero, List.set_cons_succ, i64_w, i32_w]
       rfl
      refine pure_ (i := 4) (N := some 36) (v := ?_) (a' := ?_) #[true, true, true, true, true, false, false, false, false, false, false, false, false] rfl rfl (any_of HT_.out (by kernel_rfl)) (fun _ _ _ h => h) (Or.inl ⟨by rfl, ?_⟩) ?_ ?_
      rotate_left
      ·intro w'
       go_simp
       with_reducible rfl
      rotate_left
      ·simp only [Act.put, List.setIfInBounds_toArray, List.set_cons_zero, List.set_cons_succ, i64_w, i32_w]
       rfl
      refine pure_ (i := 5) (N := some 37) (v := ?_) (a' := ?_) #[true, true, true, true, true, true, false, false, false, false, false, false, false] rfl rfl (any_of HT_.out (by kernel_rfl)) (fun _ _ _ h => h) (Or.inl ⟨by rfl, ?_⟩) ?_ ?_
      rotate_left
      ·intro w'
       go_simp
       with_reducible rfl
      rotate_left
      ·simp only [Act.put, List.setIfInBounds_toArray, List.set_cons_zero, List.set_cons_succ, i64_w, i32_w]
       rfl
      refine pure_ (i := 7) (N := some 39) (v := ?_) (a' := ?_) #[true, true, true, true, true, true, false, true, false, false, false, false, false] rfl rfl (any_of HT_.out (by kernel_rfl)) (fun _ _ _ h => h) (Or.inl ⟨by rfl, ?_⟩) ?_ ?_
      rotate_left
      ·intro w'
       go_simp
       with_reducible rfl
      rotate_left
      ·simp only [Act.put, List.setIfInBounds_toArray, List.set_cons_zero, List.set_cons_succ, i64_w, i32_w]
       rfl
      refine take_ (i := 6) (N := some 38) (v := ?_) (a' := ?_) #[true, true, true, true, true, true, true, true, false, false, false, false, false] rfl rfl (take_ofW HT_.out HW_.out (by kernel_rfl)) (fun _ _ _ h => h) (Or.inl ⟨by rfl, ?_⟩) hHeld ?_ ?_
      rotate_left
      ·rintro w' ⟨s0, s1, s2, s3⟩
       go_simp
       with_reducible rfl
      rotate_left
      ·simp only [Act.put, List.setIfInBounds_toArray, List.set_cons_zero, List.set_cons_succ, i64_w, i32_w]
       rfl
      refine take_ (i := 8) (N := some 40) (v := ?_) (a' := ?_) #[true, true, true, true, true, true, true, true, true, false, false, false, false] rfl rfl (take_ofW HT_.out HW_.out (by kernel_rfl)) (fun _ _ _ h => h) (Or.inl ⟨by rfl, ?_⟩) hHeld ?_ ?_
      rotate_left
      ·rintro w' ⟨s0, s1, s2, s3⟩
       go_simp
       with_reducible rfl
      rotate_left
      ·simp only [Act.put, List.setIfInBounds_toArray, List.set_cons_zero, List.set_cons_succ, i64_w, i32_w]
       rfl
      refine pure_ (i := 9) (N := some 41) (v := ?_) (a' := ?_) #[true, true, true, true, true, true, true, true, true, true, false, false, false] rfl rfl (any_of HT_.out (by kernel_rfl)) (fun _ _ _ h => h) (Or.inl ⟨by rfl, ?_⟩) ?_ ?_
      rotate_left
      ·intro w'
       go_simp
       with_reducible rfl
      rotate_left
      ·simp only [Act.put, List.setIfInBounds_toArray, List.set_cons_zero, List.set_cons_succ, i64_w, i32_w]
       rfl
      refine pure_ (i := 10) (N := some 42) (v := ?_) (a' := ?_) #[true, true, true, true, true, true, true, true, true, true, true, false, false] rfl rfl (any_of HT_.out (by kernel_rfl)) (fun _ _ _ h => h) (Or.inl ⟨by rfl, ?_⟩) ?_ ?_
      rotate_left
      ·intro w'
       go_simp
       with_reducible rfl
      rotate_left
      ·simp only [Act.put, List.setIfInBounds_toArray, List.set_cons_zero, List.set_cons_succ, i64_w, i32_w]
       rfl
      refine pure_ (i := 11) (N := some 43) (v := ?_) (a' := ?_) #[true, true, true, true, true, true, true, true, true, true, true, true, false] rfl rfl (any_of HT_.out (by kernel_rfl)) (fun _ _ _ h => h) (Or.inl ⟨by rfl, ?_⟩) ?_ ?_
      rotate_left
      ·intro w'
       go_simp
       with_reducible rfl
      rotate_left
      ·simp only [Act.put, List.setIfInBounds_toArray, List.set_cons_zero, List.set_cons_succ, i64_w, i32_w]
       rfl
      refine last_ (i := 12) (N := none) #[true, true, true, true, true, true, true, true, true, true, true, true, true] rfl rfl (one_of HT_.out (by kernel_rfl)) (by decide) (fun K hK => ?_)
      refine skip_ (w1 := ?_) (by rfl) rfl ?_ ?_
      rotate_left
      ·go_simp
       rfl
      refine hK.out _ _ ?_
      clear hK K
      refine done_ (done_of HT_.out (by kernel_rfl)) ?_
      try go_wp2
      go_ret
      exact ⟨_, by first | rfl | (simp [errW_none, errW_some] <;> rfl) | (simp only [← hji8, ← hji12]; first | rfl | (simp [errW_none, errW_some] <;> rfl)) | (simp [*, errW_none, errW_some] <;> rfl), by (with_reducible repeat (first | apply Kd.R_alloc | apply Kd.R_drewN | apply Kd.R_drew)); exact Kd.R_mono HQ19.out (fun _ hk => hk.1), by repeat (first | (with_reducible first | exact HB.out | apply below_alloc | apply pw_below_drewN | apply below_drew1 | refine below_set ?_ GB13.out | refine below_set ?_ GE306.out) | exact HB.out), by repeat (first | (with_reducible first | exact HK.out | apply Kept.alloc | apply Kept.drewN | apply Kept.drew | refine Kept.setCell ?_ HMgo13.out _ | refine Kept.setCell ?_ (.inr GW306.out) _) | exact HK.out)⟩
     ·rw [if_neg c11] at H
      have c11b0 : decide (a1_0 ≤ ((rd_T79 l0 (ji8)).f1)) = false := decide_eq_false c11
      clear c11
      by_cases c20 : l0.length < 8796093022208
      ·rw [if_pos c20] at H
       have LMc20 := Aside0.mk c20
       clear c20
       obtain ⟨y310, hy310⟩ : ∃ y_ : List (S79), y_ = (l0 ++ [(⟨a1_0, a1_1⟩ : S79)]) := ⟨_, rfl⟩
       replace H : (some y310) = some r := by first | (rw [hy310]; with_reducible exact H) | (have H2_ := (Option.bind_some _ _).symm.trans H; rw [hy310]; with_reducible exact H2_) | (have H2_ := (Option.bind_some _ _).symm.trans H; with_reducible exact H2_) | with_reducible exact H | (rw [hy310]; exact H) | exact H
       have Ny310 := Aside0.mk hy310
       clear hy310
       obtain rfl := Option.some.inj H
       go_enter Try.func98, Try.ntmps98
       try go_wp2_with (first | ((with_reducible refine gate_dst (N := 3) rfl ?_); refine box_event ?hg (N := 3) ?hd (cs := #[.int .i64 a1_0, .int .i64 a1_1]) (t := 79) ?hr ?_; (case hd => rfl); (case hg => rfl); (case hr => first | (go_simp; done) | (go_simp; rfl)); intro gb306 hg w21 hbox hb; replace HO0 := Aside0.mk (Kd.R_below (Kd.R_elderB (rx HO0.out) gb306 (Nat.le_of_eq hg.symm)) hb); have BK306 := Aside0.mk (hbox); have GW306 := Aside0.mk ((by rw [hg]; exact (by first | exact HK.out.1 | exact (show Kept w _ (fun k_ => P0_ k_) from by repeat (first | (with_reducible first | exact HK.out | apply Kept.alloc | apply Kept.drewN | apply Kept.drew) | exact HK.out)).1) : w.heap.size ≤ gb306)); replace HK := Aside0.mk (Kept.below (S := (fun k_ => P0_ k_)) (by repeat (first | (with_reducible first | exact HK.out | apply Kept.alloc | apply Kept.drewN | apply Kept.drew) | exact HK.out)) hb); have GE306 := Aside0.mk ((by rw [hg]; exact (below_size (bh HB.out)) : w0.heap.size ≤ gb306)); replace HB := bsa HB hb; clear hb hbox hg; obtain ⟨Ao22, co22, eo22⟩ := Kd.R_slice HO0.out; subst eo22; have hcz23_0 : w21.cell? ⟨gb306, 0, none⟩ = some (.int .i64 a1_0) := (blk_cell BK306.out 0).trans rfl; have hcz23_1 : w21.cell? ⟨gb306, 1, none⟩ = some (.int .i64 a1_1) := (blk_cell BK306.out 1).trans rfl; have hfz23_0 := blk_frozen BK306.out 0; have hfz23_1 := blk_frozen BK306.out 1))
       replace HO0 := Aside0.mk (Kd.R_drew HO0.out)
       replace BK306 := Aside0.mk (blk_drew BK306.out)
       replace HK := Aside0.mk (Kept.drew HK.out)
       replace HB := Aside0.mk (below_drew1 HB.out)
       have p307 : 0 ≤ ((ji8) : Int) := of_decide_eq_true (by assumption)
       have q307 : (ji8) < (l0.length : Int) := of_decide_eq_true (by assumption)
       obtain ⟨ad307, e307, hx307_0, hx307_1⟩ := at_T79 (Kd.R_reads' HO0.out).2.2 (ji8) p307 q307
       cases e307
       replace p307 := eq_true p307
       replace q307 := eq_true q307
       refine start_ (n := 13) (S := fun w' => w'.cell? ⟨gb306, 0, none⟩ = some (.int .i64 a1_0) ∧ w'.cell? ⟨gb306, 1, none⟩ = some (.int .i64 a1_1) ∧ w'.cell? (ad307.add (((ji8)).toNat * 2)) = some (.int .i64 ((rd_T79 l0 (ji8)).f0)) ∧ w'.cell? ⟨(ad307.add (((ji8)).toNat * 2)).block, (ad307.add (((ji8)).toNat * 2)).off + 1, none⟩ = some (.int .i64 ((rd_T79 l0 (ji8)).f1))) (ds := []) #[false, false, false, false, false, false, false, false, false, false, false, false, false] (by kernel_rfl) rfl rfl ⟨(blk_cell BK306.out 0).trans rfl, (blk_cell BK306.out 1).trans rfl, hx307_0, hx307_1⟩ (fun hHeld => ?_); refine with_tabW span_adds.tab4 span_adds.bits4 (fun HT_ HW_ => ?_)
       generalize w21.drew = w24 at HO0 BK306 HK HB hx307_0 hx307_1 hHeld ⊢
       refine pure_ (i := 0) (N := some 20) (v := ?_) (a' := ?_) #[true, false, false, false, false, false, false, false, false, false, false, false, false] rfl rfl (any_of HT_.out (by kernel_rfl)) (fun _ _ _ h => h) (Or.inl ⟨by rfl, ?_⟩) ?_ ?_
       rotate_left
       ·intro w'
        go_simp
        with_reducible rfl
       rotate_left
       ·simp only [Act.put, List.setIfInBounds_toArray, List.set_cons_zero, List.set_cons_succ, i64_w, i32_w]
        rfl
       refine pure_ (i := 1) (N := some 21) (v := ?_) (a' := ?_) #[true, true, false, false, false, false, false, false, false, false, false, false, false] rfl rfl (any_of HT_.out (by kernel_rfl)) (fun _ _ _ h => h) (Or.inl ⟨by rfl, ?_⟩) ?_ ?_
       rotate_left
       ·intro w'
        go_simp
        with_reducible rfl
       rotate_left
       ·simp only [Act.put, List.setIfInBounds_toArray, List.set_cons_zero, List.set_cons_succ, i64_w, i32_w]
        rfl
       refine pure_ (i := 2) (N := some 22) (v := ?_) (a' := ?_) #[true, true, true, false, false, false, false, false, false, false, false, false, false] rfl rfl (any_of HT_.out (by kernel_rfl)) (fun _ _ _ h => h) (Or.inl ⟨by rfl, ?_⟩) ?_ ?_
       rotate_left
       ·intro w'
        go_simp
        with_reducible rfl
       rotate_left
       ·simp only [Act.put, List.setIfInBounds_toArray, List.set_cons_zero, List.set_cons_succ, i64_w, i32_w]
        rfl
       refine pure_ (i := 3) (N := some 23) (v := ?_) (a' := ?_) #[true, true, true, true, false, false, false, false, false, false, false, false, false] rfl rfl (any_of HT_.out (by kernel_rfl)) (fun _ _ _ h => h) (Or.inl ⟨by rfl, ?_⟩) ?_ ?_
       rotate_left
       ·intro w'
        go_simp
        with_reducible rfl
       rotate_left
       ·simp only [Act.put, List.setIfInBounds_toArray, List.set_cons_zero, List.set_cons_succ, i64_w, i32_w]
        rfl
       refine pure_ (i := 4) (N := some 24) (v := ?_) (a' := ?_) #[true, true, true, true, true, false, false, false, false, false, false, false, false] rfl rfl (any_of HT_.out (by kernel_rfl)) (fun _ _ _ h => h) (Or.inl ⟨by rfl, ?_⟩) ?_ ?_
       rotate_left
       ·intro w'
        go_simp
        with_reducible rfl
       rotate_left
       ·simp only [Act.put, List.setIfInBounds_toArray, List.set_cons_zero, List.set_cons_succ, i64_w, i32_w]
        rfl
       refine pure_ (i := 5) (N := some 25) (v := ?_) (a' := ?_) #[true, true, true, true, true, true, false, false, false, false, false, false, false] rfl rfl (any_of HT_.out (by kernel_rfl)) (fun _ _ _ h => h) (Or.inl ⟨by rfl, ?_⟩) ?_ ?_
       rotate_left
       ·intro w'
        go_simp
        with_reducible rfl
       rotate_left
       ·simp only [Act.put, List.setIfInBounds_toArray, List.set_cons_zero, List.set_cons_succ, i64_w, i32_w]
        rfl
       refine pure_ (i := 6) (N := some 26) (v := ?_) (a' := ?_) #[true, true, true, true, true, true, true, false, false, false, false, false, false] rfl rfl (any_of HT_.out (by kernel_rfl)) (fun _ _ _ h => h) (Or.inl ⟨by rfl, ?_⟩) ?_ ?_
       rotate_left
       ·intro w'
        go_simp
        with_reducible rfl
       rotate_left
       ·simp only [Act.put, List.setIfInBounds_toArray, List.set_cons_zero, List.set_cons_succ, i64_w, i32_w]
        rfl
       refine pure_ (i := 8) (N := some 28) (v := ?_) (a' := ?_) #[true, true, true, true, true, true, true, false, true, false, false, false, false] rfl rfl (any_of HT_.out (by kernel_rfl)) (fun _ _ _ h => h) (Or.inl ⟨by rfl, ?_⟩) ?_ ?_
       rotate_left
       ·intro w'
        go_simp
        with_reducible rfl
       rotate_left
       ·simp only [Act.put, List.setIfInBounds_toArray, List.set_cons_zero, List.set_cons_succ, i64_w, i32_w]
        rfl
       refine take_ (i := 7) (N := some 27) (v := ?_) (a' := ?_) #[true, true, true, true, true, true, true, true, true, false, false, false, false] rfl rfl (take_ofW HT_.out HW_.out (by kernel_rfl)) (fun _ _ _ h => h) (Or.inl ⟨by rfl, ?_⟩) hHeld ?_ ?_
       rotate_left
       ·rintro w' ⟨s0, s1, s2, s3⟩
        go_simp
        with_reducible rfl
       rotate_left
       ·simp only [Act.put, List.setIfInBounds_toArray, List.set_cons_zero, List.set_cons_succ, i64_w, i32_w]
        rfl
       refine take_ (i := 9) (N := some 29) (v := ?_) (a' := ?_) #[true, true, true, true, true, true, true, true, true, true, false, false, false] rfl rfl (take_ofW HT_.out HW_.out (by kernel_rfl)) (fun _ _ _ h => h) (Or.inl ⟨by rfl, ?_⟩) hHeld ?_ ?_
       rotate_left
       ·rintro w' ⟨s0, s1, s2, s3⟩
        go_simp
        with_reducible rfl
       rotate_left
       ·simp only [Act.put, List.setIfInBounds_toArray, List.set_cons_zero, List.set_cons_succ, i64_w, i32_w]
        rfl
       refine pure_ (i := 10) (N := some 30) (v := ?_) (a' := ?_) #[true, true, true, true, true, true, true, true, true, true, true, false, false] rfl rfl (any_of HT_.out (by kernel_rfl)) (fun _ _ _ h => h) (Or.inl ⟨by rfl, ?_⟩) ?_ ?_
       rotate_left
       ·intro w'
        go_simp
        with_reducible rfl
       rotate_left
       ·simp only [Act.put, List.setIfInBounds_toArray, List.set_cons_zero, List.set_cons_succ, i64_w, i32_w]
        rfl
       refine pure_ (i := 11) (N := some 31) (v := ?_) (a' := ?_) #[true, true, true, true, true, true, true, true, true, true, true, true, false] rfl rfl (any_of HT_.out (by kernel_rfl)) (fun _ _ _ h => h) (Or.inl ⟨by rfl, ?_⟩) ?_ ?_
       rotate_left
       ·intro w'
        go_simp
        with_reducible rfl
       rotate_left
       ·simp only [Act.put, List.setIfInBounds_toArray, List.set_cons_zero, List.set_cons_succ, i64_w, i32_w]
        rfl
       refine pure_ (i := 12) (N := some 19) (v := ?_) (a' := ?_) #[true, true, true, true, true, true, true, true, true, true, true, true, true] rfl rfl (any_of HT_.out (by kernel_rfl)) (fun _ _ _ h => h) (Or.inl ⟨by rfl, ?_⟩) ?_ ?_
       rotate_left
       ·intro w'
        go_simp
        with_reducible rfl
       rotate_left
       ·simp only [Act.put, List.setIfInBounds_toArray, List.set_cons_zero, List.set_cons_succ, i64_w, i32_w]
        rfl
       refine done_ (done_of HT_.out (by kernel_rfl)) ?_
       have hcz25_0 : w24.cell? ⟨gb306, 0, none⟩ = some (.int .i64 a1_0) := (blk_cell BK306.out 0).trans rfl
       have hcz25_1 : w24.cell? ⟨gb306, 1, none⟩ = some (.int .i64 a1_1) := (blk_cell BK306.out 1).trans rfl
       have hfz25_0 := blk_frozen BK306.out 0
       have hfz25_1 := blk_frozen BK306.out 1
       try go_wp2_with (first | ((with_reducible refine gate_builtin (b := .append) (xs := #[.tmp 9, .tmp 11]) rfl ?_); at_builtin; refine Kd.R_append k79 (w0 := w0) w0.heap.size rfl (.tmp 9) (.tmp 11) 49 79 (.agg #[(.int .i64 0), (.int .i64 0)]) 16 rfl Try.underlying49 info79 rfl (by decide) (by omega) (.slice (some ad307) l0.length co22) l0 (⟨a1_0, a1_1⟩ : S79) [.int .i64 a1_0, .int .i64 a1_1] (fun k_ => (P0_ k_ ∨ w.heap.size ≤ k_) ∧ k_ ≠ gb306) (fun _ => False) rfl rfl ?aP (fun _ hk => hk.elim) ?aF ?aO ?aB ?aS ?aL ?_; (case aP => exact k79_mkM _ _ _ (⟨a1_0, a1_1⟩ : S79)); (case aB => exact (bh HB.out)); (case aF => exact (fun k_ hk => ⟨(.inr (Nat.le_trans (by first | exact HK.out.1 | exact (show Kept w _ (fun k_ => P0_ k_) from by repeat (first | (with_reducible first | exact HK.out | apply Kept.alloc | apply Kept.drewN | apply Kept.drew | refine Kept.setCell ?_ (.inr GW306.out) _) | exact HK.out)).1) hk)), Kd.freshB (g := gb306) (o := .cells #[.int .i64 a1_0, .int .i64 a1_1] 79 (0, 0)) (bx BK306.out) k_ hk⟩)); (case aO => exact (rx HO0.out)); (case aS => exact (below_size (bh HB.out))); (case aL => have := LMc20.out; omega); intro v311 w26 ho hb hg hat; rw [← Ny310.out] at ho; have n0_ := Aside0.mk (blk_grown (g := gb306) (o := .cells #[.int .i64 a1_0, .int .i64 a1_1] 79 (0, 0)) (bx BK306.out) hg (Kd.R_away HO0.out (fun _ hk => hk.2))); have n1_ := Aside0.mk (hb); have n2_ := Aside0.mk (Kept.of_grown (S := (fun k_ => P0_ k_)) hg (by repeat (first | (with_reducible first | exact HK.out | apply Kept.alloc | apply Kept.drewN | apply Kept.drew | refine Kept.setCell ?_ (.inr GW306.out) _) | exact HK.out)) (fun k_ e_ => (HO0.out.1 k_ e_).1)); have n3_ := Aside0.mk (ho); clear BK306 HB HK HO0; have BK306 := n0_; have HB := n1_; have HK := n2_; have HO312 := n3_; clear n0_ n1_ n2_ n3_; clear ho hb hg hat))
       go_ret
       exact ⟨_, by first | rfl | (simp [errW_none, errW_some] <;> rfl) | (simp only [← hji8]; first | rfl | (simp [errW_none, errW_some] <;> rfl)) | (simp [*, errW_none, errW_some] <;> rfl), by (with_reducible repeat (first | apply Kd.R_alloc | apply Kd.R_drewN | apply Kd.R_drew)); exact Kd.R_mono HO312.out (fun _ hk => hk.1), bh HB.out, by repeat (first | (with_reducible first | exact HK.out | apply Kept.alloc | apply Kept.drewN | apply Kept.drew | refine Kept.setCell ?_ (.inr GW306.out) _) | exact HK.out)⟩
      ·rw [if_neg c20] at H
       exact absurd H (by simp)
    ·rw [if_neg c10] at H
     exact absurd H (by simp)
   ·rw [if_neg c9] at H
    exact absurd H (by simp)
  ·rw [if_neg c7] at H
   have c7b0 : decide (0 ≤ (wrap64 ((l0.length : Int) - 1))) = false := decide_eq_false c7
   clear c7
   by_cases c27 : l0.length < 8796093022208
   ·rw [if_pos c27] at H
    have LMc27 := Aside0.mk c27
    clear c27
    obtain ⟨y313, hy313⟩ : ∃ y_ : List (S79), y_ = (l0 ++ [(⟨a1_0, a1_1⟩ : S79)]) := ⟨_, rfl⟩
    replace H : (some y313) = some r := by first | (rw [hy313]; with_reducible exact H) | (have H2_ := (Option.bind_some _ _).symm.trans H; rw [hy313]; with_reducible exact H2_) | (have H2_ := (Option.bind_some _ _).symm.trans H; with_reducible exact H2_) | with_reducible exact H | (rw [hy313]; exact H) | exact H
    have Ny313 := Aside0.mk hy313
    clear hy313
    obtain rfl := Option.some.inj H
    go_enter Try.func98, Try.ntmps98
    try go_wp2_with (first | ((with_reducible refine gate_dst (N := 3) rfl ?_); refine box_event ?hg (N := 3) ?hd (cs := #[.int .i64 a1_0, .int .i64 a1_1]) (t := 79) ?hr ?_; (case hd => rfl); (case hg => rfl); (case hr => first | (go_simp; done) | (go_simp; rfl)); intro gb306 hg w28 hbox hb; replace HO0 := Aside0.mk (Kd.R_below (Kd.R_elderB (rx HO0.out) gb306 (Nat.le_of_eq hg.symm)) hb); have BK306 := Aside0.mk (hbox); have GW306 := Aside0.mk ((by rw [hg]; exact (by first | exact HK.out.1 | exact (show Kept w _ (fun k_ => P0_ k_) from by repeat (first | (with_reducible first | exact HK.out | apply Kept.alloc | apply Kept.drewN | apply Kept.drew) | exact HK.out)).1) : w.heap.size ≤ gb306)); replace HK := Aside0.mk (Kept.below (S := (fun k_ => P0_ k_)) (by repeat (first | (with_reducible first | exact HK.out | apply Kept.alloc | apply Kept.drewN | apply Kept.drew) | exact HK.out)) hb); have GE306 := Aside0.mk ((by rw [hg]; exact (below_size (bh HB.out)) : w0.heap.size ≤ gb306)); replace HB := bsa HB hb; clear hb hbox hg; obtain ⟨Ao29, co29, eo29⟩ := Kd.R_slice HO0.out; subst eo29; have hcz30_0 : w28.cell? ⟨gb306, 0, none⟩ = some (.int .i64 a1_0) := (blk_cell BK306.out 0).trans rfl; have hcz30_1 : w28.cell? ⟨gb306, 1, none⟩ = some (.int .i64 a1_1) := (blk_cell BK306.out 1).trans rfl; have hfz30_0 := blk_frozen BK306.out 0; have hfz30_1 := blk_frozen BK306.out 1))
    replace HO0 := Aside0.mk (Kd.R_drew HO0.out)
    replace BK306 := Aside0.mk (blk_drew BK306.out)
    replace HK := Aside0.mk (Kept.drew HK.out)
    replace HB := Aside0.mk (below_drew1 HB.out)
    refine start_ (n := 13) (S := fun w' => True) (ds := []) #[false, false, false, false, false, false, false, false, false, false, false, false, false] (by kernel_rfl) rfl rfl trivial (fun hHeld => ?_); refine with_tabW span_adds.tab4 span_adds.bits4 (fun HT_ HW_ => ?_)
    generalize w28.drew = w31 at HO0 BK306 HK HB hHeld ⊢
    refine pure_ (i := 0) (N := some 20) (v := ?_) (a' := ?_) #[true, false, false, false, false, false, false, false, false, false, false, false, false] rfl rfl (any_of HT_.out (by kernel_rfl)) (fun _ _ _ h => h) (Or.inl ⟨by rfl, ?_⟩) ?_ ?_
    rotate_left
    ·intro w'
     go_simp
     with_reducible rfl
    rotate_left
    ·simp only [Act.put, List.setIfInBounds_toArray, List.set_cons_zero, List.set_cons_succ, i64_w, i32_w]
     rfl
    refine pure_ (i := 1) (N := some 21) (v := ?_) (a' := ?_) #[true, true, false, false, false, false, false, false, false, false, false, false, false] rfl rfl (any_of HT_.out (by kernel_rfl)) (fun _ _ _ h => h) (Or.inl ⟨by rfl, ?_⟩) ?_ ?_
    rotate_left
    ·intro w'
     go_simp
     with_reducible rfl
    rotate_left
    ·simp only [Act.put, List.setIfInBounds_toArray, List.set_cons_zero, List.set_cons_succ, i64_w, i32_w]
     rfl
    refine pure_ (i := 2) (N := some 22) (v := ?_) (a' := ?_) #[true, true, true, false, false, false, false, false, false, false, false, false, false] rfl rfl (any_of HT_.out (by kernel_rfl)) (fun _ _ _ h => h) (Or.inl ⟨by rfl, ?_⟩) ?_ ?_
    rotate_left
    ·intro w'
     go_simp
     with_reducible rfl
    rotate_left
    ·simp only [Act.put, List.setIfInBounds_toArray, List.set_cons_zero, List.set_cons_succ, i64_w, i32_w]
     rfl
    refine pure_ (i := 3) (N := some 23) (v := undef) (a' := ?_) #[true, true, true, true, false, false, false, false, false, false, false, false, false] rfl rfl (any_of HT_.out (by kernel_rfl)) (fun _ _ _ h => h) (Or.inr ⟨by rfl, rfl⟩) ?_ ?_
    rotate_left
    ·simp only [Act.put, List.setIfInBounds_toArray, List.set_cons_zero, List.set_cons_succ, i64_w, i32_w]
     rfl
    refine pure_ (i := 4) (N := some 24) (v := undef) (a' := ?_) #[true, true, true, true, true, false, false, false, false, false, false, false, false] rfl rfl (any_of HT_.out (by kernel_rfl)) (fun _ _ _ h => h) (Or.inr ⟨by rfl, rfl⟩) ?_ ?_
    rotate_left
    ·simp only [Act.put, List.setIfInBounds_toArray, List.set_cons_zero, List.set_cons_succ, i64_w, i32_w]
     rfl
    refine pure_ (i := 5) (N := some 25) (v := undef) (a' := ?_) #[true, true, true, true, true, true, false, false, false, false, false, false, false] rfl rfl (any_of HT_.out (by kernel_rfl)) (fun _ _ _ h => h) (Or.inr ⟨by rfl, rfl⟩) ?_ ?_
    rotate_left
    ·simp only [Act.put, List.setIfInBounds_toArray, List.set_cons_zero, List.set_cons_succ, i64_w, i32_w]
     rfl
    refine pure_ (i := 6) (N := some 26) (v := undef) (a' := ?_) #[true, true, true, true, true, true, true, false, false, false, false, false, false] rfl rfl (any_of HT_.out (by kernel_rfl)) (fun _ _ _ h => h) (Or.inr ⟨by rfl, rfl⟩) ?_ ?_
    rotate_left
    ·simp only [Act.put, List.setIfInBounds_toArray, List.set_cons_zero, List.set_cons_succ, i64_w, i32_w]
     rfl
    refine pure_ (i := 7) (N := some 27) (v := undef) (a' := ?_) #[true, true, true, true, true, true, true, true, false, false, false, false, false] rfl rfl (any_of HT_.out (by kernel_rfl)) (fun _ _ _ h => h) (Or.inr ⟨by rfl, rfl⟩) ?_ ?_
    rotate_left
    ·simp only [Act.put, List.setIfInBounds_toArray, List.set_cons_zero, List.set_cons_succ, i64_w, i32_w]
     rfl
    refine pure_ (i := 8) (N := some 28) (v := undef) (a' := ?_) #[true, true, true, true, true, true, true, true, true, false, false, false, false] rfl rfl (any_of HT_.out (by kernel_rfl)) (fun _ _ _ h => h) (Or.inr ⟨by rfl, rfl⟩) ?_ ?_
    rotate_left
    ·simp only [Act.put, List.setIfInBounds_toArray, List.set_cons_zero, List.set_cons_succ, i64_w, i32_w]
     rfl
    refine pure_ (i := 9) (N := some 29) (v := undef) (a' := ?_) #[true, true, true, true, true, true, true, true, true, true, false, false, false] rfl rfl (any_of HT_.out (by kernel_rfl)) (fun _ _ _ h => h) (Or.inr ⟨by rfl, rfl⟩) ?_ ?_
    rotate_left
    ·simp only [Act.put, List.setIfInBounds_toArray, List.set_cons_zero, List.set_cons_succ, i64_w, i32_w]
     rfl
    refine pure_ (i := 10) (N := some 30) (v := undef) (a' := ?_) #[true, true, true, true, true, true, true, true, true, true, true, false, false] rfl rfl (any_of HT_.out (by kernel_rfl)) (fun _ _ _ h => h) (Or.inr ⟨by rfl, rfl⟩) ?_ ?_
    rotate_left
    ·simp only [Act.put, List.setIfInBounds_toArray, List.set_cons_zero, List.set_cons_succ, i64_w, i32_w]
     rfl
    refine pure_ (i := 11) (N := some 31) (v := ?_) (a' := ?_) #[true, true, true, true, true, true, true, true, true, true, true, true, false] rfl rfl (any_of HT_.out (by kernel_rfl)) (fun _ _ _ h => h) (Or.inl ⟨by rfl, ?_⟩) ?_ ?_
    rotate_left
    ·intro w'
     go_simp
     with_reducible rfl
    rotate_left
    ·simp only [Act.put, List.setIfInBounds_toArray, List.set_cons_zero, List.set_cons_succ, i64_w, i32_w]
     rfl
    refine pure_ (i := 12) (N := some 19) (v := ?_) (a' := ?_) #[true, true, true, true, true, true, true, true, true, true, true, true, true] rfl rfl (any_of HT_.out (by kernel_rfl)) (fun _ _ _ h => h) (Or.inl ⟨by rfl, ?_⟩) ?_ ?_
    rotate_left
    ·intro w'
     go_simp
     with_reducible rfl
    rotate_left
    ·simp only [Act.put, List.setIfInBounds_toArray, List.set_cons_zero, List.set_cons_succ, i64_w, i32_w]
     rfl
    refine done_ (done_of HT_.out (by kernel_rfl)) ?_
    have hcz32_0 : w31.cell? ⟨gb306, 0, none⟩ = some (.int .i64 a1_0) := (blk_cell BK306.out 0).trans rfl
    have hcz32_1 : w31.cell? ⟨gb306, 1, none⟩ = some (.int .i64 a1_1) := (blk_cell BK306.out 1).trans rfl
    have hfz32_0 := blk_frozen BK306.out 0
    have hfz32_1 := blk_frozen BK306.out 1
    try go_wp2_with (first | ((with_reducible refine gate_builtin (b := .append) (xs := #[.tmp 9, .tmp 11]) rfl ?_); at_builtin; refine Kd.R_append k79 (w0 := w0) w0.heap.size rfl (.tmp 9) (.tmp 11) 49 79 (.agg #[(.int .i64 0), (.int .i64 0)]) 16 rfl Try.underlying49 info79 rfl (by decide) (by omega) (.slice Ao29 l0.length co29) l0 (⟨a1_0, a1_1⟩ : S79) [.int .i64 a1_0, .int .i64 a1_1] (fun k_ => (P0_ k_ ∨ w.heap.size ≤ k_) ∧ k_ ≠ gb306) (fun _ => False) rfl rfl ?aP (fun _ hk => hk.elim) ?aF ?aO ?aB ?aS ?aL ?_; (case aP => exact k79_mkM _ _ _ (⟨a1_0, a1_1⟩ : S79)); (case aB => exact (bh HB.out)); (case aF => exact (fun k_ hk => ⟨(.inr (Nat.le_trans (by first | exact HK.out.1 | exact (show Kept w _ (fun k_ => P0_ k_) from by repeat (first | (with_reducible first | exact HK.out | apply Kept.alloc | apply Kept.drewN | apply Kept.drew | refine Kept.setCell ?_ (.inr GW306.out) _) | exact HK.out)).1) hk)), Kd.freshB (g := gb306) (o := .cells #[.int .i64 a1_0, .int .i64 a1_1] 79 (0, 0)) (bx BK306.out) k_ hk⟩)); (case aO => exact (rx HO0.out)); (case aS => exact (below_size (bh HB.out))); (case aL => have := LMc27.out; omega); intro v314 w33 ho hb hg hat; rw [← Ny313.out] at ho; have n0_ := Aside0.mk (blk_grown (g := gb306) (o := .cells #[.int .i64 a1_0, .int .i64 a1_1] 79 (0, 0)) (bx BK306.out) hg (Kd.R_away HO0.out (fun _ hk => hk.2))); have n1_ := Aside0.mk (hb); have n2_ := Aside0.mk (Kept.of_grown (S := (fun k_ => P0_ k_)) hg (by repeat (first | (with_reducible first | exact HK.out | apply Kept.alloc | apply Kept.drewN | apply Kept.drew | refine Kept.setCell ?_ (.inr GW306.out) _) | exact HK.out)) (fun k_ e_ => (HO0.out.1 k_ e_).1)); have n3_ := Aside0.mk (ho); clear BK306 HB HK HO0; have BK306 := n0_; have HB := n1_; have HK := n2_; have HO315 := n3_; clear n0_ n1_ n2_ n3_; clear ho hb hg hat))
    go_ret
    exact ⟨_, er, by (with_reducible repeat (first | apply Kd.R_alloc | apply Kd.R_drewN | apply Kd.R_drew)); exact Kd.R_mono HO315.out (fun _ hk => hk.1), bh HB.out, by repeat (first | (with_reducible first | exact HK.out | apply Kept.alloc | apply Kept.drewN | apply Kept.drew | refine Kept.setCell ?_ (.inr GW306.out) _) | exact HK.out)⟩
   ·rw [if_neg c27] at H
    exact absurd H (by simp)
end Go.Proofs.Ytbmlfbbcgbgnoaa.Print
end
