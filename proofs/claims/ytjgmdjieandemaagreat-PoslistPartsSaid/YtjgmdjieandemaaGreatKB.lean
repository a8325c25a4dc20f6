-- Functions and laws: texts of the session's own and of the kit's print program, joined; what nothing names is left out.
import Derived.Test.YtjgmdjieandemaaGreatKA
import Derived.Test.YtjgmdjieandemaaGreatKW
import Derived.Test.YtjgmdjieandemaaGreatKR
section
namespace Go.Proofs.YtjgmdjieandemaaGreat.Print
open Go.RowKit Go.Proofs.YtjgmdjieandemaaGreatW.PrintWords Go.Proofs.YtjgmdjieandemaaGreatW.PrintLast Go.Proofs.YtjgmdjieandemaaGreatW.PrintMore
attribute [local go_sem] max2_int min2_int max_two min_two max_three min_three max_four min_four   -- for this text's walks alone
set_option linter.unusedVariables false
set_option linter.unusedSimpArgs false
/-! ### words_Has: function 71 -/
def words_Has.f (l0 : List Int) (a1 : Int) : Option (Bool) := (words_May.f l0).bind fun t213 => (if t213 = true then (if a1 ≥ 0 then (if (a1 / 64) < (l0.length : Int) then (if 0 ≤ (a1 / 64) then ((bits_Field.f (rd l0 (a1 / 64)) (Go.bits .and .i64 a1 63) 1).bind fun t215 => (some (t215 == 1))) else (none)) else (some false)) else (some false)) else (some false))
set_option maxHeartbeats 8000000 in
set_option maxRecDepth 100000 in
theorem words_Has.calls (A0 : Option Addr) (c0 : Nat) (l0 : List Int) (a1 : Int) (r : Bool) (w : World) (hr0 : Kd.C (Kd.int .i64) w A0 l0.length l0) (hc0 : l0.length ≤ c0) (h : words_Has.f l0 a1 = some r) :
  Calls Tryz.prog 71 #[.slice A0 l0.length c0, .int .i64 a1] w fun e w' => e = .returned (.bool r) ∧ Drawn0 w w' := by
 have HR0 := Aside0.mk hr0
 have HC0 := Aside0.mk hc0
 clear hr0 hc0
 have H := h
 clear h
 unfold words_Has.f at H
 replace H := bd H
 obtain ⟨t213, A3, H⟩ := H
 replace H := ifb H
 rcases H with ⟨rfl, H⟩ | ⟨rfl, H⟩
 ·replace H := ifd H
  rcases H with ⟨-, c5b0, H⟩ | ⟨-, c5b0, H⟩
  ·replace H := ifd H
   rcases H with ⟨-, c6b0, H⟩ | ⟨-, c6b0, H⟩
   ·obtain ⟨ji7, hji7⟩ : ∃ j_ : Int, (a1 / 64) = j_ := ⟨_, rfl⟩
    replace H : (if 0 ≤ (ji7) then ((bits_Field.f (rd l0 (ji7)) (Go.bits .and .i64 a1 63) 1).bind fun t215 => (some (t215 == 1))) else (none)) = some r := by (rw [hji7] at H; exact H)
    (rw [hji7] at c6b0)
    replace H := ifn H
    obtain ⟨-, c8b0, H⟩ := H
    replace H := bd H
    obtain ⟨t215, A9, H⟩ := H
    obtain rfl := Option.some.inj H
    go_enter Tryz.func71, Tryz.ntmps71
    go_wp2_with (first | ((with_reducible refine gate_callee (f := 80) rfl ?_); refine gL 6 Tryz.func80 #[.slice A0 l0.length c0] ?_; (with_reducible refine (words_May.calls _ _ l0 true _ ?side1 ?side2 A3.out).mono ?_); (case side1 => exact cx HR0.out); (case side2 => exact HC0.out); rintro e w' ⟨rfl, ⟨nd, rfl⟩⟩; refine ⟨_, rfl, ?_⟩; have p214 : 0 ≤ ((ji7) : Int) := ad; have q214 : (ji7) < (l0.length : Int) := ad; obtain ⟨ad214, e214, hx214_0⟩ := Kd.at_int HR0.out (ji7) p214 q214; cases e214; replace p214 := eq_true p214; replace q214 := eq_true q214) | (go_at_call 98; (with_reducible refine (bits_Field.calls (rd l0 (ji7)) (Go.bits .and .i64 a1 63) 1 t215 _ A9.out).mono ?_); rintro e w' ⟨rfl, ⟨nd, rfl⟩⟩; clear A9))
    go_ret
    exact ⟨by rfl, by repeat (first | exact Drawn0.refl _ | apply Drawn0.step)⟩
   ·obtain rfl := Option.some.inj H
    go_enter Tryz.func71, Tryz.ntmps71
    go_wp2_with (((with_reducible refine gate_callee (f := 80) rfl ?_); refine gL 6 Tryz.func80 #[.slice A0 l0.length c0] ?_; (with_reducible refine (words_May.calls _ _ l0 true _ ?side1 ?side2 A3.out).mono ?_); (case side1 => exact cx HR0.out); (case side2 => exact HC0.out); rintro e w' ⟨rfl, ⟨nd, rfl⟩⟩; refine ⟨_, rfl, ?_⟩))
    go_ret
    exact ⟨by rfl, by repeat (first | exact Drawn0.refl _ | apply Drawn0.step)⟩
  ·obtain rfl := Option.some.inj H
   go_enter Tryz.func71, Tryz.ntmps71
   go_wp2_with (((with_reducible refine gate_callee (f := 80) rfl ?_); refine gL 6 Tryz.func80 #[.slice A0 l0.length c0] ?_; (with_reducible refine (words_May.calls _ _ l0 true _ ?side1 ?side2 A3.out).mono ?_); (case side1 => exact cx HR0.out); (case side2 => exact HC0.out); rintro e w' ⟨rfl, ⟨nd, rfl⟩⟩; refine ⟨_, rfl, ?_⟩))
   go_ret
   exact ⟨by rfl, by repeat (first | exact Drawn0.refl _ | apply Drawn0.step)⟩
 ·obtain rfl := Option.some.inj H
  go_enter Tryz.func71, Tryz.ntmps71
  go_wp2_with (((with_reducible refine gate_callee (f := 80) rfl ?_); refine gL 6 Tryz.func80 #[.slice A0 l0.length c0] ?_; (with_reducible refine (words_May.calls _ _ l0 false _ ?side1 ?side2 A3.out).mono ?_); (case side1 => exact cx HR0.out); (case side2 => exact HC0.out); rintro e w' ⟨rfl, ⟨nd, rfl⟩⟩; refine ⟨_, rfl, ?_⟩))
  go_ret
  exact ⟨by rfl, by repeat (first | exact Drawn0.refl _ | apply Drawn0.step)⟩
/-! ### cmp_isNaN_int: function 115 -/
def cmp_isNaN_int.f (a0 : Int) : Option (Bool) := some (a0 != a0)
set_option maxHeartbeats 8000000 in
set_option maxRecDepth 100000 in
theorem cmp_isNaN_int.calls (a0 : Int) (r : Bool) (w : World) (h : cmp_isNaN_int.f a0 = some r) :
  Calls Tryz.prog 115 #[.int .i64 a0] w fun e w' => e = .returned (.bool r) ∧ Drawn0 w w' := by
 have H := h
 clear h
 unfold cmp_isNaN_int.f at H
 obtain rfl := Option.some.inj H
 go_enter Tryz.func115, Tryz.ntmps115
 go_wp2
 go_ret
 exact ⟨by rfl, by repeat (exact Drawn0.refl _)⟩
/-! ### cmp_Less_int: function 99 -/
def cmp_Less_int.f (a0 : Int) (a1 : Int) : Option (Bool) := (cmp_isNaN_int.f a0).bind fun t216 => (if t216 = true then ((cmp_isNaN_int.f a1).bind fun t217 => (if t217 = true then (some (decide (a0 < a1))) else (some true))) else (some (decide (a0 < a1))))
set_option maxHeartbeats 8000000 in
set_option maxRecDepth 100000 in
theorem cmp_Less_int.calls (a0 : Int) (a1 : Int) (r : Bool) (w : World) (h : cmp_Less_int.f a0 a1 = some r) :
  Calls Tryz.prog 99 #[.int .i64 a0, .int .i64 a1] w fun e w' => e = .returned (.bool r) ∧ Drawn0 w w' := by
 have H := h
 clear h
 unfold cmp_Less_int.f at H
 replace H := bd H
 obtain ⟨t216, A3, H⟩ := H
 replace H := ifb H
 rcases H with ⟨rfl, H⟩ | ⟨rfl, H⟩
 ·replace H := bd H
  obtain ⟨t217, A5, H⟩ := H
  replace H := ifb H
  rcases H with ⟨rfl, H⟩ | ⟨rfl, H⟩
  ·obtain rfl := Option.some.inj H
   go_enter Tryz.func99, Tryz.ntmps99
   go_wp2_with (first | ((with_reducible refine gate_callee (f := 115) rfl ?_); refine gL 6 Tryz.func115 #[.int .i64 a0] ?_; (with_reducible refine (cmp_isNaN_int.calls a0 true _ A3.out).mono ?_); rintro e w' ⟨rfl, ⟨nd, rfl⟩⟩; refine ⟨_, rfl, ?_⟩) | (go_at_call 115; (with_reducible refine (cmp_isNaN_int.calls a1 true _ A5.out).mono ?_); rintro e w' ⟨rfl, ⟨nd, rfl⟩⟩; clear A5))
   go_ret
   exact ⟨by rfl, by repeat (first | exact Drawn0.refl _ | apply Drawn0.step)⟩
  ·obtain rfl := Option.some.inj H
   go_enter Tryz.func99, Tryz.ntmps99
   go_wp2_with (first | ((with_reducible refine gate_callee (f := 115) rfl ?_); refine gL 6 Tryz.func115 #[.int .i64 a0] ?_; (with_reducible refine (cmp_isNaN_int.calls a0 true _ A3.out).mono ?_); rintro e w' ⟨rfl, ⟨nd, rfl⟩⟩; refine ⟨_, rfl, ?_⟩) | (go_at_call 115; (with_reducible refine (cmp_isNaN_int.calls a1 false _ A5.out).mono ?_); rintro e w' ⟨rfl, ⟨nd, rfl⟩⟩; clear A5))
   go_ret
   exact ⟨by rfl, by repeat (first | exact Drawn0.refl _ | apply Drawn0.step)⟩
 ·obtain rfl := Option.some.inj H
  go_enter Tryz.func99, Tryz.ntmps99
  go_wp2_with (((with_reducible refine gate_callee (f := 115) rfl ?_); refine gL 6 Tryz.func115 #[.int .i64 a0] ?_; (with_reducible refine (cmp_isNaN_int.calls a0 false _ A3.out).mono ?_); rintro e w' ⟨rfl, ⟨nd, rfl⟩⟩; refine ⟨_, rfl, ?_⟩))
  go_ret
  exact ⟨by rfl, by repeat (first | exact Drawn0.refl _ | apply Drawn0.step)⟩
/-! ### slices_isNaN_int: function 100 -/
def slices_isNaN_int.f (a0 : Int) : Option (Bool) := some (a0 != a0)
set_option maxHeartbeats 8000000 in
set_option maxRecDepth 100000 in
theorem slices_isNaN_int.calls (a0 : Int) (r : Bool) (w : World) (h : slices_isNaN_int.f a0 = some r) :
  Calls Tryz.prog 100 #[.int .i64 a0] w fun e w' => e = .returned (.bool r) ∧ Drawn0 w w' := by
 have H := h
 clear h
 unfold slices_isNaN_int.f at H
 obtain rfl := Option.some.inj H
 go_enter Tryz.func100, Tryz.ntmps100
 go_wp2
 go_ret
 exact ⟨by rfl, by repeat (exact Drawn0.refl _)⟩
/-! ### slices_BinarySearch_int_int: function 69 -/
def slices_BinarySearch_int_int.l0 : Nat → List Int → Int → Int → Int → Int → Option (Int × Bool)
 | 0, _, _, _, _, _ => none
 | k + 1, x0, x1, x6, x7, x8 => if x7 < x8 then (if 0 ≤ (wrap64 ((IntKind.u64.wrap (wrap64 (x7 + x8))) / 2)) then (if (wrap64 ((IntKind.u64.wrap (wrap64 (x7 + x8))) / 2)) < (x0.length : Int) then ((cmp_Less_int.f (rd x0 (wrap64 ((IntKind.u64.wrap (wrap64 (x7 + x8))) / 2))) x1).bind fun t219 => (if t219 = true then (slices_BinarySearch_int_int.l0 k x0 x1 x6 (wrap64 ((wrap64 ((IntKind.u64.wrap (wrap64 (x7 + x8))) / 2)) + 1)) x8) else (slices_BinarySearch_int_int.l0 k x0 x1 x6 x7 (wrap64 ((IntKind.u64.wrap (wrap64 (x7 + x8))) / 2))))) else (none)) else (none)) else (if x7 < x6 then (if 0 ≤ x7 then (if x7 < (x0.length : Int) then (if (rd x0 x7) = x1 then (some (x7, true)) else ((slices_isNaN_int.f (rd x0 x7)).bind fun t222 => (if t222 = true then ((slices_isNaN_int.f x1).bind fun t223 => (some (x7, t223))) else (some (x7, false))))) else (none)) else (none)) else (some (x7, false)))
def slices_BinarySearch_int_int.f (k : Nat) (l0 : List Int) (a1 : Int) : Option (Int × Bool) := slices_BinarySearch_int_int.l0 k l0 a1 (l0.length : Int) 0 (l0.length : Int)
theorem slices_BinarySearch_int_int.l0_succ (k) (a0) (a1) (a2) (a3) (a4) : type_of% (@slices_BinarySearch_int_int.l0.eq_2 a0 a1 a2 a3 a4 k) := slices_BinarySearch_int_int.l0.eq_2 a0 a1 a2 a3 a4 k
theorem slices_BinarySearch_int_int.mono_l : ∀ k, (∀ y0 y1 y2 y3 y4, LeO (slices_BinarySearch_int_int.l0 k y0 y1 y2 y3 y4) (slices_BinarySearch_int_int.l0 (k + 1) y0 y1 y2 y3 y4))
 | 0 => fun _ _ _ _ _ r h => by simp [slices_BinarySearch_int_int.l0] at h
 | k + 1 => by
  have ih0 := slices_BinarySearch_int_int.mono_l k
  ·intro y0 y1 y2 y3 y4
   unfold slices_BinarySearch_int_int.l0
   repeat' first | (with_reducible exact ih0 _ _ _ _ _) | (with_reducible exact LeO.refl _) | (with_reducible refine LeO.ite ?_ ?_) | (with_reducible refine LeO.bind ?_ (fun _ => ?_))
theorem slices_BinarySearch_int_int.mono : ∀ a0 a1 k, LeO (slices_BinarySearch_int_int.f k a0 a1) (slices_BinarySearch_int_int.f (k + 1) a0 a1) := by
 intro a0 a1 k
 have ih0 := slices_BinarySearch_int_int.mono_l k
 unfold slices_BinarySearch_int_int.f
 repeat' (with_reducible exact ih0 _ _ _ _ _)
set_option maxHeartbeats 8000000 in
set_option maxRecDepth 100000 in
theorem slices_BinarySearch_int_int.calls (k : Nat) (A0 : Option Addr) (c0 : Nat) (l0 : List Int) (a1 : Int) (r1 : Int) (r2 : Bool) (w : World) (hr0 : Kd.C (Kd.int .i64) w A0 l0.length l0) (hc0 : l0.length ≤ c0) (h : slices_BinarySearch_int_int.f k l0 a1 = some (r1, r2)) :
  Calls Tryz.prog 69 #[.slice A0 l0.length c0, .int .i64 a1] w fun e w' => e = .returned (.tuple #[.int .i64 r1, .bool r2]) ∧ Drawn0 w w' := by
 have HR0 := Aside0.mk hr0
 have HC0 := Aside0.mk hc0
 clear hr0 hc0
 have H := h
 clear h
 unfold slices_BinarySearch_int_int.f at H
 have H' := Aside0.mk H
 clear H
 go_enter Tryz.func69, Tryz.ntmps69
 go_wp2
 go_loopg [7, 8] k (fun kq v7 v8 w' => ∃ (x7_1 : Int) (x8_1 : Int), v7 = .int .i64 x7_1 ∧ v8 = .int .i64 x8_1 ∧ Aside0 (slices_BinarySearch_int_int.l0 kq l0 a1 (l0.length : Int) x7_1 x8_1 = some (r1, r2)) ∧ Aside0 (kq ≤ k) ∧ Drawn0 w w')
 case atStart => exact ⟨(0), ((l0.length : Int)), (by rfl), (by rfl), H', ⟨Nat.le_refl _⟩, by repeat (exact Drawn0.refl _)⟩
 case round =>
  clear H'
  obtain ⟨x7_1, x8_1, rfl, rfl, HA, HK1, ⟨m1, rfl⟩⟩ := hrel
  cases gk with
  | zero => exact absurd HA.out (by simp [slices_BinarySearch_int_int.l0])
  | succ k1 =>
   have H := HA.out
   clear HA
   simp only [slices_BinarySearch_int_int.l0] at H
   replace H := ifd H
   rcases H with ⟨-, c3b0, H⟩ | ⟨-, c3b0, H⟩
   ·obtain ⟨ji4, hji4⟩ : ∃ j_ : Int, (wrap64 ((IntKind.u64.wrap (wrap64 (x7_1 + x8_1))) / 2)) = j_ := ⟨_, rfl⟩
    replace H : (if 0 ≤ (ji4) then (if (ji4) < (l0.length : Int) then ((cmp_Less_int.f (rd l0 (ji4)) a1).bind fun t219 => (if t219 = true then (slices_BinarySearch_int_int.l0 k1 l0 a1 (l0.length : Int) (wrap64 ((ji4) + 1)) x8_1) else (slices_BinarySearch_int_int.l0 k1 l0 a1 (l0.length : Int) x7_1 ji4))) else (none)) else (none)) = some (r1, r2) := by (rw [hji4] at H; exact H)
    have hji4w : (IntKind.i64.wrap ((IntKind.u64.wrap (wrap64 (x7_1 + x8_1))) / 2)) = ji4 := (i64_w _).trans hji4
    replace H := ifn H
    obtain ⟨-, c5b0, H⟩ := H
    replace H := ifn H
    obtain ⟨-, c6b0, H⟩ := H
    replace H := bd H
    obtain ⟨t219, A7, H⟩ := H
    replace H := ifb H
    rcases H with ⟨rfl, H⟩ | ⟨rfl, H⟩
    ·have H' := Aside0.mk H
     clear H
     have p218 : 0 ≤ ((ji4) : Int) := ad
     have q218 : (ji4) < (l0.length : Int) := ad
     obtain ⟨ad218, e218, hx218_0⟩ := Kd.at_int HR0.out (ji4) p218 q218
     cases e218
     replace p218 := eq_true p218
     replace q218 := eq_true q218
     go_wp2_with (((with_reducible refine gate_callee (f := 99) rfl ?_); refine gL 27 Tryz.func99 #[.int .i64 (rd l0 (ji4)), .int .i64 a1] ?_; (with_reducible refine (cmp_Less_int.calls (rd l0 (ji4)) a1 true _ A7.out).mono ?_); rintro e w' ⟨rfl, ⟨nd, rfl⟩⟩; refine ⟨_, rfl, ?_⟩))
     go_roundg k1
     case measure => have := HK1.out; omega
     case rel => exact ⟨(wrap64 ((ji4) + 1)), (x8_1), (by rfl), (by rfl), (by exact H'), ⟨by have := HK1.out; omega⟩, by repeat (first | exact Drawn0.refl _ | apply Drawn0.step)⟩
    ·have H' := Aside0.mk H
     clear H
     have p218 : 0 ≤ ((ji4) : Int) := ad
     have q218 : (ji4) < (l0.length : Int) := ad
     obtain ⟨ad218, e218, hx218_0⟩ := Kd.at_int HR0.out (ji4) p218 q218
     cases e218
     replace p218 := eq_true p218
     replace q218 := eq_true q218
     go_wp2_with (((with_reducible refine gate_callee (f := 99) rfl ?_); refine gL 27 Tryz.func99 #[.int .i64 (rd l0 (ji4)), .int .i64 a1] ?_; (with_reducible refine (cmp_Less_int.calls (rd l0 (ji4)) a1 false _ A7.out).mono ?_); rintro e w' ⟨rfl, ⟨nd, rfl⟩⟩; refine ⟨_, rfl, ?_⟩))
     go_roundg k1
     case measure => have := HK1.out; omega
     case rel => exact ⟨(x7_1), (ji4), (by rfl), (by rfl), (by exact H'), ⟨by have := HK1.out; omega⟩, by repeat (first | exact Drawn0.refl _ | apply Drawn0.step)⟩
   ·replace H := ifd H
    rcases H with ⟨-, c9b0, H⟩ | ⟨-, c9b0, H⟩
    ·replace H := ifn H
     obtain ⟨-, c10b0, H⟩ := H
     replace H := ifn H
     obtain ⟨-, c11b0, H⟩ := H
     replace H := ife H
     rcases H with ⟨-, c12b0, c12b1, H⟩ | ⟨c12, c12b0, c12b1, H⟩
     ·simp only [Option.some.injEq, Prod.mk.injEq] at H
      obtain ⟨rfl, rfl⟩ := H
      have p220 : 0 ≤ (x7_1 : Int) := ad
      have q220 : x7_1 < (l0.length : Int) := ad
      obtain ⟨ad220, e220, hx220_0⟩ := Kd.at_int HR0.out x7_1 p220 q220
      cases e220
      replace p220 := eq_true p220
      replace q220 := eq_true q220
      go_wp2
      go_ret2
      exact ⟨by rfl, by repeat (first | exact Drawn0.refl _ | apply Drawn0.step)⟩
     ·replace H := bd H
      obtain ⟨t222, A13, H⟩ := H
      replace H := ifb H
      rcases H with ⟨rfl, H⟩ | ⟨rfl, H⟩
      ·replace H := bd H
       obtain ⟨t223, A15, H⟩ := H
       simp only [Option.some.injEq, Prod.mk.injEq] at H
       obtain ⟨rfl, rfl⟩ := H
       have p220 : 0 ≤ (x7_1 : Int) := ad
       have q220 : x7_1 < (l0.length : Int) := ad
       obtain ⟨ad220, e220, hx220_0⟩ := Kd.at_int HR0.out x7_1 p220 q220
       cases e220
       replace p220 := eq_true p220
       replace q220 := eq_true q220
       have p221 : 0 ≤ (x7_1 : Int) := ad
       have q221 : x7_1 < (l0.length : Int) := ad
       obtain ⟨ad221, e221, hx221_0⟩ := Kd.at_int HR0.out x7_1 p221 q221
       obtain rfl : ad220 = ad221 := (by injection e221)
       replace p221 := eq_true p221
       replace q221 := eq_true q221
       go_wp2_with (first | (go_at_call 100; (with_reducible refine (slices_isNaN_int.calls (rd l0 x7_1) true _ A13.out).mono ?_); rintro e w' ⟨rfl, ⟨nd, rfl⟩⟩; clear A13) | (go_at_call 100; (with_reducible refine (slices_isNaN_int.calls a1 t223 _ A15.out).mono ?_); rintro e w' ⟨rfl, ⟨nd, rfl⟩⟩; clear A15))
       go_ret2
       exact ⟨by rfl, by repeat (first | exact Drawn0.refl _ | apply Drawn0.step)⟩
      ·simp only [Option.some.injEq, Prod.mk.injEq] at H
       obtain ⟨rfl, rfl⟩ := H
       have p220 : 0 ≤ (x7_1 : Int) := ad
       have q220 : x7_1 < (l0.length : Int) := ad
       obtain ⟨ad220, e220, hx220_0⟩ := Kd.at_int HR0.out x7_1 p220 q220
       cases e220
       replace p220 := eq_true p220
       replace q220 := eq_true q220
       have p221 : 0 ≤ (x7_1 : Int) := ad
       have q221 : x7_1 < (l0.length : Int) := ad
       obtain ⟨ad221, e221, hx221_0⟩ := Kd.at_int HR0.out x7_1 p221 q221
       obtain rfl : ad220 = ad221 := (by injection e221)
       replace p221 := eq_true p221
       replace q221 := eq_true q221
       go_wp2_with ((go_at_call 100; (with_reducible refine (slices_isNaN_int.calls (rd l0 x7_1) false _ A13.out).mono ?_); rintro e w' ⟨rfl, ⟨nd, rfl⟩⟩; clear A13))
       go_ret2
       exact ⟨by rfl, by repeat (first | exact Drawn0.refl _ | apply Drawn0.step)⟩
    ·simp only [Option.some.injEq, Prod.mk.injEq] at H
     obtain ⟨rfl, rfl⟩ := H
     go_wp2
     go_ret2
     exact ⟨by rfl, by repeat (first | exact Drawn0.refl _ | apply Drawn0.step)⟩
/-! ### span_Has: function 72 -/
def span_Has.l0 : Nat → Bool → List (S64) → Int → Int → Int → Option (Bool)
 | 0, _, _, _, _, _ => none
 | k + 1, x7, x21, x28, x29, x226000 => if x29 < x28 then (if 0 ≤ x29 then (if x29 < (x21.length : Int) then (if x226000 ≥ ((rd_T64 x21 x29).f0) then (if x226000 < ((rd_T64 x21 x29).f1) then (if x7 = true then (some (decide (x29 ≥ 0))) else (some false)) else (span_Has.l0 k x7 x21 x28 (wrap64 (x29 + 1)) x226000)) else (span_Has.l0 k x7 x21 x28 (wrap64 (x29 + 1)) x226000)) else (none)) else (none)) else (if x7 = true then (some (decide ((-1) ≥ 0))) else (some false))
def span_Has.f (k : Nat) (l0 : List (S64)) (a1 : Int) : Option (Bool) := (span_May.f k l0).bind fun t226 => (if t226 = true then (span_Has.l0 k t226 l0 (l0.length : Int) 0 a1) else (some false))
theorem span_Has.l0_succ (k) (a0) (a1) (a2) (a3) (a4) : type_of% (@span_Has.l0.eq_2 a0 a1 a2 a3 a4 k) := span_Has.l0.eq_2 a0 a1 a2 a3 a4 k
theorem span_Has.mono_l : ∀ k, (∀ y0 y1 y2 y3 y4, LeO (span_Has.l0 k y0 y1 y2 y3 y4) (span_Has.l0 (k + 1) y0 y1 y2 y3 y4))
 | 0 => fun _ _ _ _ _ r h => by simp [span_Has.l0] at h
 | k + 1 => by
  have ih0 := span_Has.mono_l k
  ·intro y0 y1 y2 y3 y4
   unfold span_Has.l0
   repeat' first | (with_reducible exact ih0 _ _ _ _ _) | (with_reducible exact LeO.refl _) | (with_reducible refine LeO.ite ?_ ?_)
theorem span_Has.mono : ∀ a0 a1 k, LeO (span_Has.f k a0 a1) (span_Has.f (k + 1) a0 a1) := by
 intro a0 a1 k
 have ih0 := span_Has.mono_l k
 unfold span_Has.f
 repeat' first | (with_reducible exact ih0 _ _ _ _ _) | (with_reducible exact span_May.mono _ _) | (with_reducible exact LeO.refl _) | (with_reducible refine LeO.ite ?_ ?_) | (with_reducible refine LeO.bind ?_ (fun _ => ?_))
set_option maxHeartbeats 8000000 in
set_option maxRecDepth 100000 in
theorem span_Has.calls (k : Nat) (A0 : Option Addr) (c0 : Nat) (l0 : List (S64)) (a1 : Int) (r : Bool) (w : World) (hr0 : Kd.C k64 w A0 l0.length l0) (hc0 : l0.length ≤ c0) (h : span_Has.f k l0 a1 = some r) :
  Calls Tryz.prog 72 #[.slice A0 l0.length c0, .int .i64 a1] w fun e w' => e = .returned (.bool r) ∧ Below w.heap.size w w' := by
 have hmf : ∀ (fn : Fn) (first cap : Array Value) (w : World), (Instr.makeFunc fn first cap).run Tryz.prog w = .ok (.func fn first cap) w := fun _ _ _ _ => rfl
 have hu64 := Tryz.underlying64
 have HR0 := Aside0.mk hr0
 have HC0 := Aside0.mk hc0
 clear hr0 hc0
 have HB := Aside0.mk (Below.refl w.heap.size w)
 have H := h
 clear h
 unfold span_Has.f at H
 replace H := bd H
 obtain ⟨t226, A3, H⟩ := H
 replace H := ifb H
 rcases H with ⟨rfl, H⟩ | ⟨rfl, H⟩
 ·have H' := Aside0.mk H
  clear H
  go_enter Tryz.func72, Tryz.ntmps72
  go_wp2_with (first | ((with_reducible refine gate_dst (N := 3) rfl ?_); refine boxE HB 3 3 #[.int .i64 a1] ?_; clear HB; intro gb225 w5 BK225 GW225 hg hb HB; have GE225 := GW225; clear hb hg) | ((with_reducible refine gate_callee (f := 41) rfl ?_); refine gL 6 Tryz.func41 #[.slice A0 l0.length c0] ?_; (with_reducible refine (span_May.calls k _ _ l0 true _ ?side1 ?side2 A3.out).mono ?_); (case side1 => exact cx (Kd.C_below HR0.out HB.out)); (case side2 => exact HC0.out); rintro e w6 ⟨rfl, hb⟩; refine ⟨_, rfl, ?_⟩; replace BK225 := bba BK225 hb; replace HB := bsa HB hb; clear hb) | go_in)
  go_loopg [8] k (fun kq v29 w' => ∃ (x29_1 : Int), v29 = .int .i64 x29_1 ∧ Aside0 (span_Has.l0 kq true l0 (l0.length : Int) x29_1 a1 = some r) ∧ Aside0 (kq ≤ k) ∧ Aside0 (w'.heap[gb225]? = some (.cells #[.int .i64 a1] 3 (0, 0))) ∧ Aside0 (Below w.heap.size w w'))
  case atStart => exact ⟨(0), (by rfl), H', ⟨Nat.le_refl _⟩, ⟨bx BK225.out⟩, ⟨bh HB.out⟩⟩
  case round =>
   clear H'
   obtain ⟨x29_1, rfl, HA, HK1, BK225, HB⟩ := hrel
   cases gk with
   | zero => exact absurd HA.out (by simp [span_Has.l0])
   | succ k1 =>
    have H := HA.out
    clear HA
    simp only [span_Has.l0] at H
    replace H := ifd H
    rcases H with ⟨-, c7b0, H⟩ | ⟨-, c7b0, H⟩
    ·replace H := ifn H
     obtain ⟨-, c8b0, H⟩ := H
     replace H := ifn H
     obtain ⟨-, c9b0, H⟩ := H
     replace H := ifd H
     rcases H with ⟨-, c10b0, H⟩ | ⟨-, c10b0, H⟩
     ·replace H := ifd H
      rcases H with ⟨-, c11b0, H⟩ | ⟨-, c11b0, H⟩
      ·by_cases c12 : true = true
       ·clear c12
        have H1 : (some (decide (x29_1 ≥ 0))) = some r := by (rw [if_pos trivial] at H; exact H)
        clear H
        have H := H1
        clear H1
        obtain rfl := Option.some.inj H
        have p227 : 0 ≤ (x29_1 : Int) := ad
        have q227 : x29_1 < (l0.length : Int) := ad
        obtain ⟨ad227, e227, hx227_0, hx227_1⟩ := at_T64 HR0.out x29_1 p227 q227
        cases e227
        replace hx227_0 := cb HB.out.cell hx227_0
        replace hx227_1 := cb HB.out.cell hx227_1
        replace p227 := eq_true p227
        replace q227 := eq_true q227
        go_wp2_with (first | ((with_reducible refine gate_dst (N := 2) rfl ?_); refine boxE HB 2 64 #[.int .i64 ((rd_T64 l0 x29_1).f0), .int .i64 ((rd_T64 l0 x29_1).f1)] ?_; clear HB; intro gb228 w13 BK228 GW228 hg hb HB; have GE228 := GW228; have NB225_228 := bna BK225 hg; have NB228_225 := bma BK225 hg; replace BK225 := bba BK225 hb; clear hb hg; have hnb14 := NB225_228.out; have hnc14 := NB228_225.out; obtain ⟨hcz15_0, hfz15_0⟩ := b1 BK225; obtain ⟨hcz16_0, hcz16_1, hfz16_0, hfz16_1⟩ := b2 BK228) | go_in)
        go_ret
        exact ⟨er, bh HB.out⟩
       ·exact absurd rfl c12
      ·have H' := Aside0.mk H
       clear H
       have p227 : 0 ≤ (x29_1 : Int) := ad
       have q227 : x29_1 < (l0.length : Int) := ad
       obtain ⟨ad227, e227, hx227_0, hx227_1⟩ := at_T64 HR0.out x29_1 p227 q227
       cases e227
       replace hx227_0 := cb HB.out.cell hx227_0
       replace hx227_1 := cb HB.out.cell hx227_1
       replace p227 := eq_true p227
       replace q227 := eq_true q227
       go_wp2_with (first | ((with_reducible refine gate_dst (N := 2) rfl ?_); refine boxE HB 2 64 #[.int .i64 ((rd_T64 l0 x29_1).f0), .int .i64 ((rd_T64 l0 x29_1).f1)] ?_; clear HB; intro gb228 w21 BK228 GW228 hg hb HB; have GE228 := GW228; have NB225_228 := bna BK225 hg; have NB228_225 := bma BK225 hg; replace BK225 := bba BK225 hb; clear hb hg; have hnb22 := NB225_228.out; have hnc22 := NB228_225.out; obtain ⟨hcz23_0, hfz23_0⟩ := b1 BK225; obtain ⟨hcz24_0, hcz24_1, hfz24_0, hfz24_1⟩ := b2 BK228) | go_in)
       go_roundg k1
       case measure => have := HK1.out; omega
       case rel => exact ⟨(wrap64 (x29_1 + 1)), (by rfl), H', ⟨by have := HK1.out; omega⟩, ⟨bx BK225.out⟩, ⟨bh HB.out⟩⟩
     ·have H' := Aside0.mk H
      clear H
      have p227 : 0 ≤ (x29_1 : Int) := ad
      have q227 : x29_1 < (l0.length : Int) := ad
      obtain ⟨ad227, e227, hx227_0, hx227_1⟩ := at_T64 HR0.out x29_1 p227 q227
      cases e227
      replace hx227_0 := cb HB.out.cell hx227_0
      replace hx227_1 := cb HB.out.cell hx227_1
      replace p227 := eq_true p227
      replace q227 := eq_true q227
      go_wp2_with (first | ((with_reducible refine gate_dst (N := 2) rfl ?_); refine boxE HB 2 64 #[.int .i64 ((rd_T64 l0 x29_1).f0), .int .i64 ((rd_T64 l0 x29_1).f1)] ?_; clear HB; intro gb228 w25 BK228 GW228 hg hb HB; have GE228 := GW228; have NB225_228 := bna BK225 hg; have NB228_225 := bma BK225 hg; replace BK225 := bba BK225 hb; clear hb hg; have hnb26 := NB225_228.out; have hnc26 := NB228_225.out; obtain ⟨hcz27_0, hfz27_0⟩ := b1 BK225; obtain ⟨hcz28_0, hcz28_1, hfz28_0, hfz28_1⟩ := b2 BK228) | go_in)
      go_roundg k1
      case measure => have := HK1.out; omega
      case rel => exact ⟨(wrap64 (x29_1 + 1)), (by rfl), H', ⟨by have := HK1.out; omega⟩, ⟨bx BK225.out⟩, ⟨bh HB.out⟩⟩
    ·by_cases c29 : true = true
     ·clear c29
      have H1 : (some (decide ((-1) ≥ 0))) = some r := by (rw [if_pos trivial] at H; exact H)
      clear H
      have H := H1
      clear H1
      obtain rfl := Option.some.inj H
      go_wp2
      go_ret
      exact ⟨er, bh HB.out⟩
     ·exact absurd rfl c29
 ·obtain rfl := Option.some.inj H
  go_enter Tryz.func72, Tryz.ntmps72
  go_wp2_with (first | ((with_reducible refine gate_dst (N := 3) rfl ?_); refine boxE HB 3 3 #[.int .i64 a1] ?_; clear HB; intro gb225 w30 BK225 GW225 hg hb HB; have GE225 := GW225; clear hb hg) | ((with_reducible refine gate_callee (f := 41) rfl ?_); refine gL 6 Tryz.func41 #[.slice A0 l0.length c0] ?_; (with_reducible refine (span_May.calls k _ _ l0 false _ ?side1 ?side2 A3.out).mono ?_); (case side1 => exact cx (Kd.C_below HR0.out HB.out)); (case side2 => exact HC0.out); rintro e w31 ⟨rfl, hb⟩; refine ⟨_, rfl, ?_⟩; replace BK225 := bba BK225 hb; replace HB := bsa HB hb; clear hb))
  go_ret
  exact ⟨er, bh HB.out⟩
/-! ### poslist_List_Has: function 34 -/
def poslist_List_Has.f (k : Nat) (a0_0 : Int) (l0_1 : List (S64)) (l0_2 : List Int) (l0_3 : List Int) (a1 : Int) : Option (Bool) := if a0_0 = 2 then ((words_Has.f l0_2 a1).bind fun t230 => (some t230)) else (if a0_0 = 3 then ((slices_BinarySearch_int_int.f k l0_3 a1).bind fun bt231 => (some bt231.2)) else ((span_Has.f k l0_1 a1).bind fun t233 => (some t233)))
theorem poslist_List_Has.mono : ∀ a0 a1 a2 a3 a4 k, LeO (poslist_List_Has.f k a0 a1 a2 a3 a4) (poslist_List_Has.f (k + 1) a0 a1 a2 a3 a4) := by
 intro a0 a1 a2 a3 a4 k
 unfold poslist_List_Has.f
 repeat' first | (with_reducible exact slices_BinarySearch_int_int.mono _ _ _) | (with_reducible exact span_Has.mono _ _ _) | (with_reducible exact LeO.refl _) | (with_reducible refine LeO.ite ?_ ?_) | (with_reducible refine LeO.bind ?_ (fun _ => ?_))
set_option maxHeartbeats 8000000 in
set_option maxRecDepth 100000 in
theorem poslist_List_Has.calls (k : Nat) (a0_0 : Int) (A0_1 : Option Addr) (c0_1 : Nat) (l0_1 : List (S64)) (A0_2 : Option Addr) (c0_2 : Nat) (l0_2 : List Int) (A0_3 : Option Addr) (c0_3 : Nat) (l0_3 : List Int) (a1 : Int) (r : Bool) (w : World) (hr0_1 : Kd.C k64 w A0_1 l0_1.length l0_1) (hc0_1 : l0_1.length ≤ c0_1) (hr0_2 : Kd.C (Kd.int .i64) w A0_2 l0_2.length l0_2) (hc0_2 : l0_2.length ≤ c0_2) (hr0_3 : Kd.C (Kd.int .i64) w A0_3 l0_3.length l0_3) (hc0_3 : l0_3.length ≤ c0_3) (h : poslist_List_Has.f k a0_0 l0_1 l0_2 l0_3 a1 = some r) :
  Calls Tryz.prog 34 #[.agg #[.int .i64 a0_0, .slice A0_1 l0_1.length c0_1, .slice A0_2 l0_2.length c0_2, .slice A0_3 l0_3.length c0_3], .int .i64 a1] w fun e w' => e = .returned (.bool r) ∧ Below w.heap.size w w' := by
 have hu27 := Tryz.underlying27
 have HR0_1 := Aside0.mk hr0_1
 have HC0_1 := Aside0.mk hc0_1
 clear hr0_1 hc0_1
 have HR0_2 := Aside0.mk hr0_2
 have HC0_2 := Aside0.mk hc0_2
 clear hr0_2 hc0_2
 have HR0_3 := Aside0.mk hr0_3
 have HC0_3 := Aside0.mk hc0_3
 clear hr0_3 hc0_3
 have HB := Aside0.mk (Below.refl w.heap.size w)
 have H := h
 clear h
 unfold poslist_List_Has.f at H
 replace H := ife H
 rcases H with ⟨-, c3b0, c3b1, H⟩ | ⟨c3, c3b0, c3b1, H⟩
 ·replace H := bd H
  obtain ⟨t230, A4, H⟩ := H
  obtain rfl := Option.some.inj H
  go_enter Tryz.func34, Tryz.ntmps34
  go_wp2_with (first | ((with_reducible refine gate_dst (N := 2) rfl ?_); refine boxE HB 2 27 #[.int .i64 a0_0, .slice A0_1 l0_1.length c0_1, .slice A0_2 l0_2.length c0_2, .slice A0_3 l0_3.length c0_3] ?_; clear HB; intro gb229 w5 BK229 GW229 hg hb HB; have GE229 := GW229; clear hb hg; obtain ⟨hcz6_0, hcz6_1, hcz6_2, hcz6_3, hfz6_0, hfz6_1, hfz6_2, hfz6_3⟩ := b4 BK229) | ((with_reducible refine gate_callee (f := 71) rfl ?_); refine gL 14 Tryz.func71 #[.slice A0_2 l0_2.length c0_2, .int .i64 a1] ?_; (with_reducible refine (words_Has.calls _ _ l0_2 a1 t230 _ ?side1 ?side2 A4.out).mono ?_); (case side1 => exact cx (Kd.C_below HR0_2.out HB.out)); (case side2 => exact HC0_2.out); rintro e w' ⟨rfl, ⟨nd, rfl⟩⟩; refine ⟨_, rfl, ?_⟩))
  go_ret
  exact ⟨er, bh HB.out⟩
 ·replace H := ife H
  rcases H with ⟨-, c7b0, c7b1, H⟩ | ⟨c7, c7b0, c7b1, H⟩
  ·replace H := bd H
   obtain ⟨⟨t231, t232⟩, A8, H⟩ := H
   dsimp only at H
   obtain rfl := Option.some.inj H
   go_enter Tryz.func34, Tryz.ntmps34
   go_wp2_with (first | ((with_reducible refine gate_dst (N := 2) rfl ?_); refine boxE HB 2 27 #[.int .i64 a0_0, .slice A0_1 l0_1.length c0_1, .slice A0_2 l0_2.length c0_2, .slice A0_3 l0_3.length c0_3] ?_; clear HB; intro gb229 w9 BK229 GW229 hg hb HB; have GE229 := GW229; clear hb hg; obtain ⟨hcz10_0, hcz10_1, hcz10_2, hcz10_3, hfz10_0, hfz10_1, hfz10_2, hfz10_3⟩ := b4 BK229) | ((with_reducible refine gate_callee (f := 69) rfl ?_); refine gL 21 Tryz.func69 #[.slice A0_3 l0_3.length c0_3, .int .i64 a1] ?_; (with_reducible refine (slices_BinarySearch_int_int.calls k _ _ l0_3 a1 t231 t232 _ ?side1 ?side2 A8.out).mono ?_); (case side1 => exact cx (Kd.C_below HR0_3.out HB.out)); (case side2 => exact HC0_3.out); rintro e w' ⟨rfl, ⟨nd, rfl⟩⟩; refine ⟨_, rfl, ?_⟩))
   go_ret
   exact ⟨er, bh HB.out⟩
  ·replace H := bd H
   obtain ⟨t233, A11, H⟩ := H
   obtain rfl := Option.some.inj H
   go_enter Tryz.func34, Tryz.ntmps34
   go_wp2_with (first | ((with_reducible refine gate_dst (N := 2) rfl ?_); refine boxE HB 2 27 #[.int .i64 a0_0, .slice A0_1 l0_1.length c0_1, .slice A0_2 l0_2.length c0_2, .slice A0_3 l0_3.length c0_3] ?_; clear HB; intro gb229 w12 BK229 GW229 hg hb HB; have GE229 := GW229; clear hb hg; obtain ⟨hcz13_0, hcz13_1, hcz13_2, hcz13_3, hfz13_0, hfz13_1, hfz13_2, hfz13_3⟩ := b4 BK229) | ((with_reducible refine gate_callee (f := 72) rfl ?_); refine gL 28 Tryz.func72 #[.slice A0_1 l0_1.length c0_1, .int .i64 a1] ?_; (with_reducible refine (span_Has.calls k _ _ l0_1 a1 t233 _ ?side1 ?side2 A11.out).mono ?_); (case side1 => exact cx (Kd.C_below HR0_1.out HB.out)); (case side2 => exact HC0_1.out); rintro e w14 ⟨rfl, hb⟩; refine ⟨_, rfl, ?_⟩; replace BK229 := bba BK229 hb; replace HB := bsa HB hb; clear hb))
   go_ret
   exact ⟨er, bh HB.out⟩
/-! ### bits_Width: function 111 -/
def bits_Width.l0 : Nat → Int → Int → Int → Option (Int)
 | 0, _, _, _ => none
 | k + 1, x3, x4, x5 => if x5 > 0 then (if 0 ≤ x5 then (if (shr .u64 x3 x5) > 0 then (bits_Width.l0 k (shr .u64 x3 x5) (wrap64 (x4 + x5)) (wrap64 (Int.tdiv x5 2))) else (bits_Width.l0 k x3 x4 (wrap64 (Int.tdiv x5 2)))) else (none)) else (some (wrap64 (x4 + (wrap64 (x3)))))
def bits_Width.f (k : Nat) (a0 : Int) : Option (Int) := bits_Width.l0 k (IntKind.u64.wrap (a0)) 0 32
theorem bits_Width.mono_l : ∀ k, (∀ y0 y1 y2, LeO (bits_Width.l0 k y0 y1 y2) (bits_Width.l0 (k + 1) y0 y1 y2))
 | 0 => fun _ _ _ r h => by simp [bits_Width.l0] at h
 | k + 1 => by
  have ih0 := bits_Width.mono_l k
  ·intro y0 y1 y2
   unfold bits_Width.l0
   repeat' first | (with_reducible exact ih0 _ _ _) | (with_reducible exact LeO.refl _) | (with_reducible refine LeO.ite ?_ ?_)
theorem bits_Width.mono : ∀ a0 k, LeO (bits_Width.f k a0) (bits_Width.f (k + 1) a0) := by
 intro a0 k
 have ih0 := bits_Width.mono_l k
 unfold bits_Width.f
 repeat' (with_reducible exact ih0 _ _ _)
set_option maxHeartbeats 8000000 in
set_option maxRecDepth 100000 in
theorem bits_Width.calls (k : Nat) (a0 : Int) (r : Int) (w : World) (h : bits_Width.f k a0 = some r) :
  Calls Tryz.prog 111 #[.int .i64 a0] w fun e w' => e = .returned (.int .i64 r) ∧ Drawn0 w w' := by
 have H := h
 clear h
 unfold bits_Width.f at H
 have H' := Aside0.mk H
 clear H
 go_enter Tryz.func111, Tryz.ntmps111
 go_wp2
 go_loopg [3, 4, 5] k (fun kq v3 v4 v5 w' => ∃ (x3_1 : Int) (x4_1 : Int) (x5_1 : Int), v3 = .int .u64 x3_1 ∧ v4 = .int .i64 x4_1 ∧ v5 = .int .i64 x5_1 ∧ Aside0 (bits_Width.l0 kq x3_1 x4_1 x5_1 = some r) ∧ Aside0 (kq ≤ k) ∧ Drawn0 w w')
 case atStart => exact ⟨(IntKind.u64.wrap (a0)), (0), (32), (by rfl), (by rfl), (by rfl), H', ⟨Nat.le_refl _⟩, by repeat (exact Drawn0.refl _)⟩
 case round =>
  clear H'
  obtain ⟨x3_1, x4_1, x5_1, rfl, rfl, rfl, HA, HK1, ⟨m1, rfl⟩⟩ := hrel
  cases gk with
  | zero => exact absurd HA.out (by simp [bits_Width.l0])
  | succ k1 =>
   have H := HA.out
   clear HA
   simp only [bits_Width.l0] at H
   replace H := ifd H
   rcases H with ⟨-, c2b0, H⟩ | ⟨-, c2b0, H⟩
   ·replace H := ifn H
    obtain ⟨c3, -, H⟩ := H
    have c3b0 := eq_true c3
    have c3b1 : decide (0 ≤ x5_1) = true := decide_eq_true c3
    clear c3
    obtain ⟨ji4, hji4⟩ : ∃ j_ : Int, (shr .u64 x3_1 x5_1) = j_ := ⟨_, rfl⟩
    replace H : (if (ji4) > 0 then (bits_Width.l0 k1 ji4 (wrap64 (x4_1 + x5_1)) (wrap64 (Int.tdiv x5_1 2))) else (bits_Width.l0 k1 x3_1 x4_1 (wrap64 (Int.tdiv x5_1 2)))) = some r := by (rw [hji4] at H; exact H)
    have hji4_ : (x3_1 / 2 ^ min x5_1.toNat 64) = ji4 := hji4
    have hji4z : x5_1 ≤ 64 → (x3_1 / 2 ^ x5_1.toNat) = ji4 := shr_small hji4
    replace H := ifd H
    rcases H with ⟨-, c5b0, H⟩ | ⟨-, c5b0, H⟩
    ·have c6b0 := eq_true (of_decide_eq_true (by assumption) : 0 ≤ x5_1)
     have H' := Aside0.mk H
     clear H
     go_wp2
     go_roundg k1
     case measure => have := HK1.out; omega
     case rel => exact ⟨(ji4), (wrap64 (x4_1 + x5_1)), (wrap64 (Int.tdiv x5_1 2)), (by rfl), (by rfl), (by rfl), (by exact H'), ⟨by have := HK1.out; omega⟩, by repeat (first | exact Drawn0.refl _ | apply Drawn0.step)⟩
    ·have H' := Aside0.mk H
     clear H
     go_wp2
     go_roundg k1
     case measure => have := HK1.out; omega
     case rel => exact ⟨(x3_1), (x4_1), (wrap64 (Int.tdiv x5_1 2)), (by rfl), (by rfl), (by rfl), (by exact H'), ⟨by have := HK1.out; omega⟩, by repeat (first | exact Drawn0.refl _ | apply Drawn0.step)⟩
   ·obtain rfl := Option.some.inj H
    go_wp2
    go_ret
    exact ⟨by rfl, by repeat (first | exact Drawn0.refl _ | apply Drawn0.step)⟩
/-! ### bits_Next: function 94 -/
def bits_Next.f (k : Nat) (a0 : Int) (a1 : Int) : Option (Int) := if (mx a1 0) ≥ 64 then (some (-1)) else (if (shl .u64 (shr .u64 (IntKind.u64.wrap (a0)) (mx a1 0)) (mx a1 0)) = 0 then (some (-1)) else ((bits_Width.f k (wrap64 (Go.bits .and .u64 (shl .u64 (shr .u64 (IntKind.u64.wrap (a0)) (mx a1 0)) (mx a1 0)) (IntKind.u64.wrap (-(shl .u64 (shr .u64 (IntKind.u64.wrap (a0)) (mx a1 0)) (mx a1 0))))))).bind fun t234 => (some (wrap64 (t234 - 1)))))
theorem bits_Next.mono : ∀ a0 a1 k, LeO (bits_Next.f k a0 a1) (bits_Next.f (k + 1) a0 a1) := by
 intro a0 a1 k
 unfold bits_Next.f
 repeat' first | (with_reducible exact bits_Width.mono _ _) | (with_reducible exact LeO.refl _) | (with_reducible refine LeO.ite ?_ ?_) | (with_reducible refine LeO.bind ?_ (fun _ => ?_))
set_option maxHeartbeats 8000000 in
set_option maxRecDepth 100000 in
theorem bits_Next.calls (k : Nat) (a0 : Int) (a1 : Int) (r : Int) (w : World) (h : bits_Next.f k a0 a1 = some r) :
  Calls Tryz.prog 94 #[.int .i64 a0, .int .i64 a1] w fun e w' => e = .returned (.int .i64 r) ∧ Below w.heap.size w w' := by
 have HB := Aside0.mk (Below.refl w.heap.size w)
 have H := h
 clear h
 unfold bits_Next.f at H
 obtain ⟨ji3, hji3⟩ : ∃ j_ : Int, (mx a1 0) = j_ := ⟨_, rfl⟩
 replace H : (if (ji3) ≥ 64 then (some (-1)) else (if (shl .u64 (shr .u64 (IntKind.u64.wrap (a0)) (ji3)) (ji3)) = 0 then (some (-1)) else ((bits_Width.f k (wrap64 (Go.bits .and .u64 (shl .u64 (shr .u64 (IntKind.u64.wrap (a0)) (ji3)) (ji3)) (IntKind.u64.wrap (-(shl .u64 (shr .u64 (IntKind.u64.wrap (a0)) (ji3)) (ji3))))))).bind fun t234 => (some (wrap64 (t234 - 1)))))) = some r := by (rw [hji3] at H; exact H)
 ((have hji3l : 0 ≤ ji3 := by (rw [← hji3]; unfold mx; (repeat' split) <;> omega)))
 ((have hji3m : 0 ≤ ji3 := by omega))
 have hji3_ : (if a1 < 0 then 0 else a1) = ji3 := hji3
 replace H := ifd H
 rcases H with ⟨-, c4b0, H⟩ | ⟨-, c4b0, H⟩
 ·obtain rfl := Option.some.inj H
  go_enter Tryz.func94, Tryz.ntmps94
  go_wp2
  go_ret
  exact ⟨by rfl, bh HB.out⟩
 ·obtain ⟨ji5, hji5⟩ : ∃ j_ : Int, (shr .u64 (IntKind.u64.wrap (a0)) (ji3)) = j_ := ⟨_, rfl⟩
  replace H : (if (shl .u64 (ji5) (ji3)) = 0 then (some (-1)) else ((bits_Width.f k (wrap64 (Go.bits .and .u64 (shl .u64 (ji5) (ji3)) (IntKind.u64.wrap (-(shl .u64 (ji5) (ji3))))))).bind fun t234 => (some (wrap64 (t234 - 1))))) = some r := by (rw [hji5] at H; exact H)
  have hji5_ : ((IntKind.u64.wrap (a0)) / 2 ^ min (ji3).toNat 64) = ji5 := hji5
  have hji5z : (ji3) ≤ 64 → ((IntKind.u64.wrap (a0)) / 2 ^ (ji3).toNat) = ji5 := shr_small hji5
  obtain ⟨ji6, hji6⟩ : ∃ j_ : Int, (shl .u64 (ji5) (ji3)) = j_ := ⟨_, rfl⟩
  replace H : (if (ji6) = 0 then (some (-1)) else ((bits_Width.f k (wrap64 (Go.bits .and .u64 (ji6) (IntKind.u64.wrap (-(ji6)))))).bind fun t234 => (some (wrap64 (t234 - 1))))) = some r := by (rw [hji6] at H; exact H)
  have hji6_ : (IntKind.u64.wrap ((ji5) * 2 ^ min (ji3).toNat 64)) = ji6 := hji6
  have hji6z : (ji3) ≤ 64 → (IntKind.u64.wrap ((ji5) * 2 ^ (ji3).toNat)) = ji6 := shl_small hji6
  replace H := ife H
  rcases H with ⟨-, c7b0, c7b1, H⟩ | ⟨c7, c7b0, c7b1, H⟩
  ·obtain rfl := Option.some.inj H
   go_enter Tryz.func94, Tryz.ntmps94
   go_wp2
   go_ret
   exact ⟨by rfl, bh HB.out⟩
  ·replace H := bd H
   obtain ⟨t234, A8, H⟩ := H
   obtain rfl := Option.some.inj H
   go_enter Tryz.func94, Tryz.ntmps94
   go_wp2_with (((with_reducible refine gate_callee (f := 111) rfl ?_); refine gL 23 Tryz.func111 #[.int .i64 (wrap64 (Go.bits .and .u64 (ji6) (IntKind.u64.wrap (-(ji6)))))] ?_; (with_reducible refine (bits_Width.calls k (wrap64 (Go.bits .and .u64 (ji6) (IntKind.u64.wrap (-(ji6))))) t234 _ A8.out).mono ?_); rintro e w' ⟨rfl, ⟨nd, rfl⟩⟩; refine ⟨_, rfl, ?_⟩))
   go_ret
   exact ⟨by rfl, bh HB.out⟩
end Go.Proofs.YtjgmdjieandemaaGreat.Print
end
section
namespace Go.Proofs.YtjgmdjieandemaaGreat.Print
open Go.RowKit Go.Proofs.YtjgmdjieandemaaGreatW.PrintWords Go.Proofs.YtjgmdjieandemaaGreatW.PrintLast Go.Proofs.YtjgmdjieandemaaGreatW.PrintMore
attribute [local go_sem] max2_int min2_int max_two min_two max_three min_three max_four min_four   -- for this text's walks alone
set_option linter.unusedVariables false
set_option linter.unusedSimpArgs false
/-! ### poslist_List_Places_1: function 93 -/
mutual
def poslist_List_Places_1.l0 : Nat → List Int → Int → Int → Option (List (Int))
 | 0, _, _, _ => none
 | k + 1, x18, x19, x20 => if x20 < x19 then (if 0 ≤ x20 then (if x20 < (x18.length : Int) then ((bits_Next.f k (rd x18 x20) 0).bind fun t237 => (poslist_List_Places_1.l1 k x20 (rd x18 x20) t237 x18 x19 x20)) else (none)) else (none)) else (some [])
def poslist_List_Places_1.l1 : Nat → Int → Int → Int → List Int → Int → Int → Option (List (Int))
 | 0, _, _, _, _, _, _ => none
 | k + 1, x14, x15, x16, x18, x19, x20 => if x16 ≥ 0 then (((bits_Next.f k x15 (wrap64 (x16 + 1))).bind fun t238 => (poslist_List_Places_1.l1 k x14 x15 t238 x18 x19 x20)).bind fun lr_ => (some ((wrap64 ((wrap64 (64 * x14)) + x16)) :: lr_))) else (poslist_List_Places_1.l0 k x18 x19 (wrap64 (x20 + 1)))
end
def poslist_List_Places_1.f (k : Nat) (a0_0 : Int) (l0_1 : List (S64)) (l0_2 : List Int) (l0_3 : List Int) : Option (List (Int)) := poslist_List_Places_1.l0 k l0_2 (l0_2.length : Int) 0
theorem poslist_List_Places_1.mono_l : ∀ k, (∀ y0 y1 y2, LeO (poslist_List_Places_1.l0 k y0 y1 y2) (poslist_List_Places_1.l0 (k + 1) y0 y1 y2)) ∧ (∀ y0 y1 y2 y3 y4 y5, LeO (poslist_List_Places_1.l1 k y0 y1 y2 y3 y4 y5) (poslist_List_Places_1.l1 (k + 1) y0 y1 y2 y3 y4 y5))
 | 0 => ⟨fun _ _ _ r h => by simp [poslist_List_Places_1.l0] at h, fun _ _ _ _ _ _ r h => by simp [poslist_List_Places_1.l1] at h⟩
 | k + 1 => by
  obtain ⟨ih0, ih1⟩ := poslist_List_Places_1.mono_l k
  refine ⟨?_, ?_⟩
  ·intro y0 y1 y2
   unfold poslist_List_Places_1.l0
   repeat' first | (with_reducible exact ih1 _ _ _ _ _ _) | (with_reducible exact bits_Next.mono _ _ _) | (with_reducible exact LeO.refl _) | (with_reducible refine LeO.ite ?_ ?_) | (with_reducible refine LeO.bind ?_ (fun _ => ?_))
  ·intro y0 y1 y2 y3 y4 y5
   unfold poslist_List_Places_1.l1
   repeat' first | (with_reducible exact ih0 _ _ _) | (with_reducible exact ih1 _ _ _ _ _ _) | (with_reducible exact bits_Next.mono _ _ _) | (with_reducible exact LeO.refl _) | (with_reducible refine LeO.ite ?_ ?_) | (with_reducible refine LeO.bind ?_ (fun _ => ?_))
theorem poslist_List_Places_1.mono : ∀ a0 a1 a2 a3 k, LeO (poslist_List_Places_1.f k a0 a1 a2 a3) (poslist_List_Places_1.f (k + 1) a0 a1 a2 a3) := by
 intro a0 a1 a2 a3 k
 obtain ⟨ih0, ih1⟩ := poslist_List_Places_1.mono_l k
 unfold poslist_List_Places_1.f
 repeat' (with_reducible exact ih0 _ _ _)
set_option maxHeartbeats 8000000 in
set_option maxRecDepth 100000 in
theorem poslist_List_Places_1.iter (k : Nat) (a0_0 : Int) (A0_1 : Option Addr) (c0_1 : Nat) (l0_1 : List (S64)) (A0_2 : Option Addr) (c0_2 : Nat) (l0_2 : List Int) (A0_3 : Option Addr) (c0_3 : Nat) (l0_3 : List Int) (xs : List (Int)) (w W0 : World) (gb235 : Nat) (hr0_1 : Kd.C k64 w A0_1 l0_1.length l0_1) (hc0_1 : l0_1.length ≤ c0_1) (hr0_2 : Kd.C (Kd.int .i64) w A0_2 l0_2.length l0_2) (hc0_2 : l0_2.length ≤ c0_2) (hr0_3 : Kd.C (Kd.int .i64) w A0_3 l0_3.length l0_3) (hc0_3 : l0_3.length ≤ c0_3) (hB0 : Below w.heap.size w W0) (hg0 : W0.heap[gb235]? = some (.cells #[.int .i64 a0_0, .slice A0_1 l0_1.length c0_1, .slice A0_2 l0_2.length c0_2, .slice A0_3 l0_3.length c0_3] 27 (0, 0))) (he0 : w.heap.size ≤ gb235)  (h : poslist_List_Places_1.f k a0_0 l0_1 l0_2 l0_3 = some xs) :
  XR.Iter Tryz.prog (fun x : Int => #[.int .i64 x]) w (fun k_ => k_ = gb235) 93 #[.pointer (some ⟨gb235, 0, none⟩)] xs W0 := by
 intro n_ l_ J_ Jx_ W_ hWs_ hWf_ hJs_ hJxs_ hJB_ hY_ h0_
 refine callsIn_wide.2 ?_
 have hu27 := Tryz.underlying27
 have HR0_1 := Aside0.mk hr0_1
 have HC0_1 := Aside0.mk hc0_1
 clear hr0_1 hc0_1
 have HR0_2 := Aside0.mk hr0_2
 have HC0_2 := Aside0.mk hc0_2
 clear hr0_2 hc0_2
 have HR0_3 := Aside0.mk hr0_3
 have HC0_3 := Aside0.mk hc0_3
 clear hr0_3 hc0_3
 have H : (poslist_List_Places_1.l0 k l0_2 (l0_2.length : Int) 0) = some xs := h
 clear h
 have H' := Aside0.mk H
 clear H
 have BK235 := Aside0.mk ((hWf_ _ (Array.getElem?_eq_some_iff.1 hg0).1 rfl).trans hg0)
 have GE235 := Aside0.mk he0
 have GW235 := Aside0.mk he0
 have HB := Aside0.mk (XR.b2_refl (hJB_ _ _ _ h0_))
 obtain ⟨G_, HJ_⟩ : ∃ G', Aside0 (J_ G' [] W_) := ⟨_, ⟨h0_⟩⟩
 have HX_ := Aside0.mk (show xs = [] ++ xs from rfl)
 go_enter Tryz.func93, Tryz.ntmps93
 obtain ⟨hcz3_0, hcz3_1, hcz3_2, hcz3_3, hfz3_0, hfz3_1, hfz3_2, hfz3_3⟩ := b4 BK235
 go_wp2
 go_loopg [9] k (fun kq v20 w' => ∃ (G_ : Nat → Prop) (pre_ r : List (Int)) (x20_1 : Int), v20 = .int .i64 x20_1 ∧ Aside0 (poslist_List_Places_1.l0 kq l0_2 (l0_2.length : Int) x20_1 = some r) ∧ Aside0 (xs = pre_ ++ r) ∧ Aside0 (J_ G_ pre_ w') ∧ Aside0 (kq ≤ k) ∧ Aside0 (w'.heap[gb235]? = some (.cells #[.int .i64 a0_0, (.slice A0_1 l0_1.length c0_1), (.slice A0_2 l0_2.length c0_2), (.slice A0_3 l0_3.length c0_3)] 27 (0, 0))) ∧ Aside0 (Below w.heap.size w w'))
 case atStart => exact ⟨XR.grow G_ W_ _, [], xs, (0), (by rfl), H', ⟨HX_.out⟩, ⟨hJs_ _ _ _ _ HJ_.out (XR.B2.two (w := w) (by repeat ((with_reducible exact HB.out))))⟩, ⟨Nat.le_refl _⟩, ⟨bx BK235.out⟩, ⟨XR.B2.one (w1 := W_) (by repeat ((with_reducible exact HB.out)))⟩⟩
 case round =>
  clear H' hcz3_0 hcz3_1 hcz3_2 hcz3_3 hfz3_0 hfz3_1 hfz3_2 hfz3_3
  obtain ⟨G_, pre_, r, x20_1, rfl, HA, HX_, HJ_, HK1, BK235, HB⟩ := hrel
  have HB := Aside0.mk (XR.b2_refl HB.out)
  cases gk with
  | zero => exact absurd HA.out (by simp [poslist_List_Places_1.l0])
  | succ k1 =>
   have H := HA.out
   clear HA
   simp only [poslist_List_Places_1.l0] at H
   replace H := ifd H
   rcases H with ⟨-, c4b0, H⟩ | ⟨-, c4b0, H⟩
   ·replace H := ifn H
    obtain ⟨-, c5b0, H⟩ := H
    replace H := ifn H
    obtain ⟨-, c6b0, H⟩ := H
    replace H := bd H
    obtain ⟨t237, A7, H⟩ := H
    have H' := Aside0.mk H
    clear H
    have p236 : 0 ≤ (x20_1 : Int) := ad
    have q236 : x20_1 < (l0_2.length : Int) := ad
    obtain ⟨ad236, e236, hx236_0⟩ := Kd.at_int HR0_2.out x20_1 p236 q236
    cases e236
    replace hx236_0 := cb HB.out.cell hx236_0
    replace p236 := eq_true p236
    replace q236 := eq_true q236
    go_wp2_with (((with_reducible refine gate_callee (f := 94) rfl ?_); refine gL 15 Tryz.func94 #[.int .i64 (rd l0_2 x20_1), .int .i64 0] ?_; (with_reducible refine (bits_Next.calls k1 (rd l0_2 x20_1) 0 t237 _ A7.out).mono ?_); rintro e w8 ⟨rfl, hb⟩; refine ⟨_, rfl, ?_⟩; replace BK235 := bba BK235 hb; replace HB := Aside0.mk (XR.b2_step (by repeat ((with_reducible exact HB.out))) hb); clear hb))
    go_loopg [5] k1 (fun kq v16 w' => ∃ (G_ : Nat → Prop) (pre_ r : List (Int)) (x16_2 : Int), v16 = .int .i64 x16_2 ∧ Aside0 (poslist_List_Places_1.l1 kq x20_1 (rd l0_2 x20_1) x16_2 l0_2 (l0_2.length : Int) x20_1 = some r) ∧ Aside0 (xs = pre_ ++ r) ∧ Aside0 (J_ G_ pre_ w') ∧ Aside0 (kq ≤ k1) ∧ Aside0 (w'.heap[gb235]? = some (.cells #[.int .i64 a0_0, (.slice A0_1 l0_1.length c0_1), (.slice (some ad236) l0_2.length c0_2), (.slice A0_3 l0_3.length c0_3)] 27 (0, 0))) ∧ Aside0 (Below w.heap.size w w'))
    case atStart => exact ⟨XR.grow G_ wr _, pre_, r, (t237), (by rfl), H', ⟨HX_.out⟩, ⟨hJs_ _ _ _ _ HJ_.out (XR.B2.two (w := w) (by repeat ((with_reducible exact HB.out))))⟩, ⟨Nat.le_refl _⟩, ⟨bx BK235.out⟩, ⟨XR.B2.one (w1 := wr) (by repeat ((with_reducible exact HB.out)))⟩⟩
    case round =>
     clear H' c4b0 c5b0 c6b0 hx236_0 p236 q236
     obtain ⟨G_, pre_, r, x16_2, rfl, HA, HX_, HJ_, HK2, BK235, HB⟩ := hrel
     have HB := Aside0.mk (XR.b2_refl HB.out)
     cases gk with
     | zero => exact absurd HA.out (by simp [poslist_List_Places_1.l1])
     | succ k2 =>
      have H := HA.out
      clear HA
      simp only [poslist_List_Places_1.l1] at H
      replace H := ifd H
      rcases H with ⟨-, c9b0, H⟩ | ⟨-, c9b0, H⟩
      ·replace H := Option.bind_eq_some_iff.mp H
       obtain ⟨r2_, H, hr2_⟩ := H
       replace hr2_ : (wrap64 ((wrap64 (64 * x20_1)) + x16_2)) :: r2_ = r := Option.some.inj hr2_
       have HR2_ := Aside0.mk hr2_
       clear hr2_
       replace H := bd H
       obtain ⟨t238, A11, H⟩ := H
       have H' := Aside0.mk H
       clear H
       go_upto_region 6 with (go_in)
       refine (wpIn_wide (n := n_)).1 ?_
       obtain ⟨fn_, tm_, as_, bd_, hy_, hR_⟩ := hY_ pre_ (wrap64 ((wrap64 (64 * x20_1)) + x16_2)) r2_ _ _ (by rw [HX_.out, ← HR2_.out]) (hJs_ _ _ _ _ HJ_.out (XR.B2.two (w := w) HB.out))
       gi_wp2
       refine ⟨fun hd_ => (by cases hd_), hR_.mono ?_⟩
       rintro e_ w12 (⟨rfl, hJ3_, hsz_, hkp_⟩ | ⟨rfl, hx3_⟩)
       rotate_left
       ·gi_wp2
        go_wp2
        refine bodyPost_ret (results_none rfl _ _ _) rfl ?_
        exact ⟨⟨_, rfl⟩, .inr ⟨pre_ ++ [(wrap64 ((wrap64 (64 * x20_1)) + x16_2))], ⟨r2_, by rw [HX_.out, ← HR2_.out]; simp⟩, hx3_⟩⟩
       have lt235_ := blk_lt BK235.out
       replace BK235 := Aside0.mk ((hkp_ _ lt235_ (.inl rfl)).trans BK235.out)
       replace HB := Aside0.mk (XR.b2_refl (hJB_ _ _ _ hJ3_))
       obtain ⟨G_, HJ_⟩ : ∃ G', Aside0 (J_ G' (pre_ ++ [(wrap64 ((wrap64 (64 * x20_1)) + x16_2))]) w12) := ⟨_, ⟨hJ3_⟩⟩
       have HX_ := Aside0.mk (show xs = (pre_ ++ [(wrap64 ((wrap64 (64 * x20_1)) + x16_2))]) ++ r2_ by rw [HX_.out, ← HR2_.out]; simp)
       clear hJ3_ hkp_
       gi_wp2
       go_wp2_with (((with_reducible refine gate_callee (f := 94) rfl ?_); refine gL 21 Tryz.func94 #[.int .i64 (rd l0_2 x20_1), .int .i64 (wrap64 (x16_2 + 1))] ?_; (with_reducible refine (bits_Next.calls k2 (rd l0_2 x20_1) (wrap64 (x16_2 + 1)) t238 _ A11.out).mono ?_); rintro e w13 ⟨rfl, hb⟩; refine ⟨_, rfl, ?_⟩; replace BK235 := bba BK235 hb; replace HB := Aside0.mk (XR.b2_step (by repeat ((with_reducible exact HB.out))) hb); clear hb))
       go_roundg k2
       case measure => have := HK1.out; have := HK2.out; omega
       case rel => exact ⟨XR.grow G_ w12 _, (pre_ ++ [(wrap64 ((wrap64 (64 * x20_1)) + x16_2))]), r2_, (t238), (by rfl), H', ⟨HX_.out⟩, ⟨hJs_ _ _ _ _ HJ_.out (XR.B2.two (w := w) (by repeat ((with_reducible exact HB.out))))⟩, ⟨by have := HK1.out; have := HK2.out; omega⟩, ⟨bx BK235.out⟩, ⟨XR.B2.one (w1 := w12) (by repeat ((with_reducible exact HB.out)))⟩⟩
      ·have H' := Aside0.mk H
       clear H
       go_wp2
       go_roundg k2
       case measure => have := HK1.out; have := HK2.out; omega
       case rel => exact ⟨XR.grow G_ wr _, pre_, r, (wrap64 (x20_1 + 1)), (by rfl), H', ⟨HX_.out⟩, ⟨hJs_ _ _ _ _ HJ_.out (XR.B2.two (w := w) (by repeat ((with_reducible exact HB.out))))⟩, ⟨by have := HK1.out; have := HK2.out; omega⟩, ⟨bx BK235.out⟩, ⟨XR.B2.one (w1 := wr) (by repeat ((with_reducible exact HB.out)))⟩⟩
   ·obtain rfl : [] = r := Option.some.inj H
    go_wp2
    go_end0
    exact ⟨⟨_, rfl⟩, .inl ⟨_, by have hx_ := HX_.out; rw [List.append_nil] at hx_; rw [hx_]; exact hJs_ _ _ _ _ HJ_.out (XR.B2.two (w := w) (by repeat ((with_reducible exact HB.out))))⟩⟩
/-! ### slices_Values_int_int_1: function 112 -/
def slices_Values_int_int_1.l0 : Nat → List Int → Int → Int → Option (List (Int))
 | 0, _, _, _ => none
 | k + 1, x16, x17, x18 => if x18 < x17 then (if 0 ≤ x18 then (if x18 < (x16.length : Int) then ((slices_Values_int_int_1.l0 k x16 x17 (wrap64 (x18 + 1))).bind fun lr_ => (some ((rd x16 x18) :: lr_))) else (none)) else (none)) else (some [])
def slices_Values_int_int_1.f (k : Nat) (l0 : List Int) : Option (List (Int)) := slices_Values_int_int_1.l0 k l0 (l0.length : Int) 0
theorem slices_Values_int_int_1.l0_succ (k) (a0) (a1) (a2) : type_of% (@slices_Values_int_int_1.l0.eq_2 a0 a1 a2 k) := slices_Values_int_int_1.l0.eq_2 a0 a1 a2 k
theorem slices_Values_int_int_1.mono_l : ∀ k, (∀ y0 y1 y2, LeO (slices_Values_int_int_1.l0 k y0 y1 y2) (slices_Values_int_int_1.l0 (k + 1) y0 y1 y2))
 | 0 => fun _ _ _ r h => by simp [slices_Values_int_int_1.l0] at h
 | k + 1 => by
  have ih0 := slices_Values_int_int_1.mono_l k
  ·intro y0 y1 y2
   unfold slices_Values_int_int_1.l0
   repeat' first | (with_reducible exact ih0 _ _ _) | (with_reducible exact LeO.refl _) | (with_reducible refine LeO.ite ?_ ?_) | (with_reducible refine LeO.bind ?_ (fun _ => ?_))
theorem slices_Values_int_int_1.mono : ∀ a0 k, LeO (slices_Values_int_int_1.f k a0) (slices_Values_int_int_1.f (k + 1) a0) := by
 intro a0 k
 have ih0 := slices_Values_int_int_1.mono_l k
 unfold slices_Values_int_int_1.f
 repeat' (with_reducible exact ih0 _ _ _)
set_option maxHeartbeats 8000000 in
set_option maxRecDepth 100000 in
theorem slices_Values_int_int_1.iter (k : Nat) (A0 : Option Addr) (c0 : Nat) (l0 : List Int) (xs : List (Int)) (w W0 : World) (gb239 : Nat) (hr0 : Kd.C (Kd.int .i64) w A0 l0.length l0) (hc0 : l0.length ≤ c0) (hB0 : Below w.heap.size w W0) (hg0 : W0.heap[gb239]? = some (.cells #[.slice A0 l0.length c0] 25 (0, 0))) (he0 : w.heap.size ≤ gb239)  (h : slices_Values_int_int_1.f k l0 = some xs) :
  XR.Iter Tryz.prog (fun x : Int => #[.int .i64 x]) w (fun k_ => k_ = gb239) 112 #[.pointer (some ⟨gb239, 0, none⟩)] xs W0 := by
 intro n_ l_ J_ Jx_ W_ hWs_ hWf_ hJs_ hJxs_ hJB_ hY_ h0_
 refine callsIn_wide.2 ?_
 have HR0 := Aside0.mk hr0
 have HC0 := Aside0.mk hc0
 clear hr0 hc0
 have H : (slices_Values_int_int_1.l0 k l0 (l0.length : Int) 0) = some xs := h
 clear h
 have H' := Aside0.mk H
 clear H
 have BK239 := Aside0.mk ((hWf_ _ (Array.getElem?_eq_some_iff.1 hg0).1 rfl).trans hg0)
 have GE239 := Aside0.mk he0
 have GW239 := Aside0.mk he0
 have HB := Aside0.mk (XR.b2_refl (hJB_ _ _ _ h0_))
 obtain ⟨G_, HJ_⟩ : ∃ G', Aside0 (J_ G' [] W_) := ⟨_, ⟨h0_⟩⟩
 have HX_ := Aside0.mk (show xs = [] ++ xs from rfl)
 go_enter Tryz.func112, Tryz.ntmps112
 obtain ⟨hcz3_0, hfz3_0⟩ := b1 BK239
 go_wp2
 go_loopg [7] k (fun kq v18 w' => ∃ (G_ : Nat → Prop) (pre_ r : List (Int)) (x18_1 : Int), v18 = .int .i64 x18_1 ∧ Aside0 (slices_Values_int_int_1.l0 kq l0 (l0.length : Int) x18_1 = some r) ∧ Aside0 (xs = pre_ ++ r) ∧ Aside0 (J_ G_ pre_ w') ∧ Aside0 (kq ≤ k) ∧ Aside0 (w'.heap[gb239]? = some (.cells #[(.slice A0 l0.length c0)] 25 (0, 0))) ∧ Aside0 (Below w.heap.size w w'))
 case atStart => exact ⟨XR.grow G_ W_ _, [], xs, (0), (by rfl), H', ⟨HX_.out⟩, ⟨hJs_ _ _ _ _ HJ_.out (XR.B2.two (w := w) (by repeat ((with_reducible exact HB.out))))⟩, ⟨Nat.le_refl _⟩, ⟨bx BK239.out⟩, ⟨XR.B2.one (w1 := W_) (by repeat ((with_reducible exact HB.out)))⟩⟩
 case round =>
  clear H' hcz3_0 hfz3_0
  obtain ⟨G_, pre_, r, x18_1, rfl, HA, HX_, HJ_, HK1, BK239, HB⟩ := hrel
  have HB := Aside0.mk (XR.b2_refl HB.out)
  cases gk with
  | zero => exact absurd HA.out (by simp [slices_Values_int_int_1.l0])
  | succ k1 =>
   have H := HA.out
   clear HA
   simp only [slices_Values_int_int_1.l0] at H
   replace H := ifd H
   rcases H with ⟨-, c4b0, H⟩ | ⟨-, c4b0, H⟩
   ·replace H := ifn H
    obtain ⟨-, c5b0, H⟩ := H
    replace H := ifn H
    obtain ⟨-, c6b0, H⟩ := H
    replace H := Option.bind_eq_some_iff.mp H
    obtain ⟨r2_, H, hr2_⟩ := H
    replace hr2_ : (rd l0 x18_1) :: r2_ = r := Option.some.inj hr2_
    have HR2_ := Aside0.mk hr2_
    clear hr2_
    have H' := Aside0.mk H
    clear H
    have p240 : 0 ≤ (x18_1 : Int) := ad
    have q240 : x18_1 < (l0.length : Int) := ad
    obtain ⟨ad240, e240, hx240_0⟩ := Kd.at_int HR0.out x18_1 p240 q240
    cases e240
    replace hx240_0 := cb HB.out.cell hx240_0
    replace p240 := eq_true p240
    replace q240 := eq_true q240
    go_upto_region 3 with (go_in)
    refine (wpIn_wide (n := n_)).1 ?_
    obtain ⟨fn_, tm_, as_, bd_, hy_, hR_⟩ := hY_ pre_ (rd l0 x18_1) r2_ _ _ (by rw [HX_.out, ← HR2_.out]) (hJs_ _ _ _ _ HJ_.out (XR.B2.two (w := w) HB.out))
    gi_wp2
    refine ⟨fun hd_ => (by cases hd_), hR_.mono ?_⟩
    rintro e_ w8 (⟨rfl, hJ3_, hsz_, hkp_⟩ | ⟨rfl, hx3_⟩)
    rotate_left
    ·gi_wp2
     go_wp2
     refine bodyPost_ret (results_none rfl _ _ _) rfl ?_
     exact ⟨⟨_, rfl⟩, .inr ⟨pre_ ++ [(rd l0 x18_1)], ⟨r2_, by rw [HX_.out, ← HR2_.out]; simp⟩, hx3_⟩⟩
    have lt239_ := blk_lt BK239.out
    replace BK239 := Aside0.mk ((hkp_ _ lt239_ (.inl rfl)).trans BK239.out)
    replace HB := Aside0.mk (XR.b2_refl (hJB_ _ _ _ hJ3_))
    obtain ⟨G_, HJ_⟩ : ∃ G', Aside0 (J_ G' (pre_ ++ [(rd l0 x18_1)]) w8) := ⟨_, ⟨hJ3_⟩⟩
    have HX_ := Aside0.mk (show xs = (pre_ ++ [(rd l0 x18_1)]) ++ r2_ by rw [HX_.out, ← HR2_.out]; simp)
    clear hJ3_ hkp_
    gi_wp2
    go_wp2_with (go_in)
    go_roundg k1
    case measure => have := HK1.out; omega
    case rel => exact ⟨XR.grow G_ w8 _, (pre_ ++ [(rd l0 x18_1)]), r2_, (wrap64 (x18_1 + 1)), (by rfl), H', ⟨HX_.out⟩, ⟨hJs_ _ _ _ _ HJ_.out (XR.B2.two (w := w) (by repeat ((with_reducible exact HB.out))))⟩, ⟨by have := HK1.out; omega⟩, ⟨bx BK239.out⟩, ⟨XR.B2.one (w1 := w8) (by repeat ((with_reducible exact HB.out)))⟩⟩
   ·obtain rfl : [] = r := Option.some.inj H
    go_wp2
    go_end0
    exact ⟨⟨_, rfl⟩, .inl ⟨_, by have hx_ := HX_.out; rw [List.append_nil] at hx_; rw [hx_]; exact hJs_ _ _ _ _ HJ_.out (XR.B2.two (w := w) (by repeat ((with_reducible exact HB.out))))⟩⟩
/-! ### slices_Values_int_int: function 95 (a contract of the session's own) -/
set_option maxHeartbeats 8000000 in
set_option maxRecDepth 100000 in
theorem slices_Values_int_int.calls (k : Nat) (A0 : Option Addr) (c0 : Nat) (l0 : List Int) (xs : List Int) (w0 w : World) (hb0 : Below w0.heap.size w0 w) (hr0 : Kd.C (Kd.int .i64) w0 A0 l0.length l0) (hc0 : l0.length ≤ c0) (h : slices_Values_int_int_1.f k l0 = some xs) :
    Calls Tryz.prog 95 #[.slice A0 l0.length c0] w fun e w' => ∃ gb : Nat, e = .returned (.func (.func 112) #[] #[.pointer (some ⟨gb, 0, none⟩)]) ∧ w.heap.size ≤ gb ∧ gb < w'.heap.size ∧ XR.Iter Tryz.prog (fun x : Int => #[.int .i64 x]) w0 (fun k_ => k_ = gb) 112 #[.pointer (some ⟨gb, 0, none⟩)] xs w' ∧ Below w.heap.size w w' := by
 have hmf : ∀ (fn : Fn) (first cap : Array Value) (w : World), (Instr.makeFunc fn first cap).run Tryz.prog w = .ok (.func fn first cap) w := fun _ _ _ _ => rfl
 have HB := Aside0.mk (Below.refl w.heap.size w)
 have H0 := Aside0.mk (And.intro hb0 (And.intro hr0 (And.intro hc0 h)))
 clear hb0 hr0 hc0 h
 go_enter Tryz.func95, Tryz.ntmps95
 go_wp2_with (((with_reducible refine gate_dst (N := 1) rfl ?_); refine box_event ?hg (N := 1) ?hd (cs := #[.slice A0 l0.length c0]) (t := 25) ?hr ?_; (case hd => rfl); (case hg => rfl); (case hr => (go_simp; done)); intro g1 hg w2 hbox hb; have n0_ := Aside0.mk (below_step HB.out hb); have n1_ := Aside0.mk (hbox); have n2_ := Aside0.mk ((by rw [hg]; exact below_size HB.out : w.heap.size ≤ g1)); clear HB; have HB := n0_; have BK1 := n1_; have GE1 := n2_; clear n0_ n1_ n2_ hb hbox hg))
 go_ret
 obtain ⟨hb0, hr0, hc0, h⟩ := H0.out
 exact ⟨_, rfl, GE1.out, blk_lt BK1.out, slices_Values_int_int_1.iter k A0 c0 l0 xs w0 _ g1 hr0 hc0 (below_step hb0 HB.out) BK1.out (by have := hb0.size; have := GE1.out; omega) h, HB.out⟩
/-! ### poslist_List_Places_2: function 96 -/
mutual
def poslist_List_Places_2.l0 : Nat → List (S64) → Int → Int → Option (List (Int))
 | 0, _, _, _ => none
 | k + 1, x18, x19, x20 => if x20 < x19 then (if 0 ≤ x20 then (if x20 < (x18.length : Int) then (poslist_List_Places_2.l1 k ((rd_T64 x18 x20).f0) x18 x19 x20 ((rd_T64 x18 x20).f0) ((rd_T64 x18 x20).f1)) else (none)) else (none)) else (some [])
def poslist_List_Places_2.l1 : Nat → Int → List (S64) → Int → Int → Int → Int → Option (List (Int))
 | 0, _, _, _, _, _, _ => none
 | k + 1, x16, x18, x19, x20, x244000, x244001 => if x16 < x244001 then ((poslist_List_Places_2.l1 k (wrap64 (x16 + 1)) x18 x19 x20 x244000 x244001).bind fun lr_ => (some (x16 :: lr_))) else (poslist_List_Places_2.l0 k x18 x19 (wrap64 (x20 + 1)))
end
def poslist_List_Places_2.f (k : Nat) (a0_0 : Int) (l0_1 : List (S64)) (l0_2 : List Int) (l0_3 : List Int) : Option (List (Int)) := poslist_List_Places_2.l0 k l0_1 (l0_1.length : Int) 0
theorem poslist_List_Places_2.l0_succ (k) (a0) (a1) (a2) : type_of% (@poslist_List_Places_2.l0.eq_2 a0 a1 a2 k) := poslist_List_Places_2.l0.eq_2 a0 a1 a2 k
theorem poslist_List_Places_2.l1_succ (k) (a0) (a1) (a2) (a3) (a4) (a5) : type_of% (@poslist_List_Places_2.l1.eq_2 a0 a1 a2 a3 a4 a5 k) := poslist_List_Places_2.l1.eq_2 a0 a1 a2 a3 a4 a5 k
theorem poslist_List_Places_2.mono_l : ∀ k, (∀ y0 y1 y2, LeO (poslist_List_Places_2.l0 k y0 y1 y2) (poslist_List_Places_2.l0 (k + 1) y0 y1 y2)) ∧ (∀ y0 y1 y2 y3 y4 y5, LeO (poslist_List_Places_2.l1 k y0 y1 y2 y3 y4 y5) (poslist_List_Places_2.l1 (k + 1) y0 y1 y2 y3 y4 y5))
 | 0 => ⟨fun _ _ _ r h => by simp [poslist_List_Places_2.l0] at h, fun _ _ _ _ _ _ r h => by simp [poslist_List_Places_2.l1] at h⟩
 | k + 1 => by
  obtain ⟨ih0, ih1⟩ := poslist_List_Places_2.mono_l k
  refine ⟨?_, ?_⟩
  ·intro y0 y1 y2
   unfold poslist_List_Places_2.l0
   repeat' first | (with_reducible exact ih1 _ _ _ _ _ _) | (with_reducible exact LeO.refl _) | (with_reducible refine LeO.ite ?_ ?_)
  ·intro y0 y1 y2 y3 y4 y5
   unfold poslist_List_Places_2.l1
   repeat' first | (with_reducible exact ih0 _ _ _) | (with_reducible exact ih1 _ _ _ _ _ _) | (with_reducible exact LeO.refl _) | (with_reducible refine LeO.ite ?_ ?_) | (with_reducible refine LeO.bind ?_ (fun _ => ?_))
theorem poslist_List_Places_2.mono : ∀ a0 a1 a2 a3 k, LeO (poslist_List_Places_2.f k a0 a1 a2 a3) (poslist_List_Places_2.f (k + 1) a0 a1 a2 a3) := by
 intro a0 a1 a2 a3 k
 obtain ⟨ih0, ih1⟩ := poslist_List_Places_2.mono_l k
 unfold poslist_List_Places_2.f
 repeat' (with_reducible exact ih0 _ _ _)
set_option maxHeartbeats 8000000 in
set_option maxRecDepth 100000 in
theorem poslist_List_Places_2.iter (k : Nat) (a0_0 : Int) (A0_1 : Option Addr) (c0_1 : Nat) (l0_1 : List (S64)) (A0_2 : Option Addr) (c0_2 : Nat) (l0_2 : List Int) (A0_3 : Option Addr) (c0_3 : Nat) (l0_3 : List Int) (xs : List (Int)) (w W0 : World) (gb241 : Nat) (hr0_1 : Kd.C k64 w A0_1 l0_1.length l0_1) (hc0_1 : l0_1.length ≤ c0_1) (hr0_2 : Kd.C (Kd.int .i64) w A0_2 l0_2.length l0_2) (hc0_2 : l0_2.length ≤ c0_2) (hr0_3 : Kd.C (Kd.int .i64) w A0_3 l0_3.length l0_3) (hc0_3 : l0_3.length ≤ c0_3) (hB0 : Below w.heap.size w W0) (hg0 : W0.heap[gb241]? = some (.cells #[.int .i64 a0_0, .slice A0_1 l0_1.length c0_1, .slice A0_2 l0_2.length c0_2, .slice A0_3 l0_3.length c0_3] 27 (0, 0))) (he0 : w.heap.size ≤ gb241)  (h : poslist_List_Places_2.f k a0_0 l0_1 l0_2 l0_3 = some xs) :
  XR.Iter Tryz.prog (fun x : Int => #[.int .i64 x]) w (fun k_ => k_ = gb241) 96 #[.pointer (some ⟨gb241, 0, none⟩)] xs W0 := by
 intro n_ l_ J_ Jx_ W_ hWs_ hWf_ hJs_ hJxs_ hJB_ hY_ h0_
 refine callsIn_wide.2 ?_
 have hu27 := Tryz.underlying27
 have hu64 := Tryz.underlying64
 have HR0_1 := Aside0.mk hr0_1
 have HC0_1 := Aside0.mk hc0_1
 clear hr0_1 hc0_1
 have HR0_2 := Aside0.mk hr0_2
 have HC0_2 := Aside0.mk hc0_2
 clear hr0_2 hc0_2
 have HR0_3 := Aside0.mk hr0_3
 have HC0_3 := Aside0.mk hc0_3
 clear hr0_3 hc0_3
 have H : (poslist_List_Places_2.l0 k l0_1 (l0_1.length : Int) 0) = some xs := h
 clear h
 have H' := Aside0.mk H
 clear H
 have BK241 := Aside0.mk ((hWf_ _ (Array.getElem?_eq_some_iff.1 hg0).1 rfl).trans hg0)
 have GE241 := Aside0.mk he0
 have GW241 := Aside0.mk he0
 have HB := Aside0.mk (XR.b2_refl (hJB_ _ _ _ h0_))
 obtain ⟨G_, HJ_⟩ : ∃ G', Aside0 (J_ G' [] W_) := ⟨_, ⟨h0_⟩⟩
 have HX_ := Aside0.mk (show xs = [] ++ xs from rfl)
 go_enter Tryz.func96, Tryz.ntmps96
 obtain ⟨hcz3_0, hcz3_1, hcz3_2, hcz3_3, hfz3_0, hfz3_1, hfz3_2, hfz3_3⟩ := b4 BK241
 go_wp2
 go_loopg [9] k (fun kq v20 w' => ∃ (G_ : Nat → Prop) (pre_ r : List (Int)) (x20_1 : Int), v20 = .int .i64 x20_1 ∧ Aside0 (poslist_List_Places_2.l0 kq l0_1 (l0_1.length : Int) x20_1 = some r) ∧ Aside0 (xs = pre_ ++ r) ∧ Aside0 (J_ G_ pre_ w') ∧ Aside0 (kq ≤ k) ∧ Aside0 (w'.heap[gb241]? = some (.cells #[.int .i64 a0_0, (.slice A0_1 l0_1.length c0_1), (.slice A0_2 l0_2.length c0_2), (.slice A0_3 l0_3.length c0_3)] 27 (0, 0))) ∧ Aside0 (Below w.heap.size w w'))
 case atStart => exact ⟨XR.grow G_ W_ _, [], xs, (0), (by rfl), H', ⟨HX_.out⟩, ⟨hJs_ _ _ _ _ HJ_.out (XR.B2.two (w := w) (by repeat ((with_reducible exact HB.out))))⟩, ⟨Nat.le_refl _⟩, ⟨bx BK241.out⟩, ⟨XR.B2.one (w1 := W_) (by repeat ((with_reducible exact HB.out)))⟩⟩
 case round =>
  clear H' hcz3_0 hcz3_1 hcz3_2 hcz3_3 hfz3_0 hfz3_1 hfz3_2 hfz3_3
  obtain ⟨G_, pre_, r, x20_1, rfl, HA, HX_, HJ_, HK1, BK241, HB⟩ := hrel
  have HB := Aside0.mk (XR.b2_refl HB.out)
  cases gk with
  | zero => exact absurd HA.out (by simp [poslist_List_Places_2.l0])
  | succ k1 =>
   have H := HA.out
   clear HA
   simp only [poslist_List_Places_2.l0] at H
   replace H := ifd H
   rcases H with ⟨-, c4b0, H⟩ | ⟨-, c4b0, H⟩
   ·replace H := ifn H
    obtain ⟨-, c5b0, H⟩ := H
    replace H := ifn H
    obtain ⟨-, c6b0, H⟩ := H
    have H' := Aside0.mk H
    clear H
    have p242 : 0 ≤ (x20_1 : Int) := ad
    have q242 : x20_1 < (l0_1.length : Int) := ad
    obtain ⟨ad242, e242, hx242_0, hx242_1⟩ := at_T64 HR0_1.out x20_1 p242 q242
    cases e242
    replace hx242_0 := cb HB.out.cell hx242_0
    replace hx242_1 := cb HB.out.cell hx242_1
    replace p242 := eq_true p242
    replace q242 := eq_true q242
    go_wp2_with (((with_reducible refine gate_dst (N := 4) rfl ?_); refine box_event ?hg (N := 4) ?hd (cs := #[.int .i64 0, .int .i64 0]) (t := 64) ?hr ?_; (case hd => rfl); (case hg => rfl); (case hr => (go_simp; done)); intro gb243 hg w7 hbox hb; have BK243 := Aside0.mk (hbox); have GW243 := Aside0.mk ((by rw [hg]; exact (XR.b2_size (by repeat ((with_reducible exact HB.out)))) : w.heap.size ≤ gb243 ∧ wr.heap.size ≤ gb243)); have GE243 := Aside0.mk ((by rw [hg]; exact (XR.b2_size (by repeat ((with_reducible exact HB.out)))) : w.heap.size ≤ gb243 ∧ wr.heap.size ≤ gb243)); replace HB := Aside0.mk (XR.b2_step (by repeat ((with_reducible exact HB.out))) hb); obtain ⟨NB241_243, NB243_241⟩ := bnm BK241 hg; replace BK241 := bba BK241 hb; clear hb hbox hg; have hnb8 := NB243_241.out; have hnc8 := NB241_243.out; obtain ⟨hcz9_0, hcz9_1, hfz9_0, hfz9_1⟩ := b2 BK243))
    go_loopg [5] k1 (fun kq v16 w' => ∃ (G_ : Nat → Prop) (pre_ r : List (Int)) (x16_2 : Int), v16 = .int .i64 x16_2 ∧ Aside0 (poslist_List_Places_2.l1 kq x16_2 l0_1 (l0_1.length : Int) x20_1 ((rd_T64 l0_1 x20_1).f0) ((rd_T64 l0_1 x20_1).f1) = some r) ∧ Aside0 (xs = pre_ ++ r) ∧ Aside0 (J_ G_ pre_ w') ∧ Aside0 (kq ≤ k1) ∧ Aside0 (w'.heap[gb241]? = some (.cells #[.int .i64 a0_0, (.slice (some ad242) l0_1.length c0_1), (.slice A0_2 l0_2.length c0_2), (.slice A0_3 l0_3.length c0_3)] 27 (0, 0))) ∧ Aside0 (w'.heap[gb243]? = some (.cells #[.int .i64 ((rd_T64 l0_1 x20_1).f0), .int .i64 ((rd_T64 l0_1 x20_1).f1)] 64 (0, 0))) ∧ Aside0 (G_ gb243) ∧ Aside0 (Below w.heap.size w w'))
    case atStart => exact ⟨XR.grow G_ wr _, pre_, r, ((rd_T64 l0_1 x20_1).f0), (by rfl), H', ⟨HX_.out⟩, ⟨hJs_ _ _ _ _ HJ_.out (XR.B2.two (w := w) (by repeat ((with_reducible first | exact HB.out | refine XR.b2_set ?_ GE243.out))))⟩, ⟨Nat.le_refl _⟩, ⟨bx BK241.out⟩, ⟨by refine blk_put (cs := #[.int .i64 ((rd_T64 l0_1 x20_1).f0), .int .i64 0]) ?_ 1 _ rfl; refine blk_put (cs := #[.int .i64 0, .int .i64 0]) ?_ 0 _ rfl; exact BK243.out⟩, ⟨.inr ⟨GE243.out.2, blk_lt (g := gb243) (o := .cells #[.int .i64 ((rd_T64 l0_1 x20_1).f0), .int .i64 ((rd_T64 l0_1 x20_1).f1)] 64 (0, 0)) (by refine blk_put (cs := #[.int .i64 ((rd_T64 l0_1 x20_1).f0), .int .i64 0]) ?_ 1 _ rfl; refine blk_put (cs := #[.int .i64 0, .int .i64 0]) ?_ 0 _ rfl; exact BK243.out)⟩⟩, ⟨XR.B2.one (w1 := wr) (by repeat ((with_reducible first | exact HB.out | refine XR.b2_set ?_ GE243.out)))⟩⟩
    case round =>
     clear H' c4b0 c5b0 c6b0 hcz9_0 hcz9_1 hfz9_0 hfz9_1 hx242_0 hx242_1 p242 q242
     obtain ⟨G_, pre_, r, x16_2, rfl, HA, HX_, HJ_, HK2, BK241, BK243, HG243, HB⟩ := hrel
     have HB := Aside0.mk (XR.b2_refl HB.out)
     cases gk with
     | zero => exact absurd HA.out (by simp [poslist_List_Places_2.l1])
     | succ k2 =>
      have H := HA.out
      clear HA
      simp only [poslist_List_Places_2.l1] at H
      replace H := ifd H
      rcases H with ⟨-, c10b0, H⟩ | ⟨-, c10b0, H⟩
      ·replace H := Option.bind_eq_some_iff.mp H
       obtain ⟨r2_, H, hr2_⟩ := H
       replace hr2_ : x16_2 :: r2_ = r := Option.some.inj hr2_
       have HR2_ := Aside0.mk hr2_
       clear hr2_
       have H' := Aside0.mk H
       clear H
       have hnb12 := NB243_241.out
       have hnc12 := NB241_243.out
       obtain ⟨hcz13_0, hcz13_1, hfz13_0, hfz13_1⟩ := b2 BK243
       go_upto_region 6 with (go_in)
       refine (wpIn_wide (n := n_)).1 ?_
       obtain ⟨fn_, tm_, as_, bd_, hy_, hR_⟩ := hY_ pre_ x16_2 r2_ _ _ (by rw [HX_.out, ← HR2_.out]) (hJs_ _ _ _ _ HJ_.out (XR.B2.two (w := w) HB.out))
       gi_wp2
       refine ⟨fun hd_ => (by cases hd_), hR_.mono ?_⟩
       rintro e_ w14 (⟨rfl, hJ3_, hsz_, hkp_⟩ | ⟨rfl, hx3_⟩)
       rotate_left
       ·gi_wp2
        go_wp2
        refine bodyPost_ret (results_none rfl _ _ _) rfl ?_
        exact ⟨⟨_, rfl⟩, .inr ⟨pre_ ++ [x16_2], ⟨r2_, by rw [HX_.out, ← HR2_.out]; simp⟩, hx3_⟩⟩
       have lt243_ := blk_lt BK243.out
       have lt241_ := blk_lt BK241.out
       replace BK241 := Aside0.mk ((hkp_ _ lt241_ (.inl rfl)).trans BK241.out)
       replace BK243 := Aside0.mk ((hkp_ _ lt243_ (.inr (.inl HG243.out))).trans BK243.out)
       replace HB := Aside0.mk (XR.b2_refl (hJB_ _ _ _ hJ3_))
       obtain ⟨G_, HJ_, HG243⟩ : ∃ G', Aside0 (J_ G' (pre_ ++ [x16_2]) w14) ∧ Aside0 (G' gb243) := ⟨_, ⟨hJ3_⟩, ⟨.inl HG243.out⟩⟩
       have HX_ := Aside0.mk (show xs = (pre_ ++ [x16_2]) ++ r2_ by rw [HX_.out, ← HR2_.out]; simp)
       clear hJ3_ hkp_
       gi_wp2
       go_wp2_with (go_in)
       go_roundg k2
       case measure => have := HK1.out; have := HK2.out; omega
       case rel => exact ⟨XR.grow G_ w14 _, (pre_ ++ [x16_2]), r2_, (wrap64 (x16_2 + 1)), (by rfl), H', ⟨HX_.out⟩, ⟨hJs_ _ _ _ _ HJ_.out (XR.B2.two (w := w) (by repeat ((with_reducible exact HB.out))))⟩, ⟨by have := HK1.out; have := HK2.out; omega⟩, ⟨bx BK241.out⟩, ⟨bx BK243.out⟩, ⟨.inl HG243.out⟩, ⟨XR.B2.one (w1 := w14) (by repeat ((with_reducible exact HB.out)))⟩⟩
      ·have H' := Aside0.mk H
       clear H
       have hnb15 := NB243_241.out
       have hnc15 := NB241_243.out
       obtain ⟨hcz16_0, hcz16_1, hfz16_0, hfz16_1⟩ := b2 BK243
       go_wp2
       go_roundg k2
       case measure => have := HK1.out; have := HK2.out; omega
       case rel => exact ⟨XR.grow G_ wr _, pre_, r, (wrap64 (x20_1 + 1)), (by rfl), H', ⟨HX_.out⟩, ⟨hJs_ _ _ _ _ HJ_.out (XR.B2.two (w := w) (by repeat ((with_reducible exact HB.out))))⟩, ⟨by have := HK1.out; have := HK2.out; omega⟩, ⟨bx BK241.out⟩, ⟨XR.B2.one (w1 := wr) (by repeat ((with_reducible exact HB.out)))⟩⟩
   ·obtain rfl : [] = r := Option.some.inj H
    go_wp2
    go_end0
    exact ⟨⟨_, rfl⟩, .inl ⟨_, by have hx_ := HX_.out; rw [List.append_nil] at hx_; rw [hx_]; exact hJs_ _ _ _ _ HJ_.out (XR.B2.two (w := w) (by repeat ((with_reducible exact HB.out))))⟩⟩
/-! ### poslist_List_Places: function 65 (a contract of the session's own) -/
def poslist_List_Places.f (k : Nat) (a0_0 : Int) (l0_1 : List (S64)) (l0_2 : List Int) (l0_3 : List Int) : Option (List Int) := if a0_0 = 2 then poslist_List_Places_1.f k a0_0 l0_1 l0_2 l0_3 else if a0_0 = 3 then slices_Values_int_int_1.f k l0_3 else poslist_List_Places_2.f k a0_0 l0_1 l0_2 l0_3
theorem poslist_List_Places.mono : ∀ a0 a1 a2 a3 k, LeO (poslist_List_Places.f k a0 a1 a2 a3) (poslist_List_Places.f (k + 1) a0 a1 a2 a3) := by
 intro a0 a1 a2 a3 k
 unfold poslist_List_Places.f
 exact LeO.ite (poslist_List_Places_1.mono _ _ _ _ _) (LeO.ite (slices_Values_int_int_1.mono _ _) (poslist_List_Places_2.mono _ _ _ _ _))
set_option maxHeartbeats 8000000 in
set_option maxRecDepth 100000 in
theorem poslist_List_Places.calls (k : Nat) (a0_0 : Int) (A0_1 : Option Addr) (c0_1 : Nat) (l0_1 : List (S64)) (A0_2 : Option Addr) (c0_2 : Nat) (l0_2 : List Int) (A0_3 : Option Addr) (c0_3 : Nat) (l0_3 : List Int) (xs : List Int) (w0 w : World) (hb0 : Below w0.heap.size w0 w) (hr0_1 : Kd.C k64 w0 A0_1 l0_1.length l0_1) (hc0_1 : l0_1.length ≤ c0_1) (hr0_2 : Kd.C (Kd.int .i64) w0 A0_2 l0_2.length l0_2) (hc0_2 : l0_2.length ≤ c0_2) (hr0_3 : Kd.C (Kd.int .i64) w0 A0_3 l0_3.length l0_3) (hc0_3 : l0_3.length ≤ c0_3) (h : poslist_List_Places.f k a0_0 l0_1 l0_2 l0_3 = some xs) :
    Calls Tryz.prog 65 #[.agg #[.int .i64 a0_0, .slice A0_1 l0_1.length c0_1, .slice A0_2 l0_2.length c0_2, .slice A0_3 l0_3.length c0_3]] w fun e w' => ∃ gf gb : Nat, e = .returned (.func (.func gf) #[] #[.pointer (some ⟨gb, 0, none⟩)]) ∧ (∀ args W, (callFunc gf args).run Tryz.prog W = .ok (.enter gf args) W) ∧ w.heap.size ≤ gb ∧ gb < w'.heap.size ∧ XR.Iter Tryz.prog (fun x : Int => #[.int .i64 x]) w0 (fun k_ => k_ = gb) gf #[.pointer (some ⟨gb, 0, none⟩)] xs w' ∧ Below w.heap.size w w' := by
 have hmf : ∀ (fn : Fn) (first cap : Array Value) (w : World), (Instr.makeFunc fn first cap).run Tryz.prog w = .ok (.func fn first cap) w := fun _ _ _ _ => rfl
 have hu27 := Tryz.underlying27
 have HR0_1 := Aside0.mk hr0_1
 have HC0_1 := Aside0.mk hc0_1
 clear hr0_1 hc0_1
 have HR0_2 := Aside0.mk hr0_2
 have HC0_2 := Aside0.mk hc0_2
 clear hr0_2 hc0_2
 have HR0_3 := Aside0.mk hr0_3
 have HC0_3 := Aside0.mk hc0_3
 clear hr0_3 hc0_3
 have HB := Aside0.mk (Below.refl w.heap.size w)
 have H0 := Aside0.mk (And.intro hb0 trivial)
 clear hb0
 have H := h
 clear h
 unfold poslist_List_Places.f at H
 by_cases c2 : a0_0 = 2
 ·rw [if_pos c2] at H
  have c2b0 : (a0_0 == 2) = true := beq_iff_eq.mpr c2
  clear c2
  have H1 := Aside0.mk H
  clear H
  go_enter Tryz.func65, Tryz.ntmps65
  go_wp2_with (((with_reducible refine gate_dst (N := 1) rfl ?_); refine box_event ?hg (N := 1) ?hd (cs := #[.int .i64 a0_0, .slice A0_1 l0_1.length c0_1, .slice A0_2 l0_2.length c0_2, .slice A0_3 l0_3.length c0_3]) (t := 27) ?hr ?_; (case hd => rfl); (case hg => rfl); (case hr => (go_simp; done)); intro g1 hg w2 hbox hb; have n0_ := Aside0.mk (below_step HB.out hb); have n1_ := Aside0.mk (hbox); have n2_ := Aside0.mk ((by rw [hg]; exact below_size HB.out : w.heap.size ≤ g1)); clear HB; have HB := n0_; have BK1 := n1_; have GE1 := n2_; clear n0_ n1_ n2_ hb hbox hg; obtain ⟨hc10, hc11, hc12, hc13, hf10, hf11, hf12, hf13⟩ := b4 BK1))
  go_ret
  exact ⟨93, _, rfl, enters_of Tryz.func93 (by kernel_rfl) rfl, GE1.out, blk_lt BK1.out, poslist_List_Places_1.iter k a0_0 A0_1 c0_1 l0_1 A0_2 c0_2 l0_2 A0_3 c0_3 l0_3 xs w0 _ g1 HR0_1.out HC0_1.out HR0_2.out HC0_2.out HR0_3.out HC0_3.out (below_step H0.out.1 HB.out) BK1.out (by have := H0.out.1.size; have := GE1.out; omega) H1.out, HB.out⟩
 rw [if_neg c2] at H
 have c2b0 : (a0_0 == 2) = false := beq_eq_false_iff_ne.mpr c2
 clear c2
 replace H := ife H
 rcases H with ⟨-, c3b0, -, H⟩ | ⟨-, c3b0, -, H⟩
 ·have H1 := Aside0.mk H
  clear H
  go_enter Tryz.func65, Tryz.ntmps65
  go_wp2_with (first | ((with_reducible refine gate_dst (N := 1) rfl ?_); refine box_event ?hg (N := 1) ?hd (cs := #[.int .i64 a0_0, .slice A0_1 l0_1.length c0_1, .slice A0_2 l0_2.length c0_2, .slice A0_3 l0_3.length c0_3]) (t := 27) ?hr ?_; (case hd => rfl); (case hg => rfl); (case hr => (go_simp; done)); intro g1 hg w2 hbox hb; have n0_ := Aside0.mk (below_step HB.out hb); have n1_ := Aside0.mk (hbox); have n2_ := Aside0.mk ((by rw [hg]; exact below_size HB.out : w.heap.size ≤ g1)); clear HB; have HB := n0_; have BK1 := n1_; have GE1 := n2_; clear n0_ n1_ n2_ hb hbox hg; obtain ⟨hc10, hc11, hc12, hc13, hf10, hf11, hf12, hf13⟩ := b4 BK1) | (go_at_call 95; (with_reducible refine (slices_Values_int_int.calls k _ _ l0_3 xs w0 _ (below_step H0.out.1 HB.out) HR0_3.out HC0_3.out H1.out).mono ?_); have HB0 := Aside0.mk (below_size HB.out); rintro e w3 ⟨gb, rfl, hgb, hlt, hit, hb⟩; have n0_ := Aside0.mk (below_step HB.out hb); clear HB; have HB := n0_; clear n0_ hb))
  go_ret
  exact ⟨112, _, rfl, enters_of Tryz.func112 (by kernel_rfl) rfl, by have := HB0.out; omega, hlt, hit, HB.out⟩
 ·have H1 := Aside0.mk H
  clear H
  go_enter Tryz.func65, Tryz.ntmps65
  go_wp2_with (((with_reducible refine gate_dst (N := 1) rfl ?_); refine box_event ?hg (N := 1) ?hd (cs := #[.int .i64 a0_0, .slice A0_1 l0_1.length c0_1, .slice A0_2 l0_2.length c0_2, .slice A0_3 l0_3.length c0_3]) (t := 27) ?hr ?_; (case hd => rfl); (case hg => rfl); (case hr => (go_simp; done)); intro g1 hg w2 hbox hb; have n0_ := Aside0.mk (below_step HB.out hb); have n1_ := Aside0.mk (hbox); have n2_ := Aside0.mk ((by rw [hg]; exact below_size HB.out : w.heap.size ≤ g1)); clear HB; have HB := n0_; have BK1 := n1_; have GE1 := n2_; clear n0_ n1_ n2_ hb hbox hg; obtain ⟨hc10, hc11, hc12, hc13, hf10, hf11, hf12, hf13⟩ := b4 BK1))
  go_ret
  exact ⟨96, _, rfl, enters_of Tryz.func96 (by kernel_rfl) rfl, GE1.out, blk_lt BK1.out, poslist_List_Places_2.iter k a0_0 A0_1 c0_1 l0_1 A0_2 c0_2 l0_2 A0_3 c0_3 l0_3 xs w0 _ g1 HR0_1.out HC0_1.out HR0_2.out HC0_2.out HR0_3.out HC0_3.out (below_step H0.out.1 HB.out) BK1.out (by have := H0.out.1.size; have := GE1.out; omega) H1.out, HB.out⟩
/-! ### poslist_best: function 64 -/
def poslist_best.f (k : Nat) (l0 : List (S64)) : Option (Int × (List (S64)) × List Int × List Int) := (poslist_Best.f k l0).bind fun bt245 => (some (bt245.1, bt245.2.1, bt245.2.2.1, bt245.2.2.2.1))
theorem poslist_best.mono : ∀ a0 k, LeO (poslist_best.f k a0) (poslist_best.f (k + 1) a0) := by
 intro a0 k
 unfold poslist_best.f
 repeat' first | (with_reducible exact poslist_Best.mono _ _) | (with_reducible exact LeO.refl _) | (with_reducible refine LeO.bind ?_ (fun _ => ?_))
set_option maxHeartbeats 8000000 in
set_option maxRecDepth 100000 in
theorem poslist_best.calls (k : Nat) (A0 : Option Addr) (c0 : Nat) (l0 : List (S64)) (r1 : Int) (r2 : List (S64)) (r3 : List Int) (r4 : List Int) (w : World) (hr0 : Kd.C k64 w A0 l0.length l0) (hc0 : l0.length ≤ c0) (h : poslist_best.f k l0 = some (r1, r2, r3, r4)) :
  Calls Tryz.prog 64 #[.slice A0 l0.length c0] w fun e w' => ∃ v1_ v2_ v3_ : Value, e = .returned (.agg #[.int .i64 r1, v1_, v2_, v3_]) ∧ Kd.R k64 64 w' w.heap.size (fun _ => True) v1_ r2 ∧ Kd.R (Kd.int .i64) 3 w' w.heap.size (fun k_ => some k_ ≠ (v3_ : Value).ownBlock) v2_ r3 ∧ Kd.R (Kd.int .i64) 3 w' w.heap.size (fun k_ => some k_ ≠ (v2_ : Value).ownBlock) v3_ r4 ∧ Below w.heap.size w w' := by
 have hu27 := Tryz.underlying27
 have HR0 := Aside0.mk hr0
 have HC0 := Aside0.mk hc0
 clear hr0 hc0
 have HB := Aside0.mk (Below.refl w.heap.size w)
 have H := h
 clear h
 unfold poslist_best.f at H
 replace H := bd H
 obtain ⟨⟨t245, t246, t249, t252, t255⟩, A2, H⟩ := H
 dsimp only at H
 simp only [Option.some.injEq, Prod.mk.injEq] at H
 obtain ⟨rfl, rfl, rfl, rfl⟩ := H
 go_enter Tryz.func64, Tryz.ntmps64
 go_wp2_with (first | ((with_reducible refine gate_dst (N := 2) rfl ?_); refine boxE HB 2 27 #[.int .i64 0, .slice none 0 0, .slice none 0 0, .slice none 0 0] ?_; clear HB; intro gb244 w3 BK244 GW244 hg hb HB; have GE244 := GW244; clear hb hg) | ((with_reducible refine gate_callee (f := 12) rfl ?_); refine gL 7 Tryz.func12 #[.slice A0 l0.length c0] ?_; (with_reducible refine (poslist_Best.calls k _ _ l0 t245 t246 t249 t252 t255 _ ?side1 ?side2 A2.out).mono ?_); (case side1 => exact cx (Kd.C_below HR0.out HB.out)); (case side2 => exact HC0.out); rintro e w4 ⟨v247, v250, v253, rfl, ho0, ho1, ho2, hb⟩; refine ⟨_, rfl, ?_⟩; have HO248 := Aside0.mk (Kd.R_lower ho0 (below_size (bh HB.out))); have HO251 := Aside0.mk (Kd.R_lower ho1 (below_size (bh HB.out))); have HO254 := Aside0.mk (Kd.R_lower ho2 (below_size (bh HB.out))); replace BK244 := bba BK244 hb; replace HB := bsa HB hb; clear hb ho0 ho1 ho2) | ((with_reducible refine gate_dst (N := 3) rfl ?_); refine box_event ?hg (N := 3) ?hd (cs := #[.int .i64 0, .slice none 0 0, .slice none 0 0, .slice none 0 0]) (t := 27) ?hr ?_; (case hd => rfl); (case hg => rfl); (case hr => (go_simp; done)); intro gb256 hg w5 hbox hb; replace HO248 := rba HO248 hb; replace HO251 := rba HO251 hb; replace HO254 := rba HO254 hb; have BK256 := Aside0.mk (hbox); have GW256 := bza HB hg; have GE256 := bza HB hg; replace HB := bsa HB hb; obtain ⟨NB244_256, NB256_244⟩ := bnm BK244 hg; replace BK244 := bba BK244 hb; clear hb hbox hg; have hnb6 := NB256_244.out; have hnc6 := NB244_256.out; obtain ⟨hcz7_0, hcz7_1, hcz7_2, hcz7_3, hfz7_0, hfz7_1, hfz7_2, hfz7_3⟩ := b4 BK256; obtain ⟨Ao8, co8, eo8⟩ := Kd.R_slice HO248.out; subst eo8; obtain ⟨Ao9, co9, eo9⟩ := Kd.R_slice HO251.out; subst eo9; obtain ⟨Ao10, co10, eo10⟩ := Kd.R_slice HO254.out; subst eo10) | ((with_reducible refine gate_store (t := 27) (p := 3) rfl ?_); refine stE 27 3 ((((w5.setCell ⟨gb256, 0, none⟩ (.int .i64 t245)).setCell ⟨gb256, 1, none⟩ (.slice Ao8 t246.length co8)).setCell ⟨gb256, 2, none⟩ (.slice Ao9 t249.length co9)).setCell ⟨gb256, 3, none⟩ (.slice Ao10 t252.length co10)) ?_; intro w11 hw; have n0_ := rsm (fun _ => True) HO248 hw (fun _ hk => trivial); have n1_ := rst HO251 hw; have n2_ := rst HO254 hw; have n3_ : Aside0 (w11.heap[gb244]? = some (.cells #[.int .i64 0, .slice none 0 0, .slice none 0 0, .slice none 0 0] 27 (0, 0))) := ⟨(by rw [hw]; exact (bx BK244.out))⟩; have n4_ := sps #[.int .i64 t245, .slice Ao8 t246.length co8, .slice Ao9 t249.length co9, .slice Ao10 t252.length co10] BK256 hw (.p (.p (.p (.p .nil)))); have n5_ := bhw HB hw; clear hw HO248 HO251 HO254 BK244 BK256 HB; have HO248 := n0_; have HO251 := n1_; have HO254 := n2_; have BK244 := n3_; have BK256 := n4_; have HB := n5_; clear n0_ n1_ n2_ n3_ n4_ n5_; obtain ⟨hcz12_0, hcz12_1, hcz12_2, hcz12_3, hfz12_0, hfz12_1, hfz12_2, hfz12_3⟩ := b4 BK256; obtain ⟨hcz13_0, hcz13_1, hcz13_2, hcz13_3, hfz13_0, hfz13_1, hfz13_2, hfz13_3⟩ := b4 BK244) | ((with_reducible refine gate_store (t := 27) (p := 2) rfl ?_); refine stE 27 2 ((((w11.setCell ⟨gb244, 0, none⟩ (.int .i64 t245)).setCell ⟨gb244, 1, none⟩ (.slice Ao8 t246.length co8)).setCell ⟨gb244, 2, none⟩ (.slice Ao9 t249.length co9)).setCell ⟨gb244, 3, none⟩ (.slice Ao10 t252.length co10)) ?_; intro w14 hw; have n0_ := rsm (fun _ => True) HO248 hw (fun _ hk => trivial); have n1_ := rst HO251 hw; have n2_ := rst HO254 hw; have n3_ := sps #[.int .i64 t245, .slice Ao8 t246.length co8, .slice Ao9 t249.length co9, .slice Ao10 t252.length co10] BK244 hw (.p (.p (.p (.p .nil)))); have n4_ : Aside0 (w14.heap[gb256]? = some (.cells #[.int .i64 t245, .slice Ao8 t246.length co8, .slice Ao9 t249.length co9, .slice Ao10 t252.length co10] 27 (0, 0))) := ⟨(by rw [hw]; exact (bx BK256.out))⟩; have n5_ := bhw HB hw; clear hw HO248 HO251 HO254 BK244 BK256 HB; have HO248 := n0_; have HO251 := n1_; have HO254 := n2_; have BK244 := n3_; have BK256 := n4_; have HB := n5_; clear n0_ n1_ n2_ n3_ n4_ n5_))
 refine bodyPost_ret (results_cell_row rfl _ _ gb244 27 #[.int .i64 t245, .slice Ao8 t246.length co8, .slice Ao9 t249.length co9, .slice Ao10 t252.length co10] (0, 0) _ rfl (bx BK244.out) Tryz.underlying27 rfl (by kernel_rfl)) rfl ?_
 exact ⟨_, _, _, er, by exact HO248.out, by exact HO251.out, by exact HO254.out, bh HB.out⟩
end Go.Proofs.YtjgmdjieandemaaGreat.Print
end
section
namespace Go.Proofs.YtjgmdjieandemaaGreat.Print
open Go.RowKit Go.Proofs.YtjgmdjieandemaaGreatW.PrintWords Go.Proofs.YtjgmdjieandemaaGreatW.PrintLast Go.Proofs.YtjgmdjieandemaaGreatW.PrintMore
attribute [local go_sem] max2_int min2_int max_two min_two max_three min_three max_four min_four   -- for this text's walks alone
set_option linter.unusedVariables false
set_option linter.unusedSimpArgs false
/-! ### poslist_List_kept: function 54 (a contract of the session's own) -/
section
attribute [local go_sem] Oper.semAt_some
def poslist_List_kept.go (p : Int → Option Bool) : List Int → List Int → Option (List Int)
  | [], o => some o
  | x :: xs, o => (p x).bind fun t => if t = true then (if o.length < 1000000000000 then poslist_List_kept.go p xs (o ++ [x]) else none) else poslist_List_kept.go p xs o
def poslist_List_kept.f (p : Int → Option Bool) (k : Nat) (a0_0 : Int) (l0_1 : List (S64)) (l0_2 : List Int) (l0_3 : List Int) : Option (Int × (List (S64)) × List Int × List Int) := (poslist_List_Places.f k a0_0 l0_1 l0_2 l0_3).bind fun xs => (poslist_List_kept.go p xs []).bind fun o => (span_Of.f k o).bind fun z => poslist_best.f k z.1
theorem poslist_List_kept.go_snoc (p : Int → Option Bool) : ∀ (pre : List Int) (x : Int) (o : List Int), poslist_List_kept.go p (pre ++ [x]) o = (poslist_List_kept.go p pre o).bind fun o1 => (p x).bind fun t => if t = true then (if o1.length < 1000000000000 then some (o1 ++ [x]) else none) else some o1 := by
 intro pre
 induction pre with
 | nil => intro x o; rfl
 | cons y ys ih =>
   intro x o
   simp only [List.cons_append, poslist_List_kept.go]
   rw [Option.bind_assoc]
   congr 1; funext t; split
   ·split
    ·exact ih x _
    ·rfl
   ·exact ih x o
theorem poslist_List_kept.go_pre (p : Int → Option Bool) : ∀ (pre rest : List Int) (o r : List Int), poslist_List_kept.go p (pre ++ rest) o = some r → ∃ o1, poslist_List_kept.go p pre o = some o1 := by
 intro pre
 induction pre with
 | nil => intro rest o r h; exact ⟨o, rfl⟩
 | cons y ys ih =>
   intro rest o r h
   simp only [List.cons_append, poslist_List_kept.go] at h ⊢
   obtain ⟨t, ht, h⟩ := Option.bind_eq_some_iff.mp h
   rw [ht]; simp only [Option.bind_some]
   cases t with
   | true =>
     simp only [if_true] at h ⊢
     by_cases hc : o.length < 1000000000000
     ·rw [if_pos hc] at h ⊢; exact ih rest _ r h
     ·rw [if_neg hc] at h; cases h
   | false =>
     simp only [Bool.false_eq_true, if_false] at h ⊢
     exact ih rest o r h
set_option maxHeartbeats 8000000 in
set_option maxRecDepth 100000 in
theorem poslist_List_kept.calls (gf : Nat) (fi ca : Array Value) (p : Int → Option Bool) (k : Nat) (a0_0 : Int) (A0_1 : Option Addr) (c0_1 : Nat) (l0_1 : List (S64)) (A0_2 : Option Addr) (c0_2 : Nat) (l0_2 : List Int) (A0_3 : Option Addr) (c0_3 : Nat) (l0_3 : List Int) (r1 : Int) (r2 : List (S64)) (r3 : List Int) (r4 : List Int) (w : World) (hr0_1 : Kd.C k64 w A0_1 l0_1.length l0_1) (hc0_1 : l0_1.length ≤ c0_1) (hr0_2 : Kd.C (Kd.int .i64) w A0_2 l0_2.length l0_2) (hc0_2 : l0_2.length ≤ c0_2) (hr0_3 : Kd.C (Kd.int .i64) w A0_3 l0_3.length l0_3) (hc0_3 : l0_3.length ≤ c0_3)
    (heg : ∀ args W, (callFunc gf args).run Tryz.prog W = .ok (.enter gf args) W) (his : ∀ (X : World) (at_ : Int) (t : Bool), Below w.heap.size w X → p at_ = some t → Calls Tryz.prog gf (fi.push (.int .i64 at_) ++ ca) X fun e X' => e = .returned (.bool t) ∧ Below X.heap.size X X') (h : poslist_List_kept.f p k a0_0 l0_1 l0_2 l0_3 = some (r1, r2, r3, r4)) :
    Calls Tryz.prog 54 #[.agg #[.int .i64 a0_0, .slice A0_1 l0_1.length c0_1, .slice A0_2 l0_2.length c0_2, .slice A0_3 l0_3.length c0_3], .func (.func gf) fi ca] w fun e w' => ∃ v1_ v2_ v3_ : Value, e = .returned (.agg #[.int .i64 r1, v1_, v2_, v3_]) ∧ Kd.R k64 64 w' w.heap.size (fun _ => True) v1_ r2 ∧ Kd.R (Kd.int .i64) 3 w' w.heap.size (fun k_ => some k_ ≠ (v3_ : Value).ownBlock) v2_ r3 ∧ Kd.R (Kd.int .i64) 3 w' w.heap.size (fun k_ => some k_ ≠ (v2_ : Value).ownBlock) v3_ r4 ∧ Below w.heap.size w w' := by
 have hu27 := Tryz.underlying27
 have HR0_1 := Aside0.mk hr0_1
 have HC0_1 := Aside0.mk hc0_1
 clear hr0_1 hc0_1
 have HR0_2 := Aside0.mk hr0_2
 have HC0_2 := Aside0.mk hc0_2
 clear hr0_2 hc0_2
 have HR0_3 := Aside0.mk hr0_3
 have HC0_3 := Aside0.mk hc0_3
 clear hr0_3 hc0_3
 have HB := Aside0.mk (Below.refl w.heap.size w)
 obtain ⟨xs, A3_, H⟩ := Option.bind_eq_some_iff.mp (show ((poslist_List_Places.f k a0_0 l0_1 l0_2 l0_3).bind fun xs => (poslist_List_kept.go p xs []).bind fun o => (span_Of.f k o).bind fun z => poslist_best.f k z.1) = some (r1, r2, r3, r4) from h)
 clear h
 obtain ⟨o, A4_, H⟩ := Option.bind_eq_some_iff.mp H
 obtain ⟨z, A5_, H⟩ := Option.bind_eq_some_iff.mp H
 have H3 := Aside0.mk A3_
 have H4 := Aside0.mk A4_
 have H5 := Aside0.mk A5_
 have H6 := Aside0.mk H
 clear A3_ A4_ A5_ H
 refine (callsIn_wide (n := 4)).1 ?_
 refine callsIn_of_wp_marks Tryz.func54 rfl trivial ?_ rfl
 simp only [Tryz.ntmps54, List.size_toArray, List.length_cons, List.length_nil, Nat.reduceAdd, Nat.reduceSub, Array.replicate_succ, Array.replicate_zero, List.push_toArray, List.append_toArray, List.nil_append, List.cons_append]
 refine wpIn_wide.2 ?_
 go_wp2_with (first | ((with_reducible refine gate_dst (N := 2) rfl ?_); refine box_event ?hg (N := 2) ?hd (cs := #[.int .i64 a0_0, .slice A0_1 l0_1.length c0_1, .slice A0_2 l0_2.length c0_2, .slice A0_3 l0_3.length c0_3]) (t := 27) ?hr ?_; (case hd => rfl); (case hg => rfl); (case hr => (go_simp; done)); intro gl hg w2 hbox hb; have n0_ := Aside0.mk (below_step HB.out hb); have n1_ := Aside0.mk (hbox); have n2_ := Aside0.mk ((by rw [hg]; exact below_size HB.out : w.heap.size ≤ gl)); clear HB; have HB := n0_; have BKl := n1_; have GEl := n2_; clear n0_ n1_ n2_ hb hbox hg) | ((with_reducible refine gate_dst (N := 3) rfl ?_); refine box_event ?hg (N := 3) ?hd (cs := #[.func (.func gf) fi ca]) (t := 58) ?hr ?_; (case hd => rfl); (case hg => rfl); (case hr => (go_simp; done)); intro gp hg w3 hbox hb; have n0_ := Aside0.mk (below_step HB.out hb); have n1_ := Aside0.mk (blk_below BKl.out hb); have n2_ := Aside0.mk (hbox); have n3_ := Aside0.mk ((by rw [hg]; exact below_size HB.out : w.heap.size ≤ gp)); have n4_ := Aside0.mk ((by rw [hg]; exact Nat.ne_of_lt (blk_lt BKl.out) : gl ≠ gp)); have n5_ := Aside0.mk ((by rw [hg]; exact (Nat.ne_of_lt (blk_lt BKl.out)).symm : gp ≠ gl)); clear HB BKl; have HB := n0_; have BKl := n1_; have BKp := n2_; have GEp := n3_; have NBlp := n4_; have NBpl := n5_; clear n0_ n1_ n2_ n3_ n4_ n5_ hb hbox hg) | ((with_reducible refine gate_dst (N := 4) rfl ?_); refine box_event ?hg (N := 4) ?hd (cs := #[.int .i64 0, .slice none 0 0, .slice none 0 0, .slice none 0 0]) (t := 27) ?hr ?_; (case hd => rfl); (case hg => rfl); (case hr => (go_simp; done)); intro g4 hg w4 hbox hb; have n0_ := Aside0.mk (below_step HB.out hb); have n1_ := Aside0.mk (blk_below BKl.out hb); have n2_ := Aside0.mk (blk_below BKp.out hb); have n3_ := Aside0.mk (hbox); have n4_ := Aside0.mk ((by rw [hg]; exact below_size HB.out : w.heap.size ≤ g4)); have n5_ := Aside0.mk ((by rw [hg]; exact Nat.ne_of_lt (blk_lt BKl.out) : gl ≠ g4)); have n6_ := Aside0.mk ((by rw [hg]; exact (Nat.ne_of_lt (blk_lt BKl.out)).symm : g4 ≠ gl)); have n7_ := Aside0.mk ((by rw [hg]; exact Nat.ne_of_lt (blk_lt BKp.out) : gp ≠ g4)); have n8_ := Aside0.mk ((by rw [hg]; exact (Nat.ne_of_lt (blk_lt BKp.out)).symm : g4 ≠ gp)); clear HB BKl BKp; have HB := n0_; have BKl := n1_; have BKp := n2_; have BK4 := n3_; have GE4 := n4_; have NBl4 := n5_; have NB4l := n6_; have NBp4 := n7_; have NB4p := n8_; clear n0_ n1_ n2_ n3_ n4_ n5_ n6_ n7_ n8_ hb hbox hg) | ((with_reducible refine gate_dst (N := 5) rfl ?_); refine box_event ?hg (N := 5) ?hd (cs := #[.slice none 0 0]) (t := 25) ?hr ?_; (case hd => rfl); (case hg => rfl); (case hr => (go_simp; done)); intro gu hg w5 hbox hb; have n0_ := Aside0.mk (below_step HB.out hb); have n1_ := Aside0.mk (blk_below BKl.out hb); have n2_ := Aside0.mk (blk_below BKp.out hb); have n3_ := Aside0.mk (blk_below BK4.out hb); have n4_ := Aside0.mk (hbox); have n5_ := Aside0.mk ((by rw [hg]; exact below_size HB.out : w.heap.size ≤ gu)); have n6_ := Aside0.mk ((by rw [hg]; exact Nat.ne_of_lt (blk_lt BKl.out) : gl ≠ gu)); have n7_ := Aside0.mk ((by rw [hg]; exact (Nat.ne_of_lt (blk_lt BKl.out)).symm : gu ≠ gl)); have n8_ := Aside0.mk ((by rw [hg]; exact Nat.ne_of_lt (blk_lt BKp.out) : gp ≠ gu)); have n9_ := Aside0.mk ((by rw [hg]; exact (Nat.ne_of_lt (blk_lt BKp.out)).symm : gu ≠ gp)); have n10_ := Aside0.mk ((by rw [hg]; exact Nat.ne_of_lt (blk_lt BK4.out) : g4 ≠ gu)); have n11_ := Aside0.mk ((by rw [hg]; exact (Nat.ne_of_lt (blk_lt BK4.out)).symm : gu ≠ g4)); clear HB BKl BKp BK4; have HB := n0_; have BKl := n1_; have BKp := n2_; have BK4 := n3_; have BKu := n4_; have GEu := n5_; have NBlu := n6_; have NBul := n7_; have NBpu := n8_; have NBup := n9_; have NB4u := n10_; have NBu4 := n11_; clear n0_ n1_ n2_ n3_ n4_ n5_ n6_ n7_ n8_ n9_ n10_ n11_ hb hbox hg; have hlu6 := Aside0.mk (blk_lt BKu.out); obtain ⟨hcl0, hcl1, hcl2, hcl3, hfl0, hfl1, hfl2, hfl3⟩ := b4 BKl) | (go_at_call 65; (with_reducible refine (poslist_List_Places.calls k _ _ _ _ _ _ _ _ _ _ xs w _ HB.out ?a1 ?b1 ?a2 ?b2 ?a3 ?b3 H3.out).mono ?_); (case a1 => exact HR0_1.out); (case b1 => exact HC0_1.out); (case a2 => exact HR0_2.out); (case b2 => exact HC0_2.out); (case a3 => exact HR0_3.out); (case b3 => exact HC0_3.out); rintro e w7 ⟨gI, gi, rfl, hen, hgi, hlti, hit, hb⟩; have n0_ := Aside0.mk (below_step HB.out hb); have n1_ := Aside0.mk (blk_below BKl.out hb); have n2_ := Aside0.mk (blk_below BKp.out hb); have n3_ := Aside0.mk (blk_below BK4.out hb); have n4_ := Aside0.mk (blk_below BKu.out hb); clear HB BKl BKp BK4 BKu; have HB := n0_; have BKl := n1_; have BKp := n2_; have BK4 := n3_; have BKu := n4_; clear n0_ n1_ n2_ n3_ n4_ hb))
 refine (wpIn_wide (n := 4)).1 ?_
 refine XR.wp_range (α := Int) (w0 := w) (by decide) (gf := gI) (lb := #[.pointer (some ⟨gi, 0, none⟩)]) rfl hen hit
   (by rintro k_ rfl; exact hlti) (fun _ => rfl)
   (fun G_ pre X => ∃ (o1 : List Int) (v : Value), poslist_List_kept.go p pre [] = some o1 ∧ X.heap[gu]? = some (.cells #[v] 25 (0, 0)) ∧ Kd.R (Kd.int .i64) 3 X w.heap.size (fun k_ => w.heap.size ≤ k_ ∧ (k_ ≠ gl ∧ k_ ≠ gp ∧ k_ ≠ g4 ∧ k_ ≠ gu ∧ k_ ≠ gi ∧ k_ ≠ w7.heap.size ∧ k_ ≠ w7.heap.size + 1 ∧ ¬ G_ k_)) v o1 ∧ X.heap[gp]? = some (.cells #[.func (.func gf) fi ca] 58 (0, 0)) ∧ X.heap[g4]? = some (.cells #[.int .i64 0, .slice none 0 0, .slice none 0 0, .slice none 0 0] 27 (0, 0)) ∧ Below w.heap.size w X)
   (fun _ _ _ => False)
   ?hI ?hIG (fun _ _ _ _ h _ => h) ?hIB ?hIp (fun _ _ _ _ _ h _ _ _ => h) ?h0
   (fun Y x a' Z => a' = { tmps := #[.agg #[.int .i64 a0_0, .slice A0_1 l0_1.length c0_1, .slice A0_2 l0_2.length c0_2, .slice A0_3 l0_3.length c0_3], .func (.func gf) fi ca, .pointer (some ⟨gl, 0, none⟩), .pointer (some ⟨gp, 0, none⟩), .pointer (some ⟨g4, 0, none⟩), .pointer (some ⟨gu, 0, none⟩), .int .i64 x, undef, undef, .agg #[.int .i64 a0_0, .slice A0_1 l0_1.length c0_1, .slice A0_2 l0_2.length c0_2, .slice A0_3 l0_3.length c0_3], .func (.func gI) #[] #[.pointer (some ⟨gi, 0, none⟩)], .int .i64 x, undef, undef, undef, undef, undef, undef, undef, undef, undef, undef, undef, undef, undef, undef], defers := [] })
   ?hAx ?assign ?body ?done ?stop
 case hI =>
   rintro G_ pre X Y ⟨o1, v, hg, ho, hr, hfp, hf4, hb⟩ hXY
   exact ⟨o1, v, hg, blk_below ho hXY, Kd.R_below hr hXY, blk_below hfp hXY, blk_below hf4 hXY,  below_step hb hXY⟩
 case hIG =>
   rintro G_ G2_ pre X ⟨o1, v, hg, ho, hr, hfp, hf4, hb⟩ hG
   refine ⟨o1, v, hg, ho, Kd.R_mono (Kd.R_tight rfl hr) (fun k_ hk => ?_), hfp, hf4,  hb⟩
   have hq := hr.1 k_ hk.symm
   have hlt := Kd.R_lt hr k_ hk.symm
   exact ⟨hq.1, hq.2.1, hq.2.2.1, hq.2.2.2.1, hq.2.2.2.2.1, hq.2.2.2.2.2.1, hq.2.2.2.2.2.2.1, hq.2.2.2.2.2.2.2.1, fun h2 => (hG k_ h2).elim hq.2.2.2.2.2.2.2.2 (fun z => by omega)⟩
 case hIB =>
   rintro G_ pre X ⟨o1, v, hg, ho, hr, hfp, hf4, hb⟩
   exact hb
 case hIp =>
   rintro G_ pre X l o2 ⟨o1, v, hg, ho, hr, hfp, hf4, hb⟩ hl hl2 hlt
   have hnl : l ≠ gl := by have := blk_lt BKl.out; omega
   have hnp : l ≠ gp := by have := blk_lt BKp.out; omega
   have hn4 : l ≠ g4 := by have := blk_lt BK4.out; omega
   have hnu : l ≠ gu := by have := blk_lt BKu.out; omega
   refine ⟨o1, v, hg, (World.putObj_heap_other (Ne.symm hnu)).trans ho, ?_, (World.putObj_heap_other (Ne.symm hnp)).trans hfp, (World.putObj_heap_other (Ne.symm hn4)).trans hf4,  XR.below_putObj hb (by have := HB.out.size; omega) hlt o2⟩
   exact Kd.R_step hr (fun k_ hk _ => World.putObj_heap_other (by have h5 := hk.2.2.2.2.2.2.1; have h6 := hk.2.2.2.2.2.2.2.1; omega))
 case h0 => exact ⟨[], _, rfl, BKu.out, Kd.R_nil _ _ _ _ _, BKp.out, BK4.out,  HB.out⟩
 case hAx =>
   rintro Y x a' Z l o2 rfl hl hl2 hlt
   rfl
 case assign =>
   intro G_ pre x Y hI hsz
   gi_wp2
   exact ⟨Below.refl _ Y, trivial⟩
 case body =>
   rintro G_ pre x rest Y Z a' hx hGY ⟨o1, v, hg, ho, hr, hfp, hf4, hb⟩ hsX hYZ rfl
   have hlu : gu < w7.heap.size := blk_lt BKu.out
   have hll : gl < w7.heap.size := blk_lt BKl.out
   have hlp : gp < w7.heap.size := blk_lt BKp.out
   have hl4 : g4 < w7.heap.size := blk_lt BK4.out
   have hli : gi < w7.heap.size := hlti
   have NBui : gu ≠ gi := by have := hgi; have := hlu6.out; omega
   have hsn := poslist_List_kept.go_snoc p pre x []
   rw [hg] at hsn
   simp only [Option.bind_some] at hsn
   obtain ⟨o2, ho2⟩ := poslist_List_kept.go_pre p (pre ++ [x]) rest [] _ (by have h4 := H4.out; rw [hx] at h4; simpa using h4)
   rw [ho2] at hsn
   obtain ⟨t, ht, hs⟩ := Option.bind_eq_some_iff.mp hsn.symm
   have c1 : Z.cell? ⟨gp, 0, none⟩ = some (.func (.func gf) fi ca) := (blk_cell hfp 0).trans rfl
   cases t with
   | false =>
     simp only [Bool.false_eq_true, if_false, Option.some.injEq] at hs
     subst hs
     gi_wp2_with ((refine ⟨trivial, ?_⟩; refine (CallsIn.inRound (w7.heap.size + 1) (callsIn_wide.2 (his Z x false hb ht))).mono ?_; rintro e w9 ⟨rfl, hb9⟩))
     exact ⟨⟨_, v, ho2, blk_below ho hb9, Kd.R_below hr hb9, blk_below hfp hb9, blk_below hf4 hb9, below_step hb hb9⟩, hb9.size, fun k_ hk _ => hb9.block k_ hk⟩
   | true =>
     simp only [if_true] at hs
     have hcap : o1.length < 1000000000000 := by
       by_cases hc : o1.length < 1000000000000
       ·exact hc
       ·rw [if_neg hc] at hs; cases hs
     rw [if_pos hcap] at hs
     obtain rfl := Option.some.inj hs
     have hgo2 := ho2
     gi_wp2_with (first | (refine ⟨trivial, ?_⟩; refine (CallsIn.inRound (w7.heap.size + 1) (callsIn_wide.2 (his Z x true hb ht))).mono ?_; rintro e w9 ⟨rfl, hb9⟩; have d6 : w9.cell? ⟨gu, 0, none⟩ = some v := (blk_cell (blk_below ho hb9) 0).trans rfl; have hfp9 := blk_below hfp hb9; have hf49 := blk_below hf4 hb9; have ho9 := blk_below ho hb9; have hsW : Z.heap.size ≤ w9.heap.size := hb9.size) | (refine XR.listIn_out (N := 15) rfl ?a2 ?a3 ?a4 ?_; (case a2 => rfl); (case a3 => rintro ⟨_, _, h_⟩; exact h_); (case a4 => rfl)))
     go_wp2_with (((with_reducible refine gate_builtin (b := .append) (xs := #[.tmp 15, .tmp 17]) rfl ?_); at_builtin; refine Kd.R_append (Kd.int .i64) (w0 := w) w.heap.size rfl (.tmp 15) (.tmp 17) 25 3 (.int .i64 0) 8 rfl Tryz.underlying25 info3 rfl (by decide) (by omega) v o1 x [.int .i64 x] (fun k_ => w.heap.size ≤ k_ ∧ (k_ ≠ gl ∧ k_ ≠ gp ∧ k_ ≠ g4 ∧ k_ ≠ gu ∧ k_ ≠ gi ∧ k_ ≠ w7.heap.size ∧ k_ ≠ w7.heap.size + 1 ∧ ¬ G_ k_)) (fun _ => False) rfl rfl ?aP (fun _ hk => hk.elim) ?aF ?aO ?aB ?aS ?aL ?_; (case aP => exact rfl); (case aF => intro k_ hk; have h7 := below_size hb; have h8 := hsW; exact ⟨by omega, by omega, by omega, by omega, by omega, by omega, by omega, by omega, fun h2 => by have := hGY k_ h2; omega⟩); (case aO => exact (Kd.R_below hr hb9)); (case aB => exact (below_step hb hb9)); (case aS => exact below_size (below_step hb hb9)); (case aL => omega); intro v1 w10 hr10 hb10 hk10 _; have hne : ∀ k_, some k_ = v.ownBlock → w.heap.size ≤ k_ ∧ (k_ ≠ gl ∧ k_ ≠ gp ∧ k_ ≠ g4 ∧ k_ ≠ gu ∧ k_ ≠ gi ∧ k_ ≠ w7.heap.size ∧ k_ ≠ w7.heap.size + 1 ∧ ¬ G_ k_) := fun k_ e_ => hr.1 k_ e_.symm; have ho10 := blk_grown ho9 hk10 (fun e_ => (hne _ e_).2.2.2.2.1 rfl); have hfp10 := blk_grown hfp9 hk10 (fun e_ => (hne _ e_).2.2.1 rfl); have hf410 := blk_grown hf49 hk10 (fun e_ => (hne _ e_).2.2.2.1 rfl); obtain ⟨Av, cv, rfl⟩ := Kd.R_slice hr10; have e6 : w10.cell? ⟨gu, 0, none⟩ = some v := (blk_cell ho10 0).trans rfl; have e7 := blk_frozen ho10 0))
     have hr11 : Kd.R (Kd.int .i64) 3 w10 w.heap.size (fun k_ => w.heap.size ≤ k_ ∧ (k_ ≠ gl ∧ k_ ≠ gp ∧ k_ ≠ g4 ∧ k_ ≠ gu ∧ k_ ≠ gi ∧ k_ ≠ w7.heap.size ∧ k_ ≠ w7.heap.size + 1 ∧ ¬ G_ k_)) (.slice Av (o1.length + 1) cv) (o1 ++ [x]) := by rw [List.length_append] at hr10; exact hr10
     have hgb : Below w.heap.size w (w10.setCell ⟨gu, 0, none⟩ (.slice Av (o1.length + 1) cv)) := hb10.setCell (p := ⟨gu, 0, none⟩) GEu.out _
     have hrow := Kd.R_step hr11 (w1 := w10.setCell ⟨gu, 0, none⟩ (.slice Av (o1.length + 1) cv)) (fun k_ hk _ => Below.heap_setCell _ _ _ k_ (by exact hk.2.2.2.2.1))
     refine ⟨⟨o1 ++ [x], _, hgo2, blk_put ho10 0 _ rfl, hrow, blk_far hfp10 (by exact NBpu.out) _, blk_far hf410 (by exact NB4u.out) _,  hgb⟩, ?_, ?_⟩
     ·have := hk10.size; have := hb9.size; simp; omega
     ·intro k_ hk hkeep
      have hkgo : k_ ≠ gu := by
        rcases hkeep with rfl | hh | hh | hh
        ·exact Ne.symm NBui
        ·have := hGY k_ hh; omega
        ·omega
        ·omega
      have hkv : ¬ some k_ = v.ownBlock := by
        intro e_
        have hq := hne _ e_
        rcases hkeep with rfl | hh | hh | hh
        ·exact hq.2.2.2.2.2.1 rfl
        ·exact hq.2.2.2.2.2.2.2.2 hh
        ·exact hq.2.2.2.2.2.2.1 hh
        ·exact hq.2.2.2.2.2.2.2.1 hh
      rw [Below.heap_setCell _ _ _ k_ hkgo, hk10.block k_ (by have := hb9.size; omega) hkv, hb9.block k_ hk]
 case done =>
   rintro G_ W ⟨o1, v, hg, ho, hr, hfp, hf4, hb⟩ hK
   obtain rfl : o1 = o := by have h4 := H4.out; rw [hg] at h4; exact Option.some.inj h4
   obtain ⟨Av, cv, rfl⟩ := Kd.R_slice hr
   have cv1 : W.cell? ⟨gu, 0, none⟩ = some (.slice Av o1.length cv) := (blk_cell ho 0).trans rfl
   have hK1 := Aside0.mk hK
   have HBW := Aside0.mk hb
   have HF4 := Aside0.mk hf4
   clear hK hb hf4
   go_wp2_with (first | (go_at_call 49; (with_reducible refine (span_Of.calls k _ _ o1 z.1 z.2 _ ?side1 ?side2 H5.out).mono ?_); (case side1 => exact (Kd.R_reads' hr).2.2); (case side2 => exact (Kd.R_reads' hr).2.1); rintro e w11 ⟨vz, rfl, hvz, hb⟩; have n0_ := Aside0.mk (below_step HBW.out hb); have n1_ := Aside0.mk (blk_below HF4.out hb); have n2_ := Aside0.mk (blk_below hK1.out hb); clear HBW HF4 hK1; have HBW := n0_; have HF4 := n1_; have hK1 := n2_; clear n0_ n1_ n2_ hb; obtain ⟨Az, cz, rfl⟩ := Kd.R_slice hvz) | (go_at_call 64; (with_reducible refine (poslist_best.calls k _ _ z.1 r1 r2 r3 r4 _ ?side1 ?side2 H6.out).mono ?_); (case side1 => exact (Kd.R_reads' hvz).2.2); (case side2 => exact (Kd.R_reads' hvz).2.1); have hlt4 := blk_lt HF4.out; have hltK := blk_lt hK1.out; have hbase := below_size HBW.out; rintro e w12 ⟨v1, v2, v3, rfl, hv1, hv2, hv3, hb⟩; have n0_ := Aside0.mk (below_step HBW.out hb); have n1_ := Aside0.mk (blk_below HF4.out hb); have n2_ := Aside0.mk (blk_below hK1.out hb); clear HBW HF4 hK1; have HBW := n0_; have HF4 := n1_; have hK1 := n2_; clear n0_ n1_ n2_ hb; obtain ⟨Av1, cv1, rfl⟩ := Kd.R_slice hv1; obtain ⟨Av2, cv2, rfl⟩ := Kd.R_slice hv2; obtain ⟨Av3, cv3, rfl⟩ := Kd.R_slice hv3; have hw40 : w12.cell? ⟨g4, 0, none⟩ = some (.int .i64 0) := (blk_cell HF4.out 0).trans rfl; have hw41 : w12.cell? ⟨g4, 1, none⟩ = some (.slice none 0 0) := (blk_cell HF4.out 1).trans rfl; have hw42 : w12.cell? ⟨g4, 2, none⟩ = some (.slice none 0 0) := (blk_cell HF4.out 2).trans rfl; have hw43 : w12.cell? ⟨g4, 3, none⟩ = some (.slice none 0 0) := (blk_cell HF4.out 3).trans rfl; have hz40 := blk_frozen HF4.out 0; have hz41 := blk_frozen HF4.out 1; have hz42 := blk_frozen HF4.out 2; have hz43 := blk_frozen HF4.out 3))
   have hk0 : (((w12.setCell ⟨g4, 0, none⟩ (.int .i64 r1)).setCell ⟨g4, 1, none⟩ (.slice Av1 r2.length cv1)).setCell ⟨g4, 2, none⟩ (.slice Av2 r3.length cv2)).setCell ⟨g4, 3, none⟩ (.slice Av3 r4.length cv3) |>.heap[w7.heap.size]? = some (.deferred (some [])) := by
     rw [Below.heap_setCell _ _ _ _ (by show w7.heap.size ≠ g4; have := blk_lt BK4.out; omega), Below.heap_setCell _ _ _ _ (by show w7.heap.size ≠ g4; have := blk_lt BK4.out; omega), Below.heap_setCell _ _ _ _ (by show w7.heap.size ≠ g4; have := blk_lt BK4.out; omega), Below.heap_setCell _ _ _ _ (by show w7.heap.size ≠ g4; have := blk_lt BK4.out; omega)]
     exact hK1.out
   refine ⟨by simp, .inl ⟨_, _, rfl, run_takeDeferred hk0, ?_⟩⟩
   have hc4 : (((w12.setCell ⟨g4, 0, none⟩ (.int .i64 r1)).setCell ⟨g4, 1, none⟩ (.slice Av1 r2.length cv1)).setCell ⟨g4, 2, none⟩ (.slice Av2 r3.length cv2)).setCell ⟨g4, 3, none⟩ (.slice Av3 r4.length cv3) |>.heap[g4]? = some (.cells #[.int .i64 r1, .slice Av1 r2.length cv1, .slice Av2 r3.length cv2, .slice Av3 r4.length cv3] 27 (0, 0)) := by
     refine blk_put (cs := #[.int .i64 r1, .slice Av1 r2.length cv1, .slice Av2 r3.length cv2, .slice none 0 0]) ?_ 3 _ rfl; refine blk_put (cs := #[.int .i64 r1, .slice Av1 r2.length cv1, .slice none 0 0, .slice none 0 0]) ?_ 2 _ rfl; refine blk_put (cs := #[.int .i64 r1, .slice none 0 0, .slice none 0 0, .slice none 0 0]) ?_ 1 _ rfl; refine blk_put (cs := #[.int .i64 0, .slice none 0 0, .slice none 0 0, .slice none 0 0]) ?_ 0 _ rfl; exact HF4.out
   exact ⟨_, results_cell_row rfl _ _ g4 27 #[.int .i64 r1, .slice Av1 r2.length cv1, .slice Av2 r3.length cv2, .slice Av3 r4.length cv3] (0, 0) _ rfl ((World.putObj_heap_other (by have := blk_lt BK4.out; omega)).trans hc4) Tryz.underlying27 rfl (by kernel_rfl), _, _, _, rfl, Kd.R_lower (XR.R_farP (XR.R_far (XR.R_far (XR.R_far (XR.R_far hv1 hlt4) hlt4) hlt4) hlt4) hltK) hbase, Kd.R_lower (XR.R_farP (XR.R_far (XR.R_far (XR.R_far (XR.R_far hv2 hlt4) hlt4) hlt4) hlt4) hltK) hbase, Kd.R_lower (XR.R_farP (XR.R_far (XR.R_far (XR.R_far (XR.R_far hv3 hlt4) hlt4) hlt4) hlt4) hltK) hbase, XR.below_putObj (by repeat (first | exact HBW.out | refine below_set ?_ GE4.out)) (by have := HB.out.size; omega) (Array.getElem?_eq_some_iff.1 hk0).1 _⟩
 case stop =>
   rintro c pre W _ h _
   exact h.elim
end
/-! ### words_And_1: function 86 -/
def words_And_1.f (a0 : Int) (a1 : Int) : Option (Int) := some (Go.bits .and .i64 a0 a1)
set_option maxHeartbeats 8000000 in
set_option maxRecDepth 100000 in
theorem words_And_1.calls (a0 : Int) (a1 : Int) (r : Int) (w : World) (h : words_And_1.f a0 a1 = some r) :
  Calls Tryz.prog 86 #[.int .i64 a0, .int .i64 a1] w fun e w' => e = .returned (.int .i64 r) ∧ Drawn0 w w' := by
 have H := h
 clear h
 unfold words_And_1.f at H
 obtain rfl := Option.some.inj H
 go_enter Tryz.func86, Tryz.ntmps86
 go_wp2
 go_ret
 exact ⟨by rfl, by repeat (exact Drawn0.refl _)⟩
/-! ### words_both_1: function 108 -/
def words_both_1.f (l0 : List Int) (a1 : Int) : Option (Int) := if a1 < (l0.length : Int) then (if 0 ≤ a1 then (some (rd l0 a1)) else (none)) else (some 0)
set_option maxHeartbeats 8000000 in
set_option maxRecDepth 100000 in
theorem words_both_1.calls (A0 : Option Addr) (c0 : Nat) (l0 : List Int) (a1 : Int) (r : Int) (w : World) (hr0 : Kd.C (Kd.int .i64) w A0 l0.length l0) (hc0 : l0.length ≤ c0) (h : words_both_1.f l0 a1 = some r) :
  Calls Tryz.prog 108 #[.slice A0 l0.length c0, .int .i64 a1] w fun e w' => e = .returned (.int .i64 r) ∧ Drawn0 w w' := by
 have HR0 := Aside0.mk hr0
 have HC0 := Aside0.mk hc0
 clear hr0 hc0
 have H := h
 clear h
 unfold words_both_1.f at H
 replace H := ifd H
 rcases H with ⟨-, c3b0, H⟩ | ⟨-, c3b0, H⟩
 ·replace H := ifn H
  obtain ⟨-, c4b0, H⟩ := H
  obtain rfl := Option.some.inj H
  have p257 : 0 ≤ (a1 : Int) := ad
  have q257 : a1 < (l0.length : Int) := ad
  obtain ⟨ad257, e257, hx257_0⟩ := Kd.at_int HR0.out a1 p257 q257
  cases e257
  replace p257 := eq_true p257
  replace q257 := eq_true q257
  go_enter Tryz.func108, Tryz.ntmps108
  go_wp2
  go_ret
  exact ⟨by rfl, by repeat (exact Drawn0.refl _)⟩
 ·obtain rfl := Option.some.inj H
  go_enter Tryz.func108, Tryz.ntmps108
  go_wp2
  go_ret
  exact ⟨by rfl, by repeat (exact Drawn0.refl _)⟩
/-! ### words_trimmed: function 109 -/
def words_trimmed.l0 : Nat → List Int → Option (List Int)
 | 0, _ => none
 | k + 1, x0 => if (x0.length : Int) > 0 then (if 0 ≤ (wrap64 ((x0.length : Int) - 1)) then (if (wrap64 ((x0.length : Int) - 1)) < (x0.length : Int) then (if (rd x0 (wrap64 ((x0.length : Int) - 1))) = 0 then (if (wrap64 ((x0.length : Int) - 1)) ≤ (x0.length : Int) then (words_trimmed.l0 k (x0.take ((wrap64 ((x0.length : Int) - 1)) : Int).toNat)) else (none)) else (some x0)) else (none)) else (none)) else (some x0)
def words_trimmed.f (k : Nat) (l0 : List Int) : Option (List Int) := words_trimmed.l0 k l0
theorem words_trimmed.l0_succ (k) (a0) : type_of% (@words_trimmed.l0.eq_2 a0 k) := words_trimmed.l0.eq_2 a0 k
set_option maxHeartbeats 8000000 in
set_option maxRecDepth 100000 in
theorem words_trimmed.calls (k : Nat) (P0_ : Nat → Prop) (A0 : Option Addr) (c0 : Nat) (l0 : List Int) (r : List Int) (w : World) (hs0 : Kd.V (Kd.int .i64) 3 w w.heap.size (fun k_ => P0_ k_) (.slice A0 l0.length c0) l0) (h : words_trimmed.f k l0 = some r) :
  Calls Tryz.prog 109 #[.slice A0 l0.length c0] w fun e w' => ∃ v0_ : Value, e = .returned (v0_) ∧ Kd.V (Kd.int .i64) 3 w' w.heap.size (fun k_ => (P0_ k_ ∨ w.heap.size ≤ k_)) v0_ r ∧ Below w.heap.size w w' := by
 have HO0 := Aside0.mk (show Kd.V (Kd.int .i64) 3 w w.heap.size (fun k_ => (P0_ k_ ∨ w.heap.size ≤ k_)) (.slice A0 l0.length c0) l0 from Kd.V_mono hs0 (fun k_ hk => .inl hk))
 have HB := Aside0.mk (Below.refl w.heap.size w)
 have H := h
 clear h
 unfold words_trimmed.f at H
 have H' := Aside0.mk H
 clear H
 go_enter Tryz.func109, Tryz.ntmps109
 go_wp2
 go_loopg [0] k (fun kq v0 w' => ∃ (x0_1 : List Int), Aside0 (words_trimmed.l0 kq x0_1 = some r) ∧ Aside0 (kq ≤ k) ∧ Aside0 (Kd.V (Kd.int .i64) 3 w' w.heap.size (fun k_ => (P0_ k_ ∨ w.heap.size ≤ k_)) v0 x0_1) ∧ Aside0 (Below w.heap.size w w'))
 case atStart => exact ⟨(l0), H', ⟨Nat.le_refl _⟩, ⟨by exact HO0.out⟩, ⟨bh HB.out⟩⟩
 case round =>
  clear H'
  obtain ⟨x0_1, HA, HK1, HO_0, HB⟩ := hrel
  cases gk with
  | zero => exact absurd HA.out (by simp [words_trimmed.l0])
  | succ k1 =>
   have H := HA.out
   clear HA
   simp only [words_trimmed.l0] at H
   replace H := ifd H
   rcases H with ⟨c2, c2b0, H⟩ | ⟨c2, c2b0, H⟩
   ·have c2b1 : decide (0 < x0_1.length) = true := decide_eq_true (by omega)
    clear c2
    obtain ⟨ji3, hji3⟩ : ∃ j_ : Int, (wrap64 ((x0_1.length : Int) - 1)) = j_ := ⟨_, rfl⟩
    replace H : (if 0 ≤ (ji3) then (if (ji3) < (x0_1.length : Int) then (if (rd x0_1 (ji3)) = 0 then (if (ji3) ≤ (x0_1.length : Int) then (words_trimmed.l0 k1 (x0_1.take ((ji3) : Int).toNat)) else (none)) else (some x0_1)) else (none)) else (none)) = some r := by (rw [hji3] at H; exact H)
    have hji3w : (IntKind.i64.wrap ((x0_1.length : Int) - 1)) = ji3 := (i64_w _).trans hji3
    replace H := ifn H
    obtain ⟨-, c4b0, H⟩ := H
    replace H := ifn H
    obtain ⟨-, c5b0, H⟩ := H
    replace H := ife H
    rcases H with ⟨-, c6b0, c6b1, H⟩ | ⟨c6, c6b0, c6b1, H⟩
    ·have c7b0 := eq_true (of_decide_eq_true (by assumption) : 0 ≤ (ji3))
     replace H := ifn H
     obtain ⟨c8, -, H⟩ := H
     have c8b0 := eq_true c8
     have c8b1 : decide ((ji3) ≤ (x0_1.length : Int)) = true := decide_eq_true c8
     clear c8
     obtain ⟨y259, hy259⟩ : ∃ y_ : List Int, y_ = (x0_1.take ((ji3) : Int).toNat) := ⟨_, rfl⟩
     replace H : (words_trimmed.l0 k1 y259) = some r := by (rw [hy259]; with_reducible exact H)
     have Ny259 := Aside0.mk hy259
     clear hy259
     have H' := Aside0.mk H
     clear H
     obtain ⟨Ao9, co9, eo9⟩ := Kd.V_slice HO_0.out
     subst eo9
     have p258 : 0 ≤ ((ji3) : Int) := ad
     have q258 : (ji3) < (x0_1.length : Int) := ad
     obtain ⟨ad258, e258, hx258_0⟩ := Kd.at_int (Kd.V_reads' HO_0.out).2.2 (ji3) p258 q258
     cases e258
     replace p258 := eq_true p258
     replace q258 := eq_true q258
     have q10 : ((ji3) : Int) ≤ ((x0_1.length : Int) : Int) := ad
     obtain ⟨i010, hi010, _, hsz10, _⟩ := info_parts info3
     have hroom10 : x0_1.length ≤ co9 := (Kd.V_reads' HO_0.out).2.1
     have hC10 : Kd.F (Kd.int .i64) _ _ (some ad258) x0_1.length x0_1 := (Kd.V_at (base := w.heap.size) HO_0.out).2.2
     have hcut10 := cut_to (P := Tryz.prog) 25 3 .i64 Tryz.underlying25 hi010 (some ad258) x0_1.length co9 (ji3) (of_decide_eq_true (by assumption)) q10 hroom10
     have hr10 := Kd.F_take (m := ((ji3) : Int).toNat) hC10 (by omega)
     have hy10 : y259.length = ((ji3) : Int).toNat := (by rw [Ny259.out, List.length_take]; omega)
     rw [← Ny259.out] at hr10
     rw [← hy10] at hcut10
     have HO263 := Aside0.mk (show Kd.V (Kd.int .i64) 3 _ w.heap.size _ (.slice (some ad258) y259.length co9) y259 from Kd.V_mk (by omega) hr10)
     have HC263 := Aside0.mk (show y259.length ≤ co9 from by omega)
     clear hr10 hC10 hroom10 hi010 hsz10
     have KY10 := Aside0.mk hy10
     clear hy10
     replace q10 := eq_true q10
     go_wp2
     go_roundg k1
     case measure => have := HK1.out; omega
     case rel => exact ⟨(y259), (by exact H'), ⟨by have := HK1.out; omega⟩, ⟨by exact HO263.out⟩, ⟨bh HB.out⟩⟩
    ·obtain rfl := Option.some.inj H
     obtain ⟨Ao11, co11, eo11⟩ := Kd.V_slice HO_0.out
     subst eo11
     have p258 : 0 ≤ ((ji3) : Int) := ad
     have q258 : (ji3) < (x0_1.length : Int) := ad
     obtain ⟨ad258, e258, hx258_0⟩ := Kd.at_int (Kd.V_reads' HO_0.out).2.2 (ji3) p258 q258
     cases e258
     replace p258 := eq_true p258
     replace q258 := eq_true q258
     go_wp2
     go_ret
     exact ⟨_, by rfl, by exact HO_0.out, bh HB.out⟩
   ·have c2b1 : decide (0 < x0_1.length) = false := decide_eq_false (by omega)
    clear c2
    obtain rfl := Option.some.inj H
    obtain ⟨Ao12, co12, eo12⟩ := Kd.V_slice HO_0.out
    subst eo12
    go_wp2
    go_ret
    exact ⟨_, er, by exact HO_0.out, bh HB.out⟩
/-! ### words_both_fn86: function 85 -/
mutual
def words_both_fn86.j0 : Nat → List Int → List Int → Bool → Option (List Int × Int)
 | 0, _, _, _ => none
 | k + 1, x0, x1, x18 => if x18 = true then (some (([] : List Int), 1)) else (if 0 ≤ (mx (x0.length : Int) (x1.length : Int)) then (if (mx (x0.length : Int) (x1.length : Int) : Int).toNat ≤ 35184372088832 then ((some (List.replicate (mx (x0.length : Int) (x1.length : Int) : Int).toNat 0 : List Int)).bind fun y266 => (words_both_fn86.l0 k x0 x1 y266 (y266.length : Int) 0)) else (none)) else (none))
def words_both_fn86.l0 : Nat → List Int → List Int → List Int → Int → Int → Option (List Int × Int)
 | 0, _, _, _, _, _ => none
 | k + 1, x0, x1, x9, x26, x27 => if x27 < x26 then ((words_both_1.f x0 x27).bind fun t269 => ((words_both_1.f x1 x27).bind fun t270 => ((words_And_1.f t269 t270).bind fun t271 => (if 0 ≤ x27 then (if x27 < (x9.length : Int) then (words_both_fn86.l0 k x0 x1 (x9.set (x27 : Int).toNat t271) x26 (wrap64 (x27 + 1))) else (none)) else (none))))) else ((words_trimmed.f k x9).bind fun t273 => (some (t273, 0)))
end
def words_both_fn86.f (k : Nat) (l0 : List Int) (l1 : List Int)  : Option (List Int × Int) := (words_May.f l0).bind fun t264 => (if t264 = true then ((words_May.f l1).bind fun t265 => (words_both_fn86.j0 k l0 l1 (!t265))) else (words_both_fn86.j0 k l0 l1 true))
theorem words_both_fn86.j0_succ (k) (a0) (a1) (a2) : type_of% (@words_both_fn86.j0.eq_2 a0 a1 a2 k) := words_both_fn86.j0.eq_2 a0 a1 a2 k
theorem words_both_fn86.l0_succ (k) (a0) (a1) (a2) (a3) (a4) : type_of% (@words_both_fn86.l0.eq_2 a0 a1 a2 a3 a4 k) := words_both_fn86.l0.eq_2 a0 a1 a2 a3 a4 k
set_option maxHeartbeats 8000000 in
set_option maxRecDepth 100000 in
theorem words_both_fn86.calls (k : Nat) (A0 : Option Addr) (c0 : Nat) (l0 : List Int) (A1 : Option Addr) (c1 : Nat) (l1 : List Int)  (r1 : List Int) (r2 : Int) (w : World) (hr0 : Kd.C (Kd.int .i64) w A0 l0.length l0) (hc0 : l0.length ≤ c0) (hr1 : Kd.C (Kd.int .i64) w A1 l1.length l1) (hc1 : l1.length ≤ c1) (h : words_both_fn86.f k l0 l1 = some (r1, r2)) :
  Calls Tryz.prog 85 #[.slice A0 l0.length c0, .slice A1 l1.length c1, .func (.func 86) #[] #[]] w fun e w' => ∃ v0_ : Value, e = .returned (.tuple #[v0_, .int .i64 r2]) ∧ Kd.V (Kd.int .i64) 3 w' w.heap.size (fun k_ => (w.heap.size ≤ k_)) v0_ r1 ∧ Below w.heap.size w w' := by
 have HR0 := Aside0.mk hr0
 have HC0 := Aside0.mk hc0
 clear hr0 hc0
 have HR1 := Aside0.mk hr1
 have HC1 := Aside0.mk hc1
 clear hr1 hc1
 have HB := Aside0.mk (Below.refl w.heap.size w)
 have H := h
 clear h
 unfold words_both_fn86.f at H
 have HC4 := Aside0.mk H
 clear H
 go_enter Tryz.func85, Tryz.ntmps85
 go_upto_region 1 with (fail)
 go_cut [18] (fun v18 wc => ∃ (kq : Nat) (x18_3 : Bool), v18 = .bool x18_3 ∧ Aside0 (words_both_fn86.j0 kq l0 l1 x18_3 = some (r1, r2)) ∧ Aside0 (kq ≤ k) ∧ Aside0 (Below w.heap.size w wc))
 case first =>
  have H := HC4.out
  clear HC4
  replace H := bd H
  obtain ⟨t264, A5, H⟩ := H
  replace H := ifb H
  rcases H with ⟨rfl, H⟩ | ⟨rfl, H⟩
  ·replace H := bd H
   obtain ⟨t265, A7, H⟩ := H
   have H' := Aside0.mk H
   clear H
   go_wp2_with (first | ((with_reducible refine gate_callee (f := 80) rfl ?_); refine gL 12 Tryz.func80 #[.slice A0 l0.length c0] ?_; (with_reducible refine (words_May.calls _ _ l0 true _ ?side1 ?side2 A5.out).mono ?_); (case side1 => exact cx (Kd.C_below HR0.out HB.out)); (case side2 => exact HC0.out); rintro e w' ⟨rfl, ⟨nd, rfl⟩⟩; refine ⟨_, rfl, ?_⟩) | (go_at_call 80; (with_reducible refine (words_May.calls _ _ l1 t265 _ ?side1 ?side2 A7.out).mono ?_); (case side1 => repeat (exact (Kd.C_below HR1.out (bh HB.out)))); (case side2 => exact HC1.out); rintro e w' ⟨rfl, ⟨nd, rfl⟩⟩; clear A7))
   go_meet
   case rel => exact ⟨_, (!t265), (by rfl), H', ⟨by omega⟩, ⟨bh HB.out⟩⟩
  ·have H' := Aside0.mk H
   clear H
   go_wp2_with (((with_reducible refine gate_callee (f := 80) rfl ?_); refine gL 12 Tryz.func80 #[.slice A0 l0.length c0] ?_; (with_reducible refine (words_May.calls _ _ l0 false _ ?side1 ?side2 A5.out).mono ?_); (case side1 => exact cx (Kd.C_below HR0.out HB.out)); (case side2 => exact HC0.out); rintro e w' ⟨rfl, ⟨nd, rfl⟩⟩; refine ⟨_, rfl, ?_⟩))
   go_meet
   case rel => exact ⟨_, (true), (by rfl), H', ⟨by omega⟩, ⟨bh HB.out⟩⟩
 case rest =>
  clear HC4
  obtain ⟨kq, x18_3, rfl, HA, HJ3, HB⟩ := hcut
  cases kq with
  | zero => exact absurd HA.out (by simp [words_both_fn86.j0])
  | succ kj3 =>
   have H := HA.out
   clear HA
   simp only [words_both_fn86.j0] at H
   replace H := ifb H
   rcases H with ⟨rfl, H⟩ | ⟨rfl, H⟩
   ·simp only [Option.some.injEq, Prod.mk.injEq] at H
    obtain ⟨rfl, rfl⟩ := H
    go_wp2
    go_ret2
    exact ⟨_, er, Kd.V_nil _ _ _ _ _, bh HB.out⟩
   ·obtain ⟨ji9, hji9⟩ : ∃ j_ : Int, (mx (l0.length : Int) (l1.length : Int)) = j_ := ⟨_, rfl⟩
    replace H : (if 0 ≤ (ji9) then (if (ji9 : Int).toNat ≤ 35184372088832 then ((some (List.replicate (ji9 : Int).toNat 0 : List Int)).bind fun y266 => (words_both_fn86.l0 kj3 l0 l1 y266 (y266.length : Int) 0)) else (none)) else (none)) = some (r1, r2) := by (rw [hji9] at H; exact H)
    have hji9_ : (if (l0.length : Int) < (l1.length : Int) then (l1.length : Int) else (l0.length : Int)) = ji9 := hji9
    have hji9n_ := hji9_
    (simp only [Int.ofNat_lt] at hji9n_)
    replace H := ifn H
    obtain ⟨c10, -, H⟩ := H
    have c10b0 := eq_true c10
    have c10b1 : decide (0 ≤ (ji9)) = true := decide_eq_true c10
    clear c10
    replace H := ifn H
    obtain ⟨c11, -, H⟩ := H
    have c11b0 := eq_true c11
    have c11b1 : decide ((ji9 : Int).toNat ≤ 35184372088832) = true := decide_eq_true c11
    clear c11
    obtain ⟨y266, hy266⟩ : ∃ y_ : List Int, y_ = (List.replicate (ji9 : Int).toNat 0) := ⟨_, rfl⟩
    replace H : (words_both_fn86.l0 kj3 l0 l1 y266 (y266.length : Int) 0) = some (r1, r2) := by (have H2_ := (Option.bind_some _ _).symm.trans H; rw [hy266]; with_reducible exact H2_)
    have Ny266 := Aside0.mk hy266
    clear hy266
    have H' := Aside0.mk H
    clear H
    go_wp2_with (((with_reducible refine gate_dst (N := 24) rfl ?_); refine Kd.R_make (Kd.int .i64) _ 3 rfl (N := 24) rfl 25 _ _ rfl ji9 (by rfl) (by rfl) Tryz.underlying25 (.int .i64 0) 8 info3 rfl (by decide) (by omega) 0 (ok := fun _ => True) (okp := fun _ => True) rfl (fun _ hk => hk) trivial (of_decide_eq_true (by assumption)) (Nat.le_trans (Nat.mul_le_mul_right _ (of_decide_eq_true (by assumption) : ji9.toNat ≤ 35184372088832)) (by omega)) (Below.refl _ _) (Nat.le_refl _) ?_; intro v267 w12 ho13 hb hg_ hnew_; clear hg_ hnew_; (rw [← Ny266.out] at ho13); have HO268 := Aside0.mk (Kd.R_lower (Kd.R_newM (M := fun k_ => (w.heap.size ≤ k_)) ho13 (below_size (bh HB.out)) (fun k_ h_ => h_)) (below_size (bh HB.out))); replace HB := bsa HB hb; clear hb ho13; obtain ⟨Ao14, co14, eo14⟩ := Kd.R_slice HO268.out; subst eo14))
    go_loopg [27] kj3 (fun kq v27 w' => ∃ (x9_2 : List Int) (x27_2 : Int), v27 = .int .i64 x27_2 ∧ Aside0 (words_both_fn86.l0 kq l0 l1 x9_2 (y266.length : Int) x27_2 = some (r1, r2)) ∧ Aside0 (kq ≤ kj3) ∧ Aside0 (Kd.R (Kd.int .i64) 3 w' w.heap.size (fun k_ => (w.heap.size ≤ k_)) (.slice Ao14 y266.length co14) x9_2) ∧ Aside0 (Below w.heap.size w w'))
    case atStart => exact ⟨(y266), (0), (by rfl), H', ⟨Nat.le_refl _⟩, ⟨by exact Kd.R_mono HO268.out (fun _ hk => hk.1)⟩, ⟨bh HB.out⟩⟩
    case round =>
     clear H' c10b0 c10b1 c11b0 c11b1
     obtain ⟨x9_2, x27_2, rfl, HA, HK2, HO_9, HB⟩ := hrel
     have hl9_2 := (Kd.R_reads' HO_9.out).1
     rw [hl9_2] at HO_9
     (simp only [hl9_2])
     cases gk with
     | zero => exact absurd HA.out (by simp [words_both_fn86.l0])
     | succ k2 =>
      have H := HA.out
      clear HA
      simp only [words_both_fn86.l0] at H
      replace H := ifd H
      rcases H with ⟨c15, c15b0, H⟩ | ⟨c15, c15b0, H⟩
      ·((have c15b0l := c15b0; simp only [hl9_2] at c15b0l))
       clear c15
       replace H := bd H
       obtain ⟨t269, A16, H⟩ := H
       replace H := bd H
       obtain ⟨t270, A17, H⟩ := H
       replace H := bd H
       obtain ⟨t271, A18, H⟩ := H
       replace H := ifn H
       obtain ⟨-, c19b0, H⟩ := H
       replace H := ifn H
       obtain ⟨-, c20b0, H⟩ := H
       obtain ⟨y272, hy272⟩ : ∃ y_ : List Int, y_ = (x9_2.set (x27_2 : Int).toNat t271) := ⟨_, rfl⟩
       replace H : (words_both_fn86.l0 k2 l0 l1 y272 (y266.length : Int) (wrap64 (x27_2 + 1))) = some (r1, r2) := by (rw [hy272]; with_reducible exact H)
       have Ny272 := Aside0.mk hy272
       clear hy272
       have H' := Aside0.mk H
       clear H
       go_wp2_with (first | ((with_reducible refine gate_list ?_); refine gate_value rfl ?_; refine goesV_ (some 36) rfl rfl Tryz.func108 (by kernel_rfl) rfl #[.slice A0 l0.length c0, .int .i64 x27_2] rfl (by rfl) (by (simp only [List.map_toArray, List.map_cons, List.map_nil]); rfl) ?_; (with_reducible refine (words_both_1.calls _ _ l0 x27_2 t269 _ ?side1 ?side2 A16.out).mono ?_); (case side1 => exact cx (Kd.C_below HR0.out HB.out)); (case side2 => exact HC0.out); rintro e w' ⟨rfl, ⟨nd, rfl⟩⟩; refine ⟨_, rfl, ?_⟩; ((rw [drewN_self wr]; generalize hq_ : World.drewN wr _ = wr; have n0_ : Aside0 (Kd.R (Kd.int .i64) 3 wr w.heap.size (fun k_ => (w.heap.size ≤ k_)) (.slice Ao14 x9_2.length co14) x9_2) := ⟨by rw [← hq_]; exact (rx HO_9.out)⟩; have n1_ : Aside0 (Below w.heap.size w wr) := ⟨by rw [← hq_]; exact (bh HB.out)⟩; clear HO_9 HB hq_; have HO_9 := n0_; have HB := n1_; clear n0_ n1_))) | ((with_reducible refine gate_list ?_); refine gate_value rfl ?_; refine goesV_ (some 40) rfl rfl Tryz.func108 (by kernel_rfl) rfl #[.slice A1 l1.length c1, .int .i64 x27_2] rfl (by rfl) (by (simp only [List.map_toArray, List.map_cons, List.map_nil]); rfl) ?_; (with_reducible refine (words_both_1.calls _ _ l1 x27_2 t270 _ ?side1 ?side2 A17.out).mono ?_); (case side1 => exact cx (Kd.C_below HR1.out HB.out)); (case side2 => exact HC1.out); rintro e w' ⟨rfl, ⟨nd, rfl⟩⟩; refine ⟨_, rfl, ?_⟩; ((rw [drewN_self wr]; generalize hq_ : World.drewN wr _ = wr; have n0_ : Aside0 (Kd.R (Kd.int .i64) 3 wr w.heap.size (fun k_ => (w.heap.size ≤ k_)) (.slice Ao14 x9_2.length co14) x9_2) := ⟨by rw [← hq_]; exact (rx HO_9.out)⟩; have n1_ : Aside0 (Below w.heap.size w wr) := ⟨by rw [← hq_]; exact (bh HB.out)⟩; clear HO_9 HB hq_; have HO_9 := n0_; have HB := n1_; clear n0_ n1_))) | ((with_reducible refine gate_list ?_); refine gate_value rfl ?_; refine goesV_ (some 41) rfl rfl Tryz.func86 (by kernel_rfl) rfl #[.int .i64 t269, .int .i64 t270] rfl (by rfl) (by (simp only [List.map_toArray, List.map_cons, List.map_nil]); rfl) ?_; (with_reducible refine (words_And_1.calls t269 t270 t271 _ A18.out).mono ?_); rintro e w' ⟨rfl, ⟨nd, rfl⟩⟩; refine ⟨_, rfl, ?_⟩; ((rw [drewN_self wr]; generalize hq_ : World.drewN wr _ = wr; have n0_ : Aside0 (Kd.R (Kd.int .i64) 3 wr w.heap.size (fun k_ => (w.heap.size ≤ k_)) (.slice Ao14 x9_2.length co14) x9_2) := ⟨by rw [← hq_]; exact (rx HO_9.out)⟩; have n1_ : Aside0 (Below w.heap.size w wr) := ⟨by rw [← hq_]; exact (bh HB.out)⟩; clear HO_9 HB hq_; have HO_9 := n0_; have HB := n1_; clear n0_ n1_)); have p21 : 0 ≤ (x27_2 : Int) := ad; have q21 : (x27_2 : Int) < ((x9_2.length : Int) : Int) := ad; obtain ⟨go21, co21, eo21, gb21, gl21, cl21, HG21⟩ := Kd.R_form HO_9.out (by omega); (cases eo21); have GB21 := Aside0.mk gb21; have GG21 := Aside0.mk HG21; clear gb21 gl21 HG21; obtain ⟨hx21_0, hf21_0⟩ := Kd.R_celln 0 HO_9.out (x27_2 : Int) p21 q21; replace p21 := eq_true p21; replace q21 := eq_true q21; obtain ⟨hy22_, hz22_⟩ := Kd.R_celln 0 HO_9.out (x27_2 : Int) (of_decide_eq_true (by assumption)) (of_decide_eq_true (by assumption)); have HP22 := Kd.R_putg HO_9.out (x27_2 : Int) t271) | ((with_reducible refine gate_store (t := 3) (p := 42) rfl ?_); refine stE 3 42 (wr.setCell ⟨go21, (x27_2 : Int).toNat, none⟩ (.int .i64 t271)) ?_; intro w23 hw; have hg : wr.grownBy w23 (some go21) := (by rw [hw]; exact HP22.2); have hp_ : Kd.R (Kd.int .i64) 3 w23 w.heap.size (fun k_ => (w.heap.size ≤ k_)) (.slice (some ⟨go21, 0, none⟩) x9_2.length co14) y272 := (by rw [hw, Ny272.out]; exact HP22.1); clear HP22; replace HO_9 := Aside0.mk (hp_); replace HB := Aside0.mk ((by rw [hw]; exact below_set (HB.out) GB21.out : Below w.heap.size w w23)); clear hg hw hp_))
       (simp only [← hl9_2])
       go_roundg k2
       case measure => have := HJ3.out; have := HK2.out; omega
       case rel => exact ⟨(y272), (wrap64 (x27_2 + 1)), (by rfl), (by exact H'), ⟨by have := HJ3.out; have := HK2.out; omega⟩, ⟨by (simp only [hl9_2]); exact HO_9.out⟩, ⟨bh HB.out⟩⟩
      ·((have c15b0l := c15b0; simp only [hl9_2] at c15b0l))
       clear c15
       replace H := bd H
       obtain ⟨t273, A24, H⟩ := H
       simp only [Option.some.injEq, Prod.mk.injEq] at H
       obtain ⟨rfl, rfl⟩ := H
       go_wp2_with (((with_reducible refine gate_callee (f := 109) rfl ?_); refine gL 45 Tryz.func109 #[.slice Ao14 x9_2.length co14] ?_; (with_reducible refine (words_trimmed.calls k2 (fun k_ => some k_ = (.slice Ao14 x9_2.length co14 : Value).ownBlock) _ _ x9_2 t273 _ ?side1 A24.out).mono ?_); (case side1 => exact Kd.R_V (Kd.R_tight rfl (HO_9.out))); rintro e w25 ⟨v274, rfl, ho0, hb⟩; refine ⟨_, rfl, ?_⟩; have HO275 := Aside0.mk (Kd.V_lower (Kd.V_mono (ok' := fun k_ => (w.heap.size ≤ k_)) ho0 (fun k_ hk_ => Or.elim hk_ (fun hs_ => ((HO_9.out).1 k_ hs_.symm)) (fun hn_ => (Nat.le_trans (below_size (bh HB.out)) hn_)))) (below_size (bh HB.out))); replace HO_9 := rba HO_9 hb; replace HB := bsa HB hb; clear hb ho0))
       go_ret2
       exact ⟨_, by rfl, by exact HO275.out, bh HB.out⟩
/-! ### words_And: function 56 -/
def words_And.f (k : Nat) (l0 : List Int) (l1 : List Int) : Option (List Int × Int) := (words_both_fn86.f k l0 l1).bind fun bt276 => (some (bt276.1, bt276.2))
set_option maxHeartbeats 8000000 in
set_option maxRecDepth 100000 in
theorem words_And.calls (k : Nat) (A0 : Option Addr) (c0 : Nat) (l0 : List Int) (A1 : Option Addr) (c1 : Nat) (l1 : List Int) (r1 : List Int) (r2 : Int) (w : World) (hr0 : Kd.C (Kd.int .i64) w A0 l0.length l0) (hc0 : l0.length ≤ c0) (hr1 : Kd.C (Kd.int .i64) w A1 l1.length l1) (hc1 : l1.length ≤ c1) (h : words_And.f k l0 l1 = some (r1, r2)) :
  Calls Tryz.prog 56 #[.slice A0 l0.length c0, .slice A1 l1.length c1] w fun e w' => ∃ v0_ : Value, e = .returned (.tuple #[v0_, .int .i64 r2]) ∧ Kd.V (Kd.int .i64) 3 w' w.heap.size (fun k_ => (w.heap.size ≤ k_)) v0_ r1 ∧ Below w.heap.size w w' := by
 have HR0 := Aside0.mk hr0
 have HC0 := Aside0.mk hc0
 clear hr0 hc0
 have HR1 := Aside0.mk hr1
 have HC1 := Aside0.mk hc1
 clear hr1 hc1
 have HB := Aside0.mk (Below.refl w.heap.size w)
 have H := h
 clear h
 unfold words_And.f at H
 replace H := bd H
 obtain ⟨⟨t276, t279⟩, A3, H⟩ := H
 dsimp only at H
 simp only [Option.some.injEq, Prod.mk.injEq] at H
 obtain ⟨rfl, rfl⟩ := H
 go_enter Tryz.func56, Tryz.ntmps56
 go_wp2_with (((with_reducible refine gate_callee (f := 85) rfl ?_); refine gL 8 Tryz.func85 #[.slice A0 l0.length c0, .slice A1 l1.length c1, .func (.func 86) #[] #[]] ?_; (with_reducible refine (words_both_fn86.calls k _ _ l0 _ _ l1  t276 t279 _ ?side1 ?side2 ?side3 ?side4 A3.out).mono ?_); (case side1 => exact cx HR0.out); (case side2 => exact HC0.out); (case side3 => exact cx HR1.out); (case side4 => exact HC1.out); rintro e w4 ⟨v277, rfl, ho0, hb⟩; refine ⟨_, rfl, ?_⟩; have HO278 := Aside0.mk (Kd.V_lower (Kd.V_mono (ok' := fun k_ => (w.heap.size ≤ k_)) ho0 (fun k_ hk_ => (Nat.le_trans (below_size (bh HB.out)) hk_))) (below_size (bh HB.out))); replace HB := bsa HB hb; clear hb ho0))
 go_ret2
 exact ⟨_, er, by exact HO278.out, bh HB.out⟩
/-! ### span_And_1: function 88 -/
def span_And_1.f (a0_0 : Int) (a0_1 : Int) (a0_2 : Bool) (a0_3 : Bool) : Option (Bool) := if a0_2 = true then (some a0_3) else (some false)
set_option maxHeartbeats 8000000 in
set_option maxRecDepth 100000 in
theorem span_And_1.calls (a0_0 : Int) (a0_1 : Int) (a0_2 : Bool) (a0_3 : Bool) (r : Bool) (w : World) (h : span_And_1.f a0_0 a0_1 a0_2 a0_3 = some r) :
  Calls Tryz.prog 88 #[.agg #[.int .i64 a0_0, .int .i64 a0_1, .bool a0_2, .bool a0_3]] w fun e w' => e = .returned (.bool r) ∧ Below w.heap.size w w' := by
 have hu98 := Tryz.underlying98
 have HB := Aside0.mk (Below.refl w.heap.size w)
 have H := h
 clear h
 unfold span_And_1.f at H
 replace H := ifb H
 rcases H with ⟨rfl, H⟩ | ⟨rfl, H⟩
 ·obtain rfl := Option.some.inj H
  go_enter Tryz.func88, Tryz.ntmps88
  go_wp2_with (((with_reducible refine gate_dst (N := 1) rfl ?_); refine boxE HB 1 98 #[.int .i64 a0_0, .int .i64 a0_1, .bool true, .bool a0_3] ?_; clear HB; intro gb280 w3 BK280 GW280 hg hb HB; have GE280 := GW280; clear hb hg; obtain ⟨hcz4_0, hcz4_1, hcz4_2, hcz4_3, hfz4_0, hfz4_1, hfz4_2, hfz4_3⟩ := b4 BK280))
  go_ret
  exact ⟨er, bh HB.out⟩
 ·obtain rfl := Option.some.inj H
  go_enter Tryz.func88, Tryz.ntmps88
  go_wp2_with (((with_reducible refine gate_dst (N := 1) rfl ?_); refine boxE HB 1 98 #[.int .i64 a0_0, .int .i64 a0_1, .bool false, .bool a0_3] ?_; clear HB; intro gb280 w5 BK280 GW280 hg hb HB; have GE280 := GW280; clear hb hg; obtain ⟨hcz6_0, hcz6_1, hcz6_2, hcz6_3, hfz6_0, hfz6_1, hfz6_2, hfz6_3⟩ := b4 BK280))
  go_ret
  exact ⟨er, bh HB.out⟩
/-! ### span_edge: function 128 -/
def span_edge.f (a0_0 : Int) (a0_1 : Int) (a1 : Int) : Option (Int) := if a1 < a0_0 then (some a0_0) else (some a0_1)
set_option maxHeartbeats 8000000 in
set_option maxRecDepth 100000 in
theorem span_edge.calls (a0_0 : Int) (a0_1 : Int) (a1 : Int) (r : Int) (w : World) (h : span_edge.f a0_0 a0_1 a1 = some r) :
  Calls Tryz.prog 128 #[.agg #[.int .i64 a0_0, .int .i64 a0_1], .int .i64 a1] w fun e w' => e = .returned (.int .i64 r) ∧ Below w.heap.size w w' := by
 have hu64 := Tryz.underlying64
 have HB := Aside0.mk (Below.refl w.heap.size w)
 have H := h
 clear h
 unfold span_edge.f at H
 replace H := ifd H
 rcases H with ⟨-, c3b0, H⟩ | ⟨-, c3b0, H⟩
 ·obtain rfl := Option.some.inj H
  go_enter Tryz.func128, Tryz.ntmps128
  go_wp2_with (((with_reducible refine gate_dst (N := 2) rfl ?_); refine boxE HB 2 64 #[.int .i64 a0_0, .int .i64 a0_1] ?_; clear HB; intro gb281 w4 BK281 GW281 hg hb HB; have GE281 := GW281; clear hb hg; obtain ⟨hcz5_0, hcz5_1, hfz5_0, hfz5_1⟩ := b2 BK281))
  go_ret
  exact ⟨er, bh HB.out⟩
 ·obtain rfl := Option.some.inj H
  go_enter Tryz.func128, Tryz.ntmps128
  go_wp2_with (((with_reducible refine gate_dst (N := 2) rfl ?_); refine boxE HB 2 64 #[.int .i64 a0_0, .int .i64 a0_1] ?_; clear HB; intro gb281 w6 BK281 GW281 hg hb HB; have GE281 := GW281; clear hb hg; obtain ⟨hcz7_0, hcz7_1, hfz7_0, hfz7_1⟩ := b2 BK281))
  go_ret
  exact ⟨er, bh HB.out⟩
end Go.Proofs.YtjgmdjieandemaaGreat.Print
end
section
namespace Go.Proofs.YtjgmdjieandemaaGreat.Print
open Go.RowKit Go.Proofs.YtjgmdjieandemaaGreatW.PrintWords Go.Proofs.YtjgmdjieandemaaGreatW.PrintLast Go.Proofs.YtjgmdjieandemaaGreatW.PrintMore
attribute [local go_sem] max2_int min2_int max_two min_two max_three min_three max_four min_four   -- for this text's walks alone
set_option linter.unusedVariables false
set_option linter.unusedSimpArgs false
/-! ### span_parts_1: function 127 -/
mutual
def span_parts_1.l0 : Nat → Int → Int → Int → List (S64) → List (S64) → Option (List (S98))
 | 0, _, _, _, _, _ => none
 | k + 1, x16, x17, x18, x283000, x284000 => if x17 < (x283000.length : Int) then (span_parts_1.j1 k x16 x17 x18 true x283000 x284000) else (span_parts_1.j1 k x16 x17 x18 (decide (x18 < (x284000.length : Int))) x283000 x284000)
def span_parts_1.j1 : Nat → Int → Int → Int → Bool → List (S64) → List (S64) → Option (List (S98))
 | 0, _, _, _, _, _, _ => none
 | k + 1, x16, x17, x18, x29, x283000, x284000 => if x29 = true then (if x17 < (x283000.length : Int) then (if 0 ≤ x17 then ((span_edge.f ((rd_T64 x283000 x17).f0) ((rd_T64 x283000 x17).f1) x16).bind fun t287 => (span_parts_1.j2 k x16 x17 x18 x283000 x284000 x16 (mn 65536 t287) (decide (((rd_T64 x283000 x17).f0) ≤ x16)) false)) else (none)) else (span_parts_1.j2 k x16 x17 x18 x283000 x284000 x16 65536 false false)) else (some [])
def span_parts_1.j2 : Nat → Int → Int → Int → List (S64) → List (S64) → Int → Int → Bool → Bool → Option (List (S98))
 | 0, _, _, _, _, _, _, _, _, _ => none
 | k + 1, x16, x17, x18, x283000, x284000, x285000, x285001, x285002, x285003 => if x18 < (x284000.length : Int) then (if 0 ≤ x18 then ((span_edge.f ((rd_T64 x284000 x18).f0) ((rd_T64 x284000 x18).f1) x16).bind fun t290 => (span_parts_1.j3 k x17 x18 x283000 x284000 x285000 (mn x285001 t290) x285002 (decide (((rd_T64 x284000 x18).f0) ≤ x16)))) else (none)) else (span_parts_1.j3 k x17 x18 x283000 x284000 x285000 x285001 x285002 x285003)
def span_parts_1.j3 : Nat → Int → Int → List (S64) → List (S64) → Int → Int → Bool → Bool → Option (List (S98))
 | 0, _, _, _, _, _, _, _, _ => none
 | k + 1, x17, x18, x283000, x284000, x285000, x285001, x285002, x285003 => (if x17 < (x283000.length : Int) then (if 0 ≤ x17 then (span_parts_1.j4 k x285001 x17 x18 (decide (((rd_T64 x283000 x17).f1) ≤ x285001)) x283000 x284000) else (none)) else (span_parts_1.j4 k x285001 x17 x18 false x283000 x284000)).bind fun lr_ => (some ((⟨(⟨x285000, x285001⟩ : S64), x285002, x285003⟩ : S98) :: lr_))
def span_parts_1.j4 : Nat → Int → Int → Int → Bool → List (S64) → List (S64) → Option (List (S98))
 | 0, _, _, _, _, _, _ => none
 | k + 1, x16, x17, x18, x100, x283000, x284000 => if x100 = true then (span_parts_1.j5 k x16 (wrap64 (x17 + 1)) x18 x283000 x284000) else (span_parts_1.j5 k x16 x17 x18 x283000 x284000)
def span_parts_1.j5 : Nat → Int → Int → Int → List (S64) → List (S64) → Option (List (S98))
 | 0, _, _, _, _, _ => none
 | k + 1, x16, x17, x18, x283000, x284000 => if x18 < (x284000.length : Int) then (if 0 ≤ x18 then (span_parts_1.j6 k x16 x17 x18 (decide (((rd_T64 x284000 x18).f1) ≤ x16)) x283000 x284000) else (none)) else (span_parts_1.j6 k x16 x17 x18 false x283000 x284000)
def span_parts_1.j6 : Nat → Int → Int → Int → Bool → List (S64) → List (S64) → Option (List (S98))
 | 0, _, _, _, _, _, _ => none
 | k + 1, x16, x17, x18, x115, x283000, x284000 => if x115 = true then (span_parts_1.l0 k x16 x17 (wrap64 (x18 + 1)) x283000 x284000) else (span_parts_1.l0 k x16 x17 x18 x283000 x284000)
end
def span_parts_1.f (k : Nat) (l0 : List (S64)) (l1 : List (S64)) : Option (List (S98)) := span_parts_1.l0 k 0 0 0 l0 l1
theorem span_parts_1.l0_succ (k) (a0) (a1) (a2) (a3) (a4) : type_of% (@span_parts_1.l0.eq_2 a0 a1 a2 a3 a4 k) := span_parts_1.l0.eq_2 a0 a1 a2 a3 a4 k
theorem span_parts_1.j1_succ (k) (a0) (a1) (a2) (a3) (a4) (a5) : type_of% (@span_parts_1.j1.eq_2 a0 a1 a2 a3 a4 a5 k) := span_parts_1.j1.eq_2 a0 a1 a2 a3 a4 a5 k
theorem span_parts_1.j2_succ (k) (a0) (a1) (a2) (a3) (a4) (a5) (a6) (a7) (a8) : type_of% (@span_parts_1.j2.eq_2 a0 a1 a2 a3 a4 a5 a6 a7 a8 k) := span_parts_1.j2.eq_2 a0 a1 a2 a3 a4 a5 a6 a7 a8 k
theorem span_parts_1.j3_succ (k) (a0) (a1) (a2) (a3) (a4) (a5) (a6) (a7) : type_of% (@span_parts_1.j3.eq_2 a0 a1 a2 a3 a4 a5 a6 a7 k) := span_parts_1.j3.eq_2 a0 a1 a2 a3 a4 a5 a6 a7 k
theorem span_parts_1.j4_succ (k) (a0) (a1) (a2) (a3) (a4) (a5) : type_of% (@span_parts_1.j4.eq_2 a0 a1 a2 a3 a4 a5 k) := span_parts_1.j4.eq_2 a0 a1 a2 a3 a4 a5 k
theorem span_parts_1.j5_succ (k) (a0) (a1) (a2) (a3) (a4) : type_of% (@span_parts_1.j5.eq_2 a0 a1 a2 a3 a4 k) := span_parts_1.j5.eq_2 a0 a1 a2 a3 a4 k
theorem span_parts_1.j6_succ (k) (a0) (a1) (a2) (a3) (a4) (a5) : type_of% (@span_parts_1.j6.eq_2 a0 a1 a2 a3 a4 a5 k) := span_parts_1.j6.eq_2 a0 a1 a2 a3 a4 a5 k
theorem span_parts_1.mono_l : ∀ k, (∀ y0 y1 y2 y3 y4, LeO (span_parts_1.l0 k y0 y1 y2 y3 y4) (span_parts_1.l0 (k + 1) y0 y1 y2 y3 y4)) ∧ (∀ y0 y1 y2 y3 y4 y5, LeO (span_parts_1.j1 k y0 y1 y2 y3 y4 y5) (span_parts_1.j1 (k + 1) y0 y1 y2 y3 y4 y5)) ∧ (∀ y0 y1 y2 y3 y4 y5 y6 y7 y8, LeO (span_parts_1.j2 k y0 y1 y2 y3 y4 y5 y6 y7 y8) (span_parts_1.j2 (k + 1) y0 y1 y2 y3 y4 y5 y6 y7 y8)) ∧ (∀ y0 y1 y2 y3 y4 y5 y6 y7, LeO (span_parts_1.j3 k y0 y1 y2 y3 y4 y5 y6 y7) (span_parts_1.j3 (k + 1) y0 y1 y2 y3 y4 y5 y6 y7)) ∧ (∀ y0 y1 y2 y3 y4 y5, LeO (span_parts_1.j4 k y0 y1 y2 y3 y4 y5) (span_parts_1.j4 (k + 1) y0 y1 y2 y3 y4 y5)) ∧ (∀ y0 y1 y2 y3 y4, LeO (span_parts_1.j5 k y0 y1 y2 y3 y4) (span_parts_1.j5 (k + 1) y0 y1 y2 y3 y4)) ∧ (∀ y0 y1 y2 y3 y4 y5, LeO (span_parts_1.j6 k y0 y1 y2 y3 y4 y5) (span_parts_1.j6 (k + 1) y0 y1 y2 y3 y4 y5))
 | 0 => ⟨fun _ _ _ _ _ r h => by simp [span_parts_1.l0] at h, fun _ _ _ _ _ _ r h => by simp [span_parts_1.j1] at h, fun _ _ _ _ _ _ _ _ _ r h => by simp [span_parts_1.j2] at h, fun _ _ _ _ _ _ _ _ r h => by simp [span_parts_1.j3] at h, fun _ _ _ _ _ _ r h => by simp [span_parts_1.j4] at h, fun _ _ _ _ _ r h => by simp [span_parts_1.j5] at h, fun _ _ _ _ _ _ r h => by simp [span_parts_1.j6] at h⟩
 | k + 1 => by
  obtain ⟨ih0, ih1, ih2, ih3, ih4, ih5, ih6⟩ := span_parts_1.mono_l k
  refine ⟨?_, ?_, ?_, ?_, ?_, ?_, ?_⟩
  ·intro y0 y1 y2 y3 y4
   unfold span_parts_1.l0
   repeat' first | (with_reducible exact ih1 _ _ _ _ _ _) | (with_reducible refine LeO.ite ?_ ?_)
  ·intro y0 y1 y2 y3 y4 y5
   unfold span_parts_1.j1
   repeat' first | (with_reducible exact ih2 _ _ _ _ _ _ _ _ _) | (with_reducible exact LeO.refl _) | (with_reducible refine LeO.ite ?_ ?_) | (with_reducible refine LeO.bind ?_ (fun _ => ?_))
  ·intro y0 y1 y2 y3 y4 y5 y6 y7 y8
   unfold span_parts_1.j2
   repeat' first | (with_reducible exact ih3 _ _ _ _ _ _ _ _) | (with_reducible exact LeO.refl _) | (with_reducible refine LeO.ite ?_ ?_) | (with_reducible refine LeO.bind ?_ (fun _ => ?_))
  ·intro y0 y1 y2 y3 y4 y5 y6 y7
   unfold span_parts_1.j3
   repeat' first | (with_reducible exact ih4 _ _ _ _ _ _) | (with_reducible exact LeO.refl _) | (with_reducible refine LeO.ite ?_ ?_) | (with_reducible refine LeO.bind ?_ (fun _ => ?_))
  ·intro y0 y1 y2 y3 y4 y5
   unfold span_parts_1.j4
   repeat' first | (with_reducible exact ih5 _ _ _ _ _) | (with_reducible refine LeO.ite ?_ ?_)
  ·intro y0 y1 y2 y3 y4
   unfold span_parts_1.j5
   repeat' first | (with_reducible exact ih6 _ _ _ _ _ _) | (with_reducible exact LeO.refl _) | (with_reducible refine LeO.ite ?_ ?_)
  ·intro y0 y1 y2 y3 y4 y5
   unfold span_parts_1.j6
   repeat' first | (with_reducible exact ih0 _ _ _ _ _) | (with_reducible refine LeO.ite ?_ ?_)
theorem span_parts_1.mono : ∀ a0 a1 k, LeO (span_parts_1.f k a0 a1) (span_parts_1.f (k + 1) a0 a1) := by
 intro a0 a1 k
 obtain ⟨ih0, ih1, ih2, ih3, ih4, ih5, ih6⟩ := span_parts_1.mono_l k
 unfold span_parts_1.f
 repeat' (with_reducible exact ih0 _ _ _ _ _)
def span_parts_1.T5 : Bool × List (List Nat × List Nat) := (true, [([], []), ([0], [0]), ([1], [1]), ([], []), ([], []), ([3, 4], [3, 4]), ([5], [5]), ([], []), ([6, 7], [6, 7]), ([2, 8], [2, 8]), ([0, 1, 2, 3, 4, 5, 6, 7, 8, 9], []), ([10, 0, 1, 2, 3, 4, 5, 6, 7, 8, 9], [10]), ([11, 9, 8, 0, 1, 2, 3, 4, 5, 6, 7, 8, 9], [9, 11])])
def span_parts_1.B5 : List Nat := [0, 1, 3, 0, 0, 24, 56, 0, 248, 511, 1023, 2047, 4095]
theorem span_parts_1.tab5 : rtab .any (opsOf Tryz.f127 5) = span_parts_1.T5 := by kernel_rfl
theorem span_parts_1.bits5 : waitsOk span_parts_1.T5.2 span_parts_1.B5 = true := by kernel_rfl
def span_parts_1.T8 : Bool × List (List Nat × List Nat) := (true, [([], []), ([0], [0]), ([1], [1]), ([], []), ([], []), ([3, 4], [3, 4]), ([5], [5]), ([], []), ([6, 7], [6, 7]), ([2, 8], [2, 8]), ([0, 1, 2, 3, 4, 5, 6, 7, 8, 9], []), ([10, 0, 1, 2, 3, 4, 5, 6, 7, 8, 9], [10]), ([11, 9, 8, 0, 1, 2, 3, 4, 5, 6, 7, 8, 9], [9, 11])])
def span_parts_1.B8 : List Nat := [0, 1, 3, 0, 0, 24, 56, 0, 248, 511, 1023, 2047, 4095]
theorem span_parts_1.tab8 : rtab .any (opsOf Tryz.f127 8) = span_parts_1.T8 := by kernel_rfl
theorem span_parts_1.bits8 : waitsOk span_parts_1.T8.2 span_parts_1.B8 = true := by kernel_rfl
set_option maxHeartbeats 8000000 in
set_option maxRecDepth 100000 in
theorem span_parts_1.iter (k : Nat) (A0 : Option Addr) (c0 : Nat) (l0 : List (S64)) (A1 : Option Addr) (c1 : Nat) (l1 : List (S64)) (xs : List (S98)) (w W0 : World) (gb282 gb283 : Nat) (hr0 : Kd.C k64 w A0 l0.length l0) (hc0 : l0.length ≤ c0) (hr1 : Kd.C k64 w A1 l1.length l1) (hc1 : l1.length ≤ c1) (hB0 : Below w.heap.size w W0) (hg0 : W0.heap[gb282]? = some (.cells #[.slice A0 l0.length c0] 22 (0, 0))) (hg1 : W0.heap[gb283]? = some (.cells #[.slice A1 l1.length c1] 22 (0, 0))) (he0 : w.heap.size ≤ gb282) (he1 : w.heap.size ≤ gb283) (hn0_1 : gb282 ≠ gb283) (h : span_parts_1.f k l0 l1 = some xs) :
  XR.Iter Tryz.prog (fun x : S98 => #[.agg #[.int .i64 x.f0.f0, .int .i64 x.f0.f1, .bool x.f1, .bool x.f2]]) w (fun k_ => k_ = gb282 ∨ k_ = gb283) 127 #[.pointer (some ⟨gb282, 0, none⟩), .pointer (some ⟨gb283, 0, none⟩)] xs W0 := by
 intro n_ l_ J_ Jx_ W_ hWs_ hWf_ hJs_ hJxs_ hJB_ hY_ h0_
 refine callsIn_wide.2 ?_
 have hu64 := Tryz.underlying64
 have hu98 := Tryz.underlying98
 have HR0 := Aside0.mk hr0
 have HC0 := Aside0.mk hc0
 clear hr0 hc0
 have HR1 := Aside0.mk hr1
 have HC1 := Aside0.mk hc1
 clear hr1 hc1
 have H : (span_parts_1.l0 k 0 0 0 l0 l1) = some xs := h
 clear h
 have H' := Aside0.mk H
 clear H
 have BK282 := Aside0.mk ((hWf_ _ (Array.getElem?_eq_some_iff.1 hg0).1 (.inl rfl)).trans hg0)
 have GE282 := Aside0.mk he0
 have GW282 := Aside0.mk he0
 have NB282_283 := Aside0.mk hn0_1
 have NB283_282 := Aside0.mk (Ne.symm hn0_1)
 have BK283 := Aside0.mk ((hWf_ _ (Array.getElem?_eq_some_iff.1 hg1).1 (.inr rfl)).trans hg1)
 have GE283 := Aside0.mk he1
 have GW283 := Aside0.mk he1
 have HB := Aside0.mk (XR.b2_refl (hJB_ _ _ _ h0_))
 obtain ⟨G_, HJ_⟩ : ∃ G', Aside0 (J_ G' [] W_) := ⟨_, ⟨h0_⟩⟩
 have HX_ := Aside0.mk (show xs = [] ++ xs from rfl)
 go_enter Tryz.func127, Tryz.ntmps127
 go_wp2
 go_loopg [4, 5, 6] k (fun kq v16 v17 v18 w' => ∃ (G_ : Nat → Prop) (pre_ r : List (S98)) (x16_1 : Int) (x17_1 : Int) (x18_1 : Int), v16 = .int .i64 x16_1 ∧ v17 = .int .i64 x17_1 ∧ v18 = .int .i64 x18_1 ∧ Aside0 (span_parts_1.l0 kq x16_1 x17_1 x18_1 l0 l1 = some r) ∧ Aside0 (xs = pre_ ++ r) ∧ Aside0 (J_ G_ pre_ w') ∧ Aside0 (kq ≤ k) ∧ Aside0 (w'.heap[gb282]? = some (.cells #[(.slice A0 l0.length c0)] 22 (0, 0))) ∧ Aside0 (w'.heap[gb283]? = some (.cells #[(.slice A1 l1.length c1)] 22 (0, 0))) ∧ Aside0 (Below w.heap.size w w'))
 case atStart => exact ⟨XR.grow G_ W_ _, [], xs, (0), (0), (0), (by rfl), (by rfl), (by rfl), H', ⟨HX_.out⟩, ⟨hJs_ _ _ _ _ HJ_.out (XR.B2.two (w := w) (by repeat ((with_reducible exact HB.out))))⟩, ⟨Nat.le_refl _⟩, ⟨bx BK282.out⟩, ⟨bx BK283.out⟩, ⟨XR.B2.one (w1 := W_) (by repeat ((with_reducible exact HB.out)))⟩⟩
 case round =>
  clear H'
  obtain ⟨G_, pre_, r, x16_1, x17_1, x18_1, rfl, rfl, rfl, HA, HX_, HJ_, HK1, BK282, BK283, HB⟩ := hrel
  have HB := Aside0.mk (XR.b2_refl HB.out)
  cases gk with
  | zero => exact absurd HA.out (by simp [span_parts_1.l0])
  | succ k1 =>
   have H := HA.out
   clear HA
   simp only [span_parts_1.l0] at H
   have HC5 := Aside0.mk H
   clear H
   go_upto_region 1 with (go_in)
   go_cut [17] (fun v29 wc => ∃ (kq : Nat) (x29_4 : Bool), v29 = .bool x29_4 ∧ Aside0 (span_parts_1.j1 kq x16_1 x17_1 x18_1 x29_4 l0 l1 = some r) ∧ Aside0 (kq ≤ k1) ∧ Aside0 (wc.heap[gb282]? = some (.cells #[(.slice A0 l0.length c0)] 22 (0, 0))) ∧ Aside0 (wc.heap[gb283]? = some (.cells #[(.slice A1 l1.length c1)] 22 (0, 0))) ∧ Aside0 (XR.B2 w wr wc))
   case first =>
    have H := HC5.out
    clear HC5
    replace H := ifd H
    rcases H with ⟨-, c6b0, H⟩ | ⟨-, c6b0, H⟩
    ·(skip)
     have H' := Aside0.mk H
     clear H
     have hnb7 := NB282_283.out
     have hnc7 := NB283_282.out
     obtain ⟨hcz8_0, hfz8_0⟩ := b1 BK282
     go_wp2
     go_meet
     case rel => exact ⟨_, (true), (by rfl), H', ⟨by have := HK1.out; omega⟩, ⟨bx BK282.out⟩, ⟨bx BK283.out⟩, ⟨by repeat ((with_reducible exact HB.out))⟩⟩
    ·(skip)
     have H' := Aside0.mk H
     clear H
     have hnb9 := NB282_283.out
     have hnc9 := NB283_282.out
     obtain ⟨hcz10_0, hfz10_0⟩ := b1 BK282
     obtain ⟨hcz11_0, hfz11_0⟩ := b1 BK283
     go_wp2
     go_meet
     case rel => exact ⟨_, (decide (x18_1 < (l1.length : Int))), (by rfl), H', ⟨by have := HK1.out; omega⟩, ⟨bx BK282.out⟩, ⟨bx BK283.out⟩, ⟨by repeat ((with_reducible exact HB.out))⟩⟩
   case rest =>
    clear HC5
    obtain ⟨kq, x29_4, rfl, HA, HJ4, BK282, BK283, HB⟩ := hcut
    cases kq with
    | zero => exact absurd HA.out (by simp [span_parts_1.j1])
    | succ kj4 =>
     have H := HA.out
     clear HA
     simp only [span_parts_1.j1] at H
     replace H := ifb H
     rcases H with ⟨rfl, H⟩ | ⟨rfl, H⟩
     ·have HC13 := Aside0.mk H
      clear H
      go_upto_if 24 with (first | ((with_reducible refine gate_dst (N := 7) rfl ?_); ((refine gate_guard (by rfl) ?_; dsimp only)); refine box_event ?hg (N := 7) ?hd (cs := #[.int .i64 0, .int .i64 0, .bool false, .bool false]) (t := 98) ?hr ?_; (case hd => rfl); (case hg => rfl); (case hr => (go_simp; done)); intro gb284 hg w14 hbox hb; have BK284 := Aside0.mk (hbox); have GW284 := Aside0.mk ((by rw [hg]; exact (XR.b2_size (by repeat ((with_reducible exact HB.out)))) : w.heap.size ≤ gb284 ∧ wr.heap.size ≤ gb284)); have GE284 := Aside0.mk ((by rw [hg]; exact (XR.b2_size (by repeat ((with_reducible exact HB.out)))) : w.heap.size ≤ gb284 ∧ wr.heap.size ≤ gb284)); replace HB := Aside0.mk (XR.b2_step (by repeat ((with_reducible exact HB.out))) hb); obtain ⟨NB282_284, NB284_282⟩ := bnm BK282 hg; replace BK282 := bba BK282 hb; obtain ⟨NB283_284, NB284_283⟩ := bnm BK283 hg; replace BK283 := bba BK283 hb; clear hb hbox hg; have hnb15 := NB284_282.out; have hnc15 := NB282_284.out; have hnb16 := NB284_283.out; have hnc16 := NB283_284.out; obtain ⟨hcz17_0, hcz17_1, hcz17_2, hcz17_3, hfz17_0, hfz17_1, hfz17_2, hfz17_3⟩ := b4 BK284) | ((with_reducible refine gate_store (t := 98) (p := 7) rfl ?_); refine stE 98 7 ((((w14.setCell ⟨gb284, 0, none⟩ (.int .i64 x16_1)).setCell ⟨gb284, 1, none⟩ (.int .i64 65536)).setCell ⟨gb284, 2, none⟩ (.bool false)).setCell ⟨gb284, 3, none⟩ (.bool false)) ?_; intro w18 hw; have n0_ : Aside0 (w18.heap[gb282]? = some (.cells #[.slice A0 l0.length c0] 22 (0, 0))) := ⟨(by rw [hw]; exact (bx BK282.out))⟩; have n1_ : Aside0 (w18.heap[gb283]? = some (.cells #[.slice A1 l1.length c1] 22 (0, 0))) := ⟨(by rw [hw]; exact (bx BK283.out))⟩; have n2_ := sps #[.int .i64 x16_1, .int .i64 65536, .bool false, .bool false] BK284 hw (.p (.p (.p (.p .nil)))); have n3_ : Aside0 (XR.B2 w wr w18) := ⟨(by rw [hw]; exact (by repeat ((with_reducible first | exact HB.out | refine XR.b2_set ?_ GE284.out))))⟩; clear hw BK282 BK283 BK284 HB; have BK282 := n0_; have BK283 := n1_; have BK284 := n2_; have HB := n3_; clear n0_ n1_ n2_ n3_; have hnb19 := NB282_283.out; have hnc19 := NB283_282.out; obtain ⟨hcz20_0, hfz20_0⟩ := b1 BK282))
      go_cut [] (fun wc => ∃ (kq : Nat) (x285001_12 : Int) (x285002_12 : Bool), Aside0 (span_parts_1.j2 kq x16_1 x17_1 x18_1 l0 l1 x16_1 x285001_12 x285002_12 false = some r) ∧ Aside0 (kq ≤ kj4) ∧ Aside0 (wc.heap[gb282]? = some (.cells #[(.slice A0 l0.length c0)] 22 (0, 0))) ∧ Aside0 (wc.heap[gb283]? = some (.cells #[(.slice A1 l1.length c1)] 22 (0, 0))) ∧ Aside0 (wc.heap[gb284]? = some (.cells #[.int .i64 x16_1, .int .i64 x285001_12, .bool x285002_12, .bool false] 98 (0, 0))) ∧ Aside0 (XR.B2 w wr wc))
      case first =>
       have H := HC13.out
       clear HC13
       replace H := ifd H
       rcases H with ⟨-, c21b0, H⟩ | ⟨-, c21b0, H⟩
       ·(rw [c21b0])
        replace H := ifn H
        obtain ⟨-, c22b0, H⟩ := H
        replace H := bd H
        obtain ⟨t287, A23, H⟩ := H
        obtain ⟨ji24, hji24⟩ : ∃ j_ : Int, (mn 65536 t287) = j_ := ⟨_, rfl⟩
        replace H : (span_parts_1.j2 kj4 x16_1 x17_1 x18_1 l0 l1 x16_1 ji24 (decide (((rd_T64 l0 x17_1).f0) ≤ x16_1)) false) = some r := by (rw [hji24] at H; exact H)
        ((have hji24h : ji24 ≤ 65536 := by (rw [← hji24]; unfold mn; (repeat' split) <;> omega)))
        have hji24_ : (if t287 < 65536 then t287 else 65536) = ji24 := hji24
        have H' := Aside0.mk H
        clear H
        have hnb25 := NB282_283.out
        have hnc25 := NB283_282.out
        have hnb26 := NB282_284.out
        have hnc26 := NB284_282.out
        obtain ⟨hcz27_0, hfz27_0⟩ := b1 BK282
        have p285 : 0 ≤ (x17_1 : Int) := ad
        have q285 : x17_1 < (l0.length : Int) := ad
        obtain ⟨ad285, e285, hx285_0, hx285_1⟩ := at_T64 HR0.out x17_1 p285 q285
        cases e285
        replace hx285_0 := cb HB.out.cell hx285_0
        replace hx285_1 := cb HB.out.cell hx285_1
        replace p285 := eq_true p285
        replace q285 := eq_true q285
        have hnb28 := NB284_283.out
        have hnc28 := NB283_284.out
        obtain ⟨hcz29_0, hcz29_1, hcz29_2, hcz29_3, hfz29_0, hfz29_1, hfz29_2, hfz29_3⟩ := b4 BK284
        go_wp2
        have n0_ : Aside0 ((w18.setCell ⟨gb284, 2, none⟩ (.bool (decide (((rd_T64 l0 x17_1).f0) ≤ x16_1)))).heap[gb282]? = some (.cells #[.slice (some ad285) l0.length c0] 22 (0, 0))) := ⟨bx BK282.out⟩
        have n1_ : Aside0 ((w18.setCell ⟨gb284, 2, none⟩ (.bool (decide (((rd_T64 l0 x17_1).f0) ≤ x16_1)))).heap[gb283]? = some (.cells #[.slice A1 l1.length c1] 22 (0, 0))) := ⟨bx BK283.out⟩
        have n2_ : Aside0 ((w18.setCell ⟨gb284, 2, none⟩ (.bool (decide (((rd_T64 l0 x17_1).f0) ≤ x16_1)))).heap[gb284]? = some (.cells #[.int .i64 x16_1, .int .i64 65536, .bool (decide (((rd_T64 l0 x17_1).f0) ≤ x16_1)), .bool false] 98 (0, 0))) := ⟨by refine blk_put (cs := #[.int .i64 x16_1, .int .i64 65536, .bool false, .bool false]) ?_ 2 _ rfl; exact BK284.out⟩
        have n3_ : Aside0 (XR.B2 w wr (w18.setCell ⟨gb284, 2, none⟩ (.bool (decide (((rd_T64 l0 x17_1).f0) ≤ x16_1))))) := ⟨by repeat ((with_reducible first | exact HB.out | refine XR.b2_set ?_ GE284.out))⟩
        clear BK282 BK283 BK284 HB
        generalize (w18.setCell ⟨gb284, 2, none⟩ (.bool (decide (((rd_T64 l0 x17_1).f0) ≤ x16_1)))) = w30 at n0_ n1_ n2_ n3_ ⊢
        have BK282 := n0_
        have BK283 := n1_
        have BK284 := n2_
        have HB := n3_
        clear n0_ n1_ n2_ n3_
        replace BK282 := Aside0.mk (blk_drew BK282.out)
        replace BK283 := Aside0.mk (blk_drew BK283.out)
        replace BK284 := Aside0.mk (blk_drew BK284.out)
        replace HB := Aside0.mk (XR.b2_drew1 HB.out)
        have p286 : 0 ≤ (x17_1 : Int) := ad
        have q286 : x17_1 < (l0.length : Int) := ad
        obtain ⟨ad286, e286, hx286_0, hx286_1⟩ := at_T64 HR0.out x17_1 p286 q286
        have hw286_1 := hx286_1
        have hw286_0 := hx286_0
        obtain rfl : ad285 = ad286 := (by injection e286)
        replace hx286_0 := cb HB.out.cell hx286_0
        replace hx286_1 := cb HB.out.cell hx286_1
        replace p286 := eq_true p286
        replace q286 := eq_true q286
        refine start_ (n := 13) (S := fun w' => w'.cell? ⟨gb284, 0, none⟩ = some (.int .i64 x16_1) ∧ w'.cell? ⟨gb284, 1, none⟩ = some (.int .i64 65536) ∧ w'.cell? ⟨gb284, 2, none⟩ = some (.bool (decide (((rd_T64 l0 x17_1).f0) ≤ x16_1))) ∧ w'.cell? ⟨gb284, 3, none⟩ = some (.bool false) ∧ w'.cell? ⟨gb282, 0, none⟩ = some (.slice (some ad285) l0.length c0) ∧ w'.cell? (ad285.add ((x17_1).toNat * 2)) = some (.int .i64 ((rd_T64 l0 x17_1).f0)) ∧ w'.cell? ⟨(ad285.add ((x17_1).toNat * 2)).block, (ad285.add ((x17_1).toNat * 2)).off + 1, none⟩ = some (.int .i64 ((rd_T64 l0 x17_1).f1))) (ds := [12]) #[false, false, false, false, false, false, false, false, false, false, false, false, false] (by kernel_rfl) rfl rfl ⟨(blk_cell BK284.out 0).trans rfl, (blk_cell BK284.out 1).trans rfl, (blk_cell BK284.out 2).trans rfl, (blk_cell BK284.out 3).trans rfl, (blk_cell BK282.out 0).trans rfl, ((HB.out.cell (World.block_lt_of_cell? w _ hw286_0)).trans hw286_0), ((HB.out.cell (World.block_lt_of_cell? w _ hw286_1)).trans hw286_1)⟩ (fun hHeld => ?_); refine with_tabW span_parts_1.tab5 span_parts_1.bits5 (fun HT_ HW_ => ?_)
        generalize w30.drew = w31 at BK282 BK283 BK284 HB hx286_0 hx286_1 hHeld ⊢
        refine puA HT_ 0 33 (bv 13 1) ?_
        refine puA HT_ 1 34 (bv 13 3) ?_
        refine puA HT_ 4 37 (bv 13 19) ?_
        refine puA HT_ 7 40 (bv 13 147) ?_
        refine taA HT_ HW_ hHeld 2 35 (bv 13 151) ?_
        refine taA HT_ HW_ hHeld 3 36 (bv 13 159) ?_
        refine puA HT_ 5 38 (bv 13 191) ?_
        refine taA HT_ HW_ hHeld 6 39 (bv 13 255) ?_
        refine one_ (i := 8) (N := some 41) #[true, true, true, true, true, true, true, true, true, false, false, false, false] rfl rfl (one_of HT_.out (by kernel_rfl)) (by decide) (fun K hK => ?_)
        refine goes_ Tryz.func128 (by kernel_rfl) rfl #[.agg #[.int .i64 ((rd_T64 l0 x17_1).f0), .int .i64 ((rd_T64 l0 x17_1).f1)], .int .i64 x16_1] (by rfl) rfl rfl (by (simp only [List.map_toArray, List.map_cons, List.map_nil]); rfl) ?_
        with_reducible refine (span_edge.calls ((rd_T64 l0 x17_1).f0) ((rd_T64 l0 x17_1).f1) x16_1 t287 _ A23.out).mono ?_
        rintro e w32 ⟨rfl, hb⟩
        refine ⟨_, rfl, ?_⟩
        replace BK282 := bba BK282 hb
        replace BK283 := bba BK283 hb
        replace BK284 := bba BK284 hb
        replace HB := Aside0.mk (XR.b2_step (by repeat ((with_reducible exact HB.out))) hb)
        clear hb
        refine hK.out _ _ ⟨(blk_cell BK284.out 0).trans rfl, (blk_cell BK284.out 1).trans rfl, (blk_cell BK284.out 2).trans rfl, (blk_cell BK284.out 3).trans rfl, (blk_cell BK282.out 0).trans rfl, ((HB.out.cell (World.block_lt_of_cell? w _ hw286_0)).trans hw286_0), ((HB.out.cell (World.block_lt_of_cell? w _ hw286_1)).trans hw286_1)⟩ (fun hHeld => ?_)
        clear hK K
        refine norm_ (a' := ?_) ?_ ?_
        rotate_left
        ·show Act.put _ (some 41) _ = _
         simp only [Act.put, List.setIfInBounds_toArray, List.set_cons_zero, List.set_cons_succ, i64_w, i32_w]
         rfl
        refine puA HT_ 9 42 (bv 13 1023) ?_
        refine puA HT_ 10 43 (bv 13 2047) ?_
        refine puA HT_ 11 44 (bv 13 4095) ?_
        refine last_ (i := 12) (N := none) #[true, true, true, true, true, true, true, true, true, true, true, true, true] rfl rfl (one_of HT_.out (by kernel_rfl)) (by decide) (fun K hK => ?_)
        have hs33 : w32.cell? ⟨gb284, 1, none⟩ = some (.int .i64 65536) := (blk_cell BK284.out 1).trans rfl
        have hfs33 := blk_frozen BK284.out 1
        have hns33_0 := NB282_284.out
        have hns33_1 := NB283_284.out
        have hms33_0 := NB284_282.out
        have hms33_1 := NB284_283.out
        refine skip_ (w1 := ?_) (by rfl) rfl ?_ ?_
        rotate_left
        ·go_simp
         rfl
        refine hK.out _ _ ?_
        clear hK K
        refine done_ (done_of HT_.out (by kernel_rfl)) ?_
        go_wp2
        go_meet
        case rel => exact ⟨_, (ji24), (decide (((rd_T64 l0 x17_1).f0) ≤ x16_1)), (by exact H'), ⟨by have := HK1.out; have := HJ4.out; omega⟩, ⟨bx BK282.out⟩, ⟨bx BK283.out⟩, ⟨by refine blk_put (cs := #[.int .i64 x16_1, .int .i64 65536, .bool (decide (((rd_T64 l0 x17_1).f0) ≤ x16_1)), .bool false]) ?_ 1 _ rfl; exact BK284.out⟩, ⟨by repeat ((with_reducible first | exact HB.out | refine XR.b2_set ?_ GE284.out))⟩⟩
       ·(rw [c21b0])
        have H' := Aside0.mk H
        clear H
        go_wp2
        go_meet
        case rel => exact ⟨_, (65536), (false), H', ⟨by have := HK1.out; have := HJ4.out; omega⟩, ⟨bx BK282.out⟩, ⟨bx BK283.out⟩, ⟨bx BK284.out⟩, ⟨by repeat ((with_reducible exact HB.out))⟩⟩
      case rest =>
       clear HC13 hcz17_0 hcz17_1 hcz17_2 hcz17_3 hcz20_0 hfz17_0 hfz17_1 hfz17_2 hfz17_3 hfz20_0
       obtain ⟨kq, x285001_12, x285002_12, HA, HJ12, BK282, BK283, BK284, HB⟩ := hcut
       cases kq with
       | zero => exact absurd HA.out (by simp [span_parts_1.j2])
       | succ kj12 =>
        have H := HA.out
        clear HA
        simp only [span_parts_1.j2] at H
        have HC34 := Aside0.mk H
        clear H
        have hnb35 := NB283_282.out
        have hnc35 := NB282_283.out
        have hnb36 := NB283_284.out
        have hnc36 := NB284_283.out
        obtain ⟨hcz37_0, hfz37_0⟩ := b1 BK283
        go_upto_if 48 with (go_in)
        go_cut [] (fun wc => ∃ (kq : Nat) (x285001_33 : Int) (x285003_33 : Bool), Aside0 (span_parts_1.j3 kq x17_1 x18_1 l0 l1 x16_1 x285001_33 x285002_12 x285003_33 = some r) ∧ Aside0 (kq ≤ kj12) ∧ Aside0 (wc.heap[gb282]? = some (.cells #[(.slice A0 l0.length c0)] 22 (0, 0))) ∧ Aside0 (wc.heap[gb283]? = some (.cells #[(.slice A1 l1.length c1)] 22 (0, 0))) ∧ Aside0 (wc.heap[gb284]? = some (.cells #[.int .i64 x16_1, .int .i64 x285001_33, .bool x285002_12, .bool x285003_33] 98 (0, 0))) ∧ Aside0 (XR.B2 w wr wc))
        case first =>
         have H := HC34.out
         clear HC34
         replace H := ifd H
         rcases H with ⟨-, c38b0, H⟩ | ⟨-, c38b0, H⟩
         ·(rw [c38b0])
          replace H := ifn H
          obtain ⟨-, c39b0, H⟩ := H
          replace H := bd H
          obtain ⟨t290, A40, H⟩ := H
          obtain ⟨ji41, hji41⟩ : ∃ j_ : Int, (mn x285001_12 t290) = j_ := ⟨_, rfl⟩
          replace H : (span_parts_1.j3 kj12 x17_1 x18_1 l0 l1 x16_1 ji41 x285002_12 (decide (((rd_T64 l1 x18_1).f0) ≤ x16_1))) = some r := by (rw [hji41] at H; exact H)
          have hji41_ : (if t290 < x285001_12 then t290 else x285001_12) = ji41 := hji41
          have H' := Aside0.mk H
          clear H
          have hnb42 := NB283_282.out
          have hnc42 := NB282_283.out
          have hnb43 := NB283_284.out
          have hnc43 := NB284_283.out
          obtain ⟨hcz44_0, hfz44_0⟩ := b1 BK283
          have p288 : 0 ≤ (x18_1 : Int) := ad
          have q288 : x18_1 < (l1.length : Int) := ad
          obtain ⟨ad288, e288, hx288_0, hx288_1⟩ := at_T64 HR1.out x18_1 p288 q288
          cases e288
          replace hx288_0 := cb HB.out.cell hx288_0
          replace hx288_1 := cb HB.out.cell hx288_1
          replace p288 := eq_true p288
          replace q288 := eq_true q288
          have hnb45 := NB284_282.out
          have hnc45 := NB282_284.out
          obtain ⟨hcz46_0, hcz46_1, hcz46_2, hcz46_3, hfz46_0, hfz46_1, hfz46_2, hfz46_3⟩ := b4 BK284
          go_wp2
          have n0_ : Aside0 ((wc.setCell ⟨gb284, 3, none⟩ (.bool (decide (((rd_T64 l1 x18_1).f0) ≤ x16_1)))).heap[gb282]? = some (.cells #[.slice A0 l0.length c0] 22 (0, 0))) := ⟨bx BK282.out⟩
          have n1_ : Aside0 ((wc.setCell ⟨gb284, 3, none⟩ (.bool (decide (((rd_T64 l1 x18_1).f0) ≤ x16_1)))).heap[gb283]? = some (.cells #[.slice (some ad288) l1.length c1] 22 (0, 0))) := ⟨bx BK283.out⟩
          have n2_ : Aside0 ((wc.setCell ⟨gb284, 3, none⟩ (.bool (decide (((rd_T64 l1 x18_1).f0) ≤ x16_1)))).heap[gb284]? = some (.cells #[.int .i64 x16_1, .int .i64 x285001_12, .bool x285002_12, .bool (decide (((rd_T64 l1 x18_1).f0) ≤ x16_1))] 98 (0, 0))) := ⟨by refine blk_put (cs := #[.int .i64 x16_1, .int .i64 x285001_12, .bool x285002_12, .bool false]) ?_ 3 _ rfl; exact BK284.out⟩
          have n3_ : Aside0 (XR.B2 w wr (wc.setCell ⟨gb284, 3, none⟩ (.bool (decide (((rd_T64 l1 x18_1).f0) ≤ x16_1))))) := ⟨by repeat ((with_reducible first | exact HB.out | refine XR.b2_set ?_ GE284.out))⟩
          clear BK282 BK283 BK284 HB
          generalize (wc.setCell ⟨gb284, 3, none⟩ (.bool (decide (((rd_T64 l1 x18_1).f0) ≤ x16_1)))) = w47 at n0_ n1_ n2_ n3_ ⊢
          have BK282 := n0_
          have BK283 := n1_
          have BK284 := n2_
          have HB := n3_
          clear n0_ n1_ n2_ n3_
          replace BK282 := Aside0.mk (blk_drew BK282.out)
          replace BK283 := Aside0.mk (blk_drew BK283.out)
          replace BK284 := Aside0.mk (blk_drew BK284.out)
          replace HB := Aside0.mk (XR.b2_drew1 HB.out)
          have p289 : 0 ≤ (x18_1 : Int) := ad
          have q289 : x18_1 < (l1.length : Int) := ad
          obtain ⟨ad289, e289, hx289_0, hx289_1⟩ := at_T64 HR1.out x18_1 p289 q289
          have hw289_1 := hx289_1
          have hw289_0 := hx289_0
          obtain rfl : ad288 = ad289 := (by injection e289)
          replace hx289_0 := cb HB.out.cell hx289_0
          replace hx289_1 := cb HB.out.cell hx289_1
          replace p289 := eq_true p289
          replace q289 := eq_true q289
          refine start_ (n := 13) (S := fun w' => w'.cell? ⟨gb284, 0, none⟩ = some (.int .i64 x16_1) ∧ w'.cell? ⟨gb284, 1, none⟩ = some (.int .i64 x285001_12) ∧ w'.cell? ⟨gb284, 2, none⟩ = some (.bool x285002_12) ∧ w'.cell? ⟨gb284, 3, none⟩ = some (.bool (decide (((rd_T64 l1 x18_1).f0) ≤ x16_1))) ∧ w'.cell? ⟨gb283, 0, none⟩ = some (.slice (some ad288) l1.length c1) ∧ w'.cell? (ad288.add ((x18_1).toNat * 2)) = some (.int .i64 ((rd_T64 l1 x18_1).f0)) ∧ w'.cell? ⟨(ad288.add ((x18_1).toNat * 2)).block, (ad288.add ((x18_1).toNat * 2)).off + 1, none⟩ = some (.int .i64 ((rd_T64 l1 x18_1).f1))) (ds := [12]) #[false, false, false, false, false, false, false, false, false, false, false, false, false] (by kernel_rfl) rfl rfl ⟨(blk_cell BK284.out 0).trans rfl, (blk_cell BK284.out 1).trans rfl, (blk_cell BK284.out 2).trans rfl, (blk_cell BK284.out 3).trans rfl, (blk_cell BK283.out 0).trans rfl, ((HB.out.cell (World.block_lt_of_cell? w _ hw289_0)).trans hw289_0), ((HB.out.cell (World.block_lt_of_cell? w _ hw289_1)).trans hw289_1)⟩ (fun hHeld => ?_); refine with_tabW span_parts_1.tab8 span_parts_1.bits8 (fun HT_ HW_ => ?_)
          generalize w47.drew = w48 at BK282 BK283 BK284 HB hx289_0 hx289_1 hHeld ⊢
          refine puA HT_ 0 57 (bv 13 1) ?_
          refine puA HT_ 1 58 (bv 13 3) ?_
          refine puA HT_ 4 61 (bv 13 19) ?_
          refine puA HT_ 7 64 (bv 13 147) ?_
          refine taA HT_ HW_ hHeld 2 59 (bv 13 151) ?_
          refine taA HT_ HW_ hHeld 3 60 (bv 13 159) ?_
          refine puA HT_ 5 62 (bv 13 191) ?_
          refine taA HT_ HW_ hHeld 6 63 (bv 13 255) ?_
          refine one_ (i := 8) (N := some 65) #[true, true, true, true, true, true, true, true, true, false, false, false, false] rfl rfl (one_of HT_.out (by kernel_rfl)) (by decide) (fun K hK => ?_)
          refine goes_ Tryz.func128 (by kernel_rfl) rfl #[.agg #[.int .i64 ((rd_T64 l1 x18_1).f0), .int .i64 ((rd_T64 l1 x18_1).f1)], .int .i64 x16_1] (by rfl) rfl rfl (by (simp only [List.map_toArray, List.map_cons, List.map_nil]); rfl) ?_
          with_reducible refine (span_edge.calls ((rd_T64 l1 x18_1).f0) ((rd_T64 l1 x18_1).f1) x16_1 t290 _ A40.out).mono ?_
          rintro e w49 ⟨rfl, hb⟩
          refine ⟨_, rfl, ?_⟩
          replace BK282 := bba BK282 hb
          replace BK283 := bba BK283 hb
          replace BK284 := bba BK284 hb
          replace HB := Aside0.mk (XR.b2_step (by repeat ((with_reducible exact HB.out))) hb)
          clear hb
          refine hK.out _ _ ⟨(blk_cell BK284.out 0).trans rfl, (blk_cell BK284.out 1).trans rfl, (blk_cell BK284.out 2).trans rfl, (blk_cell BK284.out 3).trans rfl, (blk_cell BK283.out 0).trans rfl, ((HB.out.cell (World.block_lt_of_cell? w _ hw289_0)).trans hw289_0), ((HB.out.cell (World.block_lt_of_cell? w _ hw289_1)).trans hw289_1)⟩ (fun hHeld => ?_)
          clear hK K
          refine norm_ (a' := ?_) ?_ ?_
          rotate_left
          ·show Act.put _ (some 65) _ = _
           simp only [Act.put, List.setIfInBounds_toArray, List.set_cons_zero, List.set_cons_succ, i64_w, i32_w]
           rfl
          refine puA HT_ 9 66 (bv 13 1023) ?_
          refine puA HT_ 10 67 (bv 13 2047) ?_
          refine puA HT_ 11 68 (bv 13 4095) ?_
          refine last_ (i := 12) (N := none) #[true, true, true, true, true, true, true, true, true, true, true, true, true] rfl rfl (one_of HT_.out (by kernel_rfl)) (by decide) (fun K hK => ?_)
          have hs50 : w49.cell? ⟨gb284, 1, none⟩ = some (.int .i64 x285001_12) := (blk_cell BK284.out 1).trans rfl
          have hfs50 := blk_frozen BK284.out 1
          have hns50_0 := NB282_284.out
          have hns50_1 := NB283_284.out
          have hms50_0 := NB284_282.out
          have hms50_1 := NB284_283.out
          refine skip_ (w1 := ?_) (by rfl) rfl ?_ ?_
          rotate_left
          ·go_simp
           rfl
          refine hK.out _ _ ?_
          clear hK K
          refine done_ (done_of HT_.out (by kernel_rfl)) ?_
          go_wp2
          go_meet
          case rel => exact ⟨_, (ji41), (decide (((rd_T64 l1 x18_1).f0) ≤ x16_1)), (by exact H'), ⟨by have := HK1.out; have := HJ4.out; have := HJ12.out; omega⟩, ⟨bx BK282.out⟩, ⟨bx BK283.out⟩, ⟨by refine blk_put (cs := #[.int .i64 x16_1, .int .i64 x285001_12, .bool x285002_12, .bool (decide (((rd_T64 l1 x18_1).f0) ≤ x16_1))]) ?_ 1 _ rfl; exact BK284.out⟩, ⟨by repeat ((with_reducible first | exact HB.out | refine XR.b2_set ?_ GE284.out))⟩⟩
         ·(rw [c38b0])
          have H' := Aside0.mk H
          clear H
          go_wp2
          go_meet
          case rel => exact ⟨_, (x285001_12), (false), H', ⟨by have := HK1.out; have := HJ4.out; have := HJ12.out; omega⟩, ⟨bx BK282.out⟩, ⟨bx BK283.out⟩, ⟨bx BK284.out⟩, ⟨by repeat ((with_reducible exact HB.out))⟩⟩
        case rest =>
         clear HC34 hcz37_0 hfz37_0
         obtain ⟨kq, x285001_33, x285003_33, HA, HJ33, BK282, BK283, BK284, HB⟩ := hcut
         cases kq with
         | zero => exact absurd HA.out (by simp [span_parts_1.j3])
         | succ kj33 =>
          have H := HA.out
          clear HA
          simp only [span_parts_1.j3] at H
          replace H := Option.bind_eq_some_iff.mp H
          obtain ⟨r2_, H, hr2_⟩ := H
          replace hr2_ : (⟨(⟨x16_1, x285001_33⟩ : S64), x285002_12, x285003_33⟩ : S98) :: r2_ = r := Option.some.inj hr2_
          have HR2_ := Aside0.mk hr2_
          clear hr2_
          have HC52 := Aside0.mk H
          clear H
          have hnb53 := NB284_282.out
          have hnc53 := NB282_284.out
          have hnb54 := NB284_283.out
          have hnc54 := NB283_284.out
          obtain ⟨hcz55_0, hcz55_1, hcz55_2, hcz55_3, hfz55_0, hfz55_1, hfz55_2, hfz55_3⟩ := b4 BK284
          go_upto_region 9 with (go_in)
          refine (wpIn_wide (n := n_)).1 ?_
          obtain ⟨fn_, tm_, as_, bd_, hy_, hR_⟩ := hY_ pre_ (⟨(⟨x16_1, x285001_33⟩ : S64), x285002_12, x285003_33⟩ : S98) r2_ _ _ (by rw [HX_.out, ← HR2_.out]) (hJs_ _ _ _ _ HJ_.out (XR.B2.two (w := w) HB.out))
          (dsimp only at hy_)
          gi_wp2
          refine ⟨fun hd_ => (by cases hd_), hR_.mono ?_⟩
          rintro e_ w56 (⟨rfl, hJ3_, hsz_, hkp_⟩ | ⟨rfl, hx3_⟩)
          rotate_left
          ·gi_wp2
           go_wp2
           refine bodyPost_ret (results_none rfl _ _ _) rfl ?_
           exact ⟨⟨_, rfl⟩, .inr ⟨pre_ ++ [(⟨(⟨x16_1, x285001_33⟩ : S64), x285002_12, x285003_33⟩ : S98)], ⟨r2_, by rw [HX_.out, ← HR2_.out]; simp⟩, hx3_⟩⟩
          have lt284_ := blk_lt BK284.out
          have lt283_ := blk_lt BK283.out
          have lt282_ := blk_lt BK282.out
          replace BK282 := Aside0.mk ((hkp_ _ lt282_ (.inl (.inl rfl))).trans BK282.out)
          replace BK283 := Aside0.mk ((hkp_ _ lt283_ (.inl (.inr rfl))).trans BK283.out)
          replace BK284 := Aside0.mk ((hkp_ _ lt284_ (.inr (.inr ⟨GE284.out.2, lt284_⟩))).trans BK284.out)
          replace HB := Aside0.mk (XR.b2_refl (hJB_ _ _ _ hJ3_))
          obtain ⟨hcz57_0, hcz57_1, hcz57_2, hcz57_3, hfz57_0, hfz57_1, hfz57_2, hfz57_3⟩ := b4 BK284
          obtain ⟨G_, HJ_, HG284⟩ : ∃ G', Aside0 (J_ G' (pre_ ++ [(⟨(⟨x16_1, x285001_33⟩ : S64), x285002_12, x285003_33⟩ : S98)]) w56) ∧ Aside0 (G' gb284) := ⟨_, ⟨hJ3_⟩, ⟨.inr ⟨GE284.out.2, lt284_⟩⟩⟩
          have HX_ := Aside0.mk (show xs = (pre_ ++ [(⟨(⟨x16_1, x285001_33⟩ : S64), x285002_12, x285003_33⟩ : S98)]) ++ r2_ by rw [HX_.out, ← HR2_.out]; simp)
          clear hJ3_ hkp_
          gi_wp2
          go_upto_region 11 with (go_in)
          go_cut [88] (fun v100 wc => ∃ (kq : Nat) (x100_51 : Bool), v100 = .bool x100_51 ∧ Aside0 (span_parts_1.j4 kq x285001_33 x17_1 x18_1 x100_51 l0 l1 = some r2_) ∧ Aside0 (kq ≤ kj33) ∧ Aside0 (wc.heap[gb282]? = some (.cells #[(.slice A0 l0.length c0)] 22 (0, 0))) ∧ Aside0 (wc.heap[gb283]? = some (.cells #[(.slice A1 l1.length c1)] 22 (0, 0))) ∧ Aside0 (wc.heap[gb284]? = some (.cells #[.int .i64 x16_1, .int .i64 x285001_33, .bool x285002_12, .bool x285003_33] 98 (0, 0))) ∧ Aside0 (XR.B2 w w56 wc))
          case first =>
           have H := HC52.out
           clear HC52
           replace H := ifd H
           rcases H with ⟨-, c58b0, H⟩ | ⟨-, c58b0, H⟩
           ·(skip)
            replace H := ifn H
            obtain ⟨-, c59b0, H⟩ := H
            have H' := Aside0.mk H
            clear H
            have hnb60 := NB282_283.out
            have hnc60 := NB283_282.out
            have hnb61 := NB282_284.out
            have hnc61 := NB284_282.out
            obtain ⟨hcz62_0, hfz62_0⟩ := b1 BK282
            have p291 : 0 ≤ (x17_1 : Int) := ad
            have q291 : x17_1 < (l0.length : Int) := ad
            obtain ⟨ad291, e291, hx291_0, hx291_1⟩ := at_T64 HR0.out x17_1 p291 q291
            cases e291
            replace hx291_0 := cb HB.out.cell hx291_0
            replace hx291_1 := cb HB.out.cell hx291_1
            replace p291 := eq_true p291
            replace q291 := eq_true q291
            go_wp2
            go_meet
            case rel => exact ⟨_, (decide (((rd_T64 l0 x17_1).f1) ≤ x285001_33)), (by rfl), H', ⟨by have := HK1.out; have := HJ4.out; have := HJ12.out; have := HJ33.out; omega⟩, ⟨bx BK282.out⟩, ⟨bx BK283.out⟩, ⟨bx BK284.out⟩, ⟨by repeat ((with_reducible exact HB.out))⟩⟩
           ·(skip)
            have H' := Aside0.mk H
            clear H
            have hnb63 := NB282_283.out
            have hnc63 := NB283_282.out
            have hnb64 := NB282_284.out
            have hnc64 := NB284_282.out
            obtain ⟨hcz65_0, hfz65_0⟩ := b1 BK282
            go_wp2
            go_meet
            case rel => exact ⟨_, (false), (by rfl), H', ⟨by have := HK1.out; have := HJ4.out; have := HJ12.out; have := HJ33.out; omega⟩, ⟨bx BK282.out⟩, ⟨bx BK283.out⟩, ⟨bx BK284.out⟩, ⟨by repeat ((with_reducible exact HB.out))⟩⟩
          case rest =>
           clear HC52 hcz55_0 hcz55_1 hcz55_2 hcz55_3 hcz57_0 hcz57_1 hcz57_2 hcz57_3 hfz55_0 hfz55_1 hfz55_2 hfz55_3 hfz57_0 hfz57_1 hfz57_2 hfz57_3
           obtain ⟨kq, x100_51, rfl, HA, HJ51, BK282, BK283, BK284, HB⟩ := hcut
           cases kq with
           | zero => exact absurd HA.out (by simp [span_parts_1.j4])
           | succ kj51 =>
            have H := HA.out
            clear HA
            simp only [span_parts_1.j4] at H
            have HC66 := Aside0.mk H
            clear H
            go_upto_if 88 with (go_in)
            go_cut [5] (fun v17 wc => ∃ (kq : Nat) (x17_65 : Int), v17 = .int .i64 x17_65 ∧ Aside0 (span_parts_1.j5 kq x285001_33 x17_65 x18_1 l0 l1 = some r2_) ∧ Aside0 (kq ≤ kj51) ∧ Aside0 (wc.heap[gb282]? = some (.cells #[(.slice A0 l0.length c0)] 22 (0, 0))) ∧ Aside0 (wc.heap[gb283]? = some (.cells #[(.slice A1 l1.length c1)] 22 (0, 0))) ∧ Aside0 (wc.heap[gb284]? = some (.cells #[.int .i64 x16_1, .int .i64 x285001_33, .bool x285002_12, .bool x285003_33] 98 (0, 0))) ∧ Aside0 (XR.B2 w w56 wc))
            case first =>
             have H := HC66.out
             clear HC66
             replace H := ifb H
             rcases H with ⟨rfl, H⟩ | ⟨rfl, H⟩
             ·have H' := Aside0.mk H
              clear H
              go_wp2
              go_meet
              case rel => exact ⟨_, (wrap64 (x17_1 + 1)), (by rfl), H', ⟨by have := HK1.out; have := HJ4.out; have := HJ12.out; have := HJ33.out; have := HJ51.out; omega⟩, ⟨bx BK282.out⟩, ⟨bx BK283.out⟩, ⟨bx BK284.out⟩, ⟨by repeat ((with_reducible exact HB.out))⟩⟩
             ·have H' := Aside0.mk H
              clear H
              go_wp2
              go_meet
              case rel => exact ⟨_, (x17_1), (by rfl), H', ⟨by have := HK1.out; have := HJ4.out; have := HJ12.out; have := HJ33.out; have := HJ51.out; omega⟩, ⟨bx BK282.out⟩, ⟨bx BK283.out⟩, ⟨bx BK284.out⟩, ⟨by repeat ((with_reducible exact HB.out))⟩⟩
            case rest =>
             clear HC66
             obtain ⟨kq, x17_65, rfl, HA, HJ65, BK282, BK283, BK284, HB⟩ := hcut
             cases kq with
             | zero => exact absurd HA.out (by simp [span_parts_1.j5])
             | succ kj65 =>
              have H := HA.out
              clear HA
              simp only [span_parts_1.j5] at H
              have HC68 := Aside0.mk H
              clear H
              go_upto_region 13 with (go_in)
              go_cut [103] (fun v115 wc => ∃ (kq : Nat) (x115_67 : Bool), v115 = .bool x115_67 ∧ Aside0 (span_parts_1.j6 kq x285001_33 x17_65 x18_1 x115_67 l0 l1 = some r2_) ∧ Aside0 (kq ≤ kj65) ∧ Aside0 (wc.heap[gb282]? = some (.cells #[(.slice A0 l0.length c0)] 22 (0, 0))) ∧ Aside0 (wc.heap[gb283]? = some (.cells #[(.slice A1 l1.length c1)] 22 (0, 0))) ∧ Aside0 (wc.heap[gb284]? = some (.cells #[.int .i64 x16_1, .int .i64 x285001_33, .bool x285002_12, .bool x285003_33] 98 (0, 0))) ∧ Aside0 (XR.B2 w w56 wc))
              case first =>
               have H := HC68.out
               clear HC68
               replace H := ifd H
               rcases H with ⟨-, c69b0, H⟩ | ⟨-, c69b0, H⟩
               ·(skip)
                replace H := ifn H
                obtain ⟨-, c70b0, H⟩ := H
                have H' := Aside0.mk H
                clear H
                have hnb71 := NB283_282.out
                have hnc71 := NB282_283.out
                have hnb72 := NB283_284.out
                have hnc72 := NB284_283.out
                obtain ⟨hcz73_0, hfz73_0⟩ := b1 BK283
                have p292 : 0 ≤ (x18_1 : Int) := ad
                have q292 : x18_1 < (l1.length : Int) := ad
                obtain ⟨ad292, e292, hx292_0, hx292_1⟩ := at_T64 HR1.out x18_1 p292 q292
                cases e292
                replace hx292_0 := cb HB.out.cell hx292_0
                replace hx292_1 := cb HB.out.cell hx292_1
                replace p292 := eq_true p292
                replace q292 := eq_true q292
                go_wp2
                go_meet
                case rel => exact ⟨_, (decide (((rd_T64 l1 x18_1).f1) ≤ x285001_33)), (by rfl), H', ⟨by have := HK1.out; have := HJ4.out; have := HJ12.out; have := HJ33.out; have := HJ51.out; have := HJ65.out; omega⟩, ⟨bx BK282.out⟩, ⟨bx BK283.out⟩, ⟨bx BK284.out⟩, ⟨by repeat ((with_reducible exact HB.out))⟩⟩
               ·(skip)
                have H' := Aside0.mk H
                clear H
                have hnb74 := NB283_282.out
                have hnc74 := NB282_283.out
                have hnb75 := NB283_284.out
                have hnc75 := NB284_283.out
                obtain ⟨hcz76_0, hfz76_0⟩ := b1 BK283
                go_wp2
                go_meet
                case rel => exact ⟨_, (false), (by rfl), H', ⟨by have := HK1.out; have := HJ4.out; have := HJ12.out; have := HJ33.out; have := HJ51.out; have := HJ65.out; omega⟩, ⟨bx BK282.out⟩, ⟨bx BK283.out⟩, ⟨bx BK284.out⟩, ⟨by repeat ((with_reducible exact HB.out))⟩⟩
              case rest =>
               clear HC68
               obtain ⟨kq, x115_67, rfl, HA, HJ67, BK282, BK283, BK284, HB⟩ := hcut
               cases kq with
               | zero => exact absurd HA.out (by simp [span_parts_1.j6])
               | succ kj67 =>
                have H := HA.out
                clear HA
                simp only [span_parts_1.j6] at H
                replace H := ifb H
                rcases H with ⟨rfl, H⟩ | ⟨rfl, H⟩
                ·have H' := Aside0.mk H
                 clear H
                 go_wp2
                 go_roundg kj67
                 case measure => have := HK1.out; have := HJ4.out; have := HJ12.out; have := HJ33.out; have := HJ51.out; have := HJ65.out; have := HJ67.out; omega
                 case rel => exact ⟨XR.grow G_ w56 _, (pre_ ++ [(⟨(⟨x16_1, x285001_33⟩ : S64), x285002_12, x285003_33⟩ : S98)]), r2_, (x285001_33), (x17_65), (wrap64 (x18_1 + 1)), (by rfl), (by rfl), (by rfl), H', ⟨HX_.out⟩, ⟨hJs_ _ _ _ _ HJ_.out (XR.B2.two (w := w) (by repeat ((with_reducible exact HB.out))))⟩, ⟨by have := HK1.out; have := HJ4.out; have := HJ12.out; have := HJ33.out; have := HJ51.out; have := HJ65.out; have := HJ67.out; omega⟩, ⟨bx BK282.out⟩, ⟨bx BK283.out⟩, ⟨XR.B2.one (w1 := w56) (by repeat ((with_reducible exact HB.out)))⟩⟩
                ·have H' := Aside0.mk H
                 clear H
                 go_wp2
                 go_roundg kj67
                 case measure => have := HK1.out; have := HJ4.out; have := HJ12.out; have := HJ33.out; have := HJ51.out; have := HJ65.out; have := HJ67.out; omega
                 case rel => exact ⟨XR.grow G_ w56 _, (pre_ ++ [(⟨(⟨x16_1, x285001_33⟩ : S64), x285002_12, x285003_33⟩ : S98)]), r2_, (x285001_33), (x17_65), (x18_1), (by rfl), (by rfl), (by rfl), H', ⟨HX_.out⟩, ⟨hJs_ _ _ _ _ HJ_.out (XR.B2.two (w := w) (by repeat ((with_reducible exact HB.out))))⟩, ⟨by have := HK1.out; have := HJ4.out; have := HJ12.out; have := HJ33.out; have := HJ51.out; have := HJ65.out; have := HJ67.out; omega⟩, ⟨bx BK282.out⟩, ⟨bx BK283.out⟩, ⟨XR.B2.one (w1 := w56) (by repeat ((with_reducible exact HB.out)))⟩⟩
     ·obtain rfl : [] = r := Option.some.inj H
      go_wp2
      go_end0
      exact ⟨⟨_, rfl⟩, .inl ⟨_, by have hx_ := HX_.out; rw [List.append_nil] at hx_; rw [hx_]; exact hJs_ _ _ _ _ HJ_.out (XR.B2.two (w := w) (by repeat ((with_reducible exact HB.out))))⟩⟩
end Go.Proofs.YtjgmdjieandemaaGreat.Print
end
