-- Functions and laws: texts of the session's own and of the kit's print program, joined; what nothing names is left out.
import Derived.Test.YtfohecpfenegkaaTA
section
namespace Go.Proofs.Ytfohecpfenegkaa.Print
open Go.RowKit Go.Proofs.YtfohecpfenegkaaW.PrintWords Go.Proofs.YtfohecpfenegkaaW.PrintLast Go.Proofs.YtfohecpfenegkaaW.PrintMore
attribute [local go_sem] max2_int min2_int max_two min_two max_three min_three max_four min_four   -- for this text's walks alone
set_option linter.unusedVariables false
set_option linter.unusedSimpArgs false
/-! ### vint_Take: function 35 -/
def vint_Take.l0 : Nat → ByteArray → Int → Int → Int → Option (Int × Int × Int)
 | 0, _, _, _, _ => none
 | k + 1, x0, x5, x11, x12 => if x12 < x11 then (if 0 ≤ x12 then (if x12 < (x0.size : Int) then (if 0 ≤ (wrap64 (7 * x12)) then (if (bt x0 x12) ≥ 128 then (vint_Take.l0 k x0 (Go.bits .or .u64 x5 (shl .u64 (IntKind.u64.wrap (Go.bits .andNot .u8 (bt x0 x12) 128)) (wrap64 (7 * x12)))) x11 (wrap64 (x12 + 1))) else ((bits_Zag.f (wrap64 (Go.bits .or .u64 x5 (shl .u64 (IntKind.u64.wrap (Go.bits .andNot .u8 (bt x0 x12) 128)) (wrap64 (7 * x12)))))).bind fun t154 => ((vint_Len.f k t154).bind fun t155 => (if t155 = (wrap64 (x12 + 1)) then (if x12 < 9 then (some (t154, wrap64 (x12 + 1), 0)) else (if (bt x0 x12) = 1 then (some (t154, wrap64 (x12 + 1), 0)) else (some (0, 0, 20)))) else (some (0, 0, 20)))))) else (none)) else (none)) else (none)) else (some (0, 0, 20))
def vint_Take.f (k : Nat) (a0 : ByteArray) : Option (Int × Int × Int) := vint_Take.l0 k a0 0 (mn (a0.size : Int) 10) 0
theorem vint_Take.l0_succ (k : Nat) (x0 : ByteArray) (x5 : Int) (x11 : Int) (x12 : Int) : vint_Take.l0 (k + 1) x0 x5 x11 x12 = (if x12 < x11 then (if 0 ≤ x12 then (if x12 < (x0.size : Int) then (if 0 ≤ (wrap64 (7 * x12)) then (if (bt x0 x12) ≥ 128 then (vint_Take.l0 k x0 (Go.bits .or .u64 x5 (shl .u64 (IntKind.u64.wrap (Go.bits .andNot .u8 (bt x0 x12) 128)) (wrap64 (7 * x12)))) x11 (wrap64 (x12 + 1))) else ((bits_Zag.f (wrap64 (Go.bits .or .u64 x5 (shl .u64 (IntKind.u64.wrap (Go.bits .andNot .u8 (bt x0 x12) 128)) (wrap64 (7 * x12)))))).bind fun t154 => ((vint_Len.f k t154).bind fun t155 => (if t155 = (wrap64 (x12 + 1)) then (if x12 < 9 then (some (t154, wrap64 (x12 + 1), 0)) else (if (bt x0 x12) = 1 then (some (t154, wrap64 (x12 + 1), 0)) else (some (0, 0, 20)))) else (some (0, 0, 20)))))) else (none)) else (none)) else (none)) else (some (0, 0, 20))) := by
 simp only [vint_Take.l0]
theorem vint_Take.mono_l : ∀ k, (∀ y0 y1 y2 y3, LeO (vint_Take.l0 k y0 y1 y2 y3) (vint_Take.l0 (k + 1) y0 y1 y2 y3))
 | 0 => fun _ _ _ _ r h => by simp [vint_Take.l0] at h
 | k + 1 => by
  have ih0 := vint_Take.mono_l k
  ·intro y0 y1 y2 y3
   unfold vint_Take.l0
   repeat' first
   | (with_reducible exact ih0 _ _ _ _)
   | (with_reducible exact vint_Len.mono _ _)
   | (with_reducible exact LeO.refl _)
   | (with_reducible exact LeO.none _)
   | (with_reducible refine LeO.ite ?_ ?_)
   | (with_reducible refine LeO.bind ?_ (fun _ => ?_))
   | exact ih0 _ _ _ _
   | exact vint_Len.mono _ _
   | exact LeO.none _
   | refine LeO.ite ?_ ?_
   | refine LeO.bind ?_ (fun _ => ?_)
theorem vint_Take.mono : ∀ a0 k, LeO (vint_Take.f k a0) (vint_Take.f (k + 1) a0) := by
 intro a0 k
 have ih0 := vint_Take.mono_l k
 unfold vint_Take.f
 repeat' first
   | (with_reducible exact ih0 _ _ _ _)
   | (with_reducible exact vint_Len.mono _ _)
   | (with_reducible exact LeO.refl _)
   | (with_reducible exact LeO.none _)
   | (with_reducible refine LeO.ite ?_ ?_)
   | (with_reducible refine LeO.bind ?_ (fun _ => ?_))
   | exact ih0 _ _ _ _
   | exact vint_Len.mono _ _
   | exact LeO.none _
   | refine LeO.ite ?_ ?_
   | refine LeO.bind ?_ (fun _ => ?_)
set_option maxHeartbeats 8000000 in
set_option maxRecDepth 100000 in
theorem vint_Take.calls (k : Nat) (a0 : ByteArray) (r1 : Int) (r2 : Int) (r3 : Int) (w : World) (h : vint_Take.f k a0 = some (r1, r2, r3)) :
  Calls Try.prog 35 #[.string a0] w fun e w' => e = .returned (.tuple #[.int .i64 r1, .int .i64 r2, .int .i64 r3]) ∧ Below w.heap.size w w' := by
 have HB := Aside0.mk (Below.refl w.heap.size w)
 have H : (vint_Take.l0 k a0 0 (mn (a0.size : Int) 10) 0) = some (r1, r2, r3) := h
 clear h
 obtain ⟨ji2, hji2⟩ : ∃ j_ : Int, (mn (a0.size : Int) 10) = j_ := ⟨_, rfl⟩
 replace H : (vint_Take.l0 k a0 0 ji2 0) = some (r1, r2, r3) := by first | (rw [hji2] at H; exact H) | (simp only [hji2] at H ⊢; exact H)
 (try (have hji2h : ji2 ≤ 10 := by (rw [← hji2]; unfold mn; (repeat' split) <;> omega)))
 (try (have hji2g : ji2 ≤ 64 := by omega))
 (try (have hji2l : 0 ≤ ji2 := by (rw [← hji2]; unfold mn; (repeat' split) <;> omega)))
 (try (have hji2m : 0 ≤ ji2 := by omega))
 have hji2_ : (if 10 < (a0.size : Int) then 10 else (a0.size : Int)) = ji2 := hji2
 have H' := Aside0.mk H
 clear H
 go_enter Try.func35, Try.ntmps35
 go_wp2
 go_loopg [5, 12] k (fun kq v5 v12 w' => ∃ (x5_1 : Int) (x12_1 : Int), v5 = .int .u64 x5_1 ∧ v12 = .int .i64 x12_1 ∧ Aside0 (vint_Take.l0 kq a0 x5_1 ji2 x12_1 = some (r1, r2, r3)) ∧ Aside0 (kq ≤ k) ∧ Aside0 (Below w.heap.size w w'))
 case atStart => exact ⟨(0), (0), (by first | rfl | (simp; done) | (simp [*]; done)), (by first | rfl | (simp; done) | (simp [*]; done)), H', ⟨Nat.le_refl _⟩, ⟨bh HB.out⟩⟩
 case round =>
  clear H'
  obtain ⟨x5_1, x12_1, rfl, rfl, HA, HK1, HB⟩ := hrel
  cases gk with
  | zero => exact absurd HA.out (by simp [vint_Take.l0])
  | succ k1 =>
   have H := HA.out
   clear HA
   simp only [vint_Take.l0] at H
   by_cases c3 : x12_1 < ji2
   ·rw [if_pos c3] at H
    have c3b0 : decide (x12_1 < ji2) = true := decide_eq_true c3
    clear c3
    by_cases c4 : 0 ≤ x12_1
    ·rw [if_pos c4] at H
     have c4b0 : decide (0 ≤ x12_1) = true := decide_eq_true c4
     clear c4
     by_cases c5 : x12_1 < (a0.size : Int)
     ·rw [if_pos c5] at H
      have c5b0 : decide (x12_1 < (a0.size : Int)) = true := decide_eq_true c5
      clear c5
      obtain ⟨ji7, hji7⟩ : ∃ j_ : Int, (wrap64 (7 * x12_1)) = j_ := ⟨_, rfl⟩
      replace H : (if 0 ≤ (ji7) then (if (bt a0 x12_1) ≥ 128 then (vint_Take.l0 k1 a0 (Go.bits .or .u64 x5_1 (shl .u64 (IntKind.u64.wrap (Go.bits .andNot .u8 (bt a0 x12_1) 128)) (ji7))) ji2 (wrap64 (x12_1 + 1))) else ((bits_Zag.f (wrap64 (Go.bits .or .u64 x5_1 (shl .u64 (IntKind.u64.wrap (Go.bits .andNot .u8 (bt a0 x12_1) 128)) (ji7))))).bind fun t154 => ((vint_Len.f k1 t154).bind fun t155 => (if t155 = (wrap64 (x12_1 + 1)) then (if x12_1 < 9 then (some (t154, wrap64 (x12_1 + 1), 0)) else (if (bt a0 x12_1) = 1 then (some (t154, wrap64 (x12_1 + 1), 0)) else (some (0, 0, 20)))) else (some (0, 0, 20)))))) else (none)) = some (r1, r2, r3) := by first | (rw [hji7] at H; exact H) | (simp only [hji7] at H ⊢; exact H)
      have hji7w : (IntKind.i64.wrap (7 * x12_1)) = ji7 := (i64_w _).trans hji7
      by_cases c8 : 0 ≤ (ji7)
      ·rw [if_pos c8] at H
       have c8b0 := eq_true c8
       have c8b1 : decide (0 ≤ (ji7)) = true := decide_eq_true c8
       clear c8
       obtain ⟨ji9, hji9⟩ : ∃ j_ : Int, (shl .u64 (IntKind.u64.wrap (Go.bits .andNot .u8 (bt a0 x12_1) 128)) (ji7)) = j_ := ⟨_, rfl⟩
       replace H : (if (bt a0 x12_1) ≥ 128 then (vint_Take.l0 k1 a0 (Go.bits .or .u64 x5_1 (ji9)) ji2 (wrap64 (x12_1 + 1))) else ((bits_Zag.f (wrap64 (Go.bits .or .u64 x5_1 (ji9)))).bind fun t154 => ((vint_Len.f k1 t154).bind fun t155 => (if t155 = (wrap64 (x12_1 + 1)) then (if x12_1 < 9 then (some (t154, wrap64 (x12_1 + 1), 0)) else (if (bt a0 x12_1) = 1 then (some (t154, wrap64 (x12_1 + 1), 0)) else (some (0, 0, 20)))) else (some (0, 0, 20)))))) = some (r1, r2, r3) := by first | (rw [hji9] at H; exact H) | (simp only [hji9] at H ⊢; exact H)
       have hji9_ : (IntKind.u64.wrap ((IntKind.u64.wrap (Go.bits .andNot .u8 (bt a0 x12_1) 128)) * 2 ^ min (ji7).toNat 64)) = ji9 := hji9
       have hji9z : (ji7) ≤ 64 → (IntKind.u64.wrap ((IntKind.u64.wrap (Go.bits .andNot .u8 (bt a0 x12_1) 128)) * 2 ^ (ji7).toNat)) = ji9 := shl_small hji9
       by_cases c10 : (bt a0 x12_1) ≥ 128
       ·rw [if_pos c10] at H
        have c10b0 : decide (128 ≤ (bt a0 x12_1)) = true := decide_eq_true c10
        clear c10
        have H' := Aside0.mk H
        clear H
        have p6 : 0 ≤ (x12_1 : Int) := of_decide_eq_true (by assumption)
        have q6 : x12_1 < (a0.size : Int) := of_decide_eq_true (by assumption)
        have hx6 := bt_at a0 x12_1
        replace p6 := eq_true p6
        replace q6 := eq_true q6
        go_wp2
        go_roundg k1
        case measure => have := HK1.out; omega
        case rel => exact ⟨(Go.bits .or .u64 x5_1 (ji9)), (wrap64 (x12_1 + 1)), (by first | rfl | (simp; done) | (simp only [← hji9] <;> (first | rfl | simp)) | (simp [*]; done)), (by first | rfl | (simp; done) | (simp [*]; done)), (by first | exact H' | (simp only [hji2, hji7, hji9]; exact H')), ⟨by have := HK1.out; omega⟩, ⟨bh HB.out⟩⟩
       ·rw [if_neg c10] at H
        have c10b0 : decide (128 ≤ (bt a0 x12_1)) = false := decide_eq_false c10
        clear c10
        replace H := Option.bind_eq_some_iff.mp H
        obtain ⟨t154, A110, H⟩ := H
        replace H : ((vint_Len.f k1 t154).bind fun t155 => (if t155 = (wrap64 (x12_1 + 1)) then (if x12_1 < 9 then (some (t154, wrap64 (x12_1 + 1), 0)) else (if (bt a0 x12_1) = 1 then (some (t154, wrap64 (x12_1 + 1), 0)) else (some (0, 0, 20)))) else (some (0, 0, 20)))) = some (r1, r2, r3) := H
        have A11 := Aside0.mk A110
        clear A110
        replace H := Option.bind_eq_some_iff.mp H
        obtain ⟨t155, A120, H⟩ := H
        replace H : (if t155 = (wrap64 (x12_1 + 1)) then (if x12_1 < 9 then (some (t154, wrap64 (x12_1 + 1), 0)) else (if (bt a0 x12_1) = 1 then (some (t154, wrap64 (x12_1 + 1), 0)) else (some (0, 0, 20)))) else (some (0, 0, 20))) = some (r1, r2, r3) := H
        have A12 := Aside0.mk A120
        clear A120
        by_cases c13 : t155 = (wrap64 (x12_1 + 1))
        ·rw [if_pos c13] at H
         have c13b0 : (t155 == (wrap64 (x12_1 + 1))) = true := beq_iff_eq.mpr c13
         have c13b1 : (t155 != (wrap64 (x12_1 + 1))) = false := bne_eq_false_iff_eq.mpr c13
         clear c13
         by_cases c14 : x12_1 < 9
         ·rw [if_pos c14] at H
          have c14b0 : decide (x12_1 < 9) = true := decide_eq_true c14
          clear c14
          simp only [Option.some.injEq, Prod.mk.injEq] at H
          obtain ⟨rfl, rfl, rfl⟩ := H
          have p6 : 0 ≤ (x12_1 : Int) := of_decide_eq_true (by assumption)
          have q6 : x12_1 < (a0.size : Int) := of_decide_eq_true (by assumption)
          have hx6 := bt_at a0 x12_1
          replace p6 := eq_true p6
          replace q6 := eq_true q6
          go_wp2_with (first | ((with_reducible refine gate_callee (f := 61) rfl ?_); refine goesL_ (some 30) rfl rfl Try.func61 (by kernel_rfl) rfl #[.int .i64 (wrap64 (Go.bits .or .u64 x5_1 (ji9)))] rfl (by (try simp only [List.map_toArray, List.map_cons, List.map_nil]); first | done | (simp only [hji9]; rfl) | rfl | (simp only [List.length_drop, List.length_take]; rfl)) ?_; (with_reducible refine (bits_Zag.calls (wrap64 (Go.bits .or .u64 x5_1 (ji9))) t154 _ A11.out).mono ?_); rintro e w' ⟨rfl, ⟨nd, rfl⟩⟩; refine ⟨_, rfl, ?_⟩) | ((with_reducible refine gate_callee (f := 62) rfl ?_); refine goesL_ (some 32) rfl rfl Try.func62 (by kernel_rfl) rfl #[.int .i64 t154] rfl (by (try simp only [List.map_toArray, List.map_cons, List.map_nil]); first | done | rfl) ?_; (with_reducible refine (vint_Len.calls k1 t154 t155 _ A12.out).mono ?_); rintro e w15 ⟨rfl, hb⟩; refine ⟨_, rfl, ?_⟩; replace HB := bsa HB hb; (try clear hb)))
          go_ret3
          exact ⟨by first | rfl | (simp [errW_none, errW_some] <;> rfl) | (simp only [← hji2, ← hji7, ← hji9]; first | rfl | (simp [errW_none, errW_some] <;> rfl)) | (simp [*, errW_none, errW_some] <;> rfl), bh HB.out⟩
         ·rw [if_neg c14] at H
          have c14b0 : decide (x12_1 < 9) = false := decide_eq_false c14
          clear c14
          by_cases c16 : (bt a0 x12_1) = 1
          ·rw [if_pos c16] at H
           have c16b0 : ((bt a0 x12_1) == 1) = true := beq_iff_eq.mpr c16
           have c16b1 : ((bt a0 x12_1) != 1) = false := bne_eq_false_iff_eq.mpr c16
           clear c16
           simp only [Option.some.injEq, Prod.mk.injEq] at H
           obtain ⟨rfl, rfl, rfl⟩ := H
           have p6 : 0 ≤ (x12_1 : Int) := of_decide_eq_true (by assumption)
           have q6 : x12_1 < (a0.size : Int) := of_decide_eq_true (by assumption)
           have hx6 := bt_at a0 x12_1
           replace p6 := eq_true p6
           replace q6 := eq_true q6
           go_wp2_with (first | ((with_reducible refine gate_callee (f := 61) rfl ?_); refine goesL_ (some 30) rfl rfl Try.func61 (by kernel_rfl) rfl #[.int .i64 (wrap64 (Go.bits .or .u64 x5_1 (ji9)))] rfl (by (try simp only [List.map_toArray, List.map_cons, List.map_nil]); first | done | (simp only [hji9]; rfl) | rfl | (simp only [List.length_drop, List.length_take]; rfl)) ?_; (with_reducible refine (bits_Zag.calls (wrap64 (Go.bits .or .u64 x5_1 (ji9))) t154 _ A11.out).mono ?_); rintro e w' ⟨rfl, ⟨nd, rfl⟩⟩; refine ⟨_, rfl, ?_⟩) | ((with_reducible refine gate_callee (f := 62) rfl ?_); refine goesL_ (some 32) rfl rfl Try.func62 (by kernel_rfl) rfl #[.int .i64 t154] rfl (by (try simp only [List.map_toArray, List.map_cons, List.map_nil]); first | done | rfl) ?_; (with_reducible refine (vint_Len.calls k1 t154 t155 _ A12.out).mono ?_); rintro e w17 ⟨rfl, hb⟩; refine ⟨_, rfl, ?_⟩; replace HB := bsa HB hb; (try clear hb)))
           go_ret3
           exact ⟨by first | rfl | (simp [errW_none, errW_some] <;> rfl) | (simp only [← hji2, ← hji7, ← hji9]; first | rfl | (simp [errW_none, errW_some] <;> rfl)) | (simp [*, errW_none, errW_some] <;> rfl), bh HB.out⟩
          ·rw [if_neg c16] at H
           have c16b0 : ((bt a0 x12_1) == 1) = false := beq_eq_false_iff_ne.mpr c16
           have c16b1 : ((bt a0 x12_1) != 1) = true := bne_iff_ne.mpr c16
           simp only [Option.some.injEq, Prod.mk.injEq] at H
           obtain ⟨rfl, rfl, rfl⟩ := H
           have p6 : 0 ≤ (x12_1 : Int) := of_decide_eq_true (by assumption)
           have q6 : x12_1 < (a0.size : Int) := of_decide_eq_true (by assumption)
           have hx6 := bt_at a0 x12_1
           replace p6 := eq_true p6
           replace q6 := eq_true q6
           go_wp2_with (first | ((with_reducible refine gate_callee (f := 61) rfl ?_); refine goesL_ (some 30) rfl rfl Try.func61 (by kernel_rfl) rfl #[.int .i64 (wrap64 (Go.bits .or .u64 x5_1 (ji9)))] rfl (by (try simp only [List.map_toArray, List.map_cons, List.map_nil]); first | done | (simp only [hji9]; rfl) | rfl | (simp only [List.length_drop, List.length_take]; rfl)) ?_; (with_reducible refine (bits_Zag.calls (wrap64 (Go.bits .or .u64 x5_1 (ji9))) t154 _ A11.out).mono ?_); rintro e w' ⟨rfl, ⟨nd, rfl⟩⟩; refine ⟨_, rfl, ?_⟩) | ((with_reducible refine gate_callee (f := 62) rfl ?_); refine goesL_ (some 32) rfl rfl Try.func62 (by kernel_rfl) rfl #[.int .i64 t154] rfl (by (try simp only [List.map_toArray, List.map_cons, List.map_nil]); first | done | rfl) ?_; (with_reducible refine (vint_Len.calls k1 t154 t155 _ A12.out).mono ?_); rintro e w18 ⟨rfl, hb⟩; refine ⟨_, rfl, ?_⟩; replace HB := bsa HB hb; (try clear hb)))
           go_ret3
           exact ⟨by first | rfl | (simp [errW_none, errW_some] <;> rfl) | (simp only [← hji2, ← hji7, ← hji9]; first | rfl | (simp [errW_none, errW_some] <;> rfl)) | (simp [*, errW_none, errW_some] <;> rfl), bh HB.out⟩
        ·rw [if_neg c13] at H
         have c13b0 : (t155 == (wrap64 (x12_1 + 1))) = false := beq_eq_false_iff_ne.mpr c13
         have c13b1 : (t155 != (wrap64 (x12_1 + 1))) = true := bne_iff_ne.mpr c13
         simp only [Option.some.injEq, Prod.mk.injEq] at H
         obtain ⟨rfl, rfl, rfl⟩ := H
         have p6 : 0 ≤ (x12_1 : Int) := of_decide_eq_true (by assumption)
         have q6 : x12_1 < (a0.size : Int) := of_decide_eq_true (by assumption)
         have hx6 := bt_at a0 x12_1
         replace p6 := eq_true p6
         replace q6 := eq_true q6
         go_wp2_with (first | ((with_reducible refine gate_callee (f := 61) rfl ?_); refine goesL_ (some 30) rfl rfl Try.func61 (by kernel_rfl) rfl #[.int .i64 (wrap64 (Go.bits .or .u64 x5_1 (ji9)))] rfl (by (try simp only [List.map_toArray, List.map_cons, List.map_nil]); first | done | (simp only [hji9]; rfl) | rfl | (simp only [List.length_drop, List.length_take]; rfl)) ?_; (with_reducible refine (bits_Zag.calls (wrap64 (Go.bits .or .u64 x5_1 (ji9))) t154 _ A11.out).mono ?_); rintro e w' ⟨rfl, ⟨nd, rfl⟩⟩; refine ⟨_, rfl, ?_⟩) | ((with_reducible refine gate_callee (f := 62) rfl ?_); refine goesL_ (some 32) rfl rfl Try.func62 (by kernel_rfl) rfl #[.int .i64 t154] rfl (by (try simp only [List.map_toArray, List.map_cons, List.map_nil]); first | done | rfl) ?_; (with_reducible refine (vint_Len.calls k1 t154 t155 _ A12.out).mono ?_); rintro e w19 ⟨rfl, hb⟩; refine ⟨_, rfl, ?_⟩; replace HB := bsa HB hb; (try clear hb)))
         go_ret3
         exact ⟨by first | rfl | (simp [errW_none, errW_some] <;> rfl) | (simp only [← hji2, ← hji7, ← hji9]; first | rfl | (simp [errW_none, errW_some] <;> rfl)) | (simp [*, errW_none, errW_some] <;> rfl), bh HB.out⟩
      ·rw [if_neg c8] at H
       exact absurd H (by simp)
     ·rw [if_neg c5] at H
      exact absurd H (by simp)
    ·rw [if_neg c4] at H
     exact absurd H (by simp)
   ·rw [if_neg c3] at H
    have c3b0 : decide (x12_1 < ji2) = false := decide_eq_false c3
    clear c3
    simp only [Option.some.injEq, Prod.mk.injEq] at H
    obtain ⟨rfl, rfl, rfl⟩ := H
    go_wp2
    go_ret3
    exact ⟨by first | rfl | (simp [errW_none, errW_some] <;> rfl) | (simp only [← hji2]; first | rfl | (simp [errW_none, errW_some] <;> rfl)) | (simp [*, errW_none, errW_some] <;> rfl), bh HB.out⟩
/-! ### dict_TakeInts_1: function 34 -/
def dict_TakeInts_1.f (k : Nat) (a0 : ByteArray) : Option (Int × Int) := (vint_Take.f k a0).bind fun bt156 => (if bt156.2.2 = 0 then (some (bt156.1, bt156.2.1)) else (some (0, 0)))
theorem dict_TakeInts_1.mono : ∀ a0 k, LeO (dict_TakeInts_1.f k a0) (dict_TakeInts_1.f (k + 1) a0) := by
 intro a0 k
 unfold dict_TakeInts_1.f
 repeat' first
   | (with_reducible exact vint_Take.mono _ _)
   | (with_reducible exact LeO.refl _)
   | (with_reducible exact LeO.none _)
   | (with_reducible refine LeO.ite ?_ ?_)
   | (with_reducible refine LeO.bind ?_ (fun _ => ?_))
   | exact vint_Take.mono _ _
   | exact LeO.none _
   | refine LeO.ite ?_ ?_
   | refine LeO.bind ?_ (fun _ => ?_)
set_option maxHeartbeats 8000000 in
set_option maxRecDepth 100000 in
theorem dict_TakeInts_1.calls (k : Nat) (a0 : ByteArray) (r1 : Int) (r2 : Int) (w : World) (h : dict_TakeInts_1.f k a0 = some (r1, r2)) :
  Calls Try.prog 34 #[.string a0] w fun e w' => e = .returned (.tuple #[.int .i64 r1, .int .i64 r2]) ∧ Below w.heap.size w w' := by
 have HB := Aside0.mk (Below.refl w.heap.size w)
 have H : ((vint_Take.f k a0).bind fun bt156 => (if bt156.2.2 = 0 then (some (bt156.1, bt156.2.1)) else (some (0, 0)))) = some (r1, r2) := h
 clear h
 replace H := Option.bind_eq_some_iff.mp H
 obtain ⟨⟨t156, t157, t158⟩, A20, H⟩ := H
 replace H : (if t158 = 0 then (some (t156, t157)) else (some (0, 0))) = some (r1, r2) := H
 have A2 := Aside0.mk A20
 clear A20
 by_cases c3 : t158 = 0
 ·rw [if_pos c3] at H
  have c3b0 : (t158 == 0) = true := beq_iff_eq.mpr c3
  have c3b1 : (t158 != 0) = false := bne_eq_false_iff_eq.mpr c3
  clear c3
  simp only [Option.some.injEq, Prod.mk.injEq] at H
  obtain ⟨rfl, rfl⟩ := H
  go_enter Try.func34, Try.ntmps34
  go_wp2_with (first | ((with_reducible refine gate_callee (f := 35) rfl ?_); refine goesL_ (some 9) rfl rfl Try.func35 (by kernel_rfl) rfl #[.string a0] rfl (by (try simp only [List.map_toArray, List.map_cons, List.map_nil]); first | done | rfl) ?_; (with_reducible refine (vint_Take.calls k a0 t156 t157 t158 _ A2.out).mono ?_); rintro e w4 ⟨rfl, hb⟩; refine ⟨_, rfl, ?_⟩; replace HB := bsa HB hb; (try clear hb)))
  go_ret2
  exact ⟨er, bh HB.out⟩
 ·rw [if_neg c3] at H
  have c3b0 : (t158 == 0) = false := beq_eq_false_iff_ne.mpr c3
  have c3b1 : (t158 != 0) = true := bne_iff_ne.mpr c3
  simp only [Option.some.injEq, Prod.mk.injEq] at H
  obtain ⟨rfl, rfl⟩ := H
  go_enter Try.func34, Try.ntmps34
  go_wp2_with (first | ((with_reducible refine gate_callee (f := 35) rfl ?_); refine goesL_ (some 9) rfl rfl Try.func35 (by kernel_rfl) rfl #[.string a0] rfl (by (try simp only [List.map_toArray, List.map_cons, List.map_nil]); first | done | rfl) ?_; (with_reducible refine (vint_Take.calls k a0 t156 t157 t158 _ A2.out).mono ?_); rintro e w5 ⟨rfl, hb⟩; refine ⟨_, rfl, ?_⟩; replace HB := bsa HB hb; (try clear hb)))
  go_ret2
  exact ⟨er, bh HB.out⟩
/-! ### pack_word: function 93 -/
def pack_word.l0 : Nat → ByteArray → Int → Int → Int → Int → Option (Int)
 | 0, _, _, _, _, _ => none
 | k + 1, x0, x2, x7, x8, x9 => if x9 < x2 then (if 0 ≤ (x8 / 8) then (if (x8 / 8) < (x0.size : Int) then (if 0 ≤ (Go.bits .and .i64 x8 7) then ((bits_Mask.f (mn (wrap64 (8 - (Go.bits .and .i64 x8 7))) (wrap64 (x2 - x9)))).bind fun t159 => (if 0 ≤ x9 then (pack_word.l0 k x0 x2 (Go.bits .or .u64 x7 (shl .u64 (Go.bits .and .u64 (shr .u64 (IntKind.u64.wrap (bt x0 (x8 / 8))) (Go.bits .and .i64 x8 7)) (IntKind.u64.wrap (t159))) x9)) (wrap64 (x8 + (mn (wrap64 (8 - (Go.bits .and .i64 x8 7))) (wrap64 (x2 - x9))))) (wrap64 (x9 + (mn (wrap64 (8 - (Go.bits .and .i64 x8 7))) (wrap64 (x2 - x9)))))) else (none))) else (none)) else (none)) else (none)) else (some (wrap64 (x7)))
def pack_word.f (k : Nat) (a0 : ByteArray) (a1 : Int) (a2 : Int) : Option (Int) := pack_word.l0 k a0 a2 0 (wrap64 (a1 * a2)) 0
theorem pack_word.l0_succ (k : Nat) (x0 : ByteArray) (x2 : Int) (x7 : Int) (x8 : Int) (x9 : Int) : pack_word.l0 (k + 1) x0 x2 x7 x8 x9 = (if x9 < x2 then (if 0 ≤ (x8 / 8) then (if (x8 / 8) < (x0.size : Int) then (if 0 ≤ (Go.bits .and .i64 x8 7) then ((bits_Mask.f (mn (wrap64 (8 - (Go.bits .and .i64 x8 7))) (wrap64 (x2 - x9)))).bind fun t159 => (if 0 ≤ x9 then (pack_word.l0 k x0 x2 (Go.bits .or .u64 x7 (shl .u64 (Go.bits .and .u64 (shr .u64 (IntKind.u64.wrap (bt x0 (x8 / 8))) (Go.bits .and .i64 x8 7)) (IntKind.u64.wrap (t159))) x9)) (wrap64 (x8 + (mn (wrap64 (8 - (Go.bits .and .i64 x8 7))) (wrap64 (x2 - x9))))) (wrap64 (x9 + (mn (wrap64 (8 - (Go.bits .and .i64 x8 7))) (wrap64 (x2 - x9)))))) else (none))) else (none)) else (none)) else (none)) else (some (wrap64 (x7)))) := by
 simp only [pack_word.l0]
theorem pack_word.mono_l : ∀ k, (∀ y0 y1 y2 y3 y4, LeO (pack_word.l0 k y0 y1 y2 y3 y4) (pack_word.l0 (k + 1) y0 y1 y2 y3 y4))
 | 0 => fun _ _ _ _ _ r h => by simp [pack_word.l0] at h
 | k + 1 => by
  have ih0 := pack_word.mono_l k
  ·intro y0 y1 y2 y3 y4
   unfold pack_word.l0
   repeat' first
   | (with_reducible exact ih0 _ _ _ _ _)
   | (with_reducible exact LeO.refl _)
   | (with_reducible exact LeO.none _)
   | (with_reducible refine LeO.ite ?_ ?_)
   | (with_reducible refine LeO.bind ?_ (fun _ => ?_))
   | exact ih0 _ _ _ _ _
   | exact LeO.none _
   | refine LeO.ite ?_ ?_
   | refine LeO.bind ?_ (fun _ => ?_)
theorem pack_word.mono : ∀ a0 a1 a2 k, LeO (pack_word.f k a0 a1 a2) (pack_word.f (k + 1) a0 a1 a2) := by
 intro a0 a1 a2 k
 have ih0 := pack_word.mono_l k
 unfold pack_word.f
 repeat' first
   | (with_reducible exact ih0 _ _ _ _ _)
   | (with_reducible exact LeO.refl _)
   | (with_reducible exact LeO.none _)
   | (with_reducible refine LeO.ite ?_ ?_)
   | (with_reducible refine LeO.bind ?_ (fun _ => ?_))
   | exact ih0 _ _ _ _ _
   | exact LeO.none _
   | refine LeO.ite ?_ ?_
   | refine LeO.bind ?_ (fun _ => ?_)
set_option maxHeartbeats 8000000 in
set_option maxRecDepth 100000 in
theorem pack_word.calls (k : Nat) (a0 : ByteArray) (a1 : Int) (a2 : Int) (r : Int) (w : World) (h : pack_word.f k a0 a1 a2 = some r) :
  Calls Try.prog 93 #[.string a0, .int .i64 a1, .int .i64 a2] w fun e w' => e = .returned (.int .i64 r) ∧ Below w.heap.size w w' := by
 have HB := Aside0.mk (Below.refl w.heap.size w)
 have H : (pack_word.l0 k a0 a2 0 (wrap64 (a1 * a2)) 0) = some r := h
 clear h
 have H' := Aside0.mk H
 clear H
 go_enter Try.func93, Try.ntmps93
 go_wp2
 repeat (go_quiet (fail); try go_wp2)
 go_loopg [7, 8, 9] k (fun kq v7 v8 v9 w' => ∃ (x7_1 : Int) (x8_1 : Int) (x9_1 : Int), v7 = .int .u64 x7_1 ∧ v8 = .int .i64 x8_1 ∧ v9 = .int .i64 x9_1 ∧ Aside0 (pack_word.l0 kq a0 a2 x7_1 x8_1 x9_1 = some r) ∧ Aside0 (kq ≤ k) ∧ Aside0 (Below w.heap.size w w'))
 case atStart => exact ⟨(0), (wrap64 (a1 * a2)), (0), (by first | rfl | (simp; done) | (simp [*]; done)), (by first | rfl | (simp; done) | (simp [*]; done)), (by first | rfl | (simp; done) | (simp [*]; done)), H', ⟨Nat.le_refl _⟩, ⟨bh HB.out⟩⟩
 case round =>
  clear H'
  obtain ⟨x7_1, x8_1, x9_1, rfl, rfl, rfl, HA, HK1, HB⟩ := hrel
  cases gk with
  | zero => exact absurd HA.out (by simp [pack_word.l0])
  | succ k1 =>
   have H := HA.out
   clear HA
   simp only [pack_word.l0] at H
   by_cases c4 : x9_1 < a2
   ·rw [if_pos c4] at H
    have c4b0 : decide (x9_1 < a2) = true := decide_eq_true c4
    clear c4
    obtain ⟨ji5, hji5⟩ : ∃ j_ : Int, (mn (wrap64 (8 - (Go.bits .and .i64 x8_1 7))) (wrap64 (a2 - x9_1))) = j_ := ⟨_, rfl⟩
    replace H : (if 0 ≤ (x8_1 / 8) then (if (x8_1 / 8) < (a0.size : Int) then (if 0 ≤ (Go.bits .and .i64 x8_1 7) then ((bits_Mask.f (ji5)).bind fun t159 => (if 0 ≤ x9_1 then (pack_word.l0 k1 a0 a2 (Go.bits .or .u64 x7_1 (shl .u64 (Go.bits .and .u64 (shr .u64 (IntKind.u64.wrap (bt a0 (x8_1 / 8))) (Go.bits .and .i64 x8_1 7)) (IntKind.u64.wrap (t159))) x9_1)) (wrap64 (x8_1 + (ji5))) (wrap64 (x9_1 + (ji5)))) else (none))) else (none)) else (none)) else (none)) = some r := by first | (rw [hji5] at H; exact H) | (simp only [hji5] at H ⊢; exact H)
    have hji5_ : (if (wrap64 (a2 - x9_1)) < (wrap64 (8 - (Go.bits .and .i64 x8_1 7))) then (wrap64 (a2 - x9_1)) else (wrap64 (8 - (Go.bits .and .i64 x8_1 7)))) = ji5 := hji5
    obtain ⟨ji6, hji6⟩ : ∃ j_ : Int, (x8_1 / 8) = j_ := ⟨_, rfl⟩
    replace H : (if 0 ≤ (ji6) then (if (ji6) < (a0.size : Int) then (if 0 ≤ (Go.bits .and .i64 x8_1 7) then ((bits_Mask.f (ji5)).bind fun t159 => (if 0 ≤ x9_1 then (pack_word.l0 k1 a0 a2 (Go.bits .or .u64 x7_1 (shl .u64 (Go.bits .and .u64 (shr .u64 (IntKind.u64.wrap (bt a0 (ji6))) (Go.bits .and .i64 x8_1 7)) (IntKind.u64.wrap (t159))) x9_1)) (wrap64 (x8_1 + (ji5))) (wrap64 (x9_1 + (ji5)))) else (none))) else (none)) else (none)) else (none)) = some r := by first | (rw [hji6] at H; exact H) | (simp only [hji6] at H ⊢; exact H)
    by_cases c7 : 0 ≤ (ji6)
    ·rw [if_pos c7] at H
     have c7b0 : decide (0 ≤ (ji6)) = true := decide_eq_true c7
     clear c7
     by_cases c8 : (ji6) < (a0.size : Int)
     ·rw [if_pos c8] at H
      have c8b0 : decide ((ji6) < (a0.size : Int)) = true := decide_eq_true c8
      clear c8
      by_cases c10 : 0 ≤ (Go.bits .and .i64 x8_1 7)
      ·rw [if_pos c10] at H
       have c10b0 := eq_true c10
       have c10b1 : decide (0 ≤ (Go.bits .and .i64 x8_1 7)) = true := decide_eq_true c10
       clear c10
       obtain ⟨ji11, hji11⟩ : ∃ j_ : Int, (shr .u64 (IntKind.u64.wrap (bt a0 (ji6))) (Go.bits .and .i64 x8_1 7)) = j_ := ⟨_, rfl⟩
       replace H : ((bits_Mask.f (ji5)).bind fun t159 => (if 0 ≤ x9_1 then (pack_word.l0 k1 a0 a2 (Go.bits .or .u64 x7_1 (shl .u64 (Go.bits .and .u64 (ji11) (IntKind.u64.wrap (t159))) x9_1)) (wrap64 (x8_1 + (ji5))) (wrap64 (x9_1 + (ji5)))) else (none))) = some r := by first | (rw [hji11] at H; exact H) | (simp only [hji11] at H ⊢; exact H)
       have hji11_ : ((IntKind.u64.wrap (bt a0 (ji6))) / 2 ^ min (Go.bits .and .i64 x8_1 7).toNat 64) = ji11 := hji11
       have hji11z : (Go.bits .and .i64 x8_1 7) ≤ 64 → ((IntKind.u64.wrap (bt a0 (ji6))) / 2 ^ (Go.bits .and .i64 x8_1 7).toNat) = ji11 := shr_small hji11
       replace H := Option.bind_eq_some_iff.mp H
       obtain ⟨t159, A120, H⟩ := H
       replace H : (if 0 ≤ x9_1 then (pack_word.l0 k1 a0 a2 (Go.bits .or .u64 x7_1 (shl .u64 (Go.bits .and .u64 (ji11) (IntKind.u64.wrap (t159))) x9_1)) (wrap64 (x8_1 + (ji5))) (wrap64 (x9_1 + (ji5)))) else (none)) = some r := H
       have A12 := Aside0.mk A120
       clear A120
       by_cases c13 : 0 ≤ x9_1
       ·rw [if_pos c13] at H
        have c13b0 := eq_true c13
        have c13b1 : decide (0 ≤ x9_1) = true := decide_eq_true c13
        clear c13
        obtain ⟨ji14, hji14⟩ : ∃ j_ : Int, (shl .u64 (Go.bits .and .u64 (ji11) (IntKind.u64.wrap (t159))) x9_1) = j_ := ⟨_, rfl⟩
        replace H : (pack_word.l0 k1 a0 a2 (Go.bits .or .u64 x7_1 (ji14)) (wrap64 (x8_1 + (ji5))) (wrap64 (x9_1 + (ji5)))) = some r := by first | (rw [hji14] at H; exact H) | (simp only [hji14] at H ⊢; exact H)
        (try rw [hji14] at A12)
        have hji14_ : (IntKind.u64.wrap ((Go.bits .and .u64 (ji11) (IntKind.u64.wrap (t159))) * 2 ^ min x9_1.toNat 64)) = ji14 := hji14
        have hji14z : x9_1 ≤ 64 → (IntKind.u64.wrap ((Go.bits .and .u64 (ji11) (IntKind.u64.wrap (t159))) * 2 ^ x9_1.toNat)) = ji14 := shl_small hji14
        have H' := Aside0.mk H
        clear H
        have p9 : 0 ≤ ((ji6) : Int) := of_decide_eq_true (by assumption)
        have q9 : (ji6) < (a0.size : Int) := of_decide_eq_true (by assumption)
        have hx9 := bt_at a0 (ji6)
        replace p9 := eq_true p9
        replace q9 := eq_true q9
        go_wp2_with (first | (go_at_call 85; (with_reducible refine (bits_Mask.calls ji5 t159 _ A12.out).mono ?_); rintro e w' ⟨rfl, ⟨nd, rfl⟩⟩; (try first | exact ⟨rfl, _, World.drewN_drewN _ _ _⟩ | exact ⟨rfl, _, Eq.trans (World.drewN_drewN _ _ _) (congrArg (World.drewN _) (Nat.add_assoc _ _ _))⟩)))
        repeat (go_quiet (first | (go_at_call 85; (with_reducible refine (bits_Mask.calls ji5 t159 _ A12.out).mono ?_); rintro e w' ⟨rfl, ⟨nd, rfl⟩⟩; (try first | exact ⟨rfl, _, World.drewN_drewN _ _ _⟩ | exact ⟨rfl, _, Eq.trans (World.drewN_drewN _ _ _) (congrArg (World.drewN _) (Nat.add_assoc _ _ _))⟩))); try go_wp2_with (first | (go_at_call 85; (with_reducible refine (bits_Mask.calls ji5 t159 _ A12.out).mono ?_); rintro e w' ⟨rfl, ⟨nd, rfl⟩⟩; (try first | exact ⟨rfl, _, World.drewN_drewN _ _ _⟩ | exact ⟨rfl, _, Eq.trans (World.drewN_drewN _ _ _) (congrArg (World.drewN _) (Nat.add_assoc _ _ _))⟩))))
        go_roundg k1
        case measure => have := HK1.out; omega
        case rel => exact ⟨(Go.bits .or .u64 x7_1 (ji14)), (wrap64 (x8_1 + (ji5))), (wrap64 (x9_1 + (ji5))), (by first | rfl | (simp; done) | (simp only [← hji14] <;> (first | rfl | simp)) | (simp [*]; done)), (by first | rfl | (simp; done) | (simp only [← hji5] <;> (first | rfl | simp)) | (simp [*]; done)), (by first | rfl | (simp; done) | (simp only [← hji5] <;> (first | rfl | simp)) | (simp [*]; done)), (by first | exact H' | (simp only [hji5, hji6, hji11, hji14]; exact H')), ⟨by have := HK1.out; omega⟩, ⟨bh HB.out⟩⟩
       ·rw [if_neg c13] at H
        exact absurd H (by simp)
      ·rw [if_neg c10] at H
       exact absurd H (by simp)
     ·rw [if_neg c8] at H
      exact absurd H (by simp)
    ·rw [if_neg c7] at H
     exact absurd H (by simp)
   ·rw [if_neg c4] at H
    have c4b0 : decide (x9_1 < a2) = false := decide_eq_false c4
    clear c4
    obtain rfl := Option.some.inj H
    go_wp2
    repeat (go_quiet (fail); try go_wp2)
    go_ret
    exact ⟨er, bh HB.out⟩
/-! ### pack_Take: function 59 -/
mutual
def pack_Take.j0 : Nat → ByteArray → Int → Int → Bool → Option (List Int × Int)
 | 0, _, _, _, _ => none
 | k + 1, x0, x1, x2, x24 => if x24 = true then (some (([] : List Int), 1)) else ((pack_Bytes.f x1 x2).bind fun t160 => (if (x0.size : Int) = t160 then (if (Go.bits .and .i64 (wrap64 (x1 * x2)) 7) > 0 then (if 0 ≤ (wrap64 ((x0.size : Int) - 1)) then (if (wrap64 ((x0.size : Int) - 1)) < (x0.size : Int) then (if 0 ≤ (Go.bits .and .i64 (wrap64 (x1 * x2)) 7) then (pack_Take.j1 k x0 x1 x2 (decide ((shr .u8 (bt x0 (wrap64 ((x0.size : Int) - 1))) (Go.bits .and .i64 (wrap64 (x1 * x2)) 7)) > 0))) else (none)) else (none)) else (none)) else (pack_Take.j1 k x0 x1 x2 false)) else (some (([] : List Int), 20))))
def pack_Take.j1 : Nat → ByteArray → Int → Int → Bool → Option (List Int × Int)
 | 0, _, _, _, _ => none
 | k + 1, x0, x1, x2, x46 => if x46 = true then (some (([] : List Int), 20)) else (if 0 ≤ x1 then (if (x1 : Int).toNat ≤ 35184372088832 then (pack_Take.l0 k x0 x2 (List.replicate (x1 : Int).toNat 0) x1 0) else (none)) else (none))
def pack_Take.l0 : Nat → ByteArray → Int → List Int → Int → Int → Option (List Int × Int)
 | 0, _, _, _, _, _ => none
 | k + 1, x0, x2, x9, x49, x50 => if x50 < x49 then ((pack_word.f k x0 x50 x2).bind fun t164 => (if 0 ≤ x50 then (if x50 < (x9.length : Int) then (pack_Take.l0 k x0 x2 (x9.set (x50 : Int).toNat t164) x49 (wrap64 (x50 + 1))) else (none)) else (none))) else (some (x9, 0))
end
def pack_Take.f (k : Nat) (a0 : ByteArray) (a1 : Int) (a2 : Int) : Option (List Int × Int) := if a2 < 0 then (pack_Take.j0 k a0 a1 a2 true) else (if a2 > 64 then (pack_Take.j0 k a0 a1 a2 true) else (if a1 < 0 then (pack_Take.j0 k a0 a1 a2 true) else (pack_Take.j0 k a0 a1 a2 (decide (a1 > 65536)))))
theorem pack_Take.j0_succ (k : Nat) (x0 : ByteArray) (x1 : Int) (x2 : Int) (x24 : Bool) : pack_Take.j0 (k + 1) x0 x1 x2 x24 = (if x24 = true then (some (([] : List Int), 1)) else ((pack_Bytes.f x1 x2).bind fun t160 => (if (x0.size : Int) = t160 then (if (Go.bits .and .i64 (wrap64 (x1 * x2)) 7) > 0 then (if 0 ≤ (wrap64 ((x0.size : Int) - 1)) then (if (wrap64 ((x0.size : Int) - 1)) < (x0.size : Int) then (if 0 ≤ (Go.bits .and .i64 (wrap64 (x1 * x2)) 7) then (pack_Take.j1 k x0 x1 x2 (decide ((shr .u8 (bt x0 (wrap64 ((x0.size : Int) - 1))) (Go.bits .and .i64 (wrap64 (x1 * x2)) 7)) > 0))) else (none)) else (none)) else (none)) else (pack_Take.j1 k x0 x1 x2 false)) else (some (([] : List Int), 20))))) := by
 simp only [pack_Take.j0]
theorem pack_Take.j1_succ (k : Nat) (x0 : ByteArray) (x1 : Int) (x2 : Int) (x46 : Bool) : pack_Take.j1 (k + 1) x0 x1 x2 x46 = (if x46 = true then (some (([] : List Int), 20)) else (if 0 ≤ x1 then (if (x1 : Int).toNat ≤ 35184372088832 then (pack_Take.l0 k x0 x2 (List.replicate (x1 : Int).toNat 0) x1 0) else (none)) else (none))) := by
 simp only [pack_Take.j1]
theorem pack_Take.l0_succ (k : Nat) (x0 : ByteArray) (x2 : Int) (x9 : List Int) (x49 : Int) (x50 : Int) : pack_Take.l0 (k + 1) x0 x2 x9 x49 x50 = (if x50 < x49 then ((pack_word.f k x0 x50 x2).bind fun t164 => (if 0 ≤ x50 then (if x50 < (x9.length : Int) then (pack_Take.l0 k x0 x2 (x9.set (x50 : Int).toNat t164) x49 (wrap64 (x50 + 1))) else (none)) else (none))) else (some (x9, 0))) := by
 simp only [pack_Take.l0]
theorem pack_Take.mono_l : ∀ k, (∀ y0 y1 y2 y3, LeO (pack_Take.j0 k y0 y1 y2 y3) (pack_Take.j0 (k + 1) y0 y1 y2 y3)) ∧ (∀ y0 y1 y2 y3, LeO (pack_Take.j1 k y0 y1 y2 y3) (pack_Take.j1 (k + 1) y0 y1 y2 y3)) ∧ (∀ y0 y1 y2 y3 y4, LeO (pack_Take.l0 k y0 y1 y2 y3 y4) (pack_Take.l0 (k + 1) y0 y1 y2 y3 y4))
 | 0 => ⟨fun _ _ _ _ r h => by simp [pack_Take.j0] at h, fun _ _ _ _ r h => by simp [pack_Take.j1] at h, fun _ _ _ _ _ r h => by simp [pack_Take.l0] at h⟩
 | k + 1 => by
  obtain ⟨ih0, ih1, ih2⟩ := pack_Take.mono_l k
  refine ⟨?_, ?_, ?_⟩
  ·intro y0 y1 y2 y3
   unfold pack_Take.j0
   repeat' first
   | (with_reducible exact ih0 _ _ _ _)
   | (with_reducible exact ih1 _ _ _ _)
   | (with_reducible exact ih2 _ _ _ _ _)
   | (with_reducible exact pack_word.mono _ _ _ _)
   | (with_reducible exact LeO.refl _)
   | (with_reducible exact LeO.none _)
   | (with_reducible refine LeO.ite ?_ ?_)
   | (with_reducible refine LeO.bind ?_ (fun _ => ?_))
   | exact ih0 _ _ _ _
   | exact ih1 _ _ _ _
   | exact ih2 _ _ _ _ _
   | exact pack_word.mono _ _ _ _
   | exact LeO.none _
   | refine LeO.ite ?_ ?_
   | refine LeO.bind ?_ (fun _ => ?_)
  ·intro y0 y1 y2 y3
   unfold pack_Take.j1
   repeat' first
   | (with_reducible exact ih0 _ _ _ _)
   | (with_reducible exact ih1 _ _ _ _)
   | (with_reducible exact ih2 _ _ _ _ _)
   | (with_reducible exact pack_word.mono _ _ _ _)
   | (with_reducible exact LeO.refl _)
   | (with_reducible exact LeO.none _)
   | (with_reducible refine LeO.ite ?_ ?_)
   | (with_reducible refine LeO.bind ?_ (fun _ => ?_))
   | exact ih0 _ _ _ _
   | exact ih1 _ _ _ _
   | exact ih2 _ _ _ _ _
   | exact pack_word.mono _ _ _ _
   | exact LeO.none _
   | refine LeO.ite ?_ ?_
   | refine LeO.bind ?_ (fun _ => ?_)
  ·intro y0 y1 y2 y3 y4
   unfold pack_Take.l0
   repeat' first
   | (with_reducible exact ih0 _ _ _ _)
   | (with_reducible exact ih1 _ _ _ _)
   | (with_reducible exact ih2 _ _ _ _ _)
   | (with_reducible exact pack_word.mono _ _ _ _)
   | (with_reducible exact LeO.refl _)
   | (with_reducible exact LeO.none _)
   | (with_reducible refine LeO.ite ?_ ?_)
   | (with_reducible refine LeO.bind ?_ (fun _ => ?_))
   | exact ih0 _ _ _ _
   | exact ih1 _ _ _ _
   | exact ih2 _ _ _ _ _
   | exact pack_word.mono _ _ _ _
   | exact LeO.none _
   | refine LeO.ite ?_ ?_
   | refine LeO.bind ?_ (fun _ => ?_)
theorem pack_Take.mono : ∀ a0 a1 a2 k, LeO (pack_Take.f k a0 a1 a2) (pack_Take.f (k + 1) a0 a1 a2) := by
 intro a0 a1 a2 k
 obtain ⟨ih0, ih1, ih2⟩ := pack_Take.mono_l k
 unfold pack_Take.f
 repeat' first
   | (with_reducible exact ih0 _ _ _ _)
   | (with_reducible exact ih1 _ _ _ _)
   | (with_reducible exact ih2 _ _ _ _ _)
   | (with_reducible exact pack_word.mono _ _ _ _)
   | (with_reducible exact LeO.refl _)
   | (with_reducible exact LeO.none _)
   | (with_reducible refine LeO.ite ?_ ?_)
   | (with_reducible refine LeO.bind ?_ (fun _ => ?_))
   | exact ih0 _ _ _ _
   | exact ih1 _ _ _ _
   | exact ih2 _ _ _ _ _
   | exact pack_word.mono _ _ _ _
   | exact LeO.none _
   | refine LeO.ite ?_ ?_
   | refine LeO.bind ?_ (fun _ => ?_)
set_option maxHeartbeats 8000000 in
set_option maxRecDepth 100000 in
theorem pack_Take.calls (k : Nat) (a0 : ByteArray) (a1 : Int) (a2 : Int) (r1 : List Int) (r2 : Int) (w : World) (h : pack_Take.f k a0 a1 a2 = some (r1, r2)) :
  Calls Try.prog 59 #[.string a0, .int .i64 a1, .int .i64 a2] w fun e w' => ∃ v0_ : Value, e = .returned (.tuple #[v0_, .int .i64 r2]) ∧ Kd.R (Kd.int .i64) 3 w' w.heap.size (fun _ => True) v0_ r1 ∧ Below w.heap.size w w' := by
 have HB := Aside0.mk (Below.refl w.heap.size w)
 have H : (if a2 < 0 then (pack_Take.j0 k a0 a1 a2 true) else (if a2 > 64 then (pack_Take.j0 k a0 a1 a2 true) else (if a1 < 0 then (pack_Take.j0 k a0 a1 a2 true) else (pack_Take.j0 k a0 a1 a2 (decide (a1 > 65536)))))) = some (r1, r2) := h
 clear h
 have HC4 := Aside0.mk H
 clear H
 go_enter Try.func59, Try.ntmps59
 go_upto_region 1 with (fail)
 go_cut [24] (fun v24 wc => ∃ (kq : Nat) (x24_3 : Bool), v24 = .bool x24_3 ∧ Aside0 (pack_Take.j0 kq a0 a1 a2 x24_3 = some (r1, r2)) ∧ Aside0 (kq ≤ k) ∧ Aside0 (Below w.heap.size w wc))
 case first =>
  have H := HC4.out
  clear HC4
  by_cases c5 : a2 < 0
  ·rw [if_pos c5] at H
   have c5b0 : decide (a2 < 0) = true := decide_eq_true c5
   clear c5
   (first | rw [c5b0] | (simp only [i64_w, i32_w]; rw [c5b0]) | rw [c5b1] | skip)
   have H' := Aside0.mk H
   clear H
   go_wp2
   go_meet
   case rel => exact ⟨_, (true), (by first | rfl | (simp; done) | (simp [*]; done)), H', ⟨by first | omega | exact Nat.le_refl _⟩, ⟨bh HB.out⟩⟩
  ·rw [if_neg c5] at H
   have c5b0 : decide (a2 < 0) = false := decide_eq_false c5
   clear c5
   (first | rw [c5b0] | (simp only [i64_w, i32_w]; rw [c5b0]) | rw [c5b1] | skip)
   by_cases c6 : a2 > 64
   ·rw [if_pos c6] at H
    have c6b0 : decide (64 < a2) = true := decide_eq_true c6
    clear c6
    have H' := Aside0.mk H
    clear H
    go_wp2
    go_meet
    case rel => exact ⟨_, (true), (by first | rfl | (simp; done) | (simp [*]; done)), H', ⟨by first | omega | exact Nat.le_refl _⟩, ⟨bh HB.out⟩⟩
   ·rw [if_neg c6] at H
    have c6b0 : decide (64 < a2) = false := decide_eq_false c6
    clear c6
    by_cases c7 : a1 < 0
    ·rw [if_pos c7] at H
     have c7b0 : decide (a1 < 0) = true := decide_eq_true c7
     clear c7
     have H' := Aside0.mk H
     clear H
     go_wp2
     go_meet
     case rel => exact ⟨_, (true), (by first | rfl | (simp; done) | (simp [*]; done)), H', ⟨by first | omega | exact Nat.le_refl _⟩, ⟨bh HB.out⟩⟩
    ·rw [if_neg c7] at H
     have c7b0 : decide (a1 < 0) = false := decide_eq_false c7
     clear c7
     have H' := Aside0.mk H
     clear H
     go_wp2
     go_meet
     case rel => exact ⟨_, (decide (a1 > 65536)), (by first | rfl | (simp; done) | (simp [*]; done)), H', ⟨by first | omega | exact Nat.le_refl _⟩, ⟨bh HB.out⟩⟩
 case rest =>
  clear HC4
  try clear c5
  try clear c5b0
  try clear c6
  try clear c6b0
  try clear c7
  try clear c7b0
  obtain ⟨kq, x24_3, rfl, HA, HJ3, HB⟩ := hcut
  cases kq with
  | zero => exact absurd HA.out (by simp [pack_Take.j0])
  | succ kj3 =>
   have H := HA.out
   clear HA
   simp only [pack_Take.j0] at H
   by_cases c8 : x24_3 = true
   ·subst c8
    have H1 : (some (([] : List Int), 1)) = some (r1, r2) := by rw [if_pos rfl] at H; exact H
    clear H
    have H := H1
    clear H1
    simp only [Option.some.injEq, Prod.mk.injEq] at H
    obtain ⟨rfl, rfl⟩ := H
    go_wp2
    go_ret2
    exact ⟨_, er, nl, bh HB.out⟩
   ·replace c8 := Bool.eq_false_iff.mpr c8
    subst c8
    have H1 : ((pack_Bytes.f a1 a2).bind fun t160 => (if (a0.size : Int) = t160 then (if (Go.bits .and .i64 (wrap64 (a1 * a2)) 7) > 0 then (if 0 ≤ (wrap64 ((a0.size : Int) - 1)) then (if (wrap64 ((a0.size : Int) - 1)) < (a0.size : Int) then (if 0 ≤ (Go.bits .and .i64 (wrap64 (a1 * a2)) 7) then (pack_Take.j1 kj3 a0 a1 a2 (decide ((shr .u8 (bt a0 (wrap64 ((a0.size : Int) - 1))) (Go.bits .and .i64 (wrap64 (a1 * a2)) 7)) > 0))) else (none)) else (none)) else (none)) else (pack_Take.j1 kj3 a0 a1 a2 false)) else (some (([] : List Int), 20)))) = some (r1, r2) := by rw [if_neg (show ¬ (false = true) by decide)] at H; exact H
    clear H
    have H := H1
    clear H1
    replace H := Option.bind_eq_some_iff.mp H
    obtain ⟨t160, A90, H⟩ := H
    replace H : (if (a0.size : Int) = t160 then (if (Go.bits .and .i64 (wrap64 (a1 * a2)) 7) > 0 then (if 0 ≤ (wrap64 ((a0.size : Int) - 1)) then (if (wrap64 ((a0.size : Int) - 1)) < (a0.size : Int) then (if 0 ≤ (Go.bits .and .i64 (wrap64 (a1 * a2)) 7) then (pack_Take.j1 kj3 a0 a1 a2 (decide ((shr .u8 (bt a0 (wrap64 ((a0.size : Int) - 1))) (Go.bits .and .i64 (wrap64 (a1 * a2)) 7)) > 0))) else (none)) else (none)) else (none)) else (pack_Take.j1 kj3 a0 a1 a2 false)) else (some (([] : List Int), 20))) = some (r1, r2) := H
    have A9 := Aside0.mk A90
    clear A90
    by_cases c10 : (a0.size : Int) = t160
    ·rw [if_pos c10] at H
     have c10b0 : ((a0.size : Int) == t160) = true := beq_iff_eq.mpr c10
     have c10b1 : ((a0.size : Int) != t160) = false := bne_eq_false_iff_eq.mpr c10
     clear c10
     have HC11 := Aside0.mk H
     clear H
     go_upto_region 6 with (first | ((with_reducible refine gate_callee (f := 84) rfl ?_); refine goesL_ (some 29) rfl rfl Try.func84 (by kernel_rfl) rfl #[.int .i64 a1, .int .i64 a2] rfl (by (try simp only [List.map_toArray, List.map_cons, List.map_nil]); first | done | rfl) ?_; (with_reducible refine (pack_Bytes.calls a1 a2 t160 _ A9.out).mono ?_); rintro e w' ⟨rfl, ⟨nd, rfl⟩⟩; refine ⟨_, rfl, ?_⟩))
     (try simp only [Act.put, List.setIfInBounds_toArray, List.set_cons_zero, List.set_cons_succ])
     go_cut [46] (fun v46 wc => ∃ (kq : Nat) (x46_10 : Bool), v46 = .bool x46_10 ∧ Aside0 (pack_Take.j1 kq a0 a1 a2 x46_10 = some (r1, r2)) ∧ Aside0 (kq ≤ kj3) ∧ Aside0 (Below w.heap.size w wc))
     case first =>
      have H := HC11.out
      clear HC11
      by_cases c12 : (Go.bits .and .i64 (wrap64 (a1 * a2)) 7) > 0
      ·rw [if_pos c12] at H
       have c12b0 : decide (0 < (Go.bits .and .i64 (wrap64 (a1 * a2)) 7)) = true := decide_eq_true c12
       clear c12
       (first | rw [c12b0] | (simp only [i64_w, i32_w]; rw [c12b0]) | rw [c12b1] | skip)
       obtain ⟨ji13, hji13⟩ : ∃ j_ : Int, (wrap64 ((a0.size : Int) - 1)) = j_ := ⟨_, rfl⟩
       replace H : (if 0 ≤ (ji13) then (if (ji13) < (a0.size : Int) then (if 0 ≤ (Go.bits .and .i64 (wrap64 (a1 * a2)) 7) then (pack_Take.j1 kj3 a0 a1 a2 (decide ((shr .u8 (bt a0 (ji13)) (Go.bits .and .i64 (wrap64 (a1 * a2)) 7)) > 0))) else (none)) else (none)) else (none)) = some (r1, r2) := by first | (rw [hji13] at H; exact H) | (simp only [hji13] at H ⊢; exact H)
       have hji13w : (IntKind.i64.wrap ((a0.size : Int) - 1)) = ji13 := (i64_w _).trans hji13
       by_cases c14 : 0 ≤ (ji13)
       ·rw [if_pos c14] at H
        have c14b0 : decide (0 ≤ (ji13)) = true := decide_eq_true c14
        clear c14
        by_cases c15 : (ji13) < (a0.size : Int)
        ·rw [if_pos c15] at H
         have c15b0 : decide ((ji13) < (a0.size : Int)) = true := decide_eq_true c15
         clear c15
         obtain ⟨ji17, hji17⟩ : ∃ j_ : Int, (Go.bits .and .i64 (wrap64 (a1 * a2)) 7) = j_ := ⟨_, rfl⟩
         replace H : (if 0 ≤ (ji17) then (pack_Take.j1 kj3 a0 a1 a2 (decide ((shr .u8 (bt a0 (ji13)) (ji17)) > 0))) else (none)) = some (r1, r2) := by first | (rw [hji17] at H; exact H) | (simp only [hji17] at H ⊢; exact H)
         (try rw [hji17] at c12b0)
         by_cases c18 : 0 ≤ (ji17)
         ·rw [if_pos c18] at H
          have c18b0 := eq_true c18
          have c18b1 : decide (0 ≤ (ji17)) = true := decide_eq_true c18
          clear c18
          obtain ⟨ji19, hji19⟩ : ∃ j_ : Int, (shr .u8 (bt a0 (ji13)) (ji17)) = j_ := ⟨_, rfl⟩
          replace H : (pack_Take.j1 kj3 a0 a1 a2 (decide ((ji19) > 0))) = some (r1, r2) := by first | (rw [hji19] at H; exact H) | (simp only [hji19] at H ⊢; exact H)
          have hji19_ : ((bt a0 (ji13)) / 2 ^ min (ji17).toNat 8) = ji19 := hji19
          have hji19z : (ji17) ≤ 8 → ((bt a0 (ji13)) / 2 ^ (ji17).toNat) = ji19 := shr_small hji19
          have H' := Aside0.mk H
          clear H
          have p16 : 0 ≤ ((ji13) : Int) := of_decide_eq_true (by assumption)
          have q16 : (ji13) < (a0.size : Int) := of_decide_eq_true (by assumption)
          have hx16 := bt_at a0 (ji13)
          replace p16 := eq_true p16
          replace q16 := eq_true q16
          go_wp2
          first | go_meet | (simp only [hji13]; go_meet) | (simp only [← hji13]; go_meet) | (simp only [hji17]; go_meet) | (simp only [← hji17]; go_meet) | (simp only [hji19]; go_meet) | (simp only [← hji19]; go_meet)
          case rel => exact ⟨_, (decide ((ji19) > 0)), (by first | rfl | (simp; done) | (simp only [← hji19] <;> (first | rfl | simp)) | (simp [*]; done)), (by first | exact H' | (simp only [hji13, hji17, hji19]; exact H')), ⟨by have := HJ3.out; first | omega | exact Nat.le_refl _⟩, ⟨bh HB.out⟩⟩
         ·rw [if_neg c18] at H
          exact absurd H (by simp)
        ·rw [if_neg c15] at H
         exact absurd H (by simp)
       ·rw [if_neg c14] at H
        exact absurd H (by simp)
      ·rw [if_neg c12] at H
       have c12b0 : decide (0 < (Go.bits .and .i64 (wrap64 (a1 * a2)) 7)) = false := decide_eq_false c12
       clear c12
       (first | rw [c12b0] | (simp only [i64_w, i32_w]; rw [c12b0]) | rw [c12b1] | skip)
       have H' := Aside0.mk H
       clear H
       go_wp2
       go_meet
       case rel => exact ⟨_, (false), (by first | rfl | (simp; done) | (simp [*]; done)), H', ⟨by have := HJ3.out; first | omega | exact Nat.le_refl _⟩, ⟨bh HB.out⟩⟩
     case rest =>
      clear HC11
      try clear c5
      try clear c5b0
      try clear c6
      try clear c6b0
      try clear c7
      try clear c7b0
      try clear c8
      try clear c10
      try clear c10b0
      try clear c10b1
      try clear c12
      try clear c12b0
      try clear c14
      try clear c14b0
      try clear c15
      try clear c15b0
      try clear p16
      try clear q16
      try clear hx16
      try clear c18
      try clear c18b0
      try clear c18b1
      try clear p16
      try clear q16
      obtain ⟨kq, x46_10, rfl, HA, HJ10, HB⟩ := hcut
      cases kq with
      | zero => exact absurd HA.out (by simp [pack_Take.j1])
      | succ kj10 =>
       have H := HA.out
       clear HA
       simp only [pack_Take.j1] at H
       by_cases c20 : x46_10 = true
       ·subst c20
        have H1 : (some (([] : List Int), 20)) = some (r1, r2) := by rw [if_pos rfl] at H; exact H
        clear H
        have H := H1
        clear H1
        simp only [Option.some.injEq, Prod.mk.injEq] at H
        obtain ⟨rfl, rfl⟩ := H
        go_wp2
        go_ret2
        exact ⟨_, er, nl, bh HB.out⟩
       ·replace c20 := Bool.eq_false_iff.mpr c20
        subst c20
        have H1 : (if 0 ≤ a1 then (if (a1 : Int).toNat ≤ 35184372088832 then (pack_Take.l0 kj10 a0 a2 (List.replicate (a1 : Int).toNat 0) a1 0) else (none)) else (none)) = some (r1, r2) := by rw [if_neg (show ¬ (false = true) by decide)] at H; exact H
        clear H
        have H := H1
        clear H1
        by_cases c21 : 0 ≤ a1
        ·rw [if_pos c21] at H
         have c21b0 := eq_true c21
         have c21b1 : decide (0 ≤ a1) = true := decide_eq_true c21
         clear c21
         by_cases c22 : (a1 : Int).toNat ≤ 35184372088832
         ·rw [if_pos c22] at H
          have c22b0 := eq_true c22
          have c22b1 : decide ((a1 : Int).toNat ≤ 35184372088832) = true := decide_eq_true c22
          clear c22
          obtain ⟨y161, hy161⟩ : ∃ y_ : List Int, y_ = (List.replicate (a1 : Int).toNat 0) := ⟨_, rfl⟩
          replace H : (pack_Take.l0 kj10 a0 a2 y161 a1 0) = some (r1, r2) := by first | (rw [hy161]; with_reducible exact H) | (have H2_ := (Option.bind_some _ _).symm.trans H; rw [hy161]; with_reducible exact H2_) | (have H2_ := (Option.bind_some _ _).symm.trans H; with_reducible exact H2_) | with_reducible exact H | (rw [hy161]; exact H) | exact H
          have Ny161 := Aside0.mk hy161
          clear hy161
          have H' := Aside0.mk H
          clear H
          go_wp2_with (first | ((with_reducible refine gate_dst (N := 48) rfl ?_); (try (refine gate_guard (by rfl) ?_; dsimp only)); refine Kd.R_make (Kd.int .i64) _ 3 rfl (N := 48) rfl 25 _ _ rfl a1 rfl rfl Try.underlying25 (.int .i64 0) 8 info3 rfl (by decide) (by omega) 0 (ok := fun _ => True) (okp := fun _ => True) rfl (fun _ hk => hk) trivial (of_decide_eq_true (by assumption)) (Nat.le_trans (Nat.mul_le_mul_right _ (of_decide_eq_true (by assumption) : a1.toNat ≤ 35184372088832)) (by omega)) (Below.refl _ _) (Nat.le_refl _) ?_; intro v162 w23 ho24 hb hg_ hnew_; clear hg_ hnew_; (first | rw [← Ny161.out] at ho24 | (simp only [Int.reduceToNat] at ho24; rw [← Ny161.out] at ho24)); have HO163 := Aside0.mk (Kd.R_lower ho24 (below_size (bh HB.out))); replace HB := bsa HB hb; clear hb ho24))
          go_loopg [50] kj10 (fun kq v50 w' => ∃ (x9_3 : List Int) (x50_3 : Int), v50 = .int .i64 x50_3 ∧ Aside0 (pack_Take.l0 kq a0 a2 x9_3 a1 x50_3 = some (r1, r2)) ∧ Aside0 (kq ≤ kj10) ∧ Aside0 (Kd.R (Kd.int .i64) 3 w' w.heap.size (fun _ => True) v162 x9_3) ∧ Aside0 (Below w.heap.size w w'))
          case atStart => exact ⟨(y161), (0), (by first | rfl | (simp; done) | (simp [*]; done)), H', ⟨Nat.le_refl _⟩, ⟨by (with_reducible repeat (first | apply Kd.R_alloc | apply Kd.R_drewN | apply Kd.R_drew)); exact HO163.out⟩, ⟨bh HB.out⟩⟩
          case round =>
           clear H'
           try clear c5
           try clear c5b0
           try clear c6
           try clear c6b0
           try clear c7
           try clear c7b0
           try clear c8
           try clear c10
           try clear c10b0
           try clear c10b1
           try clear c12
           try clear c12b0
           try clear c14
           try clear c14b0
           try clear c15
           try clear c15b0
           try clear p16
           try clear q16
           try clear hx16
           try clear c18
           try clear c18b0
           try clear c18b1
           try clear c20
           try clear c21
           try clear c21b0
           try clear c21b1
           try clear c22
           try clear c22b0
           try clear c22b1
           try clear p16
           try clear q16
           obtain ⟨x9_3, x50_3, rfl, HA, HK3, HO_9, HB⟩ := hrel
           cases gk with
           | zero => exact absurd HA.out (by simp [pack_Take.l0])
           | succ k3 =>
            have H := HA.out
            clear HA
            simp only [pack_Take.l0] at H
            by_cases c25 : x50_3 < a1
            ·rw [if_pos c25] at H
             have c25b0 : decide (x50_3 < a1) = true := decide_eq_true c25
             clear c25
             replace H := Option.bind_eq_some_iff.mp H
             obtain ⟨t164, A260, H⟩ := H
             replace H : (if 0 ≤ x50_3 then (if x50_3 < (x9_3.length : Int) then (pack_Take.l0 k3 a0 a2 (x9_3.set (x50_3 : Int).toNat t164) a1 (wrap64 (x50_3 + 1))) else (none)) else (none)) = some (r1, r2) := H
             have A26 := Aside0.mk A260
             clear A260
             by_cases c27 : 0 ≤ x50_3
             ·rw [if_pos c27] at H
              have c27b0 : decide (0 ≤ x50_3) = true := decide_eq_true c27
              clear c27
              by_cases c28 : x50_3 < (x9_3.length : Int)
              ·rw [if_pos c28] at H
               have c28b0 : decide (x50_3 < (x9_3.length : Int)) = true := decide_eq_true c28
               clear c28
               obtain ⟨y165, hy165⟩ : ∃ y_ : List Int, y_ = (x9_3.set (x50_3 : Int).toNat t164) := ⟨_, rfl⟩
               replace H : (pack_Take.l0 k3 a0 a2 y165 a1 (wrap64 (x50_3 + 1))) = some (r1, r2) := by first | (rw [hy165]; with_reducible exact H) | (have H2_ := (Option.bind_some _ _).symm.trans H; rw [hy165]; with_reducible exact H2_) | (have H2_ := (Option.bind_some _ _).symm.trans H; with_reducible exact H2_) | with_reducible exact H | (rw [hy165]; exact H) | exact H
               have Ny165 := Aside0.mk hy165
               clear hy165
               have H' := Aside0.mk H
               clear H
               go_wp2_with (first | ((with_reducible refine gate_callee (f := 93) rfl ?_); refine goesL_ (some 58) rfl rfl Try.func93 (by kernel_rfl) rfl #[.string a0, .int .i64 x50_3, .int .i64 a2] rfl (by (try simp only [List.map_toArray, List.map_cons, List.map_nil]); first | done | rfl) ?_; (with_reducible refine (pack_word.calls k3 a0 x50_3 a2 t164 _ A26.out).mono ?_); rintro e w30 ⟨rfl, hb⟩; refine ⟨_, rfl, ?_⟩; replace HO_9 := rba HO_9 hb; replace HB := bsa HB hb; (try clear hb); have p29 : 0 ≤ (x50_3 : Int) := of_decide_eq_true (by assumption); have q29 : (x50_3 : Int) < ((x9_3.length : Int) : Int) := of_decide_eq_true (by assumption); obtain ⟨go29, co29, eo29, gb29, gl29, cl29, HG29⟩ := Kd.R_form HO_9.out (by omega); (first | cases eo29 | (injection eo29 with ea_ en_ ec_; (first | subst ea_ | (injection ea_ with ea_; subst ea_)); subst ec_; clear en_)); have GB29 := Aside0.mk gb29; have GG29 := Aside0.mk HG29; clear gb29 gl29 HG29; obtain ⟨hx29_0, hf29_0⟩ := Kd.R_celln 0 HO_9.out (x50_3 : Int) p29 q29; replace p29 := eq_true p29; replace q29 := eq_true q29; obtain ⟨hy31_, hz31_⟩ := Kd.R_celln 0 HO_9.out (x50_3 : Int) (of_decide_eq_true (by assumption)) (of_decide_eq_true (by assumption)); have HP31 := Kd.R_putg HO_9.out (x50_3 : Int) t164) | ((with_reducible refine gate_store (t := 3) (p := 59) rfl ?_); refine store_event (t := 3) (p := 59) (v := ?vo_w32) (w1 := (w30.setCell ⟨go29, (x50_3 : Int).toNat, none⟩ (.int .i64 t164))) ?hg ?ho ?hn ?hr ?_; (case ho => rfl); (case hg => rfl); (case hn => rfl); (case hr => first | (go_simp; done) | (go_simp; rfl)); intro w32 hw; have hg : w30.grownBy w32 (some go29) := (by rw [hw]; exact HP31.2); have hp_ : Kd.R (Kd.int .i64) 3 w32 w.heap.size (fun _ => True) (.slice (some ⟨go29, 0, none⟩) x9_3.length co29) y165 := (by rw [hw, Ny165.out]; exact HP31.1); clear HP31; replace HO_9 := Aside0.mk (hp_); replace HB := Aside0.mk ((by rw [hw]; exact below_set (HB.out) GB29.out : Below w.heap.size w w32)); clear hg hw hp_))
               go_roundg k3
               case measure => have := HJ3.out; have := HJ10.out; have := HK3.out; omega
               case rel => exact ⟨(y165), (wrap64 (x50_3 + 1)), (by first | rfl | (simp; done) | (simp [*]; done)), H', ⟨by have := HJ3.out; have := HJ10.out; have := HK3.out; omega⟩, ⟨by (with_reducible repeat (first | apply Kd.R_alloc | apply Kd.R_drewN | apply Kd.R_drew)); exact HO_9.out⟩, ⟨bh HB.out⟩⟩
              ·rw [if_neg c28] at H
               exact absurd H (by simp)
             ·rw [if_neg c27] at H
              exact absurd H (by simp)
            ·rw [if_neg c25] at H
             have c25b0 : decide (x50_3 < a1) = false := decide_eq_false c25
             clear c25
             simp only [Option.some.injEq, Prod.mk.injEq] at H
             obtain ⟨rfl, rfl⟩ := H
             go_wp2
             go_ret2
             exact ⟨_, er, by (with_reducible repeat (first | apply Kd.R_alloc | apply Kd.R_drewN | apply Kd.R_drew)); exact HO_9.out, bh HB.out⟩
         ·rw [if_neg c22] at H
          exact absurd H (by simp)
        ·rw [if_neg c21] at H
         exact absurd H (by simp)
    ·rw [if_neg c10] at H
     have c10b0 : ((a0.size : Int) == t160) = false := beq_eq_false_iff_ne.mpr c10
     have c10b1 : ((a0.size : Int) != t160) = true := bne_iff_ne.mpr c10
     simp only [Option.some.injEq, Prod.mk.injEq] at H
     obtain ⟨rfl, rfl⟩ := H
     go_wp2_with (first | ((with_reducible refine gate_callee (f := 84) rfl ?_); refine goesL_ (some 29) rfl rfl Try.func84 (by kernel_rfl) rfl #[.int .i64 a1, .int .i64 a2] rfl (by (try simp only [List.map_toArray, List.map_cons, List.map_nil]); first | done | rfl) ?_; (with_reducible refine (pack_Bytes.calls a1 a2 t160 _ A9.out).mono ?_); rintro e w' ⟨rfl, ⟨nd, rfl⟩⟩; refine ⟨_, rfl, ?_⟩))
     go_ret2
     exact ⟨_, er, nl, bh HB.out⟩
end Go.Proofs.Ytfohecpfenegkaa.Print
end
section
namespace Go.Proofs.Ytfohecpfenegkaa.Print
open Go.RowKit Go.Proofs.YtfohecpfenegkaaW.PrintWords Go.Proofs.YtfohecpfenegkaaW.PrintLast Go.Proofs.YtfohecpfenegkaaW.PrintMore
attribute [local go_sem] max2_int min2_int max_two min_two max_three min_three max_four min_four   -- for this text's walks alone
set_option linter.unusedVariables false
set_option linter.unusedSimpArgs false
/-! ### slices_Index_bool_bool: function 94 -/
def slices_Index_bool_bool.l0 : Nat → List Bool → Bool → Int → Int → Option (Int)
 | 0, _, _, _, _ => none
 | k + 1, x0, x1, x7, x8 => if x8 < x7 then (if 0 ≤ x8 then (if x8 < (x0.length : Int) then (if (x1 == (rdOf false x0 x8)) = true then (some x8) else (slices_Index_bool_bool.l0 k x0 x1 x7 (wrap64 (x8 + 1)))) else (none)) else (none)) else (some (-1))
def slices_Index_bool_bool.f (k : Nat) (l0 : List Bool) (a1 : Bool) : Option (Int) := slices_Index_bool_bool.l0 k l0 a1 (l0.length : Int) 0
theorem slices_Index_bool_bool.l0_succ (k : Nat) (x0 : List Bool) (x1 : Bool) (x7 : Int) (x8 : Int) : slices_Index_bool_bool.l0 (k + 1) x0 x1 x7 x8 = (if x8 < x7 then (if 0 ≤ x8 then (if x8 < (x0.length : Int) then (if (x1 == (rdOf false x0 x8)) = true then (some x8) else (slices_Index_bool_bool.l0 k x0 x1 x7 (wrap64 (x8 + 1)))) else (none)) else (none)) else (some (-1))) := by
 simp only [slices_Index_bool_bool.l0]
theorem slices_Index_bool_bool.mono_l : ∀ k, (∀ y0 y1 y2 y3, LeO (slices_Index_bool_bool.l0 k y0 y1 y2 y3) (slices_Index_bool_bool.l0 (k + 1) y0 y1 y2 y3))
 | 0 => fun _ _ _ _ r h => by simp [slices_Index_bool_bool.l0] at h
 | k + 1 => by
  have ih0 := slices_Index_bool_bool.mono_l k
  ·intro y0 y1 y2 y3
   unfold slices_Index_bool_bool.l0
   repeat' first
   | (with_reducible exact ih0 _ _ _ _)
   | (with_reducible exact LeO.refl _)
   | (with_reducible exact LeO.none _)
   | (with_reducible refine LeO.ite ?_ ?_)
   | (with_reducible refine LeO.bind ?_ (fun _ => ?_))
   | exact ih0 _ _ _ _
   | exact LeO.none _
   | refine LeO.ite ?_ ?_
   | refine LeO.bind ?_ (fun _ => ?_)
theorem slices_Index_bool_bool.mono : ∀ a0 a1 k, LeO (slices_Index_bool_bool.f k a0 a1) (slices_Index_bool_bool.f (k + 1) a0 a1) := by
 intro a0 a1 k
 have ih0 := slices_Index_bool_bool.mono_l k
 unfold slices_Index_bool_bool.f
 repeat' first
   | (with_reducible exact ih0 _ _ _ _)
   | (with_reducible exact LeO.refl _)
   | (with_reducible exact LeO.none _)
   | (with_reducible refine LeO.ite ?_ ?_)
   | (with_reducible refine LeO.bind ?_ (fun _ => ?_))
   | exact ih0 _ _ _ _
   | exact LeO.none _
   | refine LeO.ite ?_ ?_
   | refine LeO.bind ?_ (fun _ => ?_)
set_option maxHeartbeats 8000000 in
set_option maxRecDepth 100000 in
theorem slices_Index_bool_bool.calls (k : Nat) (A0 : Option Addr) (c0 : Nat) (l0 : List Bool) (a1 : Bool) (r : Int) (w : World) (hr0 : Kd.C Kd.bool w A0 l0.length l0) (hc0 : l0.length ≤ c0) (h : slices_Index_bool_bool.f k l0 a1 = some r) :
  Calls Try.prog 94 #[.slice A0 l0.length c0, .bool a1] w fun e w' => e = .returned (.int .i64 r) ∧ Drawn0 w w' := by
 have HR0 := Aside0.mk hr0
 have HC0 := Aside0.mk hc0
 clear hr0 hc0
 have H : (slices_Index_bool_bool.l0 k l0 a1 (l0.length : Int) 0) = some r := h
 clear h
 have H' := Aside0.mk H
 clear H
 go_enter Try.func94, Try.ntmps94
 go_wp2
 go_loopg [8] k (fun kq v8 w' => ∃ (x8_1 : Int), v8 = .int .i64 x8_1 ∧ Aside0 (slices_Index_bool_bool.l0 kq l0 a1 (l0.length : Int) x8_1 = some r) ∧ Aside0 (kq ≤ k) ∧ Drawn0 w w')
 case atStart => exact ⟨(0), (by first | rfl | (simp; done) | (simp [*]; done)), H', ⟨Nat.le_refl _⟩, by repeat (first | exact Drawn0.refl _ | apply Drawn0.step)⟩
 case round =>
  clear H'
  obtain ⟨x8_1, rfl, HA, HK1, ⟨m1, rfl⟩⟩ := hrel
  cases gk with
  | zero => exact absurd HA.out (by simp [slices_Index_bool_bool.l0])
  | succ k1 =>
   have H := HA.out
   clear HA
   simp only [slices_Index_bool_bool.l0] at H
   by_cases c3 : x8_1 < (l0.length : Int)
   ·rw [if_pos c3] at H
    have c3b0 : decide (x8_1 < (l0.length : Int)) = true := decide_eq_true c3
    clear c3
    by_cases c4 : 0 ≤ x8_1
    ·rw [if_pos c4] at H
     have c4b0 : decide (0 ≤ x8_1) = true := decide_eq_true c4
     clear c4
     by_cases c5 : x8_1 < (l0.length : Int)
     ·rw [if_pos c5] at H
      have c5b0 : decide (x8_1 < (l0.length : Int)) = true := decide_eq_true c5
      clear c5
      by_cases c6 : (a1 == (rdOf false l0 x8_1)) = true
      ·rw [if_pos c6] at H
       have c6b0 : (a1 == (rdOf false l0 x8_1)) = true := c6
       (try (have c6b1 : decide (a1 = (rdOf false l0 x8_1)) = true := by simpa using c6))
       (try (have c6b2 : (a1 == (rdOf false l0 x8_1)) = true := by simpa using c6))
       clear c6
       obtain rfl := Option.some.inj H
       have p166 : 0 ≤ (x8_1 : Int) := of_decide_eq_true (by assumption)
       have q166 : x8_1 < (l0.length : Int) := of_decide_eq_true (by assumption)
       obtain ⟨ad166, e166, hx166_0⟩ := Kd.at_bool HR0.out x8_1 p166 q166
       cases e166
       replace p166 := eq_true p166
       replace q166 := eq_true q166
       go_wp2
       go_ret
       exact ⟨by first | rfl | (unfold wrap64; rfl) | (simp; done) | (simp [*]; done), by repeat (first | exact Drawn0.refl _ | apply Drawn0.step)⟩
      ·rw [if_neg c6] at H
       have c6b0 : (a1 == (rdOf false l0 x8_1)) = false := by simpa using c6
       (try (have c6b1 : decide (a1 = (rdOf false l0 x8_1)) = false := by simpa using c6))
       (try (have c6b2 : (a1 == (rdOf false l0 x8_1)) = false := by simpa using c6))
       (try (have c6b3 : ¬ (a1 = (rdOf false l0 x8_1)) := by simpa using c6))
       clear c6
       have H' := Aside0.mk H
       clear H
       have p166 : 0 ≤ (x8_1 : Int) := of_decide_eq_true (by assumption)
       have q166 : x8_1 < (l0.length : Int) := of_decide_eq_true (by assumption)
       obtain ⟨ad166, e166, hx166_0⟩ := Kd.at_bool HR0.out x8_1 p166 q166
       cases e166
       replace p166 := eq_true p166
       replace q166 := eq_true q166
       go_wp2
       go_roundg k1
       case measure => have := HK1.out; omega
       case rel => exact ⟨(wrap64 (x8_1 + 1)), (by first | rfl | (simp; done) | (simp [*]; done)), H', ⟨by have := HK1.out; omega⟩, by repeat (first | exact Drawn0.refl _ | apply Drawn0.step)⟩
     ·rw [if_neg c5] at H
      exact absurd H (by simp)
    ·rw [if_neg c4] at H
     exact absurd H (by simp)
   ·rw [if_neg c3] at H
    have c3b0 : decide (x8_1 < (l0.length : Int)) = false := decide_eq_false c3
    clear c3
    obtain rfl := Option.some.inj H
    go_wp2
    go_ret
    exact ⟨by first | rfl | (unfold wrap64; rfl) | (simp; done) | (simp [*]; done), by repeat (first | exact Drawn0.refl _ | apply Drawn0.step)⟩
/-! ### slices_Contains_bool_bool: function 60 -/
def slices_Contains_bool_bool.f (k : Nat) (l0 : List Bool) (a1 : Bool) : Option (Bool) := (slices_Index_bool_bool.f k l0 a1).bind fun t167 => (some (decide (t167 ≥ 0)))
theorem slices_Contains_bool_bool.mono : ∀ a0 a1 k, LeO (slices_Contains_bool_bool.f k a0 a1) (slices_Contains_bool_bool.f (k + 1) a0 a1) := by
 intro a0 a1 k
 unfold slices_Contains_bool_bool.f
 repeat' first
   | (with_reducible exact slices_Index_bool_bool.mono _ _ _)
   | (with_reducible exact LeO.refl _)
   | (with_reducible exact LeO.none _)
   | (with_reducible refine LeO.ite ?_ ?_)
   | (with_reducible refine LeO.bind ?_ (fun _ => ?_))
   | exact slices_Index_bool_bool.mono _ _ _
   | exact LeO.none _
   | refine LeO.ite ?_ ?_
   | refine LeO.bind ?_ (fun _ => ?_)
set_option maxHeartbeats 8000000 in
set_option maxRecDepth 100000 in
theorem slices_Contains_bool_bool.calls (k : Nat) (A0 : Option Addr) (c0 : Nat) (l0 : List Bool) (a1 : Bool) (r : Bool) (w : World) (hr0 : Kd.C Kd.bool w A0 l0.length l0) (hc0 : l0.length ≤ c0) (h : slices_Contains_bool_bool.f k l0 a1 = some r) :
  Calls Try.prog 60 #[.slice A0 l0.length c0, .bool a1] w fun e w' => e = .returned (.bool r) ∧ Drawn0 w w' := by
 have HR0 := Aside0.mk hr0
 have HC0 := Aside0.mk hc0
 clear hr0 hc0
 have H : ((slices_Index_bool_bool.f k l0 a1).bind fun t167 => (some (decide (t167 ≥ 0)))) = some r := h
 clear h
 replace H := Option.bind_eq_some_iff.mp H
 obtain ⟨t167, A30, H⟩ := H
 replace H : (some (decide (t167 ≥ 0))) = some r := H
 have A3 := Aside0.mk A30
 clear A30
 obtain rfl := Option.some.inj H
 go_enter Try.func60, Try.ntmps60
 go_wp2_with (first | ((with_reducible refine gate_callee (f := 94) rfl ?_); refine goesL_ (some 7) rfl rfl Try.func94 (by kernel_rfl) rfl #[.slice A0 l0.length c0, .bool a1] rfl (by (try simp only [List.map_toArray, List.map_cons, List.map_nil]); first | done | rfl) ?_; (with_reducible refine (slices_Index_bool_bool.calls k _ _ l0 a1 t167 _ ?side1 ?side2 A3.out).mono ?_); (case side1 => exact cx HR0.out); (case side2 => exact HC0.out); rintro e w' ⟨rfl, ⟨nd, rfl⟩⟩; refine ⟨_, rfl, ?_⟩))
 go_ret
 exact ⟨by first | rfl | (unfold wrap64; rfl) | (simp; done) | (simp [*]; done), by repeat (first | exact Drawn0.refl _ | apply Drawn0.step)⟩
end Go.Proofs.Ytfohecpfenegkaa.Print
end
section
namespace Go.Proofs.Ytfohecpfenegkaa.Print
open Go.RowKit Go.Proofs.YtfohecpfenegkaaW.PrintWords Go.Proofs.YtfohecpfenegkaaW.PrintLast Go.Proofs.YtfohecpfenegkaaW.PrintMore
attribute [local go_sem] max2_int min2_int max_two min_two max_three min_three max_four min_four   -- for this text's walks alone
set_option linter.unusedVariables false
set_option linter.unusedSimpArgs false
/-! ### dict_take_int_fn34: function 33 -/
mutual
def dict_take_int_fn34.j0 : Nat → ByteArray → Int → Bool → Option (List Int × List Int × Int)
 | 0, _, _, _ => none
 | k + 1, x0, x1, x25 => if x25 = true then (some (([] : List Int), ([] : List Int), 1)) else (if x1 = 0 then (if x0.toList = ([] : List UInt8) then (some (([] : List Int), ([] : List Int), 0)) else (some (([] : List Int), ([] : List Int), 20))) else ((vint_Take.f k x0).bind fun bt168 => (if bt168.2.2 = 0 then (if bt168.1 < 1 then (dict_take_int_fn34.j1 k x0 x1 bt168.1 bt168.2.1 true) else (dict_take_int_fn34.j1 k x0 x1 bt168.1 bt168.2.1 (decide (bt168.1 > x1)))) else (dict_take_int_fn34.j1 k x0 x1 bt168.1 bt168.2.1 true))))
def dict_take_int_fn34.j1 : Nat → ByteArray → Int → Int → Int → Bool → Option (List Int × List Int × Int)
 | 0, _, _, _, _, _ => none
 | k + 1, x0, x1, x9, x10, x46 => if x46 = true then (some (([] : List Int), ([] : List Int), 20)) else (dict_take_int_fn34.l0 k x0 x1 x9 x10 ([] : List Int) x9 0)
def dict_take_int_fn34.l0 : Nat → ByteArray → Int → Int → Int → List Int → Int → Int → Option (List Int × List Int × Int)
 | 0, _, _, _, _, _, _, _ => none
 | k + 1, x0, x1, x9, x10, x12, x47, x48 => if x48 < x47 then (if 0 ≤ x10 then (if x10 ≤ (x0.size : Int) then ((dict_TakeInts_1.f k (x0.extract (x10 : Int).toNat x0.size)).bind fun bt171 => (if bt171.2 = 0 then (some (([] : List Int), ([] : List Int), 20)) else (if x48 > 0 then (if 0 ≤ (wrap64 (x48 - 1)) then (if (wrap64 (x48 - 1)) < (x12.length : Int) then (if bt171.1 ≤ (rd x12 (wrap64 (x48 - 1))) then (some (([] : List Int), ([] : List Int), 20)) else (if x12.length < 17592186044416 then (dict_take_int_fn34.l0 k x0 x1 x9 (wrap64 (x10 + bt171.2)) (x12 ++ [bt171.1]) x47 (wrap64 (x48 + 1))) else (none))) else (none)) else (none)) else (if x12.length < 17592186044416 then (dict_take_int_fn34.l0 k x0 x1 x9 (wrap64 (x10 + bt171.2)) (x12 ++ [bt171.1]) x47 (wrap64 (x48 + 1))) else (none))))) else (none)) else (none)) else (if 0 ≤ x10 then (if x10 ≤ (x0.size : Int) then ((pack_Width.f k (([wrap64 (x9 - 1)] : List Int))).bind fun t183 => ((pack_Take.f k (x0.extract (x10 : Int).toNat x0.size) x1 t183).bind fun bt184 => (if bt184.2 = 0 then (if 0 ≤ x9 then (if (x9 : Int).toNat ≤ 281474976710656 then (dict_take_int_fn34.l1 k x9 x12 bt184.1 (List.replicate (x9 : Int).toNat false) bt184.1 (bt184.1.length : Int) 0) else (none)) else (none)) else (some (([] : List Int), ([] : List Int), 20))))) else (none)) else (none))
def dict_take_int_fn34.l1 : Nat → Int → List Int → List Int → List Bool → List Int → Int → Int → Option (List Int × List Int × Int)
 | 0, _, _, _, _, _, _, _ => none
 | k + 1, x9, x12, x16, x17, x98, x99, x100 => if x100 < x99 then (if 0 ≤ x100 then (if x100 < (x98.length : Int) then (if (rd x98 x100) < 0 then (some (([] : List Int), ([] : List Int), 20)) else (if (rd x98 x100) ≥ x9 then (some (([] : List Int), ([] : List Int), 20)) else (if 0 ≤ (rd x98 x100) then (if (rd x98 x100) < (x17.length : Int) then (dict_take_int_fn34.l1 k x9 x12 x16 (x17.set ((rd x98 x100) : Int).toNat true) x98 x99 (wrap64 (x100 + 1))) else (none)) else (none)))) else (none)) else (none)) else ((slices_Contains_bool_bool.f k x17 false).bind fun t193 => (if t193 = true then (some (([] : List Int), ([] : List Int), 20)) else (some (x12, x16, 0))))
end
def dict_take_int_fn34.f (k : Nat) (a0 : ByteArray) (a1 : Int)  : Option (List Int × List Int × Int) := if a1 < 0 then (dict_take_int_fn34.j0 k a0 a1 true) else (dict_take_int_fn34.j0 k a0 a1 (decide (a1 > 65536)))
theorem dict_take_int_fn34.mono_l : ∀ k, (∀ y0 y1 y2, LeO (dict_take_int_fn34.j0 k y0 y1 y2) (dict_take_int_fn34.j0 (k + 1) y0 y1 y2)) ∧ (∀ y0 y1 y2 y3 y4, LeO (dict_take_int_fn34.j1 k y0 y1 y2 y3 y4) (dict_take_int_fn34.j1 (k + 1) y0 y1 y2 y3 y4)) ∧ (∀ y0 y1 y2 y3 y4 y5 y6, LeO (dict_take_int_fn34.l0 k y0 y1 y2 y3 y4 y5 y6) (dict_take_int_fn34.l0 (k + 1) y0 y1 y2 y3 y4 y5 y6)) ∧ (∀ y0 y1 y2 y3 y4 y5 y6, LeO (dict_take_int_fn34.l1 k y0 y1 y2 y3 y4 y5 y6) (dict_take_int_fn34.l1 (k + 1) y0 y1 y2 y3 y4 y5 y6))
 | 0 => ⟨fun _ _ _ r h => by simp [dict_take_int_fn34.j0] at h, fun _ _ _ _ _ r h => by simp [dict_take_int_fn34.j1] at h, fun _ _ _ _ _ _ _ r h => by simp [dict_take_int_fn34.l0] at h, fun _ _ _ _ _ _ _ r h => by simp [dict_take_int_fn34.l1] at h⟩
 | k + 1 => by
  obtain ⟨ih0, ih1, ih2, ih3⟩ := dict_take_int_fn34.mono_l k
  refine ⟨?_, ?_, ?_, ?_⟩
  ·intro y0 y1 y2
   unfold dict_take_int_fn34.j0
   repeat' first
   | (with_reducible exact ih0 _ _ _)
   | (with_reducible exact ih1 _ _ _ _ _)
   | (with_reducible exact ih2 _ _ _ _ _ _ _)
   | (with_reducible exact ih3 _ _ _ _ _ _ _)
   | (with_reducible exact dict_TakeInts_1.mono _ _)
   | (with_reducible exact pack_Take.mono _ _ _ _)
   | (with_reducible exact pack_Width.mono _ _)
   | (with_reducible exact slices_Contains_bool_bool.mono _ _ _)
   | (with_reducible exact vint_Take.mono _ _)
   | (with_reducible exact LeO.refl _)
   | (with_reducible exact LeO.none _)
   | (with_reducible refine LeO.ite ?_ ?_)
   | (with_reducible refine LeO.bind ?_ (fun _ => ?_))
   | exact ih0 _ _ _
   | exact ih1 _ _ _ _ _
   | exact ih2 _ _ _ _ _ _ _
   | exact ih3 _ _ _ _ _ _ _
   | exact dict_TakeInts_1.mono _ _
   | exact pack_Take.mono _ _ _ _
   | exact pack_Width.mono _ _
   | exact slices_Contains_bool_bool.mono _ _ _
   | exact vint_Take.mono _ _
   | exact LeO.none _
   | refine LeO.ite ?_ ?_
   | refine LeO.bind ?_ (fun _ => ?_)
  ·intro y0 y1 y2 y3 y4
   unfold dict_take_int_fn34.j1
   repeat' first
   | (with_reducible exact ih0 _ _ _)
   | (with_reducible exact ih1 _ _ _ _ _)
   | (with_reducible exact ih2 _ _ _ _ _ _ _)
   | (with_reducible exact ih3 _ _ _ _ _ _ _)
   | (with_reducible exact dict_TakeInts_1.mono _ _)
   | (with_reducible exact pack_Take.mono _ _ _ _)
   | (with_reducible exact pack_Width.mono _ _)
   | (with_reducible exact slices_Contains_bool_bool.mono _ _ _)
   | (with_reducible exact vint_Take.mono _ _)
   | (with_reducible exact LeO.refl _)
   | (with_reducible exact LeO.none _)
   | (with_reducible refine LeO.ite ?_ ?_)
   | (with_reducible refine LeO.bind ?_ (fun _ => ?_))
   | exact ih0 _ _ _
   | exact ih1 _ _ _ _ _
   | exact ih2 _ _ _ _ _ _ _
   | exact ih3 _ _ _ _ _ _ _
   | exact dict_TakeInts_1.mono _ _
   | exact pack_Take.mono _ _ _ _
   | exact pack_Width.mono _ _
   | exact slices_Contains_bool_bool.mono _ _ _
   | exact vint_Take.mono _ _
   | exact LeO.none _
   | refine LeO.ite ?_ ?_
   | refine LeO.bind ?_ (fun _ => ?_)
  ·intro y0 y1 y2 y3 y4 y5 y6
   unfold dict_take_int_fn34.l0
   repeat' first
   | (with_reducible exact ih0 _ _ _)
   | (with_reducible exact ih1 _ _ _ _ _)
   | (with_reducible exact ih2 _ _ _ _ _ _ _)
   | (with_reducible exact ih3 _ _ _ _ _ _ _)
   | (with_reducible exact dict_TakeInts_1.mono _ _)
   | (with_reducible exact pack_Take.mono _ _ _ _)
   | (with_reducible exact pack_Width.mono _ _)
   | (with_reducible exact slices_Contains_bool_bool.mono _ _ _)
   | (with_reducible exact vint_Take.mono _ _)
   | (with_reducible exact LeO.refl _)
   | (with_reducible exact LeO.none _)
   | (with_reducible refine LeO.ite ?_ ?_)
   | (with_reducible refine LeO.bind ?_ (fun _ => ?_))
   | exact ih0 _ _ _
   | exact ih1 _ _ _ _ _
   | exact ih2 _ _ _ _ _ _ _
   | exact ih3 _ _ _ _ _ _ _
   | exact dict_TakeInts_1.mono _ _
   | exact pack_Take.mono _ _ _ _
   | exact pack_Width.mono _ _
   | exact slices_Contains_bool_bool.mono _ _ _
   | exact vint_Take.mono _ _
   | exact LeO.none _
   | refine LeO.ite ?_ ?_
   | refine LeO.bind ?_ (fun _ => ?_)
  ·intro y0 y1 y2 y3 y4 y5 y6
   unfold dict_take_int_fn34.l1
   repeat' first
   | (with_reducible exact ih0 _ _ _)
   | (with_reducible exact ih1 _ _ _ _ _)
   | (with_reducible exact ih2 _ _ _ _ _ _ _)
   | (with_reducible exact ih3 _ _ _ _ _ _ _)
   | (with_reducible exact dict_TakeInts_1.mono _ _)
   | (with_reducible exact pack_Take.mono _ _ _ _)
   | (with_reducible exact pack_Width.mono _ _)
   | (with_reducible exact slices_Contains_bool_bool.mono _ _ _)
   | (with_reducible exact vint_Take.mono _ _)
   | (with_reducible exact LeO.refl _)
   | (with_reducible exact LeO.none _)
   | (with_reducible refine LeO.ite ?_ ?_)
   | (with_reducible refine LeO.bind ?_ (fun _ => ?_))
   | exact ih0 _ _ _
   | exact ih1 _ _ _ _ _
   | exact ih2 _ _ _ _ _ _ _
   | exact ih3 _ _ _ _ _ _ _
   | exact dict_TakeInts_1.mono _ _
   | exact pack_Take.mono _ _ _ _
   | exact pack_Width.mono _ _
   | exact slices_Contains_bool_bool.mono _ _ _
   | exact vint_Take.mono _ _
   | exact LeO.none _
   | refine LeO.ite ?_ ?_
   | refine LeO.bind ?_ (fun _ => ?_)
theorem dict_take_int_fn34.mono : ∀ a0 a1 k, LeO (dict_take_int_fn34.f k a0 a1) (dict_take_int_fn34.f (k + 1) a0 a1) := by
 intro a0 a1 k
 obtain ⟨ih0, ih1, ih2, ih3⟩ := dict_take_int_fn34.mono_l k
 unfold dict_take_int_fn34.f
 repeat' first
   | (with_reducible exact ih0 _ _ _)
   | (with_reducible exact ih1 _ _ _ _ _)
   | (with_reducible exact ih2 _ _ _ _ _ _ _)
   | (with_reducible exact ih3 _ _ _ _ _ _ _)
   | (with_reducible exact dict_TakeInts_1.mono _ _)
   | (with_reducible exact pack_Take.mono _ _ _ _)
   | (with_reducible exact pack_Width.mono _ _)
   | (with_reducible exact slices_Contains_bool_bool.mono _ _ _)
   | (with_reducible exact vint_Take.mono _ _)
   | (with_reducible exact LeO.refl _)
   | (with_reducible exact LeO.none _)
   | (with_reducible refine LeO.ite ?_ ?_)
   | (with_reducible refine LeO.bind ?_ (fun _ => ?_))
   | exact ih0 _ _ _
   | exact ih1 _ _ _ _ _
   | exact ih2 _ _ _ _ _ _ _
   | exact ih3 _ _ _ _ _ _ _
   | exact dict_TakeInts_1.mono _ _
   | exact pack_Take.mono _ _ _ _
   | exact pack_Width.mono _ _
   | exact slices_Contains_bool_bool.mono _ _ _
   | exact vint_Take.mono _ _
   | exact LeO.none _
   | refine LeO.ite ?_ ?_
   | refine LeO.bind ?_ (fun _ => ?_)
def dict_take_int_fn34.T20 : Bool × List (List Nat × List Nat) := (true, [([], []), ([], []), ([0, 1], [0, 1]), ([], []), ([], []), ([4], [4]), ([5], [5]), ([6], [6]), ([2, 3, 7, 7], [2, 3, 7]), ([8], [8]), ([9], [9]), ([9], [9]), ([10, 8, 0, 1, 2, 3, 4, 5, 6, 7, 8, 9, 10], [10]), ([11, 12, 0, 1, 2, 3, 4, 5, 6, 7, 8, 9, 10, 11, 12], [11])])
def dict_take_int_fn34.B20 : List Nat := [0, 0, 3, 0, 0, 16, 48, 112, 255, 511, 1023, 1023, 2047, 8191]
theorem dict_take_int_fn34.tab20 : rtab .any (opsOf Try.f33 20) = dict_take_int_fn34.T20 := by kernel_rfl
theorem dict_take_int_fn34.bits20 : waitsOk dict_take_int_fn34.T20.2 dict_take_int_fn34.B20 = true := by kernel_rfl
set_option maxHeartbeats 8000000 in
set_option maxRecDepth 100000 in
theorem dict_take_int_fn34.calls (k : Nat) (a0 : ByteArray) (a1 : Int)  (r1 : List Int) (r2 : List Int) (r3 : Int) (w : World) (h : dict_take_int_fn34.f k a0 a1 = some (r1, r2, r3)) :
  Calls Try.prog 33 #[.string a0, .int .i64 a1, .func (.func 34) #[] #[]] w fun e w' => ∃ v0_ v1_ : Value, e = .returned (.tuple #[v0_, v1_, .int .i64 r3]) ∧ Kd.R (Kd.int .i64) 3 w' w.heap.size (fun k_ => some k_ ≠ (v1_ : Value).ownBlock) v0_ r1 ∧ Kd.R (Kd.int .i64) 3 w' w.heap.size (fun k_ => some k_ ≠ (v0_ : Value).ownBlock) v1_ r2 ∧ Below w.heap.size w w' := by
 have HB := Aside0.mk (Below.refl w.heap.size w)
 have H : (if a1 < 0 then (dict_take_int_fn34.j0 k a0 a1 true) else (dict_take_int_fn34.j0 k a0 a1 (decide (a1 > 65536)))) = some (r1, r2, r3) := h
 clear h
 have HC4 := Aside0.mk H
 clear H
 go_enter Try.func33, Try.ntmps33
 go_upto_region 1 with (fail)
 go_cut [25] (fun v25 wc => ∃ (kq : Nat) (x25_3 : Bool), v25 = .bool x25_3 ∧ Aside0 (dict_take_int_fn34.j0 kq a0 a1 x25_3 = some (r1, r2, r3)) ∧ Aside0 (kq ≤ k) ∧ Aside0 (Below w.heap.size w wc))
 case first =>
  have H := HC4.out
  clear HC4
  by_cases c5 : a1 < 0
  ·rw [if_pos c5] at H
   have c5b0 : decide (a1 < 0) = true := decide_eq_true c5
   clear c5
   (first | rw [c5b0] | (simp only [i64_w, i32_w]; rw [c5b0]) | rw [c5b1] | skip)
   have H' := Aside0.mk H
   clear H
   go_wp2
   go_meet
   case rel => exact ⟨_, (true), (by first | rfl | (simp; done) | (simp [*]; done)), H', ⟨by first | omega | exact Nat.le_refl _⟩, ⟨bh HB.out⟩⟩
  ·rw [if_neg c5] at H
   have c5b0 : decide (a1 < 0) = false := decide_eq_false c5
   clear c5
   (first | rw [c5b0] | (simp only [i64_w, i32_w]; rw [c5b0]) | rw [c5b1] | skip)
   have H' := Aside0.mk H
   clear H
   go_wp2
   go_meet
   case rel => exact ⟨_, (decide (a1 > 65536)), (by first | rfl | (simp; done) | (simp [*]; done)), H', ⟨by first | omega | exact Nat.le_refl _⟩, ⟨bh HB.out⟩⟩
 case rest =>
  clear HC4
  try clear c5
  try clear c5b0
  obtain ⟨kq, x25_3, rfl, HA, HJ3, HB⟩ := hcut
  cases kq with
  | zero => exact absurd HA.out (by simp [dict_take_int_fn34.j0])
  | succ kj3 =>
   have H := HA.out
   clear HA
   simp only [dict_take_int_fn34.j0] at H
   by_cases c6 : x25_3 = true
   ·subst c6
    have H1 : (some (([] : List Int), ([] : List Int), 1)) = some (r1, r2, r3) := by rw [if_pos rfl] at H; exact H
    clear H
    have H := H1
    clear H1
    simp only [Option.some.injEq, Prod.mk.injEq] at H
    obtain ⟨rfl, rfl, rfl⟩ := H
    go_wp2
    go_ret3
    exact ⟨_, _, er, nl, nl, bh HB.out⟩
   ·replace c6 := Bool.eq_false_iff.mpr c6
    subst c6
    have H1 : (if a1 = 0 then (if a0.toList = ([] : List UInt8) then (some (([] : List Int), ([] : List Int), 0)) else (some (([] : List Int), ([] : List Int), 20))) else ((vint_Take.f kj3 a0).bind fun bt168 => (if bt168.2.2 = 0 then (if bt168.1 < 1 then (dict_take_int_fn34.j1 kj3 a0 a1 bt168.1 bt168.2.1 true) else (dict_take_int_fn34.j1 kj3 a0 a1 bt168.1 bt168.2.1 (decide (bt168.1 > a1)))) else (dict_take_int_fn34.j1 kj3 a0 a1 bt168.1 bt168.2.1 true)))) = some (r1, r2, r3) := by rw [if_neg (show ¬ (false = true) by decide)] at H; exact H
    clear H
    have H := H1
    clear H1
    by_cases c7 : a1 = 0
    ·rw [if_pos c7] at H
     have c7b0 : (a1 == 0) = true := beq_iff_eq.mpr c7
     have c7b1 : (a1 != 0) = false := bne_eq_false_iff_eq.mpr c7
     clear c7
     by_cases c8 : a0.toList = ([] : List UInt8)
     ·rw [if_pos c8] at H
      have c8b0 : (a0.toList == ([] : List UInt8)) = true := beq_iff_eq.mpr c8
      have c8b1 : (a0.toList != ([] : List UInt8)) = false := bne_eq_false_iff_eq.mpr c8
      clear c8
      simp only [Option.some.injEq, Prod.mk.injEq] at H
      obtain ⟨rfl, rfl, rfl⟩ := H
      go_wp2
      go_ret3
      exact ⟨_, _, er, nl, nl, bh HB.out⟩
     ·rw [if_neg c8] at H
      have c8b0 : (a0.toList == ([] : List UInt8)) = false := beq_eq_false_iff_ne.mpr c8
      have c8b1 : (a0.toList != ([] : List UInt8)) = true := bne_iff_ne.mpr c8
      simp only [Option.some.injEq, Prod.mk.injEq] at H
      obtain ⟨rfl, rfl, rfl⟩ := H
      go_wp2
      go_ret3
      exact ⟨_, _, er, nl, nl, bh HB.out⟩
    ·rw [if_neg c7] at H
     have c7b0 : (a1 == 0) = false := beq_eq_false_iff_ne.mpr c7
     have c7b1 : (a1 != 0) = true := bne_iff_ne.mpr c7
     replace H := Option.bind_eq_some_iff.mp H
     obtain ⟨⟨t168, t169, t170⟩, A90, H⟩ := H
     replace H : (if t170 = 0 then (if t168 < 1 then (dict_take_int_fn34.j1 kj3 a0 a1 t168 t169 true) else (dict_take_int_fn34.j1 kj3 a0 a1 t168 t169 (decide (t168 > a1)))) else (dict_take_int_fn34.j1 kj3 a0 a1 t168 t169 true)) = some (r1, r2, r3) := H
     have A9 := Aside0.mk A90
     clear A90
     have HC10 := Aside0.mk H
     clear H
     go_upto_region 8 with (first | ((with_reducible refine gate_callee (f := 35) rfl ?_); refine goesL_ (some 32) rfl rfl Try.func35 (by kernel_rfl) rfl #[.string a0] rfl (by (try simp only [List.map_toArray, List.map_cons, List.map_nil]); first | done | rfl) ?_; (with_reducible refine (vint_Take.calls kj3 a0 t168 t169 t170 _ A9.out).mono ?_); rintro e w11 ⟨rfl, hb⟩; refine ⟨_, rfl, ?_⟩; replace HB := bsa HB hb; (try clear hb)))
     (try simp only [Act.put, List.setIfInBounds_toArray, List.set_cons_zero, List.set_cons_succ])
     go_cut [46] (fun v46 wc => ∃ (kq : Nat) (x46_9 : Bool), v46 = .bool x46_9 ∧ Aside0 (dict_take_int_fn34.j1 kq a0 a1 t168 t169 x46_9 = some (r1, r2, r3)) ∧ Aside0 (kq ≤ kj3) ∧ Aside0 (Below w.heap.size w wc))
     case first =>
      have H := HC10.out
      clear HC10
      by_cases c12 : t170 = 0
      ·rw [if_pos c12] at H
       have c12b0 : (t170 == 0) = true := beq_iff_eq.mpr c12
       have c12b1 : (t170 != 0) = false := bne_eq_false_iff_eq.mpr c12
       clear c12
       (first | rw [c12b0] | (simp only [i64_w, i32_w]; rw [c12b0]) | rw [c12b1] | skip)
       by_cases c13 : t168 < 1
       ·rw [if_pos c13] at H
        have c13b0 : decide (t168 < 1) = true := decide_eq_true c13
        clear c13
        have H' := Aside0.mk H
        clear H
        go_wp2
        go_meet
        case rel => exact ⟨_, (true), (by first | rfl | (simp; done) | (simp [*]; done)), H', ⟨by have := HJ3.out; first | omega | exact Nat.le_refl _⟩, ⟨bh HB.out⟩⟩
       ·rw [if_neg c13] at H
        have c13b0 : decide (t168 < 1) = false := decide_eq_false c13
        clear c13
        have H' := Aside0.mk H
        clear H
        go_wp2
        go_meet
        case rel => exact ⟨_, (decide (t168 > a1)), (by first | rfl | (simp; done) | (simp [*]; done)), H', ⟨by have := HJ3.out; first | omega | exact Nat.le_refl _⟩, ⟨bh HB.out⟩⟩
      ·rw [if_neg c12] at H
       have c12b0 : (t170 == 0) = false := beq_eq_false_iff_ne.mpr c12
       have c12b1 : (t170 != 0) = true := bne_iff_ne.mpr c12
       (first | rw [c12b0] | (simp only [i64_w, i32_w]; rw [c12b0]) | rw [c12b1] | skip)
       have H' := Aside0.mk H
       clear H
       go_wp2
       go_meet
       case rel => exact ⟨_, (true), (by first | rfl | (simp; done) | (simp [*]; done)), H', ⟨by have := HJ3.out; first | omega | exact Nat.le_refl _⟩, ⟨bh HB.out⟩⟩
     case rest =>
      clear HC10
      try clear c5
      try clear c5b0
      try clear c6
      try clear c7
      try clear c7b0
      try clear c7b1
      try clear c8
      try clear c8b0
      try clear c8b1
      try clear c12
      try clear c12b0
      try clear c12b1
      try clear c13
      try clear c13b0
      obtain ⟨kq, x46_9, rfl, HA, HJ9, HB⟩ := hcut
      cases kq with
      | zero => exact absurd HA.out (by simp [dict_take_int_fn34.j1])
      | succ kj9 =>
       have H := HA.out
       clear HA
       simp only [dict_take_int_fn34.j1] at H
       by_cases c14 : x46_9 = true
       ·subst c14
        have H1 : (some (([] : List Int), ([] : List Int), 20)) = some (r1, r2, r3) := by rw [if_pos rfl] at H; exact H
        clear H
        have H := H1
        clear H1
        simp only [Option.some.injEq, Prod.mk.injEq] at H
        obtain ⟨rfl, rfl, rfl⟩ := H
        go_wp2
        go_ret3
        exact ⟨_, _, er, nl, nl, bh HB.out⟩
       ·replace c14 := Bool.eq_false_iff.mpr c14
        subst c14
        have H1 : (dict_take_int_fn34.l0 kj9 a0 a1 t168 t169 ([] : List Int) t168 0) = some (r1, r2, r3) := by rw [if_neg (show ¬ (false = true) by decide)] at H; exact H
        clear H
        have H := H1
        clear H1
        have H' := Aside0.mk H
        clear H
        go_wp2
        go_loopg [10, 12, 48] kj9 (fun kq v10 v12 v48 w' => ∃ (x10_3 : Int) (x12_3 : List Int) (x48_3 : Int), v10 = .int .i64 x10_3 ∧ v48 = .int .i64 x48_3 ∧ Aside0 (dict_take_int_fn34.l0 kq a0 a1 t168 x10_3 x12_3 t168 x48_3 = some (r1, r2, r3)) ∧ Aside0 (kq ≤ kj9) ∧ Aside0 (Kd.R (Kd.int .i64) 3 w' w.heap.size (fun _ => True) v12 x12_3) ∧ Aside0 (Below w.heap.size w w'))
        case atStart => exact ⟨(t169), (([] : List Int)), (0), (by first | rfl | (simp; done) | (simp [*]; done)), (by first | rfl | (simp; done) | (simp [*]; done)), H', ⟨Nat.le_refl _⟩, ⟨nl⟩, ⟨bh HB.out⟩⟩
        case round =>
         clear H'
         try clear c5
         try clear c5b0
         try clear c6
         try clear c7
         try clear c7b0
         try clear c7b1
         try clear c8
         try clear c8b0
         try clear c8b1
         try clear c12
         try clear c12b0
         try clear c12b1
         try clear c13
         try clear c13b0
         try clear c14
         obtain ⟨x10_3, x12_3, x48_3, rfl, rfl, HA, HK3, HO_12, HB⟩ := hrel
         cases gk with
         | zero => exact absurd HA.out (by simp [dict_take_int_fn34.l0])
         | succ k3 =>
          have H := HA.out
          clear HA
          simp only [dict_take_int_fn34.l0] at H
          by_cases c15 : x48_3 < t168
          ·rw [if_pos c15] at H
           have c15b0 : decide (x48_3 < t168) = true := decide_eq_true c15
           clear c15
           by_cases c16 : 0 ≤ x10_3
           ·rw [if_pos c16] at H
            have c16b0 := eq_true c16
            have c16b1 : decide (0 ≤ x10_3) = true := decide_eq_true c16
            clear c16
            by_cases c17 : x10_3 ≤ (a0.size : Int)
            ·rw [if_pos c17] at H
             have c17b0 := eq_true c17
             have c17b1 : decide (x10_3 ≤ (a0.size : Int)) = true := decide_eq_true c17
             clear c17
             replace H := Option.bind_eq_some_iff.mp H
             obtain ⟨⟨t171, t172⟩, A180, H⟩ := H
             replace H : (if t172 = 0 then (some (([] : List Int), ([] : List Int), 20)) else (if x48_3 > 0 then (if 0 ≤ (wrap64 (x48_3 - 1)) then (if (wrap64 (x48_3 - 1)) < (x12_3.length : Int) then (if t171 ≤ (rd x12_3 (wrap64 (x48_3 - 1))) then (some (([] : List Int), ([] : List Int), 20)) else (if x12_3.length < 17592186044416 then (dict_take_int_fn34.l0 k3 a0 a1 t168 (wrap64 (x10_3 + t172)) (x12_3 ++ [t171]) t168 (wrap64 (x48_3 + 1))) else (none))) else (none)) else (none)) else (if x12_3.length < 17592186044416 then (dict_take_int_fn34.l0 k3 a0 a1 t168 (wrap64 (x10_3 + t172)) (x12_3 ++ [t171]) t168 (wrap64 (x48_3 + 1))) else (none)))) = some (r1, r2, r3) := H
             have A18 := Aside0.mk A180
             clear A180
             by_cases c19 : t172 = 0
             ·rw [if_pos c19] at H
              have c19b0 : (t172 == 0) = true := beq_iff_eq.mpr c19
              have c19b1 : (t172 != 0) = false := bne_eq_false_iff_eq.mpr c19
              clear c19
              simp only [Option.some.injEq, Prod.mk.injEq] at H
              obtain ⟨rfl, rfl, rfl⟩ := H
              go_wp2_with (first | ((with_reducible refine gate_list ?_); refine gate_value rfl ?_; refine goesV_ (some 56) rfl rfl Try.func34 (by kernel_rfl) rfl #[.string (a0.extract (x10_3 : Int).toNat a0.size)] rfl (by first | rfl | simp) (by (try simp only [List.map_toArray, List.map_cons, List.map_nil]); first | done | rfl | (simp only [List.length_drop, List.length_take]; rfl) | (simp only [ByteArray.size_extract, Nat.min_self]; rfl)) ?_; (with_reducible refine (dict_TakeInts_1.calls k3 (a0.extract (x10_3 : Int).toNat a0.size) t171 t172 _ A18.out).mono ?_); rintro e w20 ⟨rfl, hb⟩; refine ⟨_, rfl, ?_⟩; replace HO_12 := rba HO_12 hb; replace HB := bsa HB hb; (try clear hb)))
              go_ret3
              exact ⟨_, _, er, nl, nl, bh HB.out⟩
             ·rw [if_neg c19] at H
              have c19b0 : (t172 == 0) = false := beq_eq_false_iff_ne.mpr c19
              have c19b1 : (t172 != 0) = true := bne_iff_ne.mpr c19
              by_cases c21 : x48_3 > 0
              ·rw [if_pos c21] at H
               have c21b0 : decide (0 < x48_3) = true := decide_eq_true c21
               clear c21
               obtain ⟨ji22, hji22⟩ : ∃ j_ : Int, (wrap64 (x48_3 - 1)) = j_ := ⟨_, rfl⟩
               replace H : (if 0 ≤ (ji22) then (if (ji22) < (x12_3.length : Int) then (if t171 ≤ (rd x12_3 (ji22)) then (some (([] : List Int), ([] : List Int), 20)) else (if x12_3.length < 17592186044416 then (dict_take_int_fn34.l0 k3 a0 a1 t168 (wrap64 (x10_3 + t172)) (x12_3 ++ [t171]) t168 (wrap64 (x48_3 + 1))) else (none))) else (none)) else (none)) = some (r1, r2, r3) := by first | (rw [hji22] at H; exact H) | (simp only [hji22] at H ⊢; exact H)
               (try rw [hji22] at A18)
               have hji22w : (IntKind.i64.wrap (x48_3 - 1)) = ji22 := (i64_w _).trans hji22
               by_cases c23 : 0 ≤ (ji22)
               ·rw [if_pos c23] at H
                have c23b0 : decide (0 ≤ (ji22)) = true := decide_eq_true c23
                clear c23
                by_cases c24 : (ji22) < (x12_3.length : Int)
                ·rw [if_pos c24] at H
                 have c24b0 : decide ((ji22) < (x12_3.length : Int)) = true := decide_eq_true c24
                 clear c24
                 by_cases c25 : t171 ≤ (rd x12_3 (ji22))
                 ·rw [if_pos c25] at H
                  have c25b0 : decide (t171 ≤ (rd x12_3 (ji22))) = true := decide_eq_true c25
                  clear c25
                  simp only [Option.some.injEq, Prod.mk.injEq] at H
                  obtain ⟨rfl, rfl, rfl⟩ := H
                  go_wp2_with (first | ((with_reducible refine gate_list ?_); refine gate_value rfl ?_; refine goesV_ (some 56) rfl rfl Try.func34 (by kernel_rfl) rfl #[.string (a0.extract (x10_3 : Int).toNat a0.size)] rfl (by first | rfl | simp) (by (try simp only [List.map_toArray, List.map_cons, List.map_nil]); first | done | rfl | (simp only [List.length_drop, List.length_take]; rfl) | (simp only [ByteArray.size_extract, Nat.min_self]; rfl)) ?_; (with_reducible refine (dict_TakeInts_1.calls k3 (a0.extract (x10_3 : Int).toNat a0.size) t171 t172 _ A18.out).mono ?_); rintro e w26 ⟨rfl, hb⟩; refine ⟨_, rfl, ?_⟩; replace HO_12 := rba HO_12 hb; replace HB := bsa HB hb; (try clear hb); obtain ⟨Ao27, co27, eo27⟩ := Kd.R_slice HO_12.out; subst eo27; have p173 : 0 ≤ ((ji22) : Int) := of_decide_eq_true (by assumption); have q173 : (ji22) < (x12_3.length : Int) := of_decide_eq_true (by assumption); obtain ⟨ad173, e173, hx173_0⟩ := Kd.at_int (Kd.R_reads' HO_12.out).2.2 (ji22) p173 q173; cases e173; replace p173 := eq_true p173; replace q173 := eq_true q173))
                  go_ret3
                  exact ⟨_, _, by first | rfl | (simp [errW_none, errW_some] <;> rfl) | (simp only [← hji22]; first | rfl | (simp [errW_none, errW_some] <;> rfl)) | (simp [*, errW_none, errW_some] <;> rfl), nl, nl, bh HB.out⟩
                 ·rw [if_neg c25] at H
                  have c25b0 : decide (t171 ≤ (rd x12_3 (ji22))) = false := decide_eq_false c25
                  clear c25
                  by_cases c28 : x12_3.length < 17592186044416
                  ·rw [if_pos c28] at H
                   have LMc28 := Aside0.mk c28
                   clear c28
                   obtain ⟨y174, hy174⟩ : ∃ y_ : List Int, y_ = (x12_3 ++ [t171]) := ⟨_, rfl⟩
                   replace H : (dict_take_int_fn34.l0 k3 a0 a1 t168 (wrap64 (x10_3 + t172)) y174 t168 (wrap64 (x48_3 + 1))) = some (r1, r2, r3) := by first | (rw [hy174]; with_reducible exact H) | (have H2_ := (Option.bind_some _ _).symm.trans H; rw [hy174]; with_reducible exact H2_) | (have H2_ := (Option.bind_some _ _).symm.trans H; with_reducible exact H2_) | with_reducible exact H | (rw [hy174]; exact H) | exact H
                   have Ny174 := Aside0.mk hy174
                   clear hy174
                   have H' := Aside0.mk H
                   clear H
                   go_wp2_with (first | ((with_reducible refine gate_list ?_); refine gate_value rfl ?_; refine goesV_ (some 56) rfl rfl Try.func34 (by kernel_rfl) rfl #[.string (a0.extract (x10_3 : Int).toNat a0.size)] rfl (by first | rfl | simp) (by (try simp only [List.map_toArray, List.map_cons, List.map_nil]); first | done | rfl | (simp only [List.length_drop, List.length_take]; rfl) | (simp only [ByteArray.size_extract, Nat.min_self]; rfl)) ?_; (with_reducible refine (dict_TakeInts_1.calls k3 (a0.extract (x10_3 : Int).toNat a0.size) t171 t172 _ A18.out).mono ?_); rintro e w29 ⟨rfl, hb⟩; refine ⟨_, rfl, ?_⟩; replace HO_12 := rba HO_12 hb; replace HB := bsa HB hb; (try clear hb); (try clear hk); obtain ⟨Ao30, co30, eo30⟩ := Kd.R_slice HO_12.out; subst eo30; have p173 : 0 ≤ ((ji22) : Int) := of_decide_eq_true (by assumption); have q173 : (ji22) < (x12_3.length : Int) := of_decide_eq_true (by assumption); obtain ⟨ad173, e173, hx173_0⟩ := Kd.at_int (Kd.R_reads' HO_12.out).2.2 (ji22) p173 q173; cases e173; replace p173 := eq_true p173; replace q173 := eq_true q173) | ((with_reducible refine gate_builtin (b := .append) (xs := #[.tmp 74, .tmp 76]) rfl ?_); at_builtin; refine Kd.R_append (Kd.int .i64) (w0 := w) w.heap.size rfl (.tmp 74) (.tmp 76) 25 3 (.int .i64 0) 8 rfl Try.underlying25 info3 rfl (by decide) (by omega) (.slice (some ad173) x12_3.length co30) x12_3 t171 [.int .i64 t171] (fun _ => True) (fun _ => False) rfl rfl ?aP (fun _ hk => hk.elim) ?aF ?aO ?aB ?aS ?aL ?_; (case aP => exact rfl); (case aB => exact (bh HB.out)); (case aF => exact (fun _ _ => trivial)); (case aO => exact (rx HO_12.out)); (case aS => exact (below_size (bh HB.out))); (case aL => have := LMc28.out; omega); intro v175 w31 ho hb hg hat; rw [← Ny174.out] at ho; have n0_ := Aside0.mk (hb); have n1_ := Aside0.mk (ho); clear HB HO_12; have HB := n0_; have HO176 := n1_; clear n0_ n1_; clear ho hb hg hat))
                   go_roundg k3
                   case measure => have := HJ3.out; have := HJ9.out; have := HK3.out; omega
                   case rel => exact ⟨(wrap64 (x10_3 + t172)), (y174), (wrap64 (x48_3 + 1)), (by first | rfl | (simp; done) | (simp [*]; done)), (by first | rfl | (simp; done) | (simp [*]; done)), (by first | exact H' | (simp only [hji22]; exact H')), ⟨by have := HJ3.out; have := HJ9.out; have := HK3.out; omega⟩, ⟨by (with_reducible repeat (first | apply Kd.R_alloc | apply Kd.R_drewN | apply Kd.R_drew)); exact HO176.out⟩, ⟨bh HB.out⟩⟩
                  ·rw [if_neg c28] at H
                   exact absurd H (by simp)
                ·rw [if_neg c24] at H
                 exact absurd H (by simp)
               ·rw [if_neg c23] at H
                exact absurd H (by simp)
              ·rw [if_neg c21] at H
               have c21b0 : decide (0 < x48_3) = false := decide_eq_false c21
               clear c21
               by_cases c32 : x12_3.length < 17592186044416
               ·rw [if_pos c32] at H
                have LMc32 := Aside0.mk c32
                clear c32
                obtain ⟨y177, hy177⟩ : ∃ y_ : List Int, y_ = (x12_3 ++ [t171]) := ⟨_, rfl⟩
                replace H : (dict_take_int_fn34.l0 k3 a0 a1 t168 (wrap64 (x10_3 + t172)) y177 t168 (wrap64 (x48_3 + 1))) = some (r1, r2, r3) := by first | (rw [hy177]; with_reducible exact H) | (have H2_ := (Option.bind_some _ _).symm.trans H; rw [hy177]; with_reducible exact H2_) | (have H2_ := (Option.bind_some _ _).symm.trans H; with_reducible exact H2_) | with_reducible exact H | (rw [hy177]; exact H) | exact H
                have Ny177 := Aside0.mk hy177
                clear hy177
                have H' := Aside0.mk H
                clear H
                go_wp2_with (first | ((with_reducible refine gate_list ?_); refine gate_value rfl ?_; refine goesV_ (some 56) rfl rfl Try.func34 (by kernel_rfl) rfl #[.string (a0.extract (x10_3 : Int).toNat a0.size)] rfl (by first | rfl | simp) (by (try simp only [List.map_toArray, List.map_cons, List.map_nil]); first | done | rfl | (simp only [List.length_drop, List.length_take]; rfl) | (simp only [ByteArray.size_extract, Nat.min_self]; rfl)) ?_; (with_reducible refine (dict_TakeInts_1.calls k3 (a0.extract (x10_3 : Int).toNat a0.size) t171 t172 _ A18.out).mono ?_); rintro e w33 ⟨rfl, hb⟩; refine ⟨_, rfl, ?_⟩; replace HO_12 := rba HO_12 hb; replace HB := bsa HB hb; (try clear hb); (try clear hk)) | ((with_reducible refine gate_builtin (b := .append) (xs := #[.tmp 74, .tmp 76]) rfl ?_); at_builtin; refine Kd.R_append (Kd.int .i64) (w0 := w) w.heap.size rfl (.tmp 74) (.tmp 76) 25 3 (.int .i64 0) 8 rfl Try.underlying25 info3 rfl (by decide) (by omega) u12 x12_3 t171 [.int .i64 t171] (fun _ => True) (fun _ => False) rfl rfl ?aP (fun _ hk => hk.elim) ?aF ?aO ?aB ?aS ?aL ?_; (case aP => exact rfl); (case aB => exact (bh HB.out)); (case aF => exact (fun _ _ => trivial)); (case aO => exact (rx HO_12.out)); (case aS => exact (below_size (bh HB.out))); (case aL => have := LMc32.out; omega); intro v178 w34 ho hb hg hat; rw [← Ny177.out] at ho; have n0_ := Aside0.mk (hb); have n1_ := Aside0.mk (ho); clear HB HO_12; have HB := n0_; have HO179 := n1_; clear n0_ n1_; clear ho hb hg hat))
                go_roundg k3
                case measure => have := HJ3.out; have := HJ9.out; have := HK3.out; omega
                case rel => exact ⟨(wrap64 (x10_3 + t172)), (y177), (wrap64 (x48_3 + 1)), (by first | rfl | (simp; done) | (simp [*]; done)), (by first | rfl | (simp; done) | (simp [*]; done)), H', ⟨by have := HJ3.out; have := HJ9.out; have := HK3.out; omega⟩, ⟨by (with_reducible repeat (first | apply Kd.R_alloc | apply Kd.R_drewN | apply Kd.R_drew)); exact HO179.out⟩, ⟨bh HB.out⟩⟩
               ·rw [if_neg c32] at H
                exact absurd H (by simp)
            ·rw [if_neg c17] at H
             exact absurd H (by simp)
           ·rw [if_neg c16] at H
            exact absurd H (by simp)
          ·rw [if_neg c15] at H
           have c15b0 : decide (x48_3 < t168) = false := decide_eq_false c15
           clear c15
           by_cases c35 : 0 ≤ x10_3
           ·rw [if_pos c35] at H
            have c35b0 := eq_true c35
            have c35b1 : decide (0 ≤ x10_3) = true := decide_eq_true c35
            clear c35
            by_cases c36 : x10_3 ≤ (a0.size : Int)
            ·rw [if_pos c36] at H
             have c36b0 := eq_true c36
             have c36b1 : decide (x10_3 ≤ (a0.size : Int)) = true := decide_eq_true c36
             clear c36
             obtain ⟨y180, hy180⟩ : ∃ y_ : List Int, y_ = (([wrap64 (t168 - 1)] : List Int)) := ⟨_, rfl⟩
             replace H : ((pack_Width.f k3 y180).bind fun t183 => ((pack_Take.f k3 (a0.extract (x10_3 : Int).toNat a0.size) a1 t183).bind fun bt184 => (if bt184.2 = 0 then (if 0 ≤ t168 then (if (t168 : Int).toNat ≤ 281474976710656 then (dict_take_int_fn34.l1 k3 t168 x12_3 bt184.1 (List.replicate (t168 : Int).toNat false) bt184.1 (bt184.1.length : Int) 0) else (none)) else (none)) else (some (([] : List Int), ([] : List Int), 20))))) = some (r1, r2, r3) := by first | (rw [hy180]; with_reducible exact H) | (have H2_ := (Option.bind_some _ _).symm.trans H; rw [hy180]; with_reducible exact H2_) | (have H2_ := (Option.bind_some _ _).symm.trans H; with_reducible exact H2_) | with_reducible exact H | (rw [hy180]; exact H) | exact H
             have Ny180 := Aside0.mk hy180
             clear hy180
             replace H := Option.bind_eq_some_iff.mp H
             obtain ⟨t183, A370, H⟩ := H
             replace H : ((pack_Take.f k3 (a0.extract (x10_3 : Int).toNat a0.size) a1 t183).bind fun bt184 => (if bt184.2 = 0 then (if 0 ≤ t168 then (if (t168 : Int).toNat ≤ 281474976710656 then (dict_take_int_fn34.l1 k3 t168 x12_3 bt184.1 (List.replicate (t168 : Int).toNat false) bt184.1 (bt184.1.length : Int) 0) else (none)) else (none)) else (some (([] : List Int), ([] : List Int), 20)))) = some (r1, r2, r3) := H
             have A37 := Aside0.mk A370
             clear A370
             replace H := Option.bind_eq_some_iff.mp H
             obtain ⟨⟨t184, t185⟩, A380, H⟩ := H
             replace H : (if t185 = 0 then (if 0 ≤ t168 then (if (t168 : Int).toNat ≤ 281474976710656 then (dict_take_int_fn34.l1 k3 t168 x12_3 t184 (List.replicate (t168 : Int).toNat false) t184 (t184.length : Int) 0) else (none)) else (none)) else (some (([] : List Int), ([] : List Int), 20))) = some (r1, r2, r3) := H
             have A38 := Aside0.mk A380
             clear A380
             by_cases c39 : t185 = 0
             ·rw [if_pos c39] at H
              have c39b0 : (t185 == 0) = true := beq_iff_eq.mpr c39
              have c39b1 : (t185 != 0) = false := bne_eq_false_iff_eq.mpr c39
              clear c39
              by_cases c40 : 0 ≤ t168
              ·rw [if_pos c40] at H
               have c40b0 := eq_true c40
               have c40b1 : decide (0 ≤ t168) = true := decide_eq_true c40
               clear c40
               by_cases c41 : (t168 : Int).toNat ≤ 281474976710656
               ·rw [if_pos c41] at H
                have c41b0 := eq_true c41
                have c41b1 : decide ((t168 : Int).toNat ≤ 281474976710656) = true := decide_eq_true c41
                clear c41
                obtain ⟨y188, hy188⟩ : ∃ y_ : List Bool, y_ = (List.replicate (t168 : Int).toNat false) := ⟨_, rfl⟩
                replace H : (dict_take_int_fn34.l1 k3 t168 x12_3 t184 y188 t184 (t184.length : Int) 0) = some (r1, r2, r3) := by first | (rw [hy188]; with_reducible exact H) | (have H2_ := (Option.bind_some _ _).symm.trans H; rw [hy188]; with_reducible exact H2_) | (have H2_ := (Option.bind_some _ _).symm.trans H; with_reducible exact H2_) | with_reducible exact H | (rw [hy188]; exact H) | exact H
                have Ny188 := Aside0.mk hy188
                clear hy188
                have H' := Aside0.mk H
                clear H
                try go_wp2
                replace HO_12 := Aside0.mk (Kd.R_drew HO_12.out)
                replace HB := Aside0.mk (below_drew1 HB.out)
                refine start_ (n := 14) (S := fun w' => True) (ds := []) #[false, false, false, false, false, false, false, false, false, false, false, false, false, false] (by kernel_rfl) rfl rfl trivial (fun hHeld => ?_); refine with_tabW dict_take_int_fn34.tab20 dict_take_int_fn34.bits20 (fun HT_ HW_ => ?_)
                generalize wr.drew = w42 at HO_12 HB hHeld ⊢
                refine pure_ (i := 0) (N := some 83) (v := ?_) (a' := ?_) #[true, false, false, false, false, false, false, false, false, false, false, false, false, false] rfl rfl (any_of HT_.out (by kernel_rfl)) (fun _ _ _ h => h) (Or.inl ⟨by rfl, ?_⟩) ?_ ?_
                rotate_left
                ·intro w'
                 go_simp
                 with_reducible rfl
                rotate_left
                ·simp only [Act.put, List.setIfInBounds_toArray, List.set_cons_zero, List.set_cons_succ, i64_w, i32_w]
                 rfl
                refine pure_ (i := 1) (N := some 84) (v := ?_) (a' := ?_) #[true, true, false, false, false, false, false, false, false, false, false, false, false, false] rfl rfl (any_of HT_.out (by kernel_rfl)) (fun _ _ _ h => h) (Or.inl ⟨by rfl, ?_⟩) ?_ ?_
                rotate_left
                ·intro w'
                 go_simp
                 with_reducible rfl
                rotate_left
                ·simp only [Act.put, List.setIfInBounds_toArray, List.set_cons_zero, List.set_cons_succ, i64_w, i32_w]
                 rfl
                refine pure_ (i := 2) (N := some 85) (v := ?_) (a' := ?_) #[true, true, true, false, false, false, false, false, false, false, false, false, false, false] rfl rfl (any_of HT_.out (by kernel_rfl)) (fun _ _ _ h => h) (Or.inl ⟨by rfl, ?_⟩) ?_ ?_
                rotate_left
                ·intro w'
                 go_simp
                 with_reducible rfl
                rotate_left
                ·simp only [Act.put, List.setIfInBounds_toArray, List.set_cons_zero, List.set_cons_succ, i64_w, i32_w]
                 rfl
                refine pure_ (i := 3) (N := some 86) (v := ?_) (a' := ?_) #[true, true, true, true, false, false, false, false, false, false, false, false, false, false] rfl rfl (any_of HT_.out (by kernel_rfl)) (fun _ _ _ h => h) (Or.inl ⟨by rfl, ?_⟩) ?_ ?_
                rotate_left
                ·intro w'
                 go_simp
                 with_reducible rfl
                rotate_left
                ·simp only [Act.put, List.setIfInBounds_toArray, List.set_cons_zero, List.set_cons_succ, i64_w, i32_w]
                 rfl
                refine pure_ (i := 4) (N := some 87) (v := ?_) (a' := ?_) #[true, true, true, true, true, false, false, false, false, false, false, false, false, false] rfl rfl (any_of HT_.out (by kernel_rfl)) (fun _ _ _ h => h) (Or.inl ⟨by rfl, ?_⟩) ?_ ?_
                rotate_left
                ·intro w'
                 go_simp
                 with_reducible rfl
                rotate_left
                ·simp only [Act.put, List.setIfInBounds_toArray, List.set_cons_zero, List.set_cons_succ, i64_w, i32_w]
                 rfl
                refine pure_ (i := 5) (N := some 88) (v := ?_) (a' := ?_) #[true, true, true, true, true, true, false, false, false, false, false, false, false, false] rfl rfl (any_of HT_.out (by kernel_rfl)) (fun _ _ _ h => h) (Or.inl ⟨by rfl, ?_⟩) ?_ ?_
                rotate_left
                ·intro w'
                 go_simp
                 with_reducible rfl
                rotate_left
                ·simp only [Act.put, List.setIfInBounds_toArray, List.set_cons_zero, List.set_cons_succ, i64_w, i32_w]
                 rfl
                refine one_ (i := 6) (N := some 89) #[true, true, true, true, true, true, true, false, false, false, false, false, false, false] rfl rfl (one_of HT_.out (by kernel_rfl)) (by decide) (fun K hK => ?_)
                refine Kd.R_lit_step (Kd.int .i64) _ 3 ?hg (N := 89) ?hd (xs := ([wrap64 (t168 - 1)] : List Int)) (inner := [.int .i64 (wrap64 (t168 - 1))]) (ok := fun _ => True) (okp := fun _ => True) ?hr ?hp (fun _ hk => hk) trivial (Below.refl _ _) (Nat.le_refl _) (by simp) ?_; (case hd => rfl); (case hg => rfl); (case hr => first | (go_simp; done) | (go_simp; rfl)); (case hp => exact (Reps.one (show Kd.M (Kd.int .i64) _ _ _ (wrap64 (t168 - 1)) [.int .i64 (wrap64 (t168 - 1))] from rfl) (Reps.none _ _)))
                intro v181 w43 ho44 hb hg_ hnew_
                clear hg_ hnew_
                (first | rw [← Ny180.out] at ho44 | (simp only [Int.reduceToNat] at ho44; rw [← Ny180.out] at ho44))
                have HO182 := Aside0.mk (Kd.R_lower (Kd.R_new' ho44 (Kd.R_lt (rx HO_12.out))) (below_size (bh HB.out)))
                replace HO_12 := Aside0.mk (Kd.R_elder' (rx HO_12.out) (Kd.R_base ho44) hb)
                replace HB := bsa HB hb
                clear hb ho44
                obtain ⟨Ao45, co45, eo45⟩ := Kd.R_slice HO182.out
                (first | subst eo45 | (injection eo45 with f1_ f2_ f3_; have f4_ := f1_.symm; have f5_ := f3_.symm; clear f1_ f2_ f3_; subst f4_; subst f5_))
                refine hK.out _ _ trivial (fun hHeld => ?_)
                clear hK K
                refine norm_ (a' := ?_) ?_ ?_
                rotate_left
                ·show Act.put _ (some 89) _ = _
                 simp only [Act.put, List.setIfInBounds_toArray, List.set_cons_zero, List.set_cons_succ, i64_w, i32_w]
                 rfl
                refine one_ (i := 7) (N := some 90) #[true, true, true, true, true, true, true, true, false, false, false, false, false, false] rfl rfl (one_of HT_.out (by kernel_rfl)) (by decide) (fun K hK => ?_)
                refine goes_ Try.func51 (by kernel_rfl) rfl #[.slice Ao45 y180.length co45] (by rfl) rfl rfl (by (try simp only [List.map_toArray, List.map_cons, List.map_nil]); first | done | rfl) ?_
                with_reducible refine (pack_Width.calls k3 _ _ y180 t183 _ ?side1 ?side2 A37.out).mono ?_
                (case side1 => exact cx (Kd.R_reads' HO182.out).2.2)
                (case side2 => exact (Kd.R_reads' HO182.out).2.1)
                rintro e w' ⟨rfl, ⟨nd, rfl⟩⟩
                refine ⟨_, rfl, ?_⟩
                refine hK.out _ _ trivial (fun hHeld => ?_)
                clear hK K
                refine norm_ (a' := ?_) ?_ ?_
                rotate_left
                ·show Act.put _ (some 90) _ = _
                 simp only [Act.put, List.setIfInBounds_toArray, List.set_cons_zero, List.set_cons_succ, i64_w, i32_w]
                 rfl
                refine one_ (i := 8) (N := some 91) #[true, true, true, true, true, true, true, true, true, false, false, false, false, false] rfl rfl (one_of HT_.out (by kernel_rfl)) (by decide) (fun K hK => ?_)
                refine goes_ Try.func59 (by kernel_rfl) rfl #[.string (a0.extract (x10_3 : Int).toNat a0.size), .int .i64 a1, .int .i64 t183] (by rfl) rfl rfl (by (try simp only [List.map_toArray, List.map_cons, List.map_nil]); first | done | rfl | (simp only [List.length_drop, List.length_take]; rfl) | (simp only [ByteArray.size_extract, Nat.min_self]; rfl)) ?_
                with_reducible refine (pack_Take.calls k3 (a0.extract (x10_3 : Int).toNat a0.size) a1 t183 t184 t185 _ A38.out).mono ?_
                rintro e w46 ⟨v186, rfl, ho0, hb⟩
                refine ⟨_, rfl, ?_⟩
                have HO187 := Aside0.mk (Kd.R_lower (Kd.R_new' (Kd.R_new' ho0 (Kd.R_lt (rx HO_12.out))) (Kd.R_lt (rx HO182.out))) (below_size (bh HB.out)))
                replace HO_12 := Aside0.mk (Kd.R_elder' (rx HO_12.out) (Kd.R_base ho0) hb)
                replace HO182 := Aside0.mk (Kd.R_elder' (rx HO182.out) (Kd.R_base ho0) hb)
                replace HB := bsa HB hb
                (try clear hb)
                (try clear hb2)
                (try clear hk)
                (try clear hi)
                (try clear ho0)
                refine hK.out _ _ trivial (fun hHeld => ?_)
                clear hK K
                refine norm_ (a' := ?_) ?_ ?_
                rotate_left
                ·show Act.put _ (some 91) _ = _
                 simp only [Act.put, List.setIfInBounds_toArray, List.set_cons_zero, List.set_cons_succ, i64_w, i32_w]
                 rfl
                refine pure_ (i := 9) (N := some 82) (v := ?_) (a' := ?_) #[true, true, true, true, true, true, true, true, true, true, false, false, false, false] rfl rfl (any_of HT_.out (by kernel_rfl)) (fun _ _ _ h => h) (Or.inl ⟨by rfl, ?_⟩) ?_ ?_
                rotate_left
                ·intro w'
                 go_simp
                 with_reducible rfl
                rotate_left
                ·simp only [Act.put, List.setIfInBounds_toArray, List.set_cons_zero, List.set_cons_succ, i64_w, i32_w]
                 rfl
                refine pure_ (i := 10) (N := some 92) (v := ?_) (a' := ?_) #[true, true, true, true, true, true, true, true, true, true, true, false, false, false] rfl rfl (any_of HT_.out (by kernel_rfl)) (fun _ _ _ h => h) (Or.inl ⟨by rfl, ?_⟩) ?_ ?_
                rotate_left
                ·intro w'
                 go_simp
                 with_reducible rfl
                rotate_left
                ·simp only [Act.put, List.setIfInBounds_toArray, List.set_cons_zero, List.set_cons_succ, i64_w, i32_w]
                 rfl
                refine pure_ (i := 11) (N := some 93) (v := ?_) (a' := ?_) #[true, true, true, true, true, true, true, true, true, true, true, true, false, false] rfl rfl (any_of HT_.out (by kernel_rfl)) (fun _ _ _ h => h) (Or.inl ⟨by rfl, ?_⟩) ?_ ?_
                rotate_left
                ·intro w'
                 go_simp
                 with_reducible rfl
                rotate_left
                ·simp only [Act.put, List.setIfInBounds_toArray, List.set_cons_zero, List.set_cons_succ, i64_w, i32_w]
                 rfl
                refine pure_ (i := 12) (N := some 16) (v := ?_) (a' := ?_) #[true, true, true, true, true, true, true, true, true, true, true, true, true, false] rfl rfl (any_of HT_.out (by kernel_rfl)) (fun _ _ _ h => h) (Or.inl ⟨by rfl, ?_⟩) ?_ ?_
                rotate_left
                ·intro w'
                 go_simp
                 with_reducible rfl
                rotate_left
                ·simp only [Act.put, List.setIfInBounds_toArray, List.set_cons_zero, List.set_cons_succ, i64_w, i32_w]
                 rfl
                refine pure_ (i := 13) (N := some 11) (v := ?_) (a' := ?_) #[true, true, true, true, true, true, true, true, true, true, true, true, true, true] rfl rfl (any_of HT_.out (by kernel_rfl)) (fun _ _ _ h => h) (Or.inl ⟨by rfl, ?_⟩) ?_ ?_
                rotate_left
                ·intro w'
                 go_simp
                 with_reducible rfl
                rotate_left
                ·simp only [Act.put, List.setIfInBounds_toArray, List.set_cons_zero, List.set_cons_succ, i64_w, i32_w]
                 rfl
                refine done_ (done_of HT_.out (by kernel_rfl)) ?_
                try go_wp2_with (first | ((with_reducible refine gate_dst (N := 97) rfl ?_); refine Kd.R_make Kd.bool _ 4 rfl (N := 97) rfl 28 _ _ rfl t168 rfl rfl Try.underlying28 (.bool false) 1 info4 rfl (by decide) (by omega) false (ok := fun _ => True) (okp := fun _ => True) rfl (fun _ hk => hk) trivial (of_decide_eq_true (by assumption)) (Nat.le_trans (Nat.mul_le_mul_right _ (of_decide_eq_true (by assumption) : t168.toNat ≤ 281474976710656)) (by omega)) (Below.refl _ _) (Nat.le_refl _) ?_; intro v189 w47 ho48 hb hg_ hnew_; clear hg_ hnew_; (first | rw [← Ny188.out] at ho48 | (simp only [Int.reduceToNat] at ho48; rw [← Ny188.out] at ho48)); replace HO_12 := rba HO_12 hb; replace HO182 := rba HO182 hb; replace HO187 := rba HO187 hb; have HO190 := Aside0.mk (Kd.R_lower ho48 (below_size (bh HB.out))); replace HB := bsa HB hb; clear hb ho48; obtain ⟨Ao49, co49, eo49⟩ := Kd.R_slice HO187.out; subst eo49))
                go_loopg [100] k3 (fun kq v100 w' => ∃ (x17_4 : List Bool) (x100_4 : Int), v100 = .int .i64 x100_4 ∧ Aside0 (dict_take_int_fn34.l1 kq t168 x12_3 t184 x17_4 t184 (t184.length : Int) x100_4 = some (r1, r2, r3)) ∧ Aside0 (kq ≤ k3) ∧ Aside0 (Kd.R (Kd.int .i64) 3 w' w.heap.size (fun k_ => some k_ ≠ ((.slice Ao49 t184.length co49) : Value).ownBlock ∧ some k_ ≠ ((.slice Ao49 t184.length co49) : Value).ownBlock) u12 x12_3) ∧ Aside0 (Kd.R (Kd.int .i64) 3 w' w.heap.size (fun k_ => some k_ ≠ (u12 : Value).ownBlock) (.slice Ao49 t184.length co49) t184) ∧ Aside0 (Kd.R Kd.bool 4 w' w.heap.size (fun _ => True) v189 x17_4) ∧ Aside0 (Kd.R (Kd.int .i64) 3 w' w.heap.size (fun k_ => some k_ ≠ (u12 : Value).ownBlock) (.slice Ao49 t184.length co49) t184) ∧ Aside0 (Below w.heap.size w w'))
                case atStart => exact ⟨(y188), (0), (by first | rfl | (simp; done) | (simp [*]; done)), H', ⟨Nat.le_refl _⟩, ⟨by (with_reducible repeat (first | apply Kd.R_alloc | apply Kd.R_drewN | apply Kd.R_drew)); exact Kd.R_mono HO_12.out (fun _ hk => ⟨hk.2, hk.2⟩)⟩, ⟨by (with_reducible repeat (first | apply Kd.R_alloc | apply Kd.R_drewN | apply Kd.R_drew)); exact Kd.R_mono HO187.out (fun _ hk => hk.1.2)⟩, ⟨by (with_reducible repeat (first | apply Kd.R_alloc | apply Kd.R_drewN | apply Kd.R_drew)); exact HO190.out⟩, ⟨by (with_reducible repeat (first | apply Kd.R_alloc | apply Kd.R_drewN | apply Kd.R_drew)); exact Kd.R_mono HO187.out (fun _ hk => hk.1.2)⟩, ⟨bh HB.out⟩⟩
                case round =>
                 clear H'
                 try clear c5
                 try clear c5b0
                 try clear c6
                 try clear c7
                 try clear c7b0
                 try clear c7b1
                 try clear c8
                 try clear c8b0
                 try clear c8b1
                 try clear c12
                 try clear c12b0
                 try clear c12b1
                 try clear c13
                 try clear c13b0
                 try clear c14
                 try clear c15
                 try clear c15b0
                 try clear c16
                 try clear c16b0
                 try clear c16b1
                 try clear c17
                 try clear c17b0
                 try clear c17b1
                 try clear c19
                 try clear c19b0
                 try clear c19b1
                 try clear c21
                 try clear c21b0
                 try clear c23
                 try clear c23b0
                 try clear c24
                 try clear c24b0
                 try clear c25
                 try clear c25b0
                 try clear c28
                 try clear c32
                 try clear c35
                 try clear c35b0
                 try clear c35b1
                 try clear c36
                 try clear c36b0
                 try clear c36b1
                 try clear c39
                 try clear c39b0
                 try clear c39b1
                 try clear c40
                 try clear c40b0
                 try clear c40b1
                 try clear c41
                 try clear c41b0
                 try clear c41b1
                 try clear hx173_0
                 try clear p173
                 try clear q173
                 obtain ⟨x17_4, x100_4, rfl, HA, HK4, HO_12, HO_16, HO_17, HO_98, HB⟩ := hrel
                 cases gk with
                 | zero => exact absurd HA.out (by simp [dict_take_int_fn34.l1])
                 | succ k4 =>
                  have H := HA.out
                  clear HA
                  simp only [dict_take_int_fn34.l1] at H
                  by_cases c50 : x100_4 < (t184.length : Int)
                  ·rw [if_pos c50] at H
                   have c50b0 : decide (x100_4 < (t184.length : Int)) = true := decide_eq_true c50
                   clear c50
                   by_cases c51 : 0 ≤ x100_4
                   ·rw [if_pos c51] at H
                    have c51b0 : decide (0 ≤ x100_4) = true := decide_eq_true c51
                    clear c51
                    by_cases c52 : x100_4 < (t184.length : Int)
                    ·rw [if_pos c52] at H
                     have c52b0 : decide (x100_4 < (t184.length : Int)) = true := decide_eq_true c52
                     clear c52
                     by_cases c53 : (rd t184 x100_4) < 0
                     ·rw [if_pos c53] at H
                      have c53b0 : decide ((rd t184 x100_4) < 0) = true := decide_eq_true c53
                      clear c53
                      simp only [Option.some.injEq, Prod.mk.injEq] at H
                      obtain ⟨rfl, rfl, rfl⟩ := H
                      have p191 : 0 ≤ (x100_4 : Int) := of_decide_eq_true (by assumption)
                      have q191 : x100_4 < (t184.length : Int) := of_decide_eq_true (by assumption)
                      obtain ⟨ad191, e191, hx191_0⟩ := Kd.at_int (Kd.R_reads' HO_98.out).2.2 x100_4 p191 q191
                      cases e191
                      replace p191 := eq_true p191
                      replace q191 := eq_true q191
                      go_wp2
                      go_ret3
                      exact ⟨_, _, er, nl, nl, bh HB.out⟩
                     ·rw [if_neg c53] at H
                      have c53b0 : decide ((rd t184 x100_4) < 0) = false := decide_eq_false c53
                      clear c53
                      by_cases c54 : (rd t184 x100_4) ≥ t168
                      ·rw [if_pos c54] at H
                       have c54b0 : decide (t168 ≤ (rd t184 x100_4)) = true := decide_eq_true c54
                       clear c54
                       simp only [Option.some.injEq, Prod.mk.injEq] at H
                       obtain ⟨rfl, rfl, rfl⟩ := H
                       have p191 : 0 ≤ (x100_4 : Int) := of_decide_eq_true (by assumption)
                       have q191 : x100_4 < (t184.length : Int) := of_decide_eq_true (by assumption)
                       obtain ⟨ad191, e191, hx191_0⟩ := Kd.at_int (Kd.R_reads' HO_98.out).2.2 x100_4 p191 q191
                       cases e191
                       replace p191 := eq_true p191
                       replace q191 := eq_true q191
                       go_wp2
                       go_ret3
                       exact ⟨_, _, er, nl, nl, bh HB.out⟩
                      ·rw [if_neg c54] at H
                       have c54b0 : decide (t168 ≤ (rd t184 x100_4)) = false := decide_eq_false c54
                       clear c54
                       by_cases c55 : 0 ≤ (rd t184 x100_4)
                       ·rw [if_pos c55] at H
                        have c55b0 : decide (0 ≤ (rd t184 x100_4)) = true := decide_eq_true c55
                        clear c55
                        by_cases c56 : (rd t184 x100_4) < (x17_4.length : Int)
                        ·rw [if_pos c56] at H
                         have c56b0 : decide ((rd t184 x100_4) < (x17_4.length : Int)) = true := decide_eq_true c56
                         clear c56
                         obtain ⟨y192, hy192⟩ : ∃ y_ : List Bool, y_ = (x17_4.set ((rd t184 x100_4) : Int).toNat true) := ⟨_, rfl⟩
                         replace H : (dict_take_int_fn34.l1 k4 t168 x12_3 t184 y192 t184 (t184.length : Int) (wrap64 (x100_4 + 1))) = some (r1, r2, r3) := by first | (rw [hy192]; with_reducible exact H) | (have H2_ := (Option.bind_some _ _).symm.trans H; rw [hy192]; with_reducible exact H2_) | (have H2_ := (Option.bind_some _ _).symm.trans H; with_reducible exact H2_) | with_reducible exact H | (rw [hy192]; exact H) | exact H
                         have Ny192 := Aside0.mk hy192
                         clear hy192
                         have H' := Aside0.mk H
                         clear H
                         have p191 : 0 ≤ (x100_4 : Int) := of_decide_eq_true (by assumption)
                         have q191 : x100_4 < (t184.length : Int) := of_decide_eq_true (by assumption)
                         obtain ⟨ad191, e191, hx191_0⟩ := Kd.at_int (Kd.R_reads' HO_98.out).2.2 x100_4 p191 q191
                         cases e191
                         replace p191 := eq_true p191
                         replace q191 := eq_true q191
                         have p57 : 0 ≤ ((rd t184 x100_4) : Int) := of_decide_eq_true (by assumption)
                         have q57 : ((rd t184 x100_4) : Int) < ((x17_4.length : Int) : Int) := of_decide_eq_true (by assumption)
                         obtain ⟨go57, co57, eo57, gb57, gl57, cl57, HG57⟩ := Kd.R_form HO_17.out (by omega)
                         (first | cases eo57 | (injection eo57 with ea_ en_ ec_; (first | subst ea_ | (injection ea_ with ea_; subst ea_)); subst ec_; clear en_))
                         have GB57 := Aside0.mk gb57
                         have GG57 := Aside0.mk HG57
                         clear gb57 gl57 HG57
                         obtain ⟨hx57_0, hf57_0⟩ := Kd.R_celln false HO_17.out ((rd t184 x100_4) : Int) p57 q57
                         replace p57 := eq_true p57
                         replace q57 := eq_true q57
                         have HP58 := Kd.R_putg HO_17.out ((rd t184 x100_4) : Int) true
                         go_wp2_with (first | ((with_reducible refine gate_store (t := 4) (p := 113) rfl ?_); refine store_event (t := 4) (p := 113) (v := ?vo_w59) (w1 := (wr.setCell ⟨go57, ((rd t184 x100_4) : Int).toNat, none⟩ (.bool true))) ?hg ?ho ?hn ?hr ?_; (case ho => rfl); (case hg => rfl); (case hn => rfl); (case hr => first | (go_simp; done) | (go_simp; rfl)); intro w59 hw; have hg : wr.grownBy w59 (some go57) := (by rw [hw]; exact HP58.2); have hp_ : Kd.R Kd.bool 4 w59 w.heap.size (fun _ => True) (.slice (some ⟨go57, 0, none⟩) x17_4.length co57) y192 := (by rw [hw, Ny192.out]; exact HP58.1); clear HP58; replace HO_12 := Aside0.mk (Kd.R_over' (v := (.slice (some ⟨go57, 0, none⟩) x17_4.length co57)) (rx HO_12.out) (Kd.R_typed HO_17.out) (by decide) hg); replace HO_16 := Aside0.mk (Kd.R_over' (v := (.slice (some ⟨go57, 0, none⟩) x17_4.length co57)) (rx HO_16.out) (Kd.R_typed HO_17.out) (by decide) hg); replace HO_98 := Aside0.mk (Kd.R_over' (v := (.slice (some ⟨go57, 0, none⟩) x17_4.length co57)) (rx HO_98.out) (Kd.R_typed HO_17.out) (by decide) hg); replace HO_17 := Aside0.mk (hp_); replace HB := Aside0.mk ((by rw [hw]; exact below_set (HB.out) GB57.out : Below w.heap.size w w59)); clear hg hw hp_))
                         go_roundg k4
                         case measure => have := HJ3.out; have := HJ9.out; have := HK3.out; have := HK4.out; omega
                         case rel => exact ⟨(y192), (wrap64 (x100_4 + 1)), (by first | rfl | (simp; done) | (simp [*]; done)), H', ⟨by have := HJ3.out; have := HJ9.out; have := HK3.out; have := HK4.out; omega⟩, ⟨by (with_reducible repeat (first | apply Kd.R_alloc | apply Kd.R_drewN | apply Kd.R_drew)); exact HO_12.out⟩, ⟨by (with_reducible repeat (first | apply Kd.R_alloc | apply Kd.R_drewN | apply Kd.R_drew)); exact HO_16.out⟩, ⟨by (with_reducible repeat (first | apply Kd.R_alloc | apply Kd.R_drewN | apply Kd.R_drew)); exact HO_17.out⟩, ⟨by (with_reducible repeat (first | apply Kd.R_alloc | apply Kd.R_drewN | apply Kd.R_drew)); exact HO_98.out⟩, ⟨bh HB.out⟩⟩
                        ·rw [if_neg c56] at H
                         exact absurd H (by simp)
                       ·rw [if_neg c55] at H
                        exact absurd H (by simp)
                    ·rw [if_neg c52] at H
                     exact absurd H (by simp)
                   ·rw [if_neg c51] at H
                    exact absurd H (by simp)
                  ·rw [if_neg c50] at H
                   have c50b0 : decide (x100_4 < (t184.length : Int)) = false := decide_eq_false c50
                   clear c50
                   replace H := Option.bind_eq_some_iff.mp H
                   obtain ⟨t193, A600, H⟩ := H
                   replace H : (if t193 = true then (some (([] : List Int), ([] : List Int), 20)) else (some (x12_3, t184, 0))) = some (r1, r2, r3) := H
                   have A60 := Aside0.mk A600
                   clear A600
                   by_cases c61 : t193 = true
                   ·subst c61
                    have H1 : (some (([] : List Int), ([] : List Int), 20)) = some (r1, r2, r3) := by rw [if_pos rfl] at H; exact H
                    clear H
                    have H := H1
                    clear H1
                    simp only [Option.some.injEq, Prod.mk.injEq] at H
                    obtain ⟨rfl, rfl, rfl⟩ := H
                    obtain ⟨Ao62, co62, eo62⟩ := Kd.R_slice HO_17.out
                    subst eo62
                    go_wp2_with (first | ((with_reducible refine gate_callee (f := 60) rfl ?_); refine goesL_ (some 116) rfl rfl Try.func60 (by kernel_rfl) rfl #[.slice Ao62 x17_4.length co62, .bool false] rfl (by (try simp only [List.map_toArray, List.map_cons, List.map_nil]); first | done | rfl) ?_; (with_reducible refine (slices_Contains_bool_bool.calls k4 _ _ x17_4 false true _ ?side1 ?side2 A60.out).mono ?_); (case side1 => exact cx (Kd.R_reads' HO_17.out).2.2); (case side2 => exact (Kd.R_reads' HO_17.out).2.1); rintro e w' ⟨rfl, ⟨nd, rfl⟩⟩; refine ⟨_, rfl, ?_⟩))
                    go_ret3
                    exact ⟨_, _, er, nl, nl, bh HB.out⟩
                   ·replace c61 := Bool.eq_false_iff.mpr c61
                    subst c61
                    have H1 : (some (x12_3, t184, 0)) = some (r1, r2, r3) := by rw [if_neg (show ¬ (false = true) by decide)] at H; exact H
                    clear H
                    have H := H1
                    clear H1
                    simp only [Option.some.injEq, Prod.mk.injEq] at H
                    obtain ⟨rfl, rfl, rfl⟩ := H
                    obtain ⟨Ao63, co63, eo63⟩ := Kd.R_slice HO_17.out
                    subst eo63
                    go_wp2_with (first | ((with_reducible refine gate_callee (f := 60) rfl ?_); refine goesL_ (some 116) rfl rfl Try.func60 (by kernel_rfl) rfl #[.slice Ao63 x17_4.length co63, .bool false] rfl (by (try simp only [List.map_toArray, List.map_cons, List.map_nil]); first | done | rfl) ?_; (with_reducible refine (slices_Contains_bool_bool.calls k4 _ _ x17_4 false false _ ?side1 ?side2 A60.out).mono ?_); (case side1 => exact cx (Kd.R_reads' HO_17.out).2.2); (case side2 => exact (Kd.R_reads' HO_17.out).2.1); rintro e w' ⟨rfl, ⟨nd, rfl⟩⟩; refine ⟨_, rfl, ?_⟩))
                    go_ret3
                    exact ⟨_, _, er, by (with_reducible repeat (first | apply Kd.R_alloc | apply Kd.R_drewN | apply Kd.R_drew)); exact Kd.R_mono HO_12.out (fun _ hk => hk.1), by (with_reducible repeat (first | apply Kd.R_alloc | apply Kd.R_drewN | apply Kd.R_drew)); exact HO_16.out, bh HB.out⟩
               ·rw [if_neg c41] at H
                exact absurd H (by simp)
              ·rw [if_neg c40] at H
               exact absurd H (by simp)
             ·rw [if_neg c39] at H
              have c39b0 : (t185 == 0) = false := beq_eq_false_iff_ne.mpr c39
              have c39b1 : (t185 != 0) = true := bne_iff_ne.mpr c39
              simp only [Option.some.injEq, Prod.mk.injEq] at H
              obtain ⟨rfl, rfl, rfl⟩ := H
              try go_wp2
              replace HO_12 := Aside0.mk (Kd.R_drew HO_12.out)
              replace HB := Aside0.mk (below_drew1 HB.out)
              refine start_ (n := 14) (S := fun w' => True) (ds := []) #[false, false, false, false, false, false, false, false, false, false, false, false, false, false] (by kernel_rfl) rfl rfl trivial (fun hHeld => ?_); refine with_tabW dict_take_int_fn34.tab20 dict_take_int_fn34.bits20 (fun HT_ HW_ => ?_)
              generalize wr.drew = w64 at HO_12 HB hHeld ⊢
              refine pure_ (i := 0) (N := some 83) (v := ?_) (a' := ?_) #[true, false, false, false, false, false, false, false, false, false, false, false, false, false] rfl rfl (any_of HT_.out (by kernel_rfl)) (fun _ _ _ h => h) (Or.inl ⟨by rfl, ?_⟩) ?_ ?_
              rotate_left
              ·intro w'
               go_simp
               with_reducible rfl
              rotate_left
              ·simp only [Act.put, List.setIfInBounds_toArray, List.set_cons_zero, List.set_cons_succ, i64_w, i32_w]
               rfl
              refine pure_ (i := 1) (N := some 84) (v := ?_) (a' := ?_) #[true, true, false, false, false, false, false, false, false, false, false, false, false, false] rfl rfl (any_of HT_.out (by kernel_rfl)) (fun _ _ _ h => h) (Or.inl ⟨by rfl, ?_⟩) ?_ ?_
              rotate_left
              ·intro w'
               go_simp
               with_reducible rfl
              rotate_left
              ·simp only [Act.put, List.setIfInBounds_toArray, List.set_cons_zero, List.set_cons_succ, i64_w, i32_w]
               rfl
              refine pure_ (i := 2) (N := some 85) (v := ?_) (a' := ?_) #[true, true, true, false, false, false, false, false, false, false, false, false, false, false] rfl rfl (any_of HT_.out (by kernel_rfl)) (fun _ _ _ h => h) (Or.inl ⟨by rfl, ?_⟩) ?_ ?_
              rotate_left
              ·intro w'
               go_simp
               with_reducible rfl
              rotate_left
              ·simp only [Act.put, List.setIfInBounds_toArray, List.set_cons_zero, List.set_cons_succ, i64_w, i32_w]
               rfl
              refine pure_ (i := 3) (N := some 86) (v := ?_) (a' := ?_) #[true, true, true, true, false, false, false, false, false, false, false, false, false, false] rfl rfl (any_of HT_.out (by kernel_rfl)) (fun _ _ _ h => h) (Or.inl ⟨by rfl, ?_⟩) ?_ ?_
              rotate_left
              ·intro w'
               go_simp
               with_reducible rfl
              rotate_left
              ·simp only [Act.put, List.setIfInBounds_toArray, List.set_cons_zero, List.set_cons_succ, i64_w, i32_w]
               rfl
              refine pure_ (i := 4) (N := some 87) (v := ?_) (a' := ?_) #[true, true, true, true, true, false, false, false, false, false, false, false, false, false] rfl rfl (any_of HT_.out (by kernel_rfl)) (fun _ _ _ h => h) (Or.inl ⟨by rfl, ?_⟩) ?_ ?_
              rotate_left
              ·intro w'
               go_simp
               with_reducible rfl
              rotate_left
              ·simp only [Act.put, List.setIfInBounds_toArray, List.set_cons_zero, List.set_cons_succ, i64_w, i32_w]
               rfl
              refine pure_ (i := 5) (N := some 88) (v := ?_) (a' := ?_) #[true, true, true, true, true, true, false, false, false, false, false, false, false, false] rfl rfl (any_of HT_.out (by kernel_rfl)) (fun _ _ _ h => h) (Or.inl ⟨by rfl, ?_⟩) ?_ ?_
              rotate_left
              ·intro w'
               go_simp
               with_reducible rfl
              rotate_left
              ·simp only [Act.put, List.setIfInBounds_toArray, List.set_cons_zero, List.set_cons_succ, i64_w, i32_w]
               rfl
              refine one_ (i := 6) (N := some 89) #[true, true, true, true, true, true, true, false, false, false, false, false, false, false] rfl rfl (one_of HT_.out (by kernel_rfl)) (by decide) (fun K hK => ?_)
              refine Kd.R_lit_step (Kd.int .i64) _ 3 ?hg (N := 89) ?hd (xs := ([wrap64 (t168 - 1)] : List Int)) (inner := [.int .i64 (wrap64 (t168 - 1))]) (ok := fun _ => True) (okp := fun _ => True) ?hr ?hp (fun _ hk => hk) trivial (Below.refl _ _) (Nat.le_refl _) (by simp) ?_; (case hd => rfl); (case hg => rfl); (case hr => first | (go_simp; done) | (go_simp; rfl)); (case hp => exact (Reps.one (show Kd.M (Kd.int .i64) _ _ _ (wrap64 (t168 - 1)) [.int .i64 (wrap64 (t168 - 1))] from rfl) (Reps.none _ _)))
              intro v181 w65 ho66 hb hg_ hnew_
              clear hg_ hnew_
              (first | rw [← Ny180.out] at ho66 | (simp only [Int.reduceToNat] at ho66; rw [← Ny180.out] at ho66))
              have HO182 := Aside0.mk (Kd.R_lower (Kd.R_new' ho66 (Kd.R_lt (rx HO_12.out))) (below_size (bh HB.out)))
              replace HO_12 := Aside0.mk (Kd.R_elder' (rx HO_12.out) (Kd.R_base ho66) hb)
              replace HB := bsa HB hb
              clear hb ho66
              obtain ⟨Ao67, co67, eo67⟩ := Kd.R_slice HO182.out
              (first | subst eo67 | (injection eo67 with f1_ f2_ f3_; have f4_ := f1_.symm; have f5_ := f3_.symm; clear f1_ f2_ f3_; subst f4_; subst f5_))
              refine hK.out _ _ trivial (fun hHeld => ?_)
              clear hK K
              refine norm_ (a' := ?_) ?_ ?_
              rotate_left
              ·show Act.put _ (some 89) _ = _
               simp only [Act.put, List.setIfInBounds_toArray, List.set_cons_zero, List.set_cons_succ, i64_w, i32_w]
               rfl
              refine one_ (i := 7) (N := some 90) #[true, true, true, true, true, true, true, true, false, false, false, false, false, false] rfl rfl (one_of HT_.out (by kernel_rfl)) (by decide) (fun K hK => ?_)
              refine goes_ Try.func51 (by kernel_rfl) rfl #[.slice Ao67 y180.length co67] (by rfl) rfl rfl (by (try simp only [List.map_toArray, List.map_cons, List.map_nil]); first | done | rfl) ?_
              with_reducible refine (pack_Width.calls k3 _ _ y180 t183 _ ?side1 ?side2 A37.out).mono ?_
              (case side1 => exact cx (Kd.R_reads' HO182.out).2.2)
              (case side2 => exact (Kd.R_reads' HO182.out).2.1)
              rintro e w' ⟨rfl, ⟨nd, rfl⟩⟩
              refine ⟨_, rfl, ?_⟩
              refine hK.out _ _ trivial (fun hHeld => ?_)
              clear hK K
              refine norm_ (a' := ?_) ?_ ?_
              rotate_left
              ·show Act.put _ (some 90) _ = _
               simp only [Act.put, List.setIfInBounds_toArray, List.set_cons_zero, List.set_cons_succ, i64_w, i32_w]
               rfl
              refine one_ (i := 8) (N := some 91) #[true, true, true, true, true, true, true, true, true, false, false, false, false, false] rfl rfl (one_of HT_.out (by kernel_rfl)) (by decide) (fun K hK => ?_)
              refine goes_ Try.func59 (by kernel_rfl) rfl #[.string (a0.extract (x10_3 : Int).toNat a0.size), .int .i64 a1, .int .i64 t183] (by rfl) rfl rfl (by (try simp only [List.map_toArray, List.map_cons, List.map_nil]); first | done | rfl | (simp only [List.length_drop, List.length_take]; rfl) | (simp only [ByteArray.size_extract, Nat.min_self]; rfl)) ?_
              with_reducible refine (pack_Take.calls k3 (a0.extract (x10_3 : Int).toNat a0.size) a1 t183 t184 t185 _ A38.out).mono ?_
              rintro e w68 ⟨v186, rfl, ho0, hb⟩
              refine ⟨_, rfl, ?_⟩
              have HO187 := Aside0.mk (Kd.R_lower (Kd.R_new' (Kd.R_new' ho0 (Kd.R_lt (rx HO_12.out))) (Kd.R_lt (rx HO182.out))) (below_size (bh HB.out)))
              replace HO_12 := Aside0.mk (Kd.R_elder' (rx HO_12.out) (Kd.R_base ho0) hb)
              replace HO182 := Aside0.mk (Kd.R_elder' (rx HO182.out) (Kd.R_base ho0) hb)
              replace HB := bsa HB hb
              (try clear hb)
              (try clear hb2)
              (try clear hk)
              (try clear hi)
              (try clear ho0)
              refine hK.out _ _ trivial (fun hHeld => ?_)
              clear hK K
              refine norm_ (a' := ?_) ?_ ?_
              rotate_left
              ·show Act.put _ (some 91) _ = _
               simp only [Act.put, List.setIfInBounds_toArray, List.set_cons_zero, List.set_cons_succ, i64_w, i32_w]
               rfl
              refine pure_ (i := 9) (N := some 82) (v := ?_) (a' := ?_) #[true, true, true, true, true, true, true, true, true, true, false, false, false, false] rfl rfl (any_of HT_.out (by kernel_rfl)) (fun _ _ _ h => h) (Or.inl ⟨by rfl, ?_⟩) ?_ ?_
              rotate_left
              ·intro w'
               go_simp
               with_reducible rfl
              rotate_left
              ·simp only [Act.put, List.setIfInBounds_toArray, List.set_cons_zero, List.set_cons_succ, i64_w, i32_w]
               rfl
              refine pure_ (i := 10) (N := some 92) (v := ?_) (a' := ?_) #[true, true, true, true, true, true, true, true, true, true, true, false, false, false] rfl rfl (any_of HT_.out (by kernel_rfl)) (fun _ _ _ h => h) (Or.inl ⟨by rfl, ?_⟩) ?_ ?_
              rotate_left
              ·intro w'
               go_simp
               with_reducible rfl
              rotate_left
              ·simp only [Act.put, List.setIfInBounds_toArray, List.set_cons_zero, List.set_cons_succ, i64_w, i32_w]
               rfl
              refine pure_ (i := 11) (N := some 93) (v := ?_) (a' := ?_) #[true, true, true, true, true, true, true, true, true, true, true, true, false, false] rfl rfl (any_of HT_.out (by kernel_rfl)) (fun _ _ _ h => h) (Or.inl ⟨by rfl, ?_⟩) ?_ ?_
              rotate_left
              ·intro w'
               go_simp
               with_reducible rfl
              rotate_left
              ·simp only [Act.put, List.setIfInBounds_toArray, List.set_cons_zero, List.set_cons_succ, i64_w, i32_w]
               rfl
              refine pure_ (i := 12) (N := some 16) (v := ?_) (a' := ?_) #[true, true, true, true, true, true, true, true, true, true, true, true, true, false] rfl rfl (any_of HT_.out (by kernel_rfl)) (fun _ _ _ h => h) (Or.inl ⟨by rfl, ?_⟩) ?_ ?_
              rotate_left
              ·intro w'
               go_simp
               with_reducible rfl
              rotate_left
              ·simp only [Act.put, List.setIfInBounds_toArray, List.set_cons_zero, List.set_cons_succ, i64_w, i32_w]
               rfl
              refine pure_ (i := 13) (N := some 11) (v := ?_) (a' := ?_) #[true, true, true, true, true, true, true, true, true, true, true, true, true, true] rfl rfl (any_of HT_.out (by kernel_rfl)) (fun _ _ _ h => h) (Or.inl ⟨by rfl, ?_⟩) ?_ ?_
              rotate_left
              ·intro w'
               go_simp
               with_reducible rfl
              rotate_left
              ·simp only [Act.put, List.setIfInBounds_toArray, List.set_cons_zero, List.set_cons_succ, i64_w, i32_w]
               rfl
              refine done_ (done_of HT_.out (by kernel_rfl)) ?_
              try go_wp2
              go_ret3
              exact ⟨_, _, er, nl, nl, bh HB.out⟩
            ·rw [if_neg c36] at H
             exact absurd H (by simp)
           ·rw [if_neg c35] at H
            exact absurd H (by simp)
end Go.Proofs.Ytfohecpfenegkaa.Print
end
section
namespace Go.Proofs.Ytfohecpfenegkaa.Print
open Go.RowKit Go.Proofs.YtfohecpfenegkaaW.PrintWords Go.Proofs.YtfohecpfenegkaaW.PrintLast Go.Proofs.YtfohecpfenegkaaW.PrintMore
attribute [local go_sem] max2_int min2_int max_two min_two max_three min_three max_four min_four   -- for this text's walks alone
set_option linter.unusedVariables false
set_option linter.unusedSimpArgs false
/-! ### dict_flat_int: function 36 -/
def dict_flat_int.l0 : Nat → List Int → List Int → List Int → Int → Int → Option (List Int)
 | 0, _, _, _, _, _ => none
 | k + 1, x0, x5, x8, x9, x10 => if x10 < x9 then (if 0 ≤ x10 then (if x10 < (x8.length : Int) then (if 0 ≤ (rd x8 x10) then (if (rd x8 x10) < (x0.length : Int) then (if x5.length < 17592186044416 then (dict_flat_int.l0 k x0 (x5 ++ [rd x0 (rd x8 x10)]) x8 x9 (wrap64 (x10 + 1))) else (none)) else (none)) else (none)) else (none)) else (none)) else (some x5)
def dict_flat_int.f (k : Nat) (l0 : List Int) (l1 : List Int) : Option (List Int) := dict_flat_int.l0 k l0 ([] : List Int) l1 (l1.length : Int) 0
theorem dict_flat_int.mono_l : ∀ k, (∀ y0 y1 y2 y3 y4, LeO (dict_flat_int.l0 k y0 y1 y2 y3 y4) (dict_flat_int.l0 (k + 1) y0 y1 y2 y3 y4))
 | 0 => fun _ _ _ _ _ r h => by simp [dict_flat_int.l0] at h
 | k + 1 => by
  have ih0 := dict_flat_int.mono_l k
  ·intro y0 y1 y2 y3 y4
   unfold dict_flat_int.l0
   repeat' first
   | (with_reducible exact ih0 _ _ _ _ _)
   | (with_reducible exact LeO.refl _)
   | (with_reducible exact LeO.none _)
   | (with_reducible refine LeO.ite ?_ ?_)
   | (with_reducible refine LeO.bind ?_ (fun _ => ?_))
   | exact ih0 _ _ _ _ _
   | exact LeO.none _
   | refine LeO.ite ?_ ?_
   | refine LeO.bind ?_ (fun _ => ?_)
theorem dict_flat_int.mono : ∀ a0 a1 k, LeO (dict_flat_int.f k a0 a1) (dict_flat_int.f (k + 1) a0 a1) := by
 intro a0 a1 k
 have ih0 := dict_flat_int.mono_l k
 unfold dict_flat_int.f
 repeat' first
   | (with_reducible exact ih0 _ _ _ _ _)
   | (with_reducible exact LeO.refl _)
   | (with_reducible exact LeO.none _)
   | (with_reducible refine LeO.ite ?_ ?_)
   | (with_reducible refine LeO.bind ?_ (fun _ => ?_))
   | exact ih0 _ _ _ _ _
   | exact LeO.none _
   | refine LeO.ite ?_ ?_
   | refine LeO.bind ?_ (fun _ => ?_)
set_option maxHeartbeats 8000000 in
set_option maxRecDepth 100000 in
theorem dict_flat_int.calls (k : Nat) (A0 : Option Addr) (c0 : Nat) (l0 : List Int) (A1 : Option Addr) (c1 : Nat) (l1 : List Int) (r : List Int) (w : World) (hr0 : Kd.C (Kd.int .i64) w A0 l0.length l0) (hc0 : l0.length ≤ c0) (hr1 : Kd.C (Kd.int .i64) w A1 l1.length l1) (hc1 : l1.length ≤ c1) (h : dict_flat_int.f k l0 l1 = some r) :
  Calls Try.prog 36 #[.slice A0 l0.length c0, .slice A1 l1.length c1] w fun e w' => ∃ v0_ : Value, e = .returned (v0_) ∧ Kd.R (Kd.int .i64) 3 w' w.heap.size (fun _ => True) v0_ r ∧ Below w.heap.size w w' := by
 have HR0 := Aside0.mk hr0
 have HC0 := Aside0.mk hc0
 clear hr0 hc0
 have HR1 := Aside0.mk hr1
 have HC1 := Aside0.mk hc1
 clear hr1 hc1
 have HB := Aside0.mk (Below.refl w.heap.size w)
 have H : (dict_flat_int.l0 k l0 ([] : List Int) l1 (l1.length : Int) 0) = some r := h
 clear h
 have H' := Aside0.mk H
 clear H
 go_enter Try.func36, Try.ntmps36
 go_wp2
 go_loopg [5, 10] k (fun kq v5 v10 w' => ∃ (x5_1 : List Int) (x10_1 : Int), v10 = .int .i64 x10_1 ∧ Aside0 (dict_flat_int.l0 kq l0 x5_1 l1 (l1.length : Int) x10_1 = some r) ∧ Aside0 (kq ≤ k) ∧ Aside0 (Kd.R (Kd.int .i64) 3 w' w.heap.size (fun _ => True) v5 x5_1) ∧ Aside0 (Below w.heap.size w w'))
 case atStart => exact ⟨(([] : List Int)), (0), (by first | rfl | (simp; done) | (simp [*]; done)), H', ⟨Nat.le_refl _⟩, ⟨nl⟩, ⟨bh HB.out⟩⟩
 case round =>
  clear H'
  try clear c1
  obtain ⟨x5_1, x10_1, rfl, HA, HK1, HO_5, HB⟩ := hrel
  cases gk with
  | zero => exact absurd HA.out (by simp [dict_flat_int.l0])
  | succ k1 =>
   have H := HA.out
   clear HA
   simp only [dict_flat_int.l0] at H
   by_cases c3 : x10_1 < (l1.length : Int)
   ·rw [if_pos c3] at H
    have c3b0 : decide (x10_1 < (l1.length : Int)) = true := decide_eq_true c3
    clear c3
    by_cases c4 : 0 ≤ x10_1
    ·rw [if_pos c4] at H
     have c4b0 : decide (0 ≤ x10_1) = true := decide_eq_true c4
     clear c4
     by_cases c5 : x10_1 < (l1.length : Int)
     ·rw [if_pos c5] at H
      have c5b0 : decide (x10_1 < (l1.length : Int)) = true := decide_eq_true c5
      clear c5
      by_cases c6 : 0 ≤ (rd l1 x10_1)
      ·rw [if_pos c6] at H
       have c6b0 : decide (0 ≤ (rd l1 x10_1)) = true := decide_eq_true c6
       clear c6
       by_cases c7 : (rd l1 x10_1) < (l0.length : Int)
       ·rw [if_pos c7] at H
        have c7b0 : decide ((rd l1 x10_1) < (l0.length : Int)) = true := decide_eq_true c7
        clear c7
        by_cases c8 : x5_1.length < 17592186044416
        ·rw [if_pos c8] at H
         have LMc8 := Aside0.mk c8
         clear c8
         obtain ⟨y196, hy196⟩ : ∃ y_ : List Int, y_ = (x5_1 ++ [rd l0 (rd l1 x10_1)]) := ⟨_, rfl⟩
         replace H : (dict_flat_int.l0 k1 l0 y196 l1 (l1.length : Int) (wrap64 (x10_1 + 1))) = some r := by first | (rw [hy196]; with_reducible exact H) | (have H2_ := (Option.bind_some _ _).symm.trans H; rw [hy196]; with_reducible exact H2_) | (have H2_ := (Option.bind_some _ _).symm.trans H; with_reducible exact H2_) | with_reducible exact H | (rw [hy196]; exact H) | exact H
         have Ny196 := Aside0.mk hy196
         clear hy196
         have H' := Aside0.mk H
         clear H
         have p194 : 0 ≤ (x10_1 : Int) := of_decide_eq_true (by assumption)
         have q194 : x10_1 < (l1.length : Int) := of_decide_eq_true (by assumption)
         obtain ⟨ad194, e194, hx194_0⟩ := Kd.at_int HR1.out x10_1 p194 q194
         cases e194
         replace hx194_0 := (HB.out.cell (World.block_lt_of_cell? w _ hx194_0)).trans hx194_0
         replace p194 := eq_true p194
         replace q194 := eq_true q194
         have p195 : 0 ≤ ((rd l1 x10_1) : Int) := of_decide_eq_true (by assumption)
         have q195 : (rd l1 x10_1) < (l0.length : Int) := of_decide_eq_true (by assumption)
         obtain ⟨ad195, e195, hx195_0⟩ := Kd.at_int HR0.out (rd l1 x10_1) p195 q195
         cases e195
         replace hx195_0 := (HB.out.cell (World.block_lt_of_cell? w _ hx195_0)).trans hx195_0
         replace p195 := eq_true p195
         replace q195 := eq_true q195
         go_wp2_with (first | ((with_reducible refine gate_builtin (b := .append) (xs := #[.tmp 14, .tmp 19]) rfl ?_); at_builtin; refine Kd.R_append (Kd.int .i64) (w0 := w) w.heap.size rfl (.tmp 14) (.tmp 19) 25 3 (.int .i64 0) 8 rfl Try.underlying25 info3 rfl (by decide) (by omega) u5 x5_1 (rd l0 (rd l1 x10_1)) [.int .i64 (rd l0 (rd l1 x10_1))] (fun _ => True) (fun _ => False) rfl rfl ?aP (fun _ hk => hk.elim) ?aF ?aO ?aB ?aS ?aL ?_; (case aP => exact rfl); (case aB => exact (bh HB.out)); (case aF => exact (fun _ _ => trivial)); (case aO => exact (rx HO_5.out)); (case aS => exact (below_size (bh HB.out))); (case aL => have := LMc8.out; omega); intro v197 w9 ho hb hg hat; rw [← Ny196.out] at ho; have n0_ := Aside0.mk (hb); have n1_ := Aside0.mk (ho); clear HB HO_5; have HB := n0_; have HO198 := n1_; clear n0_ n1_; clear ho hb hg hat))
         go_roundg k1
         case measure => have := HK1.out; omega
         case rel => exact ⟨(y196), (wrap64 (x10_1 + 1)), (by first | rfl | (simp; done) | (simp [*]; done)), H', ⟨by have := HK1.out; omega⟩, ⟨by (with_reducible repeat (first | apply Kd.R_alloc | apply Kd.R_drewN | apply Kd.R_drew)); exact HO198.out⟩, ⟨bh HB.out⟩⟩
        ·rw [if_neg c8] at H
         exact absurd H (by simp)
       ·rw [if_neg c7] at H
        exact absurd H (by simp)
      ·rw [if_neg c6] at H
       exact absurd H (by simp)
     ·rw [if_neg c5] at H
      exact absurd H (by simp)
    ·rw [if_neg c4] at H
     exact absurd H (by simp)
   ·rw [if_neg c3] at H
    have c3b0 : decide (x10_1 < (l1.length : Int)) = false := decide_eq_false c3
    clear c3
    obtain rfl := Option.some.inj H
    go_wp2
    go_ret
    exact ⟨_, er, by (with_reducible repeat (first | apply Kd.R_alloc | apply Kd.R_drewN | apply Kd.R_drew)); exact HO_5.out, bh HB.out⟩
/-! ### dict_TakeInts: function 13 -/
def dict_TakeInts.f (k : Nat) (a0 : ByteArray) (a1 : Int) : Option (List Int × Int) := (dict_take_int_fn34.f k a0 a1).bind fun bt199 => (if bt199.2.2 = 0 then ((dict_flat_int.f k bt199.1 bt199.2.1).bind fun t206 => (some (t206, 0))) else (some (([] : List Int), bt199.2.2)))
theorem dict_TakeInts.mono : ∀ a0 a1 k, LeO (dict_TakeInts.f k a0 a1) (dict_TakeInts.f (k + 1) a0 a1) := by
 intro a0 a1 k
 unfold dict_TakeInts.f
 repeat' first
   | (with_reducible exact dict_flat_int.mono _ _ _)
   | (with_reducible exact dict_take_int_fn34.mono _ _ _)
   | (with_reducible exact LeO.refl _)
   | (with_reducible exact LeO.none _)
   | (with_reducible refine LeO.ite ?_ ?_)
   | (with_reducible refine LeO.bind ?_ (fun _ => ?_))
   | exact dict_flat_int.mono _ _ _
   | exact dict_take_int_fn34.mono _ _ _
   | exact LeO.none _
   | refine LeO.ite ?_ ?_
   | refine LeO.bind ?_ (fun _ => ?_)
set_option maxHeartbeats 8000000 in
set_option maxRecDepth 100000 in
theorem dict_TakeInts.calls (k : Nat) (a0 : ByteArray) (a1 : Int) (r1 : List Int) (r2 : Int) (w : World) (h : dict_TakeInts.f k a0 a1 = some (r1, r2)) :
  Calls Try.prog 13 #[.string a0, .int .i64 a1] w fun e w' => ∃ v0_ : Value, e = .returned (.tuple #[v0_, .int .i64 r2]) ∧ Kd.R (Kd.int .i64) 3 w' w.heap.size (fun _ => True) v0_ r1 ∧ Below w.heap.size w w' := by
 have HB := Aside0.mk (Below.refl w.heap.size w)
 have H : ((dict_take_int_fn34.f k a0 a1).bind fun bt199 => (if bt199.2.2 = 0 then ((dict_flat_int.f k bt199.1 bt199.2.1).bind fun t206 => (some (t206, 0))) else (some (([] : List Int), bt199.2.2)))) = some (r1, r2) := h
 clear h
 replace H := Option.bind_eq_some_iff.mp H
 obtain ⟨⟨t199, t202, t205⟩, A30, H⟩ := H
 replace H : (if t205 = 0 then ((dict_flat_int.f k t199 t202).bind fun t206 => (some (t206, 0))) else (some (([] : List Int), t205))) = some (r1, r2) := H
 have A3 := Aside0.mk A30
 clear A30
 by_cases c4 : t205 = 0
 ·rw [if_pos c4] at H
  have c4b0 : (t205 == 0) = true := beq_iff_eq.mpr c4
  have c4b1 : (t205 != 0) = false := bne_eq_false_iff_eq.mpr c4
  clear c4
  replace H := Option.bind_eq_some_iff.mp H
  obtain ⟨t206, A50, H⟩ := H
  replace H : (some (t206, 0)) = some (r1, r2) := H
  have A5 := Aside0.mk A50
  clear A50
  simp only [Option.some.injEq, Prod.mk.injEq] at H
  obtain ⟨rfl, rfl⟩ := H
  go_enter Try.func13, Try.ntmps13
  go_wp2_with (first | ((with_reducible refine gate_callee (f := 33) rfl ?_); refine goesL_ (some 12) rfl rfl Try.func33 (by kernel_rfl) rfl #[.string a0, .int .i64 a1, .func (.func 34) #[] #[]] rfl (by (try simp only [List.map_toArray, List.map_cons, List.map_nil]); first | done | rfl) ?_; (with_reducible refine (dict_take_int_fn34.calls k a0 a1  t199 t202 t205 _ A3.out).mono ?_); rintro e w6 ⟨v200, v203, rfl, ho0, ho1, hb⟩; refine ⟨_, rfl, ?_⟩; have HO201 := Aside0.mk (Kd.R_lower ho0 (below_size (bh HB.out))); have HO204 := Aside0.mk (Kd.R_lower ho1 (below_size (bh HB.out))); replace HB := bsa HB hb; (try clear hb); (try clear ho0); (try clear ho1); obtain ⟨Ao7, co7, eo7⟩ := Kd.R_slice HO201.out; subst eo7; obtain ⟨Ao8, co8, eo8⟩ := Kd.R_slice HO204.out; subst eo8) | ((with_reducible refine gate_callee (f := 36) rfl ?_); refine goesL_ (some 21) rfl rfl Try.func36 (by kernel_rfl) rfl #[.slice Ao7 t199.length co7, .slice Ao8 t202.length co8] rfl (by (try simp only [List.map_toArray, List.map_cons, List.map_nil]); first | done | rfl) ?_; (with_reducible refine (dict_flat_int.calls k _ _ t199 _ _ t202 t206 _ ?side1 ?side2 ?side3 ?side4 A5.out).mono ?_); (case side1 => exact cx (Kd.R_reads' HO201.out).2.2); (case side2 => exact (Kd.R_reads' HO201.out).2.1); (case side3 => exact cx (Kd.R_reads' HO204.out).2.2); (case side4 => exact (Kd.R_reads' HO204.out).2.1); rintro e w9 ⟨v207, rfl, ho0, hb⟩; refine ⟨_, rfl, ?_⟩; have HO208 := Aside0.mk (Kd.R_lower (Kd.R_new' (Kd.R_new' ho0 (Kd.R_lt (rx HO201.out))) (Kd.R_lt (rx HO204.out))) (below_size (bh HB.out))); replace HO201 := Aside0.mk (Kd.R_elder' (rx HO201.out) (Kd.R_base ho0) hb); replace HO204 := Aside0.mk (Kd.R_elder' (rx HO204.out) (Kd.R_base ho0) hb); replace HB := bsa HB hb; (try clear hb); (try clear ho0)))
  go_ret2
  exact ⟨_, er, by (with_reducible repeat (first | apply Kd.R_alloc | apply Kd.R_drewN | apply Kd.R_drew)); exact Kd.R_mono HO208.out (fun _ hk => trivial), bh HB.out⟩
 ·rw [if_neg c4] at H
  have c4b0 : (t205 == 0) = false := beq_eq_false_iff_ne.mpr c4
  have c4b1 : (t205 != 0) = true := bne_iff_ne.mpr c4
  simp only [Option.some.injEq, Prod.mk.injEq] at H
  obtain ⟨rfl, rfl⟩ := H
  go_enter Try.func13, Try.ntmps13
  go_wp2_with (first | ((with_reducible refine gate_callee (f := 33) rfl ?_); refine goesL_ (some 12) rfl rfl Try.func33 (by kernel_rfl) rfl #[.string a0, .int .i64 a1, .func (.func 34) #[] #[]] rfl (by (try simp only [List.map_toArray, List.map_cons, List.map_nil]); first | done | rfl) ?_; (with_reducible refine (dict_take_int_fn34.calls k a0 a1  t199 t202 t205 _ A3.out).mono ?_); rintro e w10 ⟨v200, v203, rfl, ho0, ho1, hb⟩; refine ⟨_, rfl, ?_⟩; have HO201 := Aside0.mk (Kd.R_lower ho0 (below_size (bh HB.out))); have HO204 := Aside0.mk (Kd.R_lower ho1 (below_size (bh HB.out))); replace HB := bsa HB hb; (try clear hb); (try clear ho0); (try clear ho1)))
  go_ret2
  exact ⟨_, er, nl, bh HB.out⟩
/-! ### peristyleref07_Same: function 18 -/
def peristyleref07_Same.l0 : Nat → List ByteArray → List ByteArray → Int → Option (Bool)
 | 0, _, _, _ => none
 | k + 1, x0, x1, x5 => if x5 < (x0.length : Int) then (if 0 ≤ x5 then (if x5 < (x1.length : Int) then (if (rdOf ByteArray.empty x0 x5).toList = (rdOf ByteArray.empty x1 x5).toList then (peristyleref07_Same.l0 k x0 x1 (wrap64 (x5 + 1))) else (some false)) else (none)) else (none)) else (some true)
def peristyleref07_Same.f (k : Nat) (l0 : List ByteArray) (l1 : List ByteArray) : Option (Bool) := if (l0.length : Int) = (l1.length : Int) then (peristyleref07_Same.l0 k l0 l1 0) else (some false)
theorem peristyleref07_Same.l0_succ (k : Nat) (x0 : List ByteArray) (x1 : List ByteArray) (x5 : Int) : peristyleref07_Same.l0 (k + 1) x0 x1 x5 = (if x5 < (x0.length : Int) then (if 0 ≤ x5 then (if x5 < (x1.length : Int) then (if (rdOf ByteArray.empty x0 x5).toList = (rdOf ByteArray.empty x1 x5).toList then (peristyleref07_Same.l0 k x0 x1 (wrap64 (x5 + 1))) else (some false)) else (none)) else (none)) else (some true)) := by
 simp only [peristyleref07_Same.l0]
set_option maxHeartbeats 8000000 in
set_option maxRecDepth 100000 in
theorem peristyleref07_Same.calls (k : Nat) (A0 : Option Addr) (c0 : Nat) (l0 : List ByteArray) (A1 : Option Addr) (c1 : Nat) (l1 : List ByteArray) (r : Bool) (w : World) (hr0 : Kd.C Kd.string w A0 l0.length l0) (hc0 : l0.length ≤ c0) (hr1 : Kd.C Kd.string w A1 l1.length l1) (hc1 : l1.length ≤ c1) (h : peristyleref07_Same.f k l0 l1 = some r) :
  Calls Try.prog 18 #[.slice A0 l0.length c0, .slice A1 l1.length c1] w fun e w' => e = .returned (.bool r) ∧ Drawn0 w w' := by
 have HR0 := Aside0.mk hr0
 have HC0 := Aside0.mk hc0
 clear hr0 hc0
 have HR1 := Aside0.mk hr1
 have HC1 := Aside0.mk hc1
 clear hr1 hc1
 have H : (if (l0.length : Int) = (l1.length : Int) then (peristyleref07_Same.l0 k l0 l1 0) else (some false)) = some r := h
 clear h
 by_cases c3 : (l0.length : Int) = (l1.length : Int)
 ·rw [if_pos c3] at H
  have c3b0 : ((l0.length : Int) == (l1.length : Int)) = true := beq_iff_eq.mpr c3
  have c3b1 : ((l0.length : Int) != (l1.length : Int)) = false := bne_eq_false_iff_eq.mpr c3
  have c3b2 : (l0.length == l1.length) = true := by first | simpa using c3 | (simp at c3 ⊢; omega)
  clear c3
  have H' := Aside0.mk H
  clear H
  go_enter Try.func18, Try.ntmps18
  go_wp2
  repeat (go_quiet (fail); try go_wp2)
  go_loopg [5] k (fun kq v5 w' => ∃ (x5_1 : Int), v5 = .int .i64 x5_1 ∧ Aside0 (peristyleref07_Same.l0 kq l0 l1 x5_1 = some r) ∧ Aside0 (kq ≤ k) ∧ Drawn0 w w')
  case atStart => exact ⟨(0), (by first | rfl | (simp; done) | (simp [*]; done)), H', ⟨Nat.le_refl _⟩, by repeat (first | exact Drawn0.refl _ | apply Drawn0.step)⟩
  case round =>
   clear H'
   try clear c1
   try clear c3
   try clear c3b0
   try clear c3b1
   try clear c3b2
   obtain ⟨x5_1, rfl, HA, HK1, ⟨m1, rfl⟩⟩ := hrel
   cases gk with
   | zero => exact absurd HA.out (by simp [peristyleref07_Same.l0])
   | succ k1 =>
    have H := HA.out
    clear HA
    simp only [peristyleref07_Same.l0] at H
    by_cases c4 : x5_1 < (l0.length : Int)
    ·rw [if_pos c4] at H
     have c4b0 : decide (x5_1 < (l0.length : Int)) = true := decide_eq_true c4
     clear c4
     by_cases c5 : 0 ≤ x5_1
     ·rw [if_pos c5] at H
      have c5b0 : decide (0 ≤ x5_1) = true := decide_eq_true c5
      clear c5
      by_cases c6 : x5_1 < (l1.length : Int)
      ·rw [if_pos c6] at H
       have c6b0 : decide (x5_1 < (l1.length : Int)) = true := decide_eq_true c6
       clear c6
       by_cases c7 : (rdOf ByteArray.empty l0 x5_1).toList = (rdOf ByteArray.empty l1 x5_1).toList
       ·rw [if_pos c7] at H
        have c7b0 : ((rdOf ByteArray.empty l0 x5_1).toList == (rdOf ByteArray.empty l1 x5_1).toList) = true := beq_iff_eq.mpr c7
        have c7b1 : ((rdOf ByteArray.empty l0 x5_1).toList != (rdOf ByteArray.empty l1 x5_1).toList) = false := bne_eq_false_iff_eq.mpr c7
        clear c7
        have H' := Aside0.mk H
        clear H
        have p209 : 0 ≤ (x5_1 : Int) := of_decide_eq_true (by assumption)
        have q209 : x5_1 < (l0.length : Int) := of_decide_eq_true (by assumption)
        obtain ⟨ad209, e209, hx209_0⟩ := Kd.at_string HR0.out x5_1 p209 q209
        cases e209
        replace p209 := eq_true p209
        replace q209 := eq_true q209
        have p210 : 0 ≤ (x5_1 : Int) := of_decide_eq_true (by assumption)
        have q210 : x5_1 < (l1.length : Int) := of_decide_eq_true (by assumption)
        obtain ⟨ad210, e210, hx210_0⟩ := Kd.at_string HR1.out x5_1 p210 q210
        cases e210
        replace p210 := eq_true p210
        replace q210 := eq_true q210
        go_wp2
        repeat (go_quiet (fail); try go_wp2)
        go_roundg k1
        case measure => have := HK1.out; omega
        case rel => exact ⟨(wrap64 (x5_1 + 1)), (by first | rfl | (simp; done) | (simp [*]; done)), H', ⟨by have := HK1.out; omega⟩, by repeat (first | exact Drawn0.refl _ | apply Drawn0.step)⟩
       ·rw [if_neg c7] at H
        have c7b0 : ((rdOf ByteArray.empty l0 x5_1).toList == (rdOf ByteArray.empty l1 x5_1).toList) = false := beq_eq_false_iff_ne.mpr c7
        have c7b1 : ((rdOf ByteArray.empty l0 x5_1).toList != (rdOf ByteArray.empty l1 x5_1).toList) = true := bne_iff_ne.mpr c7
        obtain rfl := Option.some.inj H
        have p209 : 0 ≤ (x5_1 : Int) := of_decide_eq_true (by assumption)
        have q209 : x5_1 < (l0.length : Int) := of_decide_eq_true (by assumption)
        obtain ⟨ad209, e209, hx209_0⟩ := Kd.at_string HR0.out x5_1 p209 q209
        cases e209
        replace p209 := eq_true p209
        replace q209 := eq_true q209
        have p210 : 0 ≤ (x5_1 : Int) := of_decide_eq_true (by assumption)
        have q210 : x5_1 < (l1.length : Int) := of_decide_eq_true (by assumption)
        obtain ⟨ad210, e210, hx210_0⟩ := Kd.at_string HR1.out x5_1 p210 q210
        cases e210
        replace p210 := eq_true p210
        replace q210 := eq_true q210
        go_wp2
        repeat (go_quiet (fail); try go_wp2)
        go_ret
        exact ⟨by first | rfl | (unfold wrap64; rfl) | (simp; done) | (simp [*]; done), by repeat (first | exact Drawn0.refl _ | apply Drawn0.step)⟩
      ·rw [if_neg c6] at H
       exact absurd H (by simp)
     ·rw [if_neg c5] at H
      exact absurd H (by simp)
    ·rw [if_neg c4] at H
     have c4b0 : decide (x5_1 < (l0.length : Int)) = false := decide_eq_false c4
     clear c4
     obtain rfl := Option.some.inj H
     go_wp2
     repeat (go_quiet (fail); try go_wp2)
     go_ret
     exact ⟨by first | rfl | (unfold wrap64; rfl) | (simp; done) | (simp [*]; done), by repeat (first | exact Drawn0.refl _ | apply Drawn0.step)⟩
 ·rw [if_neg c3] at H
  have c3b0 : ((l0.length : Int) == (l1.length : Int)) = false := beq_eq_false_iff_ne.mpr c3
  have c3b1 : ((l0.length : Int) != (l1.length : Int)) = true := bne_iff_ne.mpr c3
  have c3b2 : (l0.length == l1.length) = false := by first | simpa using c3 | (simp at c3 ⊢; omega)
  obtain rfl := Option.some.inj H
  go_enter Try.func18, Try.ntmps18
  go_wp2
  repeat (go_quiet (fail); try go_wp2)
  go_ret
  exact ⟨by first | rfl | (unfold wrap64; rfl) | (simp; done) | (simp [*]; done), by repeat (first | exact Drawn0.refl _ | apply Drawn0.step)⟩
/-! ### peristyleref01_Same: function 14 -/
def peristyleref01_Same.l0 : Nat → List Int → List Int → Int → Option (Bool)
 | 0, _, _, _ => none
 | k + 1, x0, x1, x5 => if x5 < (x0.length : Int) then (if 0 ≤ x5 then (if x5 < (x1.length : Int) then (if (rd x0 x5) = (rd x1 x5) then (peristyleref01_Same.l0 k x0 x1 (wrap64 (x5 + 1))) else (some false)) else (none)) else (none)) else (some true)
def peristyleref01_Same.f (k : Nat) (l0 : List Int) (l1 : List Int) : Option (Bool) := if (l0.length : Int) = (l1.length : Int) then (peristyleref01_Same.l0 k l0 l1 0) else (some false)
theorem peristyleref01_Same.l0_succ (k : Nat) (x0 : List Int) (x1 : List Int) (x5 : Int) : peristyleref01_Same.l0 (k + 1) x0 x1 x5 = (if x5 < (x0.length : Int) then (if 0 ≤ x5 then (if x5 < (x1.length : Int) then (if (rd x0 x5) = (rd x1 x5) then (peristyleref01_Same.l0 k x0 x1 (wrap64 (x5 + 1))) else (some false)) else (none)) else (none)) else (some true)) := by
 simp only [peristyleref01_Same.l0]
theorem peristyleref01_Same.mono_l : ∀ k, (∀ y0 y1 y2, LeO (peristyleref01_Same.l0 k y0 y1 y2) (peristyleref01_Same.l0 (k + 1) y0 y1 y2))
 | 0 => fun _ _ _ r h => by simp [peristyleref01_Same.l0] at h
 | k + 1 => by
  have ih0 := peristyleref01_Same.mono_l k
  ·intro y0 y1 y2
   unfold peristyleref01_Same.l0
   repeat' first
   | (with_reducible exact ih0 _ _ _)
   | (with_reducible exact LeO.refl _)
   | (with_reducible exact LeO.none _)
   | (with_reducible refine LeO.ite ?_ ?_)
   | (with_reducible refine LeO.bind ?_ (fun _ => ?_))
   | exact ih0 _ _ _
   | exact LeO.none _
   | refine LeO.ite ?_ ?_
   | refine LeO.bind ?_ (fun _ => ?_)
theorem peristyleref01_Same.mono : ∀ a0 a1 k, LeO (peristyleref01_Same.f k a0 a1) (peristyleref01_Same.f (k + 1) a0 a1) := by
 intro a0 a1 k
 have ih0 := peristyleref01_Same.mono_l k
 unfold peristyleref01_Same.f
 repeat' first
   | (with_reducible exact ih0 _ _ _)
   | (with_reducible exact LeO.refl _)
   | (with_reducible exact LeO.none _)
   | (with_reducible refine LeO.ite ?_ ?_)
   | (with_reducible refine LeO.bind ?_ (fun _ => ?_))
   | exact ih0 _ _ _
   | exact LeO.none _
   | refine LeO.ite ?_ ?_
   | refine LeO.bind ?_ (fun _ => ?_)
set_option maxHeartbeats 8000000 in
set_option maxRecDepth 100000 in
theorem peristyleref01_Same.calls (k : Nat) (A0 : Option Addr) (c0 : Nat) (l0 : List Int) (A1 : Option Addr) (c1 : Nat) (l1 : List Int) (r : Bool) (w : World) (hr0 : Kd.C (Kd.int .i64) w A0 l0.length l0) (hc0 : l0.length ≤ c0) (hr1 : Kd.C (Kd.int .i64) w A1 l1.length l1) (hc1 : l1.length ≤ c1) (h : peristyleref01_Same.f k l0 l1 = some r) :
  Calls Try.prog 14 #[.slice A0 l0.length c0, .slice A1 l1.length c1] w fun e w' => e = .returned (.bool r) ∧ Drawn0 w w' := by
 have HR0 := Aside0.mk hr0
 have HC0 := Aside0.mk hc0
 clear hr0 hc0
 have HR1 := Aside0.mk hr1
 have HC1 := Aside0.mk hc1
 clear hr1 hc1
 have H : (if (l0.length : Int) = (l1.length : Int) then (peristyleref01_Same.l0 k l0 l1 0) else (some false)) = some r := h
 clear h
 by_cases c3 : (l0.length : Int) = (l1.length : Int)
 ·rw [if_pos c3] at H
  have c3b0 : ((l0.length : Int) == (l1.length : Int)) = true := beq_iff_eq.mpr c3
  have c3b1 : ((l0.length : Int) != (l1.length : Int)) = false := bne_eq_false_iff_eq.mpr c3
  have c3b2 : (l0.length == l1.length) = true := by first | simpa using c3 | (simp at c3 ⊢; omega)
  clear c3
  have H' := Aside0.mk H
  clear H
  go_enter Try.func14, Try.ntmps14
  go_wp2
  repeat (go_quiet (fail); try go_wp2)
  go_loopg [5] k (fun kq v5 w' => ∃ (x5_1 : Int), v5 = .int .i64 x5_1 ∧ Aside0 (peristyleref01_Same.l0 kq l0 l1 x5_1 = some r) ∧ Aside0 (kq ≤ k) ∧ Drawn0 w w')
  case atStart => exact ⟨(0), (by first | rfl | (simp; done) | (simp [*]; done)), H', ⟨Nat.le_refl _⟩, by repeat (first | exact Drawn0.refl _ | apply Drawn0.step)⟩
  case round =>
   clear H'
   try clear c1
   try clear c3
   try clear c3b0
   try clear c3b1
   try clear c3b2
   obtain ⟨x5_1, rfl, HA, HK1, ⟨m1, rfl⟩⟩ := hrel
   cases gk with
   | zero => exact absurd HA.out (by simp [peristyleref01_Same.l0])
   | succ k1 =>
    have H := HA.out
    clear HA
    simp only [peristyleref01_Same.l0] at H
    by_cases c4 : x5_1 < (l0.length : Int)
    ·rw [if_pos c4] at H
     have c4b0 : decide (x5_1 < (l0.length : Int)) = true := decide_eq_true c4
     clear c4
     by_cases c5 : 0 ≤ x5_1
     ·rw [if_pos c5] at H
      have c5b0 : decide (0 ≤ x5_1) = true := decide_eq_true c5
      clear c5
      by_cases c6 : x5_1 < (l1.length : Int)
      ·rw [if_pos c6] at H
       have c6b0 : decide (x5_1 < (l1.length : Int)) = true := decide_eq_true c6
       clear c6
       by_cases c7 : (rd l0 x5_1) = (rd l1 x5_1)
       ·rw [if_pos c7] at H
        have c7b0 : ((rd l0 x5_1) == (rd l1 x5_1)) = true := beq_iff_eq.mpr c7
        have c7b1 : ((rd l0 x5_1) != (rd l1 x5_1)) = false := bne_eq_false_iff_eq.mpr c7
        clear c7
        have H' := Aside0.mk H
        clear H
        have p211 : 0 ≤ (x5_1 : Int) := of_decide_eq_true (by assumption)
        have q211 : x5_1 < (l0.length : Int) := of_decide_eq_true (by assumption)
        obtain ⟨ad211, e211, hx211_0⟩ := Kd.at_int HR0.out x5_1 p211 q211
        cases e211
        replace p211 := eq_true p211
        replace q211 := eq_true q211
        have p212 : 0 ≤ (x5_1 : Int) := of_decide_eq_true (by assumption)
        have q212 : x5_1 < (l1.length : Int) := of_decide_eq_true (by assumption)
        obtain ⟨ad212, e212, hx212_0⟩ := Kd.at_int HR1.out x5_1 p212 q212
        cases e212
        replace p212 := eq_true p212
        replace q212 := eq_true q212
        go_wp2
        repeat (go_quiet (fail); try go_wp2)
        go_roundg k1
        case measure => have := HK1.out; omega
        case rel => exact ⟨(wrap64 (x5_1 + 1)), (by first | rfl | (simp; done) | (simp [*]; done)), H', ⟨by have := HK1.out; omega⟩, by repeat (first | exact Drawn0.refl _ | apply Drawn0.step)⟩
       ·rw [if_neg c7] at H
        have c7b0 : ((rd l0 x5_1) == (rd l1 x5_1)) = false := beq_eq_false_iff_ne.mpr c7
        have c7b1 : ((rd l0 x5_1) != (rd l1 x5_1)) = true := bne_iff_ne.mpr c7
        obtain rfl := Option.some.inj H
        have p211 : 0 ≤ (x5_1 : Int) := of_decide_eq_true (by assumption)
        have q211 : x5_1 < (l0.length : Int) := of_decide_eq_true (by assumption)
        obtain ⟨ad211, e211, hx211_0⟩ := Kd.at_int HR0.out x5_1 p211 q211
        cases e211
        replace p211 := eq_true p211
        replace q211 := eq_true q211
        have p212 : 0 ≤ (x5_1 : Int) := of_decide_eq_true (by assumption)
        have q212 : x5_1 < (l1.length : Int) := of_decide_eq_true (by assumption)
        obtain ⟨ad212, e212, hx212_0⟩ := Kd.at_int HR1.out x5_1 p212 q212
        cases e212
        replace p212 := eq_true p212
        replace q212 := eq_true q212
        go_wp2
        repeat (go_quiet (fail); try go_wp2)
        go_ret
        exact ⟨by first | rfl | (unfold wrap64; rfl) | (simp; done) | (simp [*]; done), by repeat (first | exact Drawn0.refl _ | apply Drawn0.step)⟩
      ·rw [if_neg c6] at H
       exact absurd H (by simp)
     ·rw [if_neg c5] at H
      exact absurd H (by simp)
    ·rw [if_neg c4] at H
     have c4b0 : decide (x5_1 < (l0.length : Int)) = false := decide_eq_false c4
     clear c4
     obtain rfl := Option.some.inj H
     go_wp2
     repeat (go_quiet (fail); try go_wp2)
     go_ret
     exact ⟨by first | rfl | (unfold wrap64; rfl) | (simp; done) | (simp [*]; done), by repeat (first | exact Drawn0.refl _ | apply Drawn0.step)⟩
 ·rw [if_neg c3] at H
  have c3b0 : ((l0.length : Int) == (l1.length : Int)) = false := beq_eq_false_iff_ne.mpr c3
  have c3b1 : ((l0.length : Int) != (l1.length : Int)) = true := bne_iff_ne.mpr c3
  have c3b2 : (l0.length == l1.length) = false := by first | simpa using c3 | (simp at c3 ⊢; omega)
  obtain rfl := Option.some.inj H
  go_enter Try.func14, Try.ntmps14
  go_wp2
  repeat (go_quiet (fail); try go_wp2)
  go_ret
  exact ⟨by first | rfl | (unfold wrap64; rfl) | (simp; done) | (simp [*]; done), by repeat (first | exact Drawn0.refl _ | apply Drawn0.step)⟩
/-! ### peristylelaw11_awake: function 7 -/
def peristylelaw11_awake.f (k : Nat)  : Option (Bool) := (dict_Of_string.f k (([(⟨#[98]⟩ : ByteArray), (⟨#[97]⟩ : ByteArray), (⟨#[98]⟩ : ByteArray)] : List ByteArray))).bind fun bt216 => ((dict_PutTexts.f k (([(⟨#[98]⟩ : ByteArray), (⟨#[97]⟩ : ByteArray), (⟨#[98]⟩ : ByteArray)] : List ByteArray))).bind fun bt225 => ((dict_TakeInts.f k (⟨#[4, 10, 14, 1]⟩ : ByteArray) 2).bind fun bt227 => ((peristyleref07_Same.f k bt216.1 (([(⟨#[97]⟩ : ByteArray), (⟨#[98]⟩ : ByteArray)] : List ByteArray))).bind fun t234 => (if t234 = true then ((peristyleref01_Same.f k bt216.2 (([1, 0, 1] : List Int))).bind fun t238 => (if t238 = true then (if bt225.1.toList = ([4, 1, 97, 1, 98, 5] : List UInt8) then (if bt225.2 = 0 then ((peristyleref01_Same.f k bt227.1 (([7, 5] : List Int))).bind fun t242 => (if t242 = true then (some (bt227.2 == 0)) else (none))) else (none)) else (none)) else (none))) else (none)))))
set_option maxHeartbeats 8000000 in
set_option maxRecDepth 100000 in
theorem peristylelaw11_awake.calls (k : Nat)  (r : Bool) (w : World) (h : peristylelaw11_awake.f k  = some r) :
  Calls Try.prog 7 #[] w fun e w' => e = .returned (.bool r) ∧ Below w.heap.size w w' := by
 have HB := Aside0.mk (Below.refl w.heap.size w)
 have H : ((dict_Of_string.f k (([(⟨#[98]⟩ : ByteArray), (⟨#[97]⟩ : ByteArray), (⟨#[98]⟩ : ByteArray)] : List ByteArray))).bind fun bt216 => ((dict_PutTexts.f k (([(⟨#[98]⟩ : ByteArray), (⟨#[97]⟩ : ByteArray), (⟨#[98]⟩ : ByteArray)] : List ByteArray))).bind fun bt225 => ((dict_TakeInts.f k (⟨#[4, 10, 14, 1]⟩ : ByteArray) 2).bind fun bt227 => ((peristyleref07_Same.f k bt216.1 (([(⟨#[97]⟩ : ByteArray), (⟨#[98]⟩ : ByteArray)] : List ByteArray))).bind fun t234 => (if t234 = true then ((peristyleref01_Same.f k bt216.2 (([1, 0, 1] : List Int))).bind fun t238 => (if t238 = true then (if bt225.1.toList = ([4, 1, 97, 1, 98, 5] : List UInt8) then (if bt225.2 = 0 then ((peristyleref01_Same.f k bt227.1 (([7, 5] : List Int))).bind fun t242 => (if t242 = true then (some (bt227.2 == 0)) else (none))) else (none)) else (none)) else (none))) else (none)))))) = some r := h
 clear h
 obtain ⟨y213, hy213⟩ : ∃ y_ : List ByteArray, y_ = (([(⟨#[98]⟩ : ByteArray), (⟨#[97]⟩ : ByteArray), (⟨#[98]⟩ : ByteArray)] : List ByteArray)) := ⟨_, rfl⟩
 replace H : ((dict_Of_string.f k y213).bind fun bt216 => ((dict_PutTexts.f k (([(⟨#[98]⟩ : ByteArray), (⟨#[97]⟩ : ByteArray), (⟨#[98]⟩ : ByteArray)] : List ByteArray))).bind fun bt225 => ((dict_TakeInts.f k (⟨#[4, 10, 14, 1]⟩ : ByteArray) 2).bind fun bt227 => ((peristyleref07_Same.f k bt216.1 (([(⟨#[97]⟩ : ByteArray), (⟨#[98]⟩ : ByteArray)] : List ByteArray))).bind fun t234 => (if t234 = true then ((peristyleref01_Same.f k bt216.2 (([1, 0, 1] : List Int))).bind fun t238 => (if t238 = true then (if bt225.1.toList = ([4, 1, 97, 1, 98, 5] : List UInt8) then (if bt225.2 = 0 then ((peristyleref01_Same.f k bt227.1 (([7, 5] : List Int))).bind fun t242 => (if t242 = true then (some (bt227.2 == 0)) else (none))) else (none)) else (none)) else (none))) else (none)))))) = some r := by first | (rw [hy213]; with_reducible exact H) | (have H2_ := (Option.bind_some _ _).symm.trans H; rw [hy213]; with_reducible exact H2_) | (have H2_ := (Option.bind_some _ _).symm.trans H; with_reducible exact H2_) | with_reducible exact H | (rw [hy213]; exact H) | exact H
 have Ny213 := Aside0.mk hy213
 clear hy213
 replace H := Option.bind_eq_some_iff.mp H
 obtain ⟨⟨t216, t217⟩, A10, H⟩ := H
 replace H : ((dict_PutTexts.f k (([(⟨#[98]⟩ : ByteArray), (⟨#[97]⟩ : ByteArray), (⟨#[98]⟩ : ByteArray)] : List ByteArray))).bind fun bt225 => ((dict_TakeInts.f k (⟨#[4, 10, 14, 1]⟩ : ByteArray) 2).bind fun bt227 => ((peristyleref07_Same.f k t216 (([(⟨#[97]⟩ : ByteArray), (⟨#[98]⟩ : ByteArray)] : List ByteArray))).bind fun t234 => (if t234 = true then ((peristyleref01_Same.f k t217 (([1, 0, 1] : List Int))).bind fun t238 => (if t238 = true then (if bt225.1.toList = ([4, 1, 97, 1, 98, 5] : List UInt8) then (if bt225.2 = 0 then ((peristyleref01_Same.f k bt227.1 (([7, 5] : List Int))).bind fun t242 => (if t242 = true then (some (bt227.2 == 0)) else (none))) else (none)) else (none)) else (none))) else (none))))) = some r := H
 have A1 := Aside0.mk A10
 clear A10
 obtain ⟨y222, hy222⟩ : ∃ y_ : List ByteArray, y_ = (([(⟨#[98]⟩ : ByteArray), (⟨#[97]⟩ : ByteArray), (⟨#[98]⟩ : ByteArray)] : List ByteArray)) := ⟨_, rfl⟩
 replace H : ((dict_PutTexts.f k y222).bind fun bt225 => ((dict_TakeInts.f k (⟨#[4, 10, 14, 1]⟩ : ByteArray) 2).bind fun bt227 => ((peristyleref07_Same.f k t216 (([(⟨#[97]⟩ : ByteArray), (⟨#[98]⟩ : ByteArray)] : List ByteArray))).bind fun t234 => (if t234 = true then ((peristyleref01_Same.f k t217 (([1, 0, 1] : List Int))).bind fun t238 => (if t238 = true then (if bt225.1.toList = ([4, 1, 97, 1, 98, 5] : List UInt8) then (if bt225.2 = 0 then ((peristyleref01_Same.f k bt227.1 (([7, 5] : List Int))).bind fun t242 => (if t242 = true then (some (bt227.2 == 0)) else (none))) else (none)) else (none)) else (none))) else (none))))) = some r := by first | (rw [hy222]; with_reducible exact H) | (have H2_ := (Option.bind_some _ _).symm.trans H; rw [hy222]; with_reducible exact H2_) | (have H2_ := (Option.bind_some _ _).symm.trans H; with_reducible exact H2_) | with_reducible exact H | (rw [hy222]; exact H) | exact H
 have Ny222 := Aside0.mk hy222
 clear hy222
 replace H := Option.bind_eq_some_iff.mp H
 obtain ⟨⟨t225, t226⟩, A20, H⟩ := H
 replace H : ((dict_TakeInts.f k (⟨#[4, 10, 14, 1]⟩ : ByteArray) 2).bind fun bt227 => ((peristyleref07_Same.f k t216 (([(⟨#[97]⟩ : ByteArray), (⟨#[98]⟩ : ByteArray)] : List ByteArray))).bind fun t234 => (if t234 = true then ((peristyleref01_Same.f k t217 (([1, 0, 1] : List Int))).bind fun t238 => (if t238 = true then (if t225.toList = ([4, 1, 97, 1, 98, 5] : List UInt8) then (if t226 = 0 then ((peristyleref01_Same.f k bt227.1 (([7, 5] : List Int))).bind fun t242 => (if t242 = true then (some (bt227.2 == 0)) else (none))) else (none)) else (none)) else (none))) else (none)))) = some r := H
 have A2 := Aside0.mk A20
 clear A20
 replace H := Option.bind_eq_some_iff.mp H
 obtain ⟨⟨t227, t228⟩, A30, H⟩ := H
 replace H : ((peristyleref07_Same.f k t216 (([(⟨#[97]⟩ : ByteArray), (⟨#[98]⟩ : ByteArray)] : List ByteArray))).bind fun t234 => (if t234 = true then ((peristyleref01_Same.f k t217 (([1, 0, 1] : List Int))).bind fun t238 => (if t238 = true then (if t225.toList = ([4, 1, 97, 1, 98, 5] : List UInt8) then (if t226 = 0 then ((peristyleref01_Same.f k t227 (([7, 5] : List Int))).bind fun t242 => (if t242 = true then (some (t228 == 0)) else (none))) else (none)) else (none)) else (none))) else (none))) = some r := H
 have A3 := Aside0.mk A30
 clear A30
 obtain ⟨y231, hy231⟩ : ∃ y_ : List ByteArray, y_ = (([(⟨#[97]⟩ : ByteArray), (⟨#[98]⟩ : ByteArray)] : List ByteArray)) := ⟨_, rfl⟩
 replace H : ((peristyleref07_Same.f k t216 y231).bind fun t234 => (if t234 = true then ((peristyleref01_Same.f k t217 (([1, 0, 1] : List Int))).bind fun t238 => (if t238 = true then (if t225.toList = ([4, 1, 97, 1, 98, 5] : List UInt8) then (if t226 = 0 then ((peristyleref01_Same.f k t227 (([7, 5] : List Int))).bind fun t242 => (if t242 = true then (some (t228 == 0)) else (none))) else (none)) else (none)) else (none))) else (none))) = some r := by first | (rw [hy231]; with_reducible exact H) | (have H2_ := (Option.bind_some _ _).symm.trans H; rw [hy231]; with_reducible exact H2_) | (have H2_ := (Option.bind_some _ _).symm.trans H; with_reducible exact H2_) | with_reducible exact H | (rw [hy231]; exact H) | exact H
 have Ny231 := Aside0.mk hy231
 clear hy231
 replace H := Option.bind_eq_some_iff.mp H
 obtain ⟨t234, A40, H⟩ := H
 replace H : (if t234 = true then ((peristyleref01_Same.f k t217 (([1, 0, 1] : List Int))).bind fun t238 => (if t238 = true then (if t225.toList = ([4, 1, 97, 1, 98, 5] : List UInt8) then (if t226 = 0 then ((peristyleref01_Same.f k t227 (([7, 5] : List Int))).bind fun t242 => (if t242 = true then (some (t228 == 0)) else (none))) else (none)) else (none)) else (none))) else (none)) = some r := H
 have A4 := Aside0.mk A40
 clear A40
 by_cases c5 : t234 = true
 ·subst c5
  have H1 : ((peristyleref01_Same.f k t217 (([1, 0, 1] : List Int))).bind fun t238 => (if t238 = true then (if t225.toList = ([4, 1, 97, 1, 98, 5] : List UInt8) then (if t226 = 0 then ((peristyleref01_Same.f k t227 (([7, 5] : List Int))).bind fun t242 => (if t242 = true then (some (t228 == 0)) else (none))) else (none)) else (none)) else (none))) = some r := by rw [if_pos rfl] at H; exact H
  clear H
  have H := H1
  clear H1
  obtain ⟨y235, hy235⟩ : ∃ y_ : List Int, y_ = (([1, 0, 1] : List Int)) := ⟨_, rfl⟩
  replace H : ((peristyleref01_Same.f k t217 y235).bind fun t238 => (if t238 = true then (if t225.toList = ([4, 1, 97, 1, 98, 5] : List UInt8) then (if t226 = 0 then ((peristyleref01_Same.f k t227 (([7, 5] : List Int))).bind fun t242 => (if t242 = true then (some (t228 == 0)) else (none))) else (none)) else (none)) else (none))) = some r := by first | (rw [hy235]; with_reducible exact H) | (have H2_ := (Option.bind_some _ _).symm.trans H; rw [hy235]; with_reducible exact H2_) | (have H2_ := (Option.bind_some _ _).symm.trans H; with_reducible exact H2_) | with_reducible exact H | (rw [hy235]; exact H) | exact H
  have Ny235 := Aside0.mk hy235
  clear hy235
  replace H := Option.bind_eq_some_iff.mp H
  obtain ⟨t238, A60, H⟩ := H
  replace H : (if t238 = true then (if t225.toList = ([4, 1, 97, 1, 98, 5] : List UInt8) then (if t226 = 0 then ((peristyleref01_Same.f k t227 (([7, 5] : List Int))).bind fun t242 => (if t242 = true then (some (t228 == 0)) else (none))) else (none)) else (none)) else (none)) = some r := H
  have A6 := Aside0.mk A60
  clear A60
  by_cases c7 : t238 = true
  ·subst c7
   have H1 : (if t225.toList = ([4, 1, 97, 1, 98, 5] : List UInt8) then (if t226 = 0 then ((peristyleref01_Same.f k t227 (([7, 5] : List Int))).bind fun t242 => (if t242 = true then (some (t228 == 0)) else (none))) else (none)) else (none)) = some r := by rw [if_pos rfl] at H; exact H
   clear H
   have H := H1
   clear H1
   by_cases c8 : t225.toList = ([4, 1, 97, 1, 98, 5] : List UInt8)
   ·rw [if_pos c8] at H
    have c8b0 : (t225.toList == ([4, 1, 97, 1, 98, 5] : List UInt8)) = true := beq_iff_eq.mpr c8
    have c8b1 : (t225.toList != ([4, 1, 97, 1, 98, 5] : List UInt8)) = false := bne_eq_false_iff_eq.mpr c8
    clear c8
    by_cases c9 : t226 = 0
    ·rw [if_pos c9] at H
     have c9b0 : (t226 == 0) = true := beq_iff_eq.mpr c9
     have c9b1 : (t226 != 0) = false := bne_eq_false_iff_eq.mpr c9
     clear c9
     obtain ⟨y239, hy239⟩ : ∃ y_ : List Int, y_ = (([7, 5] : List Int)) := ⟨_, rfl⟩
     replace H : ((peristyleref01_Same.f k t227 y239).bind fun t242 => (if t242 = true then (some (t228 == 0)) else (none))) = some r := by first | (rw [hy239]; with_reducible exact H) | (have H2_ := (Option.bind_some _ _).symm.trans H; rw [hy239]; with_reducible exact H2_) | (have H2_ := (Option.bind_some _ _).symm.trans H; with_reducible exact H2_) | with_reducible exact H | (rw [hy239]; exact H) | exact H
     have Ny239 := Aside0.mk hy239
     clear hy239
     replace H := Option.bind_eq_some_iff.mp H
     obtain ⟨t242, A100, H⟩ := H
     replace H : (if t242 = true then (some (t228 == 0)) else (none)) = some r := H
     have A10 := Aside0.mk A100
     clear A100
     by_cases c11 : t242 = true
     ·subst c11
      have H1 : (some (t228 == 0)) = some r := by rw [if_pos rfl] at H; exact H
      clear H
      have H := H1
      clear H1
      obtain rfl := Option.some.inj H
      go_enter Try.func7, Try.ntmps7
      go_wp2_with (first | ((with_reducible refine gate_dst (N := 8) rfl ?_); (try (refine gate_guard (by rfl) ?_; dsimp only)); refine Kd.R_lit Kd.string _ 9 ?hg (N := 8) ?hd (xs := ([(⟨#[98]⟩ : ByteArray), (⟨#[97]⟩ : ByteArray), (⟨#[98]⟩ : ByteArray)] : List ByteArray)) (inner := [.string (⟨#[98]⟩ : ByteArray), .string (⟨#[97]⟩ : ByteArray), .string (⟨#[98]⟩ : ByteArray)]) (ok := fun _ => True) (okp := fun _ => True) ?hr ?hp (fun _ hk => hk) trivial (Below.refl _ _) (Nat.le_refl _) (by simp) ?_; (case hd => rfl); (case hg => rfl); (case hr => first | (go_simp; done) | (go_simp; rfl)); (case hp => exact (Reps.one (show Kd.M Kd.string _ _ _ (⟨#[98]⟩ : ByteArray) [.string (⟨#[98]⟩ : ByteArray)] from rfl) (Reps.one (show Kd.M Kd.string _ _ _ (⟨#[97]⟩ : ByteArray) [.string (⟨#[97]⟩ : ByteArray)] from rfl) (Reps.one (show Kd.M Kd.string _ _ _ (⟨#[98]⟩ : ByteArray) [.string (⟨#[98]⟩ : ByteArray)] from rfl) (Reps.none _ _))))); intro v214 w12 ho13 hb hg_ hnew_; clear hg_ hnew_; (first | rw [← Ny213.out] at ho13 | (simp only [Int.reduceToNat] at ho13; rw [← Ny213.out] at ho13)); have HO215 := Aside0.mk (Kd.R_lower ho13 (below_size (bh HB.out))); replace HB := bsa HB hb; clear hb ho13; obtain ⟨Ao14, co14, eo14⟩ := Kd.R_slice HO215.out; subst eo14) | ((with_reducible refine gate_callee (f := 8) rfl ?_); refine goesL_ (some 9) rfl rfl Try.func8 (by kernel_rfl) rfl #[.slice Ao14 y213.length co14] rfl (by (try simp only [List.map_toArray, List.map_cons, List.map_nil]); first | done | rfl) ?_; (with_reducible refine (dict_Of_string.calls k _ _ y213 t216 t217 _ ?side1 ?side2 A1.out).mono ?_); (case side1 => exact cx (Kd.R_reads' HO215.out).2.2); (case side2 => exact (Kd.R_reads' HO215.out).2.1); rintro e w15 ⟨v218, v220, rfl, ho0, ho1, hb⟩; refine ⟨_, rfl, ?_⟩; have HO219 := Aside0.mk (Kd.R_lower (Kd.R_new' ho0 (Kd.R_lt (rx HO215.out))) (below_size (bh HB.out))); replace HO215 := Aside0.mk (Kd.R_elder' (rx HO215.out) (Kd.R_base ho0) hb); have HO221 := Aside0.mk (Kd.R_lower ho1 (below_size (bh HB.out))); replace HB := bsa HB hb; (try clear hb); (try clear hk); (try clear ho0); (try clear ho1)) | ((with_reducible refine gate_dst (N := 13) rfl ?_); (try (refine gate_guard (by rfl) ?_; dsimp only)); refine Kd.R_lit Kd.string _ 9 ?hg (N := 13) ?hd (xs := ([(⟨#[98]⟩ : ByteArray), (⟨#[97]⟩ : ByteArray), (⟨#[98]⟩ : ByteArray)] : List ByteArray)) (inner := [.string (⟨#[98]⟩ : ByteArray), .string (⟨#[97]⟩ : ByteArray), .string (⟨#[98]⟩ : ByteArray)]) (ok := fun _ => True) (okp := fun _ => True) ?hr ?hp (fun _ hk => hk) trivial (Below.refl _ _) (Nat.le_refl _) (by simp) ?_; (case hd => rfl); (case hg => rfl); (case hr => first | (go_simp; done) | (go_simp; rfl)); (case hp => exact (Reps.one (show Kd.M Kd.string _ _ _ (⟨#[98]⟩ : ByteArray) [.string (⟨#[98]⟩ : ByteArray)] from rfl) (Reps.one (show Kd.M Kd.string _ _ _ (⟨#[97]⟩ : ByteArray) [.string (⟨#[97]⟩ : ByteArray)] from rfl) (Reps.one (show Kd.M Kd.string _ _ _ (⟨#[98]⟩ : ByteArray) [.string (⟨#[98]⟩ : ByteArray)] from rfl) (Reps.none _ _))))); intro v223 w16 ho17 hb hg_ hnew_; clear hg_ hnew_; (first | rw [← Ny222.out] at ho17 | (simp only [Int.reduceToNat] at ho17; rw [← Ny222.out] at ho17)); replace HO221 := rba HO221 hb; have HO224 := Aside0.mk (Kd.R_lower (Kd.R_new' (Kd.R_new' ho17 (Kd.R_lt (rx HO215.out))) (Kd.R_lt (rx HO219.out))) (below_size (bh HB.out))); replace HO215 := Aside0.mk (Kd.R_elder' (rx HO215.out) (Kd.R_base ho17) hb); replace HO219 := Aside0.mk (Kd.R_elder' (rx HO219.out) (Kd.R_base ho17) hb); replace HB := bsa HB hb; clear hb ho17; obtain ⟨Ao18, co18, eo18⟩ := Kd.R_slice HO224.out; subst eo18) | ((with_reducible refine gate_callee (f := 16) rfl ?_); refine goesL_ (some 14) rfl rfl Try.func16 (by kernel_rfl) rfl #[.slice Ao18 y222.length co18] rfl (by (try simp only [List.map_toArray, List.map_cons, List.map_nil]); first | done | rfl) ?_; (with_reducible refine (dict_PutTexts.calls k _ _ y222 t225 t226 _ ?side1 ?side2 A2.out).mono ?_); (case side1 => exact cx (Kd.R_reads' HO224.out).2.2); (case side2 => exact (Kd.R_reads' HO224.out).2.1); rintro e w19 ⟨rfl, hb⟩; refine ⟨_, rfl, ?_⟩; replace HO215 := rba HO215 hb; replace HO219 := rba HO219 hb; replace HO221 := rba HO221 hb; replace HO224 := rba HO224 hb; replace HB := bsa HB hb; (try clear hb); (try clear hk)) | ((with_reducible refine gate_callee (f := 13) rfl ?_); refine goesL_ (some 18) rfl rfl Try.func13 (by kernel_rfl) rfl #[.string (⟨#[4, 10, 14, 1]⟩ : ByteArray), .int .i64 2] rfl (by (try simp only [List.map_toArray, List.map_cons, List.map_nil]); first | done | rfl) ?_; (with_reducible refine (dict_TakeInts.calls k (⟨#[4, 10, 14, 1]⟩ : ByteArray) 2 t227 t228 _ A3.out).mono ?_); rintro e w20 ⟨v229, rfl, ho0, hb⟩; refine ⟨_, rfl, ?_⟩; replace HO215 := rba HO215 hb; replace HO219 := rba HO219 hb; replace HO224 := rba HO224 hb; have HO230 := Aside0.mk (Kd.R_lower (Kd.R_new' ho0 (Kd.R_lt (rx HO221.out))) (below_size (bh HB.out))); replace HO221 := Aside0.mk (Kd.R_elder' (rx HO221.out) (Kd.R_base ho0) hb); replace HB := bsa HB hb; (try clear hb); (try clear hk); (try clear ho0)) | ((with_reducible refine gate_dst (N := 22) rfl ?_); (try (refine gate_guard (by rfl) ?_; dsimp only)); refine Kd.R_lit Kd.string _ 9 ?hg (N := 22) ?hd (xs := ([(⟨#[97]⟩ : ByteArray), (⟨#[98]⟩ : ByteArray)] : List ByteArray)) (inner := [.string (⟨#[97]⟩ : ByteArray), .string (⟨#[98]⟩ : ByteArray)]) (ok := fun _ => True) (okp := fun _ => True) ?hr ?hp (fun _ hk => hk) trivial (Below.refl _ _) (Nat.le_refl _) (by simp) ?_; (case hd => rfl); (case hg => rfl); (case hr => first | (go_simp; done) | (go_simp; rfl)); (case hp => exact (Reps.one (show Kd.M Kd.string _ _ _ (⟨#[97]⟩ : ByteArray) [.string (⟨#[97]⟩ : ByteArray)] from rfl) (Reps.one (show Kd.M Kd.string _ _ _ (⟨#[98]⟩ : ByteArray) [.string (⟨#[98]⟩ : ByteArray)] from rfl) (Reps.none _ _)))); intro v232 w21 ho22 hb hg_ hnew_; clear hg_ hnew_; (first | rw [← Ny231.out] at ho22 | (simp only [Int.reduceToNat] at ho22; rw [← Ny231.out] at ho22)); replace HO221 := rba HO221 hb; replace HO230 := rba HO230 hb; have HO233 := Aside0.mk (Kd.R_lower (Kd.R_new' (Kd.R_new' (Kd.R_new' ho22 (Kd.R_lt (rx HO215.out))) (Kd.R_lt (rx HO219.out))) (Kd.R_lt (rx HO224.out))) (below_size (bh HB.out))); replace HO215 := Aside0.mk (Kd.R_elder' (rx HO215.out) (Kd.R_base ho22) hb); replace HO219 := Aside0.mk (Kd.R_elder' (rx HO219.out) (Kd.R_base ho22) hb); replace HO224 := Aside0.mk (Kd.R_elder' (rx HO224.out) (Kd.R_base ho22) hb); replace HB := bsa HB hb; clear hb ho22; obtain ⟨Ao23, co23, eo23⟩ := Kd.R_slice HO219.out; subst eo23; obtain ⟨Ao24, co24, eo24⟩ := Kd.R_slice HO233.out; subst eo24) | ((with_reducible refine gate_callee (f := 18) rfl ?_); refine goesL_ (some 23) rfl rfl Try.func18 (by kernel_rfl) rfl #[.slice Ao23 t216.length co23, .slice Ao24 y231.length co24] rfl (by (try simp only [List.map_toArray, List.map_cons, List.map_nil]); first | done | rfl) ?_; (with_reducible refine (peristyleref07_Same.calls k _ _ t216 _ _ y231 true _ ?side1 ?side2 ?side3 ?side4 A4.out).mono ?_); (case side1 => exact cx (Kd.R_reads' HO219.out).2.2); (case side2 => exact (Kd.R_reads' HO219.out).2.1); (case side3 => exact cx (Kd.R_reads' HO233.out).2.2); (case side4 => exact (Kd.R_reads' HO233.out).2.1); rintro e w' ⟨rfl, ⟨nd, rfl⟩⟩; refine ⟨_, rfl, ?_⟩) | ((with_reducible refine gate_dst (N := 26) rfl ?_); (try (refine gate_guard (by rfl) ?_; dsimp only)); refine Kd.R_lit (Kd.int .i64) _ 3 ?hg (N := 26) ?hd (xs := ([1, 0, 1] : List Int)) (inner := [.int .i64 1, .int .i64 0, .int .i64 1]) (ok := fun _ => True) (okp := fun _ => True) ?hr ?hp (fun _ hk => hk) trivial (Below.refl _ _) (Nat.le_refl _) (by simp) ?_; (case hd => rfl); (case hg => rfl); (case hr => first | (go_simp; done) | (go_simp; rfl)); (case hp => exact (Reps.one (show Kd.M (Kd.int .i64) _ _ _ 1 [.int .i64 1] from rfl) (Reps.one (show Kd.M (Kd.int .i64) _ _ _ 0 [.int .i64 0] from rfl) (Reps.one (show Kd.M (Kd.int .i64) _ _ _ 1 [.int .i64 1] from rfl) (Reps.none _ _))))); intro v236 w25 ho26 hb hg_ hnew_; clear hg_ hnew_; (first | rw [← Ny235.out] at ho26 | (simp only [Int.reduceToNat] at ho26; rw [← Ny235.out] at ho26)); replace HO215 := rba HO215 hb; replace HO219 := rba HO219 hb; replace HO224 := rba HO224 hb; replace HO233 := rba HO233 hb; have HO237 := Aside0.mk (Kd.R_lower (Kd.R_new' (Kd.R_new' ho26 (Kd.R_lt (rx HO221.out))) (Kd.R_lt (rx HO230.out))) (below_size (bh HB.out))); replace HO221 := Aside0.mk (Kd.R_elder' (rx HO221.out) (Kd.R_base ho26) hb); replace HO230 := Aside0.mk (Kd.R_elder' (rx HO230.out) (Kd.R_base ho26) hb); replace HB := bsa HB hb; clear hb ho26; obtain ⟨Ao27, co27, eo27⟩ := Kd.R_slice HO221.out; subst eo27; obtain ⟨Ao28, co28, eo28⟩ := Kd.R_slice HO237.out; subst eo28) | (go_at_call 14; (with_reducible refine (peristyleref01_Same.calls k _ _ t217 _ _ y235 true _ ?side1 ?side2 ?side3 ?side4 A6.out).mono ?_); (case side1 => exact cx (Kd.R_reads' HO221.out).2.2); (case side2 => exact (Kd.R_reads' HO221.out).2.1); (case side3 => exact cx (Kd.R_reads' HO237.out).2.2); (case side4 => exact (Kd.R_reads' HO237.out).2.1); rintro e w' ⟨rfl, ⟨nd, rfl⟩⟩; (try clear A6)) | ((with_reducible refine gate_dst (N := 39) rfl ?_); (try (refine gate_guard (by rfl) ?_; dsimp only)); refine Kd.R_lit (Kd.int .i64) _ 3 ?hg (N := 39) ?hd (xs := ([7, 5] : List Int)) (inner := [.int .i64 7, .int .i64 5]) (ok := fun _ => True) (okp := fun _ => True) ?hr ?hp (fun _ hk => hk) trivial (Below.refl _ _) (Nat.le_refl _) (by simp) ?_; (case hd => rfl); (case hg => rfl); (case hr => first | (go_simp; done) | (go_simp; rfl)); (case hp => exact (Reps.one (show Kd.M (Kd.int .i64) _ _ _ 7 [.int .i64 7] from rfl) (Reps.one (show Kd.M (Kd.int .i64) _ _ _ 5 [.int .i64 5] from rfl) (Reps.none _ _)))); intro v240 w29 ho30 hb hg_ hnew_; clear hg_ hnew_; (first | rw [← Ny239.out] at ho30 | (simp only [Int.reduceToNat] at ho30; rw [← Ny239.out] at ho30)); replace HO215 := rba HO215 hb; replace HO219 := rba HO219 hb; replace HO224 := rba HO224 hb; replace HO233 := rba HO233 hb; have HO241 := Aside0.mk (Kd.R_lower (Kd.R_new' (Kd.R_new' (Kd.R_new' ho30 (Kd.R_lt (rx HO221.out))) (Kd.R_lt (rx HO230.out))) (Kd.R_lt (rx HO237.out))) (below_size (bh HB.out))); replace HO221 := Aside0.mk (Kd.R_elder' (rx HO221.out) (Kd.R_base ho30) hb); replace HO230 := Aside0.mk (Kd.R_elder' (rx HO230.out) (Kd.R_base ho30) hb); replace HO237 := Aside0.mk (Kd.R_elder' (rx HO237.out) (Kd.R_base ho30) hb); replace HB := bsa HB hb; clear hb ho30; obtain ⟨Ao31, co31, eo31⟩ := Kd.R_slice HO230.out; subst eo31; obtain ⟨Ao32, co32, eo32⟩ := Kd.R_slice HO241.out; subst eo32) | (go_at_call 14; (with_reducible refine (peristyleref01_Same.calls k _ _ t227 _ _ y239 true _ ?side1 ?side2 ?side3 ?side4 A10.out).mono ?_); (case side1 => exact cx (Kd.R_reads' HO230.out).2.2); (case side2 => exact (Kd.R_reads' HO230.out).2.1); (case side3 => exact cx (Kd.R_reads' HO241.out).2.2); (case side4 => exact (Kd.R_reads' HO241.out).2.1); rintro e w' ⟨rfl, ⟨nd, rfl⟩⟩; (try clear A10)))
      go_ret
      exact ⟨er, bh HB.out⟩
     ·replace c11 := Bool.eq_false_iff.mpr c11
      subst c11
      have H1 : (none) = some r := by rw [if_neg (show ¬ (false = true) by decide)] at H; exact H
      clear H
      have H := H1
      clear H1
      exact absurd H (by simp)
    ·rw [if_neg c9] at H
     exact absurd H (by simp)
   ·rw [if_neg c8] at H
    exact absurd H (by simp)
  ·replace c7 := Bool.eq_false_iff.mpr c7
   subst c7
   have H1 : (none) = some r := by rw [if_neg (show ¬ (false = true) by decide)] at H; exact H
   clear H
   have H := H1
   clear H1
   exact absurd H (by simp)
 ·replace c5 := Bool.eq_false_iff.mpr c5
  subst c5
  have H1 : (none) = some r := by rw [if_neg (show ¬ (false = true) by decide)] at H; exact H
  clear H
  have H := H1
  clear H1
  exact absurd H (by simp)
end Go.Proofs.Ytfohecpfenegkaa.Print
end
