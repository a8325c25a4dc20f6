-- Written by the session's own xprint (over the kit's print program): functions, contracts.
import Derived.Test.YtcencpedgcdanaaPrint0
import Derived.Test.YtcencpedgcdanaaPrint1
import Derived.Test.YtcencpedgcdanaaPrint2
import Derived.Test.YtcencpedgcdanaaPrint3
namespace Go.Proofs.Ytcencpedgcdanaa.Print
open Go.RowKit Go.Proofs.YtcencpedgcdanaaW.PrintWords Go.Proofs.YtcencpedgcdanaaW.PrintLast Go.Proofs.YtcencpedgcdanaaW.PrintMore
attribute [local go_sem] max2_int min2_int max_two min_two max_three min_three max_four min_four   -- for this text's walks alone
set_option linter.unusedVariables false
set_option linter.unusedSimpArgs false

/-! ### vint_Take: function 24 -/
def vint_Take.l0 : Nat → ByteArray → Int → Int → Int → Option (Int × Int × Int)
 | 0, _, _, _, _ => none
 | k + 1, x0, x5, x11, x12 => if x12 < x11 then (if 0 ≤ x12 then (if x12 < (x0.size : Int) then (if 0 ≤ (wrap64 (7 * x12)) then (if (bt x0 x12) ≥ 128 then (vint_Take.l0 k x0 (Go.bits .or .u64 x5 (shl .u64 (IntKind.u64.wrap (Go.bits .andNot .u8 (bt x0 x12) 128)) (wrap64 (7 * x12)))) x11 (wrap64 (x12 + 1))) else ((bits_Zag.f (wrap64 (Go.bits .or .u64 x5 (shl .u64 (IntKind.u64.wrap (Go.bits .andNot .u8 (bt x0 x12) 128)) (wrap64 (7 * x12)))))).bind fun t146 => ((vint_Len.f k t146).bind fun t147 => (if t147 = (wrap64 (x12 + 1)) then (if x12 < 9 then (some (t146, wrap64 (x12 + 1), 0)) else (if (bt x0 x12) = 1 then (some (t146, wrap64 (x12 + 1), 0)) else (some (0, 0, 20)))) else (some (0, 0, 20)))))) else (none)) else (none)) else (none)) else (some (0, 0, 20))
def vint_Take.f (k : Nat) (a0 : ByteArray) : Option (Int × Int × Int) := vint_Take.l0 k a0 0 (mn (a0.size : Int) 10) 0
theorem vint_Take.l0_succ (k : Nat) (x0 : ByteArray) (x5 : Int) (x11 : Int) (x12 : Int) : vint_Take.l0 (k + 1) x0 x5 x11 x12 = (if x12 < x11 then (if 0 ≤ x12 then (if x12 < (x0.size : Int) then (if 0 ≤ (wrap64 (7 * x12)) then (if (bt x0 x12) ≥ 128 then (vint_Take.l0 k x0 (Go.bits .or .u64 x5 (shl .u64 (IntKind.u64.wrap (Go.bits .andNot .u8 (bt x0 x12) 128)) (wrap64 (7 * x12)))) x11 (wrap64 (x12 + 1))) else ((bits_Zag.f (wrap64 (Go.bits .or .u64 x5 (shl .u64 (IntKind.u64.wrap (Go.bits .andNot .u8 (bt x0 x12) 128)) (wrap64 (7 * x12)))))).bind fun t146 => ((vint_Len.f k t146).bind fun t147 => (if t147 = (wrap64 (x12 + 1)) then (if x12 < 9 then (some (t146, wrap64 (x12 + 1), 0)) else (if (bt x0 x12) = 1 then (some (t146, wrap64 (x12 + 1), 0)) else (some (0, 0, 20)))) else (some (0, 0, 20)))))) else (none)) else (none)) else (none)) else (some (0, 0, 20))) := by
 simp only [vint_Take.l0]
theorem vint_Take.mono_l : ∀ k, (∀ y0 y1 y2 y3, LeO (vint_Take.l0 k y0 y1 y2 y3) (vint_Take.l0 (k + 1) y0 y1 y2 y3))
 | 0 => fun _ _ _ _ r h => by simp [vint_Take.l0] at h
 | k + 1 => by
  have ih0 := vint_Take.mono_l k
  ·intro y0 y1 y2 y3
   unfold vint_Take.l0
   repeat' first
   | (with_reducible exact ih0 _ _ _ _)
   | (with_reducible exact vint_Len.mono _ _)
   | (with_reducible exact LeO.refl _)
   | (with_reducible exact LeO.none _)
   | (with_reducible refine LeO.ite ?_ ?_)
   | (with_reducible refine LeO.bind ?_ (fun _ => ?_))
   | exact ih0 _ _ _ _
   | exact vint_Len.mono _ _
   | exact LeO.none _
   | refine LeO.ite ?_ ?_
   | refine LeO.bind ?_ (fun _ => ?_)
theorem vint_Take.mono : ∀ a0 k, LeO (vint_Take.f k a0) (vint_Take.f (k + 1) a0) := by
 intro a0 k
 have ih0 := vint_Take.mono_l k
 unfold vint_Take.f
 repeat' first
   | (with_reducible exact ih0 _ _ _ _)
   | (with_reducible exact vint_Len.mono _ _)
   | (with_reducible exact LeO.refl _)
   | (with_reducible exact LeO.none _)
   | (with_reducible refine LeO.ite ?_ ?_)
   | (with_reducible refine LeO.bind ?_ (fun _ => ?_))
   | exact ih0 _ _ _ _
   | exact vint_Len.mono _ _
   | exact LeO.none _
   | refine LeO.ite ?_ ?_
   | refine LeO.bind ?_ (fun _ => ?_)
set_option maxHeartbeats 8000000 in
set_option maxRecDepth 100000 in
theorem vint_Take.calls (k : Nat) (a0 : ByteArray) (r1 : Int) (r2 : Int) (r3 : Int) (w : World) (h : vint_Take.f k a0 = some (r1, r2, r3)) :
  Calls Try.prog 24 #[.string a0] w fun e w' => e = .returned (.tuple #[.int .i64 r1, .int .i64 r2, .int .i64 r3]) ∧ Below w.heap.size w w' := by
 have HB := Aside0.mk (Below.refl w.heap.size w)
 have H : (vint_Take.l0 k a0 0 (mn (a0.size : Int) 10) 0) = some (r1, r2, r3) := h
 clear h
 obtain ⟨ji2, hji2⟩ : ∃ j_ : Int, (mn (a0.size : Int) 10) = j_ := ⟨_, rfl⟩
 replace H : (vint_Take.l0 k a0 0 ji2 0) = some (r1, r2, r3) := by first | (rw [hji2] at H; exact H) | (simp only [hji2] at H ⊢; exact H)
 (try (have hji2h : ji2 ≤ 10 := by (rw [← hji2]; unfold mn; (repeat' split) <;> omega)))
 (try (have hji2g : ji2 ≤ 64 := by omega))
 (try (have hji2l : 0 ≤ ji2 := by (rw [← hji2]; unfold mn; (repeat' split) <;> omega)))
 (try (have hji2m : 0 ≤ ji2 := by omega))
 have hji2_ : (if 10 < (a0.size : Int) then 10 else (a0.size : Int)) = ji2 := hji2
 have H' := Aside0.mk H
 clear H
 go_enter Try.func24, Try.ntmps24
 go_wp2
 go_loopg [5, 12] k (fun kq v5 v12 w' => ∃ (x5_1 : Int) (x12_1 : Int), v5 = .int .u64 x5_1 ∧ v12 = .int .i64 x12_1 ∧ Aside0 (vint_Take.l0 kq a0 x5_1 ji2 x12_1 = some (r1, r2, r3)) ∧ Aside0 (kq ≤ k) ∧ Aside0 (Below w.heap.size w w'))
 case atStart => exact ⟨(0), (0), (by first | rfl | (simp; done) | (simp [*]; done)), (by first | rfl | (simp; done) | (simp [*]; done)), H', ⟨Nat.le_refl _⟩, ⟨by repeat (first | (with_reducible first | exact HB.out | apply below_alloc | apply pw_below_drewN | apply below_drew1) | exact HB.out)⟩⟩
 case round =>
  clear H'
  try clear c2
  try clear p2
  obtain ⟨x5_1, x12_1, rfl, rfl, HA, HK1, HB⟩ := hrel
  cases gk with
  | zero => exact absurd HA.out (by simp [vint_Take.l0])
  | succ k1 =>
   have H := HA.out
   clear HA
   simp only [vint_Take.l0] at H
   by_cases c3 : x12_1 < ji2
   ·rw [if_pos c3] at H
    have c3b0 : decide (x12_1 < ji2) = true := decide_eq_true c3
    clear c3
    by_cases c4 : 0 ≤ x12_1
    ·rw [if_pos c4] at H
     have c4b0 : decide (0 ≤ x12_1) = true := decide_eq_true c4
     clear c4
     by_cases c5 : x12_1 < (a0.size : Int)
     ·rw [if_pos c5] at H
      have c5b0 : decide (x12_1 < (a0.size : Int)) = true := decide_eq_true c5
      clear c5
      obtain ⟨ji7, hji7⟩ : ∃ j_ : Int, (wrap64 (7 * x12_1)) = j_ := ⟨_, rfl⟩
      replace H : (if 0 ≤ (ji7) then (if (bt a0 x12_1) ≥ 128 then (vint_Take.l0 k1 a0 (Go.bits .or .u64 x5_1 (shl .u64 (IntKind.u64.wrap (Go.bits .andNot .u8 (bt a0 x12_1) 128)) (ji7))) ji2 (wrap64 (x12_1 + 1))) else ((bits_Zag.f (wrap64 (Go.bits .or .u64 x5_1 (shl .u64 (IntKind.u64.wrap (Go.bits .andNot .u8 (bt a0 x12_1) 128)) (ji7))))).bind fun t146 => ((vint_Len.f k1 t146).bind fun t147 => (if t147 = (wrap64 (x12_1 + 1)) then (if x12_1 < 9 then (some (t146, wrap64 (x12_1 + 1), 0)) else (if (bt a0 x12_1) = 1 then (some (t146, wrap64 (x12_1 + 1), 0)) else (some (0, 0, 20)))) else (some (0, 0, 20)))))) else (none)) = some (r1, r2, r3) := by first | (rw [hji7] at H; exact H) | (simp only [hji7] at H ⊢; exact H)
      have hji7w : (IntKind.i64.wrap (7 * x12_1)) = ji7 := (i64_w _).trans hji7
      by_cases c8 : 0 ≤ (ji7)
      ·rw [if_pos c8] at H
       have c8b0 := eq_true c8
       have c8b1 : decide (0 ≤ (ji7)) = true := decide_eq_true c8
       clear c8
       obtain ⟨ji9, hji9⟩ : ∃ j_ : Int, (shl .u64 (IntKind.u64.wrap (Go.bits .andNot .u8 (bt a0 x12_1) 128)) (ji7)) = j_ := ⟨_, rfl⟩
       replace H : (if (bt a0 x12_1) ≥ 128 then (vint_Take.l0 k1 a0 (Go.bits .or .u64 x5_1 (ji9)) ji2 (wrap64 (x12_1 + 1))) else ((bits_Zag.f (wrap64 (Go.bits .or .u64 x5_1 (ji9)))).bind fun t146 => ((vint_Len.f k1 t146).bind fun t147 => (if t147 = (wrap64 (x12_1 + 1)) then (if x12_1 < 9 then (some (t146, wrap64 (x12_1 + 1), 0)) else (if (bt a0 x12_1) = 1 then (some (t146, wrap64 (x12_1 + 1), 0)) else (some (0, 0, 20)))) else (some (0, 0, 20)))))) = some (r1, r2, r3) := by first | (rw [hji9] at H; exact H) | (simp only [hji9] at H ⊢; exact H)
       have hji9_ : (IntKind.u64.wrap ((IntKind.u64.wrap (Go.bits .andNot .u8 (bt a0 x12_1) 128)) * 2 ^ min (ji7).toNat 64)) = ji9 := hji9
       have hji9z : (ji7) ≤ 64 → (IntKind.u64.wrap ((IntKind.u64.wrap (Go.bits .andNot .u8 (bt a0 x12_1) 128)) * 2 ^ (ji7).toNat)) = ji9 := shl_small hji9
       by_cases c10 : (bt a0 x12_1) ≥ 128
       ·rw [if_pos c10] at H
        have c10b0 : decide (128 ≤ (bt a0 x12_1)) = true := decide_eq_true c10
        clear c10
        have H' := Aside0.mk H
        clear H
        have p6 : 0 ≤ (x12_1 : Int) := of_decide_eq_true (by assumption)
        have q6 : x12_1 < (a0.size : Int) := of_decide_eq_true (by assumption)
        have hx6 := bt_at a0 x12_1
        replace p6 := eq_true p6
        replace q6 := eq_true q6
        go_wp2
        go_roundg k1
        case measure => have := HK1.out; omega
        case rel => exact ⟨(Go.bits .or .u64 x5_1 (ji9)), (wrap64 (x12_1 + 1)), (by first | rfl | (simp; done) | (simp only [← hji9] <;> (first | rfl | simp)) | (simp [*]; done)), (by first | rfl | (simp; done) | (simp [*]; done)), (by first | exact H' | (simp only [hji2, hji7, hji9]; exact H')), ⟨by have := HK1.out; omega⟩, ⟨by repeat (first | (with_reducible first | exact HB.out | apply below_alloc | apply pw_below_drewN | apply below_drew1) | exact HB.out)⟩⟩
       ·rw [if_neg c10] at H
        have c10b0 : decide (128 ≤ (bt a0 x12_1)) = false := decide_eq_false c10
        clear c10
        replace H := Option.bind_eq_some_iff.mp H
        obtain ⟨t146, A110, H⟩ := H
        replace H : ((vint_Len.f k1 t146).bind fun t147 => (if t147 = (wrap64 (x12_1 + 1)) then (if x12_1 < 9 then (some (t146, wrap64 (x12_1 + 1), 0)) else (if (bt a0 x12_1) = 1 then (some (t146, wrap64 (x12_1 + 1), 0)) else (some (0, 0, 20)))) else (some (0, 0, 20)))) = some (r1, r2, r3) := H
        have A11 := Aside0.mk A110
        clear A110
        replace H := Option.bind_eq_some_iff.mp H
        obtain ⟨t147, A120, H⟩ := H
        replace H : (if t147 = (wrap64 (x12_1 + 1)) then (if x12_1 < 9 then (some (t146, wrap64 (x12_1 + 1), 0)) else (if (bt a0 x12_1) = 1 then (some (t146, wrap64 (x12_1 + 1), 0)) else (some (0, 0, 20)))) else (some (0, 0, 20))) = some (r1, r2, r3) := H
        have A12 := Aside0.mk A120
        clear A120
        by_cases c13 : t147 = (wrap64 (x12_1 + 1))
        ·rw [if_pos c13] at H
         have c13b0 : (t147 == (wrap64 (x12_1 + 1))) = true := beq_iff_eq.mpr c13
         have c13b1 : (t147 != (wrap64 (x12_1 + 1))) = false := bne_eq_false_iff_eq.mpr c13
         clear c13
         by_cases c14 : x12_1 < 9
         ·rw [if_pos c14] at H
          have c14b0 : decide (x12_1 < 9) = true := decide_eq_true c14
          clear c14
          simp only [Option.some.injEq, Prod.mk.injEq] at H
          obtain ⟨rfl, rfl, rfl⟩ := H
          have p6 : 0 ≤ (x12_1 : Int) := of_decide_eq_true (by assumption)
          have q6 : x12_1 < (a0.size : Int) := of_decide_eq_true (by assumption)
          have hx6 := bt_at a0 x12_1
          replace p6 := eq_true p6
          replace q6 := eq_true q6
          go_wp2_with (first | ((with_reducible refine gate_callee (f := 40) rfl ?_); refine goesL_ (some 30) rfl rfl Try.func40 (by kernel_rfl) rfl #[.int .i64 (wrap64 (Go.bits .or .u64 x5_1 (ji9)))] rfl (by (try simp only [List.map_toArray, List.map_cons, List.map_nil]); first | done | (simp only [hji9]; rfl) | rfl | (simp only [List.length_drop, List.length_take]; rfl)) ?_; (with_reducible refine (bits_Zag.calls (wrap64 (Go.bits .or .u64 x5_1 (ji9))) t146 _ A11.out).mono ?_); rintro e w' ⟨rfl, ⟨nd, rfl⟩⟩; refine ⟨_, rfl, ?_⟩) | ((with_reducible refine gate_callee (f := 27) rfl ?_); refine goesL_ (some 32) rfl rfl Try.func27 (by kernel_rfl) rfl #[.int .i64 t146] rfl (by (try simp only [List.map_toArray, List.map_cons, List.map_nil]); first | done | rfl) ?_; (with_reducible refine (vint_Len.calls k1 t146 t147 _ A12.out).mono ?_); rintro e w15 ⟨rfl, hb⟩; refine ⟨_, rfl, ?_⟩; have n0_ := Aside0.mk (below_step (by repeat (first | exact HB.out | apply below_alloc | apply pw_below_drewN | apply below_drew1)) hb); clear HB; have HB := n0_; clear n0_; (try clear hb); (try clear hb2); (try clear hk); (try clear hi)))
          go_ret3
          exact ⟨by first | rfl | (simp [errW_none, errW_some] <;> rfl) | (simp only [← hji2, ← hji7, ← hji9]; first | rfl | (simp [errW_none, errW_some] <;> rfl)) | (simp [*, errW_none, errW_some] <;> rfl), by repeat (first | (with_reducible first | exact HB.out | apply below_alloc | apply pw_below_drewN | apply below_drew1) | exact HB.out)⟩
         ·rw [if_neg c14] at H
          have c14b0 : decide (x12_1 < 9) = false := decide_eq_false c14
          clear c14
          by_cases c16 : (bt a0 x12_1) = 1
          ·rw [if_pos c16] at H
           have c16b0 : ((bt a0 x12_1) == 1) = true := beq_iff_eq.mpr c16
           have c16b1 : ((bt a0 x12_1) != 1) = false := bne_eq_false_iff_eq.mpr c16
           clear c16
           simp only [Option.some.injEq, Prod.mk.injEq] at H
           obtain ⟨rfl, rfl, rfl⟩ := H
           have p6 : 0 ≤ (x12_1 : Int) := of_decide_eq_true (by assumption)
           have q6 : x12_1 < (a0.size : Int) := of_decide_eq_true (by assumption)
           have hx6 := bt_at a0 x12_1
           replace p6 := eq_true p6
           replace q6 := eq_true q6
           go_wp2_with (first | ((with_reducible refine gate_callee (f := 40) rfl ?_); refine goesL_ (some 30) rfl rfl Try.func40 (by kernel_rfl) rfl #[.int .i64 (wrap64 (Go.bits .or .u64 x5_1 (ji9)))] rfl (by (try simp only [List.map_toArray, List.map_cons, List.map_nil]); first | done | (simp only [hji9]; rfl) | rfl | (simp only [List.length_drop, List.length_take]; rfl)) ?_; (with_reducible refine (bits_Zag.calls (wrap64 (Go.bits .or .u64 x5_1 (ji9))) t146 _ A11.out).mono ?_); rintro e w' ⟨rfl, ⟨nd, rfl⟩⟩; refine ⟨_, rfl, ?_⟩) | ((with_reducible refine gate_callee (f := 27) rfl ?_); refine goesL_ (some 32) rfl rfl Try.func27 (by kernel_rfl) rfl #[.int .i64 t146] rfl (by (try simp only [List.map_toArray, List.map_cons, List.map_nil]); first | done | rfl) ?_; (with_reducible refine (vint_Len.calls k1 t146 t147 _ A12.out).mono ?_); rintro e w17 ⟨rfl, hb⟩; refine ⟨_, rfl, ?_⟩; have n0_ := Aside0.mk (below_step (by repeat (first | exact HB.out | apply below_alloc | apply pw_below_drewN | apply below_drew1)) hb); clear HB; have HB := n0_; clear n0_; (try clear hb); (try clear hb2); (try clear hk); (try clear hi)))
           go_ret3
           exact ⟨by first | rfl | (simp [errW_none, errW_some] <;> rfl) | (simp only [← hji2, ← hji7, ← hji9]; first | rfl | (simp [errW_none, errW_some] <;> rfl)) | (simp [*, errW_none, errW_some] <;> rfl), by repeat (first | (with_reducible first | exact HB.out | apply below_alloc | apply pw_below_drewN | apply below_drew1) | exact HB.out)⟩
          ·rw [if_neg c16] at H
           have c16b0 : ((bt a0 x12_1) == 1) = false := beq_eq_false_iff_ne.mpr c16
           have c16b1 : ((bt a0 x12_1) != 1) = true := bne_iff_ne.mpr c16
           simp only [Option.some.injEq, Prod.mk.injEq] at H
           obtain ⟨rfl, rfl, rfl⟩ := H
           have p6 : 0 ≤ (x12_1 : Int) := of_decide_eq_true (by assumption)
           have q6 : x12_1 < (a0.size : Int) := of_decide_eq_true (by assumption)
           have hx6 := bt_at a0 x12_1
           replace p6 := eq_true p6
           replace q6 := eq_true q6
           go_wp2_with (first | ((with_reducible refine gate_callee (f := 40) rfl ?_); refine goesL_ (some 30) rfl rfl Try.func40 (by kernel_rfl) rfl #[.int .i64 (wrap64 (Go.bits .or .u64 x5_1 (ji9)))] rfl (by (try simp only [List.map_toArray, List.map_cons, List.map_nil]); first | done | (simp only [hji9]; rfl) | rfl | (simp only [List.length_drop, List.length_take]; rfl)) ?_; (with_reducible refine (bits_Zag.calls (wrap64 (Go.bits .or .u64 x5_1 (ji9))) t146 _ A11.out).mono ?_); rintro e w' ⟨rfl, ⟨nd, rfl⟩⟩; refine ⟨_, rfl, ?_⟩) | ((with_reducible refine gate_callee (f := 27) rfl ?_); refine goesL_ (some 32) rfl rfl Try.func27 (by kernel_rfl) rfl #[.int .i64 t146] rfl (by (try simp only [List.map_toArray, List.map_cons, List.map_nil]); first | done | rfl) ?_; (with_reducible refine (vint_Len.calls k1 t146 t147 _ A12.out).mono ?_); rintro e w18 ⟨rfl, hb⟩; refine ⟨_, rfl, ?_⟩; have n0_ := Aside0.mk (below_step (by repeat (first | exact HB.out | apply below_alloc | apply pw_below_drewN | apply below_drew1)) hb); clear HB; have HB := n0_; clear n0_; (try clear hb); (try clear hb2); (try clear hk); (try clear hi)))
           go_ret3
           exact ⟨by first | rfl | (simp [errW_none, errW_some] <;> rfl) | (simp only [← hji2, ← hji7, ← hji9]; first | rfl | (simp [errW_none, errW_some] <;> rfl)) | (simp [*, errW_none, errW_some] <;> rfl), by repeat (first | (with_reducible first | exact HB.out | apply below_alloc | apply pw_below_drewN | apply below_drew1) | exact HB.out)⟩
        ·rw [if_neg c13] at H
         have c13b0 : (t147 == (wrap64 (x12_1 + 1))) = false := beq_eq_false_iff_ne.mpr c13
         have c13b1 : (t147 != (wrap64 (x12_1 + 1))) = true := bne_iff_ne.mpr c13
         simp only [Option.some.injEq, Prod.mk.injEq] at H
         obtain ⟨rfl, rfl, rfl⟩ := H
         have p6 : 0 ≤ (x12_1 : Int) := of_decide_eq_true (by assumption)
         have q6 : x12_1 < (a0.size : Int) := of_decide_eq_true (by assumption)
         have hx6 := bt_at a0 x12_1
         replace p6 := eq_true p6
         replace q6 := eq_true q6
         go_wp2_with (first | ((with_reducible refine gate_callee (f := 40) rfl ?_); refine goesL_ (some 30) rfl rfl Try.func40 (by kernel_rfl) rfl #[.int .i64 (wrap64 (Go.bits .or .u64 x5_1 (ji9)))] rfl (by (try simp only [List.map_toArray, List.map_cons, List.map_nil]); first | done | (simp only [hji9]; rfl) | rfl | (simp only [List.length_drop, List.length_take]; rfl)) ?_; (with_reducible refine (bits_Zag.calls (wrap64 (Go.bits .or .u64 x5_1 (ji9))) t146 _ A11.out).mono ?_); rintro e w' ⟨rfl, ⟨nd, rfl⟩⟩; refine ⟨_, rfl, ?_⟩) | ((with_reducible refine gate_callee (f := 27) rfl ?_); refine goesL_ (some 32) rfl rfl Try.func27 (by kernel_rfl) rfl #[.int .i64 t146] rfl (by (try simp only [List.map_toArray, List.map_cons, List.map_nil]); first | done | rfl) ?_; (with_reducible refine (vint_Len.calls k1 t146 t147 _ A12.out).mono ?_); rintro e w19 ⟨rfl, hb⟩; refine ⟨_, rfl, ?_⟩; have n0_ := Aside0.mk (below_step (by repeat (first | exact HB.out | apply below_alloc | apply pw_below_drewN | apply below_drew1)) hb); clear HB; have HB := n0_; clear n0_; (try clear hb); (try clear hb2); (try clear hk); (try clear hi)))
         go_ret3
         exact ⟨by first | rfl | (simp [errW_none, errW_some] <;> rfl) | (simp only [← hji2, ← hji7, ← hji9]; first | rfl | (simp [errW_none, errW_some] <;> rfl)) | (simp [*, errW_none, errW_some] <;> rfl), by repeat (first | (with_reducible first | exact HB.out | apply below_alloc | apply pw_below_drewN | apply below_drew1) | exact HB.out)⟩
      ·rw [if_neg c8] at H
       exact absurd H (by simp)
     ·rw [if_neg c5] at H
      exact absurd H (by simp)
    ·rw [if_neg c4] at H
     exact absurd H (by simp)
   ·rw [if_neg c3] at H
    have c3b0 : decide (x12_1 < ji2) = false := decide_eq_false c3
    clear c3
    simp only [Option.some.injEq, Prod.mk.injEq] at H
    obtain ⟨rfl, rfl, rfl⟩ := H
    go_wp2
    go_ret3
    exact ⟨by first | rfl | (simp [errW_none, errW_some] <;> rfl) | (simp only [← hji2]; first | rfl | (simp [errW_none, errW_some] <;> rfl)) | (simp [*, errW_none, errW_some] <;> rfl), by repeat (first | (with_reducible first | exact HB.out | apply below_alloc | apply pw_below_drewN | apply below_drew1) | exact HB.out)⟩

-- NOT PRINTED: function 23 (frame_Take_1)

/-! ### pack_word: function 41 -/
def pack_word.l0 : Nat → ByteArray → Int → Int → Int → Int → Option (Int)
 | 0, _, _, _, _, _ => none
 | k + 1, x0, x2, x7, x8, x9 => if x9 < x2 then (if 0 ≤ (x8 / 8) then (if (x8 / 8) < (x0.size : Int) then (if 0 ≤ (Go.bits .and .i64 x8 7) then ((bits_Mask.f (mn (wrap64 (8 - (Go.bits .and .i64 x8 7))) (wrap64 (x2 - x9)))).bind fun t148 => (if 0 ≤ x9 then (pack_word.l0 k x0 x2 (Go.bits .or .u64 x7 (shl .u64 (Go.bits .and .u64 (shr .u64 (IntKind.u64.wrap (bt x0 (x8 / 8))) (Go.bits .and .i64 x8 7)) (IntKind.u64.wrap (t148))) x9)) (wrap64 (x8 + (mn (wrap64 (8 - (Go.bits .and .i64 x8 7))) (wrap64 (x2 - x9))))) (wrap64 (x9 + (mn (wrap64 (8 - (Go.bits .and .i64 x8 7))) (wrap64 (x2 - x9)))))) else (none))) else (none)) else (none)) else (none)) else (some (wrap64 (x7)))
def pack_word.f (k : Nat) (a0 : ByteArray) (a1 : Int) (a2 : Int) : Option (Int) := pack_word.l0 k a0 a2 0 (wrap64 (a1 * a2)) 0
theorem pack_word.l0_succ (k : Nat) (x0 : ByteArray) (x2 : Int) (x7 : Int) (x8 : Int) (x9 : Int) : pack_word.l0 (k + 1) x0 x2 x7 x8 x9 = (if x9 < x2 then (if 0 ≤ (x8 / 8) then (if (x8 / 8) < (x0.size : Int) then (if 0 ≤ (Go.bits .and .i64 x8 7) then ((bits_Mask.f (mn (wrap64 (8 - (Go.bits .and .i64 x8 7))) (wrap64 (x2 - x9)))).bind fun t148 => (if 0 ≤ x9 then (pack_word.l0 k x0 x2 (Go.bits .or .u64 x7 (shl .u64 (Go.bits .and .u64 (shr .u64 (IntKind.u64.wrap (bt x0 (x8 / 8))) (Go.bits .and .i64 x8 7)) (IntKind.u64.wrap (t148))) x9)) (wrap64 (x8 + (mn (wrap64 (8 - (Go.bits .and .i64 x8 7))) (wrap64 (x2 - x9))))) (wrap64 (x9 + (mn (wrap64 (8 - (Go.bits .and .i64 x8 7))) (wrap64 (x2 - x9)))))) else (none))) else (none)) else (none)) else (none)) else (some (wrap64 (x7)))) := by
 simp only [pack_word.l0]
theorem pack_word.mono_l : ∀ k, (∀ y0 y1 y2 y3 y4, LeO (pack_word.l0 k y0 y1 y2 y3 y4) (pack_word.l0 (k + 1) y0 y1 y2 y3 y4))
 | 0 => fun _ _ _ _ _ r h => by simp [pack_word.l0] at h
 | k + 1 => by
  have ih0 := pack_word.mono_l k
  ·intro y0 y1 y2 y3 y4
   unfold pack_word.l0
   repeat' first
   | (with_reducible exact ih0 _ _ _ _ _)
   | (with_reducible exact LeO.refl _)
   | (with_reducible exact LeO.none _)
   | (with_reducible refine LeO.ite ?_ ?_)
   | (with_reducible refine LeO.bind ?_ (fun _ => ?_))
   | exact ih0 _ _ _ _ _
   | exact LeO.none _
   | refine LeO.ite ?_ ?_
   | refine LeO.bind ?_ (fun _ => ?_)
theorem pack_word.mono : ∀ a0 a1 a2 k, LeO (pack_word.f k a0 a1 a2) (pack_word.f (k + 1) a0 a1 a2) := by
 intro a0 a1 a2 k
 have ih0 := pack_word.mono_l k
 unfold pack_word.f
 repeat' first
   | (with_reducible exact ih0 _ _ _ _ _)
   | (with_reducible exact LeO.refl _)
   | (with_reducible exact LeO.none _)
   | (with_reducible refine LeO.ite ?_ ?_)
   | (with_reducible refine LeO.bind ?_ (fun _ => ?_))
   | exact ih0 _ _ _ _ _
   | exact LeO.none _
   | refine LeO.ite ?_ ?_
   | refine LeO.bind ?_ (fun _ => ?_)
set_option maxHeartbeats 8000000 in
set_option maxRecDepth 100000 in
theorem pack_word.calls (k : Nat) (a0 : ByteArray) (a1 : Int) (a2 : Int) (r : Int) (w : World) (h : pack_word.f k a0 a1 a2 = some r) :
  Calls Try.prog 41 #[.string a0, .int .i64 a1, .int .i64 a2] w fun e w' => e = .returned (.int .i64 r) ∧ Below w.heap.size w w' := by
 have HB := Aside0.mk (Below.refl w.heap.size w)
 have H : (pack_word.l0 k a0 a2 0 (wrap64 (a1 * a2)) 0) = some r := h
 clear h
 have H' := Aside0.mk H
 clear H
 go_enter Try.func41, Try.ntmps41
 go_wp2
 repeat (go_quiet (fail); try go_wp2)
 go_loopg [7, 8, 9] k (fun kq v7 v8 v9 w' => ∃ (x7_1 : Int) (x8_1 : Int) (x9_1 : Int), v7 = .int .u64 x7_1 ∧ v8 = .int .i64 x8_1 ∧ v9 = .int .i64 x9_1 ∧ Aside0 (pack_word.l0 kq a0 a2 x7_1 x8_1 x9_1 = some r) ∧ Aside0 (kq ≤ k) ∧ Aside0 (Below w.heap.size w w'))
 case atStart => exact ⟨(0), (wrap64 (a1 * a2)), (0), (by first | rfl | (simp; done) | (simp [*]; done)), (by first | rfl | (simp; done) | (simp [*]; done)), (by first | rfl | (simp; done) | (simp [*]; done)), H', ⟨Nat.le_refl _⟩, ⟨by repeat (first | (with_reducible first | exact HB.out | apply below_alloc | apply pw_below_drewN | apply below_drew1) | exact HB.out)⟩⟩
 case round =>
  clear H'
  try clear p2
  obtain ⟨x7_1, x8_1, x9_1, rfl, rfl, rfl, HA, HK1, HB⟩ := hrel
  cases gk with
  | zero => exact absurd HA.out (by simp [pack_word.l0])
  | succ k1 =>
   have H := HA.out
   clear HA
   simp only [pack_word.l0] at H
   by_cases c4 : x9_1 < a2
   ·rw [if_pos c4] at H
    have c4b0 : decide (x9_1 < a2) = true := decide_eq_true c4
    clear c4
    obtain ⟨ji5, hji5⟩ : ∃ j_ : Int, (mn (wrap64 (8 - (Go.bits .and .i64 x8_1 7))) (wrap64 (a2 - x9_1))) = j_ := ⟨_, rfl⟩
    replace H : (if 0 ≤ (x8_1 / 8) then (if (x8_1 / 8) < (a0.size : Int) then (if 0 ≤ (Go.bits .and .i64 x8_1 7) then ((bits_Mask.f (ji5)).bind fun t148 => (if 0 ≤ x9_1 then (pack_word.l0 k1 a0 a2 (Go.bits .or .u64 x7_1 (shl .u64 (Go.bits .and .u64 (shr .u64 (IntKind.u64.wrap (bt a0 (x8_1 / 8))) (Go.bits .and .i64 x8_1 7)) (IntKind.u64.wrap (t148))) x9_1)) (wrap64 (x8_1 + (ji5))) (wrap64 (x9_1 + (ji5)))) else (none))) else (none)) else (none)) else (none)) = some r := by first | (rw [hji5] at H; exact H) | (simp only [hji5] at H ⊢; exact H)
    have hji5_ : (if (wrap64 (a2 - x9_1)) < (wrap64 (8 - (Go.bits .and .i64 x8_1 7))) then (wrap64 (a2 - x9_1)) else (wrap64 (8 - (Go.bits .and .i64 x8_1 7)))) = ji5 := hji5
    obtain ⟨ji6, hji6⟩ : ∃ j_ : Int, (x8_1 / 8) = j_ := ⟨_, rfl⟩
    replace H : (if 0 ≤ (ji6) then (if (ji6) < (a0.size : Int) then (if 0 ≤ (Go.bits .and .i64 x8_1 7) then ((bits_Mask.f (ji5)).bind fun t148 => (if 0 ≤ x9_1 then (pack_word.l0 k1 a0 a2 (Go.bits .or .u64 x7_1 (shl .u64 (Go.bits .and .u64 (shr .u64 (IntKind.u64.wrap (bt a0 (ji6))) (Go.bits .and .i64 x8_1 7)) (IntKind.u64.wrap (t148))) x9_1)) (wrap64 (x8_1 + (ji5))) (wrap64 (x9_1 + (ji5)))) else (none))) else (none)) else (none)) else (none)) = some r := by first | (rw [hji6] at H; exact H) | (simp only [hji6] at H ⊢; exact H)
    by_cases c7 : 0 ≤ (ji6)
    ·rw [if_pos c7] at H
     have c7b0 : decide (0 ≤ (ji6)) = true := decide_eq_true c7
     clear c7
     by_cases c8 : (ji6) < (a0.size : Int)
     ·rw [if_pos c8] at H
      have c8b0 : decide ((ji6) < (a0.size : Int)) = true := decide_eq_true c8
      clear c8
      by_cases c10 : 0 ≤ (Go.bits .and .i64 x8_1 7)
      ·rw [if_pos c10] at H
       have c10b0 := eq_true c10
       have c10b1 : decide (0 ≤ (Go.bits .and .i64 x8_1 7)) = true := decide_eq_true c10
       clear c10
       obtain ⟨ji11, hji11⟩ : ∃ j_ : Int, (shr .u64 (IntKind.u64.wrap (bt a0 (ji6))) (Go.bits .and .i64 x8_1 7)) = j_ := ⟨_, rfl⟩
       replace H : ((bits_Mask.f (ji5)).bind fun t148 => (if 0 ≤ x9_1 then (pack_word.l0 k1 a0 a2 (Go.bits .or .u64 x7_1 (shl .u64 (Go.bits .and .u64 (ji11) (IntKind.u64.wrap (t148))) x9_1)) (wrap64 (x8_1 + (ji5))) (wrap64 (x9_1 + (ji5)))) else (none))) = some r := by first | (rw [hji11] at H; exact H) | (simp only [hji11] at H ⊢; exact H)
       have hji11_ : ((IntKind.u64.wrap (bt a0 (ji6))) / 2 ^ min (Go.bits .and .i64 x8_1 7).toNat 64) = ji11 := hji11
       have hji11z : (Go.bits .and .i64 x8_1 7) ≤ 64 → ((IntKind.u64.wrap (bt a0 (ji6))) / 2 ^ (Go.bits .and .i64 x8_1 7).toNat) = ji11 := shr_small hji11
       replace H := Option.bind_eq_some_iff.mp H
       obtain ⟨t148, A120, H⟩ := H
       replace H : (if 0 ≤ x9_1 then (pack_word.l0 k1 a0 a2 (Go.bits .or .u64 x7_1 (shl .u64 (Go.bits .and .u64 (ji11) (IntKind.u64.wrap (t148))) x9_1)) (wrap64 (x8_1 + (ji5))) (wrap64 (x9_1 + (ji5)))) else (none)) = some r := H
       have A12 := Aside0.mk A120
       clear A120
       by_cases c13 : 0 ≤ x9_1
       ·rw [if_pos c13] at H
        have c13b0 := eq_true c13
        have c13b1 : decide (0 ≤ x9_1) = true := decide_eq_true c13
        clear c13
        obtain ⟨ji14, hji14⟩ : ∃ j_ : Int, (shl .u64 (Go.bits .and .u64 (ji11) (IntKind.u64.wrap (t148))) x9_1) = j_ := ⟨_, rfl⟩
        replace H : (pack_word.l0 k1 a0 a2 (Go.bits .or .u64 x7_1 (ji14)) (wrap64 (x8_1 + (ji5))) (wrap64 (x9_1 + (ji5)))) = some r := by first | (rw [hji14] at H; exact H) | (simp only [hji14] at H ⊢; exact H)
        (try rw [hji14] at A12)
        have hji14_ : (IntKind.u64.wrap ((Go.bits .and .u64 (ji11) (IntKind.u64.wrap (t148))) * 2 ^ min x9_1.toNat 64)) = ji14 := hji14
        have hji14z : x9_1 ≤ 64 → (IntKind.u64.wrap ((Go.bits .and .u64 (ji11) (IntKind.u64.wrap (t148))) * 2 ^ x9_1.toNat)) = ji14 := shl_small hji14
        have H' := Aside0.mk H
        clear H
        have p9 : 0 ≤ ((ji6) : Int) := of_decide_eq_true (by assumption)
        have q9 : (ji6) < (a0.size : Int) := of_decide_eq_true (by assumption)
        have hx9 := bt_at a0 (ji6)
        replace p9 := eq_true p9
        replace q9 := eq_true q9
        go_wp2_with (first | (go_at_call 35; (with_reducible refine (bits_Mask.calls ji5 t148 _ A12.out).mono ?_); rintro e w' ⟨rfl, ⟨nd, rfl⟩⟩; (try first | exact ⟨rfl, _, World.drewN_drewN _ _ _⟩ | exact ⟨rfl, _, Eq.trans (World.drewN_drewN _ _ _) (congrArg (World.drewN _) (Nat.add_assoc _ _ _))⟩)))
        repeat (go_quiet (first | (go_at_call 35; (with_reducible refine (bits_Mask.calls ji5 t148 _ A12.out).mono ?_); rintro e w' ⟨rfl, ⟨nd, rfl⟩⟩; (try first | exact ⟨rfl, _, World.drewN_drewN _ _ _⟩ | exact ⟨rfl, _, Eq.trans (World.drewN_drewN _ _ _) (congrArg (World.drewN _) (Nat.add_assoc _ _ _))⟩))); try go_wp2_with (first | (go_at_call 35; (with_reducible refine (bits_Mask.calls ji5 t148 _ A12.out).mono ?_); rintro e w' ⟨rfl, ⟨nd, rfl⟩⟩; (try first | exact ⟨rfl, _, World.drewN_drewN _ _ _⟩ | exact ⟨rfl, _, Eq.trans (World.drewN_drewN _ _ _) (congrArg (World.drewN _) (Nat.add_assoc _ _ _))⟩))))
        go_roundg k1
        case measure => have := HK1.out; omega
        case rel => exact ⟨(Go.bits .or .u64 x7_1 (ji14)), (wrap64 (x8_1 + (ji5))), (wrap64 (x9_1 + (ji5))), (by first | rfl | (simp; done) | (simp only [← hji14] <;> (first | rfl | simp)) | (simp [*]; done)), (by first | rfl | (simp; done) | (simp only [← hji5] <;> (first | rfl | simp)) | (simp [*]; done)), (by first | rfl | (simp; done) | (simp only [← hji5] <;> (first | rfl | simp)) | (simp [*]; done)), (by first | exact H' | (simp only [hji5, hji6, hji11, hji14]; exact H')), ⟨by have := HK1.out; omega⟩, ⟨by repeat (first | (with_reducible first | exact HB.out | apply below_alloc | apply pw_below_drewN | apply below_drew1) | exact HB.out)⟩⟩
       ·rw [if_neg c13] at H
        exact absurd H (by simp)
      ·rw [if_neg c10] at H
       exact absurd H (by simp)
     ·rw [if_neg c8] at H
      exact absurd H (by simp)
    ·rw [if_neg c7] at H
     exact absurd H (by simp)
   ·rw [if_neg c4] at H
    have c4b0 : decide (x9_1 < a2) = false := decide_eq_false c4
    clear c4
    obtain rfl := Option.some.inj H
    go_wp2
    repeat (go_quiet (fail); try go_wp2)
    go_ret
    exact ⟨by first | rfl | (simp [errW_none, errW_some] <;> rfl) | (simp [*, errW_none, errW_some] <;> rfl), by repeat (first | (with_reducible first | exact HB.out | apply below_alloc | apply pw_below_drewN | apply below_drew1) | exact HB.out)⟩

/-! ### pack_Take: function 25 -/
mutual
def pack_Take.j0 : Nat → ByteArray → Int → Int → Bool → Option (List Int × Int)
 | 0, _, _, _, _ => none
 | k + 1, x0, x1, x2, x24 => if x24 = true then (some (([] : List Int), 1)) else ((pack_Bytes.f x1 x2).bind fun t149 => (if (x0.size : Int) = t149 then (if (Go.bits .and .i64 (wrap64 (x1 * x2)) 7) > 0 then (if 0 ≤ (wrap64 ((x0.size : Int) - 1)) then (if (wrap64 ((x0.size : Int) - 1)) < (x0.size : Int) then (if 0 ≤ (Go.bits .and .i64 (wrap64 (x1 * x2)) 7) then (pack_Take.j1 k x0 x1 x2 (decide ((shr .u8 (bt x0 (wrap64 ((x0.size : Int) - 1))) (Go.bits .and .i64 (wrap64 (x1 * x2)) 7)) > 0))) else (none)) else (none)) else (none)) else (pack_Take.j1 k x0 x1 x2 false)) else (some (([] : List Int), 20))))
def pack_Take.j1 : Nat → ByteArray → Int → Int → Bool → Option (List Int × Int)
 | 0, _, _, _, _ => none
 | k + 1, x0, x1, x2, x46 => if x46 = true then (some (([] : List Int), 20)) else (if 0 ≤ x1 then (if (x1 : Int).toNat ≤ 35184372088832 then (pack_Take.l0 k x0 x2 (List.replicate (x1 : Int).toNat 0) x1 0) else (none)) else (none))
def pack_Take.l0 : Nat → ByteArray → Int → List Int → Int → Int → Option (List Int × Int)
 | 0, _, _, _, _, _ => none
 | k + 1, x0, x2, x9, x49, x50 => if x50 < x49 then ((pack_word.f k x0 x50 x2).bind fun t153 => (if 0 ≤ x50 then (if x50 < (x9.length : Int) then (pack_Take.l0 k x0 x2 (x9.set (x50 : Int).toNat t153) x49 (wrap64 (x50 + 1))) else (none)) else (none))) else (some (x9, 0))
end
def pack_Take.f (k : Nat) (a0 : ByteArray) (a1 : Int) (a2 : Int) : Option (List Int × Int) := if a2 < 0 then (pack_Take.j0 k a0 a1 a2 true) else (if a2 > 64 then (pack_Take.j0 k a0 a1 a2 true) else (if a1 < 0 then (pack_Take.j0 k a0 a1 a2 true) else (pack_Take.j0 k a0 a1 a2 (decide (a1 > 65536)))))
theorem pack_Take.j0_succ (k : Nat) (x0 : ByteArray) (x1 : Int) (x2 : Int) (x24 : Bool) : pack_Take.j0 (k + 1) x0 x1 x2 x24 = (if x24 = true then (some (([] : List Int), 1)) else ((pack_Bytes.f x1 x2).bind fun t149 => (if (x0.size : Int) = t149 then (if (Go.bits .and .i64 (wrap64 (x1 * x2)) 7) > 0 then (if 0 ≤ (wrap64 ((x0.size : Int) - 1)) then (if (wrap64 ((x0.size : Int) - 1)) < (x0.size : Int) then (if 0 ≤ (Go.bits .and .i64 (wrap64 (x1 * x2)) 7) then (pack_Take.j1 k x0 x1 x2 (decide ((shr .u8 (bt x0 (wrap64 ((x0.size : Int) - 1))) (Go.bits .and .i64 (wrap64 (x1 * x2)) 7)) > 0))) else (none)) else (none)) else (none)) else (pack_Take.j1 k x0 x1 x2 false)) else (some (([] : List Int), 20))))) := by
 simp only [pack_Take.j0]
theorem pack_Take.j1_succ (k : Nat) (x0 : ByteArray) (x1 : Int) (x2 : Int) (x46 : Bool) : pack_Take.j1 (k + 1) x0 x1 x2 x46 = (if x46 = true then (some (([] : List Int), 20)) else (if 0 ≤ x1 then (if (x1 : Int).toNat ≤ 35184372088832 then (pack_Take.l0 k x0 x2 (List.replicate (x1 : Int).toNat 0) x1 0) else (none)) else (none))) := by
 simp only [pack_Take.j1]
theorem pack_Take.l0_succ (k : Nat) (x0 : ByteArray) (x2 : Int) (x9 : List Int) (x49 : Int) (x50 : Int) : pack_Take.l0 (k + 1) x0 x2 x9 x49 x50 = (if x50 < x49 then ((pack_word.f k x0 x50 x2).bind fun t153 => (if 0 ≤ x50 then (if x50 < (x9.length : Int) then (pack_Take.l0 k x0 x2 (x9.set (x50 : Int).toNat t153) x49 (wrap64 (x50 + 1))) else (none)) else (none))) else (some (x9, 0))) := by
 simp only [pack_Take.l0]
theorem pack_Take.mono_l : ∀ k, (∀ y0 y1 y2 y3, LeO (pack_Take.j0 k y0 y1 y2 y3) (pack_Take.j0 (k + 1) y0 y1 y2 y3)) ∧ (∀ y0 y1 y2 y3, LeO (pack_Take.j1 k y0 y1 y2 y3) (pack_Take.j1 (k + 1) y0 y1 y2 y3)) ∧ (∀ y0 y1 y2 y3 y4, LeO (pack_Take.l0 k y0 y1 y2 y3 y4) (pack_Take.l0 (k + 1) y0 y1 y2 y3 y4))
 | 0 => ⟨fun _ _ _ _ r h => by simp [pack_Take.j0] at h, fun _ _ _ _ r h => by simp [pack_Take.j1] at h, fun _ _ _ _ _ r h => by simp [pack_Take.l0] at h⟩
 | k + 1 => by
  obtain ⟨ih0, ih1, ih2⟩ := pack_Take.mono_l k
  refine ⟨?_, ?_, ?_⟩
  ·intro y0 y1 y2 y3
   unfold pack_Take.j0
   repeat' first
   | (with_reducible exact ih0 _ _ _ _)
   | (with_reducible exact ih1 _ _ _ _)
   | (with_reducible exact ih2 _ _ _ _ _)
   | (with_reducible exact pack_word.mono _ _ _ _)
   | (with_reducible exact LeO.refl _)
   | (with_reducible exact LeO.none _)
   | (with_reducible refine LeO.ite ?_ ?_)
   | (with_reducible refine LeO.bind ?_ (fun _ => ?_))
   | exact ih0 _ _ _ _
   | exact ih1 _ _ _ _
   | exact ih2 _ _ _ _ _
   | exact pack_word.mono _ _ _ _
   | exact LeO.none _
   | refine LeO.ite ?_ ?_
   | refine LeO.bind ?_ (fun _ => ?_)
  ·intro y0 y1 y2 y3
   unfold pack_Take.j1
   repeat' first
   | (with_reducible exact ih0 _ _ _ _)
   | (with_reducible exact ih1 _ _ _ _)
   | (with_reducible exact ih2 _ _ _ _ _)
   | (with_reducible exact pack_word.mono _ _ _ _)
   | (with_reducible exact LeO.refl _)
   | (with_reducible exact LeO.none _)
   | (with_reducible refine LeO.ite ?_ ?_)
   | (with_reducible refine LeO.bind ?_ (fun _ => ?_))
   | exact ih0 _ _ _ _
   | exact ih1 _ _ _ _
   | exact ih2 _ _ _ _ _
   | exact pack_word.mono _ _ _ _
   | exact LeO.none _
   | refine LeO.ite ?_ ?_
   | refine LeO.bind ?_ (fun _ => ?_)
  ·intro y0 y1 y2 y3 y4
   unfold pack_Take.l0
   repeat' first
   | (with_reducible exact ih0 _ _ _ _)
   | (with_reducible exact ih1 _ _ _ _)
   | (with_reducible exact ih2 _ _ _ _ _)
   | (with_reducible exact pack_word.mono _ _ _ _)
   | (with_reducible exact LeO.refl _)
   | (with_reducible exact LeO.none _)
   | (with_reducible refine LeO.ite ?_ ?_)
   | (with_reducible refine LeO.bind ?_ (fun _ => ?_))
   | exact ih0 _ _ _ _
   | exact ih1 _ _ _ _
   | exact ih2 _ _ _ _ _
   | exact pack_word.mono _ _ _ _
   | exact LeO.none _
   | refine LeO.ite ?_ ?_
   | refine LeO.bind ?_ (fun _ => ?_)
theorem pack_Take.mono : ∀ a0 a1 a2 k, LeO (pack_Take.f k a0 a1 a2) (pack_Take.f (k + 1) a0 a1 a2) := by
 intro a0 a1 a2 k
 obtain ⟨ih0, ih1, ih2⟩ := pack_Take.mono_l k
 unfold pack_Take.f
 repeat' first
   | (with_reducible exact ih0 _ _ _ _)
   | (with_reducible exact ih1 _ _ _ _)
   | (with_reducible exact ih2 _ _ _ _ _)
   | (with_reducible exact pack_word.mono _ _ _ _)
   | (with_reducible exact LeO.refl _)
   | (with_reducible exact LeO.none _)
   | (with_reducible refine LeO.ite ?_ ?_)
   | (with_reducible refine LeO.bind ?_ (fun _ => ?_))
   | exact ih0 _ _ _ _
   | exact ih1 _ _ _ _
   | exact ih2 _ _ _ _ _
   | exact pack_word.mono _ _ _ _
   | exact LeO.none _
   | refine LeO.ite ?_ ?_
   | refine LeO.bind ?_ (fun _ => ?_)
set_option maxHeartbeats 8000000 in
set_option maxRecDepth 100000 in
theorem pack_Take.calls (k : Nat) (a0 : ByteArray) (a1 : Int) (a2 : Int) (r1 : List Int) (r2 : Int) (w : World) (h : pack_Take.f k a0 a1 a2 = some (r1, r2)) :
  Calls Try.prog 25 #[.string a0, .int .i64 a1, .int .i64 a2] w fun e w' => ∃ v0_ : Value, e = .returned (.tuple #[v0_, .int .i64 r2]) ∧ Kd.R (Kd.int .i64) 3 w' w.heap.size (fun _ => True) v0_ r1 ∧ Below w.heap.size w w' := by
 have HB := Aside0.mk (Below.refl w.heap.size w)
 have H : (if a2 < 0 then (pack_Take.j0 k a0 a1 a2 true) else (if a2 > 64 then (pack_Take.j0 k a0 a1 a2 true) else (if a1 < 0 then (pack_Take.j0 k a0 a1 a2 true) else (pack_Take.j0 k a0 a1 a2 (decide (a1 > 65536)))))) = some (r1, r2) := h
 clear h
 have HC4 := Aside0.mk H
 clear H
 go_enter Try.func25, Try.ntmps25
 go_upto_region 1 with (fail)
 go_cut [24] (fun v24 wc => ∃ (kq : Nat) (x24_3 : Bool), v24 = .bool x24_3 ∧ Aside0 (pack_Take.j0 kq a0 a1 a2 x24_3 = some (r1, r2)) ∧ Aside0 (kq ≤ k) ∧ Aside0 (Below w.heap.size w wc))
 case first =>
  have H := HC4.out
  clear HC4
  by_cases c5 : a2 < 0
  ·rw [if_pos c5] at H
   have c5b0 : decide (a2 < 0) = true := decide_eq_true c5
   clear c5
   (first | rw [c5b0] | (simp only [i64_w, i32_w]; rw [c5b0]) | skip)
   have H' := Aside0.mk H
   clear H
   go_wp2
   go_meet
   case rel => exact ⟨_, (true), (by first | rfl | (simp; done) | (simp [*]; done)), H', ⟨by first | omega | exact Nat.le_refl _⟩, ⟨by repeat (first | (with_reducible first | exact HB.out | apply below_alloc | apply pw_below_drewN | apply below_drew1) | exact HB.out)⟩⟩
  ·rw [if_neg c5] at H
   have c5b0 : decide (a2 < 0) = false := decide_eq_false c5
   clear c5
   (first | rw [c5b0] | (simp only [i64_w, i32_w]; rw [c5b0]) | skip)
   by_cases c6 : a2 > 64
   ·rw [if_pos c6] at H
    have c6b0 : decide (64 < a2) = true := decide_eq_true c6
    clear c6
    have H' := Aside0.mk H
    clear H
    go_wp2
    go_meet
    case rel => exact ⟨_, (true), (by first | rfl | (simp; done) | (simp [*]; done)), H', ⟨by first | omega | exact Nat.le_refl _⟩, ⟨by repeat (first | (with_reducible first | exact HB.out | apply below_alloc | apply pw_below_drewN | apply below_drew1) | exact HB.out)⟩⟩
   ·rw [if_neg c6] at H
    have c6b0 : decide (64 < a2) = false := decide_eq_false c6
    clear c6
    by_cases c7 : a1 < 0
    ·rw [if_pos c7] at H
     have c7b0 : decide (a1 < 0) = true := decide_eq_true c7
     clear c7
     have H' := Aside0.mk H
     clear H
     go_wp2
     go_meet
     case rel => exact ⟨_, (true), (by first | rfl | (simp; done) | (simp [*]; done)), H', ⟨by first | omega | exact Nat.le_refl _⟩, ⟨by repeat (first | (with_reducible first | exact HB.out | apply below_alloc | apply pw_below_drewN | apply below_drew1) | exact HB.out)⟩⟩
    ·rw [if_neg c7] at H
     have c7b0 : decide (a1 < 0) = false := decide_eq_false c7
     clear c7
     have H' := Aside0.mk H
     clear H
     go_wp2
     go_meet
     case rel => exact ⟨_, (decide (a1 > 65536)), (by first | rfl | (simp; done) | (simp [*]; done)), H', ⟨by first | omega | exact Nat.le_refl _⟩, ⟨by repeat (first | (with_reducible first | exact HB.out | apply below_alloc | apply pw_below_drewN | apply below_drew1) | exact HB.out)⟩⟩
 case rest =>
  clear HC4
  try clear c2
  try clear p2
  try clear c5
  try clear c5b0
  try clear c6
  try clear c6b0
  try clear c7
  try clear c7b0
  obtain ⟨kq, x24_3, rfl, HA, HJ3, HB⟩ := hcut
  cases kq with
  | zero => exact absurd HA.out (by simp [pack_Take.j0])
  | succ kj3 =>
   have H := HA.out
   clear HA
   simp only [pack_Take.j0] at H
   by_cases c8 : x24_3 = true
   ·subst c8
    have H1 : (some (([] : List Int), 1)) = some (r1, r2) := by rw [if_pos rfl] at H; exact H
    clear H
    have H := H1
    clear H1
    simp only [Option.some.injEq, Prod.mk.injEq] at H
    obtain ⟨rfl, rfl⟩ := H
    go_wp2
    go_ret2
    exact ⟨_, by first | rfl | (simp [errW_none, errW_some] <;> rfl) | (simp [*, errW_none, errW_some] <;> rfl), by first | exact Kd.R_nil _ _ _ _ _ | exact Kd.N_nil _ _ _ _ _ | exact Kd.V_nil _ _ _ _ _ | exact Kd.Q_nil _ _ _ _ _ | exact Kd.S_nil _ _ _ _ _, by repeat (first | (with_reducible first | exact HB.out | apply below_alloc | apply pw_below_drewN | apply below_drew1) | exact HB.out)⟩
   ·replace c8 := Bool.eq_false_iff.mpr c8
    subst c8
    have H1 : ((pack_Bytes.f a1 a2).bind fun t149 => (if (a0.size : Int) = t149 then (if (Go.bits .and .i64 (wrap64 (a1 * a2)) 7) > 0 then (if 0 ≤ (wrap64 ((a0.size : Int) - 1)) then (if (wrap64 ((a0.size : Int) - 1)) < (a0.size : Int) then (if 0 ≤ (Go.bits .and .i64 (wrap64 (a1 * a2)) 7) then (pack_Take.j1 kj3 a0 a1 a2 (decide ((shr .u8 (bt a0 (wrap64 ((a0.size : Int) - 1))) (Go.bits .and .i64 (wrap64 (a1 * a2)) 7)) > 0))) else (none)) else (none)) else (none)) else (pack_Take.j1 kj3 a0 a1 a2 false)) else (some (([] : List Int), 20)))) = some (r1, r2) := by rw [if_neg (show ¬ (false = true) by decide)] at H; exact H
    clear H
    have H := H1
    clear H1
    replace H := Option.bind_eq_some_iff.mp H
    obtain ⟨t149, A90, H⟩ := H
    replace H : (if (a0.size : Int) = t149 then (if (Go.bits .and .i64 (wrap64 (a1 * a2)) 7) > 0 then (if 0 ≤ (wrap64 ((a0.size : Int) - 1)) then (if (wrap64 ((a0.size : Int) - 1)) < (a0.size : Int) then (if 0 ≤ (Go.bits .and .i64 (wrap64 (a1 * a2)) 7) then (pack_Take.j1 kj3 a0 a1 a2 (decide ((shr .u8 (bt a0 (wrap64 ((a0.size : Int) - 1))) (Go.bits .and .i64 (wrap64 (a1 * a2)) 7)) > 0))) else (none)) else (none)) else (none)) else (pack_Take.j1 kj3 a0 a1 a2 false)) else (some (([] : List Int), 20))) = some (r1, r2) := H
    have A9 := Aside0.mk A90
    clear A90
    by_cases c10 : (a0.size : Int) = t149
    ·rw [if_pos c10] at H
     have c10b0 : ((a0.size : Int) == t149) = true := beq_iff_eq.mpr c10
     have c10b1 : ((a0.size : Int) != t149) = false := bne_eq_false_iff_eq.mpr c10
     clear c10
     have HC11 := Aside0.mk H
     clear H
     go_upto_region 6 with (first | ((with_reducible refine gate_callee (f := 28) rfl ?_); refine goesL_ (some 29) rfl rfl Try.func28 (by kernel_rfl) rfl #[.int .i64 a1, .int .i64 a2] rfl (by (try simp only [List.map_toArray, List.map_cons, List.map_nil]); first | done | rfl) ?_; (with_reducible refine (pack_Bytes.calls a1 a2 t149 _ A9.out).mono ?_); rintro e w' ⟨rfl, ⟨nd, rfl⟩⟩; refine ⟨_, rfl, ?_⟩))
     (try simp only [Act.put, List.setIfInBounds_toArray, List.set_cons_zero, List.set_cons_succ])
     go_cut [46] (fun v46 wc => ∃ (kq : Nat) (x46_10 : Bool), v46 = .bool x46_10 ∧ Aside0 (pack_Take.j1 kq a0 a1 a2 x46_10 = some (r1, r2)) ∧ Aside0 (kq ≤ kj3) ∧ Aside0 (Below w.heap.size w wc))
     case first =>
      have H := HC11.out
      clear HC11
      by_cases c12 : (Go.bits .and .i64 (wrap64 (a1 * a2)) 7) > 0
      ·rw [if_pos c12] at H
       have c12b0 : decide (0 < (Go.bits .and .i64 (wrap64 (a1 * a2)) 7)) = true := decide_eq_true c12
       clear c12
       (first | rw [c12b0] | (simp only [i64_w, i32_w]; rw [c12b0]) | skip)
       obtain ⟨ji13, hji13⟩ : ∃ j_ : Int, (wrap64 ((a0.size : Int) - 1)) = j_ := ⟨_, rfl⟩
       replace H : (if 0 ≤ (ji13) then (if (ji13) < (a0.size : Int) then (if 0 ≤ (Go.bits .and .i64 (wrap64 (a1 * a2)) 7) then (pack_Take.j1 kj3 a0 a1 a2 (decide ((shr .u8 (bt a0 (ji13)) (Go.bits .and .i64 (wrap64 (a1 * a2)) 7)) > 0))) else (none)) else (none)) else (none)) = some (r1, r2) := by first | (rw [hji13] at H; exact H) | (simp only [hji13] at H ⊢; exact H)
       have hji13w : (IntKind.i64.wrap ((a0.size : Int) - 1)) = ji13 := (i64_w _).trans hji13
       by_cases c14 : 0 ≤ (ji13)
       ·rw [if_pos c14] at H
        have c14b0 : decide (0 ≤ (ji13)) = true := decide_eq_true c14
        clear c14
        by_cases c15 : (ji13) < (a0.size : Int)
        ·rw [if_pos c15] at H
         have c15b0 : decide ((ji13) < (a0.size : Int)) = true := decide_eq_true c15
         clear c15
         obtain ⟨ji17, hji17⟩ : ∃ j_ : Int, (Go.bits .and .i64 (wrap64 (a1 * a2)) 7) = j_ := ⟨_, rfl⟩
         replace H : (if 0 ≤ (ji17) then (pack_Take.j1 kj3 a0 a1 a2 (decide ((shr .u8 (bt a0 (ji13)) (ji17)) > 0))) else (none)) = some (r1, r2) := by first | (rw [hji17] at H; exact H) | (simp only [hji17] at H ⊢; exact H)
         (try rw [hji17] at c12b0)
         by_cases c18 : 0 ≤ (ji17)
         ·rw [if_pos c18] at H
          have c18b0 := eq_true c18
          have c18b1 : decide (0 ≤ (ji17)) = true := decide_eq_true c18
          clear c18
          obtain ⟨ji19, hji19⟩ : ∃ j_ : Int, (shr .u8 (bt a0 (ji13)) (ji17)) = j_ := ⟨_, rfl⟩
          replace H : (pack_Take.j1 kj3 a0 a1 a2 (decide ((ji19) > 0))) = some (r1, r2) := by first | (rw [hji19] at H; exact H) | (simp only [hji19] at H ⊢; exact H)
          have hji19_ : ((bt a0 (ji13)) / 2 ^ min (ji17).toNat 8) = ji19 := hji19
          have hji19z : (ji17) ≤ 8 → ((bt a0 (ji13)) / 2 ^ (ji17).toNat) = ji19 := shr_small hji19
          have H' := Aside0.mk H
          clear H
          have p16 : 0 ≤ ((ji13) : Int) := of_decide_eq_true (by assumption)
          have q16 : (ji13) < (a0.size : Int) := of_decide_eq_true (by assumption)
          have hx16 := bt_at a0 (ji13)
          replace p16 := eq_true p16
          replace q16 := eq_true q16
          go_wp2
          go_meet
          case rel => exact ⟨_, (decide ((ji19) > 0)), (by first | rfl | (simp; done) | (simp only [← hji19] <;> (first | rfl | simp)) | (simp [*]; done)), (by first | exact H' | (simp only [hji13, hji17, hji19]; exact H')), ⟨by have := HJ3.out; first | omega | exact Nat.le_refl _⟩, ⟨by repeat (first | (with_reducible first | exact HB.out | apply below_alloc | apply pw_below_drewN | apply below_drew1) | exact HB.out)⟩⟩
         ·rw [if_neg c18] at H
          exact absurd H (by simp)
        ·rw [if_neg c15] at H
         exact absurd H (by simp)
       ·rw [if_neg c14] at H
        exact absurd H (by simp)
      ·rw [if_neg c12] at H
       have c12b0 : decide (0 < (Go.bits .and .i64 (wrap64 (a1 * a2)) 7)) = false := decide_eq_false c12
       clear c12
       (first | rw [c12b0] | (simp only [i64_w, i32_w]; rw [c12b0]) | skip)
       have H' := Aside0.mk H
       clear H
       go_wp2
       go_meet
       case rel => exact ⟨_, (false), (by first | rfl | (simp; done) | (simp [*]; done)), H', ⟨by have := HJ3.out; first | omega | exact Nat.le_refl _⟩, ⟨by repeat (first | (with_reducible first | exact HB.out | apply below_alloc | apply pw_below_drewN | apply below_drew1) | exact HB.out)⟩⟩
     case rest =>
      clear HC11
      try clear c1
      try clear p1
      try clear q1
      try clear hx1
      try clear c2
      try clear p2
      try clear c5
      try clear c5b0
      try clear c6
      try clear c6b0
      try clear p6
      try clear c7
      try clear c7b0
      try clear c8
      try clear c10
      try clear c10b0
      try clear c10b1
      try clear c12
      try clear c12b0
      try clear c14
      try clear c14b0
      try clear c15
      try clear c15b0
      try clear p16
      try clear q16
      try clear hx16
      try clear c18
      try clear c18b0
      try clear c18b1
      try clear p16
      try clear p2
      try clear q16
      obtain ⟨kq, x46_10, rfl, HA, HJ10, HB⟩ := hcut
      cases kq with
      | zero => exact absurd HA.out (by simp [pack_Take.j1])
      | succ kj10 =>
       have H := HA.out
       clear HA
       simp only [pack_Take.j1] at H
       by_cases c20 : x46_10 = true
       ·subst c20
        have H1 : (some (([] : List Int), 20)) = some (r1, r2) := by rw [if_pos rfl] at H; exact H
        clear H
        have H := H1
        clear H1
        simp only [Option.some.injEq, Prod.mk.injEq] at H
        obtain ⟨rfl, rfl⟩ := H
        go_wp2
        go_ret2
        exact ⟨_, by first | rfl | (simp [errW_none, errW_some] <;> rfl) | (simp [*, errW_none, errW_some] <;> rfl), by first | exact Kd.R_nil _ _ _ _ _ | exact Kd.N_nil _ _ _ _ _ | exact Kd.V_nil _ _ _ _ _ | exact Kd.Q_nil _ _ _ _ _ | exact Kd.S_nil _ _ _ _ _, by repeat (first | (with_reducible first | exact HB.out | apply below_alloc | apply pw_below_drewN | apply below_drew1) | exact HB.out)⟩
       ·replace c20 := Bool.eq_false_iff.mpr c20
        subst c20
        have H1 : (if 0 ≤ a1 then (if (a1 : Int).toNat ≤ 35184372088832 then (pack_Take.l0 kj10 a0 a2 (List.replicate (a1 : Int).toNat 0) a1 0) else (none)) else (none)) = some (r1, r2) := by rw [if_neg (show ¬ (false = true) by decide)] at H; exact H
        clear H
        have H := H1
        clear H1
        by_cases c21 : 0 ≤ a1
        ·rw [if_pos c21] at H
         have c21b0 := eq_true c21
         have c21b1 : decide (0 ≤ a1) = true := decide_eq_true c21
         clear c21
         by_cases c22 : (a1 : Int).toNat ≤ 35184372088832
         ·rw [if_pos c22] at H
          have c22b0 := eq_true c22
          have c22b1 : decide ((a1 : Int).toNat ≤ 35184372088832) = true := decide_eq_true c22
          clear c22
          obtain ⟨y150, hy150⟩ : ∃ y_ : List Int, y_ = (List.replicate (a1 : Int).toNat 0) := ⟨_, rfl⟩
          replace H : (pack_Take.l0 kj10 a0 a2 y150 a1 0) = some (r1, r2) := by first | (rw [hy150]; with_reducible exact H) | (have H2_ := (Option.bind_some _ _).symm.trans H; rw [hy150]; with_reducible exact H2_) | (have H2_ := (Option.bind_some _ _).symm.trans H; with_reducible exact H2_) | with_reducible exact H | (rw [hy150]; exact H) | exact H
          have Ny150 := Aside0.mk hy150
          clear hy150
          have H' := Aside0.mk H
          clear H
          go_wp2_with (first | ((with_reducible refine gate_dst (N := 48) rfl ?_); (try (refine gate_guard (by rfl) ?_; dsimp only)); refine Kd.R_make (Kd.int .i64) _ 3 rfl (N := 48) rfl 22 _ _ rfl a1 rfl rfl Try.underlying22 (.int .i64 0) 8 info3 rfl (by decide) (by omega) 0 (ok := fun _ => True) (okp := fun _ => True) rfl (fun _ hk => hk) trivial (of_decide_eq_true (by assumption)) (Nat.le_trans (Nat.mul_le_mul_right _ (of_decide_eq_true (by assumption) : a1.toNat ≤ 35184372088832)) (by omega)) (Below.refl _ _) (Nat.le_refl _) ?_; intro v151 w23 ho24 hb hg_ hnew_; clear hg_ hnew_; (first | rw [← Ny150.out] at ho24 | (simp only [Int.reduceToNat] at ho24; rw [← Ny150.out] at ho24)); have n0_ := Aside0.mk (Kd.R_lower ho24 (below_size (by repeat (first | exact HB.out | apply below_alloc | apply pw_below_drewN | apply below_drew1)))); have n1_ := Aside0.mk (below_step (by repeat (first | exact HB.out | apply below_alloc | apply pw_below_drewN | apply below_drew1)) hb); clear HB; have HO152 := n0_; have HB := n1_; clear n0_ n1_; clear hb ho24))
          go_loopg [50] kj10 (fun kq v50 w' => ∃ (x9_3 : List Int) (x50_3 : Int), v50 = .int .i64 x50_3 ∧ Aside0 (pack_Take.l0 kq a0 a2 x9_3 a1 x50_3 = some (r1, r2)) ∧ Aside0 (kq ≤ kj10) ∧ Aside0 (Kd.R (Kd.int .i64) 3 w' w.heap.size (fun _ => True) v151 x9_3) ∧ Aside0 (Below w.heap.size w w'))
          case atStart => exact ⟨(y150), (0), (by first | rfl | (simp; done) | (simp [*]; done)), H', ⟨Nat.le_refl _⟩, ⟨by (with_reducible repeat (first | apply Kd.R_alloc | apply Kd.R_drewN | apply Kd.R_drew)); exact HO152.out⟩, ⟨by repeat (first | (with_reducible first | exact HB.out | apply below_alloc | apply pw_below_drewN | apply below_drew1) | exact HB.out)⟩⟩
          case round =>
           clear H'
           try clear c1
           try clear p1
           try clear q1
           try clear hx1
           try clear c2
           try clear p2
           try clear c5
           try clear c5b0
           try clear c6
           try clear c6b0
           try clear p6
           try clear c7
           try clear c7b0
           try clear c8
           try clear c10
           try clear c10b0
           try clear c10b1
           try clear c12
           try clear c12b0
           try clear c14
           try clear c14b0
           try clear c15
           try clear c15b0
           try clear p16
           try clear q16
           try clear hx16
           try clear c18
           try clear c18b0
           try clear c18b1
           try clear c20
           try clear c21
           try clear c21b0
           try clear c21b1
           try clear c22
           try clear c22b0
           try clear c22b1
           try clear p1
           try clear p16
           try clear p2
           try clear p6
           try clear q1
           try clear q16
           obtain ⟨x9_3, x50_3, rfl, HA, HK3, HO_9, HB⟩ := hrel
           cases gk with
           | zero => exact absurd HA.out (by simp [pack_Take.l0])
           | succ k3 =>
            have H := HA.out
            clear HA
            simp only [pack_Take.l0] at H
            by_cases c25 : x50_3 < a1
            ·rw [if_pos c25] at H
             have c25b0 : decide (x50_3 < a1) = true := decide_eq_true c25
             clear c25
             replace H := Option.bind_eq_some_iff.mp H
             obtain ⟨t153, A260, H⟩ := H
             replace H : (if 0 ≤ x50_3 then (if x50_3 < (x9_3.length : Int) then (pack_Take.l0 k3 a0 a2 (x9_3.set (x50_3 : Int).toNat t153) a1 (wrap64 (x50_3 + 1))) else (none)) else (none)) = some (r1, r2) := H
             have A26 := Aside0.mk A260
             clear A260
             by_cases c27 : 0 ≤ x50_3
             ·rw [if_pos c27] at H
              have c27b0 : decide (0 ≤ x50_3) = true := decide_eq_true c27
              clear c27
              by_cases c28 : x50_3 < (x9_3.length : Int)
              ·rw [if_pos c28] at H
               have c28b0 : decide (x50_3 < (x9_3.length : Int)) = true := decide_eq_true c28
               clear c28
               obtain ⟨y154, hy154⟩ : ∃ y_ : List Int, y_ = (x9_3.set (x50_3 : Int).toNat t153) := ⟨_, rfl⟩
               replace H : (pack_Take.l0 k3 a0 a2 y154 a1 (wrap64 (x50_3 + 1))) = some (r1, r2) := by first | (rw [hy154]; with_reducible exact H) | (have H2_ := (Option.bind_some _ _).symm.trans H; rw [hy154]; with_reducible exact H2_) | (have H2_ := (Option.bind_some _ _).symm.trans H; with_reducible exact H2_) | with_reducible exact H | (rw [hy154]; exact H) | exact H
               have Ny154 := Aside0.mk hy154
               clear hy154
               have H' := Aside0.mk H
               clear H
               go_wp2_with (first | ((with_reducible refine gate_callee (f := 41) rfl ?_); refine goesL_ (some 58) rfl rfl Try.func41 (by kernel_rfl) rfl #[.string a0, .int .i64 x50_3, .int .i64 a2] rfl (by (try simp only [List.map_toArray, List.map_cons, List.map_nil]); first | done | rfl) ?_; (with_reducible refine (pack_word.calls k3 a0 x50_3 a2 t153 _ A26.out).mono ?_); rintro e w30 ⟨rfl, hb⟩; refine ⟨_, rfl, ?_⟩; have n0_ := Aside0.mk (Kd.R_below (by (with_reducible repeat (first | apply Kd.R_alloc | apply Kd.R_drewN | apply Kd.R_drew)); exact HO_9.out) hb); have n1_ := Aside0.mk (below_step (by repeat (first | exact HB.out | apply below_alloc | apply pw_below_drewN | apply below_drew1)) hb); clear HO_9; clear HB; have HO_9 := n0_; have HB := n1_; clear n0_ n1_; (try clear hb); (try clear hb2); (try clear hk); (try clear hi); have p29 : 0 ≤ (x50_3 : Int) := of_decide_eq_true (by assumption); have q29 : (x50_3 : Int) < ((x9_3.length : Int) : Int) := of_decide_eq_true (by assumption); obtain ⟨go29, co29, eo29, gb29, gl29, cl29, HG29⟩ := Kd.R_form HO_9.out (by omega); (first | cases eo29 | (injection eo29 with ea_ en_ ec_; (first | subst ea_ | (injection ea_ with ea_; subst ea_)); subst ec_; clear en_)); have GB29 := Aside0.mk gb29; have GG29 := Aside0.mk HG29; clear gb29 gl29 HG29; obtain ⟨hx29_0, hf29_0⟩ := Kd.R_celln 0 HO_9.out (x50_3 : Int) p29 q29; replace p29 := eq_true p29; replace q29 := eq_true q29; obtain ⟨hy31_, hz31_⟩ := Kd.R_celln 0 HO_9.out (x50_3 : Int) (of_decide_eq_true (by assumption)) (of_decide_eq_true (by assumption)); have HP31 := Kd.R_putg HO_9.out (x50_3 : Int) t153) | ((with_reducible refine gate_store (t := 3) (p := 59) rfl ?_); refine store_event (t := 3) (p := 59) (v := ?vo_w32) (w1 := (w30.setCell ⟨go29, (x50_3 : Int).toNat, none⟩ (.int .i64 t153))) ?hg ?ho ?hn ?hr ?_; (case ho => rfl); (case hg => rfl); (case hn => rfl); (case hr => first | (go_simp; done) | (go_simp; rfl)); intro w32 hw; have hg : w30.grownBy w32 (some go29) := (by rw [hw]; exact HP31.2); have hp_ : Kd.R (Kd.int .i64) 3 w32 w.heap.size (fun _ => True) (.slice (some ⟨go29, 0, none⟩) x9_3.length co29) y154 := (by rw [hw, Ny154.out]; exact HP31.1); clear HP31; have n0_ := Aside0.mk (hp_); have n1_ := Aside0.mk ((by rw [hw]; exact below_set (HB.out) GB29.out : Below w.heap.size w w32)); clear HO_9; clear HB; have HO_9 := n0_; have HB := n1_; clear n0_ n1_; clear hg hw hp_))
               go_roundg k3
               case measure => have := HJ3.out; have := HJ10.out; have := HK3.out; omega
               case rel => exact ⟨(y154), (wrap64 (x50_3 + 1)), (by first | rfl | (simp; done) | (simp [*]; done)), H', ⟨by have := HJ3.out; have := HJ10.out; have := HK3.out; omega⟩, ⟨by (with_reducible repeat (first | apply Kd.R_alloc | apply Kd.R_drewN | apply Kd.R_drew)); exact HO_9.out⟩, ⟨by repeat (first | (with_reducible first | exact HB.out | apply below_alloc | apply pw_below_drewN | apply below_drew1) | exact HB.out)⟩⟩
              ·rw [if_neg c28] at H
               exact absurd H (by simp)
             ·rw [if_neg c27] at H
              exact absurd H (by simp)
            ·rw [if_neg c25] at H
             have c25b0 : decide (x50_3 < a1) = false := decide_eq_false c25
             clear c25
             simp only [Option.some.injEq, Prod.mk.injEq] at H
             obtain ⟨rfl, rfl⟩ := H
             go_wp2
             go_ret2
             exact ⟨_, by first | rfl | (simp [errW_none, errW_some] <;> rfl) | (simp [*, errW_none, errW_some] <;> rfl), by (with_reducible repeat (first | apply Kd.R_alloc | apply Kd.R_drewN | apply Kd.R_drew)); exact HO_9.out, by repeat (first | (with_reducible first | exact HB.out | apply below_alloc | apply pw_below_drewN | apply below_drew1) | exact HB.out)⟩
         ·rw [if_neg c22] at H
          exact absurd H (by simp)
        ·rw [if_neg c21] at H
         exact absurd H (by simp)
    ·rw [if_neg c10] at H
     have c10b0 : ((a0.size : Int) == t149) = false := beq_eq_false_iff_ne.mpr c10
     have c10b1 : ((a0.size : Int) != t149) = true := bne_iff_ne.mpr c10
     simp only [Option.some.injEq, Prod.mk.injEq] at H
     obtain ⟨rfl, rfl⟩ := H
     go_wp2_with (first | ((with_reducible refine gate_callee (f := 28) rfl ?_); refine goesL_ (some 29) rfl rfl Try.func28 (by kernel_rfl) rfl #[.int .i64 a1, .int .i64 a2] rfl (by (try simp only [List.map_toArray, List.map_cons, List.map_nil]); first | done | rfl) ?_; (with_reducible refine (pack_Bytes.calls a1 a2 t149 _ A9.out).mono ?_); rintro e w' ⟨rfl, ⟨nd, rfl⟩⟩; refine ⟨_, rfl, ?_⟩))
     go_ret2
     exact ⟨_, by first | rfl | (simp [errW_none, errW_some] <;> rfl) | (simp [*, errW_none, errW_some] <;> rfl), by first | exact Kd.R_nil _ _ _ _ _ | exact Kd.N_nil _ _ _ _ _ | exact Kd.V_nil _ _ _ _ _ | exact Kd.Q_nil _ _ _ _ _ | exact Kd.S_nil _ _ _ _ _, by repeat (first | (with_reducible first | exact HB.out | apply below_alloc | apply pw_below_drewN | apply below_drew1) | exact HB.out)⟩

/-! ### frame_moved: function 26 -/
def frame_moved.f (a0 : Int) (a1 : Int) : Option (Int) := some (wrap64 (IntKind.u64.wrap ((IntKind.u64.wrap (a0)) + (IntKind.u64.wrap (a1)))))
set_option maxHeartbeats 8000000 in
set_option maxRecDepth 100000 in
theorem frame_moved.calls (a0 : Int) (a1 : Int) (r : Int) (w : World) (h : frame_moved.f a0 a1 = some r) :
  Calls Try.prog 26 #[.int .i64 a0, .int .i64 a1] w fun e w' => e = .returned (.int .i64 r) ∧ Drawn0 w w' := by
 have H : (some (wrap64 (IntKind.u64.wrap ((IntKind.u64.wrap (a0)) + (IntKind.u64.wrap (a1)))))) = some r := h
 clear h
 obtain rfl := Option.some.inj H
 go_enter Try.func26, Try.ntmps26
 go_wp2
 go_ret
 exact ⟨by first | rfl | (unfold wrap64; rfl) | (simp; done) | (simp [*]; done), by repeat (first | exact Drawn0.refl _ | apply Drawn0.step)⟩

end Go.Proofs.Ytcencpedgcdanaa.Print
