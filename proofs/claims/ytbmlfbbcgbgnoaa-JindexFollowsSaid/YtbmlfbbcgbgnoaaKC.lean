-- Functions and laws: texts of the session's own and of the kit's print program, joined; what nothing names is left out.
import Derived.Test.YtbmlfbbcgbgnoaaKA
import Derived.Test.YtbmlfbbcgbgnoaaKB
import Derived.Test.YtbmlfbbcgbgnoaaKR
section
namespace Go.Proofs.Ytbmlfbbcgbgnoaa.Print
open Go.RowKit Go.Proofs.YtbmlfbbcgbgnoaaW.PrintWords Go.Proofs.YtbmlfbbcgbgnoaaW.PrintLast Go.Proofs.YtbmlfbbcgbgnoaaW.PrintMore
attribute [local go_sem] max2_int min2_int max_two min_two max_three min_three max_four min_four   -- for this text's walks alone
set_option linter.unusedVariables false
set_option linter.unusedSimpArgs false
/-! ### words_Of: function 82 -/
def words_Of.l0 : Nat → List Int → List (S79) → Int → Int → Option (List Int × Int)
 | 0, _, _, _, _ => none
 | k + 1, x4, x24, x25, x26 => if x26 < x25 then (if 0 ≤ x26 then (if x26 < (x24.length : Int) then ((words_fills.f k x4 ((rd_T79 x24 x26).f0) ((rd_T79 x24 x26).f1)).bind fun t237 => (words_Of.l0 k t237 x24 x25 (wrap64 (x26 + 1)))) else (none)) else (none)) else (some (x4, 0))
def words_Of.f (k : Nat) (l0 : List (S79)) : Option (List Int × Int) := (span_May.f k l0).bind fun t230 => (if t230 = true then (if (l0.length : Int) = 0 then (some (([] : List Int), 0)) else (if 0 ≤ (wrap64 ((l0.length : Int) - 1)) then (if (wrap64 ((l0.length : Int) - 1)) < (l0.length : Int) then (if 0 ≤ ((wrap64 ((wrap64 (((rd_T79 l0 (wrap64 ((l0.length : Int) - 1))).f1) + 64)) - 1)) / 64) then (if ((wrap64 ((wrap64 (((rd_T79 l0 (wrap64 ((l0.length : Int) - 1))).f1) + 64)) - 1)) / 64 : Int).toNat ≤ 35184372088832 then (words_Of.l0 k (List.replicate ((wrap64 ((wrap64 (((rd_T79 l0 (wrap64 ((l0.length : Int) - 1))).f1) + 64)) - 1)) / 64 : Int).toNat 0) l0 (l0.length : Int) 0) else (none)) else (none)) else (none)) else (none))) else (some (([] : List Int), 1)))
theorem words_Of.l0_succ (k : Nat) (x4 : List Int) (x24 : List (S79)) (x25 : Int) (x26 : Int) : words_Of.l0 (k + 1) x4 x24 x25 x26 = (if x26 < x25 then (if 0 ≤ x26 then (if x26 < (x24.length : Int) then ((words_fills.f k x4 ((rd_T79 x24 x26).f0) ((rd_T79 x24 x26).f1)).bind fun t237 => (words_Of.l0 k t237 x24 x25 (wrap64 (x26 + 1)))) else (none)) else (none)) else (some (x4, 0))) := by
 simp only [words_Of.l0]
set_option maxHeartbeats 8000000 in
set_option maxRecDepth 100000 in
theorem words_Of.calls (k : Nat) (A0 : Option Addr) (c0 : Nat) (l0 : List (S79)) (r1 : List Int) (r2 : Int) (w : World) (hr0 : Kd.C k79 w A0 l0.length l0) (hc0 : l0.length ≤ c0) (h : words_Of.f k l0 = some (r1, r2)) :
  Calls Try.prog 82 #[.slice A0 l0.length c0] w fun e w' => ∃ v0_ : Value, e = .returned (.tuple #[v0_, .int .i64 r2]) ∧ Kd.R (Kd.int .i64) 3 w' w.heap.size (fun _ => True) v0_ r1 ∧ Below w.heap.size w w' := by
 have hu79 := Try.underlying79
 have HR0 := Aside0.mk hr0
 have HC0 := Aside0.mk hc0
 clear hr0 hc0
 have HB := Aside0.mk (Below.refl w.heap.size w)
 have H : ((span_May.f k l0).bind fun t230 => (if t230 = true then (if (l0.length : Int) = 0 then (some (([] : List Int), 0)) else (if 0 ≤ (wrap64 ((l0.length : Int) - 1)) then (if (wrap64 ((l0.length : Int) - 1)) < (l0.length : Int) then (if 0 ≤ ((wrap64 ((wrap64 (((rd_T79 l0 (wrap64 ((l0.length : Int) - 1))).f1) + 64)) - 1)) / 64) then (if ((wrap64 ((wrap64 (((rd_T79 l0 (wrap64 ((l0.length : Int) - 1))).f1) + 64)) - 1)) / 64 : Int).toNat ≤ 35184372088832 then (words_Of.l0 k (List.replicate ((wrap64 ((wrap64 (((rd_T79 l0 (wrap64 ((l0.length : Int) - 1))).f1) + 64)) - 1)) / 64 : Int).toNat 0) l0 (l0.length : Int) 0) else (none)) else (none)) else (none)) else (none))) else (some (([] : List Int), 1)))) = some (r1, r2) := h
 clear h
 replace H := Option.bind_eq_some_iff.mp H
 obtain ⟨t230, A20, H⟩ := H
 replace H : (if t230 = true then (if (l0.length : Int) = 0 then (some (([] : List Int), 0)) else (if 0 ≤ (wrap64 ((l0.length : Int) - 1)) then (if (wrap64 ((l0.length : Int) - 1)) < (l0.length : Int) then (if 0 ≤ ((wrap64 ((wrap64 (((rd_T79 l0 (wrap64 ((l0.length : Int) - 1))).f1) + 64)) - 1)) / 64) then (if ((wrap64 ((wrap64 (((rd_T79 l0 (wrap64 ((l0.length : Int) - 1))).f1) + 64)) - 1)) / 64 : Int).toNat ≤ 35184372088832 then (words_Of.l0 k (List.replicate ((wrap64 ((wrap64 (((rd_T79 l0 (wrap64 ((l0.length : Int) - 1))).f1) + 64)) - 1)) / 64 : Int).toNat 0) l0 (l0.length : Int) 0) else (none)) else (none)) else (none)) else (none))) else (some (([] : List Int), 1))) = some (r1, r2) := H
 have A2 := Aside0.mk A20
 clear A20
 by_cases c3 : t230 = true
 ·subst c3
  have H1 : (if (l0.length : Int) = 0 then (some (([] : List Int), 0)) else (if 0 ≤ (wrap64 ((l0.length : Int) - 1)) then (if (wrap64 ((l0.length : Int) - 1)) < (l0.length : Int) then (if 0 ≤ ((wrap64 ((wrap64 (((rd_T79 l0 (wrap64 ((l0.length : Int) - 1))).f1) + 64)) - 1)) / 64) then (if ((wrap64 ((wrap64 (((rd_T79 l0 (wrap64 ((l0.length : Int) - 1))).f1) + 64)) - 1)) / 64 : Int).toNat ≤ 35184372088832 then (words_Of.l0 k (List.replicate ((wrap64 ((wrap64 (((rd_T79 l0 (wrap64 ((l0.length : Int) - 1))).f1) + 64)) - 1)) / 64 : Int).toNat 0) l0 (l0.length : Int) 0) else (none)) else (none)) else (none)) else (none))) = some (r1, r2) := by rw [if_pos rfl] at H; exact H
  clear H
  have H := H1
  clear H1
  by_cases c4 : (l0.length : Int) = 0
  ·rw [if_pos c4] at H
   have c4b0 : ((l0.length : Int) == 0) = true := beq_iff_eq.mpr c4
   have c4b1 : ((l0.length : Int) != 0) = false := bne_eq_false_iff_eq.mpr c4
   clear c4
   simp only [Option.some.injEq, Prod.mk.injEq] at H
   obtain ⟨rfl, rfl⟩ := H
   go_enter Try.func82, Try.ntmps82
   go_wp2_with (first | ((with_reducible refine gate_callee (f := 55) rfl ?_); refine goesL_ (some 8) rfl rfl Try.func55 (by kernel_rfl) rfl #[.slice A0 l0.length c0] rfl (by (try simp only [List.map_toArray, List.map_cons, List.map_nil]); first | done | rfl) ?_; (with_reducible refine (span_May.calls k _ _ l0 true _ ?side1 ?side2 A2.out).mono ?_); (case side1 => exact cx HR0.out); (case side2 => exact HC0.out); rintro e w5 ⟨rfl, hb⟩; refine ⟨_, rfl, ?_⟩; replace HB := bsa HB hb; (try clear hb)))
   go_ret2
   exact ⟨_, er, nl, bh HB.out⟩
  ·rw [if_neg c4] at H
   have c4b0 : ((l0.length : Int) == 0) = false := beq_eq_false_iff_ne.mpr c4
   have c4b1 : ((l0.length : Int) != 0) = true := bne_iff_ne.mpr c4
   have c4b2 : ¬ (l0 = []) := fun h_ => c4 (by rw [h_]; rfl)
   obtain ⟨ji6, hji6⟩ : ∃ j_ : Int, (wrap64 ((l0.length : Int) - 1)) = j_ := ⟨_, rfl⟩
   replace H : (if 0 ≤ (ji6) then (if (ji6) < (l0.length : Int) then (if 0 ≤ ((wrap64 ((wrap64 (((rd_T79 l0 (ji6)).f1) + 64)) - 1)) / 64) then (if ((wrap64 ((wrap64 (((rd_T79 l0 (ji6)).f1) + 64)) - 1)) / 64 : Int).toNat ≤ 35184372088832 then (words_Of.l0 k (List.replicate ((wrap64 ((wrap64 (((rd_T79 l0 (ji6)).f1) + 64)) - 1)) / 64 : Int).toNat 0) l0 (l0.length : Int) 0) else (none)) else (none)) else (none)) else (none)) = some (r1, r2) := by first | (rw [hji6] at H; exact H) | (simp only [hji6] at H ⊢; exact H)
   (try rw [hji6] at A2)
   have hji6w : (IntKind.i64.wrap ((l0.length : Int) - 1)) = ji6 := (i64_w _).trans hji6
   by_cases c7 : 0 ≤ (ji6)
   ·rw [if_pos c7] at H
    have c7b0 : decide (0 ≤ (ji6)) = true := decide_eq_true c7
    clear c7
    by_cases c8 : (ji6) < (l0.length : Int)
    ·rw [if_pos c8] at H
     have c8b0 : decide ((ji6) < (l0.length : Int)) = true := decide_eq_true c8
     clear c8
     obtain ⟨ji9, hji9⟩ : ∃ j_ : Int, ((wrap64 ((wrap64 (((rd_T79 l0 (ji6)).f1) + 64)) - 1)) / 64) = j_ := ⟨_, rfl⟩
     replace H : (if 0 ≤ (ji9) then (if (ji9 : Int).toNat ≤ 35184372088832 then (words_Of.l0 k (List.replicate (ji9 : Int).toNat 0) l0 (l0.length : Int) 0) else (none)) else (none)) = some (r1, r2) := by first | (rw [hji9] at H; exact H) | (simp only [hji9] at H ⊢; exact H)
     (try rw [hji9] at A2)
     by_cases c10 : 0 ≤ (ji9)
     ·rw [if_pos c10] at H
      have c10b0 := eq_true c10
      have c10b1 : decide (0 ≤ (ji9)) = true := decide_eq_true c10
      clear c10
      by_cases c11 : (ji9 : Int).toNat ≤ 35184372088832
      ·rw [if_pos c11] at H
       have c11b0 := eq_true c11
       have c11b1 : decide ((ji9 : Int).toNat ≤ 35184372088832) = true := decide_eq_true c11
       clear c11
       obtain ⟨y232, hy232⟩ : ∃ y_ : List Int, y_ = (List.replicate (ji9 : Int).toNat 0) := ⟨_, rfl⟩
       replace H : (words_Of.l0 k y232 l0 (l0.length : Int) 0) = some (r1, r2) := by first | (rw [hy232]; with_reducible exact H) | (have H2_ := (Option.bind_some _ _).symm.trans H; rw [hy232]; with_reducible exact H2_) | (have H2_ := (Option.bind_some _ _).symm.trans H; with_reducible exact H2_) | with_reducible exact H | (rw [hy232]; exact H) | exact H
       have Ny232 := Aside0.mk hy232
       clear hy232
       have H' := Aside0.mk H
       clear H
       go_enter Try.func82, Try.ntmps82
       go_wp2_with (first | ((with_reducible refine gate_callee (f := 55) rfl ?_); refine goesL_ (some 8) rfl rfl Try.func55 (by kernel_rfl) rfl #[.slice A0 l0.length c0] rfl (by (try simp only [List.map_toArray, List.map_cons, List.map_nil]); first | done | rfl) ?_; (with_reducible refine (span_May.calls k _ _ l0 true _ ?side1 ?side2 A2.out).mono ?_); (case side1 => exact cx HR0.out); (case side2 => exact HC0.out); rintro e w12 ⟨rfl, hb⟩; refine ⟨_, rfl, ?_⟩; replace HB := bsa HB hb; (try clear hb); (try clear hk); have p231 : 0 ≤ ((ji6) : Int) := of_decide_eq_true (by assumption); have q231 : (ji6) < (l0.length : Int) := of_decide_eq_true (by assumption); obtain ⟨ad231, e231, hx231_0, hx231_1⟩ := at_T79 HR0.out (ji6) p231 q231; cases e231; replace hx231_0 := (HB.out.cell (World.block_lt_of_cell? w _ hx231_0)).trans hx231_0; replace hx231_1 := (HB.out.cell (World.block_lt_of_cell? w _ hx231_1)).trans hx231_1; replace p231 := eq_true p231; replace q231 := eq_true q231) | ((with_reducible refine gate_dst (N := 23) rfl ?_); refine Kd.R_make (Kd.int .i64) _ 3 rfl (N := 23) rfl 22 _ _ rfl ji9 (by first | rfl | exact congrArg (Value.int .i64) hji9_ | (refine congrArg (Value.int .i64) ?_; have hq_ := hji9_; split at hq_ <;> split <;> omega)) (by first | rfl | exact congrArg (Value.int .i64) hji9_ | (refine congrArg (Value.int .i64) ?_; have hq_ := hji9_; split at hq_ <;> split <;> omega)) Try.underlying22 (.int .i64 0) 8 info3 rfl (by decide) (by omega) 0 (ok := fun _ => True) (okp := fun _ => True) rfl (fun _ hk => hk) trivial (of_decide_eq_true (by assumption)) (Nat.le_trans (Nat.mul_le_mul_right _ (of_decide_eq_true (by assumption) : ji9.toNat ≤ 35184372088832)) (by omega)) (Below.refl _ _) (Nat.le_refl _) ?_; intro v233 w13 ho14 hb hg_ hnew_; clear hg_ hnew_; (first | rw [← Ny232.out] at ho14 | (simp only [Int.reduceToNat] at ho14; rw [← Ny232.out] at ho14)); have HO234 := Aside0.mk (Kd.R_lower ho14 (below_size (bh HB.out))); replace HB := bsa HB hb; clear hb ho14))
       go_loopg [26] k (fun kq v26 w' => ∃ (x4_1 : List Int) (x26_1 : Int), v26 = .int .i64 x26_1 ∧ Aside0 (words_Of.l0 kq x4_1 l0 (l0.length : Int) x26_1 = some (r1, r2)) ∧ Aside0 (kq ≤ k) ∧ Aside0 (Kd.R (Kd.int .i64) 3 w' w.heap.size (fun _ => True) v233 x4_1) ∧ Aside0 (Below w.heap.size w w'))
       case atStart => exact ⟨(y232), (0), (by first | rfl | (simp; done) | (simp [*]; done)), H', ⟨Nat.le_refl _⟩, ⟨by (with_reducible repeat (first | apply Kd.R_alloc | apply Kd.R_drewN | apply Kd.R_drew)); exact HO234.out⟩, ⟨bh HB.out⟩⟩
       case round =>
        clear H'
        try clear c3
        try clear c4
        try clear c4b0
        try clear c4b1
        try clear c4b2
        try clear c7
        try clear c7b0
        try clear c8
        try clear c8b0
        try clear c10
        try clear c10b0
        try clear c10b1
        try clear c11
        try clear c11b0
        try clear c11b1
        try clear hx231_0
        try clear hx231_1
        try clear p231
        try clear q231
        obtain ⟨x4_1, x26_1, rfl, HA, HK1, HO_4, HB⟩ := hrel
        cases gk with
        | zero => exact absurd HA.out (by simp [words_Of.l0])
        | succ k1 =>
         have H := HA.out
         clear HA
         simp only [words_Of.l0] at H
         by_cases c15 : x26_1 < (l0.length : Int)
         ·rw [if_pos c15] at H
          have c15b0 : decide (x26_1 < (l0.length : Int)) = true := decide_eq_true c15
          clear c15
          by_cases c16 : 0 ≤ x26_1
          ·rw [if_pos c16] at H
           have c16b0 : decide (0 ≤ x26_1) = true := decide_eq_true c16
           clear c16
           by_cases c17 : x26_1 < (l0.length : Int)
           ·rw [if_pos c17] at H
            have c17b0 : decide (x26_1 < (l0.length : Int)) = true := decide_eq_true c17
            clear c17
            replace H := Option.bind_eq_some_iff.mp H
            obtain ⟨t237, A180, H⟩ := H
            replace H : (words_Of.l0 k1 t237 l0 (l0.length : Int) (wrap64 (x26_1 + 1))) = some (r1, r2) := H
            have A18 := Aside0.mk A180
            clear A180
            have H' := Aside0.mk H
            clear H
            have p235 : 0 ≤ (x26_1 : Int) := of_decide_eq_true (by assumption)
            have q235 : x26_1 < (l0.length : Int) := of_decide_eq_true (by assumption)
            obtain ⟨ad235, e235, hx235_0, hx235_1⟩ := at_T79 HR0.out x26_1 p235 q235
            obtain rfl : ad231 = ad235 := (by injection e235)
            replace hx235_0 := (HB.out.cell (World.block_lt_of_cell? w _ hx235_0)).trans hx235_0
            replace hx235_1 := (HB.out.cell (World.block_lt_of_cell? w _ hx235_1)).trans hx235_1
            replace p235 := eq_true p235
            replace q235 := eq_true q235
            go_wp2_with (first | ((with_reducible refine gate_dst (N := 6) rfl ?_); refine box_event ?hg (N := 6) ?hd (cs := #[.int .i64 0, .int .i64 0]) (t := 79) ?hr ?_; (case hd => rfl); (case hg => rfl); (case hr => first | (go_simp; done) | (go_simp; rfl)); intro gb236 hg w19 hbox hb; replace HO_4 := rba HO_4 hb; have BK236 := Aside0.mk (hbox); have GW236 := bza HB hg; have GE236 := bza HB hg; replace HB := bsa HB hb; clear hb hbox hg; have hcz20_0 : w19.cell? ⟨gb236, 0, none⟩ = some (.int .i64 0) := (blk_cell BK236.out 0).trans rfl; have hcz20_1 : w19.cell? ⟨gb236, 1, none⟩ = some (.int .i64 0) := (blk_cell BK236.out 1).trans rfl; have hfz20_0 := blk_frozen BK236.out 0; have hfz20_1 := blk_frozen BK236.out 1) | ((with_reducible refine gate_store (t := 79) (p := 6) rfl ?_); refine store_event (t := 79) (p := 6) (v := ?vo_w21) (w1 := ((w19.setCell ⟨gb236, 0, none⟩ (.int .i64 ((rd_T79 l0 x26_1).f0))).setCell ⟨gb236, 1, none⟩ (.int .i64 ((rd_T79 l0 x26_1).f1)))) ?hg ?ho ?hn ?hr ?_; (case ho => rfl); (case hg => rfl); (case hn => rfl); (case hr => first | (go_simp; done) | (go_simp; rfl)); intro w21 hw; have n0_ : Aside0 (Kd.R (Kd.int .i64) 3 w21 w.heap.size (fun _ => True) v233 x4_1) := ⟨(by rw [hw]; exact (by (with_reducible repeat (first | apply Kd.R_alloc | apply Kd.R_drewN | apply Kd.R_drew)); exact Kd.R_mono (Kd.R_far (p := ⟨gb236, 1, none⟩) (Kd.R_far (p := ⟨gb236, 0, none⟩) (Kd.R_types HO_4.out BK236.out (by decide)) (fun _ hk => hk.2) (.int .i64 ((rd_T79 l0 x26_1).f0))) (fun _ hk => hk.2) (.int .i64 ((rd_T79 l0 x26_1).f1))) (fun _ hk => trivial)))⟩; have n1_ : Aside0 (w21.heap[gb236]? = some (.cells #[.int .i64 ((rd_T79 l0 x26_1).f0), .int .i64 ((rd_T79 l0 x26_1).f1)] 79 (0, 0))) := ⟨(by rw [hw]; exact (by (with_reducible repeat (first | refine blk_drewN ?_ _ | refine blk_drew ?_ | refine blk_alloc ?_ _)); refine blk_put (cs := #[.int .i64 ((rd_T79 l0 x26_1).f0), .int .i64 0]) ?_ 1 _ rfl; (with_reducible repeat (first | refine blk_drewN ?_ _ | refine blk_drew ?_ | refine blk_alloc ?_ _)); refine blk_put (cs := #[.int .i64 0, .int .i64 0]) ?_ 0 _ rfl; (with_reducible repeat (first | refine blk_drewN ?_ _ | refine blk_drew ?_ | refine blk_alloc ?_ _)); exact BK236.out))⟩; have n2_ : Aside0 (Below w.heap.size w w21) := ⟨(by rw [hw]; exact (bh HB.out))⟩; clear hw HO_4 BK236 HB; have HO_4 := n0_; have BK236 := n1_; have HB := n2_; clear n0_ n1_ n2_; have hcz22_0 : w21.cell? ⟨gb236, 0, none⟩ = some (.int .i64 ((rd_T79 l0 x26_1).f0)) := (blk_cell BK236.out 0).trans rfl; have hcz22_1 : w21.cell? ⟨gb236, 1, none⟩ = some (.int .i64 ((rd_T79 l0 x26_1).f1)) := (blk_cell BK236.out 1).trans rfl; have hfz22_0 := blk_frozen BK236.out 0; have hfz22_1 := blk_frozen BK236.out 1; obtain ⟨Ao23, co23, eo23⟩ := Kd.R_slice HO_4.out; subst eo23) | ((with_reducible refine gate_callee (f := 116) rfl ?_); refine goesL_ (some 35) rfl rfl Try.func116 (by kernel_rfl) rfl #[.slice Ao23 x4_1.length co23, .int .i64 ((rd_T79 l0 x26_1).f0), .int .i64 ((rd_T79 l0 x26_1).f1)] rfl (by (try simp only [List.map_toArray, List.map_cons, List.map_nil]); first | done | rfl) ?_; (with_reducible refine (words_fills.calls k1 (fun k_ => some k_ = (.slice Ao23 x4_1.length co23 : Value).ownBlock) (.slice Ao23 x4_1.length co23) x4_1 ((rd_T79 l0 x26_1).f0) ((rd_T79 l0 x26_1).f1) t237 w _ ?side1 ?side2 A18.out).mono ?_); (case side1 => repeat (first | (with_reducible first | exact HB.out | apply below_alloc | apply pw_below_drewN | apply below_drew1 | refine below_set ?_ GE236.out) | exact HB.out)); (case side2 => exact Kd.R_tight rfl HO_4.out); rintro e w24 ⟨rfl, hy0, hb, hkp⟩; refine ⟨_, rfl, ?_⟩; replace BK236 := Aside0.mk (blk_kept (bx BK236.out) hkp (fun hs_ => (fun e_ => (Kd.R_ne HO_4.out BK236.out (by decide)) e_) hs_)); replace HO_4 := Aside0.mk (Kd.R_reok rfl hy0 (fun k_ e_ => HO_4.out.1 k_ e_)); replace HB := Aside0.mk (hb); (try clear hb); (try clear hkp); (try clear hy0)))
            go_roundg k1
            case measure => have := HK1.out; omega
            case rel => exact ⟨(t237), (wrap64 (x26_1 + 1)), (by first | rfl | (simp; done) | (simp [*]; done)), (by first | exact H' | (simp only [hji6, hji9]; exact H')), ⟨by have := HK1.out; omega⟩, ⟨by (with_reducible repeat (first | apply Kd.R_alloc | apply Kd.R_drewN | apply Kd.R_drew)); exact HO_4.out⟩, ⟨bh HB.out⟩⟩
           ·rw [if_neg c17] at H
            exact absurd H (by simp)
          ·rw [if_neg c16] at H
           exact absurd H (by simp)
         ·rw [if_neg c15] at H
          have c15b0 : decide (x26_1 < (l0.length : Int)) = false := decide_eq_false c15
          clear c15
          simp only [Option.some.injEq, Prod.mk.injEq] at H
          obtain ⟨rfl, rfl⟩ := H
          go_wp2
          go_ret2
          exact ⟨_, by first | rfl | (simp [errW_none, errW_some] <;> rfl) | (simp only [← hji6, ← hji9]; first | rfl | (simp [errW_none, errW_some] <;> rfl)) | (simp [*, errW_none, errW_some] <;> rfl), by (with_reducible repeat (first | apply Kd.R_alloc | apply Kd.R_drewN | apply Kd.R_drew)); exact HO_4.out, bh HB.out⟩
      ·rw [if_neg c11] at H
       exact absurd H (by simp)
     ·rw [if_neg c10] at H
      exact absurd H (by simp)
    ·rw [if_neg c8] at H
     exact absurd H (by simp)
   ·rw [if_neg c7] at H
    exact absurd H (by simp)
 ·replace c3 := Bool.eq_false_iff.mpr c3
  subst c3
  have H1 : (some (([] : List Int), 1)) = some (r1, r2) := by rw [if_neg (show ¬ (false = true) by decide)] at H; exact H
  clear H
  have H := H1
  clear H1
  simp only [Option.some.injEq, Prod.mk.injEq] at H
  obtain ⟨rfl, rfl⟩ := H
  go_enter Try.func82, Try.ntmps82
  go_wp2_with (first | ((with_reducible refine gate_callee (f := 55) rfl ?_); refine goesL_ (some 8) rfl rfl Try.func55 (by kernel_rfl) rfl #[.slice A0 l0.length c0] rfl (by (try simp only [List.map_toArray, List.map_cons, List.map_nil]); first | done | rfl) ?_; (with_reducible refine (span_May.calls k _ _ l0 false _ ?side1 ?side2 A2.out).mono ?_); (case side1 => exact cx HR0.out); (case side2 => exact HC0.out); rintro e w25 ⟨rfl, hb⟩; refine ⟨_, rfl, ?_⟩; replace HB := bsa HB hb; (try clear hb)))
  go_ret2
  exact ⟨_, er, nl, bh HB.out⟩
/-! ### span_Places: function 83 -/
mutual
def span_Places.l0 : Nat → List Int → List (S79) → Int → Int → Option (List Int × Int)
 | 0, _, _, _, _ => none
 | k + 1, x4, x14, x15, x16 => if x16 < x15 then (if 0 ≤ x16 then (if x16 < (x14.length : Int) then (span_Places.l1 k x4 ((rd_T79 x14 x16).f0) x14 x15 x16 ((rd_T79 x14 x16).f0) ((rd_T79 x14 x16).f1)) else (none)) else (none)) else (some (x4, 0))
def span_Places.l1 : Nat → List Int → Int → List (S79) → Int → Int → Int → Int → Option (List Int × Int)
 | 0, _, _, _, _, _, _, _ => none
 | k + 1, x4, x7, x14, x15, x16, x245000, x245001 => if x7 < x245001 then (if x4.length < 17592186044416 then (span_Places.l1 k (x4 ++ [x7]) (wrap64 (x7 + 1)) x14 x15 x16 x245000 x245001) else (none)) else (span_Places.l0 k x4 x14 x15 (wrap64 (x16 + 1)))
end
def span_Places.f (k : Nat) (l0 : List (S79)) : Option (List Int × Int) := (span_May.f k l0).bind fun t238 => (if t238 = true then ((span_Count.f k l0).bind fun t239 => (if 0 ≤ t239 then (if (t239 : Int).toNat ≤ 35184372088832 then (span_Places.l0 k (([] : List Int)) l0 (l0.length : Int) 0) else (none)) else (none))) else (some (([] : List Int), 1)))
theorem span_Places.l0_succ (k : Nat) (x4 : List Int) (x14 : List (S79)) (x15 : Int) (x16 : Int) : span_Places.l0 (k + 1) x4 x14 x15 x16 = (if x16 < x15 then (if 0 ≤ x16 then (if x16 < (x14.length : Int) then (span_Places.l1 k x4 ((rd_T79 x14 x16).f0) x14 x15 x16 ((rd_T79 x14 x16).f0) ((rd_T79 x14 x16).f1)) else (none)) else (none)) else (some (x4, 0))) := by
 simp only [span_Places.l0]
theorem span_Places.l1_succ (k : Nat) (x4 : List Int) (x7 : Int) (x14 : List (S79)) (x15 : Int) (x16 : Int) (x245000 : Int) (x245001 : Int) : span_Places.l1 (k + 1) x4 x7 x14 x15 x16 x245000 x245001 = (if x7 < x245001 then (if x4.length < 17592186044416 then (span_Places.l1 k (x4 ++ [x7]) (wrap64 (x7 + 1)) x14 x15 x16 x245000 x245001) else (none)) else (span_Places.l0 k x4 x14 x15 (wrap64 (x16 + 1)))) := by
 simp only [span_Places.l1]
set_option maxHeartbeats 8000000 in
set_option maxRecDepth 100000 in
theorem span_Places.calls (k : Nat) (A0 : Option Addr) (c0 : Nat) (l0 : List (S79)) (r1 : List Int) (r2 : Int) (w : World) (hr0 : Kd.C k79 w A0 l0.length l0) (hc0 : l0.length ≤ c0) (h : span_Places.f k l0 = some (r1, r2)) :
  Calls Try.prog 83 #[.slice A0 l0.length c0] w fun e w' => ∃ v0_ : Value, e = .returned (.tuple #[v0_, .int .i64 r2]) ∧ Kd.R (Kd.int .i64) 3 w' w.heap.size (fun _ => True) v0_ r1 ∧ Below w.heap.size w w' := by
 have hu79 := Try.underlying79
 have HR0 := Aside0.mk hr0
 have HC0 := Aside0.mk hc0
 clear hr0 hc0
 have HB := Aside0.mk (Below.refl w.heap.size w)
 have H : ((span_May.f k l0).bind fun t238 => (if t238 = true then ((span_Count.f k l0).bind fun t239 => (if 0 ≤ t239 then (if (t239 : Int).toNat ≤ 35184372088832 then (span_Places.l0 k (([] : List Int)) l0 (l0.length : Int) 0) else (none)) else (none))) else (some (([] : List Int), 1)))) = some (r1, r2) := h
 clear h
 replace H := Option.bind_eq_some_iff.mp H
 obtain ⟨t238, A20, H⟩ := H
 replace H : (if t238 = true then ((span_Count.f k l0).bind fun t239 => (if 0 ≤ t239 then (if (t239 : Int).toNat ≤ 35184372088832 then (span_Places.l0 k (([] : List Int)) l0 (l0.length : Int) 0) else (none)) else (none))) else (some (([] : List Int), 1))) = some (r1, r2) := H
 have A2 := Aside0.mk A20
 clear A20
 by_cases c3 : t238 = true
 ·subst c3
  have H1 : ((span_Count.f k l0).bind fun t239 => (if 0 ≤ t239 then (if (t239 : Int).toNat ≤ 35184372088832 then (span_Places.l0 k (([] : List Int)) l0 (l0.length : Int) 0) else (none)) else (none))) = some (r1, r2) := by rw [if_pos rfl] at H; exact H
  clear H
  have H := H1
  clear H1
  replace H := Option.bind_eq_some_iff.mp H
  obtain ⟨t239, A40, H⟩ := H
  replace H : (if 0 ≤ t239 then (if (t239 : Int).toNat ≤ 35184372088832 then (span_Places.l0 k (([] : List Int)) l0 (l0.length : Int) 0) else (none)) else (none)) = some (r1, r2) := H
  have A4 := Aside0.mk A40
  clear A40
  by_cases c5 : 0 ≤ t239
  ·rw [if_pos c5] at H
   have c5b0 := eq_true c5
   have c5b1 : decide (0 ≤ t239) = true := decide_eq_true c5
   clear c5
   by_cases c6 : (t239 : Int).toNat ≤ 35184372088832
   ·rw [if_pos c6] at H
    have c6b0 := eq_true c6
    have c6b1 : decide ((t239 : Int).toNat ≤ 35184372088832) = true := decide_eq_true c6
    clear c6
    obtain ⟨y240, hy240⟩ : ∃ y_ : List Int, y_ = (([] : List Int)) := ⟨_, rfl⟩
    replace H : (span_Places.l0 k y240 l0 (l0.length : Int) 0) = some (r1, r2) := by first | (rw [hy240]; with_reducible exact H) | (have H2_ := (Option.bind_some _ _).symm.trans H; rw [hy240]; with_reducible exact H2_) | (have H2_ := (Option.bind_some _ _).symm.trans H; with_reducible exact H2_) | with_reducible exact H | (rw [hy240]; exact H) | exact H
    have Ny240 := Aside0.mk hy240
    clear hy240
    have H' := Aside0.mk H
    clear H
    go_enter Try.func83, Try.ntmps83
    go_wp2_with (first | ((with_reducible refine gate_callee (f := 55) rfl ?_); refine goesL_ (some 9) rfl rfl Try.func55 (by kernel_rfl) rfl #[.slice A0 l0.length c0] rfl (by (try simp only [List.map_toArray, List.map_cons, List.map_nil]); first | done | rfl) ?_; (with_reducible refine (span_May.calls k _ _ l0 true _ ?side1 ?side2 A2.out).mono ?_); (case side1 => exact cx HR0.out); (case side2 => exact HC0.out); rintro e w7 ⟨rfl, hb⟩; refine ⟨_, rfl, ?_⟩; replace HB := bsa HB hb; (try clear hb); (try clear hk)) | ((with_reducible refine gate_callee (f := 66) rfl ?_); refine goesL_ (some 12) rfl rfl Try.func66 (by kernel_rfl) rfl #[.slice A0 l0.length c0] rfl (by (try simp only [List.map_toArray, List.map_cons, List.map_nil]); first | done | rfl) ?_; (with_reducible refine (span_Count.calls k _ _ l0 t239 _ ?side1 ?side2 A4.out).mono ?_); (case side1 => exact cx (Kd.C_below HR0.out HB.out)); (case side2 => exact HC0.out); rintro e w8 ⟨rfl, hb⟩; refine ⟨_, rfl, ?_⟩; replace HB := bsa HB hb; (try clear hb); (try clear hk)) | ((with_reducible refine gate_dst (N := 13) rfl ?_); refine Kd.R_make0 (Kd.int .i64) _ 3 rfl (N := 13) rfl 22 _ _ rfl t239 rfl rfl Try.underlying22 (.int .i64 0) 8 info3 rfl (by decide) (by omega) 0 (ok := fun _ => True) (okp := fun _ => True) rfl (fun _ hk => hk) trivial (of_decide_eq_true (by assumption)) (Nat.le_trans (Nat.mul_le_mul_right _ (of_decide_eq_true (by assumption) : t239.toNat ≤ 35184372088832)) (by omega)) (Below.refl _ _) (Nat.le_refl _) ?_; intro v241 w9 ho10 hb hg_ hnew_; clear hg_ hnew_; (first | rw [← Ny240.out] at ho10 | (simp only [Int.reduceToNat] at ho10; rw [← Ny240.out] at ho10)); have HO242 := Aside0.mk (Kd.R_lower ho10 (below_size (bh HB.out))); replace HB := bsa HB hb; clear hb ho10))
    go_loopg [4, 16] k (fun kq v4 v16 w' => ∃ (x4_1 : List Int) (x16_1 : Int), v16 = .int .i64 x16_1 ∧ Aside0 (span_Places.l0 kq x4_1 l0 (l0.length : Int) x16_1 = some (r1, r2)) ∧ Aside0 (kq ≤ k) ∧ Aside0 (Kd.R (Kd.int .i64) 3 w' w.heap.size (fun _ => True) v4 x4_1) ∧ Aside0 (Below w.heap.size w w'))
    case atStart => exact ⟨(y240), (0), (by first | rfl | (simp; done) | (simp [*]; done)), H', ⟨Nat.le_refl _⟩, ⟨by (with_reducible repeat (first | apply Kd.R_alloc | apply Kd.R_drewN | apply Kd.R_drew)); exact HO242.out⟩, ⟨bh HB.out⟩⟩
    case round =>
     clear H'
     try clear c3
     try clear c5
     try clear c5b0
     try clear c5b1
     try clear c6
     try clear c6b0
     try clear c6b1
     obtain ⟨x4_1, x16_1, rfl, HA, HK1, HO_4, HB⟩ := hrel
     cases gk with
     | zero => exact absurd HA.out (by simp [span_Places.l0])
     | succ k1 =>
      have H := HA.out
      clear HA
      simp only [span_Places.l0] at H
      by_cases c11 : x16_1 < (l0.length : Int)
      ·rw [if_pos c11] at H
       have c11b0 : decide (x16_1 < (l0.length : Int)) = true := decide_eq_true c11
       clear c11
       by_cases c12 : 0 ≤ x16_1
       ·rw [if_pos c12] at H
        have c12b0 : decide (0 ≤ x16_1) = true := decide_eq_true c12
        clear c12
        by_cases c13 : x16_1 < (l0.length : Int)
        ·rw [if_pos c13] at H
         have c13b0 : decide (x16_1 < (l0.length : Int)) = true := decide_eq_true c13
         clear c13
         have H' := Aside0.mk H
         clear H
         have p243 : 0 ≤ (x16_1 : Int) := of_decide_eq_true (by assumption)
         have q243 : x16_1 < (l0.length : Int) := of_decide_eq_true (by assumption)
         obtain ⟨ad243, e243, hx243_0, hx243_1⟩ := at_T79 HR0.out x16_1 p243 q243
         cases e243
         replace hx243_0 := (HB.out.cell (World.block_lt_of_cell? w _ hx243_0)).trans hx243_0
         replace hx243_1 := (HB.out.cell (World.block_lt_of_cell? w _ hx243_1)).trans hx243_1
         replace p243 := eq_true p243
         replace q243 := eq_true q243
         go_wp2_with (first | ((with_reducible refine gate_dst (N := 6) rfl ?_); refine box_event ?hg (N := 6) ?hd (cs := #[.int .i64 0, .int .i64 0]) (t := 79) ?hr ?_; (case hd => rfl); (case hg => rfl); (case hr => first | (go_simp; done) | (go_simp; rfl)); intro gb244 hg w14 hbox hb; replace HO_4 := rba HO_4 hb; have BK244 := Aside0.mk (hbox); have GW244 := bza HB hg; have GE244 := bza HB hg; replace HB := bsa HB hb; clear hb hbox hg; have hcz15_0 : w14.cell? ⟨gb244, 0, none⟩ = some (.int .i64 0) := (blk_cell BK244.out 0).trans rfl; have hcz15_1 : w14.cell? ⟨gb244, 1, none⟩ = some (.int .i64 0) := (blk_cell BK244.out 1).trans rfl; have hfz15_0 := blk_frozen BK244.out 0; have hfz15_1 := blk_frozen BK244.out 1))
         go_loopg [4, 7] k1 (fun kq v4 v7 w' => ∃ (x4_2 : List Int) (x7_2 : Int), v7 = .int .i64 x7_2 ∧ Aside0 (span_Places.l1 kq x4_2 x7_2 l0 (l0.length : Int) x16_1 ((rd_T79 l0 x16_1).f0) ((rd_T79 l0 x16_1).f1) = some (r1, r2)) ∧ Aside0 (kq ≤ k1) ∧ Aside0 (Kd.R (Kd.int .i64) 3 w' w.heap.size (fun _ => True) v4 x4_2) ∧ Aside0 (w'.heap[gb244]? = some (.cells #[.int .i64 ((rd_T79 l0 x16_1).f0), .int .i64 ((rd_T79 l0 x16_1).f1)] 79 (0, 0))) ∧ Aside0 (Below w.heap.size w w'))
         case atStart => exact ⟨(x4_1), ((rd_T79 l0 x16_1).f0), (by first | rfl | (simp; done) | (simp [*]; done)), H', ⟨Nat.le_refl _⟩, ⟨by (with_reducible repeat (first | apply Kd.R_alloc | apply Kd.R_drewN | apply Kd.R_drew)); exact Kd.R_mono (Kd.R_far (p := ⟨gb244, 1, none⟩) (Kd.R_far (p := ⟨gb244, 0, none⟩) (Kd.R_types HO_4.out BK244.out (by decide)) (fun _ hk => hk.2) (.int .i64 ((rd_T79 l0 x16_1).f0))) (fun _ hk => hk.2) (.int .i64 ((rd_T79 l0 x16_1).f1))) (fun _ hk => trivial)⟩, ⟨by (with_reducible repeat (first | refine blk_drewN ?_ _ | refine blk_drew ?_ | refine blk_alloc ?_ _)); refine blk_put (cs := #[.int .i64 ((rd_T79 l0 x16_1).f0), .int .i64 0]) ?_ 1 _ rfl; (with_reducible repeat (first | refine blk_drewN ?_ _ | refine blk_drew ?_ | refine blk_alloc ?_ _)); refine blk_put (cs := #[.int .i64 0, .int .i64 0]) ?_ 0 _ rfl; (with_reducible repeat (first | refine blk_drewN ?_ _ | refine blk_drew ?_ | refine blk_alloc ?_ _)); exact BK244.out⟩, ⟨bh HB.out⟩⟩
         case round =>
          clear H'
          try clear c3
          try clear c5
          try clear c5b0
          try clear c5b1
          try clear c6
          try clear c6b0
          try clear c6b1
          try clear c11
          try clear c11b0
          try clear c12
          try clear c12b0
          try clear c13
          try clear c13b0
          try clear hcz15_0
          try clear hcz15_1
          try clear hfz15_0
          try clear hfz15_1
          try clear hx243_0
          try clear hx243_1
          try clear p243
          try clear q243
          obtain ⟨x4_2, x7_2, rfl, HA, HK2, HO_4, BK244, HB⟩ := hrel
          cases gk with
          | zero => exact absurd HA.out (by simp [span_Places.l1])
          | succ k2 =>
           have H := HA.out
           clear HA
           simp only [span_Places.l1] at H
           by_cases c16 : x7_2 < ((rd_T79 l0 x16_1).f1)
           ·rw [if_pos c16] at H
            have c16b0 : decide (x7_2 < ((rd_T79 l0 x16_1).f1)) = true := decide_eq_true c16
            clear c16
            by_cases c17 : x4_2.length < 17592186044416
            ·rw [if_pos c17] at H
             have LMc17 := Aside0.mk c17
             clear c17
             obtain ⟨y245, hy245⟩ : ∃ y_ : List Int, y_ = (x4_2 ++ [x7_2]) := ⟨_, rfl⟩
             replace H : (span_Places.l1 k2 y245 (wrap64 (x7_2 + 1)) l0 (l0.length : Int) x16_1 ((rd_T79 l0 x16_1).f0) ((rd_T79 l0 x16_1).f1)) = some (r1, r2) := by first | (rw [hy245]; with_reducible exact H) | (have H2_ := (Option.bind_some _ _).symm.trans H; rw [hy245]; with_reducible exact H2_) | (have H2_ := (Option.bind_some _ _).symm.trans H; with_reducible exact H2_) | with_reducible exact H | (rw [hy245]; exact H) | exact H
             have Ny245 := Aside0.mk hy245
             clear hy245
             have H' := Aside0.mk H
             clear H
             have hcz18_0 : wr.cell? ⟨gb244, 0, none⟩ = some (.int .i64 ((rd_T79 l0 x16_1).f0)) := (blk_cell BK244.out 0).trans rfl
             have hcz18_1 : wr.cell? ⟨gb244, 1, none⟩ = some (.int .i64 ((rd_T79 l0 x16_1).f1)) := (blk_cell BK244.out 1).trans rfl
             have hfz18_0 := blk_frozen BK244.out 0
             have hfz18_1 := blk_frozen BK244.out 1
             go_wp2_with (first | ((with_reducible refine gate_builtin (b := .append) (xs := #[.tmp 28, .tmp 30]) rfl ?_); at_builtin; refine Kd.R_append (Kd.int .i64) (w0 := w) w.heap.size rfl (.tmp 28) (.tmp 30) 22 3 (.int .i64 0) 8 rfl Try.underlying22 info3 rfl (by decide) (by omega) u4 x4_2 x7_2 [.int .i64 x7_2] (fun _ => True) (fun _ => False) rfl rfl ?aP (fun _ hk => hk.elim) ?aF ?aO ?aB ?aS ?aL ?_; (case aP => exact rfl); (case aB => exact (bh HB.out)); (case aF => exact (fun _ _ => trivial)); (case aO => exact (rx HO_4.out)); (case aS => exact (below_size (bh HB.out))); (case aL => have := LMc17.out; omega); intro v246 w19 ho hb hg hat; rw [← Ny245.out] at ho; have n0_ := Aside0.mk (blk_grown (g := gb244) (o := .cells #[.int .i64 ((rd_T79 l0 x16_1).f0), .int .i64 ((rd_T79 l0 x16_1).f1)] 79 (0, 0)) (bx BK244.out) hg (Kd.R_ne HO_4.out BK244.out (by decide))); have n1_ := Aside0.mk (hb); have n2_ := Aside0.mk (ho); clear BK244 HB HO_4; have BK244 := n0_; have HB := n1_; have HO247 := n2_; clear n0_ n1_ n2_; clear ho hb hg hat))
             go_roundg k2
             case measure => have := HK1.out; have := HK2.out; omega
             case rel => exact ⟨(y245), (wrap64 (x7_2 + 1)), (by first | rfl | (simp; done) | (simp [*]; done)), H', ⟨by have := HK1.out; have := HK2.out; omega⟩, ⟨by (with_reducible repeat (first | apply Kd.R_alloc | apply Kd.R_drewN | apply Kd.R_drew)); exact HO247.out⟩, ⟨bx BK244.out⟩, ⟨bh HB.out⟩⟩
            ·rw [if_neg c17] at H
             exact absurd H (by simp)
           ·rw [if_neg c16] at H
            have c16b0 : decide (x7_2 < ((rd_T79 l0 x16_1).f1)) = false := decide_eq_false c16
            clear c16
            have H' := Aside0.mk H
            clear H
            have hcz20_0 : wr.cell? ⟨gb244, 0, none⟩ = some (.int .i64 ((rd_T79 l0 x16_1).f0)) := (blk_cell BK244.out 0).trans rfl
            have hcz20_1 : wr.cell? ⟨gb244, 1, none⟩ = some (.int .i64 ((rd_T79 l0 x16_1).f1)) := (blk_cell BK244.out 1).trans rfl
            have hfz20_0 := blk_frozen BK244.out 0
            have hfz20_1 := blk_frozen BK244.out 1
            go_wp2
            go_roundg k2
            case measure => have := HK1.out; have := HK2.out; omega
            case rel => exact ⟨(x4_2), (wrap64 (x16_1 + 1)), (by first | rfl | (simp; done) | (simp [*]; done)), H', ⟨by have := HK1.out; have := HK2.out; omega⟩, ⟨by (with_reducible repeat (first | apply Kd.R_alloc | apply Kd.R_drewN | apply Kd.R_drew)); exact HO_4.out⟩, ⟨bh HB.out⟩⟩
        ·rw [if_neg c13] at H
         exact absurd H (by simp)
       ·rw [if_neg c12] at H
        exact absurd H (by simp)
      ·rw [if_neg c11] at H
       have c11b0 : decide (x16_1 < (l0.length : Int)) = false := decide_eq_false c11
       clear c11
       simp only [Option.some.injEq, Prod.mk.injEq] at H
       obtain ⟨rfl, rfl⟩ := H
       go_wp2
       go_ret2
       exact ⟨_, er, by (with_reducible repeat (first | apply Kd.R_alloc | apply Kd.R_drewN | apply Kd.R_drew)); exact HO_4.out, bh HB.out⟩
   ·rw [if_neg c6] at H
    exact absurd H (by simp)
  ·rw [if_neg c5] at H
   exact absurd H (by simp)
 ·replace c3 := Bool.eq_false_iff.mpr c3
  subst c3
  have H1 : (some (([] : List Int), 1)) = some (r1, r2) := by rw [if_neg (show ¬ (false = true) by decide)] at H; exact H
  clear H
  have H := H1
  clear H1
  simp only [Option.some.injEq, Prod.mk.injEq] at H
  obtain ⟨rfl, rfl⟩ := H
  go_enter Try.func83, Try.ntmps83
  go_wp2_with (first | ((with_reducible refine gate_callee (f := 55) rfl ?_); refine goesL_ (some 9) rfl rfl Try.func55 (by kernel_rfl) rfl #[.slice A0 l0.length c0] rfl (by (try simp only [List.map_toArray, List.map_cons, List.map_nil]); first | done | rfl) ?_; (with_reducible refine (span_May.calls k _ _ l0 false _ ?side1 ?side2 A2.out).mono ?_); (case side1 => exact cx HR0.out); (case side2 => exact HC0.out); rintro e w21 ⟨rfl, hb⟩; refine ⟨_, rfl, ?_⟩; replace HB := bsa HB hb; (try clear hb)))
  go_ret2
  exact ⟨_, er, nl, bh HB.out⟩
/-! ### poslist_Of: function 57 -/
def poslist_Of.f (k : Nat) (l0 : List (S79)) (a1 : Int) : Option (Int × (List (S79)) × List Int × List Int × Int) := (span_May.f k l0).bind fun t249 => (if t249 = true then (if a1 = 1 then ((api_Span.f l0).bind fun t251 => (some (a1, t251, ([] : List Int), ([] : List Int), 0))) else (if a1 = 2 then ((words_Of.f k l0).bind fun bt254 => (some (a1, ([] : List (S79)), bt254.1, ([] : List Int), 0))) else (if a1 = 3 then ((span_Places.f k l0).bind fun bt258 => (some (a1, ([] : List (S79)), ([] : List Int), bt258.1, 0))) else (some (0, ([] : List (S79)), ([] : List Int), ([] : List Int), 1))))) else (some (0, ([] : List (S79)), ([] : List Int), ([] : List Int), 1)))
set_option maxHeartbeats 8000000 in
set_option maxRecDepth 100000 in
theorem poslist_Of.calls (k : Nat) (A0 : Option Addr) (c0 : Nat) (l0 : List (S79)) (a1 : Int) (r1 : Int) (r2 : List (S79)) (r3 : List Int) (r4 : List Int) (r5 : Int) (w : World) (hr0 : Kd.C k79 w A0 l0.length l0) (hc0 : l0.length ≤ c0) (h : poslist_Of.f k l0 a1 = some (r1, r2, r3, r4, r5)) :
  Calls Try.prog 57 #[.slice A0 l0.length c0, .int .i64 a1] w fun e w' => ∃ v1_ v2_ v3_ : Value, e = .returned (.tuple #[.agg #[.int .i64 r1, v1_, v2_, v3_], .int .i64 r5]) ∧ Kd.R k79 79 w' w.heap.size (fun _ => True) v1_ r2 ∧ Kd.R (Kd.int .i64) 3 w' w.heap.size (fun k_ => some k_ ≠ (v3_ : Value).ownBlock) v2_ r3 ∧ Kd.R (Kd.int .i64) 3 w' w.heap.size (fun k_ => some k_ ≠ (v2_ : Value).ownBlock) v3_ r4 ∧ Below w.heap.size w w' := by
 have hu52 := Try.underlying52
 have HR0 := Aside0.mk hr0
 have HC0 := Aside0.mk hc0
 clear hr0 hc0
 have HB := Aside0.mk (Below.refl w.heap.size w)
 have H : ((span_May.f k l0).bind fun t249 => (if t249 = true then (if a1 = 1 then ((api_Span.f l0).bind fun t251 => (some (a1, t251, ([] : List Int), ([] : List Int), 0))) else (if a1 = 2 then ((words_Of.f k l0).bind fun bt254 => (some (a1, ([] : List (S79)), bt254.1, ([] : List Int), 0))) else (if a1 = 3 then ((span_Places.f k l0).bind fun bt258 => (some (a1, ([] : List (S79)), ([] : List Int), bt258.1, 0))) else (some (0, ([] : List (S79)), ([] : List Int), ([] : List Int), 1))))) else (some (0, ([] : List (S79)), ([] : List Int), ([] : List Int), 1)))) = some (r1, r2, r3, r4, r5) := h
 clear h
 replace H := Option.bind_eq_some_iff.mp H
 obtain ⟨t249, A30, H⟩ := H
 replace H : (if t249 = true then (if a1 = 1 then ((api_Span.f l0).bind fun t251 => (some (a1, t251, ([] : List Int), ([] : List Int), 0))) else (if a1 = 2 then ((words_Of.f k l0).bind fun bt254 => (some (a1, ([] : List (S79)), bt254.1, ([] : List Int), 0))) else (if a1 = 3 then ((span_Places.f k l0).bind fun bt258 => (some (a1, ([] : List (S79)), ([] : List Int), bt258.1, 0))) else (some (0, ([] : List (S79)), ([] : List Int), ([] : List Int), 1))))) else (some (0, ([] : List (S79)), ([] : List Int), ([] : List Int), 1))) = some (r1, r2, r3, r4, r5) := H
 have A3 := Aside0.mk A30
 clear A30
 by_cases c4 : t249 = true
 ·subst c4
  have H1 : (if a1 = 1 then ((api_Span.f l0).bind fun t251 => (some (a1, t251, ([] : List Int), ([] : List Int), 0))) else (if a1 = 2 then ((words_Of.f k l0).bind fun bt254 => (some (a1, ([] : List (S79)), bt254.1, ([] : List Int), 0))) else (if a1 = 3 then ((span_Places.f k l0).bind fun bt258 => (some (a1, ([] : List (S79)), ([] : List Int), bt258.1, 0))) else (some (0, ([] : List (S79)), ([] : List Int), ([] : List Int), 1))))) = some (r1, r2, r3, r4, r5) := by rw [if_pos rfl] at H; exact H
  clear H
  have H := H1
  clear H1
  by_cases c5 : a1 = 1
  ·rw [if_pos c5] at H
   have c5b0 : (a1 == 1) = true := beq_iff_eq.mpr c5
   have c5b1 : (a1 != 1) = false := bne_eq_false_iff_eq.mpr c5
   clear c5
   replace H := Option.bind_eq_some_iff.mp H
   obtain ⟨t251, A60, H⟩ := H
   replace H : (some (a1, t251, ([] : List Int), ([] : List Int), 0)) = some (r1, r2, r3, r4, r5) := H
   have A6 := Aside0.mk A60
   clear A60
   simp only [Option.some.injEq, Prod.mk.injEq] at H
   obtain ⟨rfl, rfl, rfl, rfl, rfl⟩ := H
   go_enter Try.func57, Try.ntmps57
   go_wp2_with (first | ((with_reducible refine gate_dst (N := 4) rfl ?_); refine box_event ?hg (N := 4) ?hd (cs := #[.int .i64 0, .slice none 0 0, .slice none 0 0, .slice none 0 0]) (t := 52) ?hr ?_; (case hd => rfl); (case hg => rfl); (case hr => first | (go_simp; done) | (go_simp; rfl)); intro gb248 hg w7 hbox hb; have BK248 := Aside0.mk (hbox); have GW248 := bza HB hg; have GE248 := bza HB hg; replace HB := bsa HB hb; clear hb hbox hg) | ((with_reducible refine gate_callee (f := 55) rfl ?_); refine goesL_ (some 8) rfl rfl Try.func55 (by kernel_rfl) rfl #[.slice A0 l0.length c0] rfl (by (try simp only [List.map_toArray, List.map_cons, List.map_nil]); first | done | rfl) ?_; (with_reducible refine (span_May.calls k _ _ l0 true _ ?side1 ?side2 A3.out).mono ?_); (case side1 => exact cx (Kd.C_below HR0.out HB.out)); (case side2 => exact HC0.out); rintro e w8 ⟨rfl, hb⟩; refine ⟨_, rfl, ?_⟩; replace BK248 := bba BK248 hb; replace HB := bsa HB hb; (try clear hb); (try clear hk)) | ((with_reducible refine gate_dst (N := 6) rfl ?_); refine box_event ?hg (N := 6) ?hd (cs := #[.int .i64 0, .slice none 0 0, .slice none 0 0, .slice none 0 0]) (t := 52) ?hr ?_; (case hd => rfl); (case hg => rfl); (case hr => first | (go_simp; done) | (go_simp; rfl)); intro gb250 hg w9 hbox hb; have BK250 := Aside0.mk (hbox); have GW250 := bza HB hg; have GE250 := bza HB hg; replace HB := bsa HB hb; have NB248_250 := bna BK248 hg; have NB250_248 := bma BK248 hg; replace BK248 := bba BK248 hb; clear hb hbox hg; have hnb10 := NB250_248.out; have hnc10 := NB248_250.out; have hcz11_0 : w9.cell? ⟨gb250, 0, none⟩ = some (.int .i64 0) := (blk_cell BK250.out 0).trans rfl; have hcz11_1 : w9.cell? ⟨gb250, 1, none⟩ = some (.slice none 0 0) := (blk_cell BK250.out 1).trans rfl; have hcz11_2 : w9.cell? ⟨gb250, 2, none⟩ = some (.slice none 0 0) := (blk_cell BK250.out 2).trans rfl; have hcz11_3 : w9.cell? ⟨gb250, 3, none⟩ = some (.slice none 0 0) := (blk_cell BK250.out 3).trans rfl; have hfz11_0 := blk_frozen BK250.out 0; have hfz11_1 := blk_frozen BK250.out 1; have hfz11_2 := blk_frozen BK250.out 2; have hfz11_3 := blk_frozen BK250.out 3) | ((with_reducible refine gate_store (t := 52) (p := 6) rfl ?_); refine store_event (t := 52) (p := 6) (v := ?vo_w12) (w1 := ((((w9.setCell ⟨gb250, 0, none⟩ (.int .i64 a1)).setCell ⟨gb250, 1, none⟩ (.slice none 0 0)).setCell ⟨gb250, 2, none⟩ (.slice none 0 0)).setCell ⟨gb250, 3, none⟩ (.slice none 0 0))) ?hg ?ho ?hn ?hr ?_; (case ho => rfl); (case hg => rfl); (case hn => rfl); (case hr => first | (go_simp; done) | (go_simp; rfl)); intro w12 hw; have n0_ : Aside0 (w12.heap[gb248]? = some (.cells #[.int .i64 0, .slice none 0 0, .slice none 0 0, .slice none 0 0] 52 (0, 0))) := ⟨(by rw [hw]; exact (bx BK248.out))⟩; have n1_ : Aside0 (w12.heap[gb250]? = some (.cells #[.int .i64 a1, .slice none 0 0, .slice none 0 0, .slice none 0 0] 52 (0, 0))) := ⟨(by rw [hw]; exact (by (with_reducible repeat (first | refine blk_drewN ?_ _ | refine blk_drew ?_ | refine blk_alloc ?_ _)); refine blk_put (cs := #[.int .i64 a1, .slice none 0 0, .slice none 0 0, .slice none 0 0]) ?_ 3 _ rfl; (with_reducible repeat (first | refine blk_drewN ?_ _ | refine blk_drew ?_ | refine blk_alloc ?_ _)); refine blk_put (cs := #[.int .i64 a1, .slice none 0 0, .slice none 0 0, .slice none 0 0]) ?_ 2 _ rfl; (with_reducible repeat (first | refine blk_drewN ?_ _ | refine blk_drew ?_ | refine blk_alloc ?_ _)); refine blk_put (cs := #[.int .i64 a1, .slice none 0 0, .slice none 0 0, .slice none 0 0]) ?_ 1 _ rfl; (with_reducible repeat (first | refine blk_drewN ?_ _ | refine blk_drew ?_ | refine blk_alloc ?_ _)); refine blk_put (cs := #[.int .i64 0, .slice none 0 0, .slice none 0 0, .slice none 0 0]) ?_ 0 _ rfl; (with_reducible repeat (first | refine blk_drewN ?_ _ | refine blk_drew ?_ | refine blk_alloc ?_ _)); exact BK250.out))⟩; have n2_ : Aside0 (Below w.heap.size w w12) := ⟨(by rw [hw]; exact (bh HB.out))⟩; clear hw BK248 BK250 HB; have BK248 := n0_; have BK250 := n1_; have HB := n2_; clear n0_ n1_ n2_) | ((with_reducible refine gate_callee (f := 64) rfl ?_); refine goesL_ (some 18) rfl rfl Try.func64 (by kernel_rfl) rfl #[.slice A0 l0.length c0] rfl (by (try simp only [List.map_toArray, List.map_cons, List.map_nil]); first | done | rfl) ?_; (with_reducible refine (api_Span.calls _ _ l0 t251 _ ?side1 ?side2 A6.out).mono ?_); (case side1 => exact cx (Kd.C_below HR0.out HB.out)); (case side2 => exact HC0.out); rintro e w13 ⟨v252, rfl, ho0, hb⟩; refine ⟨_, rfl, ?_⟩; have HO253 := Aside0.mk (Kd.R_lower ho0 (below_size (bh HB.out))); replace BK248 := bba BK248 hb; replace BK250 := bba BK250 hb; replace HB := bsa HB hb; (try clear hb); (try clear hk); (try clear ho0); obtain ⟨Ao14, co14, eo14⟩ := Kd.R_slice HO253.out; subst eo14; have hcz15_0 : w13.cell? ⟨gb250, 0, none⟩ = some (.int .i64 a1) := (blk_cell BK250.out 0).trans rfl; have hcz15_1 : w13.cell? ⟨gb250, 1, none⟩ = some (.slice none 0 0) := (blk_cell BK250.out 1).trans rfl; have hcz15_2 : w13.cell? ⟨gb250, 2, none⟩ = some (.slice none 0 0) := (blk_cell BK250.out 2).trans rfl; have hcz15_3 : w13.cell? ⟨gb250, 3, none⟩ = some (.slice none 0 0) := (blk_cell BK250.out 3).trans rfl; have hfz15_0 := blk_frozen BK250.out 0; have hfz15_1 := blk_frozen BK250.out 1; have hfz15_2 := blk_frozen BK250.out 2; have hfz15_3 := blk_frozen BK250.out 3; have hcz16_0 : w13.cell? ⟨gb248, 0, none⟩ = some (.int .i64 0) := (blk_cell BK248.out 0).trans rfl; have hcz16_1 : w13.cell? ⟨gb248, 1, none⟩ = some (.slice none 0 0) := (blk_cell BK248.out 1).trans rfl; have hcz16_2 : w13.cell? ⟨gb248, 2, none⟩ = some (.slice none 0 0) := (blk_cell BK248.out 2).trans rfl; have hcz16_3 : w13.cell? ⟨gb248, 3, none⟩ = some (.slice none 0 0) := (blk_cell BK248.out 3).trans rfl; have hfz16_0 := blk_frozen BK248.out 0; have hfz16_1 := blk_frozen BK248.out 1; have hfz16_2 := blk_frozen BK248.out 2; have hfz16_3 := blk_frozen BK248.out 3) | ((with_reducible refine gate_store (t := 52) (p := 4) rfl ?_); refine store_event (t := 52) (p := 4) (v := ?vo_w17) (w1 := (((((w13.setCell ⟨gb250, 1, none⟩ (.slice Ao14 t251.length co14)).setCell ⟨gb248, 0, none⟩ (.int .i64 a1)).setCell ⟨gb248, 1, none⟩ (.slice Ao14 t251.length co14)).setCell ⟨gb248, 2, none⟩ (.slice none 0 0)).setCell ⟨gb248, 3, none⟩ (.slice none 0 0))) ?hg ?ho ?hn ?hr ?_; (case ho => rfl); (case hg => rfl); (case hn => rfl); (case hr => first | (go_simp; done) | (go_simp; rfl)); intro w17 hw; have n0_ : Aside0 (Kd.R k79 79 w17 w.heap.size (fun _ => True) (.slice Ao14 t251.length co14) t251) := ⟨(by rw [hw]; exact (by (with_reducible repeat (first | apply Kd.R_alloc | apply Kd.R_drewN | apply Kd.R_drew)); exact Kd.R_mono (Kd.R_far (p := ⟨gb248, 3, none⟩) (Kd.R_far (p := ⟨gb248, 2, none⟩) (Kd.R_far (p := ⟨gb248, 1, none⟩) (Kd.R_far (p := ⟨gb248, 0, none⟩) (Kd.R_far (p := ⟨gb250, 1, none⟩) (Kd.R_types (Kd.R_types HO253.out BK250.out (by decide)) BK248.out (by decide)) (fun _ hk => hk.1.2) (.slice Ao14 t251.length co14)) (fun _ hk => hk.2) (.int .i64 a1)) (fun _ hk => hk.2) (.slice Ao14 t251.length co14)) (fun _ hk => hk.2) (.slice none 0 0)) (fun _ hk => hk.2) (.slice none 0 0)) (fun _ hk => trivial)))⟩; have n1_ : Aside0 (w17.heap[gb248]? = some (.cells #[.int .i64 a1, .slice Ao14 t251.length co14, .slice none 0 0, .slice none 0 0] 52 (0, 0))) := ⟨(by rw [hw]; exact (by (with_reducible repeat (first | refine blk_drewN ?_ _ | refine blk_drew ?_ | refine blk_alloc ?_ _)); refine blk_put (cs := #[.int .i64 a1, .slice Ao14 t251.length co14, .slice none 0 0, .slice none 0 0]) ?_ 3 _ rfl; (with_reducible repeat (first | refine blk_drewN ?_ _ | refine blk_drew ?_ | refine blk_alloc ?_ _)); refine blk_put (cs := #[.int .i64 a1, .slice Ao14 t251.length co14, .slice none 0 0, .slice none 0 0]) ?_ 2 _ rfl; (with_reducible repeat (first | refine blk_drewN ?_ _ | refine blk_drew ?_ | refine blk_alloc ?_ _)); refine blk_put (cs := #[.int .i64 a1, .slice none 0 0, .slice none 0 0, .slice none 0 0]) ?_ 1 _ rfl; (with_reducible repeat (first | refine blk_drewN ?_ _ | refine blk_drew ?_ | refine blk_alloc ?_ _)); refine blk_put (cs := #[.int .i64 0, .slice none 0 0, .slice none 0 0, .slice none 0 0]) ?_ 0 _ rfl; (with_reducible repeat (first | refine blk_drewN ?_ _ | refine blk_drew ?_ | refine blk_alloc ?_ _)); refine blk_far ?_ NB248_250.out _; (with_reducible repeat (first | refine blk_drewN ?_ _ | refine blk_drew ?_ | refine blk_alloc ?_ _)); exact BK248.out))⟩; have n2_ : Aside0 (w17.heap[gb250]? = some (.cells #[.int .i64 a1, .slice Ao14 t251.length co14, .slice none 0 0, .slice none 0 0] 52 (0, 0))) := ⟨(by rw [hw]; exact (by (with_reducible repeat (first | refine blk_drewN ?_ _ | refine blk_drew ?_ | refine blk_alloc ?_ _)); refine blk_far ?_ NB250_248.out _; (with_reducible repeat (first | refine blk_drewN ?_ _ | refine blk_drew ?_ | refine blk_alloc ?_ _)); refine blk_far ?_ NB250_248.out _; (with_reducible repeat (first | refine blk_drewN ?_ _ | refine blk_drew ?_ | refine blk_alloc ?_ _)); refine blk_far ?_ NB250_248.out _; (with_reducible repeat (first | refine blk_drewN ?_ _ | refine blk_drew ?_ | refine blk_alloc ?_ _)); refine blk_far ?_ NB250_248.out _; (with_reducible repeat (first | refine blk_drewN ?_ _ | refine blk_drew ?_ | refine blk_alloc ?_ _)); refine blk_put (cs := #[.int .i64 a1, .slice none 0 0, .slice none 0 0, .slice none 0 0]) ?_ 1 _ rfl; (with_reducible repeat (first | refine blk_drewN ?_ _ | refine blk_drew ?_ | refine blk_alloc ?_ _)); exact BK250.out))⟩; have n3_ : Aside0 (Below w.heap.size w w17) := ⟨(by rw [hw]; exact (bh HB.out))⟩; clear hw HO253 BK248 BK250 HB; have HO253 := n0_; have BK248 := n1_; have BK250 := n2_; have HB := n3_; clear n0_ n1_ n2_ n3_))
   refine bodyPost_ret (results_ct rfl _ _ gb248 52 #[.int .i64 a1, .slice Ao14 t251.length co14, .slice none 0 0, .slice none 0 0] (0, 0) _ rfl (bx BK248.out) Try.underlying52 rfl (by kernel_rfl)) rfl ?_
   exact ⟨_, _, _, er, by (with_reducible repeat (first | apply Kd.R_alloc | apply Kd.R_drewN | apply Kd.R_drew)); exact HO253.out, nl, nl, bh HB.out⟩
  ·rw [if_neg c5] at H
   have c5b0 : (a1 == 1) = false := beq_eq_false_iff_ne.mpr c5
   have c5b1 : (a1 != 1) = true := bne_iff_ne.mpr c5
   by_cases c18 : a1 = 2
   ·rw [if_pos c18] at H
    have c18b0 : (a1 == 2) = true := beq_iff_eq.mpr c18
    have c18b1 : (a1 != 2) = false := bne_eq_false_iff_eq.mpr c18
    clear c18
    replace H := Option.bind_eq_some_iff.mp H
    obtain ⟨⟨t254, t255⟩, A190, H⟩ := H
    replace H : (some (a1, ([] : List (S79)), t254, ([] : List Int), 0)) = some (r1, r2, r3, r4, r5) := H
    have A19 := Aside0.mk A190
    clear A190
    simp only [Option.some.injEq, Prod.mk.injEq] at H
    obtain ⟨rfl, rfl, rfl, rfl, rfl⟩ := H
    go_enter Try.func57, Try.ntmps57
    go_wp2_with (first | ((with_reducible refine gate_dst (N := 4) rfl ?_); refine box_event ?hg (N := 4) ?hd (cs := #[.int .i64 0, .slice none 0 0, .slice none 0 0, .slice none 0 0]) (t := 52) ?hr ?_; (case hd => rfl); (case hg => rfl); (case hr => first | (go_simp; done) | (go_simp; rfl)); intro gb248 hg w20 hbox hb; have BK248 := Aside0.mk (hbox); have GW248 := bza HB hg; have GE248 := bza HB hg; replace HB := bsa HB hb; clear hb hbox hg) | ((with_reducible refine gate_callee (f := 55) rfl ?_); refine goesL_ (some 8) rfl rfl Try.func55 (by kernel_rfl) rfl #[.slice A0 l0.length c0] rfl (by (try simp only [List.map_toArray, List.map_cons, List.map_nil]); first | done | rfl) ?_; (with_reducible refine (span_May.calls k _ _ l0 true _ ?side1 ?side2 A3.out).mono ?_); (case side1 => exact cx (Kd.C_below HR0.out HB.out)); (case side2 => exact HC0.out); rintro e w21 ⟨rfl, hb⟩; refine ⟨_, rfl, ?_⟩; replace BK248 := bba BK248 hb; replace HB := bsa HB hb; (try clear hb); (try clear hk)) | ((with_reducible refine gate_dst (N := 6) rfl ?_); refine box_event ?hg (N := 6) ?hd (cs := #[.int .i64 0, .slice none 0 0, .slice none 0 0, .slice none 0 0]) (t := 52) ?hr ?_; (case hd => rfl); (case hg => rfl); (case hr => first | (go_simp; done) | (go_simp; rfl)); intro gb250 hg w22 hbox hb; have BK250 := Aside0.mk (hbox); have GW250 := bza HB hg; have GE250 := bza HB hg; replace HB := bsa HB hb; have NB248_250 := bna BK248 hg; have NB250_248 := bma BK248 hg; replace BK248 := bba BK248 hb; clear hb hbox hg; have hnb23 := NB250_248.out; have hnc23 := NB248_250.out; have hcz24_0 : w22.cell? ⟨gb250, 0, none⟩ = some (.int .i64 0) := (blk_cell BK250.out 0).trans rfl; have hcz24_1 : w22.cell? ⟨gb250, 1, none⟩ = some (.slice none 0 0) := (blk_cell BK250.out 1).trans rfl; have hcz24_2 : w22.cell? ⟨gb250, 2, none⟩ = some (.slice none 0 0) := (blk_cell BK250.out 2).trans rfl; have hcz24_3 : w22.cell? ⟨gb250, 3, none⟩ = some (.slice none 0 0) := (blk_cell BK250.out 3).trans rfl; have hfz24_0 := blk_frozen BK250.out 0; have hfz24_1 := blk_frozen BK250.out 1; have hfz24_2 := blk_frozen BK250.out 2; have hfz24_3 := blk_frozen BK250.out 3) | ((with_reducible refine gate_store (t := 52) (p := 6) rfl ?_); refine store_event (t := 52) (p := 6) (v := ?vo_w25) (w1 := ((((w22.setCell ⟨gb250, 0, none⟩ (.int .i64 a1)).setCell ⟨gb250, 1, none⟩ (.slice none 0 0)).setCell ⟨gb250, 2, none⟩ (.slice none 0 0)).setCell ⟨gb250, 3, none⟩ (.slice none 0 0))) ?hg ?ho ?hn ?hr ?_; (case ho => rfl); (case hg => rfl); (case hn => rfl); (case hr => first | (go_simp; done) | (go_simp; rfl)); intro w25 hw; have n0_ : Aside0 (w25.heap[gb248]? = some (.cells #[.int .i64 0, .slice none 0 0, .slice none 0 0, .slice none 0 0] 52 (0, 0))) := ⟨(by rw [hw]; exact (bx BK248.out))⟩; have n1_ : Aside0 (w25.heap[gb250]? = some (.cells #[.int .i64 a1, .slice none 0 0, .slice none 0 0, .slice none 0 0] 52 (0, 0))) := ⟨(by rw [hw]; exact (by (with_reducible repeat (first | refine blk_drewN ?_ _ | refine blk_drew ?_ | refine blk_alloc ?_ _)); refine blk_put (cs := #[.int .i64 a1, .slice none 0 0, .slice none 0 0, .slice none 0 0]) ?_ 3 _ rfl; (with_reducible repeat (first | refine blk_drewN ?_ _ | refine blk_drew ?_ | refine blk_alloc ?_ _)); refine blk_put (cs := #[.int .i64 a1, .slice none 0 0, .slice none 0 0, .slice none 0 0]) ?_ 2 _ rfl; (with_reducible repeat (first | refine blk_drewN ?_ _ | refine blk_drew ?_ | refine blk_alloc ?_ _)); refine blk_put (cs := #[.int .i64 a1, .slice none 0 0, .slice none 0 0, .slice none 0 0]) ?_ 1 _ rfl; (with_reducible repeat (first | refine blk_drewN ?_ _ | refine blk_drew ?_ | refine blk_alloc ?_ _)); refine blk_put (cs := #[.int .i64 0, .slice none 0 0, .slice none 0 0, .slice none 0 0]) ?_ 0 _ rfl; (with_reducible repeat (first | refine blk_drewN ?_ _ | refine blk_drew ?_ | refine blk_alloc ?_ _)); exact BK250.out))⟩; have n2_ : Aside0 (Below w.heap.size w w25) := ⟨(by rw [hw]; exact (bh HB.out))⟩; clear hw BK248 BK250 HB; have BK248 := n0_; have BK250 := n1_; have HB := n2_; clear n0_ n1_ n2_) | ((with_reducible refine gate_callee (f := 82) rfl ?_); refine goesL_ (some 24) rfl rfl Try.func82 (by kernel_rfl) rfl #[.slice A0 l0.length c0] rfl (by (try simp only [List.map_toArray, List.map_cons, List.map_nil]); first | done | rfl) ?_; (with_reducible refine (words_Of.calls k _ _ l0 t254 t255 _ ?side1 ?side2 A19.out).mono ?_); (case side1 => exact cx (Kd.C_below HR0.out HB.out)); (case side2 => exact HC0.out); rintro e w26 ⟨v256, rfl, ho0, hb⟩; refine ⟨_, rfl, ?_⟩; have HO257 := Aside0.mk (Kd.R_lower ho0 (below_size (bh HB.out))); replace BK248 := bba BK248 hb; replace BK250 := bba BK250 hb; replace HB := bsa HB hb; (try clear hb); (try clear hk); (try clear ho0); obtain ⟨Ao27, co27, eo27⟩ := Kd.R_slice HO257.out; subst eo27; have hcz28_0 : w26.cell? ⟨gb250, 0, none⟩ = some (.int .i64 a1) := (blk_cell BK250.out 0).trans rfl; have hcz28_1 : w26.cell? ⟨gb250, 1, none⟩ = some (.slice none 0 0) := (blk_cell BK250.out 1).trans rfl; have hcz28_2 : w26.cell? ⟨gb250, 2, none⟩ = some (.slice none 0 0) := (blk_cell BK250.out 2).trans rfl; have hcz28_3 : w26.cell? ⟨gb250, 3, none⟩ = some (.slice none 0 0) := (blk_cell BK250.out 3).trans rfl; have hfz28_0 := blk_frozen BK250.out 0; have hfz28_1 := blk_frozen BK250.out 1; have hfz28_2 := blk_frozen BK250.out 2; have hfz28_3 := blk_frozen BK250.out 3; have hcz29_0 : w26.cell? ⟨gb248, 0, none⟩ = some (.int .i64 0) := (blk_cell BK248.out 0).trans rfl; have hcz29_1 : w26.cell? ⟨gb248, 1, none⟩ = some (.slice none 0 0) := (blk_cell BK248.out 1).trans rfl; have hcz29_2 : w26.cell? ⟨gb248, 2, none⟩ = some (.slice none 0 0) := (blk_cell BK248.out 2).trans rfl; have hcz29_3 : w26.cell? ⟨gb248, 3, none⟩ = some (.slice none 0 0) := (blk_cell BK248.out 3).trans rfl; have hfz29_0 := blk_frozen BK248.out 0; have hfz29_1 := blk_frozen BK248.out 1; have hfz29_2 := blk_frozen BK248.out 2; have hfz29_3 := blk_frozen BK248.out 3) | ((with_reducible refine gate_store (t := 52) (p := 4) rfl ?_); refine store_event (t := 52) (p := 4) (v := ?vo_w30) (w1 := (((((w26.setCell ⟨gb250, 2, none⟩ (.slice Ao27 t254.length co27)).setCell ⟨gb248, 0, none⟩ (.int .i64 a1)).setCell ⟨gb248, 1, none⟩ (.slice none 0 0)).setCell ⟨gb248, 2, none⟩ (.slice Ao27 t254.length co27)).setCell ⟨gb248, 3, none⟩ (.slice none 0 0))) ?hg ?ho ?hn ?hr ?_; (case ho => rfl); (case hg => rfl); (case hn => rfl); (case hr => first | (go_simp; done) | (go_simp; rfl)); intro w30 hw; have n0_ : Aside0 (Kd.R (Kd.int .i64) 3 w30 w.heap.size (fun _ => True) (.slice Ao27 t254.length co27) t254) := ⟨(by rw [hw]; exact (by (with_reducible repeat (first | apply Kd.R_alloc | apply Kd.R_drewN | apply Kd.R_drew)); exact Kd.R_mono (Kd.R_far (p := ⟨gb248, 3, none⟩) (Kd.R_far (p := ⟨gb248, 2, none⟩) (Kd.R_far (p := ⟨gb248, 1, none⟩) (Kd.R_far (p := ⟨gb248, 0, none⟩) (Kd.R_far (p := ⟨gb250, 2, none⟩) (Kd.R_types (Kd.R_types HO257.out BK250.out (by decide)) BK248.out (by decide)) (fun _ hk => hk.1.2) (.slice Ao27 t254.length co27)) (fun _ hk => hk.2) (.int .i64 a1)) (fun _ hk => hk.2) (.slice none 0 0)) (fun _ hk => hk.2) (.slice Ao27 t254.length co27)) (fun _ hk => hk.2) (.slice none 0 0)) (fun _ hk => trivial)))⟩; have n1_ : Aside0 (w30.heap[gb248]? = some (.cells #[.int .i64 a1, .slice none 0 0, .slice Ao27 t254.length co27, .slice none 0 0] 52 (0, 0))) := ⟨(by rw [hw]; exact (by (with_reducible repeat (first | refine blk_drewN ?_ _ | refine blk_drew ?_ | refine blk_alloc ?_ _)); refine blk_put (cs := #[.int .i64 a1, .slice none 0 0, .slice Ao27 t254.length co27, .slice none 0 0]) ?_ 3 _ rfl; (with_reducible repeat (first | refine blk_drewN ?_ _ | refine blk_drew ?_ | refine blk_alloc ?_ _)); refine blk_put (cs := #[.int .i64 a1, .slice none 0 0, .slice none 0 0, .slice none 0 0]) ?_ 2 _ rfl; (with_reducible repeat (first | refine blk_drewN ?_ _ | refine blk_drew ?_ | refine blk_alloc ?_ _)); refine blk_put (cs := #[.int .i64 a1, .slice none 0 0, .slice none 0 0, .slice none 0 0]) ?_ 1 _ rfl; (with_reducible repeat (first | refine blk_drewN ?_ _ | refine blk_drew ?_ | refine blk_alloc ?_ _)); refine blk_put (cs := #[.int .i64 0, .slice none 0 0, .slice none 0 0, .slice none 0 0]) ?_ 0 _ rfl; (with_reducible repeat (first | refine blk_drewN ?_ _ | refine blk_drew ?_ | refine blk_alloc ?_ _)); refine blk_far ?_ NB248_250.out _; (with_reducible repeat (first | refine blk_drewN ?_ _ | refine blk_drew ?_ | refine blk_alloc ?_ _)); exact BK248.out))⟩; have n2_ : Aside0 (w30.heap[gb250]? = some (.cells #[.int .i64 a1, .slice none 0 0, .slice Ao27 t254.length co27, .slice none 0 0] 52 (0, 0))) := ⟨(by rw [hw]; exact (by (with_reducible repeat (first | refine blk_drewN ?_ _ | refine blk_drew ?_ | refine blk_alloc ?_ _)); refine blk_far ?_ NB250_248.out _; (with_reducible repeat (first | refine blk_drewN ?_ _ | refine blk_drew ?_ | refine blk_alloc ?_ _)); refine blk_far ?_ NB250_248.out _; (with_reducible repeat (first | refine blk_drewN ?_ _ | refine blk_drew ?_ | refine blk_alloc ?_ _)); refine blk_far ?_ NB250_248.out _; (with_reducible repeat (first | refine blk_drewN ?_ _ | refine blk_drew ?_ | refine blk_alloc ?_ _)); refine blk_far ?_ NB250_248.out _; (with_reducible repeat (first | refine blk_drewN ?_ _ | refine blk_drew ?_ | refine blk_alloc ?_ _)); refine blk_put (cs := #[.int .i64 a1, .slice none 0 0, .slice none 0 0, .slice none 0 0]) ?_ 2 _ rfl; (with_reducible repeat (first | refine blk_drewN ?_ _ | refine blk_drew ?_ | refine blk_alloc ?_ _)); exact BK250.out))⟩; have n3_ : Aside0 (Below w.heap.size w w30) := ⟨(by rw [hw]; exact (bh HB.out))⟩; clear hw HO257 BK248 BK250 HB; have HO257 := n0_; have BK248 := n1_; have BK250 := n2_; have HB := n3_; clear n0_ n1_ n2_ n3_))
    refine bodyPost_ret (results_ct rfl _ _ gb248 52 #[.int .i64 a1, .slice none 0 0, .slice Ao27 t254.length co27, .slice none 0 0] (0, 0) _ rfl (bx BK248.out) Try.underlying52 rfl (by kernel_rfl)) rfl ?_
    exact ⟨_, _, _, er, nl, by (with_reducible repeat (first | apply Kd.R_alloc | apply Kd.R_drewN | apply Kd.R_drew)); exact Kd.R_mono HO257.out (fun _ hk => (by simp [Value.ownBlock])), nl, bh HB.out⟩
   ·rw [if_neg c18] at H
    have c18b0 : (a1 == 2) = false := beq_eq_false_iff_ne.mpr c18
    have c18b1 : (a1 != 2) = true := bne_iff_ne.mpr c18
    by_cases c31 : a1 = 3
    ·rw [if_pos c31] at H
     have c31b0 : (a1 == 3) = true := beq_iff_eq.mpr c31
     have c31b1 : (a1 != 3) = false := bne_eq_false_iff_eq.mpr c31
     clear c31
     replace H := Option.bind_eq_some_iff.mp H
     obtain ⟨⟨t258, t259⟩, A320, H⟩ := H
     replace H : (some (a1, ([] : List (S79)), ([] : List Int), t258, 0)) = some (r1, r2, r3, r4, r5) := H
     have A32 := Aside0.mk A320
     clear A320
     simp only [Option.some.injEq, Prod.mk.injEq] at H
     obtain ⟨rfl, rfl, rfl, rfl, rfl⟩ := H
     go_enter Try.func57, Try.ntmps57
     go_wp2_with (first | ((with_reducible refine gate_dst (N := 4) rfl ?_); refine box_event ?hg (N := 4) ?hd (cs := #[.int .i64 0, .slice none 0 0, .slice none 0 0, .slice none 0 0]) (t := 52) ?hr ?_; (case hd => rfl); (case hg => rfl); (case hr => first | (go_simp; done) | (go_simp; rfl)); intro gb248 hg w33 hbox hb; have BK248 := Aside0.mk (hbox); have GW248 := bza HB hg; have GE248 := bza HB hg; replace HB := bsa HB hb; clear hb hbox hg) | ((with_reducible refine gate_callee (f := 55) rfl ?_); refine goesL_ (some 8) rfl rfl Try.func55 (by kernel_rfl) rfl #[.slice A0 l0.length c0] rfl (by (try simp only [List.map_toArray, List.map_cons, List.map_nil]); first | done | rfl) ?_; (with_reducible refine (span_May.calls k _ _ l0 true _ ?side1 ?side2 A3.out).mono ?_); (case side1 => exact cx (Kd.C_below HR0.out HB.out)); (case side2 => exact HC0.out); rintro e w34 ⟨rfl, hb⟩; refine ⟨_, rfl, ?_⟩; replace BK248 := bba BK248 hb; replace HB := bsa HB hb; (try clear hb); (try clear hk)) | ((with_reducible refine gate_dst (N := 6) rfl ?_); refine box_event ?hg (N := 6) ?hd (cs := #[.int .i64 0, .slice none 0 0, .slice none 0 0, .slice none 0 0]) (t := 52) ?hr ?_; (case hd => rfl); (case hg => rfl); (case hr => first | (go_simp; done) | (go_simp; rfl)); intro gb250 hg w35 hbox hb; have BK250 := Aside0.mk (hbox); have GW250 := bza HB hg; have GE250 := bza HB hg; replace HB := bsa HB hb; have NB248_250 := bna BK248 hg; have NB250_248 := bma BK248 hg; replace BK248 := bba BK248 hb; clear hb hbox hg; have hnb36 := NB250_248.out; have hnc36 := NB248_250.out; have hcz37_0 : w35.cell? ⟨gb250, 0, none⟩ = some (.int .i64 0) := (blk_cell BK250.out 0).trans rfl; have hcz37_1 : w35.cell? ⟨gb250, 1, none⟩ = some (.slice none 0 0) := (blk_cell BK250.out 1).trans rfl; have hcz37_2 : w35.cell? ⟨gb250, 2, none⟩ = some (.slice none 0 0) := (blk_cell BK250.out 2).trans rfl; have hcz37_3 : w35.cell? ⟨gb250, 3, none⟩ = some (.slice none 0 0) := (blk_cell BK250.out 3).trans rfl; have hfz37_0 := blk_frozen BK250.out 0; have hfz37_1 := blk_frozen BK250.out 1; have hfz37_2 := blk_frozen BK250.out 2; have hfz37_3 := blk_frozen BK250.out 3) | ((with_reducible refine gate_store (t := 52) (p := 6) rfl ?_); refine store_event (t := 52) (p := 6) (v := ?vo_w38) (w1 := ((((w35.setCell ⟨gb250, 0, none⟩ (.int .i64 a1)).setCell ⟨gb250, 1, none⟩ (.slice none 0 0)).setCell ⟨gb250, 2, none⟩ (.slice none 0 0)).setCell ⟨gb250, 3, none⟩ (.slice none 0 0))) ?hg ?ho ?hn ?hr ?_; (case ho => rfl); (case hg => rfl); (case hn => rfl); (case hr => first | (go_simp; done) | (go_simp; rfl)); intro w38 hw; have n0_ : Aside0 (w38.heap[gb248]? = some (.cells #[.int .i64 0, .slice none 0 0, .slice none 0 0, .slice none 0 0] 52 (0, 0))) := ⟨(by rw [hw]; exact (bx BK248.out))⟩; have n1_ : Aside0 (w38.heap[gb250]? = some (.cells #[.int .i64 a1, .slice none 0 0, .slice none 0 0, .slice none 0 0] 52 (0, 0))) := ⟨(by rw [hw]; exact (by (with_reducible repeat (first | refine blk_drewN ?_ _ | refine blk_drew ?_ | refine blk_alloc ?_ _)); refine blk_put (cs := #[.int .i64 a1, .slice none 0 0, .slice none 0 0, .slice none 0 0]) ?_ 3 _ rfl; (with_reducible repeat (first | refine blk_drewN ?_ _ | refine blk_drew ?_ | refine blk_alloc ?_ _)); refine blk_put (cs := #[.int .i64 a1, .slice none 0 0, .slice none 0 0, .slice none 0 0]) ?_ 2 _ rfl; (with_reducible repeat (first | refine blk_drewN ?_ _ | refine blk_drew ?_ | refine blk_alloc ?_ _)); refine blk_put (cs := #[.int .i64 a1, .slice none 0 0, .slice none 0 0, .slice none 0 0]) ?_ 1 _ rfl; (with_reducible repeat (first | refine blk_drewN ?_ _ | refine blk_drew ?_ | refine blk_alloc ?_ _)); refine blk_put (cs := #[.int .i64 0, .slice none 0 0, .slice none 0 0, .slice none 0 0]) ?_ 0 _ rfl; (with_reducible repeat (first | refine blk_drewN ?_ _ | refine blk_drew ?_ | refine blk_alloc ?_ _)); exact BK250.out))⟩; have n2_ : Aside0 (Below w.heap.size w w38) := ⟨(by rw [hw]; exact (bh HB.out))⟩; clear hw BK248 BK250 HB; have BK248 := n0_; have BK250 := n1_; have HB := n2_; clear n0_ n1_ n2_) | ((with_reducible refine gate_callee (f := 83) rfl ?_); refine goesL_ (some 32) rfl rfl Try.func83 (by kernel_rfl) rfl #[.slice A0 l0.length c0] rfl (by (try simp only [List.map_toArray, List.map_cons, List.map_nil]); first | done | rfl) ?_; (with_reducible refine (span_Places.calls k _ _ l0 t258 t259 _ ?side1 ?side2 A32.out).mono ?_); (case side1 => exact cx (Kd.C_below HR0.out HB.out)); (case side2 => exact HC0.out); rintro e w39 ⟨v260, rfl, ho0, hb⟩; refine ⟨_, rfl, ?_⟩; have HO261 := Aside0.mk (Kd.R_lower ho0 (below_size (bh HB.out))); replace BK248 := bba BK248 hb; replace BK250 := bba BK250 hb; replace HB := bsa HB hb; (try clear hb); (try clear hk); (try clear ho0); obtain ⟨Ao40, co40, eo40⟩ := Kd.R_slice HO261.out; subst eo40; have hcz41_0 : w39.cell? ⟨gb250, 0, none⟩ = some (.int .i64 a1) := (blk_cell BK250.out 0).trans rfl; have hcz41_1 : w39.cell? ⟨gb250, 1, none⟩ = some (.slice none 0 0) := (blk_cell BK250.out 1).trans rfl; have hcz41_2 : w39.cell? ⟨gb250, 2, none⟩ = some (.slice none 0 0) := (blk_cell BK250.out 2).trans rfl; have hcz41_3 : w39.cell? ⟨gb250, 3, none⟩ = some (.slice none 0 0) := (blk_cell BK250.out 3).trans rfl; have hfz41_0 := blk_frozen BK250.out 0; have hfz41_1 := blk_frozen BK250.out 1; have hfz41_2 := blk_frozen BK250.out 2; have hfz41_3 := blk_frozen BK250.out 3; have hcz42_0 : w39.cell? ⟨gb248, 0, none⟩ = some (.int .i64 0) := (blk_cell BK248.out 0).trans rfl; have hcz42_1 : w39.cell? ⟨gb248, 1, none⟩ = some (.slice none 0 0) := (blk_cell BK248.out 1).trans rfl; have hcz42_2 : w39.cell? ⟨gb248, 2, none⟩ = some (.slice none 0 0) := (blk_cell BK248.out 2).trans rfl; have hcz42_3 : w39.cell? ⟨gb248, 3, none⟩ = some (.slice none 0 0) := (blk_cell BK248.out 3).trans rfl; have hfz42_0 := blk_frozen BK248.out 0; have hfz42_1 := blk_frozen BK248.out 1; have hfz42_2 := blk_frozen BK248.out 2; have hfz42_3 := blk_frozen BK248.out 3) | ((with_reducible refine gate_store (t := 52) (p := 4) rfl ?_); refine store_event (t := 52) (p := 4) (v := ?vo_w43) (w1 := (((((w39.setCell ⟨gb250, 3, none⟩ (.slice Ao40 t258.length co40)).setCell ⟨gb248, 0, none⟩ (.int .i64 a1)).setCell ⟨gb248, 1, none⟩ (.slice none 0 0)).setCell ⟨gb248, 2, none⟩ (.slice none 0 0)).setCell ⟨gb248, 3, none⟩ (.slice Ao40 t258.length co40))) ?hg ?ho ?hn ?hr ?_; (case ho => rfl); (case hg => rfl); (case hn => rfl); (case hr => first | (go_simp; done) | (go_simp; rfl)); intro w43 hw; have n0_ : Aside0 (Kd.R (Kd.int .i64) 3 w43 w.heap.size (fun _ => True) (.slice Ao40 t258.length co40) t258) := ⟨(by rw [hw]; exact (by (with_reducible repeat (first | apply Kd.R_alloc | apply Kd.R_drewN | apply Kd.R_drew)); exact Kd.R_mono (Kd.R_far (p := ⟨gb248, 3, none⟩) (Kd.R_far (p := ⟨gb248, 2, none⟩) (Kd.R_far (p := ⟨gb248, 1, none⟩) (Kd.R_far (p := ⟨gb248, 0, none⟩) (Kd.R_far (p := ⟨gb250, 3, none⟩) (Kd.R_types (Kd.R_types HO261.out BK250.out (by decide)) BK248.out (by decide)) (fun _ hk => hk.1.2) (.slice Ao40 t258.length co40)) (fun _ hk => hk.2) (.int .i64 a1)) (fun _ hk => hk.2) (.slice none 0 0)) (fun _ hk => hk.2) (.slice none 0 0)) (fun _ hk => hk.2) (.slice Ao40 t258.length co40)) (fun _ hk => trivial)))⟩; have n1_ : Aside0 (w43.heap[gb248]? = some (.cells #[.int .i64 a1, .slice none 0 0, .slice none 0 0, .slice Ao40 t258.length co40] 52 (0, 0))) := ⟨(by rw [hw]; exact (by (with_reducible repeat (first | refine blk_drewN ?_ _ | refine blk_drew ?_ | refine blk_alloc ?_ _)); refine blk_put (cs := #[.int .i64 a1, .slice none 0 0, .slice none 0 0, .slice none 0 0]) ?_ 3 _ rfl; (with_reducible repeat (first | refine blk_drewN ?_ _ | refine blk_drew ?_ | refine blk_alloc ?_ _)); refine blk_put (cs := #[.int .i64 a1, .slice none 0 0, .slice none 0 0, .slice none 0 0]) ?_ 2 _ rfl; (with_reducible repeat (first | refine blk_drewN ?_ _ | refine blk_drew ?_ | refine blk_alloc ?_ _)); refine blk_put (cs := #[.int .i64 a1, .slice none 0 0, .slice none 0 0, .slice none 0 0]) ?_ 1 _ rfl; (with_reducible repeat (first | refine blk_drewN ?_ _ | refine blk_drew ?_ | refine blk_alloc ?_ _)); refine blk_put (cs := #[.int .i64 0, .slice none 0 0, .slice none 0 0, .slice none 0 0]) ?_ 0 _ rfl; (with_reducible repeat (first | refine blk_drewN ?_ _ | refine blk_drew ?_ | refine blk_alloc ?_ _)); refine blk_far ?_ NB248_250.out _; (with_reducible repeat (first | refine blk_drewN ?_ _ | refine blk_drew ?_ | refine blk_alloc ?_ _)); exact BK248.out))⟩; have n2_ : Aside0 (w43.heap[gb250]? = some (.cells #[.int .i64 a1, .slice none 0 0, .slice none 0 0, .slice Ao40 t258.length co40] 52 (0, 0))) := ⟨(by rw [hw]; exact (by (with_reducible repeat (first | refine blk_drewN ?_ _ | refine blk_drew ?_ | refine blk_alloc ?_ _)); refine blk_far ?_ NB250_248.out _; (with_reducible repeat (first | refine blk_drewN ?_ _ | refine blk_drew ?_ | refine blk_alloc ?_ _)); refine blk_far ?_ NB250_248.out _; (with_reducible repeat (first | refine blk_drewN ?_ _ | refine blk_drew ?_ | refine blk_alloc ?_ _)); refine blk_far ?_ NB250_248.out _; (with_reducible repeat (first | refine blk_drewN ?_ _ | refine blk_drew ?_ | refine blk_alloc ?_ _)); refine blk_far ?_ NB250_248.out _; (with_reducible repeat (first | refine blk_drewN ?_ _ | refine blk_drew ?_ | refine blk_alloc ?_ _)); refine blk_put (cs := #[.int .i64 a1, .slice none 0 0, .slice none 0 0, .slice none 0 0]) ?_ 3 _ rfl; (with_reducible repeat (first | refine blk_drewN ?_ _ | refine blk_drew ?_ | refine blk_alloc ?_ _)); exact BK250.out))⟩; have n3_ : Aside0 (Below w.heap.size w w43) := ⟨(by rw [hw]; exact (bh HB.out))⟩; clear hw HO261 BK248 BK250 HB; have HO261 := n0_; have BK248 := n1_; have BK250 := n2_; have HB := n3_; clear n0_ n1_ n2_ n3_))
     refine bodyPost_ret (results_ct rfl _ _ gb248 52 #[.int .i64 a1, .slice none 0 0, .slice none 0 0, .slice Ao40 t258.length co40] (0, 0) _ rfl (bx BK248.out) Try.underlying52 rfl (by kernel_rfl)) rfl ?_
     exact ⟨_, _, _, er, nl, nl, by (with_reducible repeat (first | apply Kd.R_alloc | apply Kd.R_drewN | apply Kd.R_drew)); exact Kd.R_mono HO261.out (fun _ hk => (by simp [Value.ownBlock])), bh HB.out⟩
    ·rw [if_neg c31] at H
     have c31b0 : (a1 == 3) = false := beq_eq_false_iff_ne.mpr c31
     have c31b1 : (a1 != 3) = true := bne_iff_ne.mpr c31
     simp only [Option.some.injEq, Prod.mk.injEq] at H
     obtain ⟨rfl, rfl, rfl, rfl, rfl⟩ := H
     go_enter Try.func57, Try.ntmps57
     go_wp2_with (first | ((with_reducible refine gate_dst (N := 4) rfl ?_); refine box_event ?hg (N := 4) ?hd (cs := #[.int .i64 0, .slice none 0 0, .slice none 0 0, .slice none 0 0]) (t := 52) ?hr ?_; (case hd => rfl); (case hg => rfl); (case hr => first | (go_simp; done) | (go_simp; rfl)); intro gb248 hg w44 hbox hb; have BK248 := Aside0.mk (hbox); have GW248 := bza HB hg; have GE248 := bza HB hg; replace HB := bsa HB hb; clear hb hbox hg) | ((with_reducible refine gate_callee (f := 55) rfl ?_); refine goesL_ (some 8) rfl rfl Try.func55 (by kernel_rfl) rfl #[.slice A0 l0.length c0] rfl (by (try simp only [List.map_toArray, List.map_cons, List.map_nil]); first | done | rfl) ?_; (with_reducible refine (span_May.calls k _ _ l0 true _ ?side1 ?side2 A3.out).mono ?_); (case side1 => exact cx (Kd.C_below HR0.out HB.out)); (case side2 => exact HC0.out); rintro e w45 ⟨rfl, hb⟩; refine ⟨_, rfl, ?_⟩; replace BK248 := bba BK248 hb; replace HB := bsa HB hb; (try clear hb)) | ((with_reducible refine gate_dst (N := 6) rfl ?_); refine box_event ?hg (N := 6) ?hd (cs := #[.int .i64 0, .slice none 0 0, .slice none 0 0, .slice none 0 0]) (t := 52) ?hr ?_; (case hd => rfl); (case hg => rfl); (case hr => first | (go_simp; done) | (go_simp; rfl)); intro gb250 hg w46 hbox hb; have BK250 := Aside0.mk (hbox); have GW250 := bza HB hg; have GE250 := bza HB hg; replace HB := bsa HB hb; have NB248_250 := bna BK248 hg; have NB250_248 := bma BK248 hg; replace BK248 := bba BK248 hb; clear hb hbox hg; have hnb47 := NB250_248.out; have hnc47 := NB248_250.out; have hcz48_0 : w46.cell? ⟨gb250, 0, none⟩ = some (.int .i64 0) := (blk_cell BK250.out 0).trans rfl; have hcz48_1 : w46.cell? ⟨gb250, 1, none⟩ = some (.slice none 0 0) := (blk_cell BK250.out 1).trans rfl; have hcz48_2 : w46.cell? ⟨gb250, 2, none⟩ = some (.slice none 0 0) := (blk_cell BK250.out 2).trans rfl; have hcz48_3 : w46.cell? ⟨gb250, 3, none⟩ = some (.slice none 0 0) := (blk_cell BK250.out 3).trans rfl; have hfz48_0 := blk_frozen BK250.out 0; have hfz48_1 := blk_frozen BK250.out 1; have hfz48_2 := blk_frozen BK250.out 2; have hfz48_3 := blk_frozen BK250.out 3) | ((with_reducible refine gate_store (t := 52) (p := 6) rfl ?_); refine store_event (t := 52) (p := 6) (v := ?vo_w49) (w1 := ((((w46.setCell ⟨gb250, 0, none⟩ (.int .i64 a1)).setCell ⟨gb250, 1, none⟩ (.slice none 0 0)).setCell ⟨gb250, 2, none⟩ (.slice none 0 0)).setCell ⟨gb250, 3, none⟩ (.slice none 0 0))) ?hg ?ho ?hn ?hr ?_; (case ho => rfl); (case hg => rfl); (case hn => rfl); (case hr => first | (go_simp; done) | (go_simp; rfl)); intro w49 hw; have n0_ : Aside0 (w49.heap[gb248]? = some (.cells #[.int .i64 0, .slice none 0 0, .slice none 0 0, .slice none 0 0] 52 (0, 0))) := ⟨(by rw [hw]; exact (bx BK248.out))⟩; have n1_ : Aside0 (w49.heap[gb250]? = some (.cells #[.int .i64 a1, .slice none 0 0, .slice none 0 0, .slice none 0 0] 52 (0, 0))) := ⟨(by rw [hw]; exact (by (with_reducible repeat (first | refine blk_drewN ?_ _ | refine blk_drew ?_ | refine blk_alloc ?_ _)); refine blk_put (cs := #[.int .i64 a1, .slice none 0 0, .slice none 0 0, .slice none 0 0]) ?_ 3 _ rfl; (with_reducible repeat (first | refine blk_drewN ?_ _ | refine blk_drew ?_ | refine blk_alloc ?_ _)); refine blk_put (cs := #[.int .i64 a1, .slice none 0 0, .slice none 0 0, .slice none 0 0]) ?_ 2 _ rfl; (with_reducible repeat (first | refine blk_drewN ?_ _ | refine blk_drew ?_ | refine blk_alloc ?_ _)); refine blk_put (cs := #[.int .i64 a1, .slice none 0 0, .slice none 0 0, .slice none 0 0]) ?_ 1 _ rfl; (with_reducible repeat (first | refine blk_drewN ?_ _ | refine blk_drew ?_ | refine blk_alloc ?_ _)); refine blk_put (cs := #[.int .i64 0, .slice none 0 0, .slice none 0 0, .slice none 0 0]) ?_ 0 _ rfl; (with_reducible repeat (first | refine blk_drewN ?_ _ | refine blk_drew ?_ | refine blk_alloc ?_ _)); exact BK250.out))⟩; have n2_ : Aside0 (Below w.heap.size w w49) := ⟨(by rw [hw]; exact (bh HB.out))⟩; clear hw BK248 BK250 HB; have BK248 := n0_; have BK250 := n1_; have HB := n2_; clear n0_ n1_ n2_; have hcz50_0 : w49.cell? ⟨gb248, 0, none⟩ = some (.int .i64 0) := (blk_cell BK248.out 0).trans rfl; have hcz50_1 : w49.cell? ⟨gb248, 1, none⟩ = some (.slice none 0 0) := (blk_cell BK248.out 1).trans rfl; have hcz50_2 : w49.cell? ⟨gb248, 2, none⟩ = some (.slice none 0 0) := (blk_cell BK248.out 2).trans rfl; have hcz50_3 : w49.cell? ⟨gb248, 3, none⟩ = some (.slice none 0 0) := (blk_cell BK248.out 3).trans rfl; have hfz50_0 := blk_frozen BK248.out 0; have hfz50_1 := blk_frozen BK248.out 1; have hfz50_2 := blk_frozen BK248.out 2; have hfz50_3 := blk_frozen BK248.out 3) | ((with_reducible refine gate_store (t := 52) (p := 4) rfl ?_); refine store_event (t := 52) (p := 4) (v := ?vo_w51) (w1 := ((((w49.setCell ⟨gb248, 0, none⟩ (.int .i64 0)).setCell ⟨gb248, 1, none⟩ (.slice none 0 0)).setCell ⟨gb248, 2, none⟩ (.slice none 0 0)).setCell ⟨gb248, 3, none⟩ (.slice none 0 0))) ?hg ?ho ?hn ?hr ?_; (case ho => rfl); (case hg => rfl); (case hn => rfl); (case hr => first | (go_simp; done) | (go_simp; rfl)); intro w51 hw; have n0_ : Aside0 (w51.heap[gb248]? = some (.cells #[.int .i64 0, .slice none 0 0, .slice none 0 0, .slice none 0 0] 52 (0, 0))) := ⟨(by rw [hw]; exact (by (with_reducible repeat (first | refine blk_drewN ?_ _ | refine blk_drew ?_ | refine blk_alloc ?_ _)); refine blk_put (cs := #[.int .i64 0, .slice none 0 0, .slice none 0 0, .slice none 0 0]) ?_ 3 _ rfl; (with_reducible repeat (first | refine blk_drewN ?_ _ | refine blk_drew ?_ | refine blk_alloc ?_ _)); refine blk_put (cs := #[.int .i64 0, .slice none 0 0, .slice none 0 0, .slice none 0 0]) ?_ 2 _ rfl; (with_reducible repeat (first | refine blk_drewN ?_ _ | refine blk_drew ?_ | refine blk_alloc ?_ _)); refine blk_put (cs := #[.int .i64 0, .slice none 0 0, .slice none 0 0, .slice none 0 0]) ?_ 1 _ rfl; (with_reducible repeat (first | refine blk_drewN ?_ _ | refine blk_drew ?_ | refine blk_alloc ?_ _)); refine blk_put (cs := #[.int .i64 0, .slice none 0 0, .slice none 0 0, .slice none 0 0]) ?_ 0 _ rfl; (with_reducible repeat (first | refine blk_drewN ?_ _ | refine blk_drew ?_ | refine blk_alloc ?_ _)); exact BK248.out))⟩; have n1_ : Aside0 (w51.heap[gb250]? = some (.cells #[.int .i64 a1, .slice none 0 0, .slice none 0 0, .slice none 0 0] 52 (0, 0))) := ⟨(by rw [hw]; exact (bx BK250.out))⟩; have n2_ : Aside0 (Below w.heap.size w w51) := ⟨(by rw [hw]; exact (bh HB.out))⟩; clear hw BK248 BK250 HB; have BK248 := n0_; have BK250 := n1_; have HB := n2_; clear n0_ n1_ n2_))
     refine bodyPost_ret (results_ct rfl _ _ gb248 52 #[.int .i64 0, .slice none 0 0, .slice none 0 0, .slice none 0 0] (0, 0) _ rfl (bx BK248.out) Try.underlying52 rfl (by kernel_rfl)) rfl ?_
     exact ⟨_, _, _, er, nl, nl, nl, bh HB.out⟩
 ·replace c4 := Bool.eq_false_iff.mpr c4
  subst c4
  have H1 : (some (0, ([] : List (S79)), ([] : List Int), ([] : List Int), 1)) = some (r1, r2, r3, r4, r5) := by rw [if_neg (show ¬ (false = true) by decide)] at H; exact H
  clear H
  have H := H1
  clear H1
  simp only [Option.some.injEq, Prod.mk.injEq] at H
  obtain ⟨rfl, rfl, rfl, rfl, rfl⟩ := H
  go_enter Try.func57, Try.ntmps57
  go_wp2_with (first | ((with_reducible refine gate_dst (N := 4) rfl ?_); refine box_event ?hg (N := 4) ?hd (cs := #[.int .i64 0, .slice none 0 0, .slice none 0 0, .slice none 0 0]) (t := 52) ?hr ?_; (case hd => rfl); (case hg => rfl); (case hr => first | (go_simp; done) | (go_simp; rfl)); intro gb248 hg w52 hbox hb; have BK248 := Aside0.mk (hbox); have GW248 := bza HB hg; have GE248 := bza HB hg; replace HB := bsa HB hb; clear hb hbox hg) | ((with_reducible refine gate_callee (f := 55) rfl ?_); refine goesL_ (some 8) rfl rfl Try.func55 (by kernel_rfl) rfl #[.slice A0 l0.length c0] rfl (by (try simp only [List.map_toArray, List.map_cons, List.map_nil]); first | done | rfl) ?_; (with_reducible refine (span_May.calls k _ _ l0 false _ ?side1 ?side2 A3.out).mono ?_); (case side1 => exact cx (Kd.C_below HR0.out HB.out)); (case side2 => exact HC0.out); rintro e w53 ⟨rfl, hb⟩; refine ⟨_, rfl, ?_⟩; replace BK248 := bba BK248 hb; replace HB := bsa HB hb; (try clear hb); have hcz54_0 : w53.cell? ⟨gb248, 0, none⟩ = some (.int .i64 0) := (blk_cell BK248.out 0).trans rfl; have hcz54_1 : w53.cell? ⟨gb248, 1, none⟩ = some (.slice none 0 0) := (blk_cell BK248.out 1).trans rfl; have hcz54_2 : w53.cell? ⟨gb248, 2, none⟩ = some (.slice none 0 0) := (blk_cell BK248.out 2).trans rfl; have hcz54_3 : w53.cell? ⟨gb248, 3, none⟩ = some (.slice none 0 0) := (blk_cell BK248.out 3).trans rfl; have hfz54_0 := blk_frozen BK248.out 0; have hfz54_1 := blk_frozen BK248.out 1; have hfz54_2 := blk_frozen BK248.out 2; have hfz54_3 := blk_frozen BK248.out 3) | ((with_reducible refine gate_store (t := 52) (p := 4) rfl ?_); refine store_event (t := 52) (p := 4) (v := ?vo_w55) (w1 := ((((w53.setCell ⟨gb248, 0, none⟩ (.int .i64 0)).setCell ⟨gb248, 1, none⟩ (.slice none 0 0)).setCell ⟨gb248, 2, none⟩ (.slice none 0 0)).setCell ⟨gb248, 3, none⟩ (.slice none 0 0))) ?hg ?ho ?hn ?hr ?_; (case ho => rfl); (case hg => rfl); (case hn => rfl); (case hr => first | (go_simp; done) | (go_simp; rfl)); intro w55 hw; have n0_ : Aside0 (w55.heap[gb248]? = some (.cells #[.int .i64 0, .slice none 0 0, .slice none 0 0, .slice none 0 0] 52 (0, 0))) := ⟨(by rw [hw]; exact (by (with_reducible repeat (first | refine blk_drewN ?_ _ | refine blk_drew ?_ | refine blk_alloc ?_ _)); refine blk_put (cs := #[.int .i64 0, .slice none 0 0, .slice none 0 0, .slice none 0 0]) ?_ 3 _ rfl; (with_reducible repeat (first | refine blk_drewN ?_ _ | refine blk_drew ?_ | refine blk_alloc ?_ _)); refine blk_put (cs := #[.int .i64 0, .slice none 0 0, .slice none 0 0, .slice none 0 0]) ?_ 2 _ rfl; (with_reducible repeat (first | refine blk_drewN ?_ _ | refine blk_drew ?_ | refine blk_alloc ?_ _)); refine blk_put (cs := #[.int .i64 0, .slice none 0 0, .slice none 0 0, .slice none 0 0]) ?_ 1 _ rfl; (with_reducible repeat (first | refine blk_drewN ?_ _ | refine blk_drew ?_ | refine blk_alloc ?_ _)); refine blk_put (cs := #[.int .i64 0, .slice none 0 0, .slice none 0 0, .slice none 0 0]) ?_ 0 _ rfl; (with_reducible repeat (first | refine blk_drewN ?_ _ | refine blk_drew ?_ | refine blk_alloc ?_ _)); exact BK248.out))⟩; have n1_ : Aside0 (Below w.heap.size w w55) := ⟨(by rw [hw]; exact (bh HB.out))⟩; clear hw BK248 HB; have BK248 := n0_; have HB := n1_; clear n0_ n1_))
  refine bodyPost_ret (results_ct rfl _ _ gb248 52 #[.int .i64 0, .slice none 0 0, .slice none 0 0, .slice none 0 0] (0, 0) _ rfl (bx BK248.out) Try.underlying52 rfl (by kernel_rfl)) rfl ?_
  exact ⟨_, _, _, er, nl, nl, nl, bh HB.out⟩
/-! ### poslist_Best: function 27 (a contract of the session's own) -/
def poslist_Best.b1 (c1 c2 : Int) : Int := if c2 < c1 then 2 else 1
def poslist_Best.b2 (c1 c2 c3 : Int) : Int := if c2 < c1 then (if c3 < c2 then 3 else 2) else (if c3 < c1 then 3 else 1)
def poslist_Best.f (k : Nat) (l0 : List S79) : Option (Int × (List (S79)) × List Int × List Int × Int) := (span_May.f k l0).bind fun a => if a = true then ((poslist_costs.f k l0).bind fun c => poslist_Of.f k l0 (poslist_Best.b2 c.2.1 c.2.2.1 c.2.2.2)) else some (0, ([] : List (S79)), ([] : List Int), ([] : List Int), 1)
set_option maxHeartbeats 8000000 in
set_option maxRecDepth 100000 in
theorem poslist_Best.calls (k : Nat) (A0 : Option Addr) (c0 : Nat) (l0 : List (S79)) (r1 : Int) (r2 : List (S79)) (r3 : List Int) (r4 : List Int) (r5 : Int) (w : World) (hr0 : Kd.C k79 w A0 l0.length l0) (hc0 : l0.length ≤ c0) (h : poslist_Best.f k l0 = some (r1, r2, r3, r4, r5)) :
    Calls Try.prog 27 #[.slice A0 l0.length c0] w fun e w' => ∃ v1_ v2_ v3_ : Value, e = .returned (.tuple #[.agg #[.int .i64 r1, v1_, v2_, v3_], .int .i64 r5]) ∧ Kd.R k79 79 w' w.heap.size (fun _ => True) v1_ r2 ∧ Kd.R (Kd.int .i64) 3 w' w.heap.size (fun k_ => some k_ ≠ (v3_ : Value).ownBlock) v2_ r3 ∧ Kd.R (Kd.int .i64) 3 w' w.heap.size (fun k_ => some k_ ≠ (v2_ : Value).ownBlock) v3_ r4 ∧ Below w.heap.size w w' := by
  have hu27 := Try.underlying52
  have hu67 := Try.underlying80
  have HR0 := Aside0.mk hr0
  have HC0 := Aside0.mk hc0
  clear hr0 hc0
  have HB := Aside0.mk (Below.refl w.heap.size w)
  obtain ⟨a, A1_, H⟩ := Option.bind_eq_some_iff.mp (show ((span_May.f k l0).bind fun a => if a = true then ((poslist_costs.f k l0).bind fun c => poslist_Of.f k l0 (poslist_Best.b2 c.2.1 c.2.2.1 c.2.2.2)) else some (0, ([] : List (S79)), ([] : List Int), ([] : List Int), 1)) = some (r1, r2, r3, r4, r5) from h)
  clear h
  have H1 := Aside0.mk A1_
  clear A1_
  cases a with
  | false =>
    simp only [Bool.false_eq_true, if_false, Option.some.injEq, Prod.mk.injEq] at H
    obtain ⟨rfl, rfl, rfl, rfl, rfl⟩ := H
    go_enter Try.func27, Try.ntmps27
    go_wp2_with (first | ((with_reducible refine gate_dst (N := 2) rfl ?_); refine box_event ?hg (N := 2) ?hd (cs := #[.int .i64 0, .slice none 0 0, .slice none 0 0, .slice none 0 0]) (t := 52) ?hr ?_; (case hd => rfl); (case hg => rfl); (case hr => first | (go_simp; done) | (go_simp; rfl)); intro g2 hg w2 hbox hb; have n0_ := Aside0.mk (below_step HB.out hb); have n1_ := Aside0.mk (hbox); have n2_ := Aside0.mk ((by rw [hg]; exact below_size HB.out : w.heap.size ≤ g2)); clear HB; have HB := n0_; have BK2 := n1_; have GE2 := n2_; clear n0_ n1_ n2_ hb hbox hg) | (go_at_call 55; (with_reducible refine (span_May.calls k _ _ l0 false _ ?side1 ?side2 H1.out).mono ?_); (case side1 => exact (Kd.C_below HR0.out HB.out)); (case side2 => exact HC0.out); rintro e w3 ⟨rfl, hb⟩; have n0_ := Aside0.mk (below_step HB.out hb); have n1_ := Aside0.mk (blk_below BK2.out hb); clear HB BK2; have HB := n0_; have BK2 := n1_; clear n0_ n1_ hb; have hc20 : w3.cell? ⟨g2, 0, none⟩ = some (.int .i64 0) := (blk_cell BK2.out 0).trans rfl; have hc21 : w3.cell? ⟨g2, 1, none⟩ = some (.slice none 0 0) := (blk_cell BK2.out 1).trans rfl; have hc22 : w3.cell? ⟨g2, 2, none⟩ = some (.slice none 0 0) := (blk_cell BK2.out 2).trans rfl; have hc23 : w3.cell? ⟨g2, 3, none⟩ = some (.slice none 0 0) := (blk_cell BK2.out 3).trans rfl; have hf20 := blk_frozen BK2.out 0; have hf21 := blk_frozen BK2.out 1; have hf22 := blk_frozen BK2.out 2; have hf23 := blk_frozen BK2.out 3))
    refine bodyPost_ret (results_ct rfl _ _ g2 52 #[.int .i64 0, .slice none 0 0, .slice none 0 0, .slice none 0 0] (0, 0) _ rfl (by (with_reducible repeat (first | refine blk_drewN ?_ _ | refine blk_drew ?_ | refine blk_alloc ?_ _)); refine blk_put (cs := #[.int .i64 0, .slice none 0 0, .slice none 0 0, .slice none 0 0]) ?_ 3 _ rfl; (with_reducible repeat (first | refine blk_drewN ?_ _ | refine blk_drew ?_ | refine blk_alloc ?_ _)); refine blk_put (cs := #[.int .i64 0, .slice none 0 0, .slice none 0 0, .slice none 0 0]) ?_ 2 _ rfl; (with_reducible repeat (first | refine blk_drewN ?_ _ | refine blk_drew ?_ | refine blk_alloc ?_ _)); refine blk_put (cs := #[.int .i64 0, .slice none 0 0, .slice none 0 0, .slice none 0 0]) ?_ 1 _ rfl; (with_reducible repeat (first | refine blk_drewN ?_ _ | refine blk_drew ?_ | refine blk_alloc ?_ _)); refine blk_put (cs := #[.int .i64 0, .slice none 0 0, .slice none 0 0, .slice none 0 0]) ?_ 0 _ rfl; (with_reducible repeat (first | refine blk_drewN ?_ _ | refine blk_drew ?_ | refine blk_alloc ?_ _)); exact BK2.out) Try.underlying52 rfl (by kernel_rfl)) rfl ?_
    exact ⟨_, _, _, rfl, Kd.R_nil _ _ _ _ _, Kd.R_nil _ _ _ _ _, Kd.R_nil _ _ _ _ _, bh HB.out⟩
  | true =>
    rw [if_pos rfl] at H
    obtain ⟨⟨z0, z1, z2, z3⟩, A2_, H⟩ := Option.bind_eq_some_iff.mp H
    have H2 := Aside0.mk A2_
    clear A2_
    dsimp only at H
    have H3 := Aside0.mk H
    clear H
    go_enter Try.func27, Try.ntmps27
    go_wp2_with (first | ((with_reducible refine gate_dst (N := 2) rfl ?_); refine box_event ?hg (N := 2) ?hd (cs := #[.int .i64 0, .slice none 0 0, .slice none 0 0, .slice none 0 0]) (t := 52) ?hr ?_; (case hd => rfl); (case hg => rfl); (case hr => first | (go_simp; done) | (go_simp; rfl)); intro g2 hg w2 hbox hb; have n0_ := Aside0.mk (below_step HB.out hb); have n1_ := Aside0.mk (hbox); have n2_ := Aside0.mk ((by rw [hg]; exact below_size HB.out : w.heap.size ≤ g2)); clear HB; have HB := n0_; have BK2 := n1_; have GE2 := n2_; clear n0_ n1_ n2_ hb hbox hg) | (go_at_call 55; (with_reducible refine (span_May.calls k _ _ l0 true _ ?side1 ?side2 H1.out).mono ?_); (case side1 => exact (Kd.C_below HR0.out HB.out)); (case side2 => exact HC0.out); rintro e w3 ⟨rfl, hb⟩; have n0_ := Aside0.mk (below_step HB.out hb); have n1_ := Aside0.mk (blk_below BK2.out hb); clear HB BK2; have HB := n0_; have BK2 := n1_; clear n0_ n1_ hb) | (go_at_call 56; (with_reducible refine (poslist_costs.calls k _ _ l0 _ _ _ _ _ ?side1 ?side2 H2.out).mono ?_); (case side1 => exact (Kd.C_below HR0.out HB.out)); (case side2 => exact HC0.out); rintro e w4 ⟨rfl, hb⟩; have n0_ := Aside0.mk (below_step HB.out hb); have n1_ := Aside0.mk (blk_below BK2.out hb); clear HB BK2; have HB := n0_; have BK2 := n1_; clear n0_ n1_ hb) | ((with_reducible refine gate_dst (N := 4) rfl ?_); refine box_event ?hg (N := 4) ?hd (cs := #[.int .i64 0, .int .i64 0, .int .i64 0, .int .i64 0]) (t := 80) ?hr ?_; (case hd => rfl); (case hg => rfl); (case hr => first | (go_simp; done) | (go_simp; rfl)); intro g4 hg w5 hbox hb; have n0_ := Aside0.mk (below_step HB.out hb); have n1_ := Aside0.mk (blk_below BK2.out hb); have n2_ := Aside0.mk (hbox); have n3_ := Aside0.mk ((by rw [hg]; exact below_size HB.out : w.heap.size ≤ g4)); have n4_ := Aside0.mk ((by rw [hg]; exact Nat.ne_of_lt (blk_lt BK2.out) : g2 ≠ g4)); have n5_ := Aside0.mk ((by rw [hg]; exact (Nat.ne_of_lt (blk_lt BK2.out)).symm : g4 ≠ g2)); clear HB BK2; have HB := n0_; have BK2 := n1_; have BK4 := n2_; have GE4 := n3_; have NB24 := n4_; have NB42 := n5_; clear n0_ n1_ n2_ n3_ n4_ n5_ hb hbox hg; have hc40 : w5.cell? ⟨g4, 0, none⟩ = some (.int .i64 0) := (blk_cell BK4.out 0).trans rfl; have hc41 : w5.cell? ⟨g4, 1, none⟩ = some (.int .i64 0) := (blk_cell BK4.out 1).trans rfl; have hc42 : w5.cell? ⟨g4, 2, none⟩ = some (.int .i64 0) := (blk_cell BK4.out 2).trans rfl; have hc43 : w5.cell? ⟨g4, 3, none⟩ = some (.int .i64 0) := (blk_cell BK4.out 3).trans rfl; have hf40 := blk_frozen BK4.out 0; have hf41 := blk_frozen BK4.out 1; have hf42 := blk_frozen BK4.out 2; have hf43 := blk_frozen BK4.out 3))
    go_loopg [5, 6] 3 (fun kq v5 v6 w' => ∃ (b f : Int), v5 = .int .i64 b ∧ v6 = .int .i64 f ∧ Aside0 ((kq = 3 ∧ f = 2 ∧ b = 1) ∨ (kq = 2 ∧ f = 3 ∧ b = poslist_Best.b1 z1 z2) ∨ (kq = 1 ∧ f = 4 ∧ b = poslist_Best.b2 z1 z2 z3)) ∧ Aside0 (w'.heap[g2]? = some (.cells #[.int .i64 0, .slice none 0 0, .slice none 0 0, .slice none 0 0] 52 (0, 0))) ∧ Aside0 (w'.heap[g4]? = some (.cells #[.int .i64 z0, .int .i64 z1, .int .i64 z2, .int .i64 z3] 80 (0, 0))) ∧ Aside0 (Below w.heap.size w w'))
    case atStart => exact ⟨1, 2, rfl, rfl, ⟨.inl ⟨rfl, rfl, rfl⟩⟩, ⟨bx BK2.out⟩, ⟨by (with_reducible repeat (first | refine blk_drewN ?_ _ | refine blk_drew ?_ | refine blk_alloc ?_ _)); refine blk_put (cs := #[.int .i64 z0, .int .i64 z1, .int .i64 z2, .int .i64 0]) ?_ 3 _ rfl; (with_reducible repeat (first | refine blk_drewN ?_ _ | refine blk_drew ?_ | refine blk_alloc ?_ _)); refine blk_put (cs := #[.int .i64 z0, .int .i64 z1, .int .i64 0, .int .i64 0]) ?_ 2 _ rfl; (with_reducible repeat (first | refine blk_drewN ?_ _ | refine blk_drew ?_ | refine blk_alloc ?_ _)); refine blk_put (cs := #[.int .i64 z0, .int .i64 0, .int .i64 0, .int .i64 0]) ?_ 1 _ rfl; (with_reducible repeat (first | refine blk_drewN ?_ _ | refine blk_drew ?_ | refine blk_alloc ?_ _)); refine blk_put (cs := #[.int .i64 0, .int .i64 0, .int .i64 0, .int .i64 0]) ?_ 0 _ rfl; (with_reducible repeat (first | refine blk_drewN ?_ _ | refine blk_drew ?_ | refine blk_alloc ?_ _)); exact BK4.out⟩, ⟨bh HB.out⟩⟩
    case round =>
      clear BK2 BK4 HB
      obtain ⟨b, f, rfl, rfl, HD, BK2, BK4, HB⟩ := hrel
      have hd := HD.out
      clear HD
      have hc40 : wr.cell? ⟨g4, 0, none⟩ = some (.int .i64 z0) := (blk_cell BK4.out 0).trans rfl
      have hc41 : wr.cell? ⟨g4, 1, none⟩ = some (.int .i64 z1) := (blk_cell BK4.out 1).trans rfl
      have hc42 : wr.cell? ⟨g4, 2, none⟩ = some (.int .i64 z2) := (blk_cell BK4.out 2).trans rfl
      have hc43 : wr.cell? ⟨g4, 3, none⟩ = some (.int .i64 z3) := (blk_cell BK4.out 3).trans rfl
      rcases hd with ⟨rfl, rfl, rfl⟩ | ⟨rfl, rfl, rfl⟩ | ⟨rfl, rfl, rfl⟩
      · by_cases q : z2 < z1
        · have qb : decide (z2 < z1) = true := decide_eq_true q
          go_wp2
          go_region
          go_wp2
          go_roundg 2
          case measure => omega
          case rel => exact ⟨2, 3, rfl, rfl, ⟨.inr (.inl ⟨rfl, rfl, by rw [poslist_Best.b1, if_pos q]⟩)⟩, ⟨bx BK2.out⟩, ⟨bx BK4.out⟩, ⟨bh HB.out⟩⟩
        · have qb : decide (z2 < z1) = false := decide_eq_false q
          go_wp2
          go_region
          go_wp2
          go_roundg 2
          case measure => omega
          case rel => exact ⟨1, 3, rfl, rfl, ⟨.inr (.inl ⟨rfl, rfl, by rw [poslist_Best.b1, if_neg (by omega)]⟩)⟩, ⟨bx BK2.out⟩, ⟨bx BK4.out⟩, ⟨bh HB.out⟩⟩
      · by_cases q : z2 < z1
        · have e1 : poslist_Best.b1 z1 z2 = 2 := by rw [poslist_Best.b1, if_pos q]
          by_cases p : z3 < z2
          · have pb : decide (z3 < z2) = true := decide_eq_true p
            rw [e1]
            go_wp2
            go_region
            go_wp2
            go_roundg 1
            case measure => omega
            case rel => exact ⟨3, 4, rfl, rfl, ⟨.inr (.inr ⟨rfl, rfl, by rw [poslist_Best.b2, if_pos q, if_pos p]⟩)⟩, ⟨bx BK2.out⟩, ⟨bx BK4.out⟩, ⟨bh HB.out⟩⟩
          · have pb : decide (z3 < z2) = false := decide_eq_false p
            rw [e1]
            go_wp2
            go_region
            go_wp2
            go_roundg 1
            case measure => omega
            case rel => exact ⟨2, 4, rfl, rfl, ⟨.inr (.inr ⟨rfl, rfl, by rw [poslist_Best.b2, if_pos q, if_neg (by omega)]⟩)⟩, ⟨bx BK2.out⟩, ⟨bx BK4.out⟩, ⟨bh HB.out⟩⟩
        · have e1 : poslist_Best.b1 z1 z2 = 1 := by rw [poslist_Best.b1, if_neg (by omega)]
          by_cases p : z3 < z1
          · have pb : decide (z3 < z1) = true := decide_eq_true p
            rw [e1]
            go_wp2
            go_region
            go_wp2
            go_roundg 1
            case measure => omega
            case rel => exact ⟨3, 4, rfl, rfl, ⟨.inr (.inr ⟨rfl, rfl, by rw [poslist_Best.b2, if_neg (by omega), if_pos p]⟩)⟩, ⟨bx BK2.out⟩, ⟨bx BK4.out⟩, ⟨bh HB.out⟩⟩
          · have pb : decide (z3 < z1) = false := decide_eq_false p
            rw [e1]
            go_wp2
            go_region
            go_wp2
            go_roundg 1
            case measure => omega
            case rel => exact ⟨1, 4, rfl, rfl, ⟨.inr (.inr ⟨rfl, rfl, by rw [poslist_Best.b2, if_neg (by omega), if_neg (by omega)]⟩)⟩, ⟨bx BK2.out⟩, ⟨bx BK4.out⟩, ⟨bh HB.out⟩⟩
      · generalize poslist_Best.b2 z1 z2 z3 = bb at H3
        go_wp2_with (first | (go_at_call 57; (with_reducible refine (poslist_Of.calls k _ _ l0 bb r1 r2 r3 r4 r5 _ ?side1 ?side2 H3.out).mono ?_); (case side1 => exact (Kd.C_below HR0.out HB.out)); (case side2 => exact HC0.out); have hlt2 := blk_lt BK2.out; have HB0 := HB; rintro e w6 ⟨v1, v2, v3, rfl, hv1, hv2, hv3, hb⟩; have n0_ := Aside0.mk (below_step HB.out hb); have n1_ := Aside0.mk (blk_below BK2.out hb); clear HB BK2; have HB := n0_; have BK2 := n1_; clear n0_ n1_ hb; obtain ⟨Av1, cv1, rfl⟩ := Kd.R_slice hv1; obtain ⟨Av2, cv2, rfl⟩ := Kd.R_slice hv2; obtain ⟨Av3, cv3, rfl⟩ := Kd.R_slice hv3; have hc20 : w6.cell? ⟨g2, 0, none⟩ = some (.int .i64 0) := (blk_cell BK2.out 0).trans rfl; have hc21 : w6.cell? ⟨g2, 1, none⟩ = some (.slice none 0 0) := (blk_cell BK2.out 1).trans rfl; have hc22 : w6.cell? ⟨g2, 2, none⟩ = some (.slice none 0 0) := (blk_cell BK2.out 2).trans rfl; have hc23 : w6.cell? ⟨g2, 3, none⟩ = some (.slice none 0 0) := (blk_cell BK2.out 3).trans rfl; have hf20 := blk_frozen BK2.out 0; have hf21 := blk_frozen BK2.out 1; have hf22 := blk_frozen BK2.out 2; have hf23 := blk_frozen BK2.out 3))
        refine bodyPost_ret (results_ct rfl _ _ g2 52 #[.int .i64 r1, .slice Av1 r2.length cv1, .slice Av2 r3.length cv2, .slice Av3 r4.length cv3] (0, 0) _ rfl (by (with_reducible repeat (first | refine blk_drewN ?_ _ | refine blk_drew ?_ | refine blk_alloc ?_ _)); refine blk_put (cs := #[.int .i64 r1, .slice Av1 r2.length cv1, .slice Av2 r3.length cv2, .slice none 0 0]) ?_ 3 _ rfl; (with_reducible repeat (first | refine blk_drewN ?_ _ | refine blk_drew ?_ | refine blk_alloc ?_ _)); refine blk_put (cs := #[.int .i64 r1, .slice Av1 r2.length cv1, .slice none 0 0, .slice none 0 0]) ?_ 2 _ rfl; (with_reducible repeat (first | refine blk_drewN ?_ _ | refine blk_drew ?_ | refine blk_alloc ?_ _)); refine blk_put (cs := #[.int .i64 r1, .slice none 0 0, .slice none 0 0, .slice none 0 0]) ?_ 1 _ rfl; (with_reducible repeat (first | refine blk_drewN ?_ _ | refine blk_drew ?_ | refine blk_alloc ?_ _)); refine blk_put (cs := #[.int .i64 0, .slice none 0 0, .slice none 0 0, .slice none 0 0]) ?_ 0 _ rfl; (with_reducible repeat (first | refine blk_drewN ?_ _ | refine blk_drew ?_ | refine blk_alloc ?_ _)); exact BK2.out) Try.underlying52 rfl (by kernel_rfl)) rfl ?_
        have hw_ := below_size HB0.out
        exact ⟨_, _, _, rfl, Kd.R_lower (XR.R_far (XR.R_far (XR.R_far (XR.R_far hv1 hlt2) hlt2) hlt2) hlt2) hw_, Kd.R_lower (XR.R_far (XR.R_far (XR.R_far (XR.R_far hv2 hlt2) hlt2) hlt2) hlt2) hw_, Kd.R_lower (XR.R_far (XR.R_far (XR.R_far (XR.R_far hv3 hlt2) hlt2) hlt2) hlt2) hw_, bh HB.out⟩
/-! ### words_May: function 91 -/
def words_May.f (l0 : List Int) : Option (Bool) := if (l0.length : Int) ≤ 1024 then (if (l0.length : Int) = 0 then (some true) else (if 0 ≤ (wrap64 ((l0.length : Int) - 1)) then (if (wrap64 ((l0.length : Int) - 1)) < (l0.length : Int) then (some ((rd l0 (wrap64 ((l0.length : Int) - 1))) != 0)) else (none)) else (none))) else (some false)
set_option maxHeartbeats 8000000 in
set_option maxRecDepth 100000 in
theorem words_May.calls (A0 : Option Addr) (c0 : Nat) (l0 : List Int) (r : Bool) (w : World) (hr0 : Kd.C (Kd.int .i64) w A0 l0.length l0) (hc0 : l0.length ≤ c0) (h : words_May.f l0 = some r) :
  Calls Try.prog 91 #[.slice A0 l0.length c0] w fun e w' => e = .returned (.bool r) ∧ Drawn0 w w' := by
 have HR0 := Aside0.mk hr0
 have HC0 := Aside0.mk hc0
 clear hr0 hc0
 have H : (if (l0.length : Int) ≤ 1024 then (if (l0.length : Int) = 0 then (some true) else (if 0 ≤ (wrap64 ((l0.length : Int) - 1)) then (if (wrap64 ((l0.length : Int) - 1)) < (l0.length : Int) then (some ((rd l0 (wrap64 ((l0.length : Int) - 1))) != 0)) else (none)) else (none))) else (some false)) = some r := h
 clear h
 by_cases c2 : (l0.length : Int) ≤ 1024
 ·rw [if_pos c2] at H
  have c2b0 : decide ((l0.length : Int) ≤ 1024) = true := decide_eq_true c2
  have c2b1 : decide (l0.length ≤ 1024) = true := decide_eq_true (by omega)
  clear c2
  by_cases c3 : (l0.length : Int) = 0
  ·rw [if_pos c3] at H
   have c3b0 : ((l0.length : Int) == 0) = true := beq_iff_eq.mpr c3
   have c3b1 : ((l0.length : Int) != 0) = false := bne_eq_false_iff_eq.mpr c3
   clear c3
   obtain rfl := Option.some.inj H
   go_enter Try.func91, Try.ntmps91
   go_wp2
   go_ret
   exact ⟨by first | rfl | (unfold wrap64; rfl) | (simp; done) | (simp [*]; done), by repeat (first | exact Drawn0.refl _ | apply Drawn0.step)⟩
  ·rw [if_neg c3] at H
   have c3b0 : ((l0.length : Int) == 0) = false := beq_eq_false_iff_ne.mpr c3
   have c3b1 : ((l0.length : Int) != 0) = true := bne_iff_ne.mpr c3
   have c3b2 : ¬ (l0 = []) := fun h_ => c3 (by rw [h_]; rfl)
   obtain ⟨ji4, hji4⟩ : ∃ j_ : Int, (wrap64 ((l0.length : Int) - 1)) = j_ := ⟨_, rfl⟩
   replace H : (if 0 ≤ (ji4) then (if (ji4) < (l0.length : Int) then (some ((rd l0 (ji4)) != 0)) else (none)) else (none)) = some r := by first | (rw [hji4] at H; exact H) | (simp only [hji4] at H ⊢; exact H)
   have hji4w : (IntKind.i64.wrap ((l0.length : Int) - 1)) = ji4 := (i64_w _).trans hji4
   by_cases c5 : 0 ≤ (ji4)
   ·rw [if_pos c5] at H
    have c5b0 : decide (0 ≤ (ji4)) = true := decide_eq_true c5
    clear c5
    by_cases c6 : (ji4) < (l0.length : Int)
    ·rw [if_pos c6] at H
     have c6b0 : decide ((ji4) < (l0.length : Int)) = true := decide_eq_true c6
     clear c6
     obtain rfl := Option.some.inj H
     have p262 : 0 ≤ ((ji4) : Int) := of_decide_eq_true (by assumption)
     have q262 : (ji4) < (l0.length : Int) := of_decide_eq_true (by assumption)
     obtain ⟨ad262, e262, hx262_0⟩ := Kd.at_int HR0.out (ji4) p262 q262
     cases e262
     replace p262 := eq_true p262
     replace q262 := eq_true q262
     go_enter Try.func91, Try.ntmps91
     go_wp2
     go_ret
     exact ⟨by first | rfl | (unfold wrap64; rfl) | (simp; done) | (simp only [← hji4] <;> (first | rfl | simp)) | (simp [*]; done), by repeat (first | exact Drawn0.refl _ | apply Drawn0.step)⟩
    ·rw [if_neg c6] at H
     exact absurd H (by simp)
   ·rw [if_neg c5] at H
    exact absurd H (by simp)
 ·rw [if_neg c2] at H
  have c2b0 : decide ((l0.length : Int) ≤ 1024) = false := decide_eq_false c2
  have c2b1 : decide (l0.length ≤ 1024) = false := decide_eq_false (by omega)
  clear c2
  obtain rfl := Option.some.inj H
  go_enter Try.func91, Try.ntmps91
  go_wp2
  go_ret
  exact ⟨by first | rfl | (unfold wrap64; rfl) | (simp; done) | (simp [*]; done), by repeat (first | exact Drawn0.refl _ | apply Drawn0.step)⟩
end Go.Proofs.Ytbmlfbbcgbgnoaa.Print
end
section
namespace Go.Proofs.Ytbmlfbbcgbgnoaa.Print
open Go.RowKit Go.Proofs.YtbmlfbbcgbgnoaaW.PrintWords Go.Proofs.YtbmlfbbcgbgnoaaW.PrintLast Go.Proofs.YtbmlfbbcgbgnoaaW.PrintMore
attribute [local go_sem] max2_int min2_int max_two min_two max_three min_three max_four min_four   -- for this text's walks alone
set_option linter.unusedVariables false
set_option linter.unusedSimpArgs false
/-! ### bits_half: function 123 -/
mutual
def bits_half.j0 : Nat → Int → Int → Bool → Option (Int)
 | 0, _, _, _ => none
 | k + 1, x3, x5, x8 => if x8 = true then (some (wrap64 ((wrap64 ((wrap64 (x3 + 1)) + 1)) + 1))) else (if x5 = 3 then (bits_half.j1 k x3 x5 (x5 == 3)) else (if x5 = 5 then (bits_half.j1 k x3 x5 (x5 == 5)) else (if x5 = 6 then (bits_half.j1 k x3 x5 (x5 == 6)) else (if x5 = 9 then (bits_half.j1 k x3 x5 (x5 == 9)) else (if x5 = 10 then (bits_half.j1 k x3 x5 (x5 == 10)) else (bits_half.j1 k x3 x5 (x5 == 12)))))))
def bits_half.j1 : Nat → Int → Int → Bool → Option (Int)
 | 0, _, _, _ => none
 | k + 1, x3, x5, x13 => if x13 = true then (some (wrap64 ((wrap64 (x3 + 1)) + 1))) else (if x5 = 1 then (some (wrap64 (x3 + 1))) else (if x5 = 2 then (some (wrap64 (x3 + 1))) else (if x5 = 4 then (some (wrap64 (x3 + 1))) else (if x5 = 8 then (some (wrap64 (x3 + 1))) else (some x3)))))
end
def bits_half.f (k : Nat) (a0 : Int) : Option (Int) := if (Go.bits .and .u64 a0 15) = 15 then (some ((((0 + 1) + 1) + 1) + 1)) else (if (Go.bits .and .u64 a0 15) = 7 then (bits_half.j0 k 0 (Go.bits .and .u64 a0 15) ((Go.bits .and .u64 a0 15) == 7)) else (if (Go.bits .and .u64 a0 15) = 11 then (bits_half.j0 k 0 (Go.bits .and .u64 a0 15) ((Go.bits .and .u64 a0 15) == 11)) else (if (Go.bits .and .u64 a0 15) = 13 then (bits_half.j0 k 0 (Go.bits .and .u64 a0 15) ((Go.bits .and .u64 a0 15) == 13)) else (bits_half.j0 k 0 (Go.bits .and .u64 a0 15) ((Go.bits .and .u64 a0 15) == 14)))))
theorem bits_half.j0_succ (k : Nat) (x3 : Int) (x5 : Int) (x8 : Bool) : bits_half.j0 (k + 1) x3 x5 x8 = (if x8 = true then (some (wrap64 ((wrap64 ((wrap64 (x3 + 1)) + 1)) + 1))) else (if x5 = 3 then (bits_half.j1 k x3 x5 (x5 == 3)) else (if x5 = 5 then (bits_half.j1 k x3 x5 (x5 == 5)) else (if x5 = 6 then (bits_half.j1 k x3 x5 (x5 == 6)) else (if x5 = 9 then (bits_half.j1 k x3 x5 (x5 == 9)) else (if x5 = 10 then (bits_half.j1 k x3 x5 (x5 == 10)) else (bits_half.j1 k x3 x5 (x5 == 12)))))))) := by
 simp only [bits_half.j0]
theorem bits_half.j1_succ (k : Nat) (x3 : Int) (x5 : Int) (x13 : Bool) : bits_half.j1 (k + 1) x3 x5 x13 = (if x13 = true then (some (wrap64 ((wrap64 (x3 + 1)) + 1))) else (if x5 = 1 then (some (wrap64 (x3 + 1))) else (if x5 = 2 then (some (wrap64 (x3 + 1))) else (if x5 = 4 then (some (wrap64 (x3 + 1))) else (if x5 = 8 then (some (wrap64 (x3 + 1))) else (some x3)))))) := by
 simp only [bits_half.j1]
set_option maxHeartbeats 8000000 in
set_option maxRecDepth 100000 in
theorem bits_half.calls (k : Nat) (a0 : Int) (r : Int) (w : World) (h : bits_half.f k a0 = some r) :
  Calls Try.prog 123 #[.int .u64 a0] w fun e w' => e = .returned (.int .i64 r) ∧ Drawn0 w w' := by
 have H : (if (Go.bits .and .u64 a0 15) = 15 then (some ((((0 + 1) + 1) + 1) + 1)) else (if (Go.bits .and .u64 a0 15) = 7 then (bits_half.j0 k 0 (Go.bits .and .u64 a0 15) ((Go.bits .and .u64 a0 15) == 7)) else (if (Go.bits .and .u64 a0 15) = 11 then (bits_half.j0 k 0 (Go.bits .and .u64 a0 15) ((Go.bits .and .u64 a0 15) == 11)) else (if (Go.bits .and .u64 a0 15) = 13 then (bits_half.j0 k 0 (Go.bits .and .u64 a0 15) ((Go.bits .and .u64 a0 15) == 13)) else (bits_half.j0 k 0 (Go.bits .and .u64 a0 15) ((Go.bits .and .u64 a0 15) == 14)))))) = some r := h
 clear h
 by_cases c2 : (Go.bits .and .u64 a0 15) = 15
 ·rw [if_pos c2] at H
  have c2b0 : ((Go.bits .and .u64 a0 15) == 15) = true := beq_iff_eq.mpr c2
  have c2b1 : ((Go.bits .and .u64 a0 15) != 15) = false := bne_eq_false_iff_eq.mpr c2
  clear c2
  obtain rfl := Option.some.inj H
  go_enter Try.func123, Try.ntmps123
  go_wp2
  go_ret
  exact ⟨by first | rfl | (unfold wrap64; rfl) | (simp; done) | (simp [*]; done), by repeat (first | exact Drawn0.refl _ | apply Drawn0.step)⟩
 ·rw [if_neg c2] at H
  have c2b0 : ((Go.bits .and .u64 a0 15) == 15) = false := beq_eq_false_iff_ne.mpr c2
  have c2b1 : ((Go.bits .and .u64 a0 15) != 15) = true := bne_iff_ne.mpr c2
  have HC3 := Aside0.mk H
  clear H
  go_enter Try.func123, Try.ntmps123
  go_upto_if 8 with (fail)
  go_cut [8] (fun v8 wc => ∃ (kq : Nat) (x8_2 : Bool), v8 = .bool x8_2 ∧ Aside0 (bits_half.j0 kq 0 (Go.bits .and .u64 a0 15) x8_2 = some r) ∧ Aside0 (kq ≤ k) ∧ Drawn0 w wc)
  case first =>
   have H := HC3.out
   clear HC3
   by_cases c4 : (Go.bits .and .u64 a0 15) = 7
   ·rw [if_pos c4] at H
    have c4b0 : ((Go.bits .and .u64 a0 15) == 7) = true := beq_iff_eq.mpr c4
    have c4b1 : ((Go.bits .and .u64 a0 15) != 7) = false := bne_eq_false_iff_eq.mpr c4
    clear c4
    (first | rw [c4b0] | (simp only [i64_w, i32_w]; rw [c4b0]) | skip)
    have H' := Aside0.mk H
    clear H
    go_wp2
    go_meet
    case rel => exact ⟨_, (((Go.bits .and .u64 a0 15) == 7)), (by first | rfl | (simp; done) | (simp [*]; done)), H', ⟨by first | omega | exact Nat.le_refl _⟩, by repeat (first | exact Drawn0.refl _ | apply Drawn0.step)⟩
   ·rw [if_neg c4] at H
    have c4b0 : ((Go.bits .and .u64 a0 15) == 7) = false := beq_eq_false_iff_ne.mpr c4
    have c4b1 : ((Go.bits .and .u64 a0 15) != 7) = true := bne_iff_ne.mpr c4
    (first | rw [c4b0] | (simp only [i64_w, i32_w]; rw [c4b0]) | skip)
    by_cases c5 : (Go.bits .and .u64 a0 15) = 11
    ·rw [if_pos c5] at H
     have c5b0 : ((Go.bits .and .u64 a0 15) == 11) = true := beq_iff_eq.mpr c5
     have c5b1 : ((Go.bits .and .u64 a0 15) != 11) = false := bne_eq_false_iff_eq.mpr c5
     clear c5
     have H' := Aside0.mk H
     clear H
     go_wp2
     go_meet
     case rel => exact ⟨_, (((Go.bits .and .u64 a0 15) == 11)), (by first | rfl | (simp; done) | (simp [*]; done)), H', ⟨by first | omega | exact Nat.le_refl _⟩, by repeat (first | exact Drawn0.refl _ | apply Drawn0.step)⟩
    ·rw [if_neg c5] at H
     have c5b0 : ((Go.bits .and .u64 a0 15) == 11) = false := beq_eq_false_iff_ne.mpr c5
     have c5b1 : ((Go.bits .and .u64 a0 15) != 11) = true := bne_iff_ne.mpr c5
     by_cases c6 : (Go.bits .and .u64 a0 15) = 13
     ·rw [if_pos c6] at H
      have c6b0 : ((Go.bits .and .u64 a0 15) == 13) = true := beq_iff_eq.mpr c6
      have c6b1 : ((Go.bits .and .u64 a0 15) != 13) = false := bne_eq_false_iff_eq.mpr c6
      clear c6
      have H' := Aside0.mk H
      clear H
      go_wp2
      go_meet
      case rel => exact ⟨_, (((Go.bits .and .u64 a0 15) == 13)), (by first | rfl | (simp; done) | (simp [*]; done)), H', ⟨by first | omega | exact Nat.le_refl _⟩, by repeat (first | exact Drawn0.refl _ | apply Drawn0.step)⟩
     ·rw [if_neg c6] at H
      have c6b0 : ((Go.bits .and .u64 a0 15) == 13) = false := beq_eq_false_iff_ne.mpr c6
      have c6b1 : ((Go.bits .and .u64 a0 15) != 13) = true := bne_iff_ne.mpr c6
      have H' := Aside0.mk H
      clear H
      go_wp2
      go_meet
      case rel => exact ⟨_, (((Go.bits .and .u64 a0 15) == 14)), (by first | rfl | (simp; done) | (simp [*]; done)), H', ⟨by first | omega | exact Nat.le_refl _⟩, by repeat (first | exact Drawn0.refl _ | apply Drawn0.step)⟩
  case rest =>
   clear HC3
   try clear c2
   try clear c2b0
   try clear c2b1
   try clear c4
   try clear c4b0
   try clear c4b1
   try clear c5
   try clear c5b0
   try clear c5b1
   try clear c6
   try clear c6b0
   try clear c6b1
   obtain ⟨kq, x8_2, rfl, HA, HJ2, ⟨mc2, rfl⟩⟩ := hcut
   cases kq with
   | zero => exact absurd HA.out (by simp [bits_half.j0])
   | succ kj2 =>
    have H := HA.out
    clear HA
    simp only [bits_half.j0] at H
    by_cases c7 : x8_2 = true
    ·subst c7
     have H1 : (some (wrap64 ((wrap64 ((wrap64 (0 + 1)) + 1)) + 1))) = some r := by rw [if_pos rfl] at H; exact H
     clear H
     have H := H1
     clear H1
     obtain rfl := Option.some.inj H
     go_wp2
     go_ret
     exact ⟨by first | rfl | (unfold wrap64; rfl) | (simp; done) | (simp [*]; done), by repeat (first | exact Drawn0.refl _ | apply Drawn0.step)⟩
    ·replace c7 := Bool.eq_false_iff.mpr c7
     subst c7
     have H1 : (if (Go.bits .and .u64 a0 15) = 3 then (bits_half.j1 kj2 0 (Go.bits .and .u64 a0 15) ((Go.bits .and .u64 a0 15) == 3)) else (if (Go.bits .and .u64 a0 15) = 5 then (bits_half.j1 kj2 0 (Go.bits .and .u64 a0 15) ((Go.bits .and .u64 a0 15) == 5)) else (if (Go.bits .and .u64 a0 15) = 6 then (bits_half.j1 kj2 0 (Go.bits .and .u64 a0 15) ((Go.bits .and .u64 a0 15) == 6)) else (if (Go.bits .and .u64 a0 15) = 9 then (bits_half.j1 kj2 0 (Go.bits .and .u64 a0 15) ((Go.bits .and .u64 a0 15) == 9)) else (if (Go.bits .and .u64 a0 15) = 10 then (bits_half.j1 kj2 0 (Go.bits .and .u64 a0 15) ((Go.bits .and .u64 a0 15) == 10)) else (bits_half.j1 kj2 0 (Go.bits .and .u64 a0 15) ((Go.bits .and .u64 a0 15) == 12))))))) = some r := by rw [if_neg (show ¬ (false = true) by decide)] at H; exact H
     clear H
     have H := H1
     clear H1
     have HC8 := Aside0.mk H
     clear H
     go_upto_if 13 with (fail)
     go_cut [13] (fun v13 wc => ∃ (kq : Nat) (x13_7 : Bool), v13 = .bool x13_7 ∧ Aside0 (bits_half.j1 kq 0 (Go.bits .and .u64 a0 15) x13_7 = some r) ∧ Aside0 (kq ≤ kj2) ∧ Drawn0 w wc)
     case first =>
      have H := HC8.out
      clear HC8
      by_cases c9 : (Go.bits .and .u64 a0 15) = 3
      ·rw [if_pos c9] at H
       have c9b0 : ((Go.bits .and .u64 a0 15) == 3) = true := beq_iff_eq.mpr c9
       have c9b1 : ((Go.bits .and .u64 a0 15) != 3) = false := bne_eq_false_iff_eq.mpr c9
       clear c9
       (first | rw [c9b0] | (simp only [i64_w, i32_w]; rw [c9b0]) | skip)
       have H' := Aside0.mk H
       clear H
       go_wp2
       go_meet
       case rel => exact ⟨_, (((Go.bits .and .u64 a0 15) == 3)), (by first | rfl | (simp; done) | (simp [*]; done)), H', ⟨by have := HJ2.out; first | omega | exact Nat.le_refl _⟩, by repeat (first | exact Drawn0.refl _ | apply Drawn0.step)⟩
      ·rw [if_neg c9] at H
       have c9b0 : ((Go.bits .and .u64 a0 15) == 3) = false := beq_eq_false_iff_ne.mpr c9
       have c9b1 : ((Go.bits .and .u64 a0 15) != 3) = true := bne_iff_ne.mpr c9
       (first | rw [c9b0] | (simp only [i64_w, i32_w]; rw [c9b0]) | skip)
       by_cases c10 : (Go.bits .and .u64 a0 15) = 5
       ·rw [if_pos c10] at H
        have c10b0 : ((Go.bits .and .u64 a0 15) == 5) = true := beq_iff_eq.mpr c10
        have c10b1 : ((Go.bits .and .u64 a0 15) != 5) = false := bne_eq_false_iff_eq.mpr c10
        clear c10
        have H' := Aside0.mk H
        clear H
        go_wp2
        go_meet
        case rel => exact ⟨_, (((Go.bits .and .u64 a0 15) == 5)), (by first | rfl | (simp; done) | (simp [*]; done)), H', ⟨by have := HJ2.out; first | omega | exact Nat.le_refl _⟩, by repeat (first | exact Drawn0.refl _ | apply Drawn0.step)⟩
       ·rw [if_neg c10] at H
        have c10b0 : ((Go.bits .and .u64 a0 15) == 5) = false := beq_eq_false_iff_ne.mpr c10
        have c10b1 : ((Go.bits .and .u64 a0 15) != 5) = true := bne_iff_ne.mpr c10
        by_cases c11 : (Go.bits .and .u64 a0 15) = 6
        ·rw [if_pos c11] at H
         have c11b0 : ((Go.bits .and .u64 a0 15) == 6) = true := beq_iff_eq.mpr c11
         have c11b1 : ((Go.bits .and .u64 a0 15) != 6) = false := bne_eq_false_iff_eq.mpr c11
         clear c11
         have H' := Aside0.mk H
         clear H
         go_wp2
         go_meet
         case rel => exact ⟨_, (((Go.bits .and .u64 a0 15) == 6)), (by first | rfl | (simp; done) | (simp [*]; done)), H', ⟨by have := HJ2.out; first | omega | exact Nat.le_refl _⟩, by repeat (first | exact Drawn0.refl _ | apply Drawn0.step)⟩
        ·rw [if_neg c11] at H
         have c11b0 : ((Go.bits .and .u64 a0 15) == 6) = false := beq_eq_false_iff_ne.mpr c11
         have c11b1 : ((Go.bits .and .u64 a0 15) != 6) = true := bne_iff_ne.mpr c11
         by_cases c12 : (Go.bits .and .u64 a0 15) = 9
         ·rw [if_pos c12] at H
          have c12b0 : ((Go.bits .and .u64 a0 15) == 9) = true := beq_iff_eq.mpr c12
          have c12b1 : ((Go.bits .and .u64 a0 15) != 9) = false := bne_eq_false_iff_eq.mpr c12
          clear c12
          have H' := Aside0.mk H
          clear H
          go_wp2
          go_meet
          case rel => exact ⟨_, (((Go.bits .and .u64 a0 15) == 9)), (by first | rfl | (simp; done) | (simp [*]; done)), H', ⟨by have := HJ2.out; first | omega | exact Nat.le_refl _⟩, by repeat (first | exact Drawn0.refl _ | apply Drawn0.step)⟩
         ·rw [if_neg c12] at H
          have c12b0 : ((Go.bits .and .u64 a0 15) == 9) = false := beq_eq_false_iff_ne.mpr c12
          have c12b1 : ((Go.bits .and .u64 a0 15) != 9) = true := bne_iff_ne.mpr c12
          by_cases c13 : (Go.bits .and .u64 a0 15) = 10
          ·rw [if_pos c13] at H
           have c13b0 : ((Go.bits .and .u64 a0 15) == 10) = true := beq_iff_eq.mpr c13
           have c13b1 : ((Go.bits .and .u64 a0 15) != 10) = false := bne_eq_false_iff_eq.mpr c13
           clear c13
           have H' := Aside0.mk H
           clear H
           go_wp2
           go_meet
           case rel => exact ⟨_, (((Go.bits .and .u64 a0 15) == 10)), (by first | rfl | (simp; done) | (simp [*]; done)), H', ⟨by have := HJ2.out; first | omega | exact Nat.le_refl _⟩, by repeat (first | exact Drawn0.refl _ | apply Drawn0.step)⟩
          ·rw [if_neg c13] at H
           have c13b0 : ((Go.bits .and .u64 a0 15) == 10) = false := beq_eq_false_iff_ne.mpr c13
           have c13b1 : ((Go.bits .and .u64 a0 15) != 10) = true := bne_iff_ne.mpr c13
           have H' := Aside0.mk H
           clear H
           go_wp2
           go_meet
           case rel => exact ⟨_, (((Go.bits .and .u64 a0 15) == 12)), (by first | rfl | (simp; done) | (simp [*]; done)), H', ⟨by have := HJ2.out; first | omega | exact Nat.le_refl _⟩, by repeat (first | exact Drawn0.refl _ | apply Drawn0.step)⟩
     case rest =>
      clear HC8
      try clear c2
      try clear c2b0
      try clear c2b1
      try clear c4
      try clear c4b0
      try clear c4b1
      try clear c5
      try clear c5b0
      try clear c5b1
      try clear c6
      try clear c6b0
      try clear c6b1
      try clear c7
      try clear c9
      try clear c9b0
      try clear c9b1
      try clear c10
      try clear c10b0
      try clear c10b1
      try clear c11
      try clear c11b0
      try clear c11b1
      try clear c12
      try clear c12b0
      try clear c12b1
      try clear c13
      try clear c13b0
      try clear c13b1
      obtain ⟨kq, x13_7, rfl, HA, HJ7, ⟨mc7, rfl⟩⟩ := hcut
      cases kq with
      | zero => exact absurd HA.out (by simp [bits_half.j1])
      | succ kj7 =>
       have H := HA.out
       clear HA
       simp only [bits_half.j1] at H
       by_cases c14 : x13_7 = true
       ·subst c14
        have H1 : (some (wrap64 ((wrap64 (0 + 1)) + 1))) = some r := by rw [if_pos rfl] at H; exact H
        clear H
        have H := H1
        clear H1
        obtain rfl := Option.some.inj H
        go_wp2
        go_ret
        exact ⟨by first | rfl | (unfold wrap64; rfl) | (simp; done) | (simp [*]; done), by repeat (first | exact Drawn0.refl _ | apply Drawn0.step)⟩
       ·replace c14 := Bool.eq_false_iff.mpr c14
        subst c14
        have H1 : (if (Go.bits .and .u64 a0 15) = 1 then (some (wrap64 (0 + 1))) else (if (Go.bits .and .u64 a0 15) = 2 then (some (wrap64 (0 + 1))) else (if (Go.bits .and .u64 a0 15) = 4 then (some (wrap64 (0 + 1))) else (if (Go.bits .and .u64 a0 15) = 8 then (some (wrap64 (0 + 1))) else (some 0))))) = some r := by rw [if_neg (show ¬ (false = true) by decide)] at H; exact H
        clear H
        have H := H1
        clear H1
        by_cases c15 : (Go.bits .and .u64 a0 15) = 1
        ·rw [if_pos c15] at H
         have c15b0 : ((Go.bits .and .u64 a0 15) == 1) = true := beq_iff_eq.mpr c15
         have c15b1 : ((Go.bits .and .u64 a0 15) != 1) = false := bne_eq_false_iff_eq.mpr c15
         clear c15
         obtain rfl := Option.some.inj H
         go_wp2
         go_ret
         exact ⟨by first | rfl | (unfold wrap64; rfl) | (simp; done) | (simp [*]; done), by repeat (first | exact Drawn0.refl _ | apply Drawn0.step)⟩
        ·rw [if_neg c15] at H
         have c15b0 : ((Go.bits .and .u64 a0 15) == 1) = false := beq_eq_false_iff_ne.mpr c15
         have c15b1 : ((Go.bits .and .u64 a0 15) != 1) = true := bne_iff_ne.mpr c15
         by_cases c16 : (Go.bits .and .u64 a0 15) = 2
         ·rw [if_pos c16] at H
          have c16b0 : ((Go.bits .and .u64 a0 15) == 2) = true := beq_iff_eq.mpr c16
          have c16b1 : ((Go.bits .and .u64 a0 15) != 2) = false := bne_eq_false_iff_eq.mpr c16
          clear c16
          obtain rfl := Option.some.inj H
          go_wp2
          go_ret
          exact ⟨by first | rfl | (unfold wrap64; rfl) | (simp; done) | (simp [*]; done), by repeat (first | exact Drawn0.refl _ | apply Drawn0.step)⟩
         ·rw [if_neg c16] at H
          have c16b0 : ((Go.bits .and .u64 a0 15) == 2) = false := beq_eq_false_iff_ne.mpr c16
          have c16b1 : ((Go.bits .and .u64 a0 15) != 2) = true := bne_iff_ne.mpr c16
          by_cases c17 : (Go.bits .and .u64 a0 15) = 4
          ·rw [if_pos c17] at H
           have c17b0 : ((Go.bits .and .u64 a0 15) == 4) = true := beq_iff_eq.mpr c17
           have c17b1 : ((Go.bits .and .u64 a0 15) != 4) = false := bne_eq_false_iff_eq.mpr c17
           clear c17
           obtain rfl := Option.some.inj H
           go_wp2
           go_ret
           exact ⟨by first | rfl | (unfold wrap64; rfl) | (simp; done) | (simp [*]; done), by repeat (first | exact Drawn0.refl _ | apply Drawn0.step)⟩
          ·rw [if_neg c17] at H
           have c17b0 : ((Go.bits .and .u64 a0 15) == 4) = false := beq_eq_false_iff_ne.mpr c17
           have c17b1 : ((Go.bits .and .u64 a0 15) != 4) = true := bne_iff_ne.mpr c17
           by_cases c18 : (Go.bits .and .u64 a0 15) = 8
           ·rw [if_pos c18] at H
            have c18b0 : ((Go.bits .and .u64 a0 15) == 8) = true := beq_iff_eq.mpr c18
            have c18b1 : ((Go.bits .and .u64 a0 15) != 8) = false := bne_eq_false_iff_eq.mpr c18
            clear c18
            obtain rfl := Option.some.inj H
            go_wp2
            go_ret
            exact ⟨by first | rfl | (unfold wrap64; rfl) | (simp; done) | (simp [*]; done), by repeat (first | exact Drawn0.refl _ | apply Drawn0.step)⟩
           ·rw [if_neg c18] at H
            have c18b0 : ((Go.bits .and .u64 a0 15) == 8) = false := beq_eq_false_iff_ne.mpr c18
            have c18b1 : ((Go.bits .and .u64 a0 15) != 8) = true := bne_iff_ne.mpr c18
            obtain rfl := Option.some.inj H
            go_wp2
            go_ret
            exact ⟨by first | rfl | (unfold wrap64; rfl) | (simp; done) | (simp [*]; done), by repeat (first | exact Drawn0.refl _ | apply Drawn0.step)⟩
/-! ### bits_Ones: function 99 -/
def bits_Ones.l0 : Nat → Int → Int → Int → Option (Int)
 | 0, _, _, _ => none
 | k + 1, x0, x3, x5 => if x5 < 16 then (if 0 ≤ (wrap64 (4 * x5)) then ((bits_half.f k (shr .u64 (IntKind.u64.wrap (x0)) (wrap64 (4 * x5)))).bind fun t263 => (bits_Ones.l0 k x0 (wrap64 (x3 + t263)) (wrap64 (x5 + 1)))) else (none)) else (some x3)
def bits_Ones.f (k : Nat) (a0 : Int) : Option (Int) := bits_Ones.l0 k a0 0 0
theorem bits_Ones.l0_succ (k : Nat) (x0 : Int) (x3 : Int) (x5 : Int) : bits_Ones.l0 (k + 1) x0 x3 x5 = (if x5 < 16 then (if 0 ≤ (wrap64 (4 * x5)) then ((bits_half.f k (shr .u64 (IntKind.u64.wrap (x0)) (wrap64 (4 * x5)))).bind fun t263 => (bits_Ones.l0 k x0 (wrap64 (x3 + t263)) (wrap64 (x5 + 1)))) else (none)) else (some x3)) := by
 simp only [bits_Ones.l0]
set_option maxHeartbeats 8000000 in
set_option maxRecDepth 100000 in
theorem bits_Ones.calls (k : Nat) (a0 : Int) (r : Int) (w : World) (h : bits_Ones.f k a0 = some r) :
  Calls Try.prog 99 #[.int .i64 a0] w fun e w' => e = .returned (.int .i64 r) ∧ Drawn0 w w' := by
 have H : (bits_Ones.l0 k a0 0 0) = some r := h
 clear h
 have H' := Aside0.mk H
 clear H
 go_enter Try.func99, Try.ntmps99
 go_wp2
 go_loopg [3, 5] k (fun kq v3 v5 w' => ∃ (x3_1 : Int) (x5_1 : Int), v3 = .int .i64 x3_1 ∧ v5 = .int .i64 x5_1 ∧ Aside0 (bits_Ones.l0 kq a0 x3_1 x5_1 = some r) ∧ Aside0 (kq ≤ k) ∧ Drawn0 w w')
 case atStart => exact ⟨(0), (0), (by first | rfl | (simp; done) | (simp [*]; done)), (by first | rfl | (simp; done) | (simp [*]; done)), H', ⟨Nat.le_refl _⟩, by repeat (first | exact Drawn0.refl _ | apply Drawn0.step)⟩
 case round =>
  clear H'
  obtain ⟨x3_1, x5_1, rfl, rfl, HA, HK1, ⟨m1, rfl⟩⟩ := hrel
  cases gk with
  | zero => exact absurd HA.out (by simp [bits_Ones.l0])
  | succ k1 =>
   have H := HA.out
   clear HA
   simp only [bits_Ones.l0] at H
   by_cases c2 : x5_1 < 16
   ·rw [if_pos c2] at H
    have c2b0 : decide (x5_1 < 16) = true := decide_eq_true c2
    clear c2
    obtain ⟨ji3, hji3⟩ : ∃ j_ : Int, (wrap64 (4 * x5_1)) = j_ := ⟨_, rfl⟩
    replace H : (if 0 ≤ (ji3) then ((bits_half.f k1 (shr .u64 (IntKind.u64.wrap (a0)) (ji3))).bind fun t263 => (bits_Ones.l0 k1 a0 (wrap64 (x3_1 + t263)) (wrap64 (x5_1 + 1)))) else (none)) = some r := by first | (rw [hji3] at H; exact H) | (simp only [hji3] at H ⊢; exact H)
    have hji3w : (IntKind.i64.wrap (4 * x5_1)) = ji3 := (i64_w _).trans hji3
    by_cases c4 : 0 ≤ (ji3)
    ·rw [if_pos c4] at H
     have c4b0 := eq_true c4
     have c4b1 : decide (0 ≤ (ji3)) = true := decide_eq_true c4
     clear c4
     obtain ⟨ji5, hji5⟩ : ∃ j_ : Int, (shr .u64 (IntKind.u64.wrap (a0)) (ji3)) = j_ := ⟨_, rfl⟩
     replace H : ((bits_half.f k1 (ji5)).bind fun t263 => (bits_Ones.l0 k1 a0 (wrap64 (x3_1 + t263)) (wrap64 (x5_1 + 1)))) = some r := by first | (rw [hji5] at H; exact H) | (simp only [hji5] at H ⊢; exact H)
     have hji5_ : ((IntKind.u64.wrap (a0)) / 2 ^ min (ji3).toNat 64) = ji5 := hji5
     have hji5z : (ji3) ≤ 64 → ((IntKind.u64.wrap (a0)) / 2 ^ (ji3).toNat) = ji5 := shr_small hji5
     replace H := Option.bind_eq_some_iff.mp H
     obtain ⟨t263, A60, H⟩ := H
     replace H : (bits_Ones.l0 k1 a0 (wrap64 (x3_1 + t263)) (wrap64 (x5_1 + 1))) = some r := H
     have A6 := Aside0.mk A60
     clear A60
     have H' := Aside0.mk H
     clear H
     go_wp2_with (first | ((with_reducible refine gate_callee (f := 123) rfl ?_); refine goesL_ (some 14) rfl rfl Try.func123 (by kernel_rfl) rfl #[.int .u64 ji5] rfl (by (try simp only [List.map_toArray, List.map_cons, List.map_nil]); first | done | (simp only [hji5]; rfl) | rfl | (simp only [List.length_drop, List.length_take]; rfl)) ?_; (with_reducible refine (bits_half.calls k1 ji5 t263 _ A6.out).mono ?_); rintro e w' ⟨rfl, ⟨nd, rfl⟩⟩; refine ⟨_, rfl, ?_⟩))
     go_roundg k1
     case measure => have := HK1.out; omega
     case rel => exact ⟨(wrap64 (x3_1 + t263)), (wrap64 (x5_1 + 1)), (by first | rfl | (simp; done) | (simp [*]; done)), (by first | rfl | (simp; done) | (simp [*]; done)), (by first | exact H' | (simp only [hji3, hji5]; exact H')), ⟨by have := HK1.out; omega⟩, by repeat (first | exact Drawn0.refl _ | apply Drawn0.step)⟩
    ·rw [if_neg c4] at H
     exact absurd H (by simp)
   ·rw [if_neg c2] at H
    have c2b0 : decide (x5_1 < 16) = false := decide_eq_false c2
    clear c2
    obtain rfl := Option.some.inj H
    go_wp2
    go_ret
    exact ⟨by first | rfl | (unfold wrap64; rfl) | (simp; done) | (simp [*]; done), by repeat (first | exact Drawn0.refl _ | apply Drawn0.step)⟩
/-! ### bits_Field: function 117 -/
def bits_Field.f (a0 : Int) (a1 : Int) (a2 : Int) : Option (Int) := (bits_placed.f a1 a2).bind fun t264 => (if t264 = true then (if 0 ≤ a1 then ((bits_Mask.f a2).bind fun t265 => (some (Go.bits .and .i64 (wrap64 (shr .u64 (IntKind.u64.wrap (a0)) a1)) t265))) else (none)) else (some 0))
set_option maxHeartbeats 8000000 in
set_option maxRecDepth 100000 in
theorem bits_Field.calls (a0 : Int) (a1 : Int) (a2 : Int) (r : Int) (w : World) (h : bits_Field.f a0 a1 a2 = some r) :
  Calls Try.prog 117 #[.int .i64 a0, .int .i64 a1, .int .i64 a2] w fun e w' => e = .returned (.int .i64 r) ∧ Drawn0 w w' := by
 have H : ((bits_placed.f a1 a2).bind fun t264 => (if t264 = true then (if 0 ≤ a1 then ((bits_Mask.f a2).bind fun t265 => (some (Go.bits .and .i64 (wrap64 (shr .u64 (IntKind.u64.wrap (a0)) a1)) t265))) else (none)) else (some 0))) = some r := h
 clear h
 replace H := Option.bind_eq_some_iff.mp H
 obtain ⟨t264, A40, H⟩ := H
 replace H : (if t264 = true then (if 0 ≤ a1 then ((bits_Mask.f a2).bind fun t265 => (some (Go.bits .and .i64 (wrap64 (shr .u64 (IntKind.u64.wrap (a0)) a1)) t265))) else (none)) else (some 0)) = some r := H
 have A4 := Aside0.mk A40
 clear A40
 by_cases c5 : t264 = true
 ·subst c5
  have H1 : (if 0 ≤ a1 then ((bits_Mask.f a2).bind fun t265 => (some (Go.bits .and .i64 (wrap64 (shr .u64 (IntKind.u64.wrap (a0)) a1)) t265))) else (none)) = some r := by rw [if_pos rfl] at H; exact H
  clear H
  have H := H1
  clear H1
  by_cases c6 : 0 ≤ a1
  ·rw [if_pos c6] at H
   have c6b0 := eq_true c6
   have c6b1 : decide (0 ≤ a1) = true := decide_eq_true c6
   clear c6
   obtain ⟨ji7, hji7⟩ : ∃ j_ : Int, (shr .u64 (IntKind.u64.wrap (a0)) a1) = j_ := ⟨_, rfl⟩
   replace H : ((bits_Mask.f a2).bind fun t265 => (some (Go.bits .and .i64 (wrap64 (ji7)) t265))) = some r := by first | (rw [hji7] at H; exact H) | (simp only [hji7] at H ⊢; exact H)
   (try rw [hji7] at A4)
   have hji7_ : ((IntKind.u64.wrap (a0)) / 2 ^ min a1.toNat 64) = ji7 := hji7
   have hji7z : a1 ≤ 64 → ((IntKind.u64.wrap (a0)) / 2 ^ a1.toNat) = ji7 := shr_small hji7
   replace H := Option.bind_eq_some_iff.mp H
   obtain ⟨t265, A80, H⟩ := H
   replace H : (some (Go.bits .and .i64 (wrap64 (ji7)) t265)) = some r := H
   have A8 := Aside0.mk A80
   clear A80
   obtain rfl := Option.some.inj H
   go_enter Try.func117, Try.ntmps117
   go_wp2_with (first | (go_at_call 134; (with_reducible refine (bits_placed.calls a1 a2 true _ A4.out).mono ?_); rintro e w' ⟨rfl, ⟨nd, rfl⟩⟩; (try first | exact ⟨rfl, _, World.drewN_drewN _ _ _⟩ | exact ⟨rfl, _, Eq.trans (World.drewN_drewN _ _ _) (congrArg (World.drewN _) (Nat.add_assoc _ _ _))⟩)) | (go_at_call 68; (with_reducible refine (bits_Mask.calls a2 t265 _ A8.out).mono ?_); rintro e w' ⟨rfl, ⟨nd, rfl⟩⟩; (try first | exact ⟨rfl, _, World.drewN_drewN _ _ _⟩ | exact ⟨rfl, _, Eq.trans (World.drewN_drewN _ _ _) (congrArg (World.drewN _) (Nat.add_assoc _ _ _))⟩)))
   repeat (go_quiet (first | (go_at_call 134; (with_reducible refine (bits_placed.calls a1 a2 true _ A4.out).mono ?_); rintro e w' ⟨rfl, ⟨nd, rfl⟩⟩; (try first | exact ⟨rfl, _, World.drewN_drewN _ _ _⟩ | exact ⟨rfl, _, Eq.trans (World.drewN_drewN _ _ _) (congrArg (World.drewN _) (Nat.add_assoc _ _ _))⟩)) | (go_at_call 68; (with_reducible refine (bits_Mask.calls a2 t265 _ A8.out).mono ?_); rintro e w' ⟨rfl, ⟨nd, rfl⟩⟩; (try first | exact ⟨rfl, _, World.drewN_drewN _ _ _⟩ | exact ⟨rfl, _, Eq.trans (World.drewN_drewN _ _ _) (congrArg (World.drewN _) (Nat.add_assoc _ _ _))⟩))); try go_wp2_with (first | (go_at_call 134; (with_reducible refine (bits_placed.calls a1 a2 true _ A4.out).mono ?_); rintro e w' ⟨rfl, ⟨nd, rfl⟩⟩; (try first | exact ⟨rfl, _, World.drewN_drewN _ _ _⟩ | exact ⟨rfl, _, Eq.trans (World.drewN_drewN _ _ _) (congrArg (World.drewN _) (Nat.add_assoc _ _ _))⟩)) | (go_at_call 68; (with_reducible refine (bits_Mask.calls a2 t265 _ A8.out).mono ?_); rintro e w' ⟨rfl, ⟨nd, rfl⟩⟩; (try first | exact ⟨rfl, _, World.drewN_drewN _ _ _⟩ | exact ⟨rfl, _, Eq.trans (World.drewN_drewN _ _ _) (congrArg (World.drewN _) (Nat.add_assoc _ _ _))⟩))))
   go_ret
   exact ⟨by first | rfl | (unfold wrap64; rfl) | (simp; done) | (simp only [← hji7] <;> (first | rfl | simp)) | (simp [*]; done), by repeat (first | exact Drawn0.refl _ | apply Drawn0.step)⟩
  ·rw [if_neg c6] at H
   exact absurd H (by simp)
 ·replace c5 := Bool.eq_false_iff.mpr c5
  subst c5
  have H1 : (some 0) = some r := by rw [if_neg (show ¬ (false = true) by decide)] at H; exact H
  clear H
  have H := H1
  clear H1
  obtain rfl := Option.some.inj H
  go_enter Try.func117, Try.ntmps117
  go_wp2_with (first | (go_at_call 134; (with_reducible refine (bits_placed.calls a1 a2 false _ A4.out).mono ?_); rintro e w' ⟨rfl, ⟨nd, rfl⟩⟩; (try first | exact ⟨rfl, _, World.drewN_drewN _ _ _⟩ | exact ⟨rfl, _, Eq.trans (World.drewN_drewN _ _ _) (congrArg (World.drewN _) (Nat.add_assoc _ _ _))⟩)))
  repeat (go_quiet (first | (go_at_call 134; (with_reducible refine (bits_placed.calls a1 a2 false _ A4.out).mono ?_); rintro e w' ⟨rfl, ⟨nd, rfl⟩⟩; (try first | exact ⟨rfl, _, World.drewN_drewN _ _ _⟩ | exact ⟨rfl, _, Eq.trans (World.drewN_drewN _ _ _) (congrArg (World.drewN _) (Nat.add_assoc _ _ _))⟩))); try go_wp2_with (first | (go_at_call 134; (with_reducible refine (bits_placed.calls a1 a2 false _ A4.out).mono ?_); rintro e w' ⟨rfl, ⟨nd, rfl⟩⟩; (try first | exact ⟨rfl, _, World.drewN_drewN _ _ _⟩ | exact ⟨rfl, _, Eq.trans (World.drewN_drewN _ _ _) (congrArg (World.drewN _) (Nat.add_assoc _ _ _))⟩))))
  go_ret
  exact ⟨by first | rfl | (unfold wrap64; rfl) | (simp; done) | (simp [*]; done), by repeat (first | exact Drawn0.refl _ | apply Drawn0.step)⟩
/-! ### words_Rank: function 84 -/
mutual
def words_Rank.j0 : Nat → List Int → Int → Bool → Option (Int)
 | 0, _, _, _ => none
 | k + 1, x0, x1, x15 => if x15 = true then (some 0) else (words_Rank.l0 k x1 0 x0 (x0.length : Int) 0)
def words_Rank.l0 : Nat → Int → Int → List Int → Int → Int → Option (Int)
 | 0, _, _, _, _, _ => none
 | k + 1, x1, x5, x16, x17, x18 => if x18 < x17 then (if 0 ≤ x18 then (if x18 < (x16.length : Int) then (if x1 ≥ (wrap64 ((wrap64 (64 * x18)) + 64)) then ((bits_Ones.f k (rd x16 x18)).bind fun t268 => (words_Rank.l0 k x1 (wrap64 (x5 + t268)) x16 x17 (wrap64 (x18 + 1)))) else (if x1 > (wrap64 (64 * x18)) then ((bits_Field.f (rd x16 x18) 0 (wrap64 (x1 - (wrap64 (64 * x18))))).bind fun t269 => ((bits_Ones.f k t269).bind fun t270 => (words_Rank.l0 k x1 (wrap64 (x5 + t270)) x16 x17 (wrap64 (x18 + 1))))) else (words_Rank.l0 k x1 x5 x16 x17 (wrap64 (x18 + 1))))) else (none)) else (none)) else (some x5)
end
def words_Rank.f (k : Nat) (l0 : List Int) (a1 : Int) : Option (Int) := (words_May.f l0).bind fun t266 => (if t266 = true then (words_Rank.j0 k l0 a1 (decide (a1 ≤ 0))) else (words_Rank.j0 k l0 a1 true))
theorem words_Rank.j0_succ (k : Nat) (x0 : List Int) (x1 : Int) (x15 : Bool) : words_Rank.j0 (k + 1) x0 x1 x15 = (if x15 = true then (some 0) else (words_Rank.l0 k x1 0 x0 (x0.length : Int) 0)) := by
 simp only [words_Rank.j0]
theorem words_Rank.l0_succ (k : Nat) (x1 : Int) (x5 : Int) (x16 : List Int) (x17 : Int) (x18 : Int) : words_Rank.l0 (k + 1) x1 x5 x16 x17 x18 = (if x18 < x17 then (if 0 ≤ x18 then (if x18 < (x16.length : Int) then (if x1 ≥ (wrap64 ((wrap64 (64 * x18)) + 64)) then ((bits_Ones.f k (rd x16 x18)).bind fun t268 => (words_Rank.l0 k x1 (wrap64 (x5 + t268)) x16 x17 (wrap64 (x18 + 1)))) else (if x1 > (wrap64 (64 * x18)) then ((bits_Field.f (rd x16 x18) 0 (wrap64 (x1 - (wrap64 (64 * x18))))).bind fun t269 => ((bits_Ones.f k t269).bind fun t270 => (words_Rank.l0 k x1 (wrap64 (x5 + t270)) x16 x17 (wrap64 (x18 + 1))))) else (words_Rank.l0 k x1 x5 x16 x17 (wrap64 (x18 + 1))))) else (none)) else (none)) else (some x5)) := by
 simp only [words_Rank.l0]
set_option maxHeartbeats 8000000 in
set_option maxRecDepth 100000 in
theorem words_Rank.calls (k : Nat) (A0 : Option Addr) (c0 : Nat) (l0 : List Int) (a1 : Int) (r : Int) (w : World) (hr0 : Kd.C (Kd.int .i64) w A0 l0.length l0) (hc0 : l0.length ≤ c0) (h : words_Rank.f k l0 a1 = some r) :
  Calls Try.prog 84 #[.slice A0 l0.length c0, .int .i64 a1] w fun e w' => e = .returned (.int .i64 r) ∧ Drawn0 w w' := by
 have HR0 := Aside0.mk hr0
 have HC0 := Aside0.mk hc0
 clear hr0 hc0
 have H : ((words_May.f l0).bind fun t266 => (if t266 = true then (words_Rank.j0 k l0 a1 (decide (a1 ≤ 0))) else (words_Rank.j0 k l0 a1 true))) = some r := h
 clear h
 have HC3 := Aside0.mk H
 clear H
 go_enter Try.func84, Try.ntmps84
 go_upto_region 1 with (fail)
 go_cut [15] (fun v15 wc => ∃ (kq : Nat) (x15_2 : Bool), v15 = .bool x15_2 ∧ Aside0 (words_Rank.j0 kq l0 a1 x15_2 = some r) ∧ Aside0 (kq ≤ k) ∧ Drawn0 w wc)
 case first =>
  have H := HC3.out
  clear HC3
  replace H := Option.bind_eq_some_iff.mp H
  obtain ⟨t266, A40, H⟩ := H
  replace H : (if t266 = true then (words_Rank.j0 k l0 a1 (decide (a1 ≤ 0))) else (words_Rank.j0 k l0 a1 true)) = some r := H
  have A4 := Aside0.mk A40
  clear A40
  by_cases c5 : t266 = true
  ·subst c5
   have H1 : (words_Rank.j0 k l0 a1 (decide (a1 ≤ 0))) = some r := by rw [if_pos rfl] at H; exact H
   clear H
   have H := H1
   clear H1
   have H' := Aside0.mk H
   clear H
   go_wp2_with (first | ((with_reducible refine gate_callee (f := 91) rfl ?_); refine goesL_ (some 10) rfl rfl Try.func91 (by kernel_rfl) rfl #[.slice A0 l0.length c0] rfl (by (try simp only [List.map_toArray, List.map_cons, List.map_nil]); first | done | rfl) ?_; (with_reducible refine (words_May.calls _ _ l0 true _ ?side1 ?side2 A4.out).mono ?_); (case side1 => exact cx HR0.out); (case side2 => exact HC0.out); rintro e w' ⟨rfl, ⟨nd, rfl⟩⟩; refine ⟨_, rfl, ?_⟩))
   go_meet
   case rel => exact ⟨_, (decide (a1 ≤ 0)), (by first | rfl | (simp; done) | (simp [*]; done)), H', ⟨by first | omega | exact Nat.le_refl _⟩, by repeat (first | exact Drawn0.refl _ | apply Drawn0.step)⟩
  ·replace c5 := Bool.eq_false_iff.mpr c5
   subst c5
   have H1 : (words_Rank.j0 k l0 a1 true) = some r := by rw [if_neg (show ¬ (false = true) by decide)] at H; exact H
   clear H
   have H := H1
   clear H1
   have H' := Aside0.mk H
   clear H
   go_wp2_with (first | ((with_reducible refine gate_callee (f := 91) rfl ?_); refine goesL_ (some 10) rfl rfl Try.func91 (by kernel_rfl) rfl #[.slice A0 l0.length c0] rfl (by (try simp only [List.map_toArray, List.map_cons, List.map_nil]); first | done | rfl) ?_; (with_reducible refine (words_May.calls _ _ l0 false _ ?side1 ?side2 A4.out).mono ?_); (case side1 => exact cx HR0.out); (case side2 => exact HC0.out); rintro e w' ⟨rfl, ⟨nd, rfl⟩⟩; refine ⟨_, rfl, ?_⟩))
   go_meet
   case rel => exact ⟨_, (true), (by first | rfl | (simp; done) | (simp [*]; done)), H', ⟨by first | omega | exact Nat.le_refl _⟩, by repeat (first | exact Drawn0.refl _ | apply Drawn0.step)⟩
 case rest =>
  clear HC3
  try clear c5
  obtain ⟨kq, x15_2, rfl, HA, HJ2, ⟨mc2, rfl⟩⟩ := hcut
  cases kq with
  | zero => exact absurd HA.out (by simp [words_Rank.j0])
  | succ kj2 =>
   have H := HA.out
   clear HA
   simp only [words_Rank.j0] at H
   by_cases c6 : x15_2 = true
   ·subst c6
    have H1 : (some 0) = some r := by rw [if_pos rfl] at H; exact H
    clear H
    have H := H1
    clear H1
    obtain rfl := Option.some.inj H
    go_wp2
    go_ret
    exact ⟨by first | rfl | (unfold wrap64; rfl) | (simp; done) | (simp [*]; done), by repeat (first | exact Drawn0.refl _ | apply Drawn0.step)⟩
   ·replace c6 := Bool.eq_false_iff.mpr c6
    subst c6
    have H1 : (words_Rank.l0 kj2 a1 0 l0 (l0.length : Int) 0) = some r := by rw [if_neg (show ¬ (false = true) by decide)] at H; exact H
    clear H
    have H := H1
    clear H1
    have H' := Aside0.mk H
    clear H
    go_wp2
    go_loopg [5, 18] kj2 (fun kq v5 v18 w' => ∃ (x5_2 : Int) (x18_2 : Int), v5 = .int .i64 x5_2 ∧ v18 = .int .i64 x18_2 ∧ Aside0 (words_Rank.l0 kq a1 x5_2 l0 (l0.length : Int) x18_2 = some r) ∧ Aside0 (kq ≤ kj2) ∧ Drawn0 w w')
    case atStart => exact ⟨(0), (0), (by first | rfl | (simp; done) | (simp [*]; done)), (by first | rfl | (simp; done) | (simp [*]; done)), H', ⟨Nat.le_refl _⟩, by repeat (first | exact Drawn0.refl _ | apply Drawn0.step)⟩
    case round =>
     clear H'
     try clear c5
     try clear c6
     obtain ⟨x5_2, x18_2, rfl, rfl, HA, HK2, ⟨m2, rfl⟩⟩ := hrel
     cases gk with
     | zero => exact absurd HA.out (by simp [words_Rank.l0])
     | succ k2 =>
      have H := HA.out
      clear HA
      simp only [words_Rank.l0] at H
      by_cases c7 : x18_2 < (l0.length : Int)
      ·rw [if_pos c7] at H
       have c7b0 : decide (x18_2 < (l0.length : Int)) = true := decide_eq_true c7
       clear c7
       by_cases c8 : 0 ≤ x18_2
       ·rw [if_pos c8] at H
        have c8b0 : decide (0 ≤ x18_2) = true := decide_eq_true c8
        clear c8
        by_cases c9 : x18_2 < (l0.length : Int)
        ·rw [if_pos c9] at H
         have c9b0 : decide (x18_2 < (l0.length : Int)) = true := decide_eq_true c9
         clear c9
         by_cases c10 : a1 ≥ (wrap64 ((wrap64 (64 * x18_2)) + 64))
         ·rw [if_pos c10] at H
          have c10b0 : decide ((wrap64 ((wrap64 (64 * x18_2)) + 64)) ≤ a1) = true := decide_eq_true c10
          clear c10
          replace H := Option.bind_eq_some_iff.mp H
          obtain ⟨t268, A110, H⟩ := H
          replace H : (words_Rank.l0 k2 a1 (wrap64 (x5_2 + t268)) l0 (l0.length : Int) (wrap64 (x18_2 + 1))) = some r := H
          have A11 := Aside0.mk A110
          clear A110
          have H' := Aside0.mk H
          clear H
          have p267 : 0 ≤ (x18_2 : Int) := of_decide_eq_true (by assumption)
          have q267 : x18_2 < (l0.length : Int) := of_decide_eq_true (by assumption)
          obtain ⟨ad267, e267, hx267_0⟩ := Kd.at_int HR0.out x18_2 p267 q267
          cases e267
          replace p267 := eq_true p267
          replace q267 := eq_true q267
          go_wp2_with (first | ((with_reducible refine gate_callee (f := 99) rfl ?_); refine goesL_ (some 32) rfl rfl Try.func99 (by kernel_rfl) rfl #[.int .i64 (rd l0 x18_2)] rfl (by (try simp only [List.map_toArray, List.map_cons, List.map_nil]); first | done | rfl) ?_; (with_reducible refine (bits_Ones.calls k2 (rd l0 x18_2) t268 _ A11.out).mono ?_); rintro e w' ⟨rfl, ⟨nd, rfl⟩⟩; refine ⟨_, rfl, ?_⟩))
          go_roundg k2
          case measure => have := HJ2.out; have := HK2.out; omega
          case rel => exact ⟨(wrap64 (x5_2 + t268)), (wrap64 (x18_2 + 1)), (by first | rfl | (simp; done) | (simp [*]; done)), (by first | rfl | (simp; done) | (simp [*]; done)), H', ⟨by have := HJ2.out; have := HK2.out; omega⟩, by repeat (first | exact Drawn0.refl _ | apply Drawn0.step)⟩
         ·rw [if_neg c10] at H
          have c10b0 : decide ((wrap64 ((wrap64 (64 * x18_2)) + 64)) ≤ a1) = false := decide_eq_false c10
          clear c10
          by_cases c12 : a1 > (wrap64 (64 * x18_2))
          ·rw [if_pos c12] at H
           have c12b0 : decide ((wrap64 (64 * x18_2)) < a1) = true := decide_eq_true c12
           clear c12
           replace H := Option.bind_eq_some_iff.mp H
           obtain ⟨t269, A130, H⟩ := H
           replace H : ((bits_Ones.f k2 t269).bind fun t270 => (words_Rank.l0 k2 a1 (wrap64 (x5_2 + t270)) l0 (l0.length : Int) (wrap64 (x18_2 + 1)))) = some r := H
           have A13 := Aside0.mk A130
           clear A130
           replace H := Option.bind_eq_some_iff.mp H
           obtain ⟨t270, A140, H⟩ := H
           replace H : (words_Rank.l0 k2 a1 (wrap64 (x5_2 + t270)) l0 (l0.length : Int) (wrap64 (x18_2 + 1))) = some r := H
           have A14 := Aside0.mk A140
           clear A140
           have H' := Aside0.mk H
           clear H
           have p267 : 0 ≤ (x18_2 : Int) := of_decide_eq_true (by assumption)
           have q267 : x18_2 < (l0.length : Int) := of_decide_eq_true (by assumption)
           obtain ⟨ad267, e267, hx267_0⟩ := Kd.at_int HR0.out x18_2 p267 q267
           cases e267
           replace p267 := eq_true p267
           replace q267 := eq_true q267
           go_wp2_with (first | ((with_reducible refine gate_callee (f := 117) rfl ?_); refine goesL_ (some 43) rfl rfl Try.func117 (by kernel_rfl) rfl #[.int .i64 (rd l0 x18_2), .int .i64 0, .int .i64 (wrap64 (a1 - (wrap64 (64 * x18_2))))] rfl (by (try simp only [List.map_toArray, List.map_cons, List.map_nil]); first | done | rfl) ?_; (with_reducible refine (bits_Field.calls (rd l0 x18_2) 0 (wrap64 (a1 - (wrap64 (64 * x18_2)))) t269 _ A13.out).mono ?_); rintro e w' ⟨rfl, ⟨nd, rfl⟩⟩; refine ⟨_, rfl, ?_⟩) | ((with_reducible refine gate_callee (f := 99) rfl ?_); refine goesL_ (some 44) rfl rfl Try.func99 (by kernel_rfl) rfl #[.int .i64 t269] rfl (by (try simp only [List.map_toArray, List.map_cons, List.map_nil]); first | done | rfl) ?_; (with_reducible refine (bits_Ones.calls k2 t269 t270 _ A14.out).mono ?_); rintro e w' ⟨rfl, ⟨nd, rfl⟩⟩; refine ⟨_, rfl, ?_⟩))
           go_roundg k2
           case measure => have := HJ2.out; have := HK2.out; omega
           case rel => exact ⟨(wrap64 (x5_2 + t270)), (wrap64 (x18_2 + 1)), (by first | rfl | (simp; done) | (simp [*]; done)), (by first | rfl | (simp; done) | (simp [*]; done)), H', ⟨by have := HJ2.out; have := HK2.out; omega⟩, by repeat (first | exact Drawn0.refl _ | apply Drawn0.step)⟩
          ·rw [if_neg c12] at H
           have c12b0 : decide ((wrap64 (64 * x18_2)) < a1) = false := decide_eq_false c12
           clear c12
           have H' := Aside0.mk H
           clear H
           have p267 : 0 ≤ (x18_2 : Int) := of_decide_eq_true (by assumption)
           have q267 : x18_2 < (l0.length : Int) := of_decide_eq_true (by assumption)
           obtain ⟨ad267, e267, hx267_0⟩ := Kd.at_int HR0.out x18_2 p267 q267
           cases e267
           replace p267 := eq_true p267
           replace q267 := eq_true q267
           go_wp2
           go_roundg k2
           case measure => have := HJ2.out; have := HK2.out; omega
           case rel => exact ⟨(x5_2), (wrap64 (x18_2 + 1)), (by first | rfl | (simp; done) | (simp [*]; done)), (by first | rfl | (simp; done) | (simp [*]; done)), H', ⟨by have := HJ2.out; have := HK2.out; omega⟩, by repeat (first | exact Drawn0.refl _ | apply Drawn0.step)⟩
        ·rw [if_neg c9] at H
         exact absurd H (by simp)
       ·rw [if_neg c8] at H
        exact absurd H (by simp)
      ·rw [if_neg c7] at H
       have c7b0 : decide (x18_2 < (l0.length : Int)) = false := decide_eq_false c7
       clear c7
       obtain rfl := Option.some.inj H
       go_wp2
       go_ret
       exact ⟨by first | rfl | (unfold wrap64; rfl) | (simp; done) | (simp [*]; done), by repeat (first | exact Drawn0.refl _ | apply Drawn0.step)⟩
/-! ### cmp_isNaN_int: function 78 -/
def cmp_isNaN_int.f (a0 : Int) : Option (Bool) := some (a0 != a0)
set_option maxHeartbeats 8000000 in
set_option maxRecDepth 100000 in
theorem cmp_isNaN_int.calls (a0 : Int) (r : Bool) (w : World) (h : cmp_isNaN_int.f a0 = some r) :
  Calls Try.prog 78 #[.int .i64 a0] w fun e w' => e = .returned (.bool r) ∧ Drawn0 w w' := by
 have H : (some (a0 != a0)) = some r := h
 clear h
 obtain rfl := Option.some.inj H
 go_enter Try.func78, Try.ntmps78
 go_wp2
 go_ret
 exact ⟨by first | rfl | (unfold wrap64; rfl) | (simp; done) | (simp [*]; done), by repeat (first | exact Drawn0.refl _ | apply Drawn0.step)⟩
/-! ### cmp_Less_int: function 118 -/
def cmp_Less_int.f (a0 : Int) (a1 : Int) : Option (Bool) := (cmp_isNaN_int.f a0).bind fun t271 => (if t271 = true then ((cmp_isNaN_int.f a1).bind fun t272 => (if t272 = true then (some (decide (a0 < a1))) else (some true))) else (some (decide (a0 < a1))))
set_option maxHeartbeats 8000000 in
set_option maxRecDepth 100000 in
theorem cmp_Less_int.calls (a0 : Int) (a1 : Int) (r : Bool) (w : World) (h : cmp_Less_int.f a0 a1 = some r) :
  Calls Try.prog 118 #[.int .i64 a0, .int .i64 a1] w fun e w' => e = .returned (.bool r) ∧ Drawn0 w w' := by
 have H : ((cmp_isNaN_int.f a0).bind fun t271 => (if t271 = true then ((cmp_isNaN_int.f a1).bind fun t272 => (if t272 = true then (some (decide (a0 < a1))) else (some true))) else (some (decide (a0 < a1))))) = some r := h
 clear h
 replace H := Option.bind_eq_some_iff.mp H
 obtain ⟨t271, A30, H⟩ := H
 replace H : (if t271 = true then ((cmp_isNaN_int.f a1).bind fun t272 => (if t272 = true then (some (decide (a0 < a1))) else (some true))) else (some (decide (a0 < a1)))) = some r := H
 have A3 := Aside0.mk A30
 clear A30
 by_cases c4 : t271 = true
 ·subst c4
  have H1 : ((cmp_isNaN_int.f a1).bind fun t272 => (if t272 = true then (some (decide (a0 < a1))) else (some true))) = some r := by rw [if_pos rfl] at H; exact H
  clear H
  have H := H1
  clear H1
  replace H := Option.bind_eq_some_iff.mp H
  obtain ⟨t272, A50, H⟩ := H
  replace H : (if t272 = true then (some (decide (a0 < a1))) else (some true)) = some r := H
  have A5 := Aside0.mk A50
  clear A50
  by_cases c6 : t272 = true
  ·subst c6
   have H1 : (some (decide (a0 < a1))) = some r := by rw [if_pos rfl] at H; exact H
   clear H
   have H := H1
   clear H1
   obtain rfl := Option.some.inj H
   go_enter Try.func118, Try.ntmps118
   go_wp2_with (first | ((with_reducible refine gate_callee (f := 78) rfl ?_); refine goesL_ (some 6) rfl rfl Try.func78 (by kernel_rfl) rfl #[.int .i64 a0] rfl (by (try simp only [List.map_toArray, List.map_cons, List.map_nil]); first | done | rfl) ?_; (with_reducible refine (cmp_isNaN_int.calls a0 true _ A3.out).mono ?_); rintro e w' ⟨rfl, ⟨nd, rfl⟩⟩; refine ⟨_, rfl, ?_⟩) | (go_at_call 78; (with_reducible refine (cmp_isNaN_int.calls a1 true _ A5.out).mono ?_); rintro e w' ⟨rfl, ⟨nd, rfl⟩⟩; (try clear A5)))
   go_ret
   exact ⟨by first | rfl | (unfold wrap64; rfl) | (simp; done) | (simp [*]; done), by repeat (first | exact Drawn0.refl _ | apply Drawn0.step)⟩
  ·replace c6 := Bool.eq_false_iff.mpr c6
   subst c6
   have H1 : (some true) = some r := by rw [if_neg (show ¬ (false = true) by decide)] at H; exact H
   clear H
   have H := H1
   clear H1
   obtain rfl := Option.some.inj H
   go_enter Try.func118, Try.ntmps118
   go_wp2_with (first | ((with_reducible refine gate_callee (f := 78) rfl ?_); refine goesL_ (some 6) rfl rfl Try.func78 (by kernel_rfl) rfl #[.int .i64 a0] rfl (by (try simp only [List.map_toArray, List.map_cons, List.map_nil]); first | done | rfl) ?_; (with_reducible refine (cmp_isNaN_int.calls a0 true _ A3.out).mono ?_); rintro e w' ⟨rfl, ⟨nd, rfl⟩⟩; refine ⟨_, rfl, ?_⟩) | (go_at_call 78; (with_reducible refine (cmp_isNaN_int.calls a1 false _ A5.out).mono ?_); rintro e w' ⟨rfl, ⟨nd, rfl⟩⟩; (try clear A5)))
   go_ret
   exact ⟨by first | rfl | (unfold wrap64; rfl) | (simp; done) | (simp [*]; done), by repeat (first | exact Drawn0.refl _ | apply Drawn0.step)⟩
 ·replace c4 := Bool.eq_false_iff.mpr c4
  subst c4
  have H1 : (some (decide (a0 < a1))) = some r := by rw [if_neg (show ¬ (false = true) by decide)] at H; exact H
  clear H
  have H := H1
  clear H1
  obtain rfl := Option.some.inj H
  go_enter Try.func118, Try.ntmps118
  go_wp2_with (first | ((with_reducible refine gate_callee (f := 78) rfl ?_); refine goesL_ (some 6) rfl rfl Try.func78 (by kernel_rfl) rfl #[.int .i64 a0] rfl (by (try simp only [List.map_toArray, List.map_cons, List.map_nil]); first | done | rfl) ?_; (with_reducible refine (cmp_isNaN_int.calls a0 false _ A3.out).mono ?_); rintro e w' ⟨rfl, ⟨nd, rfl⟩⟩; refine ⟨_, rfl, ?_⟩))
  go_ret
  exact ⟨by first | rfl | (unfold wrap64; rfl) | (simp; done) | (simp [*]; done), by repeat (first | exact Drawn0.refl _ | apply Drawn0.step)⟩
/-! ### slices_isNaN_int: function 119 -/
def slices_isNaN_int.f (a0 : Int) : Option (Bool) := some (a0 != a0)
set_option maxHeartbeats 8000000 in
set_option maxRecDepth 100000 in
theorem slices_isNaN_int.calls (a0 : Int) (r : Bool) (w : World) (h : slices_isNaN_int.f a0 = some r) :
  Calls Try.prog 119 #[.int .i64 a0] w fun e w' => e = .returned (.bool r) ∧ Drawn0 w w' := by
 have H : (some (a0 != a0)) = some r := h
 clear h
 obtain rfl := Option.some.inj H
 go_enter Try.func119, Try.ntmps119
 go_wp2
 go_ret
 exact ⟨by first | rfl | (unfold wrap64; rfl) | (simp; done) | (simp [*]; done), by repeat (first | exact Drawn0.refl _ | apply Drawn0.step)⟩
end Go.Proofs.Ytbmlfbbcgbgnoaa.Print
end
