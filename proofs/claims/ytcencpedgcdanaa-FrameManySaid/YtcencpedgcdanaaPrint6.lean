-- Written by the session's own xprint (over the kit's print program): functions, contracts.
import Derived.Test.YtcencpedgcdanaaPrint0
import Derived.Test.YtcencpedgcdanaaPrint1
import Derived.Test.YtcencpedgcdanaaPrint3
import Derived.Test.YtcencpedgcdanaaPrint5
namespace Go.Proofs.Ytcencpedgcdanaa.Print
open Go.RowKit Go.Proofs.YtcencpedgcdanaaW.PrintWords Go.Proofs.YtcencpedgcdanaaW.PrintLast Go.Proofs.YtcencpedgcdanaaW.PrintMore
attribute [local go_sem] max2_int min2_int max_two min_two max_three min_three max_four min_four   -- for this text's walks alone
set_option linter.unusedVariables false
set_option linter.unusedSimpArgs false

/-! ### frame_Size: function 11 -/
def frame_Size.j0 : Nat → List Int → Bool → Option (Int)
 | 0, _, _ => none
 | k + 1, x0, x13 => if x13 = true then (some 0) else (if 0 < (x0.length : Int) then ((vint_Len.f k (rd x0 0)).bind fun t182 => (if (x0.length : Int) > 1 then ((frame_steps.f k x0).bind fun bt183 => ((vint_Len.f k bt183.2).bind fun t187 => ((pack_Width.f k bt183.1).bind fun t188 => ((pack_Bytes.f (bt183.1.length : Int) t188).bind fun t189 => (some (wrap64 (t182 + (wrap64 ((wrap64 (t187 + 1)) + t189))))))))) else (some t182))) else (none))
def frame_Size.f (k : Nat) (l0 : List Int) : Option (Int) := if (l0.length : Int) > 65536 then (frame_Size.j0 k l0 true) else (frame_Size.j0 k l0 ((l0.length : Int) == 0))
theorem frame_Size.j0_succ (k : Nat) (x0 : List Int) (x13 : Bool) : frame_Size.j0 (k + 1) x0 x13 = (if x13 = true then (some 0) else (if 0 < (x0.length : Int) then ((vint_Len.f k (rd x0 0)).bind fun t182 => (if (x0.length : Int) > 1 then ((frame_steps.f k x0).bind fun bt183 => ((vint_Len.f k bt183.2).bind fun t187 => ((pack_Width.f k bt183.1).bind fun t188 => ((pack_Bytes.f (bt183.1.length : Int) t188).bind fun t189 => (some (wrap64 (t182 + (wrap64 ((wrap64 (t187 + 1)) + t189))))))))) else (some t182))) else (none))) := by
 simp only [frame_Size.j0]
theorem frame_Size.mono_l : ∀ k, (∀ y0 y1, LeO (frame_Size.j0 k y0 y1) (frame_Size.j0 (k + 1) y0 y1))
 | 0 => fun _ _ r h => by simp [frame_Size.j0] at h
 | k + 1 => by
  have ih0 := frame_Size.mono_l k
  ·intro y0 y1
   unfold frame_Size.j0
   repeat' first
   | (with_reducible exact ih0 _ _)
   | (with_reducible exact frame_steps.mono _ _)
   | (with_reducible exact pack_Width.mono _ _)
   | (with_reducible exact vint_Len.mono _ _)
   | (with_reducible exact LeO.refl _)
   | (with_reducible exact LeO.none _)
   | (with_reducible refine LeO.ite ?_ ?_)
   | (with_reducible refine LeO.bind ?_ (fun _ => ?_))
   | exact ih0 _ _
   | exact frame_steps.mono _ _
   | exact pack_Width.mono _ _
   | exact vint_Len.mono _ _
   | exact LeO.none _
   | refine LeO.ite ?_ ?_
   | refine LeO.bind ?_ (fun _ => ?_)
theorem frame_Size.mono : ∀ a0 k, LeO (frame_Size.f k a0) (frame_Size.f (k + 1) a0) := by
 intro a0 k
 have ih0 := frame_Size.mono_l k
 unfold frame_Size.f
 repeat' first
   | (with_reducible exact ih0 _ _)
   | (with_reducible exact frame_steps.mono _ _)
   | (with_reducible exact pack_Width.mono _ _)
   | (with_reducible exact vint_Len.mono _ _)
   | (with_reducible exact LeO.refl _)
   | (with_reducible exact LeO.none _)
   | (with_reducible refine LeO.ite ?_ ?_)
   | (with_reducible refine LeO.bind ?_ (fun _ => ?_))
   | exact ih0 _ _
   | exact frame_steps.mono _ _
   | exact pack_Width.mono _ _
   | exact vint_Len.mono _ _
   | exact LeO.none _
   | refine LeO.ite ?_ ?_
   | refine LeO.bind ?_ (fun _ => ?_)
set_option maxHeartbeats 8000000 in
set_option maxRecDepth 100000 in
theorem frame_Size.calls (k : Nat) (A0 : Option Addr) (c0 : Nat) (l0 : List Int) (r : Int) (w : World) (hr0 : Kd.C (Kd.int .i64) w A0 l0.length l0) (hc0 : l0.length ≤ c0) (h : frame_Size.f k l0 = some r) :
  Calls Try.prog 11 #[.slice A0 l0.length c0] w fun e w' => e = .returned (.int .i64 r) ∧ Below w.heap.size w w' := by
 have HR0 := Aside0.mk hr0
 have HC0 := Aside0.mk hc0
 clear hr0 hc0
 have HB := Aside0.mk (Below.refl w.heap.size w)
 have H : (if (l0.length : Int) > 65536 then (frame_Size.j0 k l0 true) else (frame_Size.j0 k l0 ((l0.length : Int) == 0))) = some r := h
 clear h
 have HC2 := Aside0.mk H
 clear H
 go_enter Try.func11, Try.ntmps11
 go_upto_region 1 with (fail)
 go_cut [13] (fun v13 wc => ∃ (kq : Nat) (x13_1 : Bool), v13 = .bool x13_1 ∧ Aside0 (frame_Size.j0 kq l0 x13_1 = some r) ∧ Aside0 (kq ≤ k) ∧ Aside0 (Below w.heap.size w wc))
 case first =>
  have H := HC2.out
  clear HC2
  by_cases c3 : (l0.length : Int) > 65536
  ·rw [if_pos c3] at H
   have c3b0 : decide (65536 < (l0.length : Int)) = true := decide_eq_true c3
   have c3b1 : decide (65536 < l0.length) = true := decide_eq_true (by omega)
   clear c3
   (first | rw [c3b0] | (simp only [i64_w, i32_w]; rw [c3b0]) | skip)
   have H' := Aside0.mk H
   clear H
   go_wp2
   go_meet
   case rel => exact ⟨_, (true), (by first | rfl | (simp; done) | (simp [*]; done)), H', ⟨by first | omega | exact Nat.le_refl _⟩, ⟨by repeat (first | (with_reducible first | exact HB.out | apply below_alloc | apply pw_below_drewN | apply below_drew1) | exact HB.out)⟩⟩
  ·rw [if_neg c3] at H
   have c3b0 : decide (65536 < (l0.length : Int)) = false := decide_eq_false c3
   have c3b1 : decide (65536 < l0.length) = false := decide_eq_false (by omega)
   clear c3
   (first | rw [c3b0] | (simp only [i64_w, i32_w]; rw [c3b0]) | skip)
   have H' := Aside0.mk H
   clear H
   go_wp2
   go_meet
   case rel => exact ⟨_, (((l0.length : Int) == 0)), (by first | rfl | (simp; done) | (simp [*]; done)), H', ⟨by first | omega | exact Nat.le_refl _⟩, ⟨by repeat (first | (with_reducible first | exact HB.out | apply below_alloc | apply pw_below_drewN | apply below_drew1) | exact HB.out)⟩⟩
 case rest =>
  clear HC2
  try clear c1
  try clear p2
  try clear c3
  try clear c3b0
  try clear c3b1
  obtain ⟨kq, x13_1, rfl, HA, HJ1, HB⟩ := hcut
  cases kq with
  | zero => exact absurd HA.out (by simp [frame_Size.j0])
  | succ kj1 =>
   have H := HA.out
   clear HA
   simp only [frame_Size.j0] at H
   by_cases c4 : x13_1 = true
   ·subst c4
    have H1 : (some 0) = some r := by rw [if_pos rfl] at H; exact H
    clear H
    have H := H1
    clear H1
    obtain rfl := Option.some.inj H
    go_wp2
    go_ret
    exact ⟨by first | rfl | (simp [errW_none, errW_some] <;> rfl) | (simp [*, errW_none, errW_some] <;> rfl), by repeat (first | (with_reducible first | exact HB.out | apply below_alloc | apply pw_below_drewN | apply below_drew1) | exact HB.out)⟩
   ·replace c4 := Bool.eq_false_iff.mpr c4
    subst c4
    have H1 : (if 0 < (l0.length : Int) then ((vint_Len.f kj1 (rd l0 0)).bind fun t182 => (if (l0.length : Int) > 1 then ((frame_steps.f kj1 l0).bind fun bt183 => ((vint_Len.f kj1 bt183.2).bind fun t187 => ((pack_Width.f kj1 bt183.1).bind fun t188 => ((pack_Bytes.f (bt183.1.length : Int) t188).bind fun t189 => (some (wrap64 (t182 + (wrap64 ((wrap64 (t187 + 1)) + t189))))))))) else (some t182))) else (none)) = some r := by rw [if_neg (show ¬ (false = true) by decide)] at H; exact H
    clear H
    have H := H1
    clear H1
    by_cases c5 : 0 < (l0.length : Int)
    ·rw [if_pos c5] at H
     have c5b0 : decide (0 < (l0.length : Int)) = true := decide_eq_true c5
     have c5b1 : decide (0 < l0.length) = true := decide_eq_true (by omega)
     clear c5
     replace H := Option.bind_eq_some_iff.mp H
     obtain ⟨t182, A60, H⟩ := H
     replace H : (if (l0.length : Int) > 1 then ((frame_steps.f kj1 l0).bind fun bt183 => ((vint_Len.f kj1 bt183.2).bind fun t187 => ((pack_Width.f kj1 bt183.1).bind fun t188 => ((pack_Bytes.f (bt183.1.length : Int) t188).bind fun t189 => (some (wrap64 (t182 + (wrap64 ((wrap64 (t187 + 1)) + t189))))))))) else (some t182)) = some r := H
     have A6 := Aside0.mk A60
     clear A60
     by_cases c7 : (l0.length : Int) > 1
     ·rw [if_pos c7] at H
      have c7b0 : decide (1 < (l0.length : Int)) = true := decide_eq_true c7
      have c7b1 : decide (1 < l0.length) = true := decide_eq_true (by omega)
      clear c7
      replace H := Option.bind_eq_some_iff.mp H
      obtain ⟨⟨t183, t184⟩, A80, H⟩ := H
      replace H : ((vint_Len.f kj1 t184).bind fun t187 => ((pack_Width.f kj1 t183).bind fun t188 => ((pack_Bytes.f (t183.length : Int) t188).bind fun t189 => (some (wrap64 (t182 + (wrap64 ((wrap64 (t187 + 1)) + t189)))))))) = some r := H
      have A8 := Aside0.mk A80
      clear A80
      replace H := Option.bind_eq_some_iff.mp H
      obtain ⟨t187, A90, H⟩ := H
      replace H : ((pack_Width.f kj1 t183).bind fun t188 => ((pack_Bytes.f (t183.length : Int) t188).bind fun t189 => (some (wrap64 (t182 + (wrap64 ((wrap64 (t187 + 1)) + t189))))))) = some r := H
      have A9 := Aside0.mk A90
      clear A90
      replace H := Option.bind_eq_some_iff.mp H
      obtain ⟨t188, A100, H⟩ := H
      replace H : ((pack_Bytes.f (t183.length : Int) t188).bind fun t189 => (some (wrap64 (t182 + (wrap64 ((wrap64 (t187 + 1)) + t189)))))) = some r := H
      have A10 := Aside0.mk A100
      clear A100
      replace H := Option.bind_eq_some_iff.mp H
      obtain ⟨t189, A110, H⟩ := H
      replace H : (some (wrap64 (t182 + (wrap64 ((wrap64 (t187 + 1)) + t189))))) = some r := H
      have A11 := Aside0.mk A110
      clear A110
      obtain rfl := Option.some.inj H
      have p181 : 0 ≤ (0 : Int) := (by omega)
      have q181 : 0 < (l0.length : Int) := of_decide_eq_true (by assumption)
      obtain ⟨ad181, e181, hx181_0⟩ := Kd.at_int HR0.out 0 p181 q181
      cases e181
      have qi181 : (0 < l0.length) = True := eq_true (by omega)
      (try rw [show ((0 : Int)).toNat = 0 from rfl] at hx181_0)
      (try rw [Addr.add_zero'] at hx181_0)
      replace hx181_0 := (HB.out.cell (World.block_lt_of_cell? w _ hx181_0)).trans hx181_0
      replace p181 := eq_true p181
      replace q181 := eq_true q181
      go_wp2_with (first | ((with_reducible refine gate_callee (f := 27) rfl ?_); refine goesL_ (some 17) rfl rfl Try.func27 (by kernel_rfl) rfl #[.int .i64 (rd l0 0)] rfl (by (try simp only [List.map_toArray, List.map_cons, List.map_nil]); first | done | rfl) ?_; (with_reducible refine (vint_Len.calls kj1 (rd l0 0) t182 _ A6.out).mono ?_); rintro e w12 ⟨rfl, hb⟩; refine ⟨_, rfl, ?_⟩; have n0_ := Aside0.mk (below_step (by repeat (first | exact HB.out | apply below_alloc | apply pw_below_drewN | apply below_drew1)) hb); clear HB; have HB := n0_; clear n0_; (try clear hb); (try clear hb2); (try clear hk); (try clear hi)) | ((with_reducible refine gate_callee (f := 15) rfl ?_); refine goesL_ (some 23) rfl rfl Try.func15 (by kernel_rfl) rfl #[.slice (some ad181) l0.length c0] rfl (by (try simp only [List.map_toArray, List.map_cons, List.map_nil]); first | done | rfl) ?_; (with_reducible refine (frame_steps.calls kj1 _ _ l0 t183 t184 _ ?side1 ?side2 A8.out).mono ?_); (case side1 => repeat (first | exact (Kd.C_below HR0.out HB.out) | (with_reducible refine Kd.C_alloc ?_ _) | (with_reducible refine Kd.C_drewN ?_ _) | (with_reducible refine Kd.C_drew ?_))); (case side2 => exact HC0.out); rintro e w13 ⟨v185, rfl, ho0, hb⟩; refine ⟨_, rfl, ?_⟩; have n0_ := Aside0.mk (Kd.R_lower ho0 (below_size (by repeat (first | exact HB.out | apply below_alloc | apply pw_below_drewN | apply below_drew1)))); have n1_ := Aside0.mk (below_step (by repeat (first | exact HB.out | apply below_alloc | apply pw_below_drewN | apply below_drew1)) hb); clear HB; have HO186 := n0_; have HB := n1_; clear n0_ n1_; (try clear hb); (try clear hb2); (try clear hk); (try clear hi); (try clear ho0)) | ((with_reducible refine gate_callee (f := 27) rfl ?_); refine goesL_ (some 28) rfl rfl Try.func27 (by kernel_rfl) rfl #[.int .i64 t184] rfl (by (try simp only [List.map_toArray, List.map_cons, List.map_nil]); first | done | rfl) ?_; (with_reducible refine (vint_Len.calls kj1 t184 t187 _ A9.out).mono ?_); rintro e w14 ⟨rfl, hb⟩; refine ⟨_, rfl, ?_⟩; have n0_ := Aside0.mk (Kd.R_below (by (with_reducible repeat (first | apply Kd.R_alloc | apply Kd.R_drewN | apply Kd.R_drew)); exact HO186.out) hb); have n1_ := Aside0.mk (below_step (by repeat (first | exact HB.out | apply below_alloc | apply pw_below_drewN | apply below_drew1)) hb); clear HO186; clear HB; have HO186 := n0_; have HB := n1_; clear n0_ n1_; (try clear hb); (try clear hb2); (try clear hk); (try clear hi); obtain ⟨Ao15, co15, eo15⟩ := Kd.R_slice HO186.out; subst eo15) | ((with_reducible refine gate_callee (f := 16) rfl ?_); refine goesL_ (some 33) rfl rfl Try.func16 (by kernel_rfl) rfl #[.slice Ao15 t183.length co15] rfl (by (try simp only [List.map_toArray, List.map_cons, List.map_nil]); first | done | rfl) ?_; (with_reducible refine (pack_Width.calls kj1 _ _ t183 t188 _ ?side1 ?side2 A10.out).mono ?_); (case side1 => repeat (first | exact (Kd.R_reads' HO186.out).2.2 | (with_reducible refine Kd.C_alloc ?_ _) | (with_reducible refine Kd.C_drewN ?_ _) | (with_reducible refine Kd.C_drew ?_))); (case side2 => exact (Kd.R_reads' HO186.out).2.1); rintro e w' ⟨rfl, ⟨nd, rfl⟩⟩; refine ⟨_, rfl, ?_⟩) | ((with_reducible refine gate_callee (f := 28) rfl ?_); refine goesL_ (some 34) rfl rfl Try.func28 (by kernel_rfl) rfl #[.int .i64 (t183.length : Int), .int .i64 t188] rfl (by (try simp only [List.map_toArray, List.map_cons, List.map_nil]); first | done | rfl) ?_; (with_reducible refine (pack_Bytes.calls (t183.length : Int) t188 t189 _ A11.out).mono ?_); rintro e w' ⟨rfl, ⟨nd, rfl⟩⟩; refine ⟨_, rfl, ?_⟩))
      go_ret
      exact ⟨by first | rfl | (simp [errW_none, errW_some] <;> rfl) | (simp [*, errW_none, errW_some] <;> rfl), by repeat (first | (with_reducible first | exact HB.out | apply below_alloc | apply pw_below_drewN | apply below_drew1) | exact HB.out)⟩
     ·rw [if_neg c7] at H
      have c7b0 : decide (1 < (l0.length : Int)) = false := decide_eq_false c7
      have c7b1 : decide (1 < l0.length) = false := decide_eq_false (by omega)
      clear c7
      obtain rfl := Option.some.inj H
      have p181 : 0 ≤ (0 : Int) := (by omega)
      have q181 : 0 < (l0.length : Int) := of_decide_eq_true (by assumption)
      obtain ⟨ad181, e181, hx181_0⟩ := Kd.at_int HR0.out 0 p181 q181
      cases e181
      have qi181 : (0 < l0.length) = True := eq_true (by omega)
      (try rw [show ((0 : Int)).toNat = 0 from rfl] at hx181_0)
      (try rw [Addr.add_zero'] at hx181_0)
      replace hx181_0 := (HB.out.cell (World.block_lt_of_cell? w _ hx181_0)).trans hx181_0
      replace p181 := eq_true p181
      replace q181 := eq_true q181
      go_wp2_with (first | ((with_reducible refine gate_callee (f := 27) rfl ?_); refine goesL_ (some 17) rfl rfl Try.func27 (by kernel_rfl) rfl #[.int .i64 (rd l0 0)] rfl (by (try simp only [List.map_toArray, List.map_cons, List.map_nil]); first | done | rfl) ?_; (with_reducible refine (vint_Len.calls kj1 (rd l0 0) t182 _ A6.out).mono ?_); rintro e w16 ⟨rfl, hb⟩; refine ⟨_, rfl, ?_⟩; have n0_ := Aside0.mk (below_step (by repeat (first | exact HB.out | apply below_alloc | apply pw_below_drewN | apply below_drew1)) hb); clear HB; have HB := n0_; clear n0_; (try clear hb); (try clear hb2); (try clear hk); (try clear hi)))
      go_ret
      exact ⟨by first | rfl | (simp [errW_none, errW_some] <;> rfl) | (simp [*, errW_none, errW_some] <;> rfl), by repeat (first | (with_reducible first | exact HB.out | apply below_alloc | apply pw_below_drewN | apply below_drew1) | exact HB.out)⟩
    ·rw [if_neg c5] at H
     exact absurd H (by simp)

/-! ### peristyleref01_Same: function 12 -/
def peristyleref01_Same.l0 : Nat → List Int → List Int → Int → Option (Bool)
 | 0, _, _, _ => none
 | k + 1, x0, x1, x5 => if x5 < (x0.length : Int) then (if 0 ≤ x5 then (if x5 < (x1.length : Int) then (if (rd x0 x5) = (rd x1 x5) then (peristyleref01_Same.l0 k x0 x1 (wrap64 (x5 + 1))) else (some false)) else (none)) else (none)) else (some true)
def peristyleref01_Same.f (k : Nat) (l0 : List Int) (l1 : List Int) : Option (Bool) := if (l0.length : Int) = (l1.length : Int) then (peristyleref01_Same.l0 k l0 l1 0) else (some false)
theorem peristyleref01_Same.l0_succ (k : Nat) (x0 : List Int) (x1 : List Int) (x5 : Int) : peristyleref01_Same.l0 (k + 1) x0 x1 x5 = (if x5 < (x0.length : Int) then (if 0 ≤ x5 then (if x5 < (x1.length : Int) then (if (rd x0 x5) = (rd x1 x5) then (peristyleref01_Same.l0 k x0 x1 (wrap64 (x5 + 1))) else (some false)) else (none)) else (none)) else (some true)) := by
 simp only [peristyleref01_Same.l0]
theorem peristyleref01_Same.mono_l : ∀ k, (∀ y0 y1 y2, LeO (peristyleref01_Same.l0 k y0 y1 y2) (peristyleref01_Same.l0 (k + 1) y0 y1 y2))
 | 0 => fun _ _ _ r h => by simp [peristyleref01_Same.l0] at h
 | k + 1 => by
  have ih0 := peristyleref01_Same.mono_l k
  ·intro y0 y1 y2
   unfold peristyleref01_Same.l0
   repeat' first
   | (with_reducible exact ih0 _ _ _)
   | (with_reducible exact LeO.refl _)
   | (with_reducible exact LeO.none _)
   | (with_reducible refine LeO.ite ?_ ?_)
   | (with_reducible refine LeO.bind ?_ (fun _ => ?_))
   | exact ih0 _ _ _
   | exact LeO.none _
   | refine LeO.ite ?_ ?_
   | refine LeO.bind ?_ (fun _ => ?_)
theorem peristyleref01_Same.mono : ∀ a0 a1 k, LeO (peristyleref01_Same.f k a0 a1) (peristyleref01_Same.f (k + 1) a0 a1) := by
 intro a0 a1 k
 have ih0 := peristyleref01_Same.mono_l k
 unfold peristyleref01_Same.f
 repeat' first
   | (with_reducible exact ih0 _ _ _)
   | (with_reducible exact LeO.refl _)
   | (with_reducible exact LeO.none _)
   | (with_reducible refine LeO.ite ?_ ?_)
   | (with_reducible refine LeO.bind ?_ (fun _ => ?_))
   | exact ih0 _ _ _
   | exact LeO.none _
   | refine LeO.ite ?_ ?_
   | refine LeO.bind ?_ (fun _ => ?_)
set_option maxHeartbeats 8000000 in
set_option maxRecDepth 100000 in
theorem peristyleref01_Same.calls (k : Nat) (A0 : Option Addr) (c0 : Nat) (l0 : List Int) (A1 : Option Addr) (c1 : Nat) (l1 : List Int) (r : Bool) (w : World) (hr0 : Kd.C (Kd.int .i64) w A0 l0.length l0) (hc0 : l0.length ≤ c0) (hr1 : Kd.C (Kd.int .i64) w A1 l1.length l1) (hc1 : l1.length ≤ c1) (h : peristyleref01_Same.f k l0 l1 = some r) :
  Calls Try.prog 12 #[.slice A0 l0.length c0, .slice A1 l1.length c1] w fun e w' => e = .returned (.bool r) ∧ Drawn0 w w' := by
 have HR0 := Aside0.mk hr0
 have HC0 := Aside0.mk hc0
 clear hr0 hc0
 have HR1 := Aside0.mk hr1
 have HC1 := Aside0.mk hc1
 clear hr1 hc1
 have H : (if (l0.length : Int) = (l1.length : Int) then (peristyleref01_Same.l0 k l0 l1 0) else (some false)) = some r := h
 clear h
 by_cases c3 : (l0.length : Int) = (l1.length : Int)
 ·rw [if_pos c3] at H
  have c3b0 : ((l0.length : Int) == (l1.length : Int)) = true := beq_iff_eq.mpr c3
  have c3b1 : ((l0.length : Int) != (l1.length : Int)) = false := bne_eq_false_iff_eq.mpr c3
  have c3b2 : (l0.length == l1.length) = true := by first | simpa using c3 | (simp at c3 ⊢; omega)
  clear c3
  have H' := Aside0.mk H
  clear H
  go_enter Try.func12, Try.ntmps12
  go_wp2
  repeat (go_quiet (fail); try go_wp2)
  go_loopg [5] k (fun kq v5 w' => ∃ (x5_1 : Int), v5 = .int .i64 x5_1 ∧ Aside0 (peristyleref01_Same.l0 kq l0 l1 x5_1 = some r) ∧ Aside0 (kq ≤ k) ∧ Drawn0 w w')
  case atStart => exact ⟨(0), (by first | rfl | (simp; done) | (simp [*]; done)), H', ⟨Nat.le_refl _⟩, by repeat (first | exact Drawn0.refl _ | apply Drawn0.step)⟩
  case round =>
   clear H'
   try clear c1
   try clear p2
   try clear c3
   try clear c3b0
   try clear c3b1
   try clear c3b2
   obtain ⟨x5_1, rfl, HA, HK1, ⟨m1, rfl⟩⟩ := hrel
   cases gk with
   | zero => exact absurd HA.out (by simp [peristyleref01_Same.l0])
   | succ k1 =>
    have H := HA.out
    clear HA
    simp only [peristyleref01_Same.l0] at H
    by_cases c4 : x5_1 < (l0.length : Int)
    ·rw [if_pos c4] at H
     have c4b0 : decide (x5_1 < (l0.length : Int)) = true := decide_eq_true c4
     clear c4
     by_cases c5 : 0 ≤ x5_1
     ·rw [if_pos c5] at H
      have c5b0 : decide (0 ≤ x5_1) = true := decide_eq_true c5
      clear c5
      by_cases c6 : x5_1 < (l1.length : Int)
      ·rw [if_pos c6] at H
       have c6b0 : decide (x5_1 < (l1.length : Int)) = true := decide_eq_true c6
       clear c6
       by_cases c7 : (rd l0 x5_1) = (rd l1 x5_1)
       ·rw [if_pos c7] at H
        have c7b0 : ((rd l0 x5_1) == (rd l1 x5_1)) = true := beq_iff_eq.mpr c7
        have c7b1 : ((rd l0 x5_1) != (rd l1 x5_1)) = false := bne_eq_false_iff_eq.mpr c7
        clear c7
        have H' := Aside0.mk H
        clear H
        have p190 : 0 ≤ (x5_1 : Int) := of_decide_eq_true (by assumption)
        have q190 : x5_1 < (l0.length : Int) := of_decide_eq_true (by assumption)
        obtain ⟨ad190, e190, hx190_0⟩ := Kd.at_int HR0.out x5_1 p190 q190
        cases e190
        replace p190 := eq_true p190
        replace q190 := eq_true q190
        have p191 : 0 ≤ (x5_1 : Int) := of_decide_eq_true (by assumption)
        have q191 : x5_1 < (l1.length : Int) := of_decide_eq_true (by assumption)
        obtain ⟨ad191, e191, hx191_0⟩ := Kd.at_int HR1.out x5_1 p191 q191
        cases e191
        replace p191 := eq_true p191
        replace q191 := eq_true q191
        go_wp2
        repeat (go_quiet (fail); try go_wp2)
        go_roundg k1
        case measure => have := HK1.out; omega
        case rel => exact ⟨(wrap64 (x5_1 + 1)), (by first | rfl | (simp; done) | (simp [*]; done)), H', ⟨by have := HK1.out; omega⟩, by repeat (first | exact Drawn0.refl _ | apply Drawn0.step)⟩
       ·rw [if_neg c7] at H
        have c7b0 : ((rd l0 x5_1) == (rd l1 x5_1)) = false := beq_eq_false_iff_ne.mpr c7
        have c7b1 : ((rd l0 x5_1) != (rd l1 x5_1)) = true := bne_iff_ne.mpr c7
        obtain rfl := Option.some.inj H
        have p190 : 0 ≤ (x5_1 : Int) := of_decide_eq_true (by assumption)
        have q190 : x5_1 < (l0.length : Int) := of_decide_eq_true (by assumption)
        obtain ⟨ad190, e190, hx190_0⟩ := Kd.at_int HR0.out x5_1 p190 q190
        cases e190
        replace p190 := eq_true p190
        replace q190 := eq_true q190
        have p191 : 0 ≤ (x5_1 : Int) := of_decide_eq_true (by assumption)
        have q191 : x5_1 < (l1.length : Int) := of_decide_eq_true (by assumption)
        obtain ⟨ad191, e191, hx191_0⟩ := Kd.at_int HR1.out x5_1 p191 q191
        cases e191
        replace p191 := eq_true p191
        replace q191 := eq_true q191
        go_wp2
        repeat (go_quiet (fail); try go_wp2)
        go_ret
        exact ⟨by first | rfl | (unfold wrap64; rfl) | (simp; done) | (simp [*]; done), by repeat (first | exact Drawn0.refl _ | apply Drawn0.step)⟩
      ·rw [if_neg c6] at H
       exact absurd H (by simp)
     ·rw [if_neg c5] at H
      exact absurd H (by simp)
    ·rw [if_neg c4] at H
     have c4b0 : decide (x5_1 < (l0.length : Int)) = false := decide_eq_false c4
     clear c4
     obtain rfl := Option.some.inj H
     go_wp2
     repeat (go_quiet (fail); try go_wp2)
     go_ret
     exact ⟨by first | rfl | (unfold wrap64; rfl) | (simp; done) | (simp [*]; done), by repeat (first | exact Drawn0.refl _ | apply Drawn0.step)⟩
 ·rw [if_neg c3] at H
  have c3b0 : ((l0.length : Int) == (l1.length : Int)) = false := beq_eq_false_iff_ne.mpr c3
  have c3b1 : ((l0.length : Int) != (l1.length : Int)) = true := bne_iff_ne.mpr c3
  have c3b2 : (l0.length == l1.length) = false := by first | simpa using c3 | (simp at c3 ⊢; omega)
  obtain rfl := Option.some.inj H
  go_enter Try.func12, Try.ntmps12
  go_wp2
  repeat (go_quiet (fail); try go_wp2)
  go_ret
  exact ⟨by first | rfl | (unfold wrap64; rfl) | (simp; done) | (simp [*]; done), by repeat (first | exact Drawn0.refl _ | apply Drawn0.step)⟩

/-! ### peristylelaw09_awake: function 7 -/
def peristylelaw09_awake.f (k : Nat)  : Option (Bool) := (frame_Put.f k (([5, 6, 7, 8] : List Int))).bind fun bt195 => ((frame_Take.f k (⟨#[10, 0, 1, 2]⟩ : ByteArray) 3).bind fun bt197 => (if bt195.1.toList = ([10, 2, 0] : List UInt8) then (if bt195.2 = 0 then ((peristyleref01_Same.f k bt197.1 (([5, 5, 6] : List Int))).bind fun t204 => (if t204 = true then (if bt197.2 = 0 then ((frame_Size.f k (([5, 6] : List Int))).bind fun t208 => (some (t208 == 3))) else (some false)) else (some false))) else (some false)) else (some false)))
theorem peristylelaw09_awake.mono : ∀ k, LeO (peristylelaw09_awake.f k ) (peristylelaw09_awake.f (k + 1) ) := by
 intro  k
 unfold peristylelaw09_awake.f
 repeat' first
   | (with_reducible exact frame_Put.mono _ _)
   | (with_reducible exact frame_Size.mono _ _)
   | (with_reducible exact frame_Take.mono _ _ _)
   | (with_reducible exact peristyleref01_Same.mono _ _ _)
   | (with_reducible exact LeO.refl _)
   | (with_reducible exact LeO.none _)
   | (with_reducible refine LeO.ite ?_ ?_)
   | (with_reducible refine LeO.bind ?_ (fun _ => ?_))
   | exact frame_Put.mono _ _
   | exact frame_Size.mono _ _
   | exact frame_Take.mono _ _ _
   | exact peristyleref01_Same.mono _ _ _
   | exact LeO.none _
   | refine LeO.ite ?_ ?_
   | refine LeO.bind ?_ (fun _ => ?_)
set_option maxHeartbeats 8000000 in
set_option maxRecDepth 100000 in
theorem peristylelaw09_awake.calls (k : Nat)  (r : Bool) (w : World) (h : peristylelaw09_awake.f k  = some r) :
  Calls Try.prog 7 #[] w fun e w' => e = .returned (.bool r) ∧ Below w.heap.size w w' := by
 have HB := Aside0.mk (Below.refl w.heap.size w)
 have H : ((frame_Put.f k (([5, 6, 7, 8] : List Int))).bind fun bt195 => ((frame_Take.f k (⟨#[10, 0, 1, 2]⟩ : ByteArray) 3).bind fun bt197 => (if bt195.1.toList = ([10, 2, 0] : List UInt8) then (if bt195.2 = 0 then ((peristyleref01_Same.f k bt197.1 (([5, 5, 6] : List Int))).bind fun t204 => (if t204 = true then (if bt197.2 = 0 then ((frame_Size.f k (([5, 6] : List Int))).bind fun t208 => (some (t208 == 3))) else (some false)) else (some false))) else (some false)) else (some false)))) = some r := h
 clear h
 obtain ⟨y192, hy192⟩ : ∃ y_ : List Int, y_ = (([5, 6, 7, 8] : List Int)) := ⟨_, rfl⟩
 replace H : ((frame_Put.f k y192).bind fun bt195 => ((frame_Take.f k (⟨#[10, 0, 1, 2]⟩ : ByteArray) 3).bind fun bt197 => (if bt195.1.toList = ([10, 2, 0] : List UInt8) then (if bt195.2 = 0 then ((peristyleref01_Same.f k bt197.1 (([5, 5, 6] : List Int))).bind fun t204 => (if t204 = true then (if bt197.2 = 0 then ((frame_Size.f k (([5, 6] : List Int))).bind fun t208 => (some (t208 == 3))) else (some false)) else (some false))) else (some false)) else (some false)))) = some r := by first | (rw [hy192]; with_reducible exact H) | (have H2_ := (Option.bind_some _ _).symm.trans H; rw [hy192]; with_reducible exact H2_) | (have H2_ := (Option.bind_some _ _).symm.trans H; with_reducible exact H2_) | with_reducible exact H | (rw [hy192]; exact H) | exact H
 have Ny192 := Aside0.mk hy192
 clear hy192
 replace H := Option.bind_eq_some_iff.mp H
 obtain ⟨⟨t195, t196⟩, A10, H⟩ := H
 replace H : ((frame_Take.f k (⟨#[10, 0, 1, 2]⟩ : ByteArray) 3).bind fun bt197 => (if t195.toList = ([10, 2, 0] : List UInt8) then (if t196 = 0 then ((peristyleref01_Same.f k bt197.1 (([5, 5, 6] : List Int))).bind fun t204 => (if t204 = true then (if bt197.2 = 0 then ((frame_Size.f k (([5, 6] : List Int))).bind fun t208 => (some (t208 == 3))) else (some false)) else (some false))) else (some false)) else (some false))) = some r := H
 have A1 := Aside0.mk A10
 clear A10
 replace H := Option.bind_eq_some_iff.mp H
 obtain ⟨⟨t197, t198⟩, A20, H⟩ := H
 replace H : (if t195.toList = ([10, 2, 0] : List UInt8) then (if t196 = 0 then ((peristyleref01_Same.f k t197 (([5, 5, 6] : List Int))).bind fun t204 => (if t204 = true then (if t198 = 0 then ((frame_Size.f k (([5, 6] : List Int))).bind fun t208 => (some (t208 == 3))) else (some false)) else (some false))) else (some false)) else (some false)) = some r := H
 have A2 := Aside0.mk A20
 clear A20
 by_cases c3 : t195.toList = ([10, 2, 0] : List UInt8)
 ·rw [if_pos c3] at H
  have c3b0 : (t195.toList == ([10, 2, 0] : List UInt8)) = true := beq_iff_eq.mpr c3
  have c3b1 : (t195.toList != ([10, 2, 0] : List UInt8)) = false := bne_eq_false_iff_eq.mpr c3
  clear c3
  by_cases c4 : t196 = 0
  ·rw [if_pos c4] at H
   have c4b0 : (t196 == 0) = true := beq_iff_eq.mpr c4
   have c4b1 : (t196 != 0) = false := bne_eq_false_iff_eq.mpr c4
   clear c4
   obtain ⟨y201, hy201⟩ : ∃ y_ : List Int, y_ = (([5, 5, 6] : List Int)) := ⟨_, rfl⟩
   replace H : ((peristyleref01_Same.f k t197 y201).bind fun t204 => (if t204 = true then (if t198 = 0 then ((frame_Size.f k (([5, 6] : List Int))).bind fun t208 => (some (t208 == 3))) else (some false)) else (some false))) = some r := by first | (rw [hy201]; with_reducible exact H) | (have H2_ := (Option.bind_some _ _).symm.trans H; rw [hy201]; with_reducible exact H2_) | (have H2_ := (Option.bind_some _ _).symm.trans H; with_reducible exact H2_) | with_reducible exact H | (rw [hy201]; exact H) | exact H
   have Ny201 := Aside0.mk hy201
   clear hy201
   replace H := Option.bind_eq_some_iff.mp H
   obtain ⟨t204, A50, H⟩ := H
   replace H : (if t204 = true then (if t198 = 0 then ((frame_Size.f k (([5, 6] : List Int))).bind fun t208 => (some (t208 == 3))) else (some false)) else (some false)) = some r := H
   have A5 := Aside0.mk A50
   clear A50
   by_cases c6 : t204 = true
   ·subst c6
    have H1 : (if t198 = 0 then ((frame_Size.f k (([5, 6] : List Int))).bind fun t208 => (some (t208 == 3))) else (some false)) = some r := by rw [if_pos rfl] at H; exact H
    clear H
    have H := H1
    clear H1
    by_cases c7 : t198 = 0
    ·rw [if_pos c7] at H
     have c7b0 : (t198 == 0) = true := beq_iff_eq.mpr c7
     have c7b1 : (t198 != 0) = false := bne_eq_false_iff_eq.mpr c7
     clear c7
     obtain ⟨y205, hy205⟩ : ∃ y_ : List Int, y_ = (([5, 6] : List Int)) := ⟨_, rfl⟩
     replace H : ((frame_Size.f k y205).bind fun t208 => (some (t208 == 3))) = some r := by first | (rw [hy205]; with_reducible exact H) | (have H2_ := (Option.bind_some _ _).symm.trans H; rw [hy205]; with_reducible exact H2_) | (have H2_ := (Option.bind_some _ _).symm.trans H; with_reducible exact H2_) | with_reducible exact H | (rw [hy205]; exact H) | exact H
     have Ny205 := Aside0.mk hy205
     clear hy205
     replace H := Option.bind_eq_some_iff.mp H
     obtain ⟨t208, A80, H⟩ := H
     replace H : (some (t208 == 3)) = some r := H
     have A8 := Aside0.mk A80
     clear A80
     obtain rfl := Option.some.inj H
     go_enter Try.func7, Try.ntmps7
     go_wp2_with (first | ((with_reducible refine gate_dst (N := 6) rfl ?_); (try (refine gate_guard (by rfl) ?_; dsimp only)); refine Kd.R_lit (Kd.int .i64) _ 3 ?hg (N := 6) ?hd (xs := ([5, 6, 7, 8] : List Int)) (inner := [.int .i64 5, .int .i64 6, .int .i64 7, .int .i64 8]) (ok := fun _ => True) (okp := fun _ => True) ?hr ?hp (fun _ hk => hk) trivial (Below.refl _ _) (Nat.le_refl _) (by simp) ?_; (case hd => rfl); (case hg => rfl); (case hr => first | (go_simp; done) | (go_simp; rfl)); (case hp => exact (Reps.one (show Kd.M (Kd.int .i64) _ _ _ 5 [.int .i64 5] from rfl) (Reps.one (show Kd.M (Kd.int .i64) _ _ _ 6 [.int .i64 6] from rfl) (Reps.one (show Kd.M (Kd.int .i64) _ _ _ 7 [.int .i64 7] from rfl) (Reps.one (show Kd.M (Kd.int .i64) _ _ _ 8 [.int .i64 8] from rfl) (Reps.none _ _)))))); intro v193 w9 ho10 hb hg_ hnew_; clear hg_ hnew_; (first | rw [← Ny192.out] at ho10 | (simp only [Int.reduceToNat] at ho10; rw [← Ny192.out] at ho10)); have n0_ := Aside0.mk (Kd.R_lower ho10 (below_size (by repeat (first | exact HB.out | apply below_alloc | apply pw_below_drewN | apply below_drew1)))); have n1_ := Aside0.mk (below_step (by repeat (first | exact HB.out | apply below_alloc | apply pw_below_drewN | apply below_drew1)) hb); clear HB; have HO194 := n0_; have HB := n1_; clear n0_ n1_; clear hb ho10; obtain ⟨Ao11, co11, eo11⟩ := Kd.R_slice HO194.out; subst eo11) | ((with_reducible refine gate_callee (f := 8) rfl ?_); refine goesL_ (some 7) rfl rfl Try.func8 (by kernel_rfl) rfl #[.slice Ao11 y192.length co11] rfl (by (try simp only [List.map_toArray, List.map_cons, List.map_nil]); first | done | rfl) ?_; (with_reducible refine (frame_Put.calls k _ _ y192 t195 t196 _ ?side1 ?side2 A1.out).mono ?_); (case side1 => repeat (first | exact (Kd.R_reads' HO194.out).2.2 | (with_reducible refine Kd.C_alloc ?_ _) | (with_reducible refine Kd.C_drewN ?_ _) | (with_reducible refine Kd.C_drew ?_))); (case side2 => exact (Kd.R_reads' HO194.out).2.1); rintro e w12 ⟨rfl, hb⟩; refine ⟨_, rfl, ?_⟩; have n0_ := Aside0.mk (Kd.R_below (by (with_reducible repeat (first | apply Kd.R_alloc | apply Kd.R_drewN | apply Kd.R_drew)); exact HO194.out) hb); have n1_ := Aside0.mk (below_step (by repeat (first | exact HB.out | apply below_alloc | apply pw_below_drewN | apply below_drew1)) hb); clear HO194; clear HB; have HO194 := n0_; have HB := n1_; clear n0_ n1_; (try clear hb); (try clear hb2); (try clear hk); (try clear hi)) | ((with_reducible refine gate_callee (f := 10) rfl ?_); refine goesL_ (some 11) rfl rfl Try.func10 (by kernel_rfl) rfl #[.string (⟨#[10, 0, 1, 2]⟩ : ByteArray), .int .i64 3] rfl (by (try simp only [List.map_toArray, List.map_cons, List.map_nil]); first | done | rfl) ?_; (with_reducible refine (frame_Take.calls k (⟨#[10, 0, 1, 2]⟩ : ByteArray) 3 t197 t198 _ A2.out).mono ?_); rintro e w13 ⟨v199, rfl, ho0, hb⟩; refine ⟨_, rfl, ?_⟩; have n0_ := Aside0.mk (Kd.R_elder' (by (with_reducible repeat (first | apply Kd.R_alloc | apply Kd.R_drewN | apply Kd.R_drew)); exact HO194.out) (Kd.R_base ho0) hb); have n1_ := Aside0.mk (Kd.R_lower (Kd.R_new' ho0 (Kd.R_lt (by (with_reducible repeat (first | apply Kd.R_alloc | apply Kd.R_drewN | apply Kd.R_drew)); exact HO194.out))) (below_size (by repeat (first | exact HB.out | apply below_alloc | apply pw_below_drewN | apply below_drew1)))); have n2_ := Aside0.mk (below_step (by repeat (first | exact HB.out | apply below_alloc | apply pw_below_drewN | apply below_drew1)) hb); clear HO194; clear HB; have HO194 := n0_; have HO200 := n1_; have HB := n2_; clear n0_ n1_ n2_; (try clear hb); (try clear hb2); (try clear hk); (try clear hi); (try clear ho0)) | ((with_reducible refine gate_dst (N := 22) rfl ?_); (try (refine gate_guard (by rfl) ?_; dsimp only)); refine Kd.R_lit (Kd.int .i64) _ 3 ?hg (N := 22) ?hd (xs := ([5, 5, 6] : List Int)) (inner := [.int .i64 5, .int .i64 5, .int .i64 6]) (ok := fun _ => True) (okp := fun _ => True) ?hr ?hp (fun _ hk => hk) trivial (Below.refl _ _) (Nat.le_refl _) (by simp) ?_; (case hd => rfl); (case hg => rfl); (case hr => first | (go_simp; done) | (go_simp; rfl)); (case hp => exact (Reps.one (show Kd.M (Kd.int .i64) _ _ _ 5 [.int .i64 5] from rfl) (Reps.one (show Kd.M (Kd.int .i64) _ _ _ 5 [.int .i64 5] from rfl) (Reps.one (show Kd.M (Kd.int .i64) _ _ _ 6 [.int .i64 6] from rfl) (Reps.none _ _))))); intro v202 w14 ho15 hb hg_ hnew_; clear hg_ hnew_; (first | rw [← Ny201.out] at ho15 | (simp only [Int.reduceToNat] at ho15; rw [← Ny201.out] at ho15)); have n0_ := Aside0.mk (Kd.R_elder' (by (with_reducible repeat (first | apply Kd.R_alloc | apply Kd.R_drewN | apply Kd.R_drew)); exact HO194.out) (Kd.R_base ho15) hb); have n1_ := Aside0.mk (Kd.R_elder' (by (with_reducible repeat (first | apply Kd.R_alloc | apply Kd.R_drewN | apply Kd.R_drew)); exact HO200.out) (Kd.R_base ho15) hb); have n2_ := Aside0.mk (Kd.R_lower (Kd.R_new' (Kd.R_new' ho15 (Kd.R_lt (by (with_reducible repeat (first | apply Kd.R_alloc | apply Kd.R_drewN | apply Kd.R_drew)); exact HO194.out))) (Kd.R_lt (by (with_reducible repeat (first | apply Kd.R_alloc | apply Kd.R_drewN | apply Kd.R_drew)); exact HO200.out))) (below_size (by repeat (first | exact HB.out | apply below_alloc | apply pw_below_drewN | apply below_drew1)))); have n3_ := Aside0.mk (below_step (by repeat (first | exact HB.out | apply below_alloc | apply pw_below_drewN | apply below_drew1)) hb); clear HO194; clear HO200; clear HB; have HO194 := n0_; have HO200 := n1_; have HO203 := n2_; have HB := n3_; clear n0_ n1_ n2_ n3_; clear hb ho15; obtain ⟨Ao16, co16, eo16⟩ := Kd.R_slice HO200.out; subst eo16; obtain ⟨Ao17, co17, eo17⟩ := Kd.R_slice HO203.out; subst eo17) | (go_at_call 12; (with_reducible refine (peristyleref01_Same.calls k _ _ t197 _ _ y201 true _ ?side1 ?side2 ?side3 ?side4 A5.out).mono ?_); (case side1 => repeat (first | exact (Kd.R_reads' HO200.out).2.2 | (with_reducible refine Kd.C_alloc ?_ _) | (with_reducible refine Kd.C_drewN ?_ _) | (with_reducible refine Kd.C_drew ?_))); (case side2 => exact (Kd.R_reads' HO200.out).2.1); (case side3 => repeat (first | exact (Kd.R_reads' HO203.out).2.2 | (with_reducible refine Kd.C_alloc ?_ _) | (with_reducible refine Kd.C_drewN ?_ _) | (with_reducible refine Kd.C_drew ?_))); (case side4 => exact (Kd.R_reads' HO203.out).2.1); rintro e w' ⟨rfl, ⟨nd, rfl⟩⟩; (try clear A5)) | ((with_reducible refine gate_dst (N := 30) rfl ?_); (try (refine gate_guard (by rfl) ?_; dsimp only)); refine Kd.R_lit (Kd.int .i64) _ 3 ?hg (N := 30) ?hd (xs := ([5, 6] : List Int)) (inner := [.int .i64 5, .int .i64 6]) (ok := fun _ => True) (okp := fun _ => True) ?hr ?hp (fun _ hk => hk) trivial (Below.refl _ _) (Nat.le_refl _) (by simp) ?_; (case hd => rfl); (case hg => rfl); (case hr => first | (go_simp; done) | (go_simp; rfl)); (case hp => exact (Reps.one (show Kd.M (Kd.int .i64) _ _ _ 5 [.int .i64 5] from rfl) (Reps.one (show Kd.M (Kd.int .i64) _ _ _ 6 [.int .i64 6] from rfl) (Reps.none _ _)))); intro v206 w18 ho19 hb hg_ hnew_; clear hg_ hnew_; (first | rw [← Ny205.out] at ho19 | (simp only [Int.reduceToNat] at ho19; rw [← Ny205.out] at ho19)); have n0_ := Aside0.mk (Kd.R_elder' (by (with_reducible repeat (first | apply Kd.R_alloc | apply Kd.R_drewN | apply Kd.R_drew)); exact HO194.out) (Kd.R_base ho19) hb); have n1_ := Aside0.mk (Kd.R_elder' (by (with_reducible repeat (first | apply Kd.R_alloc | apply Kd.R_drewN | apply Kd.R_drew)); exact HO200.out) (Kd.R_base ho19) hb); have n2_ := Aside0.mk (Kd.R_elder' (by (with_reducible repeat (first | apply Kd.R_alloc | apply Kd.R_drewN | apply Kd.R_drew)); exact HO203.out) (Kd.R_base ho19) hb); have n3_ := Aside0.mk (Kd.R_lower (Kd.R_new' (Kd.R_new' (Kd.R_new' ho19 (Kd.R_lt (by (with_reducible repeat (first | apply Kd.R_alloc | apply Kd.R_drewN | apply Kd.R_drew)); exact HO194.out))) (Kd.R_lt (by (with_reducible repeat (first | apply Kd.R_alloc | apply Kd.R_drewN | apply Kd.R_drew)); exact HO200.out))) (Kd.R_lt (by (with_reducible repeat (first | apply Kd.R_alloc | apply Kd.R_drewN | apply Kd.R_drew)); exact HO203.out))) (below_size (by repeat (first | exact HB.out | apply below_alloc | apply pw_below_drewN | apply below_drew1)))); have n4_ := Aside0.mk (below_step (by repeat (first | exact HB.out | apply below_alloc | apply pw_below_drewN | apply below_drew1)) hb); clear HO194; clear HO200; clear HO203; clear HB; have HO194 := n0_; have HO200 := n1_; have HO203 := n2_; have HO207 := n3_; have HB := n4_; clear n0_ n1_ n2_ n3_ n4_; clear hb ho19; obtain ⟨Ao20, co20, eo20⟩ := Kd.R_slice HO207.out; subst eo20) | (go_at_call 11; (with_reducible refine (frame_Size.calls k _ _ y205 t208 _ ?side1 ?side2 A8.out).mono ?_); (case side1 => repeat (first | exact (Kd.R_reads' HO207.out).2.2 | (with_reducible refine Kd.C_alloc ?_ _) | (with_reducible refine Kd.C_drewN ?_ _) | (with_reducible refine Kd.C_drew ?_))); (case side2 => exact (Kd.R_reads' HO207.out).2.1); rintro e w21 ⟨rfl, hb⟩; have n0_ := Aside0.mk (Kd.R_below (by (with_reducible repeat (first | apply Kd.R_alloc | apply Kd.R_drewN | apply Kd.R_drew)); exact HO194.out) hb); have n1_ := Aside0.mk (Kd.R_below (by (with_reducible repeat (first | apply Kd.R_alloc | apply Kd.R_drewN | apply Kd.R_drew)); exact HO200.out) hb); have n2_ := Aside0.mk (Kd.R_below (by (with_reducible repeat (first | apply Kd.R_alloc | apply Kd.R_drewN | apply Kd.R_drew)); exact HO203.out) hb); have n3_ := Aside0.mk (Kd.R_below (by (with_reducible repeat (first | apply Kd.R_alloc | apply Kd.R_drewN | apply Kd.R_drew)); exact HO207.out) hb); have n4_ := Aside0.mk (below_step (by repeat (first | exact HB.out | apply below_alloc | apply pw_below_drewN | apply below_drew1)) hb); clear HO194; clear HO200; clear HO203; clear HO207; clear HB; have HO194 := n0_; have HO200 := n1_; have HO203 := n2_; have HO207 := n3_; have HB := n4_; clear n0_ n1_ n2_ n3_ n4_; (try clear hb); (try clear hb2); (try clear hk); (try clear hi); (try clear A8)))
     go_ret
     exact ⟨by first | rfl | (simp [errW_none, errW_some] <;> rfl) | (simp [*, errW_none, errW_some] <;> rfl), by repeat (first | (with_reducible first | exact HB.out | apply below_alloc | apply pw_below_drewN | apply below_drew1) | exact HB.out)⟩
    ·rw [if_neg c7] at H
     have c7b0 : (t198 == 0) = false := beq_eq_false_iff_ne.mpr c7
     have c7b1 : (t198 != 0) = true := bne_iff_ne.mpr c7
     obtain rfl := Option.some.inj H
     go_enter Try.func7, Try.ntmps7
     go_wp2_with (first | ((with_reducible refine gate_dst (N := 6) rfl ?_); (try (refine gate_guard (by rfl) ?_; dsimp only)); refine Kd.R_lit (Kd.int .i64) _ 3 ?hg (N := 6) ?hd (xs := ([5, 6, 7, 8] : List Int)) (inner := [.int .i64 5, .int .i64 6, .int .i64 7, .int .i64 8]) (ok := fun _ => True) (okp := fun _ => True) ?hr ?hp (fun _ hk => hk) trivial (Below.refl _ _) (Nat.le_refl _) (by simp) ?_; (case hd => rfl); (case hg => rfl); (case hr => first | (go_simp; done) | (go_simp; rfl)); (case hp => exact (Reps.one (show Kd.M (Kd.int .i64) _ _ _ 5 [.int .i64 5] from rfl) (Reps.one (show Kd.M (Kd.int .i64) _ _ _ 6 [.int .i64 6] from rfl) (Reps.one (show Kd.M (Kd.int .i64) _ _ _ 7 [.int .i64 7] from rfl) (Reps.one (show Kd.M (Kd.int .i64) _ _ _ 8 [.int .i64 8] from rfl) (Reps.none _ _)))))); intro v193 w22 ho23 hb hg_ hnew_; clear hg_ hnew_; (first | rw [← Ny192.out] at ho23 | (simp only [Int.reduceToNat] at ho23; rw [← Ny192.out] at ho23)); have n0_ := Aside0.mk (Kd.R_lower ho23 (below_size (by repeat (first | exact HB.out | apply below_alloc | apply pw_below_drewN | apply below_drew1)))); have n1_ := Aside0.mk (below_step (by repeat (first | exact HB.out | apply below_alloc | apply pw_below_drewN | apply below_drew1)) hb); clear HB; have HO194 := n0_; have HB := n1_; clear n0_ n1_; clear hb ho23; obtain ⟨Ao24, co24, eo24⟩ := Kd.R_slice HO194.out; subst eo24) | ((with_reducible refine gate_callee (f := 8) rfl ?_); refine goesL_ (some 7) rfl rfl Try.func8 (by kernel_rfl) rfl #[.slice Ao24 y192.length co24] rfl (by (try simp only [List.map_toArray, List.map_cons, List.map_nil]); first | done | rfl) ?_; (with_reducible refine (frame_Put.calls k _ _ y192 t195 t196 _ ?side1 ?side2 A1.out).mono ?_); (case side1 => repeat (first | exact (Kd.R_reads' HO194.out).2.2 | (with_reducible refine Kd.C_alloc ?_ _) | (with_reducible refine Kd.C_drewN ?_ _) | (with_reducible refine Kd.C_drew ?_))); (case side2 => exact (Kd.R_reads' HO194.out).2.1); rintro e w25 ⟨rfl, hb⟩; refine ⟨_, rfl, ?_⟩; have n0_ := Aside0.mk (Kd.R_below (by (with_reducible repeat (first | apply Kd.R_alloc | apply Kd.R_drewN | apply Kd.R_drew)); exact HO194.out) hb); have n1_ := Aside0.mk (below_step (by repeat (first | exact HB.out | apply below_alloc | apply pw_below_drewN | apply below_drew1)) hb); clear HO194; clear HB; have HO194 := n0_; have HB := n1_; clear n0_ n1_; (try clear hb); (try clear hb2); (try clear hk); (try clear hi)) | ((with_reducible refine gate_callee (f := 10) rfl ?_); refine goesL_ (some 11) rfl rfl Try.func10 (by kernel_rfl) rfl #[.string (⟨#[10, 0, 1, 2]⟩ : ByteArray), .int .i64 3] rfl (by (try simp only [List.map_toArray, List.map_cons, List.map_nil]); first | done | rfl) ?_; (with_reducible refine (frame_Take.calls k (⟨#[10, 0, 1, 2]⟩ : ByteArray) 3 t197 t198 _ A2.out).mono ?_); rintro e w26 ⟨v199, rfl, ho0, hb⟩; refine ⟨_, rfl, ?_⟩; have n0_ := Aside0.mk (Kd.R_elder' (by (with_reducible repeat (first | apply Kd.R_alloc | apply Kd.R_drewN | apply Kd.R_drew)); exact HO194.out) (Kd.R_base ho0) hb); have n1_ := Aside0.mk (Kd.R_lower (Kd.R_new' ho0 (Kd.R_lt (by (with_reducible repeat (first | apply Kd.R_alloc | apply Kd.R_drewN | apply Kd.R_drew)); exact HO194.out))) (below_size (by repeat (first | exact HB.out | apply below_alloc | apply pw_below_drewN | apply below_drew1)))); have n2_ := Aside0.mk (below_step (by repeat (first | exact HB.out | apply below_alloc | apply pw_below_drewN | apply below_drew1)) hb); clear HO194; clear HB; have HO194 := n0_; have HO200 := n1_; have HB := n2_; clear n0_ n1_ n2_; (try clear hb); (try clear hb2); (try clear hk); (try clear hi); (try clear ho0)) | ((with_reducible refine gate_dst (N := 22) rfl ?_); (try (refine gate_guard (by rfl) ?_; dsimp only)); refine Kd.R_lit (Kd.int .i64) _ 3 ?hg (N := 22) ?hd (xs := ([5, 5, 6] : List Int)) (inner := [.int .i64 5, .int .i64 5, .int .i64 6]) (ok := fun _ => True) (okp := fun _ => True) ?hr ?hp (fun _ hk => hk) trivial (Below.refl _ _) (Nat.le_refl _) (by simp) ?_; (case hd => rfl); (case hg => rfl); (case hr => first | (go_simp; done) | (go_simp; rfl)); (case hp => exact (Reps.one (show Kd.M (Kd.int .i64) _ _ _ 5 [.int .i64 5] from rfl) (Reps.one (show Kd.M (Kd.int .i64) _ _ _ 5 [.int .i64 5] from rfl) (Reps.one (show Kd.M (Kd.int .i64) _ _ _ 6 [.int .i64 6] from rfl) (Reps.none _ _))))); intro v202 w27 ho28 hb hg_ hnew_; clear hg_ hnew_; (first | rw [← Ny201.out] at ho28 | (simp only [Int.reduceToNat] at ho28; rw [← Ny201.out] at ho28)); have n0_ := Aside0.mk (Kd.R_elder' (by (with_reducible repeat (first | apply Kd.R_alloc | apply Kd.R_drewN | apply Kd.R_drew)); exact HO194.out) (Kd.R_base ho28) hb); have n1_ := Aside0.mk (Kd.R_elder' (by (with_reducible repeat (first | apply Kd.R_alloc | apply Kd.R_drewN | apply Kd.R_drew)); exact HO200.out) (Kd.R_base ho28) hb); have n2_ := Aside0.mk (Kd.R_lower (Kd.R_new' (Kd.R_new' ho28 (Kd.R_lt (by (with_reducible repeat (first | apply Kd.R_alloc | apply Kd.R_drewN | apply Kd.R_drew)); exact HO194.out))) (Kd.R_lt (by (with_reducible repeat (first | apply Kd.R_alloc | apply Kd.R_drewN | apply Kd.R_drew)); exact HO200.out))) (below_size (by repeat (first | exact HB.out | apply below_alloc | apply pw_below_drewN | apply below_drew1)))); have n3_ := Aside0.mk (below_step (by repeat (first | exact HB.out | apply below_alloc | apply pw_below_drewN | apply below_drew1)) hb); clear HO194; clear HO200; clear HB; have HO194 := n0_; have HO200 := n1_; have HO203 := n2_; have HB := n3_; clear n0_ n1_ n2_ n3_; clear hb ho28; obtain ⟨Ao29, co29, eo29⟩ := Kd.R_slice HO200.out; subst eo29; obtain ⟨Ao30, co30, eo30⟩ := Kd.R_slice HO203.out; subst eo30) | (go_at_call 12; (with_reducible refine (peristyleref01_Same.calls k _ _ t197 _ _ y201 true _ ?side1 ?side2 ?side3 ?side4 A5.out).mono ?_); (case side1 => repeat (first | exact (Kd.R_reads' HO200.out).2.2 | (with_reducible refine Kd.C_alloc ?_ _) | (with_reducible refine Kd.C_drewN ?_ _) | (with_reducible refine Kd.C_drew ?_))); (case side2 => exact (Kd.R_reads' HO200.out).2.1); (case side3 => repeat (first | exact (Kd.R_reads' HO203.out).2.2 | (with_reducible refine Kd.C_alloc ?_ _) | (with_reducible refine Kd.C_drewN ?_ _) | (with_reducible refine Kd.C_drew ?_))); (case side4 => exact (Kd.R_reads' HO203.out).2.1); rintro e w' ⟨rfl, ⟨nd, rfl⟩⟩; (try clear A5)))
     go_ret
     exact ⟨by first | rfl | (simp [errW_none, errW_some] <;> rfl) | (simp [*, errW_none, errW_some] <;> rfl), by repeat (first | (with_reducible first | exact HB.out | apply below_alloc | apply pw_below_drewN | apply below_drew1) | exact HB.out)⟩
   ·replace c6 := Bool.eq_false_iff.mpr c6
    subst c6
    have H1 : (some false) = some r := by rw [if_neg (show ¬ (false = true) by decide)] at H; exact H
    clear H
    have H := H1
    clear H1
    obtain rfl := Option.some.inj H
    go_enter Try.func7, Try.ntmps7
    go_wp2_with (first | ((with_reducible refine gate_dst (N := 6) rfl ?_); (try (refine gate_guard (by rfl) ?_; dsimp only)); refine Kd.R_lit (Kd.int .i64) _ 3 ?hg (N := 6) ?hd (xs := ([5, 6, 7, 8] : List Int)) (inner := [.int .i64 5, .int .i64 6, .int .i64 7, .int .i64 8]) (ok := fun _ => True) (okp := fun _ => True) ?hr ?hp (fun _ hk => hk) trivial (Below.refl _ _) (Nat.le_refl _) (by simp) ?_; (case hd => rfl); (case hg => rfl); (case hr => first | (go_simp; done) | (go_simp; rfl)); (case hp => exact (Reps.one (show Kd.M (Kd.int .i64) _ _ _ 5 [.int .i64 5] from rfl) (Reps.one (show Kd.M (Kd.int .i64) _ _ _ 6 [.int .i64 6] from rfl) (Reps.one (show Kd.M (Kd.int .i64) _ _ _ 7 [.int .i64 7] from rfl) (Reps.one (show Kd.M (Kd.int .i64) _ _ _ 8 [.int .i64 8] from rfl) (Reps.none _ _)))))); intro v193 w31 ho32 hb hg_ hnew_; clear hg_ hnew_; (first | rw [← Ny192.out] at ho32 | (simp only [Int.reduceToNat] at ho32; rw [← Ny192.out] at ho32)); have n0_ := Aside0.mk (Kd.R_lower ho32 (below_size (by repeat (first | exact HB.out | apply below_alloc | apply pw_below_drewN | apply below_drew1)))); have n1_ := Aside0.mk (below_step (by repeat (first | exact HB.out | apply below_alloc | apply pw_below_drewN | apply below_drew1)) hb); clear HB; have HO194 := n0_; have HB := n1_; clear n0_ n1_; clear hb ho32; obtain ⟨Ao33, co33, eo33⟩ := Kd.R_slice HO194.out; subst eo33) | ((with_reducible refine gate_callee (f := 8) rfl ?_); refine goesL_ (some 7) rfl rfl Try.func8 (by kernel_rfl) rfl #[.slice Ao33 y192.length co33] rfl (by (try simp only [List.map_toArray, List.map_cons, List.map_nil]); first | done | rfl) ?_; (with_reducible refine (frame_Put.calls k _ _ y192 t195 t196 _ ?side1 ?side2 A1.out).mono ?_); (case side1 => repeat (first | exact (Kd.R_reads' HO194.out).2.2 | (with_reducible refine Kd.C_alloc ?_ _) | (with_reducible refine Kd.C_drewN ?_ _) | (with_reducible refine Kd.C_drew ?_))); (case side2 => exact (Kd.R_reads' HO194.out).2.1); rintro e w34 ⟨rfl, hb⟩; refine ⟨_, rfl, ?_⟩; have n0_ := Aside0.mk (Kd.R_below (by (with_reducible repeat (first | apply Kd.R_alloc | apply Kd.R_drewN | apply Kd.R_drew)); exact HO194.out) hb); have n1_ := Aside0.mk (below_step (by repeat (first | exact HB.out | apply below_alloc | apply pw_below_drewN | apply below_drew1)) hb); clear HO194; clear HB; have HO194 := n0_; have HB := n1_; clear n0_ n1_; (try clear hb); (try clear hb2); (try clear hk); (try clear hi)) | ((with_reducible refine gate_callee (f := 10) rfl ?_); refine goesL_ (some 11) rfl rfl Try.func10 (by kernel_rfl) rfl #[.string (⟨#[10, 0, 1, 2]⟩ : ByteArray), .int .i64 3] rfl (by (try simp only [List.map_toArray, List.map_cons, List.map_nil]); first | done | rfl) ?_; (with_reducible refine (frame_Take.calls k (⟨#[10, 0, 1, 2]⟩ : ByteArray) 3 t197 t198 _ A2.out).mono ?_); rintro e w35 ⟨v199, rfl, ho0, hb⟩; refine ⟨_, rfl, ?_⟩; have n0_ := Aside0.mk (Kd.R_elder' (by (with_reducible repeat (first | apply Kd.R_alloc | apply Kd.R_drewN | apply Kd.R_drew)); exact HO194.out) (Kd.R_base ho0) hb); have n1_ := Aside0.mk (Kd.R_lower (Kd.R_new' ho0 (Kd.R_lt (by (with_reducible repeat (first | apply Kd.R_alloc | apply Kd.R_drewN | apply Kd.R_drew)); exact HO194.out))) (below_size (by repeat (first | exact HB.out | apply below_alloc | apply pw_below_drewN | apply below_drew1)))); have n2_ := Aside0.mk (below_step (by repeat (first | exact HB.out | apply below_alloc | apply pw_below_drewN | apply below_drew1)) hb); clear HO194; clear HB; have HO194 := n0_; have HO200 := n1_; have HB := n2_; clear n0_ n1_ n2_; (try clear hb); (try clear hb2); (try clear hk); (try clear hi); (try clear ho0)) | ((with_reducible refine gate_dst (N := 22) rfl ?_); (try (refine gate_guard (by rfl) ?_; dsimp only)); refine Kd.R_lit (Kd.int .i64) _ 3 ?hg (N := 22) ?hd (xs := ([5, 5, 6] : List Int)) (inner := [.int .i64 5, .int .i64 5, .int .i64 6]) (ok := fun _ => True) (okp := fun _ => True) ?hr ?hp (fun _ hk => hk) trivial (Below.refl _ _) (Nat.le_refl _) (by simp) ?_; (case hd => rfl); (case hg => rfl); (case hr => first | (go_simp; done) | (go_simp; rfl)); (case hp => exact (Reps.one (show Kd.M (Kd.int .i64) _ _ _ 5 [.int .i64 5] from rfl) (Reps.one (show Kd.M (Kd.int .i64) _ _ _ 5 [.int .i64 5] from rfl) (Reps.one (show Kd.M (Kd.int .i64) _ _ _ 6 [.int .i64 6] from rfl) (Reps.none _ _))))); intro v202 w36 ho37 hb hg_ hnew_; clear hg_ hnew_; (first | rw [← Ny201.out] at ho37 | (simp only [Int.reduceToNat] at ho37; rw [← Ny201.out] at ho37)); have n0_ := Aside0.mk (Kd.R_elder' (by (with_reducible repeat (first | apply Kd.R_alloc | apply Kd.R_drewN | apply Kd.R_drew)); exact HO194.out) (Kd.R_base ho37) hb); have n1_ := Aside0.mk (Kd.R_elder' (by (with_reducible repeat (first | apply Kd.R_alloc | apply Kd.R_drewN | apply Kd.R_drew)); exact HO200.out) (Kd.R_base ho37) hb); have n2_ := Aside0.mk (Kd.R_lower (Kd.R_new' (Kd.R_new' ho37 (Kd.R_lt (by (with_reducible repeat (first | apply Kd.R_alloc | apply Kd.R_drewN | apply Kd.R_drew)); exact HO194.out))) (Kd.R_lt (by (with_reducible repeat (first | apply Kd.R_alloc | apply Kd.R_drewN | apply Kd.R_drew)); exact HO200.out))) (below_size (by repeat (first | exact HB.out | apply below_alloc | apply pw_below_drewN | apply below_drew1)))); have n3_ := Aside0.mk (below_step (by repeat (first | exact HB.out | apply below_alloc | apply pw_below_drewN | apply below_drew1)) hb); clear HO194; clear HO200; clear HB; have HO194 := n0_; have HO200 := n1_; have HO203 := n2_; have HB := n3_; clear n0_ n1_ n2_ n3_; clear hb ho37; obtain ⟨Ao38, co38, eo38⟩ := Kd.R_slice HO200.out; subst eo38; obtain ⟨Ao39, co39, eo39⟩ := Kd.R_slice HO203.out; subst eo39) | (go_at_call 12; (with_reducible refine (peristyleref01_Same.calls k _ _ t197 _ _ y201 false _ ?side1 ?side2 ?side3 ?side4 A5.out).mono ?_); (case side1 => repeat (first | exact (Kd.R_reads' HO200.out).2.2 | (with_reducible refine Kd.C_alloc ?_ _) | (with_reducible refine Kd.C_drewN ?_ _) | (with_reducible refine Kd.C_drew ?_))); (case side2 => exact (Kd.R_reads' HO200.out).2.1); (case side3 => repeat (first | exact (Kd.R_reads' HO203.out).2.2 | (with_reducible refine Kd.C_alloc ?_ _) | (with_reducible refine Kd.C_drewN ?_ _) | (with_reducible refine Kd.C_drew ?_))); (case side4 => exact (Kd.R_reads' HO203.out).2.1); rintro e w' ⟨rfl, ⟨nd, rfl⟩⟩; (try clear A5)))
    go_ret
    exact ⟨by first | rfl | (simp [errW_none, errW_some] <;> rfl) | (simp [*, errW_none, errW_some] <;> rfl), by repeat (first | (with_reducible first | exact HB.out | apply below_alloc | apply pw_below_drewN | apply below_drew1) | exact HB.out)⟩
  ·rw [if_neg c4] at H
   have c4b0 : (t196 == 0) = false := beq_eq_false_iff_ne.mpr c4
   have c4b1 : (t196 != 0) = true := bne_iff_ne.mpr c4
   obtain rfl := Option.some.inj H
   go_enter Try.func7, Try.ntmps7
   go_wp2_with (first | ((with_reducible refine gate_dst (N := 6) rfl ?_); (try (refine gate_guard (by rfl) ?_; dsimp only)); refine Kd.R_lit (Kd.int .i64) _ 3 ?hg (N := 6) ?hd (xs := ([5, 6, 7, 8] : List Int)) (inner := [.int .i64 5, .int .i64 6, .int .i64 7, .int .i64 8]) (ok := fun _ => True) (okp := fun _ => True) ?hr ?hp (fun _ hk => hk) trivial (Below.refl _ _) (Nat.le_refl _) (by simp) ?_; (case hd => rfl); (case hg => rfl); (case hr => first | (go_simp; done) | (go_simp; rfl)); (case hp => exact (Reps.one (show Kd.M (Kd.int .i64) _ _ _ 5 [.int .i64 5] from rfl) (Reps.one (show Kd.M (Kd.int .i64) _ _ _ 6 [.int .i64 6] from rfl) (Reps.one (show Kd.M (Kd.int .i64) _ _ _ 7 [.int .i64 7] from rfl) (Reps.one (show Kd.M (Kd.int .i64) _ _ _ 8 [.int .i64 8] from rfl) (Reps.none _ _)))))); intro v193 w40 ho41 hb hg_ hnew_; clear hg_ hnew_; (first | rw [← Ny192.out] at ho41 | (simp only [Int.reduceToNat] at ho41; rw [← Ny192.out] at ho41)); have n0_ := Aside0.mk (Kd.R_lower ho41 (below_size (by repeat (first | exact HB.out | apply below_alloc | apply pw_below_drewN | apply below_drew1)))); have n1_ := Aside0.mk (below_step (by repeat (first | exact HB.out | apply below_alloc | apply pw_below_drewN | apply below_drew1)) hb); clear HB; have HO194 := n0_; have HB := n1_; clear n0_ n1_; clear hb ho41; obtain ⟨Ao42, co42, eo42⟩ := Kd.R_slice HO194.out; subst eo42) | ((with_reducible refine gate_callee (f := 8) rfl ?_); refine goesL_ (some 7) rfl rfl Try.func8 (by kernel_rfl) rfl #[.slice Ao42 y192.length co42] rfl (by (try simp only [List.map_toArray, List.map_cons, List.map_nil]); first | done | rfl) ?_; (with_reducible refine (frame_Put.calls k _ _ y192 t195 t196 _ ?side1 ?side2 A1.out).mono ?_); (case side1 => repeat (first | exact (Kd.R_reads' HO194.out).2.2 | (with_reducible refine Kd.C_alloc ?_ _) | (with_reducible refine Kd.C_drewN ?_ _) | (with_reducible refine Kd.C_drew ?_))); (case side2 => exact (Kd.R_reads' HO194.out).2.1); rintro e w43 ⟨rfl, hb⟩; refine ⟨_, rfl, ?_⟩; have n0_ := Aside0.mk (Kd.R_below (by (with_reducible repeat (first | apply Kd.R_alloc | apply Kd.R_drewN | apply Kd.R_drew)); exact HO194.out) hb); have n1_ := Aside0.mk (below_step (by repeat (first | exact HB.out | apply below_alloc | apply pw_below_drewN | apply below_drew1)) hb); clear HO194; clear HB; have HO194 := n0_; have HB := n1_; clear n0_ n1_; (try clear hb); (try clear hb2); (try clear hk); (try clear hi)) | ((with_reducible refine gate_callee (f := 10) rfl ?_); refine goesL_ (some 11) rfl rfl Try.func10 (by kernel_rfl) rfl #[.string (⟨#[10, 0, 1, 2]⟩ : ByteArray), .int .i64 3] rfl (by (try simp only [List.map_toArray, List.map_cons, List.map_nil]); first | done | rfl) ?_; (with_reducible refine (frame_Take.calls k (⟨#[10, 0, 1, 2]⟩ : ByteArray) 3 t197 t198 _ A2.out).mono ?_); rintro e w44 ⟨v199, rfl, ho0, hb⟩; refine ⟨_, rfl, ?_⟩; have n0_ := Aside0.mk (Kd.R_elder' (by (with_reducible repeat (first | apply Kd.R_alloc | apply Kd.R_drewN | apply Kd.R_drew)); exact HO194.out) (Kd.R_base ho0) hb); have n1_ := Aside0.mk (Kd.R_lower (Kd.R_new' ho0 (Kd.R_lt (by (with_reducible repeat (first | apply Kd.R_alloc | apply Kd.R_drewN | apply Kd.R_drew)); exact HO194.out))) (below_size (by repeat (first | exact HB.out | apply below_alloc | apply pw_below_drewN | apply below_drew1)))); have n2_ := Aside0.mk (below_step (by repeat (first | exact HB.out | apply below_alloc | apply pw_below_drewN | apply below_drew1)) hb); clear HO194; clear HB; have HO194 := n0_; have HO200 := n1_; have HB := n2_; clear n0_ n1_ n2_; (try clear hb); (try clear hb2); (try clear hk); (try clear hi); (try clear ho0)))
   go_ret
   exact ⟨by first | rfl | (simp [errW_none, errW_some] <;> rfl) | (simp [*, errW_none, errW_some] <;> rfl), by repeat (first | (with_reducible first | exact HB.out | apply below_alloc | apply pw_below_drewN | apply below_drew1) | exact HB.out)⟩
 ·rw [if_neg c3] at H
  have c3b0 : (t195.toList == ([10, 2, 0] : List UInt8)) = false := beq_eq_false_iff_ne.mpr c3
  have c3b1 : (t195.toList != ([10, 2, 0] : List UInt8)) = true := bne_iff_ne.mpr c3
  obtain rfl := Option.some.inj H
  go_enter Try.func7, Try.ntmps7
  go_wp2_with (first | ((with_reducible refine gate_dst (N := 6) rfl ?_); (try (refine gate_guard (by rfl) ?_; dsimp only)); refine Kd.R_lit (Kd.int .i64) _ 3 ?hg (N := 6) ?hd (xs := ([5, 6, 7, 8] : List Int)) (inner := [.int .i64 5, .int .i64 6, .int .i64 7, .int .i64 8]) (ok := fun _ => True) (okp := fun _ => True) ?hr ?hp (fun _ hk => hk) trivial (Below.refl _ _) (Nat.le_refl _) (by simp) ?_; (case hd => rfl); (case hg => rfl); (case hr => first | (go_simp; done) | (go_simp; rfl)); (case hp => exact (Reps.one (show Kd.M (Kd.int .i64) _ _ _ 5 [.int .i64 5] from rfl) (Reps.one (show Kd.M (Kd.int .i64) _ _ _ 6 [.int .i64 6] from rfl) (Reps.one (show Kd.M (Kd.int .i64) _ _ _ 7 [.int .i64 7] from rfl) (Reps.one (show Kd.M (Kd.int .i64) _ _ _ 8 [.int .i64 8] from rfl) (Reps.none _ _)))))); intro v193 w45 ho46 hb hg_ hnew_; clear hg_ hnew_; (first | rw [← Ny192.out] at ho46 | (simp only [Int.reduceToNat] at ho46; rw [← Ny192.out] at ho46)); have n0_ := Aside0.mk (Kd.R_lower ho46 (below_size (by repeat (first | exact HB.out | apply below_alloc | apply pw_below_drewN | apply below_drew1)))); have n1_ := Aside0.mk (below_step (by repeat (first | exact HB.out | apply below_alloc | apply pw_below_drewN | apply below_drew1)) hb); clear HB; have HO194 := n0_; have HB := n1_; clear n0_ n1_; clear hb ho46; obtain ⟨Ao47, co47, eo47⟩ := Kd.R_slice HO194.out; subst eo47) | ((with_reducible refine gate_callee (f := 8) rfl ?_); refine goesL_ (some 7) rfl rfl Try.func8 (by kernel_rfl) rfl #[.slice Ao47 y192.length co47] rfl (by (try simp only [List.map_toArray, List.map_cons, List.map_nil]); first | done | rfl) ?_; (with_reducible refine (frame_Put.calls k _ _ y192 t195 t196 _ ?side1 ?side2 A1.out).mono ?_); (case side1 => repeat (first | exact (Kd.R_reads' HO194.out).2.2 | (with_reducible refine Kd.C_alloc ?_ _) | (with_reducible refine Kd.C_drewN ?_ _) | (with_reducible refine Kd.C_drew ?_))); (case side2 => exact (Kd.R_reads' HO194.out).2.1); rintro e w48 ⟨rfl, hb⟩; refine ⟨_, rfl, ?_⟩; have n0_ := Aside0.mk (Kd.R_below (by (with_reducible repeat (first | apply Kd.R_alloc | apply Kd.R_drewN | apply Kd.R_drew)); exact HO194.out) hb); have n1_ := Aside0.mk (below_step (by repeat (first | exact HB.out | apply below_alloc | apply pw_below_drewN | apply below_drew1)) hb); clear HO194; clear HB; have HO194 := n0_; have HB := n1_; clear n0_ n1_; (try clear hb); (try clear hb2); (try clear hk); (try clear hi)) | ((with_reducible refine gate_callee (f := 10) rfl ?_); refine goesL_ (some 11) rfl rfl Try.func10 (by kernel_rfl) rfl #[.string (⟨#[10, 0, 1, 2]⟩ : ByteArray), .int .i64 3] rfl (by (try simp only [List.map_toArray, List.map_cons, List.map_nil]); first | done | rfl) ?_; (with_reducible refine (frame_Take.calls k (⟨#[10, 0, 1, 2]⟩ : ByteArray) 3 t197 t198 _ A2.out).mono ?_); rintro e w49 ⟨v199, rfl, ho0, hb⟩; refine ⟨_, rfl, ?_⟩; have n0_ := Aside0.mk (Kd.R_elder' (by (with_reducible repeat (first | apply Kd.R_alloc | apply Kd.R_drewN | apply Kd.R_drew)); exact HO194.out) (Kd.R_base ho0) hb); have n1_ := Aside0.mk (Kd.R_lower (Kd.R_new' ho0 (Kd.R_lt (by (with_reducible repeat (first | apply Kd.R_alloc | apply Kd.R_drewN | apply Kd.R_drew)); exact HO194.out))) (below_size (by repeat (first | exact HB.out | apply below_alloc | apply pw_below_drewN | apply below_drew1)))); have n2_ := Aside0.mk (below_step (by repeat (first | exact HB.out | apply below_alloc | apply pw_below_drewN | apply below_drew1)) hb); clear HO194; clear HB; have HO194 := n0_; have HO200 := n1_; have HB := n2_; clear n0_ n1_ n2_; (try clear hb); (try clear hb2); (try clear hk); (try clear hi); (try clear ho0)))
  go_ret
  exact ⟨by first | rfl | (simp [errW_none, errW_some] <;> rfl) | (simp [*, errW_none, errW_some] <;> rfl), by repeat (first | (with_reducible first | exact HB.out | apply below_alloc | apply pw_below_drewN | apply below_drew1) | exact HB.out)⟩

/-! ### peristyleref01_Of: function 45 (a contract of the session's own) -/
theorem peristyleref01_Of.zero : (Try.prog.info? 54).map (fun i => (i.zero, i.size)) = some (some (.agg (arrB zB)), 64) := by kernel_rfl
theorem peristyleref01_Of.size : (Try.prog.info? 54).map (·.size) = some 64 := by kernel_rfl
theorem peristyleref01_Of.elem : (Try.prog.info? 4).isSome = true := by kernel_rfl
set_option maxHeartbeats 800000 in
theorem peristyleref01_Of.calls (a0 : Int) (w : World) :
    Calls Try.prog 45 #[.int .i64 a0] w fun e w' => e = .returned (.agg (arrB (bitsOf a0))) ∧ Below w.heap.size w w' := by
  go_enter Try.func45, Try.ntmps45
  go_wp2_with (first | ((with_reducible refine gate_dst (N := 2) rfl ?_); refine arr_alloc (w0 := w) w.heap.size rfl 54 rfl _ 64 peristyleref01_Of.zero (Below.refl _ _) (Nat.le_refl _) ?_; intro g0 w1 hg0 hb0 hs0 HB1 hbs1 hgr1) | ((with_reducible refine gate_dst (N := 5) rfl ?_); refine arr_build rfl 54 rfl _ 64 4 64 peristyleref01_Of.zero Try.underlying54 peristyleref01_Of.elem ?_) | ((with_reducible refine gate_dst (N := 3) rfl ?_); refine arr_alloc (w0 := w) w.heap.size rfl 54 rfl _ 64 peristyleref01_Of.zero HB1 hbs1 ?_; intro g1 w2 hg1 hb1 hs1 HB2 hbs2 hgr2) | ((with_reducible refine gate_store (t := 54) (p := 3) rfl ?_); refine arr_store (w0 := w) w.heap.size rfl 54 _ _ rfl g1 _ _ rfl rfl hg1 peristyleref01_Of.size rfl (arrB_one _) HB2 hb1 ?_; intro w3 hg2 HB3 hbs3 hgr3))
  have hne : g0 ≠ g1 := by have := blk_lt hg0; omega
  have hg02 := blk_grown (blk_grown hg0 hgr2 (by simp)) hgr3 (by simpa using hne)
  have A1 := Aside0.mk hg02
  have A2 := Aside0.mk hg2
  have A3 := Aside0.mk HB3
  have A4 := Aside0.mk hne
  have HG0 := Aside0.mk hb0
  clear hg0 hb0 hs0 HB1 hbs1 hgr1 hg1 hs1 HB2 hbs2 hgr2 hg2 HB3 hbs3 hgr3 hg02 hne
  go_loopw [4] (fun v4 wr => ∃ k : Nat, k ≤ 64 ∧ v4 = .int .i64 k ∧ Aside0 (wr.heap[g1]? = some (.cells (arrB (fillTo (bitAt a0) zB k)) 54 (0, 0))) ∧ Aside0 (wr.heap[g0]? = some (.cells (arrB zB) 54 (0, 0))) ∧ Aside0 (Below w.heap.size w wr)) (fun v4 _ => 64 - (intOf v4).toNat)
  case atStart => exact ⟨0, by omega, rfl, ⟨by rw [fillTo_zero]; exact A2.out⟩, ⟨A1.out⟩, ⟨A3.out⟩⟩
  case round =>
    obtain ⟨k, hk, rfl, B2, B1, B3⟩ := hrel
    by_cases hlt : k < 64
    · have hc2 : wr.cell? ⟨g1, k, none⟩ = some (.bool (bAt (fillTo (bitAt a0) zB k) k)) := arrB_cell B2.out k (by rw [fillTo_length _ _ _ hk]; exact hlt)
      have hf : wr.frozen? ⟨g1, k, none⟩ = false := blk_frozen B2.out k
      generalize bAt (fillTo (bitAt a0) zB k) k = old at hc2
      have hk0 : (0 : Int) ≤ (k : Int) := by omega
      have hk1 : (k : Int) < 64 := by omega
      go_wp2
      go_roundw
      case rel =>
        have hset := arrB_put B2.out k (bitAt a0 k)
        rw [fillTo_set _ zB k hlt] at hset
        exact ⟨k + 1, by omega, by go_num, ⟨hset⟩, ⟨blk_far B1.out (fun e => A4.out e) _⟩, ⟨B3.out.setCell hb1 _⟩⟩
      case measure => simp [intOf]; omega
    · have hk64 : ¬ (k : Int) < 64 := by omega
      obtain rfl : k = 64 := by omega
      clear hk64
      have hfin : fillTo (bitAt a0) zB 64 = bitsOf a0 := fillTo_all _ zB
      have B4 : Aside0 (wr.heap[g1]? = some (.cells (arrB (bitsOf a0)) 54 (0, 0))) := ⟨by rw [← hfin]; exact B2.out⟩
      have HL := Aside0.mk (bitsOf_length a0)
      have hg0b : w.heap.size ≤ g0 := HG0.out
      clear B2 hfin hlt
      go_wp2_with (first | ((with_reducible refine gate_dst (N := 17) rfl ?_); refine wpList_load_row rfl 54 _ rfl g1 rfl 54 _ (0, 0) _ B4.out Try.underlying54 rfl (by rw [arrB_size, HL.out]; exact peristyleref01_Of.size) ?_) | ((with_reducible refine gate_store (t := 54) (p := 2) rfl ?_); refine arr_store (w0 := w) w.heap.size rfl 54 _ _ rfl g0 _ _ rfl rfl B1.out (by rw [arrB_size, HL.out]; exact peristyleref01_Of.size) (by rw [arrB_size, arrB_size, HL.out]; rfl) (arrB_one _) B3.out hg0b ?_; intro w5 hg5 HB5 hbs5 hgr5))
      refine bodyPost_ret (results_cell_row rfl _ _ g0 54 (arrB (bitsOf a0)) (0, 0) _ rfl hg5 Try.underlying54 rfl (by rw [arrB_size, HL.out]; exact peristyleref01_Of.size)) rfl ⟨rfl, HB5⟩

/-! ### peristyleref01_Word: function 46 (a contract of the session's own) -/
set_option maxHeartbeats 800000 in
theorem peristyleref01_Word.calls (l : List Bool) (hl : l.length = 64) (w : World) :
    Calls Try.prog 46 #[.agg (arrB l)] w fun e w' => e = .returned (.int .i64 (wordTo l 64)) ∧ Below w.heap.size w w' := by
  have HL := Aside0.mk hl
  clear hl
  go_enter Try.func46, Try.ntmps46
  go_wp2_with (first | ((with_reducible refine gate_dst (N := 1) rfl ?_); refine arr_box (w0 := w) w.heap.size rfl 54 _ rfl _ rfl (Below.refl _ _) (Nat.le_refl _) ?_; intro g0 w1 hg0 hb0 hs0 HB1 hbs1 hgr1))
  have A1 := Aside0.mk hg0
  have A2 := Aside0.mk HB1
  clear hg0 hs0 HB1 hbs1 hgr1
  go_loop [3, 4] (fun v3 v4 => ∃ k : Nat, k ≤ 64 ∧ v4 = .int .i64 k ∧ v3 = .int .i64 (wordTo l k)) (fun _ v4 => 64 - (intOf v4).toNat)
  case atStart => exact ⟨0, by omega, rfl, rfl⟩
  case round =>
    obtain ⟨k, hk, rfl, rfl⟩ := hrel
    by_cases hlt : k < 64
    · have hc2 : w1.cell? ⟨g0, k, none⟩ = some (.bool (bAt l k)) := arrB_cell A1.out k (by rw [HL.out]; exact hlt)
      have hk0 : (0 : Int) ≤ (k : Int) := by omega
      have hk1 : (k : Int) < 64 := by omega
      have HS : Aside0 (wordTo l (k + 1) = if bAt l k = true then Go.bits .or .i64 (wordTo l k) (wrap64 (2 ^ k)) else wordTo l k) := ⟨rfl⟩
      generalize wordTo l k = acc at HS ⊢
      generalize bAt l k = b at hc2 HS
      cases b
      all_goals
        go_wp2
        go_round
        case rel => exact ⟨k + 1, by omega, by go_num, by rw [HS.out]; simp⟩
        case measure => simp [intOf]; omega
    · have hk64 : ¬ (k : Int) < 64 := by omega
      obtain rfl : k = 64 := by omega
      clear hk64
      go_wp2
      go_ret
      exact ⟨rfl, A2.out⟩


/-! ### peristyleref01_Zig: function 36 (a contract of the session's own) -/
def zigAt (l : List Bool) (k : Nat) : Bool := if k = 0 then bAt l 63 else (bAt l (k - 1) != bAt l 63)
def peristyleref01_Zig.f (a0 : Int) : Option (Int) := some (wordTo (fillTo (zigAt (bitsOf a0)) zB 64) 64)
set_option maxHeartbeats 1600000 in
theorem peristyleref01_Zig.calls0 (a0 : Int) (w : World) :
    Calls Try.prog 36 #[.int .i64 a0] w fun e w' => e = .returned (.int .i64 (wordTo (fillTo (zigAt (bitsOf a0)) zB 64) 64)) ∧ Below w.heap.size w w' := by
  go_enter Try.func36, Try.ntmps36
  go_wp2_with (first | (go_at_call 45; refine (peristyleref01_Of.calls a0 _).mono ?_; rintro e w1 ⟨rfl, HB1⟩) | ((with_reducible refine gate_dst (N := 3) rfl ?_); refine arr_alloc (w0 := w) w.heap.size rfl 54 rfl _ 64 peristyleref01_Of.zero HB1 HB1.size ?_; intro g0 w2 hg0 hb0 hs0 HB2 hbs2 hgr2) | ((with_reducible refine gate_store (t := 54) (p := 3) rfl ?_); refine arr_store (w0 := w) w.heap.size rfl 54 _ _ rfl g0 _ _ rfl rfl hg0 (by rw [arrB_size, bitsOf_length]; exact peristyleref01_Of.size) (by rw [arrB_size, arrB_size, bitsOf_length]; rfl) (arrB_one _) HB2 hb0 ?_; intro w3 hg3 HB3 hbs3 hgr3) | ((with_reducible refine gate_dst (N := 8) rfl ?_); refine arr_build rfl 54 rfl _ 64 4 64 peristyleref01_Of.zero Try.underlying54 peristyleref01_Of.elem ?_) | ((with_reducible refine gate_dst (N := 4) rfl ?_); refine arr_alloc (w0 := w) w.heap.size rfl 54 rfl _ 64 peristyleref01_Of.zero HB3 hbs3 ?_; intro g1 w4 hg1 hb1 hs1 HB4 hbs4 hgr4) | ((with_reducible refine gate_store (t := 54) (p := 4) rfl ?_); refine arr_store (w0 := w) w.heap.size rfl 54 _ _ rfl g1 _ _ rfl rfl hg1 peristyleref01_Of.size rfl (arrB_one _) HB4 hb1 ?_; intro w5 hg5 HB5 hbs5 hgr5; have hne : g0 ≠ g1 := (by have := blk_lt hg3; omega); have hg05 := blk_grown (blk_grown hg3 hgr4 (by simp)) hgr5 (by simpa using hne); have cb : w5.cell? ⟨g0, 63, none⟩ = some (.bool (bAt (bitsOf a0) 63)) := arrB_cell hg05 63 (by rw [bitsOf_length]; omega); have co : w5.cell? ⟨g1, 0, none⟩ = some (.bool (bAt zB 0)) := arrB_cell hg5 0 (by decide); have fo := blk_frozen hg5 0))
  have A1 := Aside0.mk hg05
  have A2 := Aside0.mk hg5
  have A3 := Aside0.mk HB5
  have A4 := Aside0.mk hne
  clear hg0 hs0 HB1 HB2 hbs2 hgr2 hg3 HB3 hbs3 hgr3 hg1 hs1 HB4 hbs4 hgr4 hg5 HB5 hbs5 hgr5 hne hg05
  have B1 : Aside0 ((w5.setCell ⟨g1, 0, none⟩ (.bool (bAt (bitsOf a0) 63))).heap[g1]? = some (.cells (arrB (fillTo (zigAt (bitsOf a0)) zB 1)) 54 (0, 0))) := ⟨by have := arrB_put A2.out 0 (zigAt (bitsOf a0) 0); rw [show zB.set 0 (zigAt (bitsOf a0) 0) = fillTo (zigAt (bitsOf a0)) zB 1 from by rw [← fillTo_set _ zB 0 (by decide), fillTo_zero]] at this; exact this⟩
  have B2 : Aside0 ((w5.setCell ⟨g1, 0, none⟩ (.bool (bAt (bitsOf a0) 63))).heap[g0]? = some (.cells (arrB (bitsOf a0)) 54 (0, 0))) := ⟨blk_far A1.out (fun e => A4.out e) _⟩
  have B3 : Aside0 (Below w.heap.size w (w5.setCell ⟨g1, 0, none⟩ (.bool (bAt (bitsOf a0) 63)))) := ⟨A3.out.setCell hb1 _⟩
  clear cb co fo A1 A2 A3
  go_loopw [5] (fun v5 wr => ∃ k : Nat, 1 ≤ k ∧ k ≤ 64 ∧ v5 = .int .i64 k ∧ Aside0 (wr.heap[g1]? = some (.cells (arrB (fillTo (zigAt (bitsOf a0)) zB k)) 54 (0, 0))) ∧ Aside0 (wr.heap[g0]? = some (.cells (arrB (bitsOf a0)) 54 (0, 0))) ∧ Aside0 (Below w.heap.size w wr)) (fun v5 _ => 64 - (intOf v5).toNat)
  case atStart => exact ⟨1, by omega, by omega, rfl, B1, B2, B3⟩
  case round =>
    clear B1 B2 B3
    obtain ⟨k, h1, hk, rfl, C1, C2, C3⟩ := hrel
    have HL : Aside0 ((fillTo (zigAt (bitsOf a0)) zB k).length = 64) := ⟨fillTo_length _ zB k hk⟩
    by_cases hlt : k < 64
    · obtain ⟨m, rfl⟩ : ∃ m, k = m + 1 := ⟨k - 1, by omega⟩
      have e1 : ((m + 1 : Nat) : Int) = (m : Int) + 1 := by omega
      have co : wr.cell? ⟨g1, m + 1, none⟩ = some (.bool (bAt (fillTo (zigAt (bitsOf a0)) zB (m + 1)) (m + 1))) := arrB_cell C1.out (m + 1) (by rw [HL.out]; omega)
      have fo : wr.frozen? ⟨g1, m + 1, none⟩ = false := blk_frozen C1.out (m + 1)
      have cb : wr.cell? ⟨g0, m, none⟩ = some (.bool (bAt (bitsOf a0) m)) := arrB_cell C2.out m (by rw [bitsOf_length]; omega)
      have cb63 : wr.cell? ⟨g0, 63, none⟩ = some (.bool (bAt (bitsOf a0) 63)) := arrB_cell C2.out 63 (by rw [bitsOf_length]; omega)
      generalize bAt (fillTo (zigAt (bitsOf a0)) zB (m + 1)) (m + 1) = old at co
      have hk0 : (0 : Int) ≤ (m : Int) := by omega
      have hk1 : (m : Int) < 63 := by omega
      rw [e1]
      clear e1 h1 hk hlt
      go_wp2
      go_region
      go_wp2
      go_roundw
      case rel =>
        have hset := arrB_put C1.out (m + 1) (zigAt (bitsOf a0) (m + 1))
        rw [fillTo_set _ zB (m + 1) (by rw [zB_length]; omega)] at hset
        have hz : zigAt (bitsOf a0) (m + 1) = !(bAt (bitsOf a0) m == bAt (bitsOf a0) 63) := by simp [zigAt, bne]
        rw [hz] at hset
        exact ⟨m + 2, by omega, by omega, by go_num, ⟨hset⟩, ⟨blk_far C2.out (fun e => A4.out e) _⟩, ⟨below_drew (C3.out.setCell hb1 _)⟩⟩
      case measure => simp [intOf]; omega
    · have hk64 : ¬ (k : Int) < 64 := by omega
      obtain rfl : k = 64 := by omega
      clear hk64 hlt h1 hk
      go_wp2_with (first | ((with_reducible refine gate_dst (N := 25) rfl ?_); refine wpList_load_row rfl 54 _ rfl g1 rfl 54 _ (0, 0) _ C1.out Try.underlying54 rfl (by rw [arrB_size, HL.out]; exact peristyleref01_Of.size) ?_) | (go_at_call 46; refine (peristyleref01_Word.calls _ HL.out _).mono ?_; rintro e w9 ⟨rfl, HB9⟩))
      go_ret
      exact ⟨rfl, below_step C3.out HB9⟩
theorem peristyleref01_Zig.calls (a0 : Int) (r : Int) (w : World) (h : peristyleref01_Zig.f a0 = some r) :
    Calls Try.prog 36 #[.int .i64 a0] w fun e w' => e = .returned (.int .i64 r) ∧ Below w.heap.size w w' := by
  obtain rfl := Option.some.inj h
  exact peristyleref01_Zig.calls0 a0 w

/-! ### peristyleref01_Field: function 37 (a contract of the session's own) -/
def peristyleref01_Field.f (a0 a1 a2 : Int) : Option (Int) := some (wordTo (fillTo (fun k => bAt (bitsOf a0) (a1.toNat + k)) zB (fieldN a1 a2)) 64)
set_option maxHeartbeats 1600000 in
theorem peristyleref01_Field.calls0 (a0 a1 a2 : Int) (w : World) :
    Calls Try.prog 37 #[.int .i64 a0, .int .i64 a1, .int .i64 a2] w fun e w' => e = .returned (.int .i64 (wordTo (fillTo (fun k => bAt (bitsOf a0) (a1.toNat + k)) zB (fieldN a1 a2)) 64)) ∧ Below w.heap.size w w' := by
  go_enter Try.func37, Try.ntmps37
  go_wp2_with (first | (go_at_call 45; refine (peristyleref01_Of.calls a0 _).mono ?_; rintro e w1 ⟨rfl, HB1⟩) | ((with_reducible refine gate_dst (N := 7) rfl ?_); refine arr_alloc (w0 := w) w.heap.size rfl 54 rfl _ 64 peristyleref01_Of.zero HB1 HB1.size ?_; intro g0 w2 hg0 hb0 hs0 HB2 hbs2 hgr2) | ((with_reducible refine gate_store (t := 54) (p := 7) rfl ?_); refine arr_store (w0 := w) w.heap.size rfl 54 _ _ rfl g0 _ _ rfl rfl hg0 (by rw [arrB_size, bitsOf_length]; exact peristyleref01_Of.size) (by rw [arrB_size, arrB_size, bitsOf_length]; rfl) (arrB_one _) HB2 hb0 ?_; intro w3 hg3 HB3 hbs3 hgr3) | ((with_reducible refine gate_dst (N := 12) rfl ?_); refine arr_build rfl 54 rfl _ 64 4 64 peristyleref01_Of.zero Try.underlying54 peristyleref01_Of.elem ?_) | ((with_reducible refine gate_dst (N := 8) rfl ?_); refine arr_alloc (w0 := w) w.heap.size rfl 54 rfl _ 64 peristyleref01_Of.zero HB3 hbs3 ?_; intro g1 w4 hg1 hb1 hs1 HB4 hbs4 hgr4) | ((with_reducible refine gate_store (t := 54) (p := 8) rfl ?_); refine arr_store (w0 := w) w.heap.size rfl 54 _ _ rfl g1 _ _ rfl rfl hg1 peristyleref01_Of.size rfl (arrB_one _) HB4 hb1 ?_; intro w5 hg5 HB5 hbs5 hgr5))
  have hne : g0 ≠ g1 := by have := blk_lt hg3; omega
  have hg05 := blk_grown (blk_grown hg3 hgr4 (by simp)) hgr5 (by simpa using hne)
  have A1 := Aside0.mk hg05
  have A2 := Aside0.mk hg5
  have A3 := Aside0.mk HB5
  have A4 := Aside0.mk hne
  clear hg0 hs0 HB1 HB2 hbs2 hgr2 hg3 HB3 hbs3 hgr3 hg1 hs1 HB4 hbs4 hgr4 hg5 HB5 hbs5 hgr5 hne hg05
  go_loopw [9] (fun v9 wr => ∃ k : Nat, Aside0 (k ≤ fieldN a1 a2) ∧ v9 = .int .i64 k ∧ Aside0 (wr.heap[g1]? = some (.cells (arrB (fillTo (fun k => bAt (bitsOf a0) (a1.toNat + k)) zB k)) 54 (0, 0))) ∧ Aside0 (wr.heap[g0]? = some (.cells (arrB (bitsOf a0)) 54 (0, 0))) ∧ Aside0 (Below w.heap.size w wr)) (fun v9 _ => 64 - (intOf v9).toNat)
  case atStart => exact ⟨0, ⟨Nat.zero_le _⟩, rfl, ⟨by rw [fillTo_zero]; exact A2.out⟩, A1, A3⟩
  case round =>
    clear A1 A2 A3
    obtain ⟨k, HK, rfl, C1, C2, C3⟩ := hrel
    have HL : Aside0 ((fillTo (fun k => bAt (bitsOf a0) (a1.toNat + k)) zB k).length = 64) := ⟨fillTo_length _ zB k (Nat.le_trans HK.out (fieldN_le _ _))⟩
    have hk0 : (0 : Int) ≤ (k : Int) := by omega
    by_cases hlt : k < fieldN a1 a2
    · obtain ⟨h0, h1, h2, h3, h4⟩ := fieldN_in hlt
      obtain ⟨p, rfl⟩ := Int.eq_ofNat_of_zero_le h0
      have HLT := Aside0.mk hlt
      clear hlt
      have co : wr.cell? ⟨g1, k, none⟩ = some (.bool (bAt (fillTo (fun k => bAt (bitsOf a0) ((p : Int).toNat + k)) zB k) k)) := arrB_cell C1.out k (by rw [HL.out]; omega)
      have fo : wr.frozen? ⟨g1, k, none⟩ = false := blk_frozen C1.out k
      have cb : wr.cell? ⟨g0, p + k, none⟩ = some (.bool (bAt (bitsOf a0) (p + k))) := arrB_cell C2.out (p + k) (by rw [bitsOf_length]; omega)
      generalize bAt (fillTo (fun k => bAt (bitsOf a0) ((p : Int).toNat + k)) zB k) k = old at co
      go_wp2
      go_roundw
      case rel =>
        have hset := arrB_put C1.out k (bAt (bitsOf a0) (p + k))
        rw [show bAt (bitsOf a0) (p + k) = (fun k => bAt (bitsOf a0) ((p : Int).toNat + k)) k from rfl, fillTo_set _ zB k (by rw [zB_length]; omega)] at hset
        exact ⟨k + 1, ⟨HLT.out⟩, by go_num, ⟨hset⟩, ⟨blk_far C2.out (fun e => A4.out e) _⟩, ⟨C3.out.setCell hb1 _⟩⟩
      case measure => simp [intOf]; omega
    · have hkn : k = fieldN a1 a2 := by have := HK.out; omega
      have HX := Aside0.mk (fieldN_out hkn)
      have HF : Aside0 (wordTo (fillTo (fun k => bAt (bitsOf a0) (a1.toNat + k)) zB k) 64 = wordTo (fillTo (fun k => bAt (bitsOf a0) (a1.toNat + k)) zB (fieldN a1 a2)) 64) := ⟨by rw [← hkn]⟩
      clear hlt HK hkn
      rcases HX.out with hx | hx | hx | ⟨hx0, hx1, hx⟩
      all_goals
        clear HX
        by_cases h64 : (k : Int) < 64
      all_goals (try by_cases hw : (k : Int) < a2)
      all_goals (try by_cases hp : 0 ≤ a1)
      all_goals first | (exfalso; omega; done) | skip
      all_goals
        go_wp2_with (first | ((with_reducible refine gate_dst (N := 43) rfl ?_); refine wpList_load_row rfl 54 _ rfl g1 rfl 54 _ (0, 0) _ C1.out Try.underlying54 rfl (by rw [arrB_size, HL.out]; exact peristyleref01_Of.size) ?_) | (go_at_call 46; refine (peristyleref01_Word.calls _ HL.out _).mono ?_; rintro e w9 ⟨rfl, HB9⟩))
        go_ret
        exact ⟨by rw [← HF.out]; rfl, below_step C3.out HB9⟩
theorem peristyleref01_Field.calls (a0 a1 a2 : Int) (r : Int) (w : World) (h : peristyleref01_Field.f a0 a1 a2 = some r) :
    Calls Try.prog 37 #[.int .i64 a0, .int .i64 a1, .int .i64 a2] w fun e w' => e = .returned (.int .i64 r) ∧ Below w.heap.size w w' := by
  obtain rfl := Option.some.inj h
  exact peristyleref01_Field.calls0 a0 a1 a2 w

/-! ### peristyleref02_Put: function 18 -/
def peristyleref02_Put.l0 : Nat → Int → List Int → Option (ByteArray)
 | 0, _, _ => none
 | k + 1, x3, x4 => (peristyleref01_Field.f x3 0 7).bind fun t210 => ((peristyleref01_Field.f x3 7 64).bind fun t211 => (if t211 = 0 then (if x4.length < 140737488355328 then (some (strOfNums (x4 ++ [(t210) % 256]))) else (none)) else (if x4.length < 140737488355328 then (peristyleref02_Put.l0 k t211 (x4 ++ [(wrap64 (128 + t210)) % 256])) else (none))))
def peristyleref02_Put.f (k : Nat) (a0 : Int) : Option (ByteArray) := (peristyleref01_Zig.f a0).bind fun t209 => (peristyleref02_Put.l0 k t209 ([] : List Int))
theorem peristyleref02_Put.l0_succ (k : Nat) (x3 : Int) (x4 : List Int) : peristyleref02_Put.l0 (k + 1) x3 x4 = ((peristyleref01_Field.f x3 0 7).bind fun t210 => ((peristyleref01_Field.f x3 7 64).bind fun t211 => (if t211 = 0 then (if x4.length < 140737488355328 then (some (strOfNums (x4 ++ [(t210) % 256]))) else (none)) else (if x4.length < 140737488355328 then (peristyleref02_Put.l0 k t211 (x4 ++ [(wrap64 (128 + t210)) % 256])) else (none))))) := by
 simp only [peristyleref02_Put.l0]
theorem peristyleref02_Put.mono_l : ∀ k, (∀ y0 y1, LeO (peristyleref02_Put.l0 k y0 y1) (peristyleref02_Put.l0 (k + 1) y0 y1))
 | 0 => fun _ _ r h => by simp [peristyleref02_Put.l0] at h
 | k + 1 => by
  have ih0 := peristyleref02_Put.mono_l k
  ·intro y0 y1
   unfold peristyleref02_Put.l0
   repeat' first
   | (with_reducible exact ih0 _ _)
   | (with_reducible exact LeO.refl _)
   | (with_reducible exact LeO.none _)
   | (with_reducible refine LeO.ite ?_ ?_)
   | (with_reducible refine LeO.bind ?_ (fun _ => ?_))
   | exact ih0 _ _
   | exact LeO.none _
   | refine LeO.ite ?_ ?_
   | refine LeO.bind ?_ (fun _ => ?_)
theorem peristyleref02_Put.mono : ∀ a0 k, LeO (peristyleref02_Put.f k a0) (peristyleref02_Put.f (k + 1) a0) := by
 intro a0 k
 have ih0 := peristyleref02_Put.mono_l k
 unfold peristyleref02_Put.f
 repeat' first
   | (with_reducible exact ih0 _ _)
   | (with_reducible exact LeO.refl _)
   | (with_reducible exact LeO.none _)
   | (with_reducible refine LeO.ite ?_ ?_)
   | (with_reducible refine LeO.bind ?_ (fun _ => ?_))
   | exact ih0 _ _
   | exact LeO.none _
   | refine LeO.ite ?_ ?_
   | refine LeO.bind ?_ (fun _ => ?_)
set_option maxHeartbeats 8000000 in
set_option maxRecDepth 100000 in
theorem peristyleref02_Put.calls (k : Nat) (a0 : Int) (r : ByteArray) (w : World) (h : peristyleref02_Put.f k a0 = some r) :
  Calls Try.prog 18 #[.int .i64 a0] w fun e w' => e = .returned (.string r) ∧ Below w.heap.size w w' := by
 have HB := Aside0.mk (Below.refl w.heap.size w)
 have H : ((peristyleref01_Zig.f a0).bind fun t209 => (peristyleref02_Put.l0 k t209 ([] : List Int))) = some r := h
 clear h
 replace H := Option.bind_eq_some_iff.mp H
 obtain ⟨t209, A20, H⟩ := H
 replace H : (peristyleref02_Put.l0 k t209 ([] : List Int)) = some r := H
 have A2 := Aside0.mk A20
 clear A20
 have H' := Aside0.mk H
 clear H
 go_enter Try.func18, Try.ntmps18
 go_wp2_with (first | ((with_reducible refine gate_callee (f := 36) rfl ?_); refine goesL_ (some 7) rfl rfl Try.func36 (by kernel_rfl) rfl #[.int .i64 a0] rfl (by (try simp only [List.map_toArray, List.map_cons, List.map_nil]); first | done | rfl) ?_; (with_reducible refine (peristyleref01_Zig.calls a0 t209 _ A2.out).mono ?_); rintro e w3 ⟨rfl, hb⟩; refine ⟨_, rfl, ?_⟩; have n0_ := Aside0.mk (below_step (by repeat (first | exact HB.out | apply below_alloc | apply pw_below_drewN | apply below_drew1)) hb); clear HB; have HB := n0_; clear n0_; (try clear hb); (try clear hb2); (try clear hk); (try clear hi)))
 go_loopg [3, 4] k (fun kq v3 v4 w' => ∃ (x3_1 : Int) (x4_1 : List Int), v3 = .int .i64 x3_1 ∧ Aside0 (peristyleref02_Put.l0 kq x3_1 x4_1 = some r) ∧ Aside0 (kq ≤ k) ∧ Aside0 (Kd.R (Kd.int .u8) 5 w' w.heap.size (fun _ => True) v4 x4_1) ∧ Aside0 (Below w.heap.size w w'))
 case atStart => exact ⟨(t209), (([] : List Int)), (by first | rfl | (simp; done) | (simp [*]; done)), H', ⟨Nat.le_refl _⟩, ⟨by first | exact Kd.R_nil _ _ _ _ _ | exact Kd.N_nil _ _ _ _ _ | exact Kd.V_nil _ _ _ _ _ | exact Kd.Q_nil _ _ _ _ _ | exact Kd.S_nil _ _ _ _ _⟩, ⟨by repeat (first | (with_reducible first | exact HB.out | apply below_alloc | apply pw_below_drewN | apply below_drew1) | exact HB.out)⟩⟩
 case round =>
  clear H'
  try clear c1
  try clear p2
  try clear c3
  obtain ⟨x3_1, x4_1, rfl, HA, HK1, HO_4, HB⟩ := hrel
  cases gk with
  | zero => exact absurd HA.out (by simp [peristyleref02_Put.l0])
  | succ k1 =>
   have H := HA.out
   clear HA
   simp only [peristyleref02_Put.l0] at H
   replace H := Option.bind_eq_some_iff.mp H
   obtain ⟨t210, A40, H⟩ := H
   replace H : ((peristyleref01_Field.f x3_1 7 64).bind fun t211 => (if t211 = 0 then (if x4_1.length < 140737488355328 then (some (strOfNums (x4_1 ++ [(t210) % 256]))) else (none)) else (if x4_1.length < 140737488355328 then (peristyleref02_Put.l0 k1 t211 (x4_1 ++ [(wrap64 (128 + t210)) % 256])) else (none)))) = some r := H
   have A4 := Aside0.mk A40
   clear A40
   replace H := Option.bind_eq_some_iff.mp H
   obtain ⟨t211, A50, H⟩ := H
   replace H : (if t211 = 0 then (if x4_1.length < 140737488355328 then (some (strOfNums (x4_1 ++ [(t210) % 256]))) else (none)) else (if x4_1.length < 140737488355328 then (peristyleref02_Put.l0 k1 t211 (x4_1 ++ [(wrap64 (128 + t210)) % 256])) else (none))) = some r := H
   have A5 := Aside0.mk A50
   clear A50
   by_cases c6 : t211 = 0
   ·rw [if_pos c6] at H
    have c6b0 : (t211 == 0) = true := beq_iff_eq.mpr c6
    have c6b1 : (t211 != 0) = false := bne_eq_false_iff_eq.mpr c6
    clear c6
    by_cases c7 : x4_1.length < 140737488355328
    ·rw [if_pos c7] at H
     have LMc7 := Aside0.mk c7
     clear c7
     obtain ⟨y212, hy212⟩ : ∃ y_ : List Int, y_ = (x4_1 ++ [(t210) % 256]) := ⟨_, rfl⟩
     replace H : (some (strOfNums y212)) = some r := by first | (rw [hy212]; with_reducible exact H) | (have H2_ := (Option.bind_some _ _).symm.trans H; rw [hy212]; with_reducible exact H2_) | (have H2_ := (Option.bind_some _ _).symm.trans H; with_reducible exact H2_) | with_reducible exact H | (rw [hy212]; exact H) | exact H
     have Ny212 := Aside0.mk hy212
     clear hy212
     obtain rfl := Option.some.inj H
     go_wp2_with (first | ((with_reducible refine gate_callee (f := 37) rfl ?_); refine goesL_ (some 9) rfl rfl Try.func37 (by kernel_rfl) rfl #[.int .i64 x3_1, .int .i64 0, .int .i64 7] rfl (by (try simp only [List.map_toArray, List.map_cons, List.map_nil]); first | done | rfl) ?_; (with_reducible refine (peristyleref01_Field.calls x3_1 0 7 t210 _ A4.out).mono ?_); rintro e w8 ⟨rfl, hb⟩; refine ⟨_, rfl, ?_⟩; have n0_ := Aside0.mk (Kd.R_below (by (with_reducible repeat (first | apply Kd.R_alloc | apply Kd.R_drewN | apply Kd.R_drew)); exact HO_4.out) hb); have n1_ := Aside0.mk (below_step (by repeat (first | exact HB.out | apply below_alloc | apply pw_below_drewN | apply below_drew1)) hb); clear HO_4; clear HB; have HO_4 := n0_; have HB := n1_; clear n0_ n1_; (try clear hb); (try clear hb2); (try clear hk); (try clear hi)) | ((with_reducible refine gate_callee (f := 37) rfl ?_); refine goesL_ (some 11) rfl rfl Try.func37 (by kernel_rfl) rfl #[.int .i64 x3_1, .int .i64 7, .int .i64 64] rfl (by (try simp only [List.map_toArray, List.map_cons, List.map_nil]); first | done | rfl) ?_; (with_reducible refine (peristyleref01_Field.calls x3_1 7 64 t211 _ A5.out).mono ?_); rintro e w9 ⟨rfl, hb⟩; refine ⟨_, rfl, ?_⟩; have n0_ := Aside0.mk (Kd.R_below (by (with_reducible repeat (first | apply Kd.R_alloc | apply Kd.R_drewN | apply Kd.R_drew)); exact HO_4.out) hb); have n1_ := Aside0.mk (below_step (by repeat (first | exact HB.out | apply below_alloc | apply pw_below_drewN | apply below_drew1)) hb); clear HO_4; clear HB; have HO_4 := n0_; have HB := n1_; clear n0_ n1_; (try clear hb); (try clear hb2); (try clear hk); (try clear hi)) | ((with_reducible refine gate_builtin (b := .append) (xs := #[.tmp 14, .tmp 17]) rfl ?_); at_builtin; refine Kd.R_append (Kd.int .u8) (w0 := w) w.heap.size rfl (.tmp 14) (.tmp 17) 39 5 (.int .u8 0) 1 rfl Try.underlying39 info5 rfl (by decide) (by omega) u4 x4_1 ((t210) % 256) [.int .u8 ((t210) % 256)] (fun _ => True) (fun _ => False) rfl rfl ?aP (fun _ hk => hk.elim) ?aF ?aO ?aB ?aS ?aL ?_; (case aP => exact rfl); (case aB => exact (by repeat (first | exact HB.out | apply below_alloc | apply pw_below_drewN | apply below_drew1))); (case aF => exact (fun _ _ => trivial)); (case aO => exact (by (with_reducible repeat (first | apply Kd.R_alloc | apply Kd.R_drewN | apply Kd.R_drew)); exact HO_4.out)); (case aS => exact (below_size (by repeat (first | exact HB.out | apply below_alloc | apply pw_below_drewN | apply below_drew1)))); (case aL => have := LMc7.out; omega); intro v213 w10 ho hb hg hat; rw [← Ny212.out] at ho; have n0_ := Aside0.mk (hb); have n1_ := Aside0.mk (ho); clear HB; clear HO_4; have HB := n0_; have HO214 := n1_; clear n0_ n1_; clear ho hb hg hat; have hcv11 := own_string (P := Try.prog) Try.underlying39 Try.underlying5 Try.underlying9 (Kd.own_of_R HO214.out)))
     go_ret
     exact ⟨by first | rfl | (simp [errW_none, errW_some] <;> rfl) | (simp [*, errW_none, errW_some] <;> rfl), by repeat (first | (with_reducible first | exact HB.out | apply below_alloc | apply pw_below_drewN | apply below_drew1) | exact HB.out)⟩
    ·rw [if_neg c7] at H
     exact absurd H (by simp)
   ·rw [if_neg c6] at H
    have c6b0 : (t211 == 0) = false := beq_eq_false_iff_ne.mpr c6
    have c6b1 : (t211 != 0) = true := bne_iff_ne.mpr c6
    by_cases c12 : x4_1.length < 140737488355328
    ·rw [if_pos c12] at H
     have LMc12 := Aside0.mk c12
     clear c12
     obtain ⟨y215, hy215⟩ : ∃ y_ : List Int, y_ = (x4_1 ++ [(wrap64 (128 + t210)) % 256]) := ⟨_, rfl⟩
     replace H : (peristyleref02_Put.l0 k1 t211 y215) = some r := by first | (rw [hy215]; with_reducible exact H) | (have H2_ := (Option.bind_some _ _).symm.trans H; rw [hy215]; with_reducible exact H2_) | (have H2_ := (Option.bind_some _ _).symm.trans H; with_reducible exact H2_) | with_reducible exact H | (rw [hy215]; exact H) | exact H
     have Ny215 := Aside0.mk hy215
     clear hy215
     have H' := Aside0.mk H
     clear H
     go_wp2_with (first | ((with_reducible refine gate_callee (f := 37) rfl ?_); refine goesL_ (some 9) rfl rfl Try.func37 (by kernel_rfl) rfl #[.int .i64 x3_1, .int .i64 0, .int .i64 7] rfl (by (try simp only [List.map_toArray, List.map_cons, List.map_nil]); first | done | rfl) ?_; (with_reducible refine (peristyleref01_Field.calls x3_1 0 7 t210 _ A4.out).mono ?_); rintro e w13 ⟨rfl, hb⟩; refine ⟨_, rfl, ?_⟩; have n0_ := Aside0.mk (Kd.R_below (by (with_reducible repeat (first | apply Kd.R_alloc | apply Kd.R_drewN | apply Kd.R_drew)); exact HO_4.out) hb); have n1_ := Aside0.mk (below_step (by repeat (first | exact HB.out | apply below_alloc | apply pw_below_drewN | apply below_drew1)) hb); clear HO_4; clear HB; have HO_4 := n0_; have HB := n1_; clear n0_ n1_; (try clear hb); (try clear hb2); (try clear hk); (try clear hi)) | ((with_reducible refine gate_callee (f := 37) rfl ?_); refine goesL_ (some 11) rfl rfl Try.func37 (by kernel_rfl) rfl #[.int .i64 x3_1, .int .i64 7, .int .i64 64] rfl (by (try simp only [List.map_toArray, List.map_cons, List.map_nil]); first | done | rfl) ?_; (with_reducible refine (peristyleref01_Field.calls x3_1 7 64 t211 _ A5.out).mono ?_); rintro e w14 ⟨rfl, hb⟩; refine ⟨_, rfl, ?_⟩; have n0_ := Aside0.mk (Kd.R_below (by (with_reducible repeat (first | apply Kd.R_alloc | apply Kd.R_drewN | apply Kd.R_drew)); exact HO_4.out) hb); have n1_ := Aside0.mk (below_step (by repeat (first | exact HB.out | apply below_alloc | apply pw_below_drewN | apply below_drew1)) hb); clear HO_4; clear HB; have HO_4 := n0_; have HB := n1_; clear n0_ n1_; (try clear hb); (try clear hb2); (try clear hk); (try clear hi)) | ((with_reducible refine gate_builtin (b := .append) (xs := #[.tmp 20, .tmp 24]) rfl ?_); at_builtin; refine Kd.R_append (Kd.int .u8) (w0 := w) w.heap.size rfl (.tmp 20) (.tmp 24) 39 5 (.int .u8 0) 1 rfl Try.underlying39 info5 rfl (by decide) (by omega) u4 x4_1 ((wrap64 (128 + t210)) % 256) [.int .u8 ((wrap64 (128 + t210)) % 256)] (fun _ => True) (fun _ => False) rfl rfl ?aP (fun _ hk => hk.elim) ?aF ?aO ?aB ?aS ?aL ?_; (case aP => exact rfl); (case aB => exact (by repeat (first | exact HB.out | apply below_alloc | apply pw_below_drewN | apply below_drew1))); (case aF => exact (fun _ _ => trivial)); (case aO => exact (by (with_reducible repeat (first | apply Kd.R_alloc | apply Kd.R_drewN | apply Kd.R_drew)); exact HO_4.out)); (case aS => exact (below_size (by repeat (first | exact HB.out | apply below_alloc | apply pw_below_drewN | apply below_drew1)))); (case aL => have := LMc12.out; omega); intro v216 w15 ho hb hg hat; rw [← Ny215.out] at ho; have n0_ := Aside0.mk (hb); have n1_ := Aside0.mk (ho); clear HB; clear HO_4; have HB := n0_; have HO217 := n1_; clear n0_ n1_; clear ho hb hg hat))
     go_roundg k1
     case measure => have := HK1.out; omega
     case rel => exact ⟨(t211), (y215), (by first | rfl | (simp; done) | (simp [*]; done)), H', ⟨by have := HK1.out; omega⟩, ⟨by (with_reducible repeat (first | apply Kd.R_alloc | apply Kd.R_drewN | apply Kd.R_drew)); exact HO217.out⟩, ⟨by repeat (first | (with_reducible first | exact HB.out | apply below_alloc | apply pw_below_drewN | apply below_drew1) | exact HB.out)⟩⟩
    ·rw [if_neg c12] at H
     exact absurd H (by simp)

end Go.Proofs.Ytcencpedgcdanaa.Print
