-- Written by the session's own xprint (over the kit's print program): functions, contracts.
import Derived.Test.YtgielanobeclnaaPrint0
import Derived.Test.YtgielanobeclnaaPrint1
import Derived.Test.YtgielanobeclnaaPrint5
import Derived.Test.YtgielanobeclnaaPrint6
namespace Go.Proofs.Ytgielanobeclnaa.Print
open Go.RowKit Go.Proofs.YtgielanobeclnaaW.PrintWords Go.Proofs.YtgielanobeclnaaW.PrintLast Go.Proofs.YtgielanobeclnaaW.PrintMore
attribute [local go_sem] max2_int min2_int max_two min_two max_three min_three max_four min_four   -- for this text's walks alone
set_option linter.unusedVariables false
set_option linter.unusedSimpArgs false

/-! ### peristyleref14_Both: function 37 -/
mutual
def peristyleref14_Both.j0 : Nat → Int → List (S48) → List (S48) → Bool → Option ((List (S48)) × Int)
 | 0, _, _, _, _ => none
 | k + 1, x0, x1, x2, x20 => if x20 = true then (some (([] : List (S48)), 1)) else ((peristyleref14_Top.f x1).bind fun t242 => ((peristyleref14_Top.f x2).bind fun t243 => ((peristyleref14_Set.f k x1 (mx t242 t243)).bind fun t244 => ((peristyleref14_Set.f k x2 (mx t242 t243)).bind fun t247 => (if 0 ≤ (mx t242 t243) then (if (mx t242 t243 : Int).toNat ≤ 281474976710656 then (peristyleref14_Both.l0 k x0 (mx t242 t243) t244 t247 (List.replicate (mx t242 t243 : Int).toNat false) 0) else (none)) else (none))))))
def peristyleref14_Both.l0 : Nat → Int → Int → List Bool → List Bool → List Bool → Int → Option ((List (S48)) × Int)
 | 0, _, _, _, _, _, _ => none
 | k + 1, x0, x8, x9, x10, x11, x12 => if x12 < x8 then (if x0 = 0 then (if 0 ≤ x12 then (if x12 < (x9.length : Int) then (if rdOf false x9 x12 = true then (if x12 < (x10.length : Int) then (if x12 < (x11.length : Int) then (peristyleref14_Both.l0 k x0 x8 x9 x10 (x11.set (x12 : Int).toNat (rdOf false x10 x12)) (wrap64 (x12 + 1))) else (none)) else (none)) else (if x12 < (x11.length : Int) then (peristyleref14_Both.l0 k x0 x8 x9 x10 (x11.set (x12 : Int).toNat false) (wrap64 (x12 + 1))) else (none))) else (none)) else (none)) else (if x0 = 1 then (if 0 ≤ x12 then (if x12 < (x9.length : Int) then (if rdOf false x9 x12 = true then (if x12 < (x11.length : Int) then (peristyleref14_Both.l0 k x0 x8 x9 x10 (x11.set (x12 : Int).toNat true) (wrap64 (x12 + 1))) else (none)) else (if x12 < (x10.length : Int) then (if x12 < (x11.length : Int) then (peristyleref14_Both.l0 k x0 x8 x9 x10 (x11.set (x12 : Int).toNat (rdOf false x10 x12)) (wrap64 (x12 + 1))) else (none)) else (none))) else (none)) else (none)) else (if 0 ≤ x12 then (if x12 < (x9.length : Int) then (if rdOf false x9 x12 = true then (if x12 < (x10.length : Int) then (if x12 < (x11.length : Int) then (peristyleref14_Both.l0 k x0 x8 x9 x10 (x11.set (x12 : Int).toNat (!(rdOf false x10 x12))) (wrap64 (x12 + 1))) else (none)) else (none)) else (if x12 < (x11.length : Int) then (peristyleref14_Both.l0 k x0 x8 x9 x10 (x11.set (x12 : Int).toNat false) (wrap64 (x12 + 1))) else (none))) else (none)) else (none)))) else ((peristyleref14_Spans.f k x11).bind fun t253 => (some (t253, 0)))
end
def peristyleref14_Both.f (k : Nat) (a0 : Int) (l1 : List (S48)) (l2 : List (S48)) : Option ((List (S48)) × Int) := (peristyleref14_May.f k l1).bind fun t240 => (if t240 = true then ((peristyleref14_May.f k l2).bind fun t241 => (peristyleref14_Both.j0 k a0 l1 l2 (!t241))) else (peristyleref14_Both.j0 k a0 l1 l2 true))
theorem peristyleref14_Both.j0_succ (k : Nat) (x0 : Int) (x1 : List (S48)) (x2 : List (S48)) (x20 : Bool) : peristyleref14_Both.j0 (k + 1) x0 x1 x2 x20 = (if x20 = true then (some (([] : List (S48)), 1)) else ((peristyleref14_Top.f x1).bind fun t242 => ((peristyleref14_Top.f x2).bind fun t243 => ((peristyleref14_Set.f k x1 (mx t242 t243)).bind fun t244 => ((peristyleref14_Set.f k x2 (mx t242 t243)).bind fun t247 => (if 0 ≤ (mx t242 t243) then (if (mx t242 t243 : Int).toNat ≤ 281474976710656 then (peristyleref14_Both.l0 k x0 (mx t242 t243) t244 t247 (List.replicate (mx t242 t243 : Int).toNat false) 0) else (none)) else (none))))))) := by
 simp only [peristyleref14_Both.j0]
theorem peristyleref14_Both.l0_succ (k : Nat) (x0 : Int) (x8 : Int) (x9 : List Bool) (x10 : List Bool) (x11 : List Bool) (x12 : Int) : peristyleref14_Both.l0 (k + 1) x0 x8 x9 x10 x11 x12 = (if x12 < x8 then (if x0 = 0 then (if 0 ≤ x12 then (if x12 < (x9.length : Int) then (if rdOf false x9 x12 = true then (if x12 < (x10.length : Int) then (if x12 < (x11.length : Int) then (peristyleref14_Both.l0 k x0 x8 x9 x10 (x11.set (x12 : Int).toNat (rdOf false x10 x12)) (wrap64 (x12 + 1))) else (none)) else (none)) else (if x12 < (x11.length : Int) then (peristyleref14_Both.l0 k x0 x8 x9 x10 (x11.set (x12 : Int).toNat false) (wrap64 (x12 + 1))) else (none))) else (none)) else (none)) else (if x0 = 1 then (if 0 ≤ x12 then (if x12 < (x9.length : Int) then (if rdOf false x9 x12 = true then (if x12 < (x11.length : Int) then (peristyleref14_Both.l0 k x0 x8 x9 x10 (x11.set (x12 : Int).toNat true) (wrap64 (x12 + 1))) else (none)) else (if x12 < (x10.length : Int) then (if x12 < (x11.length : Int) then (peristyleref14_Both.l0 k x0 x8 x9 x10 (x11.set (x12 : Int).toNat (rdOf false x10 x12)) (wrap64 (x12 + 1))) else (none)) else (none))) else (none)) else (none)) else (if 0 ≤ x12 then (if x12 < (x9.length : Int) then (if rdOf false x9 x12 = true then (if x12 < (x10.length : Int) then (if x12 < (x11.length : Int) then (peristyleref14_Both.l0 k x0 x8 x9 x10 (x11.set (x12 : Int).toNat (!(rdOf false x10 x12))) (wrap64 (x12 + 1))) else (none)) else (none)) else (if x12 < (x11.length : Int) then (peristyleref14_Both.l0 k x0 x8 x9 x10 (x11.set (x12 : Int).toNat false) (wrap64 (x12 + 1))) else (none))) else (none)) else (none)))) else ((peristyleref14_Spans.f k x11).bind fun t253 => (some (t253, 0)))) := by
 simp only [peristyleref14_Both.l0]
theorem peristyleref14_Both.mono_l : ∀ k, (∀ y0 y1 y2 y3, LeO (peristyleref14_Both.j0 k y0 y1 y2 y3) (peristyleref14_Both.j0 (k + 1) y0 y1 y2 y3)) ∧ (∀ y0 y1 y2 y3 y4 y5, LeO (peristyleref14_Both.l0 k y0 y1 y2 y3 y4 y5) (peristyleref14_Both.l0 (k + 1) y0 y1 y2 y3 y4 y5))
 | 0 => ⟨fun _ _ _ _ r h => by simp [peristyleref14_Both.j0] at h, fun _ _ _ _ _ _ r h => by simp [peristyleref14_Both.l0] at h⟩
 | k + 1 => by
  obtain ⟨ih0, ih1⟩ := peristyleref14_Both.mono_l k
  refine ⟨?_, ?_⟩
  ·intro y0 y1 y2 y3
   unfold peristyleref14_Both.j0
   repeat' first
   | (with_reducible exact ih0 _ _ _ _)
   | (with_reducible exact ih1 _ _ _ _ _ _)
   | (with_reducible exact peristyleref14_May.mono _ _)
   | (with_reducible exact peristyleref14_Set.mono _ _ _)
   | (with_reducible exact peristyleref14_Spans.mono _ _)
   | (with_reducible exact LeO.refl _)
   | (with_reducible exact LeO.none _)
   | (with_reducible refine LeO.ite ?_ ?_)
   | (with_reducible refine LeO.bind ?_ (fun _ => ?_))
   | exact ih0 _ _ _ _
   | exact ih1 _ _ _ _ _ _
   | exact peristyleref14_May.mono _ _
   | exact peristyleref14_Set.mono _ _ _
   | exact peristyleref14_Spans.mono _ _
   | exact LeO.none _
   | refine LeO.ite ?_ ?_
   | refine LeO.bind ?_ (fun _ => ?_)
  ·intro y0 y1 y2 y3 y4 y5
   unfold peristyleref14_Both.l0
   repeat' first
   | (with_reducible exact ih0 _ _ _ _)
   | (with_reducible exact ih1 _ _ _ _ _ _)
   | (with_reducible exact peristyleref14_May.mono _ _)
   | (with_reducible exact peristyleref14_Set.mono _ _ _)
   | (with_reducible exact peristyleref14_Spans.mono _ _)
   | (with_reducible exact LeO.refl _)
   | (with_reducible exact LeO.none _)
   | (with_reducible refine LeO.ite ?_ ?_)
   | (with_reducible refine LeO.bind ?_ (fun _ => ?_))
   | exact ih0 _ _ _ _
   | exact ih1 _ _ _ _ _ _
   | exact peristyleref14_May.mono _ _
   | exact peristyleref14_Set.mono _ _ _
   | exact peristyleref14_Spans.mono _ _
   | exact LeO.none _
   | refine LeO.ite ?_ ?_
   | refine LeO.bind ?_ (fun _ => ?_)
theorem peristyleref14_Both.mono : ∀ a0 a1 a2 k, LeO (peristyleref14_Both.f k a0 a1 a2) (peristyleref14_Both.f (k + 1) a0 a1 a2) := by
 intro a0 a1 a2 k
 obtain ⟨ih0, ih1⟩ := peristyleref14_Both.mono_l k
 unfold peristyleref14_Both.f
 repeat' first
   | (with_reducible exact ih0 _ _ _ _)
   | (with_reducible exact ih1 _ _ _ _ _ _)
   | (with_reducible exact peristyleref14_May.mono _ _)
   | (with_reducible exact peristyleref14_Set.mono _ _ _)
   | (with_reducible exact peristyleref14_Spans.mono _ _)
   | (with_reducible exact LeO.refl _)
   | (with_reducible exact LeO.none _)
   | (with_reducible refine LeO.ite ?_ ?_)
   | (with_reducible refine LeO.bind ?_ (fun _ => ?_))
   | exact ih0 _ _ _ _
   | exact ih1 _ _ _ _ _ _
   | exact peristyleref14_May.mono _ _
   | exact peristyleref14_Set.mono _ _ _
   | exact peristyleref14_Spans.mono _ _
   | exact LeO.none _
   | refine LeO.ite ?_ ?_
   | refine LeO.bind ?_ (fun _ => ?_)
set_option maxHeartbeats 8000000 in
set_option maxRecDepth 100000 in
theorem peristyleref14_Both.calls (k : Nat) (a0 : Int) (A1 : Option Addr) (c1 : Nat) (l1 : List (S48)) (A2 : Option Addr) (c2 : Nat) (l2 : List (S48)) (r1 : List (S48)) (r2 : Int) (w : World) (hr1 : Kd.C k48 w A1 l1.length l1) (hc1 : l1.length ≤ c1) (hr2 : Kd.C k48 w A2 l2.length l2) (hc2 : l2.length ≤ c2) (h : peristyleref14_Both.f k a0 l1 l2 = some (r1, r2)) :
  Calls Try.prog 37 #[.int .i64 a0, .slice A1 l1.length c1, .slice A2 l2.length c2] w fun e w' => ∃ v0_ : Value, e = .returned (.tuple #[v0_, .int .i64 r2]) ∧ Kd.R k48 48 w' w.heap.size (fun _ => True) v0_ r1 ∧ Below w.heap.size w w' := by
 have HR1 := Aside0.mk hr1
 have HC1 := Aside0.mk hc1
 clear hr1 hc1
 have HR2 := Aside0.mk hr2
 have HC2 := Aside0.mk hc2
 clear hr2 hc2
 have HB := Aside0.mk (Below.refl w.heap.size w)
 have H : ((peristyleref14_May.f k l1).bind fun t240 => (if t240 = true then ((peristyleref14_May.f k l2).bind fun t241 => (peristyleref14_Both.j0 k a0 l1 l2 (!t241))) else (peristyleref14_Both.j0 k a0 l1 l2 true))) = some (r1, r2) := h
 clear h
 have HC4 := Aside0.mk H
 clear H
 go_enter Try.func37, Try.ntmps37
 go_upto_region 1 with (fail)
 go_cut [20] (fun v20 wc => ∃ (kq : Nat) (x20_3 : Bool), v20 = .bool x20_3 ∧ Aside0 (peristyleref14_Both.j0 kq a0 l1 l2 x20_3 = some (r1, r2)) ∧ Aside0 (kq ≤ k) ∧ Aside0 (Below w.heap.size w wc))
 case first =>
  have H := HC4.out
  clear HC4
  replace H := Option.bind_eq_some_iff.mp H
  obtain ⟨t240, A50, H⟩ := H
  replace H : (if t240 = true then ((peristyleref14_May.f k l2).bind fun t241 => (peristyleref14_Both.j0 k a0 l1 l2 (!t241))) else (peristyleref14_Both.j0 k a0 l1 l2 true)) = some (r1, r2) := H
  have A5 := Aside0.mk A50
  clear A50
  by_cases c6 : t240 = true
  ·subst c6
   have H1 : ((peristyleref14_May.f k l2).bind fun t241 => (peristyleref14_Both.j0 k a0 l1 l2 (!t241))) = some (r1, r2) := by rw [if_pos rfl] at H; exact H
   clear H
   have H := H1
   clear H1
   replace H := Option.bind_eq_some_iff.mp H
   obtain ⟨t241, A70, H⟩ := H
   replace H : (peristyleref14_Both.j0 k a0 l1 l2 (!t241)) = some (r1, r2) := H
   have A7 := Aside0.mk A70
   clear A70
   have H' := Aside0.mk H
   clear H
   go_wp2_with (first | ((with_reducible refine gate_callee (f := 32) rfl ?_); refine goesL_ (some 14) rfl rfl Try.func32 (by kernel_rfl) rfl #[.slice A1 l1.length c1] rfl (by (try simp only [List.map_toArray, List.map_cons, List.map_nil]); first | done | rfl) ?_; (with_reducible refine (peristyleref14_May.calls k _ _ l1 true _ ?side1 ?side2 A5.out).mono ?_); (case side1 => repeat (first | exact (Kd.C_below HR1.out HB.out) | (with_reducible refine Kd.C_alloc ?_ _) | (with_reducible refine Kd.C_drewN ?_ _) | (with_reducible refine Kd.C_drew ?_))); (case side2 => exact HC1.out); rintro e w' ⟨rfl, ⟨nd, rfl⟩⟩; refine ⟨_, rfl, ?_⟩) | (go_at_call 32; (with_reducible refine (peristyleref14_May.calls k _ _ l2 t241 _ ?side1 ?side2 A7.out).mono ?_); (case side1 => repeat (first | exact (Kd.C_below HR2.out (by repeat (first | exact HB.out | apply below_alloc | apply pw_below_drewN | apply below_drew1))) | (with_reducible refine Kd.C_alloc ?_ _) | (with_reducible refine Kd.C_drewN ?_ _) | (with_reducible refine Kd.C_drew ?_))); (case side2 => exact HC2.out); rintro e w' ⟨rfl, ⟨nd, rfl⟩⟩; (try clear A7)))
   go_meet
   case rel => exact ⟨_, (!t241), (by first | rfl | (simp; done) | (simp [*]; done)), H', ⟨by first | omega | exact Nat.le_refl _⟩, ⟨by repeat (first | (with_reducible first | exact HB.out | apply below_alloc | apply pw_below_drewN | apply below_drew1) | exact HB.out)⟩⟩
  ·replace c6 := Bool.eq_false_iff.mpr c6
   subst c6
   have H1 : (peristyleref14_Both.j0 k a0 l1 l2 true) = some (r1, r2) := by rw [if_neg (show ¬ (false = true) by decide)] at H; exact H
   clear H
   have H := H1
   clear H1
   have H' := Aside0.mk H
   clear H
   go_wp2_with (first | ((with_reducible refine gate_callee (f := 32) rfl ?_); refine goesL_ (some 14) rfl rfl Try.func32 (by kernel_rfl) rfl #[.slice A1 l1.length c1] rfl (by (try simp only [List.map_toArray, List.map_cons, List.map_nil]); first | done | rfl) ?_; (with_reducible refine (peristyleref14_May.calls k _ _ l1 false _ ?side1 ?side2 A5.out).mono ?_); (case side1 => repeat (first | exact (Kd.C_below HR1.out HB.out) | (with_reducible refine Kd.C_alloc ?_ _) | (with_reducible refine Kd.C_drewN ?_ _) | (with_reducible refine Kd.C_drew ?_))); (case side2 => exact HC1.out); rintro e w' ⟨rfl, ⟨nd, rfl⟩⟩; refine ⟨_, rfl, ?_⟩))
   go_meet
   case rel => exact ⟨_, (true), (by first | rfl | (simp; done) | (simp [*]; done)), H', ⟨by first | omega | exact Nat.le_refl _⟩, ⟨by repeat (first | (with_reducible first | exact HB.out | apply below_alloc | apply pw_below_drewN | apply below_drew1) | exact HB.out)⟩⟩
 case rest =>
  clear HC4
  try clear c1
  try clear c2
  try clear p2
  try clear c3
  try clear c6
  obtain ⟨kq, x20_3, rfl, HA, HJ3, HB⟩ := hcut
  cases kq with
  | zero => exact absurd HA.out (by simp [peristyleref14_Both.j0])
  | succ kj3 =>
   have H := HA.out
   clear HA
   simp only [peristyleref14_Both.j0] at H
   by_cases c8 : x20_3 = true
   ·subst c8
    have H1 : (some (([] : List (S48)), 1)) = some (r1, r2) := by rw [if_pos rfl] at H; exact H
    clear H
    have H := H1
    clear H1
    simp only [Option.some.injEq, Prod.mk.injEq] at H
    obtain ⟨rfl, rfl⟩ := H
    go_wp2
    go_ret2
    exact ⟨_, by first | rfl | (simp [errW_none, errW_some] <;> rfl) | (simp [*, errW_none, errW_some] <;> rfl), by first | exact Kd.R_nil _ _ _ _ _ | exact Kd.N_nil _ _ _ _ _ | exact Kd.V_nil _ _ _ _ _ | exact Kd.Q_nil _ _ _ _ _ | exact Kd.S_nil _ _ _ _ _, by repeat (first | (with_reducible first | exact HB.out | apply below_alloc | apply pw_below_drewN | apply below_drew1) | exact HB.out)⟩
   ·replace c8 := Bool.eq_false_iff.mpr c8
    subst c8
    have H1 : ((peristyleref14_Top.f l1).bind fun t242 => ((peristyleref14_Top.f l2).bind fun t243 => ((peristyleref14_Set.f kj3 l1 (mx t242 t243)).bind fun t244 => ((peristyleref14_Set.f kj3 l2 (mx t242 t243)).bind fun t247 => (if 0 ≤ (mx t242 t243) then (if (mx t242 t243 : Int).toNat ≤ 281474976710656 then (peristyleref14_Both.l0 kj3 a0 (mx t242 t243) t244 t247 (List.replicate (mx t242 t243 : Int).toNat false) 0) else (none)) else (none)))))) = some (r1, r2) := by rw [if_neg (show ¬ (false = true) by decide)] at H; exact H
    clear H
    have H := H1
    clear H1
    replace H := Option.bind_eq_some_iff.mp H
    obtain ⟨t242, A90, H⟩ := H
    replace H : ((peristyleref14_Top.f l2).bind fun t243 => ((peristyleref14_Set.f kj3 l1 (mx t242 t243)).bind fun t244 => ((peristyleref14_Set.f kj3 l2 (mx t242 t243)).bind fun t247 => (if 0 ≤ (mx t242 t243) then (if (mx t242 t243 : Int).toNat ≤ 281474976710656 then (peristyleref14_Both.l0 kj3 a0 (mx t242 t243) t244 t247 (List.replicate (mx t242 t243 : Int).toNat false) 0) else (none)) else (none))))) = some (r1, r2) := H
    have A9 := Aside0.mk A90
    clear A90
    replace H := Option.bind_eq_some_iff.mp H
    obtain ⟨t243, A100, H⟩ := H
    replace H : ((peristyleref14_Set.f kj3 l1 (mx t242 t243)).bind fun t244 => ((peristyleref14_Set.f kj3 l2 (mx t242 t243)).bind fun t247 => (if 0 ≤ (mx t242 t243) then (if (mx t242 t243 : Int).toNat ≤ 281474976710656 then (peristyleref14_Both.l0 kj3 a0 (mx t242 t243) t244 t247 (List.replicate (mx t242 t243 : Int).toNat false) 0) else (none)) else (none)))) = some (r1, r2) := H
    have A10 := Aside0.mk A100
    clear A100
    obtain ⟨ji11, hji11⟩ : ∃ j_ : Int, (mx t242 t243) = j_ := ⟨_, rfl⟩
    replace H : ((peristyleref14_Set.f kj3 l1 (ji11)).bind fun t244 => ((peristyleref14_Set.f kj3 l2 (ji11)).bind fun t247 => (if 0 ≤ (ji11) then (if (ji11 : Int).toNat ≤ 281474976710656 then (peristyleref14_Both.l0 kj3 a0 ji11 t244 t247 (List.replicate (ji11 : Int).toNat false) 0) else (none)) else (none)))) = some (r1, r2) := by first | (rw [hji11] at H; exact H) | (simp only [hji11] at H ⊢; exact H)
    (try rw [hji11] at A9)
    (try rw [hji11] at A10)
    have hji11_ : (if t242 < t243 then t243 else t242) = ji11 := hji11
    replace H := Option.bind_eq_some_iff.mp H
    obtain ⟨t244, A120, H⟩ := H
    replace H : ((peristyleref14_Set.f kj3 l2 (ji11)).bind fun t247 => (if 0 ≤ (ji11) then (if (ji11 : Int).toNat ≤ 281474976710656 then (peristyleref14_Both.l0 kj3 a0 ji11 t244 t247 (List.replicate (ji11 : Int).toNat false) 0) else (none)) else (none))) = some (r1, r2) := H
    have A12 := Aside0.mk A120
    clear A120
    replace H := Option.bind_eq_some_iff.mp H
    obtain ⟨t247, A130, H⟩ := H
    replace H : (if 0 ≤ (ji11) then (if (ji11 : Int).toNat ≤ 281474976710656 then (peristyleref14_Both.l0 kj3 a0 ji11 t244 t247 (List.replicate (ji11 : Int).toNat false) 0) else (none)) else (none)) = some (r1, r2) := H
    have A13 := Aside0.mk A130
    clear A130
    by_cases c14 : 0 ≤ (ji11)
    ·rw [if_pos c14] at H
     have c14b0 := eq_true c14
     have c14b1 : decide (0 ≤ (ji11)) = true := decide_eq_true c14
     clear c14
     by_cases c15 : (ji11 : Int).toNat ≤ 281474976710656
     ·rw [if_pos c15] at H
      have c15b0 := eq_true c15
      have c15b1 : decide ((ji11 : Int).toNat ≤ 281474976710656) = true := decide_eq_true c15
      clear c15
      obtain ⟨y250, hy250⟩ : ∃ y_ : List Bool, y_ = (List.replicate (ji11 : Int).toNat false) := ⟨_, rfl⟩
      replace H : (peristyleref14_Both.l0 kj3 a0 ji11 t244 t247 y250 0) = some (r1, r2) := by first | (rw [hy250]; with_reducible exact H) | (have H2_ := (Option.bind_some _ _).symm.trans H; rw [hy250]; with_reducible exact H2_) | (have H2_ := (Option.bind_some _ _).symm.trans H; with_reducible exact H2_) | with_reducible exact H | (rw [hy250]; exact H) | exact H
      have Ny250 := Aside0.mk hy250
      clear hy250
      have H' := Aside0.mk H
      clear H
      go_wp2_with (first | ((with_reducible refine gate_callee (f := 33) rfl ?_); refine goesL_ (some 22) rfl rfl Try.func33 (by kernel_rfl) rfl #[.slice A1 l1.length c1] rfl (by (try simp only [List.map_toArray, List.map_cons, List.map_nil]); first | done | rfl) ?_; (with_reducible refine (peristyleref14_Top.calls _ _ l1 t242 _ ?side1 ?side2 A9.out).mono ?_); (case side1 => repeat (first | exact (Kd.C_below HR1.out HB.out) | (with_reducible refine Kd.C_alloc ?_ _) | (with_reducible refine Kd.C_drewN ?_ _) | (with_reducible refine Kd.C_drew ?_))); (case side2 => exact HC1.out); rintro e w' ⟨rfl, ⟨nd, rfl⟩⟩; refine ⟨_, rfl, ?_⟩) | ((with_reducible refine gate_callee (f := 33) rfl ?_); refine goesL_ (some 24) rfl rfl Try.func33 (by kernel_rfl) rfl #[.slice A2 l2.length c2] rfl (by (try simp only [List.map_toArray, List.map_cons, List.map_nil]); first | done | rfl) ?_; (with_reducible refine (peristyleref14_Top.calls _ _ l2 t243 _ ?side1 ?side2 A10.out).mono ?_); (case side1 => repeat (first | exact (Kd.C_below HR2.out (by repeat (first | exact HB.out | apply below_alloc | apply pw_below_drewN | apply below_drew1))) | (with_reducible refine Kd.C_alloc ?_ _) | (with_reducible refine Kd.C_drewN ?_ _) | (with_reducible refine Kd.C_drew ?_))); (case side2 => exact HC2.out); rintro e w' ⟨rfl, ⟨nd, rfl⟩⟩; refine ⟨_, rfl, ?_⟩) | ((with_reducible refine gate_callee (f := 36) rfl ?_); refine goesL_ (some 28) rfl rfl Try.func36 (by kernel_rfl) rfl #[.slice A1 l1.length c1, .int .i64 ji11] rfl (by (try simp only [List.map_toArray, List.map_cons, List.map_nil]); first | done | (simp only [hji11]; rfl) | rfl | (simp only [List.length_drop, List.length_take]; rfl)) ?_; (with_reducible refine (peristyleref14_Set.calls kj3 _ _ l1 ji11 t244 _ ?side1 ?side2 A12.out).mono ?_); (case side1 => repeat (first | exact (Kd.C_below HR1.out (by repeat (first | exact HB.out | apply below_alloc | apply pw_below_drewN | apply below_drew1))) | (with_reducible refine Kd.C_alloc ?_ _) | (with_reducible refine Kd.C_drewN ?_ _) | (with_reducible refine Kd.C_drew ?_))); (case side2 => exact HC1.out); rintro e w16 ⟨v245, rfl, ho0, hb⟩; refine ⟨_, rfl, ?_⟩; have n0_ := Aside0.mk (Kd.R_lower ho0 (below_size (by repeat (first | exact HB.out | apply below_alloc | apply pw_below_drewN | apply below_drew1)))); have n1_ := Aside0.mk (below_step (by repeat (first | exact HB.out | apply below_alloc | apply pw_below_drewN | apply below_drew1)) hb); clear HB; have HO246 := n0_; have HB := n1_; clear n0_ n1_; (try clear hb); (try clear hb2); (try clear hk); (try clear hi); (try clear ho0)) | ((with_reducible refine gate_callee (f := 36) rfl ?_); refine goesL_ (some 31) rfl rfl Try.func36 (by kernel_rfl) rfl #[.slice A2 l2.length c2, .int .i64 ji11] rfl (by (try simp only [List.map_toArray, List.map_cons, List.map_nil]); first | done | (simp only [hji11]; rfl) | rfl | (simp only [List.length_drop, List.length_take]; rfl)) ?_; (with_reducible refine (peristyleref14_Set.calls kj3 _ _ l2 ji11 t247 _ ?side1 ?side2 A13.out).mono ?_); (case side1 => repeat (first | exact (Kd.C_below HR2.out HB.out) | (with_reducible refine Kd.C_alloc ?_ _) | (with_reducible refine Kd.C_drewN ?_ _) | (with_reducible refine Kd.C_drew ?_))); (case side2 => exact HC2.out); rintro e w17 ⟨v248, rfl, ho0, hb⟩; refine ⟨_, rfl, ?_⟩; have n0_ := Aside0.mk (Kd.R_elder' (by (with_reducible repeat (first | apply Kd.R_alloc | apply Kd.R_drewN | apply Kd.R_drew)); exact HO246.out) (Kd.R_base ho0) hb); have n1_ := Aside0.mk (Kd.R_lower (Kd.R_new' ho0 (Kd.R_lt (by (with_reducible repeat (first | apply Kd.R_alloc | apply Kd.R_drewN | apply Kd.R_drew)); exact HO246.out))) (below_size (by repeat (first | exact HB.out | apply below_alloc | apply pw_below_drewN | apply below_drew1)))); have n2_ := Aside0.mk (below_step (by repeat (first | exact HB.out | apply below_alloc | apply pw_below_drewN | apply below_drew1)) hb); clear HO246; clear HB; have HO246 := n0_; have HO249 := n1_; have HB := n2_; clear n0_ n1_ n2_; (try clear hb); (try clear hb2); (try clear hk); (try clear hi); (try clear ho0)) | ((with_reducible refine gate_dst (N := 33) rfl ?_); refine Kd.R_make Kd.bool _ 4 rfl (N := 33) rfl 51 _ _ rfl ji11 (by first | rfl | exact congrArg (Value.int .i64) hji11_ | (refine congrArg (Value.int .i64) ?_; have hq_ := hji11_; split at hq_ <;> split <;> omega)) (by first | rfl | exact congrArg (Value.int .i64) hji11_ | (refine congrArg (Value.int .i64) ?_; have hq_ := hji11_; split at hq_ <;> split <;> omega)) Try.underlying51 (.bool false) 1 info4 rfl (by decide) (by omega) false (ok := fun _ => True) (okp := fun _ => True) rfl (fun _ hk => hk) trivial (of_decide_eq_true (by assumption)) (Nat.le_trans (Nat.mul_le_mul_right _ (of_decide_eq_true (by assumption) : ji11.toNat ≤ 281474976710656)) (by omega)) (Below.refl _ _) (Nat.le_refl _) ?_; intro v251 w18 ho19 hb hg_ hnew_; clear hg_ hnew_; (first | rw [← Ny250.out] at ho19 | (simp only [Int.reduceToNat] at ho19; rw [← Ny250.out] at ho19)); have n0_ := Aside0.mk (Kd.R_elder' (by (with_reducible repeat (first | apply Kd.R_alloc | apply Kd.R_drewN | apply Kd.R_drew)); exact HO246.out) (Kd.R_base ho19) hb); have n1_ := Aside0.mk (Kd.R_elder' (by (with_reducible repeat (first | apply Kd.R_alloc | apply Kd.R_drewN | apply Kd.R_drew)); exact HO249.out) (Kd.R_base ho19) hb); have n2_ := Aside0.mk (Kd.R_lower (Kd.R_new' (Kd.R_new' ho19 (Kd.R_lt (by (with_reducible repeat (first | apply Kd.R_alloc | apply Kd.R_drewN | apply Kd.R_drew)); exact HO246.out))) (Kd.R_lt (by (with_reducible repeat (first | apply Kd.R_alloc | apply Kd.R_drewN | apply Kd.R_drew)); exact HO249.out))) (below_size (by repeat (first | exact HB.out | apply below_alloc | apply pw_below_drewN | apply below_drew1)))); have n3_ := Aside0.mk (below_step (by repeat (first | exact HB.out | apply below_alloc | apply pw_below_drewN | apply below_drew1)) hb); clear HO246; clear HO249; clear HB; have HO246 := n0_; have HO249 := n1_; have HO252 := n2_; have HB := n3_; clear n0_ n1_ n2_ n3_; clear hb ho19))
      go_loopg [12] kj3 (fun kq v12 w' => ∃ (x11_2 : List Bool) (x12_2 : Int), v12 = .int .i64 x12_2 ∧ Aside0 (peristyleref14_Both.l0 kq a0 ji11 t244 t247 x11_2 x12_2 = some (r1, r2)) ∧ Aside0 (kq ≤ kj3) ∧ Aside0 (Kd.R Kd.bool 4 w' w.heap.size (fun k_ => some k_ ≠ (v248 : Value).ownBlock ∧ some k_ ≠ (v251 : Value).ownBlock) v245 t244) ∧ Aside0 (Kd.R Kd.bool 4 w' w.heap.size (fun k_ => some k_ ≠ (v245 : Value).ownBlock ∧ some k_ ≠ (v251 : Value).ownBlock) v248 t247) ∧ Aside0 (Kd.R Kd.bool 4 w' w.heap.size (fun k_ => some k_ ≠ (v245 : Value).ownBlock ∧ some k_ ≠ (v248 : Value).ownBlock) v251 x11_2) ∧ Aside0 (Below w.heap.size w w'))
      case atStart => exact ⟨(y250), (0), (by first | rfl | (simp; done) | (simp [*]; done)), H', ⟨Nat.le_refl _⟩, ⟨by (with_reducible repeat (first | apply Kd.R_alloc | apply Kd.R_drewN | apply Kd.R_drew)); exact Kd.R_mono HO246.out (fun _ hk => ⟨hk.1.2, hk.2⟩)⟩, ⟨by (with_reducible repeat (first | apply Kd.R_alloc | apply Kd.R_drewN | apply Kd.R_drew)); exact Kd.R_mono HO249.out (fun _ hk => ⟨hk.1.2, hk.2⟩)⟩, ⟨by (with_reducible repeat (first | apply Kd.R_alloc | apply Kd.R_drewN | apply Kd.R_drew)); exact Kd.R_mono HO252.out (fun _ hk => ⟨hk.1.2, hk.2⟩)⟩, ⟨by repeat (first | (with_reducible first | exact HB.out | apply below_alloc | apply pw_below_drewN | apply below_drew1) | exact HB.out)⟩⟩
      case round =>
       clear H'
       try clear c1
       try clear c2
       try clear p2
       try clear c3
       try clear c6
       try clear c8
       try clear c14
       try clear c14b0
       try clear c14b1
       try clear c15
       try clear c15b0
       try clear c15b1
       try clear p2
       obtain ⟨x11_2, x12_2, rfl, HA, HK2, HO_9, HO_10, HO_11, HB⟩ := hrel
       cases gk with
       | zero => exact absurd HA.out (by simp [peristyleref14_Both.l0])
       | succ k2 =>
        have H := HA.out
        clear HA
        simp only [peristyleref14_Both.l0] at H
        by_cases c20 : x12_2 < ji11
        ·rw [if_pos c20] at H
         have c20b0 : decide (x12_2 < ji11) = true := decide_eq_true c20
         clear c20
         by_cases c21 : a0 = 0
         ·rw [if_pos c21] at H
          have c21b0 : (a0 == 0) = true := beq_iff_eq.mpr c21
          have c21b1 : (a0 != 0) = false := bne_eq_false_iff_eq.mpr c21
          clear c21
          by_cases c22 : 0 ≤ x12_2
          ·rw [if_pos c22] at H
           have c22b0 : decide (0 ≤ x12_2) = true := decide_eq_true c22
           clear c22
           by_cases c23 : x12_2 < (t244.length : Int)
           ·rw [if_pos c23] at H
            have c23b0 : decide (x12_2 < (t244.length : Int)) = true := decide_eq_true c23
            clear c23
            obtain ⟨bq24, hbq24⟩ : ∃ b_ : Bool, b_ = (rdOf false t244 x12_2) := ⟨_, rfl⟩
            replace H : (if bq24 = true then (if x12_2 < (t247.length : Int) then (if x12_2 < (x11_2.length : Int) then (peristyleref14_Both.l0 k2 a0 ji11 t244 t247 (x11_2.set (x12_2 : Int).toNat (rdOf false t247 x12_2)) (wrap64 (x12_2 + 1))) else (none)) else (none)) else (if x12_2 < (x11_2.length : Int) then (peristyleref14_Both.l0 k2 a0 ji11 t244 t247 (x11_2.set (x12_2 : Int).toNat false) (wrap64 (x12_2 + 1))) else (none))) = some (r1, r2) := by rw [← hbq24] at H; exact H
            have Nbq24 := Aside0.mk hbq24
            clear hbq24
            by_cases c25 : bq24 = true
            ·subst c25
             have H1 : (if x12_2 < (t247.length : Int) then (if x12_2 < (x11_2.length : Int) then (peristyleref14_Both.l0 k2 a0 ji11 t244 t247 (x11_2.set (x12_2 : Int).toNat (rdOf false t247 x12_2)) (wrap64 (x12_2 + 1))) else (none)) else (none)) = some (r1, r2) := by rw [if_pos rfl] at H; exact H
             clear H
             have H := H1
             clear H1
             by_cases c26 : x12_2 < (t247.length : Int)
             ·rw [if_pos c26] at H
              have c26b0 : decide (x12_2 < (t247.length : Int)) = true := decide_eq_true c26
              clear c26
              by_cases c27 : x12_2 < (x11_2.length : Int)
              ·rw [if_pos c27] at H
               have c27b0 : decide (x12_2 < (x11_2.length : Int)) = true := decide_eq_true c27
               clear c27
               obtain ⟨y258, hy258⟩ : ∃ y_ : List Bool, y_ = (x11_2.set (x12_2 : Int).toNat (rdOf false t247 x12_2)) := ⟨_, rfl⟩
               replace H : (peristyleref14_Both.l0 k2 a0 ji11 t244 t247 y258 (wrap64 (x12_2 + 1))) = some (r1, r2) := by first | (rw [hy258]; with_reducible exact H) | (have H2_ := (Option.bind_some _ _).symm.trans H; rw [hy258]; with_reducible exact H2_) | (have H2_ := (Option.bind_some _ _).symm.trans H; with_reducible exact H2_) | with_reducible exact H | (rw [hy258]; exact H) | exact H
               have Ny258 := Aside0.mk hy258
               clear hy258
               have H' := Aside0.mk H
               clear H
               obtain ⟨Ao29, co29, eo29⟩ := Kd.R_slice HO_9.out
               subst eo29
               have p256 : 0 ≤ (x12_2 : Int) := of_decide_eq_true (by assumption)
               have q256 : x12_2 < (t244.length : Int) := of_decide_eq_true (by assumption)
               obtain ⟨ad256, e256, hx256_0⟩ := Kd.at_bool (Kd.R_reads' HO_9.out).2.2 x12_2 p256 q256
               (try rw [← Nbq24.out] at hx256_0)
               cases e256
               replace p256 := eq_true p256
               replace q256 := eq_true q256
               obtain ⟨Ao30, co30, eo30⟩ := Kd.R_slice HO_10.out
               subst eo30
               have p257 : 0 ≤ (x12_2 : Int) := of_decide_eq_true (by assumption)
               have q257 : x12_2 < (t247.length : Int) := of_decide_eq_true (by assumption)
               obtain ⟨ad257, e257, hx257_0⟩ := Kd.at_bool (Kd.R_reads' HO_10.out).2.2 x12_2 p257 q257
               (try rw [← Nbq24.out] at hx257_0)
               cases e257
               replace p257 := eq_true p257
               replace q257 := eq_true q257
               have p28 : 0 ≤ (x12_2 : Int) := of_decide_eq_true (by assumption)
               have q28 : (x12_2 : Int) < ((x11_2.length : Int) : Int) := of_decide_eq_true (by assumption)
               obtain ⟨go28, co28, eo28, gb28, gl28, cl28, HG28⟩ := Kd.R_form HO_11.out (by omega)
               (first | cases eo28 | (injection eo28 with ea_ en_ ec_; (first | subst ea_ | (injection ea_ with ea_; subst ea_)); subst ec_; clear en_))
               have GB28 := Aside0.mk gb28
               have GG28 := Aside0.mk HG28
               clear gb28 gl28 HG28
               obtain ⟨hx28_0, hf28_0⟩ := Kd.R_celln false HO_11.out (x12_2 : Int) p28 q28
               replace p28 := eq_true p28
               replace q28 := eq_true q28
               have HP31 := Kd.R_putg HO_11.out (x12_2 : Int) (rdOf false t247 x12_2)
               go_wp2_with (first | ((with_reducible refine gate_store (t := 4) (p := 68) rfl ?_); refine store_event (t := 4) (p := 68) (v := ?vo_w32) (w1 := (wr.setCell ⟨go28, (x12_2 : Int).toNat, none⟩ (.bool (rdOf false t247 x12_2)))) ?hg ?ho ?hn ?hr ?_; (case ho => rfl); (case hg => rfl); (case hn => rfl); (case hr => first | (go_simp; done) | (go_simp; rfl)); intro w32 hw; have hg : wr.grownBy w32 (some go28) := (by rw [hw]; exact HP31.2); have hp_ : Kd.R Kd.bool 4 w32 w.heap.size (fun k_ => some k_ ≠ (.slice (some ad256) t244.length co29 : Value).ownBlock ∧ some k_ ≠ (.slice (some ad257) t247.length co30 : Value).ownBlock) (.slice (some ⟨go28, 0, none⟩) x11_2.length co28) y258 := (by rw [hw, Ny258.out]; exact HP31.1); clear HP31; have n0_ := Aside0.mk (Kd.R_after (v := (.slice (some ⟨go28, 0, none⟩) x11_2.length co28)) (v1 := (.slice (some ⟨go28, 0, none⟩) x11_2.length co28)) (ok := (fun k_ => some k_ ≠ (.slice (some ad257) t247.length co30 : Value).ownBlock)) (by (with_reducible repeat (first | apply Kd.R_alloc | apply Kd.R_drewN | apply Kd.R_drew)); exact HO_9.out) hg (.inl rfl)); have n1_ := Aside0.mk (Kd.R_after (v := (.slice (some ⟨go28, 0, none⟩) x11_2.length co28)) (v1 := (.slice (some ⟨go28, 0, none⟩) x11_2.length co28)) (ok := (fun k_ => some k_ ≠ (.slice (some ad256) t244.length co29 : Value).ownBlock)) (by (with_reducible repeat (first | apply Kd.R_alloc | apply Kd.R_drewN | apply Kd.R_drew)); exact HO_10.out) hg (.inl rfl)); have n2_ := Aside0.mk (hp_); have n3_ := Aside0.mk ((by rw [hw]; exact below_set (HB.out) GB28.out : Below w.heap.size w w32)); clear HO_9; clear HO_10; clear HO_11; clear HB; have HO_9 := n0_; have HO_10 := n1_; have HO_11 := n2_; have HB := n3_; clear n0_ n1_ n2_ n3_; clear hg hw hp_))
               go_roundg k2
               case measure => have := HJ3.out; have := HK2.out; omega
               case rel => exact ⟨(y258), (wrap64 (x12_2 + 1)), (by first | rfl | (simp; done) | (simp [*]; done)), (by first | exact H' | (simp only [hji11]; exact H')), ⟨by have := HJ3.out; have := HK2.out; omega⟩, ⟨by (with_reducible repeat (first | apply Kd.R_alloc | apply Kd.R_drewN | apply Kd.R_drew)); exact HO_9.out⟩, ⟨by (with_reducible repeat (first | apply Kd.R_alloc | apply Kd.R_drewN | apply Kd.R_drew)); exact HO_10.out⟩, ⟨by (with_reducible repeat (first | apply Kd.R_alloc | apply Kd.R_drewN | apply Kd.R_drew)); exact HO_11.out⟩, ⟨by repeat (first | (with_reducible first | exact HB.out | apply below_alloc | apply pw_below_drewN | apply below_drew1) | exact HB.out)⟩⟩
              ·rw [if_neg c27] at H
               exact absurd H (by simp)
             ·rw [if_neg c26] at H
              exact absurd H (by simp)
            ·replace c25 := Bool.eq_false_iff.mpr c25
             subst c25
             have H1 : (if x12_2 < (x11_2.length : Int) then (peristyleref14_Both.l0 k2 a0 ji11 t244 t247 (x11_2.set (x12_2 : Int).toNat false) (wrap64 (x12_2 + 1))) else (none)) = some (r1, r2) := by rw [if_neg (show ¬ (false = true) by decide)] at H; exact H
             clear H
             have H := H1
             clear H1
             by_cases c33 : x12_2 < (x11_2.length : Int)
             ·rw [if_pos c33] at H
              have c33b0 : decide (x12_2 < (x11_2.length : Int)) = true := decide_eq_true c33
              clear c33
              obtain ⟨y259, hy259⟩ : ∃ y_ : List Bool, y_ = (x11_2.set (x12_2 : Int).toNat false) := ⟨_, rfl⟩
              replace H : (peristyleref14_Both.l0 k2 a0 ji11 t244 t247 y259 (wrap64 (x12_2 + 1))) = some (r1, r2) := by first | (rw [hy259]; with_reducible exact H) | (have H2_ := (Option.bind_some _ _).symm.trans H; rw [hy259]; with_reducible exact H2_) | (have H2_ := (Option.bind_some _ _).symm.trans H; with_reducible exact H2_) | with_reducible exact H | (rw [hy259]; exact H) | exact H
              have Ny259 := Aside0.mk hy259
              clear hy259
              have H' := Aside0.mk H
              clear H
              obtain ⟨Ao35, co35, eo35⟩ := Kd.R_slice HO_9.out
              subst eo35
              have p256 : 0 ≤ (x12_2 : Int) := of_decide_eq_true (by assumption)
              have q256 : x12_2 < (t244.length : Int) := of_decide_eq_true (by assumption)
              obtain ⟨ad256, e256, hx256_0⟩ := Kd.at_bool (Kd.R_reads' HO_9.out).2.2 x12_2 p256 q256
              (try rw [← Nbq24.out] at hx256_0)
              cases e256
              replace p256 := eq_true p256
              replace q256 := eq_true q256
              have p34 : 0 ≤ (x12_2 : Int) := of_decide_eq_true (by assumption)
              have q34 : (x12_2 : Int) < ((x11_2.length : Int) : Int) := of_decide_eq_true (by assumption)
              obtain ⟨go34, co34, eo34, gb34, gl34, cl34, HG34⟩ := Kd.R_form HO_11.out (by omega)
              (first | cases eo34 | (injection eo34 with ea_ en_ ec_; (first | subst ea_ | (injection ea_ with ea_; subst ea_)); subst ec_; clear en_))
              have GB34 := Aside0.mk gb34
              have GG34 := Aside0.mk HG34
              clear gb34 gl34 HG34
              obtain ⟨hx34_0, hf34_0⟩ := Kd.R_celln false HO_11.out (x12_2 : Int) p34 q34
              replace p34 := eq_true p34
              replace q34 := eq_true q34
              have HP36 := Kd.R_putg HO_11.out (x12_2 : Int) false
              go_wp2_with (first | ((with_reducible refine gate_store (t := 4) (p := 68) rfl ?_); refine store_event (t := 4) (p := 68) (v := ?vo_w37) (w1 := (wr.setCell ⟨go34, (x12_2 : Int).toNat, none⟩ (.bool false))) ?hg ?ho ?hn ?hr ?_; (case ho => rfl); (case hg => rfl); (case hn => rfl); (case hr => first | (go_simp; done) | (go_simp; rfl)); intro w37 hw; have hg : wr.grownBy w37 (some go34) := (by rw [hw]; exact HP36.2); have hp_ : Kd.R Kd.bool 4 w37 w.heap.size (fun k_ => some k_ ≠ (.slice (some ad256) t244.length co35 : Value).ownBlock ∧ some k_ ≠ (v248 : Value).ownBlock) (.slice (some ⟨go34, 0, none⟩) x11_2.length co34) y259 := (by rw [hw, Ny259.out]; exact HP36.1); clear HP36; have n0_ := Aside0.mk (Kd.R_after (v := (.slice (some ⟨go34, 0, none⟩) x11_2.length co34)) (v1 := (.slice (some ⟨go34, 0, none⟩) x11_2.length co34)) (ok := (fun k_ => some k_ ≠ (v248 : Value).ownBlock)) (by (with_reducible repeat (first | apply Kd.R_alloc | apply Kd.R_drewN | apply Kd.R_drew)); exact HO_9.out) hg (.inl rfl)); have n1_ := Aside0.mk (Kd.R_after (v := (.slice (some ⟨go34, 0, none⟩) x11_2.length co34)) (v1 := (.slice (some ⟨go34, 0, none⟩) x11_2.length co34)) (ok := (fun k_ => some k_ ≠ (.slice (some ad256) t244.length co35 : Value).ownBlock)) (by (with_reducible repeat (first | apply Kd.R_alloc | apply Kd.R_drewN | apply Kd.R_drew)); exact HO_10.out) hg (.inl rfl)); have n2_ := Aside0.mk (hp_); have n3_ := Aside0.mk ((by rw [hw]; exact below_set (HB.out) GB34.out : Below w.heap.size w w37)); clear HO_9; clear HO_10; clear HO_11; clear HB; have HO_9 := n0_; have HO_10 := n1_; have HO_11 := n2_; have HB := n3_; clear n0_ n1_ n2_ n3_; clear hg hw hp_))
              go_roundg k2
              case measure => have := HJ3.out; have := HK2.out; omega
              case rel => exact ⟨(y259), (wrap64 (x12_2 + 1)), (by first | rfl | (simp; done) | (simp [*]; done)), (by first | exact H' | (simp only [hji11]; exact H')), ⟨by have := HJ3.out; have := HK2.out; omega⟩, ⟨by (with_reducible repeat (first | apply Kd.R_alloc | apply Kd.R_drewN | apply Kd.R_drew)); exact HO_9.out⟩, ⟨by (with_reducible repeat (first | apply Kd.R_alloc | apply Kd.R_drewN | apply Kd.R_drew)); exact HO_10.out⟩, ⟨by (with_reducible repeat (first | apply Kd.R_alloc | apply Kd.R_drewN | apply Kd.R_drew)); exact HO_11.out⟩, ⟨by repeat (first | (with_reducible first | exact HB.out | apply below_alloc | apply pw_below_drewN | apply below_drew1) | exact HB.out)⟩⟩
             ·rw [if_neg c33] at H
              exact absurd H (by simp)
           ·rw [if_neg c23] at H
            exact absurd H (by simp)
          ·rw [if_neg c22] at H
           exact absurd H (by simp)
         ·rw [if_neg c21] at H
          have c21b0 : (a0 == 0) = false := beq_eq_false_iff_ne.mpr c21
          have c21b1 : (a0 != 0) = true := bne_iff_ne.mpr c21
          by_cases c38 : a0 = 1
          ·rw [if_pos c38] at H
           have c38b0 : (a0 == 1) = true := beq_iff_eq.mpr c38
           have c38b1 : (a0 != 1) = false := bne_eq_false_iff_eq.mpr c38
           clear c38
           by_cases c39 : 0 ≤ x12_2
           ·rw [if_pos c39] at H
            have c39b0 : decide (0 ≤ x12_2) = true := decide_eq_true c39
            clear c39
            by_cases c40 : x12_2 < (t244.length : Int)
            ·rw [if_pos c40] at H
             have c40b0 : decide (x12_2 < (t244.length : Int)) = true := decide_eq_true c40
             clear c40
             obtain ⟨bq41, hbq41⟩ : ∃ b_ : Bool, b_ = (rdOf false t244 x12_2) := ⟨_, rfl⟩
             replace H : (if bq41 = true then (if x12_2 < (x11_2.length : Int) then (peristyleref14_Both.l0 k2 a0 ji11 t244 t247 (x11_2.set (x12_2 : Int).toNat true) (wrap64 (x12_2 + 1))) else (none)) else (if x12_2 < (t247.length : Int) then (if x12_2 < (x11_2.length : Int) then (peristyleref14_Both.l0 k2 a0 ji11 t244 t247 (x11_2.set (x12_2 : Int).toNat (rdOf false t247 x12_2)) (wrap64 (x12_2 + 1))) else (none)) else (none))) = some (r1, r2) := by rw [← hbq41] at H; exact H
             have Nbq41 := Aside0.mk hbq41
             clear hbq41
             by_cases c42 : bq41 = true
             ·subst c42
              have H1 : (if x12_2 < (x11_2.length : Int) then (peristyleref14_Both.l0 k2 a0 ji11 t244 t247 (x11_2.set (x12_2 : Int).toNat true) (wrap64 (x12_2 + 1))) else (none)) = some (r1, r2) := by rw [if_pos rfl] at H; exact H
              clear H
              have H := H1
              clear H1
              by_cases c43 : x12_2 < (x11_2.length : Int)
              ·rw [if_pos c43] at H
               have c43b0 : decide (x12_2 < (x11_2.length : Int)) = true := decide_eq_true c43
               clear c43
               obtain ⟨y261, hy261⟩ : ∃ y_ : List Bool, y_ = (x11_2.set (x12_2 : Int).toNat true) := ⟨_, rfl⟩
               replace H : (peristyleref14_Both.l0 k2 a0 ji11 t244 t247 y261 (wrap64 (x12_2 + 1))) = some (r1, r2) := by first | (rw [hy261]; with_reducible exact H) | (have H2_ := (Option.bind_some _ _).symm.trans H; rw [hy261]; with_reducible exact H2_) | (have H2_ := (Option.bind_some _ _).symm.trans H; with_reducible exact H2_) | with_reducible exact H | (rw [hy261]; exact H) | exact H
               have Ny261 := Aside0.mk hy261
               clear hy261
               have H' := Aside0.mk H
               clear H
               obtain ⟨Ao45, co45, eo45⟩ := Kd.R_slice HO_9.out
               subst eo45
               have p260 : 0 ≤ (x12_2 : Int) := of_decide_eq_true (by assumption)
               have q260 : x12_2 < (t244.length : Int) := of_decide_eq_true (by assumption)
               obtain ⟨ad260, e260, hx260_0⟩ := Kd.at_bool (Kd.R_reads' HO_9.out).2.2 x12_2 p260 q260
               (try rw [← Nbq41.out] at hx260_0)
               cases e260
               replace p260 := eq_true p260
               replace q260 := eq_true q260
               have p44 : 0 ≤ (x12_2 : Int) := of_decide_eq_true (by assumption)
               have q44 : (x12_2 : Int) < ((x11_2.length : Int) : Int) := of_decide_eq_true (by assumption)
               obtain ⟨go44, co44, eo44, gb44, gl44, cl44, HG44⟩ := Kd.R_form HO_11.out (by omega)
               (first | cases eo44 | (injection eo44 with ea_ en_ ec_; (first | subst ea_ | (injection ea_ with ea_; subst ea_)); subst ec_; clear en_))
               have GB44 := Aside0.mk gb44
               have GG44 := Aside0.mk HG44
               clear gb44 gl44 HG44
               obtain ⟨hx44_0, hf44_0⟩ := Kd.R_celln false HO_11.out (x12_2 : Int) p44 q44
               replace p44 := eq_true p44
               replace q44 := eq_true q44
               have HP46 := Kd.R_putg HO_11.out (x12_2 : Int) true
               go_wp2_with (first | ((with_reducible refine gate_store (t := 4) (p := 83) rfl ?_); refine store_event (t := 4) (p := 83) (v := ?vo_w47) (w1 := (wr.setCell ⟨go44, (x12_2 : Int).toNat, none⟩ (.bool true))) ?hg ?ho ?hn ?hr ?_; (case ho => rfl); (case hg => rfl); (case hn => rfl); (case hr => first | (go_simp; done) | (go_simp; rfl)); intro w47 hw; have hg : wr.grownBy w47 (some go44) := (by rw [hw]; exact HP46.2); have hp_ : Kd.R Kd.bool 4 w47 w.heap.size (fun k_ => some k_ ≠ (.slice (some ad260) t244.length co45 : Value).ownBlock ∧ some k_ ≠ (v248 : Value).ownBlock) (.slice (some ⟨go44, 0, none⟩) x11_2.length co44) y261 := (by rw [hw, Ny261.out]; exact HP46.1); clear HP46; have n0_ := Aside0.mk (Kd.R_after (v := (.slice (some ⟨go44, 0, none⟩) x11_2.length co44)) (v1 := (.slice (some ⟨go44, 0, none⟩) x11_2.length co44)) (ok := (fun k_ => some k_ ≠ (v248 : Value).ownBlock)) (by (with_reducible repeat (first | apply Kd.R_alloc | apply Kd.R_drewN | apply Kd.R_drew)); exact HO_9.out) hg (.inl rfl)); have n1_ := Aside0.mk (Kd.R_after (v := (.slice (some ⟨go44, 0, none⟩) x11_2.length co44)) (v1 := (.slice (some ⟨go44, 0, none⟩) x11_2.length co44)) (ok := (fun k_ => some k_ ≠ (.slice (some ad260) t244.length co45 : Value).ownBlock)) (by (with_reducible repeat (first | apply Kd.R_alloc | apply Kd.R_drewN | apply Kd.R_drew)); exact HO_10.out) hg (.inl rfl)); have n2_ := Aside0.mk (hp_); have n3_ := Aside0.mk ((by rw [hw]; exact below_set (HB.out) GB44.out : Below w.heap.size w w47)); clear HO_9; clear HO_10; clear HO_11; clear HB; have HO_9 := n0_; have HO_10 := n1_; have HO_11 := n2_; have HB := n3_; clear n0_ n1_ n2_ n3_; clear hg hw hp_))
               go_roundg k2
               case measure => have := HJ3.out; have := HK2.out; omega
               case rel => exact ⟨(y261), (wrap64 (x12_2 + 1)), (by first | rfl | (simp; done) | (simp [*]; done)), (by first | exact H' | (simp only [hji11]; exact H')), ⟨by have := HJ3.out; have := HK2.out; omega⟩, ⟨by (with_reducible repeat (first | apply Kd.R_alloc | apply Kd.R_drewN | apply Kd.R_drew)); exact HO_9.out⟩, ⟨by (with_reducible repeat (first | apply Kd.R_alloc | apply Kd.R_drewN | apply Kd.R_drew)); exact HO_10.out⟩, ⟨by (with_reducible repeat (first | apply Kd.R_alloc | apply Kd.R_drewN | apply Kd.R_drew)); exact HO_11.out⟩, ⟨by repeat (first | (with_reducible first | exact HB.out | apply below_alloc | apply pw_below_drewN | apply below_drew1) | exact HB.out)⟩⟩
              ·rw [if_neg c43] at H
               exact absurd H (by simp)
             ·replace c42 := Bool.eq_false_iff.mpr c42
              subst c42
              have H1 : (if x12_2 < (t247.length : Int) then (if x12_2 < (x11_2.length : Int) then (peristyleref14_Both.l0 k2 a0 ji11 t244 t247 (x11_2.set (x12_2 : Int).toNat (rdOf false t247 x12_2)) (wrap64 (x12_2 + 1))) else (none)) else (none)) = some (r1, r2) := by rw [if_neg (show ¬ (false = true) by decide)] at H; exact H
              clear H
              have H := H1
              clear H1
              by_cases c48 : x12_2 < (t247.length : Int)
              ·rw [if_pos c48] at H
               have c48b0 : decide (x12_2 < (t247.length : Int)) = true := decide_eq_true c48
               clear c48
               by_cases c49 : x12_2 < (x11_2.length : Int)
               ·rw [if_pos c49] at H
                have c49b0 : decide (x12_2 < (x11_2.length : Int)) = true := decide_eq_true c49
                clear c49
                obtain ⟨y263, hy263⟩ : ∃ y_ : List Bool, y_ = (x11_2.set (x12_2 : Int).toNat (rdOf false t247 x12_2)) := ⟨_, rfl⟩
                replace H : (peristyleref14_Both.l0 k2 a0 ji11 t244 t247 y263 (wrap64 (x12_2 + 1))) = some (r1, r2) := by first | (rw [hy263]; with_reducible exact H) | (have H2_ := (Option.bind_some _ _).symm.trans H; rw [hy263]; with_reducible exact H2_) | (have H2_ := (Option.bind_some _ _).symm.trans H; with_reducible exact H2_) | with_reducible exact H | (rw [hy263]; exact H) | exact H
                have Ny263 := Aside0.mk hy263
                clear hy263
                have H' := Aside0.mk H
                clear H
                obtain ⟨Ao51, co51, eo51⟩ := Kd.R_slice HO_9.out
                subst eo51
                have p260 : 0 ≤ (x12_2 : Int) := of_decide_eq_true (by assumption)
                have q260 : x12_2 < (t244.length : Int) := of_decide_eq_true (by assumption)
                obtain ⟨ad260, e260, hx260_0⟩ := Kd.at_bool (Kd.R_reads' HO_9.out).2.2 x12_2 p260 q260
                (try rw [← Nbq41.out] at hx260_0)
                cases e260
                replace p260 := eq_true p260
                replace q260 := eq_true q260
                obtain ⟨Ao52, co52, eo52⟩ := Kd.R_slice HO_10.out
                subst eo52
                have p262 : 0 ≤ (x12_2 : Int) := of_decide_eq_true (by assumption)
                have q262 : x12_2 < (t247.length : Int) := of_decide_eq_true (by assumption)
                obtain ⟨ad262, e262, hx262_0⟩ := Kd.at_bool (Kd.R_reads' HO_10.out).2.2 x12_2 p262 q262
                (try rw [← Nbq41.out] at hx262_0)
                cases e262
                replace p262 := eq_true p262
                replace q262 := eq_true q262
                have p50 : 0 ≤ (x12_2 : Int) := of_decide_eq_true (by assumption)
                have q50 : (x12_2 : Int) < ((x11_2.length : Int) : Int) := of_decide_eq_true (by assumption)
                obtain ⟨go50, co50, eo50, gb50, gl50, cl50, HG50⟩ := Kd.R_form HO_11.out (by omega)
                (first | cases eo50 | (injection eo50 with ea_ en_ ec_; (first | subst ea_ | (injection ea_ with ea_; subst ea_)); subst ec_; clear en_))
                have GB50 := Aside0.mk gb50
                have GG50 := Aside0.mk HG50
                clear gb50 gl50 HG50
                obtain ⟨hx50_0, hf50_0⟩ := Kd.R_celln false HO_11.out (x12_2 : Int) p50 q50
                replace p50 := eq_true p50
                replace q50 := eq_true q50
                have HP53 := Kd.R_putg HO_11.out (x12_2 : Int) (rdOf false t247 x12_2)
                go_wp2_with (first | ((with_reducible refine gate_store (t := 4) (p := 83) rfl ?_); refine store_event (t := 4) (p := 83) (v := ?vo_w54) (w1 := (wr.setCell ⟨go50, (x12_2 : Int).toNat, none⟩ (.bool (rdOf false t247 x12_2)))) ?hg ?ho ?hn ?hr ?_; (case ho => rfl); (case hg => rfl); (case hn => rfl); (case hr => first | (go_simp; done) | (go_simp; rfl)); intro w54 hw; have hg : wr.grownBy w54 (some go50) := (by rw [hw]; exact HP53.2); have hp_ : Kd.R Kd.bool 4 w54 w.heap.size (fun k_ => some k_ ≠ (.slice (some ad260) t244.length co51 : Value).ownBlock ∧ some k_ ≠ (.slice (some ad262) t247.length co52 : Value).ownBlock) (.slice (some ⟨go50, 0, none⟩) x11_2.length co50) y263 := (by rw [hw, Ny263.out]; exact HP53.1); clear HP53; have n0_ := Aside0.mk (Kd.R_after (v := (.slice (some ⟨go50, 0, none⟩) x11_2.length co50)) (v1 := (.slice (some ⟨go50, 0, none⟩) x11_2.length co50)) (ok := (fun k_ => some k_ ≠ (.slice (some ad262) t247.length co52 : Value).ownBlock)) (by (with_reducible repeat (first | apply Kd.R_alloc | apply Kd.R_drewN | apply Kd.R_drew)); exact HO_9.out) hg (.inl rfl)); have n1_ := Aside0.mk (Kd.R_after (v := (.slice (some ⟨go50, 0, none⟩) x11_2.length co50)) (v1 := (.slice (some ⟨go50, 0, none⟩) x11_2.length co50)) (ok := (fun k_ => some k_ ≠ (.slice (some ad260) t244.length co51 : Value).ownBlock)) (by (with_reducible repeat (first | apply Kd.R_alloc | apply Kd.R_drewN | apply Kd.R_drew)); exact HO_10.out) hg (.inl rfl)); have n2_ := Aside0.mk (hp_); have n3_ := Aside0.mk ((by rw [hw]; exact below_set (HB.out) GB50.out : Below w.heap.size w w54)); clear HO_9; clear HO_10; clear HO_11; clear HB; have HO_9 := n0_; have HO_10 := n1_; have HO_11 := n2_; have HB := n3_; clear n0_ n1_ n2_ n3_; clear hg hw hp_))
                go_roundg k2
                case measure => have := HJ3.out; have := HK2.out; omega
                case rel => exact ⟨(y263), (wrap64 (x12_2 + 1)), (by first | rfl | (simp; done) | (simp [*]; done)), (by first | exact H' | (simp only [hji11]; exact H')), ⟨by have := HJ3.out; have := HK2.out; omega⟩, ⟨by (with_reducible repeat (first | apply Kd.R_alloc | apply Kd.R_drewN | apply Kd.R_drew)); exact HO_9.out⟩, ⟨by (with_reducible repeat (first | apply Kd.R_alloc | apply Kd.R_drewN | apply Kd.R_drew)); exact HO_10.out⟩, ⟨by (with_reducible repeat (first | apply Kd.R_alloc | apply Kd.R_drewN | apply Kd.R_drew)); exact HO_11.out⟩, ⟨by repeat (first | (with_reducible first | exact HB.out | apply below_alloc | apply pw_below_drewN | apply below_drew1) | exact HB.out)⟩⟩
               ·rw [if_neg c49] at H
                exact absurd H (by simp)
              ·rw [if_neg c48] at H
               exact absurd H (by simp)
            ·rw [if_neg c40] at H
             exact absurd H (by simp)
           ·rw [if_neg c39] at H
            exact absurd H (by simp)
          ·rw [if_neg c38] at H
           have c38b0 : (a0 == 1) = false := beq_eq_false_iff_ne.mpr c38
           have c38b1 : (a0 != 1) = true := bne_iff_ne.mpr c38
           by_cases c55 : 0 ≤ x12_2
           ·rw [if_pos c55] at H
            have c55b0 : decide (0 ≤ x12_2) = true := decide_eq_true c55
            clear c55
            by_cases c56 : x12_2 < (t244.length : Int)
            ·rw [if_pos c56] at H
             have c56b0 : decide (x12_2 < (t244.length : Int)) = true := decide_eq_true c56
             clear c56
             obtain ⟨bq57, hbq57⟩ : ∃ b_ : Bool, b_ = (rdOf false t244 x12_2) := ⟨_, rfl⟩
             replace H : (if bq57 = true then (if x12_2 < (t247.length : Int) then (if x12_2 < (x11_2.length : Int) then (peristyleref14_Both.l0 k2 a0 ji11 t244 t247 (x11_2.set (x12_2 : Int).toNat (!(rdOf false t247 x12_2))) (wrap64 (x12_2 + 1))) else (none)) else (none)) else (if x12_2 < (x11_2.length : Int) then (peristyleref14_Both.l0 k2 a0 ji11 t244 t247 (x11_2.set (x12_2 : Int).toNat false) (wrap64 (x12_2 + 1))) else (none))) = some (r1, r2) := by rw [← hbq57] at H; exact H
             have Nbq57 := Aside0.mk hbq57
             clear hbq57
             by_cases c58 : bq57 = true
             ·subst c58
              have H1 : (if x12_2 < (t247.length : Int) then (if x12_2 < (x11_2.length : Int) then (peristyleref14_Both.l0 k2 a0 ji11 t244 t247 (x11_2.set (x12_2 : Int).toNat (!(rdOf false t247 x12_2))) (wrap64 (x12_2 + 1))) else (none)) else (none)) = some (r1, r2) := by rw [if_pos rfl] at H; exact H
              clear H
              have H := H1
              clear H1
              by_cases c59 : x12_2 < (t247.length : Int)
              ·rw [if_pos c59] at H
               have c59b0 : decide (x12_2 < (t247.length : Int)) = true := decide_eq_true c59
               clear c59
               by_cases c60 : x12_2 < (x11_2.length : Int)
               ·rw [if_pos c60] at H
                have c60b0 : decide (x12_2 < (x11_2.length : Int)) = true := decide_eq_true c60
                clear c60
                obtain ⟨y266, hy266⟩ : ∃ y_ : List Bool, y_ = (x11_2.set (x12_2 : Int).toNat (!(rdOf false t247 x12_2))) := ⟨_, rfl⟩
                replace H : (peristyleref14_Both.l0 k2 a0 ji11 t244 t247 y266 (wrap64 (x12_2 + 1))) = some (r1, r2) := by first | (rw [hy266]; with_reducible exact H) | (have H2_ := (Option.bind_some _ _).symm.trans H; rw [hy266]; with_reducible exact H2_) | (have H2_ := (Option.bind_some _ _).symm.trans H; with_reducible exact H2_) | with_reducible exact H | (rw [hy266]; exact H) | exact H
                have Ny266 := Aside0.mk hy266
                clear hy266
                have H' := Aside0.mk H
                clear H
                obtain ⟨Ao62, co62, eo62⟩ := Kd.R_slice HO_9.out
                subst eo62
                have p264 : 0 ≤ (x12_2 : Int) := of_decide_eq_true (by assumption)
                have q264 : x12_2 < (t244.length : Int) := of_decide_eq_true (by assumption)
                obtain ⟨ad264, e264, hx264_0⟩ := Kd.at_bool (Kd.R_reads' HO_9.out).2.2 x12_2 p264 q264
                (try rw [← Nbq57.out] at hx264_0)
                cases e264
                replace p264 := eq_true p264
                replace q264 := eq_true q264
                obtain ⟨Ao63, co63, eo63⟩ := Kd.R_slice HO_10.out
                subst eo63
                have p265 : 0 ≤ (x12_2 : Int) := of_decide_eq_true (by assumption)
                have q265 : x12_2 < (t247.length : Int) := of_decide_eq_true (by assumption)
                obtain ⟨ad265, e265, hx265_0⟩ := Kd.at_bool (Kd.R_reads' HO_10.out).2.2 x12_2 p265 q265
                (try rw [← Nbq57.out] at hx265_0)
                cases e265
                replace p265 := eq_true p265
                replace q265 := eq_true q265
                have p61 : 0 ≤ (x12_2 : Int) := of_decide_eq_true (by assumption)
                have q61 : (x12_2 : Int) < ((x11_2.length : Int) : Int) := of_decide_eq_true (by assumption)
                obtain ⟨go61, co61, eo61, gb61, gl61, cl61, HG61⟩ := Kd.R_form HO_11.out (by omega)
                (first | cases eo61 | (injection eo61 with ea_ en_ ec_; (first | subst ea_ | (injection ea_ with ea_; subst ea_)); subst ec_; clear en_))
                have GB61 := Aside0.mk gb61
                have GG61 := Aside0.mk HG61
                clear gb61 gl61 HG61
                obtain ⟨hx61_0, hf61_0⟩ := Kd.R_celln false HO_11.out (x12_2 : Int) p61 q61
                replace p61 := eq_true p61
                replace q61 := eq_true q61
                have HP64 := Kd.R_putg HO_11.out (x12_2 : Int) (!(rdOf false t247 x12_2))
                go_wp2_with (first | ((with_reducible refine gate_store (t := 4) (p := 53) rfl ?_); refine store_event (t := 4) (p := 53) (v := ?vo_w65) (w1 := (wr.setCell ⟨go61, (x12_2 : Int).toNat, none⟩ (.bool (!(rdOf false t247 x12_2))))) ?hg ?ho ?hn ?hr ?_; (case ho => rfl); (case hg => rfl); (case hn => rfl); (case hr => first | (go_simp; done) | (go_simp; rfl)); intro w65 hw; have hg : wr.grownBy w65 (some go61) := (by rw [hw]; exact HP64.2); have hp_ : Kd.R Kd.bool 4 w65 w.heap.size (fun k_ => some k_ ≠ (.slice (some ad264) t244.length co62 : Value).ownBlock ∧ some k_ ≠ (.slice (some ad265) t247.length co63 : Value).ownBlock) (.slice (some ⟨go61, 0, none⟩) x11_2.length co61) y266 := (by rw [hw, Ny266.out]; exact HP64.1); clear HP64; have n0_ := Aside0.mk (Kd.R_after (v := (.slice (some ⟨go61, 0, none⟩) x11_2.length co61)) (v1 := (.slice (some ⟨go61, 0, none⟩) x11_2.length co61)) (ok := (fun k_ => some k_ ≠ (.slice (some ad265) t247.length co63 : Value).ownBlock)) (by (with_reducible repeat (first | apply Kd.R_alloc | apply Kd.R_drewN | apply Kd.R_drew)); exact HO_9.out) hg (.inl rfl)); have n1_ := Aside0.mk (Kd.R_after (v := (.slice (some ⟨go61, 0, none⟩) x11_2.length co61)) (v1 := (.slice (some ⟨go61, 0, none⟩) x11_2.length co61)) (ok := (fun k_ => some k_ ≠ (.slice (some ad264) t244.length co62 : Value).ownBlock)) (by (with_reducible repeat (first | apply Kd.R_alloc | apply Kd.R_drewN | apply Kd.R_drew)); exact HO_10.out) hg (.inl rfl)); have n2_ := Aside0.mk (hp_); have n3_ := Aside0.mk ((by rw [hw]; exact below_set (HB.out) GB61.out : Below w.heap.size w w65)); clear HO_9; clear HO_10; clear HO_11; clear HB; have HO_9 := n0_; have HO_10 := n1_; have HO_11 := n2_; have HB := n3_; clear n0_ n1_ n2_ n3_; clear hg hw hp_))
                go_roundg k2
                case measure => have := HJ3.out; have := HK2.out; omega
                case rel => exact ⟨(y266), (wrap64 (x12_2 + 1)), (by first | rfl | (simp; done) | (simp [*]; done)), (by first | exact H' | (simp only [hji11]; exact H')), ⟨by have := HJ3.out; have := HK2.out; omega⟩, ⟨by (with_reducible repeat (first | apply Kd.R_alloc | apply Kd.R_drewN | apply Kd.R_drew)); exact HO_9.out⟩, ⟨by (with_reducible repeat (first | apply Kd.R_alloc | apply Kd.R_drewN | apply Kd.R_drew)); exact HO_10.out⟩, ⟨by (with_reducible repeat (first | apply Kd.R_alloc | apply Kd.R_drewN | apply Kd.R_drew)); exact HO_11.out⟩, ⟨by repeat (first | (with_reducible first | exact HB.out | apply below_alloc | apply pw_below_drewN | apply below_drew1) | exact HB.out)⟩⟩
               ·rw [if_neg c60] at H
                exact absurd H (by simp)
              ·rw [if_neg c59] at H
               exact absurd H (by simp)
             ·replace c58 := Bool.eq_false_iff.mpr c58
              subst c58
              have H1 : (if x12_2 < (x11_2.length : Int) then (peristyleref14_Both.l0 k2 a0 ji11 t244 t247 (x11_2.set (x12_2 : Int).toNat false) (wrap64 (x12_2 + 1))) else (none)) = some (r1, r2) := by rw [if_neg (show ¬ (false = true) by decide)] at H; exact H
              clear H
              have H := H1
              clear H1
              by_cases c66 : x12_2 < (x11_2.length : Int)
              ·rw [if_pos c66] at H
               have c66b0 : decide (x12_2 < (x11_2.length : Int)) = true := decide_eq_true c66
               clear c66
               obtain ⟨y267, hy267⟩ : ∃ y_ : List Bool, y_ = (x11_2.set (x12_2 : Int).toNat false) := ⟨_, rfl⟩
               replace H : (peristyleref14_Both.l0 k2 a0 ji11 t244 t247 y267 (wrap64 (x12_2 + 1))) = some (r1, r2) := by first | (rw [hy267]; with_reducible exact H) | (have H2_ := (Option.bind_some _ _).symm.trans H; rw [hy267]; with_reducible exact H2_) | (have H2_ := (Option.bind_some _ _).symm.trans H; with_reducible exact H2_) | with_reducible exact H | (rw [hy267]; exact H) | exact H
               have Ny267 := Aside0.mk hy267
               clear hy267
               have H' := Aside0.mk H
               clear H
               obtain ⟨Ao68, co68, eo68⟩ := Kd.R_slice HO_9.out
               subst eo68
               have p264 : 0 ≤ (x12_2 : Int) := of_decide_eq_true (by assumption)
               have q264 : x12_2 < (t244.length : Int) := of_decide_eq_true (by assumption)
               obtain ⟨ad264, e264, hx264_0⟩ := Kd.at_bool (Kd.R_reads' HO_9.out).2.2 x12_2 p264 q264
               (try rw [← Nbq57.out] at hx264_0)
               cases e264
               replace p264 := eq_true p264
               replace q264 := eq_true q264
               have p67 : 0 ≤ (x12_2 : Int) := of_decide_eq_true (by assumption)
               have q67 : (x12_2 : Int) < ((x11_2.length : Int) : Int) := of_decide_eq_true (by assumption)
               obtain ⟨go67, co67, eo67, gb67, gl67, cl67, HG67⟩ := Kd.R_form HO_11.out (by omega)
               (first | cases eo67 | (injection eo67 with ea_ en_ ec_; (first | subst ea_ | (injection ea_ with ea_; subst ea_)); subst ec_; clear en_))
               have GB67 := Aside0.mk gb67
               have GG67 := Aside0.mk HG67
               clear gb67 gl67 HG67
               obtain ⟨hx67_0, hf67_0⟩ := Kd.R_celln false HO_11.out (x12_2 : Int) p67 q67
               replace p67 := eq_true p67
               replace q67 := eq_true q67
               have HP69 := Kd.R_putg HO_11.out (x12_2 : Int) false
               go_wp2_with (first | ((with_reducible refine gate_store (t := 4) (p := 53) rfl ?_); refine store_event (t := 4) (p := 53) (v := ?vo_w70) (w1 := (wr.setCell ⟨go67, (x12_2 : Int).toNat, none⟩ (.bool false))) ?hg ?ho ?hn ?hr ?_; (case ho => rfl); (case hg => rfl); (case hn => rfl); (case hr => first | (go_simp; done) | (go_simp; rfl)); intro w70 hw; have hg : wr.grownBy w70 (some go67) := (by rw [hw]; exact HP69.2); have hp_ : Kd.R Kd.bool 4 w70 w.heap.size (fun k_ => some k_ ≠ (.slice (some ad264) t244.length co68 : Value).ownBlock ∧ some k_ ≠ (v248 : Value).ownBlock) (.slice (some ⟨go67, 0, none⟩) x11_2.length co67) y267 := (by rw [hw, Ny267.out]; exact HP69.1); clear HP69; have n0_ := Aside0.mk (Kd.R_after (v := (.slice (some ⟨go67, 0, none⟩) x11_2.length co67)) (v1 := (.slice (some ⟨go67, 0, none⟩) x11_2.length co67)) (ok := (fun k_ => some k_ ≠ (v248 : Value).ownBlock)) (by (with_reducible repeat (first | apply Kd.R_alloc | apply Kd.R_drewN | apply Kd.R_drew)); exact HO_9.out) hg (.inl rfl)); have n1_ := Aside0.mk (Kd.R_after (v := (.slice (some ⟨go67, 0, none⟩) x11_2.length co67)) (v1 := (.slice (some ⟨go67, 0, none⟩) x11_2.length co67)) (ok := (fun k_ => some k_ ≠ (.slice (some ad264) t244.length co68 : Value).ownBlock)) (by (with_reducible repeat (first | apply Kd.R_alloc | apply Kd.R_drewN | apply Kd.R_drew)); exact HO_10.out) hg (.inl rfl)); have n2_ := Aside0.mk (hp_); have n3_ := Aside0.mk ((by rw [hw]; exact below_set (HB.out) GB67.out : Below w.heap.size w w70)); clear HO_9; clear HO_10; clear HO_11; clear HB; have HO_9 := n0_; have HO_10 := n1_; have HO_11 := n2_; have HB := n3_; clear n0_ n1_ n2_ n3_; clear hg hw hp_))
               go_roundg k2
               case measure => have := HJ3.out; have := HK2.out; omega
               case rel => exact ⟨(y267), (wrap64 (x12_2 + 1)), (by first | rfl | (simp; done) | (simp [*]; done)), (by first | exact H' | (simp only [hji11]; exact H')), ⟨by have := HJ3.out; have := HK2.out; omega⟩, ⟨by (with_reducible repeat (first | apply Kd.R_alloc | apply Kd.R_drewN | apply Kd.R_drew)); exact HO_9.out⟩, ⟨by (with_reducible repeat (first | apply Kd.R_alloc | apply Kd.R_drewN | apply Kd.R_drew)); exact HO_10.out⟩, ⟨by (with_reducible repeat (first | apply Kd.R_alloc | apply Kd.R_drewN | apply Kd.R_drew)); exact HO_11.out⟩, ⟨by repeat (first | (with_reducible first | exact HB.out | apply below_alloc | apply pw_below_drewN | apply below_drew1) | exact HB.out)⟩⟩
              ·rw [if_neg c66] at H
               exact absurd H (by simp)
            ·rw [if_neg c56] at H
             exact absurd H (by simp)
           ·rw [if_neg c55] at H
            exact absurd H (by simp)
        ·rw [if_neg c20] at H
         have c20b0 : decide (x12_2 < ji11) = false := decide_eq_false c20
         clear c20
         replace H := Option.bind_eq_some_iff.mp H
         obtain ⟨t253, A710, H⟩ := H
         replace H : (some (t253, 0)) = some (r1, r2) := H
         have A71 := Aside0.mk A710
         clear A710
         simp only [Option.some.injEq, Prod.mk.injEq] at H
         obtain ⟨rfl, rfl⟩ := H
         obtain ⟨Ao72, co72, eo72⟩ := Kd.R_slice HO_11.out
         subst eo72
         go_wp2_with (first | ((with_reducible refine gate_callee (f := 44) rfl ?_); refine goesL_ (some 85) rfl rfl Try.func44 (by kernel_rfl) rfl #[.slice Ao72 x11_2.length co72] rfl (by (try simp only [List.map_toArray, List.map_cons, List.map_nil]); first | done | rfl) ?_; (with_reducible refine (peristyleref14_Spans.calls k2 _ _ x11_2 t253 _ ?side1 ?side2 A71.out).mono ?_); (case side1 => repeat (first | exact (Kd.R_reads' HO_11.out).2.2 | (with_reducible refine Kd.C_alloc ?_ _) | (with_reducible refine Kd.C_drewN ?_ _) | (with_reducible refine Kd.C_drew ?_))); (case side2 => exact (Kd.R_reads' HO_11.out).2.1); rintro e w73 ⟨v254, rfl, ho0, hb⟩; refine ⟨_, rfl, ?_⟩; have n0_ := Aside0.mk (Kd.R_below (by (with_reducible repeat (first | apply Kd.R_alloc | apply Kd.R_drewN | apply Kd.R_drew)); exact HO_9.out) hb); have n1_ := Aside0.mk (Kd.R_below (by (with_reducible repeat (first | apply Kd.R_alloc | apply Kd.R_drewN | apply Kd.R_drew)); exact HO_10.out) hb); have n2_ := Aside0.mk (Kd.R_below (by (with_reducible repeat (first | apply Kd.R_alloc | apply Kd.R_drewN | apply Kd.R_drew)); exact HO_11.out) hb); have n3_ := Aside0.mk (Kd.R_lower ho0 (below_size (by repeat (first | exact HB.out | apply below_alloc | apply pw_below_drewN | apply below_drew1)))); have n4_ := Aside0.mk (below_step (by repeat (first | exact HB.out | apply below_alloc | apply pw_below_drewN | apply below_drew1)) hb); clear HO_9; clear HO_10; clear HO_11; clear HB; have HO_9 := n0_; have HO_10 := n1_; have HO_11 := n2_; have HO255 := n3_; have HB := n4_; clear n0_ n1_ n2_ n3_ n4_; (try clear hb); (try clear hb2); (try clear hk); (try clear hi); (try clear ho0)))
         go_ret2
         exact ⟨_, by first | rfl | (simp [errW_none, errW_some] <;> rfl) | (simp only [← hji11]; first | rfl | (simp [errW_none, errW_some] <;> rfl)) | (simp [*, errW_none, errW_some] <;> rfl), by (with_reducible repeat (first | apply Kd.R_alloc | apply Kd.R_drewN | apply Kd.R_drew)); exact HO255.out, by repeat (first | (with_reducible first | exact HB.out | apply below_alloc | apply pw_below_drewN | apply below_drew1) | exact HB.out)⟩
     ·rw [if_neg c15] at H
      exact absurd H (by simp)
    ·rw [if_neg c14] at H
     exact absurd H (by simp)

/-! ### peristyleref15_Not: function 12 -/
def peristyleref15_Not.j0 : Nat → Int → List (S48) → Bool → Option (List Int × Int)
 | 0, _, _, _ => none
 | k + 1, x1, x6, x25 => if x25 = true then (some (([] : List Int), 1)) else (if x1 > 0 then ((peristyleref14_Both.f k 2 (([(⟨0, x1⟩ : S48)] : List (S48))) x6).bind fun bt275 => ((peristyleref15_Of.f k bt275.1).bind fun bt279 => (some (bt279.1, bt279.2)))) else ((peristyleref14_Both.f k 2 ([] : List (S48)) x6).bind fun bt283 => ((peristyleref15_Of.f k bt283.1).bind fun bt287 => (some (bt287.1, bt287.2)))))
def peristyleref15_Not.f (k : Nat) (l0 : List Int) (a1 : Int) : Option (List Int × Int) := (peristyleref15_Spans.f k l0).bind fun bt268 => (if bt268.2 = 0 then (if a1 < 0 then (peristyleref15_Not.j0 k a1 bt268.1 true) else (peristyleref15_Not.j0 k a1 bt268.1 (decide (a1 > 65536)))) else (peristyleref15_Not.j0 k a1 bt268.1 true))
theorem peristyleref15_Not.j0_succ (k : Nat) (x1 : Int) (x6 : List (S48)) (x25 : Bool) : peristyleref15_Not.j0 (k + 1) x1 x6 x25 = (if x25 = true then (some (([] : List Int), 1)) else (if x1 > 0 then ((peristyleref14_Both.f k 2 (([(⟨0, x1⟩ : S48)] : List (S48))) x6).bind fun bt275 => ((peristyleref15_Of.f k bt275.1).bind fun bt279 => (some (bt279.1, bt279.2)))) else ((peristyleref14_Both.f k 2 ([] : List (S48)) x6).bind fun bt283 => ((peristyleref15_Of.f k bt283.1).bind fun bt287 => (some (bt287.1, bt287.2)))))) := by
 simp only [peristyleref15_Not.j0]
theorem peristyleref15_Not.mono_l : ∀ k, (∀ y0 y1 y2, LeO (peristyleref15_Not.j0 k y0 y1 y2) (peristyleref15_Not.j0 (k + 1) y0 y1 y2))
 | 0 => fun _ _ _ r h => by simp [peristyleref15_Not.j0] at h
 | k + 1 => by
  have ih0 := peristyleref15_Not.mono_l k
  ·intro y0 y1 y2
   unfold peristyleref15_Not.j0
   repeat' first
   | (with_reducible exact ih0 _ _ _)
   | (with_reducible exact peristyleref14_Both.mono _ _ _ _)
   | (with_reducible exact peristyleref15_Of.mono _ _)
   | (with_reducible exact peristyleref15_Spans.mono _ _)
   | (with_reducible exact LeO.refl _)
   | (with_reducible exact LeO.none _)
   | (with_reducible refine LeO.ite ?_ ?_)
   | (with_reducible refine LeO.bind ?_ (fun _ => ?_))
   | exact ih0 _ _ _
   | exact peristyleref14_Both.mono _ _ _ _
   | exact peristyleref15_Of.mono _ _
   | exact peristyleref15_Spans.mono _ _
   | exact LeO.none _
   | refine LeO.ite ?_ ?_
   | refine LeO.bind ?_ (fun _ => ?_)
theorem peristyleref15_Not.mono : ∀ a0 a1 k, LeO (peristyleref15_Not.f k a0 a1) (peristyleref15_Not.f (k + 1) a0 a1) := by
 intro a0 a1 k
 have ih0 := peristyleref15_Not.mono_l k
 unfold peristyleref15_Not.f
 repeat' first
   | (with_reducible exact ih0 _ _ _)
   | (with_reducible exact peristyleref14_Both.mono _ _ _ _)
   | (with_reducible exact peristyleref15_Of.mono _ _)
   | (with_reducible exact peristyleref15_Spans.mono _ _)
   | (with_reducible exact LeO.refl _)
   | (with_reducible exact LeO.none _)
   | (with_reducible refine LeO.ite ?_ ?_)
   | (with_reducible refine LeO.bind ?_ (fun _ => ?_))
   | exact ih0 _ _ _
   | exact peristyleref14_Both.mono _ _ _ _
   | exact peristyleref15_Of.mono _ _
   | exact peristyleref15_Spans.mono _ _
   | exact LeO.none _
   | refine LeO.ite ?_ ?_
   | refine LeO.bind ?_ (fun _ => ?_)
set_option maxHeartbeats 8000000 in
set_option maxRecDepth 100000 in
theorem peristyleref15_Not.calls (k : Nat) (A0 : Option Addr) (c0 : Nat) (l0 : List Int) (a1 : Int) (r1 : List Int) (r2 : Int) (w : World) (hr0 : Kd.C (Kd.int .i64) w A0 l0.length l0) (hc0 : l0.length ≤ c0) (h : peristyleref15_Not.f k l0 a1 = some (r1, r2)) :
  Calls Try.prog 12 #[.slice A0 l0.length c0, .int .i64 a1] w fun e w' => ∃ v0_ : Value, e = .returned (.tuple #[v0_, .int .i64 r2]) ∧ Kd.R (Kd.int .i64) 3 w' w.heap.size (fun _ => True) v0_ r1 ∧ Below w.heap.size w w' := by
 have hu48 := Try.underlying48
 have HR0 := Aside0.mk hr0
 have HC0 := Aside0.mk hc0
 clear hr0 hc0
 have HB := Aside0.mk (Below.refl w.heap.size w)
 have H : ((peristyleref15_Spans.f k l0).bind fun bt268 => (if bt268.2 = 0 then (if a1 < 0 then (peristyleref15_Not.j0 k a1 bt268.1 true) else (peristyleref15_Not.j0 k a1 bt268.1 (decide (a1 > 65536)))) else (peristyleref15_Not.j0 k a1 bt268.1 true))) = some (r1, r2) := h
 clear h
 replace H := Option.bind_eq_some_iff.mp H
 obtain ⟨⟨t268, t269⟩, A30, H⟩ := H
 replace H : (if t269 = 0 then (if a1 < 0 then (peristyleref15_Not.j0 k a1 t268 true) else (peristyleref15_Not.j0 k a1 t268 (decide (a1 > 65536)))) else (peristyleref15_Not.j0 k a1 t268 true)) = some (r1, r2) := H
 have A3 := Aside0.mk A30
 clear A30
 have HC4 := Aside0.mk H
 clear H
 go_enter Try.func12, Try.ntmps12
 go_upto_region 2 with (first | ((with_reducible refine gate_callee (f := 22) rfl ?_); refine goesL_ (some 13) rfl rfl Try.func22 (by kernel_rfl) rfl #[.slice A0 l0.length c0] rfl (by (try simp only [List.map_toArray, List.map_cons, List.map_nil]); first | done | rfl) ?_; (with_reducible refine (peristyleref15_Spans.calls k _ _ l0 t268 t269 _ ?side1 ?side2 A3.out).mono ?_); (case side1 => repeat (first | exact HR0.out | (with_reducible refine Kd.C_alloc ?_ _) | (with_reducible refine Kd.C_drewN ?_ _) | (with_reducible refine Kd.C_drew ?_))); (case side2 => exact HC0.out); rintro e w5 ⟨v270, rfl, ho0, hb⟩; refine ⟨_, rfl, ?_⟩; have n0_ := Aside0.mk (Kd.R_lower ho0 (below_size (by repeat (first | exact HB.out | apply below_alloc | apply pw_below_drewN | apply below_drew1)))); have n1_ := Aside0.mk (below_step (by repeat (first | exact HB.out | apply below_alloc | apply pw_below_drewN | apply below_drew1)) hb); clear HB; have HO271 := n0_; have HB := n1_; clear n0_ n1_; (try clear hb); (try clear hb2); (try clear hk); (try clear hi); (try clear ho0)))
 (try simp only [Act.put, List.setIfInBounds_toArray, List.set_cons_zero, List.set_cons_succ])
 go_cut [25] (fun v25 wc => ∃ (kq : Nat) (x25_3 : Bool), v25 = .bool x25_3 ∧ Aside0 (peristyleref15_Not.j0 kq a1 t268 x25_3 = some (r1, r2)) ∧ Aside0 (kq ≤ k) ∧ Aside0 (Kd.R k48 48 wc w.heap.size (fun _ => True) v270 t268) ∧ Aside0 (Below w.heap.size w wc))
 case first =>
  have H := HC4.out
  clear HC4
  by_cases c6 : t269 = 0
  ·rw [if_pos c6] at H
   have c6b0 : (t269 == 0) = true := beq_iff_eq.mpr c6
   have c6b1 : (t269 != 0) = false := bne_eq_false_iff_eq.mpr c6
   clear c6
   (first | rw [c6b0] | (simp only [i64_w, i32_w]; rw [c6b0]) | skip)
   by_cases c7 : a1 < 0
   ·rw [if_pos c7] at H
    have c7b0 : decide (a1 < 0) = true := decide_eq_true c7
    clear c7
    have H' := Aside0.mk H
    clear H
    go_wp2
    go_meet
    case rel => exact ⟨_, (true), (by first | rfl | (simp; done) | (simp [*]; done)), H', ⟨by first | omega | exact Nat.le_refl _⟩, ⟨by (with_reducible repeat (first | apply Kd.R_alloc | apply Kd.R_drewN | apply Kd.R_drew)); exact HO271.out⟩, ⟨by repeat (first | (with_reducible first | exact HB.out | apply below_alloc | apply pw_below_drewN | apply below_drew1) | exact HB.out)⟩⟩
   ·rw [if_neg c7] at H
    have c7b0 : decide (a1 < 0) = false := decide_eq_false c7
    clear c7
    have H' := Aside0.mk H
    clear H
    go_wp2
    go_meet
    case rel => exact ⟨_, (decide (a1 > 65536)), (by first | rfl | (simp; done) | (simp [*]; done)), H', ⟨by first | omega | exact Nat.le_refl _⟩, ⟨by (with_reducible repeat (first | apply Kd.R_alloc | apply Kd.R_drewN | apply Kd.R_drew)); exact HO271.out⟩, ⟨by repeat (first | (with_reducible first | exact HB.out | apply below_alloc | apply pw_below_drewN | apply below_drew1) | exact HB.out)⟩⟩
  ·rw [if_neg c6] at H
   have c6b0 : (t269 == 0) = false := beq_eq_false_iff_ne.mpr c6
   have c6b1 : (t269 != 0) = true := bne_iff_ne.mpr c6
   (first | rw [c6b0] | (simp only [i64_w, i32_w]; rw [c6b0]) | skip)
   have H' := Aside0.mk H
   clear H
   go_wp2
   go_meet
   case rel => exact ⟨_, (true), (by first | rfl | (simp; done) | (simp [*]; done)), H', ⟨by first | omega | exact Nat.le_refl _⟩, ⟨by (with_reducible repeat (first | apply Kd.R_alloc | apply Kd.R_drewN | apply Kd.R_drew)); exact HO271.out⟩, ⟨by repeat (first | (with_reducible first | exact HB.out | apply below_alloc | apply pw_below_drewN | apply below_drew1) | exact HB.out)⟩⟩
 case rest =>
  clear HC4
  try clear c1
  try clear c2
  try clear p2
  try clear c6
  try clear c6b0
  try clear c6b1
  try clear c7
  try clear c7b0
  obtain ⟨kq, x25_3, rfl, HA, HJ3, HO_6, HB⟩ := hcut
  cases kq with
  | zero => exact absurd HA.out (by simp [peristyleref15_Not.j0])
  | succ kj3 =>
   have H := HA.out
   clear HA
   simp only [peristyleref15_Not.j0] at H
   by_cases c8 : x25_3 = true
   ·subst c8
    have H1 : (some (([] : List Int), 1)) = some (r1, r2) := by rw [if_pos rfl] at H; exact H
    clear H
    have H := H1
    clear H1
    simp only [Option.some.injEq, Prod.mk.injEq] at H
    obtain ⟨rfl, rfl⟩ := H
    go_wp2
    go_ret2
    exact ⟨_, by first | rfl | (simp [errW_none, errW_some] <;> rfl) | (simp [*, errW_none, errW_some] <;> rfl), by first | exact Kd.R_nil _ _ _ _ _ | exact Kd.N_nil _ _ _ _ _ | exact Kd.V_nil _ _ _ _ _ | exact Kd.Q_nil _ _ _ _ _ | exact Kd.S_nil _ _ _ _ _, by repeat (first | (with_reducible first | exact HB.out | apply below_alloc | apply pw_below_drewN | apply below_drew1) | exact HB.out)⟩
   ·replace c8 := Bool.eq_false_iff.mpr c8
    subst c8
    have H1 : (if a1 > 0 then ((peristyleref14_Both.f kj3 2 (([(⟨0, a1⟩ : S48)] : List (S48))) t268).bind fun bt275 => ((peristyleref15_Of.f kj3 bt275.1).bind fun bt279 => (some (bt279.1, bt279.2)))) else ((peristyleref14_Both.f kj3 2 ([] : List (S48)) t268).bind fun bt283 => ((peristyleref15_Of.f kj3 bt283.1).bind fun bt287 => (some (bt287.1, bt287.2))))) = some (r1, r2) := by rw [if_neg (show ¬ (false = true) by decide)] at H; exact H
    clear H
    have H := H1
    clear H1
    by_cases c9 : a1 > 0
    ·rw [if_pos c9] at H
     have c9b0 : decide (0 < a1) = true := decide_eq_true c9
     clear c9
     obtain ⟨y272, hy272⟩ : ∃ y_ : List (S48), y_ = (([(⟨0, a1⟩ : S48)] : List (S48))) := ⟨_, rfl⟩
     replace H : ((peristyleref14_Both.f kj3 2 y272 t268).bind fun bt275 => ((peristyleref15_Of.f kj3 bt275.1).bind fun bt279 => (some (bt279.1, bt279.2)))) = some (r1, r2) := by first | (rw [hy272]; with_reducible exact H) | (have H2_ := (Option.bind_some _ _).symm.trans H; rw [hy272]; with_reducible exact H2_) | (have H2_ := (Option.bind_some _ _).symm.trans H; with_reducible exact H2_) | with_reducible exact H | (rw [hy272]; exact H) | exact H
     have Ny272 := Aside0.mk hy272
     clear hy272
     replace H := Option.bind_eq_some_iff.mp H
     obtain ⟨⟨t275, t276⟩, A100, H⟩ := H
     replace H : ((peristyleref15_Of.f kj3 t275).bind fun bt279 => (some (bt279.1, bt279.2))) = some (r1, r2) := H
     have A10 := Aside0.mk A100
     clear A100
     replace H := Option.bind_eq_some_iff.mp H
     obtain ⟨⟨t279, t280⟩, A110, H⟩ := H
     replace H : (some (t279, t280)) = some (r1, r2) := H
     have A11 := Aside0.mk A110
     clear A110
     simp only [Option.some.injEq, Prod.mk.injEq] at H
     obtain ⟨rfl, rfl⟩ := H
     go_wp2_with (first | ((with_reducible refine gate_dst (N := 30) rfl ?_); refine Kd.R_lit k48 _ 48 ?hg (N := 30) ?hd (xs := ([(⟨0, a1⟩ : S48)] : List (S48))) (inner := [.int .i64 0, .int .i64 a1]) (ok := fun _ => True) (okp := fun _ => True) ?hr ?hp (fun _ hk => hk) trivial (Below.refl _ _) (Nat.le_refl _) (by simp) ?_; (case hd => rfl); (case hg => rfl); (case hr => first | (go_simp; done) | (go_simp; rfl)); (case hp => exact (Reps.c2 (show Kd.M k48 _ _ _ (⟨0, a1⟩ : S48) [.int .i64 0, .int .i64 a1] from (k48_mkM _ _ _ (⟨0, a1⟩ : S48) )) (Reps.none _ _))); intro v273 w12 ho13 hb hg_ hnew_; clear hg_ hnew_; (first | rw [← Ny272.out] at ho13 | (simp only [Int.reduceToNat] at ho13; rw [← Ny272.out] at ho13)); have n0_ := Aside0.mk (Kd.R_elder' (by (with_reducible repeat (first | apply Kd.R_alloc | apply Kd.R_drewN | apply Kd.R_drew)); exact HO_6.out) (Kd.R_base ho13) hb); have n1_ := Aside0.mk (Kd.R_lower (Kd.R_new' ho13 (Kd.R_lt (by (with_reducible repeat (first | apply Kd.R_alloc | apply Kd.R_drewN | apply Kd.R_drew)); exact HO_6.out))) (below_size (by repeat (first | exact HB.out | apply below_alloc | apply pw_below_drewN | apply below_drew1)))); have n2_ := Aside0.mk (below_step (by repeat (first | exact HB.out | apply below_alloc | apply pw_below_drewN | apply below_drew1)) hb); clear HO_6; clear HB; have HO_6 := n0_; have HO274 := n1_; have HB := n2_; clear n0_ n1_ n2_; clear hb ho13; obtain ⟨Ao14, co14, eo14⟩ := Kd.R_slice HO274.out; subst eo14; obtain ⟨Ao15, co15, eo15⟩ := Kd.R_slice HO_6.out; subst eo15) | ((with_reducible refine gate_callee (f := 37) rfl ?_); refine goesL_ (some 34) rfl rfl Try.func37 (by kernel_rfl) rfl #[.int .i64 2, .slice Ao14 y272.length co14, .slice Ao15 t268.length co15] rfl (by (try simp only [List.map_toArray, List.map_cons, List.map_nil]); first | done | rfl) ?_; (with_reducible refine (peristyleref14_Both.calls kj3 2 _ _ y272 _ _ t268 t275 t276 _ ?side1 ?side2 ?side3 ?side4 A10.out).mono ?_); (case side1 => repeat (first | exact (Kd.R_reads' HO274.out).2.2 | (with_reducible refine Kd.C_alloc ?_ _) | (with_reducible refine Kd.C_drewN ?_ _) | (with_reducible refine Kd.C_drew ?_))); (case side2 => exact (Kd.R_reads' HO274.out).2.1); (case side3 => repeat (first | exact (Kd.R_reads' HO_6.out).2.2 | (with_reducible refine Kd.C_alloc ?_ _) | (with_reducible refine Kd.C_drewN ?_ _) | (with_reducible refine Kd.C_drew ?_))); (case side4 => exact (Kd.R_reads' HO_6.out).2.1); rintro e w16 ⟨v277, rfl, ho0, hb⟩; refine ⟨_, rfl, ?_⟩; have n0_ := Aside0.mk (Kd.R_elder' (by (with_reducible repeat (first | apply Kd.R_alloc | apply Kd.R_drewN | apply Kd.R_drew)); exact HO_6.out) (Kd.R_base ho0) hb); have n1_ := Aside0.mk (Kd.R_elder' (by (with_reducible repeat (first | apply Kd.R_alloc | apply Kd.R_drewN | apply Kd.R_drew)); exact HO274.out) (Kd.R_base ho0) hb); have n2_ := Aside0.mk (Kd.R_lower (Kd.R_new' (Kd.R_new' ho0 (Kd.R_lt (by (with_reducible repeat (first | apply Kd.R_alloc | apply Kd.R_drewN | apply Kd.R_drew)); exact HO_6.out))) (Kd.R_lt (by (with_reducible repeat (first | apply Kd.R_alloc | apply Kd.R_drewN | apply Kd.R_drew)); exact HO274.out))) (below_size (by repeat (first | exact HB.out | apply below_alloc | apply pw_below_drewN | apply below_drew1)))); have n3_ := Aside0.mk (below_step (by repeat (first | exact HB.out | apply below_alloc | apply pw_below_drewN | apply below_drew1)) hb); clear HO_6; clear HO274; clear HB; have HO_6 := n0_; have HO274 := n1_; have HO278 := n2_; have HB := n3_; clear n0_ n1_ n2_ n3_; (try clear hb); (try clear hb2); (try clear hk); (try clear hi); (try clear ho0); obtain ⟨Ao17, co17, eo17⟩ := Kd.R_slice HO278.out; subst eo17) | ((with_reducible refine gate_callee (f := 10) rfl ?_); refine goesL_ (some 38) rfl rfl Try.func10 (by kernel_rfl) rfl #[.slice Ao17 t275.length co17] rfl (by (try simp only [List.map_toArray, List.map_cons, List.map_nil]); first | done | rfl) ?_; (with_reducible refine (peristyleref15_Of.calls kj3 _ _ t275 t279 t280 _ ?side1 ?side2 A11.out).mono ?_); (case side1 => repeat (first | exact (Kd.R_reads' HO278.out).2.2 | (with_reducible refine Kd.C_alloc ?_ _) | (with_reducible refine Kd.C_drewN ?_ _) | (with_reducible refine Kd.C_drew ?_))); (case side2 => exact (Kd.R_reads' HO278.out).2.1); rintro e w18 ⟨v281, rfl, ho0, hb⟩; refine ⟨_, rfl, ?_⟩; have n0_ := Aside0.mk (Kd.R_below (by (with_reducible repeat (first | apply Kd.R_alloc | apply Kd.R_drewN | apply Kd.R_drew)); exact HO_6.out) hb); have n1_ := Aside0.mk (Kd.R_below (by (with_reducible repeat (first | apply Kd.R_alloc | apply Kd.R_drewN | apply Kd.R_drew)); exact HO274.out) hb); have n2_ := Aside0.mk (Kd.R_below (by (with_reducible repeat (first | apply Kd.R_alloc | apply Kd.R_drewN | apply Kd.R_drew)); exact HO278.out) hb); have n3_ := Aside0.mk (Kd.R_lower ho0 (below_size (by repeat (first | exact HB.out | apply below_alloc | apply pw_below_drewN | apply below_drew1)))); have n4_ := Aside0.mk (below_step (by repeat (first | exact HB.out | apply below_alloc | apply pw_below_drewN | apply below_drew1)) hb); clear HO_6; clear HO274; clear HO278; clear HB; have HO_6 := n0_; have HO274 := n1_; have HO278 := n2_; have HO282 := n3_; have HB := n4_; clear n0_ n1_ n2_ n3_ n4_; (try clear hb); (try clear hb2); (try clear hk); (try clear hi); (try clear ho0)))
     go_ret2
     exact ⟨_, by first | rfl | (simp [errW_none, errW_some] <;> rfl) | (simp [*, errW_none, errW_some] <;> rfl), by (with_reducible repeat (first | apply Kd.R_alloc | apply Kd.R_drewN | apply Kd.R_drew)); exact HO282.out, by repeat (first | (with_reducible first | exact HB.out | apply below_alloc | apply pw_below_drewN | apply below_drew1) | exact HB.out)⟩
    ·rw [if_neg c9] at H
     have c9b0 : decide (0 < a1) = false := decide_eq_false c9
     clear c9
     replace H := Option.bind_eq_some_iff.mp H
     obtain ⟨⟨t283, t284⟩, A190, H⟩ := H
     replace H : ((peristyleref15_Of.f kj3 t283).bind fun bt287 => (some (bt287.1, bt287.2))) = some (r1, r2) := H
     have A19 := Aside0.mk A190
     clear A190
     replace H := Option.bind_eq_some_iff.mp H
     obtain ⟨⟨t287, t288⟩, A200, H⟩ := H
     replace H : (some (t287, t288)) = some (r1, r2) := H
     have A20 := Aside0.mk A200
     clear A200
     simp only [Option.some.injEq, Prod.mk.injEq] at H
     obtain ⟨rfl, rfl⟩ := H
     obtain ⟨Ao21, co21, eo21⟩ := Kd.R_slice HO_6.out
     subst eo21
     go_wp2_with (first | ((with_reducible refine gate_callee (f := 37) rfl ?_); refine goesL_ (some 34) rfl rfl Try.func37 (by kernel_rfl) rfl #[.int .i64 2, .slice none 0 0, .slice Ao21 t268.length co21] rfl (by (try simp only [List.map_toArray, List.map_cons, List.map_nil]); first | done | rfl) ?_; (refine (peristyleref14_Both.calls kj3 2 _ _ ([] : List (S48)) _ _ t268 t283 t284 _ ?side1 ?side2 ?side3 ?side4 A19.out).mono ?_); (case side1 => exact Kd.C_nil _ _); (case side2 => exact Nat.le_refl _); (case side3 => repeat (first | exact (Kd.R_reads' HO_6.out).2.2 | (with_reducible refine Kd.C_alloc ?_ _) | (with_reducible refine Kd.C_drewN ?_ _) | (with_reducible refine Kd.C_drew ?_))); (case side4 => exact (Kd.R_reads' HO_6.out).2.1); rintro e w22 ⟨v285, rfl, ho0, hb⟩; refine ⟨_, rfl, ?_⟩; have n0_ := Aside0.mk (Kd.R_elder' (by (with_reducible repeat (first | apply Kd.R_alloc | apply Kd.R_drewN | apply Kd.R_drew)); exact HO_6.out) (Kd.R_base ho0) hb); have n1_ := Aside0.mk (Kd.R_lower (Kd.R_new' ho0 (Kd.R_lt (by (with_reducible repeat (first | apply Kd.R_alloc | apply Kd.R_drewN | apply Kd.R_drew)); exact HO_6.out))) (below_size (by repeat (first | exact HB.out | apply below_alloc | apply pw_below_drewN | apply below_drew1)))); have n2_ := Aside0.mk (below_step (by repeat (first | exact HB.out | apply below_alloc | apply pw_below_drewN | apply below_drew1)) hb); clear HO_6; clear HB; have HO_6 := n0_; have HO286 := n1_; have HB := n2_; clear n0_ n1_ n2_; (try clear hb); (try clear hb2); (try clear hk); (try clear hi); (try clear ho0); obtain ⟨Ao23, co23, eo23⟩ := Kd.R_slice HO286.out; subst eo23) | ((with_reducible refine gate_callee (f := 10) rfl ?_); refine goesL_ (some 38) rfl rfl Try.func10 (by kernel_rfl) rfl #[.slice Ao23 t283.length co23] rfl (by (try simp only [List.map_toArray, List.map_cons, List.map_nil]); first | done | rfl) ?_; (with_reducible refine (peristyleref15_Of.calls kj3 _ _ t283 t287 t288 _ ?side1 ?side2 A20.out).mono ?_); (case side1 => repeat (first | exact (Kd.R_reads' HO286.out).2.2 | (with_reducible refine Kd.C_alloc ?_ _) | (with_reducible refine Kd.C_drewN ?_ _) | (with_reducible refine Kd.C_drew ?_))); (case side2 => exact (Kd.R_reads' HO286.out).2.1); rintro e w24 ⟨v289, rfl, ho0, hb⟩; refine ⟨_, rfl, ?_⟩; have n0_ := Aside0.mk (Kd.R_below (by (with_reducible repeat (first | apply Kd.R_alloc | apply Kd.R_drewN | apply Kd.R_drew)); exact HO_6.out) hb); have n1_ := Aside0.mk (Kd.R_below (by (with_reducible repeat (first | apply Kd.R_alloc | apply Kd.R_drewN | apply Kd.R_drew)); exact HO286.out) hb); have n2_ := Aside0.mk (Kd.R_lower ho0 (below_size (by repeat (first | exact HB.out | apply below_alloc | apply pw_below_drewN | apply below_drew1)))); have n3_ := Aside0.mk (below_step (by repeat (first | exact HB.out | apply below_alloc | apply pw_below_drewN | apply below_drew1)) hb); clear HO_6; clear HO286; clear HB; have HO_6 := n0_; have HO286 := n1_; have HO290 := n2_; have HB := n3_; clear n0_ n1_ n2_ n3_; (try clear hb); (try clear hb2); (try clear hk); (try clear hi); (try clear ho0)))
     go_ret2
     exact ⟨_, by first | rfl | (simp [errW_none, errW_some] <;> rfl) | (simp [*, errW_none, errW_some] <;> rfl), by (with_reducible repeat (first | apply Kd.R_alloc | apply Kd.R_drewN | apply Kd.R_drew)); exact HO290.out, by repeat (first | (with_reducible first | exact HB.out | apply below_alloc | apply pw_below_drewN | apply below_drew1) | exact HB.out)⟩

end Go.Proofs.Ytgielanobeclnaa.Print
