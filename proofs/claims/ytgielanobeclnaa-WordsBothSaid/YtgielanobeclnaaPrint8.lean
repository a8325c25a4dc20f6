-- Written by the session's own xprint (over the kit's print program): functions, contracts.
import Derived.Test.YtgielanobeclnaaPrint0
import Derived.Test.YtgielanobeclnaaPrint6
import Derived.Test.YtgielanobeclnaaPrint7
namespace Go.Proofs.Ytgielanobeclnaa.Print
open Go.RowKit Go.Proofs.YtgielanobeclnaaW.PrintWords Go.Proofs.YtgielanobeclnaaW.PrintLast Go.Proofs.YtgielanobeclnaaW.PrintMore
attribute [local go_sem] max2_int min2_int max_two min_two max_three min_three max_four min_four   -- for this text's walks alone
set_option linter.unusedVariables false
set_option linter.unusedSimpArgs false

/-! ### peristyleref14_Both: function 37 -/
mutual
def peristyleref14_Both.j0 : Nat → Int → List (S48) → List (S48) → Bool → Option ((List (S48)) × Int)
 | 0, _, _, _, _ => none
 | k + 1, x0, x1, x2, x20 => if x20 = true then (some (([] : List (S48)), 1)) else ((peristyleref14_Top.f x1).bind fun t263 => ((peristyleref14_Top.f x2).bind fun t264 => ((peristyleref14_Set.f k x1 (mx t263 t264)).bind fun t265 => ((peristyleref14_Set.f k x2 (mx t263 t264)).bind fun t268 => (if 0 ≤ (mx t263 t264) then (if (mx t263 t264 : Int).toNat ≤ 281474976710656 then (peristyleref14_Both.l0 k x0 (mx t263 t264) t265 t268 (List.replicate (mx t263 t264 : Int).toNat false) 0) else (none)) else (none))))))
def peristyleref14_Both.l0 : Nat → Int → Int → List Bool → List Bool → List Bool → Int → Option ((List (S48)) × Int)
 | 0, _, _, _, _, _, _ => none
 | k + 1, x0, x8, x9, x10, x11, x12 => if x12 < x8 then (if x0 = 0 then (if 0 ≤ x12 then (if x12 < (x9.length : Int) then (if rdOf false x9 x12 = true then (if x12 < (x10.length : Int) then (if x12 < (x11.length : Int) then (peristyleref14_Both.l0 k x0 x8 x9 x10 (x11.set (x12 : Int).toNat (rdOf false x10 x12)) (wrap64 (x12 + 1))) else (none)) else (none)) else (if x12 < (x11.length : Int) then (peristyleref14_Both.l0 k x0 x8 x9 x10 (x11.set (x12 : Int).toNat false) (wrap64 (x12 + 1))) else (none))) else (none)) else (none)) else (if x0 = 1 then (if 0 ≤ x12 then (if x12 < (x9.length : Int) then (if rdOf false x9 x12 = true then (if x12 < (x11.length : Int) then (peristyleref14_Both.l0 k x0 x8 x9 x10 (x11.set (x12 : Int).toNat true) (wrap64 (x12 + 1))) else (none)) else (if x12 < (x10.length : Int) then (if x12 < (x11.length : Int) then (peristyleref14_Both.l0 k x0 x8 x9 x10 (x11.set (x12 : Int).toNat (rdOf false x10 x12)) (wrap64 (x12 + 1))) else (none)) else (none))) else (none)) else (none)) else (if 0 ≤ x12 then (if x12 < (x9.length : Int) then (if rdOf false x9 x12 = true then (if x12 < (x10.length : Int) then (if x12 < (x11.length : Int) then (peristyleref14_Both.l0 k x0 x8 x9 x10 (x11.set (x12 : Int).toNat (!(rdOf false x10 x12))) (wrap64 (x12 + 1))) else (none)) else (none)) else (if x12 < (x11.length : Int) then (peristyleref14_Both.l0 k x0 x8 x9 x10 (x11.set (x12 : Int).toNat false) (wrap64 (x12 + 1))) else (none))) else (none)) else (none)))) else ((peristyleref14_Spans.f k x11).bind fun t274 => (some (t274, 0)))
end
def peristyleref14_Both.f (k : Nat) (a0 : Int) (l1 : List (S48)) (l2 : List (S48)) : Option ((List (S48)) × Int) := (peristyleref14_May.f k l1).bind fun t261 => (if t261 = true then ((peristyleref14_May.f k l2).bind fun t262 => (peristyleref14_Both.j0 k a0 l1 l2 (!t262))) else (peristyleref14_Both.j0 k a0 l1 l2 true))
theorem peristyleref14_Both.j0_succ (k : Nat) (x0 : Int) (x1 : List (S48)) (x2 : List (S48)) (x20 : Bool) : peristyleref14_Both.j0 (k + 1) x0 x1 x2 x20 = (if x20 = true then (some (([] : List (S48)), 1)) else ((peristyleref14_Top.f x1).bind fun t263 => ((peristyleref14_Top.f x2).bind fun t264 => ((peristyleref14_Set.f k x1 (mx t263 t264)).bind fun t265 => ((peristyleref14_Set.f k x2 (mx t263 t264)).bind fun t268 => (if 0 ≤ (mx t263 t264) then (if (mx t263 t264 : Int).toNat ≤ 281474976710656 then (peristyleref14_Both.l0 k x0 (mx t263 t264) t265 t268 (List.replicate (mx t263 t264 : Int).toNat false) 0) else (none)) else (none))))))) := by
 simp only [peristyleref14_Both.j0]
theorem peristyleref14_Both.l0_succ (k : Nat) (x0 : Int) (x8 : Int) (x9 : List Bool) (x10 : List Bool) (x11 : List Bool) (x12 : Int) : peristyleref14_Both.l0 (k + 1) x0 x8 x9 x10 x11 x12 = (if x12 < x8 then (if x0 = 0 then (if 0 ≤ x12 then (if x12 < (x9.length : Int) then (if rdOf false x9 x12 = true then (if x12 < (x10.length : Int) then (if x12 < (x11.length : Int) then (peristyleref14_Both.l0 k x0 x8 x9 x10 (x11.set (x12 : Int).toNat (rdOf false x10 x12)) (wrap64 (x12 + 1))) else (none)) else (none)) else (if x12 < (x11.length : Int) then (peristyleref14_Both.l0 k x0 x8 x9 x10 (x11.set (x12 : Int).toNat false) (wrap64 (x12 + 1))) else (none))) else (none)) else (none)) else (if x0 = 1 then (if 0 ≤ x12 then (if x12 < (x9.length : Int) then (if rdOf false x9 x12 = true then (if x12 < (x11.length : Int) then (peristyleref14_Both.l0 k x0 x8 x9 x10 (x11.set (x12 : Int).toNat true) (wrap64 (x12 + 1))) else (none)) else (if x12 < (x10.length : Int) then (if x12 < (x11.length : Int) then (peristyleref14_Both.l0 k x0 x8 x9 x10 (x11.set (x12 : Int).toNat (rdOf false x10 x12)) (wrap64 (x12 + 1))) else (none)) else (none))) else (none)) else (none)) else (if 0 ≤ x12 then (if x12 < (x9.length : Int) then (if rdOf false x9 x12 = true then (if x12 < (x10.length : Int) then (if x12 < (x11.length : Int) then (peristyleref14_Both.l0 k x0 x8 x9 x10 (x11.set (x12 : Int).toNat (!(rdOf false x10 x12))) (wrap64 (x12 + 1))) else (none)) else (none)) else (if x12 < (x11.length : Int) then (peristyleref14_Both.l0 k x0 x8 x9 x10 (x11.set (x12 : Int).toNat false) (wrap64 (x12 + 1))) else (none))) else (none)) else (none)))) else ((peristyleref14_Spans.f k x11).bind fun t274 => (some (t274, 0)))) := by
 simp only [peristyleref14_Both.l0]
theorem peristyleref14_Both.mono_l : ∀ k, (∀ y0 y1 y2 y3, LeO (peristyleref14_Both.j0 k y0 y1 y2 y3) (peristyleref14_Both.j0 (k + 1) y0 y1 y2 y3)) ∧ (∀ y0 y1 y2 y3 y4 y5, LeO (peristyleref14_Both.l0 k y0 y1 y2 y3 y4 y5) (peristyleref14_Both.l0 (k + 1) y0 y1 y2 y3 y4 y5))
 | 0 => ⟨fun _ _ _ _ r h => by simp [peristyleref14_Both.j0] at h, fun _ _ _ _ _ _ r h => by simp [peristyleref14_Both.l0] at h⟩
 | k + 1 => by
  obtain ⟨ih0, ih1⟩ := peristyleref14_Both.mono_l k
  refine ⟨?_, ?_⟩
  ·intro y0 y1 y2 y3
   unfold peristyleref14_Both.j0
   repeat' first
   | (with_reducible exact ih0 _ _ _ _)
   | (with_reducible exact ih1 _ _ _ _ _ _)
   | (with_reducible exact peristyleref14_May.mono _ _)
   | (with_reducible exact peristyleref14_Set.mono _ _ _)
   | (with_reducible exact peristyleref14_Spans.mono _ _)
   | (with_reducible exact LeO.refl _)
   | (with_reducible exact LeO.none _)
   | (with_reducible refine LeO.ite ?_ ?_)
   | (with_reducible refine LeO.bind ?_ (fun _ => ?_))
   | exact ih0 _ _ _ _
   | exact ih1 _ _ _ _ _ _
   | exact peristyleref14_May.mono _ _
   | exact peristyleref14_Set.mono _ _ _
   | exact peristyleref14_Spans.mono _ _
   | exact LeO.none _
   | refine LeO.ite ?_ ?_
   | refine LeO.bind ?_ (fun _ => ?_)
  ·intro y0 y1 y2 y3 y4 y5
   unfold peristyleref14_Both.l0
   repeat' first
   | (with_reducible exact ih0 _ _ _ _)
   | (with_reducible exact ih1 _ _ _ _ _ _)
   | (with_reducible exact peristyleref14_May.mono _ _)
   | (with_reducible exact peristyleref14_Set.mono _ _ _)
   | (with_reducible exact peristyleref14_Spans.mono _ _)
   | (with_reducible exact LeO.refl _)
   | (with_reducible exact LeO.none _)
   | (with_reducible refine LeO.ite ?_ ?_)
   | (with_reducible refine LeO.bind ?_ (fun _ => ?_))
   | exact ih0 _ _ _ _
   | exact ih1 _ _ _ _ _ _
   | exact peristyleref14_May.mono _ _
   | exact peristyleref14_Set.mono _ _ _
   | exact peristyleref14_Spans.mono _ _
   | exact LeO.none _
   | refine LeO.ite ?_ ?_
   | refine LeO.bind ?_ (fun _ => ?_)
theorem peristyleref14_Both.mono : ∀ a0 a1 a2 k, LeO (peristyleref14_Both.f k a0 a1 a2) (peristyleref14_Both.f (k + 1) a0 a1 a2) := by
 intro a0 a1 a2 k
 obtain ⟨ih0, ih1⟩ := peristyleref14_Both.mono_l k
 unfold peristyleref14_Both.f
 repeat' first
   | (with_reducible exact ih0 _ _ _ _)
   | (with_reducible exact ih1 _ _ _ _ _ _)
   | (with_reducible exact peristyleref14_May.mono _ _)
   | (with_reducible exact peristyleref14_Set.mono _ _ _)
   | (with_reducible exact peristyleref14_Spans.mono _ _)
   | (with_reducible exact LeO.refl _)
   | (with_reducible exact LeO.none _)
   | (with_reducible refine LeO.ite ?_ ?_)
   | (with_reducible refine LeO.bind ?_ (fun _ => ?_))
   | exact ih0 _ _ _ _
   | exact ih1 _ _ _ _ _ _
   | exact peristyleref14_May.mono _ _
   | exact peristyleref14_Set.mono _ _ _
   | exact peristyleref14_Spans.mono _ _
   | exact LeO.none _
   | refine LeO.ite ?_ ?_
   | refine LeO.bind ?_ (fun _ => ?_)
set_option maxHeartbeats 8000000 in
set_option maxRecDepth 100000 in
theorem peristyleref14_Both.calls (k : Nat) (a0 : Int) (A1 : Option Addr) (c1 : Nat) (l1 : List (S48)) (A2 : Option Addr) (c2 : Nat) (l2 : List (S48)) (r1 : List (S48)) (r2 : Int) (w : World) (hr1 : Kd.C k48 w A1 l1.length l1) (hc1 : l1.length ≤ c1) (hr2 : Kd.C k48 w A2 l2.length l2) (hc2 : l2.length ≤ c2) (h : peristyleref14_Both.f k a0 l1 l2 = some (r1, r2)) :
  Calls Try.prog 37 #[.int .i64 a0, .slice A1 l1.length c1, .slice A2 l2.length c2] w fun e w' => ∃ v0_ : Value, e = .returned (.tuple #[v0_, .int .i64 r2]) ∧ Kd.R k48 48 w' w.heap.size (fun _ => True) v0_ r1 ∧ Below w.heap.size w w' := by
 have HR1 := Aside0.mk hr1
 have HC1 := Aside0.mk hc1
 clear hr1 hc1
 have HR2 := Aside0.mk hr2
 have HC2 := Aside0.mk hc2
 clear hr2 hc2
 have HB := Aside0.mk (Below.refl w.heap.size w)
 have H : ((peristyleref14_May.f k l1).bind fun t261 => (if t261 = true then ((peristyleref14_May.f k l2).bind fun t262 => (peristyleref14_Both.j0 k a0 l1 l2 (!t262))) else (peristyleref14_Both.j0 k a0 l1 l2 true))) = some (r1, r2) := h
 clear h
 have HC4 := Aside0.mk H
 clear H
 go_enter Try.func37, Try.ntmps37
 go_upto_region 1 with (fail)
 go_cut [20] (fun v20 wc => ∃ (kq : Nat) (x20_3 : Bool), v20 = .bool x20_3 ∧ Aside0 (peristyleref14_Both.j0 kq a0 l1 l2 x20_3 = some (r1, r2)) ∧ Aside0 (kq ≤ k) ∧ Aside0 (Below w.heap.size w wc))
 case first =>
  have H := HC4.out
  clear HC4
  replace H := Option.bind_eq_some_iff.mp H
  obtain ⟨t261, A50, H⟩ := H
  replace H : (if t261 = true then ((peristyleref14_May.f k l2).bind fun t262 => (peristyleref14_Both.j0 k a0 l1 l2 (!t262))) else (peristyleref14_Both.j0 k a0 l1 l2 true)) = some (r1, r2) := H
  have A5 := Aside0.mk A50
  clear A50
  by_cases c6 : t261 = true
  ·subst c6
   have H1 : ((peristyleref14_May.f k l2).bind fun t262 => (peristyleref14_Both.j0 k a0 l1 l2 (!t262))) = some (r1, r2) := by rw [if_pos rfl] at H; exact H
   clear H
   have H := H1
   clear H1
   replace H := Option.bind_eq_some_iff.mp H
   obtain ⟨t262, A70, H⟩ := H
   replace H : (peristyleref14_Both.j0 k a0 l1 l2 (!t262)) = some (r1, r2) := H
   have A7 := Aside0.mk A70
   clear A70
   have H' := Aside0.mk H
   clear H
   go_wp2_with (first | ((with_reducible refine gate_callee (f := 32) rfl ?_); refine goesL_ (some 14) rfl rfl Try.func32 (by kernel_rfl) rfl #[.slice A1 l1.length c1] rfl (by (try simp only [List.map_toArray, List.map_cons, List.map_nil]); first | done | rfl) ?_; (with_reducible refine (peristyleref14_May.calls k _ _ l1 true _ ?side1 ?side2 A5.out).mono ?_); (case side1 => repeat (first | exact (Kd.C_below HR1.out HB.out) | (with_reducible refine Kd.C_alloc ?_ _) | (with_reducible refine Kd.C_drewN ?_ _) | (with_reducible refine Kd.C_drew ?_))); (case side2 => exact HC1.out); rintro e w' ⟨rfl, ⟨nd, rfl⟩⟩; refine ⟨_, rfl, ?_⟩) | (go_at_call 32; (with_reducible refine (peristyleref14_May.calls k _ _ l2 t262 _ ?side1 ?side2 A7.out).mono ?_); (case side1 => repeat (first | exact (Kd.C_below HR2.out (by repeat (first | exact HB.out | apply below_alloc | apply pw_below_drewN | apply below_drew1))) | (with_reducible refine Kd.C_alloc ?_ _) | (with_reducible refine Kd.C_drewN ?_ _) | (with_reducible refine Kd.C_drew ?_))); (case side2 => exact HC2.out); rintro e w' ⟨rfl, ⟨nd, rfl⟩⟩; (try clear A7)))
   go_meet
   case rel => exact ⟨_, (!t262), (by first | rfl | (simp; done) | (simp [*]; done)), H', ⟨by first | omega | exact Nat.le_refl _⟩, ⟨by repeat (first | (with_reducible first | exact HB.out | apply below_alloc | apply pw_below_drewN | apply below_drew1) | exact HB.out)⟩⟩
  ·replace c6 := Bool.eq_false_iff.mpr c6
   subst c6
   have H1 : (peristyleref14_Both.j0 k a0 l1 l2 true) = some (r1, r2) := by rw [if_neg (show ¬ (false = true) by decide)] at H; exact H
   clear H
   have H := H1
   clear H1
   have H' := Aside0.mk H
   clear H
   go_wp2_with (first | ((with_reducible refine gate_callee (f := 32) rfl ?_); refine goesL_ (some 14) rfl rfl Try.func32 (by kernel_rfl) rfl #[.slice A1 l1.length c1] rfl (by (try simp only [List.map_toArray, List.map_cons, List.map_nil]); first | done | rfl) ?_; (with_reducible refine (peristyleref14_May.calls k _ _ l1 false _ ?side1 ?side2 A5.out).mono ?_); (case side1 => repeat (first | exact (Kd.C_below HR1.out HB.out) | (with_reducible refine Kd.C_alloc ?_ _) | (with_reducible refine Kd.C_drewN ?_ _) | (with_reducible refine Kd.C_drew ?_))); (case side2 => exact HC1.out); rintro e w' ⟨rfl, ⟨nd, rfl⟩⟩; refine ⟨_, rfl, ?_⟩))
   go_meet
   case rel => exact ⟨_, (true), (by first | rfl | (simp; done) | (simp [*]; done)), H', ⟨by first | omega | exact Nat.le_refl _⟩, ⟨by repeat (first | (with_reducible first | exact HB.out | apply below_alloc | apply pw_below_drewN | apply below_drew1) | exact HB.out)⟩⟩
 case rest =>
  clear HC4
  try clear c1
  try clear c2
  try clear p2
  try clear c3
  try clear c6
  obtain ⟨kq, x20_3, rfl, HA, HJ3, HB⟩ := hcut
  cases kq with
  | zero => exact absurd HA.out (by simp [peristyleref14_Both.j0])
  | succ kj3 =>
   have H := HA.out
   clear HA
   simp only [peristyleref14_Both.j0] at H
   by_cases c8 : x20_3 = true
   ·subst c8
    have H1 : (some (([] : List (S48)), 1)) = some (r1, r2) := by rw [if_pos rfl] at H; exact H
    clear H
    have H := H1
    clear H1
    simp only [Option.some.injEq, Prod.mk.injEq] at H
    obtain ⟨rfl, rfl⟩ := H
    go_wp2
    go_ret2
    exact ⟨_, by first | rfl | (simp [errW_none, errW_some] <;> rfl) | (simp [*, errW_none, errW_some] <;> rfl), by first | exact Kd.R_nil _ _ _ _ _ | exact Kd.N_nil _ _ _ _ _ | exact Kd.V_nil _ _ _ _ _ | exact Kd.Q_nil _ _ _ _ _ | exact Kd.S_nil _ _ _ _ _, by repeat (first | (with_reducible first | exact HB.out | apply below_alloc | apply pw_below_drewN | apply below_drew1) | exact HB.out)⟩
   ·replace c8 := Bool.eq_false_iff.mpr c8
    subst c8
    have H1 : ((peristyleref14_Top.f l1).bind fun t263 => ((peristyleref14_Top.f l2).bind fun t264 => ((peristyleref14_Set.f kj3 l1 (mx t263 t264)).bind fun t265 => ((peristyleref14_Set.f kj3 l2 (mx t263 t264)).bind fun t268 => (if 0 ≤ (mx t263 t264) then (if (mx t263 t264 : Int).toNat ≤ 281474976710656 then (peristyleref14_Both.l0 kj3 a0 (mx t263 t264) t265 t268 (List.replicate (mx t263 t264 : Int).toNat false) 0) else (none)) else (none)))))) = some (r1, r2) := by rw [if_neg (show ¬ (false = true) by decide)] at H; exact H
    clear H
    have H := H1
    clear H1
    replace H := Option.bind_eq_some_iff.mp H
    obtain ⟨t263, A90, H⟩ := H
    replace H : ((peristyleref14_Top.f l2).bind fun t264 => ((peristyleref14_Set.f kj3 l1 (mx t263 t264)).bind fun t265 => ((peristyleref14_Set.f kj3 l2 (mx t263 t264)).bind fun t268 => (if 0 ≤ (mx t263 t264) then (if (mx t263 t264 : Int).toNat ≤ 281474976710656 then (peristyleref14_Both.l0 kj3 a0 (mx t263 t264) t265 t268 (List.replicate (mx t263 t264 : Int).toNat false) 0) else (none)) else (none))))) = some (r1, r2) := H
    have A9 := Aside0.mk A90
    clear A90
    replace H := Option.bind_eq_some_iff.mp H
    obtain ⟨t264, A100, H⟩ := H
    replace H : ((peristyleref14_Set.f kj3 l1 (mx t263 t264)).bind fun t265 => ((peristyleref14_Set.f kj3 l2 (mx t263 t264)).bind fun t268 => (if 0 ≤ (mx t263 t264) then (if (mx t263 t264 : Int).toNat ≤ 281474976710656 then (peristyleref14_Both.l0 kj3 a0 (mx t263 t264) t265 t268 (List.replicate (mx t263 t264 : Int).toNat false) 0) else (none)) else (none)))) = some (r1, r2) := H
    have A10 := Aside0.mk A100
    clear A100
    obtain ⟨ji11, hji11⟩ : ∃ j_ : Int, (mx t263 t264) = j_ := ⟨_, rfl⟩
    replace H : ((peristyleref14_Set.f kj3 l1 (ji11)).bind fun t265 => ((peristyleref14_Set.f kj3 l2 (ji11)).bind fun t268 => (if 0 ≤ (ji11) then (if (ji11 : Int).toNat ≤ 281474976710656 then (peristyleref14_Both.l0 kj3 a0 ji11 t265 t268 (List.replicate (ji11 : Int).toNat false) 0) else (none)) else (none)))) = some (r1, r2) := by first | (rw [hji11] at H; exact H) | (simp only [hji11] at H ⊢; exact H)
    (try rw [hji11] at A9)
    (try rw [hji11] at A10)
    have hji11_ : (if t263 < t264 then t264 else t263) = ji11 := hji11
    replace H := Option.bind_eq_some_iff.mp H
    obtain ⟨t265, A120, H⟩ := H
    replace H : ((peristyleref14_Set.f kj3 l2 (ji11)).bind fun t268 => (if 0 ≤ (ji11) then (if (ji11 : Int).toNat ≤ 281474976710656 then (peristyleref14_Both.l0 kj3 a0 ji11 t265 t268 (List.replicate (ji11 : Int).toNat false) 0) else (none)) else (none))) = some (r1, r2) := H
    have A12 := Aside0.mk A120
    clear A120
    replace H := Option.bind_eq_some_iff.mp H
    obtain ⟨t268, A130, H⟩ := H
    replace H : (if 0 ≤ (ji11) then (if (ji11 : Int).toNat ≤ 281474976710656 then (peristyleref14_Both.l0 kj3 a0 ji11 t265 t268 (List.replicate (ji11 : Int).toNat false) 0) else (none)) else (none)) = some (r1, r2) := H
    have A13 := Aside0.mk A130
    clear A130
    by_cases c14 : 0 ≤ (ji11)
    ·rw [if_pos c14] at H
     have c14b0 := eq_true c14
     have c14b1 : decide (0 ≤ (ji11)) = true := decide_eq_true c14
     clear c14
     by_cases c15 : (ji11 : Int).toNat ≤ 281474976710656
     ·rw [if_pos c15] at H
      have c15b0 := eq_true c15
      have c15b1 : decide ((ji11 : Int).toNat ≤ 281474976710656) = true := decide_eq_true c15
      clear c15
      obtain ⟨y271, hy271⟩ : ∃ y_ : List Bool, y_ = (List.replicate (ji11 : Int).toNat false) := ⟨_, rfl⟩
      replace H : (peristyleref14_Both.l0 kj3 a0 ji11 t265 t268 y271 0) = some (r1, r2) := by first | (rw [hy271]; with_reducible exact H) | (have H2_ := (Option.bind_some _ _).symm.trans H; rw [hy271]; with_reducible exact H2_) | (have H2_ := (Option.bind_some _ _).symm.trans H; with_reducible exact H2_) | with_reducible exact H | (rw [hy271]; exact H) | exact H
      have Ny271 := Aside0.mk hy271
      clear hy271
      have H' := Aside0.mk H
      clear H
      go_wp2_with (first | ((with_reducible refine gate_callee (f := 33) rfl ?_); refine goesL_ (some 22) rfl rfl Try.func33 (by kernel_rfl) rfl #[.slice A1 l1.length c1] rfl (by (try simp only [List.map_toArray, List.map_cons, List.map_nil]); first | done | rfl) ?_; (with_reducible refine (peristyleref14_Top.calls _ _ l1 t263 _ ?side1 ?side2 A9.out).mono ?_); (case side1 => repeat (first | exact (Kd.C_below HR1.out HB.out) | (with_reducible refine Kd.C_alloc ?_ _) | (with_reducible refine Kd.C_drewN ?_ _) | (with_reducible refine Kd.C_drew ?_))); (case side2 => exact HC1.out); rintro e w' ⟨rfl, ⟨nd, rfl⟩⟩; refine ⟨_, rfl, ?_⟩) | ((with_reducible refine gate_callee (f := 33) rfl ?_); refine goesL_ (some 24) rfl rfl Try.func33 (by kernel_rfl) rfl #[.slice A2 l2.length c2] rfl (by (try simp only [List.map_toArray, List.map_cons, List.map_nil]); first | done | rfl) ?_; (with_reducible refine (peristyleref14_Top.calls _ _ l2 t264 _ ?side1 ?side2 A10.out).mono ?_); (case side1 => repeat (first | exact (Kd.C_below HR2.out (by repeat (first | exact HB.out | apply below_alloc | apply pw_below_drewN | apply below_drew1))) | (with_reducible refine Kd.C_alloc ?_ _) | (with_reducible refine Kd.C_drewN ?_ _) | (with_reducible refine Kd.C_drew ?_))); (case side2 => exact HC2.out); rintro e w' ⟨rfl, ⟨nd, rfl⟩⟩; refine ⟨_, rfl, ?_⟩) | ((with_reducible refine gate_callee (f := 36) rfl ?_); refine goesL_ (some 28) rfl rfl Try.func36 (by kernel_rfl) rfl #[.slice A1 l1.length c1, .int .i64 ji11] rfl (by (try simp only [List.map_toArray, List.map_cons, List.map_nil]); first | done | (simp only [hji11]; rfl) | rfl | (simp only [List.length_drop, List.length_take]; rfl)) ?_; (with_reducible refine (peristyleref14_Set.calls kj3 _ _ l1 ji11 t265 _ ?side1 ?side2 A12.out).mono ?_); (case side1 => repeat (first | exact (Kd.C_below HR1.out (by repeat (first | exact HB.out | apply below_alloc | apply pw_below_drewN | apply below_drew1))) | (with_reducible refine Kd.C_alloc ?_ _) | (with_reducible refine Kd.C_drewN ?_ _) | (with_reducible refine Kd.C_drew ?_))); (case side2 => exact HC1.out); rintro e w16 ⟨v266, rfl, ho0, hb⟩; refine ⟨_, rfl, ?_⟩; have n0_ := Aside0.mk (Kd.R_lower ho0 (below_size (by repeat (first | exact HB.out | apply below_alloc | apply pw_below_drewN | apply below_drew1)))); have n1_ := Aside0.mk (below_step (by repeat (first | exact HB.out | apply below_alloc | apply pw_below_drewN | apply below_drew1)) hb); clear HB; have HO267 := n0_; have HB := n1_; clear n0_ n1_; (try clear hb); (try clear hk); (try clear ho0)) | ((with_reducible refine gate_callee (f := 36) rfl ?_); refine goesL_ (some 31) rfl rfl Try.func36 (by kernel_rfl) rfl #[.slice A2 l2.length c2, .int .i64 ji11] rfl (by (try simp only [List.map_toArray, List.map_cons, List.map_nil]); first | done | (simp only [hji11]; rfl) | rfl | (simp only [List.length_drop, List.length_take]; rfl)) ?_; (with_reducible refine (peristyleref14_Set.calls kj3 _ _ l2 ji11 t268 _ ?side1 ?side2 A13.out).mono ?_); (case side1 => repeat (first | exact (Kd.C_below HR2.out HB.out) | (with_reducible refine Kd.C_alloc ?_ _) | (with_reducible refine Kd.C_drewN ?_ _) | (with_reducible refine Kd.C_drew ?_))); (case side2 => exact HC2.out); rintro e w17 ⟨v269, rfl, ho0, hb⟩; refine ⟨_, rfl, ?_⟩; have n0_ := Aside0.mk (Kd.R_elder' (by (with_reducible repeat (first | apply Kd.R_alloc | apply Kd.R_drewN | apply Kd.R_drew)); exact HO267.out) (Kd.R_base ho0) hb); have n1_ := Aside0.mk (Kd.R_lower (Kd.R_new' ho0 (Kd.R_lt (by (with_reducible repeat (first | apply Kd.R_alloc | apply Kd.R_drewN | apply Kd.R_drew)); exact HO267.out))) (below_size (by repeat (first | exact HB.out | apply below_alloc | apply pw_below_drewN | apply below_drew1)))); have n2_ := Aside0.mk (below_step (by repeat (first | exact HB.out | apply below_alloc | apply pw_below_drewN | apply below_drew1)) hb); clear HO267; clear HB; have HO267 := n0_; have HO270 := n1_; have HB := n2_; clear n0_ n1_ n2_; (try clear hb); (try clear hk); (try clear ho0)) | ((with_reducible refine gate_dst (N := 33) rfl ?_); refine Kd.R_make Kd.bool _ 4 rfl (N := 33) rfl 51 _ _ rfl ji11 (by first | rfl | exact congrArg (Value.int .i64) hji11_ | (refine congrArg (Value.int .i64) ?_; have hq_ := hji11_; split at hq_ <;> split <;> omega)) (by first | rfl | exact congrArg (Value.int .i64) hji11_ | (refine congrArg (Value.int .i64) ?_; have hq_ := hji11_; split at hq_ <;> split <;> omega)) Try.underlying51 (.bool false) 1 info4 rfl (by decide) (by omega) false (ok := fun _ => True) (okp := fun _ => True) rfl (fun _ hk => hk) trivial (of_decide_eq_true (by assumption)) (Nat.le_trans (Nat.mul_le_mul_right _ (of_decide_eq_true (by assumption) : ji11.toNat ≤ 281474976710656)) (by omega)) (Below.refl _ _) (Nat.le_refl _) ?_; intro v272 w18 ho19 hb hg_ hnew_; clear hg_ hnew_; (first | rw [← Ny271.out] at ho19 | (simp only [Int.reduceToNat] at ho19; rw [← Ny271.out] at ho19)); have n0_ := Aside0.mk (Kd.R_elder' (by (with_reducible repeat (first | apply Kd.R_alloc | apply Kd.R_drewN | apply Kd.R_drew)); exact HO267.out) (Kd.R_base ho19) hb); have n1_ := Aside0.mk (Kd.R_elder' (by (with_reducible repeat (first | apply Kd.R_alloc | apply Kd.R_drewN | apply Kd.R_drew)); exact HO270.out) (Kd.R_base ho19) hb); have n2_ := Aside0.mk (Kd.R_lower (Kd.R_new' (Kd.R_new' ho19 (Kd.R_lt (by (with_reducible repeat (first | apply Kd.R_alloc | apply Kd.R_drewN | apply Kd.R_drew)); exact HO267.out))) (Kd.R_lt (by (with_reducible repeat (first | apply Kd.R_alloc | apply Kd.R_drewN | apply Kd.R_drew)); exact HO270.out))) (below_size (by repeat (first | exact HB.out | apply below_alloc | apply pw_below_drewN | apply below_drew1)))); have n3_ := Aside0.mk (below_step (by repeat (first | exact HB.out | apply below_alloc | apply pw_below_drewN | apply below_drew1)) hb); clear HO267; clear HO270; clear HB; have HO267 := n0_; have HO270 := n1_; have HO273 := n2_; have HB := n3_; clear n0_ n1_ n2_ n3_; clear hb ho19))
      go_loopg [12] kj3 (fun kq v12 w' => ∃ (x11_2 : List Bool) (x12_2 : Int), v12 = .int .i64 x12_2 ∧ Aside0 (peristyleref14_Both.l0 kq a0 ji11 t265 t268 x11_2 x12_2 = some (r1, r2)) ∧ Aside0 (kq ≤ kj3) ∧ Aside0 (Kd.R Kd.bool 4 w' w.heap.size (fun k_ => some k_ ≠ (v269 : Value).ownBlock ∧ some k_ ≠ (v272 : Value).ownBlock) v266 t265) ∧ Aside0 (Kd.R Kd.bool 4 w' w.heap.size (fun k_ => some k_ ≠ (v266 : Value).ownBlock ∧ some k_ ≠ (v272 : Value).ownBlock) v269 t268) ∧ Aside0 (Kd.R Kd.bool 4 w' w.heap.size (fun k_ => some k_ ≠ (v266 : Value).ownBlock ∧ some k_ ≠ (v269 : Value).ownBlock) v272 x11_2) ∧ Aside0 (Below w.heap.size w w'))
      case atStart => exact ⟨(y271), (0), (by first | rfl | (simp; done) | (simp [*]; done)), H', ⟨Nat.le_refl _⟩, ⟨by (with_reducible repeat (first | apply Kd.R_alloc | apply Kd.R_drewN | apply Kd.R_drew)); exact Kd.R_mono HO267.out (fun _ hk => ⟨hk.1.2, hk.2⟩)⟩, ⟨by (with_reducible repeat (first | apply Kd.R_alloc | apply Kd.R_drewN | apply Kd.R_drew)); exact Kd.R_mono HO270.out (fun _ hk => ⟨hk.1.2, hk.2⟩)⟩, ⟨by (with_reducible repeat (first | apply Kd.R_alloc | apply Kd.R_drewN | apply Kd.R_drew)); exact Kd.R_mono HO273.out (fun _ hk => ⟨hk.1.2, hk.2⟩)⟩, ⟨by repeat (first | (with_reducible first | exact HB.out | apply below_alloc | apply pw_below_drewN | apply below_drew1) | exact HB.out)⟩⟩
      case round =>
       clear H'
       try clear c1
       try clear c2
       try clear p2
       try clear c3
       try clear c6
       try clear c8
       try clear c14
       try clear c14b0
       try clear c14b1
       try clear c15
       try clear c15b0
       try clear c15b1
       try clear p2
       obtain ⟨x11_2, x12_2, rfl, HA, HK2, HO_9, HO_10, HO_11, HB⟩ := hrel
       cases gk with
       | zero => exact absurd HA.out (by simp [peristyleref14_Both.l0])
       | succ k2 =>
        have H := HA.out
        clear HA
        simp only [peristyleref14_Both.l0] at H
        by_cases c20 : x12_2 < ji11
        ·rw [if_pos c20] at H
         have c20b0 : decide (x12_2 < ji11) = true := decide_eq_true c20
         clear c20
         by_cases c21 : a0 = 0
         ·rw [if_pos c21] at H
          have c21b0 : (a0 == 0) = true := beq_iff_eq.mpr c21
          have c21b1 : (a0 != 0) = false := bne_eq_false_iff_eq.mpr c21
          clear c21
          by_cases c22 : 0 ≤ x12_2
          ·rw [if_pos c22] at H
           have c22b0 : decide (0 ≤ x12_2) = true := decide_eq_true c22
           clear c22
           by_cases c23 : x12_2 < (t265.length : Int)
           ·rw [if_pos c23] at H
            have c23b0 : decide (x12_2 < (t265.length : Int)) = true := decide_eq_true c23
            clear c23
            obtain ⟨bq24, hbq24⟩ : ∃ b_ : Bool, b_ = (rdOf false t265 x12_2) := ⟨_, rfl⟩
            replace H : (if bq24 = true then (if x12_2 < (t268.length : Int) then (if x12_2 < (x11_2.length : Int) then (peristyleref14_Both.l0 k2 a0 ji11 t265 t268 (x11_2.set (x12_2 : Int).toNat (rdOf false t268 x12_2)) (wrap64 (x12_2 + 1))) else (none)) else (none)) else (if x12_2 < (x11_2.length : Int) then (peristyleref14_Both.l0 k2 a0 ji11 t265 t268 (x11_2.set (x12_2 : Int).toNat false) (wrap64 (x12_2 + 1))) else (none))) = some (r1, r2) := by rw [← hbq24] at H; exact H
            have Nbq24 := Aside0.mk hbq24
            clear hbq24
            by_cases c25 : bq24 = true
            ·subst c25
             have H1 : (if x12_2 < (t268.length : Int) then (if x12_2 < (x11_2.length : Int) then (peristyleref14_Both.l0 k2 a0 ji11 t265 t268 (x11_2.set (x12_2 : Int).toNat (rdOf false t268 x12_2)) (wrap64 (x12_2 + 1))) else (none)) else (none)) = some (r1, r2) := by rw [if_pos rfl] at H; exact H
             clear H
             have H := H1
             clear H1
             by_cases c26 : x12_2 < (t268.length : Int)
             ·rw [if_pos c26] at H
              have c26b0 : decide (x12_2 < (t268.length : Int)) = true := decide_eq_true c26
              clear c26
              by_cases c27 : x12_2 < (x11_2.length : Int)
              ·rw [if_pos c27] at H
               have c27b0 : decide (x12_2 < (x11_2.length : Int)) = true := decide_eq_true c27
               clear c27
               obtain ⟨y279, hy279⟩ : ∃ y_ : List Bool, y_ = (x11_2.set (x12_2 : Int).toNat (rdOf false t268 x12_2)) := ⟨_, rfl⟩
               replace H : (peristyleref14_Both.l0 k2 a0 ji11 t265 t268 y279 (wrap64 (x12_2 + 1))) = some (r1, r2) := by first | (rw [hy279]; with_reducible exact H) | (have H2_ := (Option.bind_some _ _).symm.trans H; rw [hy279]; with_reducible exact H2_) | (have H2_ := (Option.bind_some _ _).symm.trans H; with_reducible exact H2_) | with_reducible exact H | (rw [hy279]; exact H) | exact H
               have Ny279 := Aside0.mk hy279
               clear hy279
               have H' := Aside0.mk H
               clear H
               obtain ⟨Ao29, co29, eo29⟩ := Kd.R_slice HO_9.out
               subst eo29
               have p277 : 0 ≤ (x12_2 : Int) := of_decide_eq_true (by assumption)
               have q277 : x12_2 < (t265.length : Int) := of_decide_eq_true (by assumption)
               obtain ⟨ad277, e277, hx277_0⟩ := Kd.at_bool (Kd.R_reads' HO_9.out).2.2 x12_2 p277 q277
               (try rw [← Nbq24.out] at hx277_0)
               cases e277
               replace p277 := eq_true p277
               replace q277 := eq_true q277
               obtain ⟨Ao30, co30, eo30⟩ := Kd.R_slice HO_10.out
               subst eo30
               have p278 : 0 ≤ (x12_2 : Int) := of_decide_eq_true (by assumption)
               have q278 : x12_2 < (t268.length : Int) := of_decide_eq_true (by assumption)
               obtain ⟨ad278, e278, hx278_0⟩ := Kd.at_bool (Kd.R_reads' HO_10.out).2.2 x12_2 p278 q278
               (try rw [← Nbq24.out] at hx278_0)
               cases e278
               replace p278 := eq_true p278
               replace q278 := eq_true q278
               have p28 : 0 ≤ (x12_2 : Int) := of_decide_eq_true (by assumption)
               have q28 : (x12_2 : Int) < ((x11_2.length : Int) : Int) := of_decide_eq_true (by assumption)
               obtain ⟨go28, co28, eo28, gb28, gl28, cl28, HG28⟩ := Kd.R_form HO_11.out (by omega)
               (first | cases eo28 | (injection eo28 with ea_ en_ ec_; (first | subst ea_ | (injection ea_ with ea_; subst ea_)); subst ec_; clear en_))
               have GB28 := Aside0.mk gb28
               have GG28 := Aside0.mk HG28
               clear gb28 gl28 HG28
               obtain ⟨hx28_0, hf28_0⟩ := Kd.R_celln false HO_11.out (x12_2 : Int) p28 q28
               replace p28 := eq_true p28
               replace q28 := eq_true q28
               have HP31 := Kd.R_putg HO_11.out (x12_2 : Int) (rdOf false t268 x12_2)
               go_wp2_with (first | ((with_reducible refine gate_store (t := 4) (p := 68) rfl ?_); refine store_event (t := 4) (p := 68) (v := ?vo_w32) (w1 := (wr.setCell ⟨go28, (x12_2 : Int).toNat, none⟩ (.bool (rdOf false t268 x12_2)))) ?hg ?ho ?hn ?hr ?_; (case ho => rfl); (case hg => rfl); (case hn => rfl); (case hr => first | (go_simp; done) | (go_simp; rfl)); intro w32 hw; have hg : wr.grownBy w32 (some go28) := (by rw [hw]; exact HP31.2); have hp_ : Kd.R Kd.bool 4 w32 w.heap.size (fun k_ => some k_ ≠ (.slice (some ad277) t265.length co29 : Value).ownBlock ∧ some k_ ≠ (.slice (some ad278) t268.length co30 : Value).ownBlock) (.slice (some ⟨go28, 0, none⟩) x11_2.length co28) y279 := (by rw [hw, Ny279.out]; exact HP31.1); clear HP31; have n0_ := Aside0.mk (Kd.R_after (v := (.slice (some ⟨go28, 0, none⟩) x11_2.length co28)) (v1 := (.slice (some ⟨go28, 0, none⟩) x11_2.length co28)) (ok := (fun k_ => some k_ ≠ (.slice (some ad278) t268.length co30 : Value).ownBlock)) (by (with_reducible repeat (first | apply Kd.R_alloc | apply Kd.R_drewN | apply Kd.R_drew)); exact HO_9.out) hg (.inl rfl)); have n1_ := Aside0.mk (Kd.R_after (v := (.slice (some ⟨go28, 0, none⟩) x11_2.length co28)) (v1 := (.slice (some ⟨go28, 0, none⟩) x11_2.length co28)) (ok := (fun k_ => some k_ ≠ (.slice (some ad277) t265.length co29 : Value).ownBlock)) (by (with_reducible repeat (first | apply Kd.R_alloc | apply Kd.R_drewN | apply Kd.R_drew)); exact HO_10.out) hg (.inl rfl)); have n2_ := Aside0.mk (hp_); have n3_ := Aside0.mk ((by rw [hw]; exact below_set (HB.out) GB28.out : Below w.heap.size w w32)); clear HO_9; clear HO_10; clear HO_11; clear HB; have HO_9 := n0_; have HO_10 := n1_; have HO_11 := n2_; have HB := n3_; clear n0_ n1_ n2_ n3_; clear hg hw hp_))
               go_roundg k2
               case measure => have := HJ3.out; have := HK2.out; omega
               case rel => exact ⟨(y279), (wrap64 (x12_2 + 1)), (by first | rfl | (simp; done) | (simp [*]; done)), (by first | exact H' | (simp only [hji11]; exact H')), ⟨by have := HJ3.out; have := HK2.out; omega⟩, ⟨by (with_reducible repeat (first | apply Kd.R_alloc | apply Kd.R_drewN | apply Kd.R_drew)); exact HO_9.out⟩, ⟨by (with_reducible repeat (first | apply Kd.R_alloc | apply Kd.R_drewN | apply Kd.R_drew)); exact HO_10.out⟩, ⟨by (with_reducible repeat (first | apply Kd.R_alloc | apply Kd.R_drewN | apply Kd.R_drew)); exact HO_11.out⟩, ⟨by repeat (first | (with_reducible first | exact HB.out | apply below_alloc | apply pw_below_drewN | apply below_drew1) | exact HB.out)⟩⟩
              ·rw [if_neg c27] at H
               exact absurd H (by simp)
             ·rw [if_neg c26] at H
              exact absurd H (by simp)
            ·replace c25 := Bool.eq_false_iff.mpr c25
             subst c25
             have H1 : (if x12_2 < (x11_2.length : Int) then (peristyleref14_Both.l0 k2 a0 ji11 t265 t268 (x11_2.set (x12_2 : Int).toNat false) (wrap64 (x12_2 + 1))) else (none)) = some (r1, r2) := by rw [if_neg (show ¬ (false = true) by decide)] at H; exact H
             clear H
             have H := H1
             clear H1
             by_cases c33 : x12_2 < (x11_2.length : Int)
             ·rw [if_pos c33] at H
              have c33b0 : decide (x12_2 < (x11_2.length : Int)) = true := decide_eq_true c33
              clear c33
              obtain ⟨y280, hy280⟩ : ∃ y_ : List Bool, y_ = (x11_2.set (x12_2 : Int).toNat false) := ⟨_, rfl⟩
              replace H : (peristyleref14_Both.l0 k2 a0 ji11 t265 t268 y280 (wrap64 (x12_2 + 1))) = some (r1, r2) := by first | (rw [hy280]; with_reducible exact H) | (have H2_ := (Option.bind_some _ _).symm.trans H; rw [hy280]; with_reducible exact H2_) | (have H2_ := (Option.bind_some _ _).symm.trans H; with_reducible exact H2_) | with_reducible exact H | (rw [hy280]; exact H) | exact H
              have Ny280 := Aside0.mk hy280
              clear hy280
              have H' := Aside0.mk H
              clear H
              obtain ⟨Ao35, co35, eo35⟩ := Kd.R_slice HO_9.out
              subst eo35
              have p277 : 0 ≤ (x12_2 : Int) := of_decide_eq_true (by assumption)
              have q277 : x12_2 < (t265.length : Int) := of_decide_eq_true (by assumption)
              obtain ⟨ad277, e277, hx277_0⟩ := Kd.at_bool (Kd.R_reads' HO_9.out).2.2 x12_2 p277 q277
              (try rw [← Nbq24.out] at hx277_0)
              cases e277
              replace p277 := eq_true p277
              replace q277 := eq_true q277
              have p34 : 0 ≤ (x12_2 : Int) := of_decide_eq_true (by assumption)
              have q34 : (x12_2 : Int) < ((x11_2.length : Int) : Int) := of_decide_eq_true (by assumption)
              obtain ⟨go34, co34, eo34, gb34, gl34, cl34, HG34⟩ := Kd.R_form HO_11.out (by omega)
              (first | cases eo34 | (injection eo34 with ea_ en_ ec_; (first | subst ea_ | (injection ea_ with ea_; subst ea_)); subst ec_; clear en_))
              have GB34 := Aside0.mk gb34
              have GG34 := Aside0.mk HG34
              clear gb34 gl34 HG34
              obtain ⟨hx34_0, hf34_0⟩ := Kd.R_celln false HO_11.out (x12_2 : Int) p34 q34
              replace p34 := eq_true p34
              replace q34 := eq_true q34
              have HP36 := Kd.R_putg HO_11.out (x12_2 : Int) false
              go_wp2_with (first | ((with_reducible refine gate_store (t := 4) (p := 68) rfl ?_); refine store_event (t := 4) (p := 68) (v := ?vo_w37) (w1 := (wr.setCell ⟨go34, (x12_2 : Int).toNat, none⟩ (.bool false))) ?hg ?ho ?hn ?hr ?_; (case ho => rfl); (case hg => rfl); (case hn => rfl); (case hr => first | (go_simp; done) | (go_simp; rfl)); intro w37 hw; have hg : wr.grownBy w37 (some go34) := (by rw [hw]; exact HP36.2); have hp_ : Kd.R Kd.bool 4 w37 w.heap.size (fun k_ => some k_ ≠ (.slice (some ad277) t265.length co35 : Value).ownBlock ∧ some k_ ≠ (v269 : Value).ownBlock) (.slice (some ⟨go34, 0, none⟩) x11_2.length co34) y280 := (by rw [hw, Ny280.out]; exact HP36.1); clear HP36; have n0_ := Aside0.mk (Kd.R_after (v := (.slice (some ⟨go34, 0, none⟩) x11_2.length co34)) (v1 := (.slice (some ⟨go34, 0, none⟩) x11_2.length co34)) (ok := (fun k_ => some k_ ≠ (v269 : Value).ownBlock)) (by (with_reducible repeat (first | apply Kd.R_alloc | apply Kd.R_drewN | apply Kd.R_drew)); exact HO_9.out) hg (.inl rfl)); have n1_ := Aside0.mk (Kd.R_after (v := (.slice (some ⟨go34, 0, none⟩) x11_2.length co34)) (v1 := (.slice (some ⟨go34, 0, none⟩) x11_2.length co34)) (ok := (fun k_ => some k_ ≠ (.slice (some ad277) t265.length co35 : Value).ownBlock)) (by (with_reducible repeat (first | apply Kd.R_alloc | apply Kd.R_drewN | apply Kd.R_drew)); exact HO_10.out) hg (.inl rfl)); have n2_ := Aside0.mk (hp_); have n3_ := Aside0.mk ((by rw [hw]; exact below_set (HB.out) GB34.out : Below w.heap.size w w37)); clear HO_9; clear HO_10; clear HO_11; clear HB; have HO_9 := n0_; have HO_10 := n1_; have HO_11 := n2_; have HB := n3_; clear n0_ n1_ n2_ n3_; clear hg hw hp_))
              go_roundg k2
              case measure => have := HJ3.out; have := HK2.out; omega
              case rel => exact ⟨(y280), (wrap64 (x12_2 + 1)), (by first | rfl | (simp; done) | (simp [*]; done)), (by first | exact H' | (simp only [hji11]; exact H')), ⟨by have := HJ3.out; have := HK2.out; omega⟩, ⟨by (with_reducible repeat (first | apply Kd.R_alloc | apply Kd.R_drewN | apply Kd.R_drew)); exact HO_9.out⟩, ⟨by (with_reducible repeat (first | apply Kd.R_alloc | apply Kd.R_drewN | apply Kd.R_drew)); exact HO_10.out⟩, ⟨by (with_reducible repeat (first | apply Kd.R_alloc | apply Kd.R_drewN | apply Kd.R_drew)); exact HO_11.out⟩, ⟨by repeat (first | (with_reducible first | exact HB.out | apply below_alloc | apply pw_below_drewN | apply below_drew1) | exact HB.out)⟩⟩
             ·rw [if_neg c33] at H
              exact absurd H (by simp)
           ·rw [if_neg c23] at H
            exact absurd H (by simp)
          ·rw [if_neg c22] at H
           exact absurd H (by simp)
         ·rw [if_neg c21] at H
          have c21b0 : (a0 == 0) = false := beq_eq_false_iff_ne.mpr c21
          have c21b1 : (a0 != 0) = true := bne_iff_ne.mpr c21
          by_cases c38 : a0 = 1
          ·rw [if_pos c38] at H
           have c38b0 : (a0 == 1) = true := beq_iff_eq.mpr c38
           have c38b1 : (a0 != 1) = false := bne_eq_false_iff_eq.mpr c38
           clear c38
           by_cases c39 : 0 ≤ x12_2
           ·rw [if_pos c39] at H
            have c39b0 : decide (0 ≤ x12_2) = true := decide_eq_true c39
            clear c39
            by_cases c40 : x12_2 < (t265.length : Int)
            ·rw [if_pos c40] at H
             have c40b0 : decide (x12_2 < (t265.length : Int)) = true := decide_eq_true c40
             clear c40
             obtain ⟨bq41, hbq41⟩ : ∃ b_ : Bool, b_ = (rdOf false t265 x12_2) := ⟨_, rfl⟩
             replace H : (if bq41 = true then (if x12_2 < (x11_2.length : Int) then (peristyleref14_Both.l0 k2 a0 ji11 t265 t268 (x11_2.set (x12_2 : Int).toNat true) (wrap64 (x12_2 + 1))) else (none)) else (if x12_2 < (t268.length : Int) then (if x12_2 < (x11_2.length : Int) then (peristyleref14_Both.l0 k2 a0 ji11 t265 t268 (x11_2.set (x12_2 : Int).toNat (rdOf false t268 x12_2)) (wrap64 (x12_2 + 1))) else (none)) else (none))) = some (r1, r2) := by rw [← hbq41] at H; exact H
             have Nbq41 := Aside0.mk hbq41
             clear hbq41
             by_cases c42 : bq41 = true
             ·subst c42
              have H1 : (if x12_2 < (x11_2.length : Int) then (peristyleref14_Both.l0 k2 a0 ji11 t265 t268 (x11_2.set (x12_2 : Int).toNat true) (wrap64 (x12_2 + 1))) else (none)) = some (r1, r2) := by rw [if_pos rfl] at H; exact H
              clear H
              have H := H1
              clear H1
              by_cases c43 : x12_2 < (x11_2.length : Int)
              ·rw [if_pos c43] at H
               have c43b0 : decide (x12_2 < (x11_2.length : Int)) = true := decide_eq_true c43
               clear c43
               obtain ⟨y282, hy282⟩ : ∃ y_ : List Bool, y_ = (x11_2.set (x12_2 : Int).toNat true) := ⟨_, rfl⟩
               replace H : (peristyleref14_Both.l0 k2 a0 ji11 t265 t268 y282 (wrap64 (x12_2 + 1))) = some (r1, r2) := by first | (rw [hy282]; with_reducible exact H) | (have H2_ := (Option.bind_some _ _).symm.trans H; rw [hy282]; with_reducible exact H2_) | (have H2_ := (Option.bind_some _ _).symm.trans H; with_reducible exact H2_) | with_reducible exact H | (rw [hy282]; exact H) | exact H
               have Ny282 := Aside0.mk hy282
               clear hy282
               have H' := Aside0.mk H
               clear H
               obtain ⟨Ao45, co45, eo45⟩ := Kd.R_slice HO_9.out
               subst eo45
               have p281 : 0 ≤ (x12_2 : Int) := of_decide_eq_true (by assumption)
               have q281 : x12_2 < (t265.length : Int) := of_decide_eq_true (by assumption)
               obtain ⟨ad281, e281, hx281_0⟩ := Kd.at_bool (Kd.R_reads' HO_9.out).2.2 x12_2 p281 q281
               (try rw [← Nbq41.out] at hx281_0)
               cases e281
               replace p281 := eq_true p281
               replace q281 := eq_true q281
               have p44 : 0 ≤ (x12_2 : Int) := of_decide_eq_true (by assumption)
               have q44 : (x12_2 : Int) < ((x11_2.length : Int) : Int) := of_decide_eq_true (by assumption)
               obtain ⟨go44, co44, eo44, gb44, gl44, cl44, HG44⟩ := Kd.R_form HO_11.out (by omega)
               (first | cases eo44 | (injection eo44 with ea_ en_ ec_; (first | subst ea_ | (injection ea_ with ea_; subst ea_)); subst ec_; clear en_))
               have GB44 := Aside0.mk gb44
               have GG44 := Aside0.mk HG44
               clear gb44 gl44 HG44
               obtain ⟨hx44_0, hf44_0⟩ := Kd.R_celln false HO_11.out (x12_2 : Int) p44 q44
               replace p44 := eq_true p44
               replace q44 := eq_true q44
               have HP46 := Kd.R_putg HO_11.out (x12_2 : Int) true
               go_wp2_with (first | ((with_reducible refine gate_store (t := 4) (p := 83) rfl ?_); refine store_event (t := 4) (p := 83) (v := ?vo_w47) (w1 := (wr.setCell ⟨go44, (x12_2 : Int).toNat, none⟩ (.bool true))) ?hg ?ho ?hn ?hr ?_; (case ho => rfl); (case hg => rfl); (case hn => rfl); (case hr => first | (go_simp; done) | (go_simp; rfl)); intro w47 hw; have hg : wr.grownBy w47 (some go44) := (by rw [hw]; exact HP46.2); have hp_ : Kd.R Kd.bool 4 w47 w.heap.size (fun k_ => some k_ ≠ (.slice (some ad281) t265.length co45 : Value).ownBlock ∧ some k_ ≠ (v269 : Value).ownBlock) (.slice (some ⟨go44, 0, none⟩) x11_2.length co44) y282 := (by rw [hw, Ny282.out]; exact HP46.1); clear HP46; have n0_ := Aside0.mk (Kd.R_after (v := (.slice (some ⟨go44, 0, none⟩) x11_2.length co44)) (v1 := (.slice (some ⟨go44, 0, none⟩) x11_2.length co44)) (ok := (fun k_ => some k_ ≠ (v269 : Value).ownBlock)) (by (with_reducible repeat (first | apply Kd.R_alloc | apply Kd.R_drewN | apply Kd.R_drew)); exact HO_9.out) hg (.inl rfl)); have n1_ := Aside0.mk (Kd.R_after (v := (.slice (some ⟨go44, 0, none⟩) x11_2.length co44)) (v1 := (.slice (some ⟨go44, 0, none⟩) x11_2.length co44)) (ok := (fun k_ => some k_ ≠ (.slice (some ad281) t265.length co45 : Value).ownBlock)) (by (with_reducible repeat (first | apply Kd.R_alloc | apply Kd.R_drewN | apply Kd.R_drew)); exact HO_10.out) hg (.inl rfl)); have n2_ := Aside0.mk (hp_); have n3_ := Aside0.mk ((by rw [hw]; exact below_set (HB.out) GB44.out : Below w.heap.size w w47)); clear HO_9; clear HO_10; clear HO_11; clear HB; have HO_9 := n0_; have HO_10 := n1_; have HO_11 := n2_; have HB := n3_; clear n0_ n1_ n2_ n3_; clear hg hw hp_))
               go_roundg k2
               case measure => have := HJ3.out; have := HK2.out; omega
               case rel => exact ⟨(y282), (wrap64 (x12_2 + 1)), (by first | rfl | (simp; done) | (simp [*]; done)), (by first | exact H' | (simp only [hji11]; exact H')), ⟨by have := HJ3.out; have := HK2.out; omega⟩, ⟨by (with_reducible repeat (first | apply Kd.R_alloc | apply Kd.R_drewN | apply Kd.R_drew)); exact HO_9.out⟩, ⟨by (with_reducible repeat (first | apply Kd.R_alloc | apply Kd.R_drewN | apply Kd.R_drew)); exact HO_10.out⟩, ⟨by (with_reducible repeat (first | apply Kd.R_alloc | apply Kd.R_drewN | apply Kd.R_drew)); exact HO_11.out⟩, ⟨by repeat (first | (with_reducible first | exact HB.out | apply below_alloc | apply pw_below_drewN | apply below_drew1) | exact HB.out)⟩⟩
              ·rw [if_neg c43] at H
               exact absurd H (by simp)
             ·replace c42 := Bool.eq_false_iff.mpr c42
              subst c42
              have H1 : (if x12_2 < (t268.length : Int) then (if x12_2 < (x11_2.length : Int) then (peristyleref14_Both.l0 k2 a0 ji11 t265 t268 (x11_2.set (x12_2 : Int).toNat (rdOf false t268 x12_2)) (wrap64 (x12_2 + 1))) else (none)) else (none)) = some (r1, r2) := by rw [if_neg (show ¬ (false = true) by decide)] at H; exact H
              clear H
              have H := H1
              clear H1
              by_cases c48 : x12_2 < (t268.length : Int)
              ·rw [if_pos c48] at H
               have c48b0 : decide (x12_2 < (t268.length : Int)) = true := decide_eq_true c48
               clear c48
               by_cases c49 : x12_2 < (x11_2.length : Int)
               ·rw [if_pos c49] at H
                have c49b0 : decide (x12_2 < (x11_2.length : Int)) = true := decide_eq_true c49
                clear c49
                obtain ⟨y284, hy284⟩ : ∃ y_ : List Bool, y_ = (x11_2.set (x12_2 : Int).toNat (rdOf false t268 x12_2)) := ⟨_, rfl⟩
                replace H : (peristyleref14_Both.l0 k2 a0 ji11 t265 t268 y284 (wrap64 (x12_2 + 1))) = some (r1, r2) := by first | (rw [hy284]; with_reducible exact H) | (have H2_ := (Option.bind_some _ _).symm.trans H; rw [hy284]; with_reducible exact H2_) | (have H2_ := (Option.bind_some _ _).symm.trans H; with_reducible exact H2_) | with_reducible exact H | (rw [hy284]; exact H) | exact H
                have Ny284 := Aside0.mk hy284
                clear hy284
                have H' := Aside0.mk H
                clear H
                obtain ⟨Ao51, co51, eo51⟩ := Kd.R_slice HO_9.out
                subst eo51
                have p281 : 0 ≤ (x12_2 : Int) := of_decide_eq_true (by assumption)
                have q281 : x12_2 < (t265.length : Int) := of_decide_eq_true (by assumption)
                obtain ⟨ad281, e281, hx281_0⟩ := Kd.at_bool (Kd.R_reads' HO_9.out).2.2 x12_2 p281 q281
                (try rw [← Nbq41.out] at hx281_0)
                cases e281
                replace p281 := eq_true p281
                replace q281 := eq_true q281
                obtain ⟨Ao52, co52, eo52⟩ := Kd.R_slice HO_10.out
                subst eo52
                have p283 : 0 ≤ (x12_2 : Int) := of_decide_eq_true (by assumption)
                have q283 : x12_2 < (t268.length : Int) := of_decide_eq_true (by assumption)
                obtain ⟨ad283, e283, hx283_0⟩ := Kd.at_bool (Kd.R_reads' HO_10.out).2.2 x12_2 p283 q283
                (try rw [← Nbq41.out] at hx283_0)
                cases e283
                replace p283 := eq_true p283
                replace q283 := eq_true q283
                have p50 : 0 ≤ (x12_2 : Int) := of_decide_eq_true (by assumption)
                have q50 : (x12_2 : Int) < ((x11_2.length : Int) : Int) := of_decide_eq_true (by assumption)
                obtain ⟨go50, co50, eo50, gb50, gl50, cl50, HG50⟩ := Kd.R_form HO_11.out (by omega)
                (first | cases eo50 | (injection eo50 with ea_ en_ ec_; (first | subst ea_ | (injection ea_ with ea_; subst ea_)); subst ec_; clear en_))
                have GB50 := Aside0.mk gb50
                have GG50 := Aside0.mk HG50
                clear gb50 gl50 HG50
                obtain ⟨hx50_0, hf50_0⟩ := Kd.R_celln false HO_11.out (x12_2 : Int) p50 q50
                replace p50 := eq_true p50
                replace q50 := eq_true q50
                have HP53 := Kd.R_putg HO_11.out (x12_2 : Int) (rdOf false t268 x12_2)
                go_wp2_with (first | ((with_reducible refine gate_store (t := 4) (p := 83) rfl ?_); refine store_event (t := 4) (p := 83) (v := ?vo_w54) (w1 := (wr.setCell ⟨go50, (x12_2 : Int).toNat, none⟩ (.bool (rdOf false t268 x12_2)))) ?hg ?ho ?hn ?hr ?_; (case ho => rfl); (case hg => rfl); (case hn => rfl); (case hr => first | (go_simp; done) | (go_simp; rfl)); intro w54 hw; have hg : wr.grownBy w54 (some go50) := (by rw [hw]; exact HP53.2); have hp_ : Kd.R Kd.bool 4 w54 w.heap.size (fun k_ => some k_ ≠ (.slice (some ad281) t265.length co51 : Value).ownBlock ∧ some k_ ≠ (.slice (some ad283) t268.length co52 : Value).ownBlock) (.slice (some ⟨go50, 0, none⟩) x11_2.length co50) y284 := (by rw [hw, Ny284.out]; exact HP53.1); clear HP53; have n0_ := Aside0.mk (Kd.R_after (v := (.slice (some ⟨go50, 0, none⟩) x11_2.length co50)) (v1 := (.slice (some ⟨go50, 0, none⟩) x11_2.length co50)) (ok := (fun k_ => some k_ ≠ (.slice (some ad283) t268.length co52 : Value).ownBlock)) (by (with_reducible repeat (first | apply Kd.R_alloc | apply Kd.R_drewN | apply Kd.R_drew)); exact HO_9.out) hg (.inl rfl)); have n1_ := Aside0.mk (Kd.R_after (v := (.slice (some ⟨go50, 0, none⟩) x11_2.length co50)) (v1 := (.slice (some ⟨go50, 0, none⟩) x11_2.length co50)) (ok := (fun k_ => some k_ ≠ (.slice (some ad281) t265.length co51 : Value).ownBlock)) (by (with_reducible repeat (first | apply Kd.R_alloc | apply Kd.R_drewN | apply Kd.R_drew)); exact HO_10.out) hg (.inl rfl)); have n2_ := Aside0.mk (hp_); have n3_ := Aside0.mk ((by rw [hw]; exact below_set (HB.out) GB50.out : Below w.heap.size w w54)); clear HO_9; clear HO_10; clear HO_11; clear HB; have HO_9 := n0_; have HO_10 := n1_; have HO_11 := n2_; have HB := n3_; clear n0_ n1_ n2_ n3_; clear hg hw hp_))
                go_roundg k2
                case measure => have := HJ3.out; have := HK2.out; omega
                case rel => exact ⟨(y284), (wrap64 (x12_2 + 1)), (by first | rfl | (simp; done) | (simp [*]; done)), (by first | exact H' | (simp only [hji11]; exact H')), ⟨by have := HJ3.out; have := HK2.out; omega⟩, ⟨by (with_reducible repeat (first | apply Kd.R_alloc | apply Kd.R_drewN | apply Kd.R_drew)); exact HO_9.out⟩, ⟨by (with_reducible repeat (first | apply Kd.R_alloc | apply Kd.R_drewN | apply Kd.R_drew)); exact HO_10.out⟩, ⟨by (with_reducible repeat (first | apply Kd.R_alloc | apply Kd.R_drewN | apply Kd.R_drew)); exact HO_11.out⟩, ⟨by repeat (first | (with_reducible first | exact HB.out | apply below_alloc | apply pw_below_drewN | apply below_drew1) | exact HB.out)⟩⟩
               ·rw [if_neg c49] at H
                exact absurd H (by simp)
              ·rw [if_neg c48] at H
               exact absurd H (by simp)
            ·rw [if_neg c40] at H
             exact absurd H (by simp)
           ·rw [if_neg c39] at H
            exact absurd H (by simp)
          ·rw [if_neg c38] at H
           have c38b0 : (a0 == 1) = false := beq_eq_false_iff_ne.mpr c38
           have c38b1 : (a0 != 1) = true := bne_iff_ne.mpr c38
           by_cases c55 : 0 ≤ x12_2
           ·rw [if_pos c55] at H
            have c55b0 : decide (0 ≤ x12_2) = true := decide_eq_true c55
            clear c55
            by_cases c56 : x12_2 < (t265.length : Int)
            ·rw [if_pos c56] at H
             have c56b0 : decide (x12_2 < (t265.length : Int)) = true := decide_eq_true c56
             clear c56
             obtain ⟨bq57, hbq57⟩ : ∃ b_ : Bool, b_ = (rdOf false t265 x12_2) := ⟨_, rfl⟩
             replace H : (if bq57 = true then (if x12_2 < (t268.length : Int) then (if x12_2 < (x11_2.length : Int) then (peristyleref14_Both.l0 k2 a0 ji11 t265 t268 (x11_2.set (x12_2 : Int).toNat (!(rdOf false t268 x12_2))) (wrap64 (x12_2 + 1))) else (none)) else (none)) else (if x12_2 < (x11_2.length : Int) then (peristyleref14_Both.l0 k2 a0 ji11 t265 t268 (x11_2.set (x12_2 : Int).toNat false) (wrap64 (x12_2 + 1))) else (none))) = some (r1, r2) := by rw [← hbq57] at H; exact H
             have Nbq57 := Aside0.mk hbq57
             clear hbq57
             by_cases c58 : bq57 = true
             ·subst c58
              have H1 : (if x12_2 < (t268.length : Int) then (if x12_2 < (x11_2.length : Int) then (peristyleref14_Both.l0 k2 a0 ji11 t265 t268 (x11_2.set (x12_2 : Int).toNat (!(rdOf false t268 x12_2))) (wrap64 (x12_2 + 1))) else (none)) else (none)) = some (r1, r2) := by rw [if_pos rfl] at H; exact H
              clear H
              have H := H1
              clear H1
              by_cases c59 : x12_2 < (t268.length : Int)
              ·rw [if_pos c59] at H
               have c59b0 : decide (x12_2 < (t268.length : Int)) = true := decide_eq_true c59
               clear c59
               by_cases c60 : x12_2 < (x11_2.length : Int)
               ·rw [if_pos c60] at H
                have c60b0 : decide (x12_2 < (x11_2.length : Int)) = true := decide_eq_true c60
                clear c60
                obtain ⟨y287, hy287⟩ : ∃ y_ : List Bool, y_ = (x11_2.set (x12_2 : Int).toNat (!(rdOf false t268 x12_2))) := ⟨_, rfl⟩
                replace H : (peristyleref14_Both.l0 k2 a0 ji11 t265 t268 y287 (wrap64 (x12_2 + 1))) = some (r1, r2) := by first | (rw [hy287]; with_reducible exact H) | (have H2_ := (Option.bind_some _ _).symm.trans H; rw [hy287]; with_reducible exact H2_) | (have H2_ := (Option.bind_some _ _).symm.trans H; with_reducible exact H2_) | with_reducible exact H | (rw [hy287]; exact H) | exact H
                have Ny287 := Aside0.mk hy287
                clear hy287
                have H' := Aside0.mk H
                clear H
                obtain ⟨Ao62, co62, eo62⟩ := Kd.R_slice HO_9.out
                subst eo62
                have p285 : 0 ≤ (x12_2 : Int) := of_decide_eq_true (by assumption)
                have q285 : x12_2 < (t265.length : Int) := of_decide_eq_true (by assumption)
                obtain ⟨ad285, e285, hx285_0⟩ := Kd.at_bool (Kd.R_reads' HO_9.out).2.2 x12_2 p285 q285
                (try rw [← Nbq57.out] at hx285_0)
                cases e285
                replace p285 := eq_true p285
                replace q285 := eq_true q285
                obtain ⟨Ao63, co63, eo63⟩ := Kd.R_slice HO_10.out
                subst eo63
                have p286 : 0 ≤ (x12_2 : Int) := of_decide_eq_true (by assumption)
                have q286 : x12_2 < (t268.length : Int) := of_decide_eq_true (by assumption)
                obtain ⟨ad286, e286, hx286_0⟩ := Kd.at_bool (Kd.R_reads' HO_10.out).2.2 x12_2 p286 q286
                (try rw [← Nbq57.out] at hx286_0)
                cases e286
                replace p286 := eq_true p286
                replace q286 := eq_true q286
                have p61 : 0 ≤ (x12_2 : Int) := of_decide_eq_true (by assumption)
                have q61 : (x12_2 : Int) < ((x11_2.length : Int) : Int) := of_decide_eq_true (by assumption)
                obtain ⟨go61, co61, eo61, gb61, gl61, cl61, HG61⟩ := Kd.R_form HO_11.out (by omega)
                (first | cases eo61 | (injection eo61 with ea_ en_ ec_; (first | subst ea_ | (injection ea_ with ea_; subst ea_)); subst ec_; clear en_))
                have GB61 := Aside0.mk gb61
                have GG61 := Aside0.mk HG61
                clear gb61 gl61 HG61
                obtain ⟨hx61_0, hf61_0⟩ := Kd.R_celln false HO_11.out (x12_2 : Int) p61 q61
                replace p61 := eq_true p61
                replace q61 := eq_true q61
                have HP64 := Kd.R_putg HO_11.out (x12_2 : Int) (!(rdOf false t268 x12_2))
                go_wp2_with (first | ((with_reducible refine gate_store (t := 4) (p := 53) rfl ?_); refine store_event (t := 4) (p := 53) (v := ?vo_w65) (w1 := (wr.setCell ⟨go61, (x12_2 : Int).toNat, none⟩ (.bool (!(rdOf false t268 x12_2))))) ?hg ?ho ?hn ?hr ?_; (case ho => rfl); (case hg => rfl); (case hn => rfl); (case hr => first | (go_simp; done) | (go_simp; rfl)); intro w65 hw; have hg : wr.grownBy w65 (some go61) := (by rw [hw]; exact HP64.2); have hp_ : Kd.R Kd.bool 4 w65 w.heap.size (fun k_ => some k_ ≠ (.slice (some ad285) t265.length co62 : Value).ownBlock ∧ some k_ ≠ (.slice (some ad286) t268.length co63 : Value).ownBlock) (.slice (some ⟨go61, 0, none⟩) x11_2.length co61) y287 := (by rw [hw, Ny287.out]; exact HP64.1); clear HP64; have n0_ := Aside0.mk (Kd.R_after (v := (.slice (some ⟨go61, 0, none⟩) x11_2.length co61)) (v1 := (.slice (some ⟨go61, 0, none⟩) x11_2.length co61)) (ok := (fun k_ => some k_ ≠ (.slice (some ad286) t268.length co63 : Value).ownBlock)) (by (with_reducible repeat (first | apply Kd.R_alloc | apply Kd.R_drewN | apply Kd.R_drew)); exact HO_9.out) hg (.inl rfl)); have n1_ := Aside0.mk (Kd.R_after (v := (.slice (some ⟨go61, 0, none⟩) x11_2.length co61)) (v1 := (.slice (some ⟨go61, 0, none⟩) x11_2.length co61)) (ok := (fun k_ => some k_ ≠ (.slice (some ad285) t265.length co62 : Value).ownBlock)) (by (with_reducible repeat (first | apply Kd.R_alloc | apply Kd.R_drewN | apply Kd.R_drew)); exact HO_10.out) hg (.inl rfl)); have n2_ := Aside0.mk (hp_); have n3_ := Aside0.mk ((by rw [hw]; exact below_set (HB.out) GB61.out : Below w.heap.size w w65)); clear HO_9; clear HO_10; clear HO_11; clear HB; have HO_9 := n0_; have HO_10 := n1_; have HO_11 := n2_; have HB := n3_; clear n0_ n1_ n2_ n3_; clear hg hw hp_))
                go_roundg k2
                case measure => have := HJ3.out; have := HK2.out; omega
                case rel => exact ⟨(y287), (wrap64 (x12_2 + 1)), (by first | rfl | (simp; done) | (simp [*]; done)), (by first | exact H' | (simp only [hji11]; exact H')), ⟨by have := HJ3.out; have := HK2.out; omega⟩, ⟨by (with_reducible repeat (first | apply Kd.R_alloc | apply Kd.R_drewN | apply Kd.R_drew)); exact HO_9.out⟩, ⟨by (with_reducible repeat (first | apply Kd.R_alloc | apply Kd.R_drewN | apply Kd.R_drew)); exact HO_10.out⟩, ⟨by (with_reducible repeat (first | apply Kd.R_alloc | apply Kd.R_drewN | apply Kd.R_drew)); exact HO_11.out⟩, ⟨by repeat (first | (with_reducible first | exact HB.out | apply below_alloc | apply pw_below_drewN | apply below_drew1) | exact HB.out)⟩⟩
               ·rw [if_neg c60] at H
                exact absurd H (by simp)
              ·rw [if_neg c59] at H
               exact absurd H (by simp)
             ·replace c58 := Bool.eq_false_iff.mpr c58
              subst c58
              have H1 : (if x12_2 < (x11_2.length : Int) then (peristyleref14_Both.l0 k2 a0 ji11 t265 t268 (x11_2.set (x12_2 : Int).toNat false) (wrap64 (x12_2 + 1))) else (none)) = some (r1, r2) := by rw [if_neg (show ¬ (false = true) by decide)] at H; exact H
              clear H
              have H := H1
              clear H1
              by_cases c66 : x12_2 < (x11_2.length : Int)
              ·rw [if_pos c66] at H
               have c66b0 : decide (x12_2 < (x11_2.length : Int)) = true := decide_eq_true c66
               clear c66
               obtain ⟨y288, hy288⟩ : ∃ y_ : List Bool, y_ = (x11_2.set (x12_2 : Int).toNat false) := ⟨_, rfl⟩
               replace H : (peristyleref14_Both.l0 k2 a0 ji11 t265 t268 y288 (wrap64 (x12_2 + 1))) = some (r1, r2) := by first | (rw [hy288]; with_reducible exact H) | (have H2_ := (Option.bind_some _ _).symm.trans H; rw [hy288]; with_reducible exact H2_) | (have H2_ := (Option.bind_some _ _).symm.trans H; with_reducible exact H2_) | with_reducible exact H | (rw [hy288]; exact H) | exact H
               have Ny288 := Aside0.mk hy288
               clear hy288
               have H' := Aside0.mk H
               clear H
               obtain ⟨Ao68, co68, eo68⟩ := Kd.R_slice HO_9.out
               subst eo68
               have p285 : 0 ≤ (x12_2 : Int) := of_decide_eq_true (by assumption)
               have q285 : x12_2 < (t265.length : Int) := of_decide_eq_true (by assumption)
               obtain ⟨ad285, e285, hx285_0⟩ := Kd.at_bool (Kd.R_reads' HO_9.out).2.2 x12_2 p285 q285
               (try rw [← Nbq57.out] at hx285_0)
               cases e285
               replace p285 := eq_true p285
               replace q285 := eq_true q285
               have p67 : 0 ≤ (x12_2 : Int) := of_decide_eq_true (by assumption)
               have q67 : (x12_2 : Int) < ((x11_2.length : Int) : Int) := of_decide_eq_true (by assumption)
               obtain ⟨go67, co67, eo67, gb67, gl67, cl67, HG67⟩ := Kd.R_form HO_11.out (by omega)
               (first | cases eo67 | (injection eo67 with ea_ en_ ec_; (first | subst ea_ | (injection ea_ with ea_; subst ea_)); subst ec_; clear en_))
               have GB67 := Aside0.mk gb67
               have GG67 := Aside0.mk HG67
               clear gb67 gl67 HG67
               obtain ⟨hx67_0, hf67_0⟩ := Kd.R_celln false HO_11.out (x12_2 : Int) p67 q67
               replace p67 := eq_true p67
               replace q67 := eq_true q67
               have HP69 := Kd.R_putg HO_11.out (x12_2 : Int) false
               go_wp2_with (first | ((with_reducible refine gate_store (t := 4) (p := 53) rfl ?_); refine store_event (t := 4) (p := 53) (v := ?vo_w70) (w1 := (wr.setCell ⟨go67, (x12_2 : Int).toNat, none⟩ (.bool false))) ?hg ?ho ?hn ?hr ?_; (case ho => rfl); (case hg => rfl); (case hn => rfl); (case hr => first | (go_simp; done) | (go_simp; rfl)); intro w70 hw; have hg : wr.grownBy w70 (some go67) := (by rw [hw]; exact HP69.2); have hp_ : Kd.R Kd.bool 4 w70 w.heap.size (fun k_ => some k_ ≠ (.slice (some ad285) t265.length co68 : Value).ownBlock ∧ some k_ ≠ (v269 : Value).ownBlock) (.slice (some ⟨go67, 0, none⟩) x11_2.length co67) y288 := (by rw [hw, Ny288.out]; exact HP69.1); clear HP69; have n0_ := Aside0.mk (Kd.R_after (v := (.slice (some ⟨go67, 0, none⟩) x11_2.length co67)) (v1 := (.slice (some ⟨go67, 0, none⟩) x11_2.length co67)) (ok := (fun k_ => some k_ ≠ (v269 : Value).ownBlock)) (by (with_reducible repeat (first | apply Kd.R_alloc | apply Kd.R_drewN | apply Kd.R_drew)); exact HO_9.out) hg (.inl rfl)); have n1_ := Aside0.mk (Kd.R_after (v := (.slice (some ⟨go67, 0, none⟩) x11_2.length co67)) (v1 := (.slice (some ⟨go67, 0, none⟩) x11_2.length co67)) (ok := (fun k_ => some k_ ≠ (.slice (some ad285) t265.length co68 : Value).ownBlock)) (by (with_reducible repeat (first | apply Kd.R_alloc | apply Kd.R_drewN | apply Kd.R_drew)); exact HO_10.out) hg (.inl rfl)); have n2_ := Aside0.mk (hp_); have n3_ := Aside0.mk ((by rw [hw]; exact below_set (HB.out) GB67.out : Below w.heap.size w w70)); clear HO_9; clear HO_10; clear HO_11; clear HB; have HO_9 := n0_; have HO_10 := n1_; have HO_11 := n2_; have HB := n3_; clear n0_ n1_ n2_ n3_; clear hg hw hp_))
               go_roundg k2
               case measure => have := HJ3.out; have := HK2.out; omega
               case rel => exact ⟨(y288), (wrap64 (x12_2 + 1)), (by first | rfl | (simp; done) | (simp [*]; done)), (by first | exact H' | (simp only [hji11]; exact H')), ⟨by have := HJ3.out; have := HK2.out; omega⟩, ⟨by (with_reducible repeat (first | apply Kd.R_alloc | apply Kd.R_drewN | apply Kd.R_drew)); exact HO_9.out⟩, ⟨by (with_reducible repeat (first | apply Kd.R_alloc | apply Kd.R_drewN | apply Kd.R_drew)); exact HO_10.out⟩, ⟨by (with_reducible repeat (first | apply Kd.R_alloc | apply Kd.R_drewN | apply Kd.R_drew)); exact HO_11.out⟩, ⟨by repeat (first | (with_reducible first | exact HB.out | apply below_alloc | apply pw_below_drewN | apply below_drew1) | exact HB.out)⟩⟩
              ·rw [if_neg c66] at H
               exact absurd H (by simp)
            ·rw [if_neg c56] at H
             exact absurd H (by simp)
           ·rw [if_neg c55] at H
            exact absurd H (by simp)
        ·rw [if_neg c20] at H
         have c20b0 : decide (x12_2 < ji11) = false := decide_eq_false c20
         clear c20
         replace H := Option.bind_eq_some_iff.mp H
         obtain ⟨t274, A710, H⟩ := H
         replace H : (some (t274, 0)) = some (r1, r2) := H
         have A71 := Aside0.mk A710
         clear A710
         simp only [Option.some.injEq, Prod.mk.injEq] at H
         obtain ⟨rfl, rfl⟩ := H
         obtain ⟨Ao72, co72, eo72⟩ := Kd.R_slice HO_11.out
         subst eo72
         go_wp2_with (first | ((with_reducible refine gate_callee (f := 44) rfl ?_); refine goesL_ (some 85) rfl rfl Try.func44 (by kernel_rfl) rfl #[.slice Ao72 x11_2.length co72] rfl (by (try simp only [List.map_toArray, List.map_cons, List.map_nil]); first | done | rfl) ?_; (with_reducible refine (peristyleref14_Spans.calls k2 _ _ x11_2 t274 _ ?side1 ?side2 A71.out).mono ?_); (case side1 => repeat (first | exact (Kd.R_reads' HO_11.out).2.2 | (with_reducible refine Kd.C_alloc ?_ _) | (with_reducible refine Kd.C_drewN ?_ _) | (with_reducible refine Kd.C_drew ?_))); (case side2 => exact (Kd.R_reads' HO_11.out).2.1); rintro e w73 ⟨v275, rfl, ho0, hb⟩; refine ⟨_, rfl, ?_⟩; have n0_ := Aside0.mk (Kd.R_below (by (with_reducible repeat (first | apply Kd.R_alloc | apply Kd.R_drewN | apply Kd.R_drew)); exact HO_9.out) hb); have n1_ := Aside0.mk (Kd.R_below (by (with_reducible repeat (first | apply Kd.R_alloc | apply Kd.R_drewN | apply Kd.R_drew)); exact HO_10.out) hb); have n2_ := Aside0.mk (Kd.R_below (by (with_reducible repeat (first | apply Kd.R_alloc | apply Kd.R_drewN | apply Kd.R_drew)); exact HO_11.out) hb); have n3_ := Aside0.mk (Kd.R_lower ho0 (below_size (by repeat (first | exact HB.out | apply below_alloc | apply pw_below_drewN | apply below_drew1)))); have n4_ := Aside0.mk (below_step (by repeat (first | exact HB.out | apply below_alloc | apply pw_below_drewN | apply below_drew1)) hb); clear HO_9; clear HO_10; clear HO_11; clear HB; have HO_9 := n0_; have HO_10 := n1_; have HO_11 := n2_; have HO276 := n3_; have HB := n4_; clear n0_ n1_ n2_ n3_ n4_; (try clear hb); (try clear ho0)))
         go_ret2
         exact ⟨_, by first | rfl | (simp [errW_none, errW_some] <;> rfl) | (simp only [← hji11]; first | rfl | (simp [errW_none, errW_some] <;> rfl)) | (simp [*, errW_none, errW_some] <;> rfl), by (with_reducible repeat (first | apply Kd.R_alloc | apply Kd.R_drewN | apply Kd.R_drew)); exact HO276.out, by repeat (first | (with_reducible first | exact HB.out | apply below_alloc | apply pw_below_drewN | apply below_drew1) | exact HB.out)⟩
     ·rw [if_neg c15] at H
      exact absurd H (by simp)
    ·rw [if_neg c14] at H
     exact absurd H (by simp)

/-! ### peristyleref15_Of: function 10 -/
mutual
def peristyleref15_Of.l0 : Nat → Int → List Bool → List Int → Int → Option (List Int × Int)
 | 0, _, _, _, _ => none
 | k + 1, x4, x5, x6, x7 => if x7 < x4 then (peristyleref15_Of.l1 k x4 x5 x6 x7 0 0) else (some (x6, 0))
def peristyleref15_Of.l1 : Nat → Int → List Bool → List Int → Int → Int → Int → Option (List Int × Int)
 | 0, _, _, _, _, _, _ => none
 | k + 1, x4, x5, x6, x7, x8, x9 => if x9 < 64 then (if 0 ≤ (wrap64 ((wrap64 (64 * x7)) + x9)) then (if (wrap64 ((wrap64 (64 * x7)) + x9)) < (x5.length : Int) then (if rdOf false x5 (wrap64 ((wrap64 (64 * x7)) + x9)) = true then (if 0 ≤ x9 then (peristyleref15_Of.l1 k x4 x5 x6 x7 (Go.bits .or .i64 x8 (shl .i64 1 x9)) (wrap64 (x9 + 1))) else (none)) else (peristyleref15_Of.l1 k x4 x5 x6 x7 x8 (wrap64 (x9 + 1)))) else (none)) else (none)) else (if x6.length < 17592186044416 then (peristyleref15_Of.l0 k x4 x5 (x6 ++ [x8]) (wrap64 (x7 + 1))) else (none))
end
def peristyleref15_Of.f (k : Nat) (l0 : List (S48)) : Option (List Int × Int) := (peristyleref14_May.f k l0).bind fun t289 => (if t289 = true then ((peristyleref14_Top.f l0).bind fun t290 => ((peristyleref14_Set.f k l0 (wrap64 (64 * (wrap64 (Int.tdiv (wrap64 (t290 + 63)) 64))))).bind fun t291 => (peristyleref15_Of.l0 k (wrap64 (Int.tdiv (wrap64 (t290 + 63)) 64)) t291 ([] : List Int) 0))) else (some (([] : List Int), 1)))
theorem peristyleref15_Of.l0_succ (k : Nat) (x4 : Int) (x5 : List Bool) (x6 : List Int) (x7 : Int) : peristyleref15_Of.l0 (k + 1) x4 x5 x6 x7 = (if x7 < x4 then (peristyleref15_Of.l1 k x4 x5 x6 x7 0 0) else (some (x6, 0))) := by
 simp only [peristyleref15_Of.l0]
theorem peristyleref15_Of.l1_succ (k : Nat) (x4 : Int) (x5 : List Bool) (x6 : List Int) (x7 : Int) (x8 : Int) (x9 : Int) : peristyleref15_Of.l1 (k + 1) x4 x5 x6 x7 x8 x9 = (if x9 < 64 then (if 0 ≤ (wrap64 ((wrap64 (64 * x7)) + x9)) then (if (wrap64 ((wrap64 (64 * x7)) + x9)) < (x5.length : Int) then (if rdOf false x5 (wrap64 ((wrap64 (64 * x7)) + x9)) = true then (if 0 ≤ x9 then (peristyleref15_Of.l1 k x4 x5 x6 x7 (Go.bits .or .i64 x8 (shl .i64 1 x9)) (wrap64 (x9 + 1))) else (none)) else (peristyleref15_Of.l1 k x4 x5 x6 x7 x8 (wrap64 (x9 + 1)))) else (none)) else (none)) else (if x6.length < 17592186044416 then (peristyleref15_Of.l0 k x4 x5 (x6 ++ [x8]) (wrap64 (x7 + 1))) else (none))) := by
 simp only [peristyleref15_Of.l1]
theorem peristyleref15_Of.mono_l : ∀ k, (∀ y0 y1 y2 y3, LeO (peristyleref15_Of.l0 k y0 y1 y2 y3) (peristyleref15_Of.l0 (k + 1) y0 y1 y2 y3)) ∧ (∀ y0 y1 y2 y3 y4 y5, LeO (peristyleref15_Of.l1 k y0 y1 y2 y3 y4 y5) (peristyleref15_Of.l1 (k + 1) y0 y1 y2 y3 y4 y5))
 | 0 => ⟨fun _ _ _ _ r h => by simp [peristyleref15_Of.l0] at h, fun _ _ _ _ _ _ r h => by simp [peristyleref15_Of.l1] at h⟩
 | k + 1 => by
  obtain ⟨ih0, ih1⟩ := peristyleref15_Of.mono_l k
  refine ⟨?_, ?_⟩
  ·intro y0 y1 y2 y3
   unfold peristyleref15_Of.l0
   repeat' first
   | (with_reducible exact ih0 _ _ _ _)
   | (with_reducible exact ih1 _ _ _ _ _ _)
   | (with_reducible exact peristyleref14_May.mono _ _)
   | (with_reducible exact peristyleref14_Set.mono _ _ _)
   | (with_reducible exact LeO.refl _)
   | (with_reducible exact LeO.none _)
   | (with_reducible refine LeO.ite ?_ ?_)
   | (with_reducible refine LeO.bind ?_ (fun _ => ?_))
   | exact ih0 _ _ _ _
   | exact ih1 _ _ _ _ _ _
   | exact peristyleref14_May.mono _ _
   | exact peristyleref14_Set.mono _ _ _
   | exact LeO.none _
   | refine LeO.ite ?_ ?_
   | refine LeO.bind ?_ (fun _ => ?_)
  ·intro y0 y1 y2 y3 y4 y5
   unfold peristyleref15_Of.l1
   repeat' first
   | (with_reducible exact ih0 _ _ _ _)
   | (with_reducible exact ih1 _ _ _ _ _ _)
   | (with_reducible exact peristyleref14_May.mono _ _)
   | (with_reducible exact peristyleref14_Set.mono _ _ _)
   | (with_reducible exact LeO.refl _)
   | (with_reducible exact LeO.none _)
   | (with_reducible refine LeO.ite ?_ ?_)
   | (with_reducible refine LeO.bind ?_ (fun _ => ?_))
   | exact ih0 _ _ _ _
   | exact ih1 _ _ _ _ _ _
   | exact peristyleref14_May.mono _ _
   | exact peristyleref14_Set.mono _ _ _
   | exact LeO.none _
   | refine LeO.ite ?_ ?_
   | refine LeO.bind ?_ (fun _ => ?_)
theorem peristyleref15_Of.mono : ∀ a0 k, LeO (peristyleref15_Of.f k a0) (peristyleref15_Of.f (k + 1) a0) := by
 intro a0 k
 obtain ⟨ih0, ih1⟩ := peristyleref15_Of.mono_l k
 unfold peristyleref15_Of.f
 repeat' first
   | (with_reducible exact ih0 _ _ _ _)
   | (with_reducible exact ih1 _ _ _ _ _ _)
   | (with_reducible exact peristyleref14_May.mono _ _)
   | (with_reducible exact peristyleref14_Set.mono _ _ _)
   | (with_reducible exact LeO.refl _)
   | (with_reducible exact LeO.none _)
   | (with_reducible refine LeO.ite ?_ ?_)
   | (with_reducible refine LeO.bind ?_ (fun _ => ?_))
   | exact ih0 _ _ _ _
   | exact ih1 _ _ _ _ _ _
   | exact peristyleref14_May.mono _ _
   | exact peristyleref14_Set.mono _ _ _
   | exact LeO.none _
   | refine LeO.ite ?_ ?_
   | refine LeO.bind ?_ (fun _ => ?_)
set_option maxHeartbeats 8000000 in
set_option maxRecDepth 100000 in
theorem peristyleref15_Of.calls (k : Nat) (A0 : Option Addr) (c0 : Nat) (l0 : List (S48)) (r1 : List Int) (r2 : Int) (w : World) (hr0 : Kd.C k48 w A0 l0.length l0) (hc0 : l0.length ≤ c0) (h : peristyleref15_Of.f k l0 = some (r1, r2)) :
  Calls Try.prog 10 #[.slice A0 l0.length c0] w fun e w' => ∃ v0_ : Value, e = .returned (.tuple #[v0_, .int .i64 r2]) ∧ Kd.R (Kd.int .i64) 3 w' w.heap.size (fun _ => True) v0_ r1 ∧ Below w.heap.size w w' := by
 have HR0 := Aside0.mk hr0
 have HC0 := Aside0.mk hc0
 clear hr0 hc0
 have HB := Aside0.mk (Below.refl w.heap.size w)
 have H : ((peristyleref14_May.f k l0).bind fun t289 => (if t289 = true then ((peristyleref14_Top.f l0).bind fun t290 => ((peristyleref14_Set.f k l0 (wrap64 (64 * (wrap64 (Int.tdiv (wrap64 (t290 + 63)) 64))))).bind fun t291 => (peristyleref15_Of.l0 k (wrap64 (Int.tdiv (wrap64 (t290 + 63)) 64)) t291 ([] : List Int) 0))) else (some (([] : List Int), 1)))) = some (r1, r2) := h
 clear h
 replace H := Option.bind_eq_some_iff.mp H
 obtain ⟨t289, A20, H⟩ := H
 replace H : (if t289 = true then ((peristyleref14_Top.f l0).bind fun t290 => ((peristyleref14_Set.f k l0 (wrap64 (64 * (wrap64 (Int.tdiv (wrap64 (t290 + 63)) 64))))).bind fun t291 => (peristyleref15_Of.l0 k (wrap64 (Int.tdiv (wrap64 (t290 + 63)) 64)) t291 ([] : List Int) 0))) else (some (([] : List Int), 1))) = some (r1, r2) := H
 have A2 := Aside0.mk A20
 clear A20
 by_cases c3 : t289 = true
 ·subst c3
  have H1 : ((peristyleref14_Top.f l0).bind fun t290 => ((peristyleref14_Set.f k l0 (wrap64 (64 * (wrap64 (Int.tdiv (wrap64 (t290 + 63)) 64))))).bind fun t291 => (peristyleref15_Of.l0 k (wrap64 (Int.tdiv (wrap64 (t290 + 63)) 64)) t291 ([] : List Int) 0))) = some (r1, r2) := by rw [if_pos rfl] at H; exact H
  clear H
  have H := H1
  clear H1
  replace H := Option.bind_eq_some_iff.mp H
  obtain ⟨t290, A40, H⟩ := H
  replace H : ((peristyleref14_Set.f k l0 (wrap64 (64 * (wrap64 (Int.tdiv (wrap64 (t290 + 63)) 64))))).bind fun t291 => (peristyleref15_Of.l0 k (wrap64 (Int.tdiv (wrap64 (t290 + 63)) 64)) t291 ([] : List Int) 0)) = some (r1, r2) := H
  have A4 := Aside0.mk A40
  clear A40
  replace H := Option.bind_eq_some_iff.mp H
  obtain ⟨t291, A50, H⟩ := H
  replace H : (peristyleref15_Of.l0 k (wrap64 (Int.tdiv (wrap64 (t290 + 63)) 64)) t291 ([] : List Int) 0) = some (r1, r2) := H
  have A5 := Aside0.mk A50
  clear A50
  have H' := Aside0.mk H
  clear H
  go_enter Try.func10, Try.ntmps10
  go_wp2_with (first | ((with_reducible refine gate_callee (f := 32) rfl ?_); refine goesL_ (some 11) rfl rfl Try.func32 (by kernel_rfl) rfl #[.slice A0 l0.length c0] rfl (by (try simp only [List.map_toArray, List.map_cons, List.map_nil]); first | done | rfl) ?_; (with_reducible refine (peristyleref14_May.calls k _ _ l0 true _ ?side1 ?side2 A2.out).mono ?_); (case side1 => repeat (first | exact HR0.out | (with_reducible refine Kd.C_alloc ?_ _) | (with_reducible refine Kd.C_drewN ?_ _) | (with_reducible refine Kd.C_drew ?_))); (case side2 => exact HC0.out); rintro e w' ⟨rfl, ⟨nd, rfl⟩⟩; refine ⟨_, rfl, ?_⟩) | ((with_reducible refine gate_callee (f := 33) rfl ?_); refine goesL_ (some 14) rfl rfl Try.func33 (by kernel_rfl) rfl #[.slice A0 l0.length c0] rfl (by (try simp only [List.map_toArray, List.map_cons, List.map_nil]); first | done | rfl) ?_; (with_reducible refine (peristyleref14_Top.calls _ _ l0 t290 _ ?side1 ?side2 A4.out).mono ?_); (case side1 => repeat (first | exact HR0.out | (with_reducible refine Kd.C_alloc ?_ _) | (with_reducible refine Kd.C_drewN ?_ _) | (with_reducible refine Kd.C_drew ?_))); (case side2 => exact HC0.out); rintro e w' ⟨rfl, ⟨nd, rfl⟩⟩; refine ⟨_, rfl, ?_⟩) | ((with_reducible refine gate_callee (f := 36) rfl ?_); refine goesL_ (some 20) rfl rfl Try.func36 (by kernel_rfl) rfl #[.slice A0 l0.length c0, .int .i64 (wrap64 (64 * (wrap64 (Int.tdiv (wrap64 (t290 + 63)) 64))))] rfl (by (try simp only [List.map_toArray, List.map_cons, List.map_nil]); first | done | rfl) ?_; (with_reducible refine (peristyleref14_Set.calls k _ _ l0 (wrap64 (64 * (wrap64 (Int.tdiv (wrap64 (t290 + 63)) 64)))) t291 _ ?side1 ?side2 A5.out).mono ?_); (case side1 => repeat (first | exact HR0.out | (with_reducible refine Kd.C_alloc ?_ _) | (with_reducible refine Kd.C_drewN ?_ _) | (with_reducible refine Kd.C_drew ?_))); (case side2 => exact HC0.out); rintro e w6 ⟨v292, rfl, ho0, hb⟩; refine ⟨_, rfl, ?_⟩; have n0_ := Aside0.mk (Kd.R_lower ho0 (below_size (by repeat (first | exact HB.out | apply below_alloc | apply pw_below_drewN | apply below_drew1)))); have n1_ := Aside0.mk (below_step (by repeat (first | exact HB.out | apply below_alloc | apply pw_below_drewN | apply below_drew1)) hb); clear HB; have HO293 := n0_; have HB := n1_; clear n0_ n1_; (try clear hb); (try clear ho0)))
  go_loopg [6, 7] k (fun kq v6 v7 w' => ∃ (x6_1 : List Int) (x7_1 : Int), v7 = .int .i64 x7_1 ∧ Aside0 (peristyleref15_Of.l0 kq (wrap64 (Int.tdiv (wrap64 (t290 + 63)) 64)) t291 x6_1 x7_1 = some (r1, r2)) ∧ Aside0 (kq ≤ k) ∧ Aside0 (Kd.R Kd.bool 4 w' w.heap.size (fun _ => True) v292 t291) ∧ Aside0 (Kd.R (Kd.int .i64) 3 w' w.heap.size (fun _ => True) v6 x6_1) ∧ Aside0 (Below w.heap.size w w'))
  case atStart => exact ⟨(([] : List Int)), (0), (by first | rfl | (simp; done) | (simp [*]; done)), H', ⟨Nat.le_refl _⟩, ⟨by (with_reducible repeat (first | apply Kd.R_alloc | apply Kd.R_drewN | apply Kd.R_drew)); exact HO293.out⟩, ⟨by first | exact Kd.R_nil _ _ _ _ _ | exact Kd.N_nil _ _ _ _ _ | exact Kd.V_nil _ _ _ _ _ | exact Kd.Q_nil _ _ _ _ _ | exact Kd.S_nil _ _ _ _ _⟩, ⟨by repeat (first | (with_reducible first | exact HB.out | apply below_alloc | apply pw_below_drewN | apply below_drew1) | exact HB.out)⟩⟩
  case round =>
   clear H'
   try clear c1
   try clear p2
   try clear c3
   try clear p6
   obtain ⟨x6_1, x7_1, rfl, HA, HK1, HO_5, HO_6, HB⟩ := hrel
   cases gk with
   | zero => exact absurd HA.out (by simp [peristyleref15_Of.l0])
   | succ k1 =>
    have H := HA.out
    clear HA
    simp only [peristyleref15_Of.l0] at H
    by_cases c7 : x7_1 < (wrap64 (Int.tdiv (wrap64 (t290 + 63)) 64))
    ·rw [if_pos c7] at H
     have c7b0 : decide (x7_1 < (wrap64 (Int.tdiv (wrap64 (t290 + 63)) 64))) = true := decide_eq_true c7
     clear c7
     have H' := Aside0.mk H
     clear H
     go_wp2
     go_loopg [8, 9] k1 (fun kq v8 v9 w' => ∃ (x8_2 : Int) (x9_2 : Int), v8 = .int .i64 x8_2 ∧ v9 = .int .i64 x9_2 ∧ Aside0 (peristyleref15_Of.l1 kq (wrap64 (Int.tdiv (wrap64 (t290 + 63)) 64)) t291 x6_1 x7_1 x8_2 x9_2 = some (r1, r2)) ∧ Aside0 (kq ≤ k1) ∧ Aside0 (Kd.R Kd.bool 4 w' w.heap.size (fun _ => True) v292 t291) ∧ Aside0 (Kd.R (Kd.int .i64) 3 w' w.heap.size (fun _ => True) u6 x6_1) ∧ Aside0 (Below w.heap.size w w'))
     case atStart => exact ⟨(0), (0), (by first | rfl | (simp; done) | (simp [*]; done)), (by first | rfl | (simp; done) | (simp [*]; done)), H', ⟨Nat.le_refl _⟩, ⟨by (with_reducible repeat (first | apply Kd.R_alloc | apply Kd.R_drewN | apply Kd.R_drew)); exact HO_5.out⟩, ⟨by (with_reducible repeat (first | apply Kd.R_alloc | apply Kd.R_drewN | apply Kd.R_drew)); exact HO_6.out⟩, ⟨by repeat (first | (with_reducible first | exact HB.out | apply below_alloc | apply pw_below_drewN | apply below_drew1) | exact HB.out)⟩⟩
     case round =>
      clear H'
      try clear c1
      try clear p2
      try clear c3
      try clear p6
      try clear c7
      try clear c7b0
      try clear p2
      try clear p6
      obtain ⟨x8_2, x9_2, rfl, rfl, HA, HK2, HO_5, HO_6, HB⟩ := hrel
      cases gk with
      | zero => exact absurd HA.out (by simp [peristyleref15_Of.l1])
      | succ k2 =>
       have H := HA.out
       clear HA
       simp only [peristyleref15_Of.l1] at H
       by_cases c8 : x9_2 < 64
       ·rw [if_pos c8] at H
        have c8b0 : decide (x9_2 < 64) = true := decide_eq_true c8
        clear c8
        obtain ⟨ji9, hji9⟩ : ∃ j_ : Int, (wrap64 ((wrap64 (64 * x7_1)) + x9_2)) = j_ := ⟨_, rfl⟩
        replace H : (if 0 ≤ (ji9) then (if (ji9) < (t291.length : Int) then (if rdOf false t291 (ji9) = true then (if 0 ≤ x9_2 then (peristyleref15_Of.l1 k2 (wrap64 (Int.tdiv (wrap64 (t290 + 63)) 64)) t291 x6_1 x7_1 (Go.bits .or .i64 x8_2 (shl .i64 1 x9_2)) (wrap64 (x9_2 + 1))) else (none)) else (peristyleref15_Of.l1 k2 (wrap64 (Int.tdiv (wrap64 (t290 + 63)) 64)) t291 x6_1 x7_1 x8_2 (wrap64 (x9_2 + 1)))) else (none)) else (none)) = some (r1, r2) := by first | (rw [hji9] at H; exact H) | (simp only [hji9] at H ⊢; exact H)
        have hji9w : (IntKind.i64.wrap ((wrap64 (64 * x7_1)) + x9_2)) = ji9 := (i64_w _).trans hji9
        by_cases c10 : 0 ≤ (ji9)
        ·rw [if_pos c10] at H
         have c10b0 : decide (0 ≤ (ji9)) = true := decide_eq_true c10
         clear c10
         by_cases c11 : (ji9) < (t291.length : Int)
         ·rw [if_pos c11] at H
          have c11b0 : decide ((ji9) < (t291.length : Int)) = true := decide_eq_true c11
          clear c11
          obtain ⟨bq12, hbq12⟩ : ∃ b_ : Bool, b_ = (rdOf false t291 (ji9)) := ⟨_, rfl⟩
          replace H : (if bq12 = true then (if 0 ≤ x9_2 then (peristyleref15_Of.l1 k2 (wrap64 (Int.tdiv (wrap64 (t290 + 63)) 64)) t291 x6_1 x7_1 (Go.bits .or .i64 x8_2 (shl .i64 1 x9_2)) (wrap64 (x9_2 + 1))) else (none)) else (peristyleref15_Of.l1 k2 (wrap64 (Int.tdiv (wrap64 (t290 + 63)) 64)) t291 x6_1 x7_1 x8_2 (wrap64 (x9_2 + 1)))) = some (r1, r2) := by rw [← hbq12] at H; exact H
          have Nbq12 := Aside0.mk hbq12
          clear hbq12
          by_cases c13 : bq12 = true
          ·subst c13
           have H1 : (if 0 ≤ x9_2 then (peristyleref15_Of.l1 k2 (wrap64 (Int.tdiv (wrap64 (t290 + 63)) 64)) t291 x6_1 x7_1 (Go.bits .or .i64 x8_2 (shl .i64 1 x9_2)) (wrap64 (x9_2 + 1))) else (none)) = some (r1, r2) := by rw [if_pos rfl] at H; exact H
           clear H
           have H := H1
           clear H1
           by_cases c14 : 0 ≤ x9_2
           ·rw [if_pos c14] at H
            have c14b0 := eq_true c14
            have c14b1 : decide (0 ≤ x9_2) = true := decide_eq_true c14
            clear c14
            obtain ⟨ji15, hji15⟩ : ∃ j_ : Int, (shl .i64 1 x9_2) = j_ := ⟨_, rfl⟩
            replace H : (peristyleref15_Of.l1 k2 (wrap64 (Int.tdiv (wrap64 (t290 + 63)) 64)) t291 x6_1 x7_1 (Go.bits .or .i64 x8_2 (ji15)) (wrap64 (x9_2 + 1))) = some (r1, r2) := by first | (rw [hji15] at H; exact H) | (simp only [hji15] at H ⊢; exact H)
            have hji15_ : (IntKind.i64.wrap (1 * 2 ^ min x9_2.toNat 64)) = ji15 := hji15
            have hji15z : x9_2 ≤ 64 → (IntKind.i64.wrap (1 * 2 ^ x9_2.toNat)) = ji15 := shl_small hji15
            have hji15u : (IntKind.i64.wrap (2 ^ min x9_2.toNat 64)) = ji15 := by have h_ := hji15_; rw [Int.one_mul] at h_; exact h_
            have hji15v : x9_2 ≤ 64 → (IntKind.i64.wrap (2 ^ x9_2.toNat)) = ji15 := fun hle_ => by have h_ := hji15z hle_; rw [Int.one_mul] at h_; exact h_
            have hji15y : (wrap64 (1 * 2 ^ min x9_2.toNat 64)) = ji15 := (i64_w _).symm.trans hji15_
            have hji15x : x9_2 ≤ 64 → (wrap64 (1 * 2 ^ x9_2.toNat)) = ji15 := fun h_ => (i64_w _).symm.trans (hji15z h_)
            have H' := Aside0.mk H
            clear H
            obtain ⟨Ao16, co16, eo16⟩ := Kd.R_slice HO_5.out
            subst eo16
            have p294 : 0 ≤ ((ji9) : Int) := of_decide_eq_true (by assumption)
            have q294 : (ji9) < (t291.length : Int) := of_decide_eq_true (by assumption)
            obtain ⟨ad294, e294, hx294_0⟩ := Kd.at_bool (Kd.R_reads' HO_5.out).2.2 (ji9) p294 q294
            (try rw [← Nbq12.out] at hx294_0)
            cases e294
            replace p294 := eq_true p294
            replace q294 := eq_true q294
            go_wp2
            go_roundg k2
            case measure => have := HK1.out; have := HK2.out; omega
            case rel => exact ⟨(Go.bits .or .i64 x8_2 (ji15)), (wrap64 (x9_2 + 1)), (by first | rfl | (simp; done) | (simp only [← hji15] <;> (first | rfl | simp)) | (simp [*]; done)), (by first | rfl | (simp; done) | (simp [*]; done)), (by first | exact H' | (simp only [hji9, hji15]; exact H')), ⟨by have := HK1.out; have := HK2.out; omega⟩, ⟨by (with_reducible repeat (first | apply Kd.R_alloc | apply Kd.R_drewN | apply Kd.R_drew)); exact HO_5.out⟩, ⟨by (with_reducible repeat (first | apply Kd.R_alloc | apply Kd.R_drewN | apply Kd.R_drew)); exact HO_6.out⟩, ⟨by repeat (first | (with_reducible first | exact HB.out | apply below_alloc | apply pw_below_drewN | apply below_drew1) | exact HB.out)⟩⟩
           ·rw [if_neg c14] at H
            exact absurd H (by simp)
          ·replace c13 := Bool.eq_false_iff.mpr c13
           subst c13
           have H1 : (peristyleref15_Of.l1 k2 (wrap64 (Int.tdiv (wrap64 (t290 + 63)) 64)) t291 x6_1 x7_1 x8_2 (wrap64 (x9_2 + 1))) = some (r1, r2) := by rw [if_neg (show ¬ (false = true) by decide)] at H; exact H
           clear H
           have H := H1
           clear H1
           have H' := Aside0.mk H
           clear H
           obtain ⟨Ao17, co17, eo17⟩ := Kd.R_slice HO_5.out
           subst eo17
           have p294 : 0 ≤ ((ji9) : Int) := of_decide_eq_true (by assumption)
           have q294 : (ji9) < (t291.length : Int) := of_decide_eq_true (by assumption)
           obtain ⟨ad294, e294, hx294_0⟩ := Kd.at_bool (Kd.R_reads' HO_5.out).2.2 (ji9) p294 q294
           (try rw [← Nbq12.out] at hx294_0)
           cases e294
           replace p294 := eq_true p294
           replace q294 := eq_true q294
           go_wp2
           go_roundg k2
           case measure => have := HK1.out; have := HK2.out; omega
           case rel => exact ⟨(x8_2), (wrap64 (x9_2 + 1)), (by first | rfl | (simp; done) | (simp [*]; done)), (by first | rfl | (simp; done) | (simp [*]; done)), (by first | exact H' | (simp only [hji9]; exact H')), ⟨by have := HK1.out; have := HK2.out; omega⟩, ⟨by (with_reducible repeat (first | apply Kd.R_alloc | apply Kd.R_drewN | apply Kd.R_drew)); exact HO_5.out⟩, ⟨by (with_reducible repeat (first | apply Kd.R_alloc | apply Kd.R_drewN | apply Kd.R_drew)); exact HO_6.out⟩, ⟨by repeat (first | (with_reducible first | exact HB.out | apply below_alloc | apply pw_below_drewN | apply below_drew1) | exact HB.out)⟩⟩
         ·rw [if_neg c11] at H
          exact absurd H (by simp)
        ·rw [if_neg c10] at H
         exact absurd H (by simp)
       ·rw [if_neg c8] at H
        have c8b0 : decide (x9_2 < 64) = false := decide_eq_false c8
        clear c8
        by_cases c18 : x6_1.length < 17592186044416
        ·rw [if_pos c18] at H
         have LMc18 := Aside0.mk c18
         clear c18
         obtain ⟨y295, hy295⟩ : ∃ y_ : List Int, y_ = (x6_1 ++ [x8_2]) := ⟨_, rfl⟩
         replace H : (peristyleref15_Of.l0 k2 (wrap64 (Int.tdiv (wrap64 (t290 + 63)) 64)) t291 y295 (wrap64 (x7_1 + 1))) = some (r1, r2) := by first | (rw [hy295]; with_reducible exact H) | (have H2_ := (Option.bind_some _ _).symm.trans H; rw [hy295]; with_reducible exact H2_) | (have H2_ := (Option.bind_some _ _).symm.trans H; with_reducible exact H2_) | with_reducible exact H | (rw [hy295]; exact H) | exact H
         have Ny295 := Aside0.mk hy295
         clear hy295
         have H' := Aside0.mk H
         clear H
         go_wp2_with (first | ((with_reducible refine gate_builtin (b := .append) (xs := #[.tmp 41, .tmp 43]) rfl ?_); at_builtin; refine Kd.R_append (Kd.int .i64) (w0 := w) w.heap.size rfl (.tmp 41) (.tmp 43) 25 3 (.int .i64 0) 8 rfl Try.underlying25 info3 rfl (by decide) (by omega) u6 x6_1 x8_2 [.int .i64 x8_2] (fun _ => True) (fun _ => False) rfl rfl ?aP (fun _ hk => hk.elim) ?aF ?aO ?aB ?aS ?aL ?_; (case aP => exact rfl); (case aB => exact (by repeat (first | exact HB.out | apply below_alloc | apply pw_below_drewN | apply below_drew1))); (case aF => exact (fun _ _ => trivial)); (case aO => exact (by (with_reducible repeat (first | apply Kd.R_alloc | apply Kd.R_drewN | apply Kd.R_drew)); exact HO_6.out)); (case aS => exact (below_size (by repeat (first | exact HB.out | apply below_alloc | apply pw_below_drewN | apply below_drew1)))); (case aL => have := LMc18.out; omega); intro v296 w19 ho hb hg hat; rw [← Ny295.out] at ho; have n0_ := Aside0.mk (Kd.R_over' (by (with_reducible repeat (first | apply Kd.R_alloc | apply Kd.R_drewN | apply Kd.R_drew)); exact HO_5.out) (Kd.R_typed (by (with_reducible repeat (first | apply Kd.R_alloc | apply Kd.R_drewN | apply Kd.R_drew)); exact HO_6.out)) (by decide) hg); have n1_ := Aside0.mk (hb); have n2_ := Aside0.mk (ho); clear HO_5; clear HB; clear HO_6; have HO_5 := n0_; have HB := n1_; have HO297 := n2_; clear n0_ n1_ n2_; clear ho hb hg hat))
         go_roundg k2
         case measure => have := HK1.out; have := HK2.out; omega
         case rel => exact ⟨(y295), (wrap64 (x7_1 + 1)), (by first | rfl | (simp; done) | (simp [*]; done)), H', ⟨by have := HK1.out; have := HK2.out; omega⟩, ⟨by (with_reducible repeat (first | apply Kd.R_alloc | apply Kd.R_drewN | apply Kd.R_drew)); exact HO_5.out⟩, ⟨by (with_reducible repeat (first | apply Kd.R_alloc | apply Kd.R_drewN | apply Kd.R_drew)); exact HO297.out⟩, ⟨by repeat (first | (with_reducible first | exact HB.out | apply below_alloc | apply pw_below_drewN | apply below_drew1) | exact HB.out)⟩⟩
        ·rw [if_neg c18] at H
         exact absurd H (by simp)
    ·rw [if_neg c7] at H
     have c7b0 : decide (x7_1 < (wrap64 (Int.tdiv (wrap64 (t290 + 63)) 64))) = false := decide_eq_false c7
     clear c7
     simp only [Option.some.injEq, Prod.mk.injEq] at H
     obtain ⟨rfl, rfl⟩ := H
     go_wp2
     go_ret2
     exact ⟨_, by first | rfl | (simp [errW_none, errW_some] <;> rfl) | (simp [*, errW_none, errW_some] <;> rfl), by (with_reducible repeat (first | apply Kd.R_alloc | apply Kd.R_drewN | apply Kd.R_drew)); exact HO_6.out, by repeat (first | (with_reducible first | exact HB.out | apply below_alloc | apply pw_below_drewN | apply below_drew1) | exact HB.out)⟩
 ·replace c3 := Bool.eq_false_iff.mpr c3
  subst c3
  have H1 : (some (([] : List Int), 1)) = some (r1, r2) := by rw [if_neg (show ¬ (false = true) by decide)] at H; exact H
  clear H
  have H := H1
  clear H1
  simp only [Option.some.injEq, Prod.mk.injEq] at H
  obtain ⟨rfl, rfl⟩ := H
  go_enter Try.func10, Try.ntmps10
  go_wp2_with (first | ((with_reducible refine gate_callee (f := 32) rfl ?_); refine goesL_ (some 11) rfl rfl Try.func32 (by kernel_rfl) rfl #[.slice A0 l0.length c0] rfl (by (try simp only [List.map_toArray, List.map_cons, List.map_nil]); first | done | rfl) ?_; (with_reducible refine (peristyleref14_May.calls k _ _ l0 false _ ?side1 ?side2 A2.out).mono ?_); (case side1 => repeat (first | exact HR0.out | (with_reducible refine Kd.C_alloc ?_ _) | (with_reducible refine Kd.C_drewN ?_ _) | (with_reducible refine Kd.C_drew ?_))); (case side2 => exact HC0.out); rintro e w' ⟨rfl, ⟨nd, rfl⟩⟩; refine ⟨_, rfl, ?_⟩))
  go_ret2
  exact ⟨_, by first | rfl | (simp [errW_none, errW_some] <;> rfl) | (simp [*, errW_none, errW_some] <;> rfl), by first | exact Kd.R_nil _ _ _ _ _ | exact Kd.N_nil _ _ _ _ _ | exact Kd.V_nil _ _ _ _ _ | exact Kd.Q_nil _ _ _ _ _ | exact Kd.S_nil _ _ _ _ _, by repeat (first | (with_reducible first | exact HB.out | apply below_alloc | apply pw_below_drewN | apply below_drew1) | exact HB.out)⟩

end Go.Proofs.Ytgielanobeclnaa.Print
