-- Written by the session's own xprint (over the kit's print program): functions, contracts.
import Derived.Test.YtlhkjkldjhapeaaPrint0
import Derived.Test.YtlhkjkldjhapeaaPrint2
import Derived.Test.YtlhkjkldjhapeaaPrint8
namespace Go.Proofs.Ytlhkjkldjhapeaa.Print
open Go.RowKit Go.Proofs.YtlhkjkldjhapeaaW.PrintWords Go.Proofs.YtlhkjkldjhapeaaW.PrintLast Go.Proofs.YtlhkjkldjhapeaaW.PrintMore
attribute [local go_sem] max2_int min2_int max_two min_two max_three min_three max_four min_four   -- for this text's walks alone
set_option linter.unusedVariables false
set_option linter.unusedSimpArgs false

/-! ### peristyleref14_Both: function 22 -/
mutual
def peristyleref14_Both.j0 : Nat → Int → List (S43) → List (S43) → Bool → Option ((List (S43)) × Int)
 | 0, _, _, _, _ => none
 | k + 1, x0, x1, x2, x20 => if x20 = true then (some (([] : List (S43)), 1)) else ((peristyleref14_Top.f x1).bind fun t216 => ((peristyleref14_Top.f x2).bind fun t217 => ((peristyleref14_Set.f k x1 (mx t216 t217)).bind fun t218 => ((peristyleref14_Set.f k x2 (mx t216 t217)).bind fun t221 => (if 0 ≤ (mx t216 t217) then (if (mx t216 t217 : Int).toNat ≤ 281474976710656 then (peristyleref14_Both.l0 k x0 (mx t216 t217) t218 t221 (List.replicate (mx t216 t217 : Int).toNat false) 0) else (none)) else (none))))))
def peristyleref14_Both.l0 : Nat → Int → Int → List Bool → List Bool → List Bool → Int → Option ((List (S43)) × Int)
 | 0, _, _, _, _, _, _ => none
 | k + 1, x0, x8, x9, x10, x11, x12 => if x12 < x8 then (if x0 = 0 then (if 0 ≤ x12 then (if x12 < (x9.length : Int) then (if rdOf false x9 x12 = true then (if x12 < (x10.length : Int) then (if x12 < (x11.length : Int) then (peristyleref14_Both.l0 k x0 x8 x9 x10 (x11.set (x12 : Int).toNat (rdOf false x10 x12)) (wrap64 (x12 + 1))) else (none)) else (none)) else (if x12 < (x11.length : Int) then (peristyleref14_Both.l0 k x0 x8 x9 x10 (x11.set (x12 : Int).toNat false) (wrap64 (x12 + 1))) else (none))) else (none)) else (none)) else (if x0 = 1 then (if 0 ≤ x12 then (if x12 < (x9.length : Int) then (if rdOf false x9 x12 = true then (if x12 < (x11.length : Int) then (peristyleref14_Both.l0 k x0 x8 x9 x10 (x11.set (x12 : Int).toNat true) (wrap64 (x12 + 1))) else (none)) else (if x12 < (x10.length : Int) then (if x12 < (x11.length : Int) then (peristyleref14_Both.l0 k x0 x8 x9 x10 (x11.set (x12 : Int).toNat (rdOf false x10 x12)) (wrap64 (x12 + 1))) else (none)) else (none))) else (none)) else (none)) else (if 0 ≤ x12 then (if x12 < (x9.length : Int) then (if rdOf false x9 x12 = true then (if x12 < (x10.length : Int) then (if x12 < (x11.length : Int) then (peristyleref14_Both.l0 k x0 x8 x9 x10 (x11.set (x12 : Int).toNat (!(rdOf false x10 x12))) (wrap64 (x12 + 1))) else (none)) else (none)) else (if x12 < (x11.length : Int) then (peristyleref14_Both.l0 k x0 x8 x9 x10 (x11.set (x12 : Int).toNat false) (wrap64 (x12 + 1))) else (none))) else (none)) else (none)))) else ((peristyleref14_Spans.f k x11).bind fun t227 => (some (t227, 0)))
end
def peristyleref14_Both.f (k : Nat) (a0 : Int) (l1 : List (S43)) (l2 : List (S43)) : Option ((List (S43)) × Int) := (peristyleref14_May.f k l1).bind fun t214 => (if t214 = true then ((peristyleref14_May.f k l2).bind fun t215 => (peristyleref14_Both.j0 k a0 l1 l2 (!t215))) else (peristyleref14_Both.j0 k a0 l1 l2 true))
theorem peristyleref14_Both.j0_succ (k : Nat) (x0 : Int) (x1 : List (S43)) (x2 : List (S43)) (x20 : Bool) : peristyleref14_Both.j0 (k + 1) x0 x1 x2 x20 = (if x20 = true then (some (([] : List (S43)), 1)) else ((peristyleref14_Top.f x1).bind fun t216 => ((peristyleref14_Top.f x2).bind fun t217 => ((peristyleref14_Set.f k x1 (mx t216 t217)).bind fun t218 => ((peristyleref14_Set.f k x2 (mx t216 t217)).bind fun t221 => (if 0 ≤ (mx t216 t217) then (if (mx t216 t217 : Int).toNat ≤ 281474976710656 then (peristyleref14_Both.l0 k x0 (mx t216 t217) t218 t221 (List.replicate (mx t216 t217 : Int).toNat false) 0) else (none)) else (none))))))) := by
 simp only [peristyleref14_Both.j0]
theorem peristyleref14_Both.l0_succ (k : Nat) (x0 : Int) (x8 : Int) (x9 : List Bool) (x10 : List Bool) (x11 : List Bool) (x12 : Int) : peristyleref14_Both.l0 (k + 1) x0 x8 x9 x10 x11 x12 = (if x12 < x8 then (if x0 = 0 then (if 0 ≤ x12 then (if x12 < (x9.length : Int) then (if rdOf false x9 x12 = true then (if x12 < (x10.length : Int) then (if x12 < (x11.length : Int) then (peristyleref14_Both.l0 k x0 x8 x9 x10 (x11.set (x12 : Int).toNat (rdOf false x10 x12)) (wrap64 (x12 + 1))) else (none)) else (none)) else (if x12 < (x11.length : Int) then (peristyleref14_Both.l0 k x0 x8 x9 x10 (x11.set (x12 : Int).toNat false) (wrap64 (x12 + 1))) else (none))) else (none)) else (none)) else (if x0 = 1 then (if 0 ≤ x12 then (if x12 < (x9.length : Int) then (if rdOf false x9 x12 = true then (if x12 < (x11.length : Int) then (peristyleref14_Both.l0 k x0 x8 x9 x10 (x11.set (x12 : Int).toNat true) (wrap64 (x12 + 1))) else (none)) else (if x12 < (x10.length : Int) then (if x12 < (x11.length : Int) then (peristyleref14_Both.l0 k x0 x8 x9 x10 (x11.set (x12 : Int).toNat (rdOf false x10 x12)) (wrap64 (x12 + 1))) else (none)) else (none))) else (none)) else (none)) else (if 0 ≤ x12 then (if x12 < (x9.length : Int) then (if rdOf false x9 x12 = true then (if x12 < (x10.length : Int) then (if x12 < (x11.length : Int) then (peristyleref14_Both.l0 k x0 x8 x9 x10 (x11.set (x12 : Int).toNat (!(rdOf false x10 x12))) (wrap64 (x12 + 1))) else (none)) else (none)) else (if x12 < (x11.length : Int) then (peristyleref14_Both.l0 k x0 x8 x9 x10 (x11.set (x12 : Int).toNat false) (wrap64 (x12 + 1))) else (none))) else (none)) else (none)))) else ((peristyleref14_Spans.f k x11).bind fun t227 => (some (t227, 0)))) := by
 simp only [peristyleref14_Both.l0]
theorem peristyleref14_Both.mono_l : ∀ k, (∀ y0 y1 y2 y3, LeO (peristyleref14_Both.j0 k y0 y1 y2 y3) (peristyleref14_Both.j0 (k + 1) y0 y1 y2 y3)) ∧ (∀ y0 y1 y2 y3 y4 y5, LeO (peristyleref14_Both.l0 k y0 y1 y2 y3 y4 y5) (peristyleref14_Both.l0 (k + 1) y0 y1 y2 y3 y4 y5))
 | 0 => ⟨fun _ _ _ _ r h => by simp [peristyleref14_Both.j0] at h, fun _ _ _ _ _ _ r h => by simp [peristyleref14_Both.l0] at h⟩
 | k + 1 => by
  obtain ⟨ih0, ih1⟩ := peristyleref14_Both.mono_l k
  refine ⟨?_, ?_⟩
  ·intro y0 y1 y2 y3
   unfold peristyleref14_Both.j0
   repeat' first
   | (with_reducible exact ih0 _ _ _ _)
   | (with_reducible exact ih1 _ _ _ _ _ _)
   | (with_reducible exact peristyleref14_May.mono _ _)
   | (with_reducible exact peristyleref14_Set.mono _ _ _)
   | (with_reducible exact peristyleref14_Spans.mono _ _)
   | (with_reducible exact LeO.refl _)
   | (with_reducible exact LeO.none _)
   | (with_reducible refine LeO.ite ?_ ?_)
   | (with_reducible refine LeO.bind ?_ (fun _ => ?_))
   | exact ih0 _ _ _ _
   | exact ih1 _ _ _ _ _ _
   | exact peristyleref14_May.mono _ _
   | exact peristyleref14_Set.mono _ _ _
   | exact peristyleref14_Spans.mono _ _
   | exact LeO.none _
   | refine LeO.ite ?_ ?_
   | refine LeO.bind ?_ (fun _ => ?_)
  ·intro y0 y1 y2 y3 y4 y5
   unfold peristyleref14_Both.l0
   repeat' first
   | (with_reducible exact ih0 _ _ _ _)
   | (with_reducible exact ih1 _ _ _ _ _ _)
   | (with_reducible exact peristyleref14_May.mono _ _)
   | (with_reducible exact peristyleref14_Set.mono _ _ _)
   | (with_reducible exact peristyleref14_Spans.mono _ _)
   | (with_reducible exact LeO.refl _)
   | (with_reducible exact LeO.none _)
   | (with_reducible refine LeO.ite ?_ ?_)
   | (with_reducible refine LeO.bind ?_ (fun _ => ?_))
   | exact ih0 _ _ _ _
   | exact ih1 _ _ _ _ _ _
   | exact peristyleref14_May.mono _ _
   | exact peristyleref14_Set.mono _ _ _
   | exact peristyleref14_Spans.mono _ _
   | exact LeO.none _
   | refine LeO.ite ?_ ?_
   | refine LeO.bind ?_ (fun _ => ?_)
theorem peristyleref14_Both.mono : ∀ a0 a1 a2 k, LeO (peristyleref14_Both.f k a0 a1 a2) (peristyleref14_Both.f (k + 1) a0 a1 a2) := by
 intro a0 a1 a2 k
 obtain ⟨ih0, ih1⟩ := peristyleref14_Both.mono_l k
 unfold peristyleref14_Both.f
 repeat' first
   | (with_reducible exact ih0 _ _ _ _)
   | (with_reducible exact ih1 _ _ _ _ _ _)
   | (with_reducible exact peristyleref14_May.mono _ _)
   | (with_reducible exact peristyleref14_Set.mono _ _ _)
   | (with_reducible exact peristyleref14_Spans.mono _ _)
   | (with_reducible exact LeO.refl _)
   | (with_reducible exact LeO.none _)
   | (with_reducible refine LeO.ite ?_ ?_)
   | (with_reducible refine LeO.bind ?_ (fun _ => ?_))
   | exact ih0 _ _ _ _
   | exact ih1 _ _ _ _ _ _
   | exact peristyleref14_May.mono _ _
   | exact peristyleref14_Set.mono _ _ _
   | exact peristyleref14_Spans.mono _ _
   | exact LeO.none _
   | refine LeO.ite ?_ ?_
   | refine LeO.bind ?_ (fun _ => ?_)
set_option maxHeartbeats 8000000 in
set_option maxRecDepth 100000 in
theorem peristyleref14_Both.calls (k : Nat) (a0 : Int) (A1 : Option Addr) (c1 : Nat) (l1 : List (S43)) (A2 : Option Addr) (c2 : Nat) (l2 : List (S43)) (r1 : List (S43)) (r2 : Int) (w : World) (hr1 : Kd.C k43 w A1 l1.length l1) (hc1 : l1.length ≤ c1) (hr2 : Kd.C k43 w A2 l2.length l2) (hc2 : l2.length ≤ c2) (h : peristyleref14_Both.f k a0 l1 l2 = some (r1, r2)) :
  Calls Try.prog 22 #[.int .i64 a0, .slice A1 l1.length c1, .slice A2 l2.length c2] w fun e w' => ∃ v0_ : Value, e = .returned (.tuple #[v0_, .int .i64 r2]) ∧ Kd.R k43 43 w' w.heap.size (fun _ => True) v0_ r1 ∧ Below w.heap.size w w' := by
 have HR1 := Aside0.mk hr1
 have HC1 := Aside0.mk hc1
 clear hr1 hc1
 have HR2 := Aside0.mk hr2
 have HC2 := Aside0.mk hc2
 clear hr2 hc2
 have HB := Aside0.mk (Below.refl w.heap.size w)
 have H : ((peristyleref14_May.f k l1).bind fun t214 => (if t214 = true then ((peristyleref14_May.f k l2).bind fun t215 => (peristyleref14_Both.j0 k a0 l1 l2 (!t215))) else (peristyleref14_Both.j0 k a0 l1 l2 true))) = some (r1, r2) := h
 clear h
 have HC4 := Aside0.mk H
 clear H
 go_enter Try.func22, Try.ntmps22
 go_upto_region 1 with (fail)
 go_cut [20] (fun v20 wc => ∃ (kq : Nat) (x20_3 : Bool), v20 = .bool x20_3 ∧ Aside0 (peristyleref14_Both.j0 kq a0 l1 l2 x20_3 = some (r1, r2)) ∧ Aside0 (kq ≤ k) ∧ Aside0 (Below w.heap.size w wc))
 case first =>
  have H := HC4.out
  clear HC4
  replace H := Option.bind_eq_some_iff.mp H
  obtain ⟨t214, A50, H⟩ := H
  replace H : (if t214 = true then ((peristyleref14_May.f k l2).bind fun t215 => (peristyleref14_Both.j0 k a0 l1 l2 (!t215))) else (peristyleref14_Both.j0 k a0 l1 l2 true)) = some (r1, r2) := H
  have A5 := Aside0.mk A50
  clear A50
  by_cases c6 : t214 = true
  ·subst c6
   have H1 : ((peristyleref14_May.f k l2).bind fun t215 => (peristyleref14_Both.j0 k a0 l1 l2 (!t215))) = some (r1, r2) := by rw [if_pos rfl] at H; exact H
   clear H
   have H := H1
   clear H1
   replace H := Option.bind_eq_some_iff.mp H
   obtain ⟨t215, A70, H⟩ := H
   replace H : (peristyleref14_Both.j0 k a0 l1 l2 (!t215)) = some (r1, r2) := H
   have A7 := Aside0.mk A70
   clear A70
   have H' := Aside0.mk H
   clear H
   go_wp2_with (first | ((with_reducible refine gate_callee (f := 16) rfl ?_); refine goesL_ (some 14) rfl rfl Try.func16 (by kernel_rfl) rfl #[.slice A1 l1.length c1] rfl (by (try simp only [List.map_toArray, List.map_cons, List.map_nil]); first | done | rfl) ?_; (with_reducible refine (peristyleref14_May.calls k _ _ l1 true _ ?side1 ?side2 A5.out).mono ?_); (case side1 => repeat (first | exact (Kd.C_below HR1.out HB.out) | (with_reducible refine Kd.C_alloc ?_ _) | (with_reducible refine Kd.C_drewN ?_ _) | (with_reducible refine Kd.C_drew ?_))); (case side2 => exact HC1.out); rintro e w' ⟨rfl, ⟨nd, rfl⟩⟩; refine ⟨_, rfl, ?_⟩) | (go_at_call 16; (with_reducible refine (peristyleref14_May.calls k _ _ l2 t215 _ ?side1 ?side2 A7.out).mono ?_); (case side1 => repeat (first | exact (Kd.C_below HR2.out (by repeat (first | exact HB.out | apply below_alloc | apply pw_below_drewN | apply below_drew1))) | (with_reducible refine Kd.C_alloc ?_ _) | (with_reducible refine Kd.C_drewN ?_ _) | (with_reducible refine Kd.C_drew ?_))); (case side2 => exact HC2.out); rintro e w' ⟨rfl, ⟨nd, rfl⟩⟩; (try clear A7)))
   go_meet
   case rel => exact ⟨_, (!t215), (by first | rfl | (simp; done) | (simp [*]; done)), H', ⟨by first | omega | exact Nat.le_refl _⟩, ⟨by repeat (first | (with_reducible first | exact HB.out | apply below_alloc | apply pw_below_drewN | apply below_drew1) | exact HB.out)⟩⟩
  ·replace c6 := Bool.eq_false_iff.mpr c6
   subst c6
   have H1 : (peristyleref14_Both.j0 k a0 l1 l2 true) = some (r1, r2) := by rw [if_neg (show ¬ (false = true) by decide)] at H; exact H
   clear H
   have H := H1
   clear H1
   have H' := Aside0.mk H
   clear H
   go_wp2_with (first | ((with_reducible refine gate_callee (f := 16) rfl ?_); refine goesL_ (some 14) rfl rfl Try.func16 (by kernel_rfl) rfl #[.slice A1 l1.length c1] rfl (by (try simp only [List.map_toArray, List.map_cons, List.map_nil]); first | done | rfl) ?_; (with_reducible refine (peristyleref14_May.calls k _ _ l1 false _ ?side1 ?side2 A5.out).mono ?_); (case side1 => repeat (first | exact (Kd.C_below HR1.out HB.out) | (with_reducible refine Kd.C_alloc ?_ _) | (with_reducible refine Kd.C_drewN ?_ _) | (with_reducible refine Kd.C_drew ?_))); (case side2 => exact HC1.out); rintro e w' ⟨rfl, ⟨nd, rfl⟩⟩; refine ⟨_, rfl, ?_⟩))
   go_meet
   case rel => exact ⟨_, (true), (by first | rfl | (simp; done) | (simp [*]; done)), H', ⟨by first | omega | exact Nat.le_refl _⟩, ⟨by repeat (first | (with_reducible first | exact HB.out | apply below_alloc | apply pw_below_drewN | apply below_drew1) | exact HB.out)⟩⟩
 case rest =>
  clear HC4
  try clear c1
  try clear c2
  try clear p2
  try clear c6
  obtain ⟨kq, x20_3, rfl, HA, HJ3, HB⟩ := hcut
  cases kq with
  | zero => exact absurd HA.out (by simp [peristyleref14_Both.j0])
  | succ kj3 =>
   have H := HA.out
   clear HA
   simp only [peristyleref14_Both.j0] at H
   by_cases c8 : x20_3 = true
   ·subst c8
    have H1 : (some (([] : List (S43)), 1)) = some (r1, r2) := by rw [if_pos rfl] at H; exact H
    clear H
    have H := H1
    clear H1
    simp only [Option.some.injEq, Prod.mk.injEq] at H
    obtain ⟨rfl, rfl⟩ := H
    go_wp2
    go_ret2
    exact ⟨_, by first | rfl | (simp [errW_none, errW_some] <;> rfl) | (simp [*, errW_none, errW_some] <;> rfl), by first | exact Kd.R_nil _ _ _ _ _ | exact Kd.N_nil _ _ _ _ _ | exact Kd.V_nil _ _ _ _ _ | exact Kd.Q_nil _ _ _ _ _ | exact Kd.S_nil _ _ _ _ _, by repeat (first | (with_reducible first | exact HB.out | apply below_alloc | apply pw_below_drewN | apply below_drew1) | exact HB.out)⟩
   ·replace c8 := Bool.eq_false_iff.mpr c8
    subst c8
    have H1 : ((peristyleref14_Top.f l1).bind fun t216 => ((peristyleref14_Top.f l2).bind fun t217 => ((peristyleref14_Set.f kj3 l1 (mx t216 t217)).bind fun t218 => ((peristyleref14_Set.f kj3 l2 (mx t216 t217)).bind fun t221 => (if 0 ≤ (mx t216 t217) then (if (mx t216 t217 : Int).toNat ≤ 281474976710656 then (peristyleref14_Both.l0 kj3 a0 (mx t216 t217) t218 t221 (List.replicate (mx t216 t217 : Int).toNat false) 0) else (none)) else (none)))))) = some (r1, r2) := by rw [if_neg (show ¬ (false = true) by decide)] at H; exact H
    clear H
    have H := H1
    clear H1
    replace H := Option.bind_eq_some_iff.mp H
    obtain ⟨t216, A90, H⟩ := H
    replace H : ((peristyleref14_Top.f l2).bind fun t217 => ((peristyleref14_Set.f kj3 l1 (mx t216 t217)).bind fun t218 => ((peristyleref14_Set.f kj3 l2 (mx t216 t217)).bind fun t221 => (if 0 ≤ (mx t216 t217) then (if (mx t216 t217 : Int).toNat ≤ 281474976710656 then (peristyleref14_Both.l0 kj3 a0 (mx t216 t217) t218 t221 (List.replicate (mx t216 t217 : Int).toNat false) 0) else (none)) else (none))))) = some (r1, r2) := H
    have A9 := Aside0.mk A90
    clear A90
    replace H := Option.bind_eq_some_iff.mp H
    obtain ⟨t217, A100, H⟩ := H
    replace H : ((peristyleref14_Set.f kj3 l1 (mx t216 t217)).bind fun t218 => ((peristyleref14_Set.f kj3 l2 (mx t216 t217)).bind fun t221 => (if 0 ≤ (mx t216 t217) then (if (mx t216 t217 : Int).toNat ≤ 281474976710656 then (peristyleref14_Both.l0 kj3 a0 (mx t216 t217) t218 t221 (List.replicate (mx t216 t217 : Int).toNat false) 0) else (none)) else (none)))) = some (r1, r2) := H
    have A10 := Aside0.mk A100
    clear A100
    obtain ⟨ji11, hji11⟩ : ∃ j_ : Int, (mx t216 t217) = j_ := ⟨_, rfl⟩
    replace H : ((peristyleref14_Set.f kj3 l1 (ji11)).bind fun t218 => ((peristyleref14_Set.f kj3 l2 (ji11)).bind fun t221 => (if 0 ≤ (ji11) then (if (ji11 : Int).toNat ≤ 281474976710656 then (peristyleref14_Both.l0 kj3 a0 ji11 t218 t221 (List.replicate (ji11 : Int).toNat false) 0) else (none)) else (none)))) = some (r1, r2) := by first | (rw [hji11] at H; exact H) | (simp only [hji11] at H ⊢; exact H)
    (try rw [hji11] at A9)
    (try rw [hji11] at A10)
    have hji11_ : (if t216 < t217 then t217 else t216) = ji11 := hji11
    replace H := Option.bind_eq_some_iff.mp H
    obtain ⟨t218, A120, H⟩ := H
    replace H : ((peristyleref14_Set.f kj3 l2 (ji11)).bind fun t221 => (if 0 ≤ (ji11) then (if (ji11 : Int).toNat ≤ 281474976710656 then (peristyleref14_Both.l0 kj3 a0 ji11 t218 t221 (List.replicate (ji11 : Int).toNat false) 0) else (none)) else (none))) = some (r1, r2) := H
    have A12 := Aside0.mk A120
    clear A120
    replace H := Option.bind_eq_some_iff.mp H
    obtain ⟨t221, A130, H⟩ := H
    replace H : (if 0 ≤ (ji11) then (if (ji11 : Int).toNat ≤ 281474976710656 then (peristyleref14_Both.l0 kj3 a0 ji11 t218 t221 (List.replicate (ji11 : Int).toNat false) 0) else (none)) else (none)) = some (r1, r2) := H
    have A13 := Aside0.mk A130
    clear A130
    by_cases c14 : 0 ≤ (ji11)
    ·rw [if_pos c14] at H
     have c14b0 := eq_true c14
     have c14b1 : decide (0 ≤ (ji11)) = true := decide_eq_true c14
     clear c14
     by_cases c15 : (ji11 : Int).toNat ≤ 281474976710656
     ·rw [if_pos c15] at H
      have c15b0 := eq_true c15
      have c15b1 : decide ((ji11 : Int).toNat ≤ 281474976710656) = true := decide_eq_true c15
      clear c15
      obtain ⟨y224, hy224⟩ : ∃ y_ : List Bool, y_ = (List.replicate (ji11 : Int).toNat false) := ⟨_, rfl⟩
      replace H : (peristyleref14_Both.l0 kj3 a0 ji11 t218 t221 y224 0) = some (r1, r2) := by first | (rw [hy224]; with_reducible exact H) | (have H2_ := (Option.bind_some _ _).symm.trans H; rw [hy224]; with_reducible exact H2_) | (have H2_ := (Option.bind_some _ _).symm.trans H; with_reducible exact H2_) | with_reducible exact H | (rw [hy224]; exact H) | exact H
      have Ny224 := Aside0.mk hy224
      clear hy224
      have H' := Aside0.mk H
      clear H
      go_wp2_with (first | ((with_reducible refine gate_callee (f := 37) rfl ?_); refine goesL_ (some 22) rfl rfl Try.func37 (by kernel_rfl) rfl #[.slice A1 l1.length c1] rfl (by (try simp only [List.map_toArray, List.map_cons, List.map_nil]); first | done | rfl) ?_; (with_reducible refine (peristyleref14_Top.calls _ _ l1 t216 _ ?side1 ?side2 A9.out).mono ?_); (case side1 => repeat (first | exact (Kd.C_below HR1.out HB.out) | (with_reducible refine Kd.C_alloc ?_ _) | (with_reducible refine Kd.C_drewN ?_ _) | (with_reducible refine Kd.C_drew ?_))); (case side2 => exact HC1.out); rintro e w' ⟨rfl, ⟨nd, rfl⟩⟩; refine ⟨_, rfl, ?_⟩) | ((with_reducible refine gate_callee (f := 37) rfl ?_); refine goesL_ (some 24) rfl rfl Try.func37 (by kernel_rfl) rfl #[.slice A2 l2.length c2] rfl (by (try simp only [List.map_toArray, List.map_cons, List.map_nil]); first | done | rfl) ?_; (with_reducible refine (peristyleref14_Top.calls _ _ l2 t217 _ ?side1 ?side2 A10.out).mono ?_); (case side1 => repeat (first | exact (Kd.C_below HR2.out (by repeat (first | exact HB.out | apply below_alloc | apply pw_below_drewN | apply below_drew1))) | (with_reducible refine Kd.C_alloc ?_ _) | (with_reducible refine Kd.C_drewN ?_ _) | (with_reducible refine Kd.C_drew ?_))); (case side2 => exact HC2.out); rintro e w' ⟨rfl, ⟨nd, rfl⟩⟩; refine ⟨_, rfl, ?_⟩) | ((with_reducible refine gate_callee (f := 42) rfl ?_); refine goesL_ (some 28) rfl rfl Try.func42 (by kernel_rfl) rfl #[.slice A1 l1.length c1, .int .i64 ji11] rfl (by (try simp only [List.map_toArray, List.map_cons, List.map_nil]); first | done | (simp only [hji11]; rfl) | rfl | (simp only [List.length_drop, List.length_take]; rfl)) ?_; (with_reducible refine (peristyleref14_Set.calls kj3 _ _ l1 ji11 t218 _ ?side1 ?side2 A12.out).mono ?_); (case side1 => repeat (first | exact (Kd.C_below HR1.out (by repeat (first | exact HB.out | apply below_alloc | apply pw_below_drewN | apply below_drew1))) | (with_reducible refine Kd.C_alloc ?_ _) | (with_reducible refine Kd.C_drewN ?_ _) | (with_reducible refine Kd.C_drew ?_))); (case side2 => exact HC1.out); rintro e w16 ⟨v219, rfl, ho0, hb⟩; refine ⟨_, rfl, ?_⟩; have n0_ := Aside0.mk (Kd.R_lower ho0 (below_size (by repeat (first | exact HB.out | apply below_alloc | apply pw_below_drewN | apply below_drew1)))); have n1_ := Aside0.mk (below_step (by repeat (first | exact HB.out | apply below_alloc | apply pw_below_drewN | apply below_drew1)) hb); clear HB; have HO220 := n0_; have HB := n1_; clear n0_ n1_; (try clear hb); (try clear hk); (try clear ho0)) | ((with_reducible refine gate_callee (f := 42) rfl ?_); refine goesL_ (some 31) rfl rfl Try.func42 (by kernel_rfl) rfl #[.slice A2 l2.length c2, .int .i64 ji11] rfl (by (try simp only [List.map_toArray, List.map_cons, List.map_nil]); first | done | (simp only [hji11]; rfl) | rfl | (simp only [List.length_drop, List.length_take]; rfl)) ?_; (with_reducible refine (peristyleref14_Set.calls kj3 _ _ l2 ji11 t221 _ ?side1 ?side2 A13.out).mono ?_); (case side1 => repeat (first | exact (Kd.C_below HR2.out HB.out) | (with_reducible refine Kd.C_alloc ?_ _) | (with_reducible refine Kd.C_drewN ?_ _) | (with_reducible refine Kd.C_drew ?_))); (case side2 => exact HC2.out); rintro e w17 ⟨v222, rfl, ho0, hb⟩; refine ⟨_, rfl, ?_⟩; have n0_ := Aside0.mk (Kd.R_elder' (by (with_reducible repeat (first | apply Kd.R_alloc | apply Kd.R_drewN | apply Kd.R_drew)); exact HO220.out) (Kd.R_base ho0) hb); have n1_ := Aside0.mk (Kd.R_lower (Kd.R_new' ho0 (Kd.R_lt (by (with_reducible repeat (first | apply Kd.R_alloc | apply Kd.R_drewN | apply Kd.R_drew)); exact HO220.out))) (below_size (by repeat (first | exact HB.out | apply below_alloc | apply pw_below_drewN | apply below_drew1)))); have n2_ := Aside0.mk (below_step (by repeat (first | exact HB.out | apply below_alloc | apply pw_below_drewN | apply below_drew1)) hb); clear HO220; clear HB; have HO220 := n0_; have HO223 := n1_; have HB := n2_; clear n0_ n1_ n2_; (try clear hb); (try clear hk); (try clear ho0)) | ((with_reducible refine gate_dst (N := 33) rfl ?_); refine Kd.R_make Kd.bool _ 4 rfl (N := 33) rfl 49 _ _ rfl ji11 (by first | rfl | exact congrArg (Value.int .i64) hji11_ | (refine congrArg (Value.int .i64) ?_; have hq_ := hji11_; split at hq_ <;> split <;> omega)) (by first | rfl | exact congrArg (Value.int .i64) hji11_ | (refine congrArg (Value.int .i64) ?_; have hq_ := hji11_; split at hq_ <;> split <;> omega)) Try.underlying49 (.bool false) 1 info4 rfl (by decide) (by omega) false (ok := fun _ => True) (okp := fun _ => True) rfl (fun _ hk => hk) trivial (of_decide_eq_true (by assumption)) (Nat.le_trans (Nat.mul_le_mul_right _ (of_decide_eq_true (by assumption) : ji11.toNat ≤ 281474976710656)) (by omega)) (Below.refl _ _) (Nat.le_refl _) ?_; intro v225 w18 ho19 hb hg_ hnew_; clear hg_ hnew_; (first | rw [← Ny224.out] at ho19 | (simp only [Int.reduceToNat] at ho19; rw [← Ny224.out] at ho19)); have n0_ := Aside0.mk (Kd.R_elder' (by (with_reducible repeat (first | apply Kd.R_alloc | apply Kd.R_drewN | apply Kd.R_drew)); exact HO220.out) (Kd.R_base ho19) hb); have n1_ := Aside0.mk (Kd.R_elder' (by (with_reducible repeat (first | apply Kd.R_alloc | apply Kd.R_drewN | apply Kd.R_drew)); exact HO223.out) (Kd.R_base ho19) hb); have n2_ := Aside0.mk (Kd.R_lower (Kd.R_new' (Kd.R_new' ho19 (Kd.R_lt (by (with_reducible repeat (first | apply Kd.R_alloc | apply Kd.R_drewN | apply Kd.R_drew)); exact HO220.out))) (Kd.R_lt (by (with_reducible repeat (first | apply Kd.R_alloc | apply Kd.R_drewN | apply Kd.R_drew)); exact HO223.out))) (below_size (by repeat (first | exact HB.out | apply below_alloc | apply pw_below_drewN | apply below_drew1)))); have n3_ := Aside0.mk (below_step (by repeat (first | exact HB.out | apply below_alloc | apply pw_below_drewN | apply below_drew1)) hb); clear HO220; clear HO223; clear HB; have HO220 := n0_; have HO223 := n1_; have HO226 := n2_; have HB := n3_; clear n0_ n1_ n2_ n3_; clear hb ho19))
      go_loopg [12] kj3 (fun kq v12 w' => ∃ (x11_2 : List Bool) (x12_2 : Int), v12 = .int .i64 x12_2 ∧ Aside0 (peristyleref14_Both.l0 kq a0 ji11 t218 t221 x11_2 x12_2 = some (r1, r2)) ∧ Aside0 (kq ≤ kj3) ∧ Aside0 (Kd.R Kd.bool 4 w' w.heap.size (fun k_ => some k_ ≠ (v222 : Value).ownBlock ∧ some k_ ≠ (v225 : Value).ownBlock) v219 t218) ∧ Aside0 (Kd.R Kd.bool 4 w' w.heap.size (fun k_ => some k_ ≠ (v219 : Value).ownBlock ∧ some k_ ≠ (v225 : Value).ownBlock) v222 t221) ∧ Aside0 (Kd.R Kd.bool 4 w' w.heap.size (fun k_ => some k_ ≠ (v219 : Value).ownBlock ∧ some k_ ≠ (v222 : Value).ownBlock) v225 x11_2) ∧ Aside0 (Below w.heap.size w w'))
      case atStart => exact ⟨(y224), (0), (by first | rfl | (simp; done) | (simp [*]; done)), H', ⟨Nat.le_refl _⟩, ⟨by (with_reducible repeat (first | apply Kd.R_alloc | apply Kd.R_drewN | apply Kd.R_drew)); exact Kd.R_mono HO220.out (fun _ hk => ⟨hk.1.2, hk.2⟩)⟩, ⟨by (with_reducible repeat (first | apply Kd.R_alloc | apply Kd.R_drewN | apply Kd.R_drew)); exact Kd.R_mono HO223.out (fun _ hk => ⟨hk.1.2, hk.2⟩)⟩, ⟨by (with_reducible repeat (first | apply Kd.R_alloc | apply Kd.R_drewN | apply Kd.R_drew)); exact Kd.R_mono HO226.out (fun _ hk => ⟨hk.1.2, hk.2⟩)⟩, ⟨by repeat (first | (with_reducible first | exact HB.out | apply below_alloc | apply pw_below_drewN | apply below_drew1) | exact HB.out)⟩⟩
      case round =>
       clear H'
       try clear c1
       try clear c2
       try clear p2
       try clear c3
       try clear c4
       try clear c6
       try clear c8
       try clear c14
       try clear c14b0
       try clear c14b1
       try clear c15
       try clear c15b0
       try clear c15b1
       try clear c16
       try clear p2
       obtain ⟨x11_2, x12_2, rfl, HA, HK2, HO_9, HO_10, HO_11, HB⟩ := hrel
       cases gk with
       | zero => exact absurd HA.out (by simp [peristyleref14_Both.l0])
       | succ k2 =>
        have H := HA.out
        clear HA
        simp only [peristyleref14_Both.l0] at H
        by_cases c20 : x12_2 < ji11
        ·rw [if_pos c20] at H
         have c20b0 : decide (x12_2 < ji11) = true := decide_eq_true c20
         clear c20
         by_cases c21 : a0 = 0
         ·rw [if_pos c21] at H
          have c21b0 : (a0 == 0) = true := beq_iff_eq.mpr c21
          have c21b1 : (a0 != 0) = false := bne_eq_false_iff_eq.mpr c21
          clear c21
          by_cases c22 : 0 ≤ x12_2
          ·rw [if_pos c22] at H
           have c22b0 : decide (0 ≤ x12_2) = true := decide_eq_true c22
           clear c22
           by_cases c23 : x12_2 < (t218.length : Int)
           ·rw [if_pos c23] at H
            have c23b0 : decide (x12_2 < (t218.length : Int)) = true := decide_eq_true c23
            clear c23
            obtain ⟨bq24, hbq24⟩ : ∃ b_ : Bool, b_ = (rdOf false t218 x12_2) := ⟨_, rfl⟩
            replace H : (if bq24 = true then (if x12_2 < (t221.length : Int) then (if x12_2 < (x11_2.length : Int) then (peristyleref14_Both.l0 k2 a0 ji11 t218 t221 (x11_2.set (x12_2 : Int).toNat (rdOf false t221 x12_2)) (wrap64 (x12_2 + 1))) else (none)) else (none)) else (if x12_2 < (x11_2.length : Int) then (peristyleref14_Both.l0 k2 a0 ji11 t218 t221 (x11_2.set (x12_2 : Int).toNat false) (wrap64 (x12_2 + 1))) else (none))) = some (r1, r2) := by rw [← hbq24] at H; exact H
            have Nbq24 := Aside0.mk hbq24
            clear hbq24
            by_cases c25 : bq24 = true
            ·subst c25
             have H1 : (if x12_2 < (t221.length : Int) then (if x12_2 < (x11_2.length : Int) then (peristyleref14_Both.l0 k2 a0 ji11 t218 t221 (x11_2.set (x12_2 : Int).toNat (rdOf false t221 x12_2)) (wrap64 (x12_2 + 1))) else (none)) else (none)) = some (r1, r2) := by rw [if_pos rfl] at H; exact H
             clear H
             have H := H1
             clear H1
             by_cases c26 : x12_2 < (t221.length : Int)
             ·rw [if_pos c26] at H
              have c26b0 : decide (x12_2 < (t221.length : Int)) = true := decide_eq_true c26
              clear c26
              by_cases c27 : x12_2 < (x11_2.length : Int)
              ·rw [if_pos c27] at H
               have c27b0 : decide (x12_2 < (x11_2.length : Int)) = true := decide_eq_true c27
               clear c27
               obtain ⟨y232, hy232⟩ : ∃ y_ : List Bool, y_ = (x11_2.set (x12_2 : Int).toNat (rdOf false t221 x12_2)) := ⟨_, rfl⟩
               replace H : (peristyleref14_Both.l0 k2 a0 ji11 t218 t221 y232 (wrap64 (x12_2 + 1))) = some (r1, r2) := by first | (rw [hy232]; with_reducible exact H) | (have H2_ := (Option.bind_some _ _).symm.trans H; rw [hy232]; with_reducible exact H2_) | (have H2_ := (Option.bind_some _ _).symm.trans H; with_reducible exact H2_) | with_reducible exact H | (rw [hy232]; exact H) | exact H
               have Ny232 := Aside0.mk hy232
               clear hy232
               have H' := Aside0.mk H
               clear H
               obtain ⟨Ao29, co29, eo29⟩ := Kd.R_slice HO_9.out
               subst eo29
               have p230 : 0 ≤ (x12_2 : Int) := of_decide_eq_true (by assumption)
               have q230 : x12_2 < (t218.length : Int) := of_decide_eq_true (by assumption)
               obtain ⟨ad230, e230, hx230_0⟩ := Kd.at_bool (Kd.R_reads' HO_9.out).2.2 x12_2 p230 q230
               (try rw [← Nbq24.out] at hx230_0)
               cases e230
               replace p230 := eq_true p230
               replace q230 := eq_true q230
               obtain ⟨Ao30, co30, eo30⟩ := Kd.R_slice HO_10.out
               subst eo30
               have p231 : 0 ≤ (x12_2 : Int) := of_decide_eq_true (by assumption)
               have q231 : x12_2 < (t221.length : Int) := of_decide_eq_true (by assumption)
               obtain ⟨ad231, e231, hx231_0⟩ := Kd.at_bool (Kd.R_reads' HO_10.out).2.2 x12_2 p231 q231
               (try rw [← Nbq24.out] at hx231_0)
               cases e231
               replace p231 := eq_true p231
               replace q231 := eq_true q231
               have p28 : 0 ≤ (x12_2 : Int) := of_decide_eq_true (by assumption)
               have q28 : (x12_2 : Int) < ((x11_2.length : Int) : Int) := of_decide_eq_true (by assumption)
               obtain ⟨go28, co28, eo28, gb28, gl28, cl28, HG28⟩ := Kd.R_form HO_11.out (by omega)
               (first | cases eo28 | (injection eo28 with ea_ en_ ec_; (first | subst ea_ | (injection ea_ with ea_; subst ea_)); subst ec_; clear en_))
               have GB28 := Aside0.mk gb28
               have GG28 := Aside0.mk HG28
               clear gb28 gl28 HG28
               obtain ⟨hx28_0, hf28_0⟩ := Kd.R_celln false HO_11.out (x12_2 : Int) p28 q28
               replace p28 := eq_true p28
               replace q28 := eq_true q28
               have HP31 := Kd.R_putg HO_11.out (x12_2 : Int) (rdOf false t221 x12_2)
               go_wp2_with (first | ((with_reducible refine gate_store (t := 4) (p := 68) rfl ?_); refine store_event (t := 4) (p := 68) (v := ?vo_w32) (w1 := (wr.setCell ⟨go28, (x12_2 : Int).toNat, none⟩ (.bool (rdOf false t221 x12_2)))) ?hg ?ho ?hn ?hr ?_; (case ho => rfl); (case hg => rfl); (case hn => rfl); (case hr => first | (go_simp; done) | (go_simp; rfl)); intro w32 hw; have hg : wr.grownBy w32 (some go28) := (by rw [hw]; exact HP31.2); have hp_ : Kd.R Kd.bool 4 w32 w.heap.size (fun k_ => some k_ ≠ (.slice (some ad230) t218.length co29 : Value).ownBlock ∧ some k_ ≠ (.slice (some ad231) t221.length co30 : Value).ownBlock) (.slice (some ⟨go28, 0, none⟩) x11_2.length co28) y232 := (by rw [hw, Ny232.out]; exact HP31.1); clear HP31; have n0_ := Aside0.mk (Kd.R_after (v := (.slice (some ⟨go28, 0, none⟩) x11_2.length co28)) (v1 := (.slice (some ⟨go28, 0, none⟩) x11_2.length co28)) (ok := (fun k_ => some k_ ≠ (.slice (some ad231) t221.length co30 : Value).ownBlock)) (by (with_reducible repeat (first | apply Kd.R_alloc | apply Kd.R_drewN | apply Kd.R_drew)); exact HO_9.out) hg (.inl rfl)); have n1_ := Aside0.mk (Kd.R_after (v := (.slice (some ⟨go28, 0, none⟩) x11_2.length co28)) (v1 := (.slice (some ⟨go28, 0, none⟩) x11_2.length co28)) (ok := (fun k_ => some k_ ≠ (.slice (some ad230) t218.length co29 : Value).ownBlock)) (by (with_reducible repeat (first | apply Kd.R_alloc | apply Kd.R_drewN | apply Kd.R_drew)); exact HO_10.out) hg (.inl rfl)); have n2_ := Aside0.mk (hp_); have n3_ := Aside0.mk ((by rw [hw]; exact below_set (HB.out) GB28.out : Below w.heap.size w w32)); clear HO_9; clear HO_10; clear HO_11; clear HB; have HO_9 := n0_; have HO_10 := n1_; have HO_11 := n2_; have HB := n3_; clear n0_ n1_ n2_ n3_; clear hg hw hp_))
               go_roundg k2
               case measure => have := HJ3.out; have := HK2.out; omega
               case rel => exact ⟨(y232), (wrap64 (x12_2 + 1)), (by first | rfl | (simp; done) | (simp [*]; done)), (by first | exact H' | (simp only [hji11]; exact H')), ⟨by have := HJ3.out; have := HK2.out; omega⟩, ⟨by (with_reducible repeat (first | apply Kd.R_alloc | apply Kd.R_drewN | apply Kd.R_drew)); exact HO_9.out⟩, ⟨by (with_reducible repeat (first | apply Kd.R_alloc | apply Kd.R_drewN | apply Kd.R_drew)); exact HO_10.out⟩, ⟨by (with_reducible repeat (first | apply Kd.R_alloc | apply Kd.R_drewN | apply Kd.R_drew)); exact HO_11.out⟩, ⟨by repeat (first | (with_reducible first | exact HB.out | apply below_alloc | apply pw_below_drewN | apply below_drew1) | exact HB.out)⟩⟩
              ·rw [if_neg c27] at H
               exact absurd H (by simp)
             ·rw [if_neg c26] at H
              exact absurd H (by simp)
            ·replace c25 := Bool.eq_false_iff.mpr c25
             subst c25
             have H1 : (if x12_2 < (x11_2.length : Int) then (peristyleref14_Both.l0 k2 a0 ji11 t218 t221 (x11_2.set (x12_2 : Int).toNat false) (wrap64 (x12_2 + 1))) else (none)) = some (r1, r2) := by rw [if_neg (show ¬ (false = true) by decide)] at H; exact H
             clear H
             have H := H1
             clear H1
             by_cases c33 : x12_2 < (x11_2.length : Int)
             ·rw [if_pos c33] at H
              have c33b0 : decide (x12_2 < (x11_2.length : Int)) = true := decide_eq_true c33
              clear c33
              obtain ⟨y233, hy233⟩ : ∃ y_ : List Bool, y_ = (x11_2.set (x12_2 : Int).toNat false) := ⟨_, rfl⟩
              replace H : (peristyleref14_Both.l0 k2 a0 ji11 t218 t221 y233 (wrap64 (x12_2 + 1))) = some (r1, r2) := by first | (rw [hy233]; with_reducible exact H) | (have H2_ := (Option.bind_some _ _).symm.trans H; rw [hy233]; with_reducible exact H2_) | (have H2_ := (Option.bind_some _ _).symm.trans H; with_reducible exact H2_) | with_reducible exact H | (rw [hy233]; exact H) | exact H
              have Ny233 := Aside0.mk hy233
              clear hy233
              have H' := Aside0.mk H
              clear H
              obtain ⟨Ao35, co35, eo35⟩ := Kd.R_slice HO_9.out
              subst eo35
              have p230 : 0 ≤ (x12_2 : Int) := of_decide_eq_true (by assumption)
              have q230 : x12_2 < (t218.length : Int) := of_decide_eq_true (by assumption)
              obtain ⟨ad230, e230, hx230_0⟩ := Kd.at_bool (Kd.R_reads' HO_9.out).2.2 x12_2 p230 q230
              (try rw [← Nbq24.out] at hx230_0)
              cases e230
              replace p230 := eq_true p230
              replace q230 := eq_true q230
              have p34 : 0 ≤ (x12_2 : Int) := of_decide_eq_true (by assumption)
              have q34 : (x12_2 : Int) < ((x11_2.length : Int) : Int) := of_decide_eq_true (by assumption)
              obtain ⟨go34, co34, eo34, gb34, gl34, cl34, HG34⟩ := Kd.R_form HO_11.out (by omega)
              (first | cases eo34 | (injection eo34 with ea_ en_ ec_; (first | subst ea_ | (injection ea_ with ea_; subst ea_)); subst ec_; clear en_))
              have GB34 := Aside0.mk gb34
              have GG34 := Aside0.mk HG34
              clear gb34 gl34 HG34
              obtain ⟨hx34_0, hf34_0⟩ := Kd.R_celln false HO_11.out (x12_2 : Int) p34 q34
              replace p34 := eq_true p34
              replace q34 := eq_true q34
              have HP36 := Kd.R_putg HO_11.out (x12_2 : Int) false
              go_wp2_with (first | ((with_reducible refine gate_store (t := 4) (p := 68) rfl ?_); refine store_event (t := 4) (p := 68) (v := ?vo_w37) (w1 := (wr.setCell ⟨go34, (x12_2 : Int).toNat, none⟩ (.bool false))) ?hg ?ho ?hn ?hr ?_; (case ho => rfl); (case hg => rfl); (case hn => rfl); (case hr => first | (go_simp; done) | (go_simp; rfl)); intro w37 hw; have hg : wr.grownBy w37 (some go34) := (by rw [hw]; exact HP36.2); have hp_ : Kd.R Kd.bool 4 w37 w.heap.size (fun k_ => some k_ ≠ (.slice (some ad230) t218.length co35 : Value).ownBlock ∧ some k_ ≠ (v222 : Value).ownBlock) (.slice (some ⟨go34, 0, none⟩) x11_2.length co34) y233 := (by rw [hw, Ny233.out]; exact HP36.1); clear HP36; have n0_ := Aside0.mk (Kd.R_after (v := (.slice (some ⟨go34, 0, none⟩) x11_2.length co34)) (v1 := (.slice (some ⟨go34, 0, none⟩) x11_2.length co34)) (ok := (fun k_ => some k_ ≠ (v222 : Value).ownBlock)) (by (with_reducible repeat (first | apply Kd.R_alloc | apply Kd.R_drewN | apply Kd.R_drew)); exact HO_9.out) hg (.inl rfl)); have n1_ := Aside0.mk (Kd.R_after (v := (.slice (some ⟨go34, 0, none⟩) x11_2.length co34)) (v1 := (.slice (some ⟨go34, 0, none⟩) x11_2.length co34)) (ok := (fun k_ => some k_ ≠ (.slice (some ad230) t218.length co35 : Value).ownBlock)) (by (with_reducible repeat (first | apply Kd.R_alloc | apply Kd.R_drewN | apply Kd.R_drew)); exact HO_10.out) hg (.inl rfl)); have n2_ := Aside0.mk (hp_); have n3_ := Aside0.mk ((by rw [hw]; exact below_set (HB.out) GB34.out : Below w.heap.size w w37)); clear HO_9; clear HO_10; clear HO_11; clear HB; have HO_9 := n0_; have HO_10 := n1_; have HO_11 := n2_; have HB := n3_; clear n0_ n1_ n2_ n3_; clear hg hw hp_))
              go_roundg k2
              case measure => have := HJ3.out; have := HK2.out; omega
              case rel => exact ⟨(y233), (wrap64 (x12_2 + 1)), (by first | rfl | (simp; done) | (simp [*]; done)), (by first | exact H' | (simp only [hji11]; exact H')), ⟨by have := HJ3.out; have := HK2.out; omega⟩, ⟨by (with_reducible repeat (first | apply Kd.R_alloc | apply Kd.R_drewN | apply Kd.R_drew)); exact HO_9.out⟩, ⟨by (with_reducible repeat (first | apply Kd.R_alloc | apply Kd.R_drewN | apply Kd.R_drew)); exact HO_10.out⟩, ⟨by (with_reducible repeat (first | apply Kd.R_alloc | apply Kd.R_drewN | apply Kd.R_drew)); exact HO_11.out⟩, ⟨by repeat (first | (with_reducible first | exact HB.out | apply below_alloc | apply pw_below_drewN | apply below_drew1) | exact HB.out)⟩⟩
             ·rw [if_neg c33] at H
              exact absurd H (by simp)
           ·rw [if_neg c23] at H
            exact absurd H (by simp)
          ·rw [if_neg c22] at H
           exact absurd H (by simp)
         ·rw [if_neg c21] at H
          have c21b0 : (a0 == 0) = false := beq_eq_false_iff_ne.mpr c21
          have c21b1 : (a0 != 0) = true := bne_iff_ne.mpr c21
          by_cases c38 : a0 = 1
          ·rw [if_pos c38] at H
           have c38b0 : (a0 == 1) = true := beq_iff_eq.mpr c38
           have c38b1 : (a0 != 1) = false := bne_eq_false_iff_eq.mpr c38
           clear c38
           by_cases c39 : 0 ≤ x12_2
           ·rw [if_pos c39] at H
            have c39b0 : decide (0 ≤ x12_2) = true := decide_eq_true c39
            clear c39
            by_cases c40 : x12_2 < (t218.length : Int)
            ·rw [if_pos c40] at H
             have c40b0 : decide (x12_2 < (t218.length : Int)) = true := decide_eq_true c40
             clear c40
             obtain ⟨bq41, hbq41⟩ : ∃ b_ : Bool, b_ = (rdOf false t218 x12_2) := ⟨_, rfl⟩
             replace H : (if bq41 = true then (if x12_2 < (x11_2.length : Int) then (peristyleref14_Both.l0 k2 a0 ji11 t218 t221 (x11_2.set (x12_2 : Int).toNat true) (wrap64 (x12_2 + 1))) else (none)) else (if x12_2 < (t221.length : Int) then (if x12_2 < (x11_2.length : Int) then (peristyleref14_Both.l0 k2 a0 ji11 t218 t221 (x11_2.set (x12_2 : Int).toNat (rdOf false t221 x12_2)) (wrap64 (x12_2 + 1))) else (none)) else (none))) = some (r1, r2) := by rw [← hbq41] at H; exact H
             have Nbq41 := Aside0.mk hbq41
             clear hbq41
             by_cases c42 : bq41 = true
             ·subst c42
              have H1 : (if x12_2 < (x11_2.length : Int) then (peristyleref14_Both.l0 k2 a0 ji11 t218 t221 (x11_2.set (x12_2 : Int).toNat true) (wrap64 (x12_2 + 1))) else (none)) = some (r1, r2) := by rw [if_pos rfl] at H; exact H
              clear H
              have H := H1
              clear H1
              by_cases c43 : x12_2 < (x11_2.length : Int)
              ·rw [if_pos c43] at H
               have c43b0 : decide (x12_2 < (x11_2.length : Int)) = true := decide_eq_true c43
               clear c43
               obtain ⟨y235, hy235⟩ : ∃ y_ : List Bool, y_ = (x11_2.set (x12_2 : Int).toNat true) := ⟨_, rfl⟩
               replace H : (peristyleref14_Both.l0 k2 a0 ji11 t218 t221 y235 (wrap64 (x12_2 + 1))) = some (r1, r2) := by first | (rw [hy235]; with_reducible exact H) | (have H2_ := (Option.bind_some _ _).symm.trans H; rw [hy235]; with_reducible exact H2_) | (have H2_ := (Option.bind_some _ _).symm.trans H; with_reducible exact H2_) | with_reducible exact H | (rw [hy235]; exact H) | exact H
               have Ny235 := Aside0.mk hy235
               clear hy235
               have H' := Aside0.mk H
               clear H
               obtain ⟨Ao45, co45, eo45⟩ := Kd.R_slice HO_9.out
               subst eo45
               have p234 : 0 ≤ (x12_2 : Int) := of_decide_eq_true (by assumption)
               have q234 : x12_2 < (t218.length : Int) := of_decide_eq_true (by assumption)
               obtain ⟨ad234, e234, hx234_0⟩ := Kd.at_bool (Kd.R_reads' HO_9.out).2.2 x12_2 p234 q234
               (try rw [← Nbq41.out] at hx234_0)
               cases e234
               replace p234 := eq_true p234
               replace q234 := eq_true q234
               have p44 : 0 ≤ (x12_2 : Int) := of_decide_eq_true (by assumption)
               have q44 : (x12_2 : Int) < ((x11_2.length : Int) : Int) := of_decide_eq_true (by assumption)
               obtain ⟨go44, co44, eo44, gb44, gl44, cl44, HG44⟩ := Kd.R_form HO_11.out (by omega)
               (first | cases eo44 | (injection eo44 with ea_ en_ ec_; (first | subst ea_ | (injection ea_ with ea_; subst ea_)); subst ec_; clear en_))
               have GB44 := Aside0.mk gb44
               have GG44 := Aside0.mk HG44
               clear gb44 gl44 HG44
               obtain ⟨hx44_0, hf44_0⟩ := Kd.R_celln false HO_11.out (x12_2 : Int) p44 q44
               replace p44 := eq_true p44
               replace q44 := eq_true q44
               have HP46 := Kd.R_putg HO_11.out (x12_2 : Int) true
               go_wp2_with (first | ((with_reducible refine gate_store (t := 4) (p := 83) rfl ?_); refine store_event (t := 4) (p := 83) (v := ?vo_w47) (w1 := (wr.setCell ⟨go44, (x12_2 : Int).toNat, none⟩ (.bool true))) ?hg ?ho ?hn ?hr ?_; (case ho => rfl); (case hg => rfl); (case hn => rfl); (case hr => first | (go_simp; done) | (go_simp; rfl)); intro w47 hw; have hg : wr.grownBy w47 (some go44) := (by rw [hw]; exact HP46.2); have hp_ : Kd.R Kd.bool 4 w47 w.heap.size (fun k_ => some k_ ≠ (.slice (some ad234) t218.length co45 : Value).ownBlock ∧ some k_ ≠ (v222 : Value).ownBlock) (.slice (some ⟨go44, 0, none⟩) x11_2.length co44) y235 := (by rw [hw, Ny235.out]; exact HP46.1); clear HP46; have n0_ := Aside0.mk (Kd.R_after (v := (.slice (some ⟨go44, 0, none⟩) x11_2.length co44)) (v1 := (.slice (some ⟨go44, 0, none⟩) x11_2.length co44)) (ok := (fun k_ => some k_ ≠ (v222 : Value).ownBlock)) (by (with_reducible repeat (first | apply Kd.R_alloc | apply Kd.R_drewN | apply Kd.R_drew)); exact HO_9.out) hg (.inl rfl)); have n1_ := Aside0.mk (Kd.R_after (v := (.slice (some ⟨go44, 0, none⟩) x11_2.length co44)) (v1 := (.slice (some ⟨go44, 0, none⟩) x11_2.length co44)) (ok := (fun k_ => some k_ ≠ (.slice (some ad234) t218.length co45 : Value).ownBlock)) (by (with_reducible repeat (first | apply Kd.R_alloc | apply Kd.R_drewN | apply Kd.R_drew)); exact HO_10.out) hg (.inl rfl)); have n2_ := Aside0.mk (hp_); have n3_ := Aside0.mk ((by rw [hw]; exact below_set (HB.out) GB44.out : Below w.heap.size w w47)); clear HO_9; clear HO_10; clear HO_11; clear HB; have HO_9 := n0_; have HO_10 := n1_; have HO_11 := n2_; have HB := n3_; clear n0_ n1_ n2_ n3_; clear hg hw hp_))
               go_roundg k2
               case measure => have := HJ3.out; have := HK2.out; omega
               case rel => exact ⟨(y235), (wrap64 (x12_2 + 1)), (by first | rfl | (simp; done) | (simp [*]; done)), (by first | exact H' | (simp only [hji11]; exact H')), ⟨by have := HJ3.out; have := HK2.out; omega⟩, ⟨by (with_reducible repeat (first | apply Kd.R_alloc | apply Kd.R_drewN | apply Kd.R_drew)); exact HO_9.out⟩, ⟨by (with_reducible repeat (first | apply Kd.R_alloc | apply Kd.R_drewN | apply Kd.R_drew)); exact HO_10.out⟩, ⟨by (with_reducible repeat (first | apply Kd.R_alloc | apply Kd.R_drewN | apply Kd.R_drew)); exact HO_11.out⟩, ⟨by repeat (first | (with_reducible first | exact HB.out | apply below_alloc | apply pw_below_drewN | apply below_drew1) | exact HB.out)⟩⟩
              ·rw [if_neg c43] at H
               exact absurd H (by simp)
             ·replace c42 := Bool.eq_false_iff.mpr c42
              subst c42
              have H1 : (if x12_2 < (t221.length : Int) then (if x12_2 < (x11_2.length : Int) then (peristyleref14_Both.l0 k2 a0 ji11 t218 t221 (x11_2.set (x12_2 : Int).toNat (rdOf false t221 x12_2)) (wrap64 (x12_2 + 1))) else (none)) else (none)) = some (r1, r2) := by rw [if_neg (show ¬ (false = true) by decide)] at H; exact H
              clear H
              have H := H1
              clear H1
              by_cases c48 : x12_2 < (t221.length : Int)
              ·rw [if_pos c48] at H
               have c48b0 : decide (x12_2 < (t221.length : Int)) = true := decide_eq_true c48
               clear c48
               by_cases c49 : x12_2 < (x11_2.length : Int)
               ·rw [if_pos c49] at H
                have c49b0 : decide (x12_2 < (x11_2.length : Int)) = true := decide_eq_true c49
                clear c49
                obtain ⟨y237, hy237⟩ : ∃ y_ : List Bool, y_ = (x11_2.set (x12_2 : Int).toNat (rdOf false t221 x12_2)) := ⟨_, rfl⟩
                replace H : (peristyleref14_Both.l0 k2 a0 ji11 t218 t221 y237 (wrap64 (x12_2 + 1))) = some (r1, r2) := by first | (rw [hy237]; with_reducible exact H) | (have H2_ := (Option.bind_some _ _).symm.trans H; rw [hy237]; with_reducible exact H2_) | (have H2_ := (Option.bind_some _ _).symm.trans H; with_reducible exact H2_) | with_reducible exact H | (rw [hy237]; exact H) | exact H
                have Ny237 := Aside0.mk hy237
                clear hy237
                have H' := Aside0.mk H
                clear H
                obtain ⟨Ao51, co51, eo51⟩ := Kd.R_slice HO_9.out
                subst eo51
                have p234 : 0 ≤ (x12_2 : Int) := of_decide_eq_true (by assumption)
                have q234 : x12_2 < (t218.length : Int) := of_decide_eq_true (by assumption)
                obtain ⟨ad234, e234, hx234_0⟩ := Kd.at_bool (Kd.R_reads' HO_9.out).2.2 x12_2 p234 q234
                (try rw [← Nbq41.out] at hx234_0)
                cases e234
                replace p234 := eq_true p234
                replace q234 := eq_true q234
                obtain ⟨Ao52, co52, eo52⟩ := Kd.R_slice HO_10.out
                subst eo52
                have p236 : 0 ≤ (x12_2 : Int) := of_decide_eq_true (by assumption)
                have q236 : x12_2 < (t221.length : Int) := of_decide_eq_true (by assumption)
                obtain ⟨ad236, e236, hx236_0⟩ := Kd.at_bool (Kd.R_reads' HO_10.out).2.2 x12_2 p236 q236
                (try rw [← Nbq41.out] at hx236_0)
                cases e236
                replace p236 := eq_true p236
                replace q236 := eq_true q236
                have p50 : 0 ≤ (x12_2 : Int) := of_decide_eq_true (by assumption)
                have q50 : (x12_2 : Int) < ((x11_2.length : Int) : Int) := of_decide_eq_true (by assumption)
                obtain ⟨go50, co50, eo50, gb50, gl50, cl50, HG50⟩ := Kd.R_form HO_11.out (by omega)
                (first | cases eo50 | (injection eo50 with ea_ en_ ec_; (first | subst ea_ | (injection ea_ with ea_; subst ea_)); subst ec_; clear en_))
                have GB50 := Aside0.mk gb50
                have GG50 := Aside0.mk HG50
                clear gb50 gl50 HG50
                obtain ⟨hx50_0, hf50_0⟩ := Kd.R_celln false HO_11.out (x12_2 : Int) p50 q50
                replace p50 := eq_true p50
                replace q50 := eq_true q50
                have HP53 := Kd.R_putg HO_11.out (x12_2 : Int) (rdOf false t221 x12_2)
                go_wp2_with (first | ((with_reducible refine gate_store (t := 4) (p := 83) rfl ?_); refine store_event (t := 4) (p := 83) (v := ?vo_w54) (w1 := (wr.setCell ⟨go50, (x12_2 : Int).toNat, none⟩ (.bool (rdOf false t221 x12_2)))) ?hg ?ho ?hn ?hr ?_; (case ho => rfl); (case hg => rfl); (case hn => rfl); (case hr => first | (go_simp; done) | (go_simp; rfl)); intro w54 hw; have hg : wr.grownBy w54 (some go50) := (by rw [hw]; exact HP53.2); have hp_ : Kd.R Kd.bool 4 w54 w.heap.size (fun k_ => some k_ ≠ (.slice (some ad234) t218.length co51 : Value).ownBlock ∧ some k_ ≠ (.slice (some ad236) t221.length co52 : Value).ownBlock) (.slice (some ⟨go50, 0, none⟩) x11_2.length co50) y237 := (by rw [hw, Ny237.out]; exact HP53.1); clear HP53; have n0_ := Aside0.mk (Kd.R_after (v := (.slice (some ⟨go50, 0, none⟩) x11_2.length co50)) (v1 := (.slice (some ⟨go50, 0, none⟩) x11_2.length co50)) (ok := (fun k_ => some k_ ≠ (.slice (some ad236) t221.length co52 : Value).ownBlock)) (by (with_reducible repeat (first | apply Kd.R_alloc | apply Kd.R_drewN | apply Kd.R_drew)); exact HO_9.out) hg (.inl rfl)); have n1_ := Aside0.mk (Kd.R_after (v := (.slice (some ⟨go50, 0, none⟩) x11_2.length co50)) (v1 := (.slice (some ⟨go50, 0, none⟩) x11_2.length co50)) (ok := (fun k_ => some k_ ≠ (.slice (some ad234) t218.length co51 : Value).ownBlock)) (by (with_reducible repeat (first | apply Kd.R_alloc | apply Kd.R_drewN | apply Kd.R_drew)); exact HO_10.out) hg (.inl rfl)); have n2_ := Aside0.mk (hp_); have n3_ := Aside0.mk ((by rw [hw]; exact below_set (HB.out) GB50.out : Below w.heap.size w w54)); clear HO_9; clear HO_10; clear HO_11; clear HB; have HO_9 := n0_; have HO_10 := n1_; have HO_11 := n2_; have HB := n3_; clear n0_ n1_ n2_ n3_; clear hg hw hp_))
                go_roundg k2
                case measure => have := HJ3.out; have := HK2.out; omega
                case rel => exact ⟨(y237), (wrap64 (x12_2 + 1)), (by first | rfl | (simp; done) | (simp [*]; done)), (by first | exact H' | (simp only [hji11]; exact H')), ⟨by have := HJ3.out; have := HK2.out; omega⟩, ⟨by (with_reducible repeat (first | apply Kd.R_alloc | apply Kd.R_drewN | apply Kd.R_drew)); exact HO_9.out⟩, ⟨by (with_reducible repeat (first | apply Kd.R_alloc | apply Kd.R_drewN | apply Kd.R_drew)); exact HO_10.out⟩, ⟨by (with_reducible repeat (first | apply Kd.R_alloc | apply Kd.R_drewN | apply Kd.R_drew)); exact HO_11.out⟩, ⟨by repeat (first | (with_reducible first | exact HB.out | apply below_alloc | apply pw_below_drewN | apply below_drew1) | exact HB.out)⟩⟩
               ·rw [if_neg c49] at H
                exact absurd H (by simp)
              ·rw [if_neg c48] at H
               exact absurd H (by simp)
            ·rw [if_neg c40] at H
             exact absurd H (by simp)
           ·rw [if_neg c39] at H
            exact absurd H (by simp)
          ·rw [if_neg c38] at H
           have c38b0 : (a0 == 1) = false := beq_eq_false_iff_ne.mpr c38
           have c38b1 : (a0 != 1) = true := bne_iff_ne.mpr c38
           by_cases c55 : 0 ≤ x12_2
           ·rw [if_pos c55] at H
            have c55b0 : decide (0 ≤ x12_2) = true := decide_eq_true c55
            clear c55
            by_cases c56 : x12_2 < (t218.length : Int)
            ·rw [if_pos c56] at H
             have c56b0 : decide (x12_2 < (t218.length : Int)) = true := decide_eq_true c56
             clear c56
             obtain ⟨bq57, hbq57⟩ : ∃ b_ : Bool, b_ = (rdOf false t218 x12_2) := ⟨_, rfl⟩
             replace H : (if bq57 = true then (if x12_2 < (t221.length : Int) then (if x12_2 < (x11_2.length : Int) then (peristyleref14_Both.l0 k2 a0 ji11 t218 t221 (x11_2.set (x12_2 : Int).toNat (!(rdOf false t221 x12_2))) (wrap64 (x12_2 + 1))) else (none)) else (none)) else (if x12_2 < (x11_2.length : Int) then (peristyleref14_Both.l0 k2 a0 ji11 t218 t221 (x11_2.set (x12_2 : Int).toNat false) (wrap64 (x12_2 + 1))) else (none))) = some (r1, r2) := by rw [← hbq57] at H; exact H
             have Nbq57 := Aside0.mk hbq57
             clear hbq57
             by_cases c58 : bq57 = true
             ·subst c58
              have H1 : (if x12_2 < (t221.length : Int) then (if x12_2 < (x11_2.length : Int) then (peristyleref14_Both.l0 k2 a0 ji11 t218 t221 (x11_2.set (x12_2 : Int).toNat (!(rdOf false t221 x12_2))) (wrap64 (x12_2 + 1))) else (none)) else (none)) = some (r1, r2) := by rw [if_pos rfl] at H; exact H
              clear H
              have H := H1
              clear H1
              by_cases c59 : x12_2 < (t221.length : Int)
              ·rw [if_pos c59] at H
               have c59b0 : decide (x12_2 < (t221.length : Int)) = true := decide_eq_true c59
               clear c59
               by_cases c60 : x12_2 < (x11_2.length : Int)
               ·rw [if_pos c60] at H
                have c60b0 : decide (x12_2 < (x11_2.length : Int)) = true := decide_eq_true c60
                clear c60
                obtain ⟨y240, hy240⟩ : ∃ y_ : List Bool, y_ = (x11_2.set (x12_2 : Int).toNat (!(rdOf false t221 x12_2))) := ⟨_, rfl⟩
                replace H : (peristyleref14_Both.l0 k2 a0 ji11 t218 t221 y240 (wrap64 (x12_2 + 1))) = some (r1, r2) := by first | (rw [hy240]; with_reducible exact H) | (have H2_ := (Option.bind_some _ _).symm.trans H; rw [hy240]; with_reducible exact H2_) | (have H2_ := (Option.bind_some _ _).symm.trans H; with_reducible exact H2_) | with_reducible exact H | (rw [hy240]; exact H) | exact H
                have Ny240 := Aside0.mk hy240
                clear hy240
                have H' := Aside0.mk H
                clear H
                obtain ⟨Ao62, co62, eo62⟩ := Kd.R_slice HO_9.out
                subst eo62
                have p238 : 0 ≤ (x12_2 : Int) := of_decide_eq_true (by assumption)
                have q238 : x12_2 < (t218.length : Int) := of_decide_eq_true (by assumption)
                obtain ⟨ad238, e238, hx238_0⟩ := Kd.at_bool (Kd.R_reads' HO_9.out).2.2 x12_2 p238 q238
                (try rw [← Nbq57.out] at hx238_0)
                cases e238
                replace p238 := eq_true p238
                replace q238 := eq_true q238
                obtain ⟨Ao63, co63, eo63⟩ := Kd.R_slice HO_10.out
                subst eo63
                have p239 : 0 ≤ (x12_2 : Int) := of_decide_eq_true (by assumption)
                have q239 : x12_2 < (t221.length : Int) := of_decide_eq_true (by assumption)
                obtain ⟨ad239, e239, hx239_0⟩ := Kd.at_bool (Kd.R_reads' HO_10.out).2.2 x12_2 p239 q239
                (try rw [← Nbq57.out] at hx239_0)
                cases e239
                replace p239 := eq_true p239
                replace q239 := eq_true q239
                have p61 : 0 ≤ (x12_2 : Int) := of_decide_eq_true (by assumption)
                have q61 : (x12_2 : Int) < ((x11_2.length : Int) : Int) := of_decide_eq_true (by assumption)
                obtain ⟨go61, co61, eo61, gb61, gl61, cl61, HG61⟩ := Kd.R_form HO_11.out (by omega)
                (first | cases eo61 | (injection eo61 with ea_ en_ ec_; (first | subst ea_ | (injection ea_ with ea_; subst ea_)); subst ec_; clear en_))
                have GB61 := Aside0.mk gb61
                have GG61 := Aside0.mk HG61
                clear gb61 gl61 HG61
                obtain ⟨hx61_0, hf61_0⟩ := Kd.R_celln false HO_11.out (x12_2 : Int) p61 q61
                replace p61 := eq_true p61
                replace q61 := eq_true q61
                have HP64 := Kd.R_putg HO_11.out (x12_2 : Int) (!(rdOf false t221 x12_2))
                go_wp2_with (first | ((with_reducible refine gate_store (t := 4) (p := 53) rfl ?_); refine store_event (t := 4) (p := 53) (v := ?vo_w65) (w1 := (wr.setCell ⟨go61, (x12_2 : Int).toNat, none⟩ (.bool (!(rdOf false t221 x12_2))))) ?hg ?ho ?hn ?hr ?_; (case ho => rfl); (case hg => rfl); (case hn => rfl); (case hr => first | (go_simp; done) | (go_simp; rfl)); intro w65 hw; have hg : wr.grownBy w65 (some go61) := (by rw [hw]; exact HP64.2); have hp_ : Kd.R Kd.bool 4 w65 w.heap.size (fun k_ => some k_ ≠ (.slice (some ad238) t218.length co62 : Value).ownBlock ∧ some k_ ≠ (.slice (some ad239) t221.length co63 : Value).ownBlock) (.slice (some ⟨go61, 0, none⟩) x11_2.length co61) y240 := (by rw [hw, Ny240.out]; exact HP64.1); clear HP64; have n0_ := Aside0.mk (Kd.R_after (v := (.slice (some ⟨go61, 0, none⟩) x11_2.length co61)) (v1 := (.slice (some ⟨go61, 0, none⟩) x11_2.length co61)) (ok := (fun k_ => some k_ ≠ (.slice (some ad239) t221.length co63 : Value).ownBlock)) (by (with_reducible repeat (first | apply Kd.R_alloc | apply Kd.R_drewN | apply Kd.R_drew)); exact HO_9.out) hg (.inl rfl)); have n1_ := Aside0.mk (Kd.R_after (v := (.slice (some ⟨go61, 0, none⟩) x11_2.length co61)) (v1 := (.slice (some ⟨go61, 0, none⟩) x11_2.length co61)) (ok := (fun k_ => some k_ ≠ (.slice (some ad238) t218.length co62 : Value).ownBlock)) (by (with_reducible repeat (first | apply Kd.R_alloc | apply Kd.R_drewN | apply Kd.R_drew)); exact HO_10.out) hg (.inl rfl)); have n2_ := Aside0.mk (hp_); have n3_ := Aside0.mk ((by rw [hw]; exact below_set (HB.out) GB61.out : Below w.heap.size w w65)); clear HO_9; clear HO_10; clear HO_11; clear HB; have HO_9 := n0_; have HO_10 := n1_; have HO_11 := n2_; have HB := n3_; clear n0_ n1_ n2_ n3_; clear hg hw hp_))
                go_roundg k2
                case measure => have := HJ3.out; have := HK2.out; omega
                case rel => exact ⟨(y240), (wrap64 (x12_2 + 1)), (by first | rfl | (simp; done) | (simp [*]; done)), (by first | exact H' | (simp only [hji11]; exact H')), ⟨by have := HJ3.out; have := HK2.out; omega⟩, ⟨by (with_reducible repeat (first | apply Kd.R_alloc | apply Kd.R_drewN | apply Kd.R_drew)); exact HO_9.out⟩, ⟨by (with_reducible repeat (first | apply Kd.R_alloc | apply Kd.R_drewN | apply Kd.R_drew)); exact HO_10.out⟩, ⟨by (with_reducible repeat (first | apply Kd.R_alloc | apply Kd.R_drewN | apply Kd.R_drew)); exact HO_11.out⟩, ⟨by repeat (first | (with_reducible first | exact HB.out | apply below_alloc | apply pw_below_drewN | apply below_drew1) | exact HB.out)⟩⟩
               ·rw [if_neg c60] at H
                exact absurd H (by simp)
              ·rw [if_neg c59] at H
               exact absurd H (by simp)
             ·replace c58 := Bool.eq_false_iff.mpr c58
              subst c58
              have H1 : (if x12_2 < (x11_2.length : Int) then (peristyleref14_Both.l0 k2 a0 ji11 t218 t221 (x11_2.set (x12_2 : Int).toNat false) (wrap64 (x12_2 + 1))) else (none)) = some (r1, r2) := by rw [if_neg (show ¬ (false = true) by decide)] at H; exact H
              clear H
              have H := H1
              clear H1
              by_cases c66 : x12_2 < (x11_2.length : Int)
              ·rw [if_pos c66] at H
               have c66b0 : decide (x12_2 < (x11_2.length : Int)) = true := decide_eq_true c66
               clear c66
               obtain ⟨y241, hy241⟩ : ∃ y_ : List Bool, y_ = (x11_2.set (x12_2 : Int).toNat false) := ⟨_, rfl⟩
               replace H : (peristyleref14_Both.l0 k2 a0 ji11 t218 t221 y241 (wrap64 (x12_2 + 1))) = some (r1, r2) := by first | (rw [hy241]; with_reducible exact H) | (have H2_ := (Option.bind_some _ _).symm.trans H; rw [hy241]; with_reducible exact H2_) | (have H2_ := (Option.bind_some _ _).symm.trans H; with_reducible exact H2_) | with_reducible exact H | (rw [hy241]; exact H) | exact H
               have Ny241 := Aside0.mk hy241
               clear hy241
               have H' := Aside0.mk H
               clear H
               obtain ⟨Ao68, co68, eo68⟩ := Kd.R_slice HO_9.out
               subst eo68
               have p238 : 0 ≤ (x12_2 : Int) := of_decide_eq_true (by assumption)
               have q238 : x12_2 < (t218.length : Int) := of_decide_eq_true (by assumption)
               obtain ⟨ad238, e238, hx238_0⟩ := Kd.at_bool (Kd.R_reads' HO_9.out).2.2 x12_2 p238 q238
               (try rw [← Nbq57.out] at hx238_0)
               cases e238
               replace p238 := eq_true p238
               replace q238 := eq_true q238
               have p67 : 0 ≤ (x12_2 : Int) := of_decide_eq_true (by assumption)
               have q67 : (x12_2 : Int) < ((x11_2.length : Int) : Int) := of_decide_eq_true (by assumption)
               obtain ⟨go67, co67, eo67, gb67, gl67, cl67, HG67⟩ := Kd.R_form HO_11.out (by omega)
               (first | cases eo67 | (injection eo67 with ea_ en_ ec_; (first | subst ea_ | (injection ea_ with ea_; subst ea_)); subst ec_; clear en_))
               have GB67 := Aside0.mk gb67
               have GG67 := Aside0.mk HG67
               clear gb67 gl67 HG67
               obtain ⟨hx67_0, hf67_0⟩ := Kd.R_celln false HO_11.out (x12_2 : Int) p67 q67
               replace p67 := eq_true p67
               replace q67 := eq_true q67
               have HP69 := Kd.R_putg HO_11.out (x12_2 : Int) false
               go_wp2_with (first | ((with_reducible refine gate_store (t := 4) (p := 53) rfl ?_); refine store_event (t := 4) (p := 53) (v := ?vo_w70) (w1 := (wr.setCell ⟨go67, (x12_2 : Int).toNat, none⟩ (.bool false))) ?hg ?ho ?hn ?hr ?_; (case ho => rfl); (case hg => rfl); (case hn => rfl); (case hr => first | (go_simp; done) | (go_simp; rfl)); intro w70 hw; have hg : wr.grownBy w70 (some go67) := (by rw [hw]; exact HP69.2); have hp_ : Kd.R Kd.bool 4 w70 w.heap.size (fun k_ => some k_ ≠ (.slice (some ad238) t218.length co68 : Value).ownBlock ∧ some k_ ≠ (v222 : Value).ownBlock) (.slice (some ⟨go67, 0, none⟩) x11_2.length co67) y241 := (by rw [hw, Ny241.out]; exact HP69.1); clear HP69; have n0_ := Aside0.mk (Kd.R_after (v := (.slice (some ⟨go67, 0, none⟩) x11_2.length co67)) (v1 := (.slice (some ⟨go67, 0, none⟩) x11_2.length co67)) (ok := (fun k_ => some k_ ≠ (v222 : Value).ownBlock)) (by (with_reducible repeat (first | apply Kd.R_alloc | apply Kd.R_drewN | apply Kd.R_drew)); exact HO_9.out) hg (.inl rfl)); have n1_ := Aside0.mk (Kd.R_after (v := (.slice (some ⟨go67, 0, none⟩) x11_2.length co67)) (v1 := (.slice (some ⟨go67, 0, none⟩) x11_2.length co67)) (ok := (fun k_ => some k_ ≠ (.slice (some ad238) t218.length co68 : Value).ownBlock)) (by (with_reducible repeat (first | apply Kd.R_alloc | apply Kd.R_drewN | apply Kd.R_drew)); exact HO_10.out) hg (.inl rfl)); have n2_ := Aside0.mk (hp_); have n3_ := Aside0.mk ((by rw [hw]; exact below_set (HB.out) GB67.out : Below w.heap.size w w70)); clear HO_9; clear HO_10; clear HO_11; clear HB; have HO_9 := n0_; have HO_10 := n1_; have HO_11 := n2_; have HB := n3_; clear n0_ n1_ n2_ n3_; clear hg hw hp_))
               go_roundg k2
               case measure => have := HJ3.out; have := HK2.out; omega
               case rel => exact ⟨(y241), (wrap64 (x12_2 + 1)), (by first | rfl | (simp; done) | (simp [*]; done)), (by first | exact H' | (simp only [hji11]; exact H')), ⟨by have := HJ3.out; have := HK2.out; omega⟩, ⟨by (with_reducible repeat (first | apply Kd.R_alloc | apply Kd.R_drewN | apply Kd.R_drew)); exact HO_9.out⟩, ⟨by (with_reducible repeat (first | apply Kd.R_alloc | apply Kd.R_drewN | apply Kd.R_drew)); exact HO_10.out⟩, ⟨by (with_reducible repeat (first | apply Kd.R_alloc | apply Kd.R_drewN | apply Kd.R_drew)); exact HO_11.out⟩, ⟨by repeat (first | (with_reducible first | exact HB.out | apply below_alloc | apply pw_below_drewN | apply below_drew1) | exact HB.out)⟩⟩
              ·rw [if_neg c66] at H
               exact absurd H (by simp)
            ·rw [if_neg c56] at H
             exact absurd H (by simp)
           ·rw [if_neg c55] at H
            exact absurd H (by simp)
        ·rw [if_neg c20] at H
         have c20b0 : decide (x12_2 < ji11) = false := decide_eq_false c20
         clear c20
         replace H := Option.bind_eq_some_iff.mp H
         obtain ⟨t227, A710, H⟩ := H
         replace H : (some (t227, 0)) = some (r1, r2) := H
         have A71 := Aside0.mk A710
         clear A710
         simp only [Option.some.injEq, Prod.mk.injEq] at H
         obtain ⟨rfl, rfl⟩ := H
         obtain ⟨Ao72, co72, eo72⟩ := Kd.R_slice HO_11.out
         subst eo72
         go_wp2_with (first | ((with_reducible refine gate_callee (f := 34) rfl ?_); refine goesL_ (some 85) rfl rfl Try.func34 (by kernel_rfl) rfl #[.slice Ao72 x11_2.length co72] rfl (by (try simp only [List.map_toArray, List.map_cons, List.map_nil]); first | done | rfl) ?_; (with_reducible refine (peristyleref14_Spans.calls k2 _ _ x11_2 t227 _ ?side1 ?side2 A71.out).mono ?_); (case side1 => repeat (first | exact (Kd.R_reads' HO_11.out).2.2 | (with_reducible refine Kd.C_alloc ?_ _) | (with_reducible refine Kd.C_drewN ?_ _) | (with_reducible refine Kd.C_drew ?_))); (case side2 => exact (Kd.R_reads' HO_11.out).2.1); rintro e w73 ⟨v228, rfl, ho0, hb⟩; refine ⟨_, rfl, ?_⟩; have n0_ := Aside0.mk (Kd.R_below (by (with_reducible repeat (first | apply Kd.R_alloc | apply Kd.R_drewN | apply Kd.R_drew)); exact HO_9.out) hb); have n1_ := Aside0.mk (Kd.R_below (by (with_reducible repeat (first | apply Kd.R_alloc | apply Kd.R_drewN | apply Kd.R_drew)); exact HO_10.out) hb); have n2_ := Aside0.mk (Kd.R_below (by (with_reducible repeat (first | apply Kd.R_alloc | apply Kd.R_drewN | apply Kd.R_drew)); exact HO_11.out) hb); have n3_ := Aside0.mk (Kd.R_lower ho0 (below_size (by repeat (first | exact HB.out | apply below_alloc | apply pw_below_drewN | apply below_drew1)))); have n4_ := Aside0.mk (below_step (by repeat (first | exact HB.out | apply below_alloc | apply pw_below_drewN | apply below_drew1)) hb); clear HO_9; clear HO_10; clear HO_11; clear HB; have HO_9 := n0_; have HO_10 := n1_; have HO_11 := n2_; have HO229 := n3_; have HB := n4_; clear n0_ n1_ n2_ n3_ n4_; (try clear hb); (try clear ho0)))
         go_ret2
         exact ⟨_, by first | rfl | (simp [errW_none, errW_some] <;> rfl) | (simp only [← hji11]; first | rfl | (simp [errW_none, errW_some] <;> rfl)) | (simp [*, errW_none, errW_some] <;> rfl), by (with_reducible repeat (first | apply Kd.R_alloc | apply Kd.R_drewN | apply Kd.R_drew)); exact HO229.out, by repeat (first | (with_reducible first | exact HB.out | apply below_alloc | apply pw_below_drewN | apply below_drew1) | exact HB.out)⟩
     ·rw [if_neg c15] at H
      exact absurd H (by simp)
    ·rw [if_neg c14] at H
     exact absurd H (by simp)

end Go.Proofs.Ytlhkjkldjhapeaa.Print
