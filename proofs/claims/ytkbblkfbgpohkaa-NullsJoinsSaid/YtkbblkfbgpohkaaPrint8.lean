-- Written by the session's own xprint (over the kit's print program): functions, contracts.
import Derived.Test.YtkbblkfbgpohkaaPrint0
import Derived.Test.YtkbblkfbgpohkaaPrint1
import Derived.Test.YtkbblkfbgpohkaaPrint2
import Derived.Test.YtkbblkfbgpohkaaPrint3
import Derived.Test.YtkbblkfbgpohkaaPrint5
import Derived.Test.YtkbblkfbgpohkaaPrint6
import Derived.Test.YtkbblkfbgpohkaaPrint7
namespace Go.Proofs.Ytkbblkfbgpohkaa.Print
open Go.RowKit Go.Proofs.YtkbblkfbgpohkaaW.PrintWords Go.Proofs.YtkbblkfbgpohkaaW.PrintLast Go.Proofs.YtkbblkfbgpohkaaW.PrintMore
attribute [local go_sem] max2_int min2_int max_two min_two max_three min_three max_four min_four   -- for this text's walks alone
set_option linter.unusedVariables false
set_option linter.unusedSimpArgs false

attribute [local go_sem high] eqA32
/-! ### peristylelaw12_NullsSplits: function 3 -/
mutual
def peristylelaw12_NullsSplits.j0 : Nat → List (S32) → List (S32) → Bool → Option (Bool)
  | 0, _, _, _ => none
  | k + 1, x0, x7, x51 => if x51 = true then (some false) else (peristylelaw12_NullsSplits.l0 k x0 x7 0)
def peristylelaw12_NullsSplits.l0 : Nat → List (S32) → List (S32) → Int → Option (Bool)
  | 0, _, _, _ => none
  | k + 1, x0, x7, x9 => if x9 < (x0.length : Int) then (peristylelaw12_NullsSplits.j2 k x0 x7 x9 (decide (x9 < (x7.length : Int)))) else (peristylelaw12_NullsSplits.j2 k x0 x7 x9 false)
def peristylelaw12_NullsSplits.j2 : Nat → List (S32) → List (S32) → Int → Bool → Option (Bool)
  | 0, _, _, _, _ => none
  | k + 1, x0, x7, x9, x61 => if x61 = true then (if 0 ≤ x9 then (if x9 < (x0.length : Int) then (if ((rd_T32 x0 x9).f0) = 0 then (if x9 < (x7.length : Int) then (if (!(((rd_T32 x7 x9).f0) == 0) || (!(((rd_T32 x7 x9).f1) == 0) || (!((((rd_T32 x7 x9).f2).toList) == ([] : List UInt8))))) = true then (some false) else (peristylelaw12_NullsSplits.l0 k x0 x7 (wrap64 (x9 + 1)))) else (none)) else (if x9 < (x7.length : Int) then (if (!(((rd_T32 x7 x9).f0) == ((rd_T32 x0 x9).f0)) || (!(((rd_T32 x7 x9).f1) == ((rd_T32 x0 x9).f1)) || (!((((rd_T32 x7 x9).f2).toList) == (((rd_T32 x0 x9).f2).toList))))) = true then (some false) else (peristylelaw12_NullsSplits.l0 k x0 x7 (wrap64 (x9 + 1)))) else (none))) else (none)) else (none)) else ((peristylelaw12_awake.f k).bind fun t266 => (some t266))
end
def peristylelaw12_NullsSplits.f (k : Nat) (l0 : List (S32)) : Option (Bool) := (peristyleref12_Light.f k l0 100).bind fun t245 => (if t245 = true then ((nulls_Split.f k l0).bind fun bt247 => ((peristyleref12_Split.f k l0).bind fun bt251 => ((nulls_Join.f k bt247.1 (l0.length : Int) bt247.2).bind fun bt255 => (if bt247.1.toList = bt251.1.toList then ((peristyleref12_Same.f k bt247.2 bt251.2).bind fun t259 => (if t259 = true then (if bt255.2 = 0 then (peristylelaw12_NullsSplits.j0 k l0 bt255.1 ((bt255.1.length : Int) != (l0.length : Int))) else (peristylelaw12_NullsSplits.j0 k l0 bt255.1 true)) else (peristylelaw12_NullsSplits.j0 k l0 bt255.1 true))) else (peristylelaw12_NullsSplits.j0 k l0 bt255.1 true))))) else ((peristylelaw12_awake.f k).bind fun t246 => (some t246)))
theorem peristylelaw12_NullsSplits.j0_succ (k : Nat) (x0 : List (S32)) (x7 : List (S32)) (x51 : Bool) : peristylelaw12_NullsSplits.j0 (k + 1) x0 x7 x51 = (if x51 = true then (some false) else (peristylelaw12_NullsSplits.l0 k x0 x7 0)) := by
  simp only [peristylelaw12_NullsSplits.j0]
theorem peristylelaw12_NullsSplits.l0_succ (k : Nat) (x0 : List (S32)) (x7 : List (S32)) (x9 : Int) : peristylelaw12_NullsSplits.l0 (k + 1) x0 x7 x9 = (if x9 < (x0.length : Int) then (peristylelaw12_NullsSplits.j2 k x0 x7 x9 (decide (x9 < (x7.length : Int)))) else (peristylelaw12_NullsSplits.j2 k x0 x7 x9 false)) := by
  simp only [peristylelaw12_NullsSplits.l0]
theorem peristylelaw12_NullsSplits.j2_succ (k : Nat) (x0 : List (S32)) (x7 : List (S32)) (x9 : Int) (x61 : Bool) : peristylelaw12_NullsSplits.j2 (k + 1) x0 x7 x9 x61 = (if x61 = true then (if 0 ≤ x9 then (if x9 < (x0.length : Int) then (if ((rd_T32 x0 x9).f0) = 0 then (if x9 < (x7.length : Int) then (if (!(((rd_T32 x7 x9).f0) == 0) || (!(((rd_T32 x7 x9).f1) == 0) || (!((((rd_T32 x7 x9).f2).toList) == ([] : List UInt8))))) = true then (some false) else (peristylelaw12_NullsSplits.l0 k x0 x7 (wrap64 (x9 + 1)))) else (none)) else (if x9 < (x7.length : Int) then (if (!(((rd_T32 x7 x9).f0) == ((rd_T32 x0 x9).f0)) || (!(((rd_T32 x7 x9).f1) == ((rd_T32 x0 x9).f1)) || (!((((rd_T32 x7 x9).f2).toList) == (((rd_T32 x0 x9).f2).toList))))) = true then (some false) else (peristylelaw12_NullsSplits.l0 k x0 x7 (wrap64 (x9 + 1)))) else (none))) else (none)) else (none)) else ((peristylelaw12_awake.f k).bind fun t266 => (some t266))) := by
  simp only [peristylelaw12_NullsSplits.j2]
theorem peristylelaw12_NullsSplits.mono_l : ∀ k, (∀ y0 y1 y2, LeO (peristylelaw12_NullsSplits.j0 k y0 y1 y2) (peristylelaw12_NullsSplits.j0 (k + 1) y0 y1 y2)) ∧ (∀ y0 y1 y2, LeO (peristylelaw12_NullsSplits.l0 k y0 y1 y2) (peristylelaw12_NullsSplits.l0 (k + 1) y0 y1 y2)) ∧ (∀ y0 y1 y2 y3, LeO (peristylelaw12_NullsSplits.j2 k y0 y1 y2 y3) (peristylelaw12_NullsSplits.j2 (k + 1) y0 y1 y2 y3))
  | 0 => ⟨fun _ _ _ r h => by simp [peristylelaw12_NullsSplits.j0] at h, fun _ _ _ r h => by simp [peristylelaw12_NullsSplits.l0] at h, fun _ _ _ _ r h => by simp [peristylelaw12_NullsSplits.j2] at h⟩
  | k + 1 => by
    obtain ⟨ih0, ih1, ih2⟩ := peristylelaw12_NullsSplits.mono_l k
    refine ⟨?_, ?_, ?_⟩
    · intro y0 y1 y2
      unfold peristylelaw12_NullsSplits.j0
      repeat' first
      | (with_reducible exact ih0 _ _ _)
      | (with_reducible exact ih1 _ _ _)
      | (with_reducible exact ih2 _ _ _ _)
      | (with_reducible exact nulls_Join.mono _ _ _ _)
      | (with_reducible exact nulls_Split.mono _ _)
      | (with_reducible exact peristylelaw12_awake.mono _)
      | (with_reducible exact peristyleref12_Light.mono _ _ _)
      | (with_reducible exact peristyleref12_Same.mono _ _ _)
      | (with_reducible exact peristyleref12_Split.mono _ _)
      | (with_reducible exact LeO.refl _)
      | (with_reducible exact LeO.none _)
      | (with_reducible refine LeO.ite ?_ ?_)
      | (with_reducible refine LeO.bind ?_ (fun _ => ?_))
      | exact ih0 _ _ _
      | exact ih1 _ _ _
      | exact ih2 _ _ _ _
      | exact nulls_Join.mono _ _ _ _
      | exact nulls_Split.mono _ _
      | exact peristylelaw12_awake.mono _
      | exact peristyleref12_Light.mono _ _ _
      | exact peristyleref12_Same.mono _ _ _
      | exact peristyleref12_Split.mono _ _
      | exact LeO.none _
      | refine LeO.ite ?_ ?_
      | refine LeO.bind ?_ (fun _ => ?_)
    · intro y0 y1 y2
      unfold peristylelaw12_NullsSplits.l0
      repeat' first
      | (with_reducible exact ih0 _ _ _)
      | (with_reducible exact ih1 _ _ _)
      | (with_reducible exact ih2 _ _ _ _)
      | (with_reducible exact nulls_Join.mono _ _ _ _)
      | (with_reducible exact nulls_Split.mono _ _)
      | (with_reducible exact peristylelaw12_awake.mono _)
      | (with_reducible exact peristyleref12_Light.mono _ _ _)
      | (with_reducible exact peristyleref12_Same.mono _ _ _)
      | (with_reducible exact peristyleref12_Split.mono _ _)
      | (with_reducible exact LeO.refl _)
      | (with_reducible exact LeO.none _)
      | (with_reducible refine LeO.ite ?_ ?_)
      | (with_reducible refine LeO.bind ?_ (fun _ => ?_))
      | exact ih0 _ _ _
      | exact ih1 _ _ _
      | exact ih2 _ _ _ _
      | exact nulls_Join.mono _ _ _ _
      | exact nulls_Split.mono _ _
      | exact peristylelaw12_awake.mono _
      | exact peristyleref12_Light.mono _ _ _
      | exact peristyleref12_Same.mono _ _ _
      | exact peristyleref12_Split.mono _ _
      | exact LeO.none _
      | refine LeO.ite ?_ ?_
      | refine LeO.bind ?_ (fun _ => ?_)
    · intro y0 y1 y2 y3
      unfold peristylelaw12_NullsSplits.j2
      repeat' first
      | (with_reducible exact ih0 _ _ _)
      | (with_reducible exact ih1 _ _ _)
      | (with_reducible exact ih2 _ _ _ _)
      | (with_reducible exact nulls_Join.mono _ _ _ _)
      | (with_reducible exact nulls_Split.mono _ _)
      | (with_reducible exact peristylelaw12_awake.mono _)
      | (with_reducible exact peristyleref12_Light.mono _ _ _)
      | (with_reducible exact peristyleref12_Same.mono _ _ _)
      | (with_reducible exact peristyleref12_Split.mono _ _)
      | (with_reducible exact LeO.refl _)
      | (with_reducible exact LeO.none _)
      | (with_reducible refine LeO.ite ?_ ?_)
      | (with_reducible refine LeO.bind ?_ (fun _ => ?_))
      | exact ih0 _ _ _
      | exact ih1 _ _ _
      | exact ih2 _ _ _ _
      | exact nulls_Join.mono _ _ _ _
      | exact nulls_Split.mono _ _
      | exact peristylelaw12_awake.mono _
      | exact peristyleref12_Light.mono _ _ _
      | exact peristyleref12_Same.mono _ _ _
      | exact peristyleref12_Split.mono _ _
      | exact LeO.none _
      | refine LeO.ite ?_ ?_
      | refine LeO.bind ?_ (fun _ => ?_)
theorem peristylelaw12_NullsSplits.mono : ∀ a0 k, LeO (peristylelaw12_NullsSplits.f k a0) (peristylelaw12_NullsSplits.f (k + 1) a0) := by
  intro a0 k
  obtain ⟨ih0, ih1, ih2⟩ := peristylelaw12_NullsSplits.mono_l k
  unfold peristylelaw12_NullsSplits.f
  repeat' first
      | (with_reducible exact ih0 _ _ _)
      | (with_reducible exact ih1 _ _ _)
      | (with_reducible exact ih2 _ _ _ _)
      | (with_reducible exact nulls_Join.mono _ _ _ _)
      | (with_reducible exact nulls_Split.mono _ _)
      | (with_reducible exact peristylelaw12_awake.mono _)
      | (with_reducible exact peristyleref12_Light.mono _ _ _)
      | (with_reducible exact peristyleref12_Same.mono _ _ _)
      | (with_reducible exact peristyleref12_Split.mono _ _)
      | (with_reducible exact LeO.refl _)
      | (with_reducible exact LeO.none _)
      | (with_reducible refine LeO.ite ?_ ?_)
      | (with_reducible refine LeO.bind ?_ (fun _ => ?_))
      | exact ih0 _ _ _
      | exact ih1 _ _ _
      | exact ih2 _ _ _ _
      | exact nulls_Join.mono _ _ _ _
      | exact nulls_Split.mono _ _
      | exact peristylelaw12_awake.mono _
      | exact peristyleref12_Light.mono _ _ _
      | exact peristyleref12_Same.mono _ _ _
      | exact peristyleref12_Split.mono _ _
      | exact LeO.none _
      | refine LeO.ite ?_ ?_
      | refine LeO.bind ?_ (fun _ => ?_)
set_option maxHeartbeats 8000000 in
set_option maxRecDepth 100000 in
theorem peristylelaw12_NullsSplits.calls (k : Nat) (A0 : Option Addr) (c0 : Nat) (l0 : List (S32)) (r : Bool) (w : World) (hr0 : Kd.C k32 w A0 l0.length l0) (hc0 : l0.length ≤ c0) (h : peristylelaw12_NullsSplits.f k l0 = some r) :
    Calls Try.prog 3 #[.slice A0 l0.length c0] w fun e w' => e = .returned (.bool r) ∧ Below w.heap.size w w' := by
  have hu32 := Try.underlying32
  have HR0 := Aside0.mk hr0
  have HC0 := Aside0.mk hc0
  clear hr0 hc0
  have HB := Aside0.mk (Below.refl w.heap.size w)
  have H : ((peristyleref12_Light.f k l0 100).bind fun t245 => (if t245 = true then ((nulls_Split.f k l0).bind fun bt247 => ((peristyleref12_Split.f k l0).bind fun bt251 => ((nulls_Join.f k bt247.1 (l0.length : Int) bt247.2).bind fun bt255 => (if bt247.1.toList = bt251.1.toList then ((peristyleref12_Same.f k bt247.2 bt251.2).bind fun t259 => (if t259 = true then (if bt255.2 = 0 then (peristylelaw12_NullsSplits.j0 k l0 bt255.1 ((bt255.1.length : Int) != (l0.length : Int))) else (peristylelaw12_NullsSplits.j0 k l0 bt255.1 true)) else (peristylelaw12_NullsSplits.j0 k l0 bt255.1 true))) else (peristylelaw12_NullsSplits.j0 k l0 bt255.1 true))))) else ((peristylelaw12_awake.f k).bind fun t246 => (some t246)))) = some r := h
  clear h
  replace H := Option.bind_eq_some_iff.mp H
  obtain ⟨t245, A20, H⟩ := H
  replace H : (if t245 = true then ((nulls_Split.f k l0).bind fun bt247 => ((peristyleref12_Split.f k l0).bind fun bt251 => ((nulls_Join.f k bt247.1 (l0.length : Int) bt247.2).bind fun bt255 => (if bt247.1.toList = bt251.1.toList then ((peristyleref12_Same.f k bt247.2 bt251.2).bind fun t259 => (if t259 = true then (if bt255.2 = 0 then (peristylelaw12_NullsSplits.j0 k l0 bt255.1 ((bt255.1.length : Int) != (l0.length : Int))) else (peristylelaw12_NullsSplits.j0 k l0 bt255.1 true)) else (peristylelaw12_NullsSplits.j0 k l0 bt255.1 true))) else (peristylelaw12_NullsSplits.j0 k l0 bt255.1 true))))) else ((peristylelaw12_awake.f k).bind fun t246 => (some t246))) = some r := H
  have A2 := Aside0.mk A20
  clear A20
  by_cases c3 : t245 = true
  · subst c3
    have H1 : ((nulls_Split.f k l0).bind fun bt247 => ((peristyleref12_Split.f k l0).bind fun bt251 => ((nulls_Join.f k bt247.1 (l0.length : Int) bt247.2).bind fun bt255 => (if bt247.1.toList = bt251.1.toList then ((peristyleref12_Same.f k bt247.2 bt251.2).bind fun t259 => (if t259 = true then (if bt255.2 = 0 then (peristylelaw12_NullsSplits.j0 k l0 bt255.1 ((bt255.1.length : Int) != (l0.length : Int))) else (peristylelaw12_NullsSplits.j0 k l0 bt255.1 true)) else (peristylelaw12_NullsSplits.j0 k l0 bt255.1 true))) else (peristylelaw12_NullsSplits.j0 k l0 bt255.1 true))))) = some r := by rw [if_pos rfl] at H; exact H
    clear H
    have H := H1
    clear H1
    replace H := Option.bind_eq_some_iff.mp H
    obtain ⟨⟨t247, t248⟩, A40, H⟩ := H
    replace H : ((peristyleref12_Split.f k l0).bind fun bt251 => ((nulls_Join.f k t247 (l0.length : Int) t248).bind fun bt255 => (if t247.toList = bt251.1.toList then ((peristyleref12_Same.f k t248 bt251.2).bind fun t259 => (if t259 = true then (if bt255.2 = 0 then (peristylelaw12_NullsSplits.j0 k l0 bt255.1 ((bt255.1.length : Int) != (l0.length : Int))) else (peristylelaw12_NullsSplits.j0 k l0 bt255.1 true)) else (peristylelaw12_NullsSplits.j0 k l0 bt255.1 true))) else (peristylelaw12_NullsSplits.j0 k l0 bt255.1 true)))) = some r := H
    have A4 := Aside0.mk A40
    clear A40
    replace H := Option.bind_eq_some_iff.mp H
    obtain ⟨⟨t251, t252⟩, A50, H⟩ := H
    replace H : ((nulls_Join.f k t247 (l0.length : Int) t248).bind fun bt255 => (if t247.toList = t251.toList then ((peristyleref12_Same.f k t248 t252).bind fun t259 => (if t259 = true then (if bt255.2 = 0 then (peristylelaw12_NullsSplits.j0 k l0 bt255.1 ((bt255.1.length : Int) != (l0.length : Int))) else (peristylelaw12_NullsSplits.j0 k l0 bt255.1 true)) else (peristylelaw12_NullsSplits.j0 k l0 bt255.1 true))) else (peristylelaw12_NullsSplits.j0 k l0 bt255.1 true))) = some r := H
    have A5 := Aside0.mk A50
    clear A50
    replace H := Option.bind_eq_some_iff.mp H
    obtain ⟨⟨t255, t258⟩, A60, H⟩ := H
    replace H : (if t247.toList = t251.toList then ((peristyleref12_Same.f k t248 t252).bind fun t259 => (if t259 = true then (if t258 = 0 then (peristylelaw12_NullsSplits.j0 k l0 t255 ((t255.length : Int) != (l0.length : Int))) else (peristylelaw12_NullsSplits.j0 k l0 t255 true)) else (peristylelaw12_NullsSplits.j0 k l0 t255 true))) else (peristylelaw12_NullsSplits.j0 k l0 t255 true)) = some r := H
    have A6 := Aside0.mk A60
    clear A60
    have HC7 := Aside0.mk H
    clear H
    go_enter Try.func3, Try.ntmps3
    go_upto_region 6 with (first | (go_at_call 6; (with_reducible refine (peristyleref12_Light.calls k _ _ l0 100 true _ ?side1 ?side2 A2.out).mono ?_); (case side1 => repeat (first | exact HR0.out | (with_reducible refine Kd.C_alloc ?_ _) | (with_reducible refine Kd.C_drewN ?_ _) | (with_reducible refine Kd.C_drew ?_))); (case side2 => exact HC0.out); rintro e w' ⟨rfl, ⟨nd, rfl⟩⟩; (try first | exact ⟨rfl, _, World.drewN_drewN _ _ _⟩ | exact ⟨rfl, _, Eq.trans (World.drewN_drewN _ _ _) (congrArg (World.drewN _) (Nat.add_assoc _ _ _))⟩)) | (go_at_call 8; (with_reducible refine (nulls_Split.calls k _ _ l0 t247 t248 _ ?side1 ?side2 A4.out).mono ?_); (case side1 => repeat (first | exact HR0.out | (with_reducible refine Kd.C_alloc ?_ _) | (with_reducible refine Kd.C_drewN ?_ _) | (with_reducible refine Kd.C_drew ?_))); (case side2 => exact HC0.out); rintro e w8 ⟨v249, rfl, ho0, hb⟩; have n0_ := Aside0.mk (Kd.R_lower ho0 (below_size (by repeat (first | (with_reducible first | exact HB.out | apply below_alloc | apply pw_below_drewN | apply below_drew1) | exact HB.out)))); have n1_ := Aside0.mk (below_step (by repeat (first | (with_reducible first | exact HB.out | apply below_alloc | apply pw_below_drewN | apply below_drew1) | exact HB.out)) hb); clear HB; have HO250 := n0_; have HB := n1_; clear n0_ n1_; (try clear hb); (try clear hb2); (try clear hk); (try clear hi); (try clear ho0)) | (go_at_call 9; (with_reducible refine (peristyleref12_Split.calls k _ _ l0 t251 t252 _ ?side1 ?side2 A5.out).mono ?_); (case side1 => repeat (first | exact (Kd.C_below HR0.out HB.out) | (with_reducible refine Kd.C_alloc ?_ _) | (with_reducible refine Kd.C_drewN ?_ _) | (with_reducible refine Kd.C_drew ?_))); (case side2 => exact HC0.out); rintro e w9 ⟨v253, rfl, ho0, hb⟩; have n0_ := Aside0.mk (Kd.R_elder' (by (with_reducible repeat (first | apply Kd.R_alloc | apply Kd.R_drewN | apply Kd.R_drew)); exact HO250.out) (Kd.R_base ho0) hb); have n1_ := Aside0.mk (Kd.R_lower (Kd.R_new' ho0 (Kd.R_lt (by (with_reducible repeat (first | apply Kd.R_alloc | apply Kd.R_drewN | apply Kd.R_drew)); exact HO250.out))) (below_size (by repeat (first | (with_reducible first | exact HB.out | apply below_alloc | apply pw_below_drewN | apply below_drew1) | exact HB.out)))); have n2_ := Aside0.mk (below_step (by repeat (first | (with_reducible first | exact HB.out | apply below_alloc | apply pw_below_drewN | apply below_drew1) | exact HB.out)) hb); clear HO250; clear HB; have HO250 := n0_; have HO254 := n1_; have HB := n2_; clear n0_ n1_ n2_; (try clear hb); (try clear hb2); (try clear hk); (try clear hi); (try clear ho0); obtain ⟨Ao10, co10, eo10⟩ := Kd.R_slice HO250.out; subst eo10) | (go_at_call 10; (with_reducible refine (nulls_Join.calls k t247 (l0.length : Int) (fun k_ => some k_ = (.slice Ao10 t248.length co10 : Value).ownBlock) _ _ t248 t255 t258 _ ?side1 A6.out).mono ?_); (case side1 => exact Kd.R_V (Kd.R_tight rfl (HO250.out))); rintro e w11 ⟨v256, rfl, ho0, hb⟩; have n0_ := Aside0.mk (Kd.R_elder' (by (with_reducible repeat (first | apply Kd.R_alloc | apply Kd.R_drewN | apply Kd.R_drew)); exact HO250.out) (Kd.R_base ho0) hb); have n1_ := Aside0.mk (Kd.R_elder' (by (with_reducible repeat (first | apply Kd.R_alloc | apply Kd.R_drewN | apply Kd.R_drew)); exact HO254.out) (Kd.R_base ho0) hb); have n2_ := Aside0.mk (Kd.R_lower (Kd.R_new' (Kd.R_new' (Kd.R_mono (ok' := fun k_ => True) ho0 (fun _ hk_ => trivial)) (Kd.R_lt (by (with_reducible repeat (first | apply Kd.R_alloc | apply Kd.R_drewN | apply Kd.R_drew)); exact HO250.out))) (Kd.R_lt (by (with_reducible repeat (first | apply Kd.R_alloc | apply Kd.R_drewN | apply Kd.R_drew)); exact HO254.out))) (below_size (by repeat (first | (with_reducible first | exact HB.out | apply below_alloc | apply pw_below_drewN | apply below_drew1) | exact HB.out)))); have n3_ := Aside0.mk (below_step (by repeat (first | (with_reducible first | exact HB.out | apply below_alloc | apply pw_below_drewN | apply below_drew1) | exact HB.out)) hb); clear HO250; clear HO254; clear HB; have HO250 := n0_; have HO254 := n1_; have HO257 := n2_; have HB := n3_; clear n0_ n1_ n2_ n3_; (try clear hb); (try clear hb2); (try clear hk); (try clear hi); (try clear ho0)))
    repeat (go_quiet (first | (go_at_call 6; (with_reducible refine (peristyleref12_Light.calls k _ _ l0 100 true _ ?side1 ?side2 A2.out).mono ?_); (case side1 => repeat (first | exact HR0.out | (with_reducible refine Kd.C_alloc ?_ _) | (with_reducible refine Kd.C_drewN ?_ _) | (with_reducible refine Kd.C_drew ?_))); (case side2 => exact HC0.out); rintro e w' ⟨rfl, ⟨nd, rfl⟩⟩; (try first | exact ⟨rfl, _, World.drewN_drewN _ _ _⟩ | exact ⟨rfl, _, Eq.trans (World.drewN_drewN _ _ _) (congrArg (World.drewN _) (Nat.add_assoc _ _ _))⟩)) | (go_at_call 8; (with_reducible refine (nulls_Split.calls k _ _ l0 t247 t248 _ ?side1 ?side2 A4.out).mono ?_); (case side1 => repeat (first | exact HR0.out | (with_reducible refine Kd.C_alloc ?_ _) | (with_reducible refine Kd.C_drewN ?_ _) | (with_reducible refine Kd.C_drew ?_))); (case side2 => exact HC0.out); rintro e w8 ⟨v249, rfl, ho0, hb⟩; have n0_ := Aside0.mk (Kd.R_lower ho0 (below_size (by repeat (first | (with_reducible first | exact HB.out | apply below_alloc | apply pw_below_drewN | apply below_drew1) | exact HB.out)))); have n1_ := Aside0.mk (below_step (by repeat (first | (with_reducible first | exact HB.out | apply below_alloc | apply pw_below_drewN | apply below_drew1) | exact HB.out)) hb); clear HB; have HO250 := n0_; have HB := n1_; clear n0_ n1_; (try clear hb); (try clear hb2); (try clear hk); (try clear hi); (try clear ho0)) | (go_at_call 9; (with_reducible refine (peristyleref12_Split.calls k _ _ l0 t251 t252 _ ?side1 ?side2 A5.out).mono ?_); (case side1 => repeat (first | exact (Kd.C_below HR0.out HB.out) | (with_reducible refine Kd.C_alloc ?_ _) | (with_reducible refine Kd.C_drewN ?_ _) | (with_reducible refine Kd.C_drew ?_))); (case side2 => exact HC0.out); rintro e w9 ⟨v253, rfl, ho0, hb⟩; have n0_ := Aside0.mk (Kd.R_elder' (by (with_reducible repeat (first | apply Kd.R_alloc | apply Kd.R_drewN | apply Kd.R_drew)); exact HO250.out) (Kd.R_base ho0) hb); have n1_ := Aside0.mk (Kd.R_lower (Kd.R_new' ho0 (Kd.R_lt (by (with_reducible repeat (first | apply Kd.R_alloc | apply Kd.R_drewN | apply Kd.R_drew)); exact HO250.out))) (below_size (by repeat (first | (with_reducible first | exact HB.out | apply below_alloc | apply pw_below_drewN | apply below_drew1) | exact HB.out)))); have n2_ := Aside0.mk (below_step (by repeat (first | (with_reducible first | exact HB.out | apply below_alloc | apply pw_below_drewN | apply below_drew1) | exact HB.out)) hb); clear HO250; clear HB; have HO250 := n0_; have HO254 := n1_; have HB := n2_; clear n0_ n1_ n2_; (try clear hb); (try clear hb2); (try clear hk); (try clear hi); (try clear ho0); obtain ⟨Ao10, co10, eo10⟩ := Kd.R_slice HO250.out; subst eo10) | (go_at_call 10; (with_reducible refine (nulls_Join.calls k t247 (l0.length : Int) (fun k_ => some k_ = (.slice Ao10 t248.length co10 : Value).ownBlock) _ _ t248 t255 t258 _ ?side1 A6.out).mono ?_); (case side1 => exact Kd.R_V (Kd.R_tight rfl (HO250.out))); rintro e w11 ⟨v256, rfl, ho0, hb⟩; have n0_ := Aside0.mk (Kd.R_elder' (by (with_reducible repeat (first | apply Kd.R_alloc | apply Kd.R_drewN | apply Kd.R_drew)); exact HO250.out) (Kd.R_base ho0) hb); have n1_ := Aside0.mk (Kd.R_elder' (by (with_reducible repeat (first | apply Kd.R_alloc | apply Kd.R_drewN | apply Kd.R_drew)); exact HO254.out) (Kd.R_base ho0) hb); have n2_ := Aside0.mk (Kd.R_lower (Kd.R_new' (Kd.R_new' (Kd.R_mono (ok' := fun k_ => True) ho0 (fun _ hk_ => trivial)) (Kd.R_lt (by (with_reducible repeat (first | apply Kd.R_alloc | apply Kd.R_drewN | apply Kd.R_drew)); exact HO250.out))) (Kd.R_lt (by (with_reducible repeat (first | apply Kd.R_alloc | apply Kd.R_drewN | apply Kd.R_drew)); exact HO254.out))) (below_size (by repeat (first | (with_reducible first | exact HB.out | apply below_alloc | apply pw_below_drewN | apply below_drew1) | exact HB.out)))); have n3_ := Aside0.mk (below_step (by repeat (first | (with_reducible first | exact HB.out | apply below_alloc | apply pw_below_drewN | apply below_drew1) | exact HB.out)) hb); clear HO250; clear HO254; clear HB; have HO250 := n0_; have HO254 := n1_; have HO257 := n2_; have HB := n3_; clear n0_ n1_ n2_ n3_; (try clear hb); (try clear hb2); (try clear hk); (try clear hi); (try clear ho0))); go_upto_region 6 with (first | (go_at_call 6; (with_reducible refine (peristyleref12_Light.calls k _ _ l0 100 true _ ?side1 ?side2 A2.out).mono ?_); (case side1 => repeat (first | exact HR0.out | (with_reducible refine Kd.C_alloc ?_ _) | (with_reducible refine Kd.C_drewN ?_ _) | (with_reducible refine Kd.C_drew ?_))); (case side2 => exact HC0.out); rintro e w' ⟨rfl, ⟨nd, rfl⟩⟩; (try first | exact ⟨rfl, _, World.drewN_drewN _ _ _⟩ | exact ⟨rfl, _, Eq.trans (World.drewN_drewN _ _ _) (congrArg (World.drewN _) (Nat.add_assoc _ _ _))⟩)) | (go_at_call 8; (with_reducible refine (nulls_Split.calls k _ _ l0 t247 t248 _ ?side1 ?side2 A4.out).mono ?_); (case side1 => repeat (first | exact HR0.out | (with_reducible refine Kd.C_alloc ?_ _) | (with_reducible refine Kd.C_drewN ?_ _) | (with_reducible refine Kd.C_drew ?_))); (case side2 => exact HC0.out); rintro e w8 ⟨v249, rfl, ho0, hb⟩; have n0_ := Aside0.mk (Kd.R_lower ho0 (below_size (by repeat (first | (with_reducible first | exact HB.out | apply below_alloc | apply pw_below_drewN | apply below_drew1) | exact HB.out)))); have n1_ := Aside0.mk (below_step (by repeat (first | (with_reducible first | exact HB.out | apply below_alloc | apply pw_below_drewN | apply below_drew1) | exact HB.out)) hb); clear HB; have HO250 := n0_; have HB := n1_; clear n0_ n1_; (try clear hb); (try clear hb2); (try clear hk); (try clear hi); (try clear ho0)) | (go_at_call 9; (with_reducible refine (peristyleref12_Split.calls k _ _ l0 t251 t252 _ ?side1 ?side2 A5.out).mono ?_); (case side1 => repeat (first | exact (Kd.C_below HR0.out HB.out) | (with_reducible refine Kd.C_alloc ?_ _) | (with_reducible refine Kd.C_drewN ?_ _) | (with_reducible refine Kd.C_drew ?_))); (case side2 => exact HC0.out); rintro e w9 ⟨v253, rfl, ho0, hb⟩; have n0_ := Aside0.mk (Kd.R_elder' (by (with_reducible repeat (first | apply Kd.R_alloc | apply Kd.R_drewN | apply Kd.R_drew)); exact HO250.out) (Kd.R_base ho0) hb); have n1_ := Aside0.mk (Kd.R_lower (Kd.R_new' ho0 (Kd.R_lt (by (with_reducible repeat (first | apply Kd.R_alloc | apply Kd.R_drewN | apply Kd.R_drew)); exact HO250.out))) (below_size (by repeat (first | (with_reducible first | exact HB.out | apply below_alloc | apply pw_below_drewN | apply below_drew1) | exact HB.out)))); have n2_ := Aside0.mk (below_step (by repeat (first | (with_reducible first | exact HB.out | apply below_alloc | apply pw_below_drewN | apply below_drew1) | exact HB.out)) hb); clear HO250; clear HB; have HO250 := n0_; have HO254 := n1_; have HB := n2_; clear n0_ n1_ n2_; (try clear hb); (try clear hb2); (try clear hk); (try clear hi); (try clear ho0); obtain ⟨Ao10, co10, eo10⟩ := Kd.R_slice HO250.out; subst eo10) | (go_at_call 10; (with_reducible refine (nulls_Join.calls k t247 (l0.length : Int) (fun k_ => some k_ = (.slice Ao10 t248.length co10 : Value).ownBlock) _ _ t248 t255 t258 _ ?side1 A6.out).mono ?_); (case side1 => exact Kd.R_V (Kd.R_tight rfl (HO250.out))); rintro e w11 ⟨v256, rfl, ho0, hb⟩; have n0_ := Aside0.mk (Kd.R_elder' (by (with_reducible repeat (first | apply Kd.R_alloc | apply Kd.R_drewN | apply Kd.R_drew)); exact HO250.out) (Kd.R_base ho0) hb); have n1_ := Aside0.mk (Kd.R_elder' (by (with_reducible repeat (first | apply Kd.R_alloc | apply Kd.R_drewN | apply Kd.R_drew)); exact HO254.out) (Kd.R_base ho0) hb); have n2_ := Aside0.mk (Kd.R_lower (Kd.R_new' (Kd.R_new' (Kd.R_mono (ok' := fun k_ => True) ho0 (fun _ hk_ => trivial)) (Kd.R_lt (by (with_reducible repeat (first | apply Kd.R_alloc | apply Kd.R_drewN | apply Kd.R_drew)); exact HO250.out))) (Kd.R_lt (by (with_reducible repeat (first | apply Kd.R_alloc | apply Kd.R_drewN | apply Kd.R_drew)); exact HO254.out))) (below_size (by repeat (first | (with_reducible first | exact HB.out | apply below_alloc | apply pw_below_drewN | apply below_drew1) | exact HB.out)))); have n3_ := Aside0.mk (below_step (by repeat (first | (with_reducible first | exact HB.out | apply below_alloc | apply pw_below_drewN | apply below_drew1) | exact HB.out)) hb); clear HO250; clear HO254; clear HB; have HO250 := n0_; have HO254 := n1_; have HO257 := n2_; have HB := n3_; clear n0_ n1_ n2_ n3_; (try clear hb); (try clear hb2); (try clear hk); (try clear hi); (try clear ho0))))
    (try simp only [Act.put, List.setIfInBounds_toArray, List.set_cons_zero, List.set_cons_succ])
    go_cut [51] (fun v51 wc => ∃ (kq : Nat) (x51_6 : Bool), v51 = .bool x51_6 ∧ Aside0 (peristylelaw12_NullsSplits.j0 kq l0 t255 x51_6 = some r) ∧ Aside0 (kq ≤ k) ∧ Aside0 (Kd.R k32 32 wc w.heap.size (fun _ => True) v256 t255) ∧ Aside0 (Below w.heap.size w wc))
    case first =>
      have H := HC7.out
      clear HC7
      by_cases c12 : t247.toList = t251.toList
      · rw [if_pos c12] at H
        have c12b0 : (t247.toList == t251.toList) = true := beq_iff_eq.mpr c12
        have c12b1 : (t247.toList != t251.toList) = false := bne_eq_false_iff_eq.mpr c12
        clear c12
        (first | rw [c12b0] | (simp only [i64_w, i32_w]; rw [c12b0]) | skip)
        replace H := Option.bind_eq_some_iff.mp H
        obtain ⟨t259, A130, H⟩ := H
        replace H : (if t259 = true then (if t258 = 0 then (peristylelaw12_NullsSplits.j0 k l0 t255 ((t255.length : Int) != (l0.length : Int))) else (peristylelaw12_NullsSplits.j0 k l0 t255 true)) else (peristylelaw12_NullsSplits.j0 k l0 t255 true)) = some r := H
        have A13 := Aside0.mk A130
        clear A130
        by_cases c14 : t259 = true
        · subst c14
          have H1 : (if t258 = 0 then (peristylelaw12_NullsSplits.j0 k l0 t255 ((t255.length : Int) != (l0.length : Int))) else (peristylelaw12_NullsSplits.j0 k l0 t255 true)) = some r := by rw [if_pos rfl] at H; exact H
          clear H
          have H := H1
          clear H1
          by_cases c15 : t258 = 0
          · rw [if_pos c15] at H
            have c15b0 : (t258 == 0) = true := beq_iff_eq.mpr c15
            have c15b1 : (t258 != 0) = false := bne_eq_false_iff_eq.mpr c15
            clear c15
            have H' := Aside0.mk H
            clear H
            obtain ⟨Ao16, co16, eo16⟩ := Kd.R_slice HO254.out
            subst eo16
            go_wp2_with (first | (go_at_call 11; (with_reducible refine (peristyleref12_Same.calls k _ _ t248 _ _ t252 true _ ?side1 ?side2 ?side3 ?side4 A13.out).mono ?_); (case side1 => repeat (first | exact (Kd.R_reads' HO250.out).2.2 | (with_reducible refine Kd.C_alloc ?_ _) | (with_reducible refine Kd.C_drewN ?_ _) | (with_reducible refine Kd.C_drew ?_))); (case side2 => exact (Kd.R_reads' HO250.out).2.1); (case side3 => repeat (first | exact (Kd.R_reads' HO254.out).2.2 | (with_reducible refine Kd.C_alloc ?_ _) | (with_reducible refine Kd.C_drewN ?_ _) | (with_reducible refine Kd.C_drew ?_))); (case side4 => exact (Kd.R_reads' HO254.out).2.1); rintro e w' ⟨rfl, ⟨nd, rfl⟩⟩; (try first | exact ⟨rfl, _, World.drewN_drewN _ _ _⟩ | exact ⟨rfl, _, Eq.trans (World.drewN_drewN _ _ _) (congrArg (World.drewN _) (Nat.add_assoc _ _ _))⟩); obtain ⟨Ao17, co17, eo17⟩ := Kd.R_slice HO257.out; subst eo17))
            repeat (go_quiet (first | (go_at_call 11; (with_reducible refine (peristyleref12_Same.calls k _ _ t248 _ _ t252 true _ ?side1 ?side2 ?side3 ?side4 A13.out).mono ?_); (case side1 => repeat (first | exact (Kd.R_reads' HO250.out).2.2 | (with_reducible refine Kd.C_alloc ?_ _) | (with_reducible refine Kd.C_drewN ?_ _) | (with_reducible refine Kd.C_drew ?_))); (case side2 => exact (Kd.R_reads' HO250.out).2.1); (case side3 => repeat (first | exact (Kd.R_reads' HO254.out).2.2 | (with_reducible refine Kd.C_alloc ?_ _) | (with_reducible refine Kd.C_drewN ?_ _) | (with_reducible refine Kd.C_drew ?_))); (case side4 => exact (Kd.R_reads' HO254.out).2.1); rintro e w' ⟨rfl, ⟨nd, rfl⟩⟩; (try first | exact ⟨rfl, _, World.drewN_drewN _ _ _⟩ | exact ⟨rfl, _, Eq.trans (World.drewN_drewN _ _ _) (congrArg (World.drewN _) (Nat.add_assoc _ _ _))⟩); obtain ⟨Ao17, co17, eo17⟩ := Kd.R_slice HO257.out; subst eo17)); try go_wp2_with (first | (go_at_call 11; (with_reducible refine (peristyleref12_Same.calls k _ _ t248 _ _ t252 true _ ?side1 ?side2 ?side3 ?side4 A13.out).mono ?_); (case side1 => repeat (first | exact (Kd.R_reads' HO250.out).2.2 | (with_reducible refine Kd.C_alloc ?_ _) | (with_reducible refine Kd.C_drewN ?_ _) | (with_reducible refine Kd.C_drew ?_))); (case side2 => exact (Kd.R_reads' HO250.out).2.1); (case side3 => repeat (first | exact (Kd.R_reads' HO254.out).2.2 | (with_reducible refine Kd.C_alloc ?_ _) | (with_reducible refine Kd.C_drewN ?_ _) | (with_reducible refine Kd.C_drew ?_))); (case side4 => exact (Kd.R_reads' HO254.out).2.1); rintro e w' ⟨rfl, ⟨nd, rfl⟩⟩; (try first | exact ⟨rfl, _, World.drewN_drewN _ _ _⟩ | exact ⟨rfl, _, Eq.trans (World.drewN_drewN _ _ _) (congrArg (World.drewN _) (Nat.add_assoc _ _ _))⟩); obtain ⟨Ao17, co17, eo17⟩ := Kd.R_slice HO257.out; subst eo17)))
            go_meet
            case rel => exact ⟨_, (((t255.length : Int) != (l0.length : Int))), (by first | rfl | (simp; done) | (simp [*]; done)), H', ⟨by first | omega | exact Nat.le_refl _⟩, ⟨by (with_reducible repeat (first | apply Kd.R_alloc | apply Kd.R_drewN | apply Kd.R_drew)); exact Kd.R_mono HO257.out (fun _ hk => trivial)⟩, ⟨by repeat (first | (with_reducible first | exact HB.out | apply below_alloc | apply pw_below_drewN | apply below_drew1) | exact HB.out)⟩⟩
          · rw [if_neg c15] at H
            have c15b0 : (t258 == 0) = false := beq_eq_false_iff_ne.mpr c15
            have c15b1 : (t258 != 0) = true := bne_iff_ne.mpr c15
            have H' := Aside0.mk H
            clear H
            obtain ⟨Ao18, co18, eo18⟩ := Kd.R_slice HO254.out
            subst eo18
            go_wp2_with (first | (go_at_call 11; (with_reducible refine (peristyleref12_Same.calls k _ _ t248 _ _ t252 true _ ?side1 ?side2 ?side3 ?side4 A13.out).mono ?_); (case side1 => repeat (first | exact (Kd.R_reads' HO250.out).2.2 | (with_reducible refine Kd.C_alloc ?_ _) | (with_reducible refine Kd.C_drewN ?_ _) | (with_reducible refine Kd.C_drew ?_))); (case side2 => exact (Kd.R_reads' HO250.out).2.1); (case side3 => repeat (first | exact (Kd.R_reads' HO254.out).2.2 | (with_reducible refine Kd.C_alloc ?_ _) | (with_reducible refine Kd.C_drewN ?_ _) | (with_reducible refine Kd.C_drew ?_))); (case side4 => exact (Kd.R_reads' HO254.out).2.1); rintro e w' ⟨rfl, ⟨nd, rfl⟩⟩; (try first | exact ⟨rfl, _, World.drewN_drewN _ _ _⟩ | exact ⟨rfl, _, Eq.trans (World.drewN_drewN _ _ _) (congrArg (World.drewN _) (Nat.add_assoc _ _ _))⟩)))
            repeat (go_quiet (first | (go_at_call 11; (with_reducible refine (peristyleref12_Same.calls k _ _ t248 _ _ t252 true _ ?side1 ?side2 ?side3 ?side4 A13.out).mono ?_); (case side1 => repeat (first | exact (Kd.R_reads' HO250.out).2.2 | (with_reducible refine Kd.C_alloc ?_ _) | (with_reducible refine Kd.C_drewN ?_ _) | (with_reducible refine Kd.C_drew ?_))); (case side2 => exact (Kd.R_reads' HO250.out).2.1); (case side3 => repeat (first | exact (Kd.R_reads' HO254.out).2.2 | (with_reducible refine Kd.C_alloc ?_ _) | (with_reducible refine Kd.C_drewN ?_ _) | (with_reducible refine Kd.C_drew ?_))); (case side4 => exact (Kd.R_reads' HO254.out).2.1); rintro e w' ⟨rfl, ⟨nd, rfl⟩⟩; (try first | exact ⟨rfl, _, World.drewN_drewN _ _ _⟩ | exact ⟨rfl, _, Eq.trans (World.drewN_drewN _ _ _) (congrArg (World.drewN _) (Nat.add_assoc _ _ _))⟩))); try go_wp2_with (first | (go_at_call 11; (with_reducible refine (peristyleref12_Same.calls k _ _ t248 _ _ t252 true _ ?side1 ?side2 ?side3 ?side4 A13.out).mono ?_); (case side1 => repeat (first | exact (Kd.R_reads' HO250.out).2.2 | (with_reducible refine Kd.C_alloc ?_ _) | (with_reducible refine Kd.C_drewN ?_ _) | (with_reducible refine Kd.C_drew ?_))); (case side2 => exact (Kd.R_reads' HO250.out).2.1); (case side3 => repeat (first | exact (Kd.R_reads' HO254.out).2.2 | (with_reducible refine Kd.C_alloc ?_ _) | (with_reducible refine Kd.C_drewN ?_ _) | (with_reducible refine Kd.C_drew ?_))); (case side4 => exact (Kd.R_reads' HO254.out).2.1); rintro e w' ⟨rfl, ⟨nd, rfl⟩⟩; (try first | exact ⟨rfl, _, World.drewN_drewN _ _ _⟩ | exact ⟨rfl, _, Eq.trans (World.drewN_drewN _ _ _) (congrArg (World.drewN _) (Nat.add_assoc _ _ _))⟩))))
            go_meet
            case rel => exact ⟨_, (true), (by first | rfl | (simp; done) | (simp [*]; done)), H', ⟨by first | omega | exact Nat.le_refl _⟩, ⟨by (with_reducible repeat (first | apply Kd.R_alloc | apply Kd.R_drewN | apply Kd.R_drew)); exact Kd.R_mono HO257.out (fun _ hk => trivial)⟩, ⟨by repeat (first | (with_reducible first | exact HB.out | apply below_alloc | apply pw_below_drewN | apply below_drew1) | exact HB.out)⟩⟩
        · replace c14 := Bool.eq_false_iff.mpr c14
          subst c14
          have H1 : (peristylelaw12_NullsSplits.j0 k l0 t255 true) = some r := by rw [if_neg (show ¬ (false = true) by decide)] at H; exact H
          clear H
          have H := H1
          clear H1
          have H' := Aside0.mk H
          clear H
          obtain ⟨Ao19, co19, eo19⟩ := Kd.R_slice HO254.out
          subst eo19
          go_wp2_with (first | (go_at_call 11; (with_reducible refine (peristyleref12_Same.calls k _ _ t248 _ _ t252 false _ ?side1 ?side2 ?side3 ?side4 A13.out).mono ?_); (case side1 => repeat (first | exact (Kd.R_reads' HO250.out).2.2 | (with_reducible refine Kd.C_alloc ?_ _) | (with_reducible refine Kd.C_drewN ?_ _) | (with_reducible refine Kd.C_drew ?_))); (case side2 => exact (Kd.R_reads' HO250.out).2.1); (case side3 => repeat (first | exact (Kd.R_reads' HO254.out).2.2 | (with_reducible refine Kd.C_alloc ?_ _) | (with_reducible refine Kd.C_drewN ?_ _) | (with_reducible refine Kd.C_drew ?_))); (case side4 => exact (Kd.R_reads' HO254.out).2.1); rintro e w' ⟨rfl, ⟨nd, rfl⟩⟩; (try first | exact ⟨rfl, _, World.drewN_drewN _ _ _⟩ | exact ⟨rfl, _, Eq.trans (World.drewN_drewN _ _ _) (congrArg (World.drewN _) (Nat.add_assoc _ _ _))⟩)))
          repeat (go_quiet (first | (go_at_call 11; (with_reducible refine (peristyleref12_Same.calls k _ _ t248 _ _ t252 false _ ?side1 ?side2 ?side3 ?side4 A13.out).mono ?_); (case side1 => repeat (first | exact (Kd.R_reads' HO250.out).2.2 | (with_reducible refine Kd.C_alloc ?_ _) | (with_reducible refine Kd.C_drewN ?_ _) | (with_reducible refine Kd.C_drew ?_))); (case side2 => exact (Kd.R_reads' HO250.out).2.1); (case side3 => repeat (first | exact (Kd.R_reads' HO254.out).2.2 | (with_reducible refine Kd.C_alloc ?_ _) | (with_reducible refine Kd.C_drewN ?_ _) | (with_reducible refine Kd.C_drew ?_))); (case side4 => exact (Kd.R_reads' HO254.out).2.1); rintro e w' ⟨rfl, ⟨nd, rfl⟩⟩; (try first | exact ⟨rfl, _, World.drewN_drewN _ _ _⟩ | exact ⟨rfl, _, Eq.trans (World.drewN_drewN _ _ _) (congrArg (World.drewN _) (Nat.add_assoc _ _ _))⟩))); try go_wp2_with (first | (go_at_call 11; (with_reducible refine (peristyleref12_Same.calls k _ _ t248 _ _ t252 false _ ?side1 ?side2 ?side3 ?side4 A13.out).mono ?_); (case side1 => repeat (first | exact (Kd.R_reads' HO250.out).2.2 | (with_reducible refine Kd.C_alloc ?_ _) | (with_reducible refine Kd.C_drewN ?_ _) | (with_reducible refine Kd.C_drew ?_))); (case side2 => exact (Kd.R_reads' HO250.out).2.1); (case side3 => repeat (first | exact (Kd.R_reads' HO254.out).2.2 | (with_reducible refine Kd.C_alloc ?_ _) | (with_reducible refine Kd.C_drewN ?_ _) | (with_reducible refine Kd.C_drew ?_))); (case side4 => exact (Kd.R_reads' HO254.out).2.1); rintro e w' ⟨rfl, ⟨nd, rfl⟩⟩; (try first | exact ⟨rfl, _, World.drewN_drewN _ _ _⟩ | exact ⟨rfl, _, Eq.trans (World.drewN_drewN _ _ _) (congrArg (World.drewN _) (Nat.add_assoc _ _ _))⟩))))
          go_meet
          case rel => exact ⟨_, (true), (by first | rfl | (simp; done) | (simp [*]; done)), H', ⟨by first | omega | exact Nat.le_refl _⟩, ⟨by (with_reducible repeat (first | apply Kd.R_alloc | apply Kd.R_drewN | apply Kd.R_drew)); exact Kd.R_mono HO257.out (fun _ hk => trivial)⟩, ⟨by repeat (first | (with_reducible first | exact HB.out | apply below_alloc | apply pw_below_drewN | apply below_drew1) | exact HB.out)⟩⟩
      · rw [if_neg c12] at H
        have c12b0 : (t247.toList == t251.toList) = false := beq_eq_false_iff_ne.mpr c12
        have c12b1 : (t247.toList != t251.toList) = true := bne_iff_ne.mpr c12
        (first | rw [c12b0] | (simp only [i64_w, i32_w]; rw [c12b0]) | skip)
        have H' := Aside0.mk H
        clear H
        go_wp2
        repeat (go_quiet (fail); try go_wp2)
        go_meet
        case rel => exact ⟨_, (true), (by first | rfl | (simp; done) | (simp [*]; done)), H', ⟨by first | omega | exact Nat.le_refl _⟩, ⟨by (with_reducible repeat (first | apply Kd.R_alloc | apply Kd.R_drewN | apply Kd.R_drew)); exact Kd.R_mono HO257.out (fun _ hk => trivial)⟩, ⟨by repeat (first | (with_reducible first | exact HB.out | apply below_alloc | apply pw_below_drewN | apply below_drew1) | exact HB.out)⟩⟩
    case rest =>
      clear HC7
      try clear c1
      try clear p2
      try clear c3
      try clear c12
      try clear c12b0
      try clear c12b1
      try clear c14
      try clear c15
      try clear c15b0
      try clear c15b1
      obtain ⟨kq, x51_6, rfl, HA, HJ6, HO_7, HB⟩ := hcut
      cases kq with
      | zero => exact absurd HA.out (by simp [peristylelaw12_NullsSplits.j0])
      | succ kj6 =>
        have H := HA.out
        clear HA
        simp only [peristylelaw12_NullsSplits.j0] at H
        by_cases c20 : x51_6 = true
        · subst c20
          have H1 : (some false) = some r := by rw [if_pos rfl] at H; exact H
          clear H
          have H := H1
          clear H1
          obtain rfl := Option.some.inj H
          go_wp2
          repeat (go_quiet (fail); try go_wp2)
          go_ret
          exact ⟨by first | rfl | (simp [errW_none, errW_some] <;> rfl) | (simp [*, errW_none, errW_some] <;> rfl), by repeat (first | (with_reducible first | exact HB.out | apply below_alloc | apply pw_below_drewN | apply below_drew1) | exact HB.out)⟩
        · replace c20 := Bool.eq_false_iff.mpr c20
          subst c20
          have H1 : (peristylelaw12_NullsSplits.l0 kj6 l0 t255 0) = some r := by rw [if_neg (show ¬ (false = true) by decide)] at H; exact H
          clear H
          have H := H1
          clear H1
          have H' := Aside0.mk H
          clear H
          go_wp2
          repeat (go_quiet (fail); try go_wp2)
          go_loopg [9] kj6 (fun kq v9 w' => ∃ (x9_2 : Int), v9 = .int .i64 x9_2 ∧ Aside0 (peristylelaw12_NullsSplits.l0 kq l0 t255 x9_2 = some r) ∧ Aside0 (kq ≤ kj6) ∧ Aside0 (Kd.R k32 32 w' w.heap.size (fun _ => True) v256 t255) ∧ Aside0 (Below w.heap.size w w'))
          case atStart => exact ⟨(0), (by first | rfl | (simp; done) | (simp [*]; done)), H', ⟨Nat.le_refl _⟩, ⟨by (with_reducible repeat (first | apply Kd.R_alloc | apply Kd.R_drewN | apply Kd.R_drew)); exact HO_7.out⟩, ⟨by repeat (first | (with_reducible first | exact HB.out | apply below_alloc | apply pw_below_drewN | apply below_drew1) | exact HB.out)⟩⟩
          case round =>
            clear H'
            try clear c1
            try clear c2
            try clear p2
            try clear c3
            try clear c12
            try clear c12b0
            try clear c12b1
            try clear c14
            try clear c15
            try clear c15b0
            try clear c15b1
            try clear c20
            try clear p2
            obtain ⟨x9_2, rfl, HA, HK2, HO_7, HB⟩ := hrel
            cases gk with
            | zero => exact absurd HA.out (by simp [peristylelaw12_NullsSplits.l0])
            | succ k2 =>
              have H := HA.out
              clear HA
              simp only [peristylelaw12_NullsSplits.l0] at H
              have HC21 := Aside0.mk H
              clear H
              go_upto_region 9 with (fail)
              repeat (go_quiet (fail); go_upto_region 9 with (fail))
              go_cut [61] (fun v61 wc => ∃ (kq : Nat) (x61_20 : Bool), v61 = .bool x61_20 ∧ Aside0 (peristylelaw12_NullsSplits.j2 kq l0 t255 x9_2 x61_20 = some r) ∧ Aside0 (kq ≤ k2) ∧ Aside0 (Kd.R k32 32 wc w.heap.size (fun _ => True) v256 t255) ∧ Aside0 (Below w.heap.size w wc))
              case first =>
                have H := HC21.out
                clear HC21
                by_cases c22 : x9_2 < (l0.length : Int)
                · rw [if_pos c22] at H
                  have c22b0 : decide (x9_2 < (l0.length : Int)) = true := decide_eq_true c22
                  clear c22
                  (first | rw [c22b0] | (simp only [i64_w, i32_w]; rw [c22b0]) | skip)
                  have H' := Aside0.mk H
                  clear H
                  obtain ⟨Ao23, co23, eo23⟩ := Kd.R_slice HO_7.out
                  subst eo23
                  go_wp2
                  repeat (go_quiet (fail); try go_wp2)
                  go_meet
                  case rel => exact ⟨_, (decide (x9_2 < (t255.length : Int))), (by first | rfl | (simp; done) | (simp [*]; done)), H', ⟨by have := HJ6.out; have := HK2.out; first | omega | exact Nat.le_refl _⟩, ⟨by (with_reducible repeat (first | apply Kd.R_alloc | apply Kd.R_drewN | apply Kd.R_drew)); exact HO_7.out⟩, ⟨by repeat (first | (with_reducible first | exact HB.out | apply below_alloc | apply pw_below_drewN | apply below_drew1) | exact HB.out)⟩⟩
                · rw [if_neg c22] at H
                  have c22b0 : decide (x9_2 < (l0.length : Int)) = false := decide_eq_false c22
                  clear c22
                  (first | rw [c22b0] | (simp only [i64_w, i32_w]; rw [c22b0]) | skip)
                  have H' := Aside0.mk H
                  clear H
                  go_wp2
                  repeat (go_quiet (fail); try go_wp2)
                  go_meet
                  case rel => exact ⟨_, (false), (by first | rfl | (simp; done) | (simp [*]; done)), H', ⟨by have := HJ6.out; have := HK2.out; first | omega | exact Nat.le_refl _⟩, ⟨by (with_reducible repeat (first | apply Kd.R_alloc | apply Kd.R_drewN | apply Kd.R_drew)); exact HO_7.out⟩, ⟨by repeat (first | (with_reducible first | exact HB.out | apply below_alloc | apply pw_below_drewN | apply below_drew1) | exact HB.out)⟩⟩
              case rest =>
                clear HC21
                try clear c1
                try clear c2
                try clear p2
                try clear c3
                try clear c12
                try clear c12b0
                try clear c12b1
                try clear c14
                try clear c15
                try clear c15b0
                try clear c15b1
                try clear c20
                try clear c22
                try clear c22b0
                try clear p2
                obtain ⟨kq, x61_20, rfl, HA, HJ20, HO_7, HB⟩ := hcut
                cases kq with
                | zero => exact absurd HA.out (by simp [peristylelaw12_NullsSplits.j2])
                | succ kj20 =>
                  have H := HA.out
                  clear HA
                  simp only [peristylelaw12_NullsSplits.j2] at H
                  by_cases c24 : x61_20 = true
                  · subst c24
                    have H1 : (if 0 ≤ x9_2 then (if x9_2 < (l0.length : Int) then (if ((rd_T32 l0 x9_2).f0) = 0 then (if x9_2 < (t255.length : Int) then (if (!(((rd_T32 t255 x9_2).f0) == 0) || (!(((rd_T32 t255 x9_2).f1) == 0) || (!((((rd_T32 t255 x9_2).f2).toList) == ([] : List UInt8))))) = true then (some false) else (peristylelaw12_NullsSplits.l0 kj20 l0 t255 (wrap64 (x9_2 + 1)))) else (none)) else (if x9_2 < (t255.length : Int) then (if (!(((rd_T32 t255 x9_2).f0) == ((rd_T32 l0 x9_2).f0)) || (!(((rd_T32 t255 x9_2).f1) == ((rd_T32 l0 x9_2).f1)) || (!((((rd_T32 t255 x9_2).f2).toList) == (((rd_T32 l0 x9_2).f2).toList))))) = true then (some false) else (peristylelaw12_NullsSplits.l0 kj20 l0 t255 (wrap64 (x9_2 + 1)))) else (none))) else (none)) else (none)) = some r := by rw [if_pos rfl] at H; exact H
                    clear H
                    have H := H1
                    clear H1
                    by_cases c25 : 0 ≤ x9_2
                    · rw [if_pos c25] at H
                      have c25b0 : decide (0 ≤ x9_2) = true := decide_eq_true c25
                      clear c25
                      by_cases c26 : x9_2 < (l0.length : Int)
                      · rw [if_pos c26] at H
                        have c26b0 : decide (x9_2 < (l0.length : Int)) = true := decide_eq_true c26
                        clear c26
                        by_cases c27 : ((rd_T32 l0 x9_2).f0) = 0
                        · rw [if_pos c27] at H
                          have c27b0 : (((rd_T32 l0 x9_2).f0) == 0) = true := beq_iff_eq.mpr c27
                          have c27b1 : (((rd_T32 l0 x9_2).f0) != 0) = false := bne_eq_false_iff_eq.mpr c27
                          clear c27
                          by_cases c28 : x9_2 < (t255.length : Int)
                          · rw [if_pos c28] at H
                            have c28b0 : decide (x9_2 < (t255.length : Int)) = true := decide_eq_true c28
                            clear c28
                            by_cases c29 : (!(((rd_T32 t255 x9_2).f0) == 0) || (!(((rd_T32 t255 x9_2).f1) == 0) || (!((((rd_T32 t255 x9_2).f2).toList) == ([] : List UInt8))))) = true
                            · rw [if_pos c29] at H
                              have c29b0 : (!(((rd_T32 t255 x9_2).f0) == 0) || (!(((rd_T32 t255 x9_2).f1) == 0) || (!((((rd_T32 t255 x9_2).f2).toList) == ([] : List UInt8))))) = true := c29
                              (try (have c29b0e : (!(((rd_T32 t255 x9_2).f0) == 0) || (!(((rd_T32 t255 x9_2).f1) == 0) || (!((((rd_T32 t255 x9_2).f2).toList).isEmpty)))) = true := by simpa using c29b0))
                              clear c29
                              obtain rfl := Option.some.inj H
                              have p260 : 0 ≤ (x9_2 : Int) := of_decide_eq_true (by first | (with_reducible assumption) | assumption)
                              have q260 : x9_2 < (l0.length : Int) := of_decide_eq_true (by first | (with_reducible assumption) | assumption)
                              obtain ⟨ad260, e260, hx260_0, hx260_1, hx260_2⟩ := at_T32 HR0.out x9_2 p260 q260
                              cases e260
                              replace hx260_0 := (HB.out.cell (World.block_lt_of_cell? w _ hx260_0)).trans hx260_0
                              replace hx260_1 := (HB.out.cell (World.block_lt_of_cell? w _ hx260_1)).trans hx260_1
                              replace hx260_2 := (HB.out.cell (World.block_lt_of_cell? w _ hx260_2)).trans hx260_2
                              replace p260 := eq_true p260
                              replace q260 := eq_true q260
                              obtain ⟨Ao30, co30, eo30⟩ := Kd.R_slice HO_7.out
                              subst eo30
                              have p261 : 0 ≤ (x9_2 : Int) := of_decide_eq_true (by first | (with_reducible assumption) | assumption)
                              have q261 : x9_2 < (t255.length : Int) := of_decide_eq_true (by first | (with_reducible assumption) | assumption)
                              obtain ⟨ad261, e261, hx261_0, hx261_1, hx261_2⟩ := at_T32 (Kd.R_reads' HO_7.out).2.2 x9_2 p261 q261
                              cases e261
                              replace p261 := eq_true p261
                              replace q261 := eq_true q261
                              go_wp2
                              repeat (go_quiet (fail); try go_wp2)
                              go_ret
                              exact ⟨by first | rfl | (simp [errW_none, errW_some] <;> rfl) | (simp [*, errW_none, errW_some] <;> rfl), by repeat (first | (with_reducible first | exact HB.out | apply below_alloc | apply pw_below_drewN | apply below_drew1) | exact HB.out)⟩
                            · rw [if_neg c29] at H
                              have c29b0 : (!(((rd_T32 t255 x9_2).f0) == 0) || (!(((rd_T32 t255 x9_2).f1) == 0) || (!((((rd_T32 t255 x9_2).f2).toList) == ([] : List UInt8))))) = false := by simpa using c29
                              (try (have c29b0e : (!(((rd_T32 t255 x9_2).f0) == 0) || (!(((rd_T32 t255 x9_2).f1) == 0) || (!((((rd_T32 t255 x9_2).f2).toList).isEmpty)))) = false := by simpa using c29b0))
                              clear c29
                              have H' := Aside0.mk H
                              clear H
                              have p260 : 0 ≤ (x9_2 : Int) := of_decide_eq_true (by first | (with_reducible assumption) | assumption)
                              have q260 : x9_2 < (l0.length : Int) := of_decide_eq_true (by first | (with_reducible assumption) | assumption)
                              obtain ⟨ad260, e260, hx260_0, hx260_1, hx260_2⟩ := at_T32 HR0.out x9_2 p260 q260
                              cases e260
                              replace hx260_0 := (HB.out.cell (World.block_lt_of_cell? w _ hx260_0)).trans hx260_0
                              replace hx260_1 := (HB.out.cell (World.block_lt_of_cell? w _ hx260_1)).trans hx260_1
                              replace hx260_2 := (HB.out.cell (World.block_lt_of_cell? w _ hx260_2)).trans hx260_2
                              replace p260 := eq_true p260
                              replace q260 := eq_true q260
                              obtain ⟨Ao31, co31, eo31⟩ := Kd.R_slice HO_7.out
                              subst eo31
                              have p261 : 0 ≤ (x9_2 : Int) := of_decide_eq_true (by first | (with_reducible assumption) | assumption)
                              have q261 : x9_2 < (t255.length : Int) := of_decide_eq_true (by first | (with_reducible assumption) | assumption)
                              obtain ⟨ad261, e261, hx261_0, hx261_1, hx261_2⟩ := at_T32 (Kd.R_reads' HO_7.out).2.2 x9_2 p261 q261
                              cases e261
                              replace p261 := eq_true p261
                              replace q261 := eq_true q261
                              have p262 : 0 ≤ (x9_2 : Int) := of_decide_eq_true (by first | (with_reducible assumption) | assumption)
                              have q262 : x9_2 < (l0.length : Int) := of_decide_eq_true (by first | (with_reducible assumption) | assumption)
                              obtain ⟨ad262, e262, hx262_0, hx262_1, hx262_2⟩ := at_T32 HR0.out x9_2 p262 q262
                              obtain rfl : ad260 = ad262 := (by injection e262)
                              replace hx262_0 := (HB.out.cell (World.block_lt_of_cell? w _ hx262_0)).trans hx262_0
                              replace hx262_1 := (HB.out.cell (World.block_lt_of_cell? w _ hx262_1)).trans hx262_1
                              replace hx262_2 := (HB.out.cell (World.block_lt_of_cell? w _ hx262_2)).trans hx262_2
                              replace p262 := eq_true p262
                              replace q262 := eq_true q262
                              go_wp2
                              repeat (go_quiet (fail); try go_wp2)
                              go_roundg kj20
                              case measure => have := HJ6.out; have := HK2.out; have := HJ20.out; omega
                              case rel => exact ⟨(wrap64 (x9_2 + 1)), (by first | rfl | (simp; done) | (simp [*]; done)), H', ⟨by have := HJ6.out; have := HK2.out; have := HJ20.out; omega⟩, ⟨by (with_reducible repeat (first | apply Kd.R_alloc | apply Kd.R_drewN | apply Kd.R_drew)); exact HO_7.out⟩, ⟨by repeat (first | (with_reducible first | exact HB.out | apply below_alloc | apply pw_below_drewN | apply below_drew1) | exact HB.out)⟩⟩
                          · rw [if_neg c28] at H
                            exact absurd H (by simp)
                        · rw [if_neg c27] at H
                          have c27b0 : (((rd_T32 l0 x9_2).f0) == 0) = false := beq_eq_false_iff_ne.mpr c27
                          have c27b1 : (((rd_T32 l0 x9_2).f0) != 0) = true := bne_iff_ne.mpr c27
                          by_cases c32 : x9_2 < (t255.length : Int)
                          · rw [if_pos c32] at H
                            have c32b0 : decide (x9_2 < (t255.length : Int)) = true := decide_eq_true c32
                            clear c32
                            by_cases c33 : (!(((rd_T32 t255 x9_2).f0) == ((rd_T32 l0 x9_2).f0)) || (!(((rd_T32 t255 x9_2).f1) == ((rd_T32 l0 x9_2).f1)) || (!((((rd_T32 t255 x9_2).f2).toList) == (((rd_T32 l0 x9_2).f2).toList))))) = true
                            · rw [if_pos c33] at H
                              have c33b0 : (!(((rd_T32 t255 x9_2).f0) == ((rd_T32 l0 x9_2).f0)) || (!(((rd_T32 t255 x9_2).f1) == ((rd_T32 l0 x9_2).f1)) || (!((((rd_T32 t255 x9_2).f2).toList) == (((rd_T32 l0 x9_2).f2).toList))))) = true := c33
                              clear c33
                              obtain rfl := Option.some.inj H
                              have p260 : 0 ≤ (x9_2 : Int) := of_decide_eq_true (by first | (with_reducible assumption) | assumption)
                              have q260 : x9_2 < (l0.length : Int) := of_decide_eq_true (by first | (with_reducible assumption) | assumption)
                              obtain ⟨ad260, e260, hx260_0, hx260_1, hx260_2⟩ := at_T32 HR0.out x9_2 p260 q260
                              cases e260
                              replace hx260_0 := (HB.out.cell (World.block_lt_of_cell? w _ hx260_0)).trans hx260_0
                              replace hx260_1 := (HB.out.cell (World.block_lt_of_cell? w _ hx260_1)).trans hx260_1
                              replace hx260_2 := (HB.out.cell (World.block_lt_of_cell? w _ hx260_2)).trans hx260_2
                              replace p260 := eq_true p260
                              replace q260 := eq_true q260
                              have p263 : 0 ≤ (x9_2 : Int) := of_decide_eq_true (by first | (with_reducible assumption) | assumption)
                              have q263 : x9_2 < (l0.length : Int) := of_decide_eq_true (by first | (with_reducible assumption) | assumption)
                              obtain ⟨ad263, e263, hx263_0, hx263_1, hx263_2⟩ := at_T32 HR0.out x9_2 p263 q263
                              obtain rfl : ad260 = ad263 := (by injection e263)
                              replace hx263_0 := (HB.out.cell (World.block_lt_of_cell? w _ hx263_0)).trans hx263_0
                              replace hx263_1 := (HB.out.cell (World.block_lt_of_cell? w _ hx263_1)).trans hx263_1
                              replace hx263_2 := (HB.out.cell (World.block_lt_of_cell? w _ hx263_2)).trans hx263_2
                              replace p263 := eq_true p263
                              replace q263 := eq_true q263
                              obtain ⟨Ao34, co34, eo34⟩ := Kd.R_slice HO_7.out
                              subst eo34
                              have p264 : 0 ≤ (x9_2 : Int) := of_decide_eq_true (by first | (with_reducible assumption) | assumption)
                              have q264 : x9_2 < (t255.length : Int) := of_decide_eq_true (by first | (with_reducible assumption) | assumption)
                              obtain ⟨ad264, e264, hx264_0, hx264_1, hx264_2⟩ := at_T32 (Kd.R_reads' HO_7.out).2.2 x9_2 p264 q264
                              cases e264
                              replace p264 := eq_true p264
                              replace q264 := eq_true q264
                              have p265 : 0 ≤ (x9_2 : Int) := of_decide_eq_true (by first | (with_reducible assumption) | assumption)
                              have q265 : x9_2 < (l0.length : Int) := of_decide_eq_true (by first | (with_reducible assumption) | assumption)
                              obtain ⟨ad265, e265, hx265_0, hx265_1, hx265_2⟩ := at_T32 HR0.out x9_2 p265 q265
                              obtain rfl : ad260 = ad265 := (by injection e265)
                              replace hx265_0 := (HB.out.cell (World.block_lt_of_cell? w _ hx265_0)).trans hx265_0
                              replace hx265_1 := (HB.out.cell (World.block_lt_of_cell? w _ hx265_1)).trans hx265_1
                              replace hx265_2 := (HB.out.cell (World.block_lt_of_cell? w _ hx265_2)).trans hx265_2
                              replace p265 := eq_true p265
                              replace q265 := eq_true q265
                              go_wp2
                              repeat (go_quiet (fail); try go_wp2)
                              go_ret
                              exact ⟨by first | rfl | (simp [errW_none, errW_some] <;> rfl) | (simp [*, errW_none, errW_some] <;> rfl), by repeat (first | (with_reducible first | exact HB.out | apply below_alloc | apply pw_below_drewN | apply below_drew1) | exact HB.out)⟩
                            · rw [if_neg c33] at H
                              have c33b0 : (!(((rd_T32 t255 x9_2).f0) == ((rd_T32 l0 x9_2).f0)) || (!(((rd_T32 t255 x9_2).f1) == ((rd_T32 l0 x9_2).f1)) || (!((((rd_T32 t255 x9_2).f2).toList) == (((rd_T32 l0 x9_2).f2).toList))))) = false := by simpa using c33
                              clear c33
                              have H' := Aside0.mk H
                              clear H
                              have p260 : 0 ≤ (x9_2 : Int) := of_decide_eq_true (by first | (with_reducible assumption) | assumption)
                              have q260 : x9_2 < (l0.length : Int) := of_decide_eq_true (by first | (with_reducible assumption) | assumption)
                              obtain ⟨ad260, e260, hx260_0, hx260_1, hx260_2⟩ := at_T32 HR0.out x9_2 p260 q260
                              cases e260
                              replace hx260_0 := (HB.out.cell (World.block_lt_of_cell? w _ hx260_0)).trans hx260_0
                              replace hx260_1 := (HB.out.cell (World.block_lt_of_cell? w _ hx260_1)).trans hx260_1
                              replace hx260_2 := (HB.out.cell (World.block_lt_of_cell? w _ hx260_2)).trans hx260_2
                              replace p260 := eq_true p260
                              replace q260 := eq_true q260
                              have p263 : 0 ≤ (x9_2 : Int) := of_decide_eq_true (by first | (with_reducible assumption) | assumption)
                              have q263 : x9_2 < (l0.length : Int) := of_decide_eq_true (by first | (with_reducible assumption) | assumption)
                              obtain ⟨ad263, e263, hx263_0, hx263_1, hx263_2⟩ := at_T32 HR0.out x9_2 p263 q263
                              obtain rfl : ad260 = ad263 := (by injection e263)
                              replace hx263_0 := (HB.out.cell (World.block_lt_of_cell? w _ hx263_0)).trans hx263_0
                              replace hx263_1 := (HB.out.cell (World.block_lt_of_cell? w _ hx263_1)).trans hx263_1
                              replace hx263_2 := (HB.out.cell (World.block_lt_of_cell? w _ hx263_2)).trans hx263_2
                              replace p263 := eq_true p263
                              replace q263 := eq_true q263
                              obtain ⟨Ao35, co35, eo35⟩ := Kd.R_slice HO_7.out
                              subst eo35
                              have p264 : 0 ≤ (x9_2 : Int) := of_decide_eq_true (by first | (with_reducible assumption) | assumption)
                              have q264 : x9_2 < (t255.length : Int) := of_decide_eq_true (by first | (with_reducible assumption) | assumption)
                              obtain ⟨ad264, e264, hx264_0, hx264_1, hx264_2⟩ := at_T32 (Kd.R_reads' HO_7.out).2.2 x9_2 p264 q264
                              cases e264
                              replace p264 := eq_true p264
                              replace q264 := eq_true q264
                              have p265 : 0 ≤ (x9_2 : Int) := of_decide_eq_true (by first | (with_reducible assumption) | assumption)
                              have q265 : x9_2 < (l0.length : Int) := of_decide_eq_true (by first | (with_reducible assumption) | assumption)
                              obtain ⟨ad265, e265, hx265_0, hx265_1, hx265_2⟩ := at_T32 HR0.out x9_2 p265 q265
                              obtain rfl : ad260 = ad265 := (by injection e265)
                              replace hx265_0 := (HB.out.cell (World.block_lt_of_cell? w _ hx265_0)).trans hx265_0
                              replace hx265_1 := (HB.out.cell (World.block_lt_of_cell? w _ hx265_1)).trans hx265_1
                              replace hx265_2 := (HB.out.cell (World.block_lt_of_cell? w _ hx265_2)).trans hx265_2
                              replace p265 := eq_true p265
                              replace q265 := eq_true q265
                              go_wp2
                              repeat (go_quiet (fail); try go_wp2)
                              go_roundg kj20
                              case measure => have := HJ6.out; have := HK2.out; have := HJ20.out; omega
                              case rel => exact ⟨(wrap64 (x9_2 + 1)), (by first | rfl | (simp; done) | (simp [*]; done)), H', ⟨by have := HJ6.out; have := HK2.out; have := HJ20.out; omega⟩, ⟨by (with_reducible repeat (first | apply Kd.R_alloc | apply Kd.R_drewN | apply Kd.R_drew)); exact HO_7.out⟩, ⟨by repeat (first | (with_reducible first | exact HB.out | apply below_alloc | apply pw_below_drewN | apply below_drew1) | exact HB.out)⟩⟩
                          · rw [if_neg c32] at H
                            exact absurd H (by simp)
                      · rw [if_neg c26] at H
                        exact absurd H (by simp)
                    · rw [if_neg c25] at H
                      exact absurd H (by simp)
                  · replace c24 := Bool.eq_false_iff.mpr c24
                    subst c24
                    have H1 : ((peristylelaw12_awake.f kj20).bind fun t266 => (some t266)) = some r := by rw [if_neg (show ¬ (false = true) by decide)] at H; exact H
                    clear H
                    have H := H1
                    clear H1
                    replace H := Option.bind_eq_some_iff.mp H
                    obtain ⟨t266, A360, H⟩ := H
                    replace H : (some t266) = some r := H
                    have A36 := Aside0.mk A360
                    clear A360
                    obtain rfl := Option.some.inj H
                    go_wp2_with (first | (go_at_call 7; (with_reducible refine (peristylelaw12_awake.calls kj20  t266 _ A36.out).mono ?_); rintro e w37 ⟨rfl, hb⟩; have n0_ := Aside0.mk (Kd.R_below (by (with_reducible repeat (first | apply Kd.R_alloc | apply Kd.R_drewN | apply Kd.R_drew)); exact HO_7.out) hb); have n1_ := Aside0.mk (below_step (by repeat (first | (with_reducible first | exact HB.out | apply below_alloc | apply pw_below_drewN | apply below_drew1) | exact HB.out)) hb); clear HO_7; clear HB; have HO_7 := n0_; have HB := n1_; clear n0_ n1_; (try clear hb); (try clear hb2); (try clear hk); (try clear hi)))
                    repeat (go_quiet (first | (go_at_call 7; (with_reducible refine (peristylelaw12_awake.calls kj20  t266 _ A36.out).mono ?_); rintro e w37 ⟨rfl, hb⟩; have n0_ := Aside0.mk (Kd.R_below (by (with_reducible repeat (first | apply Kd.R_alloc | apply Kd.R_drewN | apply Kd.R_drew)); exact HO_7.out) hb); have n1_ := Aside0.mk (below_step (by repeat (first | (with_reducible first | exact HB.out | apply below_alloc | apply pw_below_drewN | apply below_drew1) | exact HB.out)) hb); clear HO_7; clear HB; have HO_7 := n0_; have HB := n1_; clear n0_ n1_; (try clear hb); (try clear hb2); (try clear hk); (try clear hi))); try go_wp2_with (first | (go_at_call 7; (with_reducible refine (peristylelaw12_awake.calls kj20  t266 _ A36.out).mono ?_); rintro e w37 ⟨rfl, hb⟩; have n0_ := Aside0.mk (Kd.R_below (by (with_reducible repeat (first | apply Kd.R_alloc | apply Kd.R_drewN | apply Kd.R_drew)); exact HO_7.out) hb); have n1_ := Aside0.mk (below_step (by repeat (first | (with_reducible first | exact HB.out | apply below_alloc | apply pw_below_drewN | apply below_drew1) | exact HB.out)) hb); clear HO_7; clear HB; have HO_7 := n0_; have HB := n1_; clear n0_ n1_; (try clear hb); (try clear hb2); (try clear hk); (try clear hi))))
                    go_ret
                    exact ⟨by first | rfl | (simp [errW_none, errW_some] <;> rfl) | (simp [*, errW_none, errW_some] <;> rfl), by repeat (first | (with_reducible first | exact HB.out | apply below_alloc | apply pw_below_drewN | apply below_drew1) | exact HB.out)⟩
  · replace c3 := Bool.eq_false_iff.mpr c3
    subst c3
    have H1 : ((peristylelaw12_awake.f k).bind fun t246 => (some t246)) = some r := by rw [if_neg (show ¬ (false = true) by decide)] at H; exact H
    clear H
    have H := H1
    clear H1
    replace H := Option.bind_eq_some_iff.mp H
    obtain ⟨t246, A380, H⟩ := H
    replace H : (some t246) = some r := H
    have A38 := Aside0.mk A380
    clear A380
    obtain rfl := Option.some.inj H
    go_enter Try.func3, Try.ntmps3
    go_wp2_with (first | (go_at_call 6; (with_reducible refine (peristyleref12_Light.calls k _ _ l0 100 false _ ?side1 ?side2 A2.out).mono ?_); (case side1 => repeat (first | exact HR0.out | (with_reducible refine Kd.C_alloc ?_ _) | (with_reducible refine Kd.C_drewN ?_ _) | (with_reducible refine Kd.C_drew ?_))); (case side2 => exact HC0.out); rintro e w' ⟨rfl, ⟨nd, rfl⟩⟩; (try first | exact ⟨rfl, _, World.drewN_drewN _ _ _⟩ | exact ⟨rfl, _, Eq.trans (World.drewN_drewN _ _ _) (congrArg (World.drewN _) (Nat.add_assoc _ _ _))⟩)) | (go_at_call 7; (with_reducible refine (peristylelaw12_awake.calls k  t246 _ A38.out).mono ?_); rintro e w39 ⟨rfl, hb⟩; have n0_ := Aside0.mk (below_step (by repeat (first | (with_reducible first | exact HB.out | apply below_alloc | apply pw_below_drewN | apply below_drew1) | exact HB.out)) hb); clear HB; have HB := n0_; clear n0_; (try clear hb); (try clear hb2); (try clear hk); (try clear hi)))
    repeat (go_quiet (first | (go_at_call 6; (with_reducible refine (peristyleref12_Light.calls k _ _ l0 100 false _ ?side1 ?side2 A2.out).mono ?_); (case side1 => repeat (first | exact HR0.out | (with_reducible refine Kd.C_alloc ?_ _) | (with_reducible refine Kd.C_drewN ?_ _) | (with_reducible refine Kd.C_drew ?_))); (case side2 => exact HC0.out); rintro e w' ⟨rfl, ⟨nd, rfl⟩⟩; (try first | exact ⟨rfl, _, World.drewN_drewN _ _ _⟩ | exact ⟨rfl, _, Eq.trans (World.drewN_drewN _ _ _) (congrArg (World.drewN _) (Nat.add_assoc _ _ _))⟩)) | (go_at_call 7; (with_reducible refine (peristylelaw12_awake.calls k  t246 _ A38.out).mono ?_); rintro e w39 ⟨rfl, hb⟩; have n0_ := Aside0.mk (below_step (by repeat (first | (with_reducible first | exact HB.out | apply below_alloc | apply pw_below_drewN | apply below_drew1) | exact HB.out)) hb); clear HB; have HB := n0_; clear n0_; (try clear hb); (try clear hb2); (try clear hk); (try clear hi))); try go_wp2_with (first | (go_at_call 6; (with_reducible refine (peristyleref12_Light.calls k _ _ l0 100 false _ ?side1 ?side2 A2.out).mono ?_); (case side1 => repeat (first | exact HR0.out | (with_reducible refine Kd.C_alloc ?_ _) | (with_reducible refine Kd.C_drewN ?_ _) | (with_reducible refine Kd.C_drew ?_))); (case side2 => exact HC0.out); rintro e w' ⟨rfl, ⟨nd, rfl⟩⟩; (try first | exact ⟨rfl, _, World.drewN_drewN _ _ _⟩ | exact ⟨rfl, _, Eq.trans (World.drewN_drewN _ _ _) (congrArg (World.drewN _) (Nat.add_assoc _ _ _))⟩)) | (go_at_call 7; (with_reducible refine (peristylelaw12_awake.calls k  t246 _ A38.out).mono ?_); rintro e w39 ⟨rfl, hb⟩; have n0_ := Aside0.mk (below_step (by repeat (first | (with_reducible first | exact HB.out | apply below_alloc | apply pw_below_drewN | apply below_drew1) | exact HB.out)) hb); clear HB; have HB := n0_; clear n0_; (try clear hb); (try clear hb2); (try clear hk); (try clear hi))))
    go_ret
    exact ⟨by first | rfl | (simp [errW_none, errW_some] <;> rfl) | (simp [*, errW_none, errW_some] <;> rfl), by repeat (first | (with_reducible first | exact HB.out | apply below_alloc | apply pw_below_drewN | apply below_drew1) | exact HB.out)⟩

/-- THE ONE PURE STATEMENT of peristylelaw12_NullsSplits: yours. -/
def peristylelaw12_NullsSplits.Pure : Prop := ∀ (l0 : List (S32)), (fun l : List (S32) => l.length ≤ maxLen ∧ l.length * 32 ≤ 140737488351232 ∧ ∀ x ∈ l, (fun x : S32 => (fun z : Int => (Lit.int .i64 z).wf = true) x.f0 ∧ (fun z : Int => (Lit.int .i64 z).wf = true) x.f1 ∧ (fun s : ByteArray => s.size ≤ 140737488351232) x.f2) x) l0 → ∃ k, peristylelaw12_NullsSplits.f k l0 = some true
theorem peristylelaw12_NullsSplits.walk (P : peristylelaw12_NullsSplits.Pure) (A0 : Option Addr) (c0 : Nat) (l0 : List (S32)) (w : World) (hr0 : Kd.C k32 w A0 l0.length l0) (hc0 : l0.length ≤ c0) (w0 : (fun l : List (S32) => l.length ≤ maxLen ∧ l.length * 32 ≤ 140737488351232 ∧ ∀ x ∈ l, (fun x : S32 => (fun z : Int => (Lit.int .i64 z).wf = true) x.f0 ∧ (fun z : Int => (Lit.int .i64 z).wf = true) x.f1 ∧ (fun s : ByteArray => s.size ≤ 140737488351232) x.f2) x) l0) :
    Calls Try.prog 3 #[.slice A0 l0.length c0] w fun e w' => e = .returned (.bool true) ∧ Below w.heap.size w w' := by
  obtain ⟨k, h⟩ := P l0 w0
  refine (peristylelaw12_NullsSplits.calls k _ _ l0 true w hr0 hc0 h).mono ?_
  rintro e w' ⟨rfl, hd⟩
  exact ⟨rfl, hd⟩

/-! ### peristyleref08_word: function 38 -/
def peristyleref08_word.l0 : Nat → ByteArray → Int → Int → Int → Int → Option (Int)
  | 0, _, _, _, _, _ => none
  | k + 1, x0, x1, x2, x7, x8 => if x8 < x2 then (if 0 ≤ (wrap64 (Int.tdiv (wrap64 ((wrap64 (x1 * x2)) + x8)) 8)) then (if (wrap64 (Int.tdiv (wrap64 ((wrap64 (x1 * x2)) + x8)) 8)) < (x0.size : Int) then (if 0 ≤ (Int.tmod (wrap64 ((wrap64 (x1 * x2)) + x8)) 8) then (if (Go.bits .and .i64 (shr .i64 (wrap64 (bt x0 (wrap64 (Int.tdiv (wrap64 ((wrap64 (x1 * x2)) + x8)) 8)))) (Int.tmod (wrap64 ((wrap64 (x1 * x2)) + x8)) 8)) 1) = 1 then (if 0 ≤ x8 then (peristyleref08_word.l0 k x0 x1 x2 (Go.bits .or .i64 x7 (shl .i64 1 x8)) (wrap64 (x8 + 1))) else (none)) else (peristyleref08_word.l0 k x0 x1 x2 x7 (wrap64 (x8 + 1)))) else (none)) else (none)) else (none)) else (some x7)
def peristyleref08_word.f (k : Nat) (a0 : ByteArray) (a1 : Int) (a2 : Int) : Option (Int) := peristyleref08_word.l0 k a0 a1 a2 0 0
theorem peristyleref08_word.l0_succ (k : Nat) (x0 : ByteArray) (x1 : Int) (x2 : Int) (x7 : Int) (x8 : Int) : peristyleref08_word.l0 (k + 1) x0 x1 x2 x7 x8 = (if x8 < x2 then (if 0 ≤ (wrap64 (Int.tdiv (wrap64 ((wrap64 (x1 * x2)) + x8)) 8)) then (if (wrap64 (Int.tdiv (wrap64 ((wrap64 (x1 * x2)) + x8)) 8)) < (x0.size : Int) then (if 0 ≤ (Int.tmod (wrap64 ((wrap64 (x1 * x2)) + x8)) 8) then (if (Go.bits .and .i64 (shr .i64 (wrap64 (bt x0 (wrap64 (Int.tdiv (wrap64 ((wrap64 (x1 * x2)) + x8)) 8)))) (Int.tmod (wrap64 ((wrap64 (x1 * x2)) + x8)) 8)) 1) = 1 then (if 0 ≤ x8 then (peristyleref08_word.l0 k x0 x1 x2 (Go.bits .or .i64 x7 (shl .i64 1 x8)) (wrap64 (x8 + 1))) else (none)) else (peristyleref08_word.l0 k x0 x1 x2 x7 (wrap64 (x8 + 1)))) else (none)) else (none)) else (none)) else (some x7)) := by
  simp only [peristyleref08_word.l0]
theorem peristyleref08_word.mono_l : ∀ k, (∀ y0 y1 y2 y3 y4, LeO (peristyleref08_word.l0 k y0 y1 y2 y3 y4) (peristyleref08_word.l0 (k + 1) y0 y1 y2 y3 y4))
  | 0 => fun _ _ _ _ _ r h => by simp [peristyleref08_word.l0] at h
  | k + 1 => by
    have ih0 := peristyleref08_word.mono_l k
    · intro y0 y1 y2 y3 y4
      unfold peristyleref08_word.l0
      repeat' first
      | (with_reducible exact ih0 _ _ _ _ _)
      | (with_reducible exact LeO.refl _)
      | (with_reducible exact LeO.none _)
      | (with_reducible refine LeO.ite ?_ ?_)
      | (with_reducible refine LeO.bind ?_ (fun _ => ?_))
      | exact ih0 _ _ _ _ _
      | exact LeO.none _
      | refine LeO.ite ?_ ?_
      | refine LeO.bind ?_ (fun _ => ?_)
theorem peristyleref08_word.mono : ∀ a0 a1 a2 k, LeO (peristyleref08_word.f k a0 a1 a2) (peristyleref08_word.f (k + 1) a0 a1 a2) := by
  intro a0 a1 a2 k
  have ih0 := peristyleref08_word.mono_l k
  unfold peristyleref08_word.f
  repeat' first
      | (with_reducible exact ih0 _ _ _ _ _)
      | (with_reducible exact LeO.refl _)
      | (with_reducible exact LeO.none _)
      | (with_reducible refine LeO.ite ?_ ?_)
      | (with_reducible refine LeO.bind ?_ (fun _ => ?_))
      | exact ih0 _ _ _ _ _
      | exact LeO.none _
      | refine LeO.ite ?_ ?_
      | refine LeO.bind ?_ (fun _ => ?_)
set_option maxHeartbeats 8000000 in
set_option maxRecDepth 100000 in
theorem peristyleref08_word.calls (k : Nat) (a0 : ByteArray) (a1 : Int) (a2 : Int) (r : Int) (w : World) (h : peristyleref08_word.f k a0 a1 a2 = some r) :
    Calls Try.prog 38 #[.string a0, .int .i64 a1, .int .i64 a2] w fun e w' => e = .returned (.int .i64 r) ∧ Drawn0 w w' := by
  have H : (peristyleref08_word.l0 k a0 a1 a2 0 0) = some r := h
  clear h
  have H' := Aside0.mk H
  clear H
  go_enter Try.func38, Try.ntmps38
  go_wp2
  go_loopg [7, 8] k (fun kq v7 v8 w' => ∃ (x7_1 : Int) (x8_1 : Int), v7 = .int .i64 x7_1 ∧ v8 = .int .i64 x8_1 ∧ Aside0 (peristyleref08_word.l0 kq a0 a1 a2 x7_1 x8_1 = some r) ∧ Aside0 (kq ≤ k) ∧ Drawn0 w w')
  case atStart => exact ⟨(0), (0), (by first | rfl | (simp; done) | (simp [*]; done)), (by first | rfl | (simp; done) | (simp [*]; done)), H', ⟨Nat.le_refl _⟩, by repeat (first | exact Drawn0.refl _ | apply Drawn0.step)⟩
  case round =>
    clear H'
    try clear p2
    try clear c3
    obtain ⟨x7_1, x8_1, rfl, rfl, HA, HK1, ⟨m1, rfl⟩⟩ := hrel
    cases gk with
    | zero => exact absurd HA.out (by simp [peristyleref08_word.l0])
    | succ k1 =>
      have H := HA.out
      clear HA
      simp only [peristyleref08_word.l0] at H
      by_cases c4 : x8_1 < a2
      · rw [if_pos c4] at H
        have c4b0 : decide (x8_1 < a2) = true := decide_eq_true c4
        clear c4
        obtain ⟨ji5, hji5⟩ : ∃ j_ : Int, (wrap64 (Int.tdiv (wrap64 ((wrap64 (a1 * a2)) + x8_1)) 8)) = j_ := ⟨_, rfl⟩
        replace H : (if 0 ≤ (ji5) then (if (ji5) < (a0.size : Int) then (if 0 ≤ (Int.tmod (wrap64 ((wrap64 (a1 * a2)) + x8_1)) 8) then (if (Go.bits .and .i64 (shr .i64 (wrap64 (bt a0 (ji5))) (Int.tmod (wrap64 ((wrap64 (a1 * a2)) + x8_1)) 8)) 1) = 1 then (if 0 ≤ x8_1 then (peristyleref08_word.l0 k1 a0 a1 a2 (Go.bits .or .i64 x7_1 (shl .i64 1 x8_1)) (wrap64 (x8_1 + 1))) else (none)) else (peristyleref08_word.l0 k1 a0 a1 a2 x7_1 (wrap64 (x8_1 + 1)))) else (none)) else (none)) else (none)) = some r := by first | (rw [hji5] at H; exact H) | (simp only [hji5] at H ⊢; exact H)
        have hji5w : (IntKind.i64.wrap (Int.tdiv (wrap64 ((wrap64 (a1 * a2)) + x8_1)) 8)) = ji5 := (i64_w _).trans hji5
        by_cases c6 : 0 ≤ (ji5)
        · rw [if_pos c6] at H
          have c6b0 : decide (0 ≤ (ji5)) = true := decide_eq_true c6
          clear c6
          by_cases c7 : (ji5) < (a0.size : Int)
          · rw [if_pos c7] at H
            have c7b0 : decide ((ji5) < (a0.size : Int)) = true := decide_eq_true c7
            clear c7
            obtain ⟨ji9, hji9⟩ : ∃ j_ : Int, (Int.tmod (wrap64 ((wrap64 (a1 * a2)) + x8_1)) 8) = j_ := ⟨_, rfl⟩
            replace H : (if 0 ≤ (ji9) then (if (Go.bits .and .i64 (shr .i64 (wrap64 (bt a0 (ji5))) (ji9)) 1) = 1 then (if 0 ≤ x8_1 then (peristyleref08_word.l0 k1 a0 a1 a2 (Go.bits .or .i64 x7_1 (shl .i64 1 x8_1)) (wrap64 (x8_1 + 1))) else (none)) else (peristyleref08_word.l0 k1 a0 a1 a2 x7_1 (wrap64 (x8_1 + 1)))) else (none)) = some r := by first | (rw [hji9] at H; exact H) | (simp only [hji9] at H ⊢; exact H)
            by_cases c10 : 0 ≤ (ji9)
            · rw [if_pos c10] at H
              have c10b0 := eq_true c10
              have c10b1 : decide (0 ≤ (ji9)) = true := decide_eq_true c10
              clear c10
              obtain ⟨ji11, hji11⟩ : ∃ j_ : Int, (shr .i64 (wrap64 (bt a0 (ji5))) (ji9)) = j_ := ⟨_, rfl⟩
              replace H : (if (Go.bits .and .i64 (ji11) 1) = 1 then (if 0 ≤ x8_1 then (peristyleref08_word.l0 k1 a0 a1 a2 (Go.bits .or .i64 x7_1 (shl .i64 1 x8_1)) (wrap64 (x8_1 + 1))) else (none)) else (peristyleref08_word.l0 k1 a0 a1 a2 x7_1 (wrap64 (x8_1 + 1)))) = some r := by first | (rw [hji11] at H; exact H) | (simp only [hji11] at H ⊢; exact H)
              have hji11_ : ((wrap64 (bt a0 (ji5))) / 2 ^ min (ji9).toNat 64) = ji11 := hji11
              have hji11z : (ji9) ≤ 64 → ((wrap64 (bt a0 (ji5))) / 2 ^ (ji9).toNat) = ji11 := shr_small hji11
              by_cases c12 : (Go.bits .and .i64 (ji11) 1) = 1
              · rw [if_pos c12] at H
                have c12b0 : ((Go.bits .and .i64 (ji11) 1) == 1) = true := beq_iff_eq.mpr c12
                have c12b1 : ((Go.bits .and .i64 (ji11) 1) != 1) = false := bne_eq_false_iff_eq.mpr c12
                clear c12
                by_cases c13 : 0 ≤ x8_1
                · rw [if_pos c13] at H
                  have c13b0 := eq_true c13
                  have c13b1 : decide (0 ≤ x8_1) = true := decide_eq_true c13
                  clear c13
                  obtain ⟨ji14, hji14⟩ : ∃ j_ : Int, (shl .i64 1 x8_1) = j_ := ⟨_, rfl⟩
                  replace H : (peristyleref08_word.l0 k1 a0 a1 a2 (Go.bits .or .i64 x7_1 (ji14)) (wrap64 (x8_1 + 1))) = some r := by first | (rw [hji14] at H; exact H) | (simp only [hji14] at H ⊢; exact H)
                  have hji14_ : (IntKind.i64.wrap (1 * 2 ^ min x8_1.toNat 64)) = ji14 := hji14
                  have hji14z : x8_1 ≤ 64 → (IntKind.i64.wrap (1 * 2 ^ x8_1.toNat)) = ji14 := shl_small hji14
                  have hji14u : (IntKind.i64.wrap (2 ^ min x8_1.toNat 64)) = ji14 := by have h_ := hji14_; rw [Int.one_mul] at h_; exact h_
                  have hji14v : x8_1 ≤ 64 → (IntKind.i64.wrap (2 ^ x8_1.toNat)) = ji14 := fun hle_ => by have h_ := hji14z hle_; rw [Int.one_mul] at h_; exact h_
                  have hji14y : (wrap64 (1 * 2 ^ min x8_1.toNat 64)) = ji14 := (i64_w _).symm.trans hji14_
                  have hji14x : x8_1 ≤ 64 → (wrap64 (1 * 2 ^ x8_1.toNat)) = ji14 := fun h_ => (i64_w _).symm.trans (hji14z h_)
                  have H' := Aside0.mk H
                  clear H
                  have p8 : 0 ≤ ((ji5) : Int) := of_decide_eq_true (by first | (with_reducible assumption) | assumption)
                  have q8 : (ji5) < (a0.size : Int) := of_decide_eq_true (by first | (with_reducible assumption) | assumption)
                  have hx8 := bt_at a0 (ji5)
                  replace p8 := eq_true p8
                  replace q8 := eq_true q8
                  go_wp2
                  go_roundg k1
                  case measure => have := HK1.out; omega
                  case rel => exact ⟨(Go.bits .or .i64 x7_1 (ji14)), (wrap64 (x8_1 + 1)), (by first | rfl | (simp; done) | (simp only [← hji14] <;> (first | rfl | simp)) | (simp [*]; done)), (by first | rfl | (simp; done) | (simp [*]; done)), H', ⟨by have := HK1.out; omega⟩, by repeat (first | exact Drawn0.refl _ | apply Drawn0.step)⟩
                · rw [if_neg c13] at H
                  exact absurd H (by simp)
              · rw [if_neg c12] at H
                have c12b0 : ((Go.bits .and .i64 (ji11) 1) == 1) = false := beq_eq_false_iff_ne.mpr c12
                have c12b1 : ((Go.bits .and .i64 (ji11) 1) != 1) = true := bne_iff_ne.mpr c12
                have H' := Aside0.mk H
                clear H
                have p8 : 0 ≤ ((ji5) : Int) := of_decide_eq_true (by first | (with_reducible assumption) | assumption)
                have q8 : (ji5) < (a0.size : Int) := of_decide_eq_true (by first | (with_reducible assumption) | assumption)
                have hx8 := bt_at a0 (ji5)
                replace p8 := eq_true p8
                replace q8 := eq_true q8
                go_wp2
                go_roundg k1
                case measure => have := HK1.out; omega
                case rel => exact ⟨(x7_1), (wrap64 (x8_1 + 1)), (by first | rfl | (simp; done) | (simp [*]; done)), (by first | rfl | (simp; done) | (simp [*]; done)), H', ⟨by have := HK1.out; omega⟩, by repeat (first | exact Drawn0.refl _ | apply Drawn0.step)⟩
            · rw [if_neg c10] at H
              exact absurd H (by simp)
          · rw [if_neg c7] at H
            exact absurd H (by simp)
        · rw [if_neg c6] at H
          exact absurd H (by simp)
      · rw [if_neg c4] at H
        have c4b0 : decide (x8_1 < a2) = false := decide_eq_false c4
        clear c4
        obtain rfl := Option.some.inj H
        go_wp2
        go_ret
        exact ⟨by first | rfl | (unfold wrap64; rfl) | (simp; done) | (simp [*]; done), by repeat (first | exact Drawn0.refl _ | apply Drawn0.step)⟩

end Go.Proofs.Ytkbblkfbgpohkaa.Print
