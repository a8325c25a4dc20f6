-- Written by the session's own xprint (over the kit's print program): functions, contracts.
import Derived.Test.YtgielanobeclnaaPrint0
import Derived.Test.YtgielanobeclnaaPrint1
import Derived.Test.YtgielanobeclnaaPrint2
import Derived.Test.YtgielanobeclnaaPrint3
import Derived.Test.YtgielanobeclnaaPrint4
import Derived.Test.YtgielanobeclnaaPrint5
import Derived.Test.YtgielanobeclnaaPrint6
import Derived.Test.YtgielanobeclnaaPrint7
namespace Go.Proofs.Ytgielanobeclnaa.Print
open Go.RowKit Go.Proofs.YtgielanobeclnaaW.PrintWords Go.Proofs.YtgielanobeclnaaW.PrintLast Go.Proofs.YtgielanobeclnaaW.PrintMore
attribute [local go_sem] max2_int min2_int max_two min_two max_three min_three max_four min_four   -- for this text's walks alone
set_option linter.unusedVariables false
set_option linter.unusedSimpArgs false

attribute [local go_sem high] eqA48
/-! ### peristylelaw15_WordsNot: function 6 -/
mutual
def peristylelaw15_WordsNot.j0 : Nat → List (S48) → Int → Bool → Option (Bool)
 | 0, _, _, _ => none
 | k + 1, x0, x1, x26 => if x26 = true then ((peristylelaw15_awake.f k).bind fun t251 => (some t251)) else ((peristyleref14_Top.f x0).bind fun t252 => ((words_Of.f k x0).bind fun bt253 => ((words_Not.f k bt253.1 (wrap64 (t252 + (Go.bits .and .i64 x1 255)))).bind fun bt257 => ((words_Not.f k bt257.1 (wrap64 (t252 + (Go.bits .and .i64 x1 255)))).bind fun bt261 => ((words_And.f k bt253.1 bt257.1).bind fun bt265 => ((words_Or.f k bt253.1 bt257.1).bind fun bt269 => ((words_Spans.f k bt269.1).bind fun bt273 => (if bt253.2 = 0 then (if bt257.2 = 0 then (if bt261.2 = 0 then (if bt265.2 = 0 then (if bt269.2 = 0 then (peristylelaw15_WordsNot.j1 k (wrap64 (t252 + (Go.bits .and .i64 x1 255))) bt253.1 bt257.1 bt261.1 bt265.1 bt273.1 (bt273.2 != 0)) else (peristylelaw15_WordsNot.j1 k (wrap64 (t252 + (Go.bits .and .i64 x1 255))) bt253.1 bt257.1 bt261.1 bt265.1 bt273.1 true)) else (peristylelaw15_WordsNot.j1 k (wrap64 (t252 + (Go.bits .and .i64 x1 255))) bt253.1 bt257.1 bt261.1 bt265.1 bt273.1 true)) else (peristylelaw15_WordsNot.j1 k (wrap64 (t252 + (Go.bits .and .i64 x1 255))) bt253.1 bt257.1 bt261.1 bt265.1 bt273.1 true)) else (peristylelaw15_WordsNot.j1 k (wrap64 (t252 + (Go.bits .and .i64 x1 255))) bt253.1 bt257.1 bt261.1 bt265.1 bt273.1 true)) else (peristylelaw15_WordsNot.j1 k (wrap64 (t252 + (Go.bits .and .i64 x1 255))) bt253.1 bt257.1 bt261.1 bt265.1 bt273.1 true)))))))))
def peristylelaw15_WordsNot.j1 : Nat → Int → List Int → List Int → List Int → List Int → List (S48) → Bool → Option (Bool)
 | 0, _, _, _, _, _, _, _ => none
 | k + 1, x5, x6, x8, x10, x12, x16, x88 => if x88 = true then (some false) else (if x5 = 0 then (if (x16.length : Int) = 0 then (peristylelaw15_WordsNot.j2 k x5 x6 x8 x10 x12 true) else (if (x16.length : Int) = 1 then (if 0 < (x16.length : Int) then (peristylelaw15_WordsNot.j2 k x5 x6 x8 x10 x12 (((rd_T48 x16 0).f0) == 0 && (((rd_T48 x16 0).f1) == x5))) else (none)) else (peristylelaw15_WordsNot.j2 k x5 x6 x8 x10 x12 false))) else (if (x16.length : Int) = 1 then (if 0 < (x16.length : Int) then (peristylelaw15_WordsNot.j2 k x5 x6 x8 x10 x12 (((rd_T48 x16 0).f0) == 0 && (((rd_T48 x16 0).f1) == x5))) else (none)) else (peristylelaw15_WordsNot.j2 k x5 x6 x8 x10 x12 false)))
def peristylelaw15_WordsNot.j2 : Nat → Int → List Int → List Int → List Int → List Int → Bool → Option (Bool)
 | 0, _, _, _, _, _, _ => none
 | k + 1, x5, x6, x8, x10, x12, x18 => (peristyleref01_Same.f k x6 x10).bind fun t279 => (if t279 = true then (if (x12.length : Int) = 0 then (if x18 = true then ((words_Count.f k x6).bind fun t280 => ((words_Count.f k x8).bind fun t281 => (if (wrap64 (t280 + t281)) = x5 then ((peristylelaw15_awake.f k).bind fun t282 => (some t282)) else (some false)))) else (some false)) else (some false)) else (some false))
end
def peristylelaw15_WordsNot.f (k : Nat) (l0 : List (S48)) (a1 : Int) : Option (Bool) := (peristyleref14_Few.f k l0).bind fun t249 => (if t249 = true then ((peristyleref14_May.f k l0).bind fun t250 => (peristylelaw15_WordsNot.j0 k l0 a1 (!t250))) else (peristylelaw15_WordsNot.j0 k l0 a1 true))
theorem peristylelaw15_WordsNot.j0_succ (k : Nat) (x0 : List (S48)) (x1 : Int) (x26 : Bool) : peristylelaw15_WordsNot.j0 (k + 1) x0 x1 x26 = (if x26 = true then ((peristylelaw15_awake.f k).bind fun t251 => (some t251)) else ((peristyleref14_Top.f x0).bind fun t252 => ((words_Of.f k x0).bind fun bt253 => ((words_Not.f k bt253.1 (wrap64 (t252 + (Go.bits .and .i64 x1 255)))).bind fun bt257 => ((words_Not.f k bt257.1 (wrap64 (t252 + (Go.bits .and .i64 x1 255)))).bind fun bt261 => ((words_And.f k bt253.1 bt257.1).bind fun bt265 => ((words_Or.f k bt253.1 bt257.1).bind fun bt269 => ((words_Spans.f k bt269.1).bind fun bt273 => (if bt253.2 = 0 then (if bt257.2 = 0 then (if bt261.2 = 0 then (if bt265.2 = 0 then (if bt269.2 = 0 then (peristylelaw15_WordsNot.j1 k (wrap64 (t252 + (Go.bits .and .i64 x1 255))) bt253.1 bt257.1 bt261.1 bt265.1 bt273.1 (bt273.2 != 0)) else (peristylelaw15_WordsNot.j1 k (wrap64 (t252 + (Go.bits .and .i64 x1 255))) bt253.1 bt257.1 bt261.1 bt265.1 bt273.1 true)) else (peristylelaw15_WordsNot.j1 k (wrap64 (t252 + (Go.bits .and .i64 x1 255))) bt253.1 bt257.1 bt261.1 bt265.1 bt273.1 true)) else (peristylelaw15_WordsNot.j1 k (wrap64 (t252 + (Go.bits .and .i64 x1 255))) bt253.1 bt257.1 bt261.1 bt265.1 bt273.1 true)) else (peristylelaw15_WordsNot.j1 k (wrap64 (t252 + (Go.bits .and .i64 x1 255))) bt253.1 bt257.1 bt261.1 bt265.1 bt273.1 true)) else (peristylelaw15_WordsNot.j1 k (wrap64 (t252 + (Go.bits .and .i64 x1 255))) bt253.1 bt257.1 bt261.1 bt265.1 bt273.1 true)))))))))) := by
 simp only [peristylelaw15_WordsNot.j0]
theorem peristylelaw15_WordsNot.j1_succ (k : Nat) (x5 : Int) (x6 : List Int) (x8 : List Int) (x10 : List Int) (x12 : List Int) (x16 : List (S48)) (x88 : Bool) : peristylelaw15_WordsNot.j1 (k + 1) x5 x6 x8 x10 x12 x16 x88 = (if x88 = true then (some false) else (if x5 = 0 then (if (x16.length : Int) = 0 then (peristylelaw15_WordsNot.j2 k x5 x6 x8 x10 x12 true) else (if (x16.length : Int) = 1 then (if 0 < (x16.length : Int) then (peristylelaw15_WordsNot.j2 k x5 x6 x8 x10 x12 (((rd_T48 x16 0).f0) == 0 && (((rd_T48 x16 0).f1) == x5))) else (none)) else (peristylelaw15_WordsNot.j2 k x5 x6 x8 x10 x12 false))) else (if (x16.length : Int) = 1 then (if 0 < (x16.length : Int) then (peristylelaw15_WordsNot.j2 k x5 x6 x8 x10 x12 (((rd_T48 x16 0).f0) == 0 && (((rd_T48 x16 0).f1) == x5))) else (none)) else (peristylelaw15_WordsNot.j2 k x5 x6 x8 x10 x12 false)))) := by
 simp only [peristylelaw15_WordsNot.j1]
theorem peristylelaw15_WordsNot.j2_succ (k : Nat) (x5 : Int) (x6 : List Int) (x8 : List Int) (x10 : List Int) (x12 : List Int) (x18 : Bool) : peristylelaw15_WordsNot.j2 (k + 1) x5 x6 x8 x10 x12 x18 = ((peristyleref01_Same.f k x6 x10).bind fun t279 => (if t279 = true then (if (x12.length : Int) = 0 then (if x18 = true then ((words_Count.f k x6).bind fun t280 => ((words_Count.f k x8).bind fun t281 => (if (wrap64 (t280 + t281)) = x5 then ((peristylelaw15_awake.f k).bind fun t282 => (some t282)) else (some false)))) else (some false)) else (some false)) else (some false))) := by
 simp only [peristylelaw15_WordsNot.j2]
theorem peristylelaw15_WordsNot.mono_l : ∀ k, (∀ y0 y1 y2, LeO (peristylelaw15_WordsNot.j0 k y0 y1 y2) (peristylelaw15_WordsNot.j0 (k + 1) y0 y1 y2)) ∧ (∀ y0 y1 y2 y3 y4 y5 y6, LeO (peristylelaw15_WordsNot.j1 k y0 y1 y2 y3 y4 y5 y6) (peristylelaw15_WordsNot.j1 (k + 1) y0 y1 y2 y3 y4 y5 y6)) ∧ (∀ y0 y1 y2 y3 y4 y5, LeO (peristylelaw15_WordsNot.j2 k y0 y1 y2 y3 y4 y5) (peristylelaw15_WordsNot.j2 (k + 1) y0 y1 y2 y3 y4 y5))
 | 0 => ⟨fun _ _ _ r h => by simp [peristylelaw15_WordsNot.j0] at h, fun _ _ _ _ _ _ _ r h => by simp [peristylelaw15_WordsNot.j1] at h, fun _ _ _ _ _ _ r h => by simp [peristylelaw15_WordsNot.j2] at h⟩
 | k + 1 => by
  obtain ⟨ih0, ih1, ih2⟩ := peristylelaw15_WordsNot.mono_l k
  refine ⟨?_, ?_, ?_⟩
  ·intro y0 y1 y2
   unfold peristylelaw15_WordsNot.j0
   repeat' first
   | (with_reducible exact ih0 _ _ _)
   | (with_reducible exact ih1 _ _ _ _ _ _ _)
   | (with_reducible exact ih2 _ _ _ _ _ _)
   | (with_reducible exact peristylelaw15_awake.mono _)
   | (with_reducible exact peristyleref01_Same.mono _ _ _)
   | (with_reducible exact peristyleref14_Few.mono _ _)
   | (with_reducible exact peristyleref14_May.mono _ _)
   | (with_reducible exact words_And.mono _ _ _)
   | (with_reducible exact words_Count.mono _ _)
   | (with_reducible exact words_Not.mono _ _ _)
   | (with_reducible exact words_Of.mono _ _)
   | (with_reducible exact words_Or.mono _ _ _)
   | (with_reducible exact words_Spans.mono _ _)
   | (with_reducible exact LeO.refl _)
   | (with_reducible exact LeO.none _)
   | (with_reducible refine LeO.ite ?_ ?_)
   | (with_reducible refine LeO.bind ?_ (fun _ => ?_))
   | exact ih0 _ _ _
   | exact ih1 _ _ _ _ _ _ _
   | exact ih2 _ _ _ _ _ _
   | exact peristylelaw15_awake.mono _
   | exact peristyleref01_Same.mono _ _ _
   | exact peristyleref14_Few.mono _ _
   | exact peristyleref14_May.mono _ _
   | exact words_And.mono _ _ _
   | exact words_Count.mono _ _
   | exact words_Not.mono _ _ _
   | exact words_Of.mono _ _
   | exact words_Or.mono _ _ _
   | exact words_Spans.mono _ _
   | exact LeO.none _
   | refine LeO.ite ?_ ?_
   | refine LeO.bind ?_ (fun _ => ?_)
  ·intro y0 y1 y2 y3 y4 y5 y6
   unfold peristylelaw15_WordsNot.j1
   repeat' first
   | (with_reducible exact ih0 _ _ _)
   | (with_reducible exact ih1 _ _ _ _ _ _ _)
   | (with_reducible exact ih2 _ _ _ _ _ _)
   | (with_reducible exact peristylelaw15_awake.mono _)
   | (with_reducible exact peristyleref01_Same.mono _ _ _)
   | (with_reducible exact peristyleref14_Few.mono _ _)
   | (with_reducible exact peristyleref14_May.mono _ _)
   | (with_reducible exact words_And.mono _ _ _)
   | (with_reducible exact words_Count.mono _ _)
   | (with_reducible exact words_Not.mono _ _ _)
   | (with_reducible exact words_Of.mono _ _)
   | (with_reducible exact words_Or.mono _ _ _)
   | (with_reducible exact words_Spans.mono _ _)
   | (with_reducible exact LeO.refl _)
   | (with_reducible exact LeO.none _)
   | (with_reducible refine LeO.ite ?_ ?_)
   | (with_reducible refine LeO.bind ?_ (fun _ => ?_))
   | exact ih0 _ _ _
   | exact ih1 _ _ _ _ _ _ _
   | exact ih2 _ _ _ _ _ _
   | exact peristylelaw15_awake.mono _
   | exact peristyleref01_Same.mono _ _ _
   | exact peristyleref14_Few.mono _ _
   | exact peristyleref14_May.mono _ _
   | exact words_And.mono _ _ _
   | exact words_Count.mono _ _
   | exact words_Not.mono _ _ _
   | exact words_Of.mono _ _
   | exact words_Or.mono _ _ _
   | exact words_Spans.mono _ _
   | exact LeO.none _
   | refine LeO.ite ?_ ?_
   | refine LeO.bind ?_ (fun _ => ?_)
  ·intro y0 y1 y2 y3 y4 y5
   unfold peristylelaw15_WordsNot.j2
   repeat' first
   | (with_reducible exact ih0 _ _ _)
   | (with_reducible exact ih1 _ _ _ _ _ _ _)
   | (with_reducible exact ih2 _ _ _ _ _ _)
   | (with_reducible exact peristylelaw15_awake.mono _)
   | (with_reducible exact peristyleref01_Same.mono _ _ _)
   | (with_reducible exact peristyleref14_Few.mono _ _)
   | (with_reducible exact peristyleref14_May.mono _ _)
   | (with_reducible exact words_And.mono _ _ _)
   | (with_reducible exact words_Count.mono _ _)
   | (with_reducible exact words_Not.mono _ _ _)
   | (with_reducible exact words_Of.mono _ _)
   | (with_reducible exact words_Or.mono _ _ _)
   | (with_reducible exact words_Spans.mono _ _)
   | (with_reducible exact LeO.refl _)
   | (with_reducible exact LeO.none _)
   | (with_reducible refine LeO.ite ?_ ?_)
   | (with_reducible refine LeO.bind ?_ (fun _ => ?_))
   | exact ih0 _ _ _
   | exact ih1 _ _ _ _ _ _ _
   | exact ih2 _ _ _ _ _ _
   | exact peristylelaw15_awake.mono _
   | exact peristyleref01_Same.mono _ _ _
   | exact peristyleref14_Few.mono _ _
   | exact peristyleref14_May.mono _ _
   | exact words_And.mono _ _ _
   | exact words_Count.mono _ _
   | exact words_Not.mono _ _ _
   | exact words_Of.mono _ _
   | exact words_Or.mono _ _ _
   | exact words_Spans.mono _ _
   | exact LeO.none _
   | refine LeO.ite ?_ ?_
   | refine LeO.bind ?_ (fun _ => ?_)
theorem peristylelaw15_WordsNot.mono : ∀ a0 a1 k, LeO (peristylelaw15_WordsNot.f k a0 a1) (peristylelaw15_WordsNot.f (k + 1) a0 a1) := by
 intro a0 a1 k
 obtain ⟨ih0, ih1, ih2⟩ := peristylelaw15_WordsNot.mono_l k
 unfold peristylelaw15_WordsNot.f
 repeat' first
   | (with_reducible exact ih0 _ _ _)
   | (with_reducible exact ih1 _ _ _ _ _ _ _)
   | (with_reducible exact ih2 _ _ _ _ _ _)
   | (with_reducible exact peristylelaw15_awake.mono _)
   | (with_reducible exact peristyleref01_Same.mono _ _ _)
   | (with_reducible exact peristyleref14_Few.mono _ _)
   | (with_reducible exact peristyleref14_May.mono _ _)
   | (with_reducible exact words_And.mono _ _ _)
   | (with_reducible exact words_Count.mono _ _)
   | (with_reducible exact words_Not.mono _ _ _)
   | (with_reducible exact words_Of.mono _ _)
   | (with_reducible exact words_Or.mono _ _ _)
   | (with_reducible exact words_Spans.mono _ _)
   | (with_reducible exact LeO.refl _)
   | (with_reducible exact LeO.none _)
   | (with_reducible refine LeO.ite ?_ ?_)
   | (with_reducible refine LeO.bind ?_ (fun _ => ?_))
   | exact ih0 _ _ _
   | exact ih1 _ _ _ _ _ _ _
   | exact ih2 _ _ _ _ _ _
   | exact peristylelaw15_awake.mono _
   | exact peristyleref01_Same.mono _ _ _
   | exact peristyleref14_Few.mono _ _
   | exact peristyleref14_May.mono _ _
   | exact words_And.mono _ _ _
   | exact words_Count.mono _ _
   | exact words_Not.mono _ _ _
   | exact words_Of.mono _ _
   | exact words_Or.mono _ _ _
   | exact words_Spans.mono _ _
   | exact LeO.none _
   | refine LeO.ite ?_ ?_
   | refine LeO.bind ?_ (fun _ => ?_)
set_option maxHeartbeats 8000000 in
set_option maxRecDepth 100000 in
theorem peristylelaw15_WordsNot.calls (k : Nat) (A0 : Option Addr) (c0 : Nat) (l0 : List (S48)) (a1 : Int) (r : Bool) (w : World) (hr0 : Kd.C k48 w A0 l0.length l0) (hc0 : l0.length ≤ c0) (h : peristylelaw15_WordsNot.f k l0 a1 = some r) :
  Calls Try.prog 6 #[.slice A0 l0.length c0, .int .i64 a1] w fun e w' => e = .returned (.bool r) ∧ Below w.heap.size w w' := by
 have hu48 := Try.underlying48
 have HR0 := Aside0.mk hr0
 have HC0 := Aside0.mk hc0
 clear hr0 hc0
 have HB := Aside0.mk (Below.refl w.heap.size w)
 have H : ((peristyleref14_Few.f k l0).bind fun t249 => (if t249 = true then ((peristyleref14_May.f k l0).bind fun t250 => (peristylelaw15_WordsNot.j0 k l0 a1 (!t250))) else (peristylelaw15_WordsNot.j0 k l0 a1 true))) = some r := h
 clear h
 have HC3 := Aside0.mk H
 clear H
 go_enter Try.func6, Try.ntmps6
 go_upto_region 1 with (fail)
 go_cut [26] (fun v26 wc => ∃ (kq : Nat) (x26_2 : Bool), v26 = .bool x26_2 ∧ Aside0 (peristylelaw15_WordsNot.j0 kq l0 a1 x26_2 = some r) ∧ Aside0 (kq ≤ k) ∧ Aside0 (Below w.heap.size w wc))
 case first =>
  have H := HC3.out
  clear HC3
  replace H := Option.bind_eq_some_iff.mp H
  obtain ⟨t249, A40, H⟩ := H
  replace H : (if t249 = true then ((peristyleref14_May.f k l0).bind fun t250 => (peristylelaw15_WordsNot.j0 k l0 a1 (!t250))) else (peristylelaw15_WordsNot.j0 k l0 a1 true)) = some r := H
  have A4 := Aside0.mk A40
  clear A40
  by_cases c5 : t249 = true
  ·subst c5
   have H1 : ((peristyleref14_May.f k l0).bind fun t250 => (peristylelaw15_WordsNot.j0 k l0 a1 (!t250))) = some r := by rw [if_pos rfl] at H; exact H
   clear H
   have H := H1
   clear H1
   replace H := Option.bind_eq_some_iff.mp H
   obtain ⟨t250, A60, H⟩ := H
   replace H : (peristylelaw15_WordsNot.j0 k l0 a1 (!t250)) = some r := H
   have A6 := Aside0.mk A60
   clear A60
   have H' := Aside0.mk H
   clear H
   go_wp2_with (first | ((with_reducible refine gate_callee (f := 7) rfl ?_); refine goesL_ (some 20) rfl rfl Try.func7 (by kernel_rfl) rfl #[.slice A0 l0.length c0] rfl (by (try simp only [List.map_toArray, List.map_cons, List.map_nil]); first | done | rfl) ?_; (with_reducible refine (peristyleref14_Few.calls k _ _ l0 true _ ?side1 ?side2 A4.out).mono ?_); (case side1 => repeat (first | exact (Kd.C_below HR0.out HB.out) | (with_reducible refine Kd.C_alloc ?_ _) | (with_reducible refine Kd.C_drewN ?_ _) | (with_reducible refine Kd.C_drew ?_))); (case side2 => exact HC0.out); rintro e w' ⟨rfl, ⟨nd, rfl⟩⟩; refine ⟨_, rfl, ?_⟩) | (go_at_call 32; (with_reducible refine (peristyleref14_May.calls k _ _ l0 t250 _ ?side1 ?side2 A6.out).mono ?_); (case side1 => repeat (first | exact (Kd.C_below HR0.out (by repeat (first | exact HB.out | apply below_alloc | apply pw_below_drewN | apply below_drew1))) | (with_reducible refine Kd.C_alloc ?_ _) | (with_reducible refine Kd.C_drewN ?_ _) | (with_reducible refine Kd.C_drew ?_))); (case side2 => exact HC0.out); rintro e w' ⟨rfl, ⟨nd, rfl⟩⟩; (try clear A6)))
   go_meet
   case rel => exact ⟨_, (!t250), (by first | rfl | (simp; done) | (simp [*]; done)), H', ⟨by first | omega | exact Nat.le_refl _⟩, ⟨by repeat (first | (with_reducible first | exact HB.out | apply below_alloc | apply pw_below_drewN | apply below_drew1) | exact HB.out)⟩⟩
  ·replace c5 := Bool.eq_false_iff.mpr c5
   subst c5
   have H1 : (peristylelaw15_WordsNot.j0 k l0 a1 true) = some r := by rw [if_neg (show ¬ (false = true) by decide)] at H; exact H
   clear H
   have H := H1
   clear H1
   have H' := Aside0.mk H
   clear H
   go_wp2_with (first | ((with_reducible refine gate_callee (f := 7) rfl ?_); refine goesL_ (some 20) rfl rfl Try.func7 (by kernel_rfl) rfl #[.slice A0 l0.length c0] rfl (by (try simp only [List.map_toArray, List.map_cons, List.map_nil]); first | done | rfl) ?_; (with_reducible refine (peristyleref14_Few.calls k _ _ l0 false _ ?side1 ?side2 A4.out).mono ?_); (case side1 => repeat (first | exact (Kd.C_below HR0.out HB.out) | (with_reducible refine Kd.C_alloc ?_ _) | (with_reducible refine Kd.C_drewN ?_ _) | (with_reducible refine Kd.C_drew ?_))); (case side2 => exact HC0.out); rintro e w' ⟨rfl, ⟨nd, rfl⟩⟩; refine ⟨_, rfl, ?_⟩))
   go_meet
   case rel => exact ⟨_, (true), (by first | rfl | (simp; done) | (simp [*]; done)), H', ⟨by first | omega | exact Nat.le_refl _⟩, ⟨by repeat (first | (with_reducible first | exact HB.out | apply below_alloc | apply pw_below_drewN | apply below_drew1) | exact HB.out)⟩⟩
 case rest =>
  clear HC3
  try clear p2
  try clear c5
  try clear c6
  obtain ⟨kq, x26_2, rfl, HA, HJ2, HB⟩ := hcut
  cases kq with
  | zero => exact absurd HA.out (by simp [peristylelaw15_WordsNot.j0])
  | succ kj2 =>
   have H := HA.out
   clear HA
   simp only [peristylelaw15_WordsNot.j0] at H
   by_cases c7 : x26_2 = true
   ·subst c7
    have H1 : ((peristylelaw15_awake.f kj2).bind fun t251 => (some t251)) = some r := by rw [if_pos rfl] at H; exact H
    clear H
    have H := H1
    clear H1
    replace H := Option.bind_eq_some_iff.mp H
    obtain ⟨t251, A80, H⟩ := H
    replace H : (some t251) = some r := H
    have A8 := Aside0.mk A80
    clear A80
    obtain rfl := Option.some.inj H
    go_wp2_with (first | ((with_reducible refine gate_callee (f := 8) rfl ?_); refine goesL_ (some 27) rfl rfl Try.func8 (by kernel_rfl) rfl #[] rfl (by (try simp only [List.map_toArray, List.map_cons, List.map_nil]); first | done | rfl) ?_; (with_reducible refine (peristylelaw15_awake.calls kj2  t251 _ A8.out).mono ?_); rintro e w9 ⟨rfl, hb⟩; refine ⟨_, rfl, ?_⟩; have n0_ := Aside0.mk (below_step (by repeat (first | exact HB.out | apply below_alloc | apply pw_below_drewN | apply below_drew1)) hb); clear HB; have HB := n0_; clear n0_; (try clear hb)))
    go_ret
    exact ⟨by first | rfl | (simp [errW_none, errW_some] <;> rfl) | (simp [*, errW_none, errW_some] <;> rfl), by repeat (first | (with_reducible first | exact HB.out | apply below_alloc | apply pw_below_drewN | apply below_drew1) | exact HB.out)⟩
   ·replace c7 := Bool.eq_false_iff.mpr c7
    subst c7
    have H1 : ((peristyleref14_Top.f l0).bind fun t252 => ((words_Of.f kj2 l0).bind fun bt253 => ((words_Not.f kj2 bt253.1 (wrap64 (t252 + (Go.bits .and .i64 a1 255)))).bind fun bt257 => ((words_Not.f kj2 bt257.1 (wrap64 (t252 + (Go.bits .and .i64 a1 255)))).bind fun bt261 => ((words_And.f kj2 bt253.1 bt257.1).bind fun bt265 => ((words_Or.f kj2 bt253.1 bt257.1).bind fun bt269 => ((words_Spans.f kj2 bt269.1).bind fun bt273 => (if bt253.2 = 0 then (if bt257.2 = 0 then (if bt261.2 = 0 then (if bt265.2 = 0 then (if bt269.2 = 0 then (peristylelaw15_WordsNot.j1 kj2 (wrap64 (t252 + (Go.bits .and .i64 a1 255))) bt253.1 bt257.1 bt261.1 bt265.1 bt273.1 (bt273.2 != 0)) else (peristylelaw15_WordsNot.j1 kj2 (wrap64 (t252 + (Go.bits .and .i64 a1 255))) bt253.1 bt257.1 bt261.1 bt265.1 bt273.1 true)) else (peristylelaw15_WordsNot.j1 kj2 (wrap64 (t252 + (Go.bits .and .i64 a1 255))) bt253.1 bt257.1 bt261.1 bt265.1 bt273.1 true)) else (peristylelaw15_WordsNot.j1 kj2 (wrap64 (t252 + (Go.bits .and .i64 a1 255))) bt253.1 bt257.1 bt261.1 bt265.1 bt273.1 true)) else (peristylelaw15_WordsNot.j1 kj2 (wrap64 (t252 + (Go.bits .and .i64 a1 255))) bt253.1 bt257.1 bt261.1 bt265.1 bt273.1 true)) else (peristylelaw15_WordsNot.j1 kj2 (wrap64 (t252 + (Go.bits .and .i64 a1 255))) bt253.1 bt257.1 bt261.1 bt265.1 bt273.1 true))))))))) = some r := by rw [if_neg (show ¬ (false = true) by decide)] at H; exact H
    clear H
    have H := H1
    clear H1
    replace H := Option.bind_eq_some_iff.mp H
    obtain ⟨t252, A100, H⟩ := H
    replace H : ((words_Of.f kj2 l0).bind fun bt253 => ((words_Not.f kj2 bt253.1 (wrap64 (t252 + (Go.bits .and .i64 a1 255)))).bind fun bt257 => ((words_Not.f kj2 bt257.1 (wrap64 (t252 + (Go.bits .and .i64 a1 255)))).bind fun bt261 => ((words_And.f kj2 bt253.1 bt257.1).bind fun bt265 => ((words_Or.f kj2 bt253.1 bt257.1).bind fun bt269 => ((words_Spans.f kj2 bt269.1).bind fun bt273 => (if bt253.2 = 0 then (if bt257.2 = 0 then (if bt261.2 = 0 then (if bt265.2 = 0 then (if bt269.2 = 0 then (peristylelaw15_WordsNot.j1 kj2 (wrap64 (t252 + (Go.bits .and .i64 a1 255))) bt253.1 bt257.1 bt261.1 bt265.1 bt273.1 (bt273.2 != 0)) else (peristylelaw15_WordsNot.j1 kj2 (wrap64 (t252 + (Go.bits .and .i64 a1 255))) bt253.1 bt257.1 bt261.1 bt265.1 bt273.1 true)) else (peristylelaw15_WordsNot.j1 kj2 (wrap64 (t252 + (Go.bits .and .i64 a1 255))) bt253.1 bt257.1 bt261.1 bt265.1 bt273.1 true)) else (peristylelaw15_WordsNot.j1 kj2 (wrap64 (t252 + (Go.bits .and .i64 a1 255))) bt253.1 bt257.1 bt261.1 bt265.1 bt273.1 true)) else (peristylelaw15_WordsNot.j1 kj2 (wrap64 (t252 + (Go.bits .and .i64 a1 255))) bt253.1 bt257.1 bt261.1 bt265.1 bt273.1 true)) else (peristylelaw15_WordsNot.j1 kj2 (wrap64 (t252 + (Go.bits .and .i64 a1 255))) bt253.1 bt257.1 bt261.1 bt265.1 bt273.1 true)))))))) = some r := H
    have A10 := Aside0.mk A100
    clear A100
    replace H := Option.bind_eq_some_iff.mp H
    obtain ⟨⟨t253, t254⟩, A110, H⟩ := H
    replace H : ((words_Not.f kj2 t253 (wrap64 (t252 + (Go.bits .and .i64 a1 255)))).bind fun bt257 => ((words_Not.f kj2 bt257.1 (wrap64 (t252 + (Go.bits .and .i64 a1 255)))).bind fun bt261 => ((words_And.f kj2 t253 bt257.1).bind fun bt265 => ((words_Or.f kj2 t253 bt257.1).bind fun bt269 => ((words_Spans.f kj2 bt269.1).bind fun bt273 => (if t254 = 0 then (if bt257.2 = 0 then (if bt261.2 = 0 then (if bt265.2 = 0 then (if bt269.2 = 0 then (peristylelaw15_WordsNot.j1 kj2 (wrap64 (t252 + (Go.bits .and .i64 a1 255))) t253 bt257.1 bt261.1 bt265.1 bt273.1 (bt273.2 != 0)) else (peristylelaw15_WordsNot.j1 kj2 (wrap64 (t252 + (Go.bits .and .i64 a1 255))) t253 bt257.1 bt261.1 bt265.1 bt273.1 true)) else (peristylelaw15_WordsNot.j1 kj2 (wrap64 (t252 + (Go.bits .and .i64 a1 255))) t253 bt257.1 bt261.1 bt265.1 bt273.1 true)) else (peristylelaw15_WordsNot.j1 kj2 (wrap64 (t252 + (Go.bits .and .i64 a1 255))) t253 bt257.1 bt261.1 bt265.1 bt273.1 true)) else (peristylelaw15_WordsNot.j1 kj2 (wrap64 (t252 + (Go.bits .and .i64 a1 255))) t253 bt257.1 bt261.1 bt265.1 bt273.1 true)) else (peristylelaw15_WordsNot.j1 kj2 (wrap64 (t252 + (Go.bits .and .i64 a1 255))) t253 bt257.1 bt261.1 bt265.1 bt273.1 true))))))) = some r := H
    have A11 := Aside0.mk A110
    clear A110
    replace H := Option.bind_eq_some_iff.mp H
    obtain ⟨⟨t257, t260⟩, A120, H⟩ := H
    replace H : ((words_Not.f kj2 t257 (wrap64 (t252 + (Go.bits .and .i64 a1 255)))).bind fun bt261 => ((words_And.f kj2 t253 t257).bind fun bt265 => ((words_Or.f kj2 t253 t257).bind fun bt269 => ((words_Spans.f kj2 bt269.1).bind fun bt273 => (if t254 = 0 then (if t260 = 0 then (if bt261.2 = 0 then (if bt265.2 = 0 then (if bt269.2 = 0 then (peristylelaw15_WordsNot.j1 kj2 (wrap64 (t252 + (Go.bits .and .i64 a1 255))) t253 t257 bt261.1 bt265.1 bt273.1 (bt273.2 != 0)) else (peristylelaw15_WordsNot.j1 kj2 (wrap64 (t252 + (Go.bits .and .i64 a1 255))) t253 t257 bt261.1 bt265.1 bt273.1 true)) else (peristylelaw15_WordsNot.j1 kj2 (wrap64 (t252 + (Go.bits .and .i64 a1 255))) t253 t257 bt261.1 bt265.1 bt273.1 true)) else (peristylelaw15_WordsNot.j1 kj2 (wrap64 (t252 + (Go.bits .and .i64 a1 255))) t253 t257 bt261.1 bt265.1 bt273.1 true)) else (peristylelaw15_WordsNot.j1 kj2 (wrap64 (t252 + (Go.bits .and .i64 a1 255))) t253 t257 bt261.1 bt265.1 bt273.1 true)) else (peristylelaw15_WordsNot.j1 kj2 (wrap64 (t252 + (Go.bits .and .i64 a1 255))) t253 t257 bt261.1 bt265.1 bt273.1 true)))))) = some r := H
    have A12 := Aside0.mk A120
    clear A120
    replace H := Option.bind_eq_some_iff.mp H
    obtain ⟨⟨t261, t264⟩, A130, H⟩ := H
    replace H : ((words_And.f kj2 t253 t257).bind fun bt265 => ((words_Or.f kj2 t253 t257).bind fun bt269 => ((words_Spans.f kj2 bt269.1).bind fun bt273 => (if t254 = 0 then (if t260 = 0 then (if t264 = 0 then (if bt265.2 = 0 then (if bt269.2 = 0 then (peristylelaw15_WordsNot.j1 kj2 (wrap64 (t252 + (Go.bits .and .i64 a1 255))) t253 t257 t261 bt265.1 bt273.1 (bt273.2 != 0)) else (peristylelaw15_WordsNot.j1 kj2 (wrap64 (t252 + (Go.bits .and .i64 a1 255))) t253 t257 t261 bt265.1 bt273.1 true)) else (peristylelaw15_WordsNot.j1 kj2 (wrap64 (t252 + (Go.bits .and .i64 a1 255))) t253 t257 t261 bt265.1 bt273.1 true)) else (peristylelaw15_WordsNot.j1 kj2 (wrap64 (t252 + (Go.bits .and .i64 a1 255))) t253 t257 t261 bt265.1 bt273.1 true)) else (peristylelaw15_WordsNot.j1 kj2 (wrap64 (t252 + (Go.bits .and .i64 a1 255))) t253 t257 t261 bt265.1 bt273.1 true)) else (peristylelaw15_WordsNot.j1 kj2 (wrap64 (t252 + (Go.bits .and .i64 a1 255))) t253 t257 t261 bt265.1 bt273.1 true))))) = some r := H
    have A13 := Aside0.mk A130
    clear A130
    replace H := Option.bind_eq_some_iff.mp H
    obtain ⟨⟨t265, t268⟩, A140, H⟩ := H
    replace H : ((words_Or.f kj2 t253 t257).bind fun bt269 => ((words_Spans.f kj2 bt269.1).bind fun bt273 => (if t254 = 0 then (if t260 = 0 then (if t264 = 0 then (if t268 = 0 then (if bt269.2 = 0 then (peristylelaw15_WordsNot.j1 kj2 (wrap64 (t252 + (Go.bits .and .i64 a1 255))) t253 t257 t261 t265 bt273.1 (bt273.2 != 0)) else (peristylelaw15_WordsNot.j1 kj2 (wrap64 (t252 + (Go.bits .and .i64 a1 255))) t253 t257 t261 t265 bt273.1 true)) else (peristylelaw15_WordsNot.j1 kj2 (wrap64 (t252 + (Go.bits .and .i64 a1 255))) t253 t257 t261 t265 bt273.1 true)) else (peristylelaw15_WordsNot.j1 kj2 (wrap64 (t252 + (Go.bits .and .i64 a1 255))) t253 t257 t261 t265 bt273.1 true)) else (peristylelaw15_WordsNot.j1 kj2 (wrap64 (t252 + (Go.bits .and .i64 a1 255))) t253 t257 t261 t265 bt273.1 true)) else (peristylelaw15_WordsNot.j1 kj2 (wrap64 (t252 + (Go.bits .and .i64 a1 255))) t253 t257 t261 t265 bt273.1 true)))) = some r := H
    have A14 := Aside0.mk A140
    clear A140
    replace H := Option.bind_eq_some_iff.mp H
    obtain ⟨⟨t269, t272⟩, A150, H⟩ := H
    replace H : ((words_Spans.f kj2 t269).bind fun bt273 => (if t254 = 0 then (if t260 = 0 then (if t264 = 0 then (if t268 = 0 then (if t272 = 0 then (peristylelaw15_WordsNot.j1 kj2 (wrap64 (t252 + (Go.bits .and .i64 a1 255))) t253 t257 t261 t265 bt273.1 (bt273.2 != 0)) else (peristylelaw15_WordsNot.j1 kj2 (wrap64 (t252 + (Go.bits .and .i64 a1 255))) t253 t257 t261 t265 bt273.1 true)) else (peristylelaw15_WordsNot.j1 kj2 (wrap64 (t252 + (Go.bits .and .i64 a1 255))) t253 t257 t261 t265 bt273.1 true)) else (peristylelaw15_WordsNot.j1 kj2 (wrap64 (t252 + (Go.bits .and .i64 a1 255))) t253 t257 t261 t265 bt273.1 true)) else (peristylelaw15_WordsNot.j1 kj2 (wrap64 (t252 + (Go.bits .and .i64 a1 255))) t253 t257 t261 t265 bt273.1 true)) else (peristylelaw15_WordsNot.j1 kj2 (wrap64 (t252 + (Go.bits .and .i64 a1 255))) t253 t257 t261 t265 bt273.1 true))) = some r := H
    have A15 := Aside0.mk A150
    clear A150
    replace H := Option.bind_eq_some_iff.mp H
    obtain ⟨⟨t273, t274⟩, A160, H⟩ := H
    replace H : (if t254 = 0 then (if t260 = 0 then (if t264 = 0 then (if t268 = 0 then (if t272 = 0 then (peristylelaw15_WordsNot.j1 kj2 (wrap64 (t252 + (Go.bits .and .i64 a1 255))) t253 t257 t261 t265 t273 (t274 != 0)) else (peristylelaw15_WordsNot.j1 kj2 (wrap64 (t252 + (Go.bits .and .i64 a1 255))) t253 t257 t261 t265 t273 true)) else (peristylelaw15_WordsNot.j1 kj2 (wrap64 (t252 + (Go.bits .and .i64 a1 255))) t253 t257 t261 t265 t273 true)) else (peristylelaw15_WordsNot.j1 kj2 (wrap64 (t252 + (Go.bits .and .i64 a1 255))) t253 t257 t261 t265 t273 true)) else (peristylelaw15_WordsNot.j1 kj2 (wrap64 (t252 + (Go.bits .and .i64 a1 255))) t253 t257 t261 t265 t273 true)) else (peristylelaw15_WordsNot.j1 kj2 (wrap64 (t252 + (Go.bits .and .i64 a1 255))) t253 t257 t261 t265 t273 true)) = some r := H
    have A16 := Aside0.mk A160
    clear A160
    have HC17 := Aside0.mk H
    clear H
    go_upto_region 10 with (first | ((with_reducible refine gate_callee (f := 33) rfl ?_); refine goesL_ (some 29) rfl rfl Try.func33 (by kernel_rfl) rfl #[.slice A0 l0.length c0] rfl (by (try simp only [List.map_toArray, List.map_cons, List.map_nil]); first | done | rfl) ?_; (with_reducible refine (peristyleref14_Top.calls _ _ l0 t252 _ ?side1 ?side2 A10.out).mono ?_); (case side1 => repeat (first | exact (Kd.C_below HR0.out HB.out) | (with_reducible refine Kd.C_alloc ?_ _) | (with_reducible refine Kd.C_drewN ?_ _) | (with_reducible refine Kd.C_drew ?_))); (case side2 => exact HC0.out); rintro e w' ⟨rfl, ⟨nd, rfl⟩⟩; refine ⟨_, rfl, ?_⟩) | ((with_reducible refine gate_callee (f := 9) rfl ?_); refine goesL_ (some 35) rfl rfl Try.func9 (by kernel_rfl) rfl #[.slice A0 l0.length c0] rfl (by (try simp only [List.map_toArray, List.map_cons, List.map_nil]); first | done | rfl) ?_; (with_reducible refine (words_Of.calls kj2 _ _ l0 t253 t254 _ ?side1 ?side2 A11.out).mono ?_); (case side1 => repeat (first | exact (Kd.C_below HR0.out (by repeat (first | exact HB.out | apply below_alloc | apply pw_below_drewN | apply below_drew1))) | (with_reducible refine Kd.C_alloc ?_ _) | (with_reducible refine Kd.C_drewN ?_ _) | (with_reducible refine Kd.C_drew ?_))); (case side2 => exact HC0.out); rintro e w18 ⟨v255, rfl, ho0, hb⟩; refine ⟨_, rfl, ?_⟩; have n0_ := Aside0.mk (Kd.R_lower ho0 (below_size (by repeat (first | exact HB.out | apply below_alloc | apply pw_below_drewN | apply below_drew1)))); have n1_ := Aside0.mk (below_step (by repeat (first | exact HB.out | apply below_alloc | apply pw_below_drewN | apply below_drew1)) hb); clear HB; have HO256 := n0_; have HB := n1_; clear n0_ n1_; (try clear hb); (try clear ho0); obtain ⟨Ao19, co19, eo19⟩ := Kd.R_slice HO256.out; subst eo19) | ((with_reducible refine gate_callee (f := 11) rfl ?_); refine goesL_ (some 41) rfl rfl Try.func11 (by kernel_rfl) rfl #[.slice Ao19 t253.length co19, .int .i64 (wrap64 (t252 + (Go.bits .and .i64 a1 255)))] rfl (by (try simp only [List.map_toArray, List.map_cons, List.map_nil]); first | done | rfl) ?_; (with_reducible refine (words_Not.calls kj2 _ _ t253 (wrap64 (t252 + (Go.bits .and .i64 a1 255))) t257 t260 _ ?side1 ?side2 A12.out).mono ?_); (case side1 => repeat (first | exact (Kd.R_reads' HO256.out).2.2 | (with_reducible refine Kd.C_alloc ?_ _) | (with_reducible refine Kd.C_drewN ?_ _) | (with_reducible refine Kd.C_drew ?_))); (case side2 => exact (Kd.R_reads' HO256.out).2.1); rintro e w20 ⟨v258, rfl, ho0, hb⟩; refine ⟨_, rfl, ?_⟩; have n0_ := Aside0.mk (Kd.R_below (by (with_reducible repeat (first | apply Kd.R_alloc | apply Kd.R_drewN | apply Kd.R_drew)); exact HO256.out) hb); have n1_ := Aside0.mk (Kd.V_lower (Kd.V_mono (ok' := fun k_ => some k_ ≠ (.slice Ao19 t253.length co19 : Value).ownBlock) ho0 (fun k_ hk_ => (Kd.fresh' (Kd.R_lt (by (with_reducible repeat (first | apply Kd.R_alloc | apply Kd.R_drewN | apply Kd.R_drew)); exact HO256.out)) k_ hk_))) (below_size (by repeat (first | exact HB.out | apply below_alloc | apply pw_below_drewN | apply below_drew1)))); have n2_ := Aside0.mk (below_step (by repeat (first | exact HB.out | apply below_alloc | apply pw_below_drewN | apply below_drew1)) hb); clear HO256; clear HB; have HO256 := n0_; have HO259 := n1_; have HB := n2_; clear n0_ n1_ n2_; (try clear hb); (try clear ho0); obtain ⟨Ao21, co21, eo21⟩ := Kd.V_slice HO259.out; subst eo21) | ((with_reducible refine gate_callee (f := 11) rfl ?_); refine goesL_ (some 47) rfl rfl Try.func11 (by kernel_rfl) rfl #[.slice Ao21 t257.length co21, .int .i64 (wrap64 (t252 + (Go.bits .and .i64 a1 255)))] rfl (by (try simp only [List.map_toArray, List.map_cons, List.map_nil]); first | done | rfl) ?_; (with_reducible refine (words_Not.calls kj2 _ _ t257 (wrap64 (t252 + (Go.bits .and .i64 a1 255))) t261 t264 _ ?side1 ?side2 A13.out).mono ?_); (case side1 => repeat (first | exact (Kd.V_reads' HO259.out).2.2 | (with_reducible refine Kd.C_alloc ?_ _) | (with_reducible refine Kd.C_drewN ?_ _) | (with_reducible refine Kd.C_drew ?_))); (case side2 => exact (Kd.V_reads' HO259.out).2.1); rintro e w22 ⟨v262, rfl, ho0, hb⟩; refine ⟨_, rfl, ?_⟩; have n0_ := Aside0.mk (Kd.R_below (by (with_reducible repeat (first | apply Kd.R_alloc | apply Kd.R_drewN | apply Kd.R_drew)); exact HO256.out) hb); have n1_ := Aside0.mk (Kd.V_below (by (with_reducible repeat (first | apply Kd.V_alloc | apply Kd.V_drewN | apply Kd.V_drew)); exact HO259.out) hb); have n2_ := Aside0.mk (Kd.V_lower (Kd.V_mono (ok' := fun k_ => some k_ ≠ (.slice Ao19 t253.length co19 : Value).ownBlock) ho0 (fun k_ hk_ => (Kd.fresh' (Kd.R_lt (by (with_reducible repeat (first | apply Kd.R_alloc | apply Kd.R_drewN | apply Kd.R_drew)); exact HO256.out)) k_ hk_))) (below_size (by repeat (first | exact HB.out | apply below_alloc | apply pw_below_drewN | apply below_drew1)))); have n3_ := Aside0.mk (below_step (by repeat (first | exact HB.out | apply below_alloc | apply pw_below_drewN | apply below_drew1)) hb); clear HO256; clear HO259; clear HB; have HO256 := n0_; have HO259 := n1_; have HO263 := n2_; have HB := n3_; clear n0_ n1_ n2_ n3_; (try clear hb); (try clear ho0)) | ((with_reducible refine gate_callee (f := 15) rfl ?_); refine goesL_ (some 53) rfl rfl Try.func15 (by kernel_rfl) rfl #[.slice Ao19 t253.length co19, .slice Ao21 t257.length co21] rfl (by (try simp only [List.map_toArray, List.map_cons, List.map_nil]); first | done | rfl) ?_; (with_reducible refine (words_And.calls kj2 _ _ t253 _ _ t257 t265 t268 _ ?side1 ?side2 ?side3 ?side4 A14.out).mono ?_); (case side1 => repeat (first | exact (Kd.R_reads' HO256.out).2.2 | (with_reducible refine Kd.C_alloc ?_ _) | (with_reducible refine Kd.C_drewN ?_ _) | (with_reducible refine Kd.C_drew ?_))); (case side2 => exact (Kd.R_reads' HO256.out).2.1); (case side3 => repeat (first | exact (Kd.V_reads' HO259.out).2.2 | (with_reducible refine Kd.C_alloc ?_ _) | (with_reducible refine Kd.C_drewN ?_ _) | (with_reducible refine Kd.C_drew ?_))); (case side4 => exact (Kd.V_reads' HO259.out).2.1); rintro e w23 ⟨v266, rfl, ho0, hb⟩; refine ⟨_, rfl, ?_⟩; have n0_ := Aside0.mk (Kd.R_below (by (with_reducible repeat (first | apply Kd.R_alloc | apply Kd.R_drewN | apply Kd.R_drew)); exact HO256.out) hb); have n1_ := Aside0.mk (Kd.V_below (by (with_reducible repeat (first | apply Kd.V_alloc | apply Kd.V_drewN | apply Kd.V_drew)); exact HO259.out) hb); have n2_ := Aside0.mk (Kd.V_below (by (with_reducible repeat (first | apply Kd.V_alloc | apply Kd.V_drewN | apply Kd.V_drew)); exact HO263.out) hb); have n3_ := Aside0.mk (Kd.V_lower (Kd.V_mono (ok' := fun k_ => some k_ ≠ (.slice Ao19 t253.length co19 : Value).ownBlock) ho0 (fun k_ hk_ => (Kd.fresh' (Kd.R_lt (by (with_reducible repeat (first | apply Kd.R_alloc | apply Kd.R_drewN | apply Kd.R_drew)); exact HO256.out)) k_ hk_))) (below_size (by repeat (first | exact HB.out | apply below_alloc | apply pw_below_drewN | apply below_drew1)))); have n4_ := Aside0.mk (below_step (by repeat (first | exact HB.out | apply below_alloc | apply pw_below_drewN | apply below_drew1)) hb); clear HO256; clear HO259; clear HO263; clear HB; have HO256 := n0_; have HO259 := n1_; have HO263 := n2_; have HO267 := n3_; have HB := n4_; clear n0_ n1_ n2_ n3_ n4_; (try clear hb); (try clear ho0)) | ((with_reducible refine gate_callee (f := 16) rfl ?_); refine goesL_ (some 59) rfl rfl Try.func16 (by kernel_rfl) rfl #[.slice Ao19 t253.length co19, .slice Ao21 t257.length co21] rfl (by (try simp only [List.map_toArray, List.map_cons, List.map_nil]); first | done | rfl) ?_; (with_reducible refine (words_Or.calls kj2 _ _ t253 _ _ t257 t269 t272 _ ?side1 ?side2 ?side3 ?side4 A15.out).mono ?_); (case side1 => repeat (first | exact (Kd.R_reads' HO256.out).2.2 | (with_reducible refine Kd.C_alloc ?_ _) | (with_reducible refine Kd.C_drewN ?_ _) | (with_reducible refine Kd.C_drew ?_))); (case side2 => exact (Kd.R_reads' HO256.out).2.1); (case side3 => repeat (first | exact (Kd.V_reads' HO259.out).2.2 | (with_reducible refine Kd.C_alloc ?_ _) | (with_reducible refine Kd.C_drewN ?_ _) | (with_reducible refine Kd.C_drew ?_))); (case side4 => exact (Kd.V_reads' HO259.out).2.1); rintro e w24 ⟨v270, rfl, ho0, hb⟩; refine ⟨_, rfl, ?_⟩; have n0_ := Aside0.mk (Kd.R_below (by (with_reducible repeat (first | apply Kd.R_alloc | apply Kd.R_drewN | apply Kd.R_drew)); exact HO256.out) hb); have n1_ := Aside0.mk (Kd.V_below (by (with_reducible repeat (first | apply Kd.V_alloc | apply Kd.V_drewN | apply Kd.V_drew)); exact HO259.out) hb); have n2_ := Aside0.mk (Kd.V_below (by (with_reducible repeat (first | apply Kd.V_alloc | apply Kd.V_drewN | apply Kd.V_drew)); exact HO263.out) hb); have n3_ := Aside0.mk (Kd.V_below (by (with_reducible repeat (first | apply Kd.V_alloc | apply Kd.V_drewN | apply Kd.V_drew)); exact HO267.out) hb); have n4_ := Aside0.mk (Kd.V_lower (Kd.V_mono (ok' := fun k_ => some k_ ≠ (.slice Ao19 t253.length co19 : Value).ownBlock) ho0 (fun k_ hk_ => (Kd.fresh' (Kd.R_lt (by (with_reducible repeat (first | apply Kd.R_alloc | apply Kd.R_drewN | apply Kd.R_drew)); exact HO256.out)) k_ hk_))) (below_size (by repeat (first | exact HB.out | apply below_alloc | apply pw_below_drewN | apply below_drew1)))); have n5_ := Aside0.mk (below_step (by repeat (first | exact HB.out | apply below_alloc | apply pw_below_drewN | apply below_drew1)) hb); clear HO256; clear HO259; clear HO263; clear HO267; clear HB; have HO256 := n0_; have HO259 := n1_; have HO263 := n2_; have HO267 := n3_; have HO271 := n4_; have HB := n5_; clear n0_ n1_ n2_ n3_ n4_ n5_; (try clear hb); (try clear ho0); obtain ⟨Ao25, co25, eo25⟩ := Kd.V_slice HO271.out; subst eo25) | ((with_reducible refine gate_callee (f := 21) rfl ?_); refine goesL_ (some 64) rfl rfl Try.func21 (by kernel_rfl) rfl #[.slice Ao25 t269.length co25] rfl (by (try simp only [List.map_toArray, List.map_cons, List.map_nil]); first | done | rfl) ?_; (with_reducible refine (words_Spans.calls kj2 _ _ t269 t273 t274 _ ?side1 ?side2 A16.out).mono ?_); (case side1 => repeat (first | exact (Kd.V_reads' HO271.out).2.2 | (with_reducible refine Kd.C_alloc ?_ _) | (with_reducible refine Kd.C_drewN ?_ _) | (with_reducible refine Kd.C_drew ?_))); (case side2 => exact (Kd.V_reads' HO271.out).2.1); rintro e w26 ⟨v275, rfl, ho0, hb⟩; refine ⟨_, rfl, ?_⟩; have n0_ := Aside0.mk (Kd.R_below (by (with_reducible repeat (first | apply Kd.R_alloc | apply Kd.R_drewN | apply Kd.R_drew)); exact HO256.out) hb); have n1_ := Aside0.mk (Kd.V_elder' (by (with_reducible repeat (first | apply Kd.V_alloc | apply Kd.V_drewN | apply Kd.V_drew)); exact HO259.out) (Kd.R_base ho0) hb); have n2_ := Aside0.mk (Kd.V_elder' (by (with_reducible repeat (first | apply Kd.V_alloc | apply Kd.V_drewN | apply Kd.V_drew)); exact HO263.out) (Kd.R_base ho0) hb); have n3_ := Aside0.mk (Kd.V_elder' (by (with_reducible repeat (first | apply Kd.V_alloc | apply Kd.V_drewN | apply Kd.V_drew)); exact HO267.out) (Kd.R_base ho0) hb); have n4_ := Aside0.mk (Kd.V_elder' (by (with_reducible repeat (first | apply Kd.V_alloc | apply Kd.V_drewN | apply Kd.V_drew)); exact HO271.out) (Kd.R_base ho0) hb); have n5_ := Aside0.mk (Kd.R_lower ho0 (below_size (by repeat (first | exact HB.out | apply below_alloc | apply pw_below_drewN | apply below_drew1)))); have n6_ := Aside0.mk (below_step (by repeat (first | exact HB.out | apply below_alloc | apply pw_below_drewN | apply below_drew1)) hb); clear HO256; clear HO259; clear HO263; clear HO267; clear HO271; clear HB; have HO256 := n0_; have HO259 := n1_; have HO263 := n2_; have HO267 := n3_; have HO271 := n4_; have HO276 := n5_; have HB := n6_; clear n0_ n1_ n2_ n3_ n4_ n5_ n6_; (try clear hb); (try clear ho0)))
    (try simp only [Act.put, List.setIfInBounds_toArray, List.set_cons_zero, List.set_cons_succ])
    go_cut [88] (fun v88 wc => ∃ (kq : Nat) (x88_16 : Bool), v88 = .bool x88_16 ∧ Aside0 (peristylelaw15_WordsNot.j1 kq (wrap64 (t252 + (Go.bits .and .i64 a1 255))) t253 t257 t261 t265 t273 x88_16 = some r) ∧ Aside0 (kq ≤ kj2) ∧ Aside0 (Kd.R (Kd.int .i64) 3 wc w.heap.size (fun _ => True) (.slice Ao19 t253.length co19) t253) ∧ Aside0 (Kd.V (Kd.int .i64) 3 wc w.heap.size (fun k_ => some k_ ≠ ((.slice Ao19 t253.length co19) : Value).ownBlock ∧ some k_ ≠ (v275 : Value).ownBlock) (.slice Ao21 t257.length co21) t257) ∧ Aside0 (Kd.V (Kd.int .i64) 3 wc w.heap.size (fun k_ => some k_ ≠ ((.slice Ao19 t253.length co19) : Value).ownBlock ∧ some k_ ≠ (v275 : Value).ownBlock) v262 t261) ∧ Aside0 (Kd.V (Kd.int .i64) 3 wc w.heap.size (fun k_ => some k_ ≠ ((.slice Ao19 t253.length co19) : Value).ownBlock ∧ some k_ ≠ (v275 : Value).ownBlock) v266 t265) ∧ Aside0 (Kd.R k48 48 wc w.heap.size (fun _ => True) v275 t273) ∧ Aside0 (Below w.heap.size w wc))
    case first =>
     have H := HC17.out
     clear HC17
     by_cases c27 : t254 = 0
     ·rw [if_pos c27] at H
      have c27b0 : (t254 == 0) = true := beq_iff_eq.mpr c27
      have c27b1 : (t254 != 0) = false := bne_eq_false_iff_eq.mpr c27
      clear c27
      (first | rw [c27b0] | (simp only [i64_w, i32_w]; rw [c27b0]) | skip)
      by_cases c28 : t260 = 0
      ·rw [if_pos c28] at H
       have c28b0 : (t260 == 0) = true := beq_iff_eq.mpr c28
       have c28b1 : (t260 != 0) = false := bne_eq_false_iff_eq.mpr c28
       clear c28
       by_cases c29 : t264 = 0
       ·rw [if_pos c29] at H
        have c29b0 : (t264 == 0) = true := beq_iff_eq.mpr c29
        have c29b1 : (t264 != 0) = false := bne_eq_false_iff_eq.mpr c29
        clear c29
        by_cases c30 : t268 = 0
        ·rw [if_pos c30] at H
         have c30b0 : (t268 == 0) = true := beq_iff_eq.mpr c30
         have c30b1 : (t268 != 0) = false := bne_eq_false_iff_eq.mpr c30
         clear c30
         by_cases c31 : t272 = 0
         ·rw [if_pos c31] at H
          have c31b0 : (t272 == 0) = true := beq_iff_eq.mpr c31
          have c31b1 : (t272 != 0) = false := bne_eq_false_iff_eq.mpr c31
          clear c31
          have H' := Aside0.mk H
          clear H
          go_wp2
          go_meet
          case rel => exact ⟨_, ((t274 != 0)), (by first | rfl | (simp; done) | (simp [*]; done)), H', ⟨by have := HJ2.out; first | omega | exact Nat.le_refl _⟩, ⟨by (with_reducible repeat (first | apply Kd.R_alloc | apply Kd.R_drewN | apply Kd.R_drew)); exact HO256.out⟩, ⟨by (with_reducible repeat (first | apply Kd.V_alloc | apply Kd.V_drewN | apply Kd.V_drew)); exact HO259.out⟩, ⟨by (with_reducible repeat (first | apply Kd.V_alloc | apply Kd.V_drewN | apply Kd.V_drew)); exact HO263.out⟩, ⟨by (with_reducible repeat (first | apply Kd.V_alloc | apply Kd.V_drewN | apply Kd.V_drew)); exact HO267.out⟩, ⟨by (with_reducible repeat (first | apply Kd.R_alloc | apply Kd.R_drewN | apply Kd.R_drew)); exact HO276.out⟩, ⟨by repeat (first | (with_reducible first | exact HB.out | apply below_alloc | apply pw_below_drewN | apply below_drew1) | exact HB.out)⟩⟩
         ·rw [if_neg c31] at H
          have c31b0 : (t272 == 0) = false := beq_eq_false_iff_ne.mpr c31
          have c31b1 : (t272 != 0) = true := bne_iff_ne.mpr c31
          have H' := Aside0.mk H
          clear H
          go_wp2
          go_meet
          case rel => exact ⟨_, (true), (by first | rfl | (simp; done) | (simp [*]; done)), H', ⟨by have := HJ2.out; first | omega | exact Nat.le_refl _⟩, ⟨by (with_reducible repeat (first | apply Kd.R_alloc | apply Kd.R_drewN | apply Kd.R_drew)); exact HO256.out⟩, ⟨by (with_reducible repeat (first | apply Kd.V_alloc | apply Kd.V_drewN | apply Kd.V_drew)); exact HO259.out⟩, ⟨by (with_reducible repeat (first | apply Kd.V_alloc | apply Kd.V_drewN | apply Kd.V_drew)); exact HO263.out⟩, ⟨by (with_reducible repeat (first | apply Kd.V_alloc | apply Kd.V_drewN | apply Kd.V_drew)); exact HO267.out⟩, ⟨by (with_reducible repeat (first | apply Kd.R_alloc | apply Kd.R_drewN | apply Kd.R_drew)); exact HO276.out⟩, ⟨by repeat (first | (with_reducible first | exact HB.out | apply below_alloc | apply pw_below_drewN | apply below_drew1) | exact HB.out)⟩⟩
        ·rw [if_neg c30] at H
         have c30b0 : (t268 == 0) = false := beq_eq_false_iff_ne.mpr c30
         have c30b1 : (t268 != 0) = true := bne_iff_ne.mpr c30
         have H' := Aside0.mk H
         clear H
         go_wp2
         go_meet
         case rel => exact ⟨_, (true), (by first | rfl | (simp; done) | (simp [*]; done)), H', ⟨by have := HJ2.out; first | omega | exact Nat.le_refl _⟩, ⟨by (with_reducible repeat (first | apply Kd.R_alloc | apply Kd.R_drewN | apply Kd.R_drew)); exact HO256.out⟩, ⟨by (with_reducible repeat (first | apply Kd.V_alloc | apply Kd.V_drewN | apply Kd.V_drew)); exact HO259.out⟩, ⟨by (with_reducible repeat (first | apply Kd.V_alloc | apply Kd.V_drewN | apply Kd.V_drew)); exact HO263.out⟩, ⟨by (with_reducible repeat (first | apply Kd.V_alloc | apply Kd.V_drewN | apply Kd.V_drew)); exact HO267.out⟩, ⟨by (with_reducible repeat (first | apply Kd.R_alloc | apply Kd.R_drewN | apply Kd.R_drew)); exact HO276.out⟩, ⟨by repeat (first | (with_reducible first | exact HB.out | apply below_alloc | apply pw_below_drewN | apply below_drew1) | exact HB.out)⟩⟩
       ·rw [if_neg c29] at H
        have c29b0 : (t264 == 0) = false := beq_eq_false_iff_ne.mpr c29
        have c29b1 : (t264 != 0) = true := bne_iff_ne.mpr c29
        have H' := Aside0.mk H
        clear H
        go_wp2
        go_meet
        case rel => exact ⟨_, (true), (by first | rfl | (simp; done) | (simp [*]; done)), H', ⟨by have := HJ2.out; first | omega | exact Nat.le_refl _⟩, ⟨by (with_reducible repeat (first | apply Kd.R_alloc | apply Kd.R_drewN | apply Kd.R_drew)); exact HO256.out⟩, ⟨by (with_reducible repeat (first | apply Kd.V_alloc | apply Kd.V_drewN | apply Kd.V_drew)); exact HO259.out⟩, ⟨by (with_reducible repeat (first | apply Kd.V_alloc | apply Kd.V_drewN | apply Kd.V_drew)); exact HO263.out⟩, ⟨by (with_reducible repeat (first | apply Kd.V_alloc | apply Kd.V_drewN | apply Kd.V_drew)); exact HO267.out⟩, ⟨by (with_reducible repeat (first | apply Kd.R_alloc | apply Kd.R_drewN | apply Kd.R_drew)); exact HO276.out⟩, ⟨by repeat (first | (with_reducible first | exact HB.out | apply below_alloc | apply pw_below_drewN | apply below_drew1) | exact HB.out)⟩⟩
      ·rw [if_neg c28] at H
       have c28b0 : (t260 == 0) = false := beq_eq_false_iff_ne.mpr c28
       have c28b1 : (t260 != 0) = true := bne_iff_ne.mpr c28
       have H' := Aside0.mk H
       clear H
       go_wp2
       go_meet
       case rel => exact ⟨_, (true), (by first | rfl | (simp; done) | (simp [*]; done)), H', ⟨by have := HJ2.out; first | omega | exact Nat.le_refl _⟩, ⟨by (with_reducible repeat (first | apply Kd.R_alloc | apply Kd.R_drewN | apply Kd.R_drew)); exact HO256.out⟩, ⟨by (with_reducible repeat (first | apply Kd.V_alloc | apply Kd.V_drewN | apply Kd.V_drew)); exact HO259.out⟩, ⟨by (with_reducible repeat (first | apply Kd.V_alloc | apply Kd.V_drewN | apply Kd.V_drew)); exact HO263.out⟩, ⟨by (with_reducible repeat (first | apply Kd.V_alloc | apply Kd.V_drewN | apply Kd.V_drew)); exact HO267.out⟩, ⟨by (with_reducible repeat (first | apply Kd.R_alloc | apply Kd.R_drewN | apply Kd.R_drew)); exact HO276.out⟩, ⟨by repeat (first | (with_reducible first | exact HB.out | apply below_alloc | apply pw_below_drewN | apply below_drew1) | exact HB.out)⟩⟩
     ·rw [if_neg c27] at H
      have c27b0 : (t254 == 0) = false := beq_eq_false_iff_ne.mpr c27
      have c27b1 : (t254 != 0) = true := bne_iff_ne.mpr c27
      (first | rw [c27b0] | (simp only [i64_w, i32_w]; rw [c27b0]) | skip)
      have H' := Aside0.mk H
      clear H
      go_wp2
      go_meet
      case rel => exact ⟨_, (true), (by first | rfl | (simp; done) | (simp [*]; done)), H', ⟨by have := HJ2.out; first | omega | exact Nat.le_refl _⟩, ⟨by (with_reducible repeat (first | apply Kd.R_alloc | apply Kd.R_drewN | apply Kd.R_drew)); exact HO256.out⟩, ⟨by (with_reducible repeat (first | apply Kd.V_alloc | apply Kd.V_drewN | apply Kd.V_drew)); exact HO259.out⟩, ⟨by (with_reducible repeat (first | apply Kd.V_alloc | apply Kd.V_drewN | apply Kd.V_drew)); exact HO263.out⟩, ⟨by (with_reducible repeat (first | apply Kd.V_alloc | apply Kd.V_drewN | apply Kd.V_drew)); exact HO267.out⟩, ⟨by (with_reducible repeat (first | apply Kd.R_alloc | apply Kd.R_drewN | apply Kd.R_drew)); exact HO276.out⟩, ⟨by repeat (first | (with_reducible first | exact HB.out | apply below_alloc | apply pw_below_drewN | apply below_drew1) | exact HB.out)⟩⟩
    case rest =>
     clear HC17
     try clear c1
     try clear c2
     try clear p2
     try clear c3
     try clear c5
     try clear c6
     try clear p6
     try clear c7
     try clear c8
     try clear c9
     try clear c11
     try clear c15
     try clear c16
     try clear c21
     try clear c27
     try clear c27b0
     try clear c27b1
     try clear c28
     try clear c28b0
     try clear c28b1
     try clear c29
     try clear c29b0
     try clear c29b1
     try clear c30
     try clear c30b0
     try clear c30b1
     try clear c31
     try clear c31b0
     try clear c31b1
     try clear p2
     obtain ⟨kq, x88_16, rfl, HA, HJ16, HO_6, HO_8, HO_10, HO_12, HO_16, HB⟩ := hcut
     cases kq with
     | zero => exact absurd HA.out (by simp [peristylelaw15_WordsNot.j1])
     | succ kj16 =>
      have H := HA.out
      clear HA
      simp only [peristylelaw15_WordsNot.j1] at H
      by_cases c32 : x88_16 = true
      ·subst c32
       have H1 : (some false) = some r := by rw [if_pos rfl] at H; exact H
       clear H
       have H := H1
       clear H1
       obtain rfl := Option.some.inj H
       go_wp2
       go_ret
       exact ⟨by first | rfl | (simp [errW_none, errW_some] <;> rfl) | (simp [*, errW_none, errW_some] <;> rfl), by repeat (first | (with_reducible first | exact HB.out | apply below_alloc | apply pw_below_drewN | apply below_drew1) | exact HB.out)⟩
      ·replace c32 := Bool.eq_false_iff.mpr c32
       subst c32
       have H1 : (if (wrap64 (t252 + (Go.bits .and .i64 a1 255))) = 0 then (if (t273.length : Int) = 0 then (peristylelaw15_WordsNot.j2 kj16 (wrap64 (t252 + (Go.bits .and .i64 a1 255))) t253 t257 t261 t265 true) else (if (t273.length : Int) = 1 then (if 0 < (t273.length : Int) then (peristylelaw15_WordsNot.j2 kj16 (wrap64 (t252 + (Go.bits .and .i64 a1 255))) t253 t257 t261 t265 (((rd_T48 t273 0).f0) == 0 && (((rd_T48 t273 0).f1) == (wrap64 (t252 + (Go.bits .and .i64 a1 255)))))) else (none)) else (peristylelaw15_WordsNot.j2 kj16 (wrap64 (t252 + (Go.bits .and .i64 a1 255))) t253 t257 t261 t265 false))) else (if (t273.length : Int) = 1 then (if 0 < (t273.length : Int) then (peristylelaw15_WordsNot.j2 kj16 (wrap64 (t252 + (Go.bits .and .i64 a1 255))) t253 t257 t261 t265 (((rd_T48 t273 0).f0) == 0 && (((rd_T48 t273 0).f1) == (wrap64 (t252 + (Go.bits .and .i64 a1 255)))))) else (none)) else (peristylelaw15_WordsNot.j2 kj16 (wrap64 (t252 + (Go.bits .and .i64 a1 255))) t253 t257 t261 t265 false))) = some r := by rw [if_neg (show ¬ (false = true) by decide)] at H; exact H
       clear H
       have H := H1
       clear H1
       have HC33 := Aside0.mk H
       clear H
       go_upto_region 12 with (fail)
       go_cut [18] (fun v18 wc => ∃ (kq : Nat) (x18_32 : Bool), v18 = .bool x18_32 ∧ Aside0 (peristylelaw15_WordsNot.j2 kq (wrap64 (t252 + (Go.bits .and .i64 a1 255))) t253 t257 t261 t265 x18_32 = some r) ∧ Aside0 (kq ≤ kj16) ∧ Aside0 (Kd.R (Kd.int .i64) 3 wc w.heap.size (fun _ => True) (.slice Ao19 t253.length co19) t253) ∧ Aside0 (Kd.V (Kd.int .i64) 3 wc w.heap.size (fun k_ => some k_ ≠ ((.slice Ao19 t253.length co19) : Value).ownBlock) (.slice Ao21 t257.length co21) t257) ∧ Aside0 (Kd.V (Kd.int .i64) 3 wc w.heap.size (fun k_ => some k_ ≠ ((.slice Ao19 t253.length co19) : Value).ownBlock) v262 t261) ∧ Aside0 (Kd.V (Kd.int .i64) 3 wc w.heap.size (fun k_ => some k_ ≠ ((.slice Ao19 t253.length co19) : Value).ownBlock) v266 t265) ∧ Aside0 (Below w.heap.size w wc))
       case first =>
        have H := HC33.out
        clear HC33
        by_cases c34 : (wrap64 (t252 + (Go.bits .and .i64 a1 255))) = 0
        ·rw [if_pos c34] at H
         have c34b0 : ((wrap64 (t252 + (Go.bits .and .i64 a1 255))) == 0) = true := beq_iff_eq.mpr c34
         have c34b1 : ((wrap64 (t252 + (Go.bits .and .i64 a1 255))) != 0) = false := bne_eq_false_iff_eq.mpr c34
         clear c34
         (first | rw [c34b0] | (simp only [i64_w, i32_w]; rw [c34b0]) | skip)
         by_cases c35 : (t273.length : Int) = 0
         ·rw [if_pos c35] at H
          have c35b0 : ((t273.length : Int) == 0) = true := beq_iff_eq.mpr c35
          have c35b1 : ((t273.length : Int) != 0) = false := bne_eq_false_iff_eq.mpr c35
          clear c35
          have H' := Aside0.mk H
          clear H
          obtain ⟨Ao36, co36, eo36⟩ := Kd.R_slice HO_16.out
          subst eo36
          go_wp2
          go_meet
          case rel => exact ⟨_, (true), (by first | rfl | (simp; done) | (simp [*]; done)), H', ⟨by have := HJ2.out; have := HJ16.out; first | omega | exact Nat.le_refl _⟩, ⟨by (with_reducible repeat (first | apply Kd.R_alloc | apply Kd.R_drewN | apply Kd.R_drew)); exact HO_6.out⟩, ⟨by (with_reducible repeat (first | apply Kd.V_alloc | apply Kd.V_drewN | apply Kd.V_drew)); exact Kd.V_mono HO_8.out (fun _ hk => hk.1)⟩, ⟨by (with_reducible repeat (first | apply Kd.V_alloc | apply Kd.V_drewN | apply Kd.V_drew)); exact Kd.V_mono HO_10.out (fun _ hk => hk.1)⟩, ⟨by (with_reducible repeat (first | apply Kd.V_alloc | apply Kd.V_drewN | apply Kd.V_drew)); exact Kd.V_mono HO_12.out (fun _ hk => hk.1)⟩, ⟨by repeat (first | (with_reducible first | exact HB.out | apply below_alloc | apply pw_below_drewN | apply below_drew1) | exact HB.out)⟩⟩
         ·rw [if_neg c35] at H
          have c35b0 : ((t273.length : Int) == 0) = false := beq_eq_false_iff_ne.mpr c35
          have c35b1 : ((t273.length : Int) != 0) = true := bne_iff_ne.mpr c35
          have c35b2 : ¬ (t273 = []) := fun h_ => c35 (by rw [h_]; rfl)
          by_cases c37 : (t273.length : Int) = 1
          ·rw [if_pos c37] at H
           have c37b0 : ((t273.length : Int) == 1) = true := beq_iff_eq.mpr c37
           have c37b1 : ((t273.length : Int) != 1) = false := bne_eq_false_iff_eq.mpr c37
           clear c37
           by_cases c38 : 0 < (t273.length : Int)
           ·rw [if_pos c38] at H
            have c38b0 : decide (0 < (t273.length : Int)) = true := decide_eq_true c38
            have c38b1 : decide (0 < t273.length) = true := decide_eq_true (by omega)
            clear c38
            have H' := Aside0.mk H
            clear H
            obtain ⟨Ao39, co39, eo39⟩ := Kd.R_slice HO_16.out
            subst eo39
            have p277 : 0 ≤ (0 : Int) := (by omega)
            have q277 : 0 < (t273.length : Int) := of_decide_eq_true (by assumption)
            obtain ⟨ad277, e277, hx277_0, hx277_1⟩ := at_T48 (Kd.R_reads' HO_16.out).2.2 0 p277 q277
            cases e277
            have qi277 : (0 < t273.length) = True := eq_true (by omega)
            (try rw [show ((0 : Int)).toNat = 0 from rfl] at hx277_0)
            (try rw [show 0 * 2 = 0 from rfl] at hx277_0)
            (try rw [Addr.add_zero'] at hx277_0)
            (try rw [show ((0 : Int)).toNat = 0 from rfl] at hx277_1)
            (try rw [show 0 * 2 = 0 from rfl] at hx277_1)
            (try rw [Addr.add_zero'] at hx277_1)
            replace p277 := eq_true p277
            replace q277 := eq_true q277
            go_wp2
            go_meet
            case rel => exact ⟨_, ((((rd_T48 t273 0).f0) == 0 && (((rd_T48 t273 0).f1) == (wrap64 (t252 + (Go.bits .and .i64 a1 255)))))), (by first | rfl | (simp; done) | (simp [*]; done)), H', ⟨by have := HJ2.out; have := HJ16.out; first | omega | exact Nat.le_refl _⟩, ⟨by (with_reducible repeat (first | apply Kd.R_alloc | apply Kd.R_drewN | apply Kd.R_drew)); exact HO_6.out⟩, ⟨by (with_reducible repeat (first | apply Kd.V_alloc | apply Kd.V_drewN | apply Kd.V_drew)); exact Kd.V_mono HO_8.out (fun _ hk => hk.1)⟩, ⟨by (with_reducible repeat (first | apply Kd.V_alloc | apply Kd.V_drewN | apply Kd.V_drew)); exact Kd.V_mono HO_10.out (fun _ hk => hk.1)⟩, ⟨by (with_reducible repeat (first | apply Kd.V_alloc | apply Kd.V_drewN | apply Kd.V_drew)); exact Kd.V_mono HO_12.out (fun _ hk => hk.1)⟩, ⟨by repeat (first | (with_reducible first | exact HB.out | apply below_alloc | apply pw_below_drewN | apply below_drew1) | exact HB.out)⟩⟩
           ·rw [if_neg c38] at H
            exact absurd H (by simp)
          ·rw [if_neg c37] at H
           have c37b0 : ((t273.length : Int) == 1) = false := beq_eq_false_iff_ne.mpr c37
           have c37b1 : ((t273.length : Int) != 1) = true := bne_iff_ne.mpr c37
           have H' := Aside0.mk H
           clear H
           obtain ⟨Ao40, co40, eo40⟩ := Kd.R_slice HO_16.out
           subst eo40
           go_wp2
           go_meet
           case rel => exact ⟨_, (false), (by first | rfl | (simp; done) | (simp [*]; done)), H', ⟨by have := HJ2.out; have := HJ16.out; first | omega | exact Nat.le_refl _⟩, ⟨by (with_reducible repeat (first | apply Kd.R_alloc | apply Kd.R_drewN | apply Kd.R_drew)); exact HO_6.out⟩, ⟨by (with_reducible repeat (first | apply Kd.V_alloc | apply Kd.V_drewN | apply Kd.V_drew)); exact Kd.V_mono HO_8.out (fun _ hk => hk.1)⟩, ⟨by (with_reducible repeat (first | apply Kd.V_alloc | apply Kd.V_drewN | apply Kd.V_drew)); exact Kd.V_mono HO_10.out (fun _ hk => hk.1)⟩, ⟨by (with_reducible repeat (first | apply Kd.V_alloc | apply Kd.V_drewN | apply Kd.V_drew)); exact Kd.V_mono HO_12.out (fun _ hk => hk.1)⟩, ⟨by repeat (first | (with_reducible first | exact HB.out | apply below_alloc | apply pw_below_drewN | apply below_drew1) | exact HB.out)⟩⟩
        ·rw [if_neg c34] at H
         have c34b0 : ((wrap64 (t252 + (Go.bits .and .i64 a1 255))) == 0) = false := beq_eq_false_iff_ne.mpr c34
         have c34b1 : ((wrap64 (t252 + (Go.bits .and .i64 a1 255))) != 0) = true := bne_iff_ne.mpr c34
         (first | rw [c34b0] | (simp only [i64_w, i32_w]; rw [c34b0]) | skip)
         by_cases c41 : (t273.length : Int) = 1
         ·rw [if_pos c41] at H
          have c41b0 : ((t273.length : Int) == 1) = true := beq_iff_eq.mpr c41
          have c41b1 : ((t273.length : Int) != 1) = false := bne_eq_false_iff_eq.mpr c41
          clear c41
          by_cases c42 : 0 < (t273.length : Int)
          ·rw [if_pos c42] at H
           have c42b0 : decide (0 < (t273.length : Int)) = true := decide_eq_true c42
           have c42b1 : decide (0 < t273.length) = true := decide_eq_true (by omega)
           clear c42
           have H' := Aside0.mk H
           clear H
           obtain ⟨Ao43, co43, eo43⟩ := Kd.R_slice HO_16.out
           subst eo43
           have p278 : 0 ≤ (0 : Int) := (by omega)
           have q278 : 0 < (t273.length : Int) := of_decide_eq_true (by assumption)
           obtain ⟨ad278, e278, hx278_0, hx278_1⟩ := at_T48 (Kd.R_reads' HO_16.out).2.2 0 p278 q278
           cases e278
           have qi278 : (0 < t273.length) = True := eq_true (by omega)
           (try rw [show ((0 : Int)).toNat = 0 from rfl] at hx278_0)
           (try rw [show 0 * 2 = 0 from rfl] at hx278_0)
           (try rw [Addr.add_zero'] at hx278_0)
           (try rw [show ((0 : Int)).toNat = 0 from rfl] at hx278_1)
           (try rw [show 0 * 2 = 0 from rfl] at hx278_1)
           (try rw [Addr.add_zero'] at hx278_1)
           replace p278 := eq_true p278
           replace q278 := eq_true q278
           go_wp2
           go_meet
           case rel => exact ⟨_, ((((rd_T48 t273 0).f0) == 0 && (((rd_T48 t273 0).f1) == (wrap64 (t252 + (Go.bits .and .i64 a1 255)))))), (by first | rfl | (simp; done) | (simp [*]; done)), H', ⟨by have := HJ2.out; have := HJ16.out; first | omega | exact Nat.le_refl _⟩, ⟨by (with_reducible repeat (first | apply Kd.R_alloc | apply Kd.R_drewN | apply Kd.R_drew)); exact HO_6.out⟩, ⟨by (with_reducible repeat (first | apply Kd.V_alloc | apply Kd.V_drewN | apply Kd.V_drew)); exact Kd.V_mono HO_8.out (fun _ hk => hk.1)⟩, ⟨by (with_reducible repeat (first | apply Kd.V_alloc | apply Kd.V_drewN | apply Kd.V_drew)); exact Kd.V_mono HO_10.out (fun _ hk => hk.1)⟩, ⟨by (with_reducible repeat (first | apply Kd.V_alloc | apply Kd.V_drewN | apply Kd.V_drew)); exact Kd.V_mono HO_12.out (fun _ hk => hk.1)⟩, ⟨by repeat (first | (with_reducible first | exact HB.out | apply below_alloc | apply pw_below_drewN | apply below_drew1) | exact HB.out)⟩⟩
          ·rw [if_neg c42] at H
           exact absurd H (by simp)
         ·rw [if_neg c41] at H
          have c41b0 : ((t273.length : Int) == 1) = false := beq_eq_false_iff_ne.mpr c41
          have c41b1 : ((t273.length : Int) != 1) = true := bne_iff_ne.mpr c41
          have H' := Aside0.mk H
          clear H
          obtain ⟨Ao44, co44, eo44⟩ := Kd.R_slice HO_16.out
          subst eo44
          go_wp2
          go_meet
          case rel => exact ⟨_, (false), (by first | rfl | (simp; done) | (simp [*]; done)), H', ⟨by have := HJ2.out; have := HJ16.out; first | omega | exact Nat.le_refl _⟩, ⟨by (with_reducible repeat (first | apply Kd.R_alloc | apply Kd.R_drewN | apply Kd.R_drew)); exact HO_6.out⟩, ⟨by (with_reducible repeat (first | apply Kd.V_alloc | apply Kd.V_drewN | apply Kd.V_drew)); exact Kd.V_mono HO_8.out (fun _ hk => hk.1)⟩, ⟨by (with_reducible repeat (first | apply Kd.V_alloc | apply Kd.V_drewN | apply Kd.V_drew)); exact Kd.V_mono HO_10.out (fun _ hk => hk.1)⟩, ⟨by (with_reducible repeat (first | apply Kd.V_alloc | apply Kd.V_drewN | apply Kd.V_drew)); exact Kd.V_mono HO_12.out (fun _ hk => hk.1)⟩, ⟨by repeat (first | (with_reducible first | exact HB.out | apply below_alloc | apply pw_below_drewN | apply below_drew1) | exact HB.out)⟩⟩
       case rest =>
        clear HC33
        try clear c1
        try clear c2
        try clear p2
        try clear q2
        try clear hx2
        try clear qi2
        try clear c3
        try clear c4
        try clear c5
        try clear c6
        try clear p6
        try clear c7
        try clear c8
        try clear c9
        try clear c11
        try clear c15
        try clear c16
        try clear c21
        try clear c27
        try clear c27b0
        try clear c27b1
        try clear p27
        try clear q27
        try clear hx27
        try clear qi27
        try clear c28
        try clear c28b0
        try clear c28b1
        try clear c29
        try clear c29b0
        try clear c29b1
        try clear c30
        try clear c30b0
        try clear c30b1
        try clear c31
        try clear c31b0
        try clear c31b1
        try clear c32
        try clear c33
        try clear c34
        try clear c34b0
        try clear c34b1
        try clear c35
        try clear c35b0
        try clear c35b1
        try clear c35b2
        try clear c37
        try clear c37b0
        try clear c37b1
        try clear c38
        try clear c38b0
        try clear c38b1
        try clear c41
        try clear c41b0
        try clear c41b1
        try clear c42
        try clear c42b0
        try clear c42b1
        try clear hx277_0
        try clear hx277_1
        try clear hx278_0
        try clear hx278_1
        try clear p2
        try clear p277
        try clear p278
        try clear p6
        try clear q277
        try clear q278
        obtain ⟨kq, x18_32, rfl, HA, HJ32, HO_6, HO_8, HO_10, HO_12, HB⟩ := hcut
        cases kq with
        | zero => exact absurd HA.out (by simp [peristylelaw15_WordsNot.j2])
        | succ kj32 =>
         have H := HA.out
         clear HA
         simp only [peristylelaw15_WordsNot.j2] at H
         replace H := Option.bind_eq_some_iff.mp H
         obtain ⟨t279, A450, H⟩ := H
         replace H : (if t279 = true then (if (t265.length : Int) = 0 then (if x18_32 = true then ((words_Count.f kj32 t253).bind fun t280 => ((words_Count.f kj32 t257).bind fun t281 => (if (wrap64 (t280 + t281)) = (wrap64 (t252 + (Go.bits .and .i64 a1 255))) then ((peristylelaw15_awake.f kj32).bind fun t282 => (some t282)) else (some false)))) else (some false)) else (some false)) else (some false)) = some r := H
         have A45 := Aside0.mk A450
         clear A450
         by_cases c46 : t279 = true
         ·subst c46
          have H1 : (if (t265.length : Int) = 0 then (if x18_32 = true then ((words_Count.f kj32 t253).bind fun t280 => ((words_Count.f kj32 t257).bind fun t281 => (if (wrap64 (t280 + t281)) = (wrap64 (t252 + (Go.bits .and .i64 a1 255))) then ((peristylelaw15_awake.f kj32).bind fun t282 => (some t282)) else (some false)))) else (some false)) else (some false)) = some r := by rw [if_pos rfl] at H; exact H
          clear H
          have H := H1
          clear H1
          by_cases c47 : (t265.length : Int) = 0
          ·rw [if_pos c47] at H
           have c47b0 : ((t265.length : Int) == 0) = true := beq_iff_eq.mpr c47
           have c47b1 : ((t265.length : Int) != 0) = false := bne_eq_false_iff_eq.mpr c47
           clear c47
           by_cases c48 : x18_32 = true
           ·subst c48
            have H1 : ((words_Count.f kj32 t253).bind fun t280 => ((words_Count.f kj32 t257).bind fun t281 => (if (wrap64 (t280 + t281)) = (wrap64 (t252 + (Go.bits .and .i64 a1 255))) then ((peristylelaw15_awake.f kj32).bind fun t282 => (some t282)) else (some false)))) = some r := by rw [if_pos rfl] at H; exact H
            clear H
            have H := H1
            clear H1
            replace H := Option.bind_eq_some_iff.mp H
            obtain ⟨t280, A490, H⟩ := H
            replace H : ((words_Count.f kj32 t257).bind fun t281 => (if (wrap64 (t280 + t281)) = (wrap64 (t252 + (Go.bits .and .i64 a1 255))) then ((peristylelaw15_awake.f kj32).bind fun t282 => (some t282)) else (some false))) = some r := H
            have A49 := Aside0.mk A490
            clear A490
            replace H := Option.bind_eq_some_iff.mp H
            obtain ⟨t281, A500, H⟩ := H
            replace H : (if (wrap64 (t280 + t281)) = (wrap64 (t252 + (Go.bits .and .i64 a1 255))) then ((peristylelaw15_awake.f kj32).bind fun t282 => (some t282)) else (some false)) = some r := H
            have A50 := Aside0.mk A500
            clear A500
            by_cases c51 : (wrap64 (t280 + t281)) = (wrap64 (t252 + (Go.bits .and .i64 a1 255)))
            ·rw [if_pos c51] at H
             have c51b0 : ((wrap64 (t280 + t281)) == (wrap64 (t252 + (Go.bits .and .i64 a1 255)))) = true := beq_iff_eq.mpr c51
             have c51b1 : ((wrap64 (t280 + t281)) != (wrap64 (t252 + (Go.bits .and .i64 a1 255)))) = false := bne_eq_false_iff_eq.mpr c51
             clear c51
             replace H := Option.bind_eq_some_iff.mp H
             obtain ⟨t282, A520, H⟩ := H
             replace H : (some t282) = some r := H
             have A52 := Aside0.mk A520
             clear A520
             obtain rfl := Option.some.inj H
             obtain ⟨Ao53, co53, eo53⟩ := Kd.V_slice HO_10.out
             subst eo53
             go_wp2_with (first | ((with_reducible refine gate_callee (f := 13) rfl ?_); refine goesL_ (some 111) rfl rfl Try.func13 (by kernel_rfl) rfl #[.slice Ao19 t253.length co19, .slice Ao53 t261.length co53] rfl (by (try simp only [List.map_toArray, List.map_cons, List.map_nil]); first | done | rfl) ?_; (with_reducible refine (peristyleref01_Same.calls kj32 _ _ t253 _ _ t261 true _ ?side1 ?side2 ?side3 ?side4 A45.out).mono ?_); (case side1 => repeat (first | exact (Kd.R_reads' HO_6.out).2.2 | (with_reducible refine Kd.C_alloc ?_ _) | (with_reducible refine Kd.C_drewN ?_ _) | (with_reducible refine Kd.C_drew ?_))); (case side2 => exact (Kd.R_reads' HO_6.out).2.1); (case side3 => repeat (first | exact (Kd.V_reads' HO_10.out).2.2 | (with_reducible refine Kd.C_alloc ?_ _) | (with_reducible refine Kd.C_drewN ?_ _) | (with_reducible refine Kd.C_drew ?_))); (case side4 => exact (Kd.V_reads' HO_10.out).2.1); rintro e w' ⟨rfl, ⟨nd, rfl⟩⟩; refine ⟨_, rfl, ?_⟩; obtain ⟨Ao54, co54, eo54⟩ := Kd.V_slice HO_12.out; subst eo54) | (go_at_call 25; (with_reducible refine (words_Count.calls kj32 _ _ t253 t280 _ ?side1 ?side2 A49.out).mono ?_); (case side1 => repeat (first | exact (Kd.R_reads' HO_6.out).2.2 | (with_reducible refine Kd.C_alloc ?_ _) | (with_reducible refine Kd.C_drewN ?_ _) | (with_reducible refine Kd.C_drew ?_))); (case side2 => exact (Kd.R_reads' HO_6.out).2.1); rintro e w' ⟨rfl, ⟨nd, rfl⟩⟩; (try clear A49)) | (go_at_call 25; (with_reducible refine (words_Count.calls kj32 _ _ t257 t281 _ ?side1 ?side2 A50.out).mono ?_); (case side1 => repeat (first | exact (Kd.V_reads' HO_8.out).2.2 | (with_reducible refine Kd.C_alloc ?_ _) | (with_reducible refine Kd.C_drewN ?_ _) | (with_reducible refine Kd.C_drew ?_))); (case side2 => exact (Kd.V_reads' HO_8.out).2.1); rintro e w' ⟨rfl, ⟨nd, rfl⟩⟩; (try clear A50)) | (go_at_call 8; (with_reducible refine (peristylelaw15_awake.calls kj32  t282 _ A52.out).mono ?_); rintro e w55 ⟨rfl, hb⟩; have n0_ := Aside0.mk (Kd.R_below (by (with_reducible repeat (first | apply Kd.R_alloc | apply Kd.R_drewN | apply Kd.R_drew)); exact HO_6.out) hb); have n1_ := Aside0.mk (Kd.V_below (by (with_reducible repeat (first | apply Kd.V_alloc | apply Kd.V_drewN | apply Kd.V_drew)); exact HO_8.out) hb); have n2_ := Aside0.mk (Kd.V_below (by (with_reducible repeat (first | apply Kd.V_alloc | apply Kd.V_drewN | apply Kd.V_drew)); exact HO_10.out) hb); have n3_ := Aside0.mk (Kd.V_below (by (with_reducible repeat (first | apply Kd.V_alloc | apply Kd.V_drewN | apply Kd.V_drew)); exact HO_12.out) hb); have n4_ := Aside0.mk (below_step (by repeat (first | exact HB.out | apply below_alloc | apply pw_below_drewN | apply below_drew1)) hb); clear HO_6; clear HO_8; clear HO_10; clear HO_12; clear HB; have HO_6 := n0_; have HO_8 := n1_; have HO_10 := n2_; have HO_12 := n3_; have HB := n4_; clear n0_ n1_ n2_ n3_ n4_; (try clear hb); (try clear A52)))
             go_ret
             exact ⟨by first | rfl | (simp [errW_none, errW_some] <;> rfl) | (simp [*, errW_none, errW_some] <;> rfl), by repeat (first | (with_reducible first | exact HB.out | apply below_alloc | apply pw_below_drewN | apply below_drew1) | exact HB.out)⟩
            ·rw [if_neg c51] at H
             have c51b0 : ((wrap64 (t280 + t281)) == (wrap64 (t252 + (Go.bits .and .i64 a1 255)))) = false := beq_eq_false_iff_ne.mpr c51
             have c51b1 : ((wrap64 (t280 + t281)) != (wrap64 (t252 + (Go.bits .and .i64 a1 255)))) = true := bne_iff_ne.mpr c51
             obtain rfl := Option.some.inj H
             obtain ⟨Ao56, co56, eo56⟩ := Kd.V_slice HO_10.out
             subst eo56
             go_wp2_with (first | ((with_reducible refine gate_callee (f := 13) rfl ?_); refine goesL_ (some 111) rfl rfl Try.func13 (by kernel_rfl) rfl #[.slice Ao19 t253.length co19, .slice Ao56 t261.length co56] rfl (by (try simp only [List.map_toArray, List.map_cons, List.map_nil]); first | done | rfl) ?_; (with_reducible refine (peristyleref01_Same.calls kj32 _ _ t253 _ _ t261 true _ ?side1 ?side2 ?side3 ?side4 A45.out).mono ?_); (case side1 => repeat (first | exact (Kd.R_reads' HO_6.out).2.2 | (with_reducible refine Kd.C_alloc ?_ _) | (with_reducible refine Kd.C_drewN ?_ _) | (with_reducible refine Kd.C_drew ?_))); (case side2 => exact (Kd.R_reads' HO_6.out).2.1); (case side3 => repeat (first | exact (Kd.V_reads' HO_10.out).2.2 | (with_reducible refine Kd.C_alloc ?_ _) | (with_reducible refine Kd.C_drewN ?_ _) | (with_reducible refine Kd.C_drew ?_))); (case side4 => exact (Kd.V_reads' HO_10.out).2.1); rintro e w' ⟨rfl, ⟨nd, rfl⟩⟩; refine ⟨_, rfl, ?_⟩; obtain ⟨Ao57, co57, eo57⟩ := Kd.V_slice HO_12.out; subst eo57) | (go_at_call 25; (with_reducible refine (words_Count.calls kj32 _ _ t253 t280 _ ?side1 ?side2 A49.out).mono ?_); (case side1 => repeat (first | exact (Kd.R_reads' HO_6.out).2.2 | (with_reducible refine Kd.C_alloc ?_ _) | (with_reducible refine Kd.C_drewN ?_ _) | (with_reducible refine Kd.C_drew ?_))); (case side2 => exact (Kd.R_reads' HO_6.out).2.1); rintro e w' ⟨rfl, ⟨nd, rfl⟩⟩; (try clear A49)) | (go_at_call 25; (with_reducible refine (words_Count.calls kj32 _ _ t257 t281 _ ?side1 ?side2 A50.out).mono ?_); (case side1 => repeat (first | exact (Kd.V_reads' HO_8.out).2.2 | (with_reducible refine Kd.C_alloc ?_ _) | (with_reducible refine Kd.C_drewN ?_ _) | (with_reducible refine Kd.C_drew ?_))); (case side2 => exact (Kd.V_reads' HO_8.out).2.1); rintro e w' ⟨rfl, ⟨nd, rfl⟩⟩; (try clear A50)))
             go_ret
             exact ⟨by first | rfl | (simp [errW_none, errW_some] <;> rfl) | (simp [*, errW_none, errW_some] <;> rfl), by repeat (first | (with_reducible first | exact HB.out | apply below_alloc | apply pw_below_drewN | apply below_drew1) | exact HB.out)⟩
           ·replace c48 := Bool.eq_false_iff.mpr c48
            subst c48
            have H1 : (some false) = some r := by rw [if_neg (show ¬ (false = true) by decide)] at H; exact H
            clear H
            have H := H1
            clear H1
            obtain rfl := Option.some.inj H
            obtain ⟨Ao58, co58, eo58⟩ := Kd.V_slice HO_10.out
            subst eo58
            go_wp2_with (first | ((with_reducible refine gate_callee (f := 13) rfl ?_); refine goesL_ (some 111) rfl rfl Try.func13 (by kernel_rfl) rfl #[.slice Ao19 t253.length co19, .slice Ao58 t261.length co58] rfl (by (try simp only [List.map_toArray, List.map_cons, List.map_nil]); first | done | rfl) ?_; (with_reducible refine (peristyleref01_Same.calls kj32 _ _ t253 _ _ t261 true _ ?side1 ?side2 ?side3 ?side4 A45.out).mono ?_); (case side1 => repeat (first | exact (Kd.R_reads' HO_6.out).2.2 | (with_reducible refine Kd.C_alloc ?_ _) | (with_reducible refine Kd.C_drewN ?_ _) | (with_reducible refine Kd.C_drew ?_))); (case side2 => exact (Kd.R_reads' HO_6.out).2.1); (case side3 => repeat (first | exact (Kd.V_reads' HO_10.out).2.2 | (with_reducible refine Kd.C_alloc ?_ _) | (with_reducible refine Kd.C_drewN ?_ _) | (with_reducible refine Kd.C_drew ?_))); (case side4 => exact (Kd.V_reads' HO_10.out).2.1); rintro e w' ⟨rfl, ⟨nd, rfl⟩⟩; refine ⟨_, rfl, ?_⟩; obtain ⟨Ao59, co59, eo59⟩ := Kd.V_slice HO_12.out; subst eo59))
            go_ret
            exact ⟨by first | rfl | (simp [errW_none, errW_some] <;> rfl) | (simp [*, errW_none, errW_some] <;> rfl), by repeat (first | (with_reducible first | exact HB.out | apply below_alloc | apply pw_below_drewN | apply below_drew1) | exact HB.out)⟩
          ·rw [if_neg c47] at H
           have c47b0 : ((t265.length : Int) == 0) = false := beq_eq_false_iff_ne.mpr c47
           have c47b1 : ((t265.length : Int) != 0) = true := bne_iff_ne.mpr c47
           have c47b2 : ¬ (t265 = []) := fun h_ => c47 (by rw [h_]; rfl)
           obtain rfl := Option.some.inj H
           obtain ⟨Ao60, co60, eo60⟩ := Kd.V_slice HO_10.out
           subst eo60
           go_wp2_with (first | ((with_reducible refine gate_callee (f := 13) rfl ?_); refine goesL_ (some 111) rfl rfl Try.func13 (by kernel_rfl) rfl #[.slice Ao19 t253.length co19, .slice Ao60 t261.length co60] rfl (by (try simp only [List.map_toArray, List.map_cons, List.map_nil]); first | done | rfl) ?_; (with_reducible refine (peristyleref01_Same.calls kj32 _ _ t253 _ _ t261 true _ ?side1 ?side2 ?side3 ?side4 A45.out).mono ?_); (case side1 => repeat (first | exact (Kd.R_reads' HO_6.out).2.2 | (with_reducible refine Kd.C_alloc ?_ _) | (with_reducible refine Kd.C_drewN ?_ _) | (with_reducible refine Kd.C_drew ?_))); (case side2 => exact (Kd.R_reads' HO_6.out).2.1); (case side3 => repeat (first | exact (Kd.V_reads' HO_10.out).2.2 | (with_reducible refine Kd.C_alloc ?_ _) | (with_reducible refine Kd.C_drewN ?_ _) | (with_reducible refine Kd.C_drew ?_))); (case side4 => exact (Kd.V_reads' HO_10.out).2.1); rintro e w' ⟨rfl, ⟨nd, rfl⟩⟩; refine ⟨_, rfl, ?_⟩; obtain ⟨Ao61, co61, eo61⟩ := Kd.V_slice HO_12.out; subst eo61))
           go_ret
           exact ⟨by first | rfl | (simp [errW_none, errW_some] <;> rfl) | (simp [*, errW_none, errW_some] <;> rfl), by repeat (first | (with_reducible first | exact HB.out | apply below_alloc | apply pw_below_drewN | apply below_drew1) | exact HB.out)⟩
         ·replace c46 := Bool.eq_false_iff.mpr c46
          subst c46
          have H1 : (some false) = some r := by rw [if_neg (show ¬ (false = true) by decide)] at H; exact H
          clear H
          have H := H1
          clear H1
          obtain rfl := Option.some.inj H
          obtain ⟨Ao62, co62, eo62⟩ := Kd.V_slice HO_10.out
          subst eo62
          go_wp2_with (first | ((with_reducible refine gate_callee (f := 13) rfl ?_); refine goesL_ (some 111) rfl rfl Try.func13 (by kernel_rfl) rfl #[.slice Ao19 t253.length co19, .slice Ao62 t261.length co62] rfl (by (try simp only [List.map_toArray, List.map_cons, List.map_nil]); first | done | rfl) ?_; (with_reducible refine (peristyleref01_Same.calls kj32 _ _ t253 _ _ t261 false _ ?side1 ?side2 ?side3 ?side4 A45.out).mono ?_); (case side1 => repeat (first | exact (Kd.R_reads' HO_6.out).2.2 | (with_reducible refine Kd.C_alloc ?_ _) | (with_reducible refine Kd.C_drewN ?_ _) | (with_reducible refine Kd.C_drew ?_))); (case side2 => exact (Kd.R_reads' HO_6.out).2.1); (case side3 => repeat (first | exact (Kd.V_reads' HO_10.out).2.2 | (with_reducible refine Kd.C_alloc ?_ _) | (with_reducible refine Kd.C_drewN ?_ _) | (with_reducible refine Kd.C_drew ?_))); (case side4 => exact (Kd.V_reads' HO_10.out).2.1); rintro e w' ⟨rfl, ⟨nd, rfl⟩⟩; refine ⟨_, rfl, ?_⟩))
          go_ret
          exact ⟨by first | rfl | (simp [errW_none, errW_some] <;> rfl) | (simp [*, errW_none, errW_some] <;> rfl), by repeat (first | (with_reducible first | exact HB.out | apply below_alloc | apply pw_below_drewN | apply below_drew1) | exact HB.out)⟩

/-- THE ONE PURE STATEMENT of peristylelaw15_WordsNot: yours. -/
def peristylelaw15_WordsNot.Pure : Prop := ∀ (l0 : List (S48)) (a1 : Int), (fun l : List (S48) => l.length ≤ maxLen ∧ l.length * 16 ≤ 140737488351232 ∧ ∀ x ∈ l, (fun x : S48 => (fun z : Int => (Lit.int .i64 z).wf = true) x.f0 ∧ (fun z : Int => (Lit.int .i64 z).wf = true) x.f1) x) l0 → (fun z : Int => (Lit.int .i64 z).wf = true) a1 → ∃ k, peristylelaw15_WordsNot.f k l0 a1 = some true
theorem peristylelaw15_WordsNot.walk (P : peristylelaw15_WordsNot.Pure) (A0 : Option Addr) (c0 : Nat) (l0 : List (S48)) (a1 : Int) (w : World) (hr0 : Kd.C k48 w A0 l0.length l0) (hc0 : l0.length ≤ c0) (w0 : (fun l : List (S48) => l.length ≤ maxLen ∧ l.length * 16 ≤ 140737488351232 ∧ ∀ x ∈ l, (fun x : S48 => (fun z : Int => (Lit.int .i64 z).wf = true) x.f0 ∧ (fun z : Int => (Lit.int .i64 z).wf = true) x.f1) x) l0) (w1 : (fun z : Int => (Lit.int .i64 z).wf = true) a1) :
  Calls Try.prog 6 #[.slice A0 l0.length c0, .int .i64 a1] w fun e w' => e = .returned (.bool true) ∧ Below w.heap.size w w' := by
 obtain ⟨k, h⟩ := P l0 a1 w0 w1
 refine (peristylelaw15_WordsNot.calls k _ _ l0 a1 true w hr0 hc0 h).mono ?_
 rintro e w' ⟨rfl, hd⟩
 exact ⟨rfl, hd⟩

end Go.Proofs.Ytgielanobeclnaa.Print
