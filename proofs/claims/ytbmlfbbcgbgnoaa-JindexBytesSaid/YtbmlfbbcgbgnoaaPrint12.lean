-- Written by the session's own xprint (over the kit's print program): functions, contracts.
import Derived.Test.YtbmlfbbcgbgnoaaPrint0
import Derived.Test.YtbmlfbbcgbgnoaaPrint2
import Derived.Test.YtbmlfbbcgbgnoaaPrint3
import Derived.Test.YtbmlfbbcgbgnoaaPrint5
import Derived.Test.YtbmlfbbcgbgnoaaPrint6
import Derived.Test.YtbmlfbbcgbgnoaaPrint10
import Derived.Test.YtbmlfbbcgbgnoaaPrint11
namespace Go.Proofs.Ytbmlfbbcgbgnoaa.Print
open Go.RowKit Go.Proofs.YtbmlfbbcgbgnoaaW.PrintWords Go.Proofs.YtbmlfbbcgbgnoaaW.PrintLast Go.Proofs.YtbmlfbbcgbgnoaaW.PrintMore
attribute [local go_sem] max2_int min2_int max_two min_two max_three min_three max_four min_four   -- for this text's walks alone
set_option linter.unusedVariables false
set_option linter.unusedSimpArgs false

/-! ### peristylelaw26_JindexBytes: function 4 -/
mutual
def peristylelaw26_JindexBytes.j0 : Nat → List Int → ByteArray → Int → Bool → Option (Bool)
  | 0, _, _, _, _ => none
  | k + 1, x0, x1, x2, x27 => if x27 = true then ((peristylelaw26_awake.f k).bind fun t299 => (some t299)) else ((jindex_Put.f k x0).bind fun bt300 => ((peristyleref26_Put.f k x0).bind fun bt302 => ((jindex_Take.f k x1 x2).bind fun bt304 => ((peristyleref26_Take.f k x1 x2).bind fun bt309 => (if bt300.1.toList = bt302.1.toList then (if bt300.2 = bt302.2 then ((peristyleref01_Same.f k bt304.1 bt309.1).bind fun t314 => (if t314 = true then (if bt304.2.1 = bt309.2.1 then (peristylelaw26_JindexBytes.j1 k x0 x1 bt300.1 bt300.2 (bt304.2.2 != bt309.2.2)) else (peristylelaw26_JindexBytes.j1 k x0 x1 bt300.1 bt300.2 true)) else (peristylelaw26_JindexBytes.j1 k x0 x1 bt300.1 bt300.2 true))) else (peristylelaw26_JindexBytes.j1 k x0 x1 bt300.1 bt300.2 true)) else (peristylelaw26_JindexBytes.j1 k x0 x1 bt300.1 bt300.2 true))))))
def peristylelaw26_JindexBytes.j1 : Nat → List Int → ByteArray → ByteArray → Int → Bool → Option (Bool)
  | 0, _, _, _, _, _ => none
  | k + 1, x0, x1, x7, x8, x76 => if x76 = true then (some false) else (if x7.size + x1.size ≤ 9223372036854775807 then ((jindex_Take.f k (x7 ++ x1) (x0.length : Int)).bind fun bt315 => (if x8 = 0 then (if bt315.2.2 = 0 then (if bt315.2.1 = (x7.size : Int) then ((peristyleref01_Same.f k bt315.1 x0).bind fun t320 => (if t320 = true then ((peristylelaw26_awake.f k).bind fun t321 => (some t321)) else (some false))) else (some false)) else (some false)) else ((peristylelaw26_awake.f k).bind fun t322 => (some t322)))) else (none))
end
def peristylelaw26_JindexBytes.f (k : Nat) (l0 : List Int) (a1 : ByteArray) (a2 : Int) : Option (Bool) := if (l0.length : Int) > 100 then (peristylelaw26_JindexBytes.j0 k l0 a1 a2 true) else (peristylelaw26_JindexBytes.j0 k l0 a1 a2 (decide ((a1.size : Int) > 256)))
theorem peristylelaw26_JindexBytes.j0_succ (k : Nat) (x0 : List Int) (x1 : ByteArray) (x2 : Int) (x27 : Bool) : peristylelaw26_JindexBytes.j0 (k + 1) x0 x1 x2 x27 = (if x27 = true then ((peristylelaw26_awake.f k).bind fun t299 => (some t299)) else ((jindex_Put.f k x0).bind fun bt300 => ((peristyleref26_Put.f k x0).bind fun bt302 => ((jindex_Take.f k x1 x2).bind fun bt304 => ((peristyleref26_Take.f k x1 x2).bind fun bt309 => (if bt300.1.toList = bt302.1.toList then (if bt300.2 = bt302.2 then ((peristyleref01_Same.f k bt304.1 bt309.1).bind fun t314 => (if t314 = true then (if bt304.2.1 = bt309.2.1 then (peristylelaw26_JindexBytes.j1 k x0 x1 bt300.1 bt300.2 (bt304.2.2 != bt309.2.2)) else (peristylelaw26_JindexBytes.j1 k x0 x1 bt300.1 bt300.2 true)) else (peristylelaw26_JindexBytes.j1 k x0 x1 bt300.1 bt300.2 true))) else (peristylelaw26_JindexBytes.j1 k x0 x1 bt300.1 bt300.2 true)) else (peristylelaw26_JindexBytes.j1 k x0 x1 bt300.1 bt300.2 true))))))) := by
  simp only [peristylelaw26_JindexBytes.j0]
theorem peristylelaw26_JindexBytes.j1_succ (k : Nat) (x0 : List Int) (x1 : ByteArray) (x7 : ByteArray) (x8 : Int) (x76 : Bool) : peristylelaw26_JindexBytes.j1 (k + 1) x0 x1 x7 x8 x76 = (if x76 = true then (some false) else (if x7.size + x1.size ≤ 9223372036854775807 then ((jindex_Take.f k (x7 ++ x1) (x0.length : Int)).bind fun bt315 => (if x8 = 0 then (if bt315.2.2 = 0 then (if bt315.2.1 = (x7.size : Int) then ((peristyleref01_Same.f k bt315.1 x0).bind fun t320 => (if t320 = true then ((peristylelaw26_awake.f k).bind fun t321 => (some t321)) else (some false))) else (some false)) else (some false)) else ((peristylelaw26_awake.f k).bind fun t322 => (some t322)))) else (none))) := by
  simp only [peristylelaw26_JindexBytes.j1]
theorem peristylelaw26_JindexBytes.mono_l : ∀ k, (∀ y0 y1 y2 y3, LeO (peristylelaw26_JindexBytes.j0 k y0 y1 y2 y3) (peristylelaw26_JindexBytes.j0 (k + 1) y0 y1 y2 y3)) ∧ (∀ y0 y1 y2 y3 y4, LeO (peristylelaw26_JindexBytes.j1 k y0 y1 y2 y3 y4) (peristylelaw26_JindexBytes.j1 (k + 1) y0 y1 y2 y3 y4))
  | 0 => ⟨fun _ _ _ _ r h => by simp [peristylelaw26_JindexBytes.j0] at h, fun _ _ _ _ _ r h => by simp [peristylelaw26_JindexBytes.j1] at h⟩
  | k + 1 => by
    obtain ⟨ih0, ih1⟩ := peristylelaw26_JindexBytes.mono_l k
    refine ⟨?_, ?_⟩
    · intro y0 y1 y2 y3
      unfold peristylelaw26_JindexBytes.j0
      repeat' first
      | (with_reducible exact ih0 _ _ _ _)
      | (with_reducible exact ih1 _ _ _ _ _)
      | (with_reducible exact jindex_Put.mono _ _)
      | (with_reducible exact jindex_Take.mono _ _ _)
      | (with_reducible exact peristylelaw26_awake.mono _)
      | (with_reducible exact peristyleref01_Same.mono _ _ _)
      | (with_reducible exact peristyleref26_Put.mono _ _)
      | (with_reducible exact peristyleref26_Take.mono _ _ _)
      | (with_reducible exact LeO.refl _)
      | (with_reducible exact LeO.none _)
      | (with_reducible refine LeO.ite ?_ ?_)
      | (with_reducible refine LeO.bind ?_ (fun _ => ?_))
      | exact ih0 _ _ _ _
      | exact ih1 _ _ _ _ _
      | exact jindex_Put.mono _ _
      | exact jindex_Take.mono _ _ _
      | exact peristylelaw26_awake.mono _
      | exact peristyleref01_Same.mono _ _ _
      | exact peristyleref26_Put.mono _ _
      | exact peristyleref26_Take.mono _ _ _
      | exact LeO.none _
      | refine LeO.ite ?_ ?_
      | refine LeO.bind ?_ (fun _ => ?_)
    · intro y0 y1 y2 y3 y4
      unfold peristylelaw26_JindexBytes.j1
      repeat' first
      | (with_reducible exact ih0 _ _ _ _)
      | (with_reducible exact ih1 _ _ _ _ _)
      | (with_reducible exact jindex_Put.mono _ _)
      | (with_reducible exact jindex_Take.mono _ _ _)
      | (with_reducible exact peristylelaw26_awake.mono _)
      | (with_reducible exact peristyleref01_Same.mono _ _ _)
      | (with_reducible exact peristyleref26_Put.mono _ _)
      | (with_reducible exact peristyleref26_Take.mono _ _ _)
      | (with_reducible exact LeO.refl _)
      | (with_reducible exact LeO.none _)
      | (with_reducible refine LeO.ite ?_ ?_)
      | (with_reducible refine LeO.bind ?_ (fun _ => ?_))
      | exact ih0 _ _ _ _
      | exact ih1 _ _ _ _ _
      | exact jindex_Put.mono _ _
      | exact jindex_Take.mono _ _ _
      | exact peristylelaw26_awake.mono _
      | exact peristyleref01_Same.mono _ _ _
      | exact peristyleref26_Put.mono _ _
      | exact peristyleref26_Take.mono _ _ _
      | exact LeO.none _
      | refine LeO.ite ?_ ?_
      | refine LeO.bind ?_ (fun _ => ?_)
theorem peristylelaw26_JindexBytes.mono : ∀ a0 a1 a2 k, LeO (peristylelaw26_JindexBytes.f k a0 a1 a2) (peristylelaw26_JindexBytes.f (k + 1) a0 a1 a2) := by
  intro a0 a1 a2 k
  obtain ⟨ih0, ih1⟩ := peristylelaw26_JindexBytes.mono_l k
  unfold peristylelaw26_JindexBytes.f
  repeat' first
      | (with_reducible exact ih0 _ _ _ _)
      | (with_reducible exact ih1 _ _ _ _ _)
      | (with_reducible exact jindex_Put.mono _ _)
      | (with_reducible exact jindex_Take.mono _ _ _)
      | (with_reducible exact peristylelaw26_awake.mono _)
      | (with_reducible exact peristyleref01_Same.mono _ _ _)
      | (with_reducible exact peristyleref26_Put.mono _ _)
      | (with_reducible exact peristyleref26_Take.mono _ _ _)
      | (with_reducible exact LeO.refl _)
      | (with_reducible exact LeO.none _)
      | (with_reducible refine LeO.ite ?_ ?_)
      | (with_reducible refine LeO.bind ?_ (fun _ => ?_))
      | exact ih0 _ _ _ _
      | exact ih1 _ _ _ _ _
      | exact jindex_Put.mono _ _
      | exact jindex_Take.mono _ _ _
      | exact peristylelaw26_awake.mono _
      | exact peristyleref01_Same.mono _ _ _
      | exact peristyleref26_Put.mono _ _
      | exact peristyleref26_Take.mono _ _ _
      | exact LeO.none _
      | refine LeO.ite ?_ ?_
      | refine LeO.bind ?_ (fun _ => ?_)
set_option maxHeartbeats 8000000 in
set_option maxRecDepth 100000 in
theorem peristylelaw26_JindexBytes.calls (k : Nat) (A0 : Option Addr) (c0 : Nat) (l0 : List Int) (a1 : ByteArray) (a2 : Int) (r : Bool) (w : World) (hr0 : Kd.C (Kd.int .i64) w A0 l0.length l0) (hc0 : l0.length ≤ c0) (h : peristylelaw26_JindexBytes.f k l0 a1 a2 = some r) :
    Calls Try.prog 4 #[.slice A0 l0.length c0, .string a1, .int .i64 a2] w fun e w' => e = .returned (.bool r) ∧ Below w.heap.size w w' := by
  have HR0 := Aside0.mk hr0
  have HC0 := Aside0.mk hc0
  clear hr0 hc0
  have HB := Aside0.mk (Below.refl w.heap.size w)
  have H : (if (l0.length : Int) > 100 then (peristylelaw26_JindexBytes.j0 k l0 a1 a2 true) else (peristylelaw26_JindexBytes.j0 k l0 a1 a2 (decide ((a1.size : Int) > 256)))) = some r := h
  clear h
  have HC4 := Aside0.mk H
  clear H
  go_enter Try.func4, Try.ntmps4
  go_upto_region 1 with (fail)
  go_cut [27] (fun v27 wc => ∃ (kq : Nat) (x27_3 : Bool), v27 = .bool x27_3 ∧ Aside0 (peristylelaw26_JindexBytes.j0 kq l0 a1 a2 x27_3 = some r) ∧ Aside0 (kq ≤ k) ∧ Aside0 (Below w.heap.size w wc))
  case first =>
    have H := HC4.out
    clear HC4
    by_cases c5 : (l0.length : Int) > 100
    · rw [if_pos c5] at H
      have c5b0 : decide (100 < (l0.length : Int)) = true := decide_eq_true c5
      have c5b1 : decide (100 < l0.length) = true := decide_eq_true (by omega)
      clear c5
      (first | rw [c5b0] | (simp only [i64_w, i32_w]; rw [c5b0]) | skip)
      have H' := Aside0.mk H
      clear H
      go_wp2
      go_meet
      case rel => exact ⟨_, (true), (by first | rfl | (simp; done) | (simp [*]; done)), H', ⟨by first | omega | exact Nat.le_refl _⟩, ⟨by repeat (first | (with_reducible first | exact HB.out | apply below_alloc | apply pw_below_drewN | apply below_drew1) | exact HB.out)⟩⟩
    · rw [if_neg c5] at H
      have c5b0 : decide (100 < (l0.length : Int)) = false := decide_eq_false c5
      have c5b1 : decide (100 < l0.length) = false := decide_eq_false (by omega)
      clear c5
      (first | rw [c5b0] | (simp only [i64_w, i32_w]; rw [c5b0]) | skip)
      have H' := Aside0.mk H
      clear H
      go_wp2
      go_meet
      case rel => exact ⟨_, (decide ((a1.size : Int) > 256)), (by first | rfl | (simp; done) | (simp [*]; done)), H', ⟨by first | omega | exact Nat.le_refl _⟩, ⟨by repeat (first | (with_reducible first | exact HB.out | apply below_alloc | apply pw_below_drewN | apply below_drew1) | exact HB.out)⟩⟩
  case rest =>
    clear HC4
    try clear p2
    try clear c4
    try clear c5
    try clear c5b0
    try clear c5b1
    obtain ⟨kq, x27_3, rfl, HA, HJ3, HB⟩ := hcut
    cases kq with
    | zero => exact absurd HA.out (by simp [peristylelaw26_JindexBytes.j0])
    | succ kj3 =>
      have H := HA.out
      clear HA
      simp only [peristylelaw26_JindexBytes.j0] at H
      by_cases c6 : x27_3 = true
      · subst c6
        have H1 : ((peristylelaw26_awake.f kj3).bind fun t299 => (some t299)) = some r := by rw [if_pos rfl] at H; exact H
        clear H
        have H := H1
        clear H1
        replace H := Option.bind_eq_some_iff.mp H
        obtain ⟨t299, A70, H⟩ := H
        replace H : (some t299) = some r := H
        have A7 := Aside0.mk A70
        clear A70
        obtain rfl := Option.some.inj H
        go_wp2_with (first | ((with_reducible refine gate_callee (f := 7) rfl ?_); refine goesL_ (some 28) rfl rfl Try.func7 (by kernel_rfl) rfl #[] rfl (by (try simp only [List.map_toArray, List.map_cons, List.map_nil]); first | done | rfl | (simp only [List.length_drop, List.length_take]; rfl)) ?_; (with_reducible refine (peristylelaw26_awake.calls kj3  t299 _ A7.out).mono ?_); rintro e w8 ⟨rfl, hb⟩; refine ⟨_, rfl, ?_⟩; have n0_ := Aside0.mk (below_step (by repeat (first | (with_reducible first | exact HB.out | apply below_alloc | apply pw_below_drewN | apply below_drew1) | exact HB.out)) hb); clear HB; have HB := n0_; clear n0_; (try clear hb); (try clear hb2); (try clear hk); (try clear hi)))
        go_ret
        exact ⟨by first | rfl | (simp [errW_none, errW_some] <;> rfl) | (simp [*, errW_none, errW_some] <;> rfl), by repeat (first | (with_reducible first | exact HB.out | apply below_alloc | apply pw_below_drewN | apply below_drew1) | exact HB.out)⟩
      · replace c6 := Bool.eq_false_iff.mpr c6
        subst c6
        have H1 : ((jindex_Put.f kj3 l0).bind fun bt300 => ((peristyleref26_Put.f kj3 l0).bind fun bt302 => ((jindex_Take.f kj3 a1 a2).bind fun bt304 => ((peristyleref26_Take.f kj3 a1 a2).bind fun bt309 => (if bt300.1.toList = bt302.1.toList then (if bt300.2 = bt302.2 then ((peristyleref01_Same.f kj3 bt304.1 bt309.1).bind fun t314 => (if t314 = true then (if bt304.2.1 = bt309.2.1 then (peristylelaw26_JindexBytes.j1 kj3 l0 a1 bt300.1 bt300.2 (bt304.2.2 != bt309.2.2)) else (peristylelaw26_JindexBytes.j1 kj3 l0 a1 bt300.1 bt300.2 true)) else (peristylelaw26_JindexBytes.j1 kj3 l0 a1 bt300.1 bt300.2 true))) else (peristylelaw26_JindexBytes.j1 kj3 l0 a1 bt300.1 bt300.2 true)) else (peristylelaw26_JindexBytes.j1 kj3 l0 a1 bt300.1 bt300.2 true)))))) = some r := by rw [if_neg (show ¬ (false = true) by decide)] at H; exact H
        clear H
        have H := H1
        clear H1
        replace H := Option.bind_eq_some_iff.mp H
        obtain ⟨⟨t300, t301⟩, A90, H⟩ := H
        replace H : ((peristyleref26_Put.f kj3 l0).bind fun bt302 => ((jindex_Take.f kj3 a1 a2).bind fun bt304 => ((peristyleref26_Take.f kj3 a1 a2).bind fun bt309 => (if t300.toList = bt302.1.toList then (if t301 = bt302.2 then ((peristyleref01_Same.f kj3 bt304.1 bt309.1).bind fun t314 => (if t314 = true then (if bt304.2.1 = bt309.2.1 then (peristylelaw26_JindexBytes.j1 kj3 l0 a1 t300 t301 (bt304.2.2 != bt309.2.2)) else (peristylelaw26_JindexBytes.j1 kj3 l0 a1 t300 t301 true)) else (peristylelaw26_JindexBytes.j1 kj3 l0 a1 t300 t301 true))) else (peristylelaw26_JindexBytes.j1 kj3 l0 a1 t300 t301 true)) else (peristylelaw26_JindexBytes.j1 kj3 l0 a1 t300 t301 true))))) = some r := H
        have A9 := Aside0.mk A90
        clear A90
        replace H := Option.bind_eq_some_iff.mp H
        obtain ⟨⟨t302, t303⟩, A100, H⟩ := H
        replace H : ((jindex_Take.f kj3 a1 a2).bind fun bt304 => ((peristyleref26_Take.f kj3 a1 a2).bind fun bt309 => (if t300.toList = t302.toList then (if t301 = t303 then ((peristyleref01_Same.f kj3 bt304.1 bt309.1).bind fun t314 => (if t314 = true then (if bt304.2.1 = bt309.2.1 then (peristylelaw26_JindexBytes.j1 kj3 l0 a1 t300 t301 (bt304.2.2 != bt309.2.2)) else (peristylelaw26_JindexBytes.j1 kj3 l0 a1 t300 t301 true)) else (peristylelaw26_JindexBytes.j1 kj3 l0 a1 t300 t301 true))) else (peristylelaw26_JindexBytes.j1 kj3 l0 a1 t300 t301 true)) else (peristylelaw26_JindexBytes.j1 kj3 l0 a1 t300 t301 true)))) = some r := H
        have A10 := Aside0.mk A100
        clear A100
        replace H := Option.bind_eq_some_iff.mp H
        obtain ⟨⟨t304, t305, t306⟩, A110, H⟩ := H
        replace H : ((peristyleref26_Take.f kj3 a1 a2).bind fun bt309 => (if t300.toList = t302.toList then (if t301 = t303 then ((peristyleref01_Same.f kj3 t304 bt309.1).bind fun t314 => (if t314 = true then (if t305 = bt309.2.1 then (peristylelaw26_JindexBytes.j1 kj3 l0 a1 t300 t301 (t306 != bt309.2.2)) else (peristylelaw26_JindexBytes.j1 kj3 l0 a1 t300 t301 true)) else (peristylelaw26_JindexBytes.j1 kj3 l0 a1 t300 t301 true))) else (peristylelaw26_JindexBytes.j1 kj3 l0 a1 t300 t301 true)) else (peristylelaw26_JindexBytes.j1 kj3 l0 a1 t300 t301 true))) = some r := H
        have A11 := Aside0.mk A110
        clear A110
        replace H := Option.bind_eq_some_iff.mp H
        obtain ⟨⟨t309, t310, t311⟩, A120, H⟩ := H
        replace H : (if t300.toList = t302.toList then (if t301 = t303 then ((peristyleref01_Same.f kj3 t304 t309).bind fun t314 => (if t314 = true then (if t305 = t310 then (peristylelaw26_JindexBytes.j1 kj3 l0 a1 t300 t301 (t306 != t311)) else (peristylelaw26_JindexBytes.j1 kj3 l0 a1 t300 t301 true)) else (peristylelaw26_JindexBytes.j1 kj3 l0 a1 t300 t301 true))) else (peristylelaw26_JindexBytes.j1 kj3 l0 a1 t300 t301 true)) else (peristylelaw26_JindexBytes.j1 kj3 l0 a1 t300 t301 true)) = some r := H
        have A12 := Aside0.mk A120
        clear A120
        have HC13 := Aside0.mk H
        clear H
        go_upto_region 7 with (first | ((with_reducible refine gate_callee (f := 15) rfl ?_); refine goesL_ (some 31) rfl rfl Try.func15 (by kernel_rfl) rfl #[.slice A0 l0.length c0] rfl (by (try simp only [List.map_toArray, List.map_cons, List.map_nil]); first | done | rfl | (simp only [List.length_drop, List.length_take]; rfl)) ?_; (with_reducible refine (jindex_Put.calls kj3 _ _ l0 t300 t301 _ ?side1 ?side2 A9.out).mono ?_); (case side1 => repeat (first | exact (Kd.C_below HR0.out HB.out) | (with_reducible refine Kd.C_alloc ?_ _) | (with_reducible refine Kd.C_drewN ?_ _) | (with_reducible refine Kd.C_drew ?_))); (case side2 => exact HC0.out); rintro e w14 ⟨rfl, hb⟩; refine ⟨_, rfl, ?_⟩; have n0_ := Aside0.mk (below_step (by repeat (first | (with_reducible first | exact HB.out | apply below_alloc | apply pw_below_drewN | apply below_drew1) | exact HB.out)) hb); clear HB; have HB := n0_; clear n0_; (try clear hb); (try clear hb2); (try clear hk); (try clear hi)) | ((with_reducible refine gate_callee (f := 16) rfl ?_); refine goesL_ (some 36) rfl rfl Try.func16 (by kernel_rfl) rfl #[.slice A0 l0.length c0] rfl (by (try simp only [List.map_toArray, List.map_cons, List.map_nil]); first | done | rfl | (simp only [List.length_drop, List.length_take]; rfl)) ?_; (with_reducible refine (peristyleref26_Put.calls kj3 _ _ l0 t302 t303 _ ?side1 ?side2 A10.out).mono ?_); (case side1 => repeat (first | exact (Kd.C_below HR0.out HB.out) | (with_reducible refine Kd.C_alloc ?_ _) | (with_reducible refine Kd.C_drewN ?_ _) | (with_reducible refine Kd.C_drew ?_))); (case side2 => exact HC0.out); rintro e w15 ⟨rfl, hb⟩; refine ⟨_, rfl, ?_⟩; have n0_ := Aside0.mk (below_step (by repeat (first | (with_reducible first | exact HB.out | apply below_alloc | apply pw_below_drewN | apply below_drew1) | exact HB.out)) hb); clear HB; have HB := n0_; clear n0_; (try clear hb); (try clear hb2); (try clear hk); (try clear hi)) | ((with_reducible refine gate_callee (f := 17) rfl ?_); refine goesL_ (some 42) rfl rfl Try.func17 (by kernel_rfl) rfl #[.string a1, .int .i64 a2] rfl (by (try simp only [List.map_toArray, List.map_cons, List.map_nil]); first | done | rfl | (simp only [List.length_drop, List.length_take]; rfl)) ?_; (with_reducible refine (jindex_Take.calls kj3 a1 a2 t304 t305 t306 _ A11.out).mono ?_); rintro e w16 ⟨v307, rfl, ho0, hb⟩; refine ⟨_, rfl, ?_⟩; have n0_ := Aside0.mk (Kd.R_lower ho0 (below_size (by repeat (first | (with_reducible first | exact HB.out | apply below_alloc | apply pw_below_drewN | apply below_drew1) | exact HB.out)))); have n1_ := Aside0.mk (below_step (by repeat (first | (with_reducible first | exact HB.out | apply below_alloc | apply pw_below_drewN | apply below_drew1) | exact HB.out)) hb); clear HB; have HO308 := n0_; have HB := n1_; clear n0_ n1_; (try clear hb); (try clear hb2); (try clear hk); (try clear hi); (try clear ho0)) | ((with_reducible refine gate_callee (f := 18) rfl ?_); refine goesL_ (some 49) rfl rfl Try.func18 (by kernel_rfl) rfl #[.string a1, .int .i64 a2] rfl (by (try simp only [List.map_toArray, List.map_cons, List.map_nil]); first | done | rfl | (simp only [List.length_drop, List.length_take]; rfl)) ?_; (with_reducible refine (peristyleref26_Take.calls kj3 a1 a2 t309 t310 t311 _ A12.out).mono ?_); rintro e w17 ⟨v312, rfl, ho0, hb⟩; refine ⟨_, rfl, ?_⟩; have n0_ := Aside0.mk (Kd.R_elder' (by (with_reducible repeat (first | apply Kd.R_alloc | apply Kd.R_drewN | apply Kd.R_drew)); exact HO308.out) (Kd.R_base ho0) hb); have n1_ := Aside0.mk (Kd.R_lower (Kd.R_new' ho0 (Kd.R_lt (by (with_reducible repeat (first | apply Kd.R_alloc | apply Kd.R_drewN | apply Kd.R_drew)); exact HO308.out))) (below_size (by repeat (first | (with_reducible first | exact HB.out | apply below_alloc | apply pw_below_drewN | apply below_drew1) | exact HB.out)))); have n2_ := Aside0.mk (below_step (by repeat (first | (with_reducible first | exact HB.out | apply below_alloc | apply pw_below_drewN | apply below_drew1) | exact HB.out)) hb); clear HO308; clear HB; have HO308 := n0_; have HO313 := n1_; have HB := n2_; clear n0_ n1_ n2_; (try clear hb); (try clear hb2); (try clear hk); (try clear hi); (try clear ho0)))
        (try simp only [Act.put, List.setIfInBounds_toArray, List.set_cons_zero, List.set_cons_succ])
        go_cut [76] (fun v76 wc => ∃ (kq : Nat) (x76_12 : Bool), v76 = .bool x76_12 ∧ Aside0 (peristylelaw26_JindexBytes.j1 kq l0 a1 t300 t301 x76_12 = some r) ∧ Aside0 (kq ≤ kj3) ∧ Aside0 (Below w.heap.size w wc))
        case first =>
          have H := HC13.out
          clear HC13
          by_cases c18 : t300.toList = t302.toList
          · rw [if_pos c18] at H
            have c18b0 : (t300.toList == t302.toList) = true := beq_iff_eq.mpr c18
            have c18b1 : (t300.toList != t302.toList) = false := bne_eq_false_iff_eq.mpr c18
            clear c18
            (first | rw [c18b0] | (simp only [i64_w, i32_w]; rw [c18b0]) | skip)
            by_cases c19 : t301 = t303
            · rw [if_pos c19] at H
              have c19b0 : (t301 == t303) = true := beq_iff_eq.mpr c19
              have c19b1 : (t301 != t303) = false := bne_eq_false_iff_eq.mpr c19
              clear c19
              replace H := Option.bind_eq_some_iff.mp H
              obtain ⟨t314, A200, H⟩ := H
              replace H : (if t314 = true then (if t305 = t310 then (peristylelaw26_JindexBytes.j1 kj3 l0 a1 t300 t301 (t306 != t311)) else (peristylelaw26_JindexBytes.j1 kj3 l0 a1 t300 t301 true)) else (peristylelaw26_JindexBytes.j1 kj3 l0 a1 t300 t301 true)) = some r := H
              have A20 := Aside0.mk A200
              clear A200
              by_cases c21 : t314 = true
              · subst c21
                have H1 : (if t305 = t310 then (peristylelaw26_JindexBytes.j1 kj3 l0 a1 t300 t301 (t306 != t311)) else (peristylelaw26_JindexBytes.j1 kj3 l0 a1 t300 t301 true)) = some r := by rw [if_pos rfl] at H; exact H
                clear H
                have H := H1
                clear H1
                by_cases c22 : t305 = t310
                · rw [if_pos c22] at H
                  have c22b0 : (t305 == t310) = true := beq_iff_eq.mpr c22
                  have c22b1 : (t305 != t310) = false := bne_eq_false_iff_eq.mpr c22
                  clear c22
                  have H' := Aside0.mk H
                  clear H
                  obtain ⟨Ao23, co23, eo23⟩ := Kd.R_slice HO308.out
                  subst eo23
                  obtain ⟨Ao24, co24, eo24⟩ := Kd.R_slice HO313.out
                  subst eo24
                  go_wp2_with (first | (go_at_call 12; (with_reducible refine (peristyleref01_Same.calls kj3 _ _ t304 _ _ t309 true _ ?side1 ?side2 ?side3 ?side4 A20.out).mono ?_); (case side1 => repeat (first | exact (Kd.R_reads' HO308.out).2.2 | (with_reducible refine Kd.C_alloc ?_ _) | (with_reducible refine Kd.C_drewN ?_ _) | (with_reducible refine Kd.C_drew ?_))); (case side2 => exact (Kd.R_reads' HO308.out).2.1); (case side3 => repeat (first | exact (Kd.R_reads' HO313.out).2.2 | (with_reducible refine Kd.C_alloc ?_ _) | (with_reducible refine Kd.C_drewN ?_ _) | (with_reducible refine Kd.C_drew ?_))); (case side4 => exact (Kd.R_reads' HO313.out).2.1); rintro e w' ⟨rfl, ⟨nd, rfl⟩⟩; (try clear A20)))
                  go_meet
                  case rel => exact ⟨_, ((t306 != t311)), (by first | rfl | (simp; done) | (simp [*]; done)), H', ⟨by have := HJ3.out; first | omega | exact Nat.le_refl _⟩, ⟨by repeat (first | (with_reducible first | exact HB.out | apply below_alloc | apply pw_below_drewN | apply below_drew1) | exact HB.out)⟩⟩
                · rw [if_neg c22] at H
                  have c22b0 : (t305 == t310) = false := beq_eq_false_iff_ne.mpr c22
                  have c22b1 : (t305 != t310) = true := bne_iff_ne.mpr c22
                  have H' := Aside0.mk H
                  clear H
                  obtain ⟨Ao25, co25, eo25⟩ := Kd.R_slice HO308.out
                  subst eo25
                  obtain ⟨Ao26, co26, eo26⟩ := Kd.R_slice HO313.out
                  subst eo26
                  go_wp2_with (first | (go_at_call 12; (with_reducible refine (peristyleref01_Same.calls kj3 _ _ t304 _ _ t309 true _ ?side1 ?side2 ?side3 ?side4 A20.out).mono ?_); (case side1 => repeat (first | exact (Kd.R_reads' HO308.out).2.2 | (with_reducible refine Kd.C_alloc ?_ _) | (with_reducible refine Kd.C_drewN ?_ _) | (with_reducible refine Kd.C_drew ?_))); (case side2 => exact (Kd.R_reads' HO308.out).2.1); (case side3 => repeat (first | exact (Kd.R_reads' HO313.out).2.2 | (with_reducible refine Kd.C_alloc ?_ _) | (with_reducible refine Kd.C_drewN ?_ _) | (with_reducible refine Kd.C_drew ?_))); (case side4 => exact (Kd.R_reads' HO313.out).2.1); rintro e w' ⟨rfl, ⟨nd, rfl⟩⟩; (try clear A20)))
                  go_meet
                  case rel => exact ⟨_, (true), (by first | rfl | (simp; done) | (simp [*]; done)), H', ⟨by have := HJ3.out; first | omega | exact Nat.le_refl _⟩, ⟨by repeat (first | (with_reducible first | exact HB.out | apply below_alloc | apply pw_below_drewN | apply below_drew1) | exact HB.out)⟩⟩
              · replace c21 := Bool.eq_false_iff.mpr c21
                subst c21
                have H1 : (peristylelaw26_JindexBytes.j1 kj3 l0 a1 t300 t301 true) = some r := by rw [if_neg (show ¬ (false = true) by decide)] at H; exact H
                clear H
                have H := H1
                clear H1
                have H' := Aside0.mk H
                clear H
                obtain ⟨Ao27, co27, eo27⟩ := Kd.R_slice HO308.out
                subst eo27
                obtain ⟨Ao28, co28, eo28⟩ := Kd.R_slice HO313.out
                subst eo28
                go_wp2_with (first | (go_at_call 12; (with_reducible refine (peristyleref01_Same.calls kj3 _ _ t304 _ _ t309 false _ ?side1 ?side2 ?side3 ?side4 A20.out).mono ?_); (case side1 => repeat (first | exact (Kd.R_reads' HO308.out).2.2 | (with_reducible refine Kd.C_alloc ?_ _) | (with_reducible refine Kd.C_drewN ?_ _) | (with_reducible refine Kd.C_drew ?_))); (case side2 => exact (Kd.R_reads' HO308.out).2.1); (case side3 => repeat (first | exact (Kd.R_reads' HO313.out).2.2 | (with_reducible refine Kd.C_alloc ?_ _) | (with_reducible refine Kd.C_drewN ?_ _) | (with_reducible refine Kd.C_drew ?_))); (case side4 => exact (Kd.R_reads' HO313.out).2.1); rintro e w' ⟨rfl, ⟨nd, rfl⟩⟩; (try clear A20)))
                go_meet
                case rel => exact ⟨_, (true), (by first | rfl | (simp; done) | (simp [*]; done)), H', ⟨by have := HJ3.out; first | omega | exact Nat.le_refl _⟩, ⟨by repeat (first | (with_reducible first | exact HB.out | apply below_alloc | apply pw_below_drewN | apply below_drew1) | exact HB.out)⟩⟩
            · rw [if_neg c19] at H
              have c19b0 : (t301 == t303) = false := beq_eq_false_iff_ne.mpr c19
              have c19b1 : (t301 != t303) = true := bne_iff_ne.mpr c19
              have H' := Aside0.mk H
              clear H
              go_wp2
              go_meet
              case rel => exact ⟨_, (true), (by first | rfl | (simp; done) | (simp [*]; done)), H', ⟨by have := HJ3.out; first | omega | exact Nat.le_refl _⟩, ⟨by repeat (first | (with_reducible first | exact HB.out | apply below_alloc | apply pw_below_drewN | apply below_drew1) | exact HB.out)⟩⟩
          · rw [if_neg c18] at H
            have c18b0 : (t300.toList == t302.toList) = false := beq_eq_false_iff_ne.mpr c18
            have c18b1 : (t300.toList != t302.toList) = true := bne_iff_ne.mpr c18
            (first | rw [c18b0] | (simp only [i64_w, i32_w]; rw [c18b0]) | skip)
            have H' := Aside0.mk H
            clear H
            go_wp2
            go_meet
            case rel => exact ⟨_, (true), (by first | rfl | (simp; done) | (simp [*]; done)), H', ⟨by have := HJ3.out; first | omega | exact Nat.le_refl _⟩, ⟨by repeat (first | (with_reducible first | exact HB.out | apply below_alloc | apply pw_below_drewN | apply below_drew1) | exact HB.out)⟩⟩
        case rest =>
          clear HC13
          try clear c1
          try clear c2
          try clear p2
          try clear c4
          try clear c5
          try clear c5b0
          try clear c5b1
          try clear c6
          try clear c7
          try clear c15
          try clear c16
          try clear c17
          try clear c18
          try clear c18b0
          try clear c18b1
          try clear c19
          try clear c19b0
          try clear c19b1
          try clear c21
          try clear c22
          try clear c22b0
          try clear c22b1
          try clear p2
          obtain ⟨kq, x76_12, rfl, HA, HJ12, HB⟩ := hcut
          cases kq with
          | zero => exact absurd HA.out (by simp [peristylelaw26_JindexBytes.j1])
          | succ kj12 =>
            have H := HA.out
            clear HA
            simp only [peristylelaw26_JindexBytes.j1] at H
            by_cases c29 : x76_12 = true
            · subst c29
              have H1 : (some false) = some r := by rw [if_pos rfl] at H; exact H
              clear H
              have H := H1
              clear H1
              obtain rfl := Option.some.inj H
              go_wp2
              go_ret
              exact ⟨by first | rfl | (simp [errW_none, errW_some] <;> rfl) | (simp [*, errW_none, errW_some] <;> rfl), by repeat (first | (with_reducible first | exact HB.out | apply below_alloc | apply pw_below_drewN | apply below_drew1) | exact HB.out)⟩
            · replace c29 := Bool.eq_false_iff.mpr c29
              subst c29
              have H1 : (if t300.size + a1.size ≤ 9223372036854775807 then ((jindex_Take.f kj12 (t300 ++ a1) (l0.length : Int)).bind fun bt315 => (if t301 = 0 then (if bt315.2.2 = 0 then (if bt315.2.1 = (t300.size : Int) then ((peristyleref01_Same.f kj12 bt315.1 l0).bind fun t320 => (if t320 = true then ((peristylelaw26_awake.f kj12).bind fun t321 => (some t321)) else (some false))) else (some false)) else (some false)) else ((peristylelaw26_awake.f kj12).bind fun t322 => (some t322)))) else (none)) = some r := by rw [if_neg (show ¬ (false = true) by decide)] at H; exact H
              clear H
              have H := H1
              clear H1
              by_cases c30 : t300.size + a1.size ≤ 9223372036854775807
              · rw [if_pos c30] at H
                have c30b0 := eq_true c30
                have c30b1 : decide (t300.size + a1.size ≤ 9223372036854775807) = true := decide_eq_true c30
                try have c30b2 : (9223372036854775807 < t300.size + a1.size) = False := eq_false (Nat.not_lt.2 c30)
                replace H := Option.bind_eq_some_iff.mp H
                obtain ⟨⟨t315, t316, t317⟩, A310, H⟩ := H
                replace H : (if t301 = 0 then (if t317 = 0 then (if t316 = (t300.size : Int) then ((peristyleref01_Same.f kj12 t315 l0).bind fun t320 => (if t320 = true then ((peristylelaw26_awake.f kj12).bind fun t321 => (some t321)) else (some false))) else (some false)) else (some false)) else ((peristylelaw26_awake.f kj12).bind fun t322 => (some t322))) = some r := H
                have A31 := Aside0.mk A310
                clear A310
                by_cases c32 : t301 = 0
                · rw [if_pos c32] at H
                  have c32b0 : (t301 == 0) = true := beq_iff_eq.mpr c32
                  have c32b1 : (t301 != 0) = false := bne_eq_false_iff_eq.mpr c32
                  clear c32
                  by_cases c33 : t317 = 0
                  · rw [if_pos c33] at H
                    have c33b0 : (t317 == 0) = true := beq_iff_eq.mpr c33
                    have c33b1 : (t317 != 0) = false := bne_eq_false_iff_eq.mpr c33
                    clear c33
                    by_cases c34 : t316 = (t300.size : Int)
                    · rw [if_pos c34] at H
                      have c34b0 : (t316 == (t300.size : Int)) = true := beq_iff_eq.mpr c34
                      have c34b1 : (t316 != (t300.size : Int)) = false := bne_eq_false_iff_eq.mpr c34
                      clear c34
                      replace H := Option.bind_eq_some_iff.mp H
                      obtain ⟨t320, A350, H⟩ := H
                      replace H : (if t320 = true then ((peristylelaw26_awake.f kj12).bind fun t321 => (some t321)) else (some false)) = some r := H
                      have A35 := Aside0.mk A350
                      clear A350
                      by_cases c36 : t320 = true
                      · subst c36
                        have H1 : ((peristylelaw26_awake.f kj12).bind fun t321 => (some t321)) = some r := by rw [if_pos rfl] at H; exact H
                        clear H
                        have H := H1
                        clear H1
                        replace H := Option.bind_eq_some_iff.mp H
                        obtain ⟨t321, A370, H⟩ := H
                        replace H : (some t321) = some r := H
                        have A37 := Aside0.mk A370
                        clear A370
                        obtain rfl := Option.some.inj H
                        go_wp2_with (first | ((with_reducible refine gate_callee (f := 17) rfl ?_); refine goesL_ (some 83) rfl rfl Try.func17 (by kernel_rfl) rfl #[.string (t300 ++ a1), .int .i64 (l0.length : Int)] rfl (by (try simp only [List.map_toArray, List.map_cons, List.map_nil]); first | done | rfl | (simp only [List.length_drop, List.length_take]; rfl)) ?_; (with_reducible refine (jindex_Take.calls kj12 (t300 ++ a1) (l0.length : Int) t315 t316 t317 _ A31.out).mono ?_); rintro e w38 ⟨v318, rfl, ho0, hb⟩; refine ⟨_, rfl, ?_⟩; have n0_ := Aside0.mk (Kd.R_lower ho0 (below_size (by repeat (first | (with_reducible first | exact HB.out | apply below_alloc | apply pw_below_drewN | apply below_drew1) | exact HB.out)))); have n1_ := Aside0.mk (below_step (by repeat (first | (with_reducible first | exact HB.out | apply below_alloc | apply pw_below_drewN | apply below_drew1) | exact HB.out)) hb); clear HB; have HO319 := n0_; have HB := n1_; clear n0_ n1_; (try clear hb); (try clear hb2); (try clear hk); (try clear hi); (try clear ho0); obtain ⟨Ao39, co39, eo39⟩ := Kd.R_slice HO319.out; subst eo39) | (go_at_call 12; (with_reducible refine (peristyleref01_Same.calls kj12 _ _ t315 _ _ l0 true _ ?side1 ?side2 ?side3 ?side4 A35.out).mono ?_); (case side1 => repeat (first | exact (Kd.R_reads' HO319.out).2.2 | (with_reducible refine Kd.C_alloc ?_ _) | (with_reducible refine Kd.C_drewN ?_ _) | (with_reducible refine Kd.C_drew ?_))); (case side2 => exact (Kd.R_reads' HO319.out).2.1); (case side3 => repeat (first | exact (Kd.C_below HR0.out HB.out) | (with_reducible refine Kd.C_alloc ?_ _) | (with_reducible refine Kd.C_drewN ?_ _) | (with_reducible refine Kd.C_drew ?_))); (case side4 => exact HC0.out); rintro e w' ⟨rfl, ⟨nd, rfl⟩⟩; (try clear A35)) | (go_at_call 7; (with_reducible refine (peristylelaw26_awake.calls kj12  t321 _ A37.out).mono ?_); rintro e w40 ⟨rfl, hb⟩; have n0_ := Aside0.mk (Kd.R_below (by (with_reducible repeat (first | apply Kd.R_alloc | apply Kd.R_drewN | apply Kd.R_drew)); exact HO319.out) hb); have n1_ := Aside0.mk (below_step (by repeat (first | (with_reducible first | exact HB.out | apply below_alloc | apply pw_below_drewN | apply below_drew1) | exact HB.out)) hb); clear HO319; clear HB; have HO319 := n0_; have HB := n1_; clear n0_ n1_; (try clear hb); (try clear hb2); (try clear hk); (try clear hi); (try clear A37)))
                        go_ret
                        exact ⟨by first | rfl | (simp [errW_none, errW_some] <;> rfl) | (simp [*, errW_none, errW_some] <;> rfl), by repeat (first | (with_reducible first | exact HB.out | apply below_alloc | apply pw_below_drewN | apply below_drew1) | exact HB.out)⟩
                      · replace c36 := Bool.eq_false_iff.mpr c36
                        subst c36
                        have H1 : (some false) = some r := by rw [if_neg (show ¬ (false = true) by decide)] at H; exact H
                        clear H
                        have H := H1
                        clear H1
                        obtain rfl := Option.some.inj H
                        go_wp2_with (first | ((with_reducible refine gate_callee (f := 17) rfl ?_); refine goesL_ (some 83) rfl rfl Try.func17 (by kernel_rfl) rfl #[.string (t300 ++ a1), .int .i64 (l0.length : Int)] rfl (by (try simp only [List.map_toArray, List.map_cons, List.map_nil]); first | done | rfl | (simp only [List.length_drop, List.length_take]; rfl)) ?_; (with_reducible refine (jindex_Take.calls kj12 (t300 ++ a1) (l0.length : Int) t315 t316 t317 _ A31.out).mono ?_); rintro e w41 ⟨v318, rfl, ho0, hb⟩; refine ⟨_, rfl, ?_⟩; have n0_ := Aside0.mk (Kd.R_lower ho0 (below_size (by repeat (first | (with_reducible first | exact HB.out | apply below_alloc | apply pw_below_drewN | apply below_drew1) | exact HB.out)))); have n1_ := Aside0.mk (below_step (by repeat (first | (with_reducible first | exact HB.out | apply below_alloc | apply pw_below_drewN | apply below_drew1) | exact HB.out)) hb); clear HB; have HO319 := n0_; have HB := n1_; clear n0_ n1_; (try clear hb); (try clear hb2); (try clear hk); (try clear hi); (try clear ho0); obtain ⟨Ao42, co42, eo42⟩ := Kd.R_slice HO319.out; subst eo42) | (go_at_call 12; (with_reducible refine (peristyleref01_Same.calls kj12 _ _ t315 _ _ l0 false _ ?side1 ?side2 ?side3 ?side4 A35.out).mono ?_); (case side1 => repeat (first | exact (Kd.R_reads' HO319.out).2.2 | (with_reducible refine Kd.C_alloc ?_ _) | (with_reducible refine Kd.C_drewN ?_ _) | (with_reducible refine Kd.C_drew ?_))); (case side2 => exact (Kd.R_reads' HO319.out).2.1); (case side3 => repeat (first | exact (Kd.C_below HR0.out HB.out) | (with_reducible refine Kd.C_alloc ?_ _) | (with_reducible refine Kd.C_drewN ?_ _) | (with_reducible refine Kd.C_drew ?_))); (case side4 => exact HC0.out); rintro e w' ⟨rfl, ⟨nd, rfl⟩⟩; (try clear A35)))
                        go_ret
                        exact ⟨by first | rfl | (simp [errW_none, errW_some] <;> rfl) | (simp [*, errW_none, errW_some] <;> rfl), by repeat (first | (with_reducible first | exact HB.out | apply below_alloc | apply pw_below_drewN | apply below_drew1) | exact HB.out)⟩
                    · rw [if_neg c34] at H
                      have c34b0 : (t316 == (t300.size : Int)) = false := beq_eq_false_iff_ne.mpr c34
                      have c34b1 : (t316 != (t300.size : Int)) = true := bne_iff_ne.mpr c34
                      obtain rfl := Option.some.inj H
                      go_wp2_with (first | ((with_reducible refine gate_callee (f := 17) rfl ?_); refine goesL_ (some 83) rfl rfl Try.func17 (by kernel_rfl) rfl #[.string (t300 ++ a1), .int .i64 (l0.length : Int)] rfl (by (try simp only [List.map_toArray, List.map_cons, List.map_nil]); first | done | rfl | (simp only [List.length_drop, List.length_take]; rfl)) ?_; (with_reducible refine (jindex_Take.calls kj12 (t300 ++ a1) (l0.length : Int) t315 t316 t317 _ A31.out).mono ?_); rintro e w43 ⟨v318, rfl, ho0, hb⟩; refine ⟨_, rfl, ?_⟩; have n0_ := Aside0.mk (Kd.R_lower ho0 (below_size (by repeat (first | (with_reducible first | exact HB.out | apply below_alloc | apply pw_below_drewN | apply below_drew1) | exact HB.out)))); have n1_ := Aside0.mk (below_step (by repeat (first | (with_reducible first | exact HB.out | apply below_alloc | apply pw_below_drewN | apply below_drew1) | exact HB.out)) hb); clear HB; have HO319 := n0_; have HB := n1_; clear n0_ n1_; (try clear hb); (try clear hb2); (try clear hk); (try clear hi); (try clear ho0)))
                      go_ret
                      exact ⟨by first | rfl | (simp [errW_none, errW_some] <;> rfl) | (simp [*, errW_none, errW_some] <;> rfl), by repeat (first | (with_reducible first | exact HB.out | apply below_alloc | apply pw_below_drewN | apply below_drew1) | exact HB.out)⟩
                  · rw [if_neg c33] at H
                    have c33b0 : (t317 == 0) = false := beq_eq_false_iff_ne.mpr c33
                    have c33b1 : (t317 != 0) = true := bne_iff_ne.mpr c33
                    obtain rfl := Option.some.inj H
                    go_wp2_with (first | ((with_reducible refine gate_callee (f := 17) rfl ?_); refine goesL_ (some 83) rfl rfl Try.func17 (by kernel_rfl) rfl #[.string (t300 ++ a1), .int .i64 (l0.length : Int)] rfl (by (try simp only [List.map_toArray, List.map_cons, List.map_nil]); first | done | rfl | (simp only [List.length_drop, List.length_take]; rfl)) ?_; (with_reducible refine (jindex_Take.calls kj12 (t300 ++ a1) (l0.length : Int) t315 t316 t317 _ A31.out).mono ?_); rintro e w44 ⟨v318, rfl, ho0, hb⟩; refine ⟨_, rfl, ?_⟩; have n0_ := Aside0.mk (Kd.R_lower ho0 (below_size (by repeat (first | (with_reducible first | exact HB.out | apply below_alloc | apply pw_below_drewN | apply below_drew1) | exact HB.out)))); have n1_ := Aside0.mk (below_step (by repeat (first | (with_reducible first | exact HB.out | apply below_alloc | apply pw_below_drewN | apply below_drew1) | exact HB.out)) hb); clear HB; have HO319 := n0_; have HB := n1_; clear n0_ n1_; (try clear hb); (try clear hb2); (try clear hk); (try clear hi); (try clear ho0)))
                    go_ret
                    exact ⟨by first | rfl | (simp [errW_none, errW_some] <;> rfl) | (simp [*, errW_none, errW_some] <;> rfl), by repeat (first | (with_reducible first | exact HB.out | apply below_alloc | apply pw_below_drewN | apply below_drew1) | exact HB.out)⟩
                · rw [if_neg c32] at H
                  have c32b0 : (t301 == 0) = false := beq_eq_false_iff_ne.mpr c32
                  have c32b1 : (t301 != 0) = true := bne_iff_ne.mpr c32
                  replace H := Option.bind_eq_some_iff.mp H
                  obtain ⟨t322, A450, H⟩ := H
                  replace H : (some t322) = some r := H
                  have A45 := Aside0.mk A450
                  clear A450
                  obtain rfl := Option.some.inj H
                  go_wp2_with (first | ((with_reducible refine gate_callee (f := 17) rfl ?_); refine goesL_ (some 83) rfl rfl Try.func17 (by kernel_rfl) rfl #[.string (t300 ++ a1), .int .i64 (l0.length : Int)] rfl (by (try simp only [List.map_toArray, List.map_cons, List.map_nil]); first | done | rfl | (simp only [List.length_drop, List.length_take]; rfl)) ?_; (with_reducible refine (jindex_Take.calls kj12 (t300 ++ a1) (l0.length : Int) t315 t316 t317 _ A31.out).mono ?_); rintro e w46 ⟨v318, rfl, ho0, hb⟩; refine ⟨_, rfl, ?_⟩; have n0_ := Aside0.mk (Kd.R_lower ho0 (below_size (by repeat (first | (with_reducible first | exact HB.out | apply below_alloc | apply pw_below_drewN | apply below_drew1) | exact HB.out)))); have n1_ := Aside0.mk (below_step (by repeat (first | (with_reducible first | exact HB.out | apply below_alloc | apply pw_below_drewN | apply below_drew1) | exact HB.out)) hb); clear HB; have HO319 := n0_; have HB := n1_; clear n0_ n1_; (try clear hb); (try clear hb2); (try clear hk); (try clear hi); (try clear ho0)) | (go_at_call 7; (with_reducible refine (peristylelaw26_awake.calls kj12  t322 _ A45.out).mono ?_); rintro e w47 ⟨rfl, hb⟩; have n0_ := Aside0.mk (Kd.R_below (by (with_reducible repeat (first | apply Kd.R_alloc | apply Kd.R_drewN | apply Kd.R_drew)); exact HO319.out) hb); have n1_ := Aside0.mk (below_step (by repeat (first | (with_reducible first | exact HB.out | apply below_alloc | apply pw_below_drewN | apply below_drew1) | exact HB.out)) hb); clear HO319; clear HB; have HO319 := n0_; have HB := n1_; clear n0_ n1_; (try clear hb); (try clear hb2); (try clear hk); (try clear hi); (try clear A45)))
                  go_ret
                  exact ⟨by first | rfl | (simp [errW_none, errW_some] <;> rfl) | (simp [*, errW_none, errW_some] <;> rfl), by repeat (first | (with_reducible first | exact HB.out | apply below_alloc | apply pw_below_drewN | apply below_drew1) | exact HB.out)⟩
              · rw [if_neg c30] at H
                exact absurd H (by simp)

/-- THE ONE PURE STATEMENT of peristylelaw26_JindexBytes: yours. -/
def peristylelaw26_JindexBytes.Pure : Prop := ∀ (l0 : List Int) (a1 : ByteArray) (a2 : Int), l0.length ≤ maxLen → l0.length * 8 ≤ 140737488351232 → (∀ x ∈ l0, (Lit.int .i64 x).wf = true) → a1.size ≤ 140737488351232 → (Lit.int .i64 a2).wf = true → ∃ k, peristylelaw26_JindexBytes.f k l0 a1 a2 = some true
theorem peristylelaw26_JindexBytes.walk (P : peristylelaw26_JindexBytes.Pure) (a0 : Option Addr) (len0 cap0 : Nat) (z0 : List Int) (a1 : ByteArray) (a2 : Int) (w : World) (w0 : (a0 = none ∧ len0 = 0 ∧ cap0 = 0 ∧ z0 = []) ∨ ∃ x, a0 = some x ∧ len0 ≤ cap0 ∧ cap0 ≤ maxLen ∧ z0.length = cap0 ∧ (∀ i, i < z0.length → w.cell? (x.add i) = some (.int .i64 (z0.getD i 0))) ∧ ∀ n ∈ z0, (Lit.int .i64 n).wf = true) (y0 : len0 * 8 ≤ 140737488351232) (w1 : a1.size ≤ 140737488351232) (w2 : (Lit.int .i64 a2).wf = true) :
    Calls Try.prog 4 #[.slice a0 len0 cap0, .string a1, .int .i64 a2] w fun e w' => e = .returned (.bool true) ∧ Below w.heap.size w w' := by
  obtain ⟨l0, rfl, hr0, hm0, hw0, hc0⟩ := ReadsInt.ofRowC w0
  obtain ⟨k, h⟩ := P l0 a1 a2 hm0 y0 hw0 w1 w2
  refine (peristylelaw26_JindexBytes.calls k _ _ l0 a1 a2 true w (Kd.C_of_reads (d := (0 : Int)) (h1 := fun _ => rfl) hr0) hc0 h).mono ?_
  rintro e w' ⟨rfl, hd⟩
  exact ⟨rfl, hd⟩

end Go.Proofs.Ytbmlfbbcgbgnoaa.Print
