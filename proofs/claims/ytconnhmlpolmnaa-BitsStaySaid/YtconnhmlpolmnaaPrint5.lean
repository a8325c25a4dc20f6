-- Written by the session's own xprint (over the kit's print program): functions, contracts.
import Derived.Test.YtconnhmlpolmnaaPrint0
import Derived.Test.YtconnhmlpolmnaaPrint1
import Derived.Test.YtconnhmlpolmnaaPrint2
namespace Go.Proofs.Ytconnhmlpolmnaa.Print
open Go.RowKit Go.Proofs.YtconnhmlpolmnaaW.PrintWords Go.Proofs.YtconnhmlpolmnaaW.PrintLast Go.Proofs.YtconnhmlpolmnaaW.PrintMore
attribute [local go_sem] max2_int min2_int max_two min_two max_three min_three max_four min_four   -- for this text's walks alone
set_option linter.unusedVariables false
set_option linter.unusedSimpArgs false

/-! ### peristylelaw01_BitsStay: function 6 -/
mutual
def peristylelaw01_BitsStay.j0 : Nat → Int → Int → Int → Int → Bool → Option (Bool)
  | 0, _, _, _, _, _ => none
  | k + 1, x0, x7, x9, x10, x46 => if x46 = true then (some false) else (if x7 > 0 then ((bits_Field.f x10 0 x7).bind fun t146 => ((bits_Field.f x0 0 x7).bind fun t147 => (peristylelaw01_BitsStay.j1 k x0 x7 x9 x10 (t146 != t147)))) else (peristylelaw01_BitsStay.j1 k x0 x7 x9 x10 false))
def peristylelaw01_BitsStay.j1 : Nat → Int → Int → Int → Int → Bool → Option (Bool)
  | 0, _, _, _, _, _ => none
  | k + 1, x0, x7, x9, x10, x57 => if x57 = true then (some false) else (if (wrap64 (x7 + x9)) > 63 then ((peristylelaw01_awake.f k).bind fun t148 => (some t148)) else ((bits_Field.f x10 (wrap64 (x7 + x9)) 64).bind fun t149 => ((bits_Field.f x0 (wrap64 (x7 + x9)) 64).bind fun t150 => (if t149 = t150 then ((peristylelaw01_awake.f k).bind fun t151 => (some t151)) else (some false)))))
end
def peristylelaw01_BitsStay.f (k : Nat) (a0 : Int) (a1_0 : Int) (a1_1 : Int) (a2 : Int) : Option (Bool) := (bits_With.f a0 (Go.bits .and .i64 a1_0 63) (wrap64 (1 + (Go.bits .and .i64 a1_1 63))) a2).bind fun t141 => ((bits_Field.f t141 (Go.bits .and .i64 a1_0 63) (wrap64 (1 + (Go.bits .and .i64 a1_1 63)))).bind fun t142 => ((bits_Field.f a2 0 (mn (wrap64 (1 + (Go.bits .and .i64 a1_1 63))) (wrap64 (64 - (Go.bits .and .i64 a1_0 63))))).bind fun t143 => (if t142 = t143 then ((bits_Field.f a0 (Go.bits .and .i64 a1_0 63) (wrap64 (1 + (Go.bits .and .i64 a1_1 63)))).bind fun t144 => ((bits_With.f t141 (Go.bits .and .i64 a1_0 63) (wrap64 (1 + (Go.bits .and .i64 a1_1 63))) t144).bind fun t145 => (peristylelaw01_BitsStay.j0 k a0 (Go.bits .and .i64 a1_0 63) (mn (wrap64 (1 + (Go.bits .and .i64 a1_1 63))) (wrap64 (64 - (Go.bits .and .i64 a1_0 63)))) t141 (t145 != a0)))) else (peristylelaw01_BitsStay.j0 k a0 (Go.bits .and .i64 a1_0 63) (mn (wrap64 (1 + (Go.bits .and .i64 a1_1 63))) (wrap64 (64 - (Go.bits .and .i64 a1_0 63)))) t141 true))))
theorem peristylelaw01_BitsStay.j0_succ (k : Nat) (x0 : Int) (x7 : Int) (x9 : Int) (x10 : Int) (x46 : Bool) : peristylelaw01_BitsStay.j0 (k + 1) x0 x7 x9 x10 x46 = (if x46 = true then (some false) else (if x7 > 0 then ((bits_Field.f x10 0 x7).bind fun t146 => ((bits_Field.f x0 0 x7).bind fun t147 => (peristylelaw01_BitsStay.j1 k x0 x7 x9 x10 (t146 != t147)))) else (peristylelaw01_BitsStay.j1 k x0 x7 x9 x10 false))) := by
  simp only [peristylelaw01_BitsStay.j0]
theorem peristylelaw01_BitsStay.j1_succ (k : Nat) (x0 : Int) (x7 : Int) (x9 : Int) (x10 : Int) (x57 : Bool) : peristylelaw01_BitsStay.j1 (k + 1) x0 x7 x9 x10 x57 = (if x57 = true then (some false) else (if (wrap64 (x7 + x9)) > 63 then ((peristylelaw01_awake.f k).bind fun t148 => (some t148)) else ((bits_Field.f x10 (wrap64 (x7 + x9)) 64).bind fun t149 => ((bits_Field.f x0 (wrap64 (x7 + x9)) 64).bind fun t150 => (if t149 = t150 then ((peristylelaw01_awake.f k).bind fun t151 => (some t151)) else (some false)))))) := by
  simp only [peristylelaw01_BitsStay.j1]
theorem peristylelaw01_BitsStay.mono_l : ∀ k, (∀ y0 y1 y2 y3 y4, LeO (peristylelaw01_BitsStay.j0 k y0 y1 y2 y3 y4) (peristylelaw01_BitsStay.j0 (k + 1) y0 y1 y2 y3 y4)) ∧ (∀ y0 y1 y2 y3 y4, LeO (peristylelaw01_BitsStay.j1 k y0 y1 y2 y3 y4) (peristylelaw01_BitsStay.j1 (k + 1) y0 y1 y2 y3 y4))
  | 0 => ⟨fun _ _ _ _ _ r h => by simp [peristylelaw01_BitsStay.j0] at h, fun _ _ _ _ _ r h => by simp [peristylelaw01_BitsStay.j1] at h⟩
  | k + 1 => by
    obtain ⟨ih0, ih1⟩ := peristylelaw01_BitsStay.mono_l k
    refine ⟨?_, ?_⟩
    · intro y0 y1 y2 y3 y4
      unfold peristylelaw01_BitsStay.j0
      repeat' first
      | (with_reducible exact ih0 _ _ _ _ _)
      | (with_reducible exact ih1 _ _ _ _ _)
      | (with_reducible exact peristylelaw01_awake.mono _)
      | (with_reducible exact LeO.refl _)
      | (with_reducible exact LeO.none _)
      | (with_reducible refine LeO.ite ?_ ?_)
      | (with_reducible refine LeO.bind ?_ (fun _ => ?_))
      | exact ih0 _ _ _ _ _
      | exact ih1 _ _ _ _ _
      | exact peristylelaw01_awake.mono _
      | exact LeO.none _
      | refine LeO.ite ?_ ?_
      | refine LeO.bind ?_ (fun _ => ?_)
    · intro y0 y1 y2 y3 y4
      unfold peristylelaw01_BitsStay.j1
      repeat' first
      | (with_reducible exact ih0 _ _ _ _ _)
      | (with_reducible exact ih1 _ _ _ _ _)
      | (with_reducible exact peristylelaw01_awake.mono _)
      | (with_reducible exact LeO.refl _)
      | (with_reducible exact LeO.none _)
      | (with_reducible refine LeO.ite ?_ ?_)
      | (with_reducible refine LeO.bind ?_ (fun _ => ?_))
      | exact ih0 _ _ _ _ _
      | exact ih1 _ _ _ _ _
      | exact peristylelaw01_awake.mono _
      | exact LeO.none _
      | refine LeO.ite ?_ ?_
      | refine LeO.bind ?_ (fun _ => ?_)
theorem peristylelaw01_BitsStay.mono : ∀ a0 a1 a2 a3 k, LeO (peristylelaw01_BitsStay.f k a0 a1 a2 a3) (peristylelaw01_BitsStay.f (k + 1) a0 a1 a2 a3) := by
  intro a0 a1 a2 a3 k
  obtain ⟨ih0, ih1⟩ := peristylelaw01_BitsStay.mono_l k
  unfold peristylelaw01_BitsStay.f
  repeat' first
      | (with_reducible exact ih0 _ _ _ _ _)
      | (with_reducible exact ih1 _ _ _ _ _)
      | (with_reducible exact peristylelaw01_awake.mono _)
      | (with_reducible exact LeO.refl _)
      | (with_reducible exact LeO.none _)
      | (with_reducible refine LeO.ite ?_ ?_)
      | (with_reducible refine LeO.bind ?_ (fun _ => ?_))
      | exact ih0 _ _ _ _ _
      | exact ih1 _ _ _ _ _
      | exact peristylelaw01_awake.mono _
      | exact LeO.none _
      | refine LeO.ite ?_ ?_
      | refine LeO.bind ?_ (fun _ => ?_)
set_option maxHeartbeats 8000000 in
set_option maxRecDepth 100000 in
theorem peristylelaw01_BitsStay.calls (k : Nat) (a0 : Int) (a1_0 : Int) (a1_1 : Int) (a2 : Int) (r : Bool) (w : World) (h : peristylelaw01_BitsStay.f k a0 a1_0 a1_1 a2 = some r) :
    Calls Try.prog 6 #[.int .i64 a0, .agg #[.int .i64 a1_0, .int .i64 a1_1], .int .i64 a2] w fun e w' => e = .returned (.bool r) ∧ Below w.heap.size w w' := by
  have hu27 := Try.underlying27
  have HB := Aside0.mk (Below.refl w.heap.size w)
  have H : ((bits_With.f a0 (Go.bits .and .i64 a1_0 63) (wrap64 (1 + (Go.bits .and .i64 a1_1 63))) a2).bind fun t141 => ((bits_Field.f t141 (Go.bits .and .i64 a1_0 63) (wrap64 (1 + (Go.bits .and .i64 a1_1 63)))).bind fun t142 => ((bits_Field.f a2 0 (mn (wrap64 (1 + (Go.bits .and .i64 a1_1 63))) (wrap64 (64 - (Go.bits .and .i64 a1_0 63))))).bind fun t143 => (if t142 = t143 then ((bits_Field.f a0 (Go.bits .and .i64 a1_0 63) (wrap64 (1 + (Go.bits .and .i64 a1_1 63)))).bind fun t144 => ((bits_With.f t141 (Go.bits .and .i64 a1_0 63) (wrap64 (1 + (Go.bits .and .i64 a1_1 63))) t144).bind fun t145 => (peristylelaw01_BitsStay.j0 k a0 (Go.bits .and .i64 a1_0 63) (mn (wrap64 (1 + (Go.bits .and .i64 a1_1 63))) (wrap64 (64 - (Go.bits .and .i64 a1_0 63)))) t141 (t145 != a0)))) else (peristylelaw01_BitsStay.j0 k a0 (Go.bits .and .i64 a1_0 63) (mn (wrap64 (1 + (Go.bits .and .i64 a1_1 63))) (wrap64 (64 - (Go.bits .and .i64 a1_0 63)))) t141 true))))) = some r := h
  clear h
  obtain ⟨ji4, hji4⟩ : ∃ j_ : Int, (mn (wrap64 (1 + (Go.bits .and .i64 a1_1 63))) (wrap64 (64 - (Go.bits .and .i64 a1_0 63)))) = j_ := ⟨_, rfl⟩
  replace H : ((bits_With.f a0 (Go.bits .and .i64 a1_0 63) (wrap64 (1 + (Go.bits .and .i64 a1_1 63))) a2).bind fun t141 => ((bits_Field.f t141 (Go.bits .and .i64 a1_0 63) (wrap64 (1 + (Go.bits .and .i64 a1_1 63)))).bind fun t142 => ((bits_Field.f a2 0 (ji4)).bind fun t143 => (if t142 = t143 then ((bits_Field.f a0 (Go.bits .and .i64 a1_0 63) (wrap64 (1 + (Go.bits .and .i64 a1_1 63)))).bind fun t144 => ((bits_With.f t141 (Go.bits .and .i64 a1_0 63) (wrap64 (1 + (Go.bits .and .i64 a1_1 63))) t144).bind fun t145 => (peristylelaw01_BitsStay.j0 k a0 (Go.bits .and .i64 a1_0 63) ji4 t141 (t145 != a0)))) else (peristylelaw01_BitsStay.j0 k a0 (Go.bits .and .i64 a1_0 63) ji4 t141 true))))) = some r := by first | (rw [hji4] at H; exact H) | (simp only [hji4] at H ⊢; exact H)
  have hji4_ : (if (wrap64 (64 - (Go.bits .and .i64 a1_0 63))) < (wrap64 (1 + (Go.bits .and .i64 a1_1 63))) then (wrap64 (64 - (Go.bits .and .i64 a1_0 63))) else (wrap64 (1 + (Go.bits .and .i64 a1_1 63)))) = ji4 := hji4
  replace H := Option.bind_eq_some_iff.mp H
  obtain ⟨t141, A50, H⟩ := H
  replace H : ((bits_Field.f t141 (Go.bits .and .i64 a1_0 63) (wrap64 (1 + (Go.bits .and .i64 a1_1 63)))).bind fun t142 => ((bits_Field.f a2 0 (ji4)).bind fun t143 => (if t142 = t143 then ((bits_Field.f a0 (Go.bits .and .i64 a1_0 63) (wrap64 (1 + (Go.bits .and .i64 a1_1 63)))).bind fun t144 => ((bits_With.f t141 (Go.bits .and .i64 a1_0 63) (wrap64 (1 + (Go.bits .and .i64 a1_1 63))) t144).bind fun t145 => (peristylelaw01_BitsStay.j0 k a0 (Go.bits .and .i64 a1_0 63) ji4 t141 (t145 != a0)))) else (peristylelaw01_BitsStay.j0 k a0 (Go.bits .and .i64 a1_0 63) ji4 t141 true)))) = some r := H
  have A5 := Aside0.mk A50
  clear A50
  have HC6 := Aside0.mk H
  clear H
  go_enter Try.func6, Try.ntmps6
  go_upto_region 4 with (first | ((with_reducible refine gate_dst (N := 4) rfl ?_); refine box_event ?hg (N := 4) ?hd (cs := #[.int .i64 a1_0, .int .i64 a1_1]) (t := 27) ?hr ?_; (case hd => rfl); (case hg => rfl); (case hr => first | (go_simp; done) | (go_simp; rfl)); intro gb140 hg w7 hbox hb; have n0_ := Aside0.mk (below_step (by repeat (first | (with_reducible first | exact HB.out | apply below_alloc | apply pw_below_drewN | apply below_drew1) | exact HB.out)) hb); have n1_ := Aside0.mk (hbox); have n2_ := Aside0.mk ((by rw [hg]; exact (below_size (by repeat (first | (with_reducible first | exact HB.out | apply below_alloc | apply pw_below_drewN | apply below_drew1) | exact HB.out))) : w.heap.size ≤ gb140)); have n3_ := Aside0.mk ((by rw [hg]; exact (below_size (by repeat (first | (with_reducible first | exact HB.out | apply below_alloc | apply pw_below_drewN | apply below_drew1) | exact HB.out))) : w.heap.size ≤ gb140)); clear HB; have HB := n0_; have BK140 := n1_; have GW140 := n2_; have GE140 := n3_; clear n0_ n1_ n2_ n3_; clear hb hbox hg; have hcz8_0 : w7.cell? ⟨gb140, 0, none⟩ = some (.int .i64 a1_0) := (blk_cell BK140.out 0).trans rfl; have hcz8_1 : w7.cell? ⟨gb140, 1, none⟩ = some (.int .i64 a1_1) := (blk_cell BK140.out 1).trans rfl; have hfz8_0 := blk_frozen BK140.out 0; have hfz8_1 := blk_frozen BK140.out 1) | (go_at_call 24; (with_reducible refine (bits_With.calls a0 (Go.bits .and .i64 a1_0 63) (wrap64 (1 + (Go.bits .and .i64 a1_1 63))) a2 t141 _ A5.out).mono ?_); rintro e w' ⟨rfl, ⟨nd, rfl⟩⟩; (try first | exact ⟨rfl, _, World.drewN_drewN _ _ _⟩ | exact ⟨rfl, _, Eq.trans (World.drewN_drewN _ _ _) (congrArg (World.drewN _) (Nat.add_assoc _ _ _))⟩)))
  repeat (go_quiet (first | ((with_reducible refine gate_dst (N := 4) rfl ?_); refine box_event ?hg (N := 4) ?hd (cs := #[.int .i64 a1_0, .int .i64 a1_1]) (t := 27) ?hr ?_; (case hd => rfl); (case hg => rfl); (case hr => first | (go_simp; done) | (go_simp; rfl)); intro gb140 hg w7 hbox hb; have n0_ := Aside0.mk (below_step (by repeat (first | (with_reducible first | exact HB.out | apply below_alloc | apply pw_below_drewN | apply below_drew1) | exact HB.out)) hb); have n1_ := Aside0.mk (hbox); have n2_ := Aside0.mk ((by rw [hg]; exact (below_size (by repeat (first | (with_reducible first | exact HB.out | apply below_alloc | apply pw_below_drewN | apply below_drew1) | exact HB.out))) : w.heap.size ≤ gb140)); have n3_ := Aside0.mk ((by rw [hg]; exact (below_size (by repeat (first | (with_reducible first | exact HB.out | apply below_alloc | apply pw_below_drewN | apply below_drew1) | exact HB.out))) : w.heap.size ≤ gb140)); clear HB; have HB := n0_; have BK140 := n1_; have GW140 := n2_; have GE140 := n3_; clear n0_ n1_ n2_ n3_; clear hb hbox hg; have hcz8_0 : w7.cell? ⟨gb140, 0, none⟩ = some (.int .i64 a1_0) := (blk_cell BK140.out 0).trans rfl; have hcz8_1 : w7.cell? ⟨gb140, 1, none⟩ = some (.int .i64 a1_1) := (blk_cell BK140.out 1).trans rfl; have hfz8_0 := blk_frozen BK140.out 0; have hfz8_1 := blk_frozen BK140.out 1) | (go_at_call 24; (with_reducible refine (bits_With.calls a0 (Go.bits .and .i64 a1_0 63) (wrap64 (1 + (Go.bits .and .i64 a1_1 63))) a2 t141 _ A5.out).mono ?_); rintro e w' ⟨rfl, ⟨nd, rfl⟩⟩; (try first | exact ⟨rfl, _, World.drewN_drewN _ _ _⟩ | exact ⟨rfl, _, Eq.trans (World.drewN_drewN _ _ _) (congrArg (World.drewN _) (Nat.add_assoc _ _ _))⟩))); go_upto_region 4 with (first | ((with_reducible refine gate_dst (N := 4) rfl ?_); refine box_event ?hg (N := 4) ?hd (cs := #[.int .i64 a1_0, .int .i64 a1_1]) (t := 27) ?hr ?_; (case hd => rfl); (case hg => rfl); (case hr => first | (go_simp; done) | (go_simp; rfl)); intro gb140 hg w7 hbox hb; have n0_ := Aside0.mk (below_step (by repeat (first | (with_reducible first | exact HB.out | apply below_alloc | apply pw_below_drewN | apply below_drew1) | exact HB.out)) hb); have n1_ := Aside0.mk (hbox); have n2_ := Aside0.mk ((by rw [hg]; exact (below_size (by repeat (first | (with_reducible first | exact HB.out | apply below_alloc | apply pw_below_drewN | apply below_drew1) | exact HB.out))) : w.heap.size ≤ gb140)); have n3_ := Aside0.mk ((by rw [hg]; exact (below_size (by repeat (first | (with_reducible first | exact HB.out | apply below_alloc | apply pw_below_drewN | apply below_drew1) | exact HB.out))) : w.heap.size ≤ gb140)); clear HB; have HB := n0_; have BK140 := n1_; have GW140 := n2_; have GE140 := n3_; clear n0_ n1_ n2_ n3_; clear hb hbox hg; have hcz8_0 : w7.cell? ⟨gb140, 0, none⟩ = some (.int .i64 a1_0) := (blk_cell BK140.out 0).trans rfl; have hcz8_1 : w7.cell? ⟨gb140, 1, none⟩ = some (.int .i64 a1_1) := (blk_cell BK140.out 1).trans rfl; have hfz8_0 := blk_frozen BK140.out 0; have hfz8_1 := blk_frozen BK140.out 1) | (go_at_call 24; (with_reducible refine (bits_With.calls a0 (Go.bits .and .i64 a1_0 63) (wrap64 (1 + (Go.bits .and .i64 a1_1 63))) a2 t141 _ A5.out).mono ?_); rintro e w' ⟨rfl, ⟨nd, rfl⟩⟩; (try first | exact ⟨rfl, _, World.drewN_drewN _ _ _⟩ | exact ⟨rfl, _, Eq.trans (World.drewN_drewN _ _ _) (congrArg (World.drewN _) (Nat.add_assoc _ _ _))⟩))))
  (try simp only [Act.put, List.setIfInBounds_toArray, List.set_cons_zero, List.set_cons_succ])
  go_cut [46] (fun v46 wc => ∃ (kq : Nat) (x46_5 : Bool), v46 = .bool x46_5 ∧ Aside0 (peristylelaw01_BitsStay.j0 kq a0 (Go.bits .and .i64 a1_0 63) ji4 t141 x46_5 = some r) ∧ Aside0 (kq ≤ k) ∧ Aside0 (wc.heap[gb140]? = some (.cells #[.int .i64 a1_0, .int .i64 a1_1] 27 (0, 0))) ∧ Aside0 (Below w.heap.size w wc))
  case first =>
    have H := HC6.out
    clear HC6
    replace H := Option.bind_eq_some_iff.mp H
    obtain ⟨t142, A90, H⟩ := H
    replace H : ((bits_Field.f a2 0 (ji4)).bind fun t143 => (if t142 = t143 then ((bits_Field.f a0 (Go.bits .and .i64 a1_0 63) (wrap64 (1 + (Go.bits .and .i64 a1_1 63)))).bind fun t144 => ((bits_With.f t141 (Go.bits .and .i64 a1_0 63) (wrap64 (1 + (Go.bits .and .i64 a1_1 63))) t144).bind fun t145 => (peristylelaw01_BitsStay.j0 k a0 (Go.bits .and .i64 a1_0 63) ji4 t141 (t145 != a0)))) else (peristylelaw01_BitsStay.j0 k a0 (Go.bits .and .i64 a1_0 63) ji4 t141 true))) = some r := H
    have A9 := Aside0.mk A90
    clear A90
    replace H := Option.bind_eq_some_iff.mp H
    obtain ⟨t143, A100, H⟩ := H
    replace H : (if t142 = t143 then ((bits_Field.f a0 (Go.bits .and .i64 a1_0 63) (wrap64 (1 + (Go.bits .and .i64 a1_1 63)))).bind fun t144 => ((bits_With.f t141 (Go.bits .and .i64 a1_0 63) (wrap64 (1 + (Go.bits .and .i64 a1_1 63))) t144).bind fun t145 => (peristylelaw01_BitsStay.j0 k a0 (Go.bits .and .i64 a1_0 63) ji4 t141 (t145 != a0)))) else (peristylelaw01_BitsStay.j0 k a0 (Go.bits .and .i64 a1_0 63) ji4 t141 true)) = some r := H
    have A10 := Aside0.mk A100
    clear A100
    by_cases c11 : t142 = t143
    · rw [if_pos c11] at H
      have c11b0 : (t142 == t143) = true := beq_iff_eq.mpr c11
      have c11b1 : (t142 != t143) = false := bne_eq_false_iff_eq.mpr c11
      clear c11
      (first | rw [c11b0] | (simp only [i64_w, i32_w]; rw [c11b0]) | skip)
      replace H := Option.bind_eq_some_iff.mp H
      obtain ⟨t144, A120, H⟩ := H
      replace H : ((bits_With.f t141 (Go.bits .and .i64 a1_0 63) (wrap64 (1 + (Go.bits .and .i64 a1_1 63))) t144).bind fun t145 => (peristylelaw01_BitsStay.j0 k a0 (Go.bits .and .i64 a1_0 63) ji4 t141 (t145 != a0))) = some r := H
      have A12 := Aside0.mk A120
      clear A120
      replace H := Option.bind_eq_some_iff.mp H
      obtain ⟨t145, A130, H⟩ := H
      replace H : (peristylelaw01_BitsStay.j0 k a0 (Go.bits .and .i64 a1_0 63) ji4 t141 (t145 != a0)) = some r := H
      have A13 := Aside0.mk A130
      clear A130
      have H' := Aside0.mk H
      clear H
      go_wp2_with (first | (go_at_call 22; (with_reducible refine (bits_Field.calls t141 (Go.bits .and .i64 a1_0 63) (wrap64 (1 + (Go.bits .and .i64 a1_1 63))) t142 _ A9.out).mono ?_); rintro e w' ⟨rfl, ⟨nd, rfl⟩⟩; (try first | exact ⟨rfl, _, World.drewN_drewN _ _ _⟩ | exact ⟨rfl, _, Eq.trans (World.drewN_drewN _ _ _) (congrArg (World.drewN _) (Nat.add_assoc _ _ _))⟩)) | (go_at_call 22; (with_reducible refine (bits_Field.calls a2 0 ji4 t143 _ A10.out).mono ?_); rintro e w' ⟨rfl, ⟨nd, rfl⟩⟩; (try first | exact ⟨rfl, _, World.drewN_drewN _ _ _⟩ | exact ⟨rfl, _, Eq.trans (World.drewN_drewN _ _ _) (congrArg (World.drewN _) (Nat.add_assoc _ _ _))⟩)) | (go_at_call 22; (with_reducible refine (bits_Field.calls a0 (Go.bits .and .i64 a1_0 63) (wrap64 (1 + (Go.bits .and .i64 a1_1 63))) t144 _ A12.out).mono ?_); rintro e w' ⟨rfl, ⟨nd, rfl⟩⟩; (try first | exact ⟨rfl, _, World.drewN_drewN _ _ _⟩ | exact ⟨rfl, _, Eq.trans (World.drewN_drewN _ _ _) (congrArg (World.drewN _) (Nat.add_assoc _ _ _))⟩)) | (go_at_call 24; (with_reducible refine (bits_With.calls t141 (Go.bits .and .i64 a1_0 63) (wrap64 (1 + (Go.bits .and .i64 a1_1 63))) t144 t145 _ A13.out).mono ?_); rintro e w' ⟨rfl, ⟨nd, rfl⟩⟩; (try first | exact ⟨rfl, _, World.drewN_drewN _ _ _⟩ | exact ⟨rfl, _, Eq.trans (World.drewN_drewN _ _ _) (congrArg (World.drewN _) (Nat.add_assoc _ _ _))⟩)))
      repeat (go_quiet (first | (go_at_call 22; (with_reducible refine (bits_Field.calls t141 (Go.bits .and .i64 a1_0 63) (wrap64 (1 + (Go.bits .and .i64 a1_1 63))) t142 _ A9.out).mono ?_); rintro e w' ⟨rfl, ⟨nd, rfl⟩⟩; (try first | exact ⟨rfl, _, World.drewN_drewN _ _ _⟩ | exact ⟨rfl, _, Eq.trans (World.drewN_drewN _ _ _) (congrArg (World.drewN _) (Nat.add_assoc _ _ _))⟩)) | (go_at_call 22; (with_reducible refine (bits_Field.calls a2 0 ji4 t143 _ A10.out).mono ?_); rintro e w' ⟨rfl, ⟨nd, rfl⟩⟩; (try first | exact ⟨rfl, _, World.drewN_drewN _ _ _⟩ | exact ⟨rfl, _, Eq.trans (World.drewN_drewN _ _ _) (congrArg (World.drewN _) (Nat.add_assoc _ _ _))⟩)) | (go_at_call 22; (with_reducible refine (bits_Field.calls a0 (Go.bits .and .i64 a1_0 63) (wrap64 (1 + (Go.bits .and .i64 a1_1 63))) t144 _ A12.out).mono ?_); rintro e w' ⟨rfl, ⟨nd, rfl⟩⟩; (try first | exact ⟨rfl, _, World.drewN_drewN _ _ _⟩ | exact ⟨rfl, _, Eq.trans (World.drewN_drewN _ _ _) (congrArg (World.drewN _) (Nat.add_assoc _ _ _))⟩)) | (go_at_call 24; (with_reducible refine (bits_With.calls t141 (Go.bits .and .i64 a1_0 63) (wrap64 (1 + (Go.bits .and .i64 a1_1 63))) t144 t145 _ A13.out).mono ?_); rintro e w' ⟨rfl, ⟨nd, rfl⟩⟩; (try first | exact ⟨rfl, _, World.drewN_drewN _ _ _⟩ | exact ⟨rfl, _, Eq.trans (World.drewN_drewN _ _ _) (congrArg (World.drewN _) (Nat.add_assoc _ _ _))⟩))); try go_wp2_with (first | (go_at_call 22; (with_reducible refine (bits_Field.calls t141 (Go.bits .and .i64 a1_0 63) (wrap64 (1 + (Go.bits .and .i64 a1_1 63))) t142 _ A9.out).mono ?_); rintro e w' ⟨rfl, ⟨nd, rfl⟩⟩; (try first | exact ⟨rfl, _, World.drewN_drewN _ _ _⟩ | exact ⟨rfl, _, Eq.trans (World.drewN_drewN _ _ _) (congrArg (World.drewN _) (Nat.add_assoc _ _ _))⟩)) | (go_at_call 22; (with_reducible refine (bits_Field.calls a2 0 ji4 t143 _ A10.out).mono ?_); rintro e w' ⟨rfl, ⟨nd, rfl⟩⟩; (try first | exact ⟨rfl, _, World.drewN_drewN _ _ _⟩ | exact ⟨rfl, _, Eq.trans (World.drewN_drewN _ _ _) (congrArg (World.drewN _) (Nat.add_assoc _ _ _))⟩)) | (go_at_call 22; (with_reducible refine (bits_Field.calls a0 (Go.bits .and .i64 a1_0 63) (wrap64 (1 + (Go.bits .and .i64 a1_1 63))) t144 _ A12.out).mono ?_); rintro e w' ⟨rfl, ⟨nd, rfl⟩⟩; (try first | exact ⟨rfl, _, World.drewN_drewN _ _ _⟩ | exact ⟨rfl, _, Eq.trans (World.drewN_drewN _ _ _) (congrArg (World.drewN _) (Nat.add_assoc _ _ _))⟩)) | (go_at_call 24; (with_reducible refine (bits_With.calls t141 (Go.bits .and .i64 a1_0 63) (wrap64 (1 + (Go.bits .and .i64 a1_1 63))) t144 t145 _ A13.out).mono ?_); rintro e w' ⟨rfl, ⟨nd, rfl⟩⟩; (try first | exact ⟨rfl, _, World.drewN_drewN _ _ _⟩ | exact ⟨rfl, _, Eq.trans (World.drewN_drewN _ _ _) (congrArg (World.drewN _) (Nat.add_assoc _ _ _))⟩))))
      go_meet
      case rel => exact ⟨_, ((t145 != a0)), (by first | rfl | (simp; done) | (simp [*]; done)), H', ⟨by first | omega | exact Nat.le_refl _⟩, ⟨by (with_reducible repeat (first | refine blk_drewN ?_ _ | refine blk_drew ?_ | refine blk_alloc ?_ _)); exact BK140.out⟩, ⟨by repeat (first | (with_reducible first | exact HB.out | apply below_alloc | apply pw_below_drewN | apply below_drew1 | refine below_set ?_ GE140.out) | exact HB.out)⟩⟩
    · rw [if_neg c11] at H
      have c11b0 : (t142 == t143) = false := beq_eq_false_iff_ne.mpr c11
      have c11b1 : (t142 != t143) = true := bne_iff_ne.mpr c11
      (first | rw [c11b0] | (simp only [i64_w, i32_w]; rw [c11b0]) | skip)
      have H' := Aside0.mk H
      clear H
      go_wp2_with (first | (go_at_call 22; (with_reducible refine (bits_Field.calls t141 (Go.bits .and .i64 a1_0 63) (wrap64 (1 + (Go.bits .and .i64 a1_1 63))) t142 _ A9.out).mono ?_); rintro e w' ⟨rfl, ⟨nd, rfl⟩⟩; (try first | exact ⟨rfl, _, World.drewN_drewN _ _ _⟩ | exact ⟨rfl, _, Eq.trans (World.drewN_drewN _ _ _) (congrArg (World.drewN _) (Nat.add_assoc _ _ _))⟩)) | (go_at_call 22; (with_reducible refine (bits_Field.calls a2 0 ji4 t143 _ A10.out).mono ?_); rintro e w' ⟨rfl, ⟨nd, rfl⟩⟩; (try first | exact ⟨rfl, _, World.drewN_drewN _ _ _⟩ | exact ⟨rfl, _, Eq.trans (World.drewN_drewN _ _ _) (congrArg (World.drewN _) (Nat.add_assoc _ _ _))⟩)))
      repeat (go_quiet (first | (go_at_call 22; (with_reducible refine (bits_Field.calls t141 (Go.bits .and .i64 a1_0 63) (wrap64 (1 + (Go.bits .and .i64 a1_1 63))) t142 _ A9.out).mono ?_); rintro e w' ⟨rfl, ⟨nd, rfl⟩⟩; (try first | exact ⟨rfl, _, World.drewN_drewN _ _ _⟩ | exact ⟨rfl, _, Eq.trans (World.drewN_drewN _ _ _) (congrArg (World.drewN _) (Nat.add_assoc _ _ _))⟩)) | (go_at_call 22; (with_reducible refine (bits_Field.calls a2 0 ji4 t143 _ A10.out).mono ?_); rintro e w' ⟨rfl, ⟨nd, rfl⟩⟩; (try first | exact ⟨rfl, _, World.drewN_drewN _ _ _⟩ | exact ⟨rfl, _, Eq.trans (World.drewN_drewN _ _ _) (congrArg (World.drewN _) (Nat.add_assoc _ _ _))⟩))); try go_wp2_with (first | (go_at_call 22; (with_reducible refine (bits_Field.calls t141 (Go.bits .and .i64 a1_0 63) (wrap64 (1 + (Go.bits .and .i64 a1_1 63))) t142 _ A9.out).mono ?_); rintro e w' ⟨rfl, ⟨nd, rfl⟩⟩; (try first | exact ⟨rfl, _, World.drewN_drewN _ _ _⟩ | exact ⟨rfl, _, Eq.trans (World.drewN_drewN _ _ _) (congrArg (World.drewN _) (Nat.add_assoc _ _ _))⟩)) | (go_at_call 22; (with_reducible refine (bits_Field.calls a2 0 ji4 t143 _ A10.out).mono ?_); rintro e w' ⟨rfl, ⟨nd, rfl⟩⟩; (try first | exact ⟨rfl, _, World.drewN_drewN _ _ _⟩ | exact ⟨rfl, _, Eq.trans (World.drewN_drewN _ _ _) (congrArg (World.drewN _) (Nat.add_assoc _ _ _))⟩))))
      go_meet
      case rel => exact ⟨_, (true), (by first | rfl | (simp; done) | (simp [*]; done)), H', ⟨by first | omega | exact Nat.le_refl _⟩, ⟨by (with_reducible repeat (first | refine blk_drewN ?_ _ | refine blk_drew ?_ | refine blk_alloc ?_ _)); exact BK140.out⟩, ⟨by repeat (first | (with_reducible first | exact HB.out | apply below_alloc | apply pw_below_drewN | apply below_drew1 | refine below_set ?_ GE140.out) | exact HB.out)⟩⟩
  case rest =>
    clear HC6
    try clear c1
    try clear p2
    try clear c6
    try clear p6
    try clear c11
    try clear c11b0
    try clear c11b1
    try clear hcz8_0
    try clear hcz8_1
    try clear hfz8_0
    try clear hfz8_1
    obtain ⟨kq, x46_5, rfl, HA, HJ5, BK140, HB⟩ := hcut
    cases kq with
    | zero => exact absurd HA.out (by simp [peristylelaw01_BitsStay.j0])
    | succ kj5 =>
      have H := HA.out
      clear HA
      simp only [peristylelaw01_BitsStay.j0] at H
      by_cases c14 : x46_5 = true
      · subst c14
        have H1 : (some false) = some r := by rw [if_pos rfl] at H; exact H
        clear H
        have H := H1
        clear H1
        obtain rfl := Option.some.inj H
        go_wp2
        repeat (go_quiet (fail); try go_wp2)
        go_ret
        exact ⟨by first | rfl | (simp [errW_none, errW_some] <;> rfl) | (simp only [← hji4]; first | rfl | (simp [errW_none, errW_some] <;> rfl)) | (simp [*, errW_none, errW_some] <;> rfl), by repeat (first | (with_reducible first | exact HB.out | apply below_alloc | apply pw_below_drewN | apply below_drew1 | refine below_set ?_ GE140.out) | exact HB.out)⟩
      · replace c14 := Bool.eq_false_iff.mpr c14
        subst c14
        have H1 : (if (Go.bits .and .i64 a1_0 63) > 0 then ((bits_Field.f t141 0 (Go.bits .and .i64 a1_0 63)).bind fun t146 => ((bits_Field.f a0 0 (Go.bits .and .i64 a1_0 63)).bind fun t147 => (peristylelaw01_BitsStay.j1 kj5 a0 (Go.bits .and .i64 a1_0 63) ji4 t141 (t146 != t147)))) else (peristylelaw01_BitsStay.j1 kj5 a0 (Go.bits .and .i64 a1_0 63) ji4 t141 false)) = some r := by rw [if_neg (show ¬ (false = true) by decide)] at H; exact H
        clear H
        have H := H1
        clear H1
        have HC15 := Aside0.mk H
        clear H
        go_upto_region 6 with (fail)
        repeat (go_quiet (fail); go_upto_region 6 with (fail))
        go_cut [57] (fun v57 wc => ∃ (kq : Nat) (x57_14 : Bool), v57 = .bool x57_14 ∧ Aside0 (peristylelaw01_BitsStay.j1 kq a0 (Go.bits .and .i64 a1_0 63) ji4 t141 x57_14 = some r) ∧ Aside0 (kq ≤ kj5) ∧ Aside0 (wc.heap[gb140]? = some (.cells #[.int .i64 a1_0, .int .i64 a1_1] 27 (0, 0))) ∧ Aside0 (Below w.heap.size w wc))
        case first =>
          have H := HC15.out
          clear HC15
          by_cases c16 : (Go.bits .and .i64 a1_0 63) > 0
          · rw [if_pos c16] at H
            have c16b0 : decide (0 < (Go.bits .and .i64 a1_0 63)) = true := decide_eq_true c16
            clear c16
            (first | rw [c16b0] | (simp only [i64_w, i32_w]; rw [c16b0]) | skip)
            replace H := Option.bind_eq_some_iff.mp H
            obtain ⟨t146, A170, H⟩ := H
            replace H : ((bits_Field.f a0 0 (Go.bits .and .i64 a1_0 63)).bind fun t147 => (peristylelaw01_BitsStay.j1 kj5 a0 (Go.bits .and .i64 a1_0 63) ji4 t141 (t146 != t147))) = some r := H
            have A17 := Aside0.mk A170
            clear A170
            replace H := Option.bind_eq_some_iff.mp H
            obtain ⟨t147, A180, H⟩ := H
            replace H : (peristylelaw01_BitsStay.j1 kj5 a0 (Go.bits .and .i64 a1_0 63) ji4 t141 (t146 != t147)) = some r := H
            have A18 := Aside0.mk A180
            clear A180
            have H' := Aside0.mk H
            clear H
            go_wp2_with (first | (go_at_call 22; (with_reducible refine (bits_Field.calls t141 0 (Go.bits .and .i64 a1_0 63) t146 _ A17.out).mono ?_); rintro e w' ⟨rfl, ⟨nd, rfl⟩⟩; (try first | exact ⟨rfl, _, World.drewN_drewN _ _ _⟩ | exact ⟨rfl, _, Eq.trans (World.drewN_drewN _ _ _) (congrArg (World.drewN _) (Nat.add_assoc _ _ _))⟩)) | (go_at_call 22; (with_reducible refine (bits_Field.calls a0 0 (Go.bits .and .i64 a1_0 63) t147 _ A18.out).mono ?_); rintro e w' ⟨rfl, ⟨nd, rfl⟩⟩; (try first | exact ⟨rfl, _, World.drewN_drewN _ _ _⟩ | exact ⟨rfl, _, Eq.trans (World.drewN_drewN _ _ _) (congrArg (World.drewN _) (Nat.add_assoc _ _ _))⟩)))
            repeat (go_quiet (first | (go_at_call 22; (with_reducible refine (bits_Field.calls t141 0 (Go.bits .and .i64 a1_0 63) t146 _ A17.out).mono ?_); rintro e w' ⟨rfl, ⟨nd, rfl⟩⟩; (try first | exact ⟨rfl, _, World.drewN_drewN _ _ _⟩ | exact ⟨rfl, _, Eq.trans (World.drewN_drewN _ _ _) (congrArg (World.drewN _) (Nat.add_assoc _ _ _))⟩)) | (go_at_call 22; (with_reducible refine (bits_Field.calls a0 0 (Go.bits .and .i64 a1_0 63) t147 _ A18.out).mono ?_); rintro e w' ⟨rfl, ⟨nd, rfl⟩⟩; (try first | exact ⟨rfl, _, World.drewN_drewN _ _ _⟩ | exact ⟨rfl, _, Eq.trans (World.drewN_drewN _ _ _) (congrArg (World.drewN _) (Nat.add_assoc _ _ _))⟩))); try go_wp2_with (first | (go_at_call 22; (with_reducible refine (bits_Field.calls t141 0 (Go.bits .and .i64 a1_0 63) t146 _ A17.out).mono ?_); rintro e w' ⟨rfl, ⟨nd, rfl⟩⟩; (try first | exact ⟨rfl, _, World.drewN_drewN _ _ _⟩ | exact ⟨rfl, _, Eq.trans (World.drewN_drewN _ _ _) (congrArg (World.drewN _) (Nat.add_assoc _ _ _))⟩)) | (go_at_call 22; (with_reducible refine (bits_Field.calls a0 0 (Go.bits .and .i64 a1_0 63) t147 _ A18.out).mono ?_); rintro e w' ⟨rfl, ⟨nd, rfl⟩⟩; (try first | exact ⟨rfl, _, World.drewN_drewN _ _ _⟩ | exact ⟨rfl, _, Eq.trans (World.drewN_drewN _ _ _) (congrArg (World.drewN _) (Nat.add_assoc _ _ _))⟩))))
            go_meet
            case rel => exact ⟨_, ((t146 != t147)), (by first | rfl | (simp; done) | (simp [*]; done)), H', ⟨by have := HJ5.out; first | omega | exact Nat.le_refl _⟩, ⟨by (with_reducible repeat (first | refine blk_drewN ?_ _ | refine blk_drew ?_ | refine blk_alloc ?_ _)); exact BK140.out⟩, ⟨by repeat (first | (with_reducible first | exact HB.out | apply below_alloc | apply pw_below_drewN | apply below_drew1 | refine below_set ?_ GE140.out) | exact HB.out)⟩⟩
          · rw [if_neg c16] at H
            have c16b0 : decide (0 < (Go.bits .and .i64 a1_0 63)) = false := decide_eq_false c16
            clear c16
            (first | rw [c16b0] | (simp only [i64_w, i32_w]; rw [c16b0]) | skip)
            have H' := Aside0.mk H
            clear H
            go_wp2
            repeat (go_quiet (fail); try go_wp2)
            go_meet
            case rel => exact ⟨_, (false), (by first | rfl | (simp; done) | (simp [*]; done)), H', ⟨by have := HJ5.out; first | omega | exact Nat.le_refl _⟩, ⟨by (with_reducible repeat (first | refine blk_drewN ?_ _ | refine blk_drew ?_ | refine blk_alloc ?_ _)); exact BK140.out⟩, ⟨by repeat (first | (with_reducible first | exact HB.out | apply below_alloc | apply pw_below_drewN | apply below_drew1 | refine below_set ?_ GE140.out) | exact HB.out)⟩⟩
        case rest =>
          clear HC15
          try clear c1
          try clear p2
          try clear c6
          try clear p6
          try clear c11
          try clear c11b0
          try clear c11b1
          try clear c14
          try clear c16
          try clear c16b0
          try clear hcz8_0
          try clear hcz8_1
          try clear hfz8_0
          try clear hfz8_1
          try clear p2
          try clear p6
          obtain ⟨kq, x57_14, rfl, HA, HJ14, BK140, HB⟩ := hcut
          cases kq with
          | zero => exact absurd HA.out (by simp [peristylelaw01_BitsStay.j1])
          | succ kj14 =>
            have H := HA.out
            clear HA
            simp only [peristylelaw01_BitsStay.j1] at H
            by_cases c19 : x57_14 = true
            · subst c19
              have H1 : (some false) = some r := by rw [if_pos rfl] at H; exact H
              clear H
              have H := H1
              clear H1
              obtain rfl := Option.some.inj H
              go_wp2
              repeat (go_quiet (fail); try go_wp2)
              go_ret
              exact ⟨by first | rfl | (simp [errW_none, errW_some] <;> rfl) | (simp only [← hji4]; first | rfl | (simp [errW_none, errW_some] <;> rfl)) | (simp [*, errW_none, errW_some] <;> rfl), by repeat (first | (with_reducible first | exact HB.out | apply below_alloc | apply pw_below_drewN | apply below_drew1 | refine below_set ?_ GE140.out) | exact HB.out)⟩
            · replace c19 := Bool.eq_false_iff.mpr c19
              subst c19
              have H1 : (if (wrap64 ((Go.bits .and .i64 a1_0 63) + ji4)) > 63 then ((peristylelaw01_awake.f kj14).bind fun t148 => (some t148)) else ((bits_Field.f t141 (wrap64 ((Go.bits .and .i64 a1_0 63) + ji4)) 64).bind fun t149 => ((bits_Field.f a0 (wrap64 ((Go.bits .and .i64 a1_0 63) + ji4)) 64).bind fun t150 => (if t149 = t150 then ((peristylelaw01_awake.f kj14).bind fun t151 => (some t151)) else (some false))))) = some r := by rw [if_neg (show ¬ (false = true) by decide)] at H; exact H
              clear H
              have H := H1
              clear H1
              by_cases c20 : (wrap64 ((Go.bits .and .i64 a1_0 63) + ji4)) > 63
              · rw [if_pos c20] at H
                have c20b0 : decide (63 < (wrap64 ((Go.bits .and .i64 a1_0 63) + ji4))) = true := decide_eq_true c20
                clear c20
                replace H := Option.bind_eq_some_iff.mp H
                obtain ⟨t148, A210, H⟩ := H
                replace H : (some t148) = some r := H
                have A21 := Aside0.mk A210
                clear A210
                obtain rfl := Option.some.inj H
                go_wp2_with (first | (go_at_call 17; (with_reducible refine (peristylelaw01_awake.calls kj14  t148 _ A21.out).mono ?_); rintro e w22 ⟨rfl, hb⟩; have n0_ := Aside0.mk (blk_below (g := gb140) (o := .cells #[.int .i64 a1_0, .int .i64 a1_1] 27 (0, 0)) (by (with_reducible repeat (first | refine blk_drewN ?_ _ | refine blk_drew ?_ | refine blk_alloc ?_ _)); exact BK140.out) hb); have n1_ := Aside0.mk (below_step (by repeat (first | (with_reducible first | exact HB.out | apply below_alloc | apply pw_below_drewN | apply below_drew1 | refine below_set ?_ GE140.out) | exact HB.out)) hb); clear BK140; clear HB; have BK140 := n0_; have HB := n1_; clear n0_ n1_; (try clear hb); (try clear hb2); (try clear hk); (try clear hi)))
                repeat (go_quiet (first | (go_at_call 17; (with_reducible refine (peristylelaw01_awake.calls kj14  t148 _ A21.out).mono ?_); rintro e w22 ⟨rfl, hb⟩; have n0_ := Aside0.mk (blk_below (g := gb140) (o := .cells #[.int .i64 a1_0, .int .i64 a1_1] 27 (0, 0)) (by (with_reducible repeat (first | refine blk_drewN ?_ _ | refine blk_drew ?_ | refine blk_alloc ?_ _)); exact BK140.out) hb); have n1_ := Aside0.mk (below_step (by repeat (first | (with_reducible first | exact HB.out | apply below_alloc | apply pw_below_drewN | apply below_drew1 | refine below_set ?_ GE140.out) | exact HB.out)) hb); clear BK140; clear HB; have BK140 := n0_; have HB := n1_; clear n0_ n1_; (try clear hb); (try clear hb2); (try clear hk); (try clear hi))); try go_wp2_with (first | (go_at_call 17; (with_reducible refine (peristylelaw01_awake.calls kj14  t148 _ A21.out).mono ?_); rintro e w22 ⟨rfl, hb⟩; have n0_ := Aside0.mk (blk_below (g := gb140) (o := .cells #[.int .i64 a1_0, .int .i64 a1_1] 27 (0, 0)) (by (with_reducible repeat (first | refine blk_drewN ?_ _ | refine blk_drew ?_ | refine blk_alloc ?_ _)); exact BK140.out) hb); have n1_ := Aside0.mk (below_step (by repeat (first | (with_reducible first | exact HB.out | apply below_alloc | apply pw_below_drewN | apply below_drew1 | refine below_set ?_ GE140.out) | exact HB.out)) hb); clear BK140; clear HB; have BK140 := n0_; have HB := n1_; clear n0_ n1_; (try clear hb); (try clear hb2); (try clear hk); (try clear hi))))
                go_ret
                exact ⟨by first | rfl | (simp [errW_none, errW_some] <;> rfl) | (simp only [← hji4]; first | rfl | (simp [errW_none, errW_some] <;> rfl)) | (simp [*, errW_none, errW_some] <;> rfl), by repeat (first | (with_reducible first | exact HB.out | apply below_alloc | apply pw_below_drewN | apply below_drew1 | refine below_set ?_ GE140.out) | exact HB.out)⟩
              · rw [if_neg c20] at H
                have c20b0 : decide (63 < (wrap64 ((Go.bits .and .i64 a1_0 63) + ji4))) = false := decide_eq_false c20
                clear c20
                replace H := Option.bind_eq_some_iff.mp H
                obtain ⟨t149, A230, H⟩ := H
                replace H : ((bits_Field.f a0 (wrap64 ((Go.bits .and .i64 a1_0 63) + ji4)) 64).bind fun t150 => (if t149 = t150 then ((peristylelaw01_awake.f kj14).bind fun t151 => (some t151)) else (some false))) = some r := H
                have A23 := Aside0.mk A230
                clear A230
                replace H := Option.bind_eq_some_iff.mp H
                obtain ⟨t150, A240, H⟩ := H
                replace H : (if t149 = t150 then ((peristylelaw01_awake.f kj14).bind fun t151 => (some t151)) else (some false)) = some r := H
                have A24 := Aside0.mk A240
                clear A240
                by_cases c25 : t149 = t150
                · rw [if_pos c25] at H
                  have c25b0 : (t149 == t150) = true := beq_iff_eq.mpr c25
                  have c25b1 : (t149 != t150) = false := bne_eq_false_iff_eq.mpr c25
                  clear c25
                  replace H := Option.bind_eq_some_iff.mp H
                  obtain ⟨t151, A260, H⟩ := H
                  replace H : (some t151) = some r := H
                  have A26 := Aside0.mk A260
                  clear A260
                  obtain rfl := Option.some.inj H
                  go_wp2_with (first | (go_at_call 22; (with_reducible refine (bits_Field.calls t141 (wrap64 ((Go.bits .and .i64 a1_0 63) + ji4)) 64 t149 _ A23.out).mono ?_); rintro e w' ⟨rfl, ⟨nd, rfl⟩⟩; (try first | exact ⟨rfl, _, World.drewN_drewN _ _ _⟩ | exact ⟨rfl, _, Eq.trans (World.drewN_drewN _ _ _) (congrArg (World.drewN _) (Nat.add_assoc _ _ _))⟩)) | (go_at_call 22; (with_reducible refine (bits_Field.calls a0 (wrap64 ((Go.bits .and .i64 a1_0 63) + ji4)) 64 t150 _ A24.out).mono ?_); rintro e w' ⟨rfl, ⟨nd, rfl⟩⟩; (try first | exact ⟨rfl, _, World.drewN_drewN _ _ _⟩ | exact ⟨rfl, _, Eq.trans (World.drewN_drewN _ _ _) (congrArg (World.drewN _) (Nat.add_assoc _ _ _))⟩)) | (go_at_call 17; (with_reducible refine (peristylelaw01_awake.calls kj14  t151 _ A26.out).mono ?_); rintro e w27 ⟨rfl, hb⟩; have n0_ := Aside0.mk (blk_below (g := gb140) (o := .cells #[.int .i64 a1_0, .int .i64 a1_1] 27 (0, 0)) (by (with_reducible repeat (first | refine blk_drewN ?_ _ | refine blk_drew ?_ | refine blk_alloc ?_ _)); exact BK140.out) hb); have n1_ := Aside0.mk (below_step (by repeat (first | (with_reducible first | exact HB.out | apply below_alloc | apply pw_below_drewN | apply below_drew1 | refine below_set ?_ GE140.out) | exact HB.out)) hb); clear BK140; clear HB; have BK140 := n0_; have HB := n1_; clear n0_ n1_; (try clear hb); (try clear hb2); (try clear hk); (try clear hi)))
                  repeat (go_quiet (first | (go_at_call 22; (with_reducible refine (bits_Field.calls t141 (wrap64 ((Go.bits .and .i64 a1_0 63) + ji4)) 64 t149 _ A23.out).mono ?_); rintro e w' ⟨rfl, ⟨nd, rfl⟩⟩; (try first | exact ⟨rfl, _, World.drewN_drewN _ _ _⟩ | exact ⟨rfl, _, Eq.trans (World.drewN_drewN _ _ _) (congrArg (World.drewN _) (Nat.add_assoc _ _ _))⟩)) | (go_at_call 22; (with_reducible refine (bits_Field.calls a0 (wrap64 ((Go.bits .and .i64 a1_0 63) + ji4)) 64 t150 _ A24.out).mono ?_); rintro e w' ⟨rfl, ⟨nd, rfl⟩⟩; (try first | exact ⟨rfl, _, World.drewN_drewN _ _ _⟩ | exact ⟨rfl, _, Eq.trans (World.drewN_drewN _ _ _) (congrArg (World.drewN _) (Nat.add_assoc _ _ _))⟩)) | (go_at_call 17; (with_reducible refine (peristylelaw01_awake.calls kj14  t151 _ A26.out).mono ?_); rintro e w27 ⟨rfl, hb⟩; have n0_ := Aside0.mk (blk_below (g := gb140) (o := .cells #[.int .i64 a1_0, .int .i64 a1_1] 27 (0, 0)) (by (with_reducible repeat (first | refine blk_drewN ?_ _ | refine blk_drew ?_ | refine blk_alloc ?_ _)); exact BK140.out) hb); have n1_ := Aside0.mk (below_step (by repeat (first | (with_reducible first | exact HB.out | apply below_alloc | apply pw_below_drewN | apply below_drew1 | refine below_set ?_ GE140.out) | exact HB.out)) hb); clear BK140; clear HB; have BK140 := n0_; have HB := n1_; clear n0_ n1_; (try clear hb); (try clear hb2); (try clear hk); (try clear hi))); try go_wp2_with (first | (go_at_call 22; (with_reducible refine (bits_Field.calls t141 (wrap64 ((Go.bits .and .i64 a1_0 63) + ji4)) 64 t149 _ A23.out).mono ?_); rintro e w' ⟨rfl, ⟨nd, rfl⟩⟩; (try first | exact ⟨rfl, _, World.drewN_drewN _ _ _⟩ | exact ⟨rfl, _, Eq.trans (World.drewN_drewN _ _ _) (congrArg (World.drewN _) (Nat.add_assoc _ _ _))⟩)) | (go_at_call 22; (with_reducible refine (bits_Field.calls a0 (wrap64 ((Go.bits .and .i64 a1_0 63) + ji4)) 64 t150 _ A24.out).mono ?_); rintro e w' ⟨rfl, ⟨nd, rfl⟩⟩; (try first | exact ⟨rfl, _, World.drewN_drewN _ _ _⟩ | exact ⟨rfl, _, Eq.trans (World.drewN_drewN _ _ _) (congrArg (World.drewN _) (Nat.add_assoc _ _ _))⟩)) | (go_at_call 17; (with_reducible refine (peristylelaw01_awake.calls kj14  t151 _ A26.out).mono ?_); rintro e w27 ⟨rfl, hb⟩; have n0_ := Aside0.mk (blk_below (g := gb140) (o := .cells #[.int .i64 a1_0, .int .i64 a1_1] 27 (0, 0)) (by (with_reducible repeat (first | refine blk_drewN ?_ _ | refine blk_drew ?_ | refine blk_alloc ?_ _)); exact BK140.out) hb); have n1_ := Aside0.mk (below_step (by repeat (first | (with_reducible first | exact HB.out | apply below_alloc | apply pw_below_drewN | apply below_drew1 | refine below_set ?_ GE140.out) | exact HB.out)) hb); clear BK140; clear HB; have BK140 := n0_; have HB := n1_; clear n0_ n1_; (try clear hb); (try clear hb2); (try clear hk); (try clear hi))))
                  go_ret
                  exact ⟨by first | rfl | (simp [errW_none, errW_some] <;> rfl) | (simp only [← hji4]; first | rfl | (simp [errW_none, errW_some] <;> rfl)) | (simp [*, errW_none, errW_some] <;> rfl), by repeat (first | (with_reducible first | exact HB.out | apply below_alloc | apply pw_below_drewN | apply below_drew1 | refine below_set ?_ GE140.out) | exact HB.out)⟩
                · rw [if_neg c25] at H
                  have c25b0 : (t149 == t150) = false := beq_eq_false_iff_ne.mpr c25
                  have c25b1 : (t149 != t150) = true := bne_iff_ne.mpr c25
                  obtain rfl := Option.some.inj H
                  go_wp2_with (first | (go_at_call 22; (with_reducible refine (bits_Field.calls t141 (wrap64 ((Go.bits .and .i64 a1_0 63) + ji4)) 64 t149 _ A23.out).mono ?_); rintro e w' ⟨rfl, ⟨nd, rfl⟩⟩; (try first | exact ⟨rfl, _, World.drewN_drewN _ _ _⟩ | exact ⟨rfl, _, Eq.trans (World.drewN_drewN _ _ _) (congrArg (World.drewN _) (Nat.add_assoc _ _ _))⟩)) | (go_at_call 22; (with_reducible refine (bits_Field.calls a0 (wrap64 ((Go.bits .and .i64 a1_0 63) + ji4)) 64 t150 _ A24.out).mono ?_); rintro e w' ⟨rfl, ⟨nd, rfl⟩⟩; (try first | exact ⟨rfl, _, World.drewN_drewN _ _ _⟩ | exact ⟨rfl, _, Eq.trans (World.drewN_drewN _ _ _) (congrArg (World.drewN _) (Nat.add_assoc _ _ _))⟩)))
                  repeat (go_quiet (first | (go_at_call 22; (with_reducible refine (bits_Field.calls t141 (wrap64 ((Go.bits .and .i64 a1_0 63) + ji4)) 64 t149 _ A23.out).mono ?_); rintro e w' ⟨rfl, ⟨nd, rfl⟩⟩; (try first | exact ⟨rfl, _, World.drewN_drewN _ _ _⟩ | exact ⟨rfl, _, Eq.trans (World.drewN_drewN _ _ _) (congrArg (World.drewN _) (Nat.add_assoc _ _ _))⟩)) | (go_at_call 22; (with_reducible refine (bits_Field.calls a0 (wrap64 ((Go.bits .and .i64 a1_0 63) + ji4)) 64 t150 _ A24.out).mono ?_); rintro e w' ⟨rfl, ⟨nd, rfl⟩⟩; (try first | exact ⟨rfl, _, World.drewN_drewN _ _ _⟩ | exact ⟨rfl, _, Eq.trans (World.drewN_drewN _ _ _) (congrArg (World.drewN _) (Nat.add_assoc _ _ _))⟩))); try go_wp2_with (first | (go_at_call 22; (with_reducible refine (bits_Field.calls t141 (wrap64 ((Go.bits .and .i64 a1_0 63) + ji4)) 64 t149 _ A23.out).mono ?_); rintro e w' ⟨rfl, ⟨nd, rfl⟩⟩; (try first | exact ⟨rfl, _, World.drewN_drewN _ _ _⟩ | exact ⟨rfl, _, Eq.trans (World.drewN_drewN _ _ _) (congrArg (World.drewN _) (Nat.add_assoc _ _ _))⟩)) | (go_at_call 22; (with_reducible refine (bits_Field.calls a0 (wrap64 ((Go.bits .and .i64 a1_0 63) + ji4)) 64 t150 _ A24.out).mono ?_); rintro e w' ⟨rfl, ⟨nd, rfl⟩⟩; (try first | exact ⟨rfl, _, World.drewN_drewN _ _ _⟩ | exact ⟨rfl, _, Eq.trans (World.drewN_drewN _ _ _) (congrArg (World.drewN _) (Nat.add_assoc _ _ _))⟩))))
                  go_ret
                  exact ⟨by first | rfl | (simp [errW_none, errW_some] <;> rfl) | (simp only [← hji4]; first | rfl | (simp [errW_none, errW_some] <;> rfl)) | (simp [*, errW_none, errW_some] <;> rfl), by repeat (first | (with_reducible first | exact HB.out | apply below_alloc | apply pw_below_drewN | apply below_drew1 | refine below_set ?_ GE140.out) | exact HB.out)⟩

/-- THE ONE PURE STATEMENT of peristylelaw01_BitsStay: yours. -/
def peristylelaw01_BitsStay.Pure : Prop := ∀ (a0 : Int) (a1_0 : Int) (a1_1 : Int) (a2 : Int), (fun z : Int => (Lit.int .i64 z).wf = true) a0 → (fun z : Int => (Lit.int .i64 z).wf = true) a1_0 → (fun z : Int => (Lit.int .i64 z).wf = true) a1_1 → (fun z : Int => (Lit.int .i64 z).wf = true) a2 → ∃ k, peristylelaw01_BitsStay.f k a0 a1_0 a1_1 a2 = some true
theorem peristylelaw01_BitsStay.walk (P : peristylelaw01_BitsStay.Pure) (a0 : Int) (a1_0 : Int) (a1_1 : Int) (a2 : Int) (w : World) (w0 : (fun z : Int => (Lit.int .i64 z).wf = true) a0) (w1_0 : (fun z : Int => (Lit.int .i64 z).wf = true) a1_0) (w1_1 : (fun z : Int => (Lit.int .i64 z).wf = true) a1_1) (w2 : (fun z : Int => (Lit.int .i64 z).wf = true) a2) :
    Calls Try.prog 6 #[.int .i64 a0, .agg #[.int .i64 a1_0, .int .i64 a1_1], .int .i64 a2] w fun e w' => e = .returned (.bool true) ∧ Below w.heap.size w w' := by
  obtain ⟨k, h⟩ := P a0 a1_0 a1_1 a2 w0 w1_0 w1_1 w2
  refine (peristylelaw01_BitsStay.calls k a0 a1_0 a1_1 a2 true w h).mono ?_
  rintro e w' ⟨rfl, hd⟩
  exact ⟨rfl, hd⟩

/-! ### peristyleref01_Turn: function 27 (a contract of the session's own) -/
def peristyleref01_Turn.f (a0 a1 : Int) : Option (Int) := some (wordTo (turnTo (bitsOf a0) a1 64) 64)
set_option maxHeartbeats 1600000 in
theorem peristyleref01_Turn.calls0 (a0 a1 : Int) (w : World) :
    Calls Try.prog 27 #[.int .i64 a0, .int .i64 a1] w fun e w' => e = .returned (.int .i64 (wordTo (turnTo (bitsOf a0) a1 64) 64)) ∧ Below w.heap.size w w' := by
  go_enter Try.func27, Try.ntmps27
  go_wp2_with (first | (go_at_call 28; refine (peristyleref01_Of.calls a0 _).mono ?_; rintro e w1 ⟨rfl, HB1⟩) | ((with_reducible refine gate_dst (N := 5) rfl ?_); refine arr_alloc (w0 := w) w.heap.size rfl 34 rfl _ 64 peristyleref01_Of.zero HB1 HB1.size ?_; intro g0 w2 hg0 hb0 hs0 HB2 hbs2 hgr2) | ((with_reducible refine gate_store (t := 34) (p := 5) rfl ?_); refine arr_store (w0 := w) w.heap.size rfl 34 _ _ rfl g0 _ _ rfl rfl hg0 (by rw [arrB_size, bitsOf_length]; exact peristyleref01_Of.size) (by rw [arrB_size, arrB_size, bitsOf_length]; rfl) (arrB_one _) HB2 hb0 ?_; intro w3 hg3 HB3 hbs3 hgr3) | ((with_reducible refine gate_dst (N := 10) rfl ?_); refine arr_build rfl 34 rfl _ 64 4 64 peristyleref01_Of.zero Try.underlying34 peristyleref01_Of.elem ?_) | ((with_reducible refine gate_dst (N := 6) rfl ?_); refine arr_alloc (w0 := w) w.heap.size rfl 34 rfl _ 64 peristyleref01_Of.zero HB3 hbs3 ?_; intro g1 w4 hg1 hb1 hs1 HB4 hbs4 hgr4) | ((with_reducible refine gate_store (t := 34) (p := 6) rfl ?_); refine arr_store (w0 := w) w.heap.size rfl 34 _ _ rfl g1 _ _ rfl rfl hg1 peristyleref01_Of.size rfl (arrB_one _) HB4 hb1 ?_; intro w5 hg5 HB5 hbs5 hgr5))
  have hne : g0 ≠ g1 := by have := blk_lt hg3; omega
  have hg05 := blk_grown (blk_grown hg3 hgr4 (by simp)) hgr5 (by simpa using hne)
  have A1 := Aside0.mk hg05
  have A2 := Aside0.mk hg5
  have A3 := Aside0.mk HB5
  have A4 := Aside0.mk hne
  clear hg0 hs0 HB1 HB2 hbs2 hgr2 hg3 HB3 hbs3 hgr3 hg1 hs1 HB4 hbs4 hgr4 hg5 HB5 hbs5 hgr5 hne hg05
  go_loopw [7] (fun v7 wr => ∃ k : Nat, k ≤ 64 ∧ v7 = .int .i64 k ∧ Aside0 (wr.heap[g1]? = some (.cells (arrB (turnTo (bitsOf a0) a1 k)) 34 (0, 0))) ∧ Aside0 (wr.heap[g0]? = some (.cells (arrB (bitsOf a0)) 34 (0, 0))) ∧ Aside0 (Below w.heap.size w wr)) (fun v7 _ => 64 - (intOf v7).toNat)
  case atStart => exact ⟨0, by omega, rfl, A2, A1, A3⟩
  case round =>
    clear A1 A2 A3
    obtain ⟨k, hk, rfl, C1, C2, C3⟩ := hrel
    have HL : Aside0 ((turnTo (bitsOf a0) a1 k).length = 64) := ⟨turnTo_length _ _ _⟩
    by_cases hlt : k < 64
    · have hk0 : (0 : Int) ≤ (k : Int) := by omega
      have hk1 : (k : Int) < 64 := by omega
      have e1 := and_63 a1
      have e2 := and_63 ((k : Int) + a1 % 64)
      have hq0 : 0 ≤ a1 % 64 := by omega
      have hq1 : a1 % 64 < 64 := by omega
      have HS : Aside0 (turnTo (bitsOf a0) a1 (k + 1) = (turnTo (bitsOf a0) a1 k).set (((k : Int) + a1 % 64) % 64).toNat (bAt (bitsOf a0) k)) := ⟨rfl⟩
      obtain ⟨q, HQ⟩ : ∃ q : Int, Aside0 (a1 % 64 = q) := ⟨_, ⟨rfl⟩⟩
      rw [HQ.out] at e1 e2 hq0 hq1 HS
      obtain ⟨m, HM⟩ : ∃ m : Nat, Aside0 (((k : Int) + q) % 64 = (m : Int)) := ⟨(((k : Int) + q) % 64).toNat, ⟨by omega⟩⟩
      have hm1 : (m : Int) < 64 := by have := HM.out; omega
      have hm0 : (0 : Int) ≤ (m : Int) := by omega
      rw [HM.out] at e2 HS
      rw [Int.toNat_natCast] at HS
      have co : wr.cell? ⟨g1, m, none⟩ = some (.bool (bAt (turnTo (bitsOf a0) a1 k) m)) := arrB_cell C1.out m (by rw [HL.out]; omega)
      have fo : wr.frozen? ⟨g1, m, none⟩ = false := blk_frozen C1.out m
      have cb : wr.cell? ⟨g0, k, none⟩ = some (.bool (bAt (bitsOf a0) k)) := arrB_cell C2.out k (by rw [bitsOf_length]; omega)
      generalize bAt (turnTo (bitsOf a0) a1 k) m = old at co
      clear hlt hk
      go_wp2
      go_roundw
      case rel => exact ⟨k + 1, by omega, by go_num, ⟨by rw [HS.out]; exact arrB_put C1.out m (bAt (bitsOf a0) k)⟩, ⟨blk_far C2.out (fun e => A4.out e) _⟩, ⟨C3.out.setCell hb1 _⟩⟩
      case measure => simp [intOf]; omega
    · have hk64 : ¬ (k : Int) < 64 := by omega
      obtain rfl : k = 64 := by omega
      clear hk64 hlt hk
      go_wp2_with (first | ((with_reducible refine gate_dst (N := 24) rfl ?_); refine wpList_load_row rfl 34 _ rfl g1 rfl 34 _ (0, 0) _ C1.out Try.underlying34 rfl (by rw [arrB_size, HL.out]; exact peristyleref01_Of.size) ?_) | (go_at_call 30; refine (peristyleref01_Word.calls _ HL.out _).mono ?_; rintro e w9 ⟨rfl, HB9⟩))
      go_ret
      exact ⟨rfl, below_step C3.out HB9⟩
theorem peristyleref01_Turn.calls (a0 a1 : Int) (r : Int) (w : World) (h : peristyleref01_Turn.f a0 a1 = some r) :
    Calls Try.prog 27 #[.int .i64 a0, .int .i64 a1] w fun e w' => e = .returned (.int .i64 r) ∧ Below w.heap.size w w' := by
  obtain rfl := Option.some.inj h
  exact peristyleref01_Turn.calls0 a0 a1 w


/-! ### peristylelaw01_BitsTurns: function 7 -/
def peristylelaw01_BitsTurns.f (k : Nat) (a0 : Int) (a1 : Int) (a2 : Int) : Option (Bool) := (bits_Turn.f a0 a1).bind fun t152 => ((peristyleref01_Turn.f a0 a1).bind fun t153 => (if t152 = t153 then ((bits_Ones.f k t152).bind fun t154 => ((bits_Ones.f k a0).bind fun t155 => (if t154 = t155 then ((bits_Turn.f t152 (wrap64 (64 - (Go.bits .and .i64 a1 63)))).bind fun t156 => (if t156 = a0 then ((bits_Turn.f t152 (Go.bits .and .i64 a2 63)).bind fun t157 => ((bits_Turn.f a0 (wrap64 ((Go.bits .and .i64 a1 63) + (Go.bits .and .i64 a2 63)))).bind fun t158 => (if t157 = t158 then ((bits_Turn.f a0 64).bind fun t159 => (if t159 = a0 then ((peristylelaw01_awake.f k).bind fun t160 => (some t160)) else (some false))) else (some false)))) else (some false))) else (some false)))) else (some false)))
theorem peristylelaw01_BitsTurns.mono : ∀ a0 a1 a2 k, LeO (peristylelaw01_BitsTurns.f k a0 a1 a2) (peristylelaw01_BitsTurns.f (k + 1) a0 a1 a2) := by
  intro a0 a1 a2 k
  unfold peristylelaw01_BitsTurns.f
  repeat' first
      | (with_reducible exact bits_Ones.mono _ _)
      | (with_reducible exact peristylelaw01_awake.mono _)
      | (with_reducible exact LeO.refl _)
      | (with_reducible exact LeO.none _)
      | (with_reducible refine LeO.ite ?_ ?_)
      | (with_reducible refine LeO.bind ?_ (fun _ => ?_))
      | exact bits_Ones.mono _ _
      | exact peristylelaw01_awake.mono _
      | exact LeO.none _
      | refine LeO.ite ?_ ?_
      | refine LeO.bind ?_ (fun _ => ?_)
set_option maxHeartbeats 8000000 in
set_option maxRecDepth 100000 in
theorem peristylelaw01_BitsTurns.calls (k : Nat) (a0 : Int) (a1 : Int) (a2 : Int) (r : Bool) (w : World) (h : peristylelaw01_BitsTurns.f k a0 a1 a2 = some r) :
    Calls Try.prog 7 #[.int .i64 a0, .int .i64 a1, .int .i64 a2] w fun e w' => e = .returned (.bool r) ∧ Below w.heap.size w w' := by
  have HB := Aside0.mk (Below.refl w.heap.size w)
  have H : ((bits_Turn.f a0 a1).bind fun t152 => ((peristyleref01_Turn.f a0 a1).bind fun t153 => (if t152 = t153 then ((bits_Ones.f k t152).bind fun t154 => ((bits_Ones.f k a0).bind fun t155 => (if t154 = t155 then ((bits_Turn.f t152 (wrap64 (64 - (Go.bits .and .i64 a1 63)))).bind fun t156 => (if t156 = a0 then ((bits_Turn.f t152 (Go.bits .and .i64 a2 63)).bind fun t157 => ((bits_Turn.f a0 (wrap64 ((Go.bits .and .i64 a1 63) + (Go.bits .and .i64 a2 63)))).bind fun t158 => (if t157 = t158 then ((bits_Turn.f a0 64).bind fun t159 => (if t159 = a0 then ((peristylelaw01_awake.f k).bind fun t160 => (some t160)) else (some false))) else (some false)))) else (some false))) else (some false)))) else (some false)))) = some r := h
  clear h
  replace H := Option.bind_eq_some_iff.mp H
  obtain ⟨t152, A40, H⟩ := H
  replace H : ((peristyleref01_Turn.f a0 a1).bind fun t153 => (if t152 = t153 then ((bits_Ones.f k t152).bind fun t154 => ((bits_Ones.f k a0).bind fun t155 => (if t154 = t155 then ((bits_Turn.f t152 (wrap64 (64 - (Go.bits .and .i64 a1 63)))).bind fun t156 => (if t156 = a0 then ((bits_Turn.f t152 (Go.bits .and .i64 a2 63)).bind fun t157 => ((bits_Turn.f a0 (wrap64 ((Go.bits .and .i64 a1 63) + (Go.bits .and .i64 a2 63)))).bind fun t158 => (if t157 = t158 then ((bits_Turn.f a0 64).bind fun t159 => (if t159 = a0 then ((peristylelaw01_awake.f k).bind fun t160 => (some t160)) else (some false))) else (some false)))) else (some false))) else (some false)))) else (some false))) = some r := H
  have A4 := Aside0.mk A40
  clear A40
  replace H := Option.bind_eq_some_iff.mp H
  obtain ⟨t153, A50, H⟩ := H
  replace H : (if t152 = t153 then ((bits_Ones.f k t152).bind fun t154 => ((bits_Ones.f k a0).bind fun t155 => (if t154 = t155 then ((bits_Turn.f t152 (wrap64 (64 - (Go.bits .and .i64 a1 63)))).bind fun t156 => (if t156 = a0 then ((bits_Turn.f t152 (Go.bits .and .i64 a2 63)).bind fun t157 => ((bits_Turn.f a0 (wrap64 ((Go.bits .and .i64 a1 63) + (Go.bits .and .i64 a2 63)))).bind fun t158 => (if t157 = t158 then ((bits_Turn.f a0 64).bind fun t159 => (if t159 = a0 then ((peristylelaw01_awake.f k).bind fun t160 => (some t160)) else (some false))) else (some false)))) else (some false))) else (some false)))) else (some false)) = some r := H
  have A5 := Aside0.mk A50
  clear A50
  by_cases c6 : t152 = t153
  · rw [if_pos c6] at H
    have c6b0 : (t152 == t153) = true := beq_iff_eq.mpr c6
    have c6b1 : (t152 != t153) = false := bne_eq_false_iff_eq.mpr c6
    clear c6
    replace H := Option.bind_eq_some_iff.mp H
    obtain ⟨t154, A70, H⟩ := H
    replace H : ((bits_Ones.f k a0).bind fun t155 => (if t154 = t155 then ((bits_Turn.f t152 (wrap64 (64 - (Go.bits .and .i64 a1 63)))).bind fun t156 => (if t156 = a0 then ((bits_Turn.f t152 (Go.bits .and .i64 a2 63)).bind fun t157 => ((bits_Turn.f a0 (wrap64 ((Go.bits .and .i64 a1 63) + (Go.bits .and .i64 a2 63)))).bind fun t158 => (if t157 = t158 then ((bits_Turn.f a0 64).bind fun t159 => (if t159 = a0 then ((peristylelaw01_awake.f k).bind fun t160 => (some t160)) else (some false))) else (some false)))) else (some false))) else (some false))) = some r := H
    have A7 := Aside0.mk A70
    clear A70
    replace H := Option.bind_eq_some_iff.mp H
    obtain ⟨t155, A80, H⟩ := H
    replace H : (if t154 = t155 then ((bits_Turn.f t152 (wrap64 (64 - (Go.bits .and .i64 a1 63)))).bind fun t156 => (if t156 = a0 then ((bits_Turn.f t152 (Go.bits .and .i64 a2 63)).bind fun t157 => ((bits_Turn.f a0 (wrap64 ((Go.bits .and .i64 a1 63) + (Go.bits .and .i64 a2 63)))).bind fun t158 => (if t157 = t158 then ((bits_Turn.f a0 64).bind fun t159 => (if t159 = a0 then ((peristylelaw01_awake.f k).bind fun t160 => (some t160)) else (some false))) else (some false)))) else (some false))) else (some false)) = some r := H
    have A8 := Aside0.mk A80
    clear A80
    by_cases c9 : t154 = t155
    · rw [if_pos c9] at H
      have c9b0 : (t154 == t155) = true := beq_iff_eq.mpr c9
      have c9b1 : (t154 != t155) = false := bne_eq_false_iff_eq.mpr c9
      clear c9
      replace H := Option.bind_eq_some_iff.mp H
      obtain ⟨t156, A100, H⟩ := H
      replace H : (if t156 = a0 then ((bits_Turn.f t152 (Go.bits .and .i64 a2 63)).bind fun t157 => ((bits_Turn.f a0 (wrap64 ((Go.bits .and .i64 a1 63) + (Go.bits .and .i64 a2 63)))).bind fun t158 => (if t157 = t158 then ((bits_Turn.f a0 64).bind fun t159 => (if t159 = a0 then ((peristylelaw01_awake.f k).bind fun t160 => (some t160)) else (some false))) else (some false)))) else (some false)) = some r := H
      have A10 := Aside0.mk A100
      clear A100
      by_cases c11 : t156 = a0
      · rw [if_pos c11] at H
        have c11b0 : (t156 == a0) = true := beq_iff_eq.mpr c11
        have c11b1 : (t156 != a0) = false := bne_eq_false_iff_eq.mpr c11
        clear c11
        replace H := Option.bind_eq_some_iff.mp H
        obtain ⟨t157, A120, H⟩ := H
        replace H : ((bits_Turn.f a0 (wrap64 ((Go.bits .and .i64 a1 63) + (Go.bits .and .i64 a2 63)))).bind fun t158 => (if t157 = t158 then ((bits_Turn.f a0 64).bind fun t159 => (if t159 = a0 then ((peristylelaw01_awake.f k).bind fun t160 => (some t160)) else (some false))) else (some false))) = some r := H
        have A12 := Aside0.mk A120
        clear A120
        replace H := Option.bind_eq_some_iff.mp H
        obtain ⟨t158, A130, H⟩ := H
        replace H : (if t157 = t158 then ((bits_Turn.f a0 64).bind fun t159 => (if t159 = a0 then ((peristylelaw01_awake.f k).bind fun t160 => (some t160)) else (some false))) else (some false)) = some r := H
        have A13 := Aside0.mk A130
        clear A130
        by_cases c14 : t157 = t158
        · rw [if_pos c14] at H
          have c14b0 : (t157 == t158) = true := beq_iff_eq.mpr c14
          have c14b1 : (t157 != t158) = false := bne_eq_false_iff_eq.mpr c14
          clear c14
          replace H := Option.bind_eq_some_iff.mp H
          obtain ⟨t159, A150, H⟩ := H
          replace H : (if t159 = a0 then ((peristylelaw01_awake.f k).bind fun t160 => (some t160)) else (some false)) = some r := H
          have A15 := Aside0.mk A150
          clear A150
          by_cases c16 : t159 = a0
          · rw [if_pos c16] at H
            have c16b0 : (t159 == a0) = true := beq_iff_eq.mpr c16
            have c16b1 : (t159 != a0) = false := bne_eq_false_iff_eq.mpr c16
            clear c16
            replace H := Option.bind_eq_some_iff.mp H
            obtain ⟨t160, A170, H⟩ := H
            replace H : (some t160) = some r := H
            have A17 := Aside0.mk A170
            clear A170
            obtain rfl := Option.some.inj H
            go_enter Try.func7, Try.ntmps7
            go_wp2_with (first | ((with_reducible refine gate_callee (f := 26) rfl ?_); refine goesL_ (some 13) rfl rfl Try.func26 (by kernel_rfl) rfl #[.int .i64 a0, .int .i64 a1] rfl (by (try simp only [List.map_toArray, List.map_cons, List.map_nil]); first | done | rfl | (simp only [List.length_drop, List.length_take]; rfl)) ?_; (with_reducible refine (bits_Turn.calls a0 a1 t152 _ A4.out).mono ?_); rintro e w' ⟨rfl, ⟨nd, rfl⟩⟩; refine ⟨_, rfl, ?_⟩) | ((with_reducible refine gate_callee (f := 27) rfl ?_); refine goesL_ (some 17) rfl rfl Try.func27 (by kernel_rfl) rfl #[.int .i64 a0, .int .i64 a1] rfl (by (try simp only [List.map_toArray, List.map_cons, List.map_nil]); first | done | rfl | (simp only [List.length_drop, List.length_take]; rfl)) ?_; (with_reducible refine (peristyleref01_Turn.calls a0 a1 t153 _ A5.out).mono ?_); rintro e w18 ⟨rfl, hb⟩; refine ⟨_, rfl, ?_⟩; have n0_ := Aside0.mk (below_step (by repeat (first | (with_reducible first | exact HB.out | apply below_alloc | apply pw_below_drewN | apply below_drew1) | exact HB.out)) hb); clear HB; have HB := n0_; clear n0_; (try clear hb); (try clear hb2); (try clear hk); (try clear hi)) | (go_at_call 11; (with_reducible refine (bits_Ones.calls k t152 t154 _ A7.out).mono ?_); rintro e w' ⟨rfl, ⟨nd, rfl⟩⟩; (try clear A7)) | (go_at_call 11; (with_reducible refine (bits_Ones.calls k a0 t155 _ A8.out).mono ?_); rintro e w' ⟨rfl, ⟨nd, rfl⟩⟩; (try clear A8)) | (go_at_call 26; (with_reducible refine (bits_Turn.calls t152 (wrap64 (64 - (Go.bits .and .i64 a1 63))) t156 _ A10.out).mono ?_); rintro e w' ⟨rfl, ⟨nd, rfl⟩⟩; (try clear A10)) | (go_at_call 26; (with_reducible refine (bits_Turn.calls t152 (Go.bits .and .i64 a2 63) t157 _ A12.out).mono ?_); rintro e w' ⟨rfl, ⟨nd, rfl⟩⟩; (try clear A12)) | (go_at_call 26; (with_reducible refine (bits_Turn.calls a0 (wrap64 ((Go.bits .and .i64 a1 63) + (Go.bits .and .i64 a2 63))) t158 _ A13.out).mono ?_); rintro e w' ⟨rfl, ⟨nd, rfl⟩⟩; (try clear A13)) | (go_at_call 26; (with_reducible refine (bits_Turn.calls a0 64 t159 _ A15.out).mono ?_); rintro e w' ⟨rfl, ⟨nd, rfl⟩⟩; (try clear A15)) | (go_at_call 17; (with_reducible refine (peristylelaw01_awake.calls k  t160 _ A17.out).mono ?_); rintro e w19 ⟨rfl, hb⟩; have n0_ := Aside0.mk (below_step (by repeat (first | (with_reducible first | exact HB.out | apply below_alloc | apply pw_below_drewN | apply below_drew1) | exact HB.out)) hb); clear HB; have HB := n0_; clear n0_; (try clear hb); (try clear hb2); (try clear hk); (try clear hi); (try clear A17)))
            go_ret
            exact ⟨by first | rfl | (simp [errW_none, errW_some] <;> rfl) | (simp [*, errW_none, errW_some] <;> rfl), by repeat (first | (with_reducible first | exact HB.out | apply below_alloc | apply pw_below_drewN | apply below_drew1) | exact HB.out)⟩
          · rw [if_neg c16] at H
            have c16b0 : (t159 == a0) = false := beq_eq_false_iff_ne.mpr c16
            have c16b1 : (t159 != a0) = true := bne_iff_ne.mpr c16
            obtain rfl := Option.some.inj H
            go_enter Try.func7, Try.ntmps7
            go_wp2_with (first | ((with_reducible refine gate_callee (f := 26) rfl ?_); refine goesL_ (some 13) rfl rfl Try.func26 (by kernel_rfl) rfl #[.int .i64 a0, .int .i64 a1] rfl (by (try simp only [List.map_toArray, List.map_cons, List.map_nil]); first | done | rfl | (simp only [List.length_drop, List.length_take]; rfl)) ?_; (with_reducible refine (bits_Turn.calls a0 a1 t152 _ A4.out).mono ?_); rintro e w' ⟨rfl, ⟨nd, rfl⟩⟩; refine ⟨_, rfl, ?_⟩) | ((with_reducible refine gate_callee (f := 27) rfl ?_); refine goesL_ (some 17) rfl rfl Try.func27 (by kernel_rfl) rfl #[.int .i64 a0, .int .i64 a1] rfl (by (try simp only [List.map_toArray, List.map_cons, List.map_nil]); first | done | rfl | (simp only [List.length_drop, List.length_take]; rfl)) ?_; (with_reducible refine (peristyleref01_Turn.calls a0 a1 t153 _ A5.out).mono ?_); rintro e w20 ⟨rfl, hb⟩; refine ⟨_, rfl, ?_⟩; have n0_ := Aside0.mk (below_step (by repeat (first | (with_reducible first | exact HB.out | apply below_alloc | apply pw_below_drewN | apply below_drew1) | exact HB.out)) hb); clear HB; have HB := n0_; clear n0_; (try clear hb); (try clear hb2); (try clear hk); (try clear hi)) | (go_at_call 11; (with_reducible refine (bits_Ones.calls k t152 t154 _ A7.out).mono ?_); rintro e w' ⟨rfl, ⟨nd, rfl⟩⟩; (try clear A7)) | (go_at_call 11; (with_reducible refine (bits_Ones.calls k a0 t155 _ A8.out).mono ?_); rintro e w' ⟨rfl, ⟨nd, rfl⟩⟩; (try clear A8)) | (go_at_call 26; (with_reducible refine (bits_Turn.calls t152 (wrap64 (64 - (Go.bits .and .i64 a1 63))) t156 _ A10.out).mono ?_); rintro e w' ⟨rfl, ⟨nd, rfl⟩⟩; (try clear A10)) | (go_at_call 26; (with_reducible refine (bits_Turn.calls t152 (Go.bits .and .i64 a2 63) t157 _ A12.out).mono ?_); rintro e w' ⟨rfl, ⟨nd, rfl⟩⟩; (try clear A12)) | (go_at_call 26; (with_reducible refine (bits_Turn.calls a0 (wrap64 ((Go.bits .and .i64 a1 63) + (Go.bits .and .i64 a2 63))) t158 _ A13.out).mono ?_); rintro e w' ⟨rfl, ⟨nd, rfl⟩⟩; (try clear A13)) | (go_at_call 26; (with_reducible refine (bits_Turn.calls a0 64 t159 _ A15.out).mono ?_); rintro e w' ⟨rfl, ⟨nd, rfl⟩⟩; (try clear A15)))
            go_ret
            exact ⟨by first | rfl | (simp [errW_none, errW_some] <;> rfl) | (simp [*, errW_none, errW_some] <;> rfl), by repeat (first | (with_reducible first | exact HB.out | apply below_alloc | apply pw_below_drewN | apply below_drew1) | exact HB.out)⟩
        · rw [if_neg c14] at H
          have c14b0 : (t157 == t158) = false := beq_eq_false_iff_ne.mpr c14
          have c14b1 : (t157 != t158) = true := bne_iff_ne.mpr c14
          obtain rfl := Option.some.inj H
          go_enter Try.func7, Try.ntmps7
          go_wp2_with (first | ((with_reducible refine gate_callee (f := 26) rfl ?_); refine goesL_ (some 13) rfl rfl Try.func26 (by kernel_rfl) rfl #[.int .i64 a0, .int .i64 a1] rfl (by (try simp only [List.map_toArray, List.map_cons, List.map_nil]); first | done | rfl | (simp only [List.length_drop, List.length_take]; rfl)) ?_; (with_reducible refine (bits_Turn.calls a0 a1 t152 _ A4.out).mono ?_); rintro e w' ⟨rfl, ⟨nd, rfl⟩⟩; refine ⟨_, rfl, ?_⟩) | ((with_reducible refine gate_callee (f := 27) rfl ?_); refine goesL_ (some 17) rfl rfl Try.func27 (by kernel_rfl) rfl #[.int .i64 a0, .int .i64 a1] rfl (by (try simp only [List.map_toArray, List.map_cons, List.map_nil]); first | done | rfl | (simp only [List.length_drop, List.length_take]; rfl)) ?_; (with_reducible refine (peristyleref01_Turn.calls a0 a1 t153 _ A5.out).mono ?_); rintro e w21 ⟨rfl, hb⟩; refine ⟨_, rfl, ?_⟩; have n0_ := Aside0.mk (below_step (by repeat (first | (with_reducible first | exact HB.out | apply below_alloc | apply pw_below_drewN | apply below_drew1) | exact HB.out)) hb); clear HB; have HB := n0_; clear n0_; (try clear hb); (try clear hb2); (try clear hk); (try clear hi)) | (go_at_call 11; (with_reducible refine (bits_Ones.calls k t152 t154 _ A7.out).mono ?_); rintro e w' ⟨rfl, ⟨nd, rfl⟩⟩; (try clear A7)) | (go_at_call 11; (with_reducible refine (bits_Ones.calls k a0 t155 _ A8.out).mono ?_); rintro e w' ⟨rfl, ⟨nd, rfl⟩⟩; (try clear A8)) | (go_at_call 26; (with_reducible refine (bits_Turn.calls t152 (wrap64 (64 - (Go.bits .and .i64 a1 63))) t156 _ A10.out).mono ?_); rintro e w' ⟨rfl, ⟨nd, rfl⟩⟩; (try clear A10)) | (go_at_call 26; (with_reducible refine (bits_Turn.calls t152 (Go.bits .and .i64 a2 63) t157 _ A12.out).mono ?_); rintro e w' ⟨rfl, ⟨nd, rfl⟩⟩; (try clear A12)) | (go_at_call 26; (with_reducible refine (bits_Turn.calls a0 (wrap64 ((Go.bits .and .i64 a1 63) + (Go.bits .and .i64 a2 63))) t158 _ A13.out).mono ?_); rintro e w' ⟨rfl, ⟨nd, rfl⟩⟩; (try clear A13)))
          go_ret
          exact ⟨by first | rfl | (simp [errW_none, errW_some] <;> rfl) | (simp [*, errW_none, errW_some] <;> rfl), by repeat (first | (with_reducible first | exact HB.out | apply below_alloc | apply pw_below_drewN | apply below_drew1) | exact HB.out)⟩
      · rw [if_neg c11] at H
        have c11b0 : (t156 == a0) = false := beq_eq_false_iff_ne.mpr c11
        have c11b1 : (t156 != a0) = true := bne_iff_ne.mpr c11
        obtain rfl := Option.some.inj H
        go_enter Try.func7, Try.ntmps7
        go_wp2_with (first | ((with_reducible refine gate_callee (f := 26) rfl ?_); refine goesL_ (some 13) rfl rfl Try.func26 (by kernel_rfl) rfl #[.int .i64 a0, .int .i64 a1] rfl (by (try simp only [List.map_toArray, List.map_cons, List.map_nil]); first | done | rfl | (simp only [List.length_drop, List.length_take]; rfl)) ?_; (with_reducible refine (bits_Turn.calls a0 a1 t152 _ A4.out).mono ?_); rintro e w' ⟨rfl, ⟨nd, rfl⟩⟩; refine ⟨_, rfl, ?_⟩) | ((with_reducible refine gate_callee (f := 27) rfl ?_); refine goesL_ (some 17) rfl rfl Try.func27 (by kernel_rfl) rfl #[.int .i64 a0, .int .i64 a1] rfl (by (try simp only [List.map_toArray, List.map_cons, List.map_nil]); first | done | rfl | (simp only [List.length_drop, List.length_take]; rfl)) ?_; (with_reducible refine (peristyleref01_Turn.calls a0 a1 t153 _ A5.out).mono ?_); rintro e w22 ⟨rfl, hb⟩; refine ⟨_, rfl, ?_⟩; have n0_ := Aside0.mk (below_step (by repeat (first | (with_reducible first | exact HB.out | apply below_alloc | apply pw_below_drewN | apply below_drew1) | exact HB.out)) hb); clear HB; have HB := n0_; clear n0_; (try clear hb); (try clear hb2); (try clear hk); (try clear hi)) | (go_at_call 11; (with_reducible refine (bits_Ones.calls k t152 t154 _ A7.out).mono ?_); rintro e w' ⟨rfl, ⟨nd, rfl⟩⟩; (try clear A7)) | (go_at_call 11; (with_reducible refine (bits_Ones.calls k a0 t155 _ A8.out).mono ?_); rintro e w' ⟨rfl, ⟨nd, rfl⟩⟩; (try clear A8)) | (go_at_call 26; (with_reducible refine (bits_Turn.calls t152 (wrap64 (64 - (Go.bits .and .i64 a1 63))) t156 _ A10.out).mono ?_); rintro e w' ⟨rfl, ⟨nd, rfl⟩⟩; (try clear A10)))
        go_ret
        exact ⟨by first | rfl | (simp [errW_none, errW_some] <;> rfl) | (simp [*, errW_none, errW_some] <;> rfl), by repeat (first | (with_reducible first | exact HB.out | apply below_alloc | apply pw_below_drewN | apply below_drew1) | exact HB.out)⟩
    · rw [if_neg c9] at H
      have c9b0 : (t154 == t155) = false := beq_eq_false_iff_ne.mpr c9
      have c9b1 : (t154 != t155) = true := bne_iff_ne.mpr c9
      obtain rfl := Option.some.inj H
      go_enter Try.func7, Try.ntmps7
      go_wp2_with (first | ((with_reducible refine gate_callee (f := 26) rfl ?_); refine goesL_ (some 13) rfl rfl Try.func26 (by kernel_rfl) rfl #[.int .i64 a0, .int .i64 a1] rfl (by (try simp only [List.map_toArray, List.map_cons, List.map_nil]); first | done | rfl | (simp only [List.length_drop, List.length_take]; rfl)) ?_; (with_reducible refine (bits_Turn.calls a0 a1 t152 _ A4.out).mono ?_); rintro e w' ⟨rfl, ⟨nd, rfl⟩⟩; refine ⟨_, rfl, ?_⟩) | ((with_reducible refine gate_callee (f := 27) rfl ?_); refine goesL_ (some 17) rfl rfl Try.func27 (by kernel_rfl) rfl #[.int .i64 a0, .int .i64 a1] rfl (by (try simp only [List.map_toArray, List.map_cons, List.map_nil]); first | done | rfl | (simp only [List.length_drop, List.length_take]; rfl)) ?_; (with_reducible refine (peristyleref01_Turn.calls a0 a1 t153 _ A5.out).mono ?_); rintro e w23 ⟨rfl, hb⟩; refine ⟨_, rfl, ?_⟩; have n0_ := Aside0.mk (below_step (by repeat (first | (with_reducible first | exact HB.out | apply below_alloc | apply pw_below_drewN | apply below_drew1) | exact HB.out)) hb); clear HB; have HB := n0_; clear n0_; (try clear hb); (try clear hb2); (try clear hk); (try clear hi)) | (go_at_call 11; (with_reducible refine (bits_Ones.calls k t152 t154 _ A7.out).mono ?_); rintro e w' ⟨rfl, ⟨nd, rfl⟩⟩; (try clear A7)) | (go_at_call 11; (with_reducible refine (bits_Ones.calls k a0 t155 _ A8.out).mono ?_); rintro e w' ⟨rfl, ⟨nd, rfl⟩⟩; (try clear A8)))
      go_ret
      exact ⟨by first | rfl | (simp [errW_none, errW_some] <;> rfl) | (simp [*, errW_none, errW_some] <;> rfl), by repeat (first | (with_reducible first | exact HB.out | apply below_alloc | apply pw_below_drewN | apply below_drew1) | exact HB.out)⟩
  · rw [if_neg c6] at H
    have c6b0 : (t152 == t153) = false := beq_eq_false_iff_ne.mpr c6
    have c6b1 : (t152 != t153) = true := bne_iff_ne.mpr c6
    obtain rfl := Option.some.inj H
    go_enter Try.func7, Try.ntmps7
    go_wp2_with (first | ((with_reducible refine gate_callee (f := 26) rfl ?_); refine goesL_ (some 13) rfl rfl Try.func26 (by kernel_rfl) rfl #[.int .i64 a0, .int .i64 a1] rfl (by (try simp only [List.map_toArray, List.map_cons, List.map_nil]); first | done | rfl | (simp only [List.length_drop, List.length_take]; rfl)) ?_; (with_reducible refine (bits_Turn.calls a0 a1 t152 _ A4.out).mono ?_); rintro e w' ⟨rfl, ⟨nd, rfl⟩⟩; refine ⟨_, rfl, ?_⟩) | ((with_reducible refine gate_callee (f := 27) rfl ?_); refine goesL_ (some 17) rfl rfl Try.func27 (by kernel_rfl) rfl #[.int .i64 a0, .int .i64 a1] rfl (by (try simp only [List.map_toArray, List.map_cons, List.map_nil]); first | done | rfl | (simp only [List.length_drop, List.length_take]; rfl)) ?_; (with_reducible refine (peristyleref01_Turn.calls a0 a1 t153 _ A5.out).mono ?_); rintro e w24 ⟨rfl, hb⟩; refine ⟨_, rfl, ?_⟩; have n0_ := Aside0.mk (below_step (by repeat (first | (with_reducible first | exact HB.out | apply below_alloc | apply pw_below_drewN | apply below_drew1) | exact HB.out)) hb); clear HB; have HB := n0_; clear n0_; (try clear hb); (try clear hb2); (try clear hk); (try clear hi)))
    go_ret
    exact ⟨by first | rfl | (simp [errW_none, errW_some] <;> rfl) | (simp [*, errW_none, errW_some] <;> rfl), by repeat (first | (with_reducible first | exact HB.out | apply below_alloc | apply pw_below_drewN | apply below_drew1) | exact HB.out)⟩

/-- THE ONE PURE STATEMENT of peristylelaw01_BitsTurns: yours. -/
def peristylelaw01_BitsTurns.Pure : Prop := ∀ (a0 : Int) (a1 : Int) (a2 : Int), (Lit.int .i64 a0).wf = true → (Lit.int .i64 a1).wf = true → (Lit.int .i64 a2).wf = true → ∃ k, peristylelaw01_BitsTurns.f k a0 a1 a2 = some true
theorem peristylelaw01_BitsTurns.walk (P : peristylelaw01_BitsTurns.Pure) (a0 : Int) (a1 : Int) (a2 : Int) (w : World) (w0 : (Lit.int .i64 a0).wf = true) (w1 : (Lit.int .i64 a1).wf = true) (w2 : (Lit.int .i64 a2).wf = true) :
    Calls Try.prog 7 #[.int .i64 a0, .int .i64 a1, .int .i64 a2] w fun e w' => e = .returned (.bool true) ∧ Below w.heap.size w w' := by
  obtain ⟨k, h⟩ := P a0 a1 a2 w0 w1 w2
  refine (peristylelaw01_BitsTurns.calls k a0 a1 a2 true w h).mono ?_
  rintro e w' ⟨rfl, hd⟩
  exact ⟨rfl, hd⟩

/-! ### peristylelaw01_BitsWalks: function 8 -/
mutual
def peristylelaw01_BitsWalks.l0 : Nat → Int → Int → Int → Int → Int → Option (Bool)
  | 0, _, _, _, _, _ => none
  | k + 1, x0, x3, x4, x5, x6 => if x6 ≥ 0 then (peristylelaw01_BitsWalks.j1 k x0 x3 x4 x5 x6 (decide (x3 ≤ 64))) else (peristylelaw01_BitsWalks.j1 k x0 x3 x4 x5 x6 false)
def peristylelaw01_BitsWalks.j1 : Nat → Int → Int → Int → Int → Int → Bool → Option (Bool)
  | 0, _, _, _, _, _, _ => none
  | k + 1, x0, x3, x4, x5, x6, x14 => if x14 = true then (if x6 ≤ x4 then (peristylelaw01_BitsWalks.j2 k x0 x3 x5 x6 true) else (if x6 > 63 then (peristylelaw01_BitsWalks.j2 k x0 x3 x5 x6 true) else ((bits_Field.f x0 x6 1).bind fun t165 => (peristylelaw01_BitsWalks.j2 k x0 x3 x5 x6 (t165 != 1))))) else ((bits_Ones.f k x0).bind fun t162 => (if x3 = t162 then (if x5 = x0 then ((bits_Width.f k x0).bind fun t163 => (if t163 = (wrap64 (x4 + 1)) then ((peristylelaw01_awake.f k).bind fun t164 => (some t164)) else (some false))) else (some false)) else (some false)))
def peristylelaw01_BitsWalks.j2 : Nat → Int → Int → Int → Int → Bool → Option (Bool)
  | 0, _, _, _, _, _ => none
  | k + 1, x0, x3, x5, x6, x31 => if x31 = true then (some false) else ((bits_With.f x5 x6 1 1).bind fun t166 => ((bits_Next.f k x0 (wrap64 (x6 + 1))).bind fun t167 => (peristylelaw01_BitsWalks.l0 k x0 (wrap64 (x3 + 1)) x6 t166 t167)))
end
def peristylelaw01_BitsWalks.f (k : Nat) (a0 : Int) : Option (Bool) := (bits_Next.f k a0 0).bind fun t161 => (peristylelaw01_BitsWalks.l0 k a0 0 (-1) 0 t161)
theorem peristylelaw01_BitsWalks.l0_succ (k : Nat) (x0 : Int) (x3 : Int) (x4 : Int) (x5 : Int) (x6 : Int) : peristylelaw01_BitsWalks.l0 (k + 1) x0 x3 x4 x5 x6 = (if x6 ≥ 0 then (peristylelaw01_BitsWalks.j1 k x0 x3 x4 x5 x6 (decide (x3 ≤ 64))) else (peristylelaw01_BitsWalks.j1 k x0 x3 x4 x5 x6 false)) := by
  simp only [peristylelaw01_BitsWalks.l0]
theorem peristylelaw01_BitsWalks.j1_succ (k : Nat) (x0 : Int) (x3 : Int) (x4 : Int) (x5 : Int) (x6 : Int) (x14 : Bool) : peristylelaw01_BitsWalks.j1 (k + 1) x0 x3 x4 x5 x6 x14 = (if x14 = true then (if x6 ≤ x4 then (peristylelaw01_BitsWalks.j2 k x0 x3 x5 x6 true) else (if x6 > 63 then (peristylelaw01_BitsWalks.j2 k x0 x3 x5 x6 true) else ((bits_Field.f x0 x6 1).bind fun t165 => (peristylelaw01_BitsWalks.j2 k x0 x3 x5 x6 (t165 != 1))))) else ((bits_Ones.f k x0).bind fun t162 => (if x3 = t162 then (if x5 = x0 then ((bits_Width.f k x0).bind fun t163 => (if t163 = (wrap64 (x4 + 1)) then ((peristylelaw01_awake.f k).bind fun t164 => (some t164)) else (some false))) else (some false)) else (some false)))) := by
  simp only [peristylelaw01_BitsWalks.j1]
theorem peristylelaw01_BitsWalks.j2_succ (k : Nat) (x0 : Int) (x3 : Int) (x5 : Int) (x6 : Int) (x31 : Bool) : peristylelaw01_BitsWalks.j2 (k + 1) x0 x3 x5 x6 x31 = (if x31 = true then (some false) else ((bits_With.f x5 x6 1 1).bind fun t166 => ((bits_Next.f k x0 (wrap64 (x6 + 1))).bind fun t167 => (peristylelaw01_BitsWalks.l0 k x0 (wrap64 (x3 + 1)) x6 t166 t167)))) := by
  simp only [peristylelaw01_BitsWalks.j2]
theorem peristylelaw01_BitsWalks.mono_l : ∀ k, (∀ y0 y1 y2 y3 y4, LeO (peristylelaw01_BitsWalks.l0 k y0 y1 y2 y3 y4) (peristylelaw01_BitsWalks.l0 (k + 1) y0 y1 y2 y3 y4)) ∧ (∀ y0 y1 y2 y3 y4 y5, LeO (peristylelaw01_BitsWalks.j1 k y0 y1 y2 y3 y4 y5) (peristylelaw01_BitsWalks.j1 (k + 1) y0 y1 y2 y3 y4 y5)) ∧ (∀ y0 y1 y2 y3 y4, LeO (peristylelaw01_BitsWalks.j2 k y0 y1 y2 y3 y4) (peristylelaw01_BitsWalks.j2 (k + 1) y0 y1 y2 y3 y4))
  | 0 => ⟨fun _ _ _ _ _ r h => by simp [peristylelaw01_BitsWalks.l0] at h, fun _ _ _ _ _ _ r h => by simp [peristylelaw01_BitsWalks.j1] at h, fun _ _ _ _ _ r h => by simp [peristylelaw01_BitsWalks.j2] at h⟩
  | k + 1 => by
    obtain ⟨ih0, ih1, ih2⟩ := peristylelaw01_BitsWalks.mono_l k
    refine ⟨?_, ?_, ?_⟩
    · intro y0 y1 y2 y3 y4
      unfold peristylelaw01_BitsWalks.l0
      repeat' first
      | (with_reducible exact ih0 _ _ _ _ _)
      | (with_reducible exact ih1 _ _ _ _ _ _)
      | (with_reducible exact ih2 _ _ _ _ _)
      | (with_reducible exact bits_Next.mono _ _ _)
      | (with_reducible exact bits_Ones.mono _ _)
      | (with_reducible exact bits_Width.mono _ _)
      | (with_reducible exact peristylelaw01_awake.mono _)
      | (with_reducible exact LeO.refl _)
      | (with_reducible exact LeO.none _)
      | (with_reducible refine LeO.ite ?_ ?_)
      | (with_reducible refine LeO.bind ?_ (fun _ => ?_))
      | exact ih0 _ _ _ _ _
      | exact ih1 _ _ _ _ _ _
      | exact ih2 _ _ _ _ _
      | exact bits_Next.mono _ _ _
      | exact bits_Ones.mono _ _
      | exact bits_Width.mono _ _
      | exact peristylelaw01_awake.mono _
      | exact LeO.none _
      | refine LeO.ite ?_ ?_
      | refine LeO.bind ?_ (fun _ => ?_)
    · intro y0 y1 y2 y3 y4 y5
      unfold peristylelaw01_BitsWalks.j1
      repeat' first
      | (with_reducible exact ih0 _ _ _ _ _)
      | (with_reducible exact ih1 _ _ _ _ _ _)
      | (with_reducible exact ih2 _ _ _ _ _)
      | (with_reducible exact bits_Next.mono _ _ _)
      | (with_reducible exact bits_Ones.mono _ _)
      | (with_reducible exact bits_Width.mono _ _)
      | (with_reducible exact peristylelaw01_awake.mono _)
      | (with_reducible exact LeO.refl _)
      | (with_reducible exact LeO.none _)
      | (with_reducible refine LeO.ite ?_ ?_)
      | (with_reducible refine LeO.bind ?_ (fun _ => ?_))
      | exact ih0 _ _ _ _ _
      | exact ih1 _ _ _ _ _ _
      | exact ih2 _ _ _ _ _
      | exact bits_Next.mono _ _ _
      | exact bits_Ones.mono _ _
      | exact bits_Width.mono _ _
      | exact peristylelaw01_awake.mono _
      | exact LeO.none _
      | refine LeO.ite ?_ ?_
      | refine LeO.bind ?_ (fun _ => ?_)
    · intro y0 y1 y2 y3 y4
      unfold peristylelaw01_BitsWalks.j2
      repeat' first
      | (with_reducible exact ih0 _ _ _ _ _)
      | (with_reducible exact ih1 _ _ _ _ _ _)
      | (with_reducible exact ih2 _ _ _ _ _)
      | (with_reducible exact bits_Next.mono _ _ _)
      | (with_reducible exact bits_Ones.mono _ _)
      | (with_reducible exact bits_Width.mono _ _)
      | (with_reducible exact peristylelaw01_awake.mono _)
      | (with_reducible exact LeO.refl _)
      | (with_reducible exact LeO.none _)
      | (with_reducible refine LeO.ite ?_ ?_)
      | (with_reducible refine LeO.bind ?_ (fun _ => ?_))
      | exact ih0 _ _ _ _ _
      | exact ih1 _ _ _ _ _ _
      | exact ih2 _ _ _ _ _
      | exact bits_Next.mono _ _ _
      | exact bits_Ones.mono _ _
      | exact bits_Width.mono _ _
      | exact peristylelaw01_awake.mono _
      | exact LeO.none _
      | refine LeO.ite ?_ ?_
      | refine LeO.bind ?_ (fun _ => ?_)
theorem peristylelaw01_BitsWalks.mono : ∀ a0 k, LeO (peristylelaw01_BitsWalks.f k a0) (peristylelaw01_BitsWalks.f (k + 1) a0) := by
  intro a0 k
  obtain ⟨ih0, ih1, ih2⟩ := peristylelaw01_BitsWalks.mono_l k
  unfold peristylelaw01_BitsWalks.f
  repeat' first
      | (with_reducible exact ih0 _ _ _ _ _)
      | (with_reducible exact ih1 _ _ _ _ _ _)
      | (with_reducible exact ih2 _ _ _ _ _)
      | (with_reducible exact bits_Next.mono _ _ _)
      | (with_reducible exact bits_Ones.mono _ _)
      | (with_reducible exact bits_Width.mono _ _)
      | (with_reducible exact peristylelaw01_awake.mono _)
      | (with_reducible exact LeO.refl _)
      | (with_reducible exact LeO.none _)
      | (with_reducible refine LeO.ite ?_ ?_)
      | (with_reducible refine LeO.bind ?_ (fun _ => ?_))
      | exact ih0 _ _ _ _ _
      | exact ih1 _ _ _ _ _ _
      | exact ih2 _ _ _ _ _
      | exact bits_Next.mono _ _ _
      | exact bits_Ones.mono _ _
      | exact bits_Width.mono _ _
      | exact peristylelaw01_awake.mono _
      | exact LeO.none _
      | refine LeO.ite ?_ ?_
      | refine LeO.bind ?_ (fun _ => ?_)
set_option maxHeartbeats 8000000 in
set_option maxRecDepth 100000 in
theorem peristylelaw01_BitsWalks.calls (k : Nat) (a0 : Int) (r : Bool) (w : World) (h : peristylelaw01_BitsWalks.f k a0 = some r) :
    Calls Try.prog 8 #[.int .i64 a0] w fun e w' => e = .returned (.bool r) ∧ Below w.heap.size w w' := by
  have HB := Aside0.mk (Below.refl w.heap.size w)
  have H : ((bits_Next.f k a0 0).bind fun t161 => (peristylelaw01_BitsWalks.l0 k a0 0 (-1) 0 t161)) = some r := h
  clear h
  replace H := Option.bind_eq_some_iff.mp H
  obtain ⟨t161, A20, H⟩ := H
  replace H : (peristylelaw01_BitsWalks.l0 k a0 0 (-1) 0 t161) = some r := H
  have A2 := Aside0.mk A20
  clear A20
  have H' := Aside0.mk H
  clear H
  go_enter Try.func8, Try.ntmps8
  go_wp2_with (first | ((with_reducible refine gate_callee (f := 13) rfl ?_); refine goesL_ (some 8) rfl rfl Try.func13 (by kernel_rfl) rfl #[.int .i64 a0, .int .i64 0] rfl (by (try simp only [List.map_toArray, List.map_cons, List.map_nil]); first | done | rfl | (simp only [List.length_drop, List.length_take]; rfl)) ?_; (with_reducible refine (bits_Next.calls k a0 0 t161 _ A2.out).mono ?_); rintro e w3 ⟨rfl, hb⟩; refine ⟨_, rfl, ?_⟩; have n0_ := Aside0.mk (below_step (by repeat (first | (with_reducible first | exact HB.out | apply below_alloc | apply pw_below_drewN | apply below_drew1) | exact HB.out)) hb); clear HB; have HB := n0_; clear n0_; (try clear hb); (try clear hb2); (try clear hk); (try clear hi)))
  go_loopg [3, 4, 5, 6] k (fun kq v3 v4 v5 v6 w' => ∃ (x3_1 : Int) (x4_1 : Int) (x5_1 : Int) (x6_1 : Int), v3 = .int .i64 x3_1 ∧ v4 = .int .i64 x4_1 ∧ v5 = .int .i64 x5_1 ∧ v6 = .int .i64 x6_1 ∧ Aside0 (peristylelaw01_BitsWalks.l0 kq a0 x3_1 x4_1 x5_1 x6_1 = some r) ∧ Aside0 (kq ≤ k) ∧ Aside0 (Below w.heap.size w w'))
  case atStart => exact ⟨(0), ((-1)), (0), (t161), (by first | rfl | (simp; done) | (simp [*]; done)), (by first | rfl | (simp; done) | (simp [*]; done)), (by first | rfl | (simp; done) | (simp [*]; done)), (by first | rfl | (simp; done) | (simp [*]; done)), H', ⟨Nat.le_refl _⟩, ⟨by repeat (first | (with_reducible first | exact HB.out | apply below_alloc | apply pw_below_drewN | apply below_drew1) | exact HB.out)⟩⟩
  case round =>
    clear H'
    try clear c1
    try clear p2
    obtain ⟨x3_1, x4_1, x5_1, x6_1, rfl, rfl, rfl, rfl, HA, HK1, HB⟩ := hrel
    cases gk with
    | zero => exact absurd HA.out (by simp [peristylelaw01_BitsWalks.l0])
    | succ k1 =>
      have H := HA.out
      clear HA
      simp only [peristylelaw01_BitsWalks.l0] at H
      have HC4 := Aside0.mk H
      clear H
      go_upto_region 3 with (fail)
      go_cut [14] (fun v14 wc => ∃ (kq : Nat) (x14_3 : Bool), v14 = .bool x14_3 ∧ Aside0 (peristylelaw01_BitsWalks.j1 kq a0 x3_1 x4_1 x5_1 x6_1 x14_3 = some r) ∧ Aside0 (kq ≤ k1) ∧ Aside0 (Below w.heap.size w wc))
      case first =>
        have H := HC4.out
        clear HC4
        by_cases c5 : x6_1 ≥ 0
        · rw [if_pos c5] at H
          have c5b0 : decide (0 ≤ x6_1) = true := decide_eq_true c5
          clear c5
          (first | rw [c5b0] | (simp only [i64_w, i32_w]; rw [c5b0]) | skip)
          have H' := Aside0.mk H
          clear H
          go_wp2
          go_meet
          case rel => exact ⟨_, (decide (x3_1 ≤ 64)), (by first | rfl | (simp; done) | (simp [*]; done)), H', ⟨by have := HK1.out; first | omega | exact Nat.le_refl _⟩, ⟨by repeat (first | (with_reducible first | exact HB.out | apply below_alloc | apply pw_below_drewN | apply below_drew1) | exact HB.out)⟩⟩
        · rw [if_neg c5] at H
          have c5b0 : decide (0 ≤ x6_1) = false := decide_eq_false c5
          clear c5
          (first | rw [c5b0] | (simp only [i64_w, i32_w]; rw [c5b0]) | skip)
          have H' := Aside0.mk H
          clear H
          go_wp2
          go_meet
          case rel => exact ⟨_, (false), (by first | rfl | (simp; done) | (simp [*]; done)), H', ⟨by have := HK1.out; first | omega | exact Nat.le_refl _⟩, ⟨by repeat (first | (with_reducible first | exact HB.out | apply below_alloc | apply pw_below_drewN | apply below_drew1) | exact HB.out)⟩⟩
      case rest =>
        clear HC4
        try clear c1
        try clear p2
        try clear c5
        try clear c5b0
        try clear p2
        obtain ⟨kq, x14_3, rfl, HA, HJ3, HB⟩ := hcut
        cases kq with
        | zero => exact absurd HA.out (by simp [peristylelaw01_BitsWalks.j1])
        | succ kj3 =>
          have H := HA.out
          clear HA
          simp only [peristylelaw01_BitsWalks.j1] at H
          by_cases c6 : x14_3 = true
          · subst c6
            have H1 : (if x6_1 ≤ x4_1 then (peristylelaw01_BitsWalks.j2 kj3 a0 x3_1 x5_1 x6_1 true) else (if x6_1 > 63 then (peristylelaw01_BitsWalks.j2 kj3 a0 x3_1 x5_1 x6_1 true) else ((bits_Field.f a0 x6_1 1).bind fun t165 => (peristylelaw01_BitsWalks.j2 kj3 a0 x3_1 x5_1 x6_1 (t165 != 1))))) = some r := by rw [if_pos rfl] at H; exact H
            clear H
            have H := H1
            clear H1
            have HC7 := Aside0.mk H
            clear H
            go_upto_region 5 with (fail)
            go_cut [31] (fun v31 wc => ∃ (kq : Nat) (x31_6 : Bool), v31 = .bool x31_6 ∧ Aside0 (peristylelaw01_BitsWalks.j2 kq a0 x3_1 x5_1 x6_1 x31_6 = some r) ∧ Aside0 (kq ≤ kj3) ∧ Aside0 (Below w.heap.size w wc))
            case first =>
              have H := HC7.out
              clear HC7
              by_cases c8 : x6_1 ≤ x4_1
              · rw [if_pos c8] at H
                have c8b0 : decide (x6_1 ≤ x4_1) = true := decide_eq_true c8
                clear c8
                (first | rw [c8b0] | (simp only [i64_w, i32_w]; rw [c8b0]) | skip)
                have H' := Aside0.mk H
                clear H
                go_wp2
                go_meet
                case rel => exact ⟨_, (true), (by first | rfl | (simp; done) | (simp [*]; done)), H', ⟨by have := HK1.out; have := HJ3.out; first | omega | exact Nat.le_refl _⟩, ⟨by repeat (first | (with_reducible first | exact HB.out | apply below_alloc | apply pw_below_drewN | apply below_drew1) | exact HB.out)⟩⟩
              · rw [if_neg c8] at H
                have c8b0 : decide (x6_1 ≤ x4_1) = false := decide_eq_false c8
                clear c8
                (first | rw [c8b0] | (simp only [i64_w, i32_w]; rw [c8b0]) | skip)
                by_cases c9 : x6_1 > 63
                · rw [if_pos c9] at H
                  have c9b0 : decide (63 < x6_1) = true := decide_eq_true c9
                  clear c9
                  have H' := Aside0.mk H
                  clear H
                  go_wp2
                  go_meet
                  case rel => exact ⟨_, (true), (by first | rfl | (simp; done) | (simp [*]; done)), H', ⟨by have := HK1.out; have := HJ3.out; first | omega | exact Nat.le_refl _⟩, ⟨by repeat (first | (with_reducible first | exact HB.out | apply below_alloc | apply pw_below_drewN | apply below_drew1) | exact HB.out)⟩⟩
                · rw [if_neg c9] at H
                  have c9b0 : decide (63 < x6_1) = false := decide_eq_false c9
                  clear c9
                  replace H := Option.bind_eq_some_iff.mp H
                  obtain ⟨t165, A100, H⟩ := H
                  replace H : (peristylelaw01_BitsWalks.j2 kj3 a0 x3_1 x5_1 x6_1 (t165 != 1)) = some r := H
                  have A10 := Aside0.mk A100
                  clear A100
                  have H' := Aside0.mk H
                  clear H
                  go_wp2_with (first | (go_at_call 22; (with_reducible refine (bits_Field.calls a0 x6_1 1 t165 _ A10.out).mono ?_); rintro e w' ⟨rfl, ⟨nd, rfl⟩⟩; (try clear A10)))
                  go_meet
                  case rel => exact ⟨_, ((t165 != 1)), (by first | rfl | (simp; done) | (simp [*]; done)), H', ⟨by have := HK1.out; have := HJ3.out; first | omega | exact Nat.le_refl _⟩, ⟨by repeat (first | (with_reducible first | exact HB.out | apply below_alloc | apply pw_below_drewN | apply below_drew1) | exact HB.out)⟩⟩
            case rest =>
              clear HC7
              try clear c1
              try clear p2
              try clear c5
              try clear c5b0
              try clear c6
              try clear c8
              try clear c8b0
              try clear c9
              try clear c9b0
              try clear p2
              obtain ⟨kq, x31_6, rfl, HA, HJ6, HB⟩ := hcut
              cases kq with
              | zero => exact absurd HA.out (by simp [peristylelaw01_BitsWalks.j2])
              | succ kj6 =>
                have H := HA.out
                clear HA
                simp only [peristylelaw01_BitsWalks.j2] at H
                by_cases c11 : x31_6 = true
                · subst c11
                  have H1 : (some false) = some r := by rw [if_pos rfl] at H; exact H
                  clear H
                  have H := H1
                  clear H1
                  obtain rfl := Option.some.inj H
                  go_wp2
                  go_ret
                  exact ⟨by first | rfl | (simp [errW_none, errW_some] <;> rfl) | (simp [*, errW_none, errW_some] <;> rfl), by repeat (first | (with_reducible first | exact HB.out | apply below_alloc | apply pw_below_drewN | apply below_drew1) | exact HB.out)⟩
                · replace c11 := Bool.eq_false_iff.mpr c11
                  subst c11
                  have H1 : ((bits_With.f x5_1 x6_1 1 1).bind fun t166 => ((bits_Next.f kj6 a0 (wrap64 (x6_1 + 1))).bind fun t167 => (peristylelaw01_BitsWalks.l0 kj6 a0 (wrap64 (x3_1 + 1)) x6_1 t166 t167))) = some r := by rw [if_neg (show ¬ (false = true) by decide)] at H; exact H
                  clear H
                  have H := H1
                  clear H1
                  replace H := Option.bind_eq_some_iff.mp H
                  obtain ⟨t166, A120, H⟩ := H
                  replace H : ((bits_Next.f kj6 a0 (wrap64 (x6_1 + 1))).bind fun t167 => (peristylelaw01_BitsWalks.l0 kj6 a0 (wrap64 (x3_1 + 1)) x6_1 t166 t167)) = some r := H
                  have A12 := Aside0.mk A120
                  clear A120
                  replace H := Option.bind_eq_some_iff.mp H
                  obtain ⟨t167, A130, H⟩ := H
                  replace H : (peristylelaw01_BitsWalks.l0 kj6 a0 (wrap64 (x3_1 + 1)) x6_1 t166 t167) = some r := H
                  have A13 := Aside0.mk A130
                  clear A130
                  have H' := Aside0.mk H
                  clear H
                  go_wp2_with (first | ((with_reducible refine gate_callee (f := 24) rfl ?_); refine goesL_ (some 34) rfl rfl Try.func24 (by kernel_rfl) rfl #[.int .i64 x5_1, .int .i64 x6_1, .int .i64 1, .int .i64 1] rfl (by (try simp only [List.map_toArray, List.map_cons, List.map_nil]); first | done | rfl | (simp only [List.length_drop, List.length_take]; rfl)) ?_; (with_reducible refine (bits_With.calls x5_1 x6_1 1 1 t166 _ A12.out).mono ?_); rintro e w' ⟨rfl, ⟨nd, rfl⟩⟩; refine ⟨_, rfl, ?_⟩) | ((with_reducible refine gate_callee (f := 13) rfl ?_); refine goesL_ (some 18) rfl rfl Try.func13 (by kernel_rfl) rfl #[.int .i64 a0, .int .i64 (wrap64 (x6_1 + 1))] rfl (by (try simp only [List.map_toArray, List.map_cons, List.map_nil]); first | done | rfl | (simp only [List.length_drop, List.length_take]; rfl)) ?_; (with_reducible refine (bits_Next.calls kj6 a0 (wrap64 (x6_1 + 1)) t167 _ A13.out).mono ?_); rintro e w14 ⟨rfl, hb⟩; refine ⟨_, rfl, ?_⟩; have n0_ := Aside0.mk (below_step (by repeat (first | (with_reducible first | exact HB.out | apply below_alloc | apply pw_below_drewN | apply below_drew1) | exact HB.out)) hb); clear HB; have HB := n0_; clear n0_; (try clear hb); (try clear hb2); (try clear hk); (try clear hi)))
                  go_roundg kj6
                  case measure => have := HK1.out; have := HJ3.out; have := HJ6.out; omega
                  case rel => exact ⟨(wrap64 (x3_1 + 1)), (x6_1), (t166), (t167), (by first | rfl | (simp; done) | (simp [*]; done)), (by first | rfl | (simp; done) | (simp [*]; done)), (by first | rfl | (simp; done) | (simp [*]; done)), (by first | rfl | (simp; done) | (simp [*]; done)), H', ⟨by have := HK1.out; have := HJ3.out; have := HJ6.out; omega⟩, ⟨by repeat (first | (with_reducible first | exact HB.out | apply below_alloc | apply pw_below_drewN | apply below_drew1) | exact HB.out)⟩⟩
          · replace c6 := Bool.eq_false_iff.mpr c6
            subst c6
            have H1 : ((bits_Ones.f kj3 a0).bind fun t162 => (if x3_1 = t162 then (if x5_1 = a0 then ((bits_Width.f kj3 a0).bind fun t163 => (if t163 = (wrap64 (x4_1 + 1)) then ((peristylelaw01_awake.f kj3).bind fun t164 => (some t164)) else (some false))) else (some false)) else (some false))) = some r := by rw [if_neg (show ¬ (false = true) by decide)] at H; exact H
            clear H
            have H := H1
            clear H1
            replace H := Option.bind_eq_some_iff.mp H
            obtain ⟨t162, A150, H⟩ := H
            replace H : (if x3_1 = t162 then (if x5_1 = a0 then ((bits_Width.f kj3 a0).bind fun t163 => (if t163 = (wrap64 (x4_1 + 1)) then ((peristylelaw01_awake.f kj3).bind fun t164 => (some t164)) else (some false))) else (some false)) else (some false)) = some r := H
            have A15 := Aside0.mk A150
            clear A150
            by_cases c16 : x3_1 = t162
            · rw [if_pos c16] at H
              have c16b0 : (x3_1 == t162) = true := beq_iff_eq.mpr c16
              have c16b1 : (x3_1 != t162) = false := bne_eq_false_iff_eq.mpr c16
              clear c16
              by_cases c17 : x5_1 = a0
              · rw [if_pos c17] at H
                have c17b0 : (x5_1 == a0) = true := beq_iff_eq.mpr c17
                have c17b1 : (x5_1 != a0) = false := bne_eq_false_iff_eq.mpr c17
                clear c17
                replace H := Option.bind_eq_some_iff.mp H
                obtain ⟨t163, A180, H⟩ := H
                replace H : (if t163 = (wrap64 (x4_1 + 1)) then ((peristylelaw01_awake.f kj3).bind fun t164 => (some t164)) else (some false)) = some r := H
                have A18 := Aside0.mk A180
                clear A180
                by_cases c19 : t163 = (wrap64 (x4_1 + 1))
                · rw [if_pos c19] at H
                  have c19b0 : (t163 == (wrap64 (x4_1 + 1))) = true := beq_iff_eq.mpr c19
                  have c19b1 : (t163 != (wrap64 (x4_1 + 1))) = false := bne_eq_false_iff_eq.mpr c19
                  clear c19
                  replace H := Option.bind_eq_some_iff.mp H
                  obtain ⟨t164, A200, H⟩ := H
                  replace H : (some t164) = some r := H
                  have A20 := Aside0.mk A200
                  clear A200
                  obtain rfl := Option.some.inj H
                  go_wp2_with (first | ((with_reducible refine gate_callee (f := 11) rfl ?_); refine goesL_ (some 40) rfl rfl Try.func11 (by kernel_rfl) rfl #[.int .i64 a0] rfl (by (try simp only [List.map_toArray, List.map_cons, List.map_nil]); first | done | rfl | (simp only [List.length_drop, List.length_take]; rfl)) ?_; (with_reducible refine (bits_Ones.calls kj3 a0 t162 _ A15.out).mono ?_); rintro e w' ⟨rfl, ⟨nd, rfl⟩⟩; refine ⟨_, rfl, ?_⟩) | (go_at_call 9; (with_reducible refine (bits_Width.calls kj3 a0 t163 _ A18.out).mono ?_); rintro e w' ⟨rfl, ⟨nd, rfl⟩⟩; (try clear A18)) | (go_at_call 17; (with_reducible refine (peristylelaw01_awake.calls kj3  t164 _ A20.out).mono ?_); rintro e w21 ⟨rfl, hb⟩; have n0_ := Aside0.mk (below_step (by repeat (first | (with_reducible first | exact HB.out | apply below_alloc | apply pw_below_drewN | apply below_drew1) | exact HB.out)) hb); clear HB; have HB := n0_; clear n0_; (try clear hb); (try clear hb2); (try clear hk); (try clear hi); (try clear A20)))
                  go_ret
                  exact ⟨by first | rfl | (simp [errW_none, errW_some] <;> rfl) | (simp [*, errW_none, errW_some] <;> rfl), by repeat (first | (with_reducible first | exact HB.out | apply below_alloc | apply pw_below_drewN | apply below_drew1) | exact HB.out)⟩
                · rw [if_neg c19] at H
                  have c19b0 : (t163 == (wrap64 (x4_1 + 1))) = false := beq_eq_false_iff_ne.mpr c19
                  have c19b1 : (t163 != (wrap64 (x4_1 + 1))) = true := bne_iff_ne.mpr c19
                  obtain rfl := Option.some.inj H
                  go_wp2_with (first | ((with_reducible refine gate_callee (f := 11) rfl ?_); refine goesL_ (some 40) rfl rfl Try.func11 (by kernel_rfl) rfl #[.int .i64 a0] rfl (by (try simp only [List.map_toArray, List.map_cons, List.map_nil]); first | done | rfl | (simp only [List.length_drop, List.length_take]; rfl)) ?_; (with_reducible refine (bits_Ones.calls kj3 a0 t162 _ A15.out).mono ?_); rintro e w' ⟨rfl, ⟨nd, rfl⟩⟩; refine ⟨_, rfl, ?_⟩) | (go_at_call 9; (with_reducible refine (bits_Width.calls kj3 a0 t163 _ A18.out).mono ?_); rintro e w' ⟨rfl, ⟨nd, rfl⟩⟩; (try clear A18)))
                  go_ret
                  exact ⟨by first | rfl | (simp [errW_none, errW_some] <;> rfl) | (simp [*, errW_none, errW_some] <;> rfl), by repeat (first | (with_reducible first | exact HB.out | apply below_alloc | apply pw_below_drewN | apply below_drew1) | exact HB.out)⟩
              · rw [if_neg c17] at H
                have c17b0 : (x5_1 == a0) = false := beq_eq_false_iff_ne.mpr c17
                have c17b1 : (x5_1 != a0) = true := bne_iff_ne.mpr c17
                obtain rfl := Option.some.inj H
                go_wp2_with (first | ((with_reducible refine gate_callee (f := 11) rfl ?_); refine goesL_ (some 40) rfl rfl Try.func11 (by kernel_rfl) rfl #[.int .i64 a0] rfl (by (try simp only [List.map_toArray, List.map_cons, List.map_nil]); first | done | rfl | (simp only [List.length_drop, List.length_take]; rfl)) ?_; (with_reducible refine (bits_Ones.calls kj3 a0 t162 _ A15.out).mono ?_); rintro e w' ⟨rfl, ⟨nd, rfl⟩⟩; refine ⟨_, rfl, ?_⟩))
                go_ret
                exact ⟨by first | rfl | (simp [errW_none, errW_some] <;> rfl) | (simp [*, errW_none, errW_some] <;> rfl), by repeat (first | (with_reducible first | exact HB.out | apply below_alloc | apply pw_below_drewN | apply below_drew1) | exact HB.out)⟩
            · rw [if_neg c16] at H
              have c16b0 : (x3_1 == t162) = false := beq_eq_false_iff_ne.mpr c16
              have c16b1 : (x3_1 != t162) = true := bne_iff_ne.mpr c16
              obtain rfl := Option.some.inj H
              go_wp2_with (first | ((with_reducible refine gate_callee (f := 11) rfl ?_); refine goesL_ (some 40) rfl rfl Try.func11 (by kernel_rfl) rfl #[.int .i64 a0] rfl (by (try simp only [List.map_toArray, List.map_cons, List.map_nil]); first | done | rfl | (simp only [List.length_drop, List.length_take]; rfl)) ?_; (with_reducible refine (bits_Ones.calls kj3 a0 t162 _ A15.out).mono ?_); rintro e w' ⟨rfl, ⟨nd, rfl⟩⟩; refine ⟨_, rfl, ?_⟩))
              go_ret
              exact ⟨by first | rfl | (simp [errW_none, errW_some] <;> rfl) | (simp [*, errW_none, errW_some] <;> rfl), by repeat (first | (with_reducible first | exact HB.out | apply below_alloc | apply pw_below_drewN | apply below_drew1) | exact HB.out)⟩

/-- THE ONE PURE STATEMENT of peristylelaw01_BitsWalks: yours. -/
def peristylelaw01_BitsWalks.Pure : Prop := ∀ (a0 : Int), (Lit.int .i64 a0).wf = true → ∃ k, peristylelaw01_BitsWalks.f k a0 = some true
theorem peristylelaw01_BitsWalks.walk (P : peristylelaw01_BitsWalks.Pure) (a0 : Int) (w : World) (w0 : (Lit.int .i64 a0).wf = true) :
    Calls Try.prog 8 #[.int .i64 a0] w fun e w' => e = .returned (.bool true) ∧ Below w.heap.size w w' := by
  obtain ⟨k, h⟩ := P a0 w0
  refine (peristylelaw01_BitsWalks.calls k a0 true w h).mono ?_
  rintro e w' ⟨rfl, hd⟩
  exact ⟨rfl, hd⟩

end Go.Proofs.Ytconnhmlpolmnaa.Print
