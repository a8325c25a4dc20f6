-- Written by the session's own xprint (over the kit's print program): functions, contracts.
import Derived.Test.YtconnhmlpolmnaaPrint0
import Derived.Test.YtconnhmlpolmnaaPrint1
import Derived.Test.YtconnhmlpolmnaaPrint2
namespace Go.Proofs.Ytconnhmlpolmnaa.Print
open Go.RowKit Go.Proofs.YtconnhmlpolmnaaW.PrintWords Go.Proofs.YtconnhmlpolmnaaW.PrintLast Go.Proofs.YtconnhmlpolmnaaW.PrintMore
attribute [local go_sem] max2_int min2_int max_two min_two max_three min_three max_four min_four   -- for this text's walks alone
set_option linter.unusedVariables false
set_option linter.unusedSimpArgs false

/-! ### peristylelaw01_BitsTurns: function 7 -/
def peristylelaw01_BitsTurns.f (k : Nat) (a0 : Int) (a1 : Int) (a2 : Int) : Option (Bool) := (bits_Turn.f a0 a1).bind fun t134 => ((peristyleref01_Turn.f a0 a1).bind fun t135 => (if t134 = t135 then ((bits_Ones.f k t134).bind fun t136 => ((bits_Ones.f k a0).bind fun t137 => (if t136 = t137 then ((bits_Turn.f t134 (wrap64 (64 - (Go.bits .and .i64 a1 63)))).bind fun t138 => (if t138 = a0 then ((bits_Turn.f t134 (Go.bits .and .i64 a2 63)).bind fun t139 => ((bits_Turn.f a0 (wrap64 ((Go.bits .and .i64 a1 63) + (Go.bits .and .i64 a2 63)))).bind fun t140 => (if t139 = t140 then ((bits_Turn.f a0 64).bind fun t141 => (if t141 = a0 then ((peristylelaw01_awake.f k).bind fun t142 => (some t142)) else (some false))) else (some false)))) else (some false))) else (some false)))) else (some false)))
theorem peristylelaw01_BitsTurns.mono : ∀ a0 a1 a2 k, LeO (peristylelaw01_BitsTurns.f k a0 a1 a2) (peristylelaw01_BitsTurns.f (k + 1) a0 a1 a2) := by
  intro a0 a1 a2 k
  unfold peristylelaw01_BitsTurns.f
  repeat' first
      | (with_reducible exact bits_Ones.mono _ _)
      | (with_reducible exact peristylelaw01_awake.mono _)
      | (with_reducible exact LeO.refl _)
      | (with_reducible exact LeO.none _)
      | (with_reducible refine LeO.ite ?_ ?_)
      | (with_reducible refine LeO.bind ?_ (fun _ => ?_))
      | exact bits_Ones.mono _ _
      | exact peristylelaw01_awake.mono _
      | exact LeO.none _
      | refine LeO.ite ?_ ?_
      | refine LeO.bind ?_ (fun _ => ?_)
set_option maxHeartbeats 8000000 in
set_option maxRecDepth 100000 in
theorem peristylelaw01_BitsTurns.calls (k : Nat) (a0 : Int) (a1 : Int) (a2 : Int) (r : Bool) (w : World) (h : peristylelaw01_BitsTurns.f k a0 a1 a2 = some r) :
    Calls Try.prog 7 #[.int .i64 a0, .int .i64 a1, .int .i64 a2] w fun e w' => e = .returned (.bool r) ∧ Below w.heap.size w w' := by
  have HB := Aside0.mk (Below.refl w.heap.size w)
  have H : ((bits_Turn.f a0 a1).bind fun t134 => ((peristyleref01_Turn.f a0 a1).bind fun t135 => (if t134 = t135 then ((bits_Ones.f k t134).bind fun t136 => ((bits_Ones.f k a0).bind fun t137 => (if t136 = t137 then ((bits_Turn.f t134 (wrap64 (64 - (Go.bits .and .i64 a1 63)))).bind fun t138 => (if t138 = a0 then ((bits_Turn.f t134 (Go.bits .and .i64 a2 63)).bind fun t139 => ((bits_Turn.f a0 (wrap64 ((Go.bits .and .i64 a1 63) + (Go.bits .and .i64 a2 63)))).bind fun t140 => (if t139 = t140 then ((bits_Turn.f a0 64).bind fun t141 => (if t141 = a0 then ((peristylelaw01_awake.f k).bind fun t142 => (some t142)) else (some false))) else (some false)))) else (some false))) else (some false)))) else (some false)))) = some r := h
  clear h
  replace H := Option.bind_eq_some_iff.mp H
  obtain ⟨t134, A40, H⟩ := H
  replace H : ((peristyleref01_Turn.f a0 a1).bind fun t135 => (if t134 = t135 then ((bits_Ones.f k t134).bind fun t136 => ((bits_Ones.f k a0).bind fun t137 => (if t136 = t137 then ((bits_Turn.f t134 (wrap64 (64 - (Go.bits .and .i64 a1 63)))).bind fun t138 => (if t138 = a0 then ((bits_Turn.f t134 (Go.bits .and .i64 a2 63)).bind fun t139 => ((bits_Turn.f a0 (wrap64 ((Go.bits .and .i64 a1 63) + (Go.bits .and .i64 a2 63)))).bind fun t140 => (if t139 = t140 then ((bits_Turn.f a0 64).bind fun t141 => (if t141 = a0 then ((peristylelaw01_awake.f k).bind fun t142 => (some t142)) else (some false))) else (some false)))) else (some false))) else (some false)))) else (some false))) = some r := H
  have A4 := Aside0.mk A40
  clear A40
  replace H := Option.bind_eq_some_iff.mp H
  obtain ⟨t135, A50, H⟩ := H
  replace H : (if t134 = t135 then ((bits_Ones.f k t134).bind fun t136 => ((bits_Ones.f k a0).bind fun t137 => (if t136 = t137 then ((bits_Turn.f t134 (wrap64 (64 - (Go.bits .and .i64 a1 63)))).bind fun t138 => (if t138 = a0 then ((bits_Turn.f t134 (Go.bits .and .i64 a2 63)).bind fun t139 => ((bits_Turn.f a0 (wrap64 ((Go.bits .and .i64 a1 63) + (Go.bits .and .i64 a2 63)))).bind fun t140 => (if t139 = t140 then ((bits_Turn.f a0 64).bind fun t141 => (if t141 = a0 then ((peristylelaw01_awake.f k).bind fun t142 => (some t142)) else (some false))) else (some false)))) else (some false))) else (some false)))) else (some false)) = some r := H
  have A5 := Aside0.mk A50
  clear A50
  by_cases c6 : t134 = t135
  · rw [if_pos c6] at H
    have c6b0 : (t134 == t135) = true := beq_iff_eq.mpr c6
    have c6b1 : (t134 != t135) = false := bne_eq_false_iff_eq.mpr c6
    clear c6
    replace H := Option.bind_eq_some_iff.mp H
    obtain ⟨t136, A70, H⟩ := H
    replace H : ((bits_Ones.f k a0).bind fun t137 => (if t136 = t137 then ((bits_Turn.f t134 (wrap64 (64 - (Go.bits .and .i64 a1 63)))).bind fun t138 => (if t138 = a0 then ((bits_Turn.f t134 (Go.bits .and .i64 a2 63)).bind fun t139 => ((bits_Turn.f a0 (wrap64 ((Go.bits .and .i64 a1 63) + (Go.bits .and .i64 a2 63)))).bind fun t140 => (if t139 = t140 then ((bits_Turn.f a0 64).bind fun t141 => (if t141 = a0 then ((peristylelaw01_awake.f k).bind fun t142 => (some t142)) else (some false))) else (some false)))) else (some false))) else (some false))) = some r := H
    have A7 := Aside0.mk A70
    clear A70
    replace H := Option.bind_eq_some_iff.mp H
    obtain ⟨t137, A80, H⟩ := H
    replace H : (if t136 = t137 then ((bits_Turn.f t134 (wrap64 (64 - (Go.bits .and .i64 a1 63)))).bind fun t138 => (if t138 = a0 then ((bits_Turn.f t134 (Go.bits .and .i64 a2 63)).bind fun t139 => ((bits_Turn.f a0 (wrap64 ((Go.bits .and .i64 a1 63) + (Go.bits .and .i64 a2 63)))).bind fun t140 => (if t139 = t140 then ((bits_Turn.f a0 64).bind fun t141 => (if t141 = a0 then ((peristylelaw01_awake.f k).bind fun t142 => (some t142)) else (some false))) else (some false)))) else (some false))) else (some false)) = some r := H
    have A8 := Aside0.mk A80
    clear A80
    by_cases c9 : t136 = t137
    · rw [if_pos c9] at H
      have c9b0 : (t136 == t137) = true := beq_iff_eq.mpr c9
      have c9b1 : (t136 != t137) = false := bne_eq_false_iff_eq.mpr c9
      clear c9
      replace H := Option.bind_eq_some_iff.mp H
      obtain ⟨t138, A100, H⟩ := H
      replace H : (if t138 = a0 then ((bits_Turn.f t134 (Go.bits .and .i64 a2 63)).bind fun t139 => ((bits_Turn.f a0 (wrap64 ((Go.bits .and .i64 a1 63) + (Go.bits .and .i64 a2 63)))).bind fun t140 => (if t139 = t140 then ((bits_Turn.f a0 64).bind fun t141 => (if t141 = a0 then ((peristylelaw01_awake.f k).bind fun t142 => (some t142)) else (some false))) else (some false)))) else (some false)) = some r := H
      have A10 := Aside0.mk A100
      clear A100
      by_cases c11 : t138 = a0
      · rw [if_pos c11] at H
        have c11b0 : (t138 == a0) = true := beq_iff_eq.mpr c11
        have c11b1 : (t138 != a0) = false := bne_eq_false_iff_eq.mpr c11
        clear c11
        replace H := Option.bind_eq_some_iff.mp H
        obtain ⟨t139, A120, H⟩ := H
        replace H : ((bits_Turn.f a0 (wrap64 ((Go.bits .and .i64 a1 63) + (Go.bits .and .i64 a2 63)))).bind fun t140 => (if t139 = t140 then ((bits_Turn.f a0 64).bind fun t141 => (if t141 = a0 then ((peristylelaw01_awake.f k).bind fun t142 => (some t142)) else (some false))) else (some false))) = some r := H
        have A12 := Aside0.mk A120
        clear A120
        replace H := Option.bind_eq_some_iff.mp H
        obtain ⟨t140, A130, H⟩ := H
        replace H : (if t139 = t140 then ((bits_Turn.f a0 64).bind fun t141 => (if t141 = a0 then ((peristylelaw01_awake.f k).bind fun t142 => (some t142)) else (some false))) else (some false)) = some r := H
        have A13 := Aside0.mk A130
        clear A130
        by_cases c14 : t139 = t140
        · rw [if_pos c14] at H
          have c14b0 : (t139 == t140) = true := beq_iff_eq.mpr c14
          have c14b1 : (t139 != t140) = false := bne_eq_false_iff_eq.mpr c14
          clear c14
          replace H := Option.bind_eq_some_iff.mp H
          obtain ⟨t141, A150, H⟩ := H
          replace H : (if t141 = a0 then ((peristylelaw01_awake.f k).bind fun t142 => (some t142)) else (some false)) = some r := H
          have A15 := Aside0.mk A150
          clear A150
          by_cases c16 : t141 = a0
          · rw [if_pos c16] at H
            have c16b0 : (t141 == a0) = true := beq_iff_eq.mpr c16
            have c16b1 : (t141 != a0) = false := bne_eq_false_iff_eq.mpr c16
            clear c16
            replace H := Option.bind_eq_some_iff.mp H
            obtain ⟨t142, A170, H⟩ := H
            replace H : (some t142) = some r := H
            have A17 := Aside0.mk A170
            clear A170
            obtain rfl := Option.some.inj H
            go_enter Try.func7, Try.ntmps7
            go_wp2_with (first | ((with_reducible refine gate_callee (f := 26) rfl ?_); refine goesL_ (some 13) rfl rfl Try.func26 (by kernel_rfl) rfl #[.int .i64 a0, .int .i64 a1] rfl (by (try simp only [List.map_toArray, List.map_cons, List.map_nil]); first | done | rfl | (simp only [List.length_drop, List.length_take]; rfl)) ?_; (with_reducible refine (bits_Turn.calls a0 a1 t134 _ A4.out).mono ?_); rintro e w' ⟨rfl, ⟨nd, rfl⟩⟩; refine ⟨_, rfl, ?_⟩) | ((with_reducible refine gate_callee (f := 27) rfl ?_); refine goesL_ (some 17) rfl rfl Try.func27 (by kernel_rfl) rfl #[.int .i64 a0, .int .i64 a1] rfl (by (try simp only [List.map_toArray, List.map_cons, List.map_nil]); first | done | rfl | (simp only [List.length_drop, List.length_take]; rfl)) ?_; (with_reducible refine (peristyleref01_Turn.calls a0 a1 t135 _ A5.out).mono ?_); rintro e w18 ⟨rfl, hb⟩; refine ⟨_, rfl, ?_⟩; have n0_ := Aside0.mk (below_step (by repeat (first | (with_reducible first | exact HB.out | apply below_alloc | apply pw_below_drewN | apply below_drew1) | exact HB.out)) hb); clear HB; have HB := n0_; clear n0_; (try clear hb); (try clear hb2); (try clear hk); (try clear hi)) | (go_at_call 11; (with_reducible refine (bits_Ones.calls k t134 t136 _ A7.out).mono ?_); rintro e w' ⟨rfl, ⟨nd, rfl⟩⟩; (try clear A7)) | (go_at_call 11; (with_reducible refine (bits_Ones.calls k a0 t137 _ A8.out).mono ?_); rintro e w' ⟨rfl, ⟨nd, rfl⟩⟩; (try clear A8)) | (go_at_call 26; (with_reducible refine (bits_Turn.calls t134 (wrap64 (64 - (Go.bits .and .i64 a1 63))) t138 _ A10.out).mono ?_); rintro e w' ⟨rfl, ⟨nd, rfl⟩⟩; (try clear A10)) | (go_at_call 26; (with_reducible refine (bits_Turn.calls t134 (Go.bits .and .i64 a2 63) t139 _ A12.out).mono ?_); rintro e w' ⟨rfl, ⟨nd, rfl⟩⟩; (try clear A12)) | (go_at_call 26; (with_reducible refine (bits_Turn.calls a0 (wrap64 ((Go.bits .and .i64 a1 63) + (Go.bits .and .i64 a2 63))) t140 _ A13.out).mono ?_); rintro e w' ⟨rfl, ⟨nd, rfl⟩⟩; (try clear A13)) | (go_at_call 26; (with_reducible refine (bits_Turn.calls a0 64 t141 _ A15.out).mono ?_); rintro e w' ⟨rfl, ⟨nd, rfl⟩⟩; (try clear A15)) | (go_at_call 17; (with_reducible refine (peristylelaw01_awake.calls k  t142 _ A17.out).mono ?_); rintro e w19 ⟨rfl, hb⟩; have n0_ := Aside0.mk (below_step (by repeat (first | (with_reducible first | exact HB.out | apply below_alloc | apply pw_below_drewN | apply below_drew1) | exact HB.out)) hb); clear HB; have HB := n0_; clear n0_; (try clear hb); (try clear hb2); (try clear hk); (try clear hi); (try clear A17)))
            go_ret
            exact ⟨by first | rfl | (simp [errW_none, errW_some] <;> rfl) | (simp [*, errW_none, errW_some] <;> rfl), by repeat (first | (with_reducible first | exact HB.out | apply below_alloc | apply pw_below_drewN | apply below_drew1) | exact HB.out)⟩
          · rw [if_neg c16] at H
            have c16b0 : (t141 == a0) = false := beq_eq_false_iff_ne.mpr c16
            have c16b1 : (t141 != a0) = true := bne_iff_ne.mpr c16
            obtain rfl := Option.some.inj H
            go_enter Try.func7, Try.ntmps7
            go_wp2_with (first | ((with_reducible refine gate_callee (f := 26) rfl ?_); refine goesL_ (some 13) rfl rfl Try.func26 (by kernel_rfl) rfl #[.int .i64 a0, .int .i64 a1] rfl (by (try simp only [List.map_toArray, List.map_cons, List.map_nil]); first | done | rfl | (simp only [List.length_drop, List.length_take]; rfl)) ?_; (with_reducible refine (bits_Turn.calls a0 a1 t134 _ A4.out).mono ?_); rintro e w' ⟨rfl, ⟨nd, rfl⟩⟩; refine ⟨_, rfl, ?_⟩) | ((with_reducible refine gate_callee (f := 27) rfl ?_); refine goesL_ (some 17) rfl rfl Try.func27 (by kernel_rfl) rfl #[.int .i64 a0, .int .i64 a1] rfl (by (try simp only [List.map_toArray, List.map_cons, List.map_nil]); first | done | rfl | (simp only [List.length_drop, List.length_take]; rfl)) ?_; (with_reducible refine (peristyleref01_Turn.calls a0 a1 t135 _ A5.out).mono ?_); rintro e w20 ⟨rfl, hb⟩; refine ⟨_, rfl, ?_⟩; have n0_ := Aside0.mk (below_step (by repeat (first | (with_reducible first | exact HB.out | apply below_alloc | apply pw_below_drewN | apply below_drew1) | exact HB.out)) hb); clear HB; have HB := n0_; clear n0_; (try clear hb); (try clear hb2); (try clear hk); (try clear hi)) | (go_at_call 11; (with_reducible refine (bits_Ones.calls k t134 t136 _ A7.out).mono ?_); rintro e w' ⟨rfl, ⟨nd, rfl⟩⟩; (try clear A7)) | (go_at_call 11; (with_reducible refine (bits_Ones.calls k a0 t137 _ A8.out).mono ?_); rintro e w' ⟨rfl, ⟨nd, rfl⟩⟩; (try clear A8)) | (go_at_call 26; (with_reducible refine (bits_Turn.calls t134 (wrap64 (64 - (Go.bits .and .i64 a1 63))) t138 _ A10.out).mono ?_); rintro e w' ⟨rfl, ⟨nd, rfl⟩⟩; (try clear A10)) | (go_at_call 26; (with_reducible refine (bits_Turn.calls t134 (Go.bits .and .i64 a2 63) t139 _ A12.out).mono ?_); rintro e w' ⟨rfl, ⟨nd, rfl⟩⟩; (try clear A12)) | (go_at_call 26; (with_reducible refine (bits_Turn.calls a0 (wrap64 ((Go.bits .and .i64 a1 63) + (Go.bits .and .i64 a2 63))) t140 _ A13.out).mono ?_); rintro e w' ⟨rfl, ⟨nd, rfl⟩⟩; (try clear A13)) | (go_at_call 26; (with_reducible refine (bits_Turn.calls a0 64 t141 _ A15.out).mono ?_); rintro e w' ⟨rfl, ⟨nd, rfl⟩⟩; (try clear A15)))
            go_ret
            exact ⟨by first | rfl | (simp [errW_none, errW_some] <;> rfl) | (simp [*, errW_none, errW_some] <;> rfl), by repeat (first | (with_reducible first | exact HB.out | apply below_alloc | apply pw_below_drewN | apply below_drew1) | exact HB.out)⟩
        · rw [if_neg c14] at H
          have c14b0 : (t139 == t140) = false := beq_eq_false_iff_ne.mpr c14
          have c14b1 : (t139 != t140) = true := bne_iff_ne.mpr c14
          obtain rfl := Option.some.inj H
          go_enter Try.func7, Try.ntmps7
          go_wp2_with (first | ((with_reducible refine gate_callee (f := 26) rfl ?_); refine goesL_ (some 13) rfl rfl Try.func26 (by kernel_rfl) rfl #[.int .i64 a0, .int .i64 a1] rfl (by (try simp only [List.map_toArray, List.map_cons, List.map_nil]); first | done | rfl | (simp only [List.length_drop, List.length_take]; rfl)) ?_; (with_reducible refine (bits_Turn.calls a0 a1 t134 _ A4.out).mono ?_); rintro e w' ⟨rfl, ⟨nd, rfl⟩⟩; refine ⟨_, rfl, ?_⟩) | ((with_reducible refine gate_callee (f := 27) rfl ?_); refine goesL_ (some 17) rfl rfl Try.func27 (by kernel_rfl) rfl #[.int .i64 a0, .int .i64 a1] rfl (by (try simp only [List.map_toArray, List.map_cons, List.map_nil]); first | done | rfl | (simp only [List.length_drop, List.length_take]; rfl)) ?_; (with_reducible refine (peristyleref01_Turn.calls a0 a1 t135 _ A5.out).mono ?_); rintro e w21 ⟨rfl, hb⟩; refine ⟨_, rfl, ?_⟩; have n0_ := Aside0.mk (below_step (by repeat (first | (with_reducible first | exact HB.out | apply below_alloc | apply pw_below_drewN | apply below_drew1) | exact HB.out)) hb); clear HB; have HB := n0_; clear n0_; (try clear hb); (try clear hb2); (try clear hk); (try clear hi)) | (go_at_call 11; (with_reducible refine (bits_Ones.calls k t134 t136 _ A7.out).mono ?_); rintro e w' ⟨rfl, ⟨nd, rfl⟩⟩; (try clear A7)) | (go_at_call 11; (with_reducible refine (bits_Ones.calls k a0 t137 _ A8.out).mono ?_); rintro e w' ⟨rfl, ⟨nd, rfl⟩⟩; (try clear A8)) | (go_at_call 26; (with_reducible refine (bits_Turn.calls t134 (wrap64 (64 - (Go.bits .and .i64 a1 63))) t138 _ A10.out).mono ?_); rintro e w' ⟨rfl, ⟨nd, rfl⟩⟩; (try clear A10)) | (go_at_call 26; (with_reducible refine (bits_Turn.calls t134 (Go.bits .and .i64 a2 63) t139 _ A12.out).mono ?_); rintro e w' ⟨rfl, ⟨nd, rfl⟩⟩; (try clear A12)) | (go_at_call 26; (with_reducible refine (bits_Turn.calls a0 (wrap64 ((Go.bits .and .i64 a1 63) + (Go.bits .and .i64 a2 63))) t140 _ A13.out).mono ?_); rintro e w' ⟨rfl, ⟨nd, rfl⟩⟩; (try clear A13)))
          go_ret
          exact ⟨by first | rfl | (simp [errW_none, errW_some] <;> rfl) | (simp [*, errW_none, errW_some] <;> rfl), by repeat (first | (with_reducible first | exact HB.out | apply below_alloc | apply pw_below_drewN | apply below_drew1) | exact HB.out)⟩
      · rw [if_neg c11] at H
        have c11b0 : (t138 == a0) = false := beq_eq_false_iff_ne.mpr c11
        have c11b1 : (t138 != a0) = true := bne_iff_ne.mpr c11
        obtain rfl := Option.some.inj H
        go_enter Try.func7, Try.ntmps7
        go_wp2_with (first | ((with_reducible refine gate_callee (f := 26) rfl ?_); refine goesL_ (some 13) rfl rfl Try.func26 (by kernel_rfl) rfl #[.int .i64 a0, .int .i64 a1] rfl (by (try simp only [List.map_toArray, List.map_cons, List.map_nil]); first | done | rfl | (simp only [List.length_drop, List.length_take]; rfl)) ?_; (with_reducible refine (bits_Turn.calls a0 a1 t134 _ A4.out).mono ?_); rintro e w' ⟨rfl, ⟨nd, rfl⟩⟩; refine ⟨_, rfl, ?_⟩) | ((with_reducible refine gate_callee (f := 27) rfl ?_); refine goesL_ (some 17) rfl rfl Try.func27 (by kernel_rfl) rfl #[.int .i64 a0, .int .i64 a1] rfl (by (try simp only [List.map_toArray, List.map_cons, List.map_nil]); first | done | rfl | (simp only [List.length_drop, List.length_take]; rfl)) ?_; (with_reducible refine (peristyleref01_Turn.calls a0 a1 t135 _ A5.out).mono ?_); rintro e w22 ⟨rfl, hb⟩; refine ⟨_, rfl, ?_⟩; have n0_ := Aside0.mk (below_step (by repeat (first | (with_reducible first | exact HB.out | apply below_alloc | apply pw_below_drewN | apply below_drew1) | exact HB.out)) hb); clear HB; have HB := n0_; clear n0_; (try clear hb); (try clear hb2); (try clear hk); (try clear hi)) | (go_at_call 11; (with_reducible refine (bits_Ones.calls k t134 t136 _ A7.out).mono ?_); rintro e w' ⟨rfl, ⟨nd, rfl⟩⟩; (try clear A7)) | (go_at_call 11; (with_reducible refine (bits_Ones.calls k a0 t137 _ A8.out).mono ?_); rintro e w' ⟨rfl, ⟨nd, rfl⟩⟩; (try clear A8)) | (go_at_call 26; (with_reducible refine (bits_Turn.calls t134 (wrap64 (64 - (Go.bits .and .i64 a1 63))) t138 _ A10.out).mono ?_); rintro e w' ⟨rfl, ⟨nd, rfl⟩⟩; (try clear A10)))
        go_ret
        exact ⟨by first | rfl | (simp [errW_none, errW_some] <;> rfl) | (simp [*, errW_none, errW_some] <;> rfl), by repeat (first | (with_reducible first | exact HB.out | apply below_alloc | apply pw_below_drewN | apply below_drew1) | exact HB.out)⟩
    · rw [if_neg c9] at H
      have c9b0 : (t136 == t137) = false := beq_eq_false_iff_ne.mpr c9
      have c9b1 : (t136 != t137) = true := bne_iff_ne.mpr c9
      obtain rfl := Option.some.inj H
      go_enter Try.func7, Try.ntmps7
      go_wp2_with (first | ((with_reducible refine gate_callee (f := 26) rfl ?_); refine goesL_ (some 13) rfl rfl Try.func26 (by kernel_rfl) rfl #[.int .i64 a0, .int .i64 a1] rfl (by (try simp only [List.map_toArray, List.map_cons, List.map_nil]); first | done | rfl | (simp only [List.length_drop, List.length_take]; rfl)) ?_; (with_reducible refine (bits_Turn.calls a0 a1 t134 _ A4.out).mono ?_); rintro e w' ⟨rfl, ⟨nd, rfl⟩⟩; refine ⟨_, rfl, ?_⟩) | ((with_reducible refine gate_callee (f := 27) rfl ?_); refine goesL_ (some 17) rfl rfl Try.func27 (by kernel_rfl) rfl #[.int .i64 a0, .int .i64 a1] rfl (by (try simp only [List.map_toArray, List.map_cons, List.map_nil]); first | done | rfl | (simp only [List.length_drop, List.length_take]; rfl)) ?_; (with_reducible refine (peristyleref01_Turn.calls a0 a1 t135 _ A5.out).mono ?_); rintro e w23 ⟨rfl, hb⟩; refine ⟨_, rfl, ?_⟩; have n0_ := Aside0.mk (below_step (by repeat (first | (with_reducible first | exact HB.out | apply below_alloc | apply pw_below_drewN | apply below_drew1) | exact HB.out)) hb); clear HB; have HB := n0_; clear n0_; (try clear hb); (try clear hb2); (try clear hk); (try clear hi)) | (go_at_call 11; (with_reducible refine (bits_Ones.calls k t134 t136 _ A7.out).mono ?_); rintro e w' ⟨rfl, ⟨nd, rfl⟩⟩; (try clear A7)) | (go_at_call 11; (with_reducible refine (bits_Ones.calls k a0 t137 _ A8.out).mono ?_); rintro e w' ⟨rfl, ⟨nd, rfl⟩⟩; (try clear A8)))
      go_ret
      exact ⟨by first | rfl | (simp [errW_none, errW_some] <;> rfl) | (simp [*, errW_none, errW_some] <;> rfl), by repeat (first | (with_reducible first | exact HB.out | apply below_alloc | apply pw_below_drewN | apply below_drew1) | exact HB.out)⟩
  · rw [if_neg c6] at H
    have c6b0 : (t134 == t135) = false := beq_eq_false_iff_ne.mpr c6
    have c6b1 : (t134 != t135) = true := bne_iff_ne.mpr c6
    obtain rfl := Option.some.inj H
    go_enter Try.func7, Try.ntmps7
    go_wp2_with (first | ((with_reducible refine gate_callee (f := 26) rfl ?_); refine goesL_ (some 13) rfl rfl Try.func26 (by kernel_rfl) rfl #[.int .i64 a0, .int .i64 a1] rfl (by (try simp only [List.map_toArray, List.map_cons, List.map_nil]); first | done | rfl | (simp only [List.length_drop, List.length_take]; rfl)) ?_; (with_reducible refine (bits_Turn.calls a0 a1 t134 _ A4.out).mono ?_); rintro e w' ⟨rfl, ⟨nd, rfl⟩⟩; refine ⟨_, rfl, ?_⟩) | ((with_reducible refine gate_callee (f := 27) rfl ?_); refine goesL_ (some 17) rfl rfl Try.func27 (by kernel_rfl) rfl #[.int .i64 a0, .int .i64 a1] rfl (by (try simp only [List.map_toArray, List.map_cons, List.map_nil]); first | done | rfl | (simp only [List.length_drop, List.length_take]; rfl)) ?_; (with_reducible refine (peristyleref01_Turn.calls a0 a1 t135 _ A5.out).mono ?_); rintro e w24 ⟨rfl, hb⟩; refine ⟨_, rfl, ?_⟩; have n0_ := Aside0.mk (below_step (by repeat (first | (with_reducible first | exact HB.out | apply below_alloc | apply pw_below_drewN | apply below_drew1) | exact HB.out)) hb); clear HB; have HB := n0_; clear n0_; (try clear hb); (try clear hb2); (try clear hk); (try clear hi)))
    go_ret
    exact ⟨by first | rfl | (simp [errW_none, errW_some] <;> rfl) | (simp [*, errW_none, errW_some] <;> rfl), by repeat (first | (with_reducible first | exact HB.out | apply below_alloc | apply pw_below_drewN | apply below_drew1) | exact HB.out)⟩

/-- THE ONE PURE STATEMENT of peristylelaw01_BitsTurns: yours. -/
def peristylelaw01_BitsTurns.Pure : Prop := ∀ (a0 : Int) (a1 : Int) (a2 : Int), (Lit.int .i64 a0).wf = true → (Lit.int .i64 a1).wf = true → (Lit.int .i64 a2).wf = true → ∃ k, peristylelaw01_BitsTurns.f k a0 a1 a2 = some true
theorem peristylelaw01_BitsTurns.walk (P : peristylelaw01_BitsTurns.Pure) (a0 : Int) (a1 : Int) (a2 : Int) (w : World) (w0 : (Lit.int .i64 a0).wf = true) (w1 : (Lit.int .i64 a1).wf = true) (w2 : (Lit.int .i64 a2).wf = true) :
    Calls Try.prog 7 #[.int .i64 a0, .int .i64 a1, .int .i64 a2] w fun e w' => e = .returned (.bool true) ∧ Below w.heap.size w w' := by
  obtain ⟨k, h⟩ := P a0 a1 a2 w0 w1 w2
  refine (peristylelaw01_BitsTurns.calls k a0 a1 a2 true w h).mono ?_
  rintro e w' ⟨rfl, hd⟩
  exact ⟨rfl, hd⟩

/-! ### peristylelaw01_BitsWalks: function 8 -/
mutual
def peristylelaw01_BitsWalks.l0 : Nat → Int → Int → Int → Int → Int → Option (Bool)
  | 0, _, _, _, _, _ => none
  | k + 1, x0, x3, x4, x5, x6 => if x6 ≥ 0 then (peristylelaw01_BitsWalks.j1 k x0 x3 x4 x5 x6 (decide (x3 ≤ 64))) else (peristylelaw01_BitsWalks.j1 k x0 x3 x4 x5 x6 false)
def peristylelaw01_BitsWalks.j1 : Nat → Int → Int → Int → Int → Int → Bool → Option (Bool)
  | 0, _, _, _, _, _, _ => none
  | k + 1, x0, x3, x4, x5, x6, x14 => if x14 = true then (if x6 ≤ x4 then (peristylelaw01_BitsWalks.j2 k x0 x3 x5 x6 true) else (if x6 > 63 then (peristylelaw01_BitsWalks.j2 k x0 x3 x5 x6 true) else ((bits_Field.f x0 x6 1).bind fun t147 => (peristylelaw01_BitsWalks.j2 k x0 x3 x5 x6 (t147 != 1))))) else ((bits_Ones.f k x0).bind fun t144 => (if x3 = t144 then (if x5 = x0 then ((bits_Width.f k x0).bind fun t145 => (if t145 = (wrap64 (x4 + 1)) then ((peristylelaw01_awake.f k).bind fun t146 => (some t146)) else (some false))) else (some false)) else (some false)))
def peristylelaw01_BitsWalks.j2 : Nat → Int → Int → Int → Int → Bool → Option (Bool)
  | 0, _, _, _, _, _ => none
  | k + 1, x0, x3, x5, x6, x31 => if x31 = true then (some false) else ((bits_With.f x5 x6 1 1).bind fun t148 => ((bits_Next.f k x0 (wrap64 (x6 + 1))).bind fun t149 => (peristylelaw01_BitsWalks.l0 k x0 (wrap64 (x3 + 1)) x6 t148 t149)))
end
def peristylelaw01_BitsWalks.f (k : Nat) (a0 : Int) : Option (Bool) := (bits_Next.f k a0 0).bind fun t143 => (peristylelaw01_BitsWalks.l0 k a0 0 (-1) 0 t143)
theorem peristylelaw01_BitsWalks.l0_succ (k : Nat) (x0 : Int) (x3 : Int) (x4 : Int) (x5 : Int) (x6 : Int) : peristylelaw01_BitsWalks.l0 (k + 1) x0 x3 x4 x5 x6 = (if x6 ≥ 0 then (peristylelaw01_BitsWalks.j1 k x0 x3 x4 x5 x6 (decide (x3 ≤ 64))) else (peristylelaw01_BitsWalks.j1 k x0 x3 x4 x5 x6 false)) := by
  simp only [peristylelaw01_BitsWalks.l0]
theorem peristylelaw01_BitsWalks.j1_succ (k : Nat) (x0 : Int) (x3 : Int) (x4 : Int) (x5 : Int) (x6 : Int) (x14 : Bool) : peristylelaw01_BitsWalks.j1 (k + 1) x0 x3 x4 x5 x6 x14 = (if x14 = true then (if x6 ≤ x4 then (peristylelaw01_BitsWalks.j2 k x0 x3 x5 x6 true) else (if x6 > 63 then (peristylelaw01_BitsWalks.j2 k x0 x3 x5 x6 true) else ((bits_Field.f x0 x6 1).bind fun t147 => (peristylelaw01_BitsWalks.j2 k x0 x3 x5 x6 (t147 != 1))))) else ((bits_Ones.f k x0).bind fun t144 => (if x3 = t144 then (if x5 = x0 then ((bits_Width.f k x0).bind fun t145 => (if t145 = (wrap64 (x4 + 1)) then ((peristylelaw01_awake.f k).bind fun t146 => (some t146)) else (some false))) else (some false)) else (some false)))) := by
  simp only [peristylelaw01_BitsWalks.j1]
theorem peristylelaw01_BitsWalks.j2_succ (k : Nat) (x0 : Int) (x3 : Int) (x5 : Int) (x6 : Int) (x31 : Bool) : peristylelaw01_BitsWalks.j2 (k + 1) x0 x3 x5 x6 x31 = (if x31 = true then (some false) else ((bits_With.f x5 x6 1 1).bind fun t148 => ((bits_Next.f k x0 (wrap64 (x6 + 1))).bind fun t149 => (peristylelaw01_BitsWalks.l0 k x0 (wrap64 (x3 + 1)) x6 t148 t149)))) := by
  simp only [peristylelaw01_BitsWalks.j2]
theorem peristylelaw01_BitsWalks.mono_l : ∀ k, (∀ y0 y1 y2 y3 y4, LeO (peristylelaw01_BitsWalks.l0 k y0 y1 y2 y3 y4) (peristylelaw01_BitsWalks.l0 (k + 1) y0 y1 y2 y3 y4)) ∧ (∀ y0 y1 y2 y3 y4 y5, LeO (peristylelaw01_BitsWalks.j1 k y0 y1 y2 y3 y4 y5) (peristylelaw01_BitsWalks.j1 (k + 1) y0 y1 y2 y3 y4 y5)) ∧ (∀ y0 y1 y2 y3 y4, LeO (peristylelaw01_BitsWalks.j2 k y0 y1 y2 y3 y4) (peristylelaw01_BitsWalks.j2 (k + 1) y0 y1 y2 y3 y4))
  | 0 => ⟨fun _ _ _ _ _ r h => by simp [peristylelaw01_BitsWalks.l0] at h, fun _ _ _ _ _ _ r h => by simp [peristylelaw01_BitsWalks.j1] at h, fun _ _ _ _ _ r h => by simp [peristylelaw01_BitsWalks.j2] at h⟩
  | k + 1 => by
    obtain ⟨ih0, ih1, ih2⟩ := peristylelaw01_BitsWalks.mono_l k
    refine ⟨?_, ?_, ?_⟩
    · intro y0 y1 y2 y3 y4
      unfold peristylelaw01_BitsWalks.l0
      repeat' first
      | (with_reducible exact ih0 _ _ _ _ _)
      | (with_reducible exact ih1 _ _ _ _ _ _)
      | (with_reducible exact ih2 _ _ _ _ _)
      | (with_reducible exact bits_Next.mono _ _ _)
      | (with_reducible exact bits_Ones.mono _ _)
      | (with_reducible exact bits_Width.mono _ _)
      | (with_reducible exact peristylelaw01_awake.mono _)
      | (with_reducible exact LeO.refl _)
      | (with_reducible exact LeO.none _)
      | (with_reducible refine LeO.ite ?_ ?_)
      | (with_reducible refine LeO.bind ?_ (fun _ => ?_))
      | exact ih0 _ _ _ _ _
      | exact ih1 _ _ _ _ _ _
      | exact ih2 _ _ _ _ _
      | exact bits_Next.mono _ _ _
      | exact bits_Ones.mono _ _
      | exact bits_Width.mono _ _
      | exact peristylelaw01_awake.mono _
      | exact LeO.none _
      | refine LeO.ite ?_ ?_
      | refine LeO.bind ?_ (fun _ => ?_)
    · intro y0 y1 y2 y3 y4 y5
      unfold peristylelaw01_BitsWalks.j1
      repeat' first
      | (with_reducible exact ih0 _ _ _ _ _)
      | (with_reducible exact ih1 _ _ _ _ _ _)
      | (with_reducible exact ih2 _ _ _ _ _)
      | (with_reducible exact bits_Next.mono _ _ _)
      | (with_reducible exact bits_Ones.mono _ _)
      | (with_reducible exact bits_Width.mono _ _)
      | (with_reducible exact peristylelaw01_awake.mono _)
      | (with_reducible exact LeO.refl _)
      | (with_reducible exact LeO.none _)
      | (with_reducible refine LeO.ite ?_ ?_)
      | (with_reducible refine LeO.bind ?_ (fun _ => ?_))
      | exact ih0 _ _ _ _ _
      | exact ih1 _ _ _ _ _ _
      | exact ih2 _ _ _ _ _
      | exact bits_Next.mono _ _ _
      | exact bits_Ones.mono _ _
      | exact bits_Width.mono _ _
      | exact peristylelaw01_awake.mono _
      | exact LeO.none _
      | refine LeO.ite ?_ ?_
      | refine LeO.bind ?_ (fun _ => ?_)
    · intro y0 y1 y2 y3 y4
      unfold peristylelaw01_BitsWalks.j2
      repeat' first
      | (with_reducible exact ih0 _ _ _ _ _)
      | (with_reducible exact ih1 _ _ _ _ _ _)
      | (with_reducible exact ih2 _ _ _ _ _)
      | (with_reducible exact bits_Next.mono _ _ _)
      | (with_reducible exact bits_Ones.mono _ _)
      | (with_reducible exact bits_Width.mono _ _)
      | (with_reducible exact peristylelaw01_awake.mono _)
      | (with_reducible exact LeO.refl _)
      | (with_reducible exact LeO.none _)
      | (with_reducible refine LeO.ite ?_ ?_)
      | (with_reducible refine LeO.bind ?_ (fun _ => ?_))
      | exact ih0 _ _ _ _ _
      | exact ih1 _ _ _ _ _ _
      | exact ih2 _ _ _ _ _
      | exact bits_Next.mono _ _ _
      | exact bits_Ones.mono _ _
      | exact bits_Width.mono _ _
      | exact peristylelaw01_awake.mono _
      | exact LeO.none _
      | refine LeO.ite ?_ ?_
      | refine LeO.bind ?_ (fun _ => ?_)
theorem peristylelaw01_BitsWalks.mono : ∀ a0 k, LeO (peristylelaw01_BitsWalks.f k a0) (peristylelaw01_BitsWalks.f (k + 1) a0) := by
  intro a0 k
  obtain ⟨ih0, ih1, ih2⟩ := peristylelaw01_BitsWalks.mono_l k
  unfold peristylelaw01_BitsWalks.f
  repeat' first
      | (with_reducible exact ih0 _ _ _ _ _)
      | (with_reducible exact ih1 _ _ _ _ _ _)
      | (with_reducible exact ih2 _ _ _ _ _)
      | (with_reducible exact bits_Next.mono _ _ _)
      | (with_reducible exact bits_Ones.mono _ _)
      | (with_reducible exact bits_Width.mono _ _)
      | (with_reducible exact peristylelaw01_awake.mono _)
      | (with_reducible exact LeO.refl _)
      | (with_reducible exact LeO.none _)
      | (with_reducible refine LeO.ite ?_ ?_)
      | (with_reducible refine LeO.bind ?_ (fun _ => ?_))
      | exact ih0 _ _ _ _ _
      | exact ih1 _ _ _ _ _ _
      | exact ih2 _ _ _ _ _
      | exact bits_Next.mono _ _ _
      | exact bits_Ones.mono _ _
      | exact bits_Width.mono _ _
      | exact peristylelaw01_awake.mono _
      | exact LeO.none _
      | refine LeO.ite ?_ ?_
      | refine LeO.bind ?_ (fun _ => ?_)
set_option maxHeartbeats 8000000 in
set_option maxRecDepth 100000 in
theorem peristylelaw01_BitsWalks.calls (k : Nat) (a0 : Int) (r : Bool) (w : World) (h : peristylelaw01_BitsWalks.f k a0 = some r) :
    Calls Try.prog 8 #[.int .i64 a0] w fun e w' => e = .returned (.bool r) ∧ Below w.heap.size w w' := by
  have HB := Aside0.mk (Below.refl w.heap.size w)
  have H : ((bits_Next.f k a0 0).bind fun t143 => (peristylelaw01_BitsWalks.l0 k a0 0 (-1) 0 t143)) = some r := h
  clear h
  replace H := Option.bind_eq_some_iff.mp H
  obtain ⟨t143, A20, H⟩ := H
  replace H : (peristylelaw01_BitsWalks.l0 k a0 0 (-1) 0 t143) = some r := H
  have A2 := Aside0.mk A20
  clear A20
  have H' := Aside0.mk H
  clear H
  go_enter Try.func8, Try.ntmps8
  go_wp2_with (first | ((with_reducible refine gate_callee (f := 13) rfl ?_); refine goesL_ (some 8) rfl rfl Try.func13 (by kernel_rfl) rfl #[.int .i64 a0, .int .i64 0] rfl (by (try simp only [List.map_toArray, List.map_cons, List.map_nil]); first | done | rfl | (simp only [List.length_drop, List.length_take]; rfl)) ?_; (with_reducible refine (bits_Next.calls k a0 0 t143 _ A2.out).mono ?_); rintro e w3 ⟨rfl, hb⟩; refine ⟨_, rfl, ?_⟩; have n0_ := Aside0.mk (below_step (by repeat (first | (with_reducible first | exact HB.out | apply below_alloc | apply pw_below_drewN | apply below_drew1) | exact HB.out)) hb); clear HB; have HB := n0_; clear n0_; (try clear hb); (try clear hb2); (try clear hk); (try clear hi)))
  go_loopg [3, 4, 5, 6] k (fun kq v3 v4 v5 v6 w' => ∃ (x3_1 : Int) (x4_1 : Int) (x5_1 : Int) (x6_1 : Int), v3 = .int .i64 x3_1 ∧ v4 = .int .i64 x4_1 ∧ v5 = .int .i64 x5_1 ∧ v6 = .int .i64 x6_1 ∧ Aside0 (peristylelaw01_BitsWalks.l0 kq a0 x3_1 x4_1 x5_1 x6_1 = some r) ∧ Aside0 (kq ≤ k) ∧ Aside0 (Below w.heap.size w w'))
  case atStart => exact ⟨(0), ((-1)), (0), (t143), (by first | rfl | (simp; done) | (simp [*]; done)), (by first | rfl | (simp; done) | (simp [*]; done)), (by first | rfl | (simp; done) | (simp [*]; done)), (by first | rfl | (simp; done) | (simp [*]; done)), H', ⟨Nat.le_refl _⟩, ⟨by repeat (first | (with_reducible first | exact HB.out | apply below_alloc | apply pw_below_drewN | apply below_drew1) | exact HB.out)⟩⟩
  case round =>
    clear H'
    try clear c1
    try clear p2
    obtain ⟨x3_1, x4_1, x5_1, x6_1, rfl, rfl, rfl, rfl, HA, HK1, HB⟩ := hrel
    cases gk with
    | zero => exact absurd HA.out (by simp [peristylelaw01_BitsWalks.l0])
    | succ k1 =>
      have H := HA.out
      clear HA
      simp only [peristylelaw01_BitsWalks.l0] at H
      have HC4 := Aside0.mk H
      clear H
      go_upto_region 3 with (fail)
      go_cut [14] (fun v14 wc => ∃ (kq : Nat) (x14_3 : Bool), v14 = .bool x14_3 ∧ Aside0 (peristylelaw01_BitsWalks.j1 kq a0 x3_1 x4_1 x5_1 x6_1 x14_3 = some r) ∧ Aside0 (kq ≤ k1) ∧ Aside0 (Below w.heap.size w wc))
      case first =>
        have H := HC4.out
        clear HC4
        by_cases c5 : x6_1 ≥ 0
        · rw [if_pos c5] at H
          have c5b0 : decide (0 ≤ x6_1) = true := decide_eq_true c5
          clear c5
          (first | rw [c5b0] | (simp only [i64_w, i32_w]; rw [c5b0]) | skip)
          have H' := Aside0.mk H
          clear H
          go_wp2
          go_meet
          case rel => exact ⟨_, (decide (x3_1 ≤ 64)), (by first | rfl | (simp; done) | (simp [*]; done)), H', ⟨by have := HK1.out; first | omega | exact Nat.le_refl _⟩, ⟨by repeat (first | (with_reducible first | exact HB.out | apply below_alloc | apply pw_below_drewN | apply below_drew1) | exact HB.out)⟩⟩
        · rw [if_neg c5] at H
          have c5b0 : decide (0 ≤ x6_1) = false := decide_eq_false c5
          clear c5
          (first | rw [c5b0] | (simp only [i64_w, i32_w]; rw [c5b0]) | skip)
          have H' := Aside0.mk H
          clear H
          go_wp2
          go_meet
          case rel => exact ⟨_, (false), (by first | rfl | (simp; done) | (simp [*]; done)), H', ⟨by have := HK1.out; first | omega | exact Nat.le_refl _⟩, ⟨by repeat (first | (with_reducible first | exact HB.out | apply below_alloc | apply pw_below_drewN | apply below_drew1) | exact HB.out)⟩⟩
      case rest =>
        clear HC4
        try clear c1
        try clear p2
        try clear c5
        try clear c5b0
        try clear p2
        obtain ⟨kq, x14_3, rfl, HA, HJ3, HB⟩ := hcut
        cases kq with
        | zero => exact absurd HA.out (by simp [peristylelaw01_BitsWalks.j1])
        | succ kj3 =>
          have H := HA.out
          clear HA
          simp only [peristylelaw01_BitsWalks.j1] at H
          by_cases c6 : x14_3 = true
          · subst c6
            have H1 : (if x6_1 ≤ x4_1 then (peristylelaw01_BitsWalks.j2 kj3 a0 x3_1 x5_1 x6_1 true) else (if x6_1 > 63 then (peristylelaw01_BitsWalks.j2 kj3 a0 x3_1 x5_1 x6_1 true) else ((bits_Field.f a0 x6_1 1).bind fun t147 => (peristylelaw01_BitsWalks.j2 kj3 a0 x3_1 x5_1 x6_1 (t147 != 1))))) = some r := by rw [if_pos rfl] at H; exact H
            clear H
            have H := H1
            clear H1
            have HC7 := Aside0.mk H
            clear H
            go_upto_region 5 with (fail)
            go_cut [31] (fun v31 wc => ∃ (kq : Nat) (x31_6 : Bool), v31 = .bool x31_6 ∧ Aside0 (peristylelaw01_BitsWalks.j2 kq a0 x3_1 x5_1 x6_1 x31_6 = some r) ∧ Aside0 (kq ≤ kj3) ∧ Aside0 (Below w.heap.size w wc))
            case first =>
              have H := HC7.out
              clear HC7
              by_cases c8 : x6_1 ≤ x4_1
              · rw [if_pos c8] at H
                have c8b0 : decide (x6_1 ≤ x4_1) = true := decide_eq_true c8
                clear c8
                (first | rw [c8b0] | (simp only [i64_w, i32_w]; rw [c8b0]) | skip)
                have H' := Aside0.mk H
                clear H
                go_wp2
                go_meet
                case rel => exact ⟨_, (true), (by first | rfl | (simp; done) | (simp [*]; done)), H', ⟨by have := HK1.out; have := HJ3.out; first | omega | exact Nat.le_refl _⟩, ⟨by repeat (first | (with_reducible first | exact HB.out | apply below_alloc | apply pw_below_drewN | apply below_drew1) | exact HB.out)⟩⟩
              · rw [if_neg c8] at H
                have c8b0 : decide (x6_1 ≤ x4_1) = false := decide_eq_false c8
                clear c8
                (first | rw [c8b0] | (simp only [i64_w, i32_w]; rw [c8b0]) | skip)
                by_cases c9 : x6_1 > 63
                · rw [if_pos c9] at H
                  have c9b0 : decide (63 < x6_1) = true := decide_eq_true c9
                  clear c9
                  have H' := Aside0.mk H
                  clear H
                  go_wp2
                  go_meet
                  case rel => exact ⟨_, (true), (by first | rfl | (simp; done) | (simp [*]; done)), H', ⟨by have := HK1.out; have := HJ3.out; first | omega | exact Nat.le_refl _⟩, ⟨by repeat (first | (with_reducible first | exact HB.out | apply below_alloc | apply pw_below_drewN | apply below_drew1) | exact HB.out)⟩⟩
                · rw [if_neg c9] at H
                  have c9b0 : decide (63 < x6_1) = false := decide_eq_false c9
                  clear c9
                  replace H := Option.bind_eq_some_iff.mp H
                  obtain ⟨t147, A100, H⟩ := H
                  replace H : (peristylelaw01_BitsWalks.j2 kj3 a0 x3_1 x5_1 x6_1 (t147 != 1)) = some r := H
                  have A10 := Aside0.mk A100
                  clear A100
                  have H' := Aside0.mk H
                  clear H
                  go_wp2_with (first | (go_at_call 22; (with_reducible refine (bits_Field.calls a0 x6_1 1 t147 _ A10.out).mono ?_); rintro e w' ⟨rfl, ⟨nd, rfl⟩⟩; (try clear A10)))
                  go_meet
                  case rel => exact ⟨_, ((t147 != 1)), (by first | rfl | (simp; done) | (simp [*]; done)), H', ⟨by have := HK1.out; have := HJ3.out; first | omega | exact Nat.le_refl _⟩, ⟨by repeat (first | (with_reducible first | exact HB.out | apply below_alloc | apply pw_below_drewN | apply below_drew1) | exact HB.out)⟩⟩
            case rest =>
              clear HC7
              try clear c1
              try clear p2
              try clear c5
              try clear c5b0
              try clear c6
              try clear c8
              try clear c8b0
              try clear c9
              try clear c9b0
              try clear p2
              obtain ⟨kq, x31_6, rfl, HA, HJ6, HB⟩ := hcut
              cases kq with
              | zero => exact absurd HA.out (by simp [peristylelaw01_BitsWalks.j2])
              | succ kj6 =>
                have H := HA.out
                clear HA
                simp only [peristylelaw01_BitsWalks.j2] at H
                by_cases c11 : x31_6 = true
                · subst c11
                  have H1 : (some false) = some r := by rw [if_pos rfl] at H; exact H
                  clear H
                  have H := H1
                  clear H1
                  obtain rfl := Option.some.inj H
                  go_wp2
                  go_ret
                  exact ⟨by first | rfl | (simp [errW_none, errW_some] <;> rfl) | (simp [*, errW_none, errW_some] <;> rfl), by repeat (first | (with_reducible first | exact HB.out | apply below_alloc | apply pw_below_drewN | apply below_drew1) | exact HB.out)⟩
                · replace c11 := Bool.eq_false_iff.mpr c11
                  subst c11
                  have H1 : ((bits_With.f x5_1 x6_1 1 1).bind fun t148 => ((bits_Next.f kj6 a0 (wrap64 (x6_1 + 1))).bind fun t149 => (peristylelaw01_BitsWalks.l0 kj6 a0 (wrap64 (x3_1 + 1)) x6_1 t148 t149))) = some r := by rw [if_neg (show ¬ (false = true) by decide)] at H; exact H
                  clear H
                  have H := H1
                  clear H1
                  replace H := Option.bind_eq_some_iff.mp H
                  obtain ⟨t148, A120, H⟩ := H
                  replace H : ((bits_Next.f kj6 a0 (wrap64 (x6_1 + 1))).bind fun t149 => (peristylelaw01_BitsWalks.l0 kj6 a0 (wrap64 (x3_1 + 1)) x6_1 t148 t149)) = some r := H
                  have A12 := Aside0.mk A120
                  clear A120
                  replace H := Option.bind_eq_some_iff.mp H
                  obtain ⟨t149, A130, H⟩ := H
                  replace H : (peristylelaw01_BitsWalks.l0 kj6 a0 (wrap64 (x3_1 + 1)) x6_1 t148 t149) = some r := H
                  have A13 := Aside0.mk A130
                  clear A130
                  have H' := Aside0.mk H
                  clear H
                  go_wp2_with (first | ((with_reducible refine gate_callee (f := 24) rfl ?_); refine goesL_ (some 34) rfl rfl Try.func24 (by kernel_rfl) rfl #[.int .i64 x5_1, .int .i64 x6_1, .int .i64 1, .int .i64 1] rfl (by (try simp only [List.map_toArray, List.map_cons, List.map_nil]); first | done | rfl | (simp only [List.length_drop, List.length_take]; rfl)) ?_; (with_reducible refine (bits_With.calls x5_1 x6_1 1 1 t148 _ A12.out).mono ?_); rintro e w' ⟨rfl, ⟨nd, rfl⟩⟩; refine ⟨_, rfl, ?_⟩) | ((with_reducible refine gate_callee (f := 13) rfl ?_); refine goesL_ (some 18) rfl rfl Try.func13 (by kernel_rfl) rfl #[.int .i64 a0, .int .i64 (wrap64 (x6_1 + 1))] rfl (by (try simp only [List.map_toArray, List.map_cons, List.map_nil]); first | done | rfl | (simp only [List.length_drop, List.length_take]; rfl)) ?_; (with_reducible refine (bits_Next.calls kj6 a0 (wrap64 (x6_1 + 1)) t149 _ A13.out).mono ?_); rintro e w14 ⟨rfl, hb⟩; refine ⟨_, rfl, ?_⟩; have n0_ := Aside0.mk (below_step (by repeat (first | (with_reducible first | exact HB.out | apply below_alloc | apply pw_below_drewN | apply below_drew1) | exact HB.out)) hb); clear HB; have HB := n0_; clear n0_; (try clear hb); (try clear hb2); (try clear hk); (try clear hi)))
                  go_roundg kj6
                  case measure => have := HK1.out; have := HJ3.out; have := HJ6.out; omega
                  case rel => exact ⟨(wrap64 (x3_1 + 1)), (x6_1), (t148), (t149), (by first | rfl | (simp; done) | (simp [*]; done)), (by first | rfl | (simp; done) | (simp [*]; done)), (by first | rfl | (simp; done) | (simp [*]; done)), (by first | rfl | (simp; done) | (simp [*]; done)), H', ⟨by have := HK1.out; have := HJ3.out; have := HJ6.out; omega⟩, ⟨by repeat (first | (with_reducible first | exact HB.out | apply below_alloc | apply pw_below_drewN | apply below_drew1) | exact HB.out)⟩⟩
          · replace c6 := Bool.eq_false_iff.mpr c6
            subst c6
            have H1 : ((bits_Ones.f kj3 a0).bind fun t144 => (if x3_1 = t144 then (if x5_1 = a0 then ((bits_Width.f kj3 a0).bind fun t145 => (if t145 = (wrap64 (x4_1 + 1)) then ((peristylelaw01_awake.f kj3).bind fun t146 => (some t146)) else (some false))) else (some false)) else (some false))) = some r := by rw [if_neg (show ¬ (false = true) by decide)] at H; exact H
            clear H
            have H := H1
            clear H1
            replace H := Option.bind_eq_some_iff.mp H
            obtain ⟨t144, A150, H⟩ := H
            replace H : (if x3_1 = t144 then (if x5_1 = a0 then ((bits_Width.f kj3 a0).bind fun t145 => (if t145 = (wrap64 (x4_1 + 1)) then ((peristylelaw01_awake.f kj3).bind fun t146 => (some t146)) else (some false))) else (some false)) else (some false)) = some r := H
            have A15 := Aside0.mk A150
            clear A150
            by_cases c16 : x3_1 = t144
            · rw [if_pos c16] at H
              have c16b0 : (x3_1 == t144) = true := beq_iff_eq.mpr c16
              have c16b1 : (x3_1 != t144) = false := bne_eq_false_iff_eq.mpr c16
              clear c16
              by_cases c17 : x5_1 = a0
              · rw [if_pos c17] at H
                have c17b0 : (x5_1 == a0) = true := beq_iff_eq.mpr c17
                have c17b1 : (x5_1 != a0) = false := bne_eq_false_iff_eq.mpr c17
                clear c17
                replace H := Option.bind_eq_some_iff.mp H
                obtain ⟨t145, A180, H⟩ := H
                replace H : (if t145 = (wrap64 (x4_1 + 1)) then ((peristylelaw01_awake.f kj3).bind fun t146 => (some t146)) else (some false)) = some r := H
                have A18 := Aside0.mk A180
                clear A180
                by_cases c19 : t145 = (wrap64 (x4_1 + 1))
                · rw [if_pos c19] at H
                  have c19b0 : (t145 == (wrap64 (x4_1 + 1))) = true := beq_iff_eq.mpr c19
                  have c19b1 : (t145 != (wrap64 (x4_1 + 1))) = false := bne_eq_false_iff_eq.mpr c19
                  clear c19
                  replace H := Option.bind_eq_some_iff.mp H
                  obtain ⟨t146, A200, H⟩ := H
                  replace H : (some t146) = some r := H
                  have A20 := Aside0.mk A200
                  clear A200
                  obtain rfl := Option.some.inj H
                  go_wp2_with (first | ((with_reducible refine gate_callee (f := 11) rfl ?_); refine goesL_ (some 40) rfl rfl Try.func11 (by kernel_rfl) rfl #[.int .i64 a0] rfl (by (try simp only [List.map_toArray, List.map_cons, List.map_nil]); first | done | rfl | (simp only [List.length_drop, List.length_take]; rfl)) ?_; (with_reducible refine (bits_Ones.calls kj3 a0 t144 _ A15.out).mono ?_); rintro e w' ⟨rfl, ⟨nd, rfl⟩⟩; refine ⟨_, rfl, ?_⟩) | (go_at_call 9; (with_reducible refine (bits_Width.calls kj3 a0 t145 _ A18.out).mono ?_); rintro e w' ⟨rfl, ⟨nd, rfl⟩⟩; (try clear A18)) | (go_at_call 17; (with_reducible refine (peristylelaw01_awake.calls kj3  t146 _ A20.out).mono ?_); rintro e w21 ⟨rfl, hb⟩; have n0_ := Aside0.mk (below_step (by repeat (first | (with_reducible first | exact HB.out | apply below_alloc | apply pw_below_drewN | apply below_drew1) | exact HB.out)) hb); clear HB; have HB := n0_; clear n0_; (try clear hb); (try clear hb2); (try clear hk); (try clear hi); (try clear A20)))
                  go_ret
                  exact ⟨by first | rfl | (simp [errW_none, errW_some] <;> rfl) | (simp [*, errW_none, errW_some] <;> rfl), by repeat (first | (with_reducible first | exact HB.out | apply below_alloc | apply pw_below_drewN | apply below_drew1) | exact HB.out)⟩
                · rw [if_neg c19] at H
                  have c19b0 : (t145 == (wrap64 (x4_1 + 1))) = false := beq_eq_false_iff_ne.mpr c19
                  have c19b1 : (t145 != (wrap64 (x4_1 + 1))) = true := bne_iff_ne.mpr c19
                  obtain rfl := Option.some.inj H
                  go_wp2_with (first | ((with_reducible refine gate_callee (f := 11) rfl ?_); refine goesL_ (some 40) rfl rfl Try.func11 (by kernel_rfl) rfl #[.int .i64 a0] rfl (by (try simp only [List.map_toArray, List.map_cons, List.map_nil]); first | done | rfl | (simp only [List.length_drop, List.length_take]; rfl)) ?_; (with_reducible refine (bits_Ones.calls kj3 a0 t144 _ A15.out).mono ?_); rintro e w' ⟨rfl, ⟨nd, rfl⟩⟩; refine ⟨_, rfl, ?_⟩) | (go_at_call 9; (with_reducible refine (bits_Width.calls kj3 a0 t145 _ A18.out).mono ?_); rintro e w' ⟨rfl, ⟨nd, rfl⟩⟩; (try clear A18)))
                  go_ret
                  exact ⟨by first | rfl | (simp [errW_none, errW_some] <;> rfl) | (simp [*, errW_none, errW_some] <;> rfl), by repeat (first | (with_reducible first | exact HB.out | apply below_alloc | apply pw_below_drewN | apply below_drew1) | exact HB.out)⟩
              · rw [if_neg c17] at H
                have c17b0 : (x5_1 == a0) = false := beq_eq_false_iff_ne.mpr c17
                have c17b1 : (x5_1 != a0) = true := bne_iff_ne.mpr c17
                obtain rfl := Option.some.inj H
                go_wp2_with (first | ((with_reducible refine gate_callee (f := 11) rfl ?_); refine goesL_ (some 40) rfl rfl Try.func11 (by kernel_rfl) rfl #[.int .i64 a0] rfl (by (try simp only [List.map_toArray, List.map_cons, List.map_nil]); first | done | rfl | (simp only [List.length_drop, List.length_take]; rfl)) ?_; (with_reducible refine (bits_Ones.calls kj3 a0 t144 _ A15.out).mono ?_); rintro e w' ⟨rfl, ⟨nd, rfl⟩⟩; refine ⟨_, rfl, ?_⟩))
                go_ret
                exact ⟨by first | rfl | (simp [errW_none, errW_some] <;> rfl) | (simp [*, errW_none, errW_some] <;> rfl), by repeat (first | (with_reducible first | exact HB.out | apply below_alloc | apply pw_below_drewN | apply below_drew1) | exact HB.out)⟩
            · rw [if_neg c16] at H
              have c16b0 : (x3_1 == t144) = false := beq_eq_false_iff_ne.mpr c16
              have c16b1 : (x3_1 != t144) = true := bne_iff_ne.mpr c16
              obtain rfl := Option.some.inj H
              go_wp2_with (first | ((with_reducible refine gate_callee (f := 11) rfl ?_); refine goesL_ (some 40) rfl rfl Try.func11 (by kernel_rfl) rfl #[.int .i64 a0] rfl (by (try simp only [List.map_toArray, List.map_cons, List.map_nil]); first | done | rfl | (simp only [List.length_drop, List.length_take]; rfl)) ?_; (with_reducible refine (bits_Ones.calls kj3 a0 t144 _ A15.out).mono ?_); rintro e w' ⟨rfl, ⟨nd, rfl⟩⟩; refine ⟨_, rfl, ?_⟩))
              go_ret
              exact ⟨by first | rfl | (simp [errW_none, errW_some] <;> rfl) | (simp [*, errW_none, errW_some] <;> rfl), by repeat (first | (with_reducible first | exact HB.out | apply below_alloc | apply pw_below_drewN | apply below_drew1) | exact HB.out)⟩

/-- THE ONE PURE STATEMENT of peristylelaw01_BitsWalks: yours. -/
def peristylelaw01_BitsWalks.Pure : Prop := ∀ (a0 : Int), (Lit.int .i64 a0).wf = true → ∃ k, peristylelaw01_BitsWalks.f k a0 = some true
theorem peristylelaw01_BitsWalks.walk (P : peristylelaw01_BitsWalks.Pure) (a0 : Int) (w : World) (w0 : (Lit.int .i64 a0).wf = true) :
    Calls Try.prog 8 #[.int .i64 a0] w fun e w' => e = .returned (.bool true) ∧ Below w.heap.size w w' := by
  obtain ⟨k, h⟩ := P a0 w0
  refine (peristylelaw01_BitsWalks.calls k a0 true w h).mono ?_
  rintro e w' ⟨rfl, hd⟩
  exact ⟨rfl, hd⟩

/-! ### peristyleref01_Field: function 23 (a contract of the session's own) -/
def peristyleref01_Field.f (a0 a1 a2 : Int) : Option (Int) := some (wordTo (fillTo (fun k => bAt (bitsOf a0) (a1.toNat + k)) zB (fieldN a1 a2)) 64)
set_option maxHeartbeats 1600000 in
theorem peristyleref01_Field.calls0 (a0 a1 a2 : Int) (w : World) :
    Calls Try.prog 23 #[.int .i64 a0, .int .i64 a1, .int .i64 a2] w fun e w' => e = .returned (.int .i64 (wordTo (fillTo (fun k => bAt (bitsOf a0) (a1.toNat + k)) zB (fieldN a1 a2)) 64)) ∧ Below w.heap.size w w' := by
  go_enter Try.func23, Try.ntmps23
  go_wp2_with (first | (go_at_call 28; refine (peristyleref01_Of.calls a0 _).mono ?_; rintro e w1 ⟨rfl, HB1⟩) | ((with_reducible refine gate_dst (N := 7) rfl ?_); refine arr_alloc (w0 := w) w.heap.size rfl 34 rfl _ 64 peristyleref01_Of.zero HB1 HB1.size ?_; intro g0 w2 hg0 hb0 hs0 HB2 hbs2 hgr2) | ((with_reducible refine gate_store (t := 34) (p := 7) rfl ?_); refine arr_store (w0 := w) w.heap.size rfl 34 _ _ rfl g0 _ _ rfl rfl hg0 (by rw [arrB_size, bitsOf_length]; exact peristyleref01_Of.size) (by rw [arrB_size, arrB_size, bitsOf_length]; rfl) (arrB_one _) HB2 hb0 ?_; intro w3 hg3 HB3 hbs3 hgr3) | ((with_reducible refine gate_dst (N := 12) rfl ?_); refine arr_build rfl 34 rfl _ 64 4 64 peristyleref01_Of.zero Try.underlying34 peristyleref01_Of.elem ?_) | ((with_reducible refine gate_dst (N := 8) rfl ?_); refine arr_alloc (w0 := w) w.heap.size rfl 34 rfl _ 64 peristyleref01_Of.zero HB3 hbs3 ?_; intro g1 w4 hg1 hb1 hs1 HB4 hbs4 hgr4) | ((with_reducible refine gate_store (t := 34) (p := 8) rfl ?_); refine arr_store (w0 := w) w.heap.size rfl 34 _ _ rfl g1 _ _ rfl rfl hg1 peristyleref01_Of.size rfl (arrB_one _) HB4 hb1 ?_; intro w5 hg5 HB5 hbs5 hgr5))
  have hne : g0 ≠ g1 := by have := blk_lt hg3; omega
  have hg05 := blk_grown (blk_grown hg3 hgr4 (by simp)) hgr5 (by simpa using hne)
  have A1 := Aside0.mk hg05
  have A2 := Aside0.mk hg5
  have A3 := Aside0.mk HB5
  have A4 := Aside0.mk hne
  clear hg0 hs0 HB1 HB2 hbs2 hgr2 hg3 HB3 hbs3 hgr3 hg1 hs1 HB4 hbs4 hgr4 hg5 HB5 hbs5 hgr5 hne hg05
  go_loopw [9] (fun v9 wr => ∃ k : Nat, Aside0 (k ≤ fieldN a1 a2) ∧ v9 = .int .i64 k ∧ Aside0 (wr.heap[g1]? = some (.cells (arrB (fillTo (fun k => bAt (bitsOf a0) (a1.toNat + k)) zB k)) 34 (0, 0))) ∧ Aside0 (wr.heap[g0]? = some (.cells (arrB (bitsOf a0)) 34 (0, 0))) ∧ Aside0 (Below w.heap.size w wr)) (fun v9 _ => 64 - (intOf v9).toNat)
  case atStart => exact ⟨0, ⟨Nat.zero_le _⟩, rfl, ⟨by rw [fillTo_zero]; exact A2.out⟩, A1, A3⟩
  case round =>
    clear A1 A2 A3
    obtain ⟨k, HK, rfl, C1, C2, C3⟩ := hrel
    have HL : Aside0 ((fillTo (fun k => bAt (bitsOf a0) (a1.toNat + k)) zB k).length = 64) := ⟨fillTo_length _ zB k (Nat.le_trans HK.out (fieldN_le _ _))⟩
    have hk0 : (0 : Int) ≤ (k : Int) := by omega
    by_cases hlt : k < fieldN a1 a2
    · obtain ⟨h0, h1, h2, h3, h4⟩ := fieldN_in hlt
      obtain ⟨p, rfl⟩ := Int.eq_ofNat_of_zero_le h0
      have HLT := Aside0.mk hlt
      clear hlt
      have co : wr.cell? ⟨g1, k, none⟩ = some (.bool (bAt (fillTo (fun k => bAt (bitsOf a0) ((p : Int).toNat + k)) zB k) k)) := arrB_cell C1.out k (by rw [HL.out]; omega)
      have fo : wr.frozen? ⟨g1, k, none⟩ = false := blk_frozen C1.out k
      have cb : wr.cell? ⟨g0, p + k, none⟩ = some (.bool (bAt (bitsOf a0) (p + k))) := arrB_cell C2.out (p + k) (by rw [bitsOf_length]; omega)
      generalize bAt (fillTo (fun k => bAt (bitsOf a0) ((p : Int).toNat + k)) zB k) k = old at co
      go_wp2
      go_roundw
      case rel =>
        have hset := arrB_put C1.out k (bAt (bitsOf a0) (p + k))
        rw [show bAt (bitsOf a0) (p + k) = (fun k => bAt (bitsOf a0) ((p : Int).toNat + k)) k from rfl, fillTo_set _ zB k (by rw [zB_length]; omega)] at hset
        exact ⟨k + 1, ⟨HLT.out⟩, by go_num, ⟨hset⟩, ⟨blk_far C2.out (fun e => A4.out e) _⟩, ⟨C3.out.setCell hb1 _⟩⟩
      case measure => simp [intOf]; omega
    · have hkn : k = fieldN a1 a2 := by have := HK.out; omega
      have HX := Aside0.mk (fieldN_out hkn)
      have HF : Aside0 (wordTo (fillTo (fun k => bAt (bitsOf a0) (a1.toNat + k)) zB k) 64 = wordTo (fillTo (fun k => bAt (bitsOf a0) (a1.toNat + k)) zB (fieldN a1 a2)) 64) := ⟨by rw [← hkn]⟩
      clear hlt HK hkn
      rcases HX.out with hx | hx | hx | ⟨hx0, hx1, hx⟩
      all_goals
        clear HX
        by_cases h64 : (k : Int) < 64
      all_goals (try by_cases hw : (k : Int) < a2)
      all_goals (try by_cases hp : 0 ≤ a1)
      all_goals first | (exfalso; omega; done) | skip
      all_goals
        go_wp2_with (first | ((with_reducible refine gate_dst (N := 43) rfl ?_); refine wpList_load_row rfl 34 _ rfl g1 rfl 34 _ (0, 0) _ C1.out Try.underlying34 rfl (by rw [arrB_size, HL.out]; exact peristyleref01_Of.size) ?_) | (go_at_call 30; refine (peristyleref01_Word.calls _ HL.out _).mono ?_; rintro e w9 ⟨rfl, HB9⟩))
        go_ret
        exact ⟨by rw [← HF.out]; rfl, below_step C3.out HB9⟩
theorem peristyleref01_Field.calls (a0 a1 a2 : Int) (r : Int) (w : World) (h : peristyleref01_Field.f a0 a1 a2 = some r) :
    Calls Try.prog 23 #[.int .i64 a0, .int .i64 a1, .int .i64 a2] w fun e w' => e = .returned (.int .i64 r) ∧ Below w.heap.size w w' := by
  obtain rfl := Option.some.inj h
  exact peristyleref01_Field.calls0 a0 a1 a2 w

/-! ### peristyleref01_With: function 25 (a contract of the session's own) -/
def peristyleref01_With.f (a0 a1 a2 a3 : Int) : Option (Int) := some (wordTo (putTo (bitsOf a0) (bitsOf a3) a1.toNat (fieldN a1 a2)) 64)
set_option maxHeartbeats 1600000 in
theorem peristyleref01_With.calls0 (a0 a1 a2 a3 : Int) (w : World) :
    Calls Try.prog 25 #[.int .i64 a0, .int .i64 a1, .int .i64 a2, .int .i64 a3] w fun e w' => e = .returned (.int .i64 (wordTo (putTo (bitsOf a0) (bitsOf a3) a1.toNat (fieldN a1 a2)) 64)) ∧ Below w.heap.size w w' := by
  go_enter Try.func25, Try.ntmps25
  go_wp2_with fail
  refine (peristyleref01_Of.calls a0 _).mono ?_
  rintro e w1 ⟨rfl, HB1⟩
  go_wp2_with fail
  refine (peristyleref01_Of.calls a3 _).mono ?_
  rintro e w2 ⟨rfl, HB2a⟩
  have HB2 := below_step HB1 HB2a
  go_wp2_with (first | ((with_reducible refine gate_dst (N := 9) rfl ?_); refine arr_alloc (w0 := w) w.heap.size rfl 34 rfl _ 64 peristyleref01_Of.zero HB2 HB2.size ?_; intro g0 w3 hg0 hb0 hs0 HB3 hbs3 hgr3) | ((with_reducible refine gate_dst (N := 10) rfl ?_); refine arr_alloc (w0 := w) w.heap.size rfl 34 rfl _ 64 peristyleref01_Of.zero HB3 hbs3 ?_; intro g1 w4 hg1 hb1 hs1 HB4 hbs4 hgr4) | ((with_reducible refine gate_store (t := 34) (p := 9) rfl ?_); refine arr_store (w0 := w) w.heap.size rfl 34 _ _ rfl g0 _ _ rfl rfl (blk_grown hg0 hgr4 (by simp)) (by rw [arrB_size, bitsOf_length]; exact peristyleref01_Of.size) (by rw [arrB_size, arrB_size, bitsOf_length]; rfl) (arrB_one _) HB4 hb0 ?_; intro w5 hg5 HB5 hbs5 hgr5) | ((with_reducible refine gate_store (t := 34) (p := 10) rfl ?_); have hne : g0 ≠ g1 := (by have := blk_lt hg0; omega); have hg15 := blk_grown hg1 hgr5 (by simpa using hne.symm); refine arr_store (w0 := w) w.heap.size rfl 34 _ _ rfl g1 _ _ rfl rfl hg15 (by rw [arrB_size, bitsOf_length]; exact peristyleref01_Of.size) (by rw [arrB_size, arrB_size, bitsOf_length]; rfl) (arrB_one _) HB5 hb1 ?_; intro w6 hg6 HB6 hbs6 hgr6; have hg06 := blk_grown hg5 hgr6 (by simpa using hne)))
  have A1 := Aside0.mk hg06
  have A2 := Aside0.mk hg6
  have A3 := Aside0.mk HB6
  have A4 := Aside0.mk hne
  clear HB1 HB2a HB2 hg0 hs0 HB3 hbs3 hgr3 hg1 hs1 HB4 hbs4 hgr4 hg5 HB5 hbs5 hgr5 hg15 hg6 HB6 hbs6 hgr6 hg06 hne
  go_loopw [11] (fun v11 wr => ∃ k : Nat, Aside0 (k ≤ fieldN a1 a2) ∧ v11 = .int .i64 k ∧ Aside0 (wr.heap[g0]? = some (.cells (arrB (putTo (bitsOf a0) (bitsOf a3) a1.toNat k)) 34 (0, 0))) ∧ Aside0 (wr.heap[g1]? = some (.cells (arrB (bitsOf a3)) 34 (0, 0))) ∧ Aside0 (Below w.heap.size w wr)) (fun v11 _ => 64 - (intOf v11).toNat)
  case atStart => exact ⟨0, ⟨Nat.zero_le _⟩, rfl, A1, A2, A3⟩
  case round =>
    clear A1 A2 A3
    obtain ⟨k, HK, rfl, C1, C2, C3⟩ := hrel
    have HL : Aside0 ((putTo (bitsOf a0) (bitsOf a3) a1.toNat k).length = 64) := ⟨by rw [putTo_length, bitsOf_length]⟩
    have hk0 : (0 : Int) ≤ (k : Int) := by omega
    by_cases hlt : k < fieldN a1 a2
    · obtain ⟨h0, h1, h2, h3, h4⟩ := fieldN_in hlt
      obtain ⟨p, rfl⟩ := Int.eq_ofNat_of_zero_le h0
      have HLT := Aside0.mk hlt
      clear hlt
      have co : wr.cell? ⟨g0, p + k, none⟩ = some (.bool (bAt (putTo (bitsOf a0) (bitsOf a3) (p : Int).toNat k) (p + k))) := arrB_cell C1.out (p + k) (by rw [HL.out]; omega)
      have fo : wr.frozen? ⟨g0, p + k, none⟩ = false := blk_frozen C1.out (p + k)
      have cb : wr.cell? ⟨g1, k, none⟩ = some (.bool (bAt (bitsOf a3) k)) := arrB_cell C2.out k (by rw [bitsOf_length]; omega)
      generalize bAt (putTo (bitsOf a0) (bitsOf a3) (p : Int).toNat k) (p + k) = old at co
      go_wp2
      go_roundw
      case rel => exact ⟨k + 1, ⟨HLT.out⟩, by go_num, ⟨arrB_put C1.out (p + k) (bAt (bitsOf a3) k)⟩, ⟨blk_far C2.out (fun e => A4.out e.symm) _⟩, ⟨C3.out.setCell hb0 _⟩⟩
      case measure => simp [intOf]; omega
    · have hkn : k = fieldN a1 a2 := by have := HK.out; omega
      have HX := Aside0.mk (fieldN_out hkn)
      have HF : Aside0 (wordTo (putTo (bitsOf a0) (bitsOf a3) a1.toNat k) 64 = wordTo (putTo (bitsOf a0) (bitsOf a3) a1.toNat (fieldN a1 a2)) 64) := ⟨by rw [← hkn]⟩
      clear hlt HK hkn
      rcases HX.out with hx | hx | hx | ⟨hx0, hx1, hx⟩
      all_goals
        clear HX
        by_cases h64 : (k : Int) < 64
      all_goals (try by_cases hw : (k : Int) < a2)
      all_goals (try by_cases hp : 0 ≤ a1)
      all_goals first | (exfalso; omega; done) | skip
      all_goals
        go_wp2_with (first | ((with_reducible refine gate_dst (N := 46) rfl ?_); refine wpList_load_row rfl 34 _ rfl g0 rfl 34 _ (0, 0) _ C1.out Try.underlying34 rfl (by rw [arrB_size, HL.out]; exact peristyleref01_Of.size) ?_) | (go_at_call 30; refine (peristyleref01_Word.calls _ HL.out _).mono ?_; rintro e w9 ⟨rfl, HB9⟩))
        go_ret
        exact ⟨by rw [← HF.out]; rfl, below_step C3.out HB9⟩
theorem peristyleref01_With.calls (a0 a1 a2 a3 : Int) (r : Int) (w : World) (h : peristyleref01_With.f a0 a1 a2 a3 = some r) :
    Calls Try.prog 25 #[.int .i64 a0, .int .i64 a1, .int .i64 a2, .int .i64 a3] w fun e w' => e = .returned (.int .i64 r) ∧ Below w.heap.size w w' := by
  obtain rfl := Option.some.inj h
  exact peristyleref01_With.calls0 a0 a1 a2 a3 w

-- NOT PRINTED: function 5 (peristylelaw01_BitsFields)

-- NOT PRINTED: function 6 (peristylelaw01_BitsStay)

end Go.Proofs.Ytconnhmlpolmnaa.Print
