-- Written by the session's own xprint (over the kit's print program): functions, contracts.
import Derived.Test.YtconnhmlpolmnaaPrint0
import Derived.Test.YtconnhmlpolmnaaPrint1
namespace Go.Proofs.Ytconnhmlpolmnaa.Print
open Go.RowKit Go.Proofs.YtconnhmlpolmnaaW.PrintWords Go.Proofs.YtconnhmlpolmnaaW.PrintLast Go.Proofs.YtconnhmlpolmnaaW.PrintMore
attribute [local go_sem] max2_int min2_int max_two min_two max_three min_three max_four min_four   -- for this text's walks alone
set_option linter.unusedVariables false
set_option linter.unusedSimpArgs false

/-! ### peristyleref01_Mask: function 16 (a contract of the session's own) -/
def peristyleref01_Mask.f (a0 : Int) : Option (Int) := some (wordTo (fillTo (fun _ => true) zB (min (max a0 0) 64).toNat) 64)
set_option maxHeartbeats 1600000 in
theorem peristyleref01_Mask.calls0 (a0 : Int) (w : World) :
    Calls Try.prog 16 #[.int .i64 a0] w fun e w' => e = .returned (.int .i64 (wordTo (fillTo (fun _ => true) zB (min (max a0 0) 64).toNat) 64)) ∧ Below w.heap.size w w' := by
  obtain ⟨n, HN⟩ : ∃ n : Nat, Aside0 ((min (max a0 0) 64).toNat = n) := ⟨_, ⟨rfl⟩⟩
  rw [HN.out]
  have HD : Aside0 (∀ k : Nat, (k < n → (k : Int) < a0 ∧ (k : Int) < 64) ∧ (k = n → (k : Int) < 64 → ¬ (k : Int) < a0)) := ⟨fun k => by have := HN.out; omega⟩
  have HM : Aside0 (n ≤ 64) := ⟨by have := HN.out; omega⟩
  clear HN
  go_enter Try.func16, Try.ntmps16
  go_wp2_with (first | ((with_reducible refine gate_dst (N := 5) rfl ?_); refine arr_build rfl 34 rfl _ 64 4 64 peristyleref01_Of.zero Try.underlying34 peristyleref01_Of.elem ?_) | ((with_reducible refine gate_dst (N := 3) rfl ?_); refine arr_alloc (w0 := w) w.heap.size rfl 34 rfl _ 64 peristyleref01_Of.zero (Below.refl _ _) (Nat.le_refl _) ?_; intro g1 w4 hg1 hb1 hs1 HB4 hbs4 hgr4) | ((with_reducible refine gate_store (t := 34) (p := 3) rfl ?_); refine arr_store (w0 := w) w.heap.size rfl 34 _ _ rfl g1 _ _ rfl rfl hg1 peristyleref01_Of.size rfl (arrB_one _) HB4 hb1 ?_; intro w5 hg5 HB5 hbs5 hgr5))
  have A2 := Aside0.mk hg5
  have A3 := Aside0.mk HB5
  clear hg1 hs1 HB4 hbs4 hgr4 hg5 HB5 hbs5 hgr5
  go_loopw [4] (fun v4 wr => ∃ k : Nat, Aside0 (k ≤ n) ∧ v4 = .int .i64 k ∧ Aside0 (wr.heap[g1]? = some (.cells (arrB (fillTo (fun _ => true) zB k)) 34 (0, 0))) ∧ Aside0 (Below w.heap.size w wr)) (fun v4 _ => 64 - (intOf v4).toNat)
  case atStart => exact ⟨0, ⟨Nat.zero_le _⟩, rfl, ⟨by rw [fillTo_zero]; exact A2.out⟩, A3⟩
  case round =>
    obtain ⟨k, HK, rfl, B2, B3⟩ := hrel
    have HL : Aside0 ((fillTo (fun _ => true) zB k).length = 64) := ⟨fillTo_length _ zB k (Nat.le_trans HK.out HM.out)⟩
    by_cases hlt : k < n
    · obtain ⟨hka, hk1⟩ := (HD.out k).1 hlt
      have hc2 : wr.cell? ⟨g1, k, none⟩ = some (.bool (bAt (fillTo (fun _ => true) zB k) k)) := arrB_cell B2.out k (by rw [HL.out]; omega)
      have hf : wr.frozen? ⟨g1, k, none⟩ = false := blk_frozen B2.out k
      have hk0 : (0 : Int) ≤ (k : Int) := by omega
      generalize bAt (fillTo (fun _ => true) zB k) k = old at hc2
      go_wp2
      go_roundw
      case rel =>
        have hset := arrB_put B2.out k true
        rw [fillTo_set (fun _ => true) zB k (by rw [zB_length]; omega)] at hset
        exact ⟨k + 1, ⟨by omega⟩, by go_num, ⟨hset⟩, ⟨B3.out.setCell hb1 _⟩⟩
      case measure => simp [intOf]; omega
    · have hkn : k = n := by have := HK.out; omega
      have HX := (HD.out k).2 hkn
      subst hkn
      clear hlt HK
      have hk0 : (0 : Int) ≤ (k : Int) := by omega
      by_cases h64 : (k : Int) < 64
      all_goals
        (try have HX1 := HX h64)
        clear HX
        go_wp2_with (first | ((with_reducible refine gate_dst (N := 17) rfl ?_); refine wpList_load_row rfl 34 _ rfl g1 rfl 34 _ (0, 0) _ B2.out Try.underlying34 rfl (by rw [arrB_size, HL.out]; exact peristyleref01_Of.size) ?_) | (go_at_call 30; refine (peristyleref01_Word.calls _ HL.out _).mono ?_; rintro e w9 ⟨rfl, HB9⟩))
        go_ret
        exact ⟨rfl, below_step B3.out HB9⟩
theorem peristyleref01_Mask.calls (a0 : Int) (r : Int) (w : World) (h : peristyleref01_Mask.f a0 = some r) :
    Calls Try.prog 16 #[.int .i64 a0] w fun e w' => e = .returned (.int .i64 r) ∧ Below w.heap.size w w' := by
  obtain rfl := Option.some.inj h
  exact peristyleref01_Mask.calls0 a0 w

/-! ### bits_Zig: function 18 -/
def bits_Zig.f (a0 : Int) : Option (Int) := some (wrap64 (Go.bits .xor .u64 (IntKind.u64.wrap ((IntKind.u64.wrap (a0)) * 2)) (IntKind.u64.wrap (a0 / 9223372036854775808))))
set_option maxHeartbeats 8000000 in
set_option maxRecDepth 100000 in
theorem bits_Zig.calls (a0 : Int) (r : Int) (w : World) (h : bits_Zig.f a0 = some r) :
    Calls Try.prog 18 #[.int .i64 a0] w fun e w' => e = .returned (.int .i64 r) ∧ Drawn0 w w' := by
  have H : (some (wrap64 (Go.bits .xor .u64 (IntKind.u64.wrap ((IntKind.u64.wrap (a0)) * 2)) (IntKind.u64.wrap (a0 / 9223372036854775808))))) = some r := h
  clear h
  obtain rfl := Option.some.inj H
  go_enter Try.func18, Try.ntmps18
  go_wp2
  go_ret
  exact ⟨by first | rfl | (unfold wrap64; rfl) | (simp; done) | (simp [*]; done), by repeat (first | exact Drawn0.refl _ | apply Drawn0.step)⟩

/-! ### bits_Zag: function 20 -/
def bits_Zag.f (a0 : Int) : Option (Int) := some (wrap64 (Go.bits .xor .u64 ((IntKind.u64.wrap (a0)) / 2) (IntKind.u64.wrap (-(Go.bits .and .u64 (IntKind.u64.wrap (a0)) 1)))))
set_option maxHeartbeats 8000000 in
set_option maxRecDepth 100000 in
theorem bits_Zag.calls (a0 : Int) (r : Int) (w : World) (h : bits_Zag.f a0 = some r) :
    Calls Try.prog 20 #[.int .i64 a0] w fun e w' => e = .returned (.int .i64 r) ∧ Drawn0 w w' := by
  have H : (some (wrap64 (Go.bits .xor .u64 ((IntKind.u64.wrap (a0)) / 2) (IntKind.u64.wrap (-(Go.bits .and .u64 (IntKind.u64.wrap (a0)) 1)))))) = some r := h
  clear h
  obtain rfl := Option.some.inj H
  go_enter Try.func20, Try.ntmps20
  go_wp2
  go_ret
  exact ⟨by first | rfl | (unfold wrap64; rfl) | (simp; done) | (simp [*]; done), by repeat (first | exact Drawn0.refl _ | apply Drawn0.step)⟩

/-! ### bits_placed: function 31 -/
def bits_placed.f (a0 : Int) (a1 : Int) : Option (Bool) := if a0 ≥ 0 then (if a0 < 64 then (some (decide (a1 ≥ 1))) else (some false)) else (some false)
set_option maxHeartbeats 8000000 in
set_option maxRecDepth 100000 in
theorem bits_placed.calls (a0 : Int) (a1 : Int) (r : Bool) (w : World) (h : bits_placed.f a0 a1 = some r) :
    Calls Try.prog 31 #[.int .i64 a0, .int .i64 a1] w fun e w' => e = .returned (.bool r) ∧ Drawn0 w w' := by
  have H : (if a0 ≥ 0 then (if a0 < 64 then (some (decide (a1 ≥ 1))) else (some false)) else (some false)) = some r := h
  clear h
  by_cases c3 : a0 ≥ 0
  · rw [if_pos c3] at H
    have c3b0 : decide (0 ≤ a0) = true := decide_eq_true c3
    clear c3
    by_cases c4 : a0 < 64
    · rw [if_pos c4] at H
      have c4b0 : decide (a0 < 64) = true := decide_eq_true c4
      clear c4
      obtain rfl := Option.some.inj H
      go_enter Try.func31, Try.ntmps31
      go_wp2
      go_ret
      exact ⟨by first | rfl | (unfold wrap64; rfl) | (simp; done) | (simp [*]; done), by repeat (first | exact Drawn0.refl _ | apply Drawn0.step)⟩
    · rw [if_neg c4] at H
      have c4b0 : decide (a0 < 64) = false := decide_eq_false c4
      clear c4
      obtain rfl := Option.some.inj H
      go_enter Try.func31, Try.ntmps31
      go_wp2
      go_ret
      exact ⟨by first | rfl | (unfold wrap64; rfl) | (simp; done) | (simp [*]; done), by repeat (first | exact Drawn0.refl _ | apply Drawn0.step)⟩
  · rw [if_neg c3] at H
    have c3b0 : decide (0 ≤ a0) = false := decide_eq_false c3
    clear c3
    obtain rfl := Option.some.inj H
    go_enter Try.func31, Try.ntmps31
    go_wp2
    go_ret
    exact ⟨by first | rfl | (unfold wrap64; rfl) | (simp; done) | (simp [*]; done), by repeat (first | exact Drawn0.refl _ | apply Drawn0.step)⟩

/-! ### bits_Field: function 22 -/
def bits_Field.f (a0 : Int) (a1 : Int) (a2 : Int) : Option (Int) := (bits_placed.f a1 a2).bind fun t103 => (if t103 = true then (if 0 ≤ a1 then ((bits_Mask.f a2).bind fun t104 => (some (Go.bits .and .i64 (wrap64 (shr .u64 (IntKind.u64.wrap (a0)) a1)) t104))) else (none)) else (some 0))
set_option maxHeartbeats 8000000 in
set_option maxRecDepth 100000 in
theorem bits_Field.calls (a0 : Int) (a1 : Int) (a2 : Int) (r : Int) (w : World) (h : bits_Field.f a0 a1 a2 = some r) :
    Calls Try.prog 22 #[.int .i64 a0, .int .i64 a1, .int .i64 a2] w fun e w' => e = .returned (.int .i64 r) ∧ Drawn0 w w' := by
  have H : ((bits_placed.f a1 a2).bind fun t103 => (if t103 = true then (if 0 ≤ a1 then ((bits_Mask.f a2).bind fun t104 => (some (Go.bits .and .i64 (wrap64 (shr .u64 (IntKind.u64.wrap (a0)) a1)) t104))) else (none)) else (some 0))) = some r := h
  clear h
  replace H := Option.bind_eq_some_iff.mp H
  obtain ⟨t103, A40, H⟩ := H
  replace H : (if t103 = true then (if 0 ≤ a1 then ((bits_Mask.f a2).bind fun t104 => (some (Go.bits .and .i64 (wrap64 (shr .u64 (IntKind.u64.wrap (a0)) a1)) t104))) else (none)) else (some 0)) = some r := H
  have A4 := Aside0.mk A40
  clear A40
  by_cases c5 : t103 = true
  · subst c5
    have H1 : (if 0 ≤ a1 then ((bits_Mask.f a2).bind fun t104 => (some (Go.bits .and .i64 (wrap64 (shr .u64 (IntKind.u64.wrap (a0)) a1)) t104))) else (none)) = some r := by rw [if_pos rfl] at H; exact H
    clear H
    have H := H1
    clear H1
    by_cases c6 : 0 ≤ a1
    · rw [if_pos c6] at H
      have c6b0 := eq_true c6
      have c6b1 : decide (0 ≤ a1) = true := decide_eq_true c6
      clear c6
      obtain ⟨ji7, hji7⟩ : ∃ j_ : Int, (shr .u64 (IntKind.u64.wrap (a0)) a1) = j_ := ⟨_, rfl⟩
      replace H : ((bits_Mask.f a2).bind fun t104 => (some (Go.bits .and .i64 (wrap64 (ji7)) t104))) = some r := by first | (rw [hji7] at H; exact H) | (simp only [hji7] at H ⊢; exact H)
      (try rw [hji7] at A4)
      have hji7_ : ((IntKind.u64.wrap (a0)) / 2 ^ min a1.toNat 64) = ji7 := hji7
      have hji7z : a1 ≤ 64 → ((IntKind.u64.wrap (a0)) / 2 ^ a1.toNat) = ji7 := shr_small hji7
      replace H := Option.bind_eq_some_iff.mp H
      obtain ⟨t104, A80, H⟩ := H
      replace H : (some (Go.bits .and .i64 (wrap64 (ji7)) t104)) = some r := H
      have A8 := Aside0.mk A80
      clear A80
      obtain rfl := Option.some.inj H
      go_enter Try.func22, Try.ntmps22
      go_wp2_with (first | (go_at_call 31; (with_reducible refine (bits_placed.calls a1 a2 true _ A4.out).mono ?_); rintro e w' ⟨rfl, ⟨nd, rfl⟩⟩; (try first | exact ⟨rfl, _, World.drewN_drewN _ _ _⟩ | exact ⟨rfl, _, Eq.trans (World.drewN_drewN _ _ _) (congrArg (World.drewN _) (Nat.add_assoc _ _ _))⟩)) | (go_at_call 15; (with_reducible refine (bits_Mask.calls a2 t104 _ A8.out).mono ?_); rintro e w' ⟨rfl, ⟨nd, rfl⟩⟩; (try first | exact ⟨rfl, _, World.drewN_drewN _ _ _⟩ | exact ⟨rfl, _, Eq.trans (World.drewN_drewN _ _ _) (congrArg (World.drewN _) (Nat.add_assoc _ _ _))⟩)))
      repeat (go_quiet (first | (go_at_call 31; (with_reducible refine (bits_placed.calls a1 a2 true _ A4.out).mono ?_); rintro e w' ⟨rfl, ⟨nd, rfl⟩⟩; (try first | exact ⟨rfl, _, World.drewN_drewN _ _ _⟩ | exact ⟨rfl, _, Eq.trans (World.drewN_drewN _ _ _) (congrArg (World.drewN _) (Nat.add_assoc _ _ _))⟩)) | (go_at_call 15; (with_reducible refine (bits_Mask.calls a2 t104 _ A8.out).mono ?_); rintro e w' ⟨rfl, ⟨nd, rfl⟩⟩; (try first | exact ⟨rfl, _, World.drewN_drewN _ _ _⟩ | exact ⟨rfl, _, Eq.trans (World.drewN_drewN _ _ _) (congrArg (World.drewN _) (Nat.add_assoc _ _ _))⟩))); try go_wp2_with (first | (go_at_call 31; (with_reducible refine (bits_placed.calls a1 a2 true _ A4.out).mono ?_); rintro e w' ⟨rfl, ⟨nd, rfl⟩⟩; (try first | exact ⟨rfl, _, World.drewN_drewN _ _ _⟩ | exact ⟨rfl, _, Eq.trans (World.drewN_drewN _ _ _) (congrArg (World.drewN _) (Nat.add_assoc _ _ _))⟩)) | (go_at_call 15; (with_reducible refine (bits_Mask.calls a2 t104 _ A8.out).mono ?_); rintro e w' ⟨rfl, ⟨nd, rfl⟩⟩; (try first | exact ⟨rfl, _, World.drewN_drewN _ _ _⟩ | exact ⟨rfl, _, Eq.trans (World.drewN_drewN _ _ _) (congrArg (World.drewN _) (Nat.add_assoc _ _ _))⟩))))
      go_ret
      exact ⟨by first | rfl | (unfold wrap64; rfl) | (simp; done) | (simp only [← hji7] <;> (first | rfl | simp)) | (simp [*]; done), by repeat (first | exact Drawn0.refl _ | apply Drawn0.step)⟩
    · rw [if_neg c6] at H
      exact absurd H (by simp)
  · replace c5 := Bool.eq_false_iff.mpr c5
    subst c5
    have H1 : (some 0) = some r := by rw [if_neg (show ¬ (false = true) by decide)] at H; exact H
    clear H
    have H := H1
    clear H1
    obtain rfl := Option.some.inj H
    go_enter Try.func22, Try.ntmps22
    go_wp2_with (first | (go_at_call 31; (with_reducible refine (bits_placed.calls a1 a2 false _ A4.out).mono ?_); rintro e w' ⟨rfl, ⟨nd, rfl⟩⟩; (try first | exact ⟨rfl, _, World.drewN_drewN _ _ _⟩ | exact ⟨rfl, _, Eq.trans (World.drewN_drewN _ _ _) (congrArg (World.drewN _) (Nat.add_assoc _ _ _))⟩)))
    repeat (go_quiet (first | (go_at_call 31; (with_reducible refine (bits_placed.calls a1 a2 false _ A4.out).mono ?_); rintro e w' ⟨rfl, ⟨nd, rfl⟩⟩; (try first | exact ⟨rfl, _, World.drewN_drewN _ _ _⟩ | exact ⟨rfl, _, Eq.trans (World.drewN_drewN _ _ _) (congrArg (World.drewN _) (Nat.add_assoc _ _ _))⟩))); try go_wp2_with (first | (go_at_call 31; (with_reducible refine (bits_placed.calls a1 a2 false _ A4.out).mono ?_); rintro e w' ⟨rfl, ⟨nd, rfl⟩⟩; (try first | exact ⟨rfl, _, World.drewN_drewN _ _ _⟩ | exact ⟨rfl, _, Eq.trans (World.drewN_drewN _ _ _) (congrArg (World.drewN _) (Nat.add_assoc _ _ _))⟩))))
    go_ret
    exact ⟨by first | rfl | (unfold wrap64; rfl) | (simp; done) | (simp [*]; done), by repeat (first | exact Drawn0.refl _ | apply Drawn0.step)⟩

/-! ### bits_With: function 24 -/
def bits_With.f (a0 : Int) (a1 : Int) (a2 : Int) (a3 : Int) : Option (Int) := (bits_placed.f a1 a2).bind fun t105 => (if t105 = true then ((bits_Mask.f a2).bind fun t106 => (if 0 ≤ a1 then (some (wrap64 (Go.bits .or .u64 (Go.bits .andNot .u64 (IntKind.u64.wrap (a0)) (shl .u64 (IntKind.u64.wrap (t106)) a1)) (Go.bits .and .u64 (shl .u64 (IntKind.u64.wrap (a3)) a1) (shl .u64 (IntKind.u64.wrap (t106)) a1))))) else (none))) else (some a0))
set_option maxHeartbeats 8000000 in
set_option maxRecDepth 100000 in
theorem bits_With.calls (a0 : Int) (a1 : Int) (a2 : Int) (a3 : Int) (r : Int) (w : World) (h : bits_With.f a0 a1 a2 a3 = some r) :
    Calls Try.prog 24 #[.int .i64 a0, .int .i64 a1, .int .i64 a2, .int .i64 a3] w fun e w' => e = .returned (.int .i64 r) ∧ Drawn0 w w' := by
  have H : ((bits_placed.f a1 a2).bind fun t105 => (if t105 = true then ((bits_Mask.f a2).bind fun t106 => (if 0 ≤ a1 then (some (wrap64 (Go.bits .or .u64 (Go.bits .andNot .u64 (IntKind.u64.wrap (a0)) (shl .u64 (IntKind.u64.wrap (t106)) a1)) (Go.bits .and .u64 (shl .u64 (IntKind.u64.wrap (a3)) a1) (shl .u64 (IntKind.u64.wrap (t106)) a1))))) else (none))) else (some a0))) = some r := h
  clear h
  replace H := Option.bind_eq_some_iff.mp H
  obtain ⟨t105, A50, H⟩ := H
  replace H : (if t105 = true then ((bits_Mask.f a2).bind fun t106 => (if 0 ≤ a1 then (some (wrap64 (Go.bits .or .u64 (Go.bits .andNot .u64 (IntKind.u64.wrap (a0)) (shl .u64 (IntKind.u64.wrap (t106)) a1)) (Go.bits .and .u64 (shl .u64 (IntKind.u64.wrap (a3)) a1) (shl .u64 (IntKind.u64.wrap (t106)) a1))))) else (none))) else (some a0)) = some r := H
  have A5 := Aside0.mk A50
  clear A50
  by_cases c6 : t105 = true
  · subst c6
    have H1 : ((bits_Mask.f a2).bind fun t106 => (if 0 ≤ a1 then (some (wrap64 (Go.bits .or .u64 (Go.bits .andNot .u64 (IntKind.u64.wrap (a0)) (shl .u64 (IntKind.u64.wrap (t106)) a1)) (Go.bits .and .u64 (shl .u64 (IntKind.u64.wrap (a3)) a1) (shl .u64 (IntKind.u64.wrap (t106)) a1))))) else (none))) = some r := by rw [if_pos rfl] at H; exact H
    clear H
    have H := H1
    clear H1
    replace H := Option.bind_eq_some_iff.mp H
    obtain ⟨t106, A70, H⟩ := H
    replace H : (if 0 ≤ a1 then (some (wrap64 (Go.bits .or .u64 (Go.bits .andNot .u64 (IntKind.u64.wrap (a0)) (shl .u64 (IntKind.u64.wrap (t106)) a1)) (Go.bits .and .u64 (shl .u64 (IntKind.u64.wrap (a3)) a1) (shl .u64 (IntKind.u64.wrap (t106)) a1))))) else (none)) = some r := H
    have A7 := Aside0.mk A70
    clear A70
    by_cases c8 : 0 ≤ a1
    · rw [if_pos c8] at H
      have c8b0 := eq_true c8
      have c8b1 : decide (0 ≤ a1) = true := decide_eq_true c8
      clear c8
      obtain ⟨ji9, hji9⟩ : ∃ j_ : Int, (shl .u64 (IntKind.u64.wrap (t106)) a1) = j_ := ⟨_, rfl⟩
      replace H : (some (wrap64 (Go.bits .or .u64 (Go.bits .andNot .u64 (IntKind.u64.wrap (a0)) (ji9)) (Go.bits .and .u64 (shl .u64 (IntKind.u64.wrap (a3)) a1) (ji9))))) = some r := by first | (rw [hji9] at H; exact H) | (simp only [hji9] at H ⊢; exact H)
      (try rw [hji9] at A5)
      (try rw [hji9] at A7)
      have hji9_ : (IntKind.u64.wrap ((IntKind.u64.wrap (t106)) * 2 ^ min a1.toNat 64)) = ji9 := hji9
      have hji9z : a1 ≤ 64 → (IntKind.u64.wrap ((IntKind.u64.wrap (t106)) * 2 ^ a1.toNat)) = ji9 := shl_small hji9
      have c10b0 := eq_true (of_decide_eq_true (by first | (with_reducible assumption) | assumption) : 0 ≤ a1)
      obtain ⟨ji11, hji11⟩ : ∃ j_ : Int, (shl .u64 (IntKind.u64.wrap (a3)) a1) = j_ := ⟨_, rfl⟩
      replace H : (some (wrap64 (Go.bits .or .u64 (Go.bits .andNot .u64 (IntKind.u64.wrap (a0)) (ji9)) (Go.bits .and .u64 (ji11) (ji9))))) = some r := by first | (rw [hji11] at H; exact H) | (simp only [hji11] at H ⊢; exact H)
      (try rw [hji11] at A5)
      (try rw [hji11] at A7)
      have hji11_ : (IntKind.u64.wrap ((IntKind.u64.wrap (a3)) * 2 ^ min a1.toNat 64)) = ji11 := hji11
      have hji11z : a1 ≤ 64 → (IntKind.u64.wrap ((IntKind.u64.wrap (a3)) * 2 ^ a1.toNat)) = ji11 := shl_small hji11
      obtain rfl := Option.some.inj H
      go_enter Try.func24, Try.ntmps24
      go_wp2_with (first | ((with_reducible refine gate_callee (f := 31) rfl ?_); refine goesL_ (some 12) rfl rfl Try.func31 (by kernel_rfl) rfl #[.int .i64 a1, .int .i64 a2] rfl (by (try simp only [List.map_toArray, List.map_cons, List.map_nil]); first | done | rfl | (simp only [List.length_drop, List.length_take]; rfl)) ?_; (with_reducible refine (bits_placed.calls a1 a2 true _ A5.out).mono ?_); rintro e w' ⟨rfl, ⟨nd, rfl⟩⟩; refine ⟨_, rfl, ?_⟩) | ((with_reducible refine gate_callee (f := 15) rfl ?_); refine goesL_ (some 16) rfl rfl Try.func15 (by kernel_rfl) rfl #[.int .i64 a2] rfl (by (try simp only [List.map_toArray, List.map_cons, List.map_nil]); first | done | rfl | (simp only [List.length_drop, List.length_take]; rfl)) ?_; (with_reducible refine (bits_Mask.calls a2 t106 _ A7.out).mono ?_); rintro e w' ⟨rfl, ⟨nd, rfl⟩⟩; refine ⟨_, rfl, ?_⟩))
      go_ret
      exact ⟨by first | rfl | (unfold wrap64; rfl) | (simp; done) | (simp only [← hji9, ← hji11] <;> (first | rfl | simp)) | (simp [*]; done), by repeat (first | exact Drawn0.refl _ | apply Drawn0.step)⟩
    · rw [if_neg c8] at H
      exact absurd H (by simp)
  · replace c6 := Bool.eq_false_iff.mpr c6
    subst c6
    have H1 : (some a0) = some r := by rw [if_neg (show ¬ (false = true) by decide)] at H; exact H
    clear H
    have H := H1
    clear H1
    obtain rfl := Option.some.inj H
    go_enter Try.func24, Try.ntmps24
    go_wp2_with (first | ((with_reducible refine gate_callee (f := 31) rfl ?_); refine goesL_ (some 12) rfl rfl Try.func31 (by kernel_rfl) rfl #[.int .i64 a1, .int .i64 a2] rfl (by (try simp only [List.map_toArray, List.map_cons, List.map_nil]); first | done | rfl | (simp only [List.length_drop, List.length_take]; rfl)) ?_; (with_reducible refine (bits_placed.calls a1 a2 false _ A5.out).mono ?_); rintro e w' ⟨rfl, ⟨nd, rfl⟩⟩; refine ⟨_, rfl, ?_⟩))
    go_ret
    exact ⟨by first | rfl | (unfold wrap64; rfl) | (simp; done) | (simp [*]; done), by repeat (first | exact Drawn0.refl _ | apply Drawn0.step)⟩

/-! ### bits_Turn: function 26 -/
def bits_Turn.f (a0 : Int) (a1 : Int) : Option (Int) := if 0 ≤ (Go.bits .and .i64 a1 63) then (if 0 ≤ (wrap64 (64 - (Go.bits .and .i64 a1 63))) then (some (wrap64 (Go.bits .or .u64 (shl .u64 (IntKind.u64.wrap (a0)) (Go.bits .and .i64 a1 63)) (shr .u64 (IntKind.u64.wrap (a0)) (wrap64 (64 - (Go.bits .and .i64 a1 63))))))) else (none)) else (none)
set_option maxHeartbeats 8000000 in
set_option maxRecDepth 100000 in
theorem bits_Turn.calls (a0 : Int) (a1 : Int) (r : Int) (w : World) (h : bits_Turn.f a0 a1 = some r) :
    Calls Try.prog 26 #[.int .i64 a0, .int .i64 a1] w fun e w' => e = .returned (.int .i64 r) ∧ Drawn0 w w' := by
  have H : (if 0 ≤ (Go.bits .and .i64 a1 63) then (if 0 ≤ (wrap64 (64 - (Go.bits .and .i64 a1 63))) then (some (wrap64 (Go.bits .or .u64 (shl .u64 (IntKind.u64.wrap (a0)) (Go.bits .and .i64 a1 63)) (shr .u64 (IntKind.u64.wrap (a0)) (wrap64 (64 - (Go.bits .and .i64 a1 63))))))) else (none)) else (none)) = some r := h
  clear h
  by_cases c3 : 0 ≤ (Go.bits .and .i64 a1 63)
  · rw [if_pos c3] at H
    have c3b0 := eq_true c3
    have c3b1 : decide (0 ≤ (Go.bits .and .i64 a1 63)) = true := decide_eq_true c3
    clear c3
    obtain ⟨ji4, hji4⟩ : ∃ j_ : Int, (shl .u64 (IntKind.u64.wrap (a0)) (Go.bits .and .i64 a1 63)) = j_ := ⟨_, rfl⟩
    replace H : (if 0 ≤ (wrap64 (64 - (Go.bits .and .i64 a1 63))) then (some (wrap64 (Go.bits .or .u64 (ji4) (shr .u64 (IntKind.u64.wrap (a0)) (wrap64 (64 - (Go.bits .and .i64 a1 63))))))) else (none)) = some r := by first | (rw [hji4] at H; exact H) | (simp only [hji4] at H ⊢; exact H)
    have hji4_ : (IntKind.u64.wrap ((IntKind.u64.wrap (a0)) * 2 ^ min (Go.bits .and .i64 a1 63).toNat 64)) = ji4 := hji4
    have hji4z : (Go.bits .and .i64 a1 63) ≤ 64 → (IntKind.u64.wrap ((IntKind.u64.wrap (a0)) * 2 ^ (Go.bits .and .i64 a1 63).toNat)) = ji4 := shl_small hji4
    obtain ⟨ji5, hji5⟩ : ∃ j_ : Int, (wrap64 (64 - (Go.bits .and .i64 a1 63))) = j_ := ⟨_, rfl⟩
    replace H : (if 0 ≤ (ji5) then (some (wrap64 (Go.bits .or .u64 (ji4) (shr .u64 (IntKind.u64.wrap (a0)) (ji5))))) else (none)) = some r := by first | (rw [hji5] at H; exact H) | (simp only [hji5] at H ⊢; exact H)
    have hji5w : (IntKind.i64.wrap (64 - (Go.bits .and .i64 a1 63))) = ji5 := (i64_w _).trans hji5
    by_cases c6 : 0 ≤ (ji5)
    · rw [if_pos c6] at H
      have c6b0 := eq_true c6
      have c6b1 : decide (0 ≤ (ji5)) = true := decide_eq_true c6
      clear c6
      obtain ⟨ji7, hji7⟩ : ∃ j_ : Int, (shr .u64 (IntKind.u64.wrap (a0)) (ji5)) = j_ := ⟨_, rfl⟩
      replace H : (some (wrap64 (Go.bits .or .u64 (ji4) (ji7)))) = some r := by first | (rw [hji7] at H; exact H) | (simp only [hji7] at H ⊢; exact H)
      have hji7_ : ((IntKind.u64.wrap (a0)) / 2 ^ min (ji5).toNat 64) = ji7 := hji7
      have hji7z : (ji5) ≤ 64 → ((IntKind.u64.wrap (a0)) / 2 ^ (ji5).toNat) = ji7 := shr_small hji7
      obtain rfl := Option.some.inj H
      go_enter Try.func26, Try.ntmps26
      go_wp2
      repeat (go_quiet (fail); try go_wp2)
      go_ret
      exact ⟨by first | rfl | (unfold wrap64; rfl) | (simp; done) | (simp only [← hji4, ← hji5, ← hji7] <;> (first | rfl | simp)) | (simp [*]; done), by repeat (first | exact Drawn0.refl _ | apply Drawn0.step)⟩
    · rw [if_neg c6] at H
      exact absurd H (by simp)
  · rw [if_neg c3] at H
    exact absurd H (by simp)

/-! ### peristylelaw01_awake: function 17 -/
def peristylelaw01_awake.f (k : Nat)  : Option (Bool) := (bits_Width.f k 5).bind fun t107 => (if t107 = 3 then ((bits_Mask.f 3).bind fun t108 => (if t108 = 7 then ((bits_Zig.f (-2)).bind fun t109 => (if t109 = 3 then ((bits_Zag.f 3).bind fun t110 => (if t110 = (-2) then ((bits_Field.f 240 4 2).bind fun t111 => (if t111 = 3 then ((bits_With.f 0 4 2 7).bind fun t112 => (if t112 = 48 then ((bits_Ones.f k (-1)).bind fun t113 => (if t113 = 64 then ((bits_Next.f k 8 0).bind fun t114 => (if t114 = 3 then ((bits_Turn.f 1 3).bind fun t115 => (some (t115 == 8))) else (some false))) else (some false))) else (some false))) else (some false))) else (some false))) else (some false))) else (some false))) else (some false))
theorem peristylelaw01_awake.mono : ∀ k, LeO (peristylelaw01_awake.f k ) (peristylelaw01_awake.f (k + 1) ) := by
  intro  k
  unfold peristylelaw01_awake.f
  repeat' first
      | (with_reducible exact bits_Next.mono _ _ _)
      | (with_reducible exact bits_Ones.mono _ _)
      | (with_reducible exact bits_Width.mono _ _)
      | (with_reducible exact LeO.refl _)
      | (with_reducible exact LeO.none _)
      | (with_reducible refine LeO.ite ?_ ?_)
      | (with_reducible refine LeO.bind ?_ (fun _ => ?_))
      | exact bits_Next.mono _ _ _
      | exact bits_Ones.mono _ _
      | exact bits_Width.mono _ _
      | exact LeO.none _
      | refine LeO.ite ?_ ?_
      | refine LeO.bind ?_ (fun _ => ?_)
set_option maxHeartbeats 8000000 in
set_option maxRecDepth 100000 in
theorem peristylelaw01_awake.calls (k : Nat)  (r : Bool) (w : World) (h : peristylelaw01_awake.f k  = some r) :
    Calls Try.prog 17 #[] w fun e w' => e = .returned (.bool r) ∧ Below w.heap.size w w' := by
  have HB := Aside0.mk (Below.refl w.heap.size w)
  have H : ((bits_Width.f k 5).bind fun t107 => (if t107 = 3 then ((bits_Mask.f 3).bind fun t108 => (if t108 = 7 then ((bits_Zig.f (-2)).bind fun t109 => (if t109 = 3 then ((bits_Zag.f 3).bind fun t110 => (if t110 = (-2) then ((bits_Field.f 240 4 2).bind fun t111 => (if t111 = 3 then ((bits_With.f 0 4 2 7).bind fun t112 => (if t112 = 48 then ((bits_Ones.f k (-1)).bind fun t113 => (if t113 = 64 then ((bits_Next.f k 8 0).bind fun t114 => (if t114 = 3 then ((bits_Turn.f 1 3).bind fun t115 => (some (t115 == 8))) else (some false))) else (some false))) else (some false))) else (some false))) else (some false))) else (some false))) else (some false))) else (some false))) = some r := h
  clear h
  replace H := Option.bind_eq_some_iff.mp H
  obtain ⟨t107, A10, H⟩ := H
  replace H : (if t107 = 3 then ((bits_Mask.f 3).bind fun t108 => (if t108 = 7 then ((bits_Zig.f (-2)).bind fun t109 => (if t109 = 3 then ((bits_Zag.f 3).bind fun t110 => (if t110 = (-2) then ((bits_Field.f 240 4 2).bind fun t111 => (if t111 = 3 then ((bits_With.f 0 4 2 7).bind fun t112 => (if t112 = 48 then ((bits_Ones.f k (-1)).bind fun t113 => (if t113 = 64 then ((bits_Next.f k 8 0).bind fun t114 => (if t114 = 3 then ((bits_Turn.f 1 3).bind fun t115 => (some (t115 == 8))) else (some false))) else (some false))) else (some false))) else (some false))) else (some false))) else (some false))) else (some false))) else (some false)) = some r := H
  have A1 := Aside0.mk A10
  clear A10
  by_cases c2 : t107 = 3
  · rw [if_pos c2] at H
    have c2b0 : (t107 == 3) = true := beq_iff_eq.mpr c2
    have c2b1 : (t107 != 3) = false := bne_eq_false_iff_eq.mpr c2
    clear c2
    replace H := Option.bind_eq_some_iff.mp H
    obtain ⟨t108, A30, H⟩ := H
    replace H : (if t108 = 7 then ((bits_Zig.f (-2)).bind fun t109 => (if t109 = 3 then ((bits_Zag.f 3).bind fun t110 => (if t110 = (-2) then ((bits_Field.f 240 4 2).bind fun t111 => (if t111 = 3 then ((bits_With.f 0 4 2 7).bind fun t112 => (if t112 = 48 then ((bits_Ones.f k (-1)).bind fun t113 => (if t113 = 64 then ((bits_Next.f k 8 0).bind fun t114 => (if t114 = 3 then ((bits_Turn.f 1 3).bind fun t115 => (some (t115 == 8))) else (some false))) else (some false))) else (some false))) else (some false))) else (some false))) else (some false))) else (some false)) = some r := H
    have A3 := Aside0.mk A30
    clear A30
    by_cases c4 : t108 = 7
    · rw [if_pos c4] at H
      have c4b0 : (t108 == 7) = true := beq_iff_eq.mpr c4
      have c4b1 : (t108 != 7) = false := bne_eq_false_iff_eq.mpr c4
      clear c4
      replace H := Option.bind_eq_some_iff.mp H
      obtain ⟨t109, A50, H⟩ := H
      replace H : (if t109 = 3 then ((bits_Zag.f 3).bind fun t110 => (if t110 = (-2) then ((bits_Field.f 240 4 2).bind fun t111 => (if t111 = 3 then ((bits_With.f 0 4 2 7).bind fun t112 => (if t112 = 48 then ((bits_Ones.f k (-1)).bind fun t113 => (if t113 = 64 then ((bits_Next.f k 8 0).bind fun t114 => (if t114 = 3 then ((bits_Turn.f 1 3).bind fun t115 => (some (t115 == 8))) else (some false))) else (some false))) else (some false))) else (some false))) else (some false))) else (some false)) = some r := H
      have A5 := Aside0.mk A50
      clear A50
      by_cases c6 : t109 = 3
      · rw [if_pos c6] at H
        have c6b0 : (t109 == 3) = true := beq_iff_eq.mpr c6
        have c6b1 : (t109 != 3) = false := bne_eq_false_iff_eq.mpr c6
        clear c6
        replace H := Option.bind_eq_some_iff.mp H
        obtain ⟨t110, A70, H⟩ := H
        replace H : (if t110 = (-2) then ((bits_Field.f 240 4 2).bind fun t111 => (if t111 = 3 then ((bits_With.f 0 4 2 7).bind fun t112 => (if t112 = 48 then ((bits_Ones.f k (-1)).bind fun t113 => (if t113 = 64 then ((bits_Next.f k 8 0).bind fun t114 => (if t114 = 3 then ((bits_Turn.f 1 3).bind fun t115 => (some (t115 == 8))) else (some false))) else (some false))) else (some false))) else (some false))) else (some false)) = some r := H
        have A7 := Aside0.mk A70
        clear A70
        by_cases c8 : t110 = (-2)
        · rw [if_pos c8] at H
          have c8b0 : (t110 == (-2)) = true := beq_iff_eq.mpr c8
          have c8b1 : (t110 != (-2)) = false := bne_eq_false_iff_eq.mpr c8
          clear c8
          replace H := Option.bind_eq_some_iff.mp H
          obtain ⟨t111, A90, H⟩ := H
          replace H : (if t111 = 3 then ((bits_With.f 0 4 2 7).bind fun t112 => (if t112 = 48 then ((bits_Ones.f k (-1)).bind fun t113 => (if t113 = 64 then ((bits_Next.f k 8 0).bind fun t114 => (if t114 = 3 then ((bits_Turn.f 1 3).bind fun t115 => (some (t115 == 8))) else (some false))) else (some false))) else (some false))) else (some false)) = some r := H
          have A9 := Aside0.mk A90
          clear A90
          by_cases c10 : t111 = 3
          · rw [if_pos c10] at H
            have c10b0 : (t111 == 3) = true := beq_iff_eq.mpr c10
            have c10b1 : (t111 != 3) = false := bne_eq_false_iff_eq.mpr c10
            clear c10
            replace H := Option.bind_eq_some_iff.mp H
            obtain ⟨t112, A110, H⟩ := H
            replace H : (if t112 = 48 then ((bits_Ones.f k (-1)).bind fun t113 => (if t113 = 64 then ((bits_Next.f k 8 0).bind fun t114 => (if t114 = 3 then ((bits_Turn.f 1 3).bind fun t115 => (some (t115 == 8))) else (some false))) else (some false))) else (some false)) = some r := H
            have A11 := Aside0.mk A110
            clear A110
            by_cases c12 : t112 = 48
            · rw [if_pos c12] at H
              have c12b0 : (t112 == 48) = true := beq_iff_eq.mpr c12
              have c12b1 : (t112 != 48) = false := bne_eq_false_iff_eq.mpr c12
              clear c12
              replace H := Option.bind_eq_some_iff.mp H
              obtain ⟨t113, A130, H⟩ := H
              replace H : (if t113 = 64 then ((bits_Next.f k 8 0).bind fun t114 => (if t114 = 3 then ((bits_Turn.f 1 3).bind fun t115 => (some (t115 == 8))) else (some false))) else (some false)) = some r := H
              have A13 := Aside0.mk A130
              clear A130
              by_cases c14 : t113 = 64
              · rw [if_pos c14] at H
                have c14b0 : (t113 == 64) = true := beq_iff_eq.mpr c14
                have c14b1 : (t113 != 64) = false := bne_eq_false_iff_eq.mpr c14
                clear c14
                replace H := Option.bind_eq_some_iff.mp H
                obtain ⟨t114, A150, H⟩ := H
                replace H : (if t114 = 3 then ((bits_Turn.f 1 3).bind fun t115 => (some (t115 == 8))) else (some false)) = some r := H
                have A15 := Aside0.mk A150
                clear A150
                by_cases c16 : t114 = 3
                · rw [if_pos c16] at H
                  have c16b0 : (t114 == 3) = true := beq_iff_eq.mpr c16
                  have c16b1 : (t114 != 3) = false := bne_eq_false_iff_eq.mpr c16
                  clear c16
                  replace H := Option.bind_eq_some_iff.mp H
                  obtain ⟨t115, A170, H⟩ := H
                  replace H : (some (t115 == 8)) = some r := H
                  have A17 := Aside0.mk A170
                  clear A170
                  obtain rfl := Option.some.inj H
                  go_enter Try.func17, Try.ntmps17
                  go_wp2_with (first | ((with_reducible refine gate_callee (f := 9) rfl ?_); refine goesL_ (some 1) rfl rfl Try.func9 (by kernel_rfl) rfl #[.int .i64 5] rfl (by (try simp only [List.map_toArray, List.map_cons, List.map_nil]); first | done | rfl | (simp only [List.length_drop, List.length_take]; rfl)) ?_; (with_reducible refine (bits_Width.calls k 5 t107 _ A1.out).mono ?_); rintro e w' ⟨rfl, ⟨nd, rfl⟩⟩; refine ⟨_, rfl, ?_⟩) | (go_at_call 15; (with_reducible refine (bits_Mask.calls 3 t108 _ A3.out).mono ?_); rintro e w' ⟨rfl, ⟨nd, rfl⟩⟩; (try clear A3)) | (go_at_call 18; (with_reducible refine (bits_Zig.calls (-2) t109 _ A5.out).mono ?_); rintro e w' ⟨rfl, ⟨nd, rfl⟩⟩; (try clear A5)) | (go_at_call 20; (with_reducible refine (bits_Zag.calls 3 t110 _ A7.out).mono ?_); rintro e w' ⟨rfl, ⟨nd, rfl⟩⟩; (try clear A7)) | (go_at_call 22; (with_reducible refine (bits_Field.calls 240 4 2 t111 _ A9.out).mono ?_); rintro e w' ⟨rfl, ⟨nd, rfl⟩⟩; (try clear A9)) | (go_at_call 24; (with_reducible refine (bits_With.calls 0 4 2 7 t112 _ A11.out).mono ?_); rintro e w' ⟨rfl, ⟨nd, rfl⟩⟩; (try clear A11)) | (go_at_call 11; (with_reducible refine (bits_Ones.calls k (-1) t113 _ A13.out).mono ?_); rintro e w' ⟨rfl, ⟨nd, rfl⟩⟩; (try clear A13)) | (go_at_call 13; (with_reducible refine (bits_Next.calls k 8 0 t114 _ A15.out).mono ?_); rintro e w18 ⟨rfl, hb⟩; have n0_ := Aside0.mk (below_step (by repeat (first | (with_reducible first | exact HB.out | apply below_alloc | apply pw_below_drewN | apply below_drew1) | exact HB.out)) hb); clear HB; have HB := n0_; clear n0_; (try clear hb); (try clear hb2); (try clear hk); (try clear hi); (try clear A15)) | (go_at_call 26; (with_reducible refine (bits_Turn.calls 1 3 t115 _ A17.out).mono ?_); rintro e w' ⟨rfl, ⟨nd, rfl⟩⟩; (try clear A17)))
                  go_ret
                  exact ⟨by first | rfl | (simp [errW_none, errW_some] <;> rfl) | (simp [*, errW_none, errW_some] <;> rfl), by repeat (first | (with_reducible first | exact HB.out | apply below_alloc | apply pw_below_drewN | apply below_drew1) | exact HB.out)⟩
                · rw [if_neg c16] at H
                  have c16b0 : (t114 == 3) = false := beq_eq_false_iff_ne.mpr c16
                  have c16b1 : (t114 != 3) = true := bne_iff_ne.mpr c16
                  obtain rfl := Option.some.inj H
                  go_enter Try.func17, Try.ntmps17
                  go_wp2_with (first | ((with_reducible refine gate_callee (f := 9) rfl ?_); refine goesL_ (some 1) rfl rfl Try.func9 (by kernel_rfl) rfl #[.int .i64 5] rfl (by (try simp only [List.map_toArray, List.map_cons, List.map_nil]); first | done | rfl | (simp only [List.length_drop, List.length_take]; rfl)) ?_; (with_reducible refine (bits_Width.calls k 5 t107 _ A1.out).mono ?_); rintro e w' ⟨rfl, ⟨nd, rfl⟩⟩; refine ⟨_, rfl, ?_⟩) | (go_at_call 15; (with_reducible refine (bits_Mask.calls 3 t108 _ A3.out).mono ?_); rintro e w' ⟨rfl, ⟨nd, rfl⟩⟩; (try clear A3)) | (go_at_call 18; (with_reducible refine (bits_Zig.calls (-2) t109 _ A5.out).mono ?_); rintro e w' ⟨rfl, ⟨nd, rfl⟩⟩; (try clear A5)) | (go_at_call 20; (with_reducible refine (bits_Zag.calls 3 t110 _ A7.out).mono ?_); rintro e w' ⟨rfl, ⟨nd, rfl⟩⟩; (try clear A7)) | (go_at_call 22; (with_reducible refine (bits_Field.calls 240 4 2 t111 _ A9.out).mono ?_); rintro e w' ⟨rfl, ⟨nd, rfl⟩⟩; (try clear A9)) | (go_at_call 24; (with_reducible refine (bits_With.calls 0 4 2 7 t112 _ A11.out).mono ?_); rintro e w' ⟨rfl, ⟨nd, rfl⟩⟩; (try clear A11)) | (go_at_call 11; (with_reducible refine (bits_Ones.calls k (-1) t113 _ A13.out).mono ?_); rintro e w' ⟨rfl, ⟨nd, rfl⟩⟩; (try clear A13)) | (go_at_call 13; (with_reducible refine (bits_Next.calls k 8 0 t114 _ A15.out).mono ?_); rintro e w19 ⟨rfl, hb⟩; have n0_ := Aside0.mk (below_step (by repeat (first | (with_reducible first | exact HB.out | apply below_alloc | apply pw_below_drewN | apply below_drew1) | exact HB.out)) hb); clear HB; have HB := n0_; clear n0_; (try clear hb); (try clear hb2); (try clear hk); (try clear hi); (try clear A15)))
                  go_ret
                  exact ⟨by first | rfl | (simp [errW_none, errW_some] <;> rfl) | (simp [*, errW_none, errW_some] <;> rfl), by repeat (first | (with_reducible first | exact HB.out | apply below_alloc | apply pw_below_drewN | apply below_drew1) | exact HB.out)⟩
              · rw [if_neg c14] at H
                have c14b0 : (t113 == 64) = false := beq_eq_false_iff_ne.mpr c14
                have c14b1 : (t113 != 64) = true := bne_iff_ne.mpr c14
                obtain rfl := Option.some.inj H
                go_enter Try.func17, Try.ntmps17
                go_wp2_with (first | ((with_reducible refine gate_callee (f := 9) rfl ?_); refine goesL_ (some 1) rfl rfl Try.func9 (by kernel_rfl) rfl #[.int .i64 5] rfl (by (try simp only [List.map_toArray, List.map_cons, List.map_nil]); first | done | rfl | (simp only [List.length_drop, List.length_take]; rfl)) ?_; (with_reducible refine (bits_Width.calls k 5 t107 _ A1.out).mono ?_); rintro e w' ⟨rfl, ⟨nd, rfl⟩⟩; refine ⟨_, rfl, ?_⟩) | (go_at_call 15; (with_reducible refine (bits_Mask.calls 3 t108 _ A3.out).mono ?_); rintro e w' ⟨rfl, ⟨nd, rfl⟩⟩; (try clear A3)) | (go_at_call 18; (with_reducible refine (bits_Zig.calls (-2) t109 _ A5.out).mono ?_); rintro e w' ⟨rfl, ⟨nd, rfl⟩⟩; (try clear A5)) | (go_at_call 20; (with_reducible refine (bits_Zag.calls 3 t110 _ A7.out).mono ?_); rintro e w' ⟨rfl, ⟨nd, rfl⟩⟩; (try clear A7)) | (go_at_call 22; (with_reducible refine (bits_Field.calls 240 4 2 t111 _ A9.out).mono ?_); rintro e w' ⟨rfl, ⟨nd, rfl⟩⟩; (try clear A9)) | (go_at_call 24; (with_reducible refine (bits_With.calls 0 4 2 7 t112 _ A11.out).mono ?_); rintro e w' ⟨rfl, ⟨nd, rfl⟩⟩; (try clear A11)) | (go_at_call 11; (with_reducible refine (bits_Ones.calls k (-1) t113 _ A13.out).mono ?_); rintro e w' ⟨rfl, ⟨nd, rfl⟩⟩; (try clear A13)))
                go_ret
                exact ⟨by first | rfl | (simp [errW_none, errW_some] <;> rfl) | (simp [*, errW_none, errW_some] <;> rfl), by repeat (first | (with_reducible first | exact HB.out | apply below_alloc | apply pw_below_drewN | apply below_drew1) | exact HB.out)⟩
            · rw [if_neg c12] at H
              have c12b0 : (t112 == 48) = false := beq_eq_false_iff_ne.mpr c12
              have c12b1 : (t112 != 48) = true := bne_iff_ne.mpr c12
              obtain rfl := Option.some.inj H
              go_enter Try.func17, Try.ntmps17
              go_wp2_with (first | ((with_reducible refine gate_callee (f := 9) rfl ?_); refine goesL_ (some 1) rfl rfl Try.func9 (by kernel_rfl) rfl #[.int .i64 5] rfl (by (try simp only [List.map_toArray, List.map_cons, List.map_nil]); first | done | rfl | (simp only [List.length_drop, List.length_take]; rfl)) ?_; (with_reducible refine (bits_Width.calls k 5 t107 _ A1.out).mono ?_); rintro e w' ⟨rfl, ⟨nd, rfl⟩⟩; refine ⟨_, rfl, ?_⟩) | (go_at_call 15; (with_reducible refine (bits_Mask.calls 3 t108 _ A3.out).mono ?_); rintro e w' ⟨rfl, ⟨nd, rfl⟩⟩; (try clear A3)) | (go_at_call 18; (with_reducible refine (bits_Zig.calls (-2) t109 _ A5.out).mono ?_); rintro e w' ⟨rfl, ⟨nd, rfl⟩⟩; (try clear A5)) | (go_at_call 20; (with_reducible refine (bits_Zag.calls 3 t110 _ A7.out).mono ?_); rintro e w' ⟨rfl, ⟨nd, rfl⟩⟩; (try clear A7)) | (go_at_call 22; (with_reducible refine (bits_Field.calls 240 4 2 t111 _ A9.out).mono ?_); rintro e w' ⟨rfl, ⟨nd, rfl⟩⟩; (try clear A9)) | (go_at_call 24; (with_reducible refine (bits_With.calls 0 4 2 7 t112 _ A11.out).mono ?_); rintro e w' ⟨rfl, ⟨nd, rfl⟩⟩; (try clear A11)))
              go_ret
              exact ⟨by first | rfl | (simp [errW_none, errW_some] <;> rfl) | (simp [*, errW_none, errW_some] <;> rfl), by repeat (first | (with_reducible first | exact HB.out | apply below_alloc | apply pw_below_drewN | apply below_drew1) | exact HB.out)⟩
          · rw [if_neg c10] at H
            have c10b0 : (t111 == 3) = false := beq_eq_false_iff_ne.mpr c10
            have c10b1 : (t111 != 3) = true := bne_iff_ne.mpr c10
            obtain rfl := Option.some.inj H
            go_enter Try.func17, Try.ntmps17
            go_wp2_with (first | ((with_reducible refine gate_callee (f := 9) rfl ?_); refine goesL_ (some 1) rfl rfl Try.func9 (by kernel_rfl) rfl #[.int .i64 5] rfl (by (try simp only [List.map_toArray, List.map_cons, List.map_nil]); first | done | rfl | (simp only [List.length_drop, List.length_take]; rfl)) ?_; (with_reducible refine (bits_Width.calls k 5 t107 _ A1.out).mono ?_); rintro e w' ⟨rfl, ⟨nd, rfl⟩⟩; refine ⟨_, rfl, ?_⟩) | (go_at_call 15; (with_reducible refine (bits_Mask.calls 3 t108 _ A3.out).mono ?_); rintro e w' ⟨rfl, ⟨nd, rfl⟩⟩; (try clear A3)) | (go_at_call 18; (with_reducible refine (bits_Zig.calls (-2) t109 _ A5.out).mono ?_); rintro e w' ⟨rfl, ⟨nd, rfl⟩⟩; (try clear A5)) | (go_at_call 20; (with_reducible refine (bits_Zag.calls 3 t110 _ A7.out).mono ?_); rintro e w' ⟨rfl, ⟨nd, rfl⟩⟩; (try clear A7)) | (go_at_call 22; (with_reducible refine (bits_Field.calls 240 4 2 t111 _ A9.out).mono ?_); rintro e w' ⟨rfl, ⟨nd, rfl⟩⟩; (try clear A9)))
            go_ret
            exact ⟨by first | rfl | (simp [errW_none, errW_some] <;> rfl) | (simp [*, errW_none, errW_some] <;> rfl), by repeat (first | (with_reducible first | exact HB.out | apply below_alloc | apply pw_below_drewN | apply below_drew1) | exact HB.out)⟩
        · rw [if_neg c8] at H
          have c8b0 : (t110 == (-2)) = false := beq_eq_false_iff_ne.mpr c8
          have c8b1 : (t110 != (-2)) = true := bne_iff_ne.mpr c8
          obtain rfl := Option.some.inj H
          go_enter Try.func17, Try.ntmps17
          go_wp2_with (first | ((with_reducible refine gate_callee (f := 9) rfl ?_); refine goesL_ (some 1) rfl rfl Try.func9 (by kernel_rfl) rfl #[.int .i64 5] rfl (by (try simp only [List.map_toArray, List.map_cons, List.map_nil]); first | done | rfl | (simp only [List.length_drop, List.length_take]; rfl)) ?_; (with_reducible refine (bits_Width.calls k 5 t107 _ A1.out).mono ?_); rintro e w' ⟨rfl, ⟨nd, rfl⟩⟩; refine ⟨_, rfl, ?_⟩) | (go_at_call 15; (with_reducible refine (bits_Mask.calls 3 t108 _ A3.out).mono ?_); rintro e w' ⟨rfl, ⟨nd, rfl⟩⟩; (try clear A3)) | (go_at_call 18; (with_reducible refine (bits_Zig.calls (-2) t109 _ A5.out).mono ?_); rintro e w' ⟨rfl, ⟨nd, rfl⟩⟩; (try clear A5)) | (go_at_call 20; (with_reducible refine (bits_Zag.calls 3 t110 _ A7.out).mono ?_); rintro e w' ⟨rfl, ⟨nd, rfl⟩⟩; (try clear A7)))
          go_ret
          exact ⟨by first | rfl | (simp [errW_none, errW_some] <;> rfl) | (simp [*, errW_none, errW_some] <;> rfl), by repeat (first | (with_reducible first | exact HB.out | apply below_alloc | apply pw_below_drewN | apply below_drew1) | exact HB.out)⟩
      · rw [if_neg c6] at H
        have c6b0 : (t109 == 3) = false := beq_eq_false_iff_ne.mpr c6
        have c6b1 : (t109 != 3) = true := bne_iff_ne.mpr c6
        obtain rfl := Option.some.inj H
        go_enter Try.func17, Try.ntmps17
        go_wp2_with (first | ((with_reducible refine gate_callee (f := 9) rfl ?_); refine goesL_ (some 1) rfl rfl Try.func9 (by kernel_rfl) rfl #[.int .i64 5] rfl (by (try simp only [List.map_toArray, List.map_cons, List.map_nil]); first | done | rfl | (simp only [List.length_drop, List.length_take]; rfl)) ?_; (with_reducible refine (bits_Width.calls k 5 t107 _ A1.out).mono ?_); rintro e w' ⟨rfl, ⟨nd, rfl⟩⟩; refine ⟨_, rfl, ?_⟩) | (go_at_call 15; (with_reducible refine (bits_Mask.calls 3 t108 _ A3.out).mono ?_); rintro e w' ⟨rfl, ⟨nd, rfl⟩⟩; (try clear A3)) | (go_at_call 18; (with_reducible refine (bits_Zig.calls (-2) t109 _ A5.out).mono ?_); rintro e w' ⟨rfl, ⟨nd, rfl⟩⟩; (try clear A5)))
        go_ret
        exact ⟨by first | rfl | (simp [errW_none, errW_some] <;> rfl) | (simp [*, errW_none, errW_some] <;> rfl), by repeat (first | (with_reducible first | exact HB.out | apply below_alloc | apply pw_below_drewN | apply below_drew1) | exact HB.out)⟩
    · rw [if_neg c4] at H
      have c4b0 : (t108 == 7) = false := beq_eq_false_iff_ne.mpr c4
      have c4b1 : (t108 != 7) = true := bne_iff_ne.mpr c4
      obtain rfl := Option.some.inj H
      go_enter Try.func17, Try.ntmps17
      go_wp2_with (first | ((with_reducible refine gate_callee (f := 9) rfl ?_); refine goesL_ (some 1) rfl rfl Try.func9 (by kernel_rfl) rfl #[.int .i64 5] rfl (by (try simp only [List.map_toArray, List.map_cons, List.map_nil]); first | done | rfl | (simp only [List.length_drop, List.length_take]; rfl)) ?_; (with_reducible refine (bits_Width.calls k 5 t107 _ A1.out).mono ?_); rintro e w' ⟨rfl, ⟨nd, rfl⟩⟩; refine ⟨_, rfl, ?_⟩) | (go_at_call 15; (with_reducible refine (bits_Mask.calls 3 t108 _ A3.out).mono ?_); rintro e w' ⟨rfl, ⟨nd, rfl⟩⟩; (try clear A3)))
      go_ret
      exact ⟨by first | rfl | (simp [errW_none, errW_some] <;> rfl) | (simp [*, errW_none, errW_some] <;> rfl), by repeat (first | (with_reducible first | exact HB.out | apply below_alloc | apply pw_below_drewN | apply below_drew1) | exact HB.out)⟩
  · rw [if_neg c2] at H
    have c2b0 : (t107 == 3) = false := beq_eq_false_iff_ne.mpr c2
    have c2b1 : (t107 != 3) = true := bne_iff_ne.mpr c2
    obtain rfl := Option.some.inj H
    go_enter Try.func17, Try.ntmps17
    go_wp2_with (first | ((with_reducible refine gate_callee (f := 9) rfl ?_); refine goesL_ (some 1) rfl rfl Try.func9 (by kernel_rfl) rfl #[.int .i64 5] rfl (by (try simp only [List.map_toArray, List.map_cons, List.map_nil]); first | done | rfl | (simp only [List.length_drop, List.length_take]; rfl)) ?_; (with_reducible refine (bits_Width.calls k 5 t107 _ A1.out).mono ?_); rintro e w' ⟨rfl, ⟨nd, rfl⟩⟩; refine ⟨_, rfl, ?_⟩))
    go_ret
    exact ⟨by first | rfl | (simp [errW_none, errW_some] <;> rfl) | (simp [*, errW_none, errW_some] <;> rfl), by repeat (first | (with_reducible first | exact HB.out | apply below_alloc | apply pw_below_drewN | apply below_drew1) | exact HB.out)⟩

/-! ### peristylelaw01_BitsCounts: function 3 -/
def peristylelaw01_BitsCounts.f (k : Nat) (a0 : Int) (a1 : Int) : Option (Bool) := (bits_Width.f k a0).bind fun t116 => ((peristyleref01_Width.f a0).bind fun t117 => (if t116 = t117 then ((bits_Ones.f k a0).bind fun t118 => ((peristyleref01_Ones.f a0).bind fun t119 => (if t118 = t119 then ((bits_Next.f k a0 a1).bind fun t120 => ((peristyleref01_Next.f a0 a1).bind fun t121 => (if t120 = t121 then ((bits_Mask.f a1).bind fun t122 => ((peristyleref01_Mask.f a1).bind fun t123 => (if t122 = t123 then ((peristylelaw01_awake.f k).bind fun t124 => (some t124)) else (some false)))) else (some false)))) else (some false)))) else (some false)))
theorem peristylelaw01_BitsCounts.mono : ∀ a0 a1 k, LeO (peristylelaw01_BitsCounts.f k a0 a1) (peristylelaw01_BitsCounts.f (k + 1) a0 a1) := by
  intro a0 a1 k
  unfold peristylelaw01_BitsCounts.f
  repeat' first
      | (with_reducible exact bits_Next.mono _ _ _)
      | (with_reducible exact bits_Ones.mono _ _)
      | (with_reducible exact bits_Width.mono _ _)
      | (with_reducible exact peristylelaw01_awake.mono _)
      | (with_reducible exact LeO.refl _)
      | (with_reducible exact LeO.none _)
      | (with_reducible refine LeO.ite ?_ ?_)
      | (with_reducible refine LeO.bind ?_ (fun _ => ?_))
      | exact bits_Next.mono _ _ _
      | exact bits_Ones.mono _ _
      | exact bits_Width.mono _ _
      | exact peristylelaw01_awake.mono _
      | exact LeO.none _
      | refine LeO.ite ?_ ?_
      | refine LeO.bind ?_ (fun _ => ?_)
set_option maxHeartbeats 8000000 in
set_option maxRecDepth 100000 in
theorem peristylelaw01_BitsCounts.calls (k : Nat) (a0 : Int) (a1 : Int) (r : Bool) (w : World) (h : peristylelaw01_BitsCounts.f k a0 a1 = some r) :
    Calls Try.prog 3 #[.int .i64 a0, .int .i64 a1] w fun e w' => e = .returned (.bool r) ∧ Below w.heap.size w w' := by
  have HB := Aside0.mk (Below.refl w.heap.size w)
  have H : ((bits_Width.f k a0).bind fun t116 => ((peristyleref01_Width.f a0).bind fun t117 => (if t116 = t117 then ((bits_Ones.f k a0).bind fun t118 => ((peristyleref01_Ones.f a0).bind fun t119 => (if t118 = t119 then ((bits_Next.f k a0 a1).bind fun t120 => ((peristyleref01_Next.f a0 a1).bind fun t121 => (if t120 = t121 then ((bits_Mask.f a1).bind fun t122 => ((peristyleref01_Mask.f a1).bind fun t123 => (if t122 = t123 then ((peristylelaw01_awake.f k).bind fun t124 => (some t124)) else (some false)))) else (some false)))) else (some false)))) else (some false)))) = some r := h
  clear h
  replace H := Option.bind_eq_some_iff.mp H
  obtain ⟨t116, A30, H⟩ := H
  replace H : ((peristyleref01_Width.f a0).bind fun t117 => (if t116 = t117 then ((bits_Ones.f k a0).bind fun t118 => ((peristyleref01_Ones.f a0).bind fun t119 => (if t118 = t119 then ((bits_Next.f k a0 a1).bind fun t120 => ((peristyleref01_Next.f a0 a1).bind fun t121 => (if t120 = t121 then ((bits_Mask.f a1).bind fun t122 => ((peristyleref01_Mask.f a1).bind fun t123 => (if t122 = t123 then ((peristylelaw01_awake.f k).bind fun t124 => (some t124)) else (some false)))) else (some false)))) else (some false)))) else (some false))) = some r := H
  have A3 := Aside0.mk A30
  clear A30
  replace H := Option.bind_eq_some_iff.mp H
  obtain ⟨t117, A40, H⟩ := H
  replace H : (if t116 = t117 then ((bits_Ones.f k a0).bind fun t118 => ((peristyleref01_Ones.f a0).bind fun t119 => (if t118 = t119 then ((bits_Next.f k a0 a1).bind fun t120 => ((peristyleref01_Next.f a0 a1).bind fun t121 => (if t120 = t121 then ((bits_Mask.f a1).bind fun t122 => ((peristyleref01_Mask.f a1).bind fun t123 => (if t122 = t123 then ((peristylelaw01_awake.f k).bind fun t124 => (some t124)) else (some false)))) else (some false)))) else (some false)))) else (some false)) = some r := H
  have A4 := Aside0.mk A40
  clear A40
  by_cases c5 : t116 = t117
  · rw [if_pos c5] at H
    have c5b0 : (t116 == t117) = true := beq_iff_eq.mpr c5
    have c5b1 : (t116 != t117) = false := bne_eq_false_iff_eq.mpr c5
    clear c5
    replace H := Option.bind_eq_some_iff.mp H
    obtain ⟨t118, A60, H⟩ := H
    replace H : ((peristyleref01_Ones.f a0).bind fun t119 => (if t118 = t119 then ((bits_Next.f k a0 a1).bind fun t120 => ((peristyleref01_Next.f a0 a1).bind fun t121 => (if t120 = t121 then ((bits_Mask.f a1).bind fun t122 => ((peristyleref01_Mask.f a1).bind fun t123 => (if t122 = t123 then ((peristylelaw01_awake.f k).bind fun t124 => (some t124)) else (some false)))) else (some false)))) else (some false))) = some r := H
    have A6 := Aside0.mk A60
    clear A60
    replace H := Option.bind_eq_some_iff.mp H
    obtain ⟨t119, A70, H⟩ := H
    replace H : (if t118 = t119 then ((bits_Next.f k a0 a1).bind fun t120 => ((peristyleref01_Next.f a0 a1).bind fun t121 => (if t120 = t121 then ((bits_Mask.f a1).bind fun t122 => ((peristyleref01_Mask.f a1).bind fun t123 => (if t122 = t123 then ((peristylelaw01_awake.f k).bind fun t124 => (some t124)) else (some false)))) else (some false)))) else (some false)) = some r := H
    have A7 := Aside0.mk A70
    clear A70
    by_cases c8 : t118 = t119
    · rw [if_pos c8] at H
      have c8b0 : (t118 == t119) = true := beq_iff_eq.mpr c8
      have c8b1 : (t118 != t119) = false := bne_eq_false_iff_eq.mpr c8
      clear c8
      replace H := Option.bind_eq_some_iff.mp H
      obtain ⟨t120, A90, H⟩ := H
      replace H : ((peristyleref01_Next.f a0 a1).bind fun t121 => (if t120 = t121 then ((bits_Mask.f a1).bind fun t122 => ((peristyleref01_Mask.f a1).bind fun t123 => (if t122 = t123 then ((peristylelaw01_awake.f k).bind fun t124 => (some t124)) else (some false)))) else (some false))) = some r := H
      have A9 := Aside0.mk A90
      clear A90
      replace H := Option.bind_eq_some_iff.mp H
      obtain ⟨t121, A100, H⟩ := H
      replace H : (if t120 = t121 then ((bits_Mask.f a1).bind fun t122 => ((peristyleref01_Mask.f a1).bind fun t123 => (if t122 = t123 then ((peristylelaw01_awake.f k).bind fun t124 => (some t124)) else (some false)))) else (some false)) = some r := H
      have A10 := Aside0.mk A100
      clear A100
      by_cases c11 : t120 = t121
      · rw [if_pos c11] at H
        have c11b0 : (t120 == t121) = true := beq_iff_eq.mpr c11
        have c11b1 : (t120 != t121) = false := bne_eq_false_iff_eq.mpr c11
        clear c11
        replace H := Option.bind_eq_some_iff.mp H
        obtain ⟨t122, A120, H⟩ := H
        replace H : ((peristyleref01_Mask.f a1).bind fun t123 => (if t122 = t123 then ((peristylelaw01_awake.f k).bind fun t124 => (some t124)) else (some false))) = some r := H
        have A12 := Aside0.mk A120
        clear A120
        replace H := Option.bind_eq_some_iff.mp H
        obtain ⟨t123, A130, H⟩ := H
        replace H : (if t122 = t123 then ((peristylelaw01_awake.f k).bind fun t124 => (some t124)) else (some false)) = some r := H
        have A13 := Aside0.mk A130
        clear A130
        by_cases c14 : t122 = t123
        · rw [if_pos c14] at H
          have c14b0 : (t122 == t123) = true := beq_iff_eq.mpr c14
          have c14b1 : (t122 != t123) = false := bne_eq_false_iff_eq.mpr c14
          clear c14
          replace H := Option.bind_eq_some_iff.mp H
          obtain ⟨t124, A150, H⟩ := H
          replace H : (some t124) = some r := H
          have A15 := Aside0.mk A150
          clear A150
          obtain rfl := Option.some.inj H
          go_enter Try.func3, Try.ntmps3
          go_wp2_with (first | ((with_reducible refine gate_callee (f := 9) rfl ?_); refine goesL_ (some 6) rfl rfl Try.func9 (by kernel_rfl) rfl #[.int .i64 a0] rfl (by (try simp only [List.map_toArray, List.map_cons, List.map_nil]); first | done | rfl | (simp only [List.length_drop, List.length_take]; rfl)) ?_; (with_reducible refine (bits_Width.calls k a0 t116 _ A3.out).mono ?_); rintro e w' ⟨rfl, ⟨nd, rfl⟩⟩; refine ⟨_, rfl, ?_⟩) | ((with_reducible refine gate_callee (f := 10) rfl ?_); refine goesL_ (some 8) rfl rfl Try.func10 (by kernel_rfl) rfl #[.int .i64 a0] rfl (by (try simp only [List.map_toArray, List.map_cons, List.map_nil]); first | done | rfl | (simp only [List.length_drop, List.length_take]; rfl)) ?_; (with_reducible refine (peristyleref01_Width.calls a0 t117 _ A4.out).mono ?_); rintro e w16 ⟨rfl, hb⟩; refine ⟨_, rfl, ?_⟩; have n0_ := Aside0.mk (below_step (by repeat (first | (with_reducible first | exact HB.out | apply below_alloc | apply pw_below_drewN | apply below_drew1) | exact HB.out)) hb); clear HB; have HB := n0_; clear n0_; (try clear hb); (try clear hb2); (try clear hk); (try clear hi)) | (go_at_call 11; (with_reducible refine (bits_Ones.calls k a0 t118 _ A6.out).mono ?_); rintro e w' ⟨rfl, ⟨nd, rfl⟩⟩; (try clear A6)) | (go_at_call 12; (with_reducible refine (peristyleref01_Ones.calls a0 t119 _ A7.out).mono ?_); rintro e w17 ⟨rfl, hb⟩; have n0_ := Aside0.mk (below_step (by repeat (first | (with_reducible first | exact HB.out | apply below_alloc | apply pw_below_drewN | apply below_drew1) | exact HB.out)) hb); clear HB; have HB := n0_; clear n0_; (try clear hb); (try clear hb2); (try clear hk); (try clear hi); (try clear A7)) | (go_at_call 13; (with_reducible refine (bits_Next.calls k a0 a1 t120 _ A9.out).mono ?_); rintro e w18 ⟨rfl, hb⟩; have n0_ := Aside0.mk (below_step (by repeat (first | (with_reducible first | exact HB.out | apply below_alloc | apply pw_below_drewN | apply below_drew1) | exact HB.out)) hb); clear HB; have HB := n0_; clear n0_; (try clear hb); (try clear hb2); (try clear hk); (try clear hi); (try clear A9)) | (go_at_call 14; (with_reducible refine (peristyleref01_Next.calls a0 a1 t121 _ A10.out).mono ?_); rintro e w19 ⟨rfl, hb⟩; have n0_ := Aside0.mk (below_step (by repeat (first | (with_reducible first | exact HB.out | apply below_alloc | apply pw_below_drewN | apply below_drew1) | exact HB.out)) hb); clear HB; have HB := n0_; clear n0_; (try clear hb); (try clear hb2); (try clear hk); (try clear hi); (try clear A10)) | (go_at_call 15; (with_reducible refine (bits_Mask.calls a1 t122 _ A12.out).mono ?_); rintro e w' ⟨rfl, ⟨nd, rfl⟩⟩; (try clear A12)) | (go_at_call 16; (with_reducible refine (peristyleref01_Mask.calls a1 t123 _ A13.out).mono ?_); rintro e w20 ⟨rfl, hb⟩; have n0_ := Aside0.mk (below_step (by repeat (first | (with_reducible first | exact HB.out | apply below_alloc | apply pw_below_drewN | apply below_drew1) | exact HB.out)) hb); clear HB; have HB := n0_; clear n0_; (try clear hb); (try clear hb2); (try clear hk); (try clear hi); (try clear A13)) | (go_at_call 17; (with_reducible refine (peristylelaw01_awake.calls k  t124 _ A15.out).mono ?_); rintro e w21 ⟨rfl, hb⟩; have n0_ := Aside0.mk (below_step (by repeat (first | (with_reducible first | exact HB.out | apply below_alloc | apply pw_below_drewN | apply below_drew1) | exact HB.out)) hb); clear HB; have HB := n0_; clear n0_; (try clear hb); (try clear hb2); (try clear hk); (try clear hi); (try clear A15)))
          go_ret
          exact ⟨by first | rfl | (simp [errW_none, errW_some] <;> rfl) | (simp [*, errW_none, errW_some] <;> rfl), by repeat (first | (with_reducible first | exact HB.out | apply below_alloc | apply pw_below_drewN | apply below_drew1) | exact HB.out)⟩
        · rw [if_neg c14] at H
          have c14b0 : (t122 == t123) = false := beq_eq_false_iff_ne.mpr c14
          have c14b1 : (t122 != t123) = true := bne_iff_ne.mpr c14
          obtain rfl := Option.some.inj H
          go_enter Try.func3, Try.ntmps3
          go_wp2_with (first | ((with_reducible refine gate_callee (f := 9) rfl ?_); refine goesL_ (some 6) rfl rfl Try.func9 (by kernel_rfl) rfl #[.int .i64 a0] rfl (by (try simp only [List.map_toArray, List.map_cons, List.map_nil]); first | done | rfl | (simp only [List.length_drop, List.length_take]; rfl)) ?_; (with_reducible refine (bits_Width.calls k a0 t116 _ A3.out).mono ?_); rintro e w' ⟨rfl, ⟨nd, rfl⟩⟩; refine ⟨_, rfl, ?_⟩) | ((with_reducible refine gate_callee (f := 10) rfl ?_); refine goesL_ (some 8) rfl rfl Try.func10 (by kernel_rfl) rfl #[.int .i64 a0] rfl (by (try simp only [List.map_toArray, List.map_cons, List.map_nil]); first | done | rfl | (simp only [List.length_drop, List.length_take]; rfl)) ?_; (with_reducible refine (peristyleref01_Width.calls a0 t117 _ A4.out).mono ?_); rintro e w22 ⟨rfl, hb⟩; refine ⟨_, rfl, ?_⟩; have n0_ := Aside0.mk (below_step (by repeat (first | (with_reducible first | exact HB.out | apply below_alloc | apply pw_below_drewN | apply below_drew1) | exact HB.out)) hb); clear HB; have HB := n0_; clear n0_; (try clear hb); (try clear hb2); (try clear hk); (try clear hi)) | (go_at_call 11; (with_reducible refine (bits_Ones.calls k a0 t118 _ A6.out).mono ?_); rintro e w' ⟨rfl, ⟨nd, rfl⟩⟩; (try clear A6)) | (go_at_call 12; (with_reducible refine (peristyleref01_Ones.calls a0 t119 _ A7.out).mono ?_); rintro e w23 ⟨rfl, hb⟩; have n0_ := Aside0.mk (below_step (by repeat (first | (with_reducible first | exact HB.out | apply below_alloc | apply pw_below_drewN | apply below_drew1) | exact HB.out)) hb); clear HB; have HB := n0_; clear n0_; (try clear hb); (try clear hb2); (try clear hk); (try clear hi); (try clear A7)) | (go_at_call 13; (with_reducible refine (bits_Next.calls k a0 a1 t120 _ A9.out).mono ?_); rintro e w24 ⟨rfl, hb⟩; have n0_ := Aside0.mk (below_step (by repeat (first | (with_reducible first | exact HB.out | apply below_alloc | apply pw_below_drewN | apply below_drew1) | exact HB.out)) hb); clear HB; have HB := n0_; clear n0_; (try clear hb); (try clear hb2); (try clear hk); (try clear hi); (try clear A9)) | (go_at_call 14; (with_reducible refine (peristyleref01_Next.calls a0 a1 t121 _ A10.out).mono ?_); rintro e w25 ⟨rfl, hb⟩; have n0_ := Aside0.mk (below_step (by repeat (first | (with_reducible first | exact HB.out | apply below_alloc | apply pw_below_drewN | apply below_drew1) | exact HB.out)) hb); clear HB; have HB := n0_; clear n0_; (try clear hb); (try clear hb2); (try clear hk); (try clear hi); (try clear A10)) | (go_at_call 15; (with_reducible refine (bits_Mask.calls a1 t122 _ A12.out).mono ?_); rintro e w' ⟨rfl, ⟨nd, rfl⟩⟩; (try clear A12)) | (go_at_call 16; (with_reducible refine (peristyleref01_Mask.calls a1 t123 _ A13.out).mono ?_); rintro e w26 ⟨rfl, hb⟩; have n0_ := Aside0.mk (below_step (by repeat (first | (with_reducible first | exact HB.out | apply below_alloc | apply pw_below_drewN | apply below_drew1) | exact HB.out)) hb); clear HB; have HB := n0_; clear n0_; (try clear hb); (try clear hb2); (try clear hk); (try clear hi); (try clear A13)))
          go_ret
          exact ⟨by first | rfl | (simp [errW_none, errW_some] <;> rfl) | (simp [*, errW_none, errW_some] <;> rfl), by repeat (first | (with_reducible first | exact HB.out | apply below_alloc | apply pw_below_drewN | apply below_drew1) | exact HB.out)⟩
      · rw [if_neg c11] at H
        have c11b0 : (t120 == t121) = false := beq_eq_false_iff_ne.mpr c11
        have c11b1 : (t120 != t121) = true := bne_iff_ne.mpr c11
        obtain rfl := Option.some.inj H
        go_enter Try.func3, Try.ntmps3
        go_wp2_with (first | ((with_reducible refine gate_callee (f := 9) rfl ?_); refine goesL_ (some 6) rfl rfl Try.func9 (by kernel_rfl) rfl #[.int .i64 a0] rfl (by (try simp only [List.map_toArray, List.map_cons, List.map_nil]); first | done | rfl | (simp only [List.length_drop, List.length_take]; rfl)) ?_; (with_reducible refine (bits_Width.calls k a0 t116 _ A3.out).mono ?_); rintro e w' ⟨rfl, ⟨nd, rfl⟩⟩; refine ⟨_, rfl, ?_⟩) | ((with_reducible refine gate_callee (f := 10) rfl ?_); refine goesL_ (some 8) rfl rfl Try.func10 (by kernel_rfl) rfl #[.int .i64 a0] rfl (by (try simp only [List.map_toArray, List.map_cons, List.map_nil]); first | done | rfl | (simp only [List.length_drop, List.length_take]; rfl)) ?_; (with_reducible refine (peristyleref01_Width.calls a0 t117 _ A4.out).mono ?_); rintro e w27 ⟨rfl, hb⟩; refine ⟨_, rfl, ?_⟩; have n0_ := Aside0.mk (below_step (by repeat (first | (with_reducible first | exact HB.out | apply below_alloc | apply pw_below_drewN | apply below_drew1) | exact HB.out)) hb); clear HB; have HB := n0_; clear n0_; (try clear hb); (try clear hb2); (try clear hk); (try clear hi)) | (go_at_call 11; (with_reducible refine (bits_Ones.calls k a0 t118 _ A6.out).mono ?_); rintro e w' ⟨rfl, ⟨nd, rfl⟩⟩; (try clear A6)) | (go_at_call 12; (with_reducible refine (peristyleref01_Ones.calls a0 t119 _ A7.out).mono ?_); rintro e w28 ⟨rfl, hb⟩; have n0_ := Aside0.mk (below_step (by repeat (first | (with_reducible first | exact HB.out | apply below_alloc | apply pw_below_drewN | apply below_drew1) | exact HB.out)) hb); clear HB; have HB := n0_; clear n0_; (try clear hb); (try clear hb2); (try clear hk); (try clear hi); (try clear A7)) | (go_at_call 13; (with_reducible refine (bits_Next.calls k a0 a1 t120 _ A9.out).mono ?_); rintro e w29 ⟨rfl, hb⟩; have n0_ := Aside0.mk (below_step (by repeat (first | (with_reducible first | exact HB.out | apply below_alloc | apply pw_below_drewN | apply below_drew1) | exact HB.out)) hb); clear HB; have HB := n0_; clear n0_; (try clear hb); (try clear hb2); (try clear hk); (try clear hi); (try clear A9)) | (go_at_call 14; (with_reducible refine (peristyleref01_Next.calls a0 a1 t121 _ A10.out).mono ?_); rintro e w30 ⟨rfl, hb⟩; have n0_ := Aside0.mk (below_step (by repeat (first | (with_reducible first | exact HB.out | apply below_alloc | apply pw_below_drewN | apply below_drew1) | exact HB.out)) hb); clear HB; have HB := n0_; clear n0_; (try clear hb); (try clear hb2); (try clear hk); (try clear hi); (try clear A10)))
        go_ret
        exact ⟨by first | rfl | (simp [errW_none, errW_some] <;> rfl) | (simp [*, errW_none, errW_some] <;> rfl), by repeat (first | (with_reducible first | exact HB.out | apply below_alloc | apply pw_below_drewN | apply below_drew1) | exact HB.out)⟩
    · rw [if_neg c8] at H
      have c8b0 : (t118 == t119) = false := beq_eq_false_iff_ne.mpr c8
      have c8b1 : (t118 != t119) = true := bne_iff_ne.mpr c8
      obtain rfl := Option.some.inj H
      go_enter Try.func3, Try.ntmps3
      go_wp2_with (first | ((with_reducible refine gate_callee (f := 9) rfl ?_); refine goesL_ (some 6) rfl rfl Try.func9 (by kernel_rfl) rfl #[.int .i64 a0] rfl (by (try simp only [List.map_toArray, List.map_cons, List.map_nil]); first | done | rfl | (simp only [List.length_drop, List.length_take]; rfl)) ?_; (with_reducible refine (bits_Width.calls k a0 t116 _ A3.out).mono ?_); rintro e w' ⟨rfl, ⟨nd, rfl⟩⟩; refine ⟨_, rfl, ?_⟩) | ((with_reducible refine gate_callee (f := 10) rfl ?_); refine goesL_ (some 8) rfl rfl Try.func10 (by kernel_rfl) rfl #[.int .i64 a0] rfl (by (try simp only [List.map_toArray, List.map_cons, List.map_nil]); first | done | rfl | (simp only [List.length_drop, List.length_take]; rfl)) ?_; (with_reducible refine (peristyleref01_Width.calls a0 t117 _ A4.out).mono ?_); rintro e w31 ⟨rfl, hb⟩; refine ⟨_, rfl, ?_⟩; have n0_ := Aside0.mk (below_step (by repeat (first | (with_reducible first | exact HB.out | apply below_alloc | apply pw_below_drewN | apply below_drew1) | exact HB.out)) hb); clear HB; have HB := n0_; clear n0_; (try clear hb); (try clear hb2); (try clear hk); (try clear hi)) | (go_at_call 11; (with_reducible refine (bits_Ones.calls k a0 t118 _ A6.out).mono ?_); rintro e w' ⟨rfl, ⟨nd, rfl⟩⟩; (try clear A6)) | (go_at_call 12; (with_reducible refine (peristyleref01_Ones.calls a0 t119 _ A7.out).mono ?_); rintro e w32 ⟨rfl, hb⟩; have n0_ := Aside0.mk (below_step (by repeat (first | (with_reducible first | exact HB.out | apply below_alloc | apply pw_below_drewN | apply below_drew1) | exact HB.out)) hb); clear HB; have HB := n0_; clear n0_; (try clear hb); (try clear hb2); (try clear hk); (try clear hi); (try clear A7)))
      go_ret
      exact ⟨by first | rfl | (simp [errW_none, errW_some] <;> rfl) | (simp [*, errW_none, errW_some] <;> rfl), by repeat (first | (with_reducible first | exact HB.out | apply below_alloc | apply pw_below_drewN | apply below_drew1) | exact HB.out)⟩
  · rw [if_neg c5] at H
    have c5b0 : (t116 == t117) = false := beq_eq_false_iff_ne.mpr c5
    have c5b1 : (t116 != t117) = true := bne_iff_ne.mpr c5
    obtain rfl := Option.some.inj H
    go_enter Try.func3, Try.ntmps3
    go_wp2_with (first | ((with_reducible refine gate_callee (f := 9) rfl ?_); refine goesL_ (some 6) rfl rfl Try.func9 (by kernel_rfl) rfl #[.int .i64 a0] rfl (by (try simp only [List.map_toArray, List.map_cons, List.map_nil]); first | done | rfl | (simp only [List.length_drop, List.length_take]; rfl)) ?_; (with_reducible refine (bits_Width.calls k a0 t116 _ A3.out).mono ?_); rintro e w' ⟨rfl, ⟨nd, rfl⟩⟩; refine ⟨_, rfl, ?_⟩) | ((with_reducible refine gate_callee (f := 10) rfl ?_); refine goesL_ (some 8) rfl rfl Try.func10 (by kernel_rfl) rfl #[.int .i64 a0] rfl (by (try simp only [List.map_toArray, List.map_cons, List.map_nil]); first | done | rfl | (simp only [List.length_drop, List.length_take]; rfl)) ?_; (with_reducible refine (peristyleref01_Width.calls a0 t117 _ A4.out).mono ?_); rintro e w33 ⟨rfl, hb⟩; refine ⟨_, rfl, ?_⟩; have n0_ := Aside0.mk (below_step (by repeat (first | (with_reducible first | exact HB.out | apply below_alloc | apply pw_below_drewN | apply below_drew1) | exact HB.out)) hb); clear HB; have HB := n0_; clear n0_; (try clear hb); (try clear hb2); (try clear hk); (try clear hi)))
    go_ret
    exact ⟨by first | rfl | (simp [errW_none, errW_some] <;> rfl) | (simp [*, errW_none, errW_some] <;> rfl), by repeat (first | (with_reducible first | exact HB.out | apply below_alloc | apply pw_below_drewN | apply below_drew1) | exact HB.out)⟩

/-- THE ONE PURE STATEMENT of peristylelaw01_BitsCounts: yours. -/
def peristylelaw01_BitsCounts.Pure : Prop := ∀ (a0 : Int) (a1 : Int), (Lit.int .i64 a0).wf = true → (Lit.int .i64 a1).wf = true → ∃ k, peristylelaw01_BitsCounts.f k a0 a1 = some true
theorem peristylelaw01_BitsCounts.walk (P : peristylelaw01_BitsCounts.Pure) (a0 : Int) (a1 : Int) (w : World) (w0 : (Lit.int .i64 a0).wf = true) (w1 : (Lit.int .i64 a1).wf = true) :
    Calls Try.prog 3 #[.int .i64 a0, .int .i64 a1] w fun e w' => e = .returned (.bool true) ∧ Below w.heap.size w w' := by
  obtain ⟨k, h⟩ := P a0 a1 w0 w1
  refine (peristylelaw01_BitsCounts.calls k a0 a1 true w h).mono ?_
  rintro e w' ⟨rfl, hd⟩
  exact ⟨rfl, hd⟩

/-! ### peristyleref01_Zig: function 19 (a contract of the session's own) -/
def zigAt (l : List Bool) (k : Nat) : Bool := if k = 0 then bAt l 63 else (bAt l (k - 1) != bAt l 63)
def peristyleref01_Zig.f (a0 : Int) : Option (Int) := some (wordTo (fillTo (zigAt (bitsOf a0)) zB 64) 64)
set_option maxHeartbeats 1600000 in
theorem peristyleref01_Zig.calls0 (a0 : Int) (w : World) :
    Calls Try.prog 19 #[.int .i64 a0] w fun e w' => e = .returned (.int .i64 (wordTo (fillTo (zigAt (bitsOf a0)) zB 64) 64)) ∧ Below w.heap.size w w' := by
  go_enter Try.func19, Try.ntmps19
  go_wp2_with (first | (go_at_call 28; refine (peristyleref01_Of.calls a0 _).mono ?_; rintro e w1 ⟨rfl, HB1⟩) | ((with_reducible refine gate_dst (N := 3) rfl ?_); refine arr_alloc (w0 := w) w.heap.size rfl 34 rfl _ 64 peristyleref01_Of.zero HB1 HB1.size ?_; intro g0 w2 hg0 hb0 hs0 HB2 hbs2 hgr2) | ((with_reducible refine gate_store (t := 34) (p := 3) rfl ?_); refine arr_store (w0 := w) w.heap.size rfl 34 _ _ rfl g0 _ _ rfl rfl hg0 (by rw [arrB_size, bitsOf_length]; exact peristyleref01_Of.size) (by rw [arrB_size, arrB_size, bitsOf_length]; rfl) (arrB_one _) HB2 hb0 ?_; intro w3 hg3 HB3 hbs3 hgr3) | ((with_reducible refine gate_dst (N := 8) rfl ?_); refine arr_build rfl 34 rfl _ 64 4 64 peristyleref01_Of.zero Try.underlying34 peristyleref01_Of.elem ?_) | ((with_reducible refine gate_dst (N := 4) rfl ?_); refine arr_alloc (w0 := w) w.heap.size rfl 34 rfl _ 64 peristyleref01_Of.zero HB3 hbs3 ?_; intro g1 w4 hg1 hb1 hs1 HB4 hbs4 hgr4) | ((with_reducible refine gate_store (t := 34) (p := 4) rfl ?_); refine arr_store (w0 := w) w.heap.size rfl 34 _ _ rfl g1 _ _ rfl rfl hg1 peristyleref01_Of.size rfl (arrB_one _) HB4 hb1 ?_; intro w5 hg5 HB5 hbs5 hgr5; have hne : g0 ≠ g1 := (by have := blk_lt hg3; omega); have hg05 := blk_grown (blk_grown hg3 hgr4 (by simp)) hgr5 (by simpa using hne); have cb : w5.cell? ⟨g0, 63, none⟩ = some (.bool (bAt (bitsOf a0) 63)) := arrB_cell hg05 63 (by rw [bitsOf_length]; omega); have co : w5.cell? ⟨g1, 0, none⟩ = some (.bool (bAt zB 0)) := arrB_cell hg5 0 (by decide); have fo := blk_frozen hg5 0))
  have A1 := Aside0.mk hg05
  have A2 := Aside0.mk hg5
  have A3 := Aside0.mk HB5
  have A4 := Aside0.mk hne
  clear hg0 hs0 HB1 HB2 hbs2 hgr2 hg3 HB3 hbs3 hgr3 hg1 hs1 HB4 hbs4 hgr4 hg5 HB5 hbs5 hgr5 hne hg05
  have B1 : Aside0 ((w5.setCell ⟨g1, 0, none⟩ (.bool (bAt (bitsOf a0) 63))).heap[g1]? = some (.cells (arrB (fillTo (zigAt (bitsOf a0)) zB 1)) 34 (0, 0))) := ⟨by have := arrB_put A2.out 0 (zigAt (bitsOf a0) 0); rw [show zB.set 0 (zigAt (bitsOf a0) 0) = fillTo (zigAt (bitsOf a0)) zB 1 from by rw [← fillTo_set _ zB 0 (by decide), fillTo_zero]] at this; exact this⟩
  have B2 : Aside0 ((w5.setCell ⟨g1, 0, none⟩ (.bool (bAt (bitsOf a0) 63))).heap[g0]? = some (.cells (arrB (bitsOf a0)) 34 (0, 0))) := ⟨blk_far A1.out (fun e => A4.out e) _⟩
  have B3 : Aside0 (Below w.heap.size w (w5.setCell ⟨g1, 0, none⟩ (.bool (bAt (bitsOf a0) 63)))) := ⟨A3.out.setCell hb1 _⟩
  clear cb co fo A1 A2 A3
  go_loopw [5] (fun v5 wr => ∃ k : Nat, 1 ≤ k ∧ k ≤ 64 ∧ v5 = .int .i64 k ∧ Aside0 (wr.heap[g1]? = some (.cells (arrB (fillTo (zigAt (bitsOf a0)) zB k)) 34 (0, 0))) ∧ Aside0 (wr.heap[g0]? = some (.cells (arrB (bitsOf a0)) 34 (0, 0))) ∧ Aside0 (Below w.heap.size w wr)) (fun v5 _ => 64 - (intOf v5).toNat)
  case atStart => exact ⟨1, by omega, by omega, rfl, B1, B2, B3⟩
  case round =>
    clear B1 B2 B3
    obtain ⟨k, h1, hk, rfl, C1, C2, C3⟩ := hrel
    have HL : Aside0 ((fillTo (zigAt (bitsOf a0)) zB k).length = 64) := ⟨fillTo_length _ zB k hk⟩
    by_cases hlt : k < 64
    · obtain ⟨m, rfl⟩ : ∃ m, k = m + 1 := ⟨k - 1, by omega⟩
      have e1 : ((m + 1 : Nat) : Int) = (m : Int) + 1 := by omega
      have co : wr.cell? ⟨g1, m + 1, none⟩ = some (.bool (bAt (fillTo (zigAt (bitsOf a0)) zB (m + 1)) (m + 1))) := arrB_cell C1.out (m + 1) (by rw [HL.out]; omega)
      have fo : wr.frozen? ⟨g1, m + 1, none⟩ = false := blk_frozen C1.out (m + 1)
      have cb : wr.cell? ⟨g0, m, none⟩ = some (.bool (bAt (bitsOf a0) m)) := arrB_cell C2.out m (by rw [bitsOf_length]; omega)
      have cb63 : wr.cell? ⟨g0, 63, none⟩ = some (.bool (bAt (bitsOf a0) 63)) := arrB_cell C2.out 63 (by rw [bitsOf_length]; omega)
      generalize bAt (fillTo (zigAt (bitsOf a0)) zB (m + 1)) (m + 1) = old at co
      have hk0 : (0 : Int) ≤ (m : Int) := by omega
      have hk1 : (m : Int) < 63 := by omega
      rw [e1]
      clear e1 h1 hk hlt
      go_wp2
      go_region
      go_wp2
      go_roundw
      case rel =>
        have hset := arrB_put C1.out (m + 1) (zigAt (bitsOf a0) (m + 1))
        rw [fillTo_set _ zB (m + 1) (by rw [zB_length]; omega)] at hset
        have hz : zigAt (bitsOf a0) (m + 1) = !(bAt (bitsOf a0) m == bAt (bitsOf a0) 63) := by simp [zigAt, bne]
        rw [hz] at hset
        exact ⟨m + 2, by omega, by omega, by go_num, ⟨hset⟩, ⟨blk_far C2.out (fun e => A4.out e) _⟩, ⟨below_drew (C3.out.setCell hb1 _)⟩⟩
      case measure => simp [intOf]; omega
    · have hk64 : ¬ (k : Int) < 64 := by omega
      obtain rfl : k = 64 := by omega
      clear hk64 hlt h1 hk
      go_wp2_with (first | ((with_reducible refine gate_dst (N := 25) rfl ?_); refine wpList_load_row rfl 34 _ rfl g1 rfl 34 _ (0, 0) _ C1.out Try.underlying34 rfl (by rw [arrB_size, HL.out]; exact peristyleref01_Of.size) ?_) | (go_at_call 30; refine (peristyleref01_Word.calls _ HL.out _).mono ?_; rintro e w9 ⟨rfl, HB9⟩))
      go_ret
      exact ⟨rfl, below_step C3.out HB9⟩
theorem peristyleref01_Zig.calls (a0 : Int) (r : Int) (w : World) (h : peristyleref01_Zig.f a0 = some r) :
    Calls Try.prog 19 #[.int .i64 a0] w fun e w' => e = .returned (.int .i64 r) ∧ Below w.heap.size w w' := by
  obtain rfl := Option.some.inj h
  exact peristyleref01_Zig.calls0 a0 w

/-! ### peristyleref01_Zag: function 21 (a contract of the session's own) -/
def zagAt (l : List Bool) (k : Nat) : Bool := bAt l (k + 1) != bAt l 0
def peristyleref01_Zag.f (a0 : Int) : Option (Int) := some (wordTo ((fillTo (zagAt (bitsOf a0)) zB 63).set 63 (bAt (bitsOf a0) 0)) 64)
set_option maxHeartbeats 1600000 in
theorem peristyleref01_Zag.calls0 (a0 : Int) (w : World) :
    Calls Try.prog 21 #[.int .i64 a0] w fun e w' => e = .returned (.int .i64 (wordTo ((fillTo (zagAt (bitsOf a0)) zB 63).set 63 (bAt (bitsOf a0) 0)) 64)) ∧ Below w.heap.size w w' := by
  go_enter Try.func21, Try.ntmps21
  go_wp2_with (first | (go_at_call 28; refine (peristyleref01_Of.calls a0 _).mono ?_; rintro e w1 ⟨rfl, HB1⟩) | ((with_reducible refine gate_dst (N := 3) rfl ?_); refine arr_alloc (w0 := w) w.heap.size rfl 34 rfl _ 64 peristyleref01_Of.zero HB1 HB1.size ?_; intro g0 w2 hg0 hb0 hs0 HB2 hbs2 hgr2) | ((with_reducible refine gate_store (t := 34) (p := 3) rfl ?_); refine arr_store (w0 := w) w.heap.size rfl 34 _ _ rfl g0 _ _ rfl rfl hg0 (by rw [arrB_size, bitsOf_length]; exact peristyleref01_Of.size) (by rw [arrB_size, arrB_size, bitsOf_length]; rfl) (arrB_one _) HB2 hb0 ?_; intro w3 hg3 HB3 hbs3 hgr3) | ((with_reducible refine gate_dst (N := 8) rfl ?_); refine arr_build rfl 34 rfl _ 64 4 64 peristyleref01_Of.zero Try.underlying34 peristyleref01_Of.elem ?_) | ((with_reducible refine gate_dst (N := 4) rfl ?_); refine arr_alloc (w0 := w) w.heap.size rfl 34 rfl _ 64 peristyleref01_Of.zero HB3 hbs3 ?_; intro g1 w4 hg1 hb1 hs1 HB4 hbs4 hgr4) | ((with_reducible refine gate_store (t := 34) (p := 4) rfl ?_); refine arr_store (w0 := w) w.heap.size rfl 34 _ _ rfl g1 _ _ rfl rfl hg1 peristyleref01_Of.size rfl (arrB_one _) HB4 hb1 ?_; intro w5 hg5 HB5 hbs5 hgr5))
  have hne : g0 ≠ g1 := by have := blk_lt hg3; omega
  have hg05 := blk_grown (blk_grown hg3 hgr4 (by simp)) hgr5 (by simpa using hne)
  have A1 := Aside0.mk hg05
  have A2 := Aside0.mk hg5
  have A3 := Aside0.mk HB5
  have A4 := Aside0.mk hne
  clear hg0 hs0 HB1 HB2 hbs2 hgr2 hg3 HB3 hbs3 hgr3 hg1 hs1 HB4 hbs4 hgr4 hg5 HB5 hbs5 hgr5 hne hg05
  go_loopw [5] (fun v5 wr => ∃ k : Nat, k ≤ 63 ∧ v5 = .int .i64 k ∧ Aside0 (wr.heap[g1]? = some (.cells (arrB (fillTo (zagAt (bitsOf a0)) zB k)) 34 (0, 0))) ∧ Aside0 (wr.heap[g0]? = some (.cells (arrB (bitsOf a0)) 34 (0, 0))) ∧ Aside0 (Below w.heap.size w wr)) (fun v5 _ => 63 - (intOf v5).toNat)
  case atStart => exact ⟨0, by omega, rfl, ⟨by rw [fillTo_zero]; exact A2.out⟩, A1, A3⟩
  case round =>
    clear A1 A2 A3
    obtain ⟨k, hk, rfl, C1, C2, C3⟩ := hrel
    have HL : Aside0 ((fillTo (zagAt (bitsOf a0)) zB k).length = 64) := ⟨fillTo_length _ zB k (by rw [zB_length]; omega)⟩
    have cb0 : wr.cell? ⟨g0, 0, none⟩ = some (.bool (bAt (bitsOf a0) 0)) := arrB_cell C2.out 0 (by rw [bitsOf_length]; omega)
    by_cases hlt : k < 63
    · have co : wr.cell? ⟨g1, k, none⟩ = some (.bool (bAt (fillTo (zagAt (bitsOf a0)) zB k) k)) := arrB_cell C1.out k (by rw [HL.out]; omega)
      have fo : wr.frozen? ⟨g1, k, none⟩ = false := blk_frozen C1.out k
      have cb : wr.cell? ⟨g0, k + 1, none⟩ = some (.bool (bAt (bitsOf a0) (k + 1))) := arrB_cell C2.out (k + 1) (by rw [bitsOf_length]; omega)
      generalize bAt (fillTo (zagAt (bitsOf a0)) zB k) k = old at co
      have hk0 : (0 : Int) ≤ (k : Int) := by omega
      have hk1 : (k : Int) < 63 := by omega
      clear hk hlt
      go_wp2
      go_region
      go_wp2
      go_roundw
      case rel =>
        have hset := arrB_put C1.out k (zagAt (bitsOf a0) k)
        rw [fillTo_set _ zB k (by rw [zB_length]; omega)] at hset
        have hz : zagAt (bitsOf a0) k = !(bAt (bitsOf a0) (k + 1) == bAt (bitsOf a0) 0) := by simp [zagAt, bne]
        rw [hz] at hset
        exact ⟨k + 1, by omega, by go_num, ⟨hset⟩, ⟨blk_far C2.out (fun e => A4.out e) _⟩, ⟨below_drew (C3.out.setCell hb1 _)⟩⟩
      case measure => simp [intOf]; omega
    · have hk64 : ¬ (k : Int) < 63 := by omega
      obtain rfl : k = 63 := by omega
      clear hk64 hlt hk
      have co : wr.cell? ⟨g1, 63, none⟩ = some (.bool (bAt (fillTo (zagAt (bitsOf a0)) zB 63) 63)) := arrB_cell C1.out 63 (by rw [HL.out]; omega)
      have fo : wr.frozen? ⟨g1, 63, none⟩ = false := blk_frozen C1.out 63
      have D1 : Aside0 ((wr.setCell ⟨g1, 63, none⟩ (.bool (bAt (bitsOf a0) 0))).heap[g1]? = some (.cells (arrB ((fillTo (zagAt (bitsOf a0)) zB 63).set 63 (bAt (bitsOf a0) 0))) 34 (0, 0))) := ⟨arrB_put C1.out 63 _⟩
      have D3 : Aside0 (Below w.heap.size w (wr.setCell ⟨g1, 63, none⟩ (.bool (bAt (bitsOf a0) 0)))) := ⟨C3.out.setCell hb1 _⟩
      have HL2 : Aside0 (((fillTo (zagAt (bitsOf a0)) zB 63).set 63 (bAt (bitsOf a0) 0)).length = 64) := ⟨by rw [List.length_set]; exact HL.out⟩
      clear C1 C2 C3 HL
      go_wp2_with (first | ((with_reducible refine gate_dst (N := 25) rfl ?_); refine wpList_load_row rfl 34 _ rfl g1 rfl 34 _ (0, 0) _ D1.out Try.underlying34 rfl (by rw [arrB_size, HL2.out]; exact peristyleref01_Of.size) ?_) | (go_at_call 30; refine (peristyleref01_Word.calls _ HL2.out _).mono ?_; rintro e w9 ⟨rfl, HB9⟩))
      go_ret
      exact ⟨rfl, below_step D3.out HB9⟩
theorem peristyleref01_Zag.calls (a0 : Int) (r : Int) (w : World) (h : peristyleref01_Zag.f a0 = some r) :
    Calls Try.prog 21 #[.int .i64 a0] w fun e w' => e = .returned (.int .i64 r) ∧ Below w.heap.size w w' := by
  obtain rfl := Option.some.inj h
  exact peristyleref01_Zag.calls0 a0 w

/-! ### peristylelaw01_BitsZigs: function 4 -/
def peristylelaw01_BitsZigs.f (k : Nat) (a0 : Int) : Option (Bool) := (bits_Zig.f a0).bind fun t125 => ((peristyleref01_Zig.f a0).bind fun t126 => (if t125 = t126 then ((bits_Zag.f a0).bind fun t127 => ((peristyleref01_Zag.f a0).bind fun t128 => (if t127 = t128 then ((bits_Zig.f a0).bind fun t129 => ((bits_Zag.f t129).bind fun t130 => (if t130 = a0 then ((bits_Zag.f a0).bind fun t131 => ((bits_Zig.f t131).bind fun t132 => (if t132 = a0 then ((peristylelaw01_awake.f k).bind fun t133 => (some t133)) else (some false)))) else (some false)))) else (some false)))) else (some false)))
theorem peristylelaw01_BitsZigs.mono : ∀ a0 k, LeO (peristylelaw01_BitsZigs.f k a0) (peristylelaw01_BitsZigs.f (k + 1) a0) := by
  intro a0 k
  unfold peristylelaw01_BitsZigs.f
  repeat' first
      | (with_reducible exact peristylelaw01_awake.mono _)
      | (with_reducible exact LeO.refl _)
      | (with_reducible exact LeO.none _)
      | (with_reducible refine LeO.ite ?_ ?_)
      | (with_reducible refine LeO.bind ?_ (fun _ => ?_))
      | exact peristylelaw01_awake.mono _
      | exact LeO.none _
      | refine LeO.ite ?_ ?_
      | refine LeO.bind ?_ (fun _ => ?_)
set_option maxHeartbeats 8000000 in
set_option maxRecDepth 100000 in
theorem peristylelaw01_BitsZigs.calls (k : Nat) (a0 : Int) (r : Bool) (w : World) (h : peristylelaw01_BitsZigs.f k a0 = some r) :
    Calls Try.prog 4 #[.int .i64 a0] w fun e w' => e = .returned (.bool r) ∧ Below w.heap.size w w' := by
  have HB := Aside0.mk (Below.refl w.heap.size w)
  have H : ((bits_Zig.f a0).bind fun t125 => ((peristyleref01_Zig.f a0).bind fun t126 => (if t125 = t126 then ((bits_Zag.f a0).bind fun t127 => ((peristyleref01_Zag.f a0).bind fun t128 => (if t127 = t128 then ((bits_Zig.f a0).bind fun t129 => ((bits_Zag.f t129).bind fun t130 => (if t130 = a0 then ((bits_Zag.f a0).bind fun t131 => ((bits_Zig.f t131).bind fun t132 => (if t132 = a0 then ((peristylelaw01_awake.f k).bind fun t133 => (some t133)) else (some false)))) else (some false)))) else (some false)))) else (some false)))) = some r := h
  clear h
  replace H := Option.bind_eq_some_iff.mp H
  obtain ⟨t125, A20, H⟩ := H
  replace H : ((peristyleref01_Zig.f a0).bind fun t126 => (if t125 = t126 then ((bits_Zag.f a0).bind fun t127 => ((peristyleref01_Zag.f a0).bind fun t128 => (if t127 = t128 then ((bits_Zig.f a0).bind fun t129 => ((bits_Zag.f t129).bind fun t130 => (if t130 = a0 then ((bits_Zag.f a0).bind fun t131 => ((bits_Zig.f t131).bind fun t132 => (if t132 = a0 then ((peristylelaw01_awake.f k).bind fun t133 => (some t133)) else (some false)))) else (some false)))) else (some false)))) else (some false))) = some r := H
  have A2 := Aside0.mk A20
  clear A20
  replace H := Option.bind_eq_some_iff.mp H
  obtain ⟨t126, A30, H⟩ := H
  replace H : (if t125 = t126 then ((bits_Zag.f a0).bind fun t127 => ((peristyleref01_Zag.f a0).bind fun t128 => (if t127 = t128 then ((bits_Zig.f a0).bind fun t129 => ((bits_Zag.f t129).bind fun t130 => (if t130 = a0 then ((bits_Zag.f a0).bind fun t131 => ((bits_Zig.f t131).bind fun t132 => (if t132 = a0 then ((peristylelaw01_awake.f k).bind fun t133 => (some t133)) else (some false)))) else (some false)))) else (some false)))) else (some false)) = some r := H
  have A3 := Aside0.mk A30
  clear A30
  by_cases c4 : t125 = t126
  · rw [if_pos c4] at H
    have c4b0 : (t125 == t126) = true := beq_iff_eq.mpr c4
    have c4b1 : (t125 != t126) = false := bne_eq_false_iff_eq.mpr c4
    clear c4
    replace H := Option.bind_eq_some_iff.mp H
    obtain ⟨t127, A50, H⟩ := H
    replace H : ((peristyleref01_Zag.f a0).bind fun t128 => (if t127 = t128 then ((bits_Zig.f a0).bind fun t129 => ((bits_Zag.f t129).bind fun t130 => (if t130 = a0 then ((bits_Zag.f a0).bind fun t131 => ((bits_Zig.f t131).bind fun t132 => (if t132 = a0 then ((peristylelaw01_awake.f k).bind fun t133 => (some t133)) else (some false)))) else (some false)))) else (some false))) = some r := H
    have A5 := Aside0.mk A50
    clear A50
    replace H := Option.bind_eq_some_iff.mp H
    obtain ⟨t128, A60, H⟩ := H
    replace H : (if t127 = t128 then ((bits_Zig.f a0).bind fun t129 => ((bits_Zag.f t129).bind fun t130 => (if t130 = a0 then ((bits_Zag.f a0).bind fun t131 => ((bits_Zig.f t131).bind fun t132 => (if t132 = a0 then ((peristylelaw01_awake.f k).bind fun t133 => (some t133)) else (some false)))) else (some false)))) else (some false)) = some r := H
    have A6 := Aside0.mk A60
    clear A60
    by_cases c7 : t127 = t128
    · rw [if_pos c7] at H
      have c7b0 : (t127 == t128) = true := beq_iff_eq.mpr c7
      have c7b1 : (t127 != t128) = false := bne_eq_false_iff_eq.mpr c7
      clear c7
      replace H := Option.bind_eq_some_iff.mp H
      obtain ⟨t129, A80, H⟩ := H
      replace H : ((bits_Zag.f t129).bind fun t130 => (if t130 = a0 then ((bits_Zag.f a0).bind fun t131 => ((bits_Zig.f t131).bind fun t132 => (if t132 = a0 then ((peristylelaw01_awake.f k).bind fun t133 => (some t133)) else (some false)))) else (some false))) = some r := H
      have A8 := Aside0.mk A80
      clear A80
      replace H := Option.bind_eq_some_iff.mp H
      obtain ⟨t130, A90, H⟩ := H
      replace H : (if t130 = a0 then ((bits_Zag.f a0).bind fun t131 => ((bits_Zig.f t131).bind fun t132 => (if t132 = a0 then ((peristylelaw01_awake.f k).bind fun t133 => (some t133)) else (some false)))) else (some false)) = some r := H
      have A9 := Aside0.mk A90
      clear A90
      by_cases c10 : t130 = a0
      · rw [if_pos c10] at H
        have c10b0 : (t130 == a0) = true := beq_iff_eq.mpr c10
        have c10b1 : (t130 != a0) = false := bne_eq_false_iff_eq.mpr c10
        clear c10
        replace H := Option.bind_eq_some_iff.mp H
        obtain ⟨t131, A110, H⟩ := H
        replace H : ((bits_Zig.f t131).bind fun t132 => (if t132 = a0 then ((peristylelaw01_awake.f k).bind fun t133 => (some t133)) else (some false))) = some r := H
        have A11 := Aside0.mk A110
        clear A110
        replace H := Option.bind_eq_some_iff.mp H
        obtain ⟨t132, A120, H⟩ := H
        replace H : (if t132 = a0 then ((peristylelaw01_awake.f k).bind fun t133 => (some t133)) else (some false)) = some r := H
        have A12 := Aside0.mk A120
        clear A120
        by_cases c13 : t132 = a0
        · rw [if_pos c13] at H
          have c13b0 : (t132 == a0) = true := beq_iff_eq.mpr c13
          have c13b1 : (t132 != a0) = false := bne_eq_false_iff_eq.mpr c13
          clear c13
          replace H := Option.bind_eq_some_iff.mp H
          obtain ⟨t133, A140, H⟩ := H
          replace H : (some t133) = some r := H
          have A14 := Aside0.mk A140
          clear A140
          obtain rfl := Option.some.inj H
          go_enter Try.func4, Try.ntmps4
          go_wp2_with (first | ((with_reducible refine gate_callee (f := 18) rfl ?_); refine goesL_ (some 4) rfl rfl Try.func18 (by kernel_rfl) rfl #[.int .i64 a0] rfl (by (try simp only [List.map_toArray, List.map_cons, List.map_nil]); first | done | rfl | (simp only [List.length_drop, List.length_take]; rfl)) ?_; (with_reducible refine (bits_Zig.calls a0 t125 _ A2.out).mono ?_); rintro e w' ⟨rfl, ⟨nd, rfl⟩⟩; refine ⟨_, rfl, ?_⟩) | ((with_reducible refine gate_callee (f := 19) rfl ?_); refine goesL_ (some 6) rfl rfl Try.func19 (by kernel_rfl) rfl #[.int .i64 a0] rfl (by (try simp only [List.map_toArray, List.map_cons, List.map_nil]); first | done | rfl | (simp only [List.length_drop, List.length_take]; rfl)) ?_; (with_reducible refine (peristyleref01_Zig.calls a0 t126 _ A3.out).mono ?_); rintro e w15 ⟨rfl, hb⟩; refine ⟨_, rfl, ?_⟩; have n0_ := Aside0.mk (below_step (by repeat (first | (with_reducible first | exact HB.out | apply below_alloc | apply pw_below_drewN | apply below_drew1) | exact HB.out)) hb); clear HB; have HB := n0_; clear n0_; (try clear hb); (try clear hb2); (try clear hk); (try clear hi)) | (go_at_call 20; (with_reducible refine (bits_Zag.calls a0 t127 _ A5.out).mono ?_); rintro e w' ⟨rfl, ⟨nd, rfl⟩⟩; (try clear A5)) | (go_at_call 21; (with_reducible refine (peristyleref01_Zag.calls a0 t128 _ A6.out).mono ?_); rintro e w16 ⟨rfl, hb⟩; have n0_ := Aside0.mk (below_step (by repeat (first | (with_reducible first | exact HB.out | apply below_alloc | apply pw_below_drewN | apply below_drew1) | exact HB.out)) hb); clear HB; have HB := n0_; clear n0_; (try clear hb); (try clear hb2); (try clear hk); (try clear hi); (try clear A6)) | (go_at_call 18; (with_reducible refine (bits_Zig.calls a0 t129 _ A8.out).mono ?_); rintro e w' ⟨rfl, ⟨nd, rfl⟩⟩; (try clear A8)) | (go_at_call 20; (with_reducible refine (bits_Zag.calls t129 t130 _ A9.out).mono ?_); rintro e w' ⟨rfl, ⟨nd, rfl⟩⟩; (try clear A9)) | (go_at_call 20; (with_reducible refine (bits_Zag.calls a0 t131 _ A11.out).mono ?_); rintro e w' ⟨rfl, ⟨nd, rfl⟩⟩; (try clear A11)) | (go_at_call 18; (with_reducible refine (bits_Zig.calls t131 t132 _ A12.out).mono ?_); rintro e w' ⟨rfl, ⟨nd, rfl⟩⟩; (try clear A12)) | (go_at_call 17; (with_reducible refine (peristylelaw01_awake.calls k  t133 _ A14.out).mono ?_); rintro e w17 ⟨rfl, hb⟩; have n0_ := Aside0.mk (below_step (by repeat (first | (with_reducible first | exact HB.out | apply below_alloc | apply pw_below_drewN | apply below_drew1) | exact HB.out)) hb); clear HB; have HB := n0_; clear n0_; (try clear hb); (try clear hb2); (try clear hk); (try clear hi); (try clear A14)))
          go_ret
          exact ⟨by first | rfl | (simp [errW_none, errW_some] <;> rfl) | (simp [*, errW_none, errW_some] <;> rfl), by repeat (first | (with_reducible first | exact HB.out | apply below_alloc | apply pw_below_drewN | apply below_drew1) | exact HB.out)⟩
        · rw [if_neg c13] at H
          have c13b0 : (t132 == a0) = false := beq_eq_false_iff_ne.mpr c13
          have c13b1 : (t132 != a0) = true := bne_iff_ne.mpr c13
          obtain rfl := Option.some.inj H
          go_enter Try.func4, Try.ntmps4
          go_wp2_with (first | ((with_reducible refine gate_callee (f := 18) rfl ?_); refine goesL_ (some 4) rfl rfl Try.func18 (by kernel_rfl) rfl #[.int .i64 a0] rfl (by (try simp only [List.map_toArray, List.map_cons, List.map_nil]); first | done | rfl | (simp only [List.length_drop, List.length_take]; rfl)) ?_; (with_reducible refine (bits_Zig.calls a0 t125 _ A2.out).mono ?_); rintro e w' ⟨rfl, ⟨nd, rfl⟩⟩; refine ⟨_, rfl, ?_⟩) | ((with_reducible refine gate_callee (f := 19) rfl ?_); refine goesL_ (some 6) rfl rfl Try.func19 (by kernel_rfl) rfl #[.int .i64 a0] rfl (by (try simp only [List.map_toArray, List.map_cons, List.map_nil]); first | done | rfl | (simp only [List.length_drop, List.length_take]; rfl)) ?_; (with_reducible refine (peristyleref01_Zig.calls a0 t126 _ A3.out).mono ?_); rintro e w18 ⟨rfl, hb⟩; refine ⟨_, rfl, ?_⟩; have n0_ := Aside0.mk (below_step (by repeat (first | (with_reducible first | exact HB.out | apply below_alloc | apply pw_below_drewN | apply below_drew1) | exact HB.out)) hb); clear HB; have HB := n0_; clear n0_; (try clear hb); (try clear hb2); (try clear hk); (try clear hi)) | (go_at_call 20; (with_reducible refine (bits_Zag.calls a0 t127 _ A5.out).mono ?_); rintro e w' ⟨rfl, ⟨nd, rfl⟩⟩; (try clear A5)) | (go_at_call 21; (with_reducible refine (peristyleref01_Zag.calls a0 t128 _ A6.out).mono ?_); rintro e w19 ⟨rfl, hb⟩; have n0_ := Aside0.mk (below_step (by repeat (first | (with_reducible first | exact HB.out | apply below_alloc | apply pw_below_drewN | apply below_drew1) | exact HB.out)) hb); clear HB; have HB := n0_; clear n0_; (try clear hb); (try clear hb2); (try clear hk); (try clear hi); (try clear A6)) | (go_at_call 18; (with_reducible refine (bits_Zig.calls a0 t129 _ A8.out).mono ?_); rintro e w' ⟨rfl, ⟨nd, rfl⟩⟩; (try clear A8)) | (go_at_call 20; (with_reducible refine (bits_Zag.calls t129 t130 _ A9.out).mono ?_); rintro e w' ⟨rfl, ⟨nd, rfl⟩⟩; (try clear A9)) | (go_at_call 20; (with_reducible refine (bits_Zag.calls a0 t131 _ A11.out).mono ?_); rintro e w' ⟨rfl, ⟨nd, rfl⟩⟩; (try clear A11)) | (go_at_call 18; (with_reducible refine (bits_Zig.calls t131 t132 _ A12.out).mono ?_); rintro e w' ⟨rfl, ⟨nd, rfl⟩⟩; (try clear A12)))
          go_ret
          exact ⟨by first | rfl | (simp [errW_none, errW_some] <;> rfl) | (simp [*, errW_none, errW_some] <;> rfl), by repeat (first | (with_reducible first | exact HB.out | apply below_alloc | apply pw_below_drewN | apply below_drew1) | exact HB.out)⟩
      · rw [if_neg c10] at H
        have c10b0 : (t130 == a0) = false := beq_eq_false_iff_ne.mpr c10
        have c10b1 : (t130 != a0) = true := bne_iff_ne.mpr c10
        obtain rfl := Option.some.inj H
        go_enter Try.func4, Try.ntmps4
        go_wp2_with (first | ((with_reducible refine gate_callee (f := 18) rfl ?_); refine goesL_ (some 4) rfl rfl Try.func18 (by kernel_rfl) rfl #[.int .i64 a0] rfl (by (try simp only [List.map_toArray, List.map_cons, List.map_nil]); first | done | rfl | (simp only [List.length_drop, List.length_take]; rfl)) ?_; (with_reducible refine (bits_Zig.calls a0 t125 _ A2.out).mono ?_); rintro e w' ⟨rfl, ⟨nd, rfl⟩⟩; refine ⟨_, rfl, ?_⟩) | ((with_reducible refine gate_callee (f := 19) rfl ?_); refine goesL_ (some 6) rfl rfl Try.func19 (by kernel_rfl) rfl #[.int .i64 a0] rfl (by (try simp only [List.map_toArray, List.map_cons, List.map_nil]); first | done | rfl | (simp only [List.length_drop, List.length_take]; rfl)) ?_; (with_reducible refine (peristyleref01_Zig.calls a0 t126 _ A3.out).mono ?_); rintro e w20 ⟨rfl, hb⟩; refine ⟨_, rfl, ?_⟩; have n0_ := Aside0.mk (below_step (by repeat (first | (with_reducible first | exact HB.out | apply below_alloc | apply pw_below_drewN | apply below_drew1) | exact HB.out)) hb); clear HB; have HB := n0_; clear n0_; (try clear hb); (try clear hb2); (try clear hk); (try clear hi)) | (go_at_call 20; (with_reducible refine (bits_Zag.calls a0 t127 _ A5.out).mono ?_); rintro e w' ⟨rfl, ⟨nd, rfl⟩⟩; (try clear A5)) | (go_at_call 21; (with_reducible refine (peristyleref01_Zag.calls a0 t128 _ A6.out).mono ?_); rintro e w21 ⟨rfl, hb⟩; have n0_ := Aside0.mk (below_step (by repeat (first | (with_reducible first | exact HB.out | apply below_alloc | apply pw_below_drewN | apply below_drew1) | exact HB.out)) hb); clear HB; have HB := n0_; clear n0_; (try clear hb); (try clear hb2); (try clear hk); (try clear hi); (try clear A6)) | (go_at_call 18; (with_reducible refine (bits_Zig.calls a0 t129 _ A8.out).mono ?_); rintro e w' ⟨rfl, ⟨nd, rfl⟩⟩; (try clear A8)) | (go_at_call 20; (with_reducible refine (bits_Zag.calls t129 t130 _ A9.out).mono ?_); rintro e w' ⟨rfl, ⟨nd, rfl⟩⟩; (try clear A9)))
        go_ret
        exact ⟨by first | rfl | (simp [errW_none, errW_some] <;> rfl) | (simp [*, errW_none, errW_some] <;> rfl), by repeat (first | (with_reducible first | exact HB.out | apply below_alloc | apply pw_below_drewN | apply below_drew1) | exact HB.out)⟩
    · rw [if_neg c7] at H
      have c7b0 : (t127 == t128) = false := beq_eq_false_iff_ne.mpr c7
      have c7b1 : (t127 != t128) = true := bne_iff_ne.mpr c7
      obtain rfl := Option.some.inj H
      go_enter Try.func4, Try.ntmps4
      go_wp2_with (first | ((with_reducible refine gate_callee (f := 18) rfl ?_); refine goesL_ (some 4) rfl rfl Try.func18 (by kernel_rfl) rfl #[.int .i64 a0] rfl (by (try simp only [List.map_toArray, List.map_cons, List.map_nil]); first | done | rfl | (simp only [List.length_drop, List.length_take]; rfl)) ?_; (with_reducible refine (bits_Zig.calls a0 t125 _ A2.out).mono ?_); rintro e w' ⟨rfl, ⟨nd, rfl⟩⟩; refine ⟨_, rfl, ?_⟩) | ((with_reducible refine gate_callee (f := 19) rfl ?_); refine goesL_ (some 6) rfl rfl Try.func19 (by kernel_rfl) rfl #[.int .i64 a0] rfl (by (try simp only [List.map_toArray, List.map_cons, List.map_nil]); first | done | rfl | (simp only [List.length_drop, List.length_take]; rfl)) ?_; (with_reducible refine (peristyleref01_Zig.calls a0 t126 _ A3.out).mono ?_); rintro e w22 ⟨rfl, hb⟩; refine ⟨_, rfl, ?_⟩; have n0_ := Aside0.mk (below_step (by repeat (first | (with_reducible first | exact HB.out | apply below_alloc | apply pw_below_drewN | apply below_drew1) | exact HB.out)) hb); clear HB; have HB := n0_; clear n0_; (try clear hb); (try clear hb2); (try clear hk); (try clear hi)) | (go_at_call 20; (with_reducible refine (bits_Zag.calls a0 t127 _ A5.out).mono ?_); rintro e w' ⟨rfl, ⟨nd, rfl⟩⟩; (try clear A5)) | (go_at_call 21; (with_reducible refine (peristyleref01_Zag.calls a0 t128 _ A6.out).mono ?_); rintro e w23 ⟨rfl, hb⟩; have n0_ := Aside0.mk (below_step (by repeat (first | (with_reducible first | exact HB.out | apply below_alloc | apply pw_below_drewN | apply below_drew1) | exact HB.out)) hb); clear HB; have HB := n0_; clear n0_; (try clear hb); (try clear hb2); (try clear hk); (try clear hi); (try clear A6)))
      go_ret
      exact ⟨by first | rfl | (simp [errW_none, errW_some] <;> rfl) | (simp [*, errW_none, errW_some] <;> rfl), by repeat (first | (with_reducible first | exact HB.out | apply below_alloc | apply pw_below_drewN | apply below_drew1) | exact HB.out)⟩
  · rw [if_neg c4] at H
    have c4b0 : (t125 == t126) = false := beq_eq_false_iff_ne.mpr c4
    have c4b1 : (t125 != t126) = true := bne_iff_ne.mpr c4
    obtain rfl := Option.some.inj H
    go_enter Try.func4, Try.ntmps4
    go_wp2_with (first | ((with_reducible refine gate_callee (f := 18) rfl ?_); refine goesL_ (some 4) rfl rfl Try.func18 (by kernel_rfl) rfl #[.int .i64 a0] rfl (by (try simp only [List.map_toArray, List.map_cons, List.map_nil]); first | done | rfl | (simp only [List.length_drop, List.length_take]; rfl)) ?_; (with_reducible refine (bits_Zig.calls a0 t125 _ A2.out).mono ?_); rintro e w' ⟨rfl, ⟨nd, rfl⟩⟩; refine ⟨_, rfl, ?_⟩) | ((with_reducible refine gate_callee (f := 19) rfl ?_); refine goesL_ (some 6) rfl rfl Try.func19 (by kernel_rfl) rfl #[.int .i64 a0] rfl (by (try simp only [List.map_toArray, List.map_cons, List.map_nil]); first | done | rfl | (simp only [List.length_drop, List.length_take]; rfl)) ?_; (with_reducible refine (peristyleref01_Zig.calls a0 t126 _ A3.out).mono ?_); rintro e w24 ⟨rfl, hb⟩; refine ⟨_, rfl, ?_⟩; have n0_ := Aside0.mk (below_step (by repeat (first | (with_reducible first | exact HB.out | apply below_alloc | apply pw_below_drewN | apply below_drew1) | exact HB.out)) hb); clear HB; have HB := n0_; clear n0_; (try clear hb); (try clear hb2); (try clear hk); (try clear hi)))
    go_ret
    exact ⟨by first | rfl | (simp [errW_none, errW_some] <;> rfl) | (simp [*, errW_none, errW_some] <;> rfl), by repeat (first | (with_reducible first | exact HB.out | apply below_alloc | apply pw_below_drewN | apply below_drew1) | exact HB.out)⟩

/-- THE ONE PURE STATEMENT of peristylelaw01_BitsZigs: yours. -/
def peristylelaw01_BitsZigs.Pure : Prop := ∀ (a0 : Int), (Lit.int .i64 a0).wf = true → ∃ k, peristylelaw01_BitsZigs.f k a0 = some true
theorem peristylelaw01_BitsZigs.walk (P : peristylelaw01_BitsZigs.Pure) (a0 : Int) (w : World) (w0 : (Lit.int .i64 a0).wf = true) :
    Calls Try.prog 4 #[.int .i64 a0] w fun e w' => e = .returned (.bool true) ∧ Below w.heap.size w w' := by
  obtain ⟨k, h⟩ := P a0 w0
  refine (peristylelaw01_BitsZigs.calls k a0 true w h).mono ?_
  rintro e w' ⟨rfl, hd⟩
  exact ⟨rfl, hd⟩

/-! ### peristyleref01_Field: function 23 (a contract of the session's own) -/
def peristyleref01_Field.f (a0 a1 a2 : Int) : Option (Int) := some (wordTo (fillTo (fun k => bAt (bitsOf a0) (a1.toNat + k)) zB (fieldN a1 a2)) 64)
set_option maxHeartbeats 1600000 in
theorem peristyleref01_Field.calls0 (a0 a1 a2 : Int) (w : World) :
    Calls Try.prog 23 #[.int .i64 a0, .int .i64 a1, .int .i64 a2] w fun e w' => e = .returned (.int .i64 (wordTo (fillTo (fun k => bAt (bitsOf a0) (a1.toNat + k)) zB (fieldN a1 a2)) 64)) ∧ Below w.heap.size w w' := by
  go_enter Try.func23, Try.ntmps23
  go_wp2_with (first | (go_at_call 28; refine (peristyleref01_Of.calls a0 _).mono ?_; rintro e w1 ⟨rfl, HB1⟩) | ((with_reducible refine gate_dst (N := 7) rfl ?_); refine arr_alloc (w0 := w) w.heap.size rfl 34 rfl _ 64 peristyleref01_Of.zero HB1 HB1.size ?_; intro g0 w2 hg0 hb0 hs0 HB2 hbs2 hgr2) | ((with_reducible refine gate_store (t := 34) (p := 7) rfl ?_); refine arr_store (w0 := w) w.heap.size rfl 34 _ _ rfl g0 _ _ rfl rfl hg0 (by rw [arrB_size, bitsOf_length]; exact peristyleref01_Of.size) (by rw [arrB_size, arrB_size, bitsOf_length]; rfl) (arrB_one _) HB2 hb0 ?_; intro w3 hg3 HB3 hbs3 hgr3) | ((with_reducible refine gate_dst (N := 12) rfl ?_); refine arr_build rfl 34 rfl _ 64 4 64 peristyleref01_Of.zero Try.underlying34 peristyleref01_Of.elem ?_) | ((with_reducible refine gate_dst (N := 8) rfl ?_); refine arr_alloc (w0 := w) w.heap.size rfl 34 rfl _ 64 peristyleref01_Of.zero HB3 hbs3 ?_; intro g1 w4 hg1 hb1 hs1 HB4 hbs4 hgr4) | ((with_reducible refine gate_store (t := 34) (p := 8) rfl ?_); refine arr_store (w0 := w) w.heap.size rfl 34 _ _ rfl g1 _ _ rfl rfl hg1 peristyleref01_Of.size rfl (arrB_one _) HB4 hb1 ?_; intro w5 hg5 HB5 hbs5 hgr5))
  have hne : g0 ≠ g1 := by have := blk_lt hg3; omega
  have hg05 := blk_grown (blk_grown hg3 hgr4 (by simp)) hgr5 (by simpa using hne)
  have A1 := Aside0.mk hg05
  have A2 := Aside0.mk hg5
  have A3 := Aside0.mk HB5
  have A4 := Aside0.mk hne
  clear hg0 hs0 HB1 HB2 hbs2 hgr2 hg3 HB3 hbs3 hgr3 hg1 hs1 HB4 hbs4 hgr4 hg5 HB5 hbs5 hgr5 hne hg05
  go_loopw [9] (fun v9 wr => ∃ k : Nat, Aside0 (k ≤ fieldN a1 a2) ∧ v9 = .int .i64 k ∧ Aside0 (wr.heap[g1]? = some (.cells (arrB (fillTo (fun k => bAt (bitsOf a0) (a1.toNat + k)) zB k)) 34 (0, 0))) ∧ Aside0 (wr.heap[g0]? = some (.cells (arrB (bitsOf a0)) 34 (0, 0))) ∧ Aside0 (Below w.heap.size w wr)) (fun v9 _ => 64 - (intOf v9).toNat)
  case atStart => exact ⟨0, ⟨Nat.zero_le _⟩, rfl, ⟨by rw [fillTo_zero]; exact A2.out⟩, A1, A3⟩
  case round =>
    clear A1 A2 A3
    obtain ⟨k, HK, rfl, C1, C2, C3⟩ := hrel
    have HL : Aside0 ((fillTo (fun k => bAt (bitsOf a0) (a1.toNat + k)) zB k).length = 64) := ⟨fillTo_length _ zB k (Nat.le_trans HK.out (fieldN_le _ _))⟩
    have hk0 : (0 : Int) ≤ (k : Int) := by omega
    by_cases hlt : k < fieldN a1 a2
    · obtain ⟨h0, h1, h2, h3, h4⟩ := fieldN_in hlt
      obtain ⟨p, rfl⟩ := Int.eq_ofNat_of_zero_le h0
      have HLT := Aside0.mk hlt
      clear hlt
      have co : wr.cell? ⟨g1, k, none⟩ = some (.bool (bAt (fillTo (fun k => bAt (bitsOf a0) ((p : Int).toNat + k)) zB k) k)) := arrB_cell C1.out k (by rw [HL.out]; omega)
      have fo : wr.frozen? ⟨g1, k, none⟩ = false := blk_frozen C1.out k
      have cb : wr.cell? ⟨g0, p + k, none⟩ = some (.bool (bAt (bitsOf a0) (p + k))) := arrB_cell C2.out (p + k) (by rw [bitsOf_length]; omega)
      generalize bAt (fillTo (fun k => bAt (bitsOf a0) ((p : Int).toNat + k)) zB k) k = old at co
      go_wp2
      go_roundw
      case rel =>
        have hset := arrB_put C1.out k (bAt (bitsOf a0) (p + k))
        rw [show bAt (bitsOf a0) (p + k) = (fun k => bAt (bitsOf a0) ((p : Int).toNat + k)) k from rfl, fillTo_set _ zB k (by rw [zB_length]; omega)] at hset
        exact ⟨k + 1, ⟨HLT.out⟩, by go_num, ⟨hset⟩, ⟨blk_far C2.out (fun e => A4.out e) _⟩, ⟨C3.out.setCell hb1 _⟩⟩
      case measure => simp [intOf]; omega
    · have hkn : k = fieldN a1 a2 := by have := HK.out; omega
      have HX := Aside0.mk (fieldN_out hkn)
      have HF : Aside0 (wordTo (fillTo (fun k => bAt (bitsOf a0) (a1.toNat + k)) zB k) 64 = wordTo (fillTo (fun k => bAt (bitsOf a0) (a1.toNat + k)) zB (fieldN a1 a2)) 64) := ⟨by rw [← hkn]⟩
      clear hlt HK hkn
      rcases HX.out with hx | hx | hx | ⟨hx0, hx1, hx⟩
      all_goals
        clear HX
        by_cases h64 : (k : Int) < 64
      all_goals (try by_cases hw : (k : Int) < a2)
      all_goals (try by_cases hp : 0 ≤ a1)
      all_goals first | (exfalso; omega; done) | skip
      all_goals
        go_wp2_with (first | ((with_reducible refine gate_dst (N := 43) rfl ?_); refine wpList_load_row rfl 34 _ rfl g1 rfl 34 _ (0, 0) _ C1.out Try.underlying34 rfl (by rw [arrB_size, HL.out]; exact peristyleref01_Of.size) ?_) | (go_at_call 30; refine (peristyleref01_Word.calls _ HL.out _).mono ?_; rintro e w9 ⟨rfl, HB9⟩))
        go_ret
        exact ⟨by rw [← HF.out]; rfl, below_step C3.out HB9⟩
theorem peristyleref01_Field.calls (a0 a1 a2 : Int) (r : Int) (w : World) (h : peristyleref01_Field.f a0 a1 a2 = some r) :
    Calls Try.prog 23 #[.int .i64 a0, .int .i64 a1, .int .i64 a2] w fun e w' => e = .returned (.int .i64 r) ∧ Below w.heap.size w w' := by
  obtain rfl := Option.some.inj h
  exact peristyleref01_Field.calls0 a0 a1 a2 w

end Go.Proofs.Ytconnhmlpolmnaa.Print
