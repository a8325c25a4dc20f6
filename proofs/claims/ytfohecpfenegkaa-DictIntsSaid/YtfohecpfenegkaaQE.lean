-- Functions and laws: texts of the session's own and of the kit's print program, joined; what nothing names is left out.
import Derived.Test.YtfohecpfenegkaaQA
import Derived.Test.YtfohecpfenegkaaQC
import Derived.Test.YtfohecpfenegkaaQD
section
namespace Go.Proofs.Ytfohecpfenegkaa.Print
open Go.RowKit Go.Proofs.YtfohecpfenegkaaW.PrintWords Go.Proofs.YtfohecpfenegkaaW.PrintLast Go.Proofs.YtfohecpfenegkaaW.PrintMore
attribute [local go_sem] max2_int min2_int max_two min_two max_three min_three max_four min_four   -- for this text's walks alone
set_option linter.unusedVariables false
set_option linter.unusedSimpArgs false
/-! ### peristylelaw11_DictInts: function 4 -/
def peristylelaw11_DictInts.f (k : Nat) (l0 : List Int) : Option (Bool) := if (l0.length : Int) > 100 then ((peristylelaw11_awake.f k).bind fun t383 => (some t383)) else ((dict_Of_int.f k l0).bind fun bt384 => ((peristyleref11_Ints.f k l0).bind fun bt390 => ((dict_PutInts.f k l0).bind fun bt396 => ((peristyleref11_PutInts.f k l0).bind fun bt398 => ((dict_TakeInts.f k bt396.1 (l0.length : Int)).bind fun bt400 => ((peristyleref01_Same.f k bt384.1 bt390.1).bind fun t404 => (if t404 = true then ((peristyleref01_Same.f k bt384.2 bt390.2).bind fun t405 => (if t405 = true then (if bt396.1.toList = bt398.1.toList then (if bt396.2 = bt398.2 then ((peristyleref01_Same.f k bt400.1 l0).bind fun t406 => (if t406 = true then (if bt400.2 = 0 then ((peristylelaw11_awake.f k).bind fun t407 => (some t407)) else (none)) else (none))) else (none)) else (none)) else (none))) else (none))))))))
set_option maxHeartbeats 8000000 in
set_option maxRecDepth 100000 in
theorem peristylelaw11_DictInts.calls (k : Nat) (A0 : Option Addr) (c0 : Nat) (l0 : List Int) (r : Bool) (w : World) (hr0 : Kd.C (Kd.int .i64) w A0 l0.length l0) (hc0 : l0.length ≤ c0) (h : peristylelaw11_DictInts.f k l0 = some r) :
  Calls Try.prog 4 #[.slice A0 l0.length c0] w fun e w' => e = .returned (.bool r) ∧ Below w.heap.size w w' := by
 have HR0 := Aside0.mk hr0
 have HC0 := Aside0.mk hc0
 clear hr0 hc0
 have HB := Aside0.mk (Below.refl w.heap.size w)
 have H : (if (l0.length : Int) > 100 then ((peristylelaw11_awake.f k).bind fun t383 => (some t383)) else ((dict_Of_int.f k l0).bind fun bt384 => ((peristyleref11_Ints.f k l0).bind fun bt390 => ((dict_PutInts.f k l0).bind fun bt396 => ((peristyleref11_PutInts.f k l0).bind fun bt398 => ((dict_TakeInts.f k bt396.1 (l0.length : Int)).bind fun bt400 => ((peristyleref01_Same.f k bt384.1 bt390.1).bind fun t404 => (if t404 = true then ((peristyleref01_Same.f k bt384.2 bt390.2).bind fun t405 => (if t405 = true then (if bt396.1.toList = bt398.1.toList then (if bt396.2 = bt398.2 then ((peristyleref01_Same.f k bt400.1 l0).bind fun t406 => (if t406 = true then (if bt400.2 = 0 then ((peristylelaw11_awake.f k).bind fun t407 => (some t407)) else (none)) else (none))) else (none)) else (none)) else (none))) else (none))))))))) = some r := h
 clear h
 by_cases c2 : (l0.length : Int) > 100
 ·rw [if_pos c2] at H
  have c2b0 : decide (100 < (l0.length : Int)) = true := decide_eq_true c2
  have c2b1 : decide (100 < l0.length) = true := decide_eq_true (by omega)
  clear c2
  replace H := Option.bind_eq_some_iff.mp H
  obtain ⟨t383, A30, H⟩ := H
  replace H : (some t383) = some r := H
  have A3 := Aside0.mk A30
  clear A30
  obtain rfl := Option.some.inj H
  go_enter Try.func4, Try.ntmps4
  go_wp2_with (first | ((with_reducible refine gate_callee (f := 7) rfl ?_); refine goesL_ (some 16) rfl rfl Try.func7 (by kernel_rfl) rfl #[] rfl (by (try simp only [List.map_toArray, List.map_cons, List.map_nil]); first | done | rfl) ?_; (with_reducible refine (peristylelaw11_awake.calls k  t383 _ A3.out).mono ?_); rintro e w4 ⟨rfl, hb⟩; refine ⟨_, rfl, ?_⟩; replace HB := bsa HB hb; (try clear hb)))
  go_ret
  exact ⟨er, bh HB.out⟩
 ·rw [if_neg c2] at H
  have c2b0 : decide (100 < (l0.length : Int)) = false := decide_eq_false c2
  have c2b1 : decide (100 < l0.length) = false := decide_eq_false (by omega)
  clear c2
  replace H := Option.bind_eq_some_iff.mp H
  obtain ⟨⟨t384, t385⟩, A50, H⟩ := H
  replace H : ((peristyleref11_Ints.f k l0).bind fun bt390 => ((dict_PutInts.f k l0).bind fun bt396 => ((peristyleref11_PutInts.f k l0).bind fun bt398 => ((dict_TakeInts.f k bt396.1 (l0.length : Int)).bind fun bt400 => ((peristyleref01_Same.f k t384 bt390.1).bind fun t404 => (if t404 = true then ((peristyleref01_Same.f k t385 bt390.2).bind fun t405 => (if t405 = true then (if bt396.1.toList = bt398.1.toList then (if bt396.2 = bt398.2 then ((peristyleref01_Same.f k bt400.1 l0).bind fun t406 => (if t406 = true then (if bt400.2 = 0 then ((peristylelaw11_awake.f k).bind fun t407 => (some t407)) else (none)) else (none))) else (none)) else (none)) else (none))) else (none))))))) = some r := H
  have A5 := Aside0.mk A50
  clear A50
  replace H := Option.bind_eq_some_iff.mp H
  obtain ⟨⟨t390, t391⟩, A60, H⟩ := H
  replace H : ((dict_PutInts.f k l0).bind fun bt396 => ((peristyleref11_PutInts.f k l0).bind fun bt398 => ((dict_TakeInts.f k bt396.1 (l0.length : Int)).bind fun bt400 => ((peristyleref01_Same.f k t384 t390).bind fun t404 => (if t404 = true then ((peristyleref01_Same.f k t385 t391).bind fun t405 => (if t405 = true then (if bt396.1.toList = bt398.1.toList then (if bt396.2 = bt398.2 then ((peristyleref01_Same.f k bt400.1 l0).bind fun t406 => (if t406 = true then (if bt400.2 = 0 then ((peristylelaw11_awake.f k).bind fun t407 => (some t407)) else (none)) else (none))) else (none)) else (none)) else (none))) else (none)))))) = some r := H
  have A6 := Aside0.mk A60
  clear A60
  replace H := Option.bind_eq_some_iff.mp H
  obtain ⟨⟨t396, t397⟩, A70, H⟩ := H
  replace H : ((peristyleref11_PutInts.f k l0).bind fun bt398 => ((dict_TakeInts.f k t396 (l0.length : Int)).bind fun bt400 => ((peristyleref01_Same.f k t384 t390).bind fun t404 => (if t404 = true then ((peristyleref01_Same.f k t385 t391).bind fun t405 => (if t405 = true then (if t396.toList = bt398.1.toList then (if t397 = bt398.2 then ((peristyleref01_Same.f k bt400.1 l0).bind fun t406 => (if t406 = true then (if bt400.2 = 0 then ((peristylelaw11_awake.f k).bind fun t407 => (some t407)) else (none)) else (none))) else (none)) else (none)) else (none))) else (none))))) = some r := H
  have A7 := Aside0.mk A70
  clear A70
  replace H := Option.bind_eq_some_iff.mp H
  obtain ⟨⟨t398, t399⟩, A80, H⟩ := H
  replace H : ((dict_TakeInts.f k t396 (l0.length : Int)).bind fun bt400 => ((peristyleref01_Same.f k t384 t390).bind fun t404 => (if t404 = true then ((peristyleref01_Same.f k t385 t391).bind fun t405 => (if t405 = true then (if t396.toList = t398.toList then (if t397 = t399 then ((peristyleref01_Same.f k bt400.1 l0).bind fun t406 => (if t406 = true then (if bt400.2 = 0 then ((peristylelaw11_awake.f k).bind fun t407 => (some t407)) else (none)) else (none))) else (none)) else (none)) else (none))) else (none)))) = some r := H
  have A8 := Aside0.mk A80
  clear A80
  replace H := Option.bind_eq_some_iff.mp H
  obtain ⟨⟨t400, t401⟩, A90, H⟩ := H
  replace H : ((peristyleref01_Same.f k t384 t390).bind fun t404 => (if t404 = true then ((peristyleref01_Same.f k t385 t391).bind fun t405 => (if t405 = true then (if t396.toList = t398.toList then (if t397 = t399 then ((peristyleref01_Same.f k t400 l0).bind fun t406 => (if t406 = true then (if t401 = 0 then ((peristylelaw11_awake.f k).bind fun t407 => (some t407)) else (none)) else (none))) else (none)) else (none)) else (none))) else (none))) = some r := H
  have A9 := Aside0.mk A90
  clear A90
  replace H := Option.bind_eq_some_iff.mp H
  obtain ⟨t404, A100, H⟩ := H
  replace H : (if t404 = true then ((peristyleref01_Same.f k t385 t391).bind fun t405 => (if t405 = true then (if t396.toList = t398.toList then (if t397 = t399 then ((peristyleref01_Same.f k t400 l0).bind fun t406 => (if t406 = true then (if t401 = 0 then ((peristylelaw11_awake.f k).bind fun t407 => (some t407)) else (none)) else (none))) else (none)) else (none)) else (none))) else (none)) = some r := H
  have A10 := Aside0.mk A100
  clear A100
  by_cases c11 : t404 = true
  ·subst c11
   have H1 : ((peristyleref01_Same.f k t385 t391).bind fun t405 => (if t405 = true then (if t396.toList = t398.toList then (if t397 = t399 then ((peristyleref01_Same.f k t400 l0).bind fun t406 => (if t406 = true then (if t401 = 0 then ((peristylelaw11_awake.f k).bind fun t407 => (some t407)) else (none)) else (none))) else (none)) else (none)) else (none))) = some r := by rw [if_pos rfl] at H; exact H
   clear H
   have H := H1
   clear H1
   replace H := Option.bind_eq_some_iff.mp H
   obtain ⟨t405, A120, H⟩ := H
   replace H : (if t405 = true then (if t396.toList = t398.toList then (if t397 = t399 then ((peristyleref01_Same.f k t400 l0).bind fun t406 => (if t406 = true then (if t401 = 0 then ((peristylelaw11_awake.f k).bind fun t407 => (some t407)) else (none)) else (none))) else (none)) else (none)) else (none)) = some r := H
   have A12 := Aside0.mk A120
   clear A120
   by_cases c13 : t405 = true
   ·subst c13
    have H1 : (if t396.toList = t398.toList then (if t397 = t399 then ((peristyleref01_Same.f k t400 l0).bind fun t406 => (if t406 = true then (if t401 = 0 then ((peristylelaw11_awake.f k).bind fun t407 => (some t407)) else (none)) else (none))) else (none)) else (none)) = some r := by rw [if_pos rfl] at H; exact H
    clear H
    have H := H1
    clear H1
    by_cases c14 : t396.toList = t398.toList
    ·rw [if_pos c14] at H
     have c14b0 : (t396.toList == t398.toList) = true := beq_iff_eq.mpr c14
     have c14b1 : (t396.toList != t398.toList) = false := bne_eq_false_iff_eq.mpr c14
     clear c14
     by_cases c15 : t397 = t399
     ·rw [if_pos c15] at H
      have c15b0 : (t397 == t399) = true := beq_iff_eq.mpr c15
      have c15b1 : (t397 != t399) = false := bne_eq_false_iff_eq.mpr c15
      clear c15
      replace H := Option.bind_eq_some_iff.mp H
      obtain ⟨t406, A160, H⟩ := H
      replace H : (if t406 = true then (if t401 = 0 then ((peristylelaw11_awake.f k).bind fun t407 => (some t407)) else (none)) else (none)) = some r := H
      have A16 := Aside0.mk A160
      clear A160
      by_cases c17 : t406 = true
      ·subst c17
       have H1 : (if t401 = 0 then ((peristylelaw11_awake.f k).bind fun t407 => (some t407)) else (none)) = some r := by rw [if_pos rfl] at H; exact H
       clear H
       have H := H1
       clear H1
       by_cases c18 : t401 = 0
       ·rw [if_pos c18] at H
        have c18b0 : (t401 == 0) = true := beq_iff_eq.mpr c18
        have c18b1 : (t401 != 0) = false := bne_eq_false_iff_eq.mpr c18
        clear c18
        replace H := Option.bind_eq_some_iff.mp H
        obtain ⟨t407, A190, H⟩ := H
        replace H : (some t407) = some r := H
        have A19 := Aside0.mk A190
        clear A190
        obtain rfl := Option.some.inj H
        go_enter Try.func4, Try.ntmps4
        go_wp2_with (first | ((with_reducible refine gate_callee (f := 9) rfl ?_); refine goesL_ (some 19) rfl rfl Try.func9 (by kernel_rfl) rfl #[.slice A0 l0.length c0] rfl (by (try simp only [List.map_toArray, List.map_cons, List.map_nil]); first | done | rfl) ?_; (with_reducible refine (dict_Of_int.calls k _ _ l0 t384 t385 _ ?side1 ?side2 A5.out).mono ?_); (case side1 => exact cx HR0.out); (case side2 => exact HC0.out); rintro e w20 ⟨v386, v388, rfl, ho0, ho1, hb⟩; refine ⟨_, rfl, ?_⟩; have HO387 := Aside0.mk (Kd.R_lower ho0 (below_size (bh HB.out))); have HO389 := Aside0.mk (Kd.R_lower ho1 (below_size (bh HB.out))); replace HB := bsa HB hb; (try clear hb); (try clear ho0); (try clear ho1)) | ((with_reducible refine gate_callee (f := 10) rfl ?_); refine goesL_ (some 24) rfl rfl Try.func10 (by kernel_rfl) rfl #[.slice A0 l0.length c0] rfl (by (try simp only [List.map_toArray, List.map_cons, List.map_nil]); first | done | rfl) ?_; (with_reducible refine (peristyleref11_Ints.calls k _ _ l0 t390 t391 _ ?side1 ?side2 A6.out).mono ?_); (case side1 => exact cx (Kd.C_below HR0.out HB.out)); (case side2 => exact HC0.out); rintro e w21 ⟨v392, v394, rfl, ho0, ho1, hb⟩; refine ⟨_, rfl, ?_⟩; have HO393 := Aside0.mk (Kd.R_lower (Kd.R_new' (Kd.R_new' ho0 (Kd.R_lt (rx HO387.out))) (Kd.R_lt (rx HO389.out))) (below_size (bh HB.out))); have HO395 := Aside0.mk (Kd.R_lower (Kd.R_new' (Kd.R_new' ho1 (Kd.R_lt (rx HO387.out))) (Kd.R_lt (rx HO389.out))) (below_size (bh HB.out))); replace HO387 := Aside0.mk (Kd.R_mono (Kd.R_told (Kd.R_told (Kd.R_old (rx HO387.out) hb) (Kd.R_base ho0)) (Kd.R_base ho1)) (fun _ h_ => h_.1)); replace HO389 := Aside0.mk (Kd.R_mono (Kd.R_told (Kd.R_told (Kd.R_old (rx HO389.out) hb) (Kd.R_base ho0)) (Kd.R_base ho1)) (fun _ h_ => h_.1)); replace HB := bsa HB hb; (try clear hb); (try clear ho0); (try clear ho1)) | ((with_reducible refine gate_callee (f := 11) rfl ?_); refine goesL_ (some 29) rfl rfl Try.func11 (by kernel_rfl) rfl #[.slice A0 l0.length c0] rfl (by (try simp only [List.map_toArray, List.map_cons, List.map_nil]); first | done | rfl) ?_; (with_reducible refine (dict_PutInts.calls k _ _ l0 t396 t397 _ ?side1 ?side2 A7.out).mono ?_); (case side1 => exact cx (Kd.C_below HR0.out HB.out)); (case side2 => exact HC0.out); rintro e w22 ⟨rfl, hb⟩; refine ⟨_, rfl, ?_⟩; replace HO387 := rba HO387 hb; replace HO389 := rba HO389 hb; replace HO393 := rba HO393 hb; replace HO395 := rba HO395 hb; replace HB := bsa HB hb; (try clear hb)) | ((with_reducible refine gate_callee (f := 12) rfl ?_); refine goesL_ (some 34) rfl rfl Try.func12 (by kernel_rfl) rfl #[.slice A0 l0.length c0] rfl (by (try simp only [List.map_toArray, List.map_cons, List.map_nil]); first | done | rfl) ?_; (with_reducible refine (peristyleref11_PutInts.calls k _ _ l0 t398 t399 _ ?side1 ?side2 A8.out).mono ?_); (case side1 => exact cx (Kd.C_below HR0.out HB.out)); (case side2 => exact HC0.out); rintro e w23 ⟨rfl, hb⟩; refine ⟨_, rfl, ?_⟩; replace HO387 := rba HO387 hb; replace HO389 := rba HO389 hb; replace HO393 := rba HO393 hb; replace HO395 := rba HO395 hb; replace HB := bsa HB hb; (try clear hb)) | ((with_reducible refine gate_callee (f := 13) rfl ?_); refine goesL_ (some 41) rfl rfl Try.func13 (by kernel_rfl) rfl #[.string t396, .int .i64 (l0.length : Int)] rfl (by (try simp only [List.map_toArray, List.map_cons, List.map_nil]); first | done | rfl) ?_; (with_reducible refine (dict_TakeInts.calls k t396 (l0.length : Int) t400 t401 _ A9.out).mono ?_); rintro e w24 ⟨v402, rfl, ho0, hb⟩; refine ⟨_, rfl, ?_⟩; have HO403 := Aside0.mk (Kd.R_lower (Kd.R_new' (Kd.R_new' (Kd.R_new' (Kd.R_new' ho0 (Kd.R_lt (rx HO387.out))) (Kd.R_lt (rx HO389.out))) (Kd.R_lt (rx HO393.out))) (Kd.R_lt (rx HO395.out))) (below_size (bh HB.out))); replace HO387 := Aside0.mk (Kd.R_elder' (rx HO387.out) (Kd.R_base ho0) hb); replace HO389 := Aside0.mk (Kd.R_elder' (rx HO389.out) (Kd.R_base ho0) hb); replace HO393 := Aside0.mk (Kd.R_elder' (rx HO393.out) (Kd.R_base ho0) hb); replace HO395 := Aside0.mk (Kd.R_elder' (rx HO395.out) (Kd.R_base ho0) hb); replace HB := bsa HB hb; (try clear hb); (try clear ho0); obtain ⟨Ao25, co25, eo25⟩ := Kd.R_slice HO387.out; subst eo25; obtain ⟨Ao26, co26, eo26⟩ := Kd.R_slice HO393.out; subst eo26) | ((with_reducible refine gate_callee (f := 14) rfl ?_); refine goesL_ (some 46) rfl rfl Try.func14 (by kernel_rfl) rfl #[.slice Ao25 t384.length co25, .slice Ao26 t390.length co26] rfl (by (try simp only [List.map_toArray, List.map_cons, List.map_nil]); first | done | rfl) ?_; (with_reducible refine (peristyleref01_Same.calls k _ _ t384 _ _ t390 true _ ?side1 ?side2 ?side3 ?side4 A10.out).mono ?_); (case side1 => exact cx (Kd.R_reads' HO387.out).2.2); (case side2 => exact (Kd.R_reads' HO387.out).2.1); (case side3 => exact cx (Kd.R_reads' HO393.out).2.2); (case side4 => exact (Kd.R_reads' HO393.out).2.1); rintro e w' ⟨rfl, ⟨nd, rfl⟩⟩; refine ⟨_, rfl, ?_⟩; obtain ⟨Ao27, co27, eo27⟩ := Kd.R_slice HO389.out; subst eo27; obtain ⟨Ao28, co28, eo28⟩ := Kd.R_slice HO395.out; subst eo28) | (go_at_call 14; (with_reducible refine (peristyleref01_Same.calls k _ _ t385 _ _ t391 true _ ?side1 ?side2 ?side3 ?side4 A12.out).mono ?_); (case side1 => exact cx (Kd.R_reads' HO389.out).2.2); (case side2 => exact (Kd.R_reads' HO389.out).2.1); (case side3 => exact cx (Kd.R_reads' HO395.out).2.2); (case side4 => exact (Kd.R_reads' HO395.out).2.1); rintro e w' ⟨rfl, ⟨nd, rfl⟩⟩; (try clear A12); obtain ⟨Ao29, co29, eo29⟩ := Kd.R_slice HO403.out; subst eo29) | (go_at_call 14; (with_reducible refine (peristyleref01_Same.calls k _ _ t400 _ _ l0 true _ ?side1 ?side2 ?side3 ?side4 A16.out).mono ?_); (case side1 => exact cx (Kd.R_reads' HO403.out).2.2); (case side2 => exact (Kd.R_reads' HO403.out).2.1); (case side3 => repeat (first | exact (Kd.C_below HR0.out (bh HB.out)) | (with_reducible refine Kd.C_alloc ?_ _) | (with_reducible refine Kd.C_drewN ?_ _) | (with_reducible refine Kd.C_drew ?_))); (case side4 => exact HC0.out); rintro e w' ⟨rfl, ⟨nd, rfl⟩⟩; (try clear A16)) | (go_at_call 7; (with_reducible refine (peristylelaw11_awake.calls k  t407 _ A19.out).mono ?_); rintro e w30 ⟨rfl, hb⟩; replace HO387 := rba HO387 hb; replace HO389 := rba HO389 hb; replace HO393 := rba HO393 hb; replace HO395 := rba HO395 hb; replace HO403 := rba HO403 hb; replace HB := bsa HB hb; (try clear hb); (try clear A19)))
        go_ret
        exact ⟨er, bh HB.out⟩
       ·rw [if_neg c18] at H
        exact absurd H (by simp)
      ·replace c17 := Bool.eq_false_iff.mpr c17
       subst c17
       have H1 : (none) = some r := by rw [if_neg (show ¬ (false = true) by decide)] at H; exact H
       clear H
       have H := H1
       clear H1
       exact absurd H (by simp)
     ·rw [if_neg c15] at H
      exact absurd H (by simp)
    ·rw [if_neg c14] at H
     exact absurd H (by simp)
   ·replace c13 := Bool.eq_false_iff.mpr c13
    subst c13
    have H1 : (none) = some r := by rw [if_neg (show ¬ (false = true) by decide)] at H; exact H
    clear H
    have H := H1
    clear H1
    exact absurd H (by simp)
  ·replace c11 := Bool.eq_false_iff.mpr c11
   subst c11
   have H1 : (none) = some r := by rw [if_neg (show ¬ (false = true) by decide)] at H; exact H
   clear H
   have H := H1
   clear H1
   exact absurd H (by simp)
def peristylelaw11_DictInts.Pure : Prop := ∀ (l0 : List Int), l0.length ≤ maxLen → l0.length * 8 ≤ 140737488351232 → (∀ x ∈ l0, (Lit.int .i64 x).wf = true) → ∃ k, peristylelaw11_DictInts.f k l0 = some true
theorem peristylelaw11_DictInts.walk (P : peristylelaw11_DictInts.Pure) (a0 : Option Addr) (len0 cap0 : Nat) (z0 : List Int) (w : World) (w0 : (a0 = none ∧ len0 = 0 ∧ cap0 = 0 ∧ z0 = []) ∨ ∃ x, a0 = some x ∧ len0 ≤ cap0 ∧ cap0 ≤ maxLen ∧ z0.length = cap0 ∧ (∀ i, i < z0.length → w.cell? (x.add i) = some (.int .i64 (z0.getD i 0))) ∧ ∀ n ∈ z0, (Lit.int .i64 n).wf = true) (y0 : len0 * 8 ≤ 140737488351232) :
  Calls Try.prog 4 #[.slice a0 len0 cap0] w fun e w' => e = .returned (.bool true) ∧ Below w.heap.size w w' := by
 obtain ⟨l0, rfl, hr0, hm0, hw0, hc0⟩ := ReadsInt.ofRowC w0
 obtain ⟨k, h⟩ := P l0 hm0 y0 hw0
 refine (peristylelaw11_DictInts.calls k _ _ l0 true w (Kd.C_of_reads (d := (0 : Int)) (h1 := fun _ => rfl) hr0) hc0 h).mono ?_
 rintro e w' ⟨rfl, hd⟩
 exact ⟨rfl, hd⟩
end Go.Proofs.Ytfohecpfenegkaa.Print
end
section
namespace Go.Proofs.Ytfohecpfenegkaa.Print
open Go.RowKit Go.Proofs.YtfohecpfenegkaaW.PrintWords Go.Proofs.YtfohecpfenegkaaW.PrintLast Go.Proofs.YtfohecpfenegkaaW.PrintMore
attribute [local go_sem] max2_int min2_int max_two min_two max_three min_three max_four min_four   -- for this text's walks alone
set_option linter.unusedVariables false
set_option linter.unusedSimpArgs false
/-! ### peristyleref11_Texts: function 15 -/
mutual
def peristyleref11_Texts.l0 : Nat → List ByteArray → List ByteArray → Int → Option (List ByteArray × List Int)
 | 0, _, _, _ => none
 | k + 1, x0, x4, x6 => if x6 < (x0.length : Int) then (peristyleref11_Texts.l1 k x0 x4 x6 0) else (peristyleref11_Texts.l2 k x0 x4 ([] : List Int) 0)
def peristyleref11_Texts.l1 : Nat → List ByteArray → List ByteArray → Int → Int → Option (List ByteArray × List Int)
 | 0, _, _, _, _ => none
 | k + 1, x0, x4, x6, x7 => if x7 < (x4.length : Int) then (if 0 ≤ x7 then (if 0 ≤ x6 then (if x6 < (x0.length : Int) then (if (Op.bytesLess ((rdOf ByteArray.empty x4 x7).toList) ((rdOf ByteArray.empty x0 x6).toList)) = true then (peristyleref11_Texts.l1 k x0 x4 x6 (wrap64 (x7 + 1))) else (if (rdOf ByteArray.empty x4 x7).toList = (rdOf ByteArray.empty x0 x6).toList then (peristyleref11_Texts.l0 k x0 x4 (wrap64 (x6 + 1))) else (if x7 ≤ (x4.length : Int) then ((some (x4.take (x7 : Int).toNat : List ByteArray)).bind fun y412 => (if ([] : List ByteArray).length + y412.length < 8796093022208 then ((some (([] : List ByteArray) ++ y412 : List ByteArray)).bind fun y416 => (if y416.length < 8796093022208 then ((some (y416 ++ [rdOf ByteArray.empty x0 x6] : List ByteArray)).bind fun y420 => ((some (x4.drop (x7 : Int).toNat : List ByteArray)).bind fun y423 => (if y420.length + y423.length < 8796093022208 then (peristyleref11_Texts.l0 k x0 (y420 ++ y423) (wrap64 (x6 + 1))) else (none)))) else (none))) else (none))) else (none)))) else (none)) else (none)) else (none)) else (if 0 ≤ x7 then (if x7 ≤ (x4.length : Int) then ((some (x4.take (x7 : Int).toNat : List ByteArray)).bind fun y430 => (if ([] : List ByteArray).length + y430.length < 8796093022208 then ((some (([] : List ByteArray) ++ y430 : List ByteArray)).bind fun y434 => (if 0 ≤ x6 then (if x6 < (x0.length : Int) then (if y434.length < 8796093022208 then ((some (y434 ++ [rdOf ByteArray.empty x0 x6] : List ByteArray)).bind fun y438 => ((some (x4.drop (x7 : Int).toNat : List ByteArray)).bind fun y441 => (if y438.length + y441.length < 8796093022208 then (peristyleref11_Texts.l0 k x0 (y438 ++ y441) (wrap64 (x6 + 1))) else (none)))) else (none)) else (none)) else (none))) else (none))) else (none)) else (none))
def peristyleref11_Texts.l2 : Nat → List ByteArray → List ByteArray → List Int → Int → Option (List ByteArray × List Int)
 | 0, _, _, _, _ => none
 | k + 1, x0, x4, x5, x9 => if x9 < (x0.length : Int) then (peristyleref11_Texts.l3 k x0 x4 x5 x9 0) else (some (x4, x5))
def peristyleref11_Texts.l3 : Nat → List ByteArray → List ByteArray → List Int → Int → Int → Option (List ByteArray × List Int)
 | 0, _, _, _, _, _ => none
 | k + 1, x0, x4, x5, x9, x10 => if 0 ≤ x10 then (if x10 < (x4.length : Int) then (if 0 ≤ x9 then (if x9 < (x0.length : Int) then (if (rdOf ByteArray.empty x4 x10).toList = (rdOf ByteArray.empty x0 x9).toList then (if x5.length < 17592186044416 then (peristyleref11_Texts.l2 k x0 x4 (x5 ++ [x10]) (wrap64 (x9 + 1))) else (none)) else (peristyleref11_Texts.l3 k x0 x4 x5 x9 (wrap64 (x10 + 1)))) else (none)) else (none)) else (none)) else (none)
end
def peristyleref11_Texts.f (k : Nat) (l0 : List ByteArray) : Option (List ByteArray × List Int) := peristyleref11_Texts.l0 k l0 ([] : List ByteArray) 0
end Go.Proofs.Ytfohecpfenegkaa.Print
end
