-- Functions and laws: texts of the session's own and of the kit's print program, joined; what nothing names is left out.
import Derived.Test.YtbmlfbbcgbgnoaaKA
import Derived.Test.YtbmlfbbcgbgnoaaKC
import Derived.Test.YtbmlfbbcgbgnoaaKD
import Derived.Test.YtbmlfbbcgbgnoaaKR
section
namespace Go.Proofs.Ytbmlfbbcgbgnoaa.Print
open Go.RowKit Go.Proofs.YtbmlfbbcgbgnoaaW.PrintWords Go.Proofs.YtbmlfbbcgbgnoaaW.PrintLast Go.Proofs.YtbmlfbbcgbgnoaaW.PrintMore
attribute [local go_sem] max2_int min2_int max_two min_two max_three min_three max_four min_four   -- for this text's walks alone
set_option linter.unusedVariables false
set_option linter.unusedSimpArgs false
/-! ### span_Of: function 63 -/
def span_Of.l0 : Nat → List (S79) → List Int → Int → Int → Option ((List (S79)) × Int)
 | 0, _, _, _, _ => none
 | k + 1, x5, x14, x15, x16 => if x16 < x15 then (if 0 ≤ x16 then (if x16 < (x14.length : Int) then ((span_adds.f x5 (rd x14 x16) (wrap64 ((rd x14 x16) + 1))).bind fun t322 => (span_Of.l0 k t322 x14 x15 (wrap64 (x16 + 1)))) else (none)) else (none)) else (some (x5, 0))
def span_Of.f (k : Nat) (l0 : List Int) : Option ((List (S79)) × Int) := (slices_ContainsFunc_int_int_fn95.f k l0).bind fun t316 => (if t316 = true then (some (([] : List (S79)), 1)) else ((slices_Clone_int_int.f l0).bind fun t317 => ((slices_Sort_int_int.f t317).bind fun t320 => (span_Of.l0 k ([] : List (S79)) t320 (t317.length : Int) 0))))
theorem span_Of.l0_succ (k : Nat) (x5 : List (S79)) (x14 : List Int) (x15 : Int) (x16 : Int) : span_Of.l0 (k + 1) x5 x14 x15 x16 = (if x16 < x15 then (if 0 ≤ x16 then (if x16 < (x14.length : Int) then ((span_adds.f x5 (rd x14 x16) (wrap64 ((rd x14 x16) + 1))).bind fun t322 => (span_Of.l0 k t322 x14 x15 (wrap64 (x16 + 1)))) else (none)) else (none)) else (some (x5, 0))) := by
 simp only [span_Of.l0]
set_option maxHeartbeats 8000000 in
set_option maxRecDepth 100000 in
theorem span_Of.calls (k : Nat) (A0 : Option Addr) (c0 : Nat) (l0 : List Int) (r1 : List (S79)) (r2 : Int) (w : World) (hr0 : Kd.C (Kd.int .i64) w A0 l0.length l0) (hc0 : l0.length ≤ c0) (h : span_Of.f k l0 = some (r1, r2)) :
  Calls Try.prog 63 #[.slice A0 l0.length c0] w fun e w' => ∃ v0_ : Value, e = .returned (.tuple #[v0_, .int .i64 r2]) ∧ Kd.R k79 79 w' w.heap.size (fun _ => True) v0_ r1 ∧ Below w.heap.size w w' := by
 have hu79 := Try.underlying79
 have HR0 := Aside0.mk hr0
 have HC0 := Aside0.mk hc0
 clear hr0 hc0
 have HB := Aside0.mk (Below.refl w.heap.size w)
 have H : ((slices_ContainsFunc_int_int_fn95.f k l0).bind fun t316 => (if t316 = true then (some (([] : List (S79)), 1)) else ((slices_Clone_int_int.f l0).bind fun t317 => ((slices_Sort_int_int.f t317).bind fun t320 => (span_Of.l0 k ([] : List (S79)) t320 (t317.length : Int) 0))))) = some (r1, r2) := h
 clear h
 replace H := Option.bind_eq_some_iff.mp H
 obtain ⟨t316, A20, H⟩ := H
 replace H : (if t316 = true then (some (([] : List (S79)), 1)) else ((slices_Clone_int_int.f l0).bind fun t317 => ((slices_Sort_int_int.f t317).bind fun t320 => (span_Of.l0 k ([] : List (S79)) t320 (t317.length : Int) 0)))) = some (r1, r2) := H
 have A2 := Aside0.mk A20
 clear A20
 by_cases c3 : t316 = true
 ·subst c3
  have H1 : (some (([] : List (S79)), 1)) = some (r1, r2) := by rw [if_pos rfl] at H; exact H
  clear H
  have H := H1
  clear H1
  simp only [Option.some.injEq, Prod.mk.injEq] at H
  obtain ⟨rfl, rfl⟩ := H
  go_enter Try.func63, Try.ntmps63
  go_wp2_with (first | ((with_reducible refine gate_callee (f := 94) rfl ?_); refine goesL_ (some 9) rfl rfl Try.func94 (by kernel_rfl) rfl #[.slice A0 l0.length c0, .func (.func 95) #[] #[]] rfl (by (try simp only [List.map_toArray, List.map_cons, List.map_nil]); first | done | rfl) ?_; (with_reducible refine (slices_ContainsFunc_int_int_fn95.calls k _ _ l0  true _ ?side1 ?side2 A2.out).mono ?_); (case side1 => exact cx HR0.out); (case side2 => exact HC0.out); rintro e w4 ⟨rfl, hb⟩; refine ⟨_, rfl, ?_⟩; replace HB := bsa HB hb; (try clear hb)))
  go_ret2
  exact ⟨_, er, nl, bh HB.out⟩
 ·replace c3 := Bool.eq_false_iff.mpr c3
  subst c3
  have H1 : ((slices_Clone_int_int.f l0).bind fun t317 => ((slices_Sort_int_int.f t317).bind fun t320 => (span_Of.l0 k ([] : List (S79)) t320 (t317.length : Int) 0))) = some (r1, r2) := by rw [if_neg (show ¬ (false = true) by decide)] at H; exact H
  clear H
  have H := H1
  clear H1
  replace H := Option.bind_eq_some_iff.mp H
  obtain ⟨t317, A50, H⟩ := H
  replace H : ((slices_Sort_int_int.f t317).bind fun t320 => (span_Of.l0 k ([] : List (S79)) t320 (t317.length : Int) 0)) = some (r1, r2) := H
  have A5 := Aside0.mk A50
  clear A50
  replace H := Option.bind_eq_some_iff.mp H
  obtain ⟨t320, A60, H⟩ := H
  replace H : (span_Of.l0 k ([] : List (S79)) t320 (t317.length : Int) 0) = some (r1, r2) := H
  have A6 := Aside0.mk A60
  clear A60
  have H' := Aside0.mk H
  clear H
  go_enter Try.func63, Try.ntmps63
  go_wp2_with (first | ((with_reducible refine gate_callee (f := 94) rfl ?_); refine goesL_ (some 9) rfl rfl Try.func94 (by kernel_rfl) rfl #[.slice A0 l0.length c0, .func (.func 95) #[] #[]] rfl (by (try simp only [List.map_toArray, List.map_cons, List.map_nil]); first | done | rfl) ?_; (with_reducible refine (slices_ContainsFunc_int_int_fn95.calls k _ _ l0  false _ ?side1 ?side2 A2.out).mono ?_); (case side1 => exact cx HR0.out); (case side2 => exact HC0.out); rintro e w7 ⟨rfl, hb⟩; refine ⟨_, rfl, ?_⟩; replace HB := bsa HB hb; (try clear hb)) | ((with_reducible refine gate_callee (f := 96) rfl ?_); refine goesL_ (some 11) rfl rfl Try.func96 (by kernel_rfl) rfl #[.slice A0 l0.length c0] rfl (by (try simp only [List.map_toArray, List.map_cons, List.map_nil]); first | done | rfl) ?_; (with_reducible refine (slices_Clone_int_int.calls _ _ l0 t317 _ ?side1 ?side2 A5.out).mono ?_); (case side1 => exact cx (Kd.C_below HR0.out HB.out)); (case side2 => exact HC0.out); rintro e w8 ⟨v318, rfl, ho0, hb⟩; refine ⟨_, rfl, ?_⟩; have HO319 := Aside0.mk (Kd.R_lower ho0 (below_size (bh HB.out))); replace HB := bsa HB hb; (try clear hb); (try clear ho0); obtain ⟨Ao9, co9, eo9⟩ := Kd.R_slice HO319.out; subst eo9) | ((with_reducible refine gate_callee (f := 97) rfl ?_); refine goesL_ (some 13) rfl rfl Try.func97 (by kernel_rfl) rfl #[.slice Ao9 t317.length co9] rfl (by (try simp only [List.map_toArray, List.map_cons, List.map_nil]); first | done | rfl) ?_; (with_reducible refine (slices_Sort_int_int.calls (fun k_ => some k_ = (.slice Ao9 t317.length co9 : Value).ownBlock) (.slice Ao9 t317.length co9) t317 t320 w _ ?side1 ?side2 A6.out).mono ?_); (case side1 => repeat (first | (with_reducible first | exact HB.out | apply below_alloc | apply pw_below_drewN | apply below_drew1) | exact HB.out)); (case side2 => exact Kd.R_tight rfl HO319.out); rintro e w10 ⟨rfl, hy0, hb, hkp⟩; refine ⟨_, rfl, ?_⟩; replace HO319 := Aside0.mk (Kd.R_reok rfl hy0 (fun k_ e_ => HO319.out.1 k_ e_)); replace HB := Aside0.mk (hb); (try clear hb); (try clear hkp); (try clear hy0)))
  go_loopg [5, 16] k (fun kq v5 v16 w' => ∃ (x5_1 : List (S79)) (x16_1 : Int), v16 = .int .i64 x16_1 ∧ Aside0 (span_Of.l0 kq x5_1 t320 (t317.length : Int) x16_1 = some (r1, r2)) ∧ Aside0 (kq ≤ k) ∧ Aside0 (Kd.R k79 79 w' w.heap.size (fun _ => True) v5 x5_1) ∧ Aside0 (Kd.R (Kd.int .i64) 3 w' w.heap.size (fun _ => True) (.slice Ao9 t317.length co9) t320) ∧ Aside0 (Below w.heap.size w w'))
  case atStart => exact ⟨(([] : List (S79))), (0), (by first | rfl | (simp; done) | (simp [*]; done)), H', ⟨Nat.le_refl _⟩, ⟨nl⟩, ⟨by (with_reducible repeat (first | apply Kd.R_alloc | apply Kd.R_drewN | apply Kd.R_drew)); exact HO319.out⟩, ⟨bh HB.out⟩⟩
  case round =>
   clear H'
   try clear c3
   obtain ⟨x5_1, x16_1, rfl, HA, HK1, HO_5, HO_14, HB⟩ := hrel
   have hl14_1 := (Kd.R_reads' HO_14.out).1
   rw [hl14_1] at HO_14
   (try simp only [hl14_1])
   (try simp only [hl14_1] at HO_5)
   cases gk with
   | zero => exact absurd HA.out (by simp [span_Of.l0])
   | succ k1 =>
    have H := HA.out
    clear HA
    simp only [span_Of.l0] at H
    by_cases c11 : x16_1 < (t317.length : Int)
    ·rw [if_pos c11] at H
     have c11b0 : decide (x16_1 < (t317.length : Int)) = true := decide_eq_true c11
     (try (have c11b0l := c11b0; simp only [hl14_1] at c11b0l))
     clear c11
     by_cases c12 : 0 ≤ x16_1
     ·rw [if_pos c12] at H
      have c12b0 : decide (0 ≤ x16_1) = true := decide_eq_true c12
      clear c12
      by_cases c13 : x16_1 < (t320.length : Int)
      ·rw [if_pos c13] at H
       have c13b0 : decide (x16_1 < (t320.length : Int)) = true := decide_eq_true c13
       (try (have c13b0l := c13b0; simp only [hl14_1] at c13b0l))
       clear c13
       replace H := Option.bind_eq_some_iff.mp H
       obtain ⟨t322, A140, H⟩ := H
       replace H : (span_Of.l0 k1 t322 t320 (t317.length : Int) (wrap64 (x16_1 + 1))) = some (r1, r2) := H
       have A14 := Aside0.mk A140
       clear A140
       have H' := Aside0.mk H
       clear H
       have p321 : 0 ≤ (x16_1 : Int) := of_decide_eq_true (by assumption)
       have q321 : x16_1 < (t320.length : Int) := of_decide_eq_true (by assumption)
       obtain ⟨ad321, e321, hx321_0⟩ := Kd.at_int (Kd.R_reads' HO_14.out).2.2 x16_1 p321 q321
       cases e321
       replace p321 := eq_true p321
       replace q321 := eq_true q321
       obtain ⟨Ao15, co15, eo15⟩ := Kd.R_slice HO_5.out
       subst eo15
       go_wp2_with (first | ((with_reducible refine gate_callee (f := 98) rfl ?_); refine goesL_ (some 25) rfl rfl Try.func98 (by kernel_rfl) rfl #[.slice Ao15 x5_1.length co15, .agg #[.int .i64 (rd t320 x16_1), .int .i64 (wrap64 ((rd t320 x16_1) + 1))]] rfl (by (try simp only [List.map_toArray, List.map_cons, List.map_nil]); first | done | rfl) ?_; (with_reducible refine (span_adds.calls (fun k_ => some k_ = (.slice Ao15 x5_1.length co15 : Value).ownBlock) (.slice Ao15 x5_1.length co15) x5_1 (rd t320 x16_1) (wrap64 ((rd t320 x16_1) + 1)) t322 w _ ?side1 ?side2 A14.out).mono ?_); (case side1 => repeat (first | (with_reducible first | exact HB.out | apply below_alloc | apply pw_below_drewN | apply below_drew1) | exact HB.out)); (case side2 => exact Kd.R_tight rfl HO_5.out); rintro e w16 ⟨v323, rfl, ho0, hb, hkp⟩; refine ⟨_, rfl, ?_⟩; have n0_ := Aside0.mk (Kd.R_mono (ok' := fun k_ => True) (Kd.R_keptB ((Kd.R_apart' HO_14.out (Kd.R_typed HO_5.out) (by decide))) hkp (fun k_ hk_ hs_ => (hk_.2) hs_)) (fun k_ hk_ => trivial)); have n1_ := Aside0.mk (Kd.R_mono (ok' := fun k_ => True) ho0 (fun k_ hk_ => trivial)); have n2_ := Aside0.mk (hb); clear HO_14 HB HO_5; have HO_14 := n0_; have HO324 := n1_; have HB := n2_; clear n0_ n1_ n2_; (try clear hb); (try clear hkp); (try clear ho0)))
       (try simp only [← hl14_1])
       go_roundg k1
       case measure => have := HK1.out; omega
       case rel => exact ⟨(t322), (wrap64 (x16_1 + 1)), (by first | rfl | (simp; done) | (simp [*]; done)), H', ⟨by have := HK1.out; omega⟩, ⟨by (try simp only [hl14_1]); (with_reducible repeat (first | apply Kd.R_alloc | apply Kd.R_drewN | apply Kd.R_drew)); exact HO324.out⟩, ⟨by (try simp only [hl14_1]); (with_reducible repeat (first | apply Kd.R_alloc | apply Kd.R_drewN | apply Kd.R_drew)); exact HO_14.out⟩, ⟨bh HB.out⟩⟩
      ·rw [if_neg c13] at H
       exact absurd H (by simp)
     ·rw [if_neg c12] at H
      exact absurd H (by simp)
    ·rw [if_neg c11] at H
     have c11b0 : decide (x16_1 < (t317.length : Int)) = false := decide_eq_false c11
     (try (have c11b0l := c11b0; simp only [hl14_1] at c11b0l))
     clear c11
     simp only [Option.some.injEq, Prod.mk.injEq] at H
     obtain ⟨rfl, rfl⟩ := H
     go_wp2
     go_ret2
     exact ⟨_, er, by (with_reducible repeat (first | apply Kd.R_alloc | apply Kd.R_drewN | apply Kd.R_drew)); exact HO_5.out, bh HB.out⟩
/-! ### poslist_From: function 60 -/
def poslist_From.f (k : Nat) (l0 : List Int) : Option (Int × (List (S79)) × List Int × List Int × Int) := (span_Of.f k l0).bind fun bt326 => (if bt326.2 = 0 then ((poslist_Best.f k bt326.1).bind fun bt330 => (some (bt330.1, bt330.2.1, bt330.2.2.1, bt330.2.2.2.1, bt330.2.2.2.2))) else (some (0, ([] : List (S79)), ([] : List Int), ([] : List Int), bt326.2)))
set_option maxHeartbeats 8000000 in
set_option maxRecDepth 100000 in
theorem poslist_From.calls (k : Nat) (A0 : Option Addr) (c0 : Nat) (l0 : List Int) (r1 : Int) (r2 : List (S79)) (r3 : List Int) (r4 : List Int) (r5 : Int) (w : World) (hr0 : Kd.C (Kd.int .i64) w A0 l0.length l0) (hc0 : l0.length ≤ c0) (h : poslist_From.f k l0 = some (r1, r2, r3, r4, r5)) :
  Calls Try.prog 60 #[.slice A0 l0.length c0] w fun e w' => ∃ v1_ v2_ v3_ : Value, e = .returned (.tuple #[.agg #[.int .i64 r1, v1_, v2_, v3_], .int .i64 r5]) ∧ Kd.R k79 79 w' w.heap.size (fun _ => True) v1_ r2 ∧ Kd.R (Kd.int .i64) 3 w' w.heap.size (fun k_ => some k_ ≠ (v3_ : Value).ownBlock) v2_ r3 ∧ Kd.R (Kd.int .i64) 3 w' w.heap.size (fun k_ => some k_ ≠ (v2_ : Value).ownBlock) v3_ r4 ∧ Below w.heap.size w w' := by
 have hu52 := Try.underlying52
 have HR0 := Aside0.mk hr0
 have HC0 := Aside0.mk hc0
 clear hr0 hc0
 have HB := Aside0.mk (Below.refl w.heap.size w)
 have H : ((span_Of.f k l0).bind fun bt326 => (if bt326.2 = 0 then ((poslist_Best.f k bt326.1).bind fun bt330 => (some (bt330.1, bt330.2.1, bt330.2.2.1, bt330.2.2.2.1, bt330.2.2.2.2))) else (some (0, ([] : List (S79)), ([] : List Int), ([] : List Int), bt326.2)))) = some (r1, r2, r3, r4, r5) := h
 clear h
 replace H := Option.bind_eq_some_iff.mp H
 obtain ⟨⟨t326, t327⟩, A20, H⟩ := H
 replace H : (if t327 = 0 then ((poslist_Best.f k t326).bind fun bt330 => (some (bt330.1, bt330.2.1, bt330.2.2.1, bt330.2.2.2.1, bt330.2.2.2.2))) else (some (0, ([] : List (S79)), ([] : List Int), ([] : List Int), t327))) = some (r1, r2, r3, r4, r5) := H
 have A2 := Aside0.mk A20
 clear A20
 by_cases c3 : t327 = 0
 ·rw [if_pos c3] at H
  have c3b0 : (t327 == 0) = true := beq_iff_eq.mpr c3
  have c3b1 : (t327 != 0) = false := bne_eq_false_iff_eq.mpr c3
  clear c3
  replace H := Option.bind_eq_some_iff.mp H
  obtain ⟨⟨t330, t331, t334, t337, t340⟩, A40, H⟩ := H
  replace H : (some (t330, t331, t334, t337, t340)) = some (r1, r2, r3, r4, r5) := H
  have A4 := Aside0.mk A40
  clear A40
  simp only [Option.some.injEq, Prod.mk.injEq] at H
  obtain ⟨rfl, rfl, rfl, rfl, rfl⟩ := H
  go_enter Try.func60, Try.ntmps60
  go_wp2_with (first | ((with_reducible refine gate_dst (N := 2) rfl ?_); refine box_event ?hg (N := 2) ?hd (cs := #[.int .i64 0, .slice none 0 0, .slice none 0 0, .slice none 0 0]) (t := 52) ?hr ?_; (case hd => rfl); (case hg => rfl); (case hr => first | (go_simp; done) | (go_simp; rfl)); intro gb325 hg w5 hbox hb; have BK325 := Aside0.mk (hbox); have GW325 := bza HB hg; have GE325 := bza HB hg; replace HB := bsa HB hb; clear hb hbox hg) | ((with_reducible refine gate_callee (f := 63) rfl ?_); refine goesL_ (some 8) rfl rfl Try.func63 (by kernel_rfl) rfl #[.slice A0 l0.length c0] rfl (by (try simp only [List.map_toArray, List.map_cons, List.map_nil]); first | done | rfl) ?_; (with_reducible refine (span_Of.calls k _ _ l0 t326 t327 _ ?side1 ?side2 A2.out).mono ?_); (case side1 => exact cx (Kd.C_below HR0.out HB.out)); (case side2 => exact HC0.out); rintro e w6 ⟨v328, rfl, ho0, hb⟩; refine ⟨_, rfl, ?_⟩; have HO329 := Aside0.mk (Kd.R_lower ho0 (below_size (bh HB.out))); replace BK325 := bba BK325 hb; replace HB := bsa HB hb; (try clear hb); (try clear hk); (try clear ho0); obtain ⟨Ao7, co7, eo7⟩ := Kd.R_slice HO329.out; subst eo7) | ((with_reducible refine gate_callee (f := 27) rfl ?_); refine goesL_ (some 16) rfl rfl Try.func27 (by kernel_rfl) rfl #[.slice Ao7 t326.length co7] rfl (by (try simp only [List.map_toArray, List.map_cons, List.map_nil]); first | done | rfl) ?_; (with_reducible refine (poslist_Best.calls k _ _ t326 t330 t331 t334 t337 t340 _ ?side1 ?side2 A4.out).mono ?_); (case side1 => exact cx (Kd.R_reads' HO329.out).2.2); (case side2 => exact (Kd.R_reads' HO329.out).2.1); rintro e w8 ⟨v332, v335, v338, rfl, ho0, ho1, ho2, hb⟩; refine ⟨_, rfl, ?_⟩; have HO333 := Aside0.mk (Kd.R_lower (Kd.R_new' ho0 (Kd.R_lt (rx HO329.out))) (below_size (bh HB.out))); replace HO329 := Aside0.mk (Kd.R_elder' (rx HO329.out) (Kd.R_base ho0) hb); have HO336 := Aside0.mk (Kd.R_lower ho1 (below_size (bh HB.out))); have HO339 := Aside0.mk (Kd.R_lower ho2 (below_size (bh HB.out))); replace BK325 := bba BK325 hb; replace HB := bsa HB hb; (try clear hb); (try clear hk); (try clear ho0); (try clear ho1); (try clear ho2); have hcz9_0 : w8.cell? ⟨gb325, 0, none⟩ = some (.int .i64 0) := (blk_cell BK325.out 0).trans rfl; have hcz9_1 : w8.cell? ⟨gb325, 1, none⟩ = some (.slice none 0 0) := (blk_cell BK325.out 1).trans rfl; have hcz9_2 : w8.cell? ⟨gb325, 2, none⟩ = some (.slice none 0 0) := (blk_cell BK325.out 2).trans rfl; have hcz9_3 : w8.cell? ⟨gb325, 3, none⟩ = some (.slice none 0 0) := (blk_cell BK325.out 3).trans rfl; have hfz9_0 := blk_frozen BK325.out 0; have hfz9_1 := blk_frozen BK325.out 1; have hfz9_2 := blk_frozen BK325.out 2; have hfz9_3 := blk_frozen BK325.out 3; obtain ⟨Ao10, co10, eo10⟩ := Kd.R_slice HO333.out; subst eo10; obtain ⟨Ao11, co11, eo11⟩ := Kd.R_slice HO336.out; subst eo11; obtain ⟨Ao12, co12, eo12⟩ := Kd.R_slice HO339.out; subst eo12) | ((with_reducible refine gate_store (t := 52) (p := 2) rfl ?_); refine store_event (t := 52) (p := 2) (v := ?vo_w13) (w1 := ((((w8.setCell ⟨gb325, 0, none⟩ (.int .i64 t330)).setCell ⟨gb325, 1, none⟩ (.slice Ao10 t331.length co10)).setCell ⟨gb325, 2, none⟩ (.slice Ao11 t334.length co11)).setCell ⟨gb325, 3, none⟩ (.slice Ao12 t337.length co12))) ?hg ?ho ?hn ?hr ?_; (case ho => rfl); (case hg => rfl); (case hn => rfl); (case hr => first | (go_simp; done) | (go_simp; rfl)); intro w13 hw; have n0_ : Aside0 (Kd.R k79 79 w13 w.heap.size (fun k_ => some k_ ≠ (.slice Ao10 t331.length co10 : Value).ownBlock) (.slice Ao7 t326.length co7) t326) := ⟨(by rw [hw]; exact (by (with_reducible repeat (first | apply Kd.R_alloc | apply Kd.R_drewN | apply Kd.R_drew)); exact Kd.R_mono (Kd.R_far (p := ⟨gb325, 3, none⟩) (Kd.R_far (p := ⟨gb325, 2, none⟩) (Kd.R_far (p := ⟨gb325, 1, none⟩) (Kd.R_far (p := ⟨gb325, 0, none⟩) (Kd.R_types HO329.out BK325.out (by decide)) (fun _ hk => hk.2) (.int .i64 t330)) (fun _ hk => hk.2) (.slice Ao10 t331.length co10)) (fun _ hk => hk.2) (.slice Ao11 t334.length co11)) (fun _ hk => hk.2) (.slice Ao12 t337.length co12)) (fun _ hk => hk.1.2)))⟩; have n1_ : Aside0 (Kd.R k79 79 w13 w.heap.size (fun k_ => some k_ ≠ (.slice Ao7 t326.length co7 : Value).ownBlock) (.slice Ao10 t331.length co10) t331) := ⟨(by rw [hw]; exact (by (with_reducible repeat (first | apply Kd.R_alloc | apply Kd.R_drewN | apply Kd.R_drew)); exact Kd.R_mono (Kd.R_far (p := ⟨gb325, 3, none⟩) (Kd.R_far (p := ⟨gb325, 2, none⟩) (Kd.R_far (p := ⟨gb325, 1, none⟩) (Kd.R_far (p := ⟨gb325, 0, none⟩) (Kd.R_types HO333.out BK325.out (by decide)) (fun _ hk => hk.2) (.int .i64 t330)) (fun _ hk => hk.2) (.slice Ao10 t331.length co10)) (fun _ hk => hk.2) (.slice Ao11 t334.length co11)) (fun _ hk => hk.2) (.slice Ao12 t337.length co12)) (fun _ hk => hk.1.2)))⟩; have n2_ : Aside0 (Kd.R (Kd.int .i64) 3 w13 w.heap.size (fun k_ => some k_ ≠ (.slice Ao12 t337.length co12 : Value).ownBlock) (.slice Ao11 t334.length co11) t334) := ⟨(by rw [hw]; exact (by (with_reducible repeat (first | apply Kd.R_alloc | apply Kd.R_drewN | apply Kd.R_drew)); exact Kd.R_mono (Kd.R_far (p := ⟨gb325, 3, none⟩) (Kd.R_far (p := ⟨gb325, 2, none⟩) (Kd.R_far (p := ⟨gb325, 1, none⟩) (Kd.R_far (p := ⟨gb325, 0, none⟩) (Kd.R_types HO336.out BK325.out (by decide)) (fun _ hk => hk.2) (.int .i64 t330)) (fun _ hk => hk.2) (.slice Ao10 t331.length co10)) (fun _ hk => hk.2) (.slice Ao11 t334.length co11)) (fun _ hk => hk.2) (.slice Ao12 t337.length co12)) (fun _ hk => hk.1)))⟩; have n3_ : Aside0 (Kd.R (Kd.int .i64) 3 w13 w.heap.size (fun k_ => some k_ ≠ (.slice Ao11 t334.length co11 : Value).ownBlock) (.slice Ao12 t337.length co12) t337) := ⟨(by rw [hw]; exact (by (with_reducible repeat (first | apply Kd.R_alloc | apply Kd.R_drewN | apply Kd.R_drew)); exact Kd.R_mono (Kd.R_far (p := ⟨gb325, 3, none⟩) (Kd.R_far (p := ⟨gb325, 2, none⟩) (Kd.R_far (p := ⟨gb325, 1, none⟩) (Kd.R_far (p := ⟨gb325, 0, none⟩) (Kd.R_types HO339.out BK325.out (by decide)) (fun _ hk => hk.2) (.int .i64 t330)) (fun _ hk => hk.2) (.slice Ao10 t331.length co10)) (fun _ hk => hk.2) (.slice Ao11 t334.length co11)) (fun _ hk => hk.2) (.slice Ao12 t337.length co12)) (fun _ hk => hk.1)))⟩; have n4_ : Aside0 (w13.heap[gb325]? = some (.cells #[.int .i64 t330, .slice Ao10 t331.length co10, .slice Ao11 t334.length co11, .slice Ao12 t337.length co12] 52 (0, 0))) := ⟨(by rw [hw]; exact (by (with_reducible repeat (first | refine blk_drewN ?_ _ | refine blk_drew ?_ | refine blk_alloc ?_ _)); refine blk_put (cs := #[.int .i64 t330, .slice Ao10 t331.length co10, .slice Ao11 t334.length co11, .slice none 0 0]) ?_ 3 _ rfl; (with_reducible repeat (first | refine blk_drewN ?_ _ | refine blk_drew ?_ | refine blk_alloc ?_ _)); refine blk_put (cs := #[.int .i64 t330, .slice Ao10 t331.length co10, .slice none 0 0, .slice none 0 0]) ?_ 2 _ rfl; (with_reducible repeat (first | refine blk_drewN ?_ _ | refine blk_drew ?_ | refine blk_alloc ?_ _)); refine blk_put (cs := #[.int .i64 t330, .slice none 0 0, .slice none 0 0, .slice none 0 0]) ?_ 1 _ rfl; (with_reducible repeat (first | refine blk_drewN ?_ _ | refine blk_drew ?_ | refine blk_alloc ?_ _)); refine blk_put (cs := #[.int .i64 0, .slice none 0 0, .slice none 0 0, .slice none 0 0]) ?_ 0 _ rfl; (with_reducible repeat (first | refine blk_drewN ?_ _ | refine blk_drew ?_ | refine blk_alloc ?_ _)); exact BK325.out))⟩; have n5_ : Aside0 (Below w.heap.size w w13) := ⟨(by rw [hw]; exact (bh HB.out))⟩; clear hw HO329 HO333 HO336 HO339 BK325 HB; have HO329 := n0_; have HO333 := n1_; have HO336 := n2_; have HO339 := n3_; have BK325 := n4_; have HB := n5_; clear n0_ n1_ n2_ n3_ n4_ n5_))
  refine bodyPost_ret (results_ct rfl _ _ gb325 52 #[.int .i64 t330, .slice Ao10 t331.length co10, .slice Ao11 t334.length co11, .slice Ao12 t337.length co12] (0, 0) _ rfl (bx BK325.out) Try.underlying52 rfl (by kernel_rfl)) rfl ?_
  exact ⟨_, _, _, er, by (with_reducible repeat (first | apply Kd.R_alloc | apply Kd.R_drewN | apply Kd.R_drew)); exact Kd.R_mono HO333.out (fun _ hk => trivial), by (with_reducible repeat (first | apply Kd.R_alloc | apply Kd.R_drewN | apply Kd.R_drew)); exact HO336.out, by (with_reducible repeat (first | apply Kd.R_alloc | apply Kd.R_drewN | apply Kd.R_drew)); exact HO339.out, bh HB.out⟩
 ·rw [if_neg c3] at H
  have c3b0 : (t327 == 0) = false := beq_eq_false_iff_ne.mpr c3
  have c3b1 : (t327 != 0) = true := bne_iff_ne.mpr c3
  simp only [Option.some.injEq, Prod.mk.injEq] at H
  obtain ⟨rfl, rfl, rfl, rfl, rfl⟩ := H
  go_enter Try.func60, Try.ntmps60
  go_wp2_with (first | ((with_reducible refine gate_dst (N := 2) rfl ?_); refine box_event ?hg (N := 2) ?hd (cs := #[.int .i64 0, .slice none 0 0, .slice none 0 0, .slice none 0 0]) (t := 52) ?hr ?_; (case hd => rfl); (case hg => rfl); (case hr => first | (go_simp; done) | (go_simp; rfl)); intro gb325 hg w14 hbox hb; have BK325 := Aside0.mk (hbox); have GW325 := bza HB hg; have GE325 := bza HB hg; replace HB := bsa HB hb; clear hb hbox hg) | ((with_reducible refine gate_callee (f := 63) rfl ?_); refine goesL_ (some 8) rfl rfl Try.func63 (by kernel_rfl) rfl #[.slice A0 l0.length c0] rfl (by (try simp only [List.map_toArray, List.map_cons, List.map_nil]); first | done | rfl) ?_; (with_reducible refine (span_Of.calls k _ _ l0 t326 t327 _ ?side1 ?side2 A2.out).mono ?_); (case side1 => exact cx (Kd.C_below HR0.out HB.out)); (case side2 => exact HC0.out); rintro e w15 ⟨v328, rfl, ho0, hb⟩; refine ⟨_, rfl, ?_⟩; have HO329 := Aside0.mk (Kd.R_lower ho0 (below_size (bh HB.out))); replace BK325 := bba BK325 hb; replace HB := bsa HB hb; (try clear hb); (try clear hk); (try clear ho0); have hcz16_0 : w15.cell? ⟨gb325, 0, none⟩ = some (.int .i64 0) := (blk_cell BK325.out 0).trans rfl; have hcz16_1 : w15.cell? ⟨gb325, 1, none⟩ = some (.slice none 0 0) := (blk_cell BK325.out 1).trans rfl; have hcz16_2 : w15.cell? ⟨gb325, 2, none⟩ = some (.slice none 0 0) := (blk_cell BK325.out 2).trans rfl; have hcz16_3 : w15.cell? ⟨gb325, 3, none⟩ = some (.slice none 0 0) := (blk_cell BK325.out 3).trans rfl; have hfz16_0 := blk_frozen BK325.out 0; have hfz16_1 := blk_frozen BK325.out 1; have hfz16_2 := blk_frozen BK325.out 2; have hfz16_3 := blk_frozen BK325.out 3) | ((with_reducible refine gate_store (t := 52) (p := 2) rfl ?_); refine store_event (t := 52) (p := 2) (v := ?vo_w17) (w1 := ((((w15.setCell ⟨gb325, 0, none⟩ (.int .i64 0)).setCell ⟨gb325, 1, none⟩ (.slice none 0 0)).setCell ⟨gb325, 2, none⟩ (.slice none 0 0)).setCell ⟨gb325, 3, none⟩ (.slice none 0 0))) ?hg ?ho ?hn ?hr ?_; (case ho => rfl); (case hg => rfl); (case hn => rfl); (case hr => first | (go_simp; done) | (go_simp; rfl)); intro w17 hw; have n0_ : Aside0 (Kd.R k79 79 w17 w.heap.size (fun _ => True) v328 t326) := ⟨(by rw [hw]; exact (by (with_reducible repeat (first | apply Kd.R_alloc | apply Kd.R_drewN | apply Kd.R_drew)); exact Kd.R_mono (Kd.R_far (p := ⟨gb325, 3, none⟩) (Kd.R_far (p := ⟨gb325, 2, none⟩) (Kd.R_far (p := ⟨gb325, 1, none⟩) (Kd.R_far (p := ⟨gb325, 0, none⟩) (Kd.R_types HO329.out BK325.out (by decide)) (fun _ hk => hk.2) (.int .i64 0)) (fun _ hk => hk.2) (.slice none 0 0)) (fun _ hk => hk.2) (.slice none 0 0)) (fun _ hk => hk.2) (.slice none 0 0)) (fun _ hk => trivial)))⟩; have n1_ : Aside0 (w17.heap[gb325]? = some (.cells #[.int .i64 0, .slice none 0 0, .slice none 0 0, .slice none 0 0] 52 (0, 0))) := ⟨(by rw [hw]; exact (by (with_reducible repeat (first | refine blk_drewN ?_ _ | refine blk_drew ?_ | refine blk_alloc ?_ _)); refine blk_put (cs := #[.int .i64 0, .slice none 0 0, .slice none 0 0, .slice none 0 0]) ?_ 3 _ rfl; (with_reducible repeat (first | refine blk_drewN ?_ _ | refine blk_drew ?_ | refine blk_alloc ?_ _)); refine blk_put (cs := #[.int .i64 0, .slice none 0 0, .slice none 0 0, .slice none 0 0]) ?_ 2 _ rfl; (with_reducible repeat (first | refine blk_drewN ?_ _ | refine blk_drew ?_ | refine blk_alloc ?_ _)); refine blk_put (cs := #[.int .i64 0, .slice none 0 0, .slice none 0 0, .slice none 0 0]) ?_ 1 _ rfl; (with_reducible repeat (first | refine blk_drewN ?_ _ | refine blk_drew ?_ | refine blk_alloc ?_ _)); refine blk_put (cs := #[.int .i64 0, .slice none 0 0, .slice none 0 0, .slice none 0 0]) ?_ 0 _ rfl; (with_reducible repeat (first | refine blk_drewN ?_ _ | refine blk_drew ?_ | refine blk_alloc ?_ _)); exact BK325.out))⟩; have n2_ : Aside0 (Below w.heap.size w w17) := ⟨(by rw [hw]; exact (bh HB.out))⟩; clear hw HO329 BK325 HB; have HO329 := n0_; have BK325 := n1_; have HB := n2_; clear n0_ n1_ n2_))
  refine bodyPost_ret (results_ct rfl _ _ gb325 52 #[.int .i64 0, .slice none 0 0, .slice none 0 0, .slice none 0 0] (0, 0) _ rfl (bx BK325.out) Try.underlying52 rfl (by kernel_rfl)) rfl ?_
  exact ⟨_, _, _, er, nl, nl, nl, bh HB.out⟩
/-! ### jindex_Follow: function 28 (a contract of the session's own) -/
section
attribute [local go_sem] Oper.semAt_some
def jindex_Follow.T3 : Bool × List (List Nat × List Nat) := (true, [([], []), ([], []), ([1], [1]), ([0, 2], [0, 2]), ([], []), ([4, 3], [4]), ([3, 5], [3, 5]), ([6, 5], [6])])
def jindex_Follow.B3 : List Nat := [0, 0, 2, 7, 0, 31, 63, 127]
theorem jindex_Follow.tab3 : rtab .any (opsOf Try.f28 3) = jindex_Follow.T3 := by kernel_rfl
theorem jindex_Follow.bits3 : waitsOk jindex_Follow.T3.2 jindex_Follow.B3 = true := by kernel_rfl
def jindex_Follow.T8 : Bool × List (List Nat × List Nat) := (true, [([], []), ([], []), ([], []), ([1, 2], [1, 2]), ([3], [3]), ([4], [4]), ([0, 5], [0, 5]), ([6, 6, 0, 1, 2, 3, 4, 5, 6], [6])])
def jindex_Follow.B8 : List Nat := [0, 0, 0, 6, 14, 30, 63, 127]
theorem jindex_Follow.tab8 : rtab .any (opsOf Try.f28 8) = jindex_Follow.T8 := by kernel_rfl
theorem jindex_Follow.bits8 : waitsOk jindex_Follow.T8.2 jindex_Follow.B8 = true := by kernel_rfl
def jindex_Follow.go (l : List Int) : List Int → List Int → Option (List Int)
  | [], o => some o
  | x :: xs, o => if o.length < 1000000000000 then (if 0 ≤ x then (if x < (l.length : Int) then jindex_Follow.go l xs (o ++ [rd l x]) else none) else none) else none
def jindex_Follow.f (k : Nat) (l0 : List Int) (a1_0 : Int) (l1_1 : List (S79)) (l1_2 : List Int) (l1_3 : List Int) : Option (Int × (List (S79)) × List Int × List Int × Int) := (jindex_Check.f k l0).bind fun t => if t = 0 then ((poslist_List_Rank.f k a1_0 l1_1 l1_2 l1_3 (l0.length : Int)).bind fun x => (poslist_List_Count.f k a1_0 l1_1 l1_2 l1_3).bind fun y => if x < y then some (0, ([] : List (S79)), ([] : List Int), ([] : List Int), 3) else (poslist_List_Places.f k a1_0 l1_1 l1_2 l1_3).bind fun xs => (jindex_Follow.go l0 xs []).bind fun o => poslist_From.f k o) else some (0, ([] : List (S79)), ([] : List Int), ([] : List Int), 1)
theorem jindex_Follow.go_snoc (l : List Int) : ∀ (pre : List Int) (x : Int) (o : List Int), jindex_Follow.go l (pre ++ [x]) o = (jindex_Follow.go l pre o).bind fun o1 => if o1.length < 1000000000000 then (if 0 ≤ x then (if x < (l.length : Int) then some (o1 ++ [rd l x]) else none) else none) else none := by
  intro pre
  induction pre with
  | nil => intro x o; rfl
  | cons y ys ih =>
    intro x o
    simp only [List.cons_append, jindex_Follow.go]
    split
    · split
      · split
        · exact ih x _
        · rfl
      · rfl
    · rfl
theorem jindex_Follow.go_pre (l : List Int) : ∀ (pre rest : List Int) (o r : List Int), jindex_Follow.go l (pre ++ rest) o = some r → ∃ o1, jindex_Follow.go l pre o = some o1 := by
  intro pre
  induction pre with
  | nil => intro rest o r h; exact ⟨o, rfl⟩
  | cons y ys ih =>
    intro rest o r h
    simp only [List.cons_append, jindex_Follow.go] at h ⊢
    by_cases hc : o.length < 1000000000000
    · rw [if_pos hc] at h ⊢
      by_cases h0 : 0 ≤ y
      · rw [if_pos h0] at h ⊢
        by_cases h1 : y < (l.length : Int)
        · rw [if_pos h1] at h ⊢; exact ih rest _ r h
        · rw [if_neg h1] at h; cases h
      · rw [if_neg h0] at h; cases h
    · rw [if_neg hc] at h; cases h
set_option maxHeartbeats 8000000 in
set_option maxRecDepth 100000 in
theorem jindex_Follow.calls (k : Nat) (A0 : Option Addr) (c0 : Nat) (l0 : List Int) (a1_0 : Int) (A1_1 : Option Addr) (c1_1 : Nat) (l1_1 : List (S79)) (A1_2 : Option Addr) (c1_2 : Nat) (l1_2 : List Int) (A1_3 : Option Addr) (c1_3 : Nat) (l1_3 : List Int) (r1 : Int) (r2 : List (S79)) (r3 : List Int) (r4 : List Int) (r5 : Int) (w : World) (hr0 : Kd.C (Kd.int .i64) w A0 l0.length l0) (hc0 : l0.length ≤ c0) (hr1_1 : Kd.C k79 w A1_1 l1_1.length l1_1) (hc1_1 : l1_1.length ≤ c1_1) (hr1_2 : Kd.C (Kd.int .i64) w A1_2 l1_2.length l1_2) (hc1_2 : l1_2.length ≤ c1_2) (hr1_3 : Kd.C (Kd.int .i64) w A1_3 l1_3.length l1_3) (hc1_3 : l1_3.length ≤ c1_3) (h : jindex_Follow.f k l0 a1_0 l1_1 l1_2 l1_3 = some (r1, r2, r3, r4, r5)) :
    Calls Try.prog 28 #[.slice A0 l0.length c0, .agg #[.int .i64 a1_0, .slice A1_1 l1_1.length c1_1, .slice A1_2 l1_2.length c1_2, .slice A1_3 l1_3.length c1_3]] w fun e w' => ∃ v1_ v2_ v3_ : Value, e = .returned (.tuple #[.agg #[.int .i64 r1, v1_, v2_, v3_], .int .i64 r5]) ∧ Kd.R k79 79 w' w.heap.size (fun _ => True) v1_ r2 ∧ Kd.R (Kd.int .i64) 3 w' w.heap.size (fun k_ => some k_ ≠ (v3_ : Value).ownBlock) v2_ r3 ∧ Kd.R (Kd.int .i64) 3 w' w.heap.size (fun k_ => some k_ ≠ (v2_ : Value).ownBlock) v3_ r4 ∧ Below w.heap.size w w' := by
  have hu27 := Try.underlying52
  have HR0 := Aside0.mk hr0
  have HC0 := Aside0.mk hc0
  clear hr0 hc0
  have HR1_1 := Aside0.mk hr1_1
  have HC1_1 := Aside0.mk hc1_1
  clear hr1_1 hc1_1
  have HR1_2 := Aside0.mk hr1_2
  have HC1_2 := Aside0.mk hc1_2
  clear hr1_2 hc1_2
  have HR1_3 := Aside0.mk hr1_3
  have HC1_3 := Aside0.mk hc1_3
  clear hr1_3 hc1_3
  have HB := Aside0.mk (Below.refl w.heap.size w)
  obtain ⟨t0, A0_, H⟩ := Option.bind_eq_some_iff.mp h
  clear h
  have H0 := Aside0.mk A0_
  clear A0_
  try dsimp only at H
  refine (callsIn_wide (n := 4)).1 ?_
  refine callsIn_of_wp_marks Try.func28 rfl trivial ?_ rfl
  simp only [Try.ntmps28, List.size_toArray, List.length_cons, List.length_nil, Nat.reduceAdd, Nat.reduceSub, Array.replicate_succ, Array.replicate_zero, List.push_toArray, List.append_toArray, List.nil_append, List.cons_append]
  refine wpIn_wide.2 ?_
  by_cases q0 : t0 = 0
  rotate_left
  · rw [if_neg q0] at H
    have c0b : (t0 == 0) = false := beq_eq_false_iff_ne.mpr q0
    have c0d : (t0 != 0) = true := bne_iff_ne.mpr q0
    clear q0
    simp only [Option.some.injEq, Prod.mk.injEq] at H
    obtain ⟨rfl, rfl, rfl, rfl, rfl⟩ := H
    go_wp2_with (first | ((with_reducible refine gate_dst (N := 2) rfl ?_); refine box_event ?hg (N := 2) ?hd (cs := #[.slice A0 l0.length c0]) (t := 22) ?hr ?_; (case hd => rfl); (case hg => rfl); (case hr => first | (go_simp; done) | (go_simp; rfl)); intro gl hg w2 hbox hb; have n0_ := Aside0.mk (below_step HB.out hb); have n1_ := Aside0.mk (hbox); have n2_ := Aside0.mk ((by rw [hg]; exact below_size HB.out : w.heap.size ≤ gl)); clear HB; have HB := n0_; have BKl := n1_; have GEl := n2_; clear n0_ n1_ n2_ hb hbox hg) | ((with_reducible refine gate_dst (N := 3) rfl ?_); refine box_event ?hg (N := 3) ?hd (cs := #[.int .i64 a1_0, .slice A1_1 l1_1.length c1_1, .slice A1_2 l1_2.length c1_2, .slice A1_3 l1_3.length c1_3]) (t := 52) ?hr ?_; (case hd => rfl); (case hg => rfl); (case hr => first | (go_simp; done) | (go_simp; rfl)); intro gp hg w3 hbox hb; have n0_ := Aside0.mk (below_step HB.out hb); have n1_ := Aside0.mk (blk_below BKl.out hb); have n2_ := Aside0.mk (hbox); have n3_ := Aside0.mk ((by rw [hg]; exact below_size HB.out : w.heap.size ≤ gp)); have n4_ := Aside0.mk ((by rw [hg]; exact Nat.ne_of_lt (blk_lt BKl.out) : gl ≠ gp)); have n5_ := Aside0.mk ((by rw [hg]; exact (Nat.ne_of_lt (blk_lt BKl.out)).symm : gp ≠ gl)); clear HB BKl; have HB := n0_; have BKl := n1_; have BKp := n2_; have GEp := n3_; have NBlp := n4_; have NBpl := n5_; clear n0_ n1_ n2_ n3_ n4_ n5_ hb hbox hg) | ((with_reducible refine gate_dst (N := 4) rfl ?_); refine box_event ?hg (N := 4) ?hd (cs := #[.int .i64 0, .slice none 0 0, .slice none 0 0, .slice none 0 0]) (t := 52) ?hr ?_; (case hd => rfl); (case hg => rfl); (case hr => first | (go_simp; done) | (go_simp; rfl)); intro g4 hg w4 hbox hb; have n0_ := Aside0.mk (below_step HB.out hb); have n1_ := Aside0.mk (blk_below BKl.out hb); have n2_ := Aside0.mk (blk_below BKp.out hb); have n3_ := Aside0.mk (hbox); have n4_ := Aside0.mk ((by rw [hg]; exact below_size HB.out : w.heap.size ≤ g4)); have n5_ := Aside0.mk ((by rw [hg]; exact Nat.ne_of_lt (blk_lt BKl.out) : gl ≠ g4)); have n6_ := Aside0.mk ((by rw [hg]; exact (Nat.ne_of_lt (blk_lt BKl.out)).symm : g4 ≠ gl)); have n7_ := Aside0.mk ((by rw [hg]; exact Nat.ne_of_lt (blk_lt BKp.out) : gp ≠ g4)); have n8_ := Aside0.mk ((by rw [hg]; exact (Nat.ne_of_lt (blk_lt BKp.out)).symm : g4 ≠ gp)); clear HB BKl BKp; have HB := n0_; have BKl := n1_; have BKp := n2_; have BK4 := n3_; have GE4 := n4_; have NBl4 := n5_; have NB4l := n6_; have NBp4 := n7_; have NB4p := n8_; clear n0_ n1_ n2_ n3_ n4_ n5_ n6_ n7_ n8_ hb hbox hg; have hcl0 : w4.cell? ⟨gl, 0, none⟩ = some (.slice A0 l0.length c0) := (blk_cell BKl.out 0).trans rfl; have hfl0 := blk_frozen BKl.out 0) | (go_at_call 10; (with_reducible refine (jindex_Check.calls k A0 c0 l0 t0 _ ?s1 ?s2 H0.out).mono ?_); (case s1 => exact Kd.C_below HR0.out HB.out); (case s2 => exact HC0.out); rintro e w5 ⟨rfl, hb⟩; have n0_ := Aside0.mk (below_step HB.out hb); have n1_ := Aside0.mk (blk_below BKl.out hb); have n2_ := Aside0.mk (blk_below BKp.out hb); have n3_ := Aside0.mk (blk_below BK4.out hb); clear HB BKl BKp BK4; have HB := n0_; have BKl := n1_; have BKp := n2_; have BK4 := n3_; clear n0_ n1_ n2_ n3_ hb; have hc40 : w5.cell? ⟨g4, 0, none⟩ = some (.int .i64 0) := (blk_cell BK4.out 0).trans rfl; have hc41 : w5.cell? ⟨g4, 1, none⟩ = some (.slice none 0 0) := (blk_cell BK4.out 1).trans rfl; have hc42 : w5.cell? ⟨g4, 2, none⟩ = some (.slice none 0 0) := (blk_cell BK4.out 2).trans rfl; have hc43 : w5.cell? ⟨g4, 3, none⟩ = some (.slice none 0 0) := (blk_cell BK4.out 3).trans rfl; have hf40 := blk_frozen BK4.out 0; have hf41 := blk_frozen BK4.out 1; have hf42 := blk_frozen BK4.out 2; have hf43 := blk_frozen BK4.out 3))
    refine ⟨_, results_ct rfl _ _ g4 52 #[.int .i64 0, .slice none 0 0, .slice none 0 0, .slice none 0 0] (0, 0) _ rfl (by (with_reducible repeat (first | refine blk_drewN ?_ _ | refine blk_drew ?_ | refine blk_alloc ?_ _)); refine blk_put (cs := #[.int .i64 0, .slice none 0 0, .slice none 0 0, .slice none 0 0]) ?_ 3 _ rfl; (with_reducible repeat (first | refine blk_drewN ?_ _ | refine blk_drew ?_ | refine blk_alloc ?_ _)); refine blk_put (cs := #[.int .i64 0, .slice none 0 0, .slice none 0 0, .slice none 0 0]) ?_ 2 _ rfl; (with_reducible repeat (first | refine blk_drewN ?_ _ | refine blk_drew ?_ | refine blk_alloc ?_ _)); refine blk_put (cs := #[.int .i64 0, .slice none 0 0, .slice none 0 0, .slice none 0 0]) ?_ 1 _ rfl; (with_reducible repeat (first | refine blk_drewN ?_ _ | refine blk_drew ?_ | refine blk_alloc ?_ _)); refine blk_put (cs := #[.int .i64 0, .slice none 0 0, .slice none 0 0, .slice none 0 0]) ?_ 0 _ rfl; (with_reducible repeat (first | refine blk_drewN ?_ _ | refine blk_drew ?_ | refine blk_alloc ?_ _)); exact BK4.out) Try.underlying52 rfl (by kernel_rfl), ?_⟩
    exact ⟨_, _, _, rfl, Kd.R_nil _ _ _ _ _, Kd.R_nil _ _ _ _ _, Kd.R_nil _ _ _ _ _, bh HB.out⟩
  rw [if_pos q0] at H
  subst q0
  obtain ⟨x0, A1_, H⟩ := Option.bind_eq_some_iff.mp H
  have H1 := Aside0.mk A1_
  clear A1_
  obtain ⟨y0, A2_, H⟩ := Option.bind_eq_some_iff.mp H
  have H2 := Aside0.mk A2_
  clear A2_
  try dsimp only at H
  go_wp2_with (first | ((with_reducible refine gate_dst (N := 2) rfl ?_); refine box_event ?hg (N := 2) ?hd (cs := #[.slice A0 l0.length c0]) (t := 22) ?hr ?_; (case hd => rfl); (case hg => rfl); (case hr => first | (go_simp; done) | (go_simp; rfl)); intro gl hg w2 hbox hb; have n0_ := Aside0.mk (below_step HB.out hb); have n1_ := Aside0.mk (hbox); have n2_ := Aside0.mk ((by rw [hg]; exact below_size HB.out : w.heap.size ≤ gl)); clear HB; have HB := n0_; have BKl := n1_; have GEl := n2_; clear n0_ n1_ n2_ hb hbox hg) | ((with_reducible refine gate_dst (N := 3) rfl ?_); refine box_event ?hg (N := 3) ?hd (cs := #[.int .i64 a1_0, .slice A1_1 l1_1.length c1_1, .slice A1_2 l1_2.length c1_2, .slice A1_3 l1_3.length c1_3]) (t := 52) ?hr ?_; (case hd => rfl); (case hg => rfl); (case hr => first | (go_simp; done) | (go_simp; rfl)); intro gp hg w3 hbox hb; have n0_ := Aside0.mk (below_step HB.out hb); have n1_ := Aside0.mk (blk_below BKl.out hb); have n2_ := Aside0.mk (hbox); have n3_ := Aside0.mk ((by rw [hg]; exact below_size HB.out : w.heap.size ≤ gp)); have n4_ := Aside0.mk ((by rw [hg]; exact Nat.ne_of_lt (blk_lt BKl.out) : gl ≠ gp)); have n5_ := Aside0.mk ((by rw [hg]; exact (Nat.ne_of_lt (blk_lt BKl.out)).symm : gp ≠ gl)); clear HB BKl; have HB := n0_; have BKl := n1_; have BKp := n2_; have GEp := n3_; have NBlp := n4_; have NBpl := n5_; clear n0_ n1_ n2_ n3_ n4_ n5_ hb hbox hg) | ((with_reducible refine gate_dst (N := 4) rfl ?_); refine box_event ?hg (N := 4) ?hd (cs := #[.int .i64 0, .slice none 0 0, .slice none 0 0, .slice none 0 0]) (t := 52) ?hr ?_; (case hd => rfl); (case hg => rfl); (case hr => first | (go_simp; done) | (go_simp; rfl)); intro g4 hg w4 hbox hb; have n0_ := Aside0.mk (below_step HB.out hb); have n1_ := Aside0.mk (blk_below BKl.out hb); have n2_ := Aside0.mk (blk_below BKp.out hb); have n3_ := Aside0.mk (hbox); have n4_ := Aside0.mk ((by rw [hg]; exact below_size HB.out : w.heap.size ≤ g4)); have n5_ := Aside0.mk ((by rw [hg]; exact Nat.ne_of_lt (blk_lt BKl.out) : gl ≠ g4)); have n6_ := Aside0.mk ((by rw [hg]; exact (Nat.ne_of_lt (blk_lt BKl.out)).symm : g4 ≠ gl)); have n7_ := Aside0.mk ((by rw [hg]; exact Nat.ne_of_lt (blk_lt BKp.out) : gp ≠ g4)); have n8_ := Aside0.mk ((by rw [hg]; exact (Nat.ne_of_lt (blk_lt BKp.out)).symm : g4 ≠ gp)); clear HB BKl BKp; have HB := n0_; have BKl := n1_; have BKp := n2_; have BK4 := n3_; have GE4 := n4_; have NBl4 := n5_; have NB4l := n6_; have NBp4 := n7_; have NB4p := n8_; clear n0_ n1_ n2_ n3_ n4_ n5_ n6_ n7_ n8_ hb hbox hg; have hcl0 : w4.cell? ⟨gl, 0, none⟩ = some (.slice A0 l0.length c0) := (blk_cell BKl.out 0).trans rfl; have hfl0 := blk_frozen BKl.out 0) | (go_at_call 10; (with_reducible refine (jindex_Check.calls k A0 c0 l0 0 _ ?s1 ?s2 H0.out).mono ?_); (case s1 => exact Kd.C_below HR0.out HB.out); (case s2 => exact HC0.out); rintro e w5 ⟨rfl, hb⟩; have n0_ := Aside0.mk (below_step HB.out hb); have n1_ := Aside0.mk (blk_below BKl.out hb); have n2_ := Aside0.mk (blk_below BKp.out hb); have n3_ := Aside0.mk (blk_below BK4.out hb); clear HB BKl BKp BK4; have HB := n0_; have BKl := n1_; have BKp := n2_; have BK4 := n3_; clear n0_ n1_ n2_ n3_ hb; have hc40 : w5.cell? ⟨g4, 0, none⟩ = some (.int .i64 0) := (blk_cell BK4.out 0).trans rfl; have hc41 : w5.cell? ⟨g4, 1, none⟩ = some (.slice none 0 0) := (blk_cell BK4.out 1).trans rfl; have hc42 : w5.cell? ⟨g4, 2, none⟩ = some (.slice none 0 0) := (blk_cell BK4.out 2).trans rfl; have hc43 : w5.cell? ⟨g4, 3, none⟩ = some (.slice none 0 0) := (blk_cell BK4.out 3).trans rfl; have hf40 := blk_frozen BK4.out 0; have hf41 := blk_frozen BK4.out 1; have hf42 := blk_frozen BK4.out 2; have hf43 := blk_frozen BK4.out 3))
  replace BKl := Aside0.mk (blk_drew BKl.out)
  replace BKp := Aside0.mk (blk_drew BKp.out)
  replace BK4 := Aside0.mk (blk_drew BK4.out)
  replace HB := Aside0.mk (below_drew1 HB.out)
  refine XR.nopan_wp ?_
  refine start_ (n := 8) (S := fun w' => w'.cell? ⟨gp, 0, none⟩ = some (Value.int .i64 a1_0) ∧ w'.cell? ⟨gp, 1, none⟩ = some (.slice A1_1 l1_1.length c1_1) ∧ w'.cell? ⟨gp, 2, none⟩ = some (.slice A1_2 l1_2.length c1_2) ∧ w'.cell? ⟨gp, 3, none⟩ = some (.slice A1_3 l1_3.length c1_3) ∧ w'.cell? ⟨gl, 0, none⟩ = some (.slice A0 l0.length c0)) (ds := []) #[false, false, false, false, false, false, false, false] (by kernel_rfl) rfl rfl ⟨(blk_cell BKp.out 0).trans rfl, (blk_cell BKp.out 1).trans rfl, (blk_cell BKp.out 2).trans rfl, (blk_cell BKp.out 3).trans rfl, (blk_cell BKl.out 0).trans rfl⟩ (fun hHeld => ?_); refine with_tabW jindex_Follow.tab3 jindex_Follow.bits3 (fun HT_ HW_ => ?_)
  generalize World.drew _ = w7 at BKl BKp BK4 HB hHeld ⊢
  refine take_ (i := 0) (N := some 14) (v := ?_) (a' := ?_) #[true, false, false, false, false, false, false, false] rfl rfl (take_ofW HT_.out HW_.out (by kernel_rfl)) (fun _ _ _ h => h) (Or.inl ⟨by rfl, ?_⟩) hHeld ?_ ?_
  rotate_left
  · rintro w' ⟨s0, s1, s2, s3, s4⟩
    go_simp
    with_reducible rfl
  rotate_left
  · simp only [Act.put, List.setIfInBounds_toArray, List.set_cons_zero, List.set_cons_succ, i64_w, i32_w]
    rfl
  refine take_ (i := 1) (N := some 15) (v := ?_) (a' := ?_) #[true, true, false, false, false, false, false, false] rfl rfl (take_ofW HT_.out HW_.out (by kernel_rfl)) (fun _ _ _ h => h) (Or.inl ⟨by rfl, ?_⟩) hHeld ?_ ?_
  rotate_left
  · rintro w' ⟨s0, s1, s2, s3, s4⟩
    go_simp
    with_reducible rfl
  rotate_left
  · simp only [Act.put, List.setIfInBounds_toArray, List.set_cons_zero, List.set_cons_succ, i64_w, i32_w]
    rfl
  refine pure_ (i := 2) (N := some 16) (v := ?_) (a' := ?_) #[true, true, true, false, false, false, false, false] rfl rfl (any_of HT_.out (by kernel_rfl)) (fun _ _ _ h => h) (Or.inl ⟨by rfl, ?_⟩) ?_ ?_
  rotate_left
  · intro w'
    go_simp
    with_reducible rfl
  rotate_left
  · simp only [Act.put, List.setIfInBounds_toArray, List.set_cons_zero, List.set_cons_succ, i64_w, i32_w]
    rfl
  refine take_ (i := 4) (N := some 18) (v := ?_) (a' := ?_) #[true, true, true, false, true, false, false, false] rfl rfl (take_ofW HT_.out HW_.out (by kernel_rfl)) (fun _ _ _ h => h) (Or.inl ⟨by rfl, ?_⟩) hHeld ?_ ?_
  rotate_left
  · rintro w' ⟨s0, s1, s2, s3, s4⟩
    go_simp
    with_reducible rfl
  rotate_left
  · simp only [Act.put, List.setIfInBounds_toArray, List.set_cons_zero, List.set_cons_succ, i64_w, i32_w]
    rfl
  refine one_ (i := 3) (N := some 17) #[true, true, true, true, true, false, false, false] rfl rfl (one_of HT_.out (by kernel_rfl)) (by decide) (fun K hK => ?_)
  refine goes_ Try.func58 (by kernel_rfl) rfl #[.agg #[.int .i64 a1_0, .slice A1_1 l1_1.length c1_1, .slice A1_2 l1_2.length c1_2, .slice A1_3 l1_3.length c1_3], .int .i64 (l0.length : Int)] (by rfl) rfl rfl (by (try simp only [List.map_toArray, List.map_cons, List.map_nil]); first | done | rfl) ?_
  with_reducible refine (poslist_List_Rank.calls k a1_0 _ _ l1_1 _ _ l1_2 _ _ l1_3 (l0.length : Int) x0 _ ?a1 ?b1 ?a2 ?b2 ?a3 ?b3 H1.out).mono ?_
  (case a1 => exact cx (Kd.C_below HR1_1.out HB.out))
  (case b1 => exact HC1_1.out)
  (case a2 => exact cx (Kd.C_below HR1_2.out HB.out))
  (case b2 => exact HC1_2.out)
  (case a3 => exact cx (Kd.C_below HR1_3.out HB.out))
  (case b3 => exact HC1_3.out)
  rintro e w8 ⟨rfl, hb⟩
  refine ⟨_, rfl, ?_⟩
  replace BKl := bba BKl hb
  replace BKp := bba BKp hb
  replace BK4 := bba BK4 hb
  replace HB := bsa HB hb
  clear hb
  refine hK.out _ _ ⟨(blk_cell BKp.out 0).trans rfl, (blk_cell BKp.out 1).trans rfl, (blk_cell BKp.out 2).trans rfl, (blk_cell BKp.out 3).trans rfl, (blk_cell BKl.out 0).trans rfl⟩ (fun hHeld => ?_)
  clear hK K
  refine norm_ (a' := ?_) ?_ ?_
  rotate_left
  · show Act.put _ (some 17) _ = _
    simp only [Act.put, List.setIfInBounds_toArray, List.set_cons_zero, List.set_cons_succ, i64_w, i32_w]
    rfl
  refine one_ (i := 5) (N := some 19) #[true, true, true, true, true, true, false, false] rfl rfl (one_of HT_.out (by kernel_rfl)) (by decide) (fun K hK => ?_)
  refine goes_ Try.func35 (by kernel_rfl) rfl #[.agg #[.int .i64 a1_0, .slice A1_1 l1_1.length c1_1, .slice A1_2 l1_2.length c1_2, .slice A1_3 l1_3.length c1_3]] (by rfl) rfl rfl (by (try simp only [List.map_toArray, List.map_cons, List.map_nil]); first | done | rfl) ?_
  with_reducible refine (poslist_List_Count.calls k a1_0 _ _ l1_1 _ _ l1_2 _ _ l1_3 y0 _ ?a1 ?b1 ?a2 ?b2 ?a3 ?b3 H2.out).mono ?_
  (case a1 => exact cx (Kd.C_below HR1_1.out HB.out))
  (case b1 => exact HC1_1.out)
  (case a2 => exact cx (Kd.C_below HR1_2.out HB.out))
  (case b2 => exact HC1_2.out)
  (case a3 => exact cx (Kd.C_below HR1_3.out HB.out))
  (case b3 => exact HC1_3.out)
  rintro e w9 ⟨rfl, hb⟩
  refine ⟨_, rfl, ?_⟩
  replace BKl := bba BKl hb
  replace BKp := bba BKp hb
  replace BK4 := bba BK4 hb
  replace HB := bsa HB hb
  clear hb
  refine hK.out _ _ ⟨(blk_cell BKp.out 0).trans rfl, (blk_cell BKp.out 1).trans rfl, (blk_cell BKp.out 2).trans rfl, (blk_cell BKp.out 3).trans rfl, (blk_cell BKl.out 0).trans rfl⟩ (fun hHeld => ?_)
  clear hK K
  refine norm_ (a' := ?_) ?_ ?_
  rotate_left
  · show Act.put _ (some 19) _ = _
    simp only [Act.put, List.setIfInBounds_toArray, List.set_cons_zero, List.set_cons_succ, i64_w, i32_w]
    rfl
  refine pure_ (i := 6) (N := some 20) (v := ?_) (a' := ?_) #[true, true, true, true, true, true, true, false] rfl rfl (any_of HT_.out (by kernel_rfl)) (fun _ _ _ h => h) (Or.inl ⟨by rfl, ?_⟩) ?_ ?_
  rotate_left
  · intro w'
    go_simp
    with_reducible rfl
  rotate_left
  · simp only [Act.put, List.setIfInBounds_toArray, List.set_cons_zero, List.set_cons_succ, i64_w, i32_w]
    rfl
  refine pure_ (i := 7) (N := some 13) (v := ?_) (a' := ?_) #[true, true, true, true, true, true, true, true] rfl rfl (any_of HT_.out (by kernel_rfl)) (fun _ _ _ h => h) (Or.inl ⟨by rfl, ?_⟩) ?_ ?_
  rotate_left
  · intro w'
    go_simp
    with_reducible rfl
  rotate_left
  · simp only [Act.put, List.setIfInBounds_toArray, List.set_cons_zero, List.set_cons_succ, i64_w, i32_w]
    rfl
  refine done_ (done_of HT_.out (by kernel_rfl)) ?_
  refine XR.nopan_done ?_
  clear HT_ HW_ hHeld
  by_cases c1 : x0 < y0
  · rw [if_pos c1] at H
    have c1b : decide (x0 < y0) = true := decide_eq_true c1
    clear c1
    simp only [Option.some.injEq, Prod.mk.injEq] at H
    obtain ⟨rfl, rfl, rfl, rfl, rfl⟩ := H
    have hc40 : w9.cell? ⟨g4, 0, none⟩ = some (.int .i64 0) := (blk_cell BK4.out 0).trans rfl
    have hc41 : w9.cell? ⟨g4, 1, none⟩ = some (.slice none 0 0) := (blk_cell BK4.out 1).trans rfl
    have hc42 : w9.cell? ⟨g4, 2, none⟩ = some (.slice none 0 0) := (blk_cell BK4.out 2).trans rfl
    have hc43 : w9.cell? ⟨g4, 3, none⟩ = some (.slice none 0 0) := (blk_cell BK4.out 3).trans rfl
    have hf40 := blk_frozen BK4.out 0
    have hf41 := blk_frozen BK4.out 1
    have hf42 := blk_frozen BK4.out 2
    have hf43 := blk_frozen BK4.out 3
    rw [c1b]
    go_wp2
    refine ⟨_, results_ct rfl _ _ g4 52 #[.int .i64 0, .slice none 0 0, .slice none 0 0, .slice none 0 0] (0, 0) _ rfl (by (with_reducible repeat (first | refine blk_drewN ?_ _ | refine blk_drew ?_ | refine blk_alloc ?_ _)); refine blk_put (cs := #[.int .i64 0, .slice none 0 0, .slice none 0 0, .slice none 0 0]) ?_ 3 _ rfl; (with_reducible repeat (first | refine blk_drewN ?_ _ | refine blk_drew ?_ | refine blk_alloc ?_ _)); refine blk_put (cs := #[.int .i64 0, .slice none 0 0, .slice none 0 0, .slice none 0 0]) ?_ 2 _ rfl; (with_reducible repeat (first | refine blk_drewN ?_ _ | refine blk_drew ?_ | refine blk_alloc ?_ _)); refine blk_put (cs := #[.int .i64 0, .slice none 0 0, .slice none 0 0, .slice none 0 0]) ?_ 1 _ rfl; (with_reducible repeat (first | refine blk_drewN ?_ _ | refine blk_drew ?_ | refine blk_alloc ?_ _)); refine blk_put (cs := #[.int .i64 0, .slice none 0 0, .slice none 0 0, .slice none 0 0]) ?_ 0 _ rfl; (with_reducible repeat (first | refine blk_drewN ?_ _ | refine blk_drew ?_ | refine blk_alloc ?_ _)); exact BK4.out) Try.underlying52 rfl (by kernel_rfl), ?_⟩
    exact ⟨_, _, _, rfl, Kd.R_nil _ _ _ _ _, Kd.R_nil _ _ _ _ _, Kd.R_nil _ _ _ _ _, bh HB.out⟩
  rw [if_neg c1] at H
  have c1b : decide (x0 < y0) = false := decide_eq_false c1
  clear c1
  obtain ⟨xs, A3_, H⟩ := Option.bind_eq_some_iff.mp H
  have H3 := Aside0.mk A3_
  clear A3_
  obtain ⟨o, A4_, H⟩ := Option.bind_eq_some_iff.mp H
  have H4 := Aside0.mk A4_
  clear A4_
  have H5 := Aside0.mk H
  clear H
  rw [c1b]
  go_wp2_with (first | ((with_reducible refine gate_dst (N := 6) rfl ?_); refine box_event ?hg (N := 6) ?hd (cs := #[.slice none 0 0]) (t := 22) ?hr ?_; (case hd => rfl); (case hg => rfl); (case hr => first | (go_simp; done) | (go_simp; rfl)); intro gu hg w9u hbox hb; have n0_ := Aside0.mk (below_step HB.out hb); have n1_ := Aside0.mk (blk_below BKl.out hb); have n2_ := Aside0.mk (blk_below BKp.out hb); have n3_ := Aside0.mk (blk_below BK4.out hb); have n4_ := Aside0.mk (hbox); have n5_ := Aside0.mk ((by rw [hg]; exact below_size HB.out : w.heap.size ≤ gu)); have n6_ := Aside0.mk ((by rw [hg]; exact Nat.ne_of_lt (blk_lt BKl.out) : gl ≠ gu)); have n7_ := Aside0.mk ((by rw [hg]; exact (Nat.ne_of_lt (blk_lt BKl.out)).symm : gu ≠ gl)); have n8_ := Aside0.mk ((by rw [hg]; exact Nat.ne_of_lt (blk_lt BKp.out) : gp ≠ gu)); have n9_ := Aside0.mk ((by rw [hg]; exact (Nat.ne_of_lt (blk_lt BKp.out)).symm : gu ≠ gp)); have n10_ := Aside0.mk ((by rw [hg]; exact Nat.ne_of_lt (blk_lt BK4.out) : g4 ≠ gu)); have n11_ := Aside0.mk ((by rw [hg]; exact (Nat.ne_of_lt (blk_lt BK4.out)).symm : gu ≠ g4)); clear HB BKl BKp BK4; have HB := n0_; have BKl := n1_; have BKp := n2_; have BK4 := n3_; have BKu := n4_; have GEu := n5_; have NBlu := n6_; have NBul := n7_; have NBpu := n8_; have NBup := n9_; have NB4u := n10_; have NBu4 := n11_; clear n0_ n1_ n2_ n3_ n4_ n5_ n6_ n7_ n8_ n9_ n10_ n11_ hb hbox hg; have hlu6 := Aside0.mk (blk_lt BKu.out); have hcp0 : w9u.cell? ⟨gp, 0, none⟩ = some (Value.int .i64 a1_0) := (blk_cell BKp.out 0).trans rfl; have hcp1 : w9u.cell? ⟨gp, 1, none⟩ = some (.slice A1_1 l1_1.length c1_1) := (blk_cell BKp.out 1).trans rfl; have hcp2 : w9u.cell? ⟨gp, 2, none⟩ = some (.slice A1_2 l1_2.length c1_2) := (blk_cell BKp.out 2).trans rfl; have hcp3 : w9u.cell? ⟨gp, 3, none⟩ = some (.slice A1_3 l1_3.length c1_3) := (blk_cell BKp.out 3).trans rfl; have hfp0 := blk_frozen BKp.out 0; have hfp1 := blk_frozen BKp.out 1; have hfp2 := blk_frozen BKp.out 2; have hfp3 := blk_frozen BKp.out 3) | (go_at_call 59; (with_reducible refine (poslist_List_Places.calls k _ _ _ _ _ _ _ _ _ _ xs w _ HB.out ?a1 ?b1 ?a2 ?b2 ?a3 ?b3 H3.out).mono ?_); (case a1 => exact HR1_1.out); (case b1 => exact HC1_1.out); (case a2 => exact HR1_2.out); (case b2 => exact HC1_2.out); (case a3 => exact HR1_3.out); (case b3 => exact HC1_3.out); rintro e w10 ⟨gI, gi, rfl, hen, hgi, hlti, hit, hb⟩; have n0_ := Aside0.mk (below_step HB.out hb); have n1_ := Aside0.mk (blk_below BKl.out hb); have n2_ := Aside0.mk (blk_below BKp.out hb); have n3_ := Aside0.mk (blk_below BK4.out hb); have n4_ := Aside0.mk (blk_below BKu.out hb); clear HB BKl BKp BK4 BKu; have HB := n0_; have BKl := n1_; have BKp := n2_; have BK4 := n3_; have BKu := n4_; clear n0_ n1_ n2_ n3_ n4_ hb) | go_in)
  refine (wpIn_wide (n := 4)).1 ?_
  refine XR.wp_range (α := Int) (w0 := w) (by decide) (gf := gI) (lb := #[.pointer (some ⟨gi, 0, none⟩)]) rfl hen hit
    (by rintro k_ rfl; exact hlti) (fun _ => rfl)
    (fun G_ pre X => ∃ (o1 : List Int) (v : Value), jindex_Follow.go l0 pre [] = some o1 ∧ X.heap[gu]? = some (.cells #[v] 22 (0, 0)) ∧ Kd.R (Kd.int .i64) 3 X w.heap.size (fun k_ => w.heap.size ≤ k_ ∧ (k_ ≠ gl ∧ k_ ≠ gp ∧ k_ ≠ g4 ∧ k_ ≠ gu ∧ k_ ≠ gi ∧ k_ ≠ w10.heap.size ∧ k_ ≠ w10.heap.size + 1 ∧ ¬ G_ k_)) v o1 ∧ X.heap[gl]? = some (.cells #[.slice A0 l0.length c0] 22 (0, 0)) ∧ X.heap[g4]? = some (.cells #[.int .i64 0, .slice none 0 0, .slice none 0 0, .slice none 0 0] 52 (0, 0)) ∧ Below w.heap.size w X)
    (fun _ _ _ => False)
    ?hI ?hIG (fun _ _ _ _ h _ => h) ?hIB ?hIp (fun _ _ _ _ _ h _ _ _ => h) ?h0
    (fun Y x a' Z => a' = { tmps := #[.slice A0 l0.length c0, .agg #[.int .i64 a1_0, .slice A1_1 l1_1.length c1_1, .slice A1_2 l1_2.length c1_2, .slice A1_3 l1_3.length c1_3], .pointer (some ⟨gl, 0, none⟩), .pointer (some ⟨gp, 0, none⟩), .pointer (some ⟨g4, 0, none⟩), .int .i64 0, .pointer (some ⟨gu, 0, none⟩), .int .i64 x, .bool false, .slice A0 l0.length c0, .int .i64 0, .bool false, undef, .bool false, .agg #[.int .i64 a1_0, .slice A1_1 l1_1.length c1_1, .slice A1_2 l1_2.length c1_2, .slice A1_3 l1_3.length c1_3], .slice A0 l0.length c0, .int .i64 (l0.length : Int), .int .i64 x0, .agg #[.int .i64 a1_0, .slice A1_1 l1_1.length c1_1, .slice A1_2 l1_2.length c1_2, .slice A1_3 l1_3.length c1_3], .int .i64 y0, .bool false, undef, .agg #[.int .i64 a1_0, .slice A1_1 l1_1.length c1_1, .slice A1_2 l1_2.length c1_2, .slice A1_3 l1_3.length c1_3], .func (.func gI) #[] #[.pointer (some ⟨gi, 0, none⟩)], .int .i64 x, undef, undef, undef, undef, undef, undef, undef, undef, undef, undef, undef], defers := [] })
    ?hAx ?assign ?body ?done ?stop
  case hI =>
    rintro G_ pre X Y ⟨o1, v, hg, ho, hr, hfl, hf4, hb⟩ hXY
    exact ⟨o1, v, hg, blk_below ho hXY, Kd.R_below hr hXY, blk_below hfl hXY, blk_below hf4 hXY,  below_step hb hXY⟩
  case hIG =>
    rintro G_ G2_ pre X ⟨o1, v, hg, ho, hr, hfl, hf4, hb⟩ hG
    refine ⟨o1, v, hg, ho, Kd.R_mono (Kd.R_tight rfl hr) (fun k_ hk => ?_), hfl, hf4,  hb⟩
    have hq := hr.1 k_ hk.symm
    have hlt := Kd.R_lt hr k_ hk.symm
    exact ⟨hq.1, hq.2.1, hq.2.2.1, hq.2.2.2.1, hq.2.2.2.2.1, hq.2.2.2.2.2.1, hq.2.2.2.2.2.2.1, hq.2.2.2.2.2.2.2.1, fun h2 => (hG k_ h2).elim hq.2.2.2.2.2.2.2.2 (fun z => by omega)⟩
  case hIB =>
    rintro G_ pre X ⟨o1, v, hg, ho, hr, hfl, hf4, hb⟩
    exact hb
  case hIp =>
    rintro G_ pre X l o2 ⟨o1, v, hg, ho, hr, hfl, hf4, hb⟩ hl hl2 hlt
    have hnl : l ≠ gl := by have := blk_lt BKl.out; omega
    have hnp : l ≠ gp := by have := blk_lt BKp.out; omega
    have hn4 : l ≠ g4 := by have := blk_lt BK4.out; omega
    have hnu : l ≠ gu := by have := blk_lt BKu.out; omega
    refine ⟨o1, v, hg, (World.putObj_heap_other (Ne.symm hnu)).trans ho, ?_, (World.putObj_heap_other (Ne.symm hnl)).trans hfl, (World.putObj_heap_other (Ne.symm hn4)).trans hf4,  XR.below_putObj hb (by have := HB.out.size; omega) hlt o2⟩
    exact Kd.R_step hr (fun k_ hk _ => World.putObj_heap_other (by have h5 := hk.2.2.2.2.2.2.1; have h6 := hk.2.2.2.2.2.2.2.1; omega))
  case h0 => exact ⟨[], _, rfl, BKu.out, Kd.R_nil _ _ _ _ _, BKl.out, BK4.out,  HB.out⟩
  case hAx =>
    rintro Y x a' Z l o2 rfl hl hl2 hlt
    rfl
  case assign =>
    intro G_ pre x Y hI hsz
    gi_wp2
    exact ⟨Below.refl _ Y, trivial⟩
  case body =>
    rintro G_ pre x rest Y Z a' hx hGY ⟨o1, v, hg, ho, hr, hfl, hf4, hb⟩ hsX hYZ rfl
    have hlu : gu < w10.heap.size := blk_lt BKu.out
    have hll : gl < w10.heap.size := blk_lt BKl.out
    have hlp : gp < w10.heap.size := blk_lt BKp.out
    have hl4 : g4 < w10.heap.size := blk_lt BK4.out
    have hli : gi < w10.heap.size := hlti
    have NBui : gu ≠ gi := by have := hgi; have := hlu6.out; omega
    have hsn := jindex_Follow.go_snoc l0 pre x []
    rw [hg] at hsn
    simp only [Option.bind_some] at hsn
    obtain ⟨o2, ho2⟩ := jindex_Follow.go_pre l0 (pre ++ [x]) rest [] _ (by have h4 := H4.out; rw [hx] at h4; simpa using h4)
    rw [ho2] at hsn
    have hcap : o1.length < 1000000000000 := by
      by_cases hc : o1.length < 1000000000000
      · exact hc
      · rw [if_neg hc] at hsn; cases hsn
    rw [if_pos hcap] at hsn
    have hx0 : 0 ≤ x := by
      by_cases hc : 0 ≤ x
      · exact hc
      · rw [if_neg hc] at hsn; cases hsn
    rw [if_pos hx0] at hsn
    have hx1 : x < (l0.length : Int) := by
      by_cases hc : x < (l0.length : Int)
      · exact hc
      · rw [if_neg hc] at hsn; cases hsn
    rw [if_pos hx1] at hsn
    obtain rfl := Option.some.inj hsn
    have hgo2 := ho2
    obtain ⟨ad, had, hxc⟩ := Kd.at_int HR0.out x hx0 hx1
    cases had
    have hxw := hxc
    have hxZ : Z.cell? (ad.add x.toNat) = some (.int .i64 (rd l0 x)) := (hb.cell (World.block_lt_of_cell? w _ hxc)).trans hxc
    have hblk := World.block_lt_of_cell? w _ hxc
    clear hxc hxw
    have hb9 : Below Z.heap.size Z Z.drew := below_drew1 (Below.refl Z.heap.size Z)
    have ho9 := blk_drew ho
    have hfl9 := blk_drew hfl
    have hf49 := blk_drew hf4
    have hr9 := Kd.R_drew hr
    have hbd := below_drew1 hb
    have hxD : Z.drew.cell? (ad.add x.toNat) = some (.int .i64 (rd l0 x)) := hxZ
    gi_wp2
    refine XR.startIn_ (n := 8) (S := fun w' => w'.cell? ⟨gu, 0, none⟩ = some v ∧ w'.cell? ⟨gl, 0, none⟩ = some (.slice (some ad) l0.length c0) ∧ w'.cell? (ad.add x.toNat) = some (.int .i64 (rd l0 x))) (ds := [7]) #[false, false, false, false, false, false, false, false] rfl ?hq rfl (by kernel_rfl) rfl rfl ⟨(blk_cell (blk_drew ho) 0).trans rfl, (blk_cell (blk_drew hfl) 0).trans rfl, (by exact hxZ)⟩ (fun hHeld => ?_)
    case hq => rintro ⟨_, _, h_⟩; exact h_
    refine with_tabW jindex_Follow.tab8 jindex_Follow.bits8 (fun HT_ HW_ => ?_)
    generalize World.drew Z = Zd at hb9 ho9 hfl9 hf49 hr9 hbd hxD hHeld ⊢
    have p1 : 0 ≤ (x : Int) := hx0
    have q1 : x < (l0.length : Int) := hx1
    replace p1 := eq_true p1
    replace q1 := eq_true q1
    refine pure_ (i := 2) (N := some 27) (v := ?_) (a' := ?_) #[false, false, true, false, false, false, false, false] rfl rfl (any_of HT_.out (by kernel_rfl)) (fun _ _ _ h => h) (Or.inl ⟨by rfl, ?_⟩) ?_ ?_
    rotate_left
    · intro w'
      go_simp
      with_reducible rfl
    rotate_left
    · simp only [Act.put, List.setIfInBounds_toArray, List.set_cons_zero, List.set_cons_succ, i64_w, i32_w]
      rfl
    refine take_ (i := 0) (N := some 25) (v := ?_) (a' := ?_) #[true, false, true, false, false, false, false, false] rfl rfl (take_ofW HT_.out HW_.out (by kernel_rfl)) (fun _ _ _ h => h) (Or.inl ⟨by rfl, ?_⟩) hHeld ?_ ?_
    rotate_left
    · rintro w' ⟨s0, s1, s2⟩
      go_simp
      with_reducible rfl
    rotate_left
    · simp only [Act.put, List.setIfInBounds_toArray, List.set_cons_zero, List.set_cons_succ, i64_w, i32_w]
      rfl
    refine take_ (i := 1) (N := some 26) (v := ?_) (a' := ?_) #[true, true, true, false, false, false, false, false] rfl rfl (take_ofW HT_.out HW_.out (by kernel_rfl)) (fun _ _ _ h => h) (Or.inl ⟨by rfl, ?_⟩) hHeld ?_ ?_
    rotate_left
    · rintro w' ⟨s0, s1, s2⟩
      go_simp
      with_reducible rfl
    rotate_left
    · simp only [Act.put, List.setIfInBounds_toArray, List.set_cons_zero, List.set_cons_succ, i64_w, i32_w]
      rfl
    refine pure_ (i := 3) (N := some 28) (v := ?_) (a' := ?_) #[true, true, true, true, false, false, false, false] rfl rfl (any_of HT_.out (by kernel_rfl)) (fun _ _ _ h => h) (Or.inl ⟨by rfl, ?_⟩) ?_ ?_
    rotate_left
    · intro w'
      go_simp
      with_reducible rfl
    rotate_left
    · simp only [Act.put, List.setIfInBounds_toArray, List.set_cons_zero, List.set_cons_succ, i64_w, i32_w]
      rfl
    refine take_ (i := 4) (N := some 29) (v := ?_) (a' := ?_) #[true, true, true, true, true, false, false, false] rfl rfl (take_ofW HT_.out HW_.out (by kernel_rfl)) (fun _ _ _ h => h) (Or.inl ⟨by rfl, ?_⟩) hHeld ?_ ?_
    rotate_left
    · rintro w' ⟨s0, s1, s2⟩
      go_simp
      with_reducible rfl
    rotate_left
    · simp only [Act.put, List.setIfInBounds_toArray, List.set_cons_zero, List.set_cons_succ, i64_w, i32_w]
      rfl
    refine one_ (i := 5) (N := some 30) #[true, true, true, true, true, true, false, false] rfl rfl (one_of HT_.out (by kernel_rfl)) (by decide) (fun K hK => ?_)
    refine value_ (w1 := ?_) (v := ?_) (by rfl) rfl ?_ ?_
    rotate_left 2
    · go_simp
      constructor
      · rfl
      · rfl
    refine hK.out _ _ ⟨(blk_cell (blk_alloc ho9 _) 0).trans rfl, (blk_cell (blk_alloc hfl9 _) 0).trans rfl, (World.cell?_alloc_lt _ _ _ (World.block_lt_of_cell? _ _ hxD)).trans hxD⟩ (fun hHeld => ?_)
    clear hK K
    refine norm_ (a' := ?_) ?_ ?_
    rotate_left
    · show Act.put _ (some 30) _ = _
      simp only [Act.put, List.setIfInBounds_toArray, List.set_cons_zero, List.set_cons_succ, i64_w, i32_w]
      rfl
    refine one_ (i := 6) (N := some 31) #[true, true, true, true, true, true, true, false] rfl rfl (one_of HT_.out (by kernel_rfl)) (by decide) (fun K hK => ?_)
    refine Kd.R_append_step (Kd.int .i64) (w0 := w) w.heap.size (by rfl) (.tmp 25) (.tmp 30) 22 3 (.int .i64 0) 8 rfl Try.underlying22 info3 rfl (by decide) (by omega) v o1 (rd l0 x) [.int .i64 (rd l0 x)] (fun k_ => w.heap.size ≤ k_ ∧ (k_ ≠ gl ∧ k_ ≠ gp ∧ k_ ≠ g4 ∧ k_ ≠ gu ∧ k_ ≠ gi ∧ k_ ≠ w10.heap.size ∧ k_ ≠ w10.heap.size + 1 ∧ ¬ G_ k_)) (fun _ => False) rfl rfl ?aP (fun _ hk => hk.elim) ?aF ?aO ?aB ?aS ?aL ?_
    (case aP => exact rfl)
    (case aF => intro k_ hk; have h7 := below_size hbd; have h8 := hb9.size; have hk' : Zd.heap.size ≤ k_ := hk; exact ⟨by omega, by omega, by omega, by omega, by omega, by omega, by omega, by omega, fun h2 => by have := hGY k_ h2; omega⟩)
    (case aO => exact hr9)
    (case aB => exact hbd)
    (case aS => exact below_size hbd)
    (case aL => omega)
    intro v1 w10' hr10 hb10 hk10 hat_
    have hne : ∀ k_, some k_ = v.ownBlock → w.heap.size ≤ k_ ∧ (k_ ≠ gl ∧ k_ ≠ gp ∧ k_ ≠ g4 ∧ k_ ≠ gu ∧ k_ ≠ gi ∧ k_ ≠ w10.heap.size ∧ k_ ≠ w10.heap.size + 1 ∧ ¬ G_ k_) := fun k_ e_ => hr.1 k_ e_.symm
    have ho10 := blk_grown ho9 hk10 (fun e_ => (hne _ e_).2.2.2.2.1 rfl)
    have hfl10 := blk_grown hfl9 hk10 (fun e_ => (hne _ e_).2.1 rfl)
    have hf410 := blk_grown hf49 hk10 (fun e_ => (hne _ e_).2.2.2.1 rfl)
    obtain ⟨Av, cv, rfl⟩ := Kd.R_slice hr10
    have hxN : w10'.cell? (ad.add x.toNat) = some (.int .i64 (rd l0 x)) := (hb10.cell hblk).trans ((hb.cell hblk).symm.trans hxZ)
    refine hK.out _ _ ⟨(blk_cell ho10 0).trans rfl, (blk_cell hfl10 0).trans rfl, hxN⟩ (fun hHeld => ?_)
    clear hK K
    refine norm_ (a' := ?_) ?_ ?_
    rotate_left
    · show Act.put _ (some 31) _ = _
      simp only [Act.put, List.setIfInBounds_toArray, List.set_cons_zero, List.set_cons_succ, i64_w, i32_w]
      rfl
    refine last_ (i := 7) (N := none) #[true, true, true, true, true, true, true, true] rfl rfl (one_of HT_.out (by kernel_rfl)) (by decide) (fun K hK => ?_)
    have e6 : w10'.cell? ⟨gu, 0, none⟩ = some v := (blk_cell ho10 0).trans rfl
    have e7 := blk_frozen ho10 0
    refine skip_ (w1 := ?_) (by rfl) rfl ?_ ?_
    rotate_left
    · go_simp
      rfl
    refine hK.out _ _ ?_
    clear hK K
    refine done_ (done_of HT_.out (by kernel_rfl)) ?_
    have hr11 : Kd.R (Kd.int .i64) 3 w10' w.heap.size (fun k_ => w.heap.size ≤ k_ ∧ (k_ ≠ gl ∧ k_ ≠ gp ∧ k_ ≠ g4 ∧ k_ ≠ gu ∧ k_ ≠ gi ∧ k_ ≠ w10.heap.size ∧ k_ ≠ w10.heap.size + 1 ∧ ¬ G_ k_)) (.slice Av (o1.length + 1) cv) (o1 ++ [(rd l0 x)]) := by rw [List.length_append] at hr10; exact hr10
    have hgb : Below w.heap.size w (w10'.setCell ⟨gu, 0, none⟩ (.slice Av (o1.length + 1) cv)) := hb10.setCell (p := ⟨gu, 0, none⟩) GEu.out _
    have hrow := Kd.R_step hr11 (w1 := w10'.setCell ⟨gu, 0, none⟩ (.slice Av (o1.length + 1) cv)) (fun k_ hk _ => Below.heap_setCell _ _ _ k_ (by exact hk.2.2.2.2.1))
    refine ⟨⟨o1 ++ [(rd l0 x)], _, hgo2, blk_put ho10 0 _ rfl, hrow, blk_far hfl10 (by exact NBlu.out) _, blk_far hf410 (by exact NB4u.out) _,  hgb⟩, ?_, ?_⟩
    · have := hk10.size; have := hb9.size; simp; omega
    · intro k_ hk hkeep
      have hkgo : k_ ≠ gu := by
        rcases hkeep with rfl | hh | hh | hh
        · exact Ne.symm NBui
        · have := hGY k_ hh; omega
        · omega
        · omega
      have hkv : ¬ some k_ = v.ownBlock := by
        intro e_
        have hq := hne _ e_
        rcases hkeep with rfl | hh | hh | hh
        · exact hq.2.2.2.2.2.1 rfl
        · exact hq.2.2.2.2.2.2.2.2 hh
        · exact hq.2.2.2.2.2.2.1 hh
        · exact hq.2.2.2.2.2.2.2.1 hh
      rw [Below.heap_setCell _ _ _ k_ hkgo, hk10.block k_ (by have := hb9.size; omega) hkv, hb9.block k_ hk]
  case done =>
    rintro G_ W ⟨o1, v, hg, ho, hr, hfl, hf4, hb⟩ hK
    obtain rfl : o1 = o := by have h4 := H4.out; rw [hg] at h4; exact Option.some.inj h4
    obtain ⟨Av, cv, rfl⟩ := Kd.R_slice hr
    have cv1 : W.cell? ⟨gu, 0, none⟩ = some (.slice Av o1.length cv) := (blk_cell ho 0).trans rfl
    have hK1 := Aside0.mk hK
    have HBW := Aside0.mk hb
    have HF4 := Aside0.mk hf4
    clear hK hb hf4 hfl
    go_wp2_with (first | (go_at_call 60; (with_reducible refine (poslist_From.calls k _ _ o1 r1 r2 r3 r4 r5 _ ?side1 ?side2 H5.out).mono ?_); (case side1 => exact (Kd.R_reads' hr).2.2); (case side2 => exact (Kd.R_reads' hr).2.1); have hlt4 := blk_lt HF4.out; have hltK := blk_lt hK1.out; have hbase := below_size HBW.out; rintro e w12 ⟨v1, v2, v3, rfl, hv1, hv2, hv3, hb⟩; have n0_ := Aside0.mk (below_step HBW.out hb); have n1_ := Aside0.mk (blk_below HF4.out hb); have n2_ := Aside0.mk (blk_below hK1.out hb); clear HBW HF4 hK1; have HBW := n0_; have HF4 := n1_; have hK1 := n2_; clear n0_ n1_ n2_ hb; obtain ⟨Av1, cv1, rfl⟩ := Kd.R_slice hv1; obtain ⟨Av2, cv2, rfl⟩ := Kd.R_slice hv2; obtain ⟨Av3, cv3, rfl⟩ := Kd.R_slice hv3; have hw40 : w12.cell? ⟨g4, 0, none⟩ = some (.int .i64 0) := (blk_cell HF4.out 0).trans rfl; have hw41 : w12.cell? ⟨g4, 1, none⟩ = some (.slice none 0 0) := (blk_cell HF4.out 1).trans rfl; have hw42 : w12.cell? ⟨g4, 2, none⟩ = some (.slice none 0 0) := (blk_cell HF4.out 2).trans rfl; have hw43 : w12.cell? ⟨g4, 3, none⟩ = some (.slice none 0 0) := (blk_cell HF4.out 3).trans rfl; have hz40 := blk_frozen HF4.out 0; have hz41 := blk_frozen HF4.out 1; have hz42 := blk_frozen HF4.out 2; have hz43 := blk_frozen HF4.out 3))
    obtain ⟨W9, hW9⟩ : ∃ W9, W9 = (((w12.setCell ⟨g4, 0, none⟩ (.int .i64 r1)).setCell ⟨g4, 1, none⟩ (.slice Av1 r2.length cv1)).setCell ⟨g4, 2, none⟩ (.slice Av2 r3.length cv2)).setCell ⟨g4, 3, none⟩ (.slice Av3 r4.length cv3) := ⟨_, rfl⟩
    have hk0 : W9.heap[w10.heap.size]? = some (.deferred (some [])) := by
      rw [hW9, Below.heap_setCell _ _ _ _ (by show w10.heap.size ≠ g4; have := blk_lt BK4.out; omega), Below.heap_setCell _ _ _ _ (by show w10.heap.size ≠ g4; have := blk_lt BK4.out; omega), Below.heap_setCell _ _ _ _ (by show w10.heap.size ≠ g4; have := blk_lt BK4.out; omega), Below.heap_setCell _ _ _ _ (by show w10.heap.size ≠ g4; have := blk_lt BK4.out; omega)]
      exact hK1.out
    rw [← hW9]
    refine ⟨by simp, .inl ⟨_, _, rfl, run_takeDeferred hk0, ?_⟩⟩
    have hc4 : W9.heap[g4]? = some (.cells #[.int .i64 r1, .slice Av1 r2.length cv1, .slice Av2 r3.length cv2, .slice Av3 r4.length cv3] 52 (0, 0)) := by
      rw [hW9]
      refine blk_put (cs := #[.int .i64 r1, .slice Av1 r2.length cv1, .slice Av2 r3.length cv2, .slice none 0 0]) ?_ 3 _ rfl; refine blk_put (cs := #[.int .i64 r1, .slice Av1 r2.length cv1, .slice none 0 0, .slice none 0 0]) ?_ 2 _ rfl; refine blk_put (cs := #[.int .i64 r1, .slice none 0 0, .slice none 0 0, .slice none 0 0]) ?_ 1 _ rfl; refine blk_put (cs := #[.int .i64 0, .slice none 0 0, .slice none 0 0, .slice none 0 0]) ?_ 0 _ rfl; exact HF4.out
    rw [hW9] at *
    exact ⟨_, results_ct rfl _ _ g4 52 #[.int .i64 r1, .slice Av1 r2.length cv1, .slice Av2 r3.length cv2, .slice Av3 r4.length cv3] (0, 0) _ rfl ((World.putObj_heap_other (by have := blk_lt BK4.out; omega)).trans hc4) Try.underlying52 rfl (by kernel_rfl), _, _, _, rfl, Kd.R_lower (XR.R_farP (XR.R_far (XR.R_far (XR.R_far (XR.R_far hv1 hlt4) hlt4) hlt4) hlt4) hltK) hbase, Kd.R_lower (XR.R_farP (XR.R_far (XR.R_far (XR.R_far (XR.R_far hv2 hlt4) hlt4) hlt4) hlt4) hltK) hbase, Kd.R_lower (XR.R_farP (XR.R_far (XR.R_far (XR.R_far (XR.R_far hv3 hlt4) hlt4) hlt4) hlt4) hltK) hbase, XR.below_putObj (by repeat (first | exact HBW.out | refine below_set ?_ GE4.out)) (by have := HB.out.size; omega) (Array.getElem?_eq_some_iff.1 hk0).1 _⟩
  case stop =>
    rintro c pre W _ h _
    exact h.elim
end
end Go.Proofs.Ytbmlfbbcgbgnoaa.Print
end
section
namespace Go.Proofs.Ytbmlfbbcgbgnoaa.Print
open Go.RowKit Go.Proofs.YtbmlfbbcgbgnoaaW.PrintWords Go.Proofs.YtbmlfbbcgbgnoaaW.PrintLast Go.Proofs.YtbmlfbbcgbgnoaaW.PrintMore
attribute [local go_sem] max2_int min2_int max_two min_two max_three min_three max_four min_four   -- for this text's walks alone
set_option linter.unusedVariables false
set_option linter.unusedSimpArgs false
/-! ### peristyleref26_May: function 11 -/
def peristyleref26_May.l0 : Nat → List Int → List Bool → Int → Option (Bool)
 | 0, _, _, _ => none
 | k + 1, x0, x3, x4 => if x4 < (x0.length : Int) then (if 0 ≤ x4 then (if (rd x0 x4) < 0 then (some false) else (if (rd x0 x4) ≥ (x0.length : Int) then (some false) else (if 0 ≤ (rd x0 x4) then (if (rd x0 x4) < (x3.length : Int) then (if rdOf false x3 (rd x0 x4) = true then (some false) else (peristyleref26_May.l0 k x0 (x3.set ((rd x0 x4) : Int).toNat true) (wrap64 (x4 + 1)))) else (none)) else (none)))) else (none)) else (some true)
def peristyleref26_May.f (k : Nat) (l0 : List Int) : Option (Bool) := if (l0.length : Int) > 4096 then (some false) else (if 0 ≤ (l0.length : Int) then (if ((l0.length : Int) : Int).toNat ≤ 281474976710656 then (peristyleref26_May.l0 k l0 (List.replicate ((l0.length : Int) : Int).toNat false) 0) else (none)) else (none))
theorem peristyleref26_May.l0_succ (k : Nat) (x0 : List Int) (x3 : List Bool) (x4 : Int) : peristyleref26_May.l0 (k + 1) x0 x3 x4 = (if x4 < (x0.length : Int) then (if 0 ≤ x4 then (if (rd x0 x4) < 0 then (some false) else (if (rd x0 x4) ≥ (x0.length : Int) then (some false) else (if 0 ≤ (rd x0 x4) then (if (rd x0 x4) < (x3.length : Int) then (if rdOf false x3 (rd x0 x4) = true then (some false) else (peristyleref26_May.l0 k x0 (x3.set ((rd x0 x4) : Int).toNat true) (wrap64 (x4 + 1)))) else (none)) else (none)))) else (none)) else (some true)) := by
 simp only [peristyleref26_May.l0]
set_option maxHeartbeats 8000000 in
set_option maxRecDepth 100000 in
theorem peristyleref26_May.calls (k : Nat) (A0 : Option Addr) (c0 : Nat) (l0 : List Int) (r : Bool) (w : World) (hr0 : Kd.C (Kd.int .i64) w A0 l0.length l0) (hc0 : l0.length ≤ c0) (h : peristyleref26_May.f k l0 = some r) :
  Calls Try.prog 11 #[.slice A0 l0.length c0] w fun e w' => e = .returned (.bool r) ∧ Below w.heap.size w w' := by
 have HR0 := Aside0.mk hr0
 have HC0 := Aside0.mk hc0
 clear hr0 hc0
 have HB := Aside0.mk (Below.refl w.heap.size w)
 have H : (if (l0.length : Int) > 4096 then (some false) else (if 0 ≤ (l0.length : Int) then (if ((l0.length : Int) : Int).toNat ≤ 281474976710656 then (peristyleref26_May.l0 k l0 (List.replicate ((l0.length : Int) : Int).toNat false) 0) else (none)) else (none))) = some r := h
 clear h
 by_cases c2 : (l0.length : Int) > 4096
 ·rw [if_pos c2] at H
  have c2b0 : decide (4096 < (l0.length : Int)) = true := decide_eq_true c2
  have c2b1 : decide (4096 < l0.length) = true := decide_eq_true (by omega)
  clear c2
  obtain rfl := Option.some.inj H
  go_enter Try.func11, Try.ntmps11
  go_wp2
  go_ret
  exact ⟨er, bh HB.out⟩
 ·rw [if_neg c2] at H
  have c2b0 : decide (4096 < (l0.length : Int)) = false := decide_eq_false c2
  have c2b1 : decide (4096 < l0.length) = false := decide_eq_false (by omega)
  clear c2
  by_cases c3 : 0 ≤ (l0.length : Int)
  ·rw [if_pos c3] at H
   have c3b0 := eq_true c3
   have c3b1 : decide (0 ≤ (l0.length : Int)) = true := decide_eq_true c3
   clear c3
   by_cases c4 : ((l0.length : Int) : Int).toNat ≤ 281474976710656
   ·rw [if_pos c4] at H
    have c4b0 := eq_true c4
    have c4b1 : decide (((l0.length : Int) : Int).toNat ≤ 281474976710656) = true := decide_eq_true c4
    clear c4
    obtain ⟨y341, hy341⟩ : ∃ y_ : List Bool, y_ = (List.replicate ((l0.length : Int) : Int).toNat false) := ⟨_, rfl⟩
    replace H : (peristyleref26_May.l0 k l0 y341 0) = some r := by first | (rw [hy341]; with_reducible exact H) | (have H2_ := (Option.bind_some _ _).symm.trans H; rw [hy341]; with_reducible exact H2_) | (have H2_ := (Option.bind_some _ _).symm.trans H; with_reducible exact H2_) | with_reducible exact H | (rw [hy341]; exact H) | exact H
    have Ny341 := Aside0.mk hy341
    clear hy341
    have H' := Aside0.mk H
    clear H
    go_enter Try.func11, Try.ntmps11
    go_wp2_with (first | ((with_reducible refine gate_dst (N := 10) rfl ?_); (try (refine gate_guard (by rfl) ?_; dsimp only)); refine Kd.R_make Kd.bool _ 4 rfl (N := 10) rfl 64 _ _ rfl (l0.length : Int) rfl rfl Try.underlying64 (.bool false) 1 info4 rfl (by decide) (by omega) false (ok := fun _ => True) (okp := fun _ => True) rfl (fun _ hk => hk) trivial (of_decide_eq_true (by assumption)) (Nat.le_trans (Nat.mul_le_mul_right _ (of_decide_eq_true (by assumption) : (l0.length : Int).toNat ≤ 281474976710656)) (by omega)) (Below.refl _ _) (Nat.le_refl _) ?_; intro v342 w5 ho6 hb hg_ hnew_; clear hg_ hnew_; (first | rw [← Ny341.out] at ho6 | (simp only [Int.reduceToNat] at ho6; rw [← Ny341.out] at ho6)); have HO343 := Aside0.mk (Kd.R_lower ho6 (below_size (bh HB.out))); replace HB := bsa HB hb; clear hb ho6))
    go_loopg [4] k (fun kq v4 w' => ∃ (x3_1 : List Bool) (x4_1 : Int), v4 = .int .i64 x4_1 ∧ Aside0 (peristyleref26_May.l0 kq l0 x3_1 x4_1 = some r) ∧ Aside0 (kq ≤ k) ∧ Aside0 (Kd.R Kd.bool 4 w' w.heap.size (fun _ => True) v342 x3_1) ∧ Aside0 (Below w.heap.size w w'))
    case atStart => exact ⟨(y341), (0), (by first | rfl | (simp; done) | (simp [*]; done)), H', ⟨Nat.le_refl _⟩, ⟨by (with_reducible repeat (first | apply Kd.R_alloc | apply Kd.R_drewN | apply Kd.R_drew)); exact HO343.out⟩, ⟨bh HB.out⟩⟩
    case round =>
     clear H'
     try clear c2
     try clear c2b0
     try clear c2b1
     try clear c3
     try clear c3b0
     try clear c3b1
     try clear c4
     try clear c4b0
     try clear c4b1
     obtain ⟨x3_1, x4_1, rfl, HA, HK1, HO_3, HB⟩ := hrel
     cases gk with
     | zero => exact absurd HA.out (by simp [peristyleref26_May.l0])
     | succ k1 =>
      have H := HA.out
      clear HA
      simp only [peristyleref26_May.l0] at H
      by_cases c7 : x4_1 < (l0.length : Int)
      ·rw [if_pos c7] at H
       have c7b0 : decide (x4_1 < (l0.length : Int)) = true := decide_eq_true c7
       clear c7
       by_cases c8 : 0 ≤ x4_1
       ·rw [if_pos c8] at H
        have c8b0 : decide (0 ≤ x4_1) = true := decide_eq_true c8
        clear c8
        by_cases c9 : (rd l0 x4_1) < 0
        ·rw [if_pos c9] at H
         have c9b0 : decide ((rd l0 x4_1) < 0) = true := decide_eq_true c9
         clear c9
         obtain rfl := Option.some.inj H
         have p344 : 0 ≤ (x4_1 : Int) := of_decide_eq_true (by assumption)
         have q344 : x4_1 < (l0.length : Int) := of_decide_eq_true (by assumption)
         obtain ⟨ad344, e344, hx344_0⟩ := Kd.at_int HR0.out x4_1 p344 q344
         cases e344
         replace hx344_0 := (HB.out.cell (World.block_lt_of_cell? w _ hx344_0)).trans hx344_0
         replace p344 := eq_true p344
         replace q344 := eq_true q344
         go_wp2
         go_ret
         exact ⟨er, bh HB.out⟩
        ·rw [if_neg c9] at H
         have c9b0 : decide ((rd l0 x4_1) < 0) = false := decide_eq_false c9
         clear c9
         by_cases c10 : (rd l0 x4_1) ≥ (l0.length : Int)
         ·rw [if_pos c10] at H
          have c10b0 : decide ((l0.length : Int) ≤ (rd l0 x4_1)) = true := decide_eq_true c10
          clear c10
          obtain rfl := Option.some.inj H
          have p344 : 0 ≤ (x4_1 : Int) := of_decide_eq_true (by assumption)
          have q344 : x4_1 < (l0.length : Int) := of_decide_eq_true (by assumption)
          obtain ⟨ad344, e344, hx344_0⟩ := Kd.at_int HR0.out x4_1 p344 q344
          cases e344
          replace hx344_0 := (HB.out.cell (World.block_lt_of_cell? w _ hx344_0)).trans hx344_0
          replace p344 := eq_true p344
          replace q344 := eq_true q344
          have p345 : 0 ≤ (x4_1 : Int) := of_decide_eq_true (by assumption)
          have q345 : x4_1 < (l0.length : Int) := of_decide_eq_true (by assumption)
          obtain ⟨ad345, e345, hx345_0⟩ := Kd.at_int HR0.out x4_1 p345 q345
          obtain rfl : ad344 = ad345 := (by injection e345)
          replace hx345_0 := (HB.out.cell (World.block_lt_of_cell? w _ hx345_0)).trans hx345_0
          replace p345 := eq_true p345
          replace q345 := eq_true q345
          go_wp2
          go_ret
          exact ⟨er, bh HB.out⟩
         ·rw [if_neg c10] at H
          have c10b0 : decide ((l0.length : Int) ≤ (rd l0 x4_1)) = false := decide_eq_false c10
          clear c10
          by_cases c11 : 0 ≤ (rd l0 x4_1)
          ·rw [if_pos c11] at H
           have c11b0 : decide (0 ≤ (rd l0 x4_1)) = true := decide_eq_true c11
           clear c11
           by_cases c12 : (rd l0 x4_1) < (x3_1.length : Int)
           ·rw [if_pos c12] at H
            have c12b0 : decide ((rd l0 x4_1) < (x3_1.length : Int)) = true := decide_eq_true c12
            clear c12
            obtain ⟨bq13, hbq13⟩ : ∃ b_ : Bool, b_ = (rdOf false x3_1 (rd l0 x4_1)) := ⟨_, rfl⟩
            replace H : (if bq13 = true then (some false) else (peristyleref26_May.l0 k1 l0 (x3_1.set ((rd l0 x4_1) : Int).toNat true) (wrap64 (x4_1 + 1)))) = some r := by rw [← hbq13] at H; exact H
            have Nbq13 := Aside0.mk hbq13
            clear hbq13
            by_cases c14 : bq13 = true
            ·subst c14
             have H1 : (some false) = some r := by rw [if_pos rfl] at H; exact H
             clear H
             have H := H1
             clear H1
             obtain rfl := Option.some.inj H
             have p344 : 0 ≤ (x4_1 : Int) := of_decide_eq_true (by assumption)
             have q344 : x4_1 < (l0.length : Int) := of_decide_eq_true (by assumption)
             obtain ⟨ad344, e344, hx344_0⟩ := Kd.at_int HR0.out x4_1 p344 q344
             cases e344
             replace hx344_0 := (HB.out.cell (World.block_lt_of_cell? w _ hx344_0)).trans hx344_0
             replace p344 := eq_true p344
             replace q344 := eq_true q344
             have p345 : 0 ≤ (x4_1 : Int) := of_decide_eq_true (by assumption)
             have q345 : x4_1 < (l0.length : Int) := of_decide_eq_true (by assumption)
             obtain ⟨ad345, e345, hx345_0⟩ := Kd.at_int HR0.out x4_1 p345 q345
             obtain rfl : ad344 = ad345 := (by injection e345)
             replace hx345_0 := (HB.out.cell (World.block_lt_of_cell? w _ hx345_0)).trans hx345_0
             replace p345 := eq_true p345
             replace q345 := eq_true q345
             have p346 : 0 ≤ (x4_1 : Int) := of_decide_eq_true (by assumption)
             have q346 : x4_1 < (l0.length : Int) := of_decide_eq_true (by assumption)
             obtain ⟨ad346, e346, hx346_0⟩ := Kd.at_int HR0.out x4_1 p346 q346
             obtain rfl : ad344 = ad346 := (by injection e346)
             replace hx346_0 := (HB.out.cell (World.block_lt_of_cell? w _ hx346_0)).trans hx346_0
             replace p346 := eq_true p346
             replace q346 := eq_true q346
             obtain ⟨Ao15, co15, eo15⟩ := Kd.R_slice HO_3.out
             subst eo15
             have p347 : 0 ≤ ((rd l0 x4_1) : Int) := of_decide_eq_true (by assumption)
             have q347 : (rd l0 x4_1) < (x3_1.length : Int) := of_decide_eq_true (by assumption)
             obtain ⟨ad347, e347, hx347_0⟩ := Kd.at_bool (Kd.R_reads' HO_3.out).2.2 (rd l0 x4_1) p347 q347
             (try rw [← Nbq13.out] at hx347_0)
             cases e347
             replace p347 := eq_true p347
             replace q347 := eq_true q347
             go_wp2
             go_ret
             exact ⟨er, bh HB.out⟩
            ·replace c14 := Bool.eq_false_iff.mpr c14
             subst c14
             have H1 : (peristyleref26_May.l0 k1 l0 (x3_1.set ((rd l0 x4_1) : Int).toNat true) (wrap64 (x4_1 + 1))) = some r := by rw [if_neg (show ¬ (false = true) by decide)] at H; exact H
             clear H
             have H := H1
             clear H1
             obtain ⟨y349, hy349⟩ : ∃ y_ : List Bool, y_ = (x3_1.set ((rd l0 x4_1) : Int).toNat true) := ⟨_, rfl⟩
             replace H : (peristyleref26_May.l0 k1 l0 y349 (wrap64 (x4_1 + 1))) = some r := by first | (rw [hy349]; with_reducible exact H) | (have H2_ := (Option.bind_some _ _).symm.trans H; rw [hy349]; with_reducible exact H2_) | (have H2_ := (Option.bind_some _ _).symm.trans H; with_reducible exact H2_) | with_reducible exact H | (rw [hy349]; exact H) | exact H
             have Ny349 := Aside0.mk hy349
             clear hy349
             have H' := Aside0.mk H
             clear H
             have p344 : 0 ≤ (x4_1 : Int) := of_decide_eq_true (by assumption)
             have q344 : x4_1 < (l0.length : Int) := of_decide_eq_true (by assumption)
             obtain ⟨ad344, e344, hx344_0⟩ := Kd.at_int HR0.out x4_1 p344 q344
             cases e344
             replace hx344_0 := (HB.out.cell (World.block_lt_of_cell? w _ hx344_0)).trans hx344_0
             replace p344 := eq_true p344
             replace q344 := eq_true q344
             have p345 : 0 ≤ (x4_1 : Int) := of_decide_eq_true (by assumption)
             have q345 : x4_1 < (l0.length : Int) := of_decide_eq_true (by assumption)
             obtain ⟨ad345, e345, hx345_0⟩ := Kd.at_int HR0.out x4_1 p345 q345
             obtain rfl : ad344 = ad345 := (by injection e345)
             replace hx345_0 := (HB.out.cell (World.block_lt_of_cell? w _ hx345_0)).trans hx345_0
             replace p345 := eq_true p345
             replace q345 := eq_true q345
             have p346 : 0 ≤ (x4_1 : Int) := of_decide_eq_true (by assumption)
             have q346 : x4_1 < (l0.length : Int) := of_decide_eq_true (by assumption)
             obtain ⟨ad346, e346, hx346_0⟩ := Kd.at_int HR0.out x4_1 p346 q346
             obtain rfl : ad344 = ad346 := (by injection e346)
             replace hx346_0 := (HB.out.cell (World.block_lt_of_cell? w _ hx346_0)).trans hx346_0
             replace p346 := eq_true p346
             replace q346 := eq_true q346
             obtain ⟨Ao17, co17, eo17⟩ := Kd.R_slice HO_3.out
             subst eo17
             have p347 : 0 ≤ ((rd l0 x4_1) : Int) := of_decide_eq_true (by assumption)
             have q347 : (rd l0 x4_1) < (x3_1.length : Int) := of_decide_eq_true (by assumption)
             obtain ⟨ad347, e347, hx347_0⟩ := Kd.at_bool (Kd.R_reads' HO_3.out).2.2 (rd l0 x4_1) p347 q347
             (try rw [← Nbq13.out] at hx347_0)
             cases e347
             replace p347 := eq_true p347
             replace q347 := eq_true q347
             have p348 : 0 ≤ (x4_1 : Int) := of_decide_eq_true (by assumption)
             have q348 : x4_1 < (l0.length : Int) := of_decide_eq_true (by assumption)
             obtain ⟨ad348, e348, hx348_0⟩ := Kd.at_int HR0.out x4_1 p348 q348
             obtain rfl : ad344 = ad348 := (by injection e348)
             replace hx348_0 := (HB.out.cell (World.block_lt_of_cell? w _ hx348_0)).trans hx348_0
             replace p348 := eq_true p348
             replace q348 := eq_true q348
             have p16 : 0 ≤ ((rd l0 x4_1) : Int) := of_decide_eq_true (by assumption)
             have q16 : ((rd l0 x4_1) : Int) < ((x3_1.length : Int) : Int) := of_decide_eq_true (by assumption)
             obtain ⟨go16, co16, eo16, gb16, gl16, cl16, HG16⟩ := Kd.R_form HO_3.out (by omega)
             (first | cases eo16 | (injection eo16 with ea_ en_ ec_; (first | subst ea_ | (injection ea_ with ea_; subst ea_)); subst ec_; clear en_))
             have GB16 := Aside0.mk gb16
             have GG16 := Aside0.mk HG16
             clear gb16 gl16 HG16
             (first | simp only [add_plain] at hx347_0 | skip)
             obtain ⟨hx16_0, hf16_0⟩ := Kd.R_celln false HO_3.out ((rd l0 x4_1) : Int) p16 q16
             replace p16 := eq_true p16
             replace q16 := eq_true q16
             have HP18 := Kd.R_putg HO_3.out ((rd l0 x4_1) : Int) true
             go_wp2_with (first | ((with_reducible refine gate_store (t := 4) (p := 45) rfl ?_); refine store_event (t := 4) (p := 45) (v := ?vo_w19) (w1 := (wr.setCell ⟨go16, ((rd l0 x4_1) : Int).toNat, none⟩ (.bool true))) ?hg ?ho ?hn ?hr ?_; (case ho => rfl); (case hg => rfl); (case hn => rfl); (case hr => first | (go_simp; done) | (go_simp; rfl)); intro w19 hw; have hg : wr.grownBy w19 (some go16) := (by rw [hw]; exact HP18.2); have hp_ : Kd.R Kd.bool 4 w19 w.heap.size (fun _ => True) (.slice (some ⟨go16, 0, none⟩) x3_1.length co17) y349 := (by rw [hw, Ny349.out]; exact HP18.1); clear HP18; replace HO_3 := Aside0.mk (hp_); replace HB := Aside0.mk ((by rw [hw]; exact below_set (HB.out) GB16.out : Below w.heap.size w w19)); clear hg hw hp_))
             go_roundg k1
             case measure => have := HK1.out; omega
             case rel => exact ⟨(y349), (wrap64 (x4_1 + 1)), (by first | rfl | (simp; done) | (simp [*]; done)), H', ⟨by have := HK1.out; omega⟩, ⟨by (with_reducible repeat (first | apply Kd.R_alloc | apply Kd.R_drewN | apply Kd.R_drew)); exact HO_3.out⟩, ⟨bh HB.out⟩⟩
           ·rw [if_neg c12] at H
            exact absurd H (by simp)
          ·rw [if_neg c11] at H
           exact absurd H (by simp)
       ·rw [if_neg c8] at H
        exact absurd H (by simp)
      ·rw [if_neg c7] at H
       have c7b0 : decide (x4_1 < (l0.length : Int)) = false := decide_eq_false c7
       clear c7
       obtain rfl := Option.some.inj H
       go_wp2
       go_ret
       exact ⟨er, bh HB.out⟩
   ·rw [if_neg c4] at H
    exact absurd H (by simp)
  ·rw [if_neg c3] at H
   exact absurd H (by simp)
/-! ### peristyleref14_Places: function 30 -/
mutual
def peristyleref14_Places.l0 : Nat → List (S79) → List Int → Int → Option (List Int × Int)
 | 0, _, _, _ => none
 | k + 1, x0, x4, x5 => if x5 < (x0.length : Int) then (if 0 ≤ x5 then (peristyleref14_Places.l1 k x0 x4 x5 ((rd_T79 x0 x5).f0)) else (none)) else (some (x4, 0))
def peristyleref14_Places.l1 : Nat → List (S79) → List Int → Int → Int → Option (List Int × Int)
 | 0, _, _, _, _ => none
 | k + 1, x0, x4, x5, x6 => if 0 ≤ x5 then (if x5 < (x0.length : Int) then (if x6 < ((rd_T79 x0 x5).f1) then (if x4.length < 17592186044416 then (peristyleref14_Places.l1 k x0 (x4 ++ [x6]) x5 (wrap64 (x6 + 1))) else (none)) else (peristyleref14_Places.l0 k x0 x4 (wrap64 (x5 + 1)))) else (none)) else (none)
end
def peristyleref14_Places.f (k : Nat) (l0 : List (S79)) : Option (List Int × Int) := (peristyleref14_May.f k l0).bind fun t350 => (if t350 = true then (peristyleref14_Places.l0 k l0 ([] : List Int) 0) else (some (([] : List Int), 1)))
theorem peristyleref14_Places.l0_succ (k : Nat) (x0 : List (S79)) (x4 : List Int) (x5 : Int) : peristyleref14_Places.l0 (k + 1) x0 x4 x5 = (if x5 < (x0.length : Int) then (if 0 ≤ x5 then (peristyleref14_Places.l1 k x0 x4 x5 ((rd_T79 x0 x5).f0)) else (none)) else (some (x4, 0))) := by
 simp only [peristyleref14_Places.l0]
theorem peristyleref14_Places.l1_succ (k : Nat) (x0 : List (S79)) (x4 : List Int) (x5 : Int) (x6 : Int) : peristyleref14_Places.l1 (k + 1) x0 x4 x5 x6 = (if 0 ≤ x5 then (if x5 < (x0.length : Int) then (if x6 < ((rd_T79 x0 x5).f1) then (if x4.length < 17592186044416 then (peristyleref14_Places.l1 k x0 (x4 ++ [x6]) x5 (wrap64 (x6 + 1))) else (none)) else (peristyleref14_Places.l0 k x0 x4 (wrap64 (x5 + 1)))) else (none)) else (none)) := by
 simp only [peristyleref14_Places.l1]
set_option maxHeartbeats 8000000 in
set_option maxRecDepth 100000 in
theorem peristyleref14_Places.calls (k : Nat) (A0 : Option Addr) (c0 : Nat) (l0 : List (S79)) (r1 : List Int) (r2 : Int) (w : World) (hr0 : Kd.C k79 w A0 l0.length l0) (hc0 : l0.length ≤ c0) (h : peristyleref14_Places.f k l0 = some (r1, r2)) :
  Calls Try.prog 30 #[.slice A0 l0.length c0] w fun e w' => ∃ v0_ : Value, e = .returned (.tuple #[v0_, .int .i64 r2]) ∧ Kd.R (Kd.int .i64) 3 w' w.heap.size (fun _ => True) v0_ r1 ∧ Below w.heap.size w w' := by
 have HR0 := Aside0.mk hr0
 have HC0 := Aside0.mk hc0
 clear hr0 hc0
 have HB := Aside0.mk (Below.refl w.heap.size w)
 have H : ((peristyleref14_May.f k l0).bind fun t350 => (if t350 = true then (peristyleref14_Places.l0 k l0 ([] : List Int) 0) else (some (([] : List Int), 1)))) = some (r1, r2) := h
 clear h
 replace H := Option.bind_eq_some_iff.mp H
 obtain ⟨t350, A20, H⟩ := H
 replace H : (if t350 = true then (peristyleref14_Places.l0 k l0 ([] : List Int) 0) else (some (([] : List Int), 1))) = some (r1, r2) := H
 have A2 := Aside0.mk A20
 clear A20
 by_cases c3 : t350 = true
 ·subst c3
  have H1 : (peristyleref14_Places.l0 k l0 ([] : List Int) 0) = some (r1, r2) := by rw [if_pos rfl] at H; exact H
  clear H
  have H := H1
  clear H1
  have H' := Aside0.mk H
  clear H
  go_enter Try.func30, Try.ntmps30
  go_wp2_with (first | ((with_reducible refine gate_callee (f := 26) rfl ?_); refine goesL_ (some 8) rfl rfl Try.func26 (by kernel_rfl) rfl #[.slice A0 l0.length c0] rfl (by (try simp only [List.map_toArray, List.map_cons, List.map_nil]); first | done | rfl) ?_; (with_reducible refine (peristyleref14_May.calls k _ _ l0 true _ ?side1 ?side2 A2.out).mono ?_); (case side1 => exact cx HR0.out); (case side2 => exact HC0.out); rintro e w' ⟨rfl, ⟨nd, rfl⟩⟩; refine ⟨_, rfl, ?_⟩))
  go_loopg [4, 5] k (fun kq v4 v5 w' => ∃ (x4_1 : List Int) (x5_1 : Int), v5 = .int .i64 x5_1 ∧ Aside0 (peristyleref14_Places.l0 kq l0 x4_1 x5_1 = some (r1, r2)) ∧ Aside0 (kq ≤ k) ∧ Aside0 (Kd.R (Kd.int .i64) 3 w' w.heap.size (fun _ => True) v4 x4_1) ∧ Aside0 (Below w.heap.size w w'))
  case atStart => exact ⟨(([] : List Int)), (0), (by first | rfl | (simp; done) | (simp [*]; done)), H', ⟨Nat.le_refl _⟩, ⟨nl⟩, ⟨bh HB.out⟩⟩
  case round =>
   clear H'
   try clear c3
   obtain ⟨x4_1, x5_1, rfl, HA, HK1, HO_4, HB⟩ := hrel
   cases gk with
   | zero => exact absurd HA.out (by simp [peristyleref14_Places.l0])
   | succ k1 =>
    have H := HA.out
    clear HA
    simp only [peristyleref14_Places.l0] at H
    by_cases c4 : x5_1 < (l0.length : Int)
    ·rw [if_pos c4] at H
     have c4b0 : decide (x5_1 < (l0.length : Int)) = true := decide_eq_true c4
     clear c4
     by_cases c5 : 0 ≤ x5_1
     ·rw [if_pos c5] at H
      have c5b0 : decide (0 ≤ x5_1) = true := decide_eq_true c5
      clear c5
      have H' := Aside0.mk H
      clear H
      have p351 : 0 ≤ (x5_1 : Int) := of_decide_eq_true (by assumption)
      have q351 : x5_1 < (l0.length : Int) := of_decide_eq_true (by assumption)
      obtain ⟨ad351, e351, hx351_0, hx351_1⟩ := at_T79 HR0.out x5_1 p351 q351
      cases e351
      replace hx351_0 := (HB.out.cell (World.block_lt_of_cell? w _ hx351_0)).trans hx351_0
      replace hx351_1 := (HB.out.cell (World.block_lt_of_cell? w _ hx351_1)).trans hx351_1
      replace p351 := eq_true p351
      replace q351 := eq_true q351
      go_wp2
      go_loopg [4, 6] k1 (fun kq v4 v6 w' => ∃ (x4_2 : List Int) (x6_2 : Int), v6 = .int .i64 x6_2 ∧ Aside0 (peristyleref14_Places.l1 kq l0 x4_2 x5_1 x6_2 = some (r1, r2)) ∧ Aside0 (kq ≤ k1) ∧ Aside0 (Kd.R (Kd.int .i64) 3 w' w.heap.size (fun _ => True) v4 x4_2) ∧ Aside0 (Below w.heap.size w w'))
      case atStart => exact ⟨(x4_1), ((rd_T79 l0 x5_1).f0), (by first | rfl | (simp; done) | (simp [*]; done)), H', ⟨Nat.le_refl _⟩, ⟨by (with_reducible repeat (first | apply Kd.R_alloc | apply Kd.R_drewN | apply Kd.R_drew)); exact HO_4.out⟩, ⟨bh HB.out⟩⟩
      case round =>
       clear H'
       try clear c3
       try clear c4
       try clear c4b0
       try clear c5
       try clear c5b0
       try clear hx351_0
       try clear hx351_1
       try clear p351
       try clear q351
       obtain ⟨x4_2, x6_2, rfl, HA, HK2, HO_4, HB⟩ := hrel
       cases gk with
       | zero => exact absurd HA.out (by simp [peristyleref14_Places.l1])
       | succ k2 =>
        have H := HA.out
        clear HA
        simp only [peristyleref14_Places.l1] at H
        by_cases c6 : 0 ≤ x5_1
        ·rw [if_pos c6] at H
         have c6b0 : decide (0 ≤ x5_1) = true := decide_eq_true c6
         clear c6
         by_cases c7 : x5_1 < (l0.length : Int)
         ·rw [if_pos c7] at H
          have c7b0 : decide (x5_1 < (l0.length : Int)) = true := decide_eq_true c7
          clear c7
          by_cases c8 : x6_2 < ((rd_T79 l0 x5_1).f1)
          ·rw [if_pos c8] at H
           have c8b0 : decide (x6_2 < ((rd_T79 l0 x5_1).f1)) = true := decide_eq_true c8
           clear c8
           by_cases c9 : x4_2.length < 17592186044416
           ·rw [if_pos c9] at H
            have LMc9 := Aside0.mk c9
            clear c9
            obtain ⟨y353, hy353⟩ : ∃ y_ : List Int, y_ = (x4_2 ++ [x6_2]) := ⟨_, rfl⟩
            replace H : (peristyleref14_Places.l1 k2 l0 y353 x5_1 (wrap64 (x6_2 + 1))) = some (r1, r2) := by first | (rw [hy353]; with_reducible exact H) | (have H2_ := (Option.bind_some _ _).symm.trans H; rw [hy353]; with_reducible exact H2_) | (have H2_ := (Option.bind_some _ _).symm.trans H; with_reducible exact H2_) | with_reducible exact H | (rw [hy353]; exact H) | exact H
            have Ny353 := Aside0.mk hy353
            clear hy353
            have H' := Aside0.mk H
            clear H
            have p352 : 0 ≤ (x5_1 : Int) := of_decide_eq_true (by assumption)
            have q352 : x5_1 < (l0.length : Int) := of_decide_eq_true (by assumption)
            obtain ⟨ad352, e352, hx352_0, hx352_1⟩ := at_T79 HR0.out x5_1 p352 q352
            obtain rfl : ad351 = ad352 := (by injection e352)
            replace hx352_0 := (HB.out.cell (World.block_lt_of_cell? w _ hx352_0)).trans hx352_0
            replace hx352_1 := (HB.out.cell (World.block_lt_of_cell? w _ hx352_1)).trans hx352_1
            replace p352 := eq_true p352
            replace q352 := eq_true q352
            go_wp2_with (first | ((with_reducible refine gate_builtin (b := .append) (xs := #[.tmp 30, .tmp 32]) rfl ?_); at_builtin; refine Kd.R_append (Kd.int .i64) (w0 := w) w.heap.size rfl (.tmp 30) (.tmp 32) 22 3 (.int .i64 0) 8 rfl Try.underlying22 info3 rfl (by decide) (by omega) u4 x4_2 x6_2 [.int .i64 x6_2] (fun _ => True) (fun _ => False) rfl rfl ?aP (fun _ hk => hk.elim) ?aF ?aO ?aB ?aS ?aL ?_; (case aP => exact rfl); (case aB => exact (bh HB.out)); (case aF => exact (fun _ _ => trivial)); (case aO => exact (rx HO_4.out)); (case aS => exact (below_size (bh HB.out))); (case aL => have := LMc9.out; omega); intro v354 w10 ho hb hg hat; rw [← Ny353.out] at ho; have n0_ := Aside0.mk (hb); have n1_ := Aside0.mk (ho); clear HB HO_4; have HB := n0_; have HO355 := n1_; clear n0_ n1_; clear ho hb hg hat))
            go_roundg k2
            case measure => have := HK1.out; have := HK2.out; omega
            case rel => exact ⟨(y353), (wrap64 (x6_2 + 1)), (by first | rfl | (simp; done) | (simp [*]; done)), H', ⟨by have := HK1.out; have := HK2.out; omega⟩, ⟨by (with_reducible repeat (first | apply Kd.R_alloc | apply Kd.R_drewN | apply Kd.R_drew)); exact HO355.out⟩, ⟨bh HB.out⟩⟩
           ·rw [if_neg c9] at H
            exact absurd H (by simp)
          ·rw [if_neg c8] at H
           have c8b0 : decide (x6_2 < ((rd_T79 l0 x5_1).f1)) = false := decide_eq_false c8
           clear c8
           have H' := Aside0.mk H
           clear H
           have p352 : 0 ≤ (x5_1 : Int) := of_decide_eq_true (by assumption)
           have q352 : x5_1 < (l0.length : Int) := of_decide_eq_true (by assumption)
           obtain ⟨ad352, e352, hx352_0, hx352_1⟩ := at_T79 HR0.out x5_1 p352 q352
           obtain rfl : ad351 = ad352 := (by injection e352)
           replace hx352_0 := (HB.out.cell (World.block_lt_of_cell? w _ hx352_0)).trans hx352_0
           replace hx352_1 := (HB.out.cell (World.block_lt_of_cell? w _ hx352_1)).trans hx352_1
           replace p352 := eq_true p352
           replace q352 := eq_true q352
           go_wp2
           go_roundg k2
           case measure => have := HK1.out; have := HK2.out; omega
           case rel => exact ⟨(x4_2), (wrap64 (x5_1 + 1)), (by first | rfl | (simp; done) | (simp [*]; done)), H', ⟨by have := HK1.out; have := HK2.out; omega⟩, ⟨by (with_reducible repeat (first | apply Kd.R_alloc | apply Kd.R_drewN | apply Kd.R_drew)); exact HO_4.out⟩, ⟨bh HB.out⟩⟩
         ·rw [if_neg c7] at H
          exact absurd H (by simp)
        ·rw [if_neg c6] at H
         exact absurd H (by simp)
     ·rw [if_neg c5] at H
      exact absurd H (by simp)
    ·rw [if_neg c4] at H
     have c4b0 : decide (x5_1 < (l0.length : Int)) = false := decide_eq_false c4
     clear c4
     simp only [Option.some.injEq, Prod.mk.injEq] at H
     obtain ⟨rfl, rfl⟩ := H
     go_wp2
     go_ret2
     exact ⟨_, er, by (with_reducible repeat (first | apply Kd.R_alloc | apply Kd.R_drewN | apply Kd.R_drew)); exact HO_4.out, bh HB.out⟩
 ·replace c3 := Bool.eq_false_iff.mpr c3
  subst c3
  have H1 : (some (([] : List Int), 1)) = some (r1, r2) := by rw [if_neg (show ¬ (false = true) by decide)] at H; exact H
  clear H
  have H := H1
  clear H1
  simp only [Option.some.injEq, Prod.mk.injEq] at H
  obtain ⟨rfl, rfl⟩ := H
  go_enter Try.func30, Try.ntmps30
  go_wp2_with (first | ((with_reducible refine gate_callee (f := 26) rfl ?_); refine goesL_ (some 8) rfl rfl Try.func26 (by kernel_rfl) rfl #[.slice A0 l0.length c0] rfl (by (try simp only [List.map_toArray, List.map_cons, List.map_nil]); first | done | rfl) ?_; (with_reducible refine (peristyleref14_May.calls k _ _ l0 false _ ?side1 ?side2 A2.out).mono ?_); (case side1 => exact cx HR0.out); (case side2 => exact HC0.out); rintro e w' ⟨rfl, ⟨nd, rfl⟩⟩; refine ⟨_, rfl, ?_⟩))
  go_ret2
  exact ⟨_, er, nl, bh HB.out⟩
/-! ### peristyleref26_Follow: function 32 -/
def peristyleref26_Follow.l0 : Nat → List Int → List Int → List Int → Int → Option (List Int)
 | 0, _, _, _, _ => none
 | k + 1, x0, x1, x5, x6 => if x6 < (x1.length : Int) then (if 0 ≤ x6 then (if 0 ≤ (rd x1 x6) then (if (rd x1 x6) < (x0.length : Int) then (if x5.length < 17592186044416 then (peristyleref26_Follow.l0 k x0 x1 (x5 ++ [rd x0 (rd x1 x6)]) (wrap64 (x6 + 1))) else (none)) else (none)) else (none)) else (none)) else (some x5)
def peristyleref26_Follow.f (k : Nat) (l0 : List Int) (l1 : List Int) : Option (List Int) := peristyleref26_Follow.l0 k l0 l1 ([] : List Int) 0
theorem peristyleref26_Follow.l0_succ (k : Nat) (x0 : List Int) (x1 : List Int) (x5 : List Int) (x6 : Int) : peristyleref26_Follow.l0 (k + 1) x0 x1 x5 x6 = (if x6 < (x1.length : Int) then (if 0 ≤ x6 then (if 0 ≤ (rd x1 x6) then (if (rd x1 x6) < (x0.length : Int) then (if x5.length < 17592186044416 then (peristyleref26_Follow.l0 k x0 x1 (x5 ++ [rd x0 (rd x1 x6)]) (wrap64 (x6 + 1))) else (none)) else (none)) else (none)) else (none)) else (some x5)) := by
 simp only [peristyleref26_Follow.l0]
set_option maxHeartbeats 8000000 in
set_option maxRecDepth 100000 in
theorem peristyleref26_Follow.calls (k : Nat) (A0 : Option Addr) (c0 : Nat) (l0 : List Int) (A1 : Option Addr) (c1 : Nat) (l1 : List Int) (r : List Int) (w : World) (hr0 : Kd.C (Kd.int .i64) w A0 l0.length l0) (hc0 : l0.length ≤ c0) (hr1 : Kd.C (Kd.int .i64) w A1 l1.length l1) (hc1 : l1.length ≤ c1) (h : peristyleref26_Follow.f k l0 l1 = some r) :
  Calls Try.prog 32 #[.slice A0 l0.length c0, .slice A1 l1.length c1] w fun e w' => ∃ v0_ : Value, e = .returned (v0_) ∧ Kd.R (Kd.int .i64) 3 w' w.heap.size (fun _ => True) v0_ r ∧ Below w.heap.size w w' := by
 have HR0 := Aside0.mk hr0
 have HC0 := Aside0.mk hc0
 clear hr0 hc0
 have HR1 := Aside0.mk hr1
 have HC1 := Aside0.mk hc1
 clear hr1 hc1
 have HB := Aside0.mk (Below.refl w.heap.size w)
 have H : (peristyleref26_Follow.l0 k l0 l1 ([] : List Int) 0) = some r := h
 clear h
 have H' := Aside0.mk H
 clear H
 go_enter Try.func32, Try.ntmps32
 go_wp2
 go_loopg [5, 6] k (fun kq v5 v6 w' => ∃ (x5_1 : List Int) (x6_1 : Int), v6 = .int .i64 x6_1 ∧ Aside0 (peristyleref26_Follow.l0 kq l0 l1 x5_1 x6_1 = some r) ∧ Aside0 (kq ≤ k) ∧ Aside0 (Kd.R (Kd.int .i64) 3 w' w.heap.size (fun _ => True) v5 x5_1) ∧ Aside0 (Below w.heap.size w w'))
 case atStart => exact ⟨(([] : List Int)), (0), (by first | rfl | (simp; done) | (simp [*]; done)), H', ⟨Nat.le_refl _⟩, ⟨nl⟩, ⟨bh HB.out⟩⟩
 case round =>
  clear H'
  try clear c1
  obtain ⟨x5_1, x6_1, rfl, HA, HK1, HO_5, HB⟩ := hrel
  cases gk with
  | zero => exact absurd HA.out (by simp [peristyleref26_Follow.l0])
  | succ k1 =>
   have H := HA.out
   clear HA
   simp only [peristyleref26_Follow.l0] at H
   by_cases c3 : x6_1 < (l1.length : Int)
   ·rw [if_pos c3] at H
    have c3b0 : decide (x6_1 < (l1.length : Int)) = true := decide_eq_true c3
    clear c3
    by_cases c4 : 0 ≤ x6_1
    ·rw [if_pos c4] at H
     have c4b0 : decide (0 ≤ x6_1) = true := decide_eq_true c4
     clear c4
     by_cases c5 : 0 ≤ (rd l1 x6_1)
     ·rw [if_pos c5] at H
      have c5b0 : decide (0 ≤ (rd l1 x6_1)) = true := decide_eq_true c5
      clear c5
      by_cases c6 : (rd l1 x6_1) < (l0.length : Int)
      ·rw [if_pos c6] at H
       have c6b0 : decide ((rd l1 x6_1) < (l0.length : Int)) = true := decide_eq_true c6
       clear c6
       by_cases c7 : x5_1.length < 17592186044416
       ·rw [if_pos c7] at H
        have LMc7 := Aside0.mk c7
        clear c7
        obtain ⟨y358, hy358⟩ : ∃ y_ : List Int, y_ = (x5_1 ++ [rd l0 (rd l1 x6_1)]) := ⟨_, rfl⟩
        replace H : (peristyleref26_Follow.l0 k1 l0 l1 y358 (wrap64 (x6_1 + 1))) = some r := by first | (rw [hy358]; with_reducible exact H) | (have H2_ := (Option.bind_some _ _).symm.trans H; rw [hy358]; with_reducible exact H2_) | (have H2_ := (Option.bind_some _ _).symm.trans H; with_reducible exact H2_) | with_reducible exact H | (rw [hy358]; exact H) | exact H
        have Ny358 := Aside0.mk hy358
        clear hy358
        have H' := Aside0.mk H
        clear H
        have p356 : 0 ≤ (x6_1 : Int) := of_decide_eq_true (by assumption)
        have q356 : x6_1 < (l1.length : Int) := of_decide_eq_true (by assumption)
        obtain ⟨ad356, e356, hx356_0⟩ := Kd.at_int HR1.out x6_1 p356 q356
        cases e356
        replace hx356_0 := (HB.out.cell (World.block_lt_of_cell? w _ hx356_0)).trans hx356_0
        replace p356 := eq_true p356
        replace q356 := eq_true q356
        have p357 : 0 ≤ ((rd l1 x6_1) : Int) := of_decide_eq_true (by assumption)
        have q357 : (rd l1 x6_1) < (l0.length : Int) := of_decide_eq_true (by assumption)
        obtain ⟨ad357, e357, hx357_0⟩ := Kd.at_int HR0.out (rd l1 x6_1) p357 q357
        cases e357
        replace hx357_0 := (HB.out.cell (World.block_lt_of_cell? w _ hx357_0)).trans hx357_0
        replace p357 := eq_true p357
        replace q357 := eq_true q357
        go_wp2_with (first | ((with_reducible refine gate_builtin (b := .append) (xs := #[.tmp 13, .tmp 21]) rfl ?_); at_builtin; refine Kd.R_append (Kd.int .i64) (w0 := w) w.heap.size rfl (.tmp 13) (.tmp 21) 22 3 (.int .i64 0) 8 rfl Try.underlying22 info3 rfl (by decide) (by omega) u5 x5_1 (rd l0 (rd l1 x6_1)) [.int .i64 (rd l0 (rd l1 x6_1))] (fun _ => True) (fun _ => False) rfl rfl ?aP (fun _ hk => hk.elim) ?aF ?aO ?aB ?aS ?aL ?_; (case aP => exact rfl); (case aB => exact (bh HB.out)); (case aF => exact (fun _ _ => trivial)); (case aO => exact (rx HO_5.out)); (case aS => exact (below_size (bh HB.out))); (case aL => have := LMc7.out; omega); intro v359 w8 ho hb hg hat; rw [← Ny358.out] at ho; have n0_ := Aside0.mk (hb); have n1_ := Aside0.mk (ho); clear HB HO_5; have HB := n0_; have HO360 := n1_; clear n0_ n1_; clear ho hb hg hat))
        go_roundg k1
        case measure => have := HK1.out; omega
        case rel => exact ⟨(y358), (wrap64 (x6_1 + 1)), (by first | rfl | (simp; done) | (simp [*]; done)), H', ⟨by have := HK1.out; omega⟩, ⟨by (with_reducible repeat (first | apply Kd.R_alloc | apply Kd.R_drewN | apply Kd.R_drew)); exact HO360.out⟩, ⟨bh HB.out⟩⟩
       ·rw [if_neg c7] at H
        exact absurd H (by simp)
      ·rw [if_neg c6] at H
       exact absurd H (by simp)
     ·rw [if_neg c5] at H
      exact absurd H (by simp)
    ·rw [if_neg c4] at H
     exact absurd H (by simp)
   ·rw [if_neg c3] at H
    have c3b0 : decide (x6_1 < (l1.length : Int)) = false := decide_eq_false c3
    clear c3
    obtain rfl := Option.some.inj H
    go_wp2
    go_ret
    exact ⟨_, er, by (with_reducible repeat (first | apply Kd.R_alloc | apply Kd.R_drewN | apply Kd.R_drew)); exact HO_5.out, bh HB.out⟩
end Go.Proofs.Ytbmlfbbcgbgnoaa.Print
end
section
namespace Go.Proofs.Ytbmlfbbcgbgnoaa.Print
open Go.RowKit Go.Proofs.YtbmlfbbcgbgnoaaW.PrintWords Go.Proofs.YtbmlfbbcgbgnoaaW.PrintLast Go.Proofs.YtbmlfbbcgbgnoaaW.PrintMore
attribute [local go_sem] max2_int min2_int max_two min_two max_three min_three max_four min_four   -- for this text's walks alone
set_option linter.unusedVariables false
set_option linter.unusedSimpArgs false
/-! ### peristyleref14_Spans: function 61 -/
def peristyleref14_Spans.l0 : Nat → List Bool → List (S79) → Int → Option ((List (S79)))
 | 0, _, _, _ => none
 | k + 1, x0, x3, x4 => if x4 < (x0.length : Int) then (if 0 ≤ x4 then (if rdOf false x0 x4 = true then (if x4 > 0 then (if 0 ≤ (wrap64 (x4 - 1)) then (if (wrap64 (x4 - 1)) < (x0.length : Int) then (if rdOf false x0 (wrap64 (x4 - 1)) = true then (if 0 ≤ (wrap64 ((x3.length : Int) - 1)) then (if (wrap64 ((x3.length : Int) - 1)) < (x3.length : Int) then (peristyleref14_Spans.l0 k x0 (x3.set ((wrap64 ((x3.length : Int) - 1)) : Int).toNat (⟨(rd_T79 x3 (wrap64 ((x3.length : Int) - 1))).f0, wrap64 (((rd_T79 x3 (wrap64 ((x3.length : Int) - 1))).f1) + 1)⟩ : S79)) (wrap64 (x4 + 1))) else (none)) else (none)) else (if x3.length < 8796093022208 then (peristyleref14_Spans.l0 k x0 (x3 ++ [(⟨x4, wrap64 (x4 + 1)⟩ : S79)]) (wrap64 (x4 + 1))) else (none))) else (none)) else (none)) else (if x3.length < 8796093022208 then (peristyleref14_Spans.l0 k x0 (x3 ++ [(⟨x4, wrap64 (x4 + 1)⟩ : S79)]) (wrap64 (x4 + 1))) else (none))) else (peristyleref14_Spans.l0 k x0 x3 (wrap64 (x4 + 1)))) else (none)) else (some x3)
def peristyleref14_Spans.f (k : Nat) (l0 : List Bool) : Option ((List (S79))) := peristyleref14_Spans.l0 k l0 ([] : List (S79)) 0
theorem peristyleref14_Spans.l0_succ (k : Nat) (x0 : List Bool) (x3 : List (S79)) (x4 : Int) : peristyleref14_Spans.l0 (k + 1) x0 x3 x4 = (if x4 < (x0.length : Int) then (if 0 ≤ x4 then (if rdOf false x0 x4 = true then (if x4 > 0 then (if 0 ≤ (wrap64 (x4 - 1)) then (if (wrap64 (x4 - 1)) < (x0.length : Int) then (if rdOf false x0 (wrap64 (x4 - 1)) = true then (if 0 ≤ (wrap64 ((x3.length : Int) - 1)) then (if (wrap64 ((x3.length : Int) - 1)) < (x3.length : Int) then (peristyleref14_Spans.l0 k x0 (x3.set ((wrap64 ((x3.length : Int) - 1)) : Int).toNat (⟨(rd_T79 x3 (wrap64 ((x3.length : Int) - 1))).f0, wrap64 (((rd_T79 x3 (wrap64 ((x3.length : Int) - 1))).f1) + 1)⟩ : S79)) (wrap64 (x4 + 1))) else (none)) else (none)) else (if x3.length < 8796093022208 then (peristyleref14_Spans.l0 k x0 (x3 ++ [(⟨x4, wrap64 (x4 + 1)⟩ : S79)]) (wrap64 (x4 + 1))) else (none))) else (none)) else (none)) else (if x3.length < 8796093022208 then (peristyleref14_Spans.l0 k x0 (x3 ++ [(⟨x4, wrap64 (x4 + 1)⟩ : S79)]) (wrap64 (x4 + 1))) else (none))) else (peristyleref14_Spans.l0 k x0 x3 (wrap64 (x4 + 1)))) else (none)) else (some x3)) := by
 simp only [peristyleref14_Spans.l0]
set_option maxHeartbeats 8000000 in
set_option maxRecDepth 100000 in
theorem peristyleref14_Spans.calls (k : Nat) (A0 : Option Addr) (c0 : Nat) (l0 : List Bool) (r : List (S79)) (w : World) (hr0 : Kd.C Kd.bool w A0 l0.length l0) (hc0 : l0.length ≤ c0) (h : peristyleref14_Spans.f k l0 = some r) :
  Calls Try.prog 61 #[.slice A0 l0.length c0] w fun e w' => ∃ v0_ : Value, e = .returned (v0_) ∧ Kd.R k79 79 w' w.heap.size (fun _ => True) v0_ r ∧ Below w.heap.size w w' := by
 have hu79 := Try.underlying79
 have HR0 := Aside0.mk hr0
 have HC0 := Aside0.mk hc0
 clear hr0 hc0
 have HB := Aside0.mk (Below.refl w.heap.size w)
 have H : (peristyleref14_Spans.l0 k l0 ([] : List (S79)) 0) = some r := h
 clear h
 have H' := Aside0.mk H
 clear H
 go_enter Try.func61, Try.ntmps61
 go_wp2
 go_loopg [3, 4] k (fun kq v3 v4 w' => ∃ (x3_1 : List (S79)) (x4_1 : Int), v4 = .int .i64 x4_1 ∧ Aside0 (peristyleref14_Spans.l0 kq l0 x3_1 x4_1 = some r) ∧ Aside0 (kq ≤ k) ∧ Aside0 (Kd.R k79 79 w' w.heap.size (fun _ => True) v3 x3_1) ∧ Aside0 (Below w.heap.size w w'))
 case atStart => exact ⟨(([] : List (S79))), (0), (by first | rfl | (simp; done) | (simp [*]; done)), H', ⟨Nat.le_refl _⟩, ⟨nl⟩, ⟨bh HB.out⟩⟩
 case round =>
  clear H'
  obtain ⟨x3_1, x4_1, rfl, HA, HK1, HO_3, HB⟩ := hrel
  cases gk with
  | zero => exact absurd HA.out (by simp [peristyleref14_Spans.l0])
  | succ k1 =>
   have H := HA.out
   clear HA
   simp only [peristyleref14_Spans.l0] at H
   by_cases c2 : x4_1 < (l0.length : Int)
   ·rw [if_pos c2] at H
    have c2b0 : decide (x4_1 < (l0.length : Int)) = true := decide_eq_true c2
    clear c2
    by_cases c3 : 0 ≤ x4_1
    ·rw [if_pos c3] at H
     have c3b0 : decide (0 ≤ x4_1) = true := decide_eq_true c3
     clear c3
     obtain ⟨bq4, hbq4⟩ : ∃ b_ : Bool, b_ = (rdOf false l0 x4_1) := ⟨_, rfl⟩
     replace H : (if bq4 = true then (if x4_1 > 0 then (if 0 ≤ (wrap64 (x4_1 - 1)) then (if (wrap64 (x4_1 - 1)) < (l0.length : Int) then (if rdOf false l0 (wrap64 (x4_1 - 1)) = true then (if 0 ≤ (wrap64 ((x3_1.length : Int) - 1)) then (if (wrap64 ((x3_1.length : Int) - 1)) < (x3_1.length : Int) then (peristyleref14_Spans.l0 k1 l0 (x3_1.set ((wrap64 ((x3_1.length : Int) - 1)) : Int).toNat (⟨(rd_T79 x3_1 (wrap64 ((x3_1.length : Int) - 1))).f0, wrap64 (((rd_T79 x3_1 (wrap64 ((x3_1.length : Int) - 1))).f1) + 1)⟩ : S79)) (wrap64 (x4_1 + 1))) else (none)) else (none)) else (if x3_1.length < 8796093022208 then (peristyleref14_Spans.l0 k1 l0 (x3_1 ++ [(⟨x4_1, wrap64 (x4_1 + 1)⟩ : S79)]) (wrap64 (x4_1 + 1))) else (none))) else (none)) else (none)) else (if x3_1.length < 8796093022208 then (peristyleref14_Spans.l0 k1 l0 (x3_1 ++ [(⟨x4_1, wrap64 (x4_1 + 1)⟩ : S79)]) (wrap64 (x4_1 + 1))) else (none))) else (peristyleref14_Spans.l0 k1 l0 x3_1 (wrap64 (x4_1 + 1)))) = some r := by rw [← hbq4] at H; exact H
     have Nbq4 := Aside0.mk hbq4
     clear hbq4
     by_cases c5 : bq4 = true
     ·subst c5
      have H1 : (if x4_1 > 0 then (if 0 ≤ (wrap64 (x4_1 - 1)) then (if (wrap64 (x4_1 - 1)) < (l0.length : Int) then (if rdOf false l0 (wrap64 (x4_1 - 1)) = true then (if 0 ≤ (wrap64 ((x3_1.length : Int) - 1)) then (if (wrap64 ((x3_1.length : Int) - 1)) < (x3_1.length : Int) then (peristyleref14_Spans.l0 k1 l0 (x3_1.set ((wrap64 ((x3_1.length : Int) - 1)) : Int).toNat (⟨(rd_T79 x3_1 (wrap64 ((x3_1.length : Int) - 1))).f0, wrap64 (((rd_T79 x3_1 (wrap64 ((x3_1.length : Int) - 1))).f1) + 1)⟩ : S79)) (wrap64 (x4_1 + 1))) else (none)) else (none)) else (if x3_1.length < 8796093022208 then (peristyleref14_Spans.l0 k1 l0 (x3_1 ++ [(⟨x4_1, wrap64 (x4_1 + 1)⟩ : S79)]) (wrap64 (x4_1 + 1))) else (none))) else (none)) else (none)) else (if x3_1.length < 8796093022208 then (peristyleref14_Spans.l0 k1 l0 (x3_1 ++ [(⟨x4_1, wrap64 (x4_1 + 1)⟩ : S79)]) (wrap64 (x4_1 + 1))) else (none))) = some r := by rw [if_pos rfl] at H; exact H
      clear H
      have H := H1
      clear H1
      by_cases c6 : x4_1 > 0
      ·rw [if_pos c6] at H
       have c6b0 : decide (0 < x4_1) = true := decide_eq_true c6
       clear c6
       obtain ⟨ji7, hji7⟩ : ∃ j_ : Int, (wrap64 (x4_1 - 1)) = j_ := ⟨_, rfl⟩
       replace H : (if 0 ≤ (ji7) then (if (ji7) < (l0.length : Int) then (if rdOf false l0 (ji7) = true then (if 0 ≤ (wrap64 ((x3_1.length : Int) - 1)) then (if (wrap64 ((x3_1.length : Int) - 1)) < (x3_1.length : Int) then (peristyleref14_Spans.l0 k1 l0 (x3_1.set ((wrap64 ((x3_1.length : Int) - 1)) : Int).toNat (⟨(rd_T79 x3_1 (wrap64 ((x3_1.length : Int) - 1))).f0, wrap64 (((rd_T79 x3_1 (wrap64 ((x3_1.length : Int) - 1))).f1) + 1)⟩ : S79)) (wrap64 (x4_1 + 1))) else (none)) else (none)) else (if x3_1.length < 8796093022208 then (peristyleref14_Spans.l0 k1 l0 (x3_1 ++ [(⟨x4_1, wrap64 (x4_1 + 1)⟩ : S79)]) (wrap64 (x4_1 + 1))) else (none))) else (none)) else (none)) = some r := by first | (rw [hji7] at H; exact H) | (simp only [hji7] at H ⊢; exact H)
       have hji7w : (IntKind.i64.wrap (x4_1 - 1)) = ji7 := (i64_w _).trans hji7
       by_cases c8 : 0 ≤ (ji7)
       ·rw [if_pos c8] at H
        have c8b0 : decide (0 ≤ (ji7)) = true := decide_eq_true c8
        clear c8
        by_cases c9 : (ji7) < (l0.length : Int)
        ·rw [if_pos c9] at H
         have c9b0 : decide ((ji7) < (l0.length : Int)) = true := decide_eq_true c9
         clear c9
         obtain ⟨bq10, hbq10⟩ : ∃ b_ : Bool, b_ = (rdOf false l0 (ji7)) := ⟨_, rfl⟩
         replace H : (if bq10 = true then (if 0 ≤ (wrap64 ((x3_1.length : Int) - 1)) then (if (wrap64 ((x3_1.length : Int) - 1)) < (x3_1.length : Int) then (peristyleref14_Spans.l0 k1 l0 (x3_1.set ((wrap64 ((x3_1.length : Int) - 1)) : Int).toNat (⟨(rd_T79 x3_1 (wrap64 ((x3_1.length : Int) - 1))).f0, wrap64 (((rd_T79 x3_1 (wrap64 ((x3_1.length : Int) - 1))).f1) + 1)⟩ : S79)) (wrap64 (x4_1 + 1))) else (none)) else (none)) else (if x3_1.length < 8796093022208 then (peristyleref14_Spans.l0 k1 l0 (x3_1 ++ [(⟨x4_1, wrap64 (x4_1 + 1)⟩ : S79)]) (wrap64 (x4_1 + 1))) else (none))) = some r := by rw [← hbq10] at H; exact H
         have Nbq10 := Aside0.mk hbq10
         clear hbq10
         by_cases c11 : bq10 = true
         ·subst c11
          have H1 : (if 0 ≤ (wrap64 ((x3_1.length : Int) - 1)) then (if (wrap64 ((x3_1.length : Int) - 1)) < (x3_1.length : Int) then (peristyleref14_Spans.l0 k1 l0 (x3_1.set ((wrap64 ((x3_1.length : Int) - 1)) : Int).toNat (⟨(rd_T79 x3_1 (wrap64 ((x3_1.length : Int) - 1))).f0, wrap64 (((rd_T79 x3_1 (wrap64 ((x3_1.length : Int) - 1))).f1) + 1)⟩ : S79)) (wrap64 (x4_1 + 1))) else (none)) else (none)) = some r := by rw [if_pos rfl] at H; exact H
          clear H
          have H := H1
          clear H1
          obtain ⟨ji12, hji12⟩ : ∃ j_ : Int, (wrap64 ((x3_1.length : Int) - 1)) = j_ := ⟨_, rfl⟩
          replace H : (if 0 ≤ (ji12) then (if (ji12) < (x3_1.length : Int) then (peristyleref14_Spans.l0 k1 l0 (x3_1.set ((ji12) : Int).toNat (⟨(rd_T79 x3_1 (ji12)).f0, wrap64 (((rd_T79 x3_1 (ji12)).f1) + 1)⟩ : S79)) (wrap64 (x4_1 + 1))) else (none)) else (none)) = some r := by first | (rw [hji12] at H; exact H) | (simp only [hji12] at H ⊢; exact H)
          have hji12w : (IntKind.i64.wrap ((x3_1.length : Int) - 1)) = ji12 := (i64_w _).trans hji12
          by_cases c13 : 0 ≤ (ji12)
          ·rw [if_pos c13] at H
           have c13b0 : decide (0 ≤ (ji12)) = true := decide_eq_true c13
           clear c13
           by_cases c14 : (ji12) < (x3_1.length : Int)
           ·rw [if_pos c14] at H
            have c14b0 : decide ((ji12) < (x3_1.length : Int)) = true := decide_eq_true c14
            clear c14
            obtain ⟨y364, hy364⟩ : ∃ y_ : List (S79), y_ = (x3_1.set ((ji12) : Int).toNat (⟨(rd_T79 x3_1 (ji12)).f0, wrap64 (((rd_T79 x3_1 (ji12)).f1) + 1)⟩ : S79)) := ⟨_, rfl⟩
            replace H : (peristyleref14_Spans.l0 k1 l0 y364 (wrap64 (x4_1 + 1))) = some r := by first | (rw [hy364]; with_reducible exact H) | (have H2_ := (Option.bind_some _ _).symm.trans H; rw [hy364]; with_reducible exact H2_) | (have H2_ := (Option.bind_some _ _).symm.trans H; with_reducible exact H2_) | with_reducible exact H | (rw [hy364]; exact H) | exact H
            have Ny364 := Aside0.mk hy364
            clear hy364
            have H' := Aside0.mk H
            clear H
            have p361 : 0 ≤ (x4_1 : Int) := of_decide_eq_true (by assumption)
            have q361 : x4_1 < (l0.length : Int) := of_decide_eq_true (by assumption)
            obtain ⟨ad361, e361, hx361_0⟩ := Kd.at_bool HR0.out x4_1 p361 q361
            (try rw [← Nbq4.out] at hx361_0)
            (try rw [← Nbq10.out] at hx361_0)
            cases e361
            replace hx361_0 := (HB.out.cell (World.block_lt_of_cell? w _ hx361_0)).trans hx361_0
            replace p361 := eq_true p361
            replace q361 := eq_true q361
            have p362 : 0 ≤ ((ji7) : Int) := of_decide_eq_true (by assumption)
            have q362 : (ji7) < (l0.length : Int) := of_decide_eq_true (by assumption)
            obtain ⟨ad362, e362, hx362_0⟩ := Kd.at_bool HR0.out (ji7) p362 q362
            (try rw [← Nbq4.out] at hx362_0)
            (try rw [← Nbq10.out] at hx362_0)
            obtain rfl : ad361 = ad362 := (by injection e362)
            replace hx362_0 := (HB.out.cell (World.block_lt_of_cell? w _ hx362_0)).trans hx362_0
            replace p362 := eq_true p362
            replace q362 := eq_true q362
            obtain ⟨Ao16, co16, eo16⟩ := Kd.R_slice HO_3.out
            subst eo16
            have p363 : 0 ≤ ((ji12) : Int) := of_decide_eq_true (by assumption)
            have q363 : (ji12) < (x3_1.length : Int) := of_decide_eq_true (by assumption)
            obtain ⟨ad363, e363, hx363_0, hx363_1⟩ := at_T79 (Kd.R_reads' HO_3.out).2.2 (ji12) p363 q363
            cases e363
            replace p363 := eq_true p363
            replace q363 := eq_true q363
            have p15 : 0 ≤ ((ji12) : Int) := of_decide_eq_true (by assumption)
            have q15 : ((ji12) : Int) < ((x3_1.length : Int) : Int) := of_decide_eq_true (by assumption)
            obtain ⟨go15, co15, eo15, gb15, gl15, cl15, HG15⟩ := Kd.R_form HO_3.out (by omega)
            (first | cases eo15 | (injection eo15 with ea_ en_ ec_; (first | subst ea_ | (injection ea_ with ea_; subst ea_)); subst ec_; clear en_))
            have GB15 := Aside0.mk gb15
            have GG15 := Aside0.mk HG15
            clear gb15 gl15 HG15
            (first | simp only [add_plain] at hx363_0 | skip)
            (first | simp only [add_plain] at hx363_1 | skip)
            obtain ⟨ce15, hcl15, hM15, hcc15, hfr15⟩ := Kd.R_elem HO_3.out z79 ((ji12) : Int) p15 q15
            obtain rfl := k79_openM hM15
            have hx15_0 : wr.cell? ⟨go15, ((ji12) : Int).toNat * 2, none⟩ = some (.int .i64 ((rd_T79 x3_1 (ji12)).f0)) := hcc15 0 _ rfl
            have hx15_1 : wr.cell? ⟨go15, ((ji12) : Int).toNat * 2 + 1, none⟩ = some (.int .i64 ((rd_T79 x3_1 (ji12)).f1)) := hcc15 1 _ rfl
            have hf15_0 : wr.frozen? ⟨go15, ((ji12) : Int).toNat * 2, none⟩ = false := hfr15 0
            have hf15_1 : wr.frozen? ⟨go15, ((ji12) : Int).toNat * 2 + 1, none⟩ = false := hfr15 1
            clear hcl15 hcc15 hfr15 hM15
            replace p15 := eq_true p15
            replace q15 := eq_true q15
            have HX17 := Aside0.mk (show Kd.R k79 79 wr w.heap.size (fun _ => True) (.slice (some ⟨go15, 0, none⟩) x3_1.length co16) x3_1 from (rx HO_3.out))
            obtain ⟨ce17, hcl17, hM17, hcc17, hfr17⟩ := Kd.R_elem HX17.out z79 ((ji12) : Int) (of_decide_eq_true (by assumption)) (by have h_ : ((ji12) : Int) < ((x3_1.length : Int) : Int) := of_decide_eq_true (by assumption); first | exact h_ | (have e_ := (Kd.R_reads' HO_3.out).1; omega) | simpa using h_)
            obtain rfl := k79_openM hM17
            have HP17 := Kd.R_seg HX17.out ((ji12) : Int) (of_decide_eq_true (by assumption)) (by have h_ : ((ji12) : Int) < ((x3_1.length : Int) : Int) := of_decide_eq_true (by assumption); first | exact h_ | (have e_ := (Kd.R_reads' HO_3.out).1; omega) | simpa using h_) (seg := [.int .i64 (wrap64 (((rd_T79 x3_1 (ji12)).f1) + 1))]) (j := 1) hcl17 hcc17 (show 2 ≤ 2 from by decide) (x' := (⟨(rd_T79 x3_1 (ji12)).f0, wrap64 (((rd_T79 x3_1 (ji12)).f1) + 1)⟩ : S79)) (k79_mkM _ _ _ (⟨(rd_T79 x3_1 (ji12)).f0, wrap64 (((rd_T79 x3_1 (ji12)).f1) + 1)⟩ : S79) ) (fun _ hk => hk)
            have hx17_1 := hcc17 1 _ rfl
            (try simp only [show (k79).sz = 2 from rfl, Nat.mul_one, Nat.add_zero] at hx17_1)
            have hf17_1 := hfr17 1
            (try simp only [show (k79).sz = 2 from rfl, Nat.mul_one, Nat.add_zero] at hf17_1)
            clear hcl17 hcc17 hfr17 hM17
            go_wp2_with (first | ((with_reducible refine gate_store (t := 3) (p := 34) rfl ?_); refine store_event (t := 3) (p := 34) (v := ?vo_w18) (w1 := (wr.setCell ⟨go15, ((ji12) : Int).toNat * 2 + 1, none⟩ (.int .i64 (wrap64 (((rd_T79 x3_1 (ji12)).f1) + 1))))) ?hg ?ho ?hn ?hr ?_; (case ho => rfl); (case hg => rfl); (case hn => rfl); (case hr => first | (go_simp; done) | (go_simp; rfl)); intro w18 hw; have hg : wr.grownBy w18 (some go15) := (by rw [hw]; exact HP17.2); have hp_ : Kd.R k79 79 w18 w.heap.size (fun _ => True) (.slice (some ⟨go15, 0, none⟩) x3_1.length co16) y364 := (by rw [hw, Ny364.out]; exact HP17.1); clear HP17; replace HO_3 := Aside0.mk (hp_); replace HB := Aside0.mk ((by rw [hw]; exact below_set (HB.out) GB15.out : Below w.heap.size w w18)); clear hg hw hp_))
            go_roundg k1
            case measure => have := HK1.out; omega
            case rel => exact ⟨(y364), (wrap64 (x4_1 + 1)), (by first | rfl | (simp; done) | (simp [*]; done)), (by first | exact H' | (simp only [hji7, hji12]; exact H')), ⟨by have := HK1.out; omega⟩, ⟨by (with_reducible repeat (first | apply Kd.R_alloc | apply Kd.R_drewN | apply Kd.R_drew)); exact HO_3.out⟩, ⟨bh HB.out⟩⟩
           ·rw [if_neg c14] at H
            exact absurd H (by simp)
          ·rw [if_neg c13] at H
           exact absurd H (by simp)
         ·replace c11 := Bool.eq_false_iff.mpr c11
          subst c11
          have H1 : (if x3_1.length < 8796093022208 then (peristyleref14_Spans.l0 k1 l0 (x3_1 ++ [(⟨x4_1, wrap64 (x4_1 + 1)⟩ : S79)]) (wrap64 (x4_1 + 1))) else (none)) = some r := by rw [if_neg (show ¬ (false = true) by decide)] at H; exact H
          clear H
          have H := H1
          clear H1
          by_cases c19 : x3_1.length < 8796093022208
          ·rw [if_pos c19] at H
           have LMc19 := Aside0.mk c19
           clear c19
           obtain ⟨y365, hy365⟩ : ∃ y_ : List (S79), y_ = (x3_1 ++ [(⟨x4_1, wrap64 (x4_1 + 1)⟩ : S79)]) := ⟨_, rfl⟩
           replace H : (peristyleref14_Spans.l0 k1 l0 y365 (wrap64 (x4_1 + 1))) = some r := by first | (rw [hy365]; with_reducible exact H) | (have H2_ := (Option.bind_some _ _).symm.trans H; rw [hy365]; with_reducible exact H2_) | (have H2_ := (Option.bind_some _ _).symm.trans H; with_reducible exact H2_) | with_reducible exact H | (rw [hy365]; exact H) | exact H
           have Ny365 := Aside0.mk hy365
           clear hy365
           have H' := Aside0.mk H
           clear H
           have p361 : 0 ≤ (x4_1 : Int) := of_decide_eq_true (by assumption)
           have q361 : x4_1 < (l0.length : Int) := of_decide_eq_true (by assumption)
           obtain ⟨ad361, e361, hx361_0⟩ := Kd.at_bool HR0.out x4_1 p361 q361
           (try rw [← Nbq4.out] at hx361_0)
           (try rw [← Nbq10.out] at hx361_0)
           cases e361
           replace hx361_0 := (HB.out.cell (World.block_lt_of_cell? w _ hx361_0)).trans hx361_0
           replace p361 := eq_true p361
           replace q361 := eq_true q361
           have p362 : 0 ≤ ((ji7) : Int) := of_decide_eq_true (by assumption)
           have q362 : (ji7) < (l0.length : Int) := of_decide_eq_true (by assumption)
           obtain ⟨ad362, e362, hx362_0⟩ := Kd.at_bool HR0.out (ji7) p362 q362
           (try rw [← Nbq4.out] at hx362_0)
           (try rw [← Nbq10.out] at hx362_0)
           obtain rfl : ad361 = ad362 := (by injection e362)
           replace hx362_0 := (HB.out.cell (World.block_lt_of_cell? w _ hx362_0)).trans hx362_0
           replace p362 := eq_true p362
           replace q362 := eq_true q362
           go_wp2_with (first | ((with_reducible refine gate_builtin (b := .append) (xs := #[.tmp 35, .tmp 40]) rfl ?_); at_builtin; refine Kd.R_append k79 (w0 := w) w.heap.size rfl (.tmp 35) (.tmp 40) 49 79 (.agg #[(.int .i64 0), (.int .i64 0)]) 16 rfl Try.underlying49 info79 rfl (by decide) (by omega) u3 x3_1 (⟨x4_1, wrap64 (x4_1 + 1)⟩ : S79) [.int .i64 x4_1, .int .i64 (wrap64 (x4_1 + 1))] (fun _ => True) (fun _ => False) rfl rfl ?aP (fun _ hk => hk.elim) ?aF ?aO ?aB ?aS ?aL ?_; (case aP => exact k79_mkM _ _ _ (⟨x4_1, wrap64 (x4_1 + 1)⟩ : S79)); (case aB => exact (bh HB.out)); (case aF => exact (fun _ _ => trivial)); (case aO => exact (rx HO_3.out)); (case aS => exact (below_size (bh HB.out))); (case aL => have := LMc19.out; omega); intro v366 w20 ho hb hg hat; rw [← Ny365.out] at ho; have n0_ := Aside0.mk (hb); have n1_ := Aside0.mk (ho); clear HB HO_3; have HB := n0_; have HO367 := n1_; clear n0_ n1_; clear ho hb hg hat))
           go_roundg k1
           case measure => have := HK1.out; omega
           case rel => exact ⟨(y365), (wrap64 (x4_1 + 1)), (by first | rfl | (simp; done) | (simp [*]; done)), (by first | exact H' | (simp only [hji7]; exact H')), ⟨by have := HK1.out; omega⟩, ⟨by (with_reducible repeat (first | apply Kd.R_alloc | apply Kd.R_drewN | apply Kd.R_drew)); exact HO367.out⟩, ⟨bh HB.out⟩⟩
          ·rw [if_neg c19] at H
           exact absurd H (by simp)
        ·rw [if_neg c9] at H
         exact absurd H (by simp)
       ·rw [if_neg c8] at H
        exact absurd H (by simp)
      ·rw [if_neg c6] at H
       have c6b0 : decide (0 < x4_1) = false := decide_eq_false c6
       clear c6
       by_cases c21 : x3_1.length < 8796093022208
       ·rw [if_pos c21] at H
        have LMc21 := Aside0.mk c21
        clear c21
        obtain ⟨y368, hy368⟩ : ∃ y_ : List (S79), y_ = (x3_1 ++ [(⟨x4_1, wrap64 (x4_1 + 1)⟩ : S79)]) := ⟨_, rfl⟩
        replace H : (peristyleref14_Spans.l0 k1 l0 y368 (wrap64 (x4_1 + 1))) = some r := by first | (rw [hy368]; with_reducible exact H) | (have H2_ := (Option.bind_some _ _).symm.trans H; rw [hy368]; with_reducible exact H2_) | (have H2_ := (Option.bind_some _ _).symm.trans H; with_reducible exact H2_) | with_reducible exact H | (rw [hy368]; exact H) | exact H
        have Ny368 := Aside0.mk hy368
        clear hy368
        have H' := Aside0.mk H
        clear H
        have p361 : 0 ≤ (x4_1 : Int) := of_decide_eq_true (by assumption)
        have q361 : x4_1 < (l0.length : Int) := of_decide_eq_true (by assumption)
        obtain ⟨ad361, e361, hx361_0⟩ := Kd.at_bool HR0.out x4_1 p361 q361
        (try rw [← Nbq4.out] at hx361_0)
        cases e361
        replace hx361_0 := (HB.out.cell (World.block_lt_of_cell? w _ hx361_0)).trans hx361_0
        replace p361 := eq_true p361
        replace q361 := eq_true q361
        go_wp2_with (first | ((with_reducible refine gate_builtin (b := .append) (xs := #[.tmp 35, .tmp 40]) rfl ?_); at_builtin; refine Kd.R_append k79 (w0 := w) w.heap.size rfl (.tmp 35) (.tmp 40) 49 79 (.agg #[(.int .i64 0), (.int .i64 0)]) 16 rfl Try.underlying49 info79 rfl (by decide) (by omega) u3 x3_1 (⟨x4_1, wrap64 (x4_1 + 1)⟩ : S79) [.int .i64 x4_1, .int .i64 (wrap64 (x4_1 + 1))] (fun _ => True) (fun _ => False) rfl rfl ?aP (fun _ hk => hk.elim) ?aF ?aO ?aB ?aS ?aL ?_; (case aP => exact k79_mkM _ _ _ (⟨x4_1, wrap64 (x4_1 + 1)⟩ : S79)); (case aB => exact (bh HB.out)); (case aF => exact (fun _ _ => trivial)); (case aO => exact (rx HO_3.out)); (case aS => exact (below_size (bh HB.out))); (case aL => have := LMc21.out; omega); intro v369 w22 ho hb hg hat; rw [← Ny368.out] at ho; have n0_ := Aside0.mk (hb); have n1_ := Aside0.mk (ho); clear HB HO_3; have HB := n0_; have HO370 := n1_; clear n0_ n1_; clear ho hb hg hat))
        go_roundg k1
        case measure => have := HK1.out; omega
        case rel => exact ⟨(y368), (wrap64 (x4_1 + 1)), (by first | rfl | (simp; done) | (simp [*]; done)), H', ⟨by have := HK1.out; omega⟩, ⟨by (with_reducible repeat (first | apply Kd.R_alloc | apply Kd.R_drewN | apply Kd.R_drew)); exact HO370.out⟩, ⟨bh HB.out⟩⟩
       ·rw [if_neg c21] at H
        exact absurd H (by simp)
     ·replace c5 := Bool.eq_false_iff.mpr c5
      subst c5
      have H1 : (peristyleref14_Spans.l0 k1 l0 x3_1 (wrap64 (x4_1 + 1))) = some r := by rw [if_neg (show ¬ (false = true) by decide)] at H; exact H
      clear H
      have H := H1
      clear H1
      have H' := Aside0.mk H
      clear H
      have p361 : 0 ≤ (x4_1 : Int) := of_decide_eq_true (by assumption)
      have q361 : x4_1 < (l0.length : Int) := of_decide_eq_true (by assumption)
      obtain ⟨ad361, e361, hx361_0⟩ := Kd.at_bool HR0.out x4_1 p361 q361
      (try rw [← Nbq4.out] at hx361_0)
      cases e361
      replace hx361_0 := (HB.out.cell (World.block_lt_of_cell? w _ hx361_0)).trans hx361_0
      replace p361 := eq_true p361
      replace q361 := eq_true q361
      go_wp2
      go_roundg k1
      case measure => have := HK1.out; omega
      case rel => exact ⟨(x3_1), (wrap64 (x4_1 + 1)), (by first | rfl | (simp; done) | (simp [*]; done)), H', ⟨by have := HK1.out; omega⟩, ⟨by (with_reducible repeat (first | apply Kd.R_alloc | apply Kd.R_drewN | apply Kd.R_drew)); exact HO_3.out⟩, ⟨bh HB.out⟩⟩
    ·rw [if_neg c3] at H
     exact absurd H (by simp)
   ·rw [if_neg c2] at H
    have c2b0 : decide (x4_1 < (l0.length : Int)) = false := decide_eq_false c2
    clear c2
    obtain rfl := Option.some.inj H
    go_wp2
    go_ret
    exact ⟨_, er, by (with_reducible repeat (first | apply Kd.R_alloc | apply Kd.R_drewN | apply Kd.R_drew)); exact HO_3.out, bh HB.out⟩
/-! ### peristyleref14_Of: function 31 -/
mutual
def peristyleref14_Of.l0 : Nat → List Int → Int → Int → Option ((List (S79)) × Int)
 | 0, _, _, _ => none
 | k + 1, x0, x4, x5 => if x5 < (x0.length : Int) then (if 0 ≤ x5 then (if (rd x0 x5) < 0 then (some (([] : List (S79)), 1)) else (if (rd x0 x5) ≥ 65536 then (some (([] : List (S79)), 1)) else (peristyleref14_Of.l0 k x0 (mx x4 (wrap64 ((rd x0 x5) + 1))) (wrap64 (x5 + 1))))) else (none)) else (if 0 ≤ x4 then (if (x4 : Int).toNat ≤ 281474976710656 then (peristyleref14_Of.l1 k x0 (List.replicate (x4 : Int).toNat false) 0) else (none)) else (none))
def peristyleref14_Of.l1 : Nat → List Int → List Bool → Int → Option ((List (S79)) × Int)
 | 0, _, _, _ => none
 | k + 1, x0, x6, x7 => if x7 < (x0.length : Int) then (if 0 ≤ x7 then (if 0 ≤ (rd x0 x7) then (if (rd x0 x7) < (x6.length : Int) then (peristyleref14_Of.l1 k x0 (x6.set ((rd x0 x7) : Int).toNat true) (wrap64 (x7 + 1))) else (none)) else (none)) else (none)) else ((peristyleref14_Spans.f k x6).bind fun t379 => (some (t379, 0)))
end
def peristyleref14_Of.f (k : Nat) (l0 : List Int) : Option ((List (S79)) × Int) := peristyleref14_Of.l0 k l0 0 0
theorem peristyleref14_Of.l0_succ (k : Nat) (x0 : List Int) (x4 : Int) (x5 : Int) : peristyleref14_Of.l0 (k + 1) x0 x4 x5 = (if x5 < (x0.length : Int) then (if 0 ≤ x5 then (if (rd x0 x5) < 0 then (some (([] : List (S79)), 1)) else (if (rd x0 x5) ≥ 65536 then (some (([] : List (S79)), 1)) else (peristyleref14_Of.l0 k x0 (mx x4 (wrap64 ((rd x0 x5) + 1))) (wrap64 (x5 + 1))))) else (none)) else (if 0 ≤ x4 then (if (x4 : Int).toNat ≤ 281474976710656 then (peristyleref14_Of.l1 k x0 (List.replicate (x4 : Int).toNat false) 0) else (none)) else (none))) := by
 simp only [peristyleref14_Of.l0]
theorem peristyleref14_Of.l1_succ (k : Nat) (x0 : List Int) (x6 : List Bool) (x7 : Int) : peristyleref14_Of.l1 (k + 1) x0 x6 x7 = (if x7 < (x0.length : Int) then (if 0 ≤ x7 then (if 0 ≤ (rd x0 x7) then (if (rd x0 x7) < (x6.length : Int) then (peristyleref14_Of.l1 k x0 (x6.set ((rd x0 x7) : Int).toNat true) (wrap64 (x7 + 1))) else (none)) else (none)) else (none)) else ((peristyleref14_Spans.f k x6).bind fun t379 => (some (t379, 0)))) := by
 simp only [peristyleref14_Of.l1]
set_option maxHeartbeats 8000000 in
set_option maxRecDepth 100000 in
theorem peristyleref14_Of.calls (k : Nat) (A0 : Option Addr) (c0 : Nat) (l0 : List Int) (r1 : List (S79)) (r2 : Int) (w : World) (hr0 : Kd.C (Kd.int .i64) w A0 l0.length l0) (hc0 : l0.length ≤ c0) (h : peristyleref14_Of.f k l0 = some (r1, r2)) :
  Calls Try.prog 31 #[.slice A0 l0.length c0] w fun e w' => ∃ v0_ : Value, e = .returned (.tuple #[v0_, .int .i64 r2]) ∧ Kd.R k79 79 w' w.heap.size (fun _ => True) v0_ r1 ∧ Below w.heap.size w w' := by
 have HR0 := Aside0.mk hr0
 have HC0 := Aside0.mk hc0
 clear hr0 hc0
 have HB := Aside0.mk (Below.refl w.heap.size w)
 have H : (peristyleref14_Of.l0 k l0 0 0) = some (r1, r2) := h
 clear h
 have H' := Aside0.mk H
 clear H
 go_enter Try.func31, Try.ntmps31
 go_wp2
 go_loopg [4, 5] k (fun kq v4 v5 w' => ∃ (x4_1 : Int) (x5_1 : Int), v4 = .int .i64 x4_1 ∧ v5 = .int .i64 x5_1 ∧ Aside0 (peristyleref14_Of.l0 kq l0 x4_1 x5_1 = some (r1, r2)) ∧ Aside0 (kq ≤ k) ∧ Aside0 (Below w.heap.size w w'))
 case atStart => exact ⟨(0), (0), (by first | rfl | (simp; done) | (simp [*]; done)), (by first | rfl | (simp; done) | (simp [*]; done)), H', ⟨Nat.le_refl _⟩, ⟨bh HB.out⟩⟩
 case round =>
  clear H'
  obtain ⟨x4_1, x5_1, rfl, rfl, HA, HK1, HB⟩ := hrel
  cases gk with
  | zero => exact absurd HA.out (by simp [peristyleref14_Of.l0])
  | succ k1 =>
   have H := HA.out
   clear HA
   simp only [peristyleref14_Of.l0] at H
   by_cases c2 : x5_1 < (l0.length : Int)
   ·rw [if_pos c2] at H
    have c2b0 : decide (x5_1 < (l0.length : Int)) = true := decide_eq_true c2
    clear c2
    by_cases c3 : 0 ≤ x5_1
    ·rw [if_pos c3] at H
     have c3b0 : decide (0 ≤ x5_1) = true := decide_eq_true c3
     clear c3
     by_cases c4 : (rd l0 x5_1) < 0
     ·rw [if_pos c4] at H
      have c4b0 : decide ((rd l0 x5_1) < 0) = true := decide_eq_true c4
      clear c4
      simp only [Option.some.injEq, Prod.mk.injEq] at H
      obtain ⟨rfl, rfl⟩ := H
      have p371 : 0 ≤ (x5_1 : Int) := of_decide_eq_true (by assumption)
      have q371 : x5_1 < (l0.length : Int) := of_decide_eq_true (by assumption)
      obtain ⟨ad371, e371, hx371_0⟩ := Kd.at_int HR0.out x5_1 p371 q371
      cases e371
      replace hx371_0 := (HB.out.cell (World.block_lt_of_cell? w _ hx371_0)).trans hx371_0
      replace p371 := eq_true p371
      replace q371 := eq_true q371
      go_wp2
      go_ret2
      exact ⟨_, er, nl, bh HB.out⟩
     ·rw [if_neg c4] at H
      have c4b0 : decide ((rd l0 x5_1) < 0) = false := decide_eq_false c4
      clear c4
      by_cases c5 : (rd l0 x5_1) ≥ 65536
      ·rw [if_pos c5] at H
       have c5b0 : decide (65536 ≤ (rd l0 x5_1)) = true := decide_eq_true c5
       clear c5
       simp only [Option.some.injEq, Prod.mk.injEq] at H
       obtain ⟨rfl, rfl⟩ := H
       have p371 : 0 ≤ (x5_1 : Int) := of_decide_eq_true (by assumption)
       have q371 : x5_1 < (l0.length : Int) := of_decide_eq_true (by assumption)
       obtain ⟨ad371, e371, hx371_0⟩ := Kd.at_int HR0.out x5_1 p371 q371
       cases e371
       replace hx371_0 := (HB.out.cell (World.block_lt_of_cell? w _ hx371_0)).trans hx371_0
       replace p371 := eq_true p371
       replace q371 := eq_true q371
       have p372 : 0 ≤ (x5_1 : Int) := of_decide_eq_true (by assumption)
       have q372 : x5_1 < (l0.length : Int) := of_decide_eq_true (by assumption)
       obtain ⟨ad372, e372, hx372_0⟩ := Kd.at_int HR0.out x5_1 p372 q372
       obtain rfl : ad371 = ad372 := (by injection e372)
       replace hx372_0 := (HB.out.cell (World.block_lt_of_cell? w _ hx372_0)).trans hx372_0
       replace p372 := eq_true p372
       replace q372 := eq_true q372
       go_wp2
       go_ret2
       exact ⟨_, er, nl, bh HB.out⟩
      ·rw [if_neg c5] at H
       have c5b0 : decide (65536 ≤ (rd l0 x5_1)) = false := decide_eq_false c5
       clear c5
       obtain ⟨ji6, hji6⟩ : ∃ j_ : Int, (mx x4_1 (wrap64 ((rd l0 x5_1) + 1))) = j_ := ⟨_, rfl⟩
       replace H : (peristyleref14_Of.l0 k1 l0 ji6 (wrap64 (x5_1 + 1))) = some (r1, r2) := by first | (rw [hji6] at H; exact H) | (simp only [hji6] at H ⊢; exact H)
       have hji6_ : (if x4_1 < (wrap64 ((rd l0 x5_1) + 1)) then (wrap64 ((rd l0 x5_1) + 1)) else x4_1) = ji6 := hji6
       have H' := Aside0.mk H
       clear H
       have p371 : 0 ≤ (x5_1 : Int) := of_decide_eq_true (by assumption)
       have q371 : x5_1 < (l0.length : Int) := of_decide_eq_true (by assumption)
       obtain ⟨ad371, e371, hx371_0⟩ := Kd.at_int HR0.out x5_1 p371 q371
       cases e371
       replace hx371_0 := (HB.out.cell (World.block_lt_of_cell? w _ hx371_0)).trans hx371_0
       replace p371 := eq_true p371
       replace q371 := eq_true q371
       have p372 : 0 ≤ (x5_1 : Int) := of_decide_eq_true (by assumption)
       have q372 : x5_1 < (l0.length : Int) := of_decide_eq_true (by assumption)
       obtain ⟨ad372, e372, hx372_0⟩ := Kd.at_int HR0.out x5_1 p372 q372
       obtain rfl : ad371 = ad372 := (by injection e372)
       replace hx372_0 := (HB.out.cell (World.block_lt_of_cell? w _ hx372_0)).trans hx372_0
       replace p372 := eq_true p372
       replace q372 := eq_true q372
       have p373 : 0 ≤ (x5_1 : Int) := of_decide_eq_true (by assumption)
       have q373 : x5_1 < (l0.length : Int) := of_decide_eq_true (by assumption)
       obtain ⟨ad373, e373, hx373_0⟩ := Kd.at_int HR0.out x5_1 p373 q373
       obtain rfl : ad371 = ad373 := (by injection e373)
       replace hx373_0 := (HB.out.cell (World.block_lt_of_cell? w _ hx373_0)).trans hx373_0
       replace p373 := eq_true p373
       replace q373 := eq_true q373
       go_wp2
       go_roundg k1
       case measure => have := HK1.out; omega
       case rel => exact ⟨(ji6), (wrap64 (x5_1 + 1)), (by first | rfl | (simp; done) | (simp only [← hji6] <;> (first | rfl | simp)) | (simp [*]; done)), (by first | rfl | (simp; done) | (simp [*]; done)), (by first | exact H' | (simp only [hji6]; exact H')), ⟨by have := HK1.out; omega⟩, ⟨bh HB.out⟩⟩
    ·rw [if_neg c3] at H
     exact absurd H (by simp)
   ·rw [if_neg c2] at H
    have c2b0 : decide (x5_1 < (l0.length : Int)) = false := decide_eq_false c2
    clear c2
    by_cases c7 : 0 ≤ x4_1
    ·rw [if_pos c7] at H
     have c7b0 := eq_true c7
     have c7b1 : decide (0 ≤ x4_1) = true := decide_eq_true c7
     clear c7
     by_cases c8 : (x4_1 : Int).toNat ≤ 281474976710656
     ·rw [if_pos c8] at H
      have c8b0 := eq_true c8
      have c8b1 : decide ((x4_1 : Int).toNat ≤ 281474976710656) = true := decide_eq_true c8
      clear c8
      obtain ⟨y374, hy374⟩ : ∃ y_ : List Bool, y_ = (List.replicate (x4_1 : Int).toNat false) := ⟨_, rfl⟩
      replace H : (peristyleref14_Of.l1 k1 l0 y374 0) = some (r1, r2) := by first | (rw [hy374]; with_reducible exact H) | (have H2_ := (Option.bind_some _ _).symm.trans H; rw [hy374]; with_reducible exact H2_) | (have H2_ := (Option.bind_some _ _).symm.trans H; with_reducible exact H2_) | with_reducible exact H | (rw [hy374]; exact H) | exact H
      have Ny374 := Aside0.mk hy374
      clear hy374
      have H' := Aside0.mk H
      clear H
      go_wp2_with (first | ((with_reducible refine gate_dst (N := 34) rfl ?_); refine Kd.R_make Kd.bool _ 4 rfl (N := 34) rfl 64 _ _ rfl x4_1 rfl rfl Try.underlying64 (.bool false) 1 info4 rfl (by decide) (by omega) false (ok := fun _ => True) (okp := fun _ => True) rfl (fun _ hk => hk) trivial (of_decide_eq_true (by assumption)) (Nat.le_trans (Nat.mul_le_mul_right _ (of_decide_eq_true (by assumption) : x4_1.toNat ≤ 281474976710656)) (by omega)) (Below.refl _ _) (Nat.le_refl _) ?_; intro v375 w9 ho10 hb hg_ hnew_; clear hg_ hnew_; (first | rw [← Ny374.out] at ho10 | (simp only [Int.reduceToNat] at ho10; rw [← Ny374.out] at ho10)); have HO376 := Aside0.mk (Kd.R_lower ho10 (below_size (bh HB.out))); replace HB := bsa HB hb; clear hb ho10))
      go_loopg [7] k1 (fun kq v7 w' => ∃ (x6_2 : List Bool) (x7_2 : Int), v7 = .int .i64 x7_2 ∧ Aside0 (peristyleref14_Of.l1 kq l0 x6_2 x7_2 = some (r1, r2)) ∧ Aside0 (kq ≤ k1) ∧ Aside0 (Kd.R Kd.bool 4 w' w.heap.size (fun _ => True) v375 x6_2) ∧ Aside0 (Below w.heap.size w w'))
      case atStart => exact ⟨(y374), (0), (by first | rfl | (simp; done) | (simp [*]; done)), H', ⟨Nat.le_refl _⟩, ⟨by (with_reducible repeat (first | apply Kd.R_alloc | apply Kd.R_drewN | apply Kd.R_drew)); exact HO376.out⟩, ⟨bh HB.out⟩⟩
      case round =>
       clear H'
       try clear c2
       try clear c2b0
       try clear c3
       try clear c3b0
       try clear c4
       try clear c4b0
       try clear c5
       try clear c5b0
       try clear c7
       try clear c7b0
       try clear c7b1
       try clear c8
       try clear c8b0
       try clear c8b1
       try clear hx371_0
       try clear hx372_0
       try clear hx373_0
       try clear p371
       try clear p372
       try clear p373
       try clear q371
       try clear q372
       try clear q373
       obtain ⟨x6_2, x7_2, rfl, HA, HK2, HO_6, HB⟩ := hrel
       cases gk with
       | zero => exact absurd HA.out (by simp [peristyleref14_Of.l1])
       | succ k2 =>
        have H := HA.out
        clear HA
        simp only [peristyleref14_Of.l1] at H
        by_cases c11 : x7_2 < (l0.length : Int)
        ·rw [if_pos c11] at H
         have c11b0 : decide (x7_2 < (l0.length : Int)) = true := decide_eq_true c11
         clear c11
         by_cases c12 : 0 ≤ x7_2
         ·rw [if_pos c12] at H
          have c12b0 : decide (0 ≤ x7_2) = true := decide_eq_true c12
          clear c12
          by_cases c13 : 0 ≤ (rd l0 x7_2)
          ·rw [if_pos c13] at H
           have c13b0 : decide (0 ≤ (rd l0 x7_2)) = true := decide_eq_true c13
           clear c13
           by_cases c14 : (rd l0 x7_2) < (x6_2.length : Int)
           ·rw [if_pos c14] at H
            have c14b0 : decide ((rd l0 x7_2) < (x6_2.length : Int)) = true := decide_eq_true c14
            clear c14
            obtain ⟨y378, hy378⟩ : ∃ y_ : List Bool, y_ = (x6_2.set ((rd l0 x7_2) : Int).toNat true) := ⟨_, rfl⟩
            replace H : (peristyleref14_Of.l1 k2 l0 y378 (wrap64 (x7_2 + 1))) = some (r1, r2) := by first | (rw [hy378]; with_reducible exact H) | (have H2_ := (Option.bind_some _ _).symm.trans H; rw [hy378]; with_reducible exact H2_) | (have H2_ := (Option.bind_some _ _).symm.trans H; with_reducible exact H2_) | with_reducible exact H | (rw [hy378]; exact H) | exact H
            have Ny378 := Aside0.mk hy378
            clear hy378
            have H' := Aside0.mk H
            clear H
            have p377 : 0 ≤ (x7_2 : Int) := of_decide_eq_true (by assumption)
            have q377 : x7_2 < (l0.length : Int) := of_decide_eq_true (by assumption)
            obtain ⟨ad377, e377, hx377_0⟩ := Kd.at_int HR0.out x7_2 p377 q377
            cases e377
            replace hx377_0 := (HB.out.cell (World.block_lt_of_cell? w _ hx377_0)).trans hx377_0
            replace p377 := eq_true p377
            replace q377 := eq_true q377
            have p15 : 0 ≤ ((rd l0 x7_2) : Int) := of_decide_eq_true (by assumption)
            have q15 : ((rd l0 x7_2) : Int) < ((x6_2.length : Int) : Int) := of_decide_eq_true (by assumption)
            obtain ⟨go15, co15, eo15, gb15, gl15, cl15, HG15⟩ := Kd.R_form HO_6.out (by omega)
            (first | cases eo15 | (injection eo15 with ea_ en_ ec_; (first | subst ea_ | (injection ea_ with ea_; subst ea_)); subst ec_; clear en_))
            have GB15 := Aside0.mk gb15
            have GG15 := Aside0.mk HG15
            clear gb15 gl15 HG15
            obtain ⟨hx15_0, hf15_0⟩ := Kd.R_celln false HO_6.out ((rd l0 x7_2) : Int) p15 q15
            replace p15 := eq_true p15
            replace q15 := eq_true q15
            have HP16 := Kd.R_putg HO_6.out ((rd l0 x7_2) : Int) true
            go_wp2_with (first | ((with_reducible refine gate_store (t := 4) (p := 46) rfl ?_); refine store_event (t := 4) (p := 46) (v := ?vo_w17) (w1 := (wr.setCell ⟨go15, ((rd l0 x7_2) : Int).toNat, none⟩ (.bool true))) ?hg ?ho ?hn ?hr ?_; (case ho => rfl); (case hg => rfl); (case hn => rfl); (case hr => first | (go_simp; done) | (go_simp; rfl)); intro w17 hw; have hg : wr.grownBy w17 (some go15) := (by rw [hw]; exact HP16.2); have hp_ : Kd.R Kd.bool 4 w17 w.heap.size (fun _ => True) (.slice (some ⟨go15, 0, none⟩) x6_2.length co15) y378 := (by rw [hw, Ny378.out]; exact HP16.1); clear HP16; replace HO_6 := Aside0.mk (hp_); replace HB := Aside0.mk ((by rw [hw]; exact below_set (HB.out) GB15.out : Below w.heap.size w w17)); clear hg hw hp_))
            go_roundg k2
            case measure => have := HK1.out; have := HK2.out; omega
            case rel => exact ⟨(y378), (wrap64 (x7_2 + 1)), (by first | rfl | (simp; done) | (simp [*]; done)), H', ⟨by have := HK1.out; have := HK2.out; omega⟩, ⟨by (with_reducible repeat (first | apply Kd.R_alloc | apply Kd.R_drewN | apply Kd.R_drew)); exact HO_6.out⟩, ⟨bh HB.out⟩⟩
           ·rw [if_neg c14] at H
            exact absurd H (by simp)
          ·rw [if_neg c13] at H
           exact absurd H (by simp)
         ·rw [if_neg c12] at H
          exact absurd H (by simp)
        ·rw [if_neg c11] at H
         have c11b0 : decide (x7_2 < (l0.length : Int)) = false := decide_eq_false c11
         clear c11
         replace H := Option.bind_eq_some_iff.mp H
         obtain ⟨t379, A180, H⟩ := H
         replace H : (some (t379, 0)) = some (r1, r2) := H
         have A18 := Aside0.mk A180
         clear A180
         simp only [Option.some.injEq, Prod.mk.injEq] at H
         obtain ⟨rfl, rfl⟩ := H
         obtain ⟨Ao19, co19, eo19⟩ := Kd.R_slice HO_6.out
         subst eo19
         go_wp2_with (first | ((with_reducible refine gate_callee (f := 61) rfl ?_); refine goesL_ (some 48) rfl rfl Try.func61 (by kernel_rfl) rfl #[.slice Ao19 x6_2.length co19] rfl (by (try simp only [List.map_toArray, List.map_cons, List.map_nil]); first | done | rfl) ?_; (with_reducible refine (peristyleref14_Spans.calls k2 _ _ x6_2 t379 _ ?side1 ?side2 A18.out).mono ?_); (case side1 => exact cx (Kd.R_reads' HO_6.out).2.2); (case side2 => exact (Kd.R_reads' HO_6.out).2.1); rintro e w20 ⟨v380, rfl, ho0, hb⟩; refine ⟨_, rfl, ?_⟩; replace HO_6 := rba HO_6 hb; have HO381 := Aside0.mk (Kd.R_lower ho0 (below_size (bh HB.out))); replace HB := bsa HB hb; (try clear hb); (try clear ho0)))
         go_ret2
         exact ⟨_, er, by (with_reducible repeat (first | apply Kd.R_alloc | apply Kd.R_drewN | apply Kd.R_drew)); exact HO381.out, bh HB.out⟩
     ·rw [if_neg c8] at H
      exact absurd H (by simp)
    ·rw [if_neg c7] at H
     exact absurd H (by simp)
end Go.Proofs.Ytbmlfbbcgbgnoaa.Print
end
section
namespace Go.Proofs.Ytbmlfbbcgbgnoaa.Print
open Go.RowKit Go.Proofs.YtbmlfbbcgbgnoaaW.PrintWords Go.Proofs.YtbmlfbbcgbgnoaaW.PrintLast Go.Proofs.YtbmlfbbcgbgnoaaW.PrintMore
attribute [local go_sem] max2_int min2_int max_two min_two max_three min_three max_four min_four   -- for this text's walks alone
set_option linter.unusedVariables false
set_option linter.unusedSimpArgs false
theorem eqA79 (d : Nat) (w : World) (x0 y0 : Int) (x1 y1 : Int) :
    (Op.equalIn (d + 2) 79 (.agg #[.int .i64 x0, .int .i64 x1]) (.agg #[.int .i64 y0, .int .i64 y1])).run Try.prog w = .ok (x0 == y0 && (x1 == y1)) w := by
  refine eqA_of Try.underlying79 (by kernel_rfl) ?_
  refine eqf_cons (by rfl) (by go_simp; rfl) (by go_simp; rfl) (by go_simp) ?_
  exact eqf_last (by rfl) (by go_simp; rfl) (by go_simp; rfl) (by go_simp)
end Go.Proofs.Ytbmlfbbcgbgnoaa.Print
end
