-- Functions and laws: texts of the session's own and of the kit's print program, joined; what nothing names is left out.
import Derived.Test.YtjgmdjieandemaaGreatJA
import Derived.Test.YtjgmdjieandemaaGreatJW
import Derived.Test.YtjgmdjieandemaaGreatJC
import Derived.Test.YtjgmdjieandemaaGreatJD
import Derived.Test.YtjgmdjieandemaaGreatJB
import Derived.Test.YtjgmdjieandemaaGreatJR
section
namespace Go.Proofs.YtjgmdjieandemaaGreat.Print
open Go.RowKit Go.Proofs.YtjgmdjieandemaaGreatW.PrintWords Go.Proofs.YtjgmdjieandemaaGreatW.PrintLast Go.Proofs.YtjgmdjieandemaaGreatW.PrintMore
attribute [local go_sem] max2_int min2_int max_two min_two max_three min_three max_four min_four   -- for this text's walks alone
set_option linter.unusedVariables false
set_option linter.unusedSimpArgs false

/-! ### peristylelaw16_is: function 13 -/
def peristylelaw16_is.f (k : Nat) (a0_0 : Int) (l0_1 : List (S64)) (l0_2 : List Int) (l0_3 : List Int) (l1_0 : List (S64)) (a1_1 : Int) : Option (Bool) := (peristyleref14_Places.f k l1_0).bind fun bt569 => ((poslist_List_Form.f a0_0 l0_1 l0_2 l0_3).bind fun t573 => (if t573 = a1_1 then ((poslist_List_Spans.f k a0_0 l0_1 l0_2 l0_3).bind fun t574 => ((peristyleref14_Same.f k t574 l1_0).bind fun t577 => (if t577 = true then ((poslist_List_Count.f k a0_0 l0_1 l0_2 l0_3).bind fun t578 => (if t578 = (bt569.1.length : Int) then ((peristylelaw16_listed.f k a0_0 l0_1 l0_2 l0_3).bind fun t579 => ((peristyleref01_Same.f k t579 bt569.1).bind fun t582 => (some t582))) else (none))) else (none)))) else (none)))
def peristylelaw16_is.T2 : Bool × List (List Nat × List Nat) := (true, [([], []), ([0], [0]), ([], []), ([2], [2]), ([1, 3], [1, 3]), ([4, 1], [4]), ([5], [5]), ([6, 5, 5], [5, 6]), ([5], [5]), ([8, 5], [5, 8]), ([7, 9, 7, 5], [5, 7, 9]), ([5, 10], [5, 10]), ([11, 10], [11]), ([12], [12]), ([13, 12, 12], [12, 13]), ([12], [12]), ([15, 12], [12, 15]), ([14, 16, 12], [12, 14, 16]), ([12, 17], [12, 17]), ([18, 14], [18]), ([19], [19]), ([20, 19, 19], [19, 20]), ([19], [19]), ([21, 22, 21, 19], [19, 21, 22]), ([19, 23], [19, 23]), ([24, 23, 0, 1, 2, 3, 4, 5, 6, 7, 8, 9, 10, 11, 12, 13, 14, 15, 16, 17, 18, 19, 20, 21, 22, 23, 24], [24])])
def peristylelaw16_is.B2 : List Nat := [0, 1, 0, 4, 15, 31, 63, 127, 63, 319, 1023, 2047, 4095, 8191, 16383, 8191, 40959, 131071, 262143, 524287, 1048575, 2097151, 1048575, 8388607, 16777215, 33554431]
theorem peristylelaw16_is.tab2 : rtab .any (opsOf Tryz.f13 2) = peristylelaw16_is.T2 := by kernel_rfl
theorem peristylelaw16_is.bits2 : waitsOk peristylelaw16_is.T2.2 peristylelaw16_is.B2 = true := by kernel_rfl
set_option maxHeartbeats 8000000 in
set_option maxRecDepth 100000 in
theorem peristylelaw16_is.calls (k : Nat) (a0_0 : Int) (A0_1 : Option Addr) (c0_1 : Nat) (l0_1 : List (S64)) (A0_2 : Option Addr) (c0_2 : Nat) (l0_2 : List Int) (A0_3 : Option Addr) (c0_3 : Nat) (l0_3 : List Int) (A1_0 : Option Addr) (c1_0 : Nat) (l1_0 : List (S64)) (a1_1 : Int) (r : Bool) (w : World) (hr0_1 : Kd.C k64 w A0_1 l0_1.length l0_1) (hc0_1 : l0_1.length ≤ c0_1) (hr0_2 : Kd.C (Kd.int .i64) w A0_2 l0_2.length l0_2) (hc0_2 : l0_2.length ≤ c0_2) (hr0_3 : Kd.C (Kd.int .i64) w A0_3 l0_3.length l0_3) (hc0_3 : l0_3.length ≤ c0_3) (hr1_0 : Kd.C k64 w A1_0 l1_0.length l1_0) (hc1_0 : l1_0.length ≤ c1_0) (h : peristylelaw16_is.f k a0_0 l0_1 l0_2 l0_3 l1_0 a1_1 = some r) :
  Calls Tryz.prog 13 #[.agg #[.int .i64 a0_0, .slice A0_1 l0_1.length c0_1, .slice A0_2 l0_2.length c0_2, .slice A0_3 l0_3.length c0_3], .agg #[.slice A1_0 l1_0.length c1_0, .int .i64 a1_1]] w fun e w' => e = .returned (.bool r) ∧ Below w.heap.size w w' := by
 have hu27 := Tryz.underlying27
 have hu32 := Tryz.underlying32
 have HR0_1 := Aside0.mk hr0_1
 have HC0_1 := Aside0.mk hc0_1
 clear hr0_1 hc0_1
 have HR0_2 := Aside0.mk hr0_2
 have HC0_2 := Aside0.mk hc0_2
 clear hr0_2 hc0_2
 have HR0_3 := Aside0.mk hr0_3
 have HC0_3 := Aside0.mk hc0_3
 clear hr0_3 hc0_3
 have HR1_0 := Aside0.mk hr1_0
 have HC1_0 := Aside0.mk hc1_0
 clear hr1_0 hc1_0
 have HB := Aside0.mk (Below.refl w.heap.size w)
 have H := h
 clear h
 unfold peristylelaw16_is.f at H
 replace H := bd H
 obtain ⟨⟨t569, t570⟩, A3, H⟩ := H
 dsimp only at H
 replace H := bd H
 obtain ⟨t573, A4, H⟩ := H
 replace H := ife H
 rcases H with ⟨-, c5b0, c5b1, H⟩ | ⟨-, -, -, ⟨⟩⟩
 replace H := bd H
 obtain ⟨t574, A6, H⟩ := H
 replace H := bd H
 obtain ⟨t577, A7, H⟩ := H
 replace H := ifb H
 rcases H with ⟨rfl, H⟩ | ⟨-, ⟨⟩⟩
 replace H := bd H
 obtain ⟨t578, A9, H⟩ := H
 replace H := ife H
 rcases H with ⟨-, c10b0, c10b1, H⟩ | ⟨-, -, -, ⟨⟩⟩
 replace H := bd H
 obtain ⟨t579, A11, H⟩ := H
 replace H := bd H
 obtain ⟨t582, A12, H⟩ := H
 obtain rfl := Option.some.inj H
 go_enter Tryz.func13, Tryz.ntmps13
 go_wp2_with (first | ((with_reducible refine gate_dst (N := 2) rfl ?_); ((refine gate_guard (by rfl) ?_; dsimp only)); refine boxE HB 2 27 #[.int .i64 a0_0, .slice A0_1 l0_1.length c0_1, .slice A0_2 l0_2.length c0_2, .slice A0_3 l0_3.length c0_3] ?_; clear HB; intro gb567 w13 BK567 GW567 hg hb HB; have GE567 := GW567; clear hb hg) | ((with_reducible refine gate_dst (N := 3) rfl ?_); ((refine gate_guard (by rfl) ?_; dsimp only)); refine boxE HB 3 32 #[.slice A1_0 l1_0.length c1_0, .int .i64 a1_1] ?_; clear HB; intro gb568 w14 BK568 GW568 hg hb HB; have GE568 := GW568; have NB567_568 := bna BK567 hg; have NB568_567 := bma BK567 hg; replace BK567 := bba BK567 hb; clear hb hg; have hnb15 := NB568_567.out; have hnc15 := NB567_568.out; obtain ⟨hcz16_0, hcz16_1, hfz16_0, hfz16_1⟩ := b2 BK568) | ((with_reducible refine gate_callee (f := 47) rfl ?_); refine gL 10 Tryz.func47 #[.slice A1_0 l1_0.length c1_0] ?_; (with_reducible refine (peristyleref14_Places.calls k _ _ l1_0 t569 t570 _ ?side1 ?side2 A3.out).mono ?_); (case side1 => exact cx (Kd.C_below HR1_0.out HB.out)); (case side2 => exact HC1_0.out); rintro e w17 ⟨v571, rfl, ho0, hb⟩; refine ⟨_, rfl, ?_⟩; have HO572 := Aside0.mk (Kd.R_lower ho0 (below_size (bh HB.out))); replace BK567 := bba BK567 hb; replace BK568 := bba BK568 hb; replace HB := bsa HB hb; clear hb ho0))
 replace HO572 := Aside0.mk (Kd.R_drew HO572.out)
 replace BK567 := Aside0.mk (blk_drew BK567.out)
 replace BK568 := Aside0.mk (blk_drew BK568.out)
 replace HB := Aside0.mk (below_drew1 HB.out)
 obtain ⟨A571_, c571_, hv571_⟩ := Kd.R_slice HO572.out
 have hln571_22_ := fun (w_ : World) => congrArg (fun v_ => (Builtin.len_ #[22] 3 #[v_]).run Tryz.prog w_) hv571_
 have hln571_25_ := fun (w_ : World) => congrArg (fun v_ => (Builtin.len_ #[25] 3 #[v_]).run Tryz.prog w_) hv571_
 have hln571_69_ := fun (w_ : World) => congrArg (fun v_ => (Builtin.len_ #[69] 3 #[v_]).run Tryz.prog w_) hv571_
 clear hv571_
 refine start_ (n := 26) (S := fun w' => w'.cell? ⟨gb567, 0, none⟩ = some (.int .i64 a0_0) ∧ w'.cell? ⟨gb567, 1, none⟩ = some (.slice A0_1 l0_1.length c0_1) ∧ w'.cell? ⟨gb567, 2, none⟩ = some (.slice A0_2 l0_2.length c0_2) ∧ w'.cell? ⟨gb567, 3, none⟩ = some (.slice A0_3 l0_3.length c0_3) ∧ w'.cell? ⟨gb568, 0, none⟩ = some (.slice A1_0 l1_0.length c1_0) ∧ w'.cell? ⟨gb568, 1, none⟩ = some (.int .i64 a1_1)) (ds := []) #[false, false, false, false, false, false, false, false, false, false, false, false, false, false, false, false, false, false, false, false, false, false, false, false, false, false] (by kernel_rfl) rfl rfl ⟨(blk_cell BK567.out 0).trans rfl, (blk_cell BK567.out 1).trans rfl, (blk_cell BK567.out 2).trans rfl, (blk_cell BK567.out 3).trans rfl, (blk_cell BK568.out 0).trans rfl, (blk_cell BK568.out 1).trans rfl⟩ (fun hHeld => ?_); refine with_tabW peristylelaw16_is.tab2 peristylelaw16_is.bits2 (fun HT_ HW_ => ?_)
 generalize w17.drew = w18 at HO572 BK567 BK568 HB hHeld ⊢
 refine puA HT_ 2 15 (bv 26 4) ?_
 refine taA HT_ HW_ hHeld 0 13 (bv 26 5) ?_
 refine taA HT_ HW_ hHeld 3 16 (bv 26 13) ?_
 refine one_ (i := 1) (N := some 14) #[true, true, true, true, false, false, false, false, false, false, false, false, false, false, false, false, false, false, false, false, false, false, false, false, false, false] rfl rfl (one_of HT_.out (by kernel_rfl)) (by decide) (fun K hK => ?_)
 refine goes_ Tryz.func28 (by kernel_rfl) rfl #[.agg #[.int .i64 a0_0, .slice A0_1 l0_1.length c0_1, .slice A0_2 l0_2.length c0_2, .slice A0_3 l0_3.length c0_3]] (by rfl) rfl rfl (by (simp only [List.map_toArray, List.map_cons, List.map_nil]); rfl) ?_
 with_reducible refine (poslist_List_Form.calls a0_0 _ _ l0_1 _ _ l0_2 _ _ l0_3 t573 _ ?side1 ?side2 ?side3 ?side4 ?side5 ?side6 A4.out).mono ?_
 (case side1 => exact cx (Kd.C_below HR0_1.out HB.out))
 (case side2 => exact HC0_1.out)
 (case side3 => exact cx (Kd.C_below HR0_2.out HB.out))
 (case side4 => exact HC0_2.out)
 (case side5 => exact cx (Kd.C_below HR0_3.out HB.out))
 (case side6 => exact HC0_3.out)
 rintro e w19 ⟨rfl, hb⟩
 refine ⟨_, rfl, ?_⟩
 replace HO572 := rba HO572 hb
 replace BK567 := bba BK567 hb
 replace BK568 := bba BK568 hb
 replace HB := bsa HB hb
 clear hb
 refine hK.out _ _ ⟨(blk_cell BK567.out 0).trans rfl, (blk_cell BK567.out 1).trans rfl, (blk_cell BK567.out 2).trans rfl, (blk_cell BK567.out 3).trans rfl, (blk_cell BK568.out 0).trans rfl, (blk_cell BK568.out 1).trans rfl⟩ (fun hHeld => ?_)
 clear hK K
 refine norm_ (a' := ?_) ?_ ?_
 rotate_left
 ·show Act.put _ (some 14) _ = _
  simp only [Act.put, List.setIfInBounds_toArray, List.set_cons_zero, List.set_cons_succ, i64_w, i32_w]
  rfl
 refine puA HT_ 4 17 (bv 26 31) ?_
 refine puA HT_ 5 18 (bv 26 63) ?_
 refine puA HT_ 8 21 (bv 26 319) ?_
 refine taA HT_ HW_ hHeld 6 19 (bv 26 383) ?_
 refine taA HT_ HW_ hHeld 9 22 (bv 26 895) ?_
 refine one_ (i := 7) (N := some 20) #[true, true, true, true, true, true, true, true, true, true, false, false, false, false, false, false, false, false, false, false, false, false, false, false, false, false] rfl rfl (one_of HT_.out (by kernel_rfl)) (by decide) (fun K hK => ?_)
 refine goes_ Tryz.func20 (by kernel_rfl) rfl #[.agg #[.int .i64 a0_0, .slice A0_1 l0_1.length c0_1, .slice A0_2 l0_2.length c0_2, .slice A0_3 l0_3.length c0_3]] (by rfl) rfl rfl (by (simp only [List.map_toArray, List.map_cons, List.map_nil]); rfl) ?_
 with_reducible refine (poslist_List_Spans.calls k a0_0 _ _ l0_1 _ _ l0_2 _ _ l0_3 t574 _ ?side1 ?side2 ?side3 ?side4 ?side5 ?side6 A6.out).mono ?_
 (case side1 => exact cx (Kd.C_below HR0_1.out HB.out))
 (case side2 => exact HC0_1.out)
 (case side3 => exact cx (Kd.C_below HR0_2.out HB.out))
 (case side4 => exact HC0_2.out)
 (case side5 => exact cx (Kd.C_below HR0_3.out HB.out))
 (case side6 => exact HC0_3.out)
 rintro e w20 ⟨v575, rfl, ho0, hb⟩
 refine ⟨_, rfl, ?_⟩
 replace HO572 := rba HO572 hb
 have HO576 := Aside0.mk (Kd.R_lower ho0 (below_size (bh HB.out)))
 replace BK567 := bba BK567 hb
 replace BK568 := bba BK568 hb
 replace HB := bsa HB hb
 clear hb ho0
 obtain ⟨Ao21, co21, eo21⟩ := Kd.R_slice HO576.out
 (subst eo21)
 refine hK.out _ _ ⟨(blk_cell BK567.out 0).trans rfl, (blk_cell BK567.out 1).trans rfl, (blk_cell BK567.out 2).trans rfl, (blk_cell BK567.out 3).trans rfl, (blk_cell BK568.out 0).trans rfl, (blk_cell BK568.out 1).trans rfl⟩ (fun hHeld => ?_)
 clear hK K
 refine norm_ (a' := ?_) ?_ ?_
 rotate_left
 ·show Act.put _ (some 20) _ = _
  simp only [Act.put, List.setIfInBounds_toArray, List.set_cons_zero, List.set_cons_succ, i64_w, i32_w]
  rfl
 refine one_ (i := 10) (N := some 23) #[true, true, true, true, true, true, true, true, true, true, true, false, false, false, false, false, false, false, false, false, false, false, false, false, false, false] rfl rfl (one_of HT_.out (by kernel_rfl)) (by decide) (fun K hK => ?_)
 refine goes_ Tryz.func27 (by kernel_rfl) rfl #[.slice Ao21 t574.length co21, .slice A1_0 l1_0.length c1_0] (by rfl) rfl rfl (by (simp only [List.map_toArray, List.map_cons, List.map_nil]); rfl) ?_
 with_reducible refine (peristyleref14_Same.calls k _ _ t574 _ _ l1_0 true _ ?side1 ?side2 ?side3 ?side4 A7.out).mono ?_
 (case side1 => exact cx (Kd.R_reads' HO576.out).2.2)
 (case side2 => exact (Kd.R_reads' HO576.out).2.1)
 (case side3 => exact cx (Kd.C_below HR1_0.out HB.out))
 (case side4 => exact HC1_0.out)
 rintro e w' ⟨rfl, ⟨nd, rfl⟩⟩
 refine ⟨_, rfl, ?_⟩
 refine hK.out _ _ ⟨(blk_cell BK567.out 0).trans rfl, (blk_cell BK567.out 1).trans rfl, (blk_cell BK567.out 2).trans rfl, (blk_cell BK567.out 3).trans rfl, (blk_cell BK568.out 0).trans rfl, (blk_cell BK568.out 1).trans rfl⟩ (fun hHeld => ?_)
 clear hK K
 refine norm_ (a' := ?_) ?_ ?_
 rotate_left
 ·show Act.put _ (some 23) _ = _
  simp only [Act.put, List.setIfInBounds_toArray, List.set_cons_zero, List.set_cons_succ, i64_w, i32_w]
  rfl
 refine puA HT_ 11 24 (bv 26 4095) ?_
 refine puA HT_ 12 25 (bv 26 8191) ?_
 refine puA HT_ 15 28 (bv 26 40959) ?_
 refine puA HT_ 16 29 (bv 26 106495) ?_
 refine taA HT_ HW_ hHeld 13 26 (bv 26 114687) ?_
 refine one_ (i := 14) (N := some 27) #[true, true, true, true, true, true, true, true, true, true, true, true, true, true, true, true, true, false, false, false, false, false, false, false, false, false] rfl rfl (one_of HT_.out (by kernel_rfl)) (by decide) (fun K hK => ?_)
 refine goes_ Tryz.func19 (by kernel_rfl) rfl #[.agg #[.int .i64 a0_0, .slice A0_1 l0_1.length c0_1, .slice A0_2 l0_2.length c0_2, .slice A0_3 l0_3.length c0_3]] (by rfl) rfl rfl (by (simp only [List.map_toArray, List.map_cons, List.map_nil]); rfl) ?_
 with_reducible refine (poslist_List_Count.calls k a0_0 _ _ l0_1 _ _ l0_2 _ _ l0_3 t578 _ ?side1 ?side2 ?side3 ?side4 ?side5 ?side6 A9.out).mono ?_
 (case side1 => repeat (exact (Kd.C_below HR0_1.out (bh HB.out))))
 (case side2 => exact HC0_1.out)
 (case side3 => repeat (exact (Kd.C_below HR0_2.out (bh HB.out))))
 (case side4 => exact HC0_2.out)
 (case side5 => repeat (exact (Kd.C_below HR0_3.out (bh HB.out))))
 (case side6 => exact HC0_3.out)
 rintro e w22 ⟨rfl, hb⟩
 refine ⟨_, rfl, ?_⟩
 replace HO572 := rba HO572 hb
 replace HO576 := rba HO576 hb
 replace BK567 := bba BK567 hb
 replace BK568 := bba BK568 hb
 replace HB := bsa HB hb
 clear hb
 obtain ⟨Ao23, co23, eo23⟩ := Kd.R_slice HO572.out
 (subst eo23)
 refine hK.out _ _ ⟨(blk_cell BK567.out 0).trans rfl, (blk_cell BK567.out 1).trans rfl, (blk_cell BK567.out 2).trans rfl, (blk_cell BK567.out 3).trans rfl, (blk_cell BK568.out 0).trans rfl, (blk_cell BK568.out 1).trans rfl⟩ (fun hHeld => ?_)
 clear hK K
 refine norm_ (a' := ?_) ?_ ?_
 rotate_left
 ·show Act.put _ (some 27) _ = _
  simp only [Act.put, List.setIfInBounds_toArray, List.set_cons_zero, List.set_cons_succ, i64_w, i32_w]
  rfl
 refine puA HT_ 17 30 (bv 26 262143) ?_
 refine puA HT_ 18 31 (bv 26 524287) ?_
 refine puA HT_ 19 32 (bv 26 1048575) ?_
 refine puA HT_ 22 35 (bv 26 5242879) ?_
 refine taA HT_ HW_ hHeld 20 33 (bv 26 6291455) ?_
 refine one_ (i := 21) (N := some 34) #[true, true, true, true, true, true, true, true, true, true, true, true, true, true, true, true, true, true, true, true, true, true, true, false, false, false] rfl rfl (one_of HT_.out (by kernel_rfl)) (by decide) (fun K hK => ?_)
 refine goes_ Tryz.func29 (by kernel_rfl) rfl #[.agg #[.int .i64 a0_0, .slice A0_1 l0_1.length c0_1, .slice A0_2 l0_2.length c0_2, .slice A0_3 l0_3.length c0_3]] (by rfl) rfl rfl (by (simp only [List.map_toArray, List.map_cons, List.map_nil]); rfl) ?_
 with_reducible refine (peristylelaw16_listed.calls k a0_0 _ _ l0_1 _ _ l0_2 _ _ l0_3 t579 _ ?side1 ?side2 ?side3 ?side4 ?side5 ?side6 A11.out).mono ?_
 (case side1 => exact cx (Kd.C_below HR0_1.out HB.out))
 (case side2 => exact HC0_1.out)
 (case side3 => exact cx (Kd.C_below HR0_2.out HB.out))
 (case side4 => exact HC0_2.out)
 (case side5 => exact cx (Kd.C_below HR0_3.out HB.out))
 (case side6 => exact HC0_3.out)
 rintro e w24 ⟨v580, rfl, ho0, hb⟩
 refine ⟨_, rfl, ?_⟩
 replace HO576 := rba HO576 hb
 have HO581 := Aside0.mk (Kd.R_lower (Kd.R_new' ho0 (Kd.R_lt (rx HO572.out))) (below_size (bh HB.out)))
 replace HO572 := Aside0.mk (Kd.R_elder' (rx HO572.out) (Kd.R_base ho0) hb)
 replace BK567 := bba BK567 hb
 replace BK568 := bba BK568 hb
 replace HB := bsa HB hb
 clear hb ho0
 obtain ⟨Ao25, co25, eo25⟩ := Kd.R_slice HO581.out
 (subst eo25)
 refine hK.out _ _ ⟨(blk_cell BK567.out 0).trans rfl, (blk_cell BK567.out 1).trans rfl, (blk_cell BK567.out 2).trans rfl, (blk_cell BK567.out 3).trans rfl, (blk_cell BK568.out 0).trans rfl, (blk_cell BK568.out 1).trans rfl⟩ (fun hHeld => ?_)
 clear hK K
 refine norm_ (a' := ?_) ?_ ?_
 rotate_left
 ·show Act.put _ (some 34) _ = _
  simp only [Act.put, List.setIfInBounds_toArray, List.set_cons_zero, List.set_cons_succ, i64_w, i32_w]
  rfl
 refine one_ (i := 23) (N := some 36) #[true, true, true, true, true, true, true, true, true, true, true, true, true, true, true, true, true, true, true, true, true, true, true, true, false, false] rfl rfl (one_of HT_.out (by kernel_rfl)) (by decide) (fun K hK => ?_)
 refine goes_ Tryz.func40 (by kernel_rfl) rfl #[.slice Ao25 t579.length co25, .slice Ao23 t569.length co23] (by rfl) rfl rfl (by (simp only [List.map_toArray, List.map_cons, List.map_nil]); rfl) ?_
 with_reducible refine (peristyleref01_Same.calls k _ _ t579 _ _ t569 t582 _ ?side1 ?side2 ?side3 ?side4 A12.out).mono ?_
 (case side1 => exact cx (Kd.R_reads' HO581.out).2.2)
 (case side2 => exact (Kd.R_reads' HO581.out).2.1)
 (case side3 => exact cx (Kd.R_reads' HO572.out).2.2)
 (case side4 => exact (Kd.R_reads' HO572.out).2.1)
 rintro e w' ⟨rfl, ⟨nd, rfl⟩⟩
 refine ⟨_, rfl, ?_⟩
 refine hK.out _ _ ⟨(blk_cell BK567.out 0).trans rfl, (blk_cell BK567.out 1).trans rfl, (blk_cell BK567.out 2).trans rfl, (blk_cell BK567.out 3).trans rfl, (blk_cell BK568.out 0).trans rfl, (blk_cell BK568.out 1).trans rfl⟩ (fun hHeld => ?_)
 clear hK K
 refine norm_ (a' := ?_) ?_ ?_
 rotate_left
 ·show Act.put _ (some 36) _ = _
  simp only [Act.put, List.setIfInBounds_toArray, List.set_cons_zero, List.set_cons_succ, i64_w, i32_w]
  rfl
 refine puA HT_ 24 37 (bv 26 33554431) ?_
 refine puA HT_ 25 4 (bv 26 67108863) ?_
 refine done_ (done_of HT_.out (by kernel_rfl)) ?_
 go_wp2
 go_ret
 exact ⟨er, bh HB.out⟩

end Go.Proofs.YtjgmdjieandemaaGreat.Print
end
section
namespace Go.Proofs.YtjgmdjieandemaaGreat.Print
open Go.RowKit Go.Proofs.YtjgmdjieandemaaGreatW.PrintWords Go.Proofs.YtjgmdjieandemaaGreatW.PrintLast Go.Proofs.YtjgmdjieandemaaGreatW.PrintMore
attribute [local go_sem] max2_int min2_int max_two min_two max_three min_three max_four min_four   -- for this text's walks alone
set_option linter.unusedVariables false
set_option linter.unusedSimpArgs false

/-! ### peristyleref14_Spans: function 50 -/
def peristyleref14_Spans.l0 : Nat → List Bool → List (S64) → Int → Option ((List (S64)))
 | 0, _, _, _ => none
 | k + 1, x0, x3, x4 => if x4 < (x0.length : Int) then (if 0 ≤ x4 then (if rdOf false x0 x4 = true then (if x4 > 0 then (if 0 ≤ (wrap64 (x4 - 1)) then (if (wrap64 (x4 - 1)) < (x0.length : Int) then (if rdOf false x0 (wrap64 (x4 - 1)) = true then (if 0 ≤ (wrap64 ((x3.length : Int) - 1)) then (if (wrap64 ((x3.length : Int) - 1)) < (x3.length : Int) then (peristyleref14_Spans.l0 k x0 (x3.set ((wrap64 ((x3.length : Int) - 1)) : Int).toNat (⟨(rd_T64 x3 (wrap64 ((x3.length : Int) - 1))).f0, wrap64 (((rd_T64 x3 (wrap64 ((x3.length : Int) - 1))).f1) + 1)⟩ : S64)) (wrap64 (x4 + 1))) else (none)) else (none)) else (if x3.length < 8796093022208 then (peristyleref14_Spans.l0 k x0 (x3 ++ [(⟨x4, wrap64 (x4 + 1)⟩ : S64)]) (wrap64 (x4 + 1))) else (none))) else (none)) else (none)) else (if x3.length < 8796093022208 then (peristyleref14_Spans.l0 k x0 (x3 ++ [(⟨x4, wrap64 (x4 + 1)⟩ : S64)]) (wrap64 (x4 + 1))) else (none))) else (peristyleref14_Spans.l0 k x0 x3 (wrap64 (x4 + 1)))) else (none)) else (some x3)
def peristyleref14_Spans.f (k : Nat) (l0 : List Bool) : Option ((List (S64))) := peristyleref14_Spans.l0 k l0 ([] : List (S64)) 0
theorem peristyleref14_Spans.l0_succ (k) (a0) (a1) (a2) : type_of% (@peristyleref14_Spans.l0.eq_2 a0 a1 a2 k) := peristyleref14_Spans.l0.eq_2 a0 a1 a2 k
set_option maxHeartbeats 8000000 in
set_option maxRecDepth 100000 in
theorem peristyleref14_Spans.calls (k : Nat) (A0 : Option Addr) (c0 : Nat) (l0 : List Bool) (r : List (S64)) (w : World) (hr0 : Kd.C Kd.bool w A0 l0.length l0) (hc0 : l0.length ≤ c0) (h : peristyleref14_Spans.f k l0 = some r) :
  Calls Tryz.prog 50 #[.slice A0 l0.length c0] w fun e w' => ∃ v0_ : Value, e = .returned (v0_) ∧ Kd.R k64 64 w' w.heap.size (fun _ => True) v0_ r ∧ Below w.heap.size w w' := by
 have hu64 := Tryz.underlying64
 have HR0 := Aside0.mk hr0
 have HC0 := Aside0.mk hc0
 clear hr0 hc0
 have HB := Aside0.mk (Below.refl w.heap.size w)
 have H := h
 clear h
 unfold peristyleref14_Spans.f at H
 have H' := Aside0.mk H
 clear H
 go_enter Tryz.func50, Tryz.ntmps50
 go_wp2
 go_loopg [3, 4] k (fun kq v3 v4 w' => ∃ (x3_1 : List (S64)) (x4_1 : Int), v4 = .int .i64 x4_1 ∧ Aside0 (peristyleref14_Spans.l0 kq l0 x3_1 x4_1 = some r) ∧ Aside0 (kq ≤ k) ∧ Aside0 (Kd.R k64 64 w' w.heap.size (fun _ => True) v3 x3_1) ∧ Aside0 (Below w.heap.size w w'))
 case atStart => exact ⟨(([] : List (S64))), (0), (by rfl), H', ⟨Nat.le_refl _⟩, ⟨nl⟩, ⟨bh HB.out⟩⟩
 case round =>
  clear H'
  obtain ⟨x3_1, x4_1, rfl, HA, HK1, HO_3, HB⟩ := hrel
  cases gk with
  | zero => exact absurd HA.out (by simp [peristyleref14_Spans.l0])
  | succ k1 =>
   have H := HA.out
   clear HA
   simp only [peristyleref14_Spans.l0] at H
   replace H := ifd H
   rcases H with ⟨-, c2b0, H⟩ | ⟨-, c2b0, H⟩
   ·replace H := ifn H
    obtain ⟨-, c3b0, H⟩ := H
    obtain ⟨bq4, hbq4⟩ : ∃ b_ : Bool, b_ = (rdOf false l0 x4_1) := ⟨_, rfl⟩
    replace H : (if bq4 = true then (if x4_1 > 0 then (if 0 ≤ (wrap64 (x4_1 - 1)) then (if (wrap64 (x4_1 - 1)) < (l0.length : Int) then (if rdOf false l0 (wrap64 (x4_1 - 1)) = true then (if 0 ≤ (wrap64 ((x3_1.length : Int) - 1)) then (if (wrap64 ((x3_1.length : Int) - 1)) < (x3_1.length : Int) then (peristyleref14_Spans.l0 k1 l0 (x3_1.set ((wrap64 ((x3_1.length : Int) - 1)) : Int).toNat (⟨(rd_T64 x3_1 (wrap64 ((x3_1.length : Int) - 1))).f0, wrap64 (((rd_T64 x3_1 (wrap64 ((x3_1.length : Int) - 1))).f1) + 1)⟩ : S64)) (wrap64 (x4_1 + 1))) else (none)) else (none)) else (if x3_1.length < 8796093022208 then (peristyleref14_Spans.l0 k1 l0 (x3_1 ++ [(⟨x4_1, wrap64 (x4_1 + 1)⟩ : S64)]) (wrap64 (x4_1 + 1))) else (none))) else (none)) else (none)) else (if x3_1.length < 8796093022208 then (peristyleref14_Spans.l0 k1 l0 (x3_1 ++ [(⟨x4_1, wrap64 (x4_1 + 1)⟩ : S64)]) (wrap64 (x4_1 + 1))) else (none))) else (peristyleref14_Spans.l0 k1 l0 x3_1 (wrap64 (x4_1 + 1)))) = some r := by rw [← hbq4] at H; exact H
    have Nbq4 := Aside0.mk hbq4
    clear hbq4
    replace H := ifb H
    rcases H with ⟨rfl, H⟩ | ⟨rfl, H⟩
    ·replace H := ifd H
     rcases H with ⟨-, c6b0, H⟩ | ⟨-, c6b0, H⟩
     ·obtain ⟨ji7, hji7⟩ : ∃ j_ : Int, (wrap64 (x4_1 - 1)) = j_ := ⟨_, rfl⟩
      replace H : (if 0 ≤ (ji7) then (if (ji7) < (l0.length : Int) then (if rdOf false l0 (ji7) = true then (if 0 ≤ (wrap64 ((x3_1.length : Int) - 1)) then (if (wrap64 ((x3_1.length : Int) - 1)) < (x3_1.length : Int) then (peristyleref14_Spans.l0 k1 l0 (x3_1.set ((wrap64 ((x3_1.length : Int) - 1)) : Int).toNat (⟨(rd_T64 x3_1 (wrap64 ((x3_1.length : Int) - 1))).f0, wrap64 (((rd_T64 x3_1 (wrap64 ((x3_1.length : Int) - 1))).f1) + 1)⟩ : S64)) (wrap64 (x4_1 + 1))) else (none)) else (none)) else (if x3_1.length < 8796093022208 then (peristyleref14_Spans.l0 k1 l0 (x3_1 ++ [(⟨x4_1, wrap64 (x4_1 + 1)⟩ : S64)]) (wrap64 (x4_1 + 1))) else (none))) else (none)) else (none)) = some r := by (rw [hji7] at H; exact H)
      have hji7w : (IntKind.i64.wrap (x4_1 - 1)) = ji7 := (i64_w _).trans hji7
      replace H := ifn H
      obtain ⟨-, c8b0, H⟩ := H
      replace H := ifn H
      obtain ⟨-, c9b0, H⟩ := H
      obtain ⟨bq10, hbq10⟩ : ∃ b_ : Bool, b_ = (rdOf false l0 (ji7)) := ⟨_, rfl⟩
      replace H : (if bq10 = true then (if 0 ≤ (wrap64 ((x3_1.length : Int) - 1)) then (if (wrap64 ((x3_1.length : Int) - 1)) < (x3_1.length : Int) then (peristyleref14_Spans.l0 k1 l0 (x3_1.set ((wrap64 ((x3_1.length : Int) - 1)) : Int).toNat (⟨(rd_T64 x3_1 (wrap64 ((x3_1.length : Int) - 1))).f0, wrap64 (((rd_T64 x3_1 (wrap64 ((x3_1.length : Int) - 1))).f1) + 1)⟩ : S64)) (wrap64 (x4_1 + 1))) else (none)) else (none)) else (if x3_1.length < 8796093022208 then (peristyleref14_Spans.l0 k1 l0 (x3_1 ++ [(⟨x4_1, wrap64 (x4_1 + 1)⟩ : S64)]) (wrap64 (x4_1 + 1))) else (none))) = some r := by rw [← hbq10] at H; exact H
      have Nbq10 := Aside0.mk hbq10
      clear hbq10
      replace H := ifb H
      rcases H with ⟨rfl, H⟩ | ⟨rfl, H⟩
      ·obtain ⟨ji12, hji12⟩ : ∃ j_ : Int, (wrap64 ((x3_1.length : Int) - 1)) = j_ := ⟨_, rfl⟩
       replace H : (if 0 ≤ (ji12) then (if (ji12) < (x3_1.length : Int) then (peristyleref14_Spans.l0 k1 l0 (x3_1.set ((ji12) : Int).toNat (⟨(rd_T64 x3_1 (ji12)).f0, wrap64 (((rd_T64 x3_1 (ji12)).f1) + 1)⟩ : S64)) (wrap64 (x4_1 + 1))) else (none)) else (none)) = some r := by (rw [hji12] at H; exact H)
       have hji12w : (IntKind.i64.wrap ((x3_1.length : Int) - 1)) = ji12 := (i64_w _).trans hji12
       replace H := ifn H
       obtain ⟨-, c13b0, H⟩ := H
       replace H := ifn H
       obtain ⟨-, c14b0, H⟩ := H
       obtain ⟨y630, hy630⟩ : ∃ y_ : List (S64), y_ = (x3_1.set ((ji12) : Int).toNat (⟨(rd_T64 x3_1 (ji12)).f0, wrap64 (((rd_T64 x3_1 (ji12)).f1) + 1)⟩ : S64)) := ⟨_, rfl⟩
       replace H : (peristyleref14_Spans.l0 k1 l0 y630 (wrap64 (x4_1 + 1))) = some r := by (rw [hy630]; with_reducible exact H)
       have Ny630 := Aside0.mk hy630
       clear hy630
       have H' := Aside0.mk H
       clear H
       have p627 : 0 ≤ (x4_1 : Int) := ad
       have q627 : x4_1 < (l0.length : Int) := ad
       obtain ⟨ad627, e627, hx627_0⟩ := Kd.at_bool HR0.out x4_1 p627 q627
       (rw [← Nbq4.out] at hx627_0)
       cases e627
       replace hx627_0 := cb HB.out.cell hx627_0
       replace p627 := eq_true p627
       replace q627 := eq_true q627
       have p628 : 0 ≤ ((ji7) : Int) := ad
       have q628 : (ji7) < (l0.length : Int) := ad
       obtain ⟨ad628, e628, hx628_0⟩ := Kd.at_bool HR0.out (ji7) p628 q628
       (rw [← Nbq10.out] at hx628_0)
       obtain rfl : ad627 = ad628 := (by injection e628)
       replace hx628_0 := cb HB.out.cell hx628_0
       replace p628 := eq_true p628
       replace q628 := eq_true q628
       obtain ⟨Ao16, co16, eo16⟩ := Kd.R_slice HO_3.out
       subst eo16
       have p629 : 0 ≤ ((ji12) : Int) := ad
       have q629 : (ji12) < (x3_1.length : Int) := ad
       obtain ⟨ad629, e629, hx629_0, hx629_1⟩ := at_T64 (Kd.R_reads' HO_3.out).2.2 (ji12) p629 q629
       cases e629
       replace p629 := eq_true p629
       replace q629 := eq_true q629
       have p15 : 0 ≤ ((ji12) : Int) := ad
       have q15 : ((ji12) : Int) < ((x3_1.length : Int) : Int) := ad
       obtain ⟨go15, co15, eo15, gb15, gl15, cl15, HG15⟩ := Kd.R_form HO_3.out (by omega)
       (cases eo15)
       have GB15 := Aside0.mk gb15
       have GG15 := Aside0.mk HG15
       clear gb15 gl15 HG15
       (simp only [add_plain] at hx629_0)
       (simp only [add_plain] at hx629_1)
       obtain ⟨ce15, hcl15, hM15, hcc15, hfr15⟩ := Kd.R_elem HO_3.out z64 ((ji12) : Int) p15 q15
       obtain rfl := k64_openM hM15
       have hx15_0 : wr.cell? ⟨go15, ((ji12) : Int).toNat * 2, none⟩ = some (.int .i64 ((rd_T64 x3_1 (ji12)).f0)) := hcc15 0 _ rfl
       have hx15_1 : wr.cell? ⟨go15, ((ji12) : Int).toNat * 2 + 1, none⟩ = some (.int .i64 ((rd_T64 x3_1 (ji12)).f1)) := hcc15 1 _ rfl
       have hf15_0 : wr.frozen? ⟨go15, ((ji12) : Int).toNat * 2, none⟩ = false := hfr15 0
       have hf15_1 : wr.frozen? ⟨go15, ((ji12) : Int).toNat * 2 + 1, none⟩ = false := hfr15 1
       clear hcl15 hcc15 hfr15 hM15
       replace p15 := eq_true p15
       replace q15 := eq_true q15
       have HX17 := Aside0.mk (show Kd.R k64 64 wr w.heap.size (fun _ => True) (.slice (some ⟨go15, 0, none⟩) x3_1.length co16) x3_1 from (rx HO_3.out))
       obtain ⟨ce17, hcl17, hM17, hcc17, hfr17⟩ := Kd.R_elem HX17.out z64 ((ji12) : Int) (of_decide_eq_true (by assumption)) (by have h_ : ((ji12) : Int) < ((x3_1.length : Int) : Int) := of_decide_eq_true (by assumption); exact h_)
       obtain rfl := k64_openM hM17
       have HP17 := Kd.R_seg HX17.out ((ji12) : Int) (of_decide_eq_true (by assumption)) (by have h_ : ((ji12) : Int) < ((x3_1.length : Int) : Int) := of_decide_eq_true (by assumption); exact h_) (seg := [.int .i64 (wrap64 (((rd_T64 x3_1 (ji12)).f1) + 1))]) (j := 1) hcl17 hcc17 (show 2 ≤ 2 from by decide) (x' := (⟨(rd_T64 x3_1 (ji12)).f0, wrap64 (((rd_T64 x3_1 (ji12)).f1) + 1)⟩ : S64)) (k64_mkM _ _ _ (⟨(rd_T64 x3_1 (ji12)).f0, wrap64 (((rd_T64 x3_1 (ji12)).f1) + 1)⟩ : S64) ) (fun _ hk => hk)
       have hx17_1 := hcc17 1 _ rfl
       (simp only [show (k64).sz = 2 from rfl, Nat.mul_one, Nat.add_zero] at hx17_1)
       have hf17_1 := hfr17 1
       (simp only [show (k64).sz = 2 from rfl, Nat.mul_one, Nat.add_zero] at hf17_1)
       clear hcl17 hcc17 hfr17 hM17
       go_wp2_with (((with_reducible refine gate_store (t := 3) (p := 34) rfl ?_); refine stE 3 34 (wr.setCell ⟨go15, ((ji12) : Int).toNat * 2 + 1, none⟩ (.int .i64 (wrap64 (((rd_T64 x3_1 (ji12)).f1) + 1)))) ?_; intro w18 hw; have hg : wr.grownBy w18 (some go15) := (by rw [hw]; exact HP17.2); have hp_ : Kd.R k64 64 w18 w.heap.size (fun _ => True) (.slice (some ⟨go15, 0, none⟩) x3_1.length co16) y630 := (by rw [hw, Ny630.out]; exact HP17.1); clear HP17; replace HO_3 := Aside0.mk (hp_); replace HB := Aside0.mk ((by rw [hw]; exact below_set (HB.out) GB15.out : Below w.heap.size w w18)); clear hg hw hp_))
       go_roundg k1
       case measure => have := HK1.out; omega
       case rel => exact ⟨(y630), (wrap64 (x4_1 + 1)), (by rfl), (by exact H'), ⟨by have := HK1.out; omega⟩, ⟨by exact HO_3.out⟩, ⟨bh HB.out⟩⟩
      ·replace H := ifn H
       obtain ⟨c19, -, H⟩ := H
       have LMc19 := Aside0.mk c19
       clear c19
       obtain ⟨y631, hy631⟩ : ∃ y_ : List (S64), y_ = (x3_1 ++ [(⟨x4_1, wrap64 (x4_1 + 1)⟩ : S64)]) := ⟨_, rfl⟩
       replace H : (peristyleref14_Spans.l0 k1 l0 y631 (wrap64 (x4_1 + 1))) = some r := by (rw [hy631]; with_reducible exact H)
       have Ny631 := Aside0.mk hy631
       clear hy631
       have H' := Aside0.mk H
       clear H
       have p627 : 0 ≤ (x4_1 : Int) := ad
       have q627 : x4_1 < (l0.length : Int) := ad
       obtain ⟨ad627, e627, hx627_0⟩ := Kd.at_bool HR0.out x4_1 p627 q627
       (rw [← Nbq4.out] at hx627_0)
       cases e627
       replace hx627_0 := cb HB.out.cell hx627_0
       replace p627 := eq_true p627
       replace q627 := eq_true q627
       have p628 : 0 ≤ ((ji7) : Int) := ad
       have q628 : (ji7) < (l0.length : Int) := ad
       obtain ⟨ad628, e628, hx628_0⟩ := Kd.at_bool HR0.out (ji7) p628 q628
       (rw [← Nbq10.out] at hx628_0)
       obtain rfl : ad627 = ad628 := (by injection e628)
       replace hx628_0 := cb HB.out.cell hx628_0
       replace p628 := eq_true p628
       replace q628 := eq_true q628
       go_wp2_with (((with_reducible refine gate_builtin (b := .append) (xs := #[.tmp 35, .tmp 40]) rfl ?_); at_builtin; refine Kd.R_append k64 (w0 := w) w.heap.size rfl (.tmp 35) (.tmp 40) 22 64 (.agg #[(.int .i64 0), (.int .i64 0)]) 16 rfl Tryz.underlying22 info64 rfl (by decide) (by omega) u3 x3_1 (⟨x4_1, wrap64 (x4_1 + 1)⟩ : S64) [.int .i64 x4_1, .int .i64 (wrap64 (x4_1 + 1))] (fun _ => True) (fun _ => False) rfl rfl ?aP (fun _ hk => hk.elim) ?aF ?aO ?aB ?aS ?aL ?_; (case aP => exact k64_mkM _ _ _ (⟨x4_1, wrap64 (x4_1 + 1)⟩ : S64)); (case aB => exact (bh HB.out)); (case aF => exact (fun _ _ => trivial)); (case aO => exact (rx HO_3.out)); (case aS => exact (below_size (bh HB.out))); (case aL => have := LMc19.out; omega); intro v632 w20 ho hb hg hat; rw [← Ny631.out] at ho; have n0_ := Aside0.mk (hb); have n1_ := Aside0.mk (ho); clear HB HO_3; have HB := n0_; have HO633 := n1_; clear n0_ n1_ ho hb hg hat))
       go_roundg k1
       case measure => have := HK1.out; omega
       case rel => exact ⟨(y631), (wrap64 (x4_1 + 1)), (by rfl), (by exact H'), ⟨by have := HK1.out; omega⟩, ⟨by exact HO633.out⟩, ⟨bh HB.out⟩⟩
     ·replace H := ifn H
      obtain ⟨c21, -, H⟩ := H
      have LMc21 := Aside0.mk c21
      clear c21
      obtain ⟨y634, hy634⟩ : ∃ y_ : List (S64), y_ = (x3_1 ++ [(⟨x4_1, wrap64 (x4_1 + 1)⟩ : S64)]) := ⟨_, rfl⟩
      replace H : (peristyleref14_Spans.l0 k1 l0 y634 (wrap64 (x4_1 + 1))) = some r := by (rw [hy634]; with_reducible exact H)
      have Ny634 := Aside0.mk hy634
      clear hy634
      have H' := Aside0.mk H
      clear H
      have p627 : 0 ≤ (x4_1 : Int) := ad
      have q627 : x4_1 < (l0.length : Int) := ad
      obtain ⟨ad627, e627, hx627_0⟩ := Kd.at_bool HR0.out x4_1 p627 q627
      (rw [← Nbq4.out] at hx627_0)
      cases e627
      replace hx627_0 := cb HB.out.cell hx627_0
      replace p627 := eq_true p627
      replace q627 := eq_true q627
      go_wp2_with (((with_reducible refine gate_builtin (b := .append) (xs := #[.tmp 35, .tmp 40]) rfl ?_); at_builtin; refine Kd.R_append k64 (w0 := w) w.heap.size rfl (.tmp 35) (.tmp 40) 22 64 (.agg #[(.int .i64 0), (.int .i64 0)]) 16 rfl Tryz.underlying22 info64 rfl (by decide) (by omega) u3 x3_1 (⟨x4_1, wrap64 (x4_1 + 1)⟩ : S64) [.int .i64 x4_1, .int .i64 (wrap64 (x4_1 + 1))] (fun _ => True) (fun _ => False) rfl rfl ?aP (fun _ hk => hk.elim) ?aF ?aO ?aB ?aS ?aL ?_; (case aP => exact k64_mkM _ _ _ (⟨x4_1, wrap64 (x4_1 + 1)⟩ : S64)); (case aB => exact (bh HB.out)); (case aF => exact (fun _ _ => trivial)); (case aO => exact (rx HO_3.out)); (case aS => exact (below_size (bh HB.out))); (case aL => have := LMc21.out; omega); intro v635 w22 ho hb hg hat; rw [← Ny634.out] at ho; have n0_ := Aside0.mk (hb); have n1_ := Aside0.mk (ho); clear HB HO_3; have HB := n0_; have HO636 := n1_; clear n0_ n1_ ho hb hg hat))
      go_roundg k1
      case measure => have := HK1.out; omega
      case rel => exact ⟨(y634), (wrap64 (x4_1 + 1)), (by rfl), H', ⟨by have := HK1.out; omega⟩, ⟨by exact HO636.out⟩, ⟨bh HB.out⟩⟩
    ·have H' := Aside0.mk H
     clear H
     have p627 : 0 ≤ (x4_1 : Int) := ad
     have q627 : x4_1 < (l0.length : Int) := ad
     obtain ⟨ad627, e627, hx627_0⟩ := Kd.at_bool HR0.out x4_1 p627 q627
     (rw [← Nbq4.out] at hx627_0)
     cases e627
     replace hx627_0 := cb HB.out.cell hx627_0
     replace p627 := eq_true p627
     replace q627 := eq_true q627
     go_wp2
     go_roundg k1
     case measure => have := HK1.out; omega
     case rel => exact ⟨(x3_1), (wrap64 (x4_1 + 1)), (by rfl), H', ⟨by have := HK1.out; omega⟩, ⟨by exact HO_3.out⟩, ⟨bh HB.out⟩⟩
   ·obtain rfl := Option.some.inj H
    go_wp2
    go_ret
    exact ⟨_, er, by exact HO_3.out, bh HB.out⟩

/-! ### peristyleref14_Of: function 17 -/
end Go.Proofs.YtjgmdjieandemaaGreat.Print
end
section
namespace Go.Proofs.YtjgmdjieandemaaGreat.Print
open Go.RowKit Go.Proofs.YtjgmdjieandemaaGreatW.PrintWords Go.Proofs.YtjgmdjieandemaaGreatW.PrintLast Go.Proofs.YtjgmdjieandemaaGreatW.PrintMore
attribute [local go_sem] max2_int min2_int max_two min_two max_three min_three max_four min_four   -- for this text's walks alone
set_option linter.unusedVariables false
set_option linter.unusedSimpArgs false

/-! ### peristyleref14_Both: function 58 -/
mutual
def peristyleref14_Both.j0 : Nat → Int → List (S64) → List (S64) → Bool → Option ((List (S64)) × Int)
 | 0, _, _, _, _ => none
 | k + 1, x0, x1, x2, x20 => if x20 = true then (some (([] : List (S64)), 1)) else ((peristyleref14_Top.f x1).bind fun t695 => ((peristyleref14_Top.f x2).bind fun t696 => ((peristyleref14_Set.f k x1 (mx t695 t696)).bind fun t697 => ((peristyleref14_Set.f k x2 (mx t695 t696)).bind fun t700 => (if 0 ≤ (mx t695 t696) then (if (mx t695 t696 : Int).toNat ≤ 281474976710656 then (peristyleref14_Both.l0 k x0 (mx t695 t696) t697 t700 (List.replicate (mx t695 t696 : Int).toNat false) 0) else (none)) else (none))))))
def peristyleref14_Both.l0 : Nat → Int → Int → List Bool → List Bool → List Bool → Int → Option ((List (S64)) × Int)
 | 0, _, _, _, _, _, _ => none
 | k + 1, x0, x8, x9, x10, x11, x12 => if x12 < x8 then (if x0 = 0 then (if 0 ≤ x12 then (if x12 < (x9.length : Int) then (if rdOf false x9 x12 = true then (if x12 < (x10.length : Int) then (if x12 < (x11.length : Int) then (peristyleref14_Both.l0 k x0 x8 x9 x10 (x11.set (x12 : Int).toNat (rdOf false x10 x12)) (wrap64 (x12 + 1))) else (none)) else (none)) else (if x12 < (x11.length : Int) then (peristyleref14_Both.l0 k x0 x8 x9 x10 (x11.set (x12 : Int).toNat false) (wrap64 (x12 + 1))) else (none))) else (none)) else (none)) else (if x0 = 1 then (if 0 ≤ x12 then (if x12 < (x9.length : Int) then (if rdOf false x9 x12 = true then (if x12 < (x11.length : Int) then (peristyleref14_Both.l0 k x0 x8 x9 x10 (x11.set (x12 : Int).toNat true) (wrap64 (x12 + 1))) else (none)) else (if x12 < (x10.length : Int) then (if x12 < (x11.length : Int) then (peristyleref14_Both.l0 k x0 x8 x9 x10 (x11.set (x12 : Int).toNat (rdOf false x10 x12)) (wrap64 (x12 + 1))) else (none)) else (none))) else (none)) else (none)) else (if 0 ≤ x12 then (if x12 < (x9.length : Int) then (if rdOf false x9 x12 = true then (if x12 < (x10.length : Int) then (if x12 < (x11.length : Int) then (peristyleref14_Both.l0 k x0 x8 x9 x10 (x11.set (x12 : Int).toNat (!(rdOf false x10 x12))) (wrap64 (x12 + 1))) else (none)) else (none)) else (if x12 < (x11.length : Int) then (peristyleref14_Both.l0 k x0 x8 x9 x10 (x11.set (x12 : Int).toNat false) (wrap64 (x12 + 1))) else (none))) else (none)) else (none)))) else ((peristyleref14_Spans.f k x11).bind fun t706 => (some (t706, 0)))
end
def peristyleref14_Both.f (k : Nat) (a0 : Int) (l1 : List (S64)) (l2 : List (S64)) : Option ((List (S64)) × Int) := (peristyleref14_May.f k l1).bind fun t693 => (if t693 = true then ((peristyleref14_May.f k l2).bind fun t694 => (peristyleref14_Both.j0 k a0 l1 l2 (!t694))) else (peristyleref14_Both.j0 k a0 l1 l2 true))
theorem peristyleref14_Both.j0_succ (k) (a0) (a1) (a2) (a3) : type_of% (@peristyleref14_Both.j0.eq_2 a0 a1 a2 a3 k) := peristyleref14_Both.j0.eq_2 a0 a1 a2 a3 k
theorem peristyleref14_Both.l0_succ (k) (a0) (a1) (a2) (a3) (a4) (a5) : type_of% (@peristyleref14_Both.l0.eq_2 a0 a1 a2 a3 a4 a5 k) := peristyleref14_Both.l0.eq_2 a0 a1 a2 a3 a4 a5 k
set_option maxHeartbeats 8000000 in
set_option maxRecDepth 100000 in
theorem peristyleref14_Both.calls (k : Nat) (a0 : Int) (A1 : Option Addr) (c1 : Nat) (l1 : List (S64)) (A2 : Option Addr) (c2 : Nat) (l2 : List (S64)) (r1 : List (S64)) (r2 : Int) (w : World) (hr1 : Kd.C k64 w A1 l1.length l1) (hc1 : l1.length ≤ c1) (hr2 : Kd.C k64 w A2 l2.length l2) (hc2 : l2.length ≤ c2) (h : peristyleref14_Both.f k a0 l1 l2 = some (r1, r2)) :
  Calls Tryz.prog 58 #[.int .i64 a0, .slice A1 l1.length c1, .slice A2 l2.length c2] w fun e w' => ∃ v0_ : Value, e = .returned (.tuple #[v0_, .int .i64 r2]) ∧ Kd.R k64 64 w' w.heap.size (fun _ => True) v0_ r1 ∧ Below w.heap.size w w' := by
 have HR1 := Aside0.mk hr1
 have HC1 := Aside0.mk hc1
 clear hr1 hc1
 have HR2 := Aside0.mk hr2
 have HC2 := Aside0.mk hc2
 clear hr2 hc2
 have HB := Aside0.mk (Below.refl w.heap.size w)
 have H := h
 clear h
 unfold peristyleref14_Both.f at H
 have HC4 := Aside0.mk H
 clear H
 go_enter Tryz.func58, Tryz.ntmps58
 go_upto_region 1 with (fail)
 go_cut [20] (fun v20 wc => ∃ (kq : Nat) (x20_3 : Bool), v20 = .bool x20_3 ∧ Aside0 (peristyleref14_Both.j0 kq a0 l1 l2 x20_3 = some (r1, r2)) ∧ Aside0 (kq ≤ k) ∧ Aside0 (Below w.heap.size w wc))
 case first =>
  have H := HC4.out
  clear HC4
  replace H := bd H
  obtain ⟨t693, A5, H⟩ := H
  replace H := ifb H
  rcases H with ⟨rfl, H⟩ | ⟨rfl, H⟩
  ·replace H := bd H
   obtain ⟨t694, A7, H⟩ := H
   have H' := Aside0.mk H
   clear H
   go_wp2_with (first | ((with_reducible refine gate_callee (f := 21) rfl ?_); refine gL 14 Tryz.func21 #[.slice A1 l1.length c1] ?_; (with_reducible refine (peristyleref14_May.calls k _ _ l1 true _ ?side1 ?side2 A5.out).mono ?_); (case side1 => exact cx (Kd.C_below HR1.out HB.out)); (case side2 => exact HC1.out); rintro e w' ⟨rfl, ⟨nd, rfl⟩⟩; refine ⟨_, rfl, ?_⟩) | (go_at_call 21; (with_reducible refine (peristyleref14_May.calls k _ _ l2 t694 _ ?side1 ?side2 A7.out).mono ?_); (case side1 => repeat (exact (Kd.C_below HR2.out (bh HB.out)))); (case side2 => exact HC2.out); rintro e w' ⟨rfl, ⟨nd, rfl⟩⟩; clear A7))
   go_meet
   case rel => exact ⟨_, (!t694), (by rfl), H', ⟨by omega⟩, ⟨bh HB.out⟩⟩
  ·have H' := Aside0.mk H
   clear H
   go_wp2_with (((with_reducible refine gate_callee (f := 21) rfl ?_); refine gL 14 Tryz.func21 #[.slice A1 l1.length c1] ?_; (with_reducible refine (peristyleref14_May.calls k _ _ l1 false _ ?side1 ?side2 A5.out).mono ?_); (case side1 => exact cx (Kd.C_below HR1.out HB.out)); (case side2 => exact HC1.out); rintro e w' ⟨rfl, ⟨nd, rfl⟩⟩; refine ⟨_, rfl, ?_⟩))
   go_meet
   case rel => exact ⟨_, (true), (by rfl), H', ⟨by omega⟩, ⟨bh HB.out⟩⟩
 case rest =>
  clear HC4
  obtain ⟨kq, x20_3, rfl, HA, HJ3, HB⟩ := hcut
  cases kq with
  | zero => exact absurd HA.out (by simp [peristyleref14_Both.j0])
  | succ kj3 =>
   have H := HA.out
   clear HA
   simp only [peristyleref14_Both.j0] at H
   replace H := ifb H
   rcases H with ⟨rfl, H⟩ | ⟨rfl, H⟩
   ·simp only [Option.some.injEq, Prod.mk.injEq] at H
    obtain ⟨rfl, rfl⟩ := H
    go_wp2
    go_ret2
    exact ⟨_, er, nl, bh HB.out⟩
   ·replace H := bd H
    obtain ⟨t695, A9, H⟩ := H
    replace H := bd H
    obtain ⟨t696, A10, H⟩ := H
    obtain ⟨ji11, hji11⟩ : ∃ j_ : Int, (mx t695 t696) = j_ := ⟨_, rfl⟩
    replace H : ((peristyleref14_Set.f kj3 l1 (ji11)).bind fun t697 => ((peristyleref14_Set.f kj3 l2 (ji11)).bind fun t700 => (if 0 ≤ (ji11) then (if (ji11 : Int).toNat ≤ 281474976710656 then (peristyleref14_Both.l0 kj3 a0 ji11 t697 t700 (List.replicate (ji11 : Int).toNat false) 0) else (none)) else (none)))) = some (r1, r2) := by (rw [hji11] at H; exact H)
    have hji11_ : (if t695 < t696 then t696 else t695) = ji11 := hji11
    replace H := bd H
    obtain ⟨t697, A12, H⟩ := H
    replace H := bd H
    obtain ⟨t700, A13, H⟩ := H
    replace H := ifn H
    obtain ⟨c14, -, H⟩ := H
    have c14b0 := eq_true c14
    have c14b1 : decide (0 ≤ (ji11)) = true := decide_eq_true c14
    clear c14
    replace H := ifn H
    obtain ⟨c15, -, H⟩ := H
    have c15b0 := eq_true c15
    have c15b1 : decide ((ji11 : Int).toNat ≤ 281474976710656) = true := decide_eq_true c15
    clear c15
    obtain ⟨y703, hy703⟩ : ∃ y_ : List Bool, y_ = (List.replicate (ji11 : Int).toNat false) := ⟨_, rfl⟩
    replace H : (peristyleref14_Both.l0 kj3 a0 ji11 t697 t700 y703 0) = some (r1, r2) := by (rw [hy703]; with_reducible exact H)
    have Ny703 := Aside0.mk hy703
    clear hy703
    have H' := Aside0.mk H
    clear H
    go_wp2_with (first | ((with_reducible refine gate_callee (f := 39) rfl ?_); refine gL 22 Tryz.func39 #[.slice A1 l1.length c1] ?_; (with_reducible refine (peristyleref14_Top.calls _ _ l1 t695 _ ?side1 ?side2 A9.out).mono ?_); (case side1 => exact cx (Kd.C_below HR1.out HB.out)); (case side2 => exact HC1.out); rintro e w' ⟨rfl, ⟨nd, rfl⟩⟩; refine ⟨_, rfl, ?_⟩) | ((with_reducible refine gate_callee (f := 39) rfl ?_); refine gL 24 Tryz.func39 #[.slice A2 l2.length c2] ?_; (with_reducible refine (peristyleref14_Top.calls _ _ l2 t696 _ ?side1 ?side2 A10.out).mono ?_); (case side1 => repeat (exact (Kd.C_below HR2.out (bh HB.out)))); (case side2 => exact HC2.out); rintro e w' ⟨rfl, ⟨nd, rfl⟩⟩; refine ⟨_, rfl, ?_⟩) | ((with_reducible refine gate_callee (f := 74) rfl ?_); refine gL 28 Tryz.func74 #[.slice A1 l1.length c1, .int .i64 ji11] ?_; (with_reducible refine (peristyleref14_Set.calls kj3 _ _ l1 ji11 t697 _ ?side1 ?side2 A12.out).mono ?_); (case side1 => repeat (exact (Kd.C_below HR1.out (bh HB.out)))); (case side2 => exact HC1.out); rintro e w16 ⟨v698, rfl, ho0, hb⟩; refine ⟨_, rfl, ?_⟩; have HO699 := Aside0.mk (Kd.R_lower ho0 (below_size (bh HB.out))); replace HB := bsa HB hb; clear hb ho0) | ((with_reducible refine gate_callee (f := 74) rfl ?_); refine gL 31 Tryz.func74 #[.slice A2 l2.length c2, .int .i64 ji11] ?_; (with_reducible refine (peristyleref14_Set.calls kj3 _ _ l2 ji11 t700 _ ?side1 ?side2 A13.out).mono ?_); (case side1 => exact cx (Kd.C_below HR2.out HB.out)); (case side2 => exact HC2.out); rintro e w17 ⟨v701, rfl, ho0, hb⟩; refine ⟨_, rfl, ?_⟩; have HO702 := Aside0.mk (Kd.R_lower (Kd.R_new' ho0 (Kd.R_lt (rx HO699.out))) (below_size (bh HB.out))); replace HO699 := Aside0.mk (Kd.R_elder' (rx HO699.out) (Kd.R_base ho0) hb); replace HB := bsa HB hb; clear hb ho0) | ((with_reducible refine gate_dst (N := 33) rfl ?_); refine Kd.R_make Kd.bool _ 4 rfl (N := 33) rfl 69 _ _ rfl ji11 (by rfl) (by rfl) Tryz.underlying69 (.bool false) 1 info4 rfl (by decide) (by omega) false (ok := fun _ => True) (okp := fun _ => True) rfl (fun _ hk => hk) trivial (of_decide_eq_true (by assumption)) (Nat.le_trans (Nat.mul_le_mul_right _ (of_decide_eq_true (by assumption) : ji11.toNat ≤ 281474976710656)) (by omega)) (Below.refl _ _) (Nat.le_refl _) ?_; intro v704 w18 ho19 hb hg_ hnew_; clear hg_ hnew_; (rw [← Ny703.out] at ho19); have HO705 := Aside0.mk (Kd.R_lower (Kd.R_new' (Kd.R_new' ho19 (Kd.R_lt (rx HO699.out))) (Kd.R_lt (rx HO702.out))) (below_size (bh HB.out))); replace HO699 := Aside0.mk (Kd.R_elder' (rx HO699.out) (Kd.R_base ho19) hb); replace HO702 := Aside0.mk (Kd.R_elder' (rx HO702.out) (Kd.R_base ho19) hb); replace HB := bsa HB hb; clear hb ho19))
    go_loopg [12] kj3 (fun kq v12 w' => ∃ (x11_2 : List Bool) (x12_2 : Int), v12 = .int .i64 x12_2 ∧ Aside0 (peristyleref14_Both.l0 kq a0 ji11 t697 t700 x11_2 x12_2 = some (r1, r2)) ∧ Aside0 (kq ≤ kj3) ∧ Aside0 (Kd.R Kd.bool 4 w' w.heap.size (fun k_ => some k_ ≠ (v701 : Value).ownBlock ∧ some k_ ≠ (v704 : Value).ownBlock) v698 t697) ∧ Aside0 (Kd.R Kd.bool 4 w' w.heap.size (fun k_ => some k_ ≠ (v698 : Value).ownBlock ∧ some k_ ≠ (v704 : Value).ownBlock) v701 t700) ∧ Aside0 (Kd.R Kd.bool 4 w' w.heap.size (fun k_ => some k_ ≠ (v698 : Value).ownBlock ∧ some k_ ≠ (v701 : Value).ownBlock) v704 x11_2) ∧ Aside0 (Below w.heap.size w w'))
    case atStart => exact ⟨(y703), (0), (by rfl), H', ⟨Nat.le_refl _⟩, ⟨by exact Kd.R_mono HO699.out (fun _ hk => ⟨hk.1.2, hk.2⟩)⟩, ⟨by exact Kd.R_mono HO702.out (fun _ hk => ⟨hk.1.2, hk.2⟩)⟩, ⟨by exact Kd.R_mono HO705.out (fun _ hk => ⟨hk.1.2, hk.2⟩)⟩, ⟨bh HB.out⟩⟩
    case round =>
     clear H' c14b0 c14b1 c15b0 c15b1
     obtain ⟨x11_2, x12_2, rfl, HA, HK2, HO_9, HO_10, HO_11, HB⟩ := hrel
     cases gk with
     | zero => exact absurd HA.out (by simp [peristyleref14_Both.l0])
     | succ k2 =>
      have H := HA.out
      clear HA
      simp only [peristyleref14_Both.l0] at H
      replace H := ifd H
      rcases H with ⟨-, c20b0, H⟩ | ⟨-, c20b0, H⟩
      ·replace H := ife H
       rcases H with ⟨-, c21b0, c21b1, H⟩ | ⟨c21, c21b0, c21b1, H⟩
       ·replace H := ifn H
        obtain ⟨-, c22b0, H⟩ := H
        replace H := ifn H
        obtain ⟨-, c23b0, H⟩ := H
        obtain ⟨bq24, hbq24⟩ : ∃ b_ : Bool, b_ = (rdOf false t697 x12_2) := ⟨_, rfl⟩
        replace H : (if bq24 = true then (if x12_2 < (t700.length : Int) then (if x12_2 < (x11_2.length : Int) then (peristyleref14_Both.l0 k2 a0 ji11 t697 t700 (x11_2.set (x12_2 : Int).toNat (rdOf false t700 x12_2)) (wrap64 (x12_2 + 1))) else (none)) else (none)) else (if x12_2 < (x11_2.length : Int) then (peristyleref14_Both.l0 k2 a0 ji11 t697 t700 (x11_2.set (x12_2 : Int).toNat false) (wrap64 (x12_2 + 1))) else (none))) = some (r1, r2) := by rw [← hbq24] at H; exact H
        have Nbq24 := Aside0.mk hbq24
        clear hbq24
        replace H := ifb H
        rcases H with ⟨rfl, H⟩ | ⟨rfl, H⟩
        ·replace H := ifn H
         obtain ⟨-, c26b0, H⟩ := H
         replace H := ifn H
         obtain ⟨-, c27b0, H⟩ := H
         obtain ⟨y711, hy711⟩ : ∃ y_ : List Bool, y_ = (x11_2.set (x12_2 : Int).toNat (rdOf false t700 x12_2)) := ⟨_, rfl⟩
         replace H : (peristyleref14_Both.l0 k2 a0 ji11 t697 t700 y711 (wrap64 (x12_2 + 1))) = some (r1, r2) := by (rw [hy711]; with_reducible exact H)
         have Ny711 := Aside0.mk hy711
         clear hy711
         have H' := Aside0.mk H
         clear H
         obtain ⟨Ao29, co29, eo29⟩ := Kd.R_slice HO_9.out
         subst eo29
         have p709 : 0 ≤ (x12_2 : Int) := ad
         have q709 : x12_2 < (t697.length : Int) := ad
         obtain ⟨ad709, e709, hx709_0⟩ := Kd.at_bool (Kd.R_reads' HO_9.out).2.2 x12_2 p709 q709
         (rw [← Nbq24.out] at hx709_0)
         cases e709
         replace p709 := eq_true p709
         replace q709 := eq_true q709
         obtain ⟨Ao30, co30, eo30⟩ := Kd.R_slice HO_10.out
         subst eo30
         have p710 : 0 ≤ (x12_2 : Int) := ad
         have q710 : x12_2 < (t700.length : Int) := ad
         obtain ⟨ad710, e710, hx710_0⟩ := Kd.at_bool (Kd.R_reads' HO_10.out).2.2 x12_2 p710 q710
         cases e710
         replace p710 := eq_true p710
         replace q710 := eq_true q710
         have p28 : 0 ≤ (x12_2 : Int) := ad
         have q28 : (x12_2 : Int) < ((x11_2.length : Int) : Int) := ad
         obtain ⟨go28, co28, eo28, gb28, gl28, cl28, HG28⟩ := Kd.R_form HO_11.out (by omega)
         (cases eo28)
         have GB28 := Aside0.mk gb28
         have GG28 := Aside0.mk HG28
         clear gb28 gl28 HG28
         obtain ⟨hx28_0, hf28_0⟩ := Kd.R_celln false HO_11.out (x12_2 : Int) p28 q28
         replace p28 := eq_true p28
         replace q28 := eq_true q28
         have HP31 := Kd.R_putg HO_11.out (x12_2 : Int) (rdOf false t700 x12_2)
         go_wp2_with (((with_reducible refine gate_store (t := 4) (p := 68) rfl ?_); refine stE 4 68 (wr.setCell ⟨go28, (x12_2 : Int).toNat, none⟩ (.bool (rdOf false t700 x12_2))) ?_; intro w32 hw; have hg : wr.grownBy w32 (some go28) := (by rw [hw]; exact HP31.2); have hp_ : Kd.R Kd.bool 4 w32 w.heap.size (fun k_ => some k_ ≠ (.slice (some ad709) t697.length co29 : Value).ownBlock ∧ some k_ ≠ (.slice (some ad710) t700.length co30 : Value).ownBlock) (.slice (some ⟨go28, 0, none⟩) x11_2.length co28) y711 := (by rw [hw, Ny711.out]; exact HP31.1); clear HP31; replace HO_9 := Aside0.mk (Kd.R_after (v := (.slice (some ⟨go28, 0, none⟩) x11_2.length co28)) (v1 := (.slice (some ⟨go28, 0, none⟩) x11_2.length co28)) (ok := (fun k_ => some k_ ≠ (.slice (some ad710) t700.length co30 : Value).ownBlock)) (rx HO_9.out) hg (.inl rfl)); replace HO_10 := Aside0.mk (Kd.R_after (v := (.slice (some ⟨go28, 0, none⟩) x11_2.length co28)) (v1 := (.slice (some ⟨go28, 0, none⟩) x11_2.length co28)) (ok := (fun k_ => some k_ ≠ (.slice (some ad709) t697.length co29 : Value).ownBlock)) (rx HO_10.out) hg (.inl rfl)); replace HO_11 := Aside0.mk (hp_); replace HB := Aside0.mk ((by rw [hw]; exact below_set (HB.out) GB28.out : Below w.heap.size w w32)); clear hg hw hp_))
         go_roundg k2
         case measure => have := HJ3.out; have := HK2.out; omega
         case rel => exact ⟨(y711), (wrap64 (x12_2 + 1)), (by rfl), (by exact H'), ⟨by have := HJ3.out; have := HK2.out; omega⟩, ⟨by exact HO_9.out⟩, ⟨by exact HO_10.out⟩, ⟨by exact HO_11.out⟩, ⟨bh HB.out⟩⟩
        ·replace H := ifn H
         obtain ⟨-, c33b0, H⟩ := H
         obtain ⟨y712, hy712⟩ : ∃ y_ : List Bool, y_ = (x11_2.set (x12_2 : Int).toNat false) := ⟨_, rfl⟩
         replace H : (peristyleref14_Both.l0 k2 a0 ji11 t697 t700 y712 (wrap64 (x12_2 + 1))) = some (r1, r2) := by (rw [hy712]; with_reducible exact H)
         have Ny712 := Aside0.mk hy712
         clear hy712
         have H' := Aside0.mk H
         clear H
         obtain ⟨Ao35, co35, eo35⟩ := Kd.R_slice HO_9.out
         subst eo35
         have p709 : 0 ≤ (x12_2 : Int) := ad
         have q709 : x12_2 < (t697.length : Int) := ad
         obtain ⟨ad709, e709, hx709_0⟩ := Kd.at_bool (Kd.R_reads' HO_9.out).2.2 x12_2 p709 q709
         (rw [← Nbq24.out] at hx709_0)
         cases e709
         replace p709 := eq_true p709
         replace q709 := eq_true q709
         have p34 : 0 ≤ (x12_2 : Int) := ad
         have q34 : (x12_2 : Int) < ((x11_2.length : Int) : Int) := ad
         obtain ⟨go34, co34, eo34, gb34, gl34, cl34, HG34⟩ := Kd.R_form HO_11.out (by omega)
         (cases eo34)
         have GB34 := Aside0.mk gb34
         have GG34 := Aside0.mk HG34
         clear gb34 gl34 HG34
         obtain ⟨hx34_0, hf34_0⟩ := Kd.R_celln false HO_11.out (x12_2 : Int) p34 q34
         replace p34 := eq_true p34
         replace q34 := eq_true q34
         have HP36 := Kd.R_putg HO_11.out (x12_2 : Int) false
         go_wp2_with (((with_reducible refine gate_store (t := 4) (p := 68) rfl ?_); refine stE 4 68 (wr.setCell ⟨go34, (x12_2 : Int).toNat, none⟩ (.bool false)) ?_; intro w37 hw; have hg : wr.grownBy w37 (some go34) := (by rw [hw]; exact HP36.2); have hp_ : Kd.R Kd.bool 4 w37 w.heap.size (fun k_ => some k_ ≠ (.slice (some ad709) t697.length co35 : Value).ownBlock ∧ some k_ ≠ (v701 : Value).ownBlock) (.slice (some ⟨go34, 0, none⟩) x11_2.length co34) y712 := (by rw [hw, Ny712.out]; exact HP36.1); clear HP36; replace HO_9 := Aside0.mk (Kd.R_after (v := (.slice (some ⟨go34, 0, none⟩) x11_2.length co34)) (v1 := (.slice (some ⟨go34, 0, none⟩) x11_2.length co34)) (ok := (fun k_ => some k_ ≠ (v701 : Value).ownBlock)) (rx HO_9.out) hg (.inl rfl)); replace HO_10 := Aside0.mk (Kd.R_after (v := (.slice (some ⟨go34, 0, none⟩) x11_2.length co34)) (v1 := (.slice (some ⟨go34, 0, none⟩) x11_2.length co34)) (ok := (fun k_ => some k_ ≠ (.slice (some ad709) t697.length co35 : Value).ownBlock)) (rx HO_10.out) hg (.inl rfl)); replace HO_11 := Aside0.mk (hp_); replace HB := Aside0.mk ((by rw [hw]; exact below_set (HB.out) GB34.out : Below w.heap.size w w37)); clear hg hw hp_))
         go_roundg k2
         case measure => have := HJ3.out; have := HK2.out; omega
         case rel => exact ⟨(y712), (wrap64 (x12_2 + 1)), (by rfl), (by exact H'), ⟨by have := HJ3.out; have := HK2.out; omega⟩, ⟨by exact HO_9.out⟩, ⟨by exact HO_10.out⟩, ⟨by exact HO_11.out⟩, ⟨bh HB.out⟩⟩
       ·replace H := ife H
        rcases H with ⟨-, c38b0, c38b1, H⟩ | ⟨c38, c38b0, c38b1, H⟩
        ·replace H := ifn H
         obtain ⟨-, c39b0, H⟩ := H
         replace H := ifn H
         obtain ⟨-, c40b0, H⟩ := H
         obtain ⟨bq41, hbq41⟩ : ∃ b_ : Bool, b_ = (rdOf false t697 x12_2) := ⟨_, rfl⟩
         replace H : (if bq41 = true then (if x12_2 < (x11_2.length : Int) then (peristyleref14_Both.l0 k2 a0 ji11 t697 t700 (x11_2.set (x12_2 : Int).toNat true) (wrap64 (x12_2 + 1))) else (none)) else (if x12_2 < (t700.length : Int) then (if x12_2 < (x11_2.length : Int) then (peristyleref14_Both.l0 k2 a0 ji11 t697 t700 (x11_2.set (x12_2 : Int).toNat (rdOf false t700 x12_2)) (wrap64 (x12_2 + 1))) else (none)) else (none))) = some (r1, r2) := by rw [← hbq41] at H; exact H
         have Nbq41 := Aside0.mk hbq41
         clear hbq41
         replace H := ifb H
         rcases H with ⟨rfl, H⟩ | ⟨rfl, H⟩
         ·replace H := ifn H
          obtain ⟨-, c43b0, H⟩ := H
          obtain ⟨y714, hy714⟩ : ∃ y_ : List Bool, y_ = (x11_2.set (x12_2 : Int).toNat true) := ⟨_, rfl⟩
          replace H : (peristyleref14_Both.l0 k2 a0 ji11 t697 t700 y714 (wrap64 (x12_2 + 1))) = some (r1, r2) := by (rw [hy714]; with_reducible exact H)
          have Ny714 := Aside0.mk hy714
          clear hy714
          have H' := Aside0.mk H
          clear H
          obtain ⟨Ao45, co45, eo45⟩ := Kd.R_slice HO_9.out
          subst eo45
          have p713 : 0 ≤ (x12_2 : Int) := ad
          have q713 : x12_2 < (t697.length : Int) := ad
          obtain ⟨ad713, e713, hx713_0⟩ := Kd.at_bool (Kd.R_reads' HO_9.out).2.2 x12_2 p713 q713
          (rw [← Nbq41.out] at hx713_0)
          cases e713
          replace p713 := eq_true p713
          replace q713 := eq_true q713
          have p44 : 0 ≤ (x12_2 : Int) := ad
          have q44 : (x12_2 : Int) < ((x11_2.length : Int) : Int) := ad
          obtain ⟨go44, co44, eo44, gb44, gl44, cl44, HG44⟩ := Kd.R_form HO_11.out (by omega)
          (cases eo44)
          have GB44 := Aside0.mk gb44
          have GG44 := Aside0.mk HG44
          clear gb44 gl44 HG44
          obtain ⟨hx44_0, hf44_0⟩ := Kd.R_celln false HO_11.out (x12_2 : Int) p44 q44
          replace p44 := eq_true p44
          replace q44 := eq_true q44
          have HP46 := Kd.R_putg HO_11.out (x12_2 : Int) true
          go_wp2_with (((with_reducible refine gate_store (t := 4) (p := 83) rfl ?_); refine stE 4 83 (wr.setCell ⟨go44, (x12_2 : Int).toNat, none⟩ (.bool true)) ?_; intro w47 hw; have hg : wr.grownBy w47 (some go44) := (by rw [hw]; exact HP46.2); have hp_ : Kd.R Kd.bool 4 w47 w.heap.size (fun k_ => some k_ ≠ (.slice (some ad713) t697.length co45 : Value).ownBlock ∧ some k_ ≠ (v701 : Value).ownBlock) (.slice (some ⟨go44, 0, none⟩) x11_2.length co44) y714 := (by rw [hw, Ny714.out]; exact HP46.1); clear HP46; replace HO_9 := Aside0.mk (Kd.R_after (v := (.slice (some ⟨go44, 0, none⟩) x11_2.length co44)) (v1 := (.slice (some ⟨go44, 0, none⟩) x11_2.length co44)) (ok := (fun k_ => some k_ ≠ (v701 : Value).ownBlock)) (rx HO_9.out) hg (.inl rfl)); replace HO_10 := Aside0.mk (Kd.R_after (v := (.slice (some ⟨go44, 0, none⟩) x11_2.length co44)) (v1 := (.slice (some ⟨go44, 0, none⟩) x11_2.length co44)) (ok := (fun k_ => some k_ ≠ (.slice (some ad713) t697.length co45 : Value).ownBlock)) (rx HO_10.out) hg (.inl rfl)); replace HO_11 := Aside0.mk (hp_); replace HB := Aside0.mk ((by rw [hw]; exact below_set (HB.out) GB44.out : Below w.heap.size w w47)); clear hg hw hp_))
          go_roundg k2
          case measure => have := HJ3.out; have := HK2.out; omega
          case rel => exact ⟨(y714), (wrap64 (x12_2 + 1)), (by rfl), (by exact H'), ⟨by have := HJ3.out; have := HK2.out; omega⟩, ⟨by exact HO_9.out⟩, ⟨by exact HO_10.out⟩, ⟨by exact HO_11.out⟩, ⟨bh HB.out⟩⟩
         ·replace H := ifn H
          obtain ⟨-, c48b0, H⟩ := H
          replace H := ifn H
          obtain ⟨-, c49b0, H⟩ := H
          obtain ⟨y716, hy716⟩ : ∃ y_ : List Bool, y_ = (x11_2.set (x12_2 : Int).toNat (rdOf false t700 x12_2)) := ⟨_, rfl⟩
          replace H : (peristyleref14_Both.l0 k2 a0 ji11 t697 t700 y716 (wrap64 (x12_2 + 1))) = some (r1, r2) := by (rw [hy716]; with_reducible exact H)
          have Ny716 := Aside0.mk hy716
          clear hy716
          have H' := Aside0.mk H
          clear H
          obtain ⟨Ao51, co51, eo51⟩ := Kd.R_slice HO_9.out
          subst eo51
          have p713 : 0 ≤ (x12_2 : Int) := ad
          have q713 : x12_2 < (t697.length : Int) := ad
          obtain ⟨ad713, e713, hx713_0⟩ := Kd.at_bool (Kd.R_reads' HO_9.out).2.2 x12_2 p713 q713
          (rw [← Nbq41.out] at hx713_0)
          cases e713
          replace p713 := eq_true p713
          replace q713 := eq_true q713
          obtain ⟨Ao52, co52, eo52⟩ := Kd.R_slice HO_10.out
          subst eo52
          have p715 : 0 ≤ (x12_2 : Int) := ad
          have q715 : x12_2 < (t700.length : Int) := ad
          obtain ⟨ad715, e715, hx715_0⟩ := Kd.at_bool (Kd.R_reads' HO_10.out).2.2 x12_2 p715 q715
          cases e715
          replace p715 := eq_true p715
          replace q715 := eq_true q715
          have p50 : 0 ≤ (x12_2 : Int) := ad
          have q50 : (x12_2 : Int) < ((x11_2.length : Int) : Int) := ad
          obtain ⟨go50, co50, eo50, gb50, gl50, cl50, HG50⟩ := Kd.R_form HO_11.out (by omega)
          (cases eo50)
          have GB50 := Aside0.mk gb50
          have GG50 := Aside0.mk HG50
          clear gb50 gl50 HG50
          obtain ⟨hx50_0, hf50_0⟩ := Kd.R_celln false HO_11.out (x12_2 : Int) p50 q50
          replace p50 := eq_true p50
          replace q50 := eq_true q50
          have HP53 := Kd.R_putg HO_11.out (x12_2 : Int) (rdOf false t700 x12_2)
          go_wp2_with (((with_reducible refine gate_store (t := 4) (p := 83) rfl ?_); refine stE 4 83 (wr.setCell ⟨go50, (x12_2 : Int).toNat, none⟩ (.bool (rdOf false t700 x12_2))) ?_; intro w54 hw; have hg : wr.grownBy w54 (some go50) := (by rw [hw]; exact HP53.2); have hp_ : Kd.R Kd.bool 4 w54 w.heap.size (fun k_ => some k_ ≠ (.slice (some ad713) t697.length co51 : Value).ownBlock ∧ some k_ ≠ (.slice (some ad715) t700.length co52 : Value).ownBlock) (.slice (some ⟨go50, 0, none⟩) x11_2.length co50) y716 := (by rw [hw, Ny716.out]; exact HP53.1); clear HP53; replace HO_9 := Aside0.mk (Kd.R_after (v := (.slice (some ⟨go50, 0, none⟩) x11_2.length co50)) (v1 := (.slice (some ⟨go50, 0, none⟩) x11_2.length co50)) (ok := (fun k_ => some k_ ≠ (.slice (some ad715) t700.length co52 : Value).ownBlock)) (rx HO_9.out) hg (.inl rfl)); replace HO_10 := Aside0.mk (Kd.R_after (v := (.slice (some ⟨go50, 0, none⟩) x11_2.length co50)) (v1 := (.slice (some ⟨go50, 0, none⟩) x11_2.length co50)) (ok := (fun k_ => some k_ ≠ (.slice (some ad713) t697.length co51 : Value).ownBlock)) (rx HO_10.out) hg (.inl rfl)); replace HO_11 := Aside0.mk (hp_); replace HB := Aside0.mk ((by rw [hw]; exact below_set (HB.out) GB50.out : Below w.heap.size w w54)); clear hg hw hp_))
          go_roundg k2
          case measure => have := HJ3.out; have := HK2.out; omega
          case rel => exact ⟨(y716), (wrap64 (x12_2 + 1)), (by rfl), (by exact H'), ⟨by have := HJ3.out; have := HK2.out; omega⟩, ⟨by exact HO_9.out⟩, ⟨by exact HO_10.out⟩, ⟨by exact HO_11.out⟩, ⟨bh HB.out⟩⟩
        ·replace H := ifn H
         obtain ⟨-, c55b0, H⟩ := H
         replace H := ifn H
         obtain ⟨-, c56b0, H⟩ := H
         obtain ⟨bq57, hbq57⟩ : ∃ b_ : Bool, b_ = (rdOf false t697 x12_2) := ⟨_, rfl⟩
         replace H : (if bq57 = true then (if x12_2 < (t700.length : Int) then (if x12_2 < (x11_2.length : Int) then (peristyleref14_Both.l0 k2 a0 ji11 t697 t700 (x11_2.set (x12_2 : Int).toNat (!(rdOf false t700 x12_2))) (wrap64 (x12_2 + 1))) else (none)) else (none)) else (if x12_2 < (x11_2.length : Int) then (peristyleref14_Both.l0 k2 a0 ji11 t697 t700 (x11_2.set (x12_2 : Int).toNat false) (wrap64 (x12_2 + 1))) else (none))) = some (r1, r2) := by rw [← hbq57] at H; exact H
         have Nbq57 := Aside0.mk hbq57
         clear hbq57
         replace H := ifb H
         rcases H with ⟨rfl, H⟩ | ⟨rfl, H⟩
         ·replace H := ifn H
          obtain ⟨-, c59b0, H⟩ := H
          replace H := ifn H
          obtain ⟨-, c60b0, H⟩ := H
          obtain ⟨y719, hy719⟩ : ∃ y_ : List Bool, y_ = (x11_2.set (x12_2 : Int).toNat (!(rdOf false t700 x12_2))) := ⟨_, rfl⟩
          replace H : (peristyleref14_Both.l0 k2 a0 ji11 t697 t700 y719 (wrap64 (x12_2 + 1))) = some (r1, r2) := by (rw [hy719]; with_reducible exact H)
          have Ny719 := Aside0.mk hy719
          clear hy719
          have H' := Aside0.mk H
          clear H
          obtain ⟨Ao62, co62, eo62⟩ := Kd.R_slice HO_9.out
          subst eo62
          have p717 : 0 ≤ (x12_2 : Int) := ad
          have q717 : x12_2 < (t697.length : Int) := ad
          obtain ⟨ad717, e717, hx717_0⟩ := Kd.at_bool (Kd.R_reads' HO_9.out).2.2 x12_2 p717 q717
          (rw [← Nbq57.out] at hx717_0)
          cases e717
          replace p717 := eq_true p717
          replace q717 := eq_true q717
          obtain ⟨Ao63, co63, eo63⟩ := Kd.R_slice HO_10.out
          subst eo63
          have p718 : 0 ≤ (x12_2 : Int) := ad
          have q718 : x12_2 < (t700.length : Int) := ad
          obtain ⟨ad718, e718, hx718_0⟩ := Kd.at_bool (Kd.R_reads' HO_10.out).2.2 x12_2 p718 q718
          cases e718
          replace p718 := eq_true p718
          replace q718 := eq_true q718
          have p61 : 0 ≤ (x12_2 : Int) := ad
          have q61 : (x12_2 : Int) < ((x11_2.length : Int) : Int) := ad
          obtain ⟨go61, co61, eo61, gb61, gl61, cl61, HG61⟩ := Kd.R_form HO_11.out (by omega)
          (cases eo61)
          have GB61 := Aside0.mk gb61
          have GG61 := Aside0.mk HG61
          clear gb61 gl61 HG61
          obtain ⟨hx61_0, hf61_0⟩ := Kd.R_celln false HO_11.out (x12_2 : Int) p61 q61
          replace p61 := eq_true p61
          replace q61 := eq_true q61
          have HP64 := Kd.R_putg HO_11.out (x12_2 : Int) (!(rdOf false t700 x12_2))
          go_wp2_with (((with_reducible refine gate_store (t := 4) (p := 53) rfl ?_); refine stE 4 53 (wr.setCell ⟨go61, (x12_2 : Int).toNat, none⟩ (.bool (!(rdOf false t700 x12_2)))) ?_; intro w65 hw; have hg : wr.grownBy w65 (some go61) := (by rw [hw]; exact HP64.2); have hp_ : Kd.R Kd.bool 4 w65 w.heap.size (fun k_ => some k_ ≠ (.slice (some ad717) t697.length co62 : Value).ownBlock ∧ some k_ ≠ (.slice (some ad718) t700.length co63 : Value).ownBlock) (.slice (some ⟨go61, 0, none⟩) x11_2.length co61) y719 := (by rw [hw, Ny719.out]; exact HP64.1); clear HP64; replace HO_9 := Aside0.mk (Kd.R_after (v := (.slice (some ⟨go61, 0, none⟩) x11_2.length co61)) (v1 := (.slice (some ⟨go61, 0, none⟩) x11_2.length co61)) (ok := (fun k_ => some k_ ≠ (.slice (some ad718) t700.length co63 : Value).ownBlock)) (rx HO_9.out) hg (.inl rfl)); replace HO_10 := Aside0.mk (Kd.R_after (v := (.slice (some ⟨go61, 0, none⟩) x11_2.length co61)) (v1 := (.slice (some ⟨go61, 0, none⟩) x11_2.length co61)) (ok := (fun k_ => some k_ ≠ (.slice (some ad717) t697.length co62 : Value).ownBlock)) (rx HO_10.out) hg (.inl rfl)); replace HO_11 := Aside0.mk (hp_); replace HB := Aside0.mk ((by rw [hw]; exact below_set (HB.out) GB61.out : Below w.heap.size w w65)); clear hg hw hp_))
          go_roundg k2
          case measure => have := HJ3.out; have := HK2.out; omega
          case rel => exact ⟨(y719), (wrap64 (x12_2 + 1)), (by rfl), (by exact H'), ⟨by have := HJ3.out; have := HK2.out; omega⟩, ⟨by exact HO_9.out⟩, ⟨by exact HO_10.out⟩, ⟨by exact HO_11.out⟩, ⟨bh HB.out⟩⟩
         ·replace H := ifn H
          obtain ⟨-, c66b0, H⟩ := H
          obtain ⟨y720, hy720⟩ : ∃ y_ : List Bool, y_ = (x11_2.set (x12_2 : Int).toNat false) := ⟨_, rfl⟩
          replace H : (peristyleref14_Both.l0 k2 a0 ji11 t697 t700 y720 (wrap64 (x12_2 + 1))) = some (r1, r2) := by (rw [hy720]; with_reducible exact H)
          have Ny720 := Aside0.mk hy720
          clear hy720
          have H' := Aside0.mk H
          clear H
          obtain ⟨Ao68, co68, eo68⟩ := Kd.R_slice HO_9.out
          subst eo68
          have p717 : 0 ≤ (x12_2 : Int) := ad
          have q717 : x12_2 < (t697.length : Int) := ad
          obtain ⟨ad717, e717, hx717_0⟩ := Kd.at_bool (Kd.R_reads' HO_9.out).2.2 x12_2 p717 q717
          (rw [← Nbq57.out] at hx717_0)
          cases e717
          replace p717 := eq_true p717
          replace q717 := eq_true q717
          have p67 : 0 ≤ (x12_2 : Int) := ad
          have q67 : (x12_2 : Int) < ((x11_2.length : Int) : Int) := ad
          obtain ⟨go67, co67, eo67, gb67, gl67, cl67, HG67⟩ := Kd.R_form HO_11.out (by omega)
          (cases eo67)
          have GB67 := Aside0.mk gb67
          have GG67 := Aside0.mk HG67
          clear gb67 gl67 HG67
          obtain ⟨hx67_0, hf67_0⟩ := Kd.R_celln false HO_11.out (x12_2 : Int) p67 q67
          replace p67 := eq_true p67
          replace q67 := eq_true q67
          have HP69 := Kd.R_putg HO_11.out (x12_2 : Int) false
          go_wp2_with (((with_reducible refine gate_store (t := 4) (p := 53) rfl ?_); refine stE 4 53 (wr.setCell ⟨go67, (x12_2 : Int).toNat, none⟩ (.bool false)) ?_; intro w70 hw; have hg : wr.grownBy w70 (some go67) := (by rw [hw]; exact HP69.2); have hp_ : Kd.R Kd.bool 4 w70 w.heap.size (fun k_ => some k_ ≠ (.slice (some ad717) t697.length co68 : Value).ownBlock ∧ some k_ ≠ (v701 : Value).ownBlock) (.slice (some ⟨go67, 0, none⟩) x11_2.length co67) y720 := (by rw [hw, Ny720.out]; exact HP69.1); clear HP69; replace HO_9 := Aside0.mk (Kd.R_after (v := (.slice (some ⟨go67, 0, none⟩) x11_2.length co67)) (v1 := (.slice (some ⟨go67, 0, none⟩) x11_2.length co67)) (ok := (fun k_ => some k_ ≠ (v701 : Value).ownBlock)) (rx HO_9.out) hg (.inl rfl)); replace HO_10 := Aside0.mk (Kd.R_after (v := (.slice (some ⟨go67, 0, none⟩) x11_2.length co67)) (v1 := (.slice (some ⟨go67, 0, none⟩) x11_2.length co67)) (ok := (fun k_ => some k_ ≠ (.slice (some ad717) t697.length co68 : Value).ownBlock)) (rx HO_10.out) hg (.inl rfl)); replace HO_11 := Aside0.mk (hp_); replace HB := Aside0.mk ((by rw [hw]; exact below_set (HB.out) GB67.out : Below w.heap.size w w70)); clear hg hw hp_))
          go_roundg k2
          case measure => have := HJ3.out; have := HK2.out; omega
          case rel => exact ⟨(y720), (wrap64 (x12_2 + 1)), (by rfl), (by exact H'), ⟨by have := HJ3.out; have := HK2.out; omega⟩, ⟨by exact HO_9.out⟩, ⟨by exact HO_10.out⟩, ⟨by exact HO_11.out⟩, ⟨bh HB.out⟩⟩
      ·replace H := bd H
       obtain ⟨t706, A71, H⟩ := H
       simp only [Option.some.injEq, Prod.mk.injEq] at H
       obtain ⟨rfl, rfl⟩ := H
       obtain ⟨Ao72, co72, eo72⟩ := Kd.R_slice HO_11.out
       subst eo72
       go_wp2_with (((with_reducible refine gate_callee (f := 50) rfl ?_); refine gL 85 Tryz.func50 #[.slice Ao72 x11_2.length co72] ?_; (with_reducible refine (peristyleref14_Spans.calls k2 _ _ x11_2 t706 _ ?side1 ?side2 A71.out).mono ?_); (case side1 => exact cx (Kd.R_reads' HO_11.out).2.2); (case side2 => exact (Kd.R_reads' HO_11.out).2.1); rintro e w73 ⟨v707, rfl, ho0, hb⟩; refine ⟨_, rfl, ?_⟩; replace HO_9 := rba HO_9 hb; replace HO_10 := rba HO_10 hb; replace HO_11 := rba HO_11 hb; have HO708 := Aside0.mk (Kd.R_lower ho0 (below_size (bh HB.out))); replace HB := bsa HB hb; clear hb ho0))
       go_ret2
       exact ⟨_, by rfl, by exact HO708.out, bh HB.out⟩

/-! ### peristyleref16_Both: function 23 -/
def peristyleref16_Both.f (k : Nat) (a0 : Int) (l1 : List (S64)) (l2 : List (S64)) : Option ((List (S64)) × Int) := (peristyleref14_Both.f k a0 l1 l2).bind fun bt722 => ((peristyleref16_Of.f k bt722.1 0).bind fun bt726 => (some (bt726.1, bt726.2.1)))
set_option maxHeartbeats 8000000 in
set_option maxRecDepth 100000 in
theorem peristyleref16_Both.calls (k : Nat) (a0 : Int) (A1 : Option Addr) (c1 : Nat) (l1 : List (S64)) (A2 : Option Addr) (c2 : Nat) (l2 : List (S64)) (r1 : List (S64)) (r2 : Int) (w : World) (hr1 : Kd.C k64 w A1 l1.length l1) (hc1 : l1.length ≤ c1) (hr2 : Kd.C k64 w A2 l2.length l2) (hc2 : l2.length ≤ c2) (h : peristyleref16_Both.f k a0 l1 l2 = some (r1, r2)) :
  Calls Tryz.prog 23 #[.int .i64 a0, .slice A1 l1.length c1, .slice A2 l2.length c2] w fun e w' => ∃ v0_ : Value, e = .returned (.agg #[v0_, .int .i64 r2]) ∧ Kd.V k64 64 w' w.heap.size (fun k_ => (w.heap.size ≤ k_)) v0_ r1 ∧ Below w.heap.size w w' := by
 have hu32 := Tryz.underlying32
 have HR1 := Aside0.mk hr1
 have HC1 := Aside0.mk hc1
 clear hr1 hc1
 have HR2 := Aside0.mk hr2
 have HC2 := Aside0.mk hc2
 clear hr2 hc2
 have HB := Aside0.mk (Below.refl w.heap.size w)
 have H := h
 clear h
 unfold peristyleref16_Both.f at H
 replace H := bd H
 obtain ⟨⟨t722, t723⟩, A4, H⟩ := H
 dsimp only at H
 replace H := bd H
 obtain ⟨⟨t726, t729, t730⟩, A5, H⟩ := H
 dsimp only at H
 simp only [Option.some.injEq, Prod.mk.injEq] at H
 obtain ⟨rfl, rfl⟩ := H
 go_enter Tryz.func23, Tryz.ntmps23
 go_wp2_with (first | ((with_reducible refine gate_dst (N := 6) rfl ?_); refine boxE HB 6 32 #[.slice none 0 0, .int .i64 0] ?_; clear HB; intro gb721 w6 BK721 GW721 hg hb HB; have GE721 := GW721; clear hb hg) | ((with_reducible refine gate_callee (f := 58) rfl ?_); refine gL 15 Tryz.func58 #[.int .i64 a0, .slice A1 l1.length c1, .slice A2 l2.length c2] ?_; (with_reducible refine (peristyleref14_Both.calls k a0 _ _ l1 _ _ l2 t722 t723 _ ?side1 ?side2 ?side3 ?side4 A4.out).mono ?_); (case side1 => exact cx (Kd.C_below HR1.out HB.out)); (case side2 => exact HC1.out); (case side3 => exact cx (Kd.C_below HR2.out HB.out)); (case side4 => exact HC2.out); rintro e w7 ⟨v724, rfl, ho0, hb⟩; refine ⟨_, rfl, ?_⟩; have HO725 := Aside0.mk (Kd.R_lower (Kd.R_newM (M := fun k_ => (w.heap.size ≤ k_)) ho0 (below_size (bh HB.out)) (fun k_ h_ => h_)) (below_size (bh HB.out))); replace BK721 := bba BK721 hb; replace HB := bsa HB hb; clear hb ho0; obtain ⟨Ao8, co8, eo8⟩ := Kd.R_slice HO725.out; subst eo8) | ((with_reducible refine gate_callee (f := 11) rfl ?_); refine gL 20 Tryz.func11 #[.slice Ao8 t722.length co8, .int .i64 0] ?_; (with_reducible refine (peristyleref16_Of.calls k (fun k_ => some k_ = (.slice Ao8 t722.length co8 : Value).ownBlock) _ _ t722 0 t726 t729 t730 _ ?side1 A5.out).mono ?_); (case side1 => exact Kd.R_V (Kd.R_tight rfl (Kd.R_types (HO725.out) BK721.out (by decide)))); rintro e w9 ⟨v727, rfl, ho0, hb⟩; refine ⟨_, rfl, ?_⟩; have HO728 := Aside0.mk (Kd.V_lower (Kd.V_mono (ok' := fun k_ => (w.heap.size ≤ k_) ∧ k_ ≠ gb721) ho0 (fun k_ hk_ => ⟨Or.elim hk_ (fun hs_ => ((Kd.R_types (HO725.out) BK721.out (by decide)).1 k_ hs_.symm).1.1) (fun hn_ => (Nat.le_trans (below_size (bh HB.out)) hn_)), Or.elim hk_ (fun hs_ => ((Kd.R_types (HO725.out) BK721.out (by decide)).1 k_ hs_.symm).2) (fun hn_ => (Kd.freshB (g := gb721) (o := .cells #[.slice none 0 0, .int .i64 0] 32 (0, 0)) (bx BK721.out) k_ hn_))⟩)) (below_size (bh HB.out))); replace HO725 := rba HO725 hb; replace BK721 := bba BK721 hb; replace HB := bsa HB hb; clear hb ho0) | ((with_reducible refine gate_dst (N := 9) rfl ?_); refine box_event ?hg (N := 9) ?hd (cs := #[.slice none 0 0, .int .i64 0]) (t := 32) ?hr ?_; (case hd => rfl); (case hg => rfl); (case hr => (go_simp; done)); intro gb731 hg w10 hbox hb; replace HO725 := rba HO725 hb; replace HO728 := Aside0.mk (Kd.V_below (Kd.V_elderB (by exact HO728.out) gb731 (Nat.le_of_eq hg.symm)) hb); have BK731 := Aside0.mk (hbox); have GW731 := bza HB hg; have GE731 := bza HB hg; replace HB := bsa HB hb; obtain ⟨NB721_731, NB731_721⟩ := bnm BK721 hg; replace BK721 := bba BK721 hb; clear hb hbox hg; obtain ⟨Ao11, co11, eo11⟩ := Kd.V_slice HO728.out; subst eo11; have hnb12 := NB731_721.out; have hnc12 := NB721_731.out; obtain ⟨hcz13_0, hcz13_1, hfz13_0, hfz13_1⟩ := b2 BK731; obtain ⟨hcz14_0, hcz14_1, hfz14_0, hfz14_1⟩ := b2 BK721) | ((with_reducible refine gate_store (t := 32) (p := 6) rfl ?_); refine stE 32 6 ((((w10.setCell ⟨gb731, 0, none⟩ (.slice Ao11 t726.length co11)).setCell ⟨gb731, 1, none⟩ (.int .i64 t729)).setCell ⟨gb721, 0, none⟩ (.slice Ao11 t726.length co11)).setCell ⟨gb721, 1, none⟩ (.int .i64 t729)) ?_; intro w15 hw; have n0_ := rsm (fun k_ => (w.heap.size ≤ k_)) HO725 hw (fun _ hk => hk.1); have n1_ : Aside0 (Kd.V k64 64 w15 w.heap.size (fun k_ => (w.heap.size ≤ k_) ∧ k_ ≠ gb721 ∧ k_ ≠ gb731) (.slice Ao11 t726.length co11) t726) := ⟨(by rw [hw]; exact (by exact Kd.V_mono (Kd.V_far (p := ⟨gb721, 1, none⟩) (Kd.V_far (p := ⟨gb721, 0, none⟩) (Kd.V_far (p := ⟨gb731, 1, none⟩) (Kd.V_far (p := ⟨gb731, 0, none⟩) (Kd.V_mono (Kd.V_mono HO728.out (fun k_ hk => (⟨hk, hk.2⟩ : _ ∧ k_ ≠ gb731))) (fun k_ hk => (⟨hk, hk.1.1.2⟩ : _ ∧ k_ ≠ gb721))) (fun _ hk => hk.1.2) (.slice Ao11 t726.length co11)) (fun _ hk => hk.1.2) (.int .i64 t729)) (fun _ hk => hk.2) (.slice Ao11 t726.length co11)) (fun _ hk => hk.2) (.int .i64 t729)) (fun _ hk => ⟨hk.1.1.1.1, ⟨hk.1.1.1.2, hk.1.1.2⟩⟩)))⟩; have n2_ := sps #[.slice Ao11 t726.length co11, .int .i64 t729] BK721 hw (.p (.p (.f NB721_731 (.f NB721_731 .nil)))); have n3_ := sps #[.slice Ao11 t726.length co11, .int .i64 t729] BK731 hw (.f NB731_721 (.f NB731_721 (.p (.p .nil)))); have n4_ := bhw HB hw; clear hw HO725 HO728 BK721 BK731 HB; have HO725 := n0_; have HO728 := n1_; have BK721 := n2_; have BK731 := n3_; have HB := n4_; clear n0_ n1_ n2_ n3_ n4_))
 refine bodyPost_ret (results_cell_row rfl _ _ gb721 32 #[.slice Ao11 t726.length co11, .int .i64 t729] (0, 0) _ rfl (bx BK721.out) Tryz.underlying32 rfl (by kernel_rfl)) rfl ?_
 exact ⟨_, er, by exact Kd.V_mono HO728.out (fun _ hk => hk.1), bh HB.out⟩

/-! ### words_Or_1: function 89 -/
def words_Or_1.f (a0 : Int) (a1 : Int) : Option (Int) := some (Go.bits .or .i64 a0 a1)
set_option maxHeartbeats 8000000 in
set_option maxRecDepth 100000 in
theorem words_Or_1.calls (a0 : Int) (a1 : Int) (r : Int) (w : World) (h : words_Or_1.f a0 a1 = some r) :
  Calls Tryz.prog 89 #[.int .i64 a0, .int .i64 a1] w fun e w' => e = .returned (.int .i64 r) ∧ Drawn0 w w' := by
 have H := h
 clear h
 unfold words_Or_1.f at H
 obtain rfl := Option.some.inj H
 go_enter Tryz.func89, Tryz.ntmps89
 go_wp2
 go_ret
 exact ⟨by rfl, by repeat (exact Drawn0.refl _)⟩

end Go.Proofs.YtjgmdjieandemaaGreat.Print
end
section
namespace Go.Proofs.YtjgmdjieandemaaGreat.Print
open Go.RowKit Go.Proofs.YtjgmdjieandemaaGreatW.PrintWords Go.Proofs.YtjgmdjieandemaaGreatW.PrintLast Go.Proofs.YtjgmdjieandemaaGreatW.PrintMore
attribute [local go_sem] max2_int min2_int max_two min_two max_three min_three max_four min_four   -- for this text's walks alone
set_option linter.unusedVariables false
set_option linter.unusedSimpArgs false

/-! ### words_both_fn89: function 85 -/
mutual
def words_both_fn89.j0 : Nat → List Int → List Int → Bool → Option (List Int × Int)
 | 0, _, _, _ => none
 | k + 1, x0, x1, x18 => if x18 = true then (some (([] : List Int), 1)) else (if 0 ≤ (mx (x0.length : Int) (x1.length : Int)) then (if (mx (x0.length : Int) (x1.length : Int) : Int).toNat ≤ 35184372088832 then ((some (List.replicate (mx (x0.length : Int) (x1.length : Int) : Int).toNat 0 : List Int)).bind fun y734 => (words_both_fn89.l0 k x0 x1 y734 (y734.length : Int) 0)) else (none)) else (none))
def words_both_fn89.l0 : Nat → List Int → List Int → List Int → Int → Int → Option (List Int × Int)
 | 0, _, _, _, _, _ => none
 | k + 1, x0, x1, x9, x26, x27 => if x27 < x26 then ((words_both_1.f x0 x27).bind fun t737 => ((words_both_1.f x1 x27).bind fun t738 => ((words_Or_1.f t737 t738).bind fun t739 => (if 0 ≤ x27 then (if x27 < (x9.length : Int) then (words_both_fn89.l0 k x0 x1 (x9.set (x27 : Int).toNat t739) x26 (wrap64 (x27 + 1))) else (none)) else (none))))) else ((words_trimmed.f k x9).bind fun t741 => (some (t741, 0)))
end
def words_both_fn89.f (k : Nat) (l0 : List Int) (l1 : List Int)  : Option (List Int × Int) := (words_May.f l0).bind fun t732 => (if t732 = true then ((words_May.f l1).bind fun t733 => (words_both_fn89.j0 k l0 l1 (!t733))) else (words_both_fn89.j0 k l0 l1 true))
theorem words_both_fn89.j0_succ (k) (a0) (a1) (a2) : type_of% (@words_both_fn89.j0.eq_2 a0 a1 a2 k) := words_both_fn89.j0.eq_2 a0 a1 a2 k
theorem words_both_fn89.l0_succ (k) (a0) (a1) (a2) (a3) (a4) : type_of% (@words_both_fn89.l0.eq_2 a0 a1 a2 a3 a4 k) := words_both_fn89.l0.eq_2 a0 a1 a2 a3 a4 k
set_option maxHeartbeats 8000000 in
set_option maxRecDepth 100000 in
theorem words_both_fn89.calls (k : Nat) (A0 : Option Addr) (c0 : Nat) (l0 : List Int) (A1 : Option Addr) (c1 : Nat) (l1 : List Int)  (r1 : List Int) (r2 : Int) (w : World) (hr0 : Kd.C (Kd.int .i64) w A0 l0.length l0) (hc0 : l0.length ≤ c0) (hr1 : Kd.C (Kd.int .i64) w A1 l1.length l1) (hc1 : l1.length ≤ c1) (h : words_both_fn89.f k l0 l1 = some (r1, r2)) :
  Calls Tryz.prog 85 #[.slice A0 l0.length c0, .slice A1 l1.length c1, .func (.func 89) #[] #[]] w fun e w' => ∃ v0_ : Value, e = .returned (.tuple #[v0_, .int .i64 r2]) ∧ Kd.V (Kd.int .i64) 3 w' w.heap.size (fun k_ => (w.heap.size ≤ k_)) v0_ r1 ∧ Below w.heap.size w w' := by
 have HR0 := Aside0.mk hr0
 have HC0 := Aside0.mk hc0
 clear hr0 hc0
 have HR1 := Aside0.mk hr1
 have HC1 := Aside0.mk hc1
 clear hr1 hc1
 have HB := Aside0.mk (Below.refl w.heap.size w)
 have H := h
 clear h
 unfold words_both_fn89.f at H
 have HC4 := Aside0.mk H
 clear H
 go_enter Tryz.func85, Tryz.ntmps85
 go_upto_region 1 with (fail)
 go_cut [18] (fun v18 wc => ∃ (kq : Nat) (x18_3 : Bool), v18 = .bool x18_3 ∧ Aside0 (words_both_fn89.j0 kq l0 l1 x18_3 = some (r1, r2)) ∧ Aside0 (kq ≤ k) ∧ Aside0 (Below w.heap.size w wc))
 case first =>
  have H := HC4.out
  clear HC4
  replace H := bd H
  obtain ⟨t732, A5, H⟩ := H
  replace H := ifb H
  rcases H with ⟨rfl, H⟩ | ⟨rfl, H⟩
  ·replace H := bd H
   obtain ⟨t733, A7, H⟩ := H
   have H' := Aside0.mk H
   clear H
   go_wp2_with (first | ((with_reducible refine gate_callee (f := 80) rfl ?_); refine gL 12 Tryz.func80 #[.slice A0 l0.length c0] ?_; (with_reducible refine (words_May.calls _ _ l0 true _ ?side1 ?side2 A5.out).mono ?_); (case side1 => exact cx (Kd.C_below HR0.out HB.out)); (case side2 => exact HC0.out); rintro e w' ⟨rfl, ⟨nd, rfl⟩⟩; refine ⟨_, rfl, ?_⟩) | (go_at_call 80; (with_reducible refine (words_May.calls _ _ l1 t733 _ ?side1 ?side2 A7.out).mono ?_); (case side1 => repeat (exact (Kd.C_below HR1.out (bh HB.out)))); (case side2 => exact HC1.out); rintro e w' ⟨rfl, ⟨nd, rfl⟩⟩; clear A7))
   go_meet
   case rel => exact ⟨_, (!t733), (by rfl), H', ⟨by omega⟩, ⟨bh HB.out⟩⟩
  ·have H' := Aside0.mk H
   clear H
   go_wp2_with (((with_reducible refine gate_callee (f := 80) rfl ?_); refine gL 12 Tryz.func80 #[.slice A0 l0.length c0] ?_; (with_reducible refine (words_May.calls _ _ l0 false _ ?side1 ?side2 A5.out).mono ?_); (case side1 => exact cx (Kd.C_below HR0.out HB.out)); (case side2 => exact HC0.out); rintro e w' ⟨rfl, ⟨nd, rfl⟩⟩; refine ⟨_, rfl, ?_⟩))
   go_meet
   case rel => exact ⟨_, (true), (by rfl), H', ⟨by omega⟩, ⟨bh HB.out⟩⟩
 case rest =>
  clear HC4
  obtain ⟨kq, x18_3, rfl, HA, HJ3, HB⟩ := hcut
  cases kq with
  | zero => exact absurd HA.out (by simp [words_both_fn89.j0])
  | succ kj3 =>
   have H := HA.out
   clear HA
   simp only [words_both_fn89.j0] at H
   replace H := ifb H
   rcases H with ⟨rfl, H⟩ | ⟨rfl, H⟩
   ·simp only [Option.some.injEq, Prod.mk.injEq] at H
    obtain ⟨rfl, rfl⟩ := H
    go_wp2
    go_ret2
    exact ⟨_, er, Kd.V_nil _ _ _ _ _, bh HB.out⟩
   ·obtain ⟨ji9, hji9⟩ : ∃ j_ : Int, (mx (l0.length : Int) (l1.length : Int)) = j_ := ⟨_, rfl⟩
    replace H : (if 0 ≤ (ji9) then (if (ji9 : Int).toNat ≤ 35184372088832 then ((some (List.replicate (ji9 : Int).toNat 0 : List Int)).bind fun y734 => (words_both_fn89.l0 kj3 l0 l1 y734 (y734.length : Int) 0)) else (none)) else (none)) = some (r1, r2) := by (rw [hji9] at H; exact H)
    have hji9_ : (if (l0.length : Int) < (l1.length : Int) then (l1.length : Int) else (l0.length : Int)) = ji9 := hji9
    have hji9n_ := hji9_
    (simp only [Int.ofNat_lt] at hji9n_)
    replace H := ifn H
    obtain ⟨c10, -, H⟩ := H
    have c10b0 := eq_true c10
    have c10b1 : decide (0 ≤ (ji9)) = true := decide_eq_true c10
    clear c10
    replace H := ifn H
    obtain ⟨c11, -, H⟩ := H
    have c11b0 := eq_true c11
    have c11b1 : decide ((ji9 : Int).toNat ≤ 35184372088832) = true := decide_eq_true c11
    clear c11
    obtain ⟨y734, hy734⟩ : ∃ y_ : List Int, y_ = (List.replicate (ji9 : Int).toNat 0) := ⟨_, rfl⟩
    replace H : (words_both_fn89.l0 kj3 l0 l1 y734 (y734.length : Int) 0) = some (r1, r2) := by (have H2_ := (Option.bind_some _ _).symm.trans H; rw [hy734]; with_reducible exact H2_)
    have Ny734 := Aside0.mk hy734
    clear hy734
    have H' := Aside0.mk H
    clear H
    go_wp2_with (((with_reducible refine gate_dst (N := 24) rfl ?_); refine Kd.R_make (Kd.int .i64) _ 3 rfl (N := 24) rfl 25 _ _ rfl ji9 (by rfl) (by rfl) Tryz.underlying25 (.int .i64 0) 8 info3 rfl (by decide) (by omega) 0 (ok := fun _ => True) (okp := fun _ => True) rfl (fun _ hk => hk) trivial (of_decide_eq_true (by assumption)) (Nat.le_trans (Nat.mul_le_mul_right _ (of_decide_eq_true (by assumption) : ji9.toNat ≤ 35184372088832)) (by omega)) (Below.refl _ _) (Nat.le_refl _) ?_; intro v735 w12 ho13 hb hg_ hnew_; clear hg_ hnew_; (rw [← Ny734.out] at ho13); have HO736 := Aside0.mk (Kd.R_lower (Kd.R_newM (M := fun k_ => (w.heap.size ≤ k_)) ho13 (below_size (bh HB.out)) (fun k_ h_ => h_)) (below_size (bh HB.out))); replace HB := bsa HB hb; clear hb ho13; obtain ⟨Ao14, co14, eo14⟩ := Kd.R_slice HO736.out; subst eo14))
    go_loopg [27] kj3 (fun kq v27 w' => ∃ (x9_2 : List Int) (x27_2 : Int), v27 = .int .i64 x27_2 ∧ Aside0 (words_both_fn89.l0 kq l0 l1 x9_2 (y734.length : Int) x27_2 = some (r1, r2)) ∧ Aside0 (kq ≤ kj3) ∧ Aside0 (Kd.R (Kd.int .i64) 3 w' w.heap.size (fun k_ => (w.heap.size ≤ k_)) (.slice Ao14 y734.length co14) x9_2) ∧ Aside0 (Below w.heap.size w w'))
    case atStart => exact ⟨(y734), (0), (by rfl), H', ⟨Nat.le_refl _⟩, ⟨by exact Kd.R_mono HO736.out (fun _ hk => hk.1)⟩, ⟨bh HB.out⟩⟩
    case round =>
     clear H' c10b0 c10b1 c11b0 c11b1
     obtain ⟨x9_2, x27_2, rfl, HA, HK2, HO_9, HB⟩ := hrel
     have hl9_2 := (Kd.R_reads' HO_9.out).1
     rw [hl9_2] at HO_9
     (simp only [hl9_2])
     cases gk with
     | zero => exact absurd HA.out (by simp [words_both_fn89.l0])
     | succ k2 =>
      have H := HA.out
      clear HA
      simp only [words_both_fn89.l0] at H
      replace H := ifd H
      rcases H with ⟨c15, c15b0, H⟩ | ⟨c15, c15b0, H⟩
      ·((have c15b0l := c15b0; simp only [hl9_2] at c15b0l))
       clear c15
       replace H := bd H
       obtain ⟨t737, A16, H⟩ := H
       replace H := bd H
       obtain ⟨t738, A17, H⟩ := H
       replace H := bd H
       obtain ⟨t739, A18, H⟩ := H
       replace H := ifn H
       obtain ⟨-, c19b0, H⟩ := H
       replace H := ifn H
       obtain ⟨-, c20b0, H⟩ := H
       obtain ⟨y740, hy740⟩ : ∃ y_ : List Int, y_ = (x9_2.set (x27_2 : Int).toNat t739) := ⟨_, rfl⟩
       replace H : (words_both_fn89.l0 k2 l0 l1 y740 (y734.length : Int) (wrap64 (x27_2 + 1))) = some (r1, r2) := by (rw [hy740]; with_reducible exact H)
       have Ny740 := Aside0.mk hy740
       clear hy740
       have H' := Aside0.mk H
       clear H
       go_wp2_with (first | ((with_reducible refine gate_list ?_); refine gate_value rfl ?_; refine goesV_ (some 36) rfl rfl Tryz.func108 (by kernel_rfl) rfl #[.slice A0 l0.length c0, .int .i64 x27_2] rfl (by rfl) (by (simp only [List.map_toArray, List.map_cons, List.map_nil]); rfl) ?_; (with_reducible refine (words_both_1.calls _ _ l0 x27_2 t737 _ ?side1 ?side2 A16.out).mono ?_); (case side1 => exact cx (Kd.C_below HR0.out HB.out)); (case side2 => exact HC0.out); rintro e w' ⟨rfl, ⟨nd, rfl⟩⟩; refine ⟨_, rfl, ?_⟩; ((rw [drewN_self wr]; generalize hq_ : World.drewN wr _ = wr; have n0_ : Aside0 (Kd.R (Kd.int .i64) 3 wr w.heap.size (fun k_ => (w.heap.size ≤ k_)) (.slice Ao14 x9_2.length co14) x9_2) := ⟨by rw [← hq_]; exact (rx HO_9.out)⟩; have n1_ : Aside0 (Below w.heap.size w wr) := ⟨by rw [← hq_]; exact (bh HB.out)⟩; clear HO_9 HB hq_; have HO_9 := n0_; have HB := n1_; clear n0_ n1_))) | ((with_reducible refine gate_list ?_); refine gate_value rfl ?_; refine goesV_ (some 40) rfl rfl Tryz.func108 (by kernel_rfl) rfl #[.slice A1 l1.length c1, .int .i64 x27_2] rfl (by rfl) (by (simp only [List.map_toArray, List.map_cons, List.map_nil]); rfl) ?_; (with_reducible refine (words_both_1.calls _ _ l1 x27_2 t738 _ ?side1 ?side2 A17.out).mono ?_); (case side1 => exact cx (Kd.C_below HR1.out HB.out)); (case side2 => exact HC1.out); rintro e w' ⟨rfl, ⟨nd, rfl⟩⟩; refine ⟨_, rfl, ?_⟩; ((rw [drewN_self wr]; generalize hq_ : World.drewN wr _ = wr; have n0_ : Aside0 (Kd.R (Kd.int .i64) 3 wr w.heap.size (fun k_ => (w.heap.size ≤ k_)) (.slice Ao14 x9_2.length co14) x9_2) := ⟨by rw [← hq_]; exact (rx HO_9.out)⟩; have n1_ : Aside0 (Below w.heap.size w wr) := ⟨by rw [← hq_]; exact (bh HB.out)⟩; clear HO_9 HB hq_; have HO_9 := n0_; have HB := n1_; clear n0_ n1_))) | ((with_reducible refine gate_list ?_); refine gate_value rfl ?_; refine goesV_ (some 41) rfl rfl Tryz.func89 (by kernel_rfl) rfl #[.int .i64 t737, .int .i64 t738] rfl (by rfl) (by (simp only [List.map_toArray, List.map_cons, List.map_nil]); rfl) ?_; (with_reducible refine (words_Or_1.calls t737 t738 t739 _ A18.out).mono ?_); rintro e w' ⟨rfl, ⟨nd, rfl⟩⟩; refine ⟨_, rfl, ?_⟩; ((rw [drewN_self wr]; generalize hq_ : World.drewN wr _ = wr; have n0_ : Aside0 (Kd.R (Kd.int .i64) 3 wr w.heap.size (fun k_ => (w.heap.size ≤ k_)) (.slice Ao14 x9_2.length co14) x9_2) := ⟨by rw [← hq_]; exact (rx HO_9.out)⟩; have n1_ : Aside0 (Below w.heap.size w wr) := ⟨by rw [← hq_]; exact (bh HB.out)⟩; clear HO_9 HB hq_; have HO_9 := n0_; have HB := n1_; clear n0_ n1_)); have p21 : 0 ≤ (x27_2 : Int) := ad; have q21 : (x27_2 : Int) < ((x9_2.length : Int) : Int) := ad; obtain ⟨go21, co21, eo21, gb21, gl21, cl21, HG21⟩ := Kd.R_form HO_9.out (by omega); (cases eo21); have GB21 := Aside0.mk gb21; have GG21 := Aside0.mk HG21; clear gb21 gl21 HG21; obtain ⟨hx21_0, hf21_0⟩ := Kd.R_celln 0 HO_9.out (x27_2 : Int) p21 q21; replace p21 := eq_true p21; replace q21 := eq_true q21; obtain ⟨hy22_, hz22_⟩ := Kd.R_celln 0 HO_9.out (x27_2 : Int) (of_decide_eq_true (by assumption)) (of_decide_eq_true (by assumption)); have HP22 := Kd.R_putg HO_9.out (x27_2 : Int) t739) | ((with_reducible refine gate_store (t := 3) (p := 42) rfl ?_); refine stE 3 42 (wr.setCell ⟨go21, (x27_2 : Int).toNat, none⟩ (.int .i64 t739)) ?_; intro w23 hw; have hg : wr.grownBy w23 (some go21) := (by rw [hw]; exact HP22.2); have hp_ : Kd.R (Kd.int .i64) 3 w23 w.heap.size (fun k_ => (w.heap.size ≤ k_)) (.slice (some ⟨go21, 0, none⟩) x9_2.length co14) y740 := (by rw [hw, Ny740.out]; exact HP22.1); clear HP22; replace HO_9 := Aside0.mk (hp_); replace HB := Aside0.mk ((by rw [hw]; exact below_set (HB.out) GB21.out : Below w.heap.size w w23)); clear hg hw hp_))
       (simp only [← hl9_2])
       go_roundg k2
       case measure => have := HJ3.out; have := HK2.out; omega
       case rel => exact ⟨(y740), (wrap64 (x27_2 + 1)), (by rfl), (by exact H'), ⟨by have := HJ3.out; have := HK2.out; omega⟩, ⟨by (simp only [hl9_2]); exact HO_9.out⟩, ⟨bh HB.out⟩⟩
      ·((have c15b0l := c15b0; simp only [hl9_2] at c15b0l))
       clear c15
       replace H := bd H
       obtain ⟨t741, A24, H⟩ := H
       simp only [Option.some.injEq, Prod.mk.injEq] at H
       obtain ⟨rfl, rfl⟩ := H
       go_wp2_with (((with_reducible refine gate_callee (f := 109) rfl ?_); refine gL 45 Tryz.func109 #[.slice Ao14 x9_2.length co14] ?_; (with_reducible refine (words_trimmed.calls k2 (fun k_ => some k_ = (.slice Ao14 x9_2.length co14 : Value).ownBlock) _ _ x9_2 t741 _ ?side1 A24.out).mono ?_); (case side1 => exact Kd.R_V (Kd.R_tight rfl (HO_9.out))); rintro e w25 ⟨v742, rfl, ho0, hb⟩; refine ⟨_, rfl, ?_⟩; have HO743 := Aside0.mk (Kd.V_lower (Kd.V_mono (ok' := fun k_ => (w.heap.size ≤ k_)) ho0 (fun k_ hk_ => Or.elim hk_ (fun hs_ => ((HO_9.out).1 k_ hs_.symm)) (fun hn_ => (Nat.le_trans (below_size (bh HB.out)) hn_)))) (below_size (bh HB.out))); replace HO_9 := rba HO_9 hb; replace HB := bsa HB hb; clear hb ho0))
       go_ret2
       exact ⟨_, by rfl, by exact HO743.out, bh HB.out⟩

/-! ### words_Or: function 59 -/
def words_Or.f (k : Nat) (l0 : List Int) (l1 : List Int) : Option (List Int × Int) := (words_both_fn89.f k l0 l1).bind fun bt744 => (some (bt744.1, bt744.2))
set_option maxHeartbeats 8000000 in
set_option maxRecDepth 100000 in
theorem words_Or.calls (k : Nat) (A0 : Option Addr) (c0 : Nat) (l0 : List Int) (A1 : Option Addr) (c1 : Nat) (l1 : List Int) (r1 : List Int) (r2 : Int) (w : World) (hr0 : Kd.C (Kd.int .i64) w A0 l0.length l0) (hc0 : l0.length ≤ c0) (hr1 : Kd.C (Kd.int .i64) w A1 l1.length l1) (hc1 : l1.length ≤ c1) (h : words_Or.f k l0 l1 = some (r1, r2)) :
  Calls Tryz.prog 59 #[.slice A0 l0.length c0, .slice A1 l1.length c1] w fun e w' => ∃ v0_ : Value, e = .returned (.tuple #[v0_, .int .i64 r2]) ∧ Kd.V (Kd.int .i64) 3 w' w.heap.size (fun k_ => (w.heap.size ≤ k_)) v0_ r1 ∧ Below w.heap.size w w' := by
 have HR0 := Aside0.mk hr0
 have HC0 := Aside0.mk hc0
 clear hr0 hc0
 have HR1 := Aside0.mk hr1
 have HC1 := Aside0.mk hc1
 clear hr1 hc1
 have HB := Aside0.mk (Below.refl w.heap.size w)
 have H := h
 clear h
 unfold words_Or.f at H
 replace H := bd H
 obtain ⟨⟨t744, t747⟩, A3, H⟩ := H
 dsimp only at H
 simp only [Option.some.injEq, Prod.mk.injEq] at H
 obtain ⟨rfl, rfl⟩ := H
 go_enter Tryz.func59, Tryz.ntmps59
 go_wp2_with (((with_reducible refine gate_callee (f := 85) rfl ?_); refine gL 8 Tryz.func85 #[.slice A0 l0.length c0, .slice A1 l1.length c1, .func (.func 89) #[] #[]] ?_; (with_reducible refine (words_both_fn89.calls k _ _ l0 _ _ l1  t744 t747 _ ?side1 ?side2 ?side3 ?side4 A3.out).mono ?_); (case side1 => exact cx HR0.out); (case side2 => exact HC0.out); (case side3 => exact cx HR1.out); (case side4 => exact HC1.out); rintro e w4 ⟨v745, rfl, ho0, hb⟩; refine ⟨_, rfl, ?_⟩; have HO746 := Aside0.mk (Kd.V_lower (Kd.V_mono (ok' := fun k_ => (w.heap.size ≤ k_)) ho0 (fun k_ hk_ => (Nat.le_trans (below_size (bh HB.out)) hk_))) (below_size (bh HB.out))); replace HB := bsa HB hb; clear hb ho0))
 go_ret2
 exact ⟨_, er, by exact HO746.out, bh HB.out⟩

/-! ### span_Or_1: function 90 -/
def span_Or_1.f (a0_0 : Int) (a0_1 : Int) (a0_2 : Bool) (a0_3 : Bool) : Option (Bool) := if a0_2 = true then (some true) else (some a0_3)
set_option maxHeartbeats 8000000 in
set_option maxRecDepth 100000 in
theorem span_Or_1.calls (a0_0 : Int) (a0_1 : Int) (a0_2 : Bool) (a0_3 : Bool) (r : Bool) (w : World) (h : span_Or_1.f a0_0 a0_1 a0_2 a0_3 = some r) :
  Calls Tryz.prog 90 #[.agg #[.int .i64 a0_0, .int .i64 a0_1, .bool a0_2, .bool a0_3]] w fun e w' => e = .returned (.bool r) ∧ Below w.heap.size w w' := by
 have hu98 := Tryz.underlying98
 have HB := Aside0.mk (Below.refl w.heap.size w)
 have H := h
 clear h
 unfold span_Or_1.f at H
 replace H := ifb H
 rcases H with ⟨rfl, H⟩ | ⟨rfl, H⟩
 ·obtain rfl := Option.some.inj H
  go_enter Tryz.func90, Tryz.ntmps90
  go_wp2_with (((with_reducible refine gate_dst (N := 1) rfl ?_); refine boxE HB 1 98 #[.int .i64 a0_0, .int .i64 a0_1, .bool true, .bool a0_3] ?_; clear HB; intro gb748 w3 BK748 GW748 hg hb HB; have GE748 := GW748; clear hb hg; obtain ⟨hcz4_0, hcz4_1, hcz4_2, hcz4_3, hfz4_0, hfz4_1, hfz4_2, hfz4_3⟩ := b4 BK748))
  go_ret
  exact ⟨er, bh HB.out⟩
 ·obtain rfl := Option.some.inj H
  go_enter Tryz.func90, Tryz.ntmps90
  go_wp2_with (((with_reducible refine gate_dst (N := 1) rfl ?_); refine boxE HB 1 98 #[.int .i64 a0_0, .int .i64 a0_1, .bool false, .bool a0_3] ?_; clear HB; intro gb748 w5 BK748 GW748 hg hb HB; have GE748 := GW748; clear hb hg; obtain ⟨hcz6_0, hcz6_1, hcz6_2, hcz6_3, hfz6_0, hfz6_1, hfz6_2, hfz6_3⟩ := b4 BK748))
  go_ret
  exact ⟨er, bh HB.out⟩

/-! ### span_both_fn90: function 87 (a contract of the session's own) -/
section
attribute [local go_sem] Oper.semAt_some
def span_both_fn90.go : List S98 → List S64 → Option (List S64)
  | [], o => some o
  | x :: xs, o => (span_Or_1.f x.f0.f0 x.f0.f1 x.f1 x.f2).bind fun t => if t = true then ((span_adds.f o x.f0.f0 x.f0.f1).bind fun o2 => span_both_fn90.go xs o2) else span_both_fn90.go xs o
def span_both_fn90.f (k : Nat) (l0 l1 : List S64) : Option (List S64 × Int) := (span_May.f k l0).bind fun a => if a = true then ((span_May.f k l1).bind fun b => if b = true then ((span_parts_1.f k l0 l1).bind fun xs => (span_both_fn90.go xs []).bind fun o => some (o, 0)) else some (([] : List S64), 1)) else some (([] : List S64), 1)
theorem span_both_fn90.go_snoc : ∀ (pre : List S98) (x : S98) (o : List S64), span_both_fn90.go (pre ++ [x]) o = (span_both_fn90.go pre o).bind fun o1 => (span_Or_1.f x.f0.f0 x.f0.f1 x.f1 x.f2).bind fun t => if t = true then span_adds.f o1 x.f0.f0 x.f0.f1 else some o1 := by
 intro pre
 induction pre with
 | nil =>
   intro x o
   simp only [List.nil_append, span_both_fn90.go, Option.bind_some]
   congr 1; funext t; split
   ·cases span_adds.f o x.f0.f0 x.f0.f1 <;> rfl
   ·rfl
 | cons y ys ih =>
   intro x o
   simp only [List.cons_append, span_both_fn90.go]
   rw [Option.bind_assoc]
   congr 1; funext t; split
   ·rw [Option.bind_assoc]; congr 1; funext o2; exact ih x o2
   ·exact ih x o
theorem span_both_fn90.go_pre : ∀ (pre rest : List S98) (o r : List S64), span_both_fn90.go (pre ++ rest) o = some r → ∃ o1, span_both_fn90.go pre o = some o1 := by
 intro pre
 induction pre with
 | nil => intro rest o r h; exact ⟨o, rfl⟩
 | cons y ys ih =>
   intro rest o r h
   simp only [List.cons_append, span_both_fn90.go] at h ⊢
   obtain ⟨t, ht, h⟩ := Option.bind_eq_some_iff.mp h
   rw [ht]; simp only [Option.bind_some]
   split at h
   ·rename_i hq
    obtain ⟨o2, ho, h⟩ := Option.bind_eq_some_iff.mp h
    rw [if_pos hq, ho]; exact ih rest o2 r h
   ·rename_i hq
    rw [if_neg hq]; exact ih rest o r h
set_option maxHeartbeats 4000000 in
set_option maxRecDepth 100000 in
theorem span_both_fn90.calls (k : Nat) (A0 : Option Addr) (c0 : Nat) (l0 : List (S64)) (A1 : Option Addr) (c1 : Nat) (l1 : List (S64)) (r1 : List S64) (r2 : Int) (w : World) (hr0 : Kd.C k64 w A0 l0.length l0) (hc0 : l0.length ≤ c0) (hr1 : Kd.C k64 w A1 l1.length l1) (hc1 : l1.length ≤ c1) (h : span_both_fn90.f k l0 l1 = some (r1, r2)) :
    Calls Tryz.prog 87 #[.slice A0 l0.length c0, .slice A1 l1.length c1, .func (.func 90) #[] #[]] w fun e w' => ∃ v0_ : Value, e = .returned (.tuple #[v0_, .int .i64 r2]) ∧ Kd.R k64 64 w' w.heap.size (fun _ => True) v0_ r1 ∧ Below w.heap.size w w' := by
 have hmf : ∀ (fn : Fn) (first cap : Array Value) (w : World), (Instr.makeFunc fn first cap).run Tryz.prog w = .ok (.func fn first cap) w := fun _ _ _ _ => rfl
 have hu55 := Tryz.underlying98
 have hu43 := Tryz.underlying64
 have hu24 := Tryz.underlying22
 have HR0 := Aside0.mk hr0
 have HC0 := Aside0.mk hc0
 clear hr0 hc0
 have HR1 := Aside0.mk hr1
 have HC1 := Aside0.mk hc1
 clear hr1 hc1
 have HB := Aside0.mk (Below.refl w.heap.size w)
 have H := h
 clear h
 unfold span_both_fn90.f at H
 obtain ⟨a, A1_, H⟩ := Option.bind_eq_some_iff.mp H
 refine (callsIn_wide (n := 4)).1 ?_
 refine callsIn_of_wp_marks Tryz.func87 rfl trivial ?_ rfl
 simp only [Tryz.ntmps87, List.size_toArray, List.length_cons, List.length_nil, Nat.reduceAdd, Nat.reduceSub, Array.replicate_succ, Array.replicate_zero, List.push_toArray, List.append_toArray, List.nil_append, List.cons_append]
 refine wpIn_wide.2 ?_
 cases a with
 | false =>
   simp only [Bool.false_eq_true, if_false, Option.some.injEq, Prod.mk.injEq] at H
   obtain ⟨rfl, rfl⟩ := H
   have H1 := Aside0.mk A1_
   clear A1_
   go_wp2_with (first | ((with_reducible refine gate_dst (N := 5) rfl ?_); refine box_event ?hg (N := 5) ?hd (cs := #[.func (.func 90) #[] #[]]) (t := 99) ?hr ?_; (case hd => rfl); (case hg => rfl); (case hr => (go_simp; done)); intro gi hg w3 hbox hb; have n0_ := Aside0.mk (below_step HB.out hb); have n1_ := Aside0.mk hbox; have n2_ := Aside0.mk ((by rw [hg]; exact Nat.le_refl _) : w.heap.size ≤ gi); clear HB; have HB := n0_; have BKi := n1_; have GEi := n2_; clear n0_ n1_ n2_ hb hbox hg) | ((with_reducible refine gate_callee (f := 41) rfl ?_); refine gL 11 Tryz.func41 #[.slice A0 l0.length c0] ?_; (with_reducible refine (span_May.calls _ _ _ l0 false _ ?side1 ?side2 H1.out).mono ?_); (case side1 => exact (Kd.C_below HR0.out HB.out)); (case side2 => exact HC0.out); rintro e w4 ⟨rfl, hb⟩; refine ⟨_, rfl, ?_⟩; have n0_ := Aside0.mk (below_step HB.out hb); have n1_ := Aside0.mk (blk_below BKi.out hb); clear HB BKi hb; have HB := n0_; have BKi := n1_; clear n0_ n1_))
   exact ⟨_, results_list (rs := [.tmp 6, .tmp 7]) rfl (by simp) (.tmp (.tmp .nil)), _, rfl, Kd.R_nil _ _ _ _ _, HB.out⟩
 | true =>
   rw [if_pos rfl] at H
   obtain ⟨b, A2_, H⟩ := Option.bind_eq_some_iff.mp H
   cases b with
   | false =>
     simp only [Bool.false_eq_true, if_false, Option.some.injEq, Prod.mk.injEq] at H
     obtain ⟨rfl, rfl⟩ := H
     have H1 := Aside0.mk A1_
     have H2 := Aside0.mk A2_
     clear A1_ A2_
     go_wp2_with (first | ((with_reducible refine gate_dst (N := 5) rfl ?_); refine box_event ?hg (N := 5) ?hd (cs := #[.func (.func 90) #[] #[]]) (t := 99) ?hr ?_; (case hd => rfl); (case hg => rfl); (case hr => (go_simp; done)); intro gi hg w3 hbox hb; have n0_ := Aside0.mk (below_step HB.out hb); have n1_ := Aside0.mk hbox; have n2_ := Aside0.mk ((by rw [hg]; exact Nat.le_refl _) : w.heap.size ≤ gi); clear HB; have HB := n0_; have BKi := n1_; have GEi := n2_; clear n0_ n1_ n2_ hb hbox hg) | ((with_reducible refine gate_callee (f := 41) rfl ?_); refine gL 11 Tryz.func41 #[.slice A0 l0.length c0] ?_; (with_reducible refine (span_May.calls _ _ _ l0 true _ ?side1 ?side2 H1.out).mono ?_); (case side1 => exact (Kd.C_below HR0.out HB.out)); (case side2 => exact HC0.out); rintro e w4 ⟨rfl, hb⟩; refine ⟨_, rfl, ?_⟩; have n0_ := Aside0.mk (below_step HB.out hb); have n1_ := Aside0.mk (blk_below BKi.out hb); clear HB BKi hb; have HB := n0_; have BKi := n1_; clear n0_ n1_) | (go_at_call 41; (with_reducible refine (span_May.calls _ _ _ l1 false _ ?side1 ?side2 H2.out).mono ?_); (case side1 => exact (Kd.C_below HR1.out HB.out)); (case side2 => exact HC1.out); rintro e w5 ⟨rfl, hb⟩; have n0_ := Aside0.mk (below_step HB.out hb); have n1_ := Aside0.mk (blk_below BKi.out hb); clear HB BKi hb; have HB := n0_; have BKi := n1_; clear n0_ n1_))
     exact ⟨_, results_list (rs := [.tmp 6, .tmp 7]) rfl (by simp) (.tmp (.tmp .nil)), _, rfl, Kd.R_nil _ _ _ _ _, HB.out⟩
   | true =>
     rw [if_pos rfl] at H
     obtain ⟨xs, A3_, H⟩ := Option.bind_eq_some_iff.mp H
     obtain ⟨o, A4_, H⟩ := Option.bind_eq_some_iff.mp H
     simp only [Option.some.injEq, Prod.mk.injEq] at H
     obtain ⟨rfl, rfl⟩ := H
     have H1 := Aside0.mk A1_
     have H2 := Aside0.mk A2_
     have H3 := Aside0.mk A3_
     have H4 := Aside0.mk A4_
     clear A1_ A2_ A3_ A4_
     go_wp2_with (first | ((with_reducible refine gate_dst (N := 5) rfl ?_); refine box_event ?hg (N := 5) ?hd (cs := #[.func (.func 90) #[] #[]]) (t := 99) ?hr ?_; (case hd => rfl); (case hg => rfl); (case hr => (go_simp; done)); intro gi hg w3 hbox hb; have n0_ := Aside0.mk (below_step HB.out hb); have n1_ := Aside0.mk hbox; have n2_ := Aside0.mk ((by rw [hg]; exact Nat.le_refl _) : w.heap.size ≤ gi); clear HB; have HB := n0_; have BKi := n1_; have GEi := n2_; clear n0_ n1_ n2_ hb hbox hg) | ((with_reducible refine gate_callee (f := 41) rfl ?_); refine gL 11 Tryz.func41 #[.slice A0 l0.length c0] ?_; (with_reducible refine (span_May.calls _ _ _ l0 true _ ?side1 ?side2 H1.out).mono ?_); (case side1 => exact (Kd.C_below HR0.out HB.out)); (case side2 => exact HC0.out); rintro e w4 ⟨rfl, hb⟩; refine ⟨_, rfl, ?_⟩; have n0_ := Aside0.mk (below_step HB.out hb); have n1_ := Aside0.mk (blk_below BKi.out hb); clear HB BKi hb; have HB := n0_; have BKi := n1_; clear n0_ n1_) | (go_at_call 41; (with_reducible refine (span_May.calls _ _ _ l1 true _ ?side1 ?side2 H2.out).mono ?_); (case side1 => exact (Kd.C_below HR1.out HB.out)); (case side2 => exact HC1.out); rintro e w5 ⟨rfl, hb⟩; have n0_ := Aside0.mk (below_step HB.out hb); have n1_ := Aside0.mk (blk_below BKi.out hb); clear HB BKi hb; have HB := n0_; have BKi := n1_; clear n0_ n1_) | ((with_reducible refine gate_dst (N := 8) rfl ?_); refine box_event ?hg (N := 8) ?hd (cs := #[.slice none 0 0]) (t := 22) ?hr ?_; (case hd => rfl); (case hg => rfl); (case hr => (go_simp; done)); intro go_ hg w6 hbox hb; have n0_ := Aside0.mk (below_step HB.out hb); have n1_ := Aside0.mk (blk_below BKi.out hb); have n2_ := Aside0.mk hbox; have n3_ := Aside0.mk ((by rw [hg]; exact below_size HB.out) : w.heap.size ≤ go_); have n4_ := Aside0.mk ((by rw [hg]; exact Nat.ne_of_lt (blk_lt BKi.out)) : gi ≠ go_); clear HB BKi; have HB := n0_; have BKi := n1_; have BKo := n2_; have GEo := n3_; have NBio := n4_; clear n0_ n1_ n2_ n3_ n4_ hb hbox hg) | ((with_reducible refine gate_dst (N := 2) rfl ?_); refine box_event ?hg (N := 2) ?hd (cs := #[.slice A0 l0.length c0]) (t := 22) ?hr ?_; (case hd => rfl); (case hg => rfl); (case hr => (go_simp; done)); intro ga hg w7 hbox hb; have n0_ := Aside0.mk (below_step HB.out hb); have n1_ := Aside0.mk (blk_below BKi.out hb); have n2_ := Aside0.mk (blk_below BKo.out hb); have n3_ := Aside0.mk hbox; have n4_ := Aside0.mk ((by rw [hg]; exact below_size HB.out) : w.heap.size ≤ ga); have n5_ := Aside0.mk ((by rw [hg]; exact Nat.ne_of_lt (blk_lt BKi.out)) : gi ≠ ga); have n6_ := Aside0.mk ((by rw [hg]; exact Nat.ne_of_lt (blk_lt BKo.out)) : go_ ≠ ga); clear HB BKi BKo; have HB := n0_; have BKi := n1_; have BKo := n2_; have BKa := n3_; have GEa := n4_; have NBia := n5_; have NBoa := n6_; clear n0_ n1_ n2_ n3_ n4_ n5_ n6_ hb hbox hg) | ((with_reducible refine gate_dst (N := 3) rfl ?_); refine box_event ?hg (N := 3) ?hd (cs := #[.slice A1 l1.length c1]) (t := 22) ?hr ?_; (case hd => rfl); (case hg => rfl); (case hr => (go_simp; done)); intro gb hg w8 hbox hb; have n0_ := Aside0.mk (below_step HB.out hb); have n1_ := Aside0.mk (blk_below BKi.out hb); have n2_ := Aside0.mk (blk_below BKo.out hb); have n3_ := Aside0.mk (blk_below BKa.out hb); have n4_ := Aside0.mk hbox; have n5_ := Aside0.mk ((by rw [hg]; exact below_size HB.out) : w.heap.size ≤ gb); have n6_ := Aside0.mk ((by rw [hg]; exact Nat.ne_of_lt (blk_lt BKi.out)) : gi ≠ gb); have n7_ := Aside0.mk ((by rw [hg]; exact Nat.ne_of_lt (blk_lt BKo.out)) : go_ ≠ gb); have n8_ := Aside0.mk ((by rw [hg]; exact Nat.ne_of_lt (blk_lt BKa.out)) : ga ≠ gb); clear HB BKi BKo BKa; have HB := n0_; have BKi := n1_; have BKo := n2_; have BKa := n3_; have BKb := n4_; have GEb := n5_; have NBib := n6_; have NBob := n7_; have NBab := n8_; clear n0_ n1_ n2_ n3_ n4_ n5_ n6_ n7_ n8_ hb hbox hg) | go_in)
     have HC0' := HC0
     have HC1' := HC1
     refine (wpIn_wide (n := 4)).1 ?_
     refine XR.wp_range (α := S98) (w0 := w) (by decide) (gf := 127) (lb := #[.pointer (some ⟨ga, 0, none⟩), .pointer (some ⟨gb, 0, none⟩)]) rfl (enters_of Tryz.func127 (by kernel_rfl) rfl)
       (span_parts_1.iter k A0 c0 l0 A1 c1 l1 xs w w8 ga gb HR0.out HC0'.out HR1.out HC1'.out HB.out BKa.out BKb.out GEa.out GEb.out NBab.out H3.out)
       (by rintro k_ (rfl | rfl); exact blk_lt BKa.out; exact blk_lt BKb.out) (fun _ => rfl)
       (fun G_ pre X => ∃ (o1 : List S64) (v : Value), span_both_fn90.go pre [] = some o1 ∧ X.heap[go_]? = some (.cells #[v] 22 (0, 0)) ∧ Kd.R k64 64 X w.heap.size (fun k_ => w.heap.size ≤ k_ ∧ (k_ ≠ gi ∧ k_ ≠ go_ ∧ k_ ≠ ga ∧ k_ ≠ gb ∧ k_ ≠ w8.heap.size ∧ k_ ≠ w8.heap.size + 1 ∧ ¬ G_ k_)) v o1 ∧ X.heap[gi]? = some (.cells #[.func (.func 90) #[] #[]] 99 (0, 0)) ∧ Below w.heap.size w X)
       (fun _ _ _ => False)
       ?hI ?hIG (fun _ _ _ _ h _ => h) ?hIB ?hIp (fun _ _ _ _ _ h _ _ _ => h) ?h0
       (fun Y x a' Z => a' = { tmps := #[.slice A0 l0.length c0, .slice A1 l1.length c1, .func (.func 90) #[] #[], undef, undef, .pointer (some ⟨gi, 0, none⟩), .slice none 0 0, .int .i64 0, .pointer (some ⟨go_, 0, none⟩), .pointer (some ⟨Y.heap.size, 0, none⟩), .slice A0 l0.length c0, .bool true, .bool false, .bool false, .slice A1 l1.length c1, .bool true, .bool false, .bool false, .slice A0 l0.length c0, .slice A1 l1.length c1, .func (.func 127) #[] #[.pointer (some ⟨ga, 0, none⟩), .pointer (some ⟨gb, 0, none⟩)], .agg #[.int .i64 x.f0.f0, .int .i64 x.f0.f1, .bool x.f1, .bool x.f2], undef, undef, undef, undef, undef, undef, undef, undef], defers := [] } ∧ Z.heap[Y.heap.size]? = some (.cells #[.int .i64 x.f0.f0, .int .i64 x.f0.f1, .bool x.f1, .bool x.f2] 98 (0, 0)))
       ?hAx ?assign ?body ?done ?stop
     case hI =>
       rintro G_ pre X Y ⟨o1, v, hg, ho, hr, hi, hb⟩ hXY
       exact ⟨o1, v, hg, blk_below ho hXY, Kd.R_below hr hXY, blk_below hi hXY, below_step hb hXY⟩
     case hIG =>
       rintro G_ G2_ pre X ⟨o1, v, hg, ho, hr, hi, hb⟩ hG
       refine ⟨o1, v, hg, ho, Kd.R_mono (Kd.R_tight rfl hr) (fun k_ hk => ?_), hi, hb⟩
       have hq := hr.1 k_ hk.symm
       have hlt := Kd.R_lt hr k_ hk.symm
       exact ⟨hq.1, hq.2.1, hq.2.2.1, hq.2.2.2.1, hq.2.2.2.2.1, hq.2.2.2.2.2.1, hq.2.2.2.2.2.2.1, fun h2 => (hG k_ h2).elim hq.2.2.2.2.2.2.2 (fun z => by omega)⟩
     case hIB =>
       rintro G_ pre X ⟨o1, v, hg, ho, hr, hi, hb⟩
       exact hb
     case hIp =>
       rintro G_ pre X l o2 ⟨o1, v, hg, ho, hr, hi, hb⟩ hl hl2 hlt
       have hio : l ≠ gi := by have := blk_lt BKi.out; omega
       have hoo : l ≠ go_ := by have := blk_lt BKo.out; omega
       refine ⟨o1, v, hg, (World.putObj_heap_other (Ne.symm hoo)).trans ho, ?_, (World.putObj_heap_other (Ne.symm hio)).trans hi, XR.below_putObj hb (by have := HB.out.size; omega) hlt o2⟩
       exact Kd.R_step hr (fun k_ hk _ => World.putObj_heap_other (by have h5 := hk.2.2.2.2.2.1; have h6 := hk.2.2.2.2.2.2.1; omega))
     case h0 => exact ⟨[], _, rfl, BKo.out, Kd.R_nil _ _ _ _ _, BKi.out, HB.out⟩
     case hAx =>
       rintro Y x a' Z l o2 ⟨rfl, hz⟩ hl hl2 hlt
       exact ⟨rfl, (World.putObj_heap_other (by omega)).trans hz⟩
     case assign =>
       intro G_ pre x Y hI hsz
       gi_wp2
       exact ⟨(Below.refl _ Y).alloc (Nat.le_refl _) _, trivial, World.alloc_heap_new Y _⟩
     case body =>
       rintro G_ pre x rest Y Z a' hx hGY ⟨o1, v, hg, ho, hr, hi, hb⟩ hsX hYZ ⟨rfl, hz⟩
       have hsY : Y.heap.size < Z.heap.size := blk_lt hz
       have hlgo : go_ < w8.heap.size := blk_lt BKo.out
       have hsn := span_both_fn90.go_snoc pre x []
       rw [hg] at hsn
       simp only [Option.bind_some] at hsn
       obtain ⟨o2, ho2⟩ := span_both_fn90.go_pre (pre ++ [x]) rest [] _ (by have h4 := H4.out; rw [hx] at h4; simpa using h4)
       rw [ho2] at hsn
       obtain ⟨t, ht, hs⟩ := Option.bind_eq_some_iff.mp hsn.symm
       have c1 : Z.cell? ⟨gi, 0, none⟩ = some (.func (.func 90) #[] #[]) := (blk_cell hi 0).trans rfl
       have c2 : Z.cell? ⟨Y.heap.size, 0, none⟩ = some (.int .i64 x.f0.f0) := (blk_cell hz 0).trans rfl
       have c3 : Z.cell? ⟨Y.heap.size, 1, none⟩ = some (.int .i64 x.f0.f1) := (blk_cell hz 1).trans rfl
       have c4 : Z.cell? ⟨Y.heap.size, 2, none⟩ = some (.bool x.f1) := (blk_cell hz 2).trans rfl
       have c5 : Z.cell? ⟨Y.heap.size, 3, none⟩ = some (.bool x.f2) := (blk_cell hz 3).trans rfl
       cases t with
       | false =>
         simp only [Bool.false_eq_true, if_false, Option.some.injEq] at hs
         subst hs
         gi_wp2_with (refine ⟨trivial, ?_⟩; gi_at_call 90; refine (CallsIn.inRound (w8.heap.size + 1) (callsIn_wide.2 (span_Or_1.calls _ _ _ _ false Z ht))).mono ?_; rintro e w9 ⟨rfl, hb9⟩)
         exact ⟨⟨_, v, ho2, blk_below ho hb9, Kd.R_below hr hb9, blk_below hi hb9, below_step hb hb9⟩, hb9.size, fun k_ hk _ => hb9.block k_ hk⟩
       | true =>
         simp only [if_true] at hs
         gi_wp2_with (first | (refine ⟨trivial, ?_⟩; gi_at_call 90; refine (CallsIn.inRound (w8.heap.size + 1) (callsIn_wide.2 (span_Or_1.calls _ _ _ _ true Z ht))).mono ?_; rintro e w9 ⟨rfl, hb9⟩; have d2 : w9.cell? ⟨Y.heap.size, 0, none⟩ = some (.int .i64 x.f0.f0) := (blk_cell (blk_below hz hb9) 0).trans rfl; have d3 : w9.cell? ⟨Y.heap.size, 1, none⟩ = some (.int .i64 x.f0.f1) := (blk_cell (blk_below hz hb9) 1).trans rfl; have d6 : w9.cell? ⟨go_, 0, none⟩ = some v := (blk_cell (blk_below ho hb9) 0).trans rfl) | (refine ⟨trivial, ?_⟩; gi_at_call 79; refine (CallsIn.inRound (w8.heap.size + 1) (callsIn_wide.2 (span_adds.calls (fun k_ => some k_ = v.ownBlock) v o1 x.f0.f0 x.f0.f1 o2 w w9 (below_step hb hb9) (Kd.R_tight rfl (Kd.R_below hr hb9)) hs))).mono ?_; rintro e w10 ⟨v0, rfl, hr10, hb10, hk10⟩; have hne : ∀ k_, some k_ = v.ownBlock → k_ ≠ gi ∧ k_ ≠ go_ ∧ k_ ≠ ga ∧ k_ ≠ gb ∧ k_ ≠ w8.heap.size ∧ k_ ≠ w8.heap.size + 1 ∧ ¬ G_ k_ := fun k_ e_ => (hr.1 k_ e_.symm).2; have hlt9 : Z.heap.size ≤ w9.heap.size := hb9.size; have ho10 := (hk10.2 go_ (blk_lt (blk_below ho hb9)) (fun e_ => (hne _ e_).2.1 rfl)).trans (blk_below ho hb9); have hi10 := (hk10.2 gi (blk_lt (blk_below hi hb9)) (fun e_ => (hne _ e_).1 rfl)).trans (blk_below hi hb9); obtain ⟨Av, cv, rfl⟩ := Kd.R_slice hr10; have e6 : w10.cell? ⟨go_, 0, none⟩ = some v := (blk_cell ho10 0).trans rfl; have e7 := blk_frozen ho10 0))
         have hlgi : gi < w8.heap.size := blk_lt BKi.out
         have hlga : ga < w8.heap.size := blk_lt BKa.out
         have hlgb : gb < w8.heap.size := blk_lt BKb.out
         have hgb : Below w.heap.size w (w10.setCell ⟨go_, 0, none⟩ (.slice Av o2.length cv)) := hb10.setCell (p := ⟨go_, 0, none⟩) GEo.out _
         have hrow : Kd.R k64 64 (w10.setCell ⟨go_, 0, none⟩ (.slice Av o2.length cv)) w.heap.size (fun k_ => w.heap.size ≤ k_ ∧ (k_ ≠ gi ∧ k_ ≠ go_ ∧ k_ ≠ ga ∧ k_ ≠ gb ∧ k_ ≠ w8.heap.size ∧ k_ ≠ w8.heap.size + 1 ∧ ¬ G_ k_)) (.slice Av o2.length cv) o2 := by
           have hr11 : Kd.R k64 64 w10 w.heap.size (fun k_ => w.heap.size ≤ k_ ∧ (k_ ≠ gi ∧ k_ ≠ go_ ∧ k_ ≠ ga ∧ k_ ≠ gb ∧ k_ ≠ w8.heap.size ∧ k_ ≠ w8.heap.size + 1 ∧ ¬ G_ k_)) (.slice Av o2.length cv) o2 := by
             refine Kd.R_mono hr10 (fun k_ hk => ?_)
             rcases hk with hk | hk
             ·exact hr.1 k_ hk.symm
             ·have := HB.out.size; have := below_size hb; refine ⟨by omega, by omega, by omega, by omega, by omega, by omega, by omega, fun h2 => by have := hGY k_ h2; omega⟩
           exact Kd.R_step hr11 (fun k_ hk _ => Below.heap_setCell _ _ _ k_ (by exact hk.2.2.1))
         refine ⟨⟨o2, _, ho2, blk_put ho10 0 _ rfl, hrow, blk_far hi10 (by exact NBio.out) _, hgb⟩, ?_, ?_⟩
         ·have := hk10.1; simp; omega
         ·intro k_ hk hkeep
          have hkgo : k_ ≠ go_ := by
            rcases hkeep with (rfl | rfl) | hh | hh | hh
            ·exact Ne.symm NBoa.out
            ·exact Ne.symm NBob.out
            ·have := hGY k_ hh; omega
            ·omega
            ·omega
          have hkv : ¬ some k_ = v.ownBlock := by
            intro e_
            have hq := hne _ e_
            rcases hkeep with (rfl | rfl) | hh | hh | hh
            ·exact hq.2.2.1 rfl
            ·exact hq.2.2.2.1 rfl
            ·exact hq.2.2.2.2.2.2 hh
            ·exact hq.2.2.2.2.1 hh
            ·exact hq.2.2.2.2.2.1 hh
          rw [Below.heap_setCell _ _ _ k_ hkgo, hk10.2 k_ (by omega) hkv, hb9.block k_ hk]
     case done =>
       rintro G_ W ⟨o1, v, hg, ho, hr, hi, hb⟩ hK
       obtain rfl : o1 = o := by have h4 := H4.out; rw [hg] at h4; exact Option.some.inj h4
       have cv1 : W.cell? ⟨go_, 0, none⟩ = some v := (blk_cell ho 0).trans rfl
       go_wp2
       refine ⟨by simp, .inl ⟨_, _, rfl, run_takeDeferred hK, ?_⟩⟩
       exact ⟨_, results_list (rs := [.tmp 6, .tmp 7]) rfl (by simp) (.tmp (.tmp .nil)), v, rfl, Kd.R_mono (Kd.R_step hr (fun k_ hk _ => World.putObj_heap_other (by have h5 := hk.2.2.2.2.2.1; have h6 := hk.2.2.2.2.2.2.1; omega))) (fun _ _ => trivial), XR.below_putObj hb (by have := HB.out.size; omega) (Array.getElem?_eq_some_iff.1 hK).1 _⟩
     case stop =>
       rintro c pre W _ h _
       exact h.elim
end

/-! ### span_Or: function 60 -/
def span_Or.f (k : Nat) (l0 : List (S64)) (l1 : List (S64)) : Option ((List (S64)) × Int) := (span_both_fn90.f k l0 l1).bind fun bt749 => (some (bt749.1, bt749.2))
set_option maxHeartbeats 8000000 in
set_option maxRecDepth 100000 in
theorem span_Or.calls (k : Nat) (A0 : Option Addr) (c0 : Nat) (l0 : List (S64)) (A1 : Option Addr) (c1 : Nat) (l1 : List (S64)) (r1 : List (S64)) (r2 : Int) (w : World) (hr0 : Kd.C k64 w A0 l0.length l0) (hc0 : l0.length ≤ c0) (hr1 : Kd.C k64 w A1 l1.length l1) (hc1 : l1.length ≤ c1) (h : span_Or.f k l0 l1 = some (r1, r2)) :
  Calls Tryz.prog 60 #[.slice A0 l0.length c0, .slice A1 l1.length c1] w fun e w' => ∃ v0_ : Value, e = .returned (.tuple #[v0_, .int .i64 r2]) ∧ Kd.R k64 64 w' w.heap.size (fun _ => True) v0_ r1 ∧ Below w.heap.size w w' := by
 have HR0 := Aside0.mk hr0
 have HC0 := Aside0.mk hc0
 clear hr0 hc0
 have HR1 := Aside0.mk hr1
 have HC1 := Aside0.mk hc1
 clear hr1 hc1
 have HB := Aside0.mk (Below.refl w.heap.size w)
 have H := h
 clear h
 unfold span_Or.f at H
 replace H := bd H
 obtain ⟨⟨t749, t752⟩, A3, H⟩ := H
 dsimp only at H
 simp only [Option.some.injEq, Prod.mk.injEq] at H
 obtain ⟨rfl, rfl⟩ := H
 go_enter Tryz.func60, Tryz.ntmps60
 go_wp2_with (((with_reducible refine gate_callee (f := 87) rfl ?_); refine gL 8 Tryz.func87 #[.slice A0 l0.length c0, .slice A1 l1.length c1, .func (.func 90) #[] #[]] ?_; (with_reducible refine (span_both_fn90.calls k _ _ l0 _ _ l1  t749 t752 _ ?side1 ?side2 ?side3 ?side4 A3.out).mono ?_); (case side1 => exact cx HR0.out); (case side2 => exact HC0.out); (case side3 => exact cx HR1.out); (case side4 => exact HC1.out); rintro e w4 ⟨v750, rfl, ho0, hb⟩; refine ⟨_, rfl, ?_⟩; have HO751 := Aside0.mk (Kd.R_lower ho0 (below_size (bh HB.out))); replace HB := bsa HB hb; clear hb ho0))
 go_ret2
 exact ⟨_, er, by exact HO751.out, bh HB.out⟩

end Go.Proofs.YtjgmdjieandemaaGreat.Print
end
section
namespace Go.Proofs.YtjgmdjieandemaaGreat.Print
open Go.RowKit Go.Proofs.YtjgmdjieandemaaGreatW.PrintWords Go.Proofs.YtjgmdjieandemaaGreatW.PrintLast Go.Proofs.YtjgmdjieandemaaGreatW.PrintMore
attribute [local go_sem] max2_int min2_int max_two min_two max_three min_three max_four min_four   -- for this text's walks alone
set_option linter.unusedVariables false
set_option linter.unusedSimpArgs false

/-! ### poslist_List_together_fn59_fn60: function 55 -/
def poslist_List_together_fn59_fn60.j0 : Nat → Bool → Int → List (S64) → List Int → List Int → Int → List (S64) → List Int → List Int → Option (Int × (List (S64)) × List Int × List Int)
 | 0, _, _, _, _, _, _, _, _, _ => none
 | k + 1, x22, x754000, x754001, x754002, x754003, x755000, x755001, x755002, x755003 => if x22 = true then ((poslist_List_bits.f k x754000 x754001 x754002 x754003).bind fun t756 => ((poslist_List_bits.f k x755000 x755001 x755002 x755003).bind fun t759 => ((words_Or.f k t756 t759).bind fun bt762 => ((words_Spans.f k bt762.1).bind fun bt766 => ((poslist_best.f k bt766.1).bind fun bt770 => (some (bt770.1, bt770.2.1, bt770.2.2.1, bt770.2.2.2))))))) else ((poslist_List_Spans.f k x754000 x754001 x754002 x754003).bind fun t780 => ((poslist_List_Spans.f k x755000 x755001 x755002 x755003).bind fun t783 => ((span_Or.f k t780 t783).bind fun bt786 => ((poslist_best.f k bt786.1).bind fun bt790 => (some (bt790.1, bt790.2.1, bt790.2.2.1, bt790.2.2.2))))))
def poslist_List_together_fn59_fn60.f (k : Nat) (a0_0 : Int) (l0_1 : List (S64)) (l0_2 : List Int) (l0_3 : List Int) (a1_0 : Int) (l1_1 : List (S64)) (l1_2 : List Int) (l1_3 : List Int)   : Option (Int × (List (S64)) × List Int × List Int) := if a0_0 = 2 then (poslist_List_together_fn59_fn60.j0 k true a0_0 l0_1 l0_2 l0_3 a1_0 l1_1 l1_2 l1_3) else (poslist_List_together_fn59_fn60.j0 k (a1_0 == 2) a0_0 l0_1 l0_2 l0_3 a1_0 l1_1 l1_2 l1_3)
theorem poslist_List_together_fn59_fn60.j0_succ (k) (a0) (a1) (a2) (a3) (a4) (a5) (a6) (a7) (a8) : type_of% (@poslist_List_together_fn59_fn60.j0.eq_2 a0 a1 a2 a3 a4 a5 a6 a7 a8 k) := poslist_List_together_fn59_fn60.j0.eq_2 a0 a1 a2 a3 a4 a5 a6 a7 a8 k
def poslist_List_together_fn59_fn60.T2 : Bool × List (List Nat × List Nat) := (true, [([], []), ([], []), ([1], [1]), ([], []), ([3, 2], [3]), ([0, 2, 4, 4], [0, 2, 4]), ([5], [5]), ([6], [6]), ([6], [6]), ([7, 5, 0, 1, 2, 3, 4, 5, 6, 7], [7]), ([8, 9, 0, 1, 2, 3, 4, 5, 6, 7, 8, 9], [8])])
def poslist_List_together_fn59_fn60.B2 : List Nat := [0, 0, 2, 0, 14, 31, 63, 127, 127, 255, 1023]
theorem poslist_List_together_fn59_fn60.tab2 : rtab .any (opsOf Tryz.f55 2) = poslist_List_together_fn59_fn60.T2 := by kernel_rfl
theorem poslist_List_together_fn59_fn60.bits2 : waitsOk poslist_List_together_fn59_fn60.T2.2 poslist_List_together_fn59_fn60.B2 = true := by kernel_rfl
def poslist_List_together_fn59_fn60.T5 : Bool × List (List Nat × List Nat) := (true, [([], []), ([], []), ([1], [1]), ([], []), ([3, 2], [3]), ([0, 2, 4, 4], [0, 2, 4]), ([5], [5]), ([6], [6]), ([6], [6]), ([7, 5, 0, 1, 2, 3, 4, 5, 6, 7], [7]), ([8, 9, 0, 1, 2, 3, 4, 5, 6, 7, 8, 9], [8])])
def poslist_List_together_fn59_fn60.B5 : List Nat := [0, 0, 2, 0, 14, 31, 63, 127, 127, 255, 1023]
theorem poslist_List_together_fn59_fn60.tab5 : rtab .any (opsOf Tryz.f55 5) = poslist_List_together_fn59_fn60.T5 := by kernel_rfl
theorem poslist_List_together_fn59_fn60.bits5 : waitsOk poslist_List_together_fn59_fn60.T5.2 poslist_List_together_fn59_fn60.B5 = true := by kernel_rfl
set_option maxHeartbeats 8000000 in
set_option maxRecDepth 100000 in
theorem poslist_List_together_fn59_fn60.calls (k : Nat) (a0_0 : Int) (A0_1 : Option Addr) (c0_1 : Nat) (l0_1 : List (S64)) (A0_2 : Option Addr) (c0_2 : Nat) (l0_2 : List Int) (A0_3 : Option Addr) (c0_3 : Nat) (l0_3 : List Int) (a1_0 : Int) (A1_1 : Option Addr) (c1_1 : Nat) (l1_1 : List (S64)) (A1_2 : Option Addr) (c1_2 : Nat) (l1_2 : List Int) (A1_3 : Option Addr) (c1_3 : Nat) (l1_3 : List Int)   (r1 : Int) (r2 : List (S64)) (r3 : List Int) (r4 : List Int) (w : World) (hr0_1 : Kd.C k64 w A0_1 l0_1.length l0_1) (hc0_1 : l0_1.length ≤ c0_1) (hr0_2 : Kd.C (Kd.int .i64) w A0_2 l0_2.length l0_2) (hc0_2 : l0_2.length ≤ c0_2) (hr0_3 : Kd.C (Kd.int .i64) w A0_3 l0_3.length l0_3) (hc0_3 : l0_3.length ≤ c0_3) (hr1_1 : Kd.C k64 w A1_1 l1_1.length l1_1) (hc1_1 : l1_1.length ≤ c1_1) (hr1_2 : Kd.C (Kd.int .i64) w A1_2 l1_2.length l1_2) (hc1_2 : l1_2.length ≤ c1_2) (hr1_3 : Kd.C (Kd.int .i64) w A1_3 l1_3.length l1_3) (hc1_3 : l1_3.length ≤ c1_3) (h : poslist_List_together_fn59_fn60.f k a0_0 l0_1 l0_2 l0_3 a1_0 l1_1 l1_2 l1_3 = some (r1, r2, r3, r4)) :
  Calls Tryz.prog 55 #[.agg #[.int .i64 a0_0, .slice A0_1 l0_1.length c0_1, .slice A0_2 l0_2.length c0_2, .slice A0_3 l0_3.length c0_3], .agg #[.int .i64 a1_0, .slice A1_1 l1_1.length c1_1, .slice A1_2 l1_2.length c1_2, .slice A1_3 l1_3.length c1_3], .func (.func 59) #[] #[], .func (.func 60) #[] #[]] w fun e w' => ∃ v1_ v2_ v3_ : Value, e = .returned (.agg #[.int .i64 r1, v1_, v2_, v3_]) ∧ Kd.R k64 64 w' w.heap.size (fun _ => True) v1_ r2 ∧ Kd.R (Kd.int .i64) 3 w' w.heap.size (fun k_ => some k_ ≠ (v3_ : Value).ownBlock) v2_ r3 ∧ Kd.R (Kd.int .i64) 3 w' w.heap.size (fun k_ => some k_ ≠ (v2_ : Value).ownBlock) v3_ r4 ∧ Below w.heap.size w w' := by
 have hu27 := Tryz.underlying27
 have HR0_1 := Aside0.mk hr0_1
 have HC0_1 := Aside0.mk hc0_1
 clear hr0_1 hc0_1
 have HR0_2 := Aside0.mk hr0_2
 have HC0_2 := Aside0.mk hc0_2
 clear hr0_2 hc0_2
 have HR0_3 := Aside0.mk hr0_3
 have HC0_3 := Aside0.mk hc0_3
 clear hr0_3 hc0_3
 have HR1_1 := Aside0.mk hr1_1
 have HC1_1 := Aside0.mk hc1_1
 clear hr1_1 hc1_1
 have HR1_2 := Aside0.mk hr1_2
 have HC1_2 := Aside0.mk hc1_2
 clear hr1_2 hc1_2
 have HR1_3 := Aside0.mk hr1_3
 have HC1_3 := Aside0.mk hc1_3
 clear hr1_3 hc1_3
 have HB := Aside0.mk (Below.refl w.heap.size w)
 have H := h
 clear h
 unfold poslist_List_together_fn59_fn60.f at H
 have HC5 := Aside0.mk H
 clear H
 go_enter Tryz.func55, Tryz.ntmps55
 go_upto_region 1 with (first | ((with_reducible refine gate_dst (N := 4) rfl ?_); refine boxE HB 4 27 #[.int .i64 a0_0, .slice A0_1 l0_1.length c0_1, .slice A0_2 l0_2.length c0_2, .slice A0_3 l0_3.length c0_3] ?_; clear HB; intro gb753 w6 BK753 GW753 hg hb HB; have GE753 := GW753; clear hb hg) | ((with_reducible refine gate_dst (N := 5) rfl ?_); refine boxE HB 5 27 #[.int .i64 a1_0, .slice A1_1 l1_1.length c1_1, .slice A1_2 l1_2.length c1_2, .slice A1_3 l1_3.length c1_3] ?_; clear HB; intro gb754 w7 BK754 GW754 hg hb HB; have GE754 := GW754; have NB753_754 := bna BK753 hg; have NB754_753 := bma BK753 hg; replace BK753 := bba BK753 hb; clear hb hg) | ((with_reducible refine gate_dst (N := 8) rfl ?_); refine boxE HB 8 27 #[.int .i64 0, .slice none 0 0, .slice none 0 0, .slice none 0 0] ?_; clear HB; intro gb755 w8 BK755 GW755 hg hb HB; have GE755 := GW755; have NB753_755 := bna BK753 hg; have NB755_753 := bma BK753 hg; replace BK753 := bba BK753 hb; have NB754_755 := bna BK754 hg; have NB755_754 := bma BK754 hg; replace BK754 := bba BK754 hb; clear hb hg))
 (simp only [Act.put, List.setIfInBounds_toArray, List.set_cons_zero, List.set_cons_succ])
 go_cut [22] (fun v22 wc => ∃ (kq : Nat) (x22_4 : Bool), v22 = .bool x22_4 ∧ Aside0 (poslist_List_together_fn59_fn60.j0 kq x22_4 a0_0 l0_1 l0_2 l0_3 a1_0 l1_1 l1_2 l1_3 = some (r1, r2, r3, r4)) ∧ Aside0 (kq ≤ k) ∧ Aside0 (wc.heap[gb753]? = some (.cells #[.int .i64 a0_0, (.slice A0_1 l0_1.length c0_1), (.slice A0_2 l0_2.length c0_2), (.slice A0_3 l0_3.length c0_3)] 27 (0, 0))) ∧ Aside0 (wc.heap[gb754]? = some (.cells #[.int .i64 a1_0, (.slice A1_1 l1_1.length c1_1), (.slice A1_2 l1_2.length c1_2), (.slice A1_3 l1_3.length c1_3)] 27 (0, 0))) ∧ Aside0 (wc.heap[gb755]? = some (.cells #[.int .i64 0, (.slice none 0 0), (.slice none 0 0), (.slice none 0 0)] 27 (0, 0))) ∧ Aside0 (Below w.heap.size w wc))
 case first =>
  have H := HC5.out
  clear HC5
  replace H := ife H
  rcases H with ⟨-, c9b0, c9b1, H⟩ | ⟨c9, c9b0, c9b1, H⟩
  ·(skip)
   have H' := Aside0.mk H
   clear H
   have hnb10 := NB753_754.out
   have hnc10 := NB754_753.out
   have hnb11 := NB753_755.out
   have hnc11 := NB755_753.out
   obtain ⟨hcz12_0, hcz12_1, hcz12_2, hcz12_3, hfz12_0, hfz12_1, hfz12_2, hfz12_3⟩ := b4 BK753
   go_wp2
   go_meet
   case rel => exact ⟨_, (true), (by rfl), H', ⟨by omega⟩, ⟨bx BK753.out⟩, ⟨bx BK754.out⟩, ⟨bx BK755.out⟩, ⟨bh HB.out⟩⟩
  ·(skip)
   have H' := Aside0.mk H
   clear H
   have hnb13 := NB753_754.out
   have hnc13 := NB754_753.out
   have hnb14 := NB753_755.out
   have hnc14 := NB755_753.out
   obtain ⟨hcz15_0, hcz15_1, hcz15_2, hcz15_3, hfz15_0, hfz15_1, hfz15_2, hfz15_3⟩ := b4 BK753
   have hnb16 := NB754_755.out
   have hnc16 := NB755_754.out
   obtain ⟨hcz17_0, hcz17_1, hcz17_2, hcz17_3, hfz17_0, hfz17_1, hfz17_2, hfz17_3⟩ := b4 BK754
   go_wp2
   go_meet
   case rel => exact ⟨_, ((a1_0 == 2)), (by rfl), H', ⟨by omega⟩, ⟨bx BK753.out⟩, ⟨bx BK754.out⟩, ⟨bx BK755.out⟩, ⟨bh HB.out⟩⟩
 case rest =>
  clear HC5
  obtain ⟨kq, x22_4, rfl, HA, HJ4, BK753, BK754, BK755, HB⟩ := hcut
  cases kq with
  | zero => exact absurd HA.out (by simp [poslist_List_together_fn59_fn60.j0])
  | succ kj4 =>
   have H := HA.out
   clear HA
   simp only [poslist_List_together_fn59_fn60.j0] at H
   replace H := ifb H
   rcases H with ⟨rfl, H⟩ | ⟨rfl, H⟩
   ·replace H := bd H
    obtain ⟨t756, A19, H⟩ := H
    replace H := bd H
    obtain ⟨t759, A20, H⟩ := H
    replace H := bd H
    obtain ⟨⟨t762, t765⟩, A21, H⟩ := H
    dsimp only at H
    replace H := bd H
    obtain ⟨⟨t766, t767⟩, A22, H⟩ := H
    dsimp only at H
    replace H := bd H
    obtain ⟨⟨t770, t771, t774, t777⟩, A23, H⟩ := H
    dsimp only at H
    simp only [Option.some.injEq, Prod.mk.injEq] at H
    obtain ⟨rfl, rfl, rfl, rfl⟩ := H
    go_wp2
    replace BK753 := Aside0.mk (blk_drew BK753.out)
    replace BK754 := Aside0.mk (blk_drew BK754.out)
    replace BK755 := Aside0.mk (blk_drew BK755.out)
    replace HB := Aside0.mk (below_drew1 HB.out)
    refine start_ (n := 11) (S := fun w' => w'.cell? ⟨gb753, 0, none⟩ = some (.int .i64 a0_0) ∧ w'.cell? ⟨gb753, 1, none⟩ = some (.slice A0_1 l0_1.length c0_1) ∧ w'.cell? ⟨gb753, 2, none⟩ = some (.slice A0_2 l0_2.length c0_2) ∧ w'.cell? ⟨gb753, 3, none⟩ = some (.slice A0_3 l0_3.length c0_3) ∧ w'.cell? ⟨gb754, 0, none⟩ = some (.int .i64 a1_0) ∧ w'.cell? ⟨gb754, 1, none⟩ = some (.slice A1_1 l1_1.length c1_1) ∧ w'.cell? ⟨gb754, 2, none⟩ = some (.slice A1_2 l1_2.length c1_2) ∧ w'.cell? ⟨gb754, 3, none⟩ = some (.slice A1_3 l1_3.length c1_3)) (ds := []) #[false, false, false, false, false, false, false, false, false, false, false] (by kernel_rfl) rfl rfl ⟨(blk_cell BK753.out 0).trans rfl, (blk_cell BK753.out 1).trans rfl, (blk_cell BK753.out 2).trans rfl, (blk_cell BK753.out 3).trans rfl, (blk_cell BK754.out 0).trans rfl, (blk_cell BK754.out 1).trans rfl, (blk_cell BK754.out 2).trans rfl, (blk_cell BK754.out 3).trans rfl⟩ (fun hHeld => ?_); refine with_tabW poslist_List_together_fn59_fn60.tab2 poslist_List_together_fn59_fn60.bits2 (fun HT_ HW_ => ?_)
    generalize wc.drew = w24 at BK753 BK754 BK755 HB hHeld ⊢
    refine puA HT_ 0 24 (bv 11 1) ?_
    refine taA HT_ HW_ hHeld 1 25 (bv 11 3) ?_
    refine taA HT_ HW_ hHeld 3 27 (bv 11 11) ?_
    refine one_ (i := 2) (N := some 26) #[true, true, true, true, false, false, false, false, false, false, false] rfl rfl (one_of HT_.out (by kernel_rfl)) (by decide) (fun K hK => ?_)
    refine goes_ Tryz.func84 (by kernel_rfl) rfl #[.agg #[.int .i64 a0_0, .slice A0_1 l0_1.length c0_1, .slice A0_2 l0_2.length c0_2, .slice A0_3 l0_3.length c0_3]] (by rfl) rfl rfl (by (simp only [List.map_toArray, List.map_cons, List.map_nil]); rfl) ?_
    with_reducible refine (poslist_List_bits.calls kj4 a0_0 _ _ l0_1 (fun k_ => k_ < w.heap.size) _ _ l0_2 _ _ l0_3 t756 _ ?side1 ?side2 ?side3 ?side4 ?side5 A19.out).mono ?_
    (case side1 => exact cx (Kd.C_below HR0_1.out HB.out))
    (case side2 => exact HC0_1.out)
    (case side3 => exact Kd.V_mk HC0_2.out (Kd.F_below (Kd.C_F (Kd.heap_int .i64) HR0_2.out) (bh HB.out)))
    (case side4 => exact cx (Kd.C_below HR0_3.out HB.out))
    (case side5 => exact HC0_3.out)
    rintro e w25 ⟨v757, rfl, ho0, hb⟩
    refine ⟨_, rfl, ?_⟩
    have HO758 := Aside0.mk (Kd.V_lower (Kd.V_mono (ok' := fun k_ => k_ ≠ gb753 ∧ k_ ≠ gb754 ∧ k_ ≠ gb755) ho0 (fun k_ hk_ => ⟨Or.elim hk_ (fun hs_ => fun e_ => Nat.not_le.2 hs_ (by rw [e_]; exact GW753.out)) (fun hn_ => (Kd.freshB (g := gb753) (o := .cells #[.int .i64 a0_0, .slice A0_1 l0_1.length c0_1, .slice A0_2 l0_2.length c0_2, .slice A0_3 l0_3.length c0_3] 27 (0, 0)) (bx BK753.out) k_ hn_)), Or.elim hk_ (fun hs_ => fun e_ => Nat.not_le.2 hs_ (by rw [e_]; exact GW754.out)) (fun hn_ => (Kd.freshB (g := gb754) (o := .cells #[.int .i64 a1_0, .slice A1_1 l1_1.length c1_1, .slice A1_2 l1_2.length c1_2, .slice A1_3 l1_3.length c1_3] 27 (0, 0)) (bx BK754.out) k_ hn_)), Or.elim hk_ (fun hs_ => fun e_ => Nat.not_le.2 hs_ (by rw [e_]; exact GW755.out)) (fun hn_ => (Kd.freshB (g := gb755) (o := .cells #[.int .i64 0, .slice none 0 0, .slice none 0 0, .slice none 0 0] 27 (0, 0)) (bx BK755.out) k_ hn_))⟩)) (below_size (bh HB.out)))
    replace BK753 := bba BK753 hb
    replace BK754 := bba BK754 hb
    replace BK755 := bba BK755 hb
    replace HB := bsa HB hb
    clear hb ho0
    refine hK.out _ _ ⟨(blk_cell BK753.out 0).trans rfl, (blk_cell BK753.out 1).trans rfl, (blk_cell BK753.out 2).trans rfl, (blk_cell BK753.out 3).trans rfl, (blk_cell BK754.out 0).trans rfl, (blk_cell BK754.out 1).trans rfl, (blk_cell BK754.out 2).trans rfl, (blk_cell BK754.out 3).trans rfl⟩ (fun hHeld => ?_)
    clear hK K
    refine norm_ (a' := ?_) ?_ ?_
    rotate_left
    ·show Act.put _ (some 26) _ = _
     simp only [Act.put, List.setIfInBounds_toArray, List.set_cons_zero, List.set_cons_succ, i64_w, i32_w]
     rfl
    refine one_ (i := 4) (N := some 28) #[true, true, true, true, true, false, false, false, false, false, false] rfl rfl (one_of HT_.out (by kernel_rfl)) (by decide) (fun K hK => ?_)
    refine goes_ Tryz.func84 (by kernel_rfl) rfl #[.agg #[.int .i64 a1_0, .slice A1_1 l1_1.length c1_1, .slice A1_2 l1_2.length c1_2, .slice A1_3 l1_3.length c1_3]] (by rfl) rfl rfl (by (simp only [List.map_toArray, List.map_cons, List.map_nil]); rfl) ?_
    with_reducible refine (poslist_List_bits.calls kj4 a1_0 _ _ l1_1 (fun k_ => k_ < w.heap.size) _ _ l1_2 _ _ l1_3 t759 _ ?side1 ?side2 ?side3 ?side4 ?side5 A20.out).mono ?_
    (case side1 => exact cx (Kd.C_below HR1_1.out HB.out))
    (case side2 => exact HC1_1.out)
    (case side3 => exact Kd.V_mk HC1_2.out (Kd.F_below (Kd.C_F (Kd.heap_int .i64) HR1_2.out) (bh HB.out)))
    (case side4 => exact cx (Kd.C_below HR1_3.out HB.out))
    (case side5 => exact HC1_3.out)
    rintro e w26 ⟨v760, rfl, ho0, hb⟩
    refine ⟨_, rfl, ?_⟩
    replace HO758 := Aside0.mk (Kd.V_below (by exact HO758.out) hb)
    have HO761 := Aside0.mk (Kd.V_lower (Kd.V_mono (ok' := fun k_ => k_ ≠ gb753 ∧ k_ ≠ gb754 ∧ k_ ≠ gb755) ho0 (fun k_ hk_ => ⟨Or.elim hk_ (fun hs_ => fun e_ => Nat.not_le.2 hs_ (by rw [e_]; exact GW753.out)) (fun hn_ => (Kd.freshB (g := gb753) (o := .cells #[.int .i64 a0_0, .slice A0_1 l0_1.length c0_1, .slice A0_2 l0_2.length c0_2, .slice A0_3 l0_3.length c0_3] 27 (0, 0)) (bx BK753.out) k_ hn_)), Or.elim hk_ (fun hs_ => fun e_ => Nat.not_le.2 hs_ (by rw [e_]; exact GW754.out)) (fun hn_ => (Kd.freshB (g := gb754) (o := .cells #[.int .i64 a1_0, .slice A1_1 l1_1.length c1_1, .slice A1_2 l1_2.length c1_2, .slice A1_3 l1_3.length c1_3] 27 (0, 0)) (bx BK754.out) k_ hn_)), Or.elim hk_ (fun hs_ => fun e_ => Nat.not_le.2 hs_ (by rw [e_]; exact GW755.out)) (fun hn_ => (Kd.freshB (g := gb755) (o := .cells #[.int .i64 0, .slice none 0 0, .slice none 0 0, .slice none 0 0] 27 (0, 0)) (bx BK755.out) k_ hn_))⟩)) (below_size (bh HB.out)))
    replace BK753 := bba BK753 hb
    replace BK754 := bba BK754 hb
    replace BK755 := bba BK755 hb
    replace HB := bsa HB hb
    clear hb ho0
    obtain ⟨Ao27, co27, eo27⟩ := Kd.V_slice HO758.out
    (subst eo27)
    obtain ⟨Ao28, co28, eo28⟩ := Kd.V_slice HO761.out
    (subst eo28)
    refine hK.out _ _ ⟨(blk_cell BK753.out 0).trans rfl, (blk_cell BK753.out 1).trans rfl, (blk_cell BK753.out 2).trans rfl, (blk_cell BK753.out 3).trans rfl, (blk_cell BK754.out 0).trans rfl, (blk_cell BK754.out 1).trans rfl, (blk_cell BK754.out 2).trans rfl, (blk_cell BK754.out 3).trans rfl⟩ (fun hHeld => ?_)
    clear hK K
    refine norm_ (a' := ?_) ?_ ?_
    rotate_left
    ·show Act.put _ (some 28) _ = _
     simp only [Act.put, List.setIfInBounds_toArray, List.set_cons_zero, List.set_cons_succ, i64_w, i32_w]
     rfl
    refine one_ (i := 5) (N := some 29) #[true, true, true, true, true, true, false, false, false, false, false] rfl rfl (one_of HT_.out (by kernel_rfl)) (by decide) (fun K hK => ?_)
    (refine goesW_ Tryz.func59 (by kernel_rfl) rfl #[.slice Ao27 t756.length co27, .slice Ao28 t759.length co28] (by rfl) rfl rfl rfl (by (simp only [List.map_toArray, List.map_cons, List.map_nil]); rfl) ?_)
    with_reducible refine (words_Or.calls kj4 _ _ t756 _ _ t759 t762 t765 _ ?side1 ?side2 ?side3 ?side4 A21.out).mono ?_
    (case side1 => exact cx (Kd.V_reads' HO758.out).2.2)
    (case side2 => exact (Kd.V_reads' HO758.out).2.1)
    (case side3 => exact cx (Kd.V_reads' HO761.out).2.2)
    (case side4 => exact (Kd.V_reads' HO761.out).2.1)
    rintro e w29 ⟨v763, rfl, ho0, hb⟩
    refine ⟨_, rfl, ?_⟩
    replace HO758 := Aside0.mk (Kd.V_below (by exact HO758.out) hb)
    replace HO761 := Aside0.mk (Kd.V_below (by exact HO761.out) hb)
    have HO764 := Aside0.mk (Kd.V_lower (Kd.V_mono (ok' := fun k_ => k_ ≠ gb753 ∧ k_ ≠ gb754 ∧ k_ ≠ gb755) ho0 (fun k_ hk_ => ⟨(Kd.freshB (g := gb753) (o := .cells #[.int .i64 a0_0, .slice A0_1 l0_1.length c0_1, .slice A0_2 l0_2.length c0_2, .slice A0_3 l0_3.length c0_3] 27 (0, 0)) (bx BK753.out) k_ hk_), (Kd.freshB (g := gb754) (o := .cells #[.int .i64 a1_0, .slice A1_1 l1_1.length c1_1, .slice A1_2 l1_2.length c1_2, .slice A1_3 l1_3.length c1_3] 27 (0, 0)) (bx BK754.out) k_ hk_), (Kd.freshB (g := gb755) (o := .cells #[.int .i64 0, .slice none 0 0, .slice none 0 0, .slice none 0 0] 27 (0, 0)) (bx BK755.out) k_ hk_)⟩)) (below_size (bh HB.out)))
    replace BK753 := bba BK753 hb
    replace BK754 := bba BK754 hb
    replace BK755 := bba BK755 hb
    replace HB := bsa HB hb
    clear hb ho0
    refine hK.out _ _ ⟨(blk_cell BK753.out 0).trans rfl, (blk_cell BK753.out 1).trans rfl, (blk_cell BK753.out 2).trans rfl, (blk_cell BK753.out 3).trans rfl, (blk_cell BK754.out 0).trans rfl, (blk_cell BK754.out 1).trans rfl, (blk_cell BK754.out 2).trans rfl, (blk_cell BK754.out 3).trans rfl⟩ (fun hHeld => ?_)
    clear hK K
    refine norm_ (a' := ?_) ?_ ?_
    rotate_left
    ·show Act.put _ (some 29) _ = _
     simp only [Act.put, List.setIfInBounds_toArray, List.set_cons_zero, List.set_cons_succ, i64_w, i32_w]
     rfl
    refine puA HT_ 6 23 (bv 11 127) ?_
    refine puA HT_ 7 30 (bv 11 255) ?_
    refine puA HT_ 8 31 (bv 11 511) ?_
    refine puA HT_ 9 9 (bv 11 1023) ?_
    refine puA HT_ 10 10 (bv 11 2047) ?_
    refine done_ (done_of HT_.out (by kernel_rfl)) ?_
    obtain ⟨Ao30, co30, eo30⟩ := Kd.V_slice HO764.out
    subst eo30
    go_wp2_with (first | ((with_reducible refine gate_callee (f := 53) rfl ?_); refine gL 34 Tryz.func53 #[.slice Ao30 t762.length co30] ?_; (with_reducible refine (words_Spans.calls kj4 _ _ t762 t766 t767 _ ?side1 ?side2 A22.out).mono ?_); (case side1 => exact cx (Kd.V_reads' HO764.out).2.2); (case side2 => exact (Kd.V_reads' HO764.out).2.1); rintro e w31 ⟨v768, rfl, ho0, hb⟩; refine ⟨_, rfl, ?_⟩; replace HO758 := Aside0.mk (Kd.V_elder' (by exact HO758.out) (Kd.R_base ho0) hb); replace HO761 := Aside0.mk (Kd.V_elder' (by exact HO761.out) (Kd.R_base ho0) hb); replace HO764 := Aside0.mk (Kd.V_elder' (by exact HO764.out) (Kd.R_base ho0) hb); have HO769 := Aside0.mk (Kd.R_lower ho0 (below_size (bh HB.out))); replace BK753 := bba BK753 hb; replace BK754 := bba BK754 hb; replace BK755 := bba BK755 hb; replace HB := bsa HB hb; clear hb ho0; obtain ⟨Ao32, co32, eo32⟩ := Kd.R_slice HO769.out; subst eo32) | ((with_reducible refine gate_callee (f := 64) rfl ?_); refine gL 38 Tryz.func64 #[.slice Ao32 t766.length co32] ?_; (with_reducible refine (poslist_best.calls kj4 _ _ t766 t770 t771 t774 t777 _ ?side1 ?side2 A23.out).mono ?_); (case side1 => exact cx (Kd.R_reads' HO769.out).2.2); (case side2 => exact (Kd.R_reads' HO769.out).2.1); rintro e w33 ⟨v772, v775, v778, rfl, ho0, ho1, ho2, hb⟩; refine ⟨_, rfl, ?_⟩; replace HO758 := Aside0.mk (Kd.V_mono (Kd.V_told (Kd.V_told (Kd.V_told (Kd.V_old (by exact HO758.out) hb) (Kd.R_base ho0)) (Kd.R_base ho1)) (Kd.R_base ho2)) (fun _ h_ => h_.1)); replace HO761 := Aside0.mk (Kd.V_mono (Kd.V_told (Kd.V_told (Kd.V_told (Kd.V_old (by exact HO761.out) hb) (Kd.R_base ho0)) (Kd.R_base ho1)) (Kd.R_base ho2)) (fun _ h_ => h_.1)); replace HO764 := Aside0.mk (Kd.V_mono (Kd.V_told (Kd.V_told (Kd.V_told (Kd.V_old (by exact HO764.out) hb) (Kd.R_base ho0)) (Kd.R_base ho1)) (Kd.R_base ho2)) (fun _ h_ => h_.1)); have HO773 := Aside0.mk (Kd.R_lower (Kd.R_new' ho0 (Kd.R_lt (rx HO769.out))) (below_size (bh HB.out))); replace HO769 := Aside0.mk (Kd.R_elder' (rx HO769.out) (Kd.R_base ho0) hb); have HO776 := Aside0.mk (Kd.R_lower ho1 (below_size (bh HB.out))); have HO779 := Aside0.mk (Kd.R_lower ho2 (below_size (bh HB.out))); replace BK753 := bba BK753 hb; replace BK754 := bba BK754 hb; replace BK755 := bba BK755 hb; replace HB := bsa HB hb; clear hb ho0 ho1 ho2; have hnb34 := NB755_753.out; have hnc34 := NB753_755.out; have hnb35 := NB755_754.out; have hnc35 := NB754_755.out; obtain ⟨hcz36_0, hcz36_1, hcz36_2, hcz36_3, hfz36_0, hfz36_1, hfz36_2, hfz36_3⟩ := b4 BK755; obtain ⟨Ao37, co37, eo37⟩ := Kd.R_slice HO773.out; subst eo37; obtain ⟨Ao38, co38, eo38⟩ := Kd.R_slice HO776.out; subst eo38; obtain ⟨Ao39, co39, eo39⟩ := Kd.R_slice HO779.out; subst eo39) | ((with_reducible refine gate_store (t := 27) (p := 8) rfl ?_); refine stE 27 8 ((((w33.setCell ⟨gb755, 0, none⟩ (.int .i64 t770)).setCell ⟨gb755, 1, none⟩ (.slice Ao37 t771.length co37)).setCell ⟨gb755, 2, none⟩ (.slice Ao38 t774.length co38)).setCell ⟨gb755, 3, none⟩ (.slice Ao39 t777.length co39)) ?_; intro w40 hw; have n0_ : Aside0 (Kd.V (Kd.int .i64) 3 w40 w.heap.size (fun k_ => some k_ ≠ (.slice Ao32 t766.length co32 : Value).ownBlock ∧ some k_ ≠ (.slice Ao37 t771.length co37 : Value).ownBlock ∧ some k_ ≠ (.slice Ao38 t774.length co38 : Value).ownBlock ∧ some k_ ≠ (.slice Ao39 t777.length co39 : Value).ownBlock ∧ k_ ≠ gb753 ∧ k_ ≠ gb754 ∧ k_ ≠ gb755) (.slice Ao27 t756.length co27) t756) := ⟨(by rw [hw]; exact (by exact Kd.V_mono (Kd.V_far (p := ⟨gb755, 3, none⟩) (Kd.V_far (p := ⟨gb755, 2, none⟩) (Kd.V_far (p := ⟨gb755, 1, none⟩) (Kd.V_far (p := ⟨gb755, 0, none⟩) (Kd.V_mono HO758.out (fun k_ hk => (⟨hk, hk.1.1.1.1.2.2⟩ : _ ∧ k_ ≠ gb755))) (fun _ hk => hk.2) (.int .i64 t770)) (fun _ hk => hk.2) (.slice Ao37 t771.length co37)) (fun _ hk => hk.2) (.slice Ao38 t774.length co38)) (fun _ hk => hk.2) (.slice Ao39 t777.length co39)) (fun _ hk => ⟨hk.1.1.1.1.2, ⟨hk.1.1.1.2, ⟨hk.1.1.2, ⟨hk.1.2, ⟨hk.1.1.1.1.1.1, ⟨hk.1.1.1.1.1.2.1, hk.1.1.1.1.1.2.2⟩⟩⟩⟩⟩⟩)))⟩; have n1_ : Aside0 (Kd.V (Kd.int .i64) 3 w40 w.heap.size (fun k_ => some k_ ≠ (.slice Ao32 t766.length co32 : Value).ownBlock ∧ some k_ ≠ (.slice Ao37 t771.length co37 : Value).ownBlock ∧ some k_ ≠ (.slice Ao38 t774.length co38 : Value).ownBlock ∧ some k_ ≠ (.slice Ao39 t777.length co39 : Value).ownBlock ∧ k_ ≠ gb753 ∧ k_ ≠ gb754 ∧ k_ ≠ gb755) (.slice Ao28 t759.length co28) t759) := ⟨(by rw [hw]; exact (by exact Kd.V_mono (Kd.V_far (p := ⟨gb755, 3, none⟩) (Kd.V_far (p := ⟨gb755, 2, none⟩) (Kd.V_far (p := ⟨gb755, 1, none⟩) (Kd.V_far (p := ⟨gb755, 0, none⟩) (Kd.V_mono HO761.out (fun k_ hk => (⟨hk, hk.1.1.1.1.2.2⟩ : _ ∧ k_ ≠ gb755))) (fun _ hk => hk.2) (.int .i64 t770)) (fun _ hk => hk.2) (.slice Ao37 t771.length co37)) (fun _ hk => hk.2) (.slice Ao38 t774.length co38)) (fun _ hk => hk.2) (.slice Ao39 t777.length co39)) (fun _ hk => ⟨hk.1.1.1.1.2, ⟨hk.1.1.1.2, ⟨hk.1.1.2, ⟨hk.1.2, ⟨hk.1.1.1.1.1.1, ⟨hk.1.1.1.1.1.2.1, hk.1.1.1.1.1.2.2⟩⟩⟩⟩⟩⟩)))⟩; have n2_ : Aside0 (Kd.V (Kd.int .i64) 3 w40 w.heap.size (fun k_ => some k_ ≠ (.slice Ao32 t766.length co32 : Value).ownBlock ∧ some k_ ≠ (.slice Ao37 t771.length co37 : Value).ownBlock ∧ some k_ ≠ (.slice Ao38 t774.length co38 : Value).ownBlock ∧ some k_ ≠ (.slice Ao39 t777.length co39 : Value).ownBlock ∧ k_ ≠ gb753 ∧ k_ ≠ gb754 ∧ k_ ≠ gb755) (.slice Ao30 t762.length co30) t762) := ⟨(by rw [hw]; exact (by exact Kd.V_mono (Kd.V_far (p := ⟨gb755, 3, none⟩) (Kd.V_far (p := ⟨gb755, 2, none⟩) (Kd.V_far (p := ⟨gb755, 1, none⟩) (Kd.V_far (p := ⟨gb755, 0, none⟩) (Kd.V_mono HO764.out (fun k_ hk => (⟨hk, hk.1.1.1.1.2.2⟩ : _ ∧ k_ ≠ gb755))) (fun _ hk => hk.2) (.int .i64 t770)) (fun _ hk => hk.2) (.slice Ao37 t771.length co37)) (fun _ hk => hk.2) (.slice Ao38 t774.length co38)) (fun _ hk => hk.2) (.slice Ao39 t777.length co39)) (fun _ hk => ⟨hk.1.1.1.1.2, ⟨hk.1.1.1.2, ⟨hk.1.1.2, ⟨hk.1.2, ⟨hk.1.1.1.1.1.1, ⟨hk.1.1.1.1.1.2.1, hk.1.1.1.1.1.2.2⟩⟩⟩⟩⟩⟩)))⟩; have n3_ := rsm (fun k_ => some k_ ≠ (.slice Ao37 t771.length co37 : Value).ownBlock) HO769 hw (fun _ hk => hk.2); have n4_ := rsm (fun k_ => some k_ ≠ (.slice Ao32 t766.length co32 : Value).ownBlock) HO773 hw (fun _ hk => hk.2); have n5_ := rst HO776 hw; have n6_ := rst HO779 hw; have n7_ : Aside0 (w40.heap[gb753]? = some (.cells #[.int .i64 a0_0, .slice A0_1 l0_1.length c0_1, .slice A0_2 l0_2.length c0_2, .slice A0_3 l0_3.length c0_3] 27 (0, 0))) := ⟨(by rw [hw]; exact (bx BK753.out))⟩; have n8_ : Aside0 (w40.heap[gb754]? = some (.cells #[.int .i64 a1_0, .slice A1_1 l1_1.length c1_1, .slice A1_2 l1_2.length c1_2, .slice A1_3 l1_3.length c1_3] 27 (0, 0))) := ⟨(by rw [hw]; exact (bx BK754.out))⟩; have n9_ := sps #[.int .i64 t770, .slice Ao37 t771.length co37, .slice Ao38 t774.length co38, .slice Ao39 t777.length co39] BK755 hw (.p (.p (.p (.p .nil)))); have n10_ := bhw HB hw; clear hw HO758 HO761 HO764 HO769 HO773 HO776 HO779 BK753 BK754 BK755 HB; have HO758 := n0_; have HO761 := n1_; have HO764 := n2_; have HO769 := n3_; have HO773 := n4_; have HO776 := n5_; have HO779 := n6_; have BK753 := n7_; have BK754 := n8_; have BK755 := n9_; have HB := n10_; clear n0_ n1_ n2_ n3_ n4_ n5_ n6_ n7_ n8_ n9_ n10_))
    refine bodyPost_ret (results_cell_row rfl _ _ gb755 27 #[.int .i64 t770, .slice Ao37 t771.length co37, .slice Ao38 t774.length co38, .slice Ao39 t777.length co39] (0, 0) _ rfl (bx BK755.out) Tryz.underlying27 rfl (by kernel_rfl)) rfl ?_
    exact ⟨_, _, _, er, by exact Kd.R_mono HO773.out (fun _ hk => trivial), by exact HO776.out, by exact HO779.out, bh HB.out⟩
   ·replace H := bd H
    obtain ⟨t780, A41, H⟩ := H
    replace H := bd H
    obtain ⟨t783, A42, H⟩ := H
    replace H := bd H
    obtain ⟨⟨t786, t787⟩, A43, H⟩ := H
    dsimp only at H
    replace H := bd H
    obtain ⟨⟨t790, t791, t794, t797⟩, A44, H⟩ := H
    dsimp only at H
    simp only [Option.some.injEq, Prod.mk.injEq] at H
    obtain ⟨rfl, rfl, rfl, rfl⟩ := H
    go_wp2
    replace BK753 := Aside0.mk (blk_drew BK753.out)
    replace BK754 := Aside0.mk (blk_drew BK754.out)
    replace BK755 := Aside0.mk (blk_drew BK755.out)
    replace HB := Aside0.mk (below_drew1 HB.out)
    refine start_ (n := 11) (S := fun w' => w'.cell? ⟨gb753, 0, none⟩ = some (.int .i64 a0_0) ∧ w'.cell? ⟨gb753, 1, none⟩ = some (.slice A0_1 l0_1.length c0_1) ∧ w'.cell? ⟨gb753, 2, none⟩ = some (.slice A0_2 l0_2.length c0_2) ∧ w'.cell? ⟨gb753, 3, none⟩ = some (.slice A0_3 l0_3.length c0_3) ∧ w'.cell? ⟨gb754, 0, none⟩ = some (.int .i64 a1_0) ∧ w'.cell? ⟨gb754, 1, none⟩ = some (.slice A1_1 l1_1.length c1_1) ∧ w'.cell? ⟨gb754, 2, none⟩ = some (.slice A1_2 l1_2.length c1_2) ∧ w'.cell? ⟨gb754, 3, none⟩ = some (.slice A1_3 l1_3.length c1_3)) (ds := []) #[false, false, false, false, false, false, false, false, false, false, false] (by kernel_rfl) rfl rfl ⟨(blk_cell BK753.out 0).trans rfl, (blk_cell BK753.out 1).trans rfl, (blk_cell BK753.out 2).trans rfl, (blk_cell BK753.out 3).trans rfl, (blk_cell BK754.out 0).trans rfl, (blk_cell BK754.out 1).trans rfl, (blk_cell BK754.out 2).trans rfl, (blk_cell BK754.out 3).trans rfl⟩ (fun hHeld => ?_); refine with_tabW poslist_List_together_fn59_fn60.tab5 poslist_List_together_fn59_fn60.bits5 (fun HT_ HW_ => ?_)
    generalize wc.drew = w45 at BK753 BK754 BK755 HB hHeld ⊢
    refine puA HT_ 0 40 (bv 11 1) ?_
    refine taA HT_ HW_ hHeld 1 41 (bv 11 3) ?_
    refine taA HT_ HW_ hHeld 3 43 (bv 11 11) ?_
    refine one_ (i := 2) (N := some 42) #[true, true, true, true, false, false, false, false, false, false, false] rfl rfl (one_of HT_.out (by kernel_rfl)) (by decide) (fun K hK => ?_)
    refine goes_ Tryz.func20 (by kernel_rfl) rfl #[.agg #[.int .i64 a0_0, .slice A0_1 l0_1.length c0_1, .slice A0_2 l0_2.length c0_2, .slice A0_3 l0_3.length c0_3]] (by rfl) rfl rfl (by (simp only [List.map_toArray, List.map_cons, List.map_nil]); rfl) ?_
    with_reducible refine (poslist_List_Spans.calls kj4 a0_0 _ _ l0_1 _ _ l0_2 _ _ l0_3 t780 _ ?side1 ?side2 ?side3 ?side4 ?side5 ?side6 A41.out).mono ?_
    (case side1 => exact cx (Kd.C_below HR0_1.out HB.out))
    (case side2 => exact HC0_1.out)
    (case side3 => exact cx (Kd.C_below HR0_2.out HB.out))
    (case side4 => exact HC0_2.out)
    (case side5 => exact cx (Kd.C_below HR0_3.out HB.out))
    (case side6 => exact HC0_3.out)
    rintro e w46 ⟨v781, rfl, ho0, hb⟩
    refine ⟨_, rfl, ?_⟩
    have HO782 := Aside0.mk (Kd.R_lower ho0 (below_size (bh HB.out)))
    replace BK753 := bba BK753 hb
    replace BK754 := bba BK754 hb
    replace BK755 := bba BK755 hb
    replace HB := bsa HB hb
    clear hb ho0
    refine hK.out _ _ ⟨(blk_cell BK753.out 0).trans rfl, (blk_cell BK753.out 1).trans rfl, (blk_cell BK753.out 2).trans rfl, (blk_cell BK753.out 3).trans rfl, (blk_cell BK754.out 0).trans rfl, (blk_cell BK754.out 1).trans rfl, (blk_cell BK754.out 2).trans rfl, (blk_cell BK754.out 3).trans rfl⟩ (fun hHeld => ?_)
    clear hK K
    refine norm_ (a' := ?_) ?_ ?_
    rotate_left
    ·show Act.put _ (some 42) _ = _
     simp only [Act.put, List.setIfInBounds_toArray, List.set_cons_zero, List.set_cons_succ, i64_w, i32_w]
     rfl
    refine one_ (i := 4) (N := some 44) #[true, true, true, true, true, false, false, false, false, false, false] rfl rfl (one_of HT_.out (by kernel_rfl)) (by decide) (fun K hK => ?_)
    refine goes_ Tryz.func20 (by kernel_rfl) rfl #[.agg #[.int .i64 a1_0, .slice A1_1 l1_1.length c1_1, .slice A1_2 l1_2.length c1_2, .slice A1_3 l1_3.length c1_3]] (by rfl) rfl rfl (by (simp only [List.map_toArray, List.map_cons, List.map_nil]); rfl) ?_
    with_reducible refine (poslist_List_Spans.calls kj4 a1_0 _ _ l1_1 _ _ l1_2 _ _ l1_3 t783 _ ?side1 ?side2 ?side3 ?side4 ?side5 ?side6 A42.out).mono ?_
    (case side1 => exact cx (Kd.C_below HR1_1.out HB.out))
    (case side2 => exact HC1_1.out)
    (case side3 => exact cx (Kd.C_below HR1_2.out HB.out))
    (case side4 => exact HC1_2.out)
    (case side5 => exact cx (Kd.C_below HR1_3.out HB.out))
    (case side6 => exact HC1_3.out)
    rintro e w47 ⟨v784, rfl, ho0, hb⟩
    refine ⟨_, rfl, ?_⟩
    have HO785 := Aside0.mk (Kd.R_lower (Kd.R_new' ho0 (Kd.R_lt (rx HO782.out))) (below_size (bh HB.out)))
    replace HO782 := Aside0.mk (Kd.R_elder' (rx HO782.out) (Kd.R_base ho0) hb)
    replace BK753 := bba BK753 hb
    replace BK754 := bba BK754 hb
    replace BK755 := bba BK755 hb
    replace HB := bsa HB hb
    clear hb ho0
    obtain ⟨Ao48, co48, eo48⟩ := Kd.R_slice HO782.out
    (subst eo48)
    obtain ⟨Ao49, co49, eo49⟩ := Kd.R_slice HO785.out
    (subst eo49)
    refine hK.out _ _ ⟨(blk_cell BK753.out 0).trans rfl, (blk_cell BK753.out 1).trans rfl, (blk_cell BK753.out 2).trans rfl, (blk_cell BK753.out 3).trans rfl, (blk_cell BK754.out 0).trans rfl, (blk_cell BK754.out 1).trans rfl, (blk_cell BK754.out 2).trans rfl, (blk_cell BK754.out 3).trans rfl⟩ (fun hHeld => ?_)
    clear hK K
    refine norm_ (a' := ?_) ?_ ?_
    rotate_left
    ·show Act.put _ (some 44) _ = _
     simp only [Act.put, List.setIfInBounds_toArray, List.set_cons_zero, List.set_cons_succ, i64_w, i32_w]
     rfl
    refine one_ (i := 5) (N := some 45) #[true, true, true, true, true, true, false, false, false, false, false] rfl rfl (one_of HT_.out (by kernel_rfl)) (by decide) (fun K hK => ?_)
    (refine goesW_ Tryz.func60 (by kernel_rfl) rfl #[.slice Ao48 t780.length co48, .slice Ao49 t783.length co49] (by rfl) rfl rfl rfl (by (simp only [List.map_toArray, List.map_cons, List.map_nil]); rfl) ?_)
    with_reducible refine (span_Or.calls kj4 _ _ t780 _ _ t783 t786 t787 _ ?side1 ?side2 ?side3 ?side4 A43.out).mono ?_
    (case side1 => exact cx (Kd.R_reads' HO782.out).2.2)
    (case side2 => exact (Kd.R_reads' HO782.out).2.1)
    (case side3 => exact cx (Kd.R_reads' HO785.out).2.2)
    (case side4 => exact (Kd.R_reads' HO785.out).2.1)
    rintro e w50 ⟨v788, rfl, ho0, hb⟩
    refine ⟨_, rfl, ?_⟩
    have HO789 := Aside0.mk (Kd.R_lower (Kd.R_new' (Kd.R_new' ho0 (Kd.R_lt (rx HO782.out))) (Kd.R_lt (rx HO785.out))) (below_size (bh HB.out)))
    replace HO782 := Aside0.mk (Kd.R_elder' (rx HO782.out) (Kd.R_base ho0) hb)
    replace HO785 := Aside0.mk (Kd.R_elder' (rx HO785.out) (Kd.R_base ho0) hb)
    replace BK753 := bba BK753 hb
    replace BK754 := bba BK754 hb
    replace BK755 := bba BK755 hb
    replace HB := bsa HB hb
    clear hb ho0
    refine hK.out _ _ ⟨(blk_cell BK753.out 0).trans rfl, (blk_cell BK753.out 1).trans rfl, (blk_cell BK753.out 2).trans rfl, (blk_cell BK753.out 3).trans rfl, (blk_cell BK754.out 0).trans rfl, (blk_cell BK754.out 1).trans rfl, (blk_cell BK754.out 2).trans rfl, (blk_cell BK754.out 3).trans rfl⟩ (fun hHeld => ?_)
    clear hK K
    refine norm_ (a' := ?_) ?_ ?_
    rotate_left
    ·show Act.put _ (some 45) _ = _
     simp only [Act.put, List.setIfInBounds_toArray, List.set_cons_zero, List.set_cons_succ, i64_w, i32_w]
     rfl
    refine puA HT_ 6 39 (bv 11 127) ?_
    refine puA HT_ 7 46 (bv 11 255) ?_
    refine puA HT_ 8 47 (bv 11 511) ?_
    refine puA HT_ 9 13 (bv 11 1023) ?_
    refine puA HT_ 10 14 (bv 11 2047) ?_
    refine done_ (done_of HT_.out (by kernel_rfl)) ?_
    obtain ⟨Ao51, co51, eo51⟩ := Kd.R_slice HO789.out
    subst eo51
    go_wp2_with (first | ((with_reducible refine gate_callee (f := 64) rfl ?_); refine gL 49 Tryz.func64 #[.slice Ao51 t786.length co51] ?_; (with_reducible refine (poslist_best.calls kj4 _ _ t786 t790 t791 t794 t797 _ ?side1 ?side2 A44.out).mono ?_); (case side1 => exact cx (Kd.R_reads' HO789.out).2.2); (case side2 => exact (Kd.R_reads' HO789.out).2.1); rintro e w52 ⟨v792, v795, v798, rfl, ho0, ho1, ho2, hb⟩; refine ⟨_, rfl, ?_⟩; have HO793 := Aside0.mk (Kd.R_lower (Kd.R_new' (Kd.R_new' (Kd.R_new' ho0 (Kd.R_lt (rx HO782.out))) (Kd.R_lt (rx HO785.out))) (Kd.R_lt (rx HO789.out))) (below_size (bh HB.out))); replace HO782 := Aside0.mk (Kd.R_elder' (rx HO782.out) (Kd.R_base ho0) hb); replace HO785 := Aside0.mk (Kd.R_elder' (rx HO785.out) (Kd.R_base ho0) hb); replace HO789 := Aside0.mk (Kd.R_elder' (rx HO789.out) (Kd.R_base ho0) hb); have HO796 := Aside0.mk (Kd.R_lower ho1 (below_size (bh HB.out))); have HO799 := Aside0.mk (Kd.R_lower ho2 (below_size (bh HB.out))); replace BK753 := bba BK753 hb; replace BK754 := bba BK754 hb; replace BK755 := bba BK755 hb; replace HB := bsa HB hb; clear hb ho0 ho1 ho2; have hnb53 := NB755_753.out; have hnc53 := NB753_755.out; have hnb54 := NB755_754.out; have hnc54 := NB754_755.out; obtain ⟨hcz55_0, hcz55_1, hcz55_2, hcz55_3, hfz55_0, hfz55_1, hfz55_2, hfz55_3⟩ := b4 BK755; obtain ⟨Ao56, co56, eo56⟩ := Kd.R_slice HO793.out; subst eo56; obtain ⟨Ao57, co57, eo57⟩ := Kd.R_slice HO796.out; subst eo57; obtain ⟨Ao58, co58, eo58⟩ := Kd.R_slice HO799.out; subst eo58) | ((with_reducible refine gate_store (t := 27) (p := 8) rfl ?_); refine stE 27 8 ((((w52.setCell ⟨gb755, 0, none⟩ (.int .i64 t790)).setCell ⟨gb755, 1, none⟩ (.slice Ao56 t791.length co56)).setCell ⟨gb755, 2, none⟩ (.slice Ao57 t794.length co57)).setCell ⟨gb755, 3, none⟩ (.slice Ao58 t797.length co58)) ?_; intro w59 hw; have n0_ := rsm (fun k_ => some k_ ≠ (.slice Ao49 t783.length co49 : Value).ownBlock ∧ some k_ ≠ (.slice Ao51 t786.length co51 : Value).ownBlock ∧ some k_ ≠ (.slice Ao56 t791.length co56 : Value).ownBlock) HO782 hw (fun _ hk => ⟨hk.1.1.2, ⟨hk.1.2, hk.2⟩⟩); have n1_ := rsm (fun k_ => some k_ ≠ (.slice Ao48 t780.length co48 : Value).ownBlock ∧ some k_ ≠ (.slice Ao51 t786.length co51 : Value).ownBlock ∧ some k_ ≠ (.slice Ao56 t791.length co56 : Value).ownBlock) HO785 hw (fun _ hk => ⟨hk.1.1.2, ⟨hk.1.2, hk.2⟩⟩); have n2_ := rsm (fun k_ => some k_ ≠ (.slice Ao48 t780.length co48 : Value).ownBlock ∧ some k_ ≠ (.slice Ao49 t783.length co49 : Value).ownBlock ∧ some k_ ≠ (.slice Ao56 t791.length co56 : Value).ownBlock) HO789 hw (fun _ hk => ⟨hk.1.1.2, ⟨hk.1.2, hk.2⟩⟩); have n3_ := rsm (fun k_ => some k_ ≠ (.slice Ao48 t780.length co48 : Value).ownBlock ∧ some k_ ≠ (.slice Ao49 t783.length co49 : Value).ownBlock ∧ some k_ ≠ (.slice Ao51 t786.length co51 : Value).ownBlock) HO793 hw (fun _ hk => ⟨hk.1.1.2, ⟨hk.1.2, hk.2⟩⟩); have n4_ := rst HO796 hw; have n5_ := rst HO799 hw; have n6_ : Aside0 (w59.heap[gb753]? = some (.cells #[.int .i64 a0_0, .slice A0_1 l0_1.length c0_1, .slice A0_2 l0_2.length c0_2, .slice A0_3 l0_3.length c0_3] 27 (0, 0))) := ⟨(by rw [hw]; exact (bx BK753.out))⟩; have n7_ : Aside0 (w59.heap[gb754]? = some (.cells #[.int .i64 a1_0, .slice A1_1 l1_1.length c1_1, .slice A1_2 l1_2.length c1_2, .slice A1_3 l1_3.length c1_3] 27 (0, 0))) := ⟨(by rw [hw]; exact (bx BK754.out))⟩; have n8_ := sps #[.int .i64 t790, .slice Ao56 t791.length co56, .slice Ao57 t794.length co57, .slice Ao58 t797.length co58] BK755 hw (.p (.p (.p (.p .nil)))); have n9_ := bhw HB hw; clear hw HO782 HO785 HO789 HO793 HO796 HO799 BK753 BK754 BK755 HB; have HO782 := n0_; have HO785 := n1_; have HO789 := n2_; have HO793 := n3_; have HO796 := n4_; have HO799 := n5_; have BK753 := n6_; have BK754 := n7_; have BK755 := n8_; have HB := n9_; clear n0_ n1_ n2_ n3_ n4_ n5_ n6_ n7_ n8_ n9_))
    refine bodyPost_ret (results_cell_row rfl _ _ gb755 27 #[.int .i64 t790, .slice Ao56 t791.length co56, .slice Ao57 t794.length co57, .slice Ao58 t797.length co58] (0, 0) _ rfl (bx BK755.out) Tryz.underlying27 rfl (by kernel_rfl)) rfl ?_
    exact ⟨_, _, _, er, by exact Kd.R_mono HO793.out (fun _ hk => trivial), by exact HO796.out, by exact HO799.out, bh HB.out⟩

/-! ### poslist_List_Or: function 24 -/
def poslist_List_Or.f (k : Nat) (a0_0 : Int) (l0_1 : List (S64)) (l0_2 : List Int) (l0_3 : List Int) (a1_0 : Int) (l1_1 : List (S64)) (l1_2 : List Int) (l1_3 : List Int) : Option (Int × (List (S64)) × List Int × List Int) := (poslist_List_together_fn59_fn60.f k a0_0 l0_1 l0_2 l0_3 a1_0 l1_1 l1_2 l1_3).bind fun bt803 => (some (bt803.1, bt803.2.1, bt803.2.2.1, bt803.2.2.2))
set_option maxHeartbeats 8000000 in
set_option maxRecDepth 100000 in
theorem poslist_List_Or.calls (k : Nat) (a0_0 : Int) (A0_1 : Option Addr) (c0_1 : Nat) (l0_1 : List (S64)) (A0_2 : Option Addr) (c0_2 : Nat) (l0_2 : List Int) (A0_3 : Option Addr) (c0_3 : Nat) (l0_3 : List Int) (a1_0 : Int) (A1_1 : Option Addr) (c1_1 : Nat) (l1_1 : List (S64)) (A1_2 : Option Addr) (c1_2 : Nat) (l1_2 : List Int) (A1_3 : Option Addr) (c1_3 : Nat) (l1_3 : List Int) (r1 : Int) (r2 : List (S64)) (r3 : List Int) (r4 : List Int) (w : World) (hr0_1 : Kd.C k64 w A0_1 l0_1.length l0_1) (hc0_1 : l0_1.length ≤ c0_1) (hr0_2 : Kd.C (Kd.int .i64) w A0_2 l0_2.length l0_2) (hc0_2 : l0_2.length ≤ c0_2) (hr0_3 : Kd.C (Kd.int .i64) w A0_3 l0_3.length l0_3) (hc0_3 : l0_3.length ≤ c0_3) (hr1_1 : Kd.C k64 w A1_1 l1_1.length l1_1) (hc1_1 : l1_1.length ≤ c1_1) (hr1_2 : Kd.C (Kd.int .i64) w A1_2 l1_2.length l1_2) (hc1_2 : l1_2.length ≤ c1_2) (hr1_3 : Kd.C (Kd.int .i64) w A1_3 l1_3.length l1_3) (hc1_3 : l1_3.length ≤ c1_3) (h : poslist_List_Or.f k a0_0 l0_1 l0_2 l0_3 a1_0 l1_1 l1_2 l1_3 = some (r1, r2, r3, r4)) :
  Calls Tryz.prog 24 #[.agg #[.int .i64 a0_0, .slice A0_1 l0_1.length c0_1, .slice A0_2 l0_2.length c0_2, .slice A0_3 l0_3.length c0_3], .agg #[.int .i64 a1_0, .slice A1_1 l1_1.length c1_1, .slice A1_2 l1_2.length c1_2, .slice A1_3 l1_3.length c1_3]] w fun e w' => ∃ v1_ v2_ v3_ : Value, e = .returned (.agg #[.int .i64 r1, v1_, v2_, v3_]) ∧ Kd.R k64 64 w' w.heap.size (fun _ => True) v1_ r2 ∧ Kd.R (Kd.int .i64) 3 w' w.heap.size (fun k_ => some k_ ≠ (v3_ : Value).ownBlock) v2_ r3 ∧ Kd.R (Kd.int .i64) 3 w' w.heap.size (fun k_ => some k_ ≠ (v2_ : Value).ownBlock) v3_ r4 ∧ Below w.heap.size w w' := by
 have hu27 := Tryz.underlying27
 have HR0_1 := Aside0.mk hr0_1
 have HC0_1 := Aside0.mk hc0_1
 clear hr0_1 hc0_1
 have HR0_2 := Aside0.mk hr0_2
 have HC0_2 := Aside0.mk hc0_2
 clear hr0_2 hc0_2
 have HR0_3 := Aside0.mk hr0_3
 have HC0_3 := Aside0.mk hc0_3
 clear hr0_3 hc0_3
 have HR1_1 := Aside0.mk hr1_1
 have HC1_1 := Aside0.mk hc1_1
 clear hr1_1 hc1_1
 have HR1_2 := Aside0.mk hr1_2
 have HC1_2 := Aside0.mk hc1_2
 clear hr1_2 hc1_2
 have HR1_3 := Aside0.mk hr1_3
 have HC1_3 := Aside0.mk hc1_3
 clear hr1_3 hc1_3
 have HB := Aside0.mk (Below.refl w.heap.size w)
 have H := h
 clear h
 unfold poslist_List_Or.f at H
 replace H := bd H
 obtain ⟨⟨t803, t804, t807, t810⟩, A3, H⟩ := H
 dsimp only at H
 simp only [Option.some.injEq, Prod.mk.injEq] at H
 obtain ⟨rfl, rfl, rfl, rfl⟩ := H
 go_enter Tryz.func24, Tryz.ntmps24
 go_wp2_with (first | ((with_reducible refine gate_dst (N := 2) rfl ?_); refine boxE HB 2 27 #[.int .i64 a0_0, .slice A0_1 l0_1.length c0_1, .slice A0_2 l0_2.length c0_2, .slice A0_3 l0_3.length c0_3] ?_; clear HB; intro gb800 w4 BK800 GW800 hg hb HB; have GE800 := GW800; clear hb hg) | ((with_reducible refine gate_dst (N := 3) rfl ?_); refine boxE HB 3 27 #[.int .i64 a1_0, .slice A1_1 l1_1.length c1_1, .slice A1_2 l1_2.length c1_2, .slice A1_3 l1_3.length c1_3] ?_; clear HB; intro gb801 w5 BK801 GW801 hg hb HB; have GE801 := GW801; have NB800_801 := bna BK800 hg; have NB801_800 := bma BK800 hg; replace BK800 := bba BK800 hb; clear hb hg) | ((with_reducible refine gate_dst (N := 4) rfl ?_); refine boxE HB 4 27 #[.int .i64 0, .slice none 0 0, .slice none 0 0, .slice none 0 0] ?_; clear HB; intro gb802 w6 BK802 GW802 hg hb HB; have GE802 := GW802; have NB800_802 := bna BK800 hg; have NB802_800 := bma BK800 hg; replace BK800 := bba BK800 hb; have NB801_802 := bna BK801 hg; have NB802_801 := bma BK801 hg; replace BK801 := bba BK801 hb; clear hb hg; have hnb7 := NB800_801.out; have hnc7 := NB801_800.out; have hnb8 := NB800_802.out; have hnc8 := NB802_800.out; obtain ⟨hcz9_0, hcz9_1, hcz9_2, hcz9_3, hfz9_0, hfz9_1, hfz9_2, hfz9_3⟩ := b4 BK800; have hnb10 := NB801_802.out; have hnc10 := NB802_801.out; obtain ⟨hcz11_0, hcz11_1, hcz11_2, hcz11_3, hfz11_0, hfz11_1, hfz11_2, hfz11_3⟩ := b4 BK801) | ((with_reducible refine gate_callee (f := 55) rfl ?_); refine gL 7 Tryz.func55 #[.agg #[.int .i64 a0_0, .slice A0_1 l0_1.length c0_1, .slice A0_2 l0_2.length c0_2, .slice A0_3 l0_3.length c0_3], .agg #[.int .i64 a1_0, .slice A1_1 l1_1.length c1_1, .slice A1_2 l1_2.length c1_2, .slice A1_3 l1_3.length c1_3], .func (.func 59) #[] #[], .func (.func 60) #[] #[]] ?_; (with_reducible refine (poslist_List_together_fn59_fn60.calls k a0_0 _ _ l0_1 _ _ l0_2 _ _ l0_3 a1_0 _ _ l1_1 _ _ l1_2 _ _ l1_3   t803 t804 t807 t810 _ ?side1 ?side2 ?side3 ?side4 ?side5 ?side6 ?side7 ?side8 ?side9 ?side10 ?side11 ?side12 A3.out).mono ?_); (case side1 => exact cx (Kd.C_below HR0_1.out HB.out)); (case side2 => exact HC0_1.out); (case side3 => exact cx (Kd.C_below HR0_2.out HB.out)); (case side4 => exact HC0_2.out); (case side5 => exact cx (Kd.C_below HR0_3.out HB.out)); (case side6 => exact HC0_3.out); (case side7 => exact cx (Kd.C_below HR1_1.out HB.out)); (case side8 => exact HC1_1.out); (case side9 => exact cx (Kd.C_below HR1_2.out HB.out)); (case side10 => exact HC1_2.out); (case side11 => exact cx (Kd.C_below HR1_3.out HB.out)); (case side12 => exact HC1_3.out); rintro e w12 ⟨v805, v808, v811, rfl, ho0, ho1, ho2, hb⟩; refine ⟨_, rfl, ?_⟩; have HO806 := Aside0.mk (Kd.R_lower ho0 (below_size (bh HB.out))); have HO809 := Aside0.mk (Kd.R_lower ho1 (below_size (bh HB.out))); have HO812 := Aside0.mk (Kd.R_lower ho2 (below_size (bh HB.out))); replace BK800 := bba BK800 hb; replace BK801 := bba BK801 hb; replace BK802 := bba BK802 hb; replace HB := bsa HB hb; clear hb ho0 ho1 ho2; obtain ⟨hcz13_0, hcz13_1, hcz13_2, hcz13_3, hfz13_0, hfz13_1, hfz13_2, hfz13_3⟩ := b4 BK802; obtain ⟨Ao14, co14, eo14⟩ := Kd.R_slice HO806.out; subst eo14; obtain ⟨Ao15, co15, eo15⟩ := Kd.R_slice HO809.out; subst eo15; obtain ⟨Ao16, co16, eo16⟩ := Kd.R_slice HO812.out; subst eo16) | ((with_reducible refine gate_store (t := 27) (p := 4) rfl ?_); refine stE 27 4 ((((w12.setCell ⟨gb802, 0, none⟩ (.int .i64 t803)).setCell ⟨gb802, 1, none⟩ (.slice Ao14 t804.length co14)).setCell ⟨gb802, 2, none⟩ (.slice Ao15 t807.length co15)).setCell ⟨gb802, 3, none⟩ (.slice Ao16 t810.length co16)) ?_; intro w17 hw; have n0_ := rsm (fun _ => True) HO806 hw (fun _ hk => trivial); have n1_ := rst HO809 hw; have n2_ := rst HO812 hw; have n3_ : Aside0 (w17.heap[gb800]? = some (.cells #[.int .i64 a0_0, .slice A0_1 l0_1.length c0_1, .slice A0_2 l0_2.length c0_2, .slice A0_3 l0_3.length c0_3] 27 (0, 0))) := ⟨(by rw [hw]; exact (bx BK800.out))⟩; have n4_ : Aside0 (w17.heap[gb801]? = some (.cells #[.int .i64 a1_0, .slice A1_1 l1_1.length c1_1, .slice A1_2 l1_2.length c1_2, .slice A1_3 l1_3.length c1_3] 27 (0, 0))) := ⟨(by rw [hw]; exact (bx BK801.out))⟩; have n5_ := sps #[.int .i64 t803, .slice Ao14 t804.length co14, .slice Ao15 t807.length co15, .slice Ao16 t810.length co16] BK802 hw (.p (.p (.p (.p .nil)))); have n6_ := bhw HB hw; clear hw HO806 HO809 HO812 BK800 BK801 BK802 HB; have HO806 := n0_; have HO809 := n1_; have HO812 := n2_; have BK800 := n3_; have BK801 := n4_; have BK802 := n5_; have HB := n6_; clear n0_ n1_ n2_ n3_ n4_ n5_ n6_))
 refine bodyPost_ret (results_cell_row rfl _ _ gb802 27 #[.int .i64 t803, .slice Ao14 t804.length co14, .slice Ao15 t807.length co15, .slice Ao16 t810.length co16] (0, 0) _ rfl (bx BK802.out) Tryz.underlying27 rfl (by kernel_rfl)) rfl ?_
 exact ⟨_, _, _, er, by exact HO806.out, by exact HO809.out, by exact HO812.out, bh HB.out⟩

end Go.Proofs.YtjgmdjieandemaaGreat.Print
end
