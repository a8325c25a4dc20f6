-- Functions and laws: texts of the session's own and of the kit's print program, joined; what nothing names is left out.
import Derived.Test.YtjgmdjieandemaaGreatJA
import Derived.Test.YtjgmdjieandemaaGreatJW
import Derived.Test.YtjgmdjieandemaaGreatJC
import Derived.Test.YtjgmdjieandemaaGreatJD
import Derived.Test.YtjgmdjieandemaaGreatJB
import Derived.Test.YtjgmdjieandemaaGreatJR
section
namespace Go.Proofs.YtjgmdjieandemaaGreat.Print
open Go.RowKit Go.Proofs.YtjgmdjieandemaaGreatW.PrintWords Go.Proofs.YtjgmdjieandemaaGreatW.PrintLast Go.Proofs.YtjgmdjieandemaaGreatW.PrintMore
attribute [local go_sem] max2_int min2_int max_two min_two max_three min_three max_four min_four   -- for this text's walks alone
set_option linter.unusedVariables false
set_option linter.unusedSimpArgs false

/-! ### peristylelaw16_is: function 13 -/
def peristylelaw16_is.f (k : Nat) (a0_0 : Int) (l0_1 : List (S64)) (l0_2 : List Int) (l0_3 : List Int) (l1_0 : List (S64)) (a1_1 : Int) : Option (Bool) := (peristyleref14_Places.f k l1_0).bind fun bt569 => ((poslist_List_Form.f a0_0 l0_1 l0_2 l0_3).bind fun t573 => (if t573 = a1_1 then ((poslist_List_Spans.f k a0_0 l0_1 l0_2 l0_3).bind fun t574 => ((peristyleref14_Same.f k t574 l1_0).bind fun t577 => (if t577 = true then ((poslist_List_Count.f k a0_0 l0_1 l0_2 l0_3).bind fun t578 => (if t578 = (bt569.1.length : Int) then ((peristylelaw16_listed.f k a0_0 l0_1 l0_2 l0_3).bind fun t579 => ((peristyleref01_Same.f k t579 bt569.1).bind fun t582 => (some t582))) else (none))) else (none)))) else (none)))
def peristylelaw16_is.T2 : Bool × List (List Nat × List Nat) := (true, [([], []), ([0], [0]), ([], []), ([2], [2]), ([1, 3], [1, 3]), ([4, 1], [4]), ([5], [5]), ([6, 5, 5], [5, 6]), ([5], [5]), ([8, 5], [5, 8]), ([7, 9, 7, 5], [5, 7, 9]), ([5, 10], [5, 10]), ([11, 10], [11]), ([12], [12]), ([13, 12, 12], [12, 13]), ([12], [12]), ([15, 12], [12, 15]), ([14, 16, 12], [12, 14, 16]), ([12, 17], [12, 17]), ([18, 14], [18]), ([19], [19]), ([20, 19, 19], [19, 20]), ([19], [19]), ([21, 22, 21, 19], [19, 21, 22]), ([19, 23], [19, 23]), ([24, 23, 0, 1, 2, 3, 4, 5, 6, 7, 8, 9, 10, 11, 12, 13, 14, 15, 16, 17, 18, 19, 20, 21, 22, 23, 24], [24])])
def peristylelaw16_is.B2 : List Nat := [0, 1, 0, 4, 15, 31, 63, 127, 63, 319, 1023, 2047, 4095, 8191, 16383, 8191, 40959, 131071, 262143, 524287, 1048575, 2097151, 1048575, 8388607, 16777215, 33554431]
theorem peristylelaw16_is.tab2 : rtab .any (opsOf Tryz.f13 2) = peristylelaw16_is.T2 := by kernel_rfl
theorem peristylelaw16_is.bits2 : waitsOk peristylelaw16_is.T2.2 peristylelaw16_is.B2 = true := by kernel_rfl
set_option maxHeartbeats 8000000 in
set_option maxRecDepth 100000 in
theorem peristylelaw16_is.calls (k : Nat) (a0_0 : Int) (A0_1 : Option Addr) (c0_1 : Nat) (l0_1 : List (S64)) (A0_2 : Option Addr) (c0_2 : Nat) (l0_2 : List Int) (A0_3 : Option Addr) (c0_3 : Nat) (l0_3 : List Int) (A1_0 : Option Addr) (c1_0 : Nat) (l1_0 : List (S64)) (a1_1 : Int) (r : Bool) (w : World) (hr0_1 : Kd.C k64 w A0_1 l0_1.length l0_1) (hc0_1 : l0_1.length ≤ c0_1) (hr0_2 : Kd.C (Kd.int .i64) w A0_2 l0_2.length l0_2) (hc0_2 : l0_2.length ≤ c0_2) (hr0_3 : Kd.C (Kd.int .i64) w A0_3 l0_3.length l0_3) (hc0_3 : l0_3.length ≤ c0_3) (hr1_0 : Kd.C k64 w A1_0 l1_0.length l1_0) (hc1_0 : l1_0.length ≤ c1_0) (h : peristylelaw16_is.f k a0_0 l0_1 l0_2 l0_3 l1_0 a1_1 = some r) :
  Calls Tryz.prog 13 #[.agg #[.int .i64 a0_0, .slice A0_1 l0_1.length c0_1, .slice A0_2 l0_2.length c0_2, .slice A0_3 l0_3.length c0_3], .agg #[.slice A1_0 l1_0.length c1_0, .int .i64 a1_1]] w fun e w' => e = .returned (.bool r) ∧ Below w.heap.size w w' := by
 have hu27 := Tryz.underlying27
 have hu32 := Tryz.underlying32
 have HR0_1 := Aside0.mk hr0_1
 have HC0_1 := Aside0.mk hc0_1
 clear hr0_1 hc0_1
 have HR0_2 := Aside0.mk hr0_2
 have HC0_2 := Aside0.mk hc0_2
 clear hr0_2 hc0_2
 have HR0_3 := Aside0.mk hr0_3
 have HC0_3 := Aside0.mk hc0_3
 clear hr0_3 hc0_3
 have HR1_0 := Aside0.mk hr1_0
 have HC1_0 := Aside0.mk hc1_0
 clear hr1_0 hc1_0
 have HB := Aside0.mk (Below.refl w.heap.size w)
 have H := h
 clear h
 unfold peristylelaw16_is.f at H
 replace H := bd H
 obtain ⟨⟨t569, t570⟩, A3, H⟩ := H
 dsimp only at H
 replace H := bd H
 obtain ⟨t573, A4, H⟩ := H
 replace H := ife H
 rcases H with ⟨-, c5b0, c5b1, H⟩ | ⟨-, -, -, ⟨⟩⟩
 replace H := bd H
 obtain ⟨t574, A6, H⟩ := H
 replace H := bd H
 obtain ⟨t577, A7, H⟩ := H
 replace H := ifb H
 rcases H with ⟨rfl, H⟩ | ⟨-, ⟨⟩⟩
 replace H := bd H
 obtain ⟨t578, A9, H⟩ := H
 replace H := ife H
 rcases H with ⟨-, c10b0, c10b1, H⟩ | ⟨-, -, -, ⟨⟩⟩
 replace H := bd H
 obtain ⟨t579, A11, H⟩ := H
 replace H := bd H
 obtain ⟨t582, A12, H⟩ := H
 obtain rfl := Option.some.inj H
 go_enter Tryz.func13, Tryz.ntmps13
 go_wp2_with (first | ((with_reducible refine gate_dst (N := 2) rfl ?_); ((refine gate_guard (by rfl) ?_; dsimp only)); refine boxE HB 2 27 #[.int .i64 a0_0, .slice A0_1 l0_1.length c0_1, .slice A0_2 l0_2.length c0_2, .slice A0_3 l0_3.length c0_3] ?_; clear HB; intro gb567 w13 BK567 GW567 hg hb HB; have GE567 := GW567; clear hb hg) | ((with_reducible refine gate_dst (N := 3) rfl ?_); ((refine gate_guard (by rfl) ?_; dsimp only)); refine boxE HB 3 32 #[.slice A1_0 l1_0.length c1_0, .int .i64 a1_1] ?_; clear HB; intro gb568 w14 BK568 GW568 hg hb HB; have GE568 := GW568; have NB567_568 := bna BK567 hg; have NB568_567 := bma BK567 hg; replace BK567 := bba BK567 hb; clear hb hg; have hnb15 := NB568_567.out; have hnc15 := NB567_568.out; obtain ⟨hcz16_0, hcz16_1, hfz16_0, hfz16_1⟩ := b2 BK568) | ((with_reducible refine gate_callee (f := 47) rfl ?_); refine gL 10 Tryz.func47 #[.slice A1_0 l1_0.length c1_0] ?_; (with_reducible refine (peristyleref14_Places.calls k _ _ l1_0 t569 t570 _ ?side1 ?side2 A3.out).mono ?_); (case side1 => exact cx (Kd.C_below HR1_0.out HB.out)); (case side2 => exact HC1_0.out); rintro e w17 ⟨v571, rfl, ho0, hb⟩; refine ⟨_, rfl, ?_⟩; have HO572 := Aside0.mk (Kd.R_lower ho0 (below_size (bh HB.out))); replace BK567 := bba BK567 hb; replace BK568 := bba BK568 hb; replace HB := bsa HB hb; clear hb ho0))
 replace HO572 := Aside0.mk (Kd.R_drew HO572.out)
 replace BK567 := Aside0.mk (blk_drew BK567.out)
 replace BK568 := Aside0.mk (blk_drew BK568.out)
 replace HB := Aside0.mk (below_drew1 HB.out)
 obtain ⟨A571_, c571_, hv571_⟩ := Kd.R_slice HO572.out
 have hln571_22_ := fun (w_ : World) => congrArg (fun v_ => (Builtin.len_ #[22] 3 #[v_]).run Tryz.prog w_) hv571_
 have hln571_25_ := fun (w_ : World) => congrArg (fun v_ => (Builtin.len_ #[25] 3 #[v_]).run Tryz.prog w_) hv571_
 have hln571_69_ := fun (w_ : World) => congrArg (fun v_ => (Builtin.len_ #[69] 3 #[v_]).run Tryz.prog w_) hv571_
 clear hv571_
 refine start_ (n := 26) (S := fun w' => w'.cell? ⟨gb567, 0, none⟩ = some (.int .i64 a0_0) ∧ w'.cell? ⟨gb567, 1, none⟩ = some (.slice A0_1 l0_1.length c0_1) ∧ w'.cell? ⟨gb567, 2, none⟩ = some (.slice A0_2 l0_2.length c0_2) ∧ w'.cell? ⟨gb567, 3, none⟩ = some (.slice A0_3 l0_3.length c0_3) ∧ w'.cell? ⟨gb568, 0, none⟩ = some (.slice A1_0 l1_0.length c1_0) ∧ w'.cell? ⟨gb568, 1, none⟩ = some (.int .i64 a1_1)) (ds := []) #[false, false, false, false, false, false, false, false, false, false, false, false, false, false, false, false, false, false, false, false, false, false, false, false, false, false] (by kernel_rfl) rfl rfl ⟨(blk_cell BK567.out 0).trans rfl, (blk_cell BK567.out 1).trans rfl, (blk_cell BK567.out 2).trans rfl, (blk_cell BK567.out 3).trans rfl, (blk_cell BK568.out 0).trans rfl, (blk_cell BK568.out 1).trans rfl⟩ (fun hHeld => ?_); refine with_tabW peristylelaw16_is.tab2 peristylelaw16_is.bits2 (fun HT_ HW_ => ?_)
 generalize w17.drew = w18 at HO572 BK567 BK568 HB hHeld ⊢
 refine puA HT_ 2 15 (bv 26 4) ?_
 refine taA HT_ HW_ hHeld 0 13 (bv 26 5) ?_
 refine taA HT_ HW_ hHeld 3 16 (bv 26 13) ?_
 refine one_ (i := 1) (N := some 14) #[true, true, true, true, false, false, false, false, false, false, false, false, false, false, false, false, false, false, false, false, false, false, false, false, false, false] rfl rfl (one_of HT_.out (by kernel_rfl)) (by decide) (fun K hK => ?_)
 refine goes_ Tryz.func28 (by kernel_rfl) rfl #[.agg #[.int .i64 a0_0, .slice A0_1 l0_1.length c0_1, .slice A0_2 l0_2.length c0_2, .slice A0_3 l0_3.length c0_3]] (by rfl) rfl rfl (by (simp only [List.map_toArray, List.map_cons, List.map_nil]); rfl) ?_
 with_reducible refine (poslist_List_Form.calls a0_0 _ _ l0_1 _ _ l0_2 _ _ l0_3 t573 _ ?side1 ?side2 ?side3 ?side4 ?side5 ?side6 A4.out).mono ?_
 (case side1 => exact cx (Kd.C_below HR0_1.out HB.out))
 (case side2 => exact HC0_1.out)
 (case side3 => exact cx (Kd.C_below HR0_2.out HB.out))
 (case side4 => exact HC0_2.out)
 (case side5 => exact cx (Kd.C_below HR0_3.out HB.out))
 (case side6 => exact HC0_3.out)
 rintro e w19 ⟨rfl, hb⟩
 refine ⟨_, rfl, ?_⟩
 replace HO572 := rba HO572 hb
 replace BK567 := bba BK567 hb
 replace BK568 := bba BK568 hb
 replace HB := bsa HB hb
 clear hb
 refine hK.out _ _ ⟨(blk_cell BK567.out 0).trans rfl, (blk_cell BK567.out 1).trans rfl, (blk_cell BK567.out 2).trans rfl, (blk_cell BK567.out 3).trans rfl, (blk_cell BK568.out 0).trans rfl, (blk_cell BK568.out 1).trans rfl⟩ (fun hHeld => ?_)
 clear hK K
 refine norm_ (a' := ?_) ?_ ?_
 rotate_left
 ·show Act.put _ (some 14) _ = _
  simp only [Act.put, List.setIfInBounds_toArray, List.set_cons_zero, List.set_cons_succ, i64_w, i32_w]
  rfl
 refine puA HT_ 4 17 (bv 26 31) ?_
 refine puA HT_ 5 18 (bv 26 63) ?_
 refine puA HT_ 8 21 (bv 26 319) ?_
 refine taA HT_ HW_ hHeld 6 19 (bv 26 383) ?_
 refine taA HT_ HW_ hHeld 9 22 (bv 26 895) ?_
 refine one_ (i := 7) (N := some 20) #[true, true, true, true, true, true, true, true, true, true, false, false, false, false, false, false, false, false, false, false, false, false, false, false, false, false] rfl rfl (one_of HT_.out (by kernel_rfl)) (by decide) (fun K hK => ?_)
 refine goes_ Tryz.func20 (by kernel_rfl) rfl #[.agg #[.int .i64 a0_0, .slice A0_1 l0_1.length c0_1, .slice A0_2 l0_2.length c0_2, .slice A0_3 l0_3.length c0_3]] (by rfl) rfl rfl (by (simp only [List.map_toArray, List.map_cons, List.map_nil]); rfl) ?_
 with_reducible refine (poslist_List_Spans.calls k a0_0 _ _ l0_1 _ _ l0_2 _ _ l0_3 t574 _ ?side1 ?side2 ?side3 ?side4 ?side5 ?side6 A6.out).mono ?_
 (case side1 => exact cx (Kd.C_below HR0_1.out HB.out))
 (case side2 => exact HC0_1.out)
 (case side3 => exact cx (Kd.C_below HR0_2.out HB.out))
 (case side4 => exact HC0_2.out)
 (case side5 => exact cx (Kd.C_below HR0_3.out HB.out))
 (case side6 => exact HC0_3.out)
 rintro e w20 ⟨v575, rfl, ho0, hb⟩
 refine ⟨_, rfl, ?_⟩
 replace HO572 := rba HO572 hb
 have HO576 := Aside0.mk (Kd.R_lower ho0 (below_size (bh HB.out)))
 replace BK567 := bba BK567 hb
 replace BK568 := bba BK568 hb
 replace HB := bsa HB hb
 clear hb ho0
 obtain ⟨Ao21, co21, eo21⟩ := Kd.R_slice HO576.out
 (subst eo21)
 refine hK.out _ _ ⟨(blk_cell BK567.out 0).trans rfl, (blk_cell BK567.out 1).trans rfl, (blk_cell BK567.out 2).trans rfl, (blk_cell BK567.out 3).trans rfl, (blk_cell BK568.out 0).trans rfl, (blk_cell BK568.out 1).trans rfl⟩ (fun hHeld => ?_)
 clear hK K
 refine norm_ (a' := ?_) ?_ ?_
 rotate_left
 ·show Act.put _ (some 20) _ = _
  simp only [Act.put, List.setIfInBounds_toArray, List.set_cons_zero, List.set_cons_succ, i64_w, i32_w]
  rfl
 refine one_ (i := 10) (N := some 23) #[true, true, true, true, true, true, true, true, true, true, true, false, false, false, false, false, false, false, false, false, false, false, false, false, false, false] rfl rfl (one_of HT_.out (by kernel_rfl)) (by decide) (fun K hK => ?_)
 refine goes_ Tryz.func27 (by kernel_rfl) rfl #[.slice Ao21 t574.length co21, .slice A1_0 l1_0.length c1_0] (by rfl) rfl rfl (by (simp only [List.map_toArray, List.map_cons, List.map_nil]); rfl) ?_
 with_reducible refine (peristyleref14_Same.calls k _ _ t574 _ _ l1_0 true _ ?side1 ?side2 ?side3 ?side4 A7.out).mono ?_
 (case side1 => exact cx (Kd.R_reads' HO576.out).2.2)
 (case side2 => exact (Kd.R_reads' HO576.out).2.1)
 (case side3 => exact cx (Kd.C_below HR1_0.out HB.out))
 (case side4 => exact HC1_0.out)
 rintro e w' ⟨rfl, ⟨nd, rfl⟩⟩
 refine ⟨_, rfl, ?_⟩
 refine hK.out _ _ ⟨(blk_cell BK567.out 0).trans rfl, (blk_cell BK567.out 1).trans rfl, (blk_cell BK567.out 2).trans rfl, (blk_cell BK567.out 3).trans rfl, (blk_cell BK568.out 0).trans rfl, (blk_cell BK568.out 1).trans rfl⟩ (fun hHeld => ?_)
 clear hK K
 refine norm_ (a' := ?_) ?_ ?_
 rotate_left
 ·show Act.put _ (some 23) _ = _
  simp only [Act.put, List.setIfInBounds_toArray, List.set_cons_zero, List.set_cons_succ, i64_w, i32_w]
  rfl
 refine puA HT_ 11 24 (bv 26 4095) ?_
 refine puA HT_ 12 25 (bv 26 8191) ?_
 refine puA HT_ 15 28 (bv 26 40959) ?_
 refine puA HT_ 16 29 (bv 26 106495) ?_
 refine taA HT_ HW_ hHeld 13 26 (bv 26 114687) ?_
 refine one_ (i := 14) (N := some 27) #[true, true, true, true, true, true, true, true, true, true, true, true, true, true, true, true, true, false, false, false, false, false, false, false, false, false] rfl rfl (one_of HT_.out (by kernel_rfl)) (by decide) (fun K hK => ?_)
 refine goes_ Tryz.func19 (by kernel_rfl) rfl #[.agg #[.int .i64 a0_0, .slice A0_1 l0_1.length c0_1, .slice A0_2 l0_2.length c0_2, .slice A0_3 l0_3.length c0_3]] (by rfl) rfl rfl (by (simp only [List.map_toArray, List.map_cons, List.map_nil]); rfl) ?_
 with_reducible refine (poslist_List_Count.calls k a0_0 _ _ l0_1 _ _ l0_2 _ _ l0_3 t578 _ ?side1 ?side2 ?side3 ?side4 ?side5 ?side6 A9.out).mono ?_
 (case side1 => repeat (exact (Kd.C_below HR0_1.out (bh HB.out))))
 (case side2 => exact HC0_1.out)
 (case side3 => repeat (exact (Kd.C_below HR0_2.out (bh HB.out))))
 (case side4 => exact HC0_2.out)
 (case side5 => repeat (exact (Kd.C_below HR0_3.out (bh HB.out))))
 (case side6 => exact HC0_3.out)
 rintro e w22 ⟨rfl, hb⟩
 refine ⟨_, rfl, ?_⟩
 replace HO572 := rba HO572 hb
 replace HO576 := rba HO576 hb
 replace BK567 := bba BK567 hb
 replace BK568 := bba BK568 hb
 replace HB := bsa HB hb
 clear hb
 obtain ⟨Ao23, co23, eo23⟩ := Kd.R_slice HO572.out
 (subst eo23)
 refine hK.out _ _ ⟨(blk_cell BK567.out 0).trans rfl, (blk_cell BK567.out 1).trans rfl, (blk_cell BK567.out 2).trans rfl, (blk_cell BK567.out 3).trans rfl, (blk_cell BK568.out 0).trans rfl, (blk_cell BK568.out 1).trans rfl⟩ (fun hHeld => ?_)
 clear hK K
 refine norm_ (a' := ?_) ?_ ?_
 rotate_left
 ·show Act.put _ (some 27) _ = _
  simp only [Act.put, List.setIfInBounds_toArray, List.set_cons_zero, List.set_cons_succ, i64_w, i32_w]
  rfl
 refine puA HT_ 17 30 (bv 26 262143) ?_
 refine puA HT_ 18 31 (bv 26 524287) ?_
 refine puA HT_ 19 32 (bv 26 1048575) ?_
 refine puA HT_ 22 35 (bv 26 5242879) ?_
 refine taA HT_ HW_ hHeld 20 33 (bv 26 6291455) ?_
 refine one_ (i := 21) (N := some 34) #[true, true, true, true, true, true, true, true, true, true, true, true, true, true, true, true, true, true, true, true, true, true, true, false, false, false] rfl rfl (one_of HT_.out (by kernel_rfl)) (by decide) (fun K hK => ?_)
 refine goes_ Tryz.func29 (by kernel_rfl) rfl #[.agg #[.int .i64 a0_0, .slice A0_1 l0_1.length c0_1, .slice A0_2 l0_2.length c0_2, .slice A0_3 l0_3.length c0_3]] (by rfl) rfl rfl (by (simp only [List.map_toArray, List.map_cons, List.map_nil]); rfl) ?_
 with_reducible refine (peristylelaw16_listed.calls k a0_0 _ _ l0_1 _ _ l0_2 _ _ l0_3 t579 _ ?side1 ?side2 ?side3 ?side4 ?side5 ?side6 A11.out).mono ?_
 (case side1 => exact cx (Kd.C_below HR0_1.out HB.out))
 (case side2 => exact HC0_1.out)
 (case side3 => exact cx (Kd.C_below HR0_2.out HB.out))
 (case side4 => exact HC0_2.out)
 (case side5 => exact cx (Kd.C_below HR0_3.out HB.out))
 (case side6 => exact HC0_3.out)
 rintro e w24 ⟨v580, rfl, ho0, hb⟩
 refine ⟨_, rfl, ?_⟩
 replace HO576 := rba HO576 hb
 have HO581 := Aside0.mk (Kd.R_lower (Kd.R_new' ho0 (Kd.R_lt (rx HO572.out))) (below_size (bh HB.out)))
 replace HO572 := Aside0.mk (Kd.R_elder' (rx HO572.out) (Kd.R_base ho0) hb)
 replace BK567 := bba BK567 hb
 replace BK568 := bba BK568 hb
 replace HB := bsa HB hb
 clear hb ho0
 obtain ⟨Ao25, co25, eo25⟩ := Kd.R_slice HO581.out
 (subst eo25)
 refine hK.out _ _ ⟨(blk_cell BK567.out 0).trans rfl, (blk_cell BK567.out 1).trans rfl, (blk_cell BK567.out 2).trans rfl, (blk_cell BK567.out 3).trans rfl, (blk_cell BK568.out 0).trans rfl, (blk_cell BK568.out 1).trans rfl⟩ (fun hHeld => ?_)
 clear hK K
 refine norm_ (a' := ?_) ?_ ?_
 rotate_left
 ·show Act.put _ (some 34) _ = _
  simp only [Act.put, List.setIfInBounds_toArray, List.set_cons_zero, List.set_cons_succ, i64_w, i32_w]
  rfl
 refine one_ (i := 23) (N := some 36) #[true, true, true, true, true, true, true, true, true, true, true, true, true, true, true, true, true, true, true, true, true, true, true, true, false, false] rfl rfl (one_of HT_.out (by kernel_rfl)) (by decide) (fun K hK => ?_)
 refine goes_ Tryz.func40 (by kernel_rfl) rfl #[.slice Ao25 t579.length co25, .slice Ao23 t569.length co23] (by rfl) rfl rfl (by (simp only [List.map_toArray, List.map_cons, List.map_nil]); rfl) ?_
 with_reducible refine (peristyleref01_Same.calls k _ _ t579 _ _ t569 t582 _ ?side1 ?side2 ?side3 ?side4 A12.out).mono ?_
 (case side1 => exact cx (Kd.R_reads' HO581.out).2.2)
 (case side2 => exact (Kd.R_reads' HO581.out).2.1)
 (case side3 => exact cx (Kd.R_reads' HO572.out).2.2)
 (case side4 => exact (Kd.R_reads' HO572.out).2.1)
 rintro e w' ⟨rfl, ⟨nd, rfl⟩⟩
 refine ⟨_, rfl, ?_⟩
 refine hK.out _ _ ⟨(blk_cell BK567.out 0).trans rfl, (blk_cell BK567.out 1).trans rfl, (blk_cell BK567.out 2).trans rfl, (blk_cell BK567.out 3).trans rfl, (blk_cell BK568.out 0).trans rfl, (blk_cell BK568.out 1).trans rfl⟩ (fun hHeld => ?_)
 clear hK K
 refine norm_ (a' := ?_) ?_ ?_
 rotate_left
 ·show Act.put _ (some 36) _ = _
  simp only [Act.put, List.setIfInBounds_toArray, List.set_cons_zero, List.set_cons_succ, i64_w, i32_w]
  rfl
 refine puA HT_ 24 37 (bv 26 33554431) ?_
 refine puA HT_ 25 4 (bv 26 67108863) ?_
 refine done_ (done_of HT_.out (by kernel_rfl)) ?_
 go_wp2
 go_ret
 exact ⟨er, bh HB.out⟩

end Go.Proofs.YtjgmdjieandemaaGreat.Print
end
section
namespace Go.Proofs.YtjgmdjieandemaaGreat.Print
open Go.RowKit Go.Proofs.YtjgmdjieandemaaGreatW.PrintWords Go.Proofs.YtjgmdjieandemaaGreatW.PrintLast Go.Proofs.YtjgmdjieandemaaGreatW.PrintMore
attribute [local go_sem] max2_int min2_int max_two min_two max_three min_three max_four min_four   -- for this text's walks alone
set_option linter.unusedVariables false
set_option linter.unusedSimpArgs false

/-! ### peristylelaw16_PoslistOf: function 3 -/
mutual
def peristylelaw16_PoslistOf.j0 : Nat → List (S64) → Int → Int → Int → Int → Int → List (S64) → List Int → List Int → List (S64) → Int → Int → List (S64) → List Int → List Int → List (S64) → Int → Option (Bool)
 | 0, _, _, _, _, _, _, _, _, _, _, _, _, _, _, _, _, _ => none
 | k + 1, x0, x6, x8, x10, x12, x597000, x597001, x597002, x597003, x603000, x603001, x615000, x615001, x615002, x615003, x621000, x621001 => if x6 = x8 then (peristylelaw16_PoslistOf.j1 k x0 x6 x10 (x10 != x12) x597000 x597001 x597002 x597003 x603000 x603001 x615000 x615001 x615002 x615003 x621000 x621001) else (peristylelaw16_PoslistOf.j1 k x0 x6 x10 true x597000 x597001 x597002 x597003 x603000 x603001 x615000 x615001 x615002 x615003 x621000 x621001)
def peristylelaw16_PoslistOf.j1 : Nat → List (S64) → Int → Int → Bool → Int → List (S64) → List Int → List Int → List (S64) → Int → Int → List (S64) → List Int → List Int → List (S64) → Int → Option (Bool)
 | 0, _, _, _, _, _, _, _, _, _, _, _, _, _, _, _, _ => none
 | k + 1, x0, x6, x10, x50, x597000, x597001, x597002, x597003, x603000, x603001, x615000, x615001, x615002, x615003, x621000, x621001 => if x50 = true then (some false) else (if x6 = 0 then ((peristylelaw16_is.f k x597000 x597001 x597002 x597003 x603000 x603001).bind fun t621 => (if t621 = true then (if x10 = 0 then ((peristylelaw16_is.f k x615000 x615001 x615002 x615003 x621000 x621001).bind fun t622 => (peristylelaw16_PoslistOf.j2 k x0 x10 (!t622) x615000 x615001 x615002 x615003)) else (peristylelaw16_PoslistOf.j2 k x0 x10 false x615000 x615001 x615002 x615003)) else (peristylelaw16_PoslistOf.j2 k x0 x10 true x615000 x615001 x615002 x615003))) else (if x10 = 0 then ((peristylelaw16_is.f k x615000 x615001 x615002 x615003 x621000 x621001).bind fun t623 => (peristylelaw16_PoslistOf.j2 k x0 x10 (!t623) x615000 x615001 x615002 x615003)) else (peristylelaw16_PoslistOf.j2 k x0 x10 false x615000 x615001 x615002 x615003)))
def peristylelaw16_PoslistOf.j2 : Nat → List (S64) → Int → Bool → Int → List (S64) → List Int → List Int → Option (Bool)
 | 0, _, _, _, _, _, _, _ => none
 | k + 1, x0, x10, x68, x615000, x615001, x615002, x615003 => if x68 = true then (some false) else (peristylelaw16_PoslistOf.l0 k x0 x10 0 x615000 x615001 x615002 x615003)
def peristylelaw16_PoslistOf.l0 : Nat → List (S64) → Int → Int → Int → List (S64) → List Int → List Int → Option (Bool)
 | 0, _, _, _, _, _, _, _ => none
 | k + 1, x0, x10, x13, x615000, x615001, x615002, x615003 => if x13 < 5 then (peristylelaw16_PoslistOf.j4 k x0 x10 x13 (x10 == 0) x615000 x615001 x615002 x615003) else (peristylelaw16_PoslistOf.j4 k x0 x10 x13 false x615000 x615001 x615002 x615003)
def peristylelaw16_PoslistOf.j4 : Nat → List (S64) → Int → Int → Bool → Int → List (S64) → List Int → List Int → Option (Bool)
 | 0, _, _, _, _, _, _, _, _ => none
 | k + 1, x0, x10, x13, x74, x615000, x615001, x615002, x615003 => if x74 = true then ((poslist_List_Cost.f k x615000 x615001 x615002 x615003 x13).bind fun t625 => ((peristyleref16_Cost.f k x0 x13).bind fun t626 => (if t625 = t626 then (peristylelaw16_PoslistOf.l0 k x0 x10 (wrap64 (x13 + 1)) x615000 x615001 x615002 x615003) else (some false)))) else ((peristylelaw16_awake.f k).bind fun t624 => (some t624))
end
def peristylelaw16_PoslistOf.f (k : Nat) (l0 : List (S64)) (a1 : Int) : Option (Bool) := (peristyleref14_Few.f k l0).bind fun t583 => (if t583 = true then ((poslist_Of.f k l0 a1).bind fun bt585 => ((peristyleref16_Of.f k l0 a1).bind fun bt597 => ((poslist_Best.f k l0).bind fun bt603 => ((peristyleref16_Of.f k l0 0).bind fun bt615 => (if a1 = 0 then (peristylelaw16_PoslistOf.j0 k l0 bt585.2.2.2.2 1 bt603.2.2.2.2 bt615.2.2 bt585.1 bt585.2.1 bt585.2.2.1 bt585.2.2.2.1 ([] : List (S64)) 0 bt603.1 bt603.2.1 bt603.2.2.1 bt603.2.2.2.1 bt615.1 bt615.2.1) else (peristylelaw16_PoslistOf.j0 k l0 bt585.2.2.2.2 bt597.2.2 bt603.2.2.2.2 bt615.2.2 bt585.1 bt585.2.1 bt585.2.2.1 bt585.2.2.2.1 bt597.1 bt597.2.1 bt603.1 bt603.2.1 bt603.2.2.1 bt603.2.2.2.1 bt615.1 bt615.2.1)))))) else ((peristylelaw16_awake.f k).bind fun t584 => (some t584)))
theorem peristylelaw16_PoslistOf.j0_succ (k) (a0) (a1) (a2) (a3) (a4) (a5) (a6) (a7) (a8) (a9) (a10) (a11) (a12) (a13) (a14) (a15) (a16) : type_of% (@peristylelaw16_PoslistOf.j0.eq_2 a0 a1 a2 a3 a4 a5 a6 a7 a8 a9 a10 a11 a12 a13 a14 a15 a16 k) := peristylelaw16_PoslistOf.j0.eq_2 a0 a1 a2 a3 a4 a5 a6 a7 a8 a9 a10 a11 a12 a13 a14 a15 a16 k
theorem peristylelaw16_PoslistOf.j1_succ (k) (a0) (a1) (a2) (a3) (a4) (a5) (a6) (a7) (a8) (a9) (a10) (a11) (a12) (a13) (a14) (a15) : type_of% (@peristylelaw16_PoslistOf.j1.eq_2 a0 a1 a2 a3 a4 a5 a6 a7 a8 a9 a10 a11 a12 a13 a14 a15 k) := peristylelaw16_PoslistOf.j1.eq_2 a0 a1 a2 a3 a4 a5 a6 a7 a8 a9 a10 a11 a12 a13 a14 a15 k
theorem peristylelaw16_PoslistOf.j2_succ (k) (a0) (a1) (a2) (a3) (a4) (a5) (a6) : type_of% (@peristylelaw16_PoslistOf.j2.eq_2 a0 a1 a2 a3 a4 a5 a6 k) := peristylelaw16_PoslistOf.j2.eq_2 a0 a1 a2 a3 a4 a5 a6 k
theorem peristylelaw16_PoslistOf.l0_succ (k) (a0) (a1) (a2) (a3) (a4) (a5) (a6) : type_of% (@peristylelaw16_PoslistOf.l0.eq_2 a0 a1 a2 a3 a4 a5 a6 k) := peristylelaw16_PoslistOf.l0.eq_2 a0 a1 a2 a3 a4 a5 a6 k
theorem peristylelaw16_PoslistOf.j4_succ (k) (a0) (a1) (a2) (a3) (a4) (a5) (a6) (a7) : type_of% (@peristylelaw16_PoslistOf.j4.eq_2 a0 a1 a2 a3 a4 a5 a6 a7 k) := peristylelaw16_PoslistOf.j4.eq_2 a0 a1 a2 a3 a4 a5 a6 a7 k
set_option maxHeartbeats 8000000 in
set_option maxRecDepth 100000 in
theorem peristylelaw16_PoslistOf.calls (k : Nat) (A0 : Option Addr) (c0 : Nat) (l0 : List (S64)) (a1 : Int) (r : Bool) (w : World) (hr0 : Kd.C k64 w A0 l0.length l0) (hc0 : l0.length ≤ c0) (h : peristylelaw16_PoslistOf.f k l0 a1 = some r) :
  Calls Tryz.prog 3 #[.slice A0 l0.length c0, .int .i64 a1] w fun e w' => e = .returned (.bool r) ∧ Below w.heap.size w w' := by
 have hu27 := Tryz.underlying27
 have hu32 := Tryz.underlying32
 have HR0 := Aside0.mk hr0
 have HC0 := Aside0.mk hc0
 clear hr0 hc0
 have HB := Aside0.mk (Below.refl w.heap.size w)
 have H := h
 clear h
 unfold peristylelaw16_PoslistOf.f at H
 replace H := bd H
 obtain ⟨t583, A3, H⟩ := H
 replace H := ifb H
 rcases H with ⟨rfl, H⟩ | ⟨rfl, H⟩
 ·replace H := bd H
  obtain ⟨⟨t585, t586, t589, t592, t595⟩, A5, H⟩ := H
  dsimp only at H
  replace H := bd H
  obtain ⟨⟨t597, t600, t601⟩, A6, H⟩ := H
  dsimp only at H
  replace H := bd H
  obtain ⟨⟨t603, t604, t607, t610, t613⟩, A7, H⟩ := H
  dsimp only at H
  replace H := bd H
  obtain ⟨⟨t615, t618, t619⟩, A8, H⟩ := H
  dsimp only at H
  have HC9 := Aside0.mk H
  clear H
  go_enter Tryz.func3, Tryz.ntmps3
  go_upto_if 41 with (first | ((with_reducible refine gate_callee (f := 8) rfl ?_); refine gL 15 Tryz.func8 #[.slice A0 l0.length c0] ?_; (with_reducible refine (peristyleref14_Few.calls k _ _ l0 true _ ?side1 ?side2 A3.out).mono ?_); (case side1 => exact cx HR0.out); (case side2 => exact HC0.out); rintro e w' ⟨rfl, ⟨nd, rfl⟩⟩; refine ⟨_, rfl, ?_⟩) | ((with_reducible refine gate_callee (f := 10) rfl ?_); refine gL 21 Tryz.func10 #[.slice A0 l0.length c0, .int .i64 a1] ?_; (with_reducible refine (poslist_Of.calls k _ _ l0 a1 t585 t586 t589 t592 t595 _ ?side1 ?side2 A5.out).mono ?_); (case side1 => exact cx HR0.out); (case side2 => exact HC0.out); rintro e w10 ⟨v587, v590, v593, rfl, ho0, ho1, ho2, hb⟩; refine ⟨_, rfl, ?_⟩; have HO588 := Aside0.mk (Kd.R_lower ho0 (below_size (bh HB.out))); have HO591 := Aside0.mk (Kd.R_lower ho1 (below_size (bh HB.out))); have HO594 := Aside0.mk (Kd.R_lower ho2 (below_size (bh HB.out))); replace HB := bsa HB hb; clear hb ho0 ho1 ho2) | ((with_reducible refine gate_dst (N := 5) rfl ?_); refine box_event ?hg (N := 5) ?hd (cs := #[.int .i64 0, .slice none 0 0, .slice none 0 0, .slice none 0 0]) (t := 27) ?hr ?_; (case hd => rfl); (case hg => rfl); (case hr => (go_simp; done)); intro gb596 hg w11 hbox hb; replace HO588 := rba HO588 hb; replace HO591 := rba HO591 hb; replace HO594 := rba HO594 hb; have BK596 := Aside0.mk (hbox); have GW596 := bza HB hg; have GE596 := bza HB hg; replace HB := bsa HB hb; clear hb hbox hg; obtain ⟨hcz12_0, hcz12_1, hcz12_2, hcz12_3, hfz12_0, hfz12_1, hfz12_2, hfz12_3⟩ := b4 BK596; obtain ⟨Ao13, co13, eo13⟩ := Kd.R_slice HO588.out; subst eo13; obtain ⟨Ao14, co14, eo14⟩ := Kd.R_slice HO591.out; subst eo14; obtain ⟨Ao15, co15, eo15⟩ := Kd.R_slice HO594.out; subst eo15) | ((with_reducible refine gate_store (t := 27) (p := 5) rfl ?_); refine stE 27 5 ((((w11.setCell ⟨gb596, 0, none⟩ (.int .i64 t585)).setCell ⟨gb596, 1, none⟩ (.slice Ao13 t586.length co13)).setCell ⟨gb596, 2, none⟩ (.slice Ao14 t589.length co14)).setCell ⟨gb596, 3, none⟩ (.slice Ao15 t592.length co15)) ?_; intro w16 hw; replace HO588 := rsm (fun _ => True) HO588 hw (fun _ hk => trivial); replace HO591 := rst HO591 hw; replace HO594 := rst HO594 hw; replace BK596 := sps #[.int .i64 t585, .slice Ao13 t586.length co13, .slice Ao14 t589.length co14, .slice Ao15 t592.length co15] BK596 hw (.p (.p (.p (.p .nil)))); replace HB := bhw HB hw; clear hw) | ((with_reducible refine gate_callee (f := 11) rfl ?_); refine gL 27 Tryz.func11 #[.slice A0 l0.length c0, .int .i64 a1] ?_; (with_reducible refine (peristyleref16_Of.calls k (fun k_ => k_ < w.heap.size) _ _ l0 a1 t597 t600 t601 _ ?side1 A6.out).mono ?_); (case side1 => exact Kd.V_mk HC0.out (Kd.F_below (Kd.C_F k64_heap HR0.out) (bh HB.out))); rintro e w17 ⟨v598, rfl, ho0, hb⟩; refine ⟨_, rfl, ?_⟩; have HO599 := Aside0.mk (Kd.V_lower (Kd.V_mono (ok' := fun k_ => some k_ ≠ (.slice Ao13 t586.length co13 : Value).ownBlock ∧ some k_ ≠ (.slice Ao14 t589.length co14 : Value).ownBlock ∧ some k_ ≠ (.slice Ao15 t592.length co15 : Value).ownBlock ∧ k_ ≠ gb596) ho0 (fun k_ hk_ => ⟨Or.elim hk_ (fun hs_ => fun e_ => Nat.not_le.2 hs_ (Kd.R_base HO588.out k_ e_.symm)) (fun hn_ => (Kd.fresh' (Kd.R_lt (rx HO588.out)) k_ hn_)), Or.elim hk_ (fun hs_ => fun e_ => Nat.not_le.2 hs_ (Kd.R_base HO591.out k_ e_.symm)) (fun hn_ => (Kd.fresh' (Kd.R_lt (rx HO591.out)) k_ hn_)), Or.elim hk_ (fun hs_ => fun e_ => Nat.not_le.2 hs_ (Kd.R_base HO594.out k_ e_.symm)) (fun hn_ => (Kd.fresh' (Kd.R_lt (rx HO594.out)) k_ hn_)), Or.elim hk_ (fun hs_ => fun e_ => Nat.not_le.2 hs_ (by rw [e_]; exact GW596.out)) (fun hn_ => (Kd.freshB (g := gb596) (o := .cells #[.int .i64 t585, .slice Ao13 t586.length co13, .slice Ao14 t589.length co14, .slice Ao15 t592.length co15] 27 (0, 0)) (bx BK596.out) k_ hn_))⟩)) (below_size (bh HB.out))); replace HO588 := rba HO588 hb; replace HO591 := rba HO591 hb; replace HO594 := rba HO594 hb; replace BK596 := bba BK596 hb; replace HB := bsa HB hb; clear hb ho0) | ((with_reducible refine gate_dst (N := 7) rfl ?_); refine box_event ?hg (N := 7) ?hd (cs := #[.slice none 0 0, .int .i64 0]) (t := 32) ?hr ?_; (case hd => rfl); (case hg => rfl); (case hr => (go_simp; done)); intro gb602 hg w18 hbox hb; replace HO588 := rba HO588 hb; replace HO591 := rba HO591 hb; replace HO594 := rba HO594 hb; replace HO599 := Aside0.mk (Kd.V_below (Kd.V_elderB (by exact HO599.out) gb602 (Nat.le_of_eq hg.symm)) hb); have BK602 := Aside0.mk (hbox); have GW602 := bza HB hg; have GE602 := bza HB hg; replace HB := bsa HB hb; obtain ⟨NB596_602, NB602_596⟩ := bnm BK596 hg; replace BK596 := bba BK596 hb; clear hb hbox hg; obtain ⟨Ao19, co19, eo19⟩ := Kd.V_slice HO599.out; subst eo19; have hnb20 := NB602_596.out; have hnc20 := NB596_602.out; obtain ⟨hcz21_0, hcz21_1, hfz21_0, hfz21_1⟩ := b2 BK602) | ((with_reducible refine gate_callee (f := 12) rfl ?_); refine gL 32 Tryz.func12 #[.slice A0 l0.length c0] ?_; (with_reducible refine (poslist_Best.calls k _ _ l0 t603 t604 t607 t610 t613 _ ?side1 ?side2 A7.out).mono ?_); (case side1 => exact Kd.C_below HR0.out (bh HB.out)); (case side2 => exact HC0.out); rintro e w22 ⟨v605, v608, v611, rfl, ho0, ho1, ho2, hb⟩; refine ⟨_, rfl, ?_⟩; replace HO599 := Aside0.mk (Kd.V_mono (Kd.V_told (Kd.V_told (Kd.V_told (Kd.V_old (by exact (Kd.V_mono (Kd.V_far (p := ⟨gb602, 1, none⟩) (Kd.V_far (p := ⟨gb602, 0, none⟩) (Kd.V_mono HO599.out (fun k_ hk => (⟨hk, hk.2⟩ : _ ∧ k_ ≠ gb602))) (fun _ hk => hk.2) (.slice Ao19 t597.length co19)) (fun _ hk => hk.2) (.int .i64 t600)) (fun _ h_ => h_.1))) hb) (Kd.R_base ho0)) (Kd.R_base ho1)) (Kd.R_base ho2)) (fun _ h_ => h_.1)); have HO606 := Aside0.mk (Kd.R_lower (Kd.R_new' ho0 (Kd.R_lt (by exact (Kd.R_mono (Kd.R_far (p := ⟨gb602, 1, none⟩) (Kd.R_far (p := ⟨gb602, 0, none⟩) (Kd.R_types HO588.out BK602.out (by decide)) (fun _ hk => hk.2) (.slice Ao19 t597.length co19)) (fun _ hk => hk.2) (.int .i64 t600)) (fun _ h_ => h_.1))))) (below_size (bh HB.out))); replace HO588 := Aside0.mk (Kd.R_elder' (by exact (Kd.R_mono (Kd.R_far (p := ⟨gb602, 1, none⟩) (Kd.R_far (p := ⟨gb602, 0, none⟩) (Kd.R_types HO588.out BK602.out (by decide)) (fun _ hk => hk.2) (.slice Ao19 t597.length co19)) (fun _ hk => hk.2) (.int .i64 t600)) (fun _ h_ => h_.1))) (Kd.R_base ho0) hb); have HO609 := Aside0.mk (Kd.R_lower (Kd.R_new' (Kd.R_new' ho1 (Kd.R_lt (by exact (Kd.R_mono (Kd.R_far (p := ⟨gb602, 1, none⟩) (Kd.R_far (p := ⟨gb602, 0, none⟩) (Kd.R_types HO591.out BK602.out (by decide)) (fun _ hk => hk.2) (.slice Ao19 t597.length co19)) (fun _ hk => hk.2) (.int .i64 t600)) (fun _ h_ => h_.1))))) (Kd.R_lt (by exact (Kd.R_mono (Kd.R_far (p := ⟨gb602, 1, none⟩) (Kd.R_far (p := ⟨gb602, 0, none⟩) (Kd.R_types HO594.out BK602.out (by decide)) (fun _ hk => hk.2) (.slice Ao19 t597.length co19)) (fun _ hk => hk.2) (.int .i64 t600)) (fun _ h_ => h_.1))))) (below_size (bh HB.out))); have HO612 := Aside0.mk (Kd.R_lower (Kd.R_new' (Kd.R_new' ho2 (Kd.R_lt (by exact (Kd.R_mono (Kd.R_far (p := ⟨gb602, 1, none⟩) (Kd.R_far (p := ⟨gb602, 0, none⟩) (Kd.R_types HO591.out BK602.out (by decide)) (fun _ hk => hk.2) (.slice Ao19 t597.length co19)) (fun _ hk => hk.2) (.int .i64 t600)) (fun _ h_ => h_.1))))) (Kd.R_lt (by exact (Kd.R_mono (Kd.R_far (p := ⟨gb602, 1, none⟩) (Kd.R_far (p := ⟨gb602, 0, none⟩) (Kd.R_types HO594.out BK602.out (by decide)) (fun _ hk => hk.2) (.slice Ao19 t597.length co19)) (fun _ hk => hk.2) (.int .i64 t600)) (fun _ h_ => h_.1))))) (below_size (bh HB.out))); replace HO591 := Aside0.mk (Kd.R_mono (Kd.R_told (Kd.R_told (Kd.R_old (by exact (Kd.R_mono (Kd.R_far (p := ⟨gb602, 1, none⟩) (Kd.R_far (p := ⟨gb602, 0, none⟩) (Kd.R_types HO591.out BK602.out (by decide)) (fun _ hk => hk.2) (.slice Ao19 t597.length co19)) (fun _ hk => hk.2) (.int .i64 t600)) (fun _ h_ => h_.1))) hb) (Kd.R_base ho1)) (Kd.R_base ho2)) (fun _ h_ => h_.1)); replace HO594 := Aside0.mk (Kd.R_mono (Kd.R_told (Kd.R_told (Kd.R_old (by exact (Kd.R_mono (Kd.R_far (p := ⟨gb602, 1, none⟩) (Kd.R_far (p := ⟨gb602, 0, none⟩) (Kd.R_types HO594.out BK602.out (by decide)) (fun _ hk => hk.2) (.slice Ao19 t597.length co19)) (fun _ hk => hk.2) (.int .i64 t600)) (fun _ h_ => h_.1))) hb) (Kd.R_base ho1)) (Kd.R_base ho2)) (fun _ h_ => h_.1)); replace BK596 := Aside0.mk (blk_below (g := gb596) (o := .cells #[.int .i64 t585, .slice Ao13 t586.length co13, .slice Ao14 t589.length co14, .slice Ao15 t592.length co15] 27 (0, 0)) (bx BK596.out) hb); replace BK602 := Aside0.mk (blk_below (g := gb602) (o := .cells #[.slice Ao19 t597.length co19, .int .i64 t600] 32 (0, 0)) (by refine blk_put (cs := #[.slice Ao19 t597.length co19, .int .i64 0]) ?_ 1 _ rfl; refine blk_put (cs := #[.slice none 0 0, .int .i64 0]) ?_ 0 _ rfl; exact BK602.out) hb); replace HB := bsa HB hb; clear hb ho0 ho1 ho2) | ((with_reducible refine gate_dst (N := 9) rfl ?_); refine box_event ?hg (N := 9) ?hd (cs := #[.int .i64 0, .slice none 0 0, .slice none 0 0, .slice none 0 0]) (t := 27) ?hr ?_; (case hd => rfl); (case hg => rfl); (case hr => (go_simp; done)); intro gb614 hg w23 hbox hb; replace HO588 := rba HO588 hb; replace HO591 := rba HO591 hb; replace HO594 := rba HO594 hb; replace HO599 := Aside0.mk (Kd.V_below (Kd.V_elderB (by exact HO599.out) gb614 (Nat.le_of_eq hg.symm)) hb); replace HO606 := rba HO606 hb; replace HO609 := rba HO609 hb; replace HO612 := rba HO612 hb; have BK614 := Aside0.mk (hbox); have GW614 := bza HB hg; have GE614 := bza HB hg; replace HB := bsa HB hb; obtain ⟨NB596_614, NB614_596⟩ := bnm BK596 hg; replace BK596 := bba BK596 hb; obtain ⟨NB602_614, NB614_602⟩ := bnm BK602 hg; replace BK602 := bba BK602 hb; clear hb hbox hg; have hnb24 := NB614_596.out; have hnc24 := NB596_614.out; have hnb25 := NB614_602.out; have hnc25 := NB602_614.out; obtain ⟨hcz26_0, hcz26_1, hcz26_2, hcz26_3, hfz26_0, hfz26_1, hfz26_2, hfz26_3⟩ := b4 BK614; obtain ⟨Ao27, co27, eo27⟩ := Kd.R_slice HO606.out; subst eo27; obtain ⟨Ao28, co28, eo28⟩ := Kd.R_slice HO609.out; subst eo28; obtain ⟨Ao29, co29, eo29⟩ := Kd.R_slice HO612.out; subst eo29) | ((with_reducible refine gate_store (t := 27) (p := 9) rfl ?_); refine stE 27 9 ((((w23.setCell ⟨gb614, 0, none⟩ (.int .i64 t603)).setCell ⟨gb614, 1, none⟩ (.slice Ao27 t604.length co27)).setCell ⟨gb614, 2, none⟩ (.slice Ao28 t607.length co28)).setCell ⟨gb614, 3, none⟩ (.slice Ao29 t610.length co29)) ?_; intro w30 hw; have n0_ := rsm (fun k_ => some k_ ≠ (.slice Ao27 t604.length co27 : Value).ownBlock) HO588 hw (fun _ hk => hk.2); have n1_ := rsm (fun k_ => some k_ ≠ (.slice Ao15 t592.length co15 : Value).ownBlock ∧ some k_ ≠ (.slice Ao28 t607.length co28 : Value).ownBlock ∧ some k_ ≠ (.slice Ao29 t610.length co29 : Value).ownBlock) HO591 hw (fun _ hk => ⟨hk.1.1, ⟨hk.1.2, hk.2⟩⟩); have n2_ := rsm (fun k_ => some k_ ≠ (.slice Ao14 t589.length co14 : Value).ownBlock ∧ some k_ ≠ (.slice Ao28 t607.length co28 : Value).ownBlock ∧ some k_ ≠ (.slice Ao29 t610.length co29 : Value).ownBlock) HO594 hw (fun _ hk => ⟨hk.1.1, ⟨hk.1.2, hk.2⟩⟩); have n3_ : Aside0 (Kd.V k64 64 w30 w.heap.size (fun k_ => some k_ ≠ (.slice Ao13 t586.length co13 : Value).ownBlock ∧ some k_ ≠ (.slice Ao14 t589.length co14 : Value).ownBlock ∧ some k_ ≠ (.slice Ao15 t592.length co15 : Value).ownBlock ∧ some k_ ≠ (.slice Ao27 t604.length co27 : Value).ownBlock ∧ some k_ ≠ (.slice Ao28 t607.length co28 : Value).ownBlock ∧ some k_ ≠ (.slice Ao29 t610.length co29 : Value).ownBlock ∧ k_ ≠ gb596 ∧ k_ ≠ gb602 ∧ k_ ≠ gb614) (.slice Ao19 t597.length co19) t597) := ⟨(by rw [hw]; exact (by exact Kd.V_mono (Kd.V_far (p := ⟨gb614, 3, none⟩) (Kd.V_far (p := ⟨gb614, 2, none⟩) (Kd.V_far (p := ⟨gb614, 1, none⟩) (Kd.V_far (p := ⟨gb614, 0, none⟩) (Kd.V_mono HO599.out (fun k_ hk => (⟨hk, hk.2⟩ : _ ∧ k_ ≠ gb614))) (fun _ hk => hk.2) (.int .i64 t603)) (fun _ hk => hk.2) (.slice Ao27 t604.length co27)) (fun _ hk => hk.2) (.slice Ao28 t607.length co28)) (fun _ hk => hk.2) (.slice Ao29 t610.length co29)) (fun _ hk => ⟨hk.1.1.1.1.1.1.1, ⟨hk.1.1.1.1.1.1.2.1, ⟨hk.1.1.1.1.1.1.2.2.1, ⟨hk.1.1.1.1.2, ⟨hk.1.1.1.2, ⟨hk.1.1.2, ⟨hk.1.1.1.1.1.1.2.2.2, ⟨hk.1.1.1.1.1.2, hk.1.2⟩⟩⟩⟩⟩⟩⟩⟩)))⟩; have n4_ := rsm (fun k_ => some k_ ≠ (.slice Ao13 t586.length co13 : Value).ownBlock) HO606 hw (fun _ hk => hk.2); have n5_ := rsm (fun k_ => some k_ ≠ (.slice Ao14 t589.length co14 : Value).ownBlock ∧ some k_ ≠ (.slice Ao15 t592.length co15 : Value).ownBlock ∧ some k_ ≠ (.slice Ao29 t610.length co29 : Value).ownBlock) HO609 hw (fun _ hk => ⟨hk.1.2, ⟨hk.2, hk.1.1⟩⟩); have n6_ := rsm (fun k_ => some k_ ≠ (.slice Ao14 t589.length co14 : Value).ownBlock ∧ some k_ ≠ (.slice Ao15 t592.length co15 : Value).ownBlock ∧ some k_ ≠ (.slice Ao28 t607.length co28 : Value).ownBlock) HO612 hw (fun _ hk => ⟨hk.1.2, ⟨hk.2, hk.1.1⟩⟩); have n7_ : Aside0 (w30.heap[gb596]? = some (.cells #[.int .i64 t585, .slice Ao13 t586.length co13, .slice Ao14 t589.length co14, .slice Ao15 t592.length co15] 27 (0, 0))) := ⟨(by rw [hw]; exact (bx BK596.out))⟩; have n8_ : Aside0 (w30.heap[gb602]? = some (.cells #[.slice Ao19 t597.length co19, .int .i64 t600] 32 (0, 0))) := ⟨(by rw [hw]; exact (bx BK602.out))⟩; have n9_ := sps #[.int .i64 t603, .slice Ao27 t604.length co27, .slice Ao28 t607.length co28, .slice Ao29 t610.length co29] BK614 hw (.p (.p (.p (.p .nil)))); have n10_ := bhw HB hw; clear hw HO588 HO591 HO594 HO599 HO606 HO609 HO612 BK596 BK602 BK614 HB; have HO588 := n0_; have HO591 := n1_; have HO594 := n2_; have HO599 := n3_; have HO606 := n4_; have HO609 := n5_; have HO612 := n6_; have BK596 := n7_; have BK602 := n8_; have BK614 := n9_; have HB := n10_; clear n0_ n1_ n2_ n3_ n4_ n5_ n6_ n7_ n8_ n9_ n10_) | ((with_reducible refine gate_callee (f := 11) rfl ?_); refine gL 37 Tryz.func11 #[.slice A0 l0.length c0, .int .i64 0] ?_; (with_reducible refine (peristyleref16_Of.calls k (fun k_ => k_ < w.heap.size) _ _ l0 0 t615 t618 t619 _ ?side1 A8.out).mono ?_); (case side1 => exact Kd.V_mk HC0.out (Kd.F_below (Kd.C_F k64_heap HR0.out) (bh HB.out))); rintro e w31 ⟨v616, rfl, ho0, hb⟩; refine ⟨_, rfl, ?_⟩; replace HO599 := Aside0.mk (Kd.V_below (by exact HO599.out) hb); have HO617 := Aside0.mk (Kd.V_lower (Kd.V_mono (ok' := fun k_ => some k_ ≠ (.slice Ao13 t586.length co13 : Value).ownBlock ∧ some k_ ≠ (.slice Ao14 t589.length co14 : Value).ownBlock ∧ some k_ ≠ (.slice Ao15 t592.length co15 : Value).ownBlock ∧ some k_ ≠ (.slice Ao27 t604.length co27 : Value).ownBlock ∧ some k_ ≠ (.slice Ao28 t607.length co28 : Value).ownBlock ∧ some k_ ≠ (.slice Ao29 t610.length co29 : Value).ownBlock ∧ k_ ≠ gb596 ∧ k_ ≠ gb602 ∧ k_ ≠ gb614) ho0 (fun k_ hk_ => ⟨Or.elim hk_ (fun hs_ => fun e_ => Nat.not_le.2 hs_ (Kd.R_base HO588.out k_ e_.symm)) (fun hn_ => (Kd.fresh' (Kd.R_lt (rx HO588.out)) k_ hn_)), Or.elim hk_ (fun hs_ => fun e_ => Nat.not_le.2 hs_ (Kd.R_base HO591.out k_ e_.symm)) (fun hn_ => (Kd.fresh' (Kd.R_lt (rx HO591.out)) k_ hn_)), Or.elim hk_ (fun hs_ => fun e_ => Nat.not_le.2 hs_ (Kd.R_base HO594.out k_ e_.symm)) (fun hn_ => (Kd.fresh' (Kd.R_lt (rx HO594.out)) k_ hn_)), Or.elim hk_ (fun hs_ => fun e_ => Nat.not_le.2 hs_ (Kd.R_base HO606.out k_ e_.symm)) (fun hn_ => (Kd.fresh' (Kd.R_lt (rx HO606.out)) k_ hn_)), Or.elim hk_ (fun hs_ => fun e_ => Nat.not_le.2 hs_ (Kd.R_base HO609.out k_ e_.symm)) (fun hn_ => (Kd.fresh' (Kd.R_lt (rx HO609.out)) k_ hn_)), Or.elim hk_ (fun hs_ => fun e_ => Nat.not_le.2 hs_ (Kd.R_base HO612.out k_ e_.symm)) (fun hn_ => (Kd.fresh' (Kd.R_lt (rx HO612.out)) k_ hn_)), Or.elim hk_ (fun hs_ => fun e_ => Nat.not_le.2 hs_ (by rw [e_]; exact GW596.out)) (fun hn_ => (Kd.freshB (g := gb596) (o := .cells #[.int .i64 t585, .slice Ao13 t586.length co13, .slice Ao14 t589.length co14, .slice Ao15 t592.length co15] 27 (0, 0)) (bx BK596.out) k_ hn_)), Or.elim hk_ (fun hs_ => fun e_ => Nat.not_le.2 hs_ (by rw [e_]; exact GW602.out)) (fun hn_ => (Kd.freshB (g := gb602) (o := .cells #[.slice Ao19 t597.length co19, .int .i64 t600] 32 (0, 0)) (bx BK602.out) k_ hn_)), Or.elim hk_ (fun hs_ => fun e_ => Nat.not_le.2 hs_ (by rw [e_]; exact GW614.out)) (fun hn_ => (Kd.freshB (g := gb614) (o := .cells #[.int .i64 t603, .slice Ao27 t604.length co27, .slice Ao28 t607.length co28, .slice Ao29 t610.length co29] 27 (0, 0)) (bx BK614.out) k_ hn_))⟩)) (below_size (bh HB.out))); replace HO588 := rba HO588 hb; replace HO591 := rba HO591 hb; replace HO594 := rba HO594 hb; replace HO606 := rba HO606 hb; replace HO609 := rba HO609 hb; replace HO612 := rba HO612 hb; replace BK596 := bba BK596 hb; replace BK602 := bba BK602 hb; replace BK614 := bba BK614 hb; replace HB := bsa HB hb; clear hb ho0) | ((with_reducible refine gate_dst (N := 11) rfl ?_); refine box_event ?hg (N := 11) ?hd (cs := #[.slice none 0 0, .int .i64 0]) (t := 32) ?hr ?_; (case hd => rfl); (case hg => rfl); (case hr => (go_simp; done)); intro gb620 hg w32 hbox hb; replace HO588 := rba HO588 hb; replace HO591 := rba HO591 hb; replace HO594 := rba HO594 hb; replace HO599 := Aside0.mk (Kd.V_below (Kd.V_elderB (by exact HO599.out) gb620 (Nat.le_of_eq hg.symm)) hb); replace HO606 := rba HO606 hb; replace HO609 := rba HO609 hb; replace HO612 := rba HO612 hb; replace HO617 := Aside0.mk (Kd.V_below (Kd.V_elderB (by exact HO617.out) gb620 (Nat.le_of_eq hg.symm)) hb); have BK620 := Aside0.mk (hbox); have GW620 := bza HB hg; have GE620 := bza HB hg; replace HB := bsa HB hb; obtain ⟨NB596_620, NB620_596⟩ := bnm BK596 hg; replace BK596 := bba BK596 hb; obtain ⟨NB602_620, NB620_602⟩ := bnm BK602 hg; replace BK602 := bba BK602 hb; obtain ⟨NB614_620, NB620_614⟩ := bnm BK614 hg; replace BK614 := bba BK614 hb; clear hb hbox hg; obtain ⟨Ao33, co33, eo33⟩ := Kd.V_slice HO617.out; subst eo33; have hnb34 := NB620_596.out; have hnc34 := NB596_620.out; have hnb35 := NB620_602.out; have hnc35 := NB602_620.out; have hnb36 := NB620_614.out; have hnc36 := NB614_620.out; obtain ⟨hcz37_0, hcz37_1, hfz37_0, hfz37_1⟩ := b2 BK620))
  go_cut [8] (fun v8 wc => ∃ (kq : Nat) (x8_8 : Int) (x603000_8 : List (S64)) (x603001_8 : Int) (u603000 : Value), v8 = .int .i64 x8_8 ∧ Aside0 (peristylelaw16_PoslistOf.j0 kq l0 t595 x8_8 t613 t619 t585 t586 t589 t592 x603000_8 x603001_8 t603 t604 t607 t610 t615 t618 = some r) ∧ Aside0 (kq ≤ k) ∧ Aside0 (Kd.R k64 64 wc w.heap.size (fun k_ => some k_ ≠ ((.slice Ao27 t604.length co27) : Value).ownBlock) (.slice Ao13 t586.length co13) t586) ∧ Aside0 (Kd.R (Kd.int .i64) 3 wc w.heap.size (fun k_ => some k_ ≠ ((.slice Ao15 t592.length co15) : Value).ownBlock ∧ some k_ ≠ ((.slice Ao28 t607.length co28) : Value).ownBlock ∧ some k_ ≠ ((.slice Ao29 t610.length co29) : Value).ownBlock) (.slice Ao14 t589.length co14) t589) ∧ Aside0 (Kd.R (Kd.int .i64) 3 wc w.heap.size (fun k_ => some k_ ≠ ((.slice Ao14 t589.length co14) : Value).ownBlock ∧ some k_ ≠ ((.slice Ao28 t607.length co28) : Value).ownBlock ∧ some k_ ≠ ((.slice Ao29 t610.length co29) : Value).ownBlock) (.slice Ao15 t592.length co15) t592) ∧ Aside0 (Kd.V k64 64 wc w.heap.size (fun k_ => some k_ ≠ ((.slice Ao13 t586.length co13) : Value).ownBlock ∧ some k_ ≠ ((.slice Ao14 t589.length co14) : Value).ownBlock ∧ some k_ ≠ ((.slice Ao15 t592.length co15) : Value).ownBlock ∧ some k_ ≠ ((.slice Ao27 t604.length co27) : Value).ownBlock ∧ some k_ ≠ ((.slice Ao28 t607.length co28) : Value).ownBlock ∧ some k_ ≠ ((.slice Ao29 t610.length co29) : Value).ownBlock ∧ k_ ≠ gb596 ∧ k_ ≠ gb602 ∧ k_ ≠ gb614 ∧ k_ ≠ gb620) u603000 x603000_8) ∧ Aside0 (Kd.R k64 64 wc w.heap.size (fun k_ => some k_ ≠ ((.slice Ao13 t586.length co13) : Value).ownBlock) (.slice Ao27 t604.length co27) t604) ∧ Aside0 (Kd.R (Kd.int .i64) 3 wc w.heap.size (fun k_ => some k_ ≠ ((.slice Ao14 t589.length co14) : Value).ownBlock ∧ some k_ ≠ ((.slice Ao15 t592.length co15) : Value).ownBlock ∧ some k_ ≠ ((.slice Ao29 t610.length co29) : Value).ownBlock) (.slice Ao28 t607.length co28) t607) ∧ Aside0 (Kd.R (Kd.int .i64) 3 wc w.heap.size (fun k_ => some k_ ≠ ((.slice Ao14 t589.length co14) : Value).ownBlock ∧ some k_ ≠ ((.slice Ao15 t592.length co15) : Value).ownBlock ∧ some k_ ≠ ((.slice Ao28 t607.length co28) : Value).ownBlock) (.slice Ao29 t610.length co29) t610) ∧ Aside0 (Kd.V k64 64 wc w.heap.size (fun k_ => some k_ ≠ ((.slice Ao13 t586.length co13) : Value).ownBlock ∧ some k_ ≠ ((.slice Ao14 t589.length co14) : Value).ownBlock ∧ some k_ ≠ ((.slice Ao15 t592.length co15) : Value).ownBlock ∧ some k_ ≠ ((.slice Ao27 t604.length co27) : Value).ownBlock ∧ some k_ ≠ ((.slice Ao28 t607.length co28) : Value).ownBlock ∧ some k_ ≠ ((.slice Ao29 t610.length co29) : Value).ownBlock ∧ k_ ≠ gb596 ∧ k_ ≠ gb602 ∧ k_ ≠ gb614 ∧ k_ ≠ gb620) (.slice Ao33 t615.length co33) t615) ∧ Aside0 (wc.heap[gb596]? = some (.cells #[.int .i64 t585, (.slice Ao13 t586.length co13), (.slice Ao14 t589.length co14), (.slice Ao15 t592.length co15)] 27 (0, 0))) ∧ Aside0 (wc.heap[gb602]? = some (.cells #[u603000, .int .i64 x603001_8] 32 (0, 0))) ∧ Aside0 (wc.heap[gb614]? = some (.cells #[.int .i64 t603, (.slice Ao27 t604.length co27), (.slice Ao28 t607.length co28), (.slice Ao29 t610.length co29)] 27 (0, 0))) ∧ Aside0 (wc.heap[gb620]? = some (.cells #[(.slice Ao33 t615.length co33), .int .i64 t618] 32 (0, 0))) ∧ Aside0 (Below w.heap.size w wc))
  case first =>
   have H := HC9.out
   clear HC9
   replace H := ife H
   rcases H with ⟨-, c38b0, c38b1, H⟩ | ⟨c38, c38b0, c38b1, H⟩
   ·(rw [c38b0])
    have H' := Aside0.mk H
    clear H
    have hnb39 := NB602_596.out
    have hnc39 := NB596_602.out
    have hnb40 := NB602_614.out
    have hnc40 := NB614_602.out
    have hnb41 := NB602_620.out
    have hnc41 := NB620_602.out
    obtain ⟨hcz42_0, hcz42_1, hfz42_0, hfz42_1⟩ := b2 BK602
    go_wp2_with (((with_reducible refine gate_store (t := 32) (p := 7) rfl ?_); refine stE 32 7 ((((w32.setCell ⟨gb620, 0, none⟩ (.slice Ao33 t615.length co33)).setCell ⟨gb620, 1, none⟩ (.int .i64 t618)).setCell ⟨gb602, 0, none⟩ (.slice none 0 0)).setCell ⟨gb602, 1, none⟩ (.int .i64 0)) ?_; intro w43 hw; have n0_ := rst HO588 hw; have n1_ := rsm (fun k_ => some k_ ≠ (.slice Ao15 t592.length co15 : Value).ownBlock ∧ some k_ ≠ (.slice Ao28 t607.length co28 : Value).ownBlock ∧ some k_ ≠ (.slice Ao29 t610.length co29 : Value).ownBlock) HO591 hw (fun _ hk => ⟨hk.1, ⟨hk.2.1, hk.2.2⟩⟩); have n2_ := rsm (fun k_ => some k_ ≠ (.slice Ao14 t589.length co14 : Value).ownBlock ∧ some k_ ≠ (.slice Ao28 t607.length co28 : Value).ownBlock ∧ some k_ ≠ (.slice Ao29 t610.length co29 : Value).ownBlock) HO594 hw (fun _ hk => ⟨hk.1, ⟨hk.2.1, hk.2.2⟩⟩); have n3_ : Aside0 (Kd.V k64 64 w43 w.heap.size (fun k_ => some k_ ≠ (.slice Ao13 t586.length co13 : Value).ownBlock ∧ some k_ ≠ (.slice Ao14 t589.length co14 : Value).ownBlock ∧ some k_ ≠ (.slice Ao15 t592.length co15 : Value).ownBlock ∧ some k_ ≠ (.slice Ao27 t604.length co27 : Value).ownBlock ∧ some k_ ≠ (.slice Ao28 t607.length co28 : Value).ownBlock ∧ some k_ ≠ (.slice Ao29 t610.length co29 : Value).ownBlock ∧ k_ ≠ gb596 ∧ k_ ≠ gb602 ∧ k_ ≠ gb614 ∧ k_ ≠ gb620) (.slice Ao19 t597.length co19) t597) := ⟨(by rw [hw]; exact (by exact Kd.V_mono (Kd.V_far (p := ⟨gb602, 1, none⟩) (Kd.V_far (p := ⟨gb602, 0, none⟩) (Kd.V_far (p := ⟨gb620, 1, none⟩) (Kd.V_far (p := ⟨gb620, 0, none⟩) (Kd.V_mono (Kd.V_mono HO599.out (fun k_ hk => (⟨hk, hk.2⟩ : _ ∧ k_ ≠ gb620))) (fun k_ hk => (⟨hk, hk.1.1.2.2.2.2.2.2.2.1⟩ : _ ∧ k_ ≠ gb602))) (fun _ hk => hk.1.2) (.slice Ao33 t615.length co33)) (fun _ hk => hk.1.2) (.int .i64 t618)) (fun _ hk => hk.2) (.slice none 0 0)) (fun _ hk => hk.2) (.int .i64 0)) (fun _ hk => ⟨hk.1.1.1.1, ⟨hk.1.1.1.2.1, ⟨hk.1.1.1.2.2.1, ⟨hk.1.1.1.2.2.2.1, ⟨hk.1.1.1.2.2.2.2.1, ⟨hk.1.1.1.2.2.2.2.2.1, ⟨hk.1.1.1.2.2.2.2.2.2.1, ⟨hk.1.1.1.2.2.2.2.2.2.2.1, ⟨hk.1.1.1.2.2.2.2.2.2.2.2, hk.1.1.2⟩⟩⟩⟩⟩⟩⟩⟩⟩)))⟩; have n4_ := rst HO606 hw; have n5_ := rsm (fun k_ => some k_ ≠ (.slice Ao14 t589.length co14 : Value).ownBlock ∧ some k_ ≠ (.slice Ao15 t592.length co15 : Value).ownBlock ∧ some k_ ≠ (.slice Ao29 t610.length co29 : Value).ownBlock) HO609 hw (fun _ hk => ⟨hk.1, ⟨hk.2.1, hk.2.2⟩⟩); have n6_ := rsm (fun k_ => some k_ ≠ (.slice Ao14 t589.length co14 : Value).ownBlock ∧ some k_ ≠ (.slice Ao15 t592.length co15 : Value).ownBlock ∧ some k_ ≠ (.slice Ao28 t607.length co28 : Value).ownBlock) HO612 hw (fun _ hk => ⟨hk.1, ⟨hk.2.1, hk.2.2⟩⟩); have n7_ : Aside0 (Kd.V k64 64 w43 w.heap.size (fun k_ => some k_ ≠ (.slice Ao13 t586.length co13 : Value).ownBlock ∧ some k_ ≠ (.slice Ao14 t589.length co14 : Value).ownBlock ∧ some k_ ≠ (.slice Ao15 t592.length co15 : Value).ownBlock ∧ some k_ ≠ (.slice Ao27 t604.length co27 : Value).ownBlock ∧ some k_ ≠ (.slice Ao28 t607.length co28 : Value).ownBlock ∧ some k_ ≠ (.slice Ao29 t610.length co29 : Value).ownBlock ∧ k_ ≠ gb596 ∧ k_ ≠ gb602 ∧ k_ ≠ gb614 ∧ k_ ≠ gb620) (.slice Ao33 t615.length co33) t615) := ⟨(by rw [hw]; exact (by exact Kd.V_mono (Kd.V_far (p := ⟨gb602, 1, none⟩) (Kd.V_far (p := ⟨gb602, 0, none⟩) (Kd.V_far (p := ⟨gb620, 1, none⟩) (Kd.V_far (p := ⟨gb620, 0, none⟩) (Kd.V_mono (Kd.V_mono HO617.out (fun k_ hk => (⟨hk, hk.2⟩ : _ ∧ k_ ≠ gb620))) (fun k_ hk => (⟨hk, hk.1.1.2.2.2.2.2.2.2.1⟩ : _ ∧ k_ ≠ gb602))) (fun _ hk => hk.1.2) (.slice Ao33 t615.length co33)) (fun _ hk => hk.1.2) (.int .i64 t618)) (fun _ hk => hk.2) (.slice none 0 0)) (fun _ hk => hk.2) (.int .i64 0)) (fun _ hk => ⟨hk.1.1.1.1, ⟨hk.1.1.1.2.1, ⟨hk.1.1.1.2.2.1, ⟨hk.1.1.1.2.2.2.1, ⟨hk.1.1.1.2.2.2.2.1, ⟨hk.1.1.1.2.2.2.2.2.1, ⟨hk.1.1.1.2.2.2.2.2.2.1, ⟨hk.1.1.1.2.2.2.2.2.2.2.1, ⟨hk.1.1.1.2.2.2.2.2.2.2.2, hk.1.1.2⟩⟩⟩⟩⟩⟩⟩⟩⟩)))⟩; have n8_ : Aside0 (w43.heap[gb596]? = some (.cells #[.int .i64 t585, .slice Ao13 t586.length co13, .slice Ao14 t589.length co14, .slice Ao15 t592.length co15] 27 (0, 0))) := ⟨(by rw [hw]; exact (bx BK596.out))⟩; have n9_ := sps #[.slice none 0 0, .int .i64 0] BK602 hw (.p (.p (.f NB602_620 (.f NB602_620 .nil)))); have n10_ : Aside0 (w43.heap[gb614]? = some (.cells #[.int .i64 t603, .slice Ao27 t604.length co27, .slice Ao28 t607.length co28, .slice Ao29 t610.length co29] 27 (0, 0))) := ⟨(by rw [hw]; exact (bx BK614.out))⟩; have n11_ := sps #[.slice Ao33 t615.length co33, .int .i64 t618] BK620 hw (.f NB620_602 (.f NB620_602 (.p (.p .nil)))); have n12_ := bhw HB hw; clear hw HO588 HO591 HO594 HO599 HO606 HO609 HO612 HO617 BK596 BK602 BK614 BK620 HB; have HO588 := n0_; have HO591 := n1_; have HO594 := n2_; have HO599 := n3_; have HO606 := n4_; have HO609 := n5_; have HO612 := n6_; have HO617 := n7_; have BK596 := n8_; have BK602 := n9_; have BK614 := n10_; have BK620 := n11_; have HB := n12_; clear n0_ n1_ n2_ n3_ n4_ n5_ n6_ n7_ n8_ n9_ n10_ n11_ n12_))
    go_meet
    case rel => exact ⟨_, (1), (([] : List (S64))), (0), (.slice none 0 0), (by rfl), H', ⟨by omega⟩, ⟨by exact HO588.out⟩, ⟨by exact HO591.out⟩, ⟨by exact HO594.out⟩, ⟨Kd.V_nil _ _ _ _ _⟩, ⟨by exact HO606.out⟩, ⟨by exact HO609.out⟩, ⟨by exact HO612.out⟩, ⟨by exact HO617.out⟩, ⟨bx BK596.out⟩, ⟨bx BK602.out⟩, ⟨bx BK614.out⟩, ⟨bx BK620.out⟩, ⟨bh HB.out⟩⟩
   ·(rw [c38b0])
    have H' := Aside0.mk H
    clear H
    go_wp2
    go_meet
    case rel => exact ⟨_, (t601), (t597), (t600), (.slice Ao19 t597.length co19), (by rfl), H', ⟨by omega⟩, ⟨by exact Kd.R_mono (Kd.R_far (p := ⟨gb620, 1, none⟩) (Kd.R_far (p := ⟨gb620, 0, none⟩) (Kd.R_types HO588.out BK620.out (by decide)) (fun _ hk => hk.2) (.slice Ao33 t615.length co33)) (fun _ hk => hk.2) (.int .i64 t618)) (fun _ hk => hk.1)⟩, ⟨by exact Kd.R_mono (Kd.R_far (p := ⟨gb620, 1, none⟩) (Kd.R_far (p := ⟨gb620, 0, none⟩) (Kd.R_types HO591.out BK620.out (by decide)) (fun _ hk => hk.2) (.slice Ao33 t615.length co33)) (fun _ hk => hk.2) (.int .i64 t618)) (fun _ hk => ⟨hk.1.1, ⟨hk.1.2.1, hk.1.2.2⟩⟩)⟩, ⟨by exact Kd.R_mono (Kd.R_far (p := ⟨gb620, 1, none⟩) (Kd.R_far (p := ⟨gb620, 0, none⟩) (Kd.R_types HO594.out BK620.out (by decide)) (fun _ hk => hk.2) (.slice Ao33 t615.length co33)) (fun _ hk => hk.2) (.int .i64 t618)) (fun _ hk => ⟨hk.1.1, ⟨hk.1.2.1, hk.1.2.2⟩⟩)⟩, ⟨by exact Kd.V_mono (Kd.V_far (p := ⟨gb620, 1, none⟩) (Kd.V_far (p := ⟨gb620, 0, none⟩) (Kd.V_mono HO599.out (fun k_ hk => (⟨hk, hk.2⟩ : _ ∧ k_ ≠ gb620))) (fun _ hk => hk.2) (.slice Ao33 t615.length co33)) (fun _ hk => hk.2) (.int .i64 t618)) (fun _ hk => ⟨hk.1.1.1, ⟨hk.1.1.2.1, ⟨hk.1.1.2.2.1, ⟨hk.1.1.2.2.2.1, ⟨hk.1.1.2.2.2.2.1, ⟨hk.1.1.2.2.2.2.2.1, ⟨hk.1.1.2.2.2.2.2.2.1, ⟨hk.1.1.2.2.2.2.2.2.2.1, ⟨hk.1.1.2.2.2.2.2.2.2.2, hk.1.2⟩⟩⟩⟩⟩⟩⟩⟩⟩)⟩, ⟨by exact Kd.R_mono (Kd.R_far (p := ⟨gb620, 1, none⟩) (Kd.R_far (p := ⟨gb620, 0, none⟩) (Kd.R_types HO606.out BK620.out (by decide)) (fun _ hk => hk.2) (.slice Ao33 t615.length co33)) (fun _ hk => hk.2) (.int .i64 t618)) (fun _ hk => hk.1)⟩, ⟨by exact Kd.R_mono (Kd.R_far (p := ⟨gb620, 1, none⟩) (Kd.R_far (p := ⟨gb620, 0, none⟩) (Kd.R_types HO609.out BK620.out (by decide)) (fun _ hk => hk.2) (.slice Ao33 t615.length co33)) (fun _ hk => hk.2) (.int .i64 t618)) (fun _ hk => ⟨hk.1.1, ⟨hk.1.2.1, hk.1.2.2⟩⟩)⟩, ⟨by exact Kd.R_mono (Kd.R_far (p := ⟨gb620, 1, none⟩) (Kd.R_far (p := ⟨gb620, 0, none⟩) (Kd.R_types HO612.out BK620.out (by decide)) (fun _ hk => hk.2) (.slice Ao33 t615.length co33)) (fun _ hk => hk.2) (.int .i64 t618)) (fun _ hk => ⟨hk.1.1, ⟨hk.1.2.1, hk.1.2.2⟩⟩)⟩, ⟨by exact Kd.V_mono (Kd.V_far (p := ⟨gb620, 1, none⟩) (Kd.V_far (p := ⟨gb620, 0, none⟩) (Kd.V_mono HO617.out (fun k_ hk => (⟨hk, hk.2⟩ : _ ∧ k_ ≠ gb620))) (fun _ hk => hk.2) (.slice Ao33 t615.length co33)) (fun _ hk => hk.2) (.int .i64 t618)) (fun _ hk => ⟨hk.1.1.1, ⟨hk.1.1.2.1, ⟨hk.1.1.2.2.1, ⟨hk.1.1.2.2.2.1, ⟨hk.1.1.2.2.2.2.1, ⟨hk.1.1.2.2.2.2.2.1, ⟨hk.1.1.2.2.2.2.2.2.1, ⟨hk.1.1.2.2.2.2.2.2.2.1, ⟨hk.1.1.2.2.2.2.2.2.2.2, hk.1.2⟩⟩⟩⟩⟩⟩⟩⟩⟩)⟩, ⟨bx BK596.out⟩, ⟨bx BK602.out⟩, ⟨bx BK614.out⟩, ⟨by refine blk_put (cs := #[.slice Ao33 t615.length co33, .int .i64 0]) ?_ 1 _ rfl; refine blk_put (cs := #[.slice none 0 0, .int .i64 0]) ?_ 0 _ rfl; exact BK620.out⟩, ⟨bh HB.out⟩⟩
  case rest =>
   clear HC9 hcz12_0 hcz12_1 hcz12_2 hcz12_3 hcz21_0 hcz21_1 hcz26_0 hcz26_1 hcz26_2 hcz26_3 hcz37_0 hcz37_1 hfz12_0 hfz12_1 hfz12_2 hfz12_3 hfz21_0 hfz21_1 hfz26_0 hfz26_1 hfz26_2 hfz26_3 hfz37_0 hfz37_1
   obtain ⟨kq, x8_8, x603000_8, x603001_8, u603000, rfl, HA, HJ8, HO_597001, HO_597002, HO_597003, HO_603000, HO_615001, HO_615002, HO_615003, HO_621000, BK596, BK602, BK614, BK620, HB⟩ := hcut
   cases kq with
   | zero => exact absurd HA.out (by simp [peristylelaw16_PoslistOf.j0])
   | succ kj8 =>
    have H := HA.out
    clear HA
    simp only [peristylelaw16_PoslistOf.j0] at H
    have HC44 := Aside0.mk H
    clear H
    go_upto_region 10 with (fail)
    go_cut [50] (fun v50 wc => ∃ (kq : Nat) (x50_43 : Bool), v50 = .bool x50_43 ∧ Aside0 (peristylelaw16_PoslistOf.j1 kq l0 t595 t613 x50_43 t585 t586 t589 t592 x603000_8 x603001_8 t603 t604 t607 t610 t615 t618 = some r) ∧ Aside0 (kq ≤ kj8) ∧ Aside0 (Kd.R k64 64 wc w.heap.size (fun k_ => some k_ ≠ ((.slice Ao27 t604.length co27) : Value).ownBlock) (.slice Ao13 t586.length co13) t586) ∧ Aside0 (Kd.R (Kd.int .i64) 3 wc w.heap.size (fun k_ => some k_ ≠ ((.slice Ao15 t592.length co15) : Value).ownBlock ∧ some k_ ≠ ((.slice Ao28 t607.length co28) : Value).ownBlock ∧ some k_ ≠ ((.slice Ao29 t610.length co29) : Value).ownBlock) (.slice Ao14 t589.length co14) t589) ∧ Aside0 (Kd.R (Kd.int .i64) 3 wc w.heap.size (fun k_ => some k_ ≠ ((.slice Ao14 t589.length co14) : Value).ownBlock ∧ some k_ ≠ ((.slice Ao28 t607.length co28) : Value).ownBlock ∧ some k_ ≠ ((.slice Ao29 t610.length co29) : Value).ownBlock) (.slice Ao15 t592.length co15) t592) ∧ Aside0 (Kd.V k64 64 wc w.heap.size (fun k_ => some k_ ≠ ((.slice Ao13 t586.length co13) : Value).ownBlock ∧ some k_ ≠ ((.slice Ao14 t589.length co14) : Value).ownBlock ∧ some k_ ≠ ((.slice Ao15 t592.length co15) : Value).ownBlock ∧ some k_ ≠ ((.slice Ao27 t604.length co27) : Value).ownBlock ∧ some k_ ≠ ((.slice Ao28 t607.length co28) : Value).ownBlock ∧ some k_ ≠ ((.slice Ao29 t610.length co29) : Value).ownBlock ∧ k_ ≠ gb596 ∧ k_ ≠ gb602 ∧ k_ ≠ gb614 ∧ k_ ≠ gb620) u603000 x603000_8) ∧ Aside0 (Kd.R k64 64 wc w.heap.size (fun k_ => some k_ ≠ ((.slice Ao13 t586.length co13) : Value).ownBlock) (.slice Ao27 t604.length co27) t604) ∧ Aside0 (Kd.R (Kd.int .i64) 3 wc w.heap.size (fun k_ => some k_ ≠ ((.slice Ao14 t589.length co14) : Value).ownBlock ∧ some k_ ≠ ((.slice Ao15 t592.length co15) : Value).ownBlock ∧ some k_ ≠ ((.slice Ao29 t610.length co29) : Value).ownBlock) (.slice Ao28 t607.length co28) t607) ∧ Aside0 (Kd.R (Kd.int .i64) 3 wc w.heap.size (fun k_ => some k_ ≠ ((.slice Ao14 t589.length co14) : Value).ownBlock ∧ some k_ ≠ ((.slice Ao15 t592.length co15) : Value).ownBlock ∧ some k_ ≠ ((.slice Ao28 t607.length co28) : Value).ownBlock) (.slice Ao29 t610.length co29) t610) ∧ Aside0 (Kd.V k64 64 wc w.heap.size (fun k_ => some k_ ≠ ((.slice Ao13 t586.length co13) : Value).ownBlock ∧ some k_ ≠ ((.slice Ao14 t589.length co14) : Value).ownBlock ∧ some k_ ≠ ((.slice Ao15 t592.length co15) : Value).ownBlock ∧ some k_ ≠ ((.slice Ao27 t604.length co27) : Value).ownBlock ∧ some k_ ≠ ((.slice Ao28 t607.length co28) : Value).ownBlock ∧ some k_ ≠ ((.slice Ao29 t610.length co29) : Value).ownBlock ∧ k_ ≠ gb596 ∧ k_ ≠ gb602 ∧ k_ ≠ gb614 ∧ k_ ≠ gb620) (.slice Ao33 t615.length co33) t615) ∧ Aside0 (wc.heap[gb596]? = some (.cells #[.int .i64 t585, (.slice Ao13 t586.length co13), (.slice Ao14 t589.length co14), (.slice Ao15 t592.length co15)] 27 (0, 0))) ∧ Aside0 (wc.heap[gb602]? = some (.cells #[u603000, .int .i64 x603001_8] 32 (0, 0))) ∧ Aside0 (wc.heap[gb614]? = some (.cells #[.int .i64 t603, (.slice Ao27 t604.length co27), (.slice Ao28 t607.length co28), (.slice Ao29 t610.length co29)] 27 (0, 0))) ∧ Aside0 (wc.heap[gb620]? = some (.cells #[(.slice Ao33 t615.length co33), .int .i64 t618] 32 (0, 0))) ∧ Aside0 (Below w.heap.size w wc))
    case first =>
     have H := HC44.out
     clear HC44
     replace H := ife H
     rcases H with ⟨-, c45b0, c45b1, H⟩ | ⟨c45, c45b0, c45b1, H⟩
     ·(skip)
      have H' := Aside0.mk H
      clear H
      go_wp2
      go_meet
      case rel => exact ⟨_, ((t613 != t619)), (by rfl), H', ⟨by have := HJ8.out; omega⟩, ⟨by exact HO_597001.out⟩, ⟨by exact HO_597002.out⟩, ⟨by exact HO_597003.out⟩, ⟨by exact HO_603000.out⟩, ⟨by exact HO_615001.out⟩, ⟨by exact HO_615002.out⟩, ⟨by exact HO_615003.out⟩, ⟨by exact HO_621000.out⟩, ⟨bx BK596.out⟩, ⟨bx BK602.out⟩, ⟨bx BK614.out⟩, ⟨bx BK620.out⟩, ⟨bh HB.out⟩⟩
     ·(skip)
      have H' := Aside0.mk H
      clear H
      go_wp2
      go_meet
      case rel => exact ⟨_, (true), (by rfl), H', ⟨by have := HJ8.out; omega⟩, ⟨by exact HO_597001.out⟩, ⟨by exact HO_597002.out⟩, ⟨by exact HO_597003.out⟩, ⟨by exact HO_603000.out⟩, ⟨by exact HO_615001.out⟩, ⟨by exact HO_615002.out⟩, ⟨by exact HO_615003.out⟩, ⟨by exact HO_621000.out⟩, ⟨bx BK596.out⟩, ⟨bx BK602.out⟩, ⟨bx BK614.out⟩, ⟨bx BK620.out⟩, ⟨bh HB.out⟩⟩
    case rest =>
     clear HC44
     obtain ⟨kq, x50_43, rfl, HA, HJ43, HO_597001, HO_597002, HO_597003, HO_603000, HO_615001, HO_615002, HO_615003, HO_621000, BK596, BK602, BK614, BK620, HB⟩ := hcut
     cases kq with
     | zero => exact absurd HA.out (by simp [peristylelaw16_PoslistOf.j1])
     | succ kj43 =>
      have H := HA.out
      clear HA
      simp only [peristylelaw16_PoslistOf.j1] at H
      replace H := ifb H
      rcases H with ⟨rfl, H⟩ | ⟨rfl, H⟩
      ·obtain rfl := Option.some.inj H
       go_wp2
       go_ret
       exact ⟨er, bh HB.out⟩
      ·have HC47 := Aside0.mk H
       clear H
       go_upto_region 12 with (fail)
       go_cut [68] (fun v68 wc => ∃ (kq : Nat) (x68_46 : Bool), v68 = .bool x68_46 ∧ Aside0 (peristylelaw16_PoslistOf.j2 kq l0 t613 x68_46 t603 t604 t607 t610 = some r) ∧ Aside0 (kq ≤ kj43) ∧ Aside0 (Kd.R k64 64 wc w.heap.size (fun k_ => some k_ ≠ ((.slice Ao27 t604.length co27) : Value).ownBlock) (.slice Ao13 t586.length co13) t586) ∧ Aside0 (Kd.R (Kd.int .i64) 3 wc w.heap.size (fun k_ => some k_ ≠ ((.slice Ao15 t592.length co15) : Value).ownBlock ∧ some k_ ≠ ((.slice Ao28 t607.length co28) : Value).ownBlock ∧ some k_ ≠ ((.slice Ao29 t610.length co29) : Value).ownBlock) (.slice Ao14 t589.length co14) t589) ∧ Aside0 (Kd.R (Kd.int .i64) 3 wc w.heap.size (fun k_ => some k_ ≠ ((.slice Ao14 t589.length co14) : Value).ownBlock ∧ some k_ ≠ ((.slice Ao28 t607.length co28) : Value).ownBlock ∧ some k_ ≠ ((.slice Ao29 t610.length co29) : Value).ownBlock) (.slice Ao15 t592.length co15) t592) ∧ Aside0 (Kd.V k64 64 wc w.heap.size (fun k_ => some k_ ≠ ((.slice Ao13 t586.length co13) : Value).ownBlock ∧ some k_ ≠ ((.slice Ao14 t589.length co14) : Value).ownBlock ∧ some k_ ≠ ((.slice Ao15 t592.length co15) : Value).ownBlock ∧ some k_ ≠ ((.slice Ao27 t604.length co27) : Value).ownBlock ∧ some k_ ≠ ((.slice Ao28 t607.length co28) : Value).ownBlock ∧ some k_ ≠ ((.slice Ao29 t610.length co29) : Value).ownBlock ∧ k_ ≠ gb596 ∧ k_ ≠ gb602 ∧ k_ ≠ gb614 ∧ k_ ≠ gb620) u603000 x603000_8) ∧ Aside0 (Kd.R k64 64 wc w.heap.size (fun k_ => some k_ ≠ ((.slice Ao13 t586.length co13) : Value).ownBlock) (.slice Ao27 t604.length co27) t604) ∧ Aside0 (Kd.R (Kd.int .i64) 3 wc w.heap.size (fun k_ => some k_ ≠ ((.slice Ao14 t589.length co14) : Value).ownBlock ∧ some k_ ≠ ((.slice Ao15 t592.length co15) : Value).ownBlock ∧ some k_ ≠ ((.slice Ao29 t610.length co29) : Value).ownBlock) (.slice Ao28 t607.length co28) t607) ∧ Aside0 (Kd.R (Kd.int .i64) 3 wc w.heap.size (fun k_ => some k_ ≠ ((.slice Ao14 t589.length co14) : Value).ownBlock ∧ some k_ ≠ ((.slice Ao15 t592.length co15) : Value).ownBlock ∧ some k_ ≠ ((.slice Ao28 t607.length co28) : Value).ownBlock) (.slice Ao29 t610.length co29) t610) ∧ Aside0 (Kd.V k64 64 wc w.heap.size (fun k_ => some k_ ≠ ((.slice Ao13 t586.length co13) : Value).ownBlock ∧ some k_ ≠ ((.slice Ao14 t589.length co14) : Value).ownBlock ∧ some k_ ≠ ((.slice Ao15 t592.length co15) : Value).ownBlock ∧ some k_ ≠ ((.slice Ao27 t604.length co27) : Value).ownBlock ∧ some k_ ≠ ((.slice Ao28 t607.length co28) : Value).ownBlock ∧ some k_ ≠ ((.slice Ao29 t610.length co29) : Value).ownBlock ∧ k_ ≠ gb596 ∧ k_ ≠ gb602 ∧ k_ ≠ gb614 ∧ k_ ≠ gb620) (.slice Ao33 t615.length co33) t615) ∧ Aside0 (wc.heap[gb596]? = some (.cells #[.int .i64 t585, (.slice Ao13 t586.length co13), (.slice Ao14 t589.length co14), (.slice Ao15 t592.length co15)] 27 (0, 0))) ∧ Aside0 (wc.heap[gb602]? = some (.cells #[u603000, .int .i64 x603001_8] 32 (0, 0))) ∧ Aside0 (wc.heap[gb614]? = some (.cells #[.int .i64 t603, (.slice Ao27 t604.length co27), (.slice Ao28 t607.length co28), (.slice Ao29 t610.length co29)] 27 (0, 0))) ∧ Aside0 (wc.heap[gb620]? = some (.cells #[(.slice Ao33 t615.length co33), .int .i64 t618] 32 (0, 0))) ∧ Aside0 (Below w.heap.size w wc))
       case first =>
        have H := HC47.out
        clear HC47
        replace H := ife H
        rcases H with ⟨-, c48b0, c48b1, H⟩ | ⟨c48, c48b0, c48b1, H⟩
        ·(skip)
         replace H := bd H
         obtain ⟨t621, A49, H⟩ := H
         replace H := ifb H
         rcases H with ⟨rfl, H⟩ | ⟨rfl, H⟩
         ·replace H := ife H
          rcases H with ⟨-, c51b0, c51b1, H⟩ | ⟨c51, c51b0, c51b1, H⟩
          ·replace H := bd H
           obtain ⟨t622, A52, H⟩ := H
           have H' := Aside0.mk H
           clear H
           have hnb53 := NB596_602.out
           have hnc53 := NB602_596.out
           have hnb54 := NB596_614.out
           have hnc54 := NB614_596.out
           have hnb55 := NB596_620.out
           have hnc55 := NB620_596.out
           obtain ⟨hcz56_0, hcz56_1, hcz56_2, hcz56_3, hfz56_0, hfz56_1, hfz56_2, hfz56_3⟩ := b4 BK596
           have hnb57 := NB602_614.out
           have hnc57 := NB614_602.out
           have hnb58 := NB602_620.out
           have hnc58 := NB620_602.out
           obtain ⟨hcz59_0, hcz59_1, hfz59_0, hfz59_1⟩ := b2 BK602
           obtain ⟨Ao60, co60, eo60⟩ := Kd.V_slice HO_603000.out
           subst eo60
           go_wp2_with (first | (go_at_call 13; (with_reducible refine (peristylelaw16_is.calls kj43 t585 _ _ t586 _ _ t589 _ _ t592 _ _ x603000_8 x603001_8 true _ ?side1 ?side2 ?side3 ?side4 ?side5 ?side6 ?side7 ?side8 A49.out).mono ?_); (case side1 => exact cx (Kd.R_reads' HO_597001.out).2.2); (case side2 => exact (Kd.R_reads' HO_597001.out).2.1); (case side3 => exact cx (Kd.R_reads' HO_597002.out).2.2); (case side4 => exact (Kd.R_reads' HO_597002.out).2.1); (case side5 => exact cx (Kd.R_reads' HO_597003.out).2.2); (case side6 => exact (Kd.R_reads' HO_597003.out).2.1); (case side7 => exact cx (Kd.V_reads' HO_603000.out).2.2); (case side8 => exact (Kd.V_reads' HO_603000.out).2.1); rintro e w61 ⟨rfl, hb⟩; replace HO_597001 := rba HO_597001 hb; replace HO_597002 := rba HO_597002 hb; replace HO_597003 := rba HO_597003 hb; replace HO_603000 := Aside0.mk (Kd.V_below (by exact HO_603000.out) hb); replace HO_615001 := rba HO_615001 hb; replace HO_615002 := rba HO_615002 hb; replace HO_615003 := rba HO_615003 hb; replace HO_621000 := Aside0.mk (Kd.V_below (by exact HO_621000.out) hb); replace BK596 := bba BK596 hb; replace BK602 := bba BK602 hb; replace BK614 := bba BK614 hb; replace BK620 := bba BK620 hb; replace HB := bsa HB hb; clear hb A49; have hnb62 := NB614_620.out; have hnc62 := NB620_614.out; obtain ⟨hcz63_0, hcz63_1, hcz63_2, hcz63_3, hfz63_0, hfz63_1, hfz63_2, hfz63_3⟩ := b4 BK614; obtain ⟨hcz64_0, hcz64_1, hfz64_0, hfz64_1⟩ := b2 BK620) | (go_at_call 13; (with_reducible refine (peristylelaw16_is.calls kj43 t603 _ _ t604 _ _ t607 _ _ t610 _ _ t615 t618 t622 _ ?side1 ?side2 ?side3 ?side4 ?side5 ?side6 ?side7 ?side8 A52.out).mono ?_); (case side1 => exact cx (Kd.R_reads' HO_615001.out).2.2); (case side2 => exact (Kd.R_reads' HO_615001.out).2.1); (case side3 => exact cx (Kd.R_reads' HO_615002.out).2.2); (case side4 => exact (Kd.R_reads' HO_615002.out).2.1); (case side5 => exact cx (Kd.R_reads' HO_615003.out).2.2); (case side6 => exact (Kd.R_reads' HO_615003.out).2.1); (case side7 => exact cx (Kd.V_reads' HO_621000.out).2.2); (case side8 => exact (Kd.V_reads' HO_621000.out).2.1); rintro e w65 ⟨rfl, hb⟩; replace HO_597001 := rba HO_597001 hb; replace HO_597002 := rba HO_597002 hb; replace HO_597003 := rba HO_597003 hb; replace HO_603000 := Aside0.mk (Kd.V_below (by exact HO_603000.out) hb); replace HO_615001 := rba HO_615001 hb; replace HO_615002 := rba HO_615002 hb; replace HO_615003 := rba HO_615003 hb; replace HO_621000 := Aside0.mk (Kd.V_below (by exact HO_621000.out) hb); replace BK596 := bba BK596 hb; replace BK602 := bba BK602 hb; replace BK614 := bba BK614 hb; replace BK620 := bba BK620 hb; replace HB := bsa HB hb; clear hb A52))
           go_meet
           case rel => exact ⟨_, (!t622), (by rfl), H', ⟨by have := HJ8.out; have := HJ43.out; omega⟩, ⟨by exact HO_597001.out⟩, ⟨by exact HO_597002.out⟩, ⟨by exact HO_597003.out⟩, ⟨by exact HO_603000.out⟩, ⟨by exact HO_615001.out⟩, ⟨by exact HO_615002.out⟩, ⟨by exact HO_615003.out⟩, ⟨by exact HO_621000.out⟩, ⟨bx BK596.out⟩, ⟨bx BK602.out⟩, ⟨bx BK614.out⟩, ⟨bx BK620.out⟩, ⟨bh HB.out⟩⟩
          ·have H' := Aside0.mk H
           clear H
           have hnb66 := NB596_602.out
           have hnc66 := NB602_596.out
           have hnb67 := NB596_614.out
           have hnc67 := NB614_596.out
           have hnb68 := NB596_620.out
           have hnc68 := NB620_596.out
           obtain ⟨hcz69_0, hcz69_1, hcz69_2, hcz69_3, hfz69_0, hfz69_1, hfz69_2, hfz69_3⟩ := b4 BK596
           have hnb70 := NB602_614.out
           have hnc70 := NB614_602.out
           have hnb71 := NB602_620.out
           have hnc71 := NB620_602.out
           obtain ⟨hcz72_0, hcz72_1, hfz72_0, hfz72_1⟩ := b2 BK602
           obtain ⟨Ao73, co73, eo73⟩ := Kd.V_slice HO_603000.out
           subst eo73
           go_wp2_with ((go_at_call 13; (with_reducible refine (peristylelaw16_is.calls kj43 t585 _ _ t586 _ _ t589 _ _ t592 _ _ x603000_8 x603001_8 true _ ?side1 ?side2 ?side3 ?side4 ?side5 ?side6 ?side7 ?side8 A49.out).mono ?_); (case side1 => exact cx (Kd.R_reads' HO_597001.out).2.2); (case side2 => exact (Kd.R_reads' HO_597001.out).2.1); (case side3 => exact cx (Kd.R_reads' HO_597002.out).2.2); (case side4 => exact (Kd.R_reads' HO_597002.out).2.1); (case side5 => exact cx (Kd.R_reads' HO_597003.out).2.2); (case side6 => exact (Kd.R_reads' HO_597003.out).2.1); (case side7 => exact cx (Kd.V_reads' HO_603000.out).2.2); (case side8 => exact (Kd.V_reads' HO_603000.out).2.1); rintro e w74 ⟨rfl, hb⟩; replace HO_597001 := rba HO_597001 hb; replace HO_597002 := rba HO_597002 hb; replace HO_597003 := rba HO_597003 hb; replace HO_603000 := Aside0.mk (Kd.V_below (by exact HO_603000.out) hb); replace HO_615001 := rba HO_615001 hb; replace HO_615002 := rba HO_615002 hb; replace HO_615003 := rba HO_615003 hb; replace HO_621000 := Aside0.mk (Kd.V_below (by exact HO_621000.out) hb); replace BK596 := bba BK596 hb; replace BK602 := bba BK602 hb; replace BK614 := bba BK614 hb; replace BK620 := bba BK620 hb; replace HB := bsa HB hb; clear hb A49))
           go_meet
           case rel => exact ⟨_, (false), (by rfl), H', ⟨by have := HJ8.out; have := HJ43.out; omega⟩, ⟨by exact HO_597001.out⟩, ⟨by exact HO_597002.out⟩, ⟨by exact HO_597003.out⟩, ⟨by exact HO_603000.out⟩, ⟨by exact HO_615001.out⟩, ⟨by exact HO_615002.out⟩, ⟨by exact HO_615003.out⟩, ⟨by exact HO_621000.out⟩, ⟨bx BK596.out⟩, ⟨bx BK602.out⟩, ⟨bx BK614.out⟩, ⟨bx BK620.out⟩, ⟨bh HB.out⟩⟩
         ·have H' := Aside0.mk H
          clear H
          have hnb75 := NB596_602.out
          have hnc75 := NB602_596.out
          have hnb76 := NB596_614.out
          have hnc76 := NB614_596.out
          have hnb77 := NB596_620.out
          have hnc77 := NB620_596.out
          obtain ⟨hcz78_0, hcz78_1, hcz78_2, hcz78_3, hfz78_0, hfz78_1, hfz78_2, hfz78_3⟩ := b4 BK596
          have hnb79 := NB602_614.out
          have hnc79 := NB614_602.out
          have hnb80 := NB602_620.out
          have hnc80 := NB620_602.out
          obtain ⟨hcz81_0, hcz81_1, hfz81_0, hfz81_1⟩ := b2 BK602
          obtain ⟨Ao82, co82, eo82⟩ := Kd.V_slice HO_603000.out
          subst eo82
          go_wp2_with ((go_at_call 13; (with_reducible refine (peristylelaw16_is.calls kj43 t585 _ _ t586 _ _ t589 _ _ t592 _ _ x603000_8 x603001_8 false _ ?side1 ?side2 ?side3 ?side4 ?side5 ?side6 ?side7 ?side8 A49.out).mono ?_); (case side1 => exact cx (Kd.R_reads' HO_597001.out).2.2); (case side2 => exact (Kd.R_reads' HO_597001.out).2.1); (case side3 => exact cx (Kd.R_reads' HO_597002.out).2.2); (case side4 => exact (Kd.R_reads' HO_597002.out).2.1); (case side5 => exact cx (Kd.R_reads' HO_597003.out).2.2); (case side6 => exact (Kd.R_reads' HO_597003.out).2.1); (case side7 => exact cx (Kd.V_reads' HO_603000.out).2.2); (case side8 => exact (Kd.V_reads' HO_603000.out).2.1); rintro e w83 ⟨rfl, hb⟩; replace HO_597001 := rba HO_597001 hb; replace HO_597002 := rba HO_597002 hb; replace HO_597003 := rba HO_597003 hb; replace HO_603000 := Aside0.mk (Kd.V_below (by exact HO_603000.out) hb); replace HO_615001 := rba HO_615001 hb; replace HO_615002 := rba HO_615002 hb; replace HO_615003 := rba HO_615003 hb; replace HO_621000 := Aside0.mk (Kd.V_below (by exact HO_621000.out) hb); replace BK596 := bba BK596 hb; replace BK602 := bba BK602 hb; replace BK614 := bba BK614 hb; replace BK620 := bba BK620 hb; replace HB := bsa HB hb; clear hb A49))
          go_meet
          case rel => exact ⟨_, (true), (by rfl), H', ⟨by have := HJ8.out; have := HJ43.out; omega⟩, ⟨by exact HO_597001.out⟩, ⟨by exact HO_597002.out⟩, ⟨by exact HO_597003.out⟩, ⟨by exact HO_603000.out⟩, ⟨by exact HO_615001.out⟩, ⟨by exact HO_615002.out⟩, ⟨by exact HO_615003.out⟩, ⟨by exact HO_621000.out⟩, ⟨bx BK596.out⟩, ⟨bx BK602.out⟩, ⟨bx BK614.out⟩, ⟨bx BK620.out⟩, ⟨bh HB.out⟩⟩
        ·(skip)
         replace H := ife H
         rcases H with ⟨-, c84b0, c84b1, H⟩ | ⟨c84, c84b0, c84b1, H⟩
         ·replace H := bd H
          obtain ⟨t623, A85, H⟩ := H
          have H' := Aside0.mk H
          clear H
          have hnb86 := NB614_596.out
          have hnc86 := NB596_614.out
          have hnb87 := NB614_602.out
          have hnc87 := NB602_614.out
          have hnb88 := NB614_620.out
          have hnc88 := NB620_614.out
          obtain ⟨hcz89_0, hcz89_1, hcz89_2, hcz89_3, hfz89_0, hfz89_1, hfz89_2, hfz89_3⟩ := b4 BK614
          have hnb90 := NB620_596.out
          have hnc90 := NB596_620.out
          have hnb91 := NB620_602.out
          have hnc91 := NB602_620.out
          obtain ⟨hcz92_0, hcz92_1, hfz92_0, hfz92_1⟩ := b2 BK620
          go_wp2_with ((go_at_call 13; (with_reducible refine (peristylelaw16_is.calls kj43 t603 _ _ t604 _ _ t607 _ _ t610 _ _ t615 t618 t623 _ ?side1 ?side2 ?side3 ?side4 ?side5 ?side6 ?side7 ?side8 A85.out).mono ?_); (case side1 => exact cx (Kd.R_reads' HO_615001.out).2.2); (case side2 => exact (Kd.R_reads' HO_615001.out).2.1); (case side3 => exact cx (Kd.R_reads' HO_615002.out).2.2); (case side4 => exact (Kd.R_reads' HO_615002.out).2.1); (case side5 => exact cx (Kd.R_reads' HO_615003.out).2.2); (case side6 => exact (Kd.R_reads' HO_615003.out).2.1); (case side7 => exact cx (Kd.V_reads' HO_621000.out).2.2); (case side8 => exact (Kd.V_reads' HO_621000.out).2.1); rintro e w93 ⟨rfl, hb⟩; replace HO_597001 := rba HO_597001 hb; replace HO_597002 := rba HO_597002 hb; replace HO_597003 := rba HO_597003 hb; replace HO_603000 := Aside0.mk (Kd.V_below (by exact HO_603000.out) hb); replace HO_615001 := rba HO_615001 hb; replace HO_615002 := rba HO_615002 hb; replace HO_615003 := rba HO_615003 hb; replace HO_621000 := Aside0.mk (Kd.V_below (by exact HO_621000.out) hb); replace BK596 := bba BK596 hb; replace BK602 := bba BK602 hb; replace BK614 := bba BK614 hb; replace BK620 := bba BK620 hb; replace HB := bsa HB hb; clear hb A85))
          go_meet
          case rel => exact ⟨_, (!t623), (by rfl), H', ⟨by have := HJ8.out; have := HJ43.out; omega⟩, ⟨by exact HO_597001.out⟩, ⟨by exact HO_597002.out⟩, ⟨by exact HO_597003.out⟩, ⟨by exact HO_603000.out⟩, ⟨by exact HO_615001.out⟩, ⟨by exact HO_615002.out⟩, ⟨by exact HO_615003.out⟩, ⟨by exact HO_621000.out⟩, ⟨bx BK596.out⟩, ⟨bx BK602.out⟩, ⟨bx BK614.out⟩, ⟨bx BK620.out⟩, ⟨bh HB.out⟩⟩
         ·have H' := Aside0.mk H
          clear H
          go_wp2
          go_meet
          case rel => exact ⟨_, (false), (by rfl), H', ⟨by have := HJ8.out; have := HJ43.out; omega⟩, ⟨by exact HO_597001.out⟩, ⟨by exact HO_597002.out⟩, ⟨by exact HO_597003.out⟩, ⟨by exact HO_603000.out⟩, ⟨by exact HO_615001.out⟩, ⟨by exact HO_615002.out⟩, ⟨by exact HO_615003.out⟩, ⟨by exact HO_621000.out⟩, ⟨bx BK596.out⟩, ⟨bx BK602.out⟩, ⟨bx BK614.out⟩, ⟨bx BK620.out⟩, ⟨bh HB.out⟩⟩
       case rest =>
        clear HC47
        obtain ⟨kq, x68_46, rfl, HA, HJ46, HO_597001, HO_597002, HO_597003, HO_603000, HO_615001, HO_615002, HO_615003, HO_621000, BK596, BK602, BK614, BK620, HB⟩ := hcut
        cases kq with
        | zero => exact absurd HA.out (by simp [peristylelaw16_PoslistOf.j2])
        | succ kj46 =>
         have H := HA.out
         clear HA
         simp only [peristylelaw16_PoslistOf.j2] at H
         replace H := ifb H
         rcases H with ⟨rfl, H⟩ | ⟨rfl, H⟩
         ·obtain rfl := Option.some.inj H
          go_wp2
          go_ret
          exact ⟨er, bh HB.out⟩
         ·have H' := Aside0.mk H
          clear H
          go_wp2
          go_loopg [13] kj46 (fun kq v13 w' => ∃ (x13_4 : Int), v13 = .int .i64 x13_4 ∧ Aside0 (peristylelaw16_PoslistOf.l0 kq l0 t613 x13_4 t603 t604 t607 t610 = some r) ∧ Aside0 (kq ≤ kj46) ∧ Aside0 (Kd.R k64 64 w' w.heap.size (fun k_ => some k_ ≠ ((.slice Ao27 t604.length co27) : Value).ownBlock) (.slice Ao13 t586.length co13) t586) ∧ Aside0 (Kd.R (Kd.int .i64) 3 w' w.heap.size (fun k_ => some k_ ≠ ((.slice Ao15 t592.length co15) : Value).ownBlock ∧ some k_ ≠ ((.slice Ao28 t607.length co28) : Value).ownBlock ∧ some k_ ≠ ((.slice Ao29 t610.length co29) : Value).ownBlock) (.slice Ao14 t589.length co14) t589) ∧ Aside0 (Kd.R (Kd.int .i64) 3 w' w.heap.size (fun k_ => some k_ ≠ ((.slice Ao14 t589.length co14) : Value).ownBlock ∧ some k_ ≠ ((.slice Ao28 t607.length co28) : Value).ownBlock ∧ some k_ ≠ ((.slice Ao29 t610.length co29) : Value).ownBlock) (.slice Ao15 t592.length co15) t592) ∧ Aside0 (Kd.V k64 64 w' w.heap.size (fun k_ => some k_ ≠ ((.slice Ao13 t586.length co13) : Value).ownBlock ∧ some k_ ≠ ((.slice Ao14 t589.length co14) : Value).ownBlock ∧ some k_ ≠ ((.slice Ao15 t592.length co15) : Value).ownBlock ∧ some k_ ≠ ((.slice Ao27 t604.length co27) : Value).ownBlock ∧ some k_ ≠ ((.slice Ao28 t607.length co28) : Value).ownBlock ∧ some k_ ≠ ((.slice Ao29 t610.length co29) : Value).ownBlock ∧ k_ ≠ gb596 ∧ k_ ≠ gb602 ∧ k_ ≠ gb614 ∧ k_ ≠ gb620) u603000 x603000_8) ∧ Aside0 (Kd.R k64 64 w' w.heap.size (fun k_ => some k_ ≠ ((.slice Ao13 t586.length co13) : Value).ownBlock) (.slice Ao27 t604.length co27) t604) ∧ Aside0 (Kd.R (Kd.int .i64) 3 w' w.heap.size (fun k_ => some k_ ≠ ((.slice Ao14 t589.length co14) : Value).ownBlock ∧ some k_ ≠ ((.slice Ao15 t592.length co15) : Value).ownBlock ∧ some k_ ≠ ((.slice Ao29 t610.length co29) : Value).ownBlock) (.slice Ao28 t607.length co28) t607) ∧ Aside0 (Kd.R (Kd.int .i64) 3 w' w.heap.size (fun k_ => some k_ ≠ ((.slice Ao14 t589.length co14) : Value).ownBlock ∧ some k_ ≠ ((.slice Ao15 t592.length co15) : Value).ownBlock ∧ some k_ ≠ ((.slice Ao28 t607.length co28) : Value).ownBlock) (.slice Ao29 t610.length co29) t610) ∧ Aside0 (Kd.V k64 64 w' w.heap.size (fun k_ => some k_ ≠ ((.slice Ao13 t586.length co13) : Value).ownBlock ∧ some k_ ≠ ((.slice Ao14 t589.length co14) : Value).ownBlock ∧ some k_ ≠ ((.slice Ao15 t592.length co15) : Value).ownBlock ∧ some k_ ≠ ((.slice Ao27 t604.length co27) : Value).ownBlock ∧ some k_ ≠ ((.slice Ao28 t607.length co28) : Value).ownBlock ∧ some k_ ≠ ((.slice Ao29 t610.length co29) : Value).ownBlock ∧ k_ ≠ gb596 ∧ k_ ≠ gb602 ∧ k_ ≠ gb614 ∧ k_ ≠ gb620) (.slice Ao33 t615.length co33) t615) ∧ Aside0 (w'.heap[gb596]? = some (.cells #[.int .i64 t585, (.slice Ao13 t586.length co13), (.slice Ao14 t589.length co14), (.slice Ao15 t592.length co15)] 27 (0, 0))) ∧ Aside0 (w'.heap[gb602]? = some (.cells #[u603000, .int .i64 x603001_8] 32 (0, 0))) ∧ Aside0 (w'.heap[gb614]? = some (.cells #[.int .i64 t603, (.slice Ao27 t604.length co27), (.slice Ao28 t607.length co28), (.slice Ao29 t610.length co29)] 27 (0, 0))) ∧ Aside0 (w'.heap[gb620]? = some (.cells #[(.slice Ao33 t615.length co33), .int .i64 t618] 32 (0, 0))) ∧ Aside0 (Below w.heap.size w w'))
          case atStart => exact ⟨(0), (by rfl), H', ⟨Nat.le_refl _⟩, ⟨by exact HO_597001.out⟩, ⟨by exact HO_597002.out⟩, ⟨by exact HO_597003.out⟩, ⟨by exact HO_603000.out⟩, ⟨by exact HO_615001.out⟩, ⟨by exact HO_615002.out⟩, ⟨by exact HO_615003.out⟩, ⟨by exact HO_621000.out⟩, ⟨bx BK596.out⟩, ⟨bx BK602.out⟩, ⟨bx BK614.out⟩, ⟨bx BK620.out⟩, ⟨bh HB.out⟩⟩
          case round =>
           clear H'
           obtain ⟨x13_4, rfl, HA, HK4, HO_597001, HO_597002, HO_597003, HO_603000, HO_615001, HO_615002, HO_615003, HO_621000, BK596, BK602, BK614, BK620, HB⟩ := hrel
           cases gk with
           | zero => exact absurd HA.out (by simp [peristylelaw16_PoslistOf.l0])
           | succ k4 =>
            have H := HA.out
            clear HA
            simp only [peristylelaw16_PoslistOf.l0] at H
            have HC95 := Aside0.mk H
            clear H
            go_upto_region 15 with (fail)
            go_cut [74] (fun v74 wc => ∃ (kq : Nat) (x74_94 : Bool), v74 = .bool x74_94 ∧ Aside0 (peristylelaw16_PoslistOf.j4 kq l0 t613 x13_4 x74_94 t603 t604 t607 t610 = some r) ∧ Aside0 (kq ≤ k4) ∧ Aside0 (Kd.R k64 64 wc w.heap.size (fun k_ => some k_ ≠ ((.slice Ao27 t604.length co27) : Value).ownBlock) (.slice Ao13 t586.length co13) t586) ∧ Aside0 (Kd.R (Kd.int .i64) 3 wc w.heap.size (fun k_ => some k_ ≠ ((.slice Ao15 t592.length co15) : Value).ownBlock ∧ some k_ ≠ ((.slice Ao28 t607.length co28) : Value).ownBlock ∧ some k_ ≠ ((.slice Ao29 t610.length co29) : Value).ownBlock) (.slice Ao14 t589.length co14) t589) ∧ Aside0 (Kd.R (Kd.int .i64) 3 wc w.heap.size (fun k_ => some k_ ≠ ((.slice Ao14 t589.length co14) : Value).ownBlock ∧ some k_ ≠ ((.slice Ao28 t607.length co28) : Value).ownBlock ∧ some k_ ≠ ((.slice Ao29 t610.length co29) : Value).ownBlock) (.slice Ao15 t592.length co15) t592) ∧ Aside0 (Kd.V k64 64 wc w.heap.size (fun k_ => some k_ ≠ ((.slice Ao13 t586.length co13) : Value).ownBlock ∧ some k_ ≠ ((.slice Ao14 t589.length co14) : Value).ownBlock ∧ some k_ ≠ ((.slice Ao15 t592.length co15) : Value).ownBlock ∧ some k_ ≠ ((.slice Ao27 t604.length co27) : Value).ownBlock ∧ some k_ ≠ ((.slice Ao28 t607.length co28) : Value).ownBlock ∧ some k_ ≠ ((.slice Ao29 t610.length co29) : Value).ownBlock ∧ k_ ≠ gb596 ∧ k_ ≠ gb602 ∧ k_ ≠ gb614 ∧ k_ ≠ gb620) u603000 x603000_8) ∧ Aside0 (Kd.R k64 64 wc w.heap.size (fun k_ => some k_ ≠ ((.slice Ao13 t586.length co13) : Value).ownBlock) (.slice Ao27 t604.length co27) t604) ∧ Aside0 (Kd.R (Kd.int .i64) 3 wc w.heap.size (fun k_ => some k_ ≠ ((.slice Ao14 t589.length co14) : Value).ownBlock ∧ some k_ ≠ ((.slice Ao15 t592.length co15) : Value).ownBlock ∧ some k_ ≠ ((.slice Ao29 t610.length co29) : Value).ownBlock) (.slice Ao28 t607.length co28) t607) ∧ Aside0 (Kd.R (Kd.int .i64) 3 wc w.heap.size (fun k_ => some k_ ≠ ((.slice Ao14 t589.length co14) : Value).ownBlock ∧ some k_ ≠ ((.slice Ao15 t592.length co15) : Value).ownBlock ∧ some k_ ≠ ((.slice Ao28 t607.length co28) : Value).ownBlock) (.slice Ao29 t610.length co29) t610) ∧ Aside0 (Kd.V k64 64 wc w.heap.size (fun k_ => some k_ ≠ ((.slice Ao13 t586.length co13) : Value).ownBlock ∧ some k_ ≠ ((.slice Ao14 t589.length co14) : Value).ownBlock ∧ some k_ ≠ ((.slice Ao15 t592.length co15) : Value).ownBlock ∧ some k_ ≠ ((.slice Ao27 t604.length co27) : Value).ownBlock ∧ some k_ ≠ ((.slice Ao28 t607.length co28) : Value).ownBlock ∧ some k_ ≠ ((.slice Ao29 t610.length co29) : Value).ownBlock ∧ k_ ≠ gb596 ∧ k_ ≠ gb602 ∧ k_ ≠ gb614 ∧ k_ ≠ gb620) (.slice Ao33 t615.length co33) t615) ∧ Aside0 (wc.heap[gb596]? = some (.cells #[.int .i64 t585, (.slice Ao13 t586.length co13), (.slice Ao14 t589.length co14), (.slice Ao15 t592.length co15)] 27 (0, 0))) ∧ Aside0 (wc.heap[gb602]? = some (.cells #[u603000, .int .i64 x603001_8] 32 (0, 0))) ∧ Aside0 (wc.heap[gb614]? = some (.cells #[.int .i64 t603, (.slice Ao27 t604.length co27), (.slice Ao28 t607.length co28), (.slice Ao29 t610.length co29)] 27 (0, 0))) ∧ Aside0 (wc.heap[gb620]? = some (.cells #[(.slice Ao33 t615.length co33), .int .i64 t618] 32 (0, 0))) ∧ Aside0 (Below w.heap.size w wc))
            case first =>
             have H := HC95.out
             clear HC95
             replace H := ifd H
             rcases H with ⟨-, c96b0, H⟩ | ⟨-, c96b0, H⟩
             ·(skip)
              have H' := Aside0.mk H
              clear H
              go_wp2
              go_meet
              case rel => exact ⟨_, ((t613 == 0)), (by rfl), H', ⟨by have := HJ8.out; have := HJ43.out; have := HJ46.out; have := HK4.out; omega⟩, ⟨by exact HO_597001.out⟩, ⟨by exact HO_597002.out⟩, ⟨by exact HO_597003.out⟩, ⟨by exact HO_603000.out⟩, ⟨by exact HO_615001.out⟩, ⟨by exact HO_615002.out⟩, ⟨by exact HO_615003.out⟩, ⟨by exact HO_621000.out⟩, ⟨bx BK596.out⟩, ⟨bx BK602.out⟩, ⟨bx BK614.out⟩, ⟨bx BK620.out⟩, ⟨bh HB.out⟩⟩
             ·(skip)
              have H' := Aside0.mk H
              clear H
              go_wp2
              go_meet
              case rel => exact ⟨_, (false), (by rfl), H', ⟨by have := HJ8.out; have := HJ43.out; have := HJ46.out; have := HK4.out; omega⟩, ⟨by exact HO_597001.out⟩, ⟨by exact HO_597002.out⟩, ⟨by exact HO_597003.out⟩, ⟨by exact HO_603000.out⟩, ⟨by exact HO_615001.out⟩, ⟨by exact HO_615002.out⟩, ⟨by exact HO_615003.out⟩, ⟨by exact HO_621000.out⟩, ⟨bx BK596.out⟩, ⟨bx BK602.out⟩, ⟨bx BK614.out⟩, ⟨bx BK620.out⟩, ⟨bh HB.out⟩⟩
            case rest =>
             clear HC95
             obtain ⟨kq, x74_94, rfl, HA, HJ94, HO_597001, HO_597002, HO_597003, HO_603000, HO_615001, HO_615002, HO_615003, HO_621000, BK596, BK602, BK614, BK620, HB⟩ := hcut
             cases kq with
             | zero => exact absurd HA.out (by simp [peristylelaw16_PoslistOf.j4])
             | succ kj94 =>
              have H := HA.out
              clear HA
              simp only [peristylelaw16_PoslistOf.j4] at H
              replace H := ifb H
              rcases H with ⟨rfl, H⟩ | ⟨rfl, H⟩
              ·replace H := bd H
               obtain ⟨t625, A98, H⟩ := H
               replace H := bd H
               obtain ⟨t626, A99, H⟩ := H
               replace H := ife H
               rcases H with ⟨-, c100b0, c100b1, H⟩ | ⟨c100, c100b0, c100b1, H⟩
               ·have H' := Aside0.mk H
                clear H
                have hnb101 := NB614_596.out
                have hnc101 := NB596_614.out
                have hnb102 := NB614_602.out
                have hnc102 := NB602_614.out
                have hnb103 := NB614_620.out
                have hnc103 := NB620_614.out
                obtain ⟨hcz104_0, hcz104_1, hcz104_2, hcz104_3, hfz104_0, hfz104_1, hfz104_2, hfz104_3⟩ := b4 BK614
                go_wp2_with (first | ((with_reducible refine gate_callee (f := 14) rfl ?_); refine gL 79 Tryz.func14 #[.agg #[.int .i64 t603, .slice Ao27 t604.length co27, .slice Ao28 t607.length co28, .slice Ao29 t610.length co29], .int .i64 x13_4] ?_; (with_reducible refine (poslist_List_Cost.calls kj94 t603 _ _ t604 _ _ t607 _ _ t610 x13_4 t625 _ ?side1 ?side2 ?side3 ?side4 ?side5 ?side6 A98.out).mono ?_); (case side1 => exact cx (Kd.R_reads' HO_615001.out).2.2); (case side2 => exact (Kd.R_reads' HO_615001.out).2.1); (case side3 => exact cx (Kd.R_reads' HO_615002.out).2.2); (case side4 => exact (Kd.R_reads' HO_615002.out).2.1); (case side5 => exact cx (Kd.R_reads' HO_615003.out).2.2); (case side6 => exact (Kd.R_reads' HO_615003.out).2.1); rintro e w105 ⟨rfl, hb⟩; refine ⟨_, rfl, ?_⟩; replace HO_597001 := rba HO_597001 hb; replace HO_597002 := rba HO_597002 hb; replace HO_597003 := rba HO_597003 hb; replace HO_603000 := Aside0.mk (Kd.V_below (by exact HO_603000.out) hb); replace HO_615001 := rba HO_615001 hb; replace HO_615002 := rba HO_615002 hb; replace HO_615003 := rba HO_615003 hb; replace HO_621000 := Aside0.mk (Kd.V_below (by exact HO_621000.out) hb); replace BK596 := bba BK596 hb; replace BK602 := bba BK602 hb; replace BK614 := bba BK614 hb; replace BK620 := bba BK620 hb; replace HB := bsa HB hb; clear hb) | ((with_reducible refine gate_callee (f := 15) rfl ?_); refine gL 82 Tryz.func15 #[.slice A0 l0.length c0, .int .i64 x13_4] ?_; (with_reducible refine (peristyleref16_Cost.calls kj94 _ _ l0 x13_4 t626 _ ?side1 ?side2 A99.out).mono ?_); (case side1 => exact cx (Kd.C_below HR0.out HB.out)); (case side2 => exact HC0.out); rintro e w106 ⟨rfl, hb⟩; refine ⟨_, rfl, ?_⟩; replace HO_597001 := rba HO_597001 hb; replace HO_597002 := rba HO_597002 hb; replace HO_597003 := rba HO_597003 hb; replace HO_603000 := Aside0.mk (Kd.V_below (by exact HO_603000.out) hb); replace HO_615001 := rba HO_615001 hb; replace HO_615002 := rba HO_615002 hb; replace HO_615003 := rba HO_615003 hb; replace HO_621000 := Aside0.mk (Kd.V_below (by exact HO_621000.out) hb); replace BK596 := bba BK596 hb; replace BK602 := bba BK602 hb; replace BK614 := bba BK614 hb; replace BK620 := bba BK620 hb; replace HB := bsa HB hb; clear hb))
                go_roundg kj94
                case measure => have := HJ8.out; have := HJ43.out; have := HJ46.out; have := HK4.out; have := HJ94.out; omega
                case rel => exact ⟨(wrap64 (x13_4 + 1)), (by rfl), H', ⟨by have := HJ8.out; have := HJ43.out; have := HJ46.out; have := HK4.out; have := HJ94.out; omega⟩, ⟨by exact HO_597001.out⟩, ⟨by exact HO_597002.out⟩, ⟨by exact HO_597003.out⟩, ⟨by exact HO_603000.out⟩, ⟨by exact HO_615001.out⟩, ⟨by exact HO_615002.out⟩, ⟨by exact HO_615003.out⟩, ⟨by exact HO_621000.out⟩, ⟨bx BK596.out⟩, ⟨bx BK602.out⟩, ⟨bx BK614.out⟩, ⟨bx BK620.out⟩, ⟨bh HB.out⟩⟩
               ·obtain rfl := Option.some.inj H
                have hnb107 := NB614_596.out
                have hnc107 := NB596_614.out
                have hnb108 := NB614_602.out
                have hnc108 := NB602_614.out
                have hnb109 := NB614_620.out
                have hnc109 := NB620_614.out
                obtain ⟨hcz110_0, hcz110_1, hcz110_2, hcz110_3, hfz110_0, hfz110_1, hfz110_2, hfz110_3⟩ := b4 BK614
                go_wp2_with (first | ((with_reducible refine gate_callee (f := 14) rfl ?_); refine gL 79 Tryz.func14 #[.agg #[.int .i64 t603, .slice Ao27 t604.length co27, .slice Ao28 t607.length co28, .slice Ao29 t610.length co29], .int .i64 x13_4] ?_; (with_reducible refine (poslist_List_Cost.calls kj94 t603 _ _ t604 _ _ t607 _ _ t610 x13_4 t625 _ ?side1 ?side2 ?side3 ?side4 ?side5 ?side6 A98.out).mono ?_); (case side1 => exact cx (Kd.R_reads' HO_615001.out).2.2); (case side2 => exact (Kd.R_reads' HO_615001.out).2.1); (case side3 => exact cx (Kd.R_reads' HO_615002.out).2.2); (case side4 => exact (Kd.R_reads' HO_615002.out).2.1); (case side5 => exact cx (Kd.R_reads' HO_615003.out).2.2); (case side6 => exact (Kd.R_reads' HO_615003.out).2.1); rintro e w111 ⟨rfl, hb⟩; refine ⟨_, rfl, ?_⟩; replace HO_597001 := rba HO_597001 hb; replace HO_597002 := rba HO_597002 hb; replace HO_597003 := rba HO_597003 hb; replace HO_603000 := Aside0.mk (Kd.V_below (by exact HO_603000.out) hb); replace HO_615001 := rba HO_615001 hb; replace HO_615002 := rba HO_615002 hb; replace HO_615003 := rba HO_615003 hb; replace HO_621000 := Aside0.mk (Kd.V_below (by exact HO_621000.out) hb); replace BK596 := bba BK596 hb; replace BK602 := bba BK602 hb; replace BK614 := bba BK614 hb; replace BK620 := bba BK620 hb; replace HB := bsa HB hb; clear hb) | ((with_reducible refine gate_callee (f := 15) rfl ?_); refine gL 82 Tryz.func15 #[.slice A0 l0.length c0, .int .i64 x13_4] ?_; (with_reducible refine (peristyleref16_Cost.calls kj94 _ _ l0 x13_4 t626 _ ?side1 ?side2 A99.out).mono ?_); (case side1 => exact cx (Kd.C_below HR0.out HB.out)); (case side2 => exact HC0.out); rintro e w112 ⟨rfl, hb⟩; refine ⟨_, rfl, ?_⟩; replace HO_597001 := rba HO_597001 hb; replace HO_597002 := rba HO_597002 hb; replace HO_597003 := rba HO_597003 hb; replace HO_603000 := Aside0.mk (Kd.V_below (by exact HO_603000.out) hb); replace HO_615001 := rba HO_615001 hb; replace HO_615002 := rba HO_615002 hb; replace HO_615003 := rba HO_615003 hb; replace HO_621000 := Aside0.mk (Kd.V_below (by exact HO_621000.out) hb); replace BK596 := bba BK596 hb; replace BK602 := bba BK602 hb; replace BK614 := bba BK614 hb; replace BK620 := bba BK620 hb; replace HB := bsa HB hb; clear hb))
                go_ret
                exact ⟨er, bh HB.out⟩
              ·replace H := bd H
               obtain ⟨t624, A113, H⟩ := H
               obtain rfl := Option.some.inj H
               go_wp2_with (((with_reducible refine gate_callee (f := 9) rfl ?_); refine gL 84 Tryz.func9 #[] ?_; (with_reducible refine (peristylelaw16_awake.calls kj94  t624 _ A113.out).mono ?_); rintro e w114 ⟨rfl, hb⟩; refine ⟨_, rfl, ?_⟩; replace HO_597001 := rba HO_597001 hb; replace HO_597002 := rba HO_597002 hb; replace HO_597003 := rba HO_597003 hb; replace HO_603000 := Aside0.mk (Kd.V_below (by exact HO_603000.out) hb); replace HO_615001 := rba HO_615001 hb; replace HO_615002 := rba HO_615002 hb; replace HO_615003 := rba HO_615003 hb; replace HO_621000 := Aside0.mk (Kd.V_below (by exact HO_621000.out) hb); replace BK596 := bba BK596 hb; replace BK602 := bba BK602 hb; replace BK614 := bba BK614 hb; replace BK620 := bba BK620 hb; replace HB := bsa HB hb; clear hb))
               go_ret
               exact ⟨er, bh HB.out⟩
 ·replace H := bd H
  obtain ⟨t584, A115, H⟩ := H
  obtain rfl := Option.some.inj H
  go_enter Tryz.func3, Tryz.ntmps3
  go_wp2_with (first | ((with_reducible refine gate_callee (f := 8) rfl ?_); refine gL 15 Tryz.func8 #[.slice A0 l0.length c0] ?_; (with_reducible refine (peristyleref14_Few.calls k _ _ l0 false _ ?side1 ?side2 A3.out).mono ?_); (case side1 => exact cx HR0.out); (case side2 => exact HC0.out); rintro e w' ⟨rfl, ⟨nd, rfl⟩⟩; refine ⟨_, rfl, ?_⟩) | ((with_reducible refine gate_callee (f := 9) rfl ?_); refine gL 17 Tryz.func9 #[] ?_; (with_reducible refine (peristylelaw16_awake.calls k  t584 _ A115.out).mono ?_); rintro e w116 ⟨rfl, hb⟩; refine ⟨_, rfl, ?_⟩; replace HB := bsa HB hb; clear hb))
  go_ret
  exact ⟨er, bh HB.out⟩

/-- THE ONE PURE STATEMENT of peristylelaw16_PoslistOf: yours. -/
def peristylelaw16_PoslistOf.Pure : Prop := ∀ (l0 : List (S64)) (a1 : Int), (fun l : List (S64) => l.length ≤ maxLen ∧ l.length * 16 ≤ 140737488351232 ∧ ∀ x ∈ l, (fun x : S64 => (fun z : Int => (Lit.int .i64 z).wf = true) x.f0 ∧ (fun z : Int => (Lit.int .i64 z).wf = true) x.f1) x) l0 → (fun z : Int => (Lit.int .i64 z).wf = true) a1 → ∃ k, peristylelaw16_PoslistOf.f k l0 a1 = some true
theorem peristylelaw16_PoslistOf.walk (P : peristylelaw16_PoslistOf.Pure) (A0 : Option Addr) (c0 : Nat) (l0 : List (S64)) (a1 : Int) (w : World) (hr0 : Kd.C k64 w A0 l0.length l0) (hc0 : l0.length ≤ c0) (w0 : (fun l : List (S64) => l.length ≤ maxLen ∧ l.length * 16 ≤ 140737488351232 ∧ ∀ x ∈ l, (fun x : S64 => (fun z : Int => (Lit.int .i64 z).wf = true) x.f0 ∧ (fun z : Int => (Lit.int .i64 z).wf = true) x.f1) x) l0) (w1 : (fun z : Int => (Lit.int .i64 z).wf = true) a1) :
  Calls Tryz.prog 3 #[.slice A0 l0.length c0, .int .i64 a1] w fun e w' => e = .returned (.bool true) ∧ Below w.heap.size w w' := by
 obtain ⟨k, h⟩ := P l0 a1 w0 w1
 refine (peristylelaw16_PoslistOf.calls k _ _ l0 a1 true w hr0 hc0 h).mono ?_
 rintro e w' ⟨rfl, hd⟩
 exact ⟨rfl, hd⟩

end Go.Proofs.YtjgmdjieandemaaGreat.Print
end
section
namespace Go.Proofs.YtjgmdjieandemaaGreat.Print
open Go.RowKit Go.Proofs.YtjgmdjieandemaaGreatW.PrintWords Go.Proofs.YtjgmdjieandemaaGreatW.PrintLast Go.Proofs.YtjgmdjieandemaaGreatW.PrintMore
attribute [local go_sem] max2_int min2_int max_two min_two max_three min_three max_four min_four   -- for this text's walks alone
set_option linter.unusedVariables false
set_option linter.unusedSimpArgs false

/-! ### peristyleref14_Spans: function 50 -/
def peristyleref14_Spans.l0 : Nat → List Bool → List (S64) → Int → Option ((List (S64)))
 | 0, _, _, _ => none
 | k + 1, x0, x3, x4 => if x4 < (x0.length : Int) then (if 0 ≤ x4 then (if rdOf false x0 x4 = true then (if x4 > 0 then (if 0 ≤ (wrap64 (x4 - 1)) then (if (wrap64 (x4 - 1)) < (x0.length : Int) then (if rdOf false x0 (wrap64 (x4 - 1)) = true then (if 0 ≤ (wrap64 ((x3.length : Int) - 1)) then (if (wrap64 ((x3.length : Int) - 1)) < (x3.length : Int) then (peristyleref14_Spans.l0 k x0 (x3.set ((wrap64 ((x3.length : Int) - 1)) : Int).toNat (⟨(rd_T64 x3 (wrap64 ((x3.length : Int) - 1))).f0, wrap64 (((rd_T64 x3 (wrap64 ((x3.length : Int) - 1))).f1) + 1)⟩ : S64)) (wrap64 (x4 + 1))) else (none)) else (none)) else (if x3.length < 8796093022208 then (peristyleref14_Spans.l0 k x0 (x3 ++ [(⟨x4, wrap64 (x4 + 1)⟩ : S64)]) (wrap64 (x4 + 1))) else (none))) else (none)) else (none)) else (if x3.length < 8796093022208 then (peristyleref14_Spans.l0 k x0 (x3 ++ [(⟨x4, wrap64 (x4 + 1)⟩ : S64)]) (wrap64 (x4 + 1))) else (none))) else (peristyleref14_Spans.l0 k x0 x3 (wrap64 (x4 + 1)))) else (none)) else (some x3)
def peristyleref14_Spans.f (k : Nat) (l0 : List Bool) : Option ((List (S64))) := peristyleref14_Spans.l0 k l0 ([] : List (S64)) 0
/-! ### peristyleref14_Of: function 17 -/
end Go.Proofs.YtjgmdjieandemaaGreat.Print
end
section
namespace Go.Proofs.YtjgmdjieandemaaGreat.Print
open Go.RowKit Go.Proofs.YtjgmdjieandemaaGreatW.PrintWords Go.Proofs.YtjgmdjieandemaaGreatW.PrintLast Go.Proofs.YtjgmdjieandemaaGreatW.PrintMore
attribute [local go_sem] max2_int min2_int max_two min_two max_three min_three max_four min_four   -- for this text's walks alone
set_option linter.unusedVariables false
set_option linter.unusedSimpArgs false

/-! ### peristyleref14_Both: function 58 -/
mutual
def peristyleref14_Both.j0 : Nat → Int → List (S64) → List (S64) → Bool → Option ((List (S64)) × Int)
 | 0, _, _, _, _ => none
 | k + 1, x0, x1, x2, x20 => if x20 = true then (some (([] : List (S64)), 1)) else ((peristyleref14_Top.f x1).bind fun t695 => ((peristyleref14_Top.f x2).bind fun t696 => ((peristyleref14_Set.f k x1 (mx t695 t696)).bind fun t697 => ((peristyleref14_Set.f k x2 (mx t695 t696)).bind fun t700 => (if 0 ≤ (mx t695 t696) then (if (mx t695 t696 : Int).toNat ≤ 281474976710656 then (peristyleref14_Both.l0 k x0 (mx t695 t696) t697 t700 (List.replicate (mx t695 t696 : Int).toNat false) 0) else (none)) else (none))))))
def peristyleref14_Both.l0 : Nat → Int → Int → List Bool → List Bool → List Bool → Int → Option ((List (S64)) × Int)
 | 0, _, _, _, _, _, _ => none
 | k + 1, x0, x8, x9, x10, x11, x12 => if x12 < x8 then (if x0 = 0 then (if 0 ≤ x12 then (if x12 < (x9.length : Int) then (if rdOf false x9 x12 = true then (if x12 < (x10.length : Int) then (if x12 < (x11.length : Int) then (peristyleref14_Both.l0 k x0 x8 x9 x10 (x11.set (x12 : Int).toNat (rdOf false x10 x12)) (wrap64 (x12 + 1))) else (none)) else (none)) else (if x12 < (x11.length : Int) then (peristyleref14_Both.l0 k x0 x8 x9 x10 (x11.set (x12 : Int).toNat false) (wrap64 (x12 + 1))) else (none))) else (none)) else (none)) else (if x0 = 1 then (if 0 ≤ x12 then (if x12 < (x9.length : Int) then (if rdOf false x9 x12 = true then (if x12 < (x11.length : Int) then (peristyleref14_Both.l0 k x0 x8 x9 x10 (x11.set (x12 : Int).toNat true) (wrap64 (x12 + 1))) else (none)) else (if x12 < (x10.length : Int) then (if x12 < (x11.length : Int) then (peristyleref14_Both.l0 k x0 x8 x9 x10 (x11.set (x12 : Int).toNat (rdOf false x10 x12)) (wrap64 (x12 + 1))) else (none)) else (none))) else (none)) else (none)) else (if 0 ≤ x12 then (if x12 < (x9.length : Int) then (if rdOf false x9 x12 = true then (if x12 < (x10.length : Int) then (if x12 < (x11.length : Int) then (peristyleref14_Both.l0 k x0 x8 x9 x10 (x11.set (x12 : Int).toNat (!(rdOf false x10 x12))) (wrap64 (x12 + 1))) else (none)) else (none)) else (if x12 < (x11.length : Int) then (peristyleref14_Both.l0 k x0 x8 x9 x10 (x11.set (x12 : Int).toNat false) (wrap64 (x12 + 1))) else (none))) else (none)) else (none)))) else ((peristyleref14_Spans.f k x11).bind fun t706 => (some (t706, 0)))
end
def peristyleref14_Both.f (k : Nat) (a0 : Int) (l1 : List (S64)) (l2 : List (S64)) : Option ((List (S64)) × Int) := (peristyleref14_May.f k l1).bind fun t693 => (if t693 = true then ((peristyleref14_May.f k l2).bind fun t694 => (peristyleref14_Both.j0 k a0 l1 l2 (!t694))) else (peristyleref14_Both.j0 k a0 l1 l2 true))
/-! ### peristyleref16_Both: function 23 -/
def peristyleref16_Both.f (k : Nat) (a0 : Int) (l1 : List (S64)) (l2 : List (S64)) : Option ((List (S64)) × Int) := (peristyleref14_Both.f k a0 l1 l2).bind fun bt722 => ((peristyleref16_Of.f k bt722.1 0).bind fun bt726 => (some (bt726.1, bt726.2.1)))
/-! ### words_Or_1: function 89 -/
def words_Or_1.f (a0 : Int) (a1 : Int) : Option (Int) := some (Go.bits .or .i64 a0 a1)
end Go.Proofs.YtjgmdjieandemaaGreat.Print
end
section
namespace Go.Proofs.YtjgmdjieandemaaGreat.Print
open Go.RowKit Go.Proofs.YtjgmdjieandemaaGreatW.PrintWords Go.Proofs.YtjgmdjieandemaaGreatW.PrintLast Go.Proofs.YtjgmdjieandemaaGreatW.PrintMore
attribute [local go_sem] max2_int min2_int max_two min_two max_three min_three max_four min_four   -- for this text's walks alone
set_option linter.unusedVariables false
set_option linter.unusedSimpArgs false

/-! ### words_both_fn89: function 85 -/
mutual
def words_both_fn89.j0 : Nat → List Int → List Int → Bool → Option (List Int × Int)
 | 0, _, _, _ => none
 | k + 1, x0, x1, x18 => if x18 = true then (some (([] : List Int), 1)) else (if 0 ≤ (mx (x0.length : Int) (x1.length : Int)) then (if (mx (x0.length : Int) (x1.length : Int) : Int).toNat ≤ 35184372088832 then ((some (List.replicate (mx (x0.length : Int) (x1.length : Int) : Int).toNat 0 : List Int)).bind fun y734 => (words_both_fn89.l0 k x0 x1 y734 (y734.length : Int) 0)) else (none)) else (none))
def words_both_fn89.l0 : Nat → List Int → List Int → List Int → Int → Int → Option (List Int × Int)
 | 0, _, _, _, _, _ => none
 | k + 1, x0, x1, x9, x26, x27 => if x27 < x26 then ((words_both_1.f x0 x27).bind fun t737 => ((words_both_1.f x1 x27).bind fun t738 => ((words_Or_1.f t737 t738).bind fun t739 => (if 0 ≤ x27 then (if x27 < (x9.length : Int) then (words_both_fn89.l0 k x0 x1 (x9.set (x27 : Int).toNat t739) x26 (wrap64 (x27 + 1))) else (none)) else (none))))) else ((words_trimmed.f k x9).bind fun t741 => (some (t741, 0)))
end
def words_both_fn89.f (k : Nat) (l0 : List Int) (l1 : List Int)  : Option (List Int × Int) := (words_May.f l0).bind fun t732 => (if t732 = true then ((words_May.f l1).bind fun t733 => (words_both_fn89.j0 k l0 l1 (!t733))) else (words_both_fn89.j0 k l0 l1 true))
/-! ### words_Or: function 59 -/
def words_Or.f (k : Nat) (l0 : List Int) (l1 : List Int) : Option (List Int × Int) := (words_both_fn89.f k l0 l1).bind fun bt744 => (some (bt744.1, bt744.2))
/-! ### span_Or_1: function 90 -/
def span_Or_1.f (a0_0 : Int) (a0_1 : Int) (a0_2 : Bool) (a0_3 : Bool) : Option (Bool) := if a0_2 = true then (some true) else (some a0_3)
/-! ### span_both_fn90: function 87 (a contract of the session's own) -/
section
attribute [local go_sem] Oper.semAt_some
def span_both_fn90.go : List S98 → List S64 → Option (List S64)
  | [], o => some o
  | x :: xs, o => (span_Or_1.f x.f0.f0 x.f0.f1 x.f1 x.f2).bind fun t => if t = true then ((span_adds.f o x.f0.f0 x.f0.f1).bind fun o2 => span_both_fn90.go xs o2) else span_both_fn90.go xs o
def span_both_fn90.f (k : Nat) (l0 l1 : List S64) : Option (List S64 × Int) := (span_May.f k l0).bind fun a => if a = true then ((span_May.f k l1).bind fun b => if b = true then ((span_parts_1.f k l0 l1).bind fun xs => (span_both_fn90.go xs []).bind fun o => some (o, 0)) else some (([] : List S64), 1)) else some (([] : List S64), 1)
end

/-! ### span_Or: function 60 -/
def span_Or.f (k : Nat) (l0 : List (S64)) (l1 : List (S64)) : Option ((List (S64)) × Int) := (span_both_fn90.f k l0 l1).bind fun bt749 => (some (bt749.1, bt749.2))
end Go.Proofs.YtjgmdjieandemaaGreat.Print
end
section
namespace Go.Proofs.YtjgmdjieandemaaGreat.Print
open Go.RowKit Go.Proofs.YtjgmdjieandemaaGreatW.PrintWords Go.Proofs.YtjgmdjieandemaaGreatW.PrintLast Go.Proofs.YtjgmdjieandemaaGreatW.PrintMore
attribute [local go_sem] max2_int min2_int max_two min_two max_three min_three max_four min_four   -- for this text's walks alone
set_option linter.unusedVariables false
set_option linter.unusedSimpArgs false

/-! ### poslist_List_together_fn59_fn60: function 55 -/
def poslist_List_together_fn59_fn60.j0 : Nat → Bool → Int → List (S64) → List Int → List Int → Int → List (S64) → List Int → List Int → Option (Int × (List (S64)) × List Int × List Int)
 | 0, _, _, _, _, _, _, _, _, _ => none
 | k + 1, x22, x754000, x754001, x754002, x754003, x755000, x755001, x755002, x755003 => if x22 = true then ((poslist_List_bits.f k x754000 x754001 x754002 x754003).bind fun t756 => ((poslist_List_bits.f k x755000 x755001 x755002 x755003).bind fun t759 => ((words_Or.f k t756 t759).bind fun bt762 => ((words_Spans.f k bt762.1).bind fun bt766 => ((poslist_best.f k bt766.1).bind fun bt770 => (some (bt770.1, bt770.2.1, bt770.2.2.1, bt770.2.2.2))))))) else ((poslist_List_Spans.f k x754000 x754001 x754002 x754003).bind fun t780 => ((poslist_List_Spans.f k x755000 x755001 x755002 x755003).bind fun t783 => ((span_Or.f k t780 t783).bind fun bt786 => ((poslist_best.f k bt786.1).bind fun bt790 => (some (bt790.1, bt790.2.1, bt790.2.2.1, bt790.2.2.2))))))
def poslist_List_together_fn59_fn60.f (k : Nat) (a0_0 : Int) (l0_1 : List (S64)) (l0_2 : List Int) (l0_3 : List Int) (a1_0 : Int) (l1_1 : List (S64)) (l1_2 : List Int) (l1_3 : List Int)   : Option (Int × (List (S64)) × List Int × List Int) := if a0_0 = 2 then (poslist_List_together_fn59_fn60.j0 k true a0_0 l0_1 l0_2 l0_3 a1_0 l1_1 l1_2 l1_3) else (poslist_List_together_fn59_fn60.j0 k (a1_0 == 2) a0_0 l0_1 l0_2 l0_3 a1_0 l1_1 l1_2 l1_3)
/-! ### poslist_List_Or: function 24 -/
def poslist_List_Or.f (k : Nat) (a0_0 : Int) (l0_1 : List (S64)) (l0_2 : List Int) (l0_3 : List Int) (a1_0 : Int) (l1_1 : List (S64)) (l1_2 : List Int) (l1_3 : List Int) : Option (Int × (List (S64)) × List Int × List Int) := (poslist_List_together_fn59_fn60.f k a0_0 l0_1 l0_2 l0_3 a1_0 l1_1 l1_2 l1_3).bind fun bt803 => (some (bt803.1, bt803.2.1, bt803.2.2.1, bt803.2.2.2))
end Go.Proofs.YtjgmdjieandemaaGreat.Print
end
section
namespace Go.Proofs.YtjgmdjieandemaaGreat.Print
open Go.RowKit Go.Proofs.YtjgmdjieandemaaGreatW.PrintWords Go.Proofs.YtjgmdjieandemaaGreatW.PrintLast Go.Proofs.YtjgmdjieandemaaGreatW.PrintMore
attribute [local go_sem] max2_int min2_int max_two min_two max_three min_three max_four min_four   -- for this text's walks alone
set_option linter.unusedVariables false
set_option linter.unusedSimpArgs false

/-! ### peristylelaw16_PoslistBoth: function 5 -/
def peristylelaw16_PoslistBoth.j0 : Nat → List (S64) → List (S64) → Int → Bool → Option (Bool)
 | 0, _, _, _, _ => none
 | k + 1, x0, x1, x2, x28 => if x28 = true then ((peristylelaw16_awake.f k).bind fun t817 => (some t817)) else ((poslist_Of.f k x0 (wrap64 (1 + (Int.tmod (Go.bits .and .i64 x2 255) 3)))).bind fun bt818 => ((poslist_Of.f k x1 (wrap64 (1 + (Int.tmod (Go.bits .and .i64 (x2 / 256) 255) 3)))).bind fun bt830 => (if bt818.2.2.2.2 = 0 then (if bt830.2.2.2.2 = 0 then ((poslist_List_And.f k bt818.1 bt818.2.1 bt818.2.2.1 bt818.2.2.2.1 bt830.1 bt830.2.1 bt830.2.2.1 bt830.2.2.2.1).bind fun bt842 => ((peristyleref16_Both.f k 0 x0 x1).bind fun bt852 => ((peristylelaw16_is.f k bt842.1 bt842.2.1 bt842.2.2.1 bt842.2.2.2 bt852.1 bt852.2).bind fun t856 => (if t856 = true then ((poslist_List_Or.f k bt818.1 bt818.2.1 bt818.2.2.1 bt818.2.2.2.1 bt830.1 bt830.2.1 bt830.2.2.1 bt830.2.2.2.1).bind fun bt857 => ((peristyleref16_Both.f k 1 x0 x1).bind fun bt867 => ((peristylelaw16_is.f k bt857.1 bt857.2.1 bt857.2.2.1 bt857.2.2.2 bt867.1 bt867.2).bind fun t871 => (if t871 = true then ((poslist_List_Less.f k bt818.1 bt818.2.1 bt818.2.2.1 bt818.2.2.2.1 bt830.1 bt830.2.1 bt830.2.2.1 bt830.2.2.2.1).bind fun bt872 => ((peristyleref16_Both.f k 2 x0 x1).bind fun bt882 => ((peristylelaw16_is.f k bt872.1 bt872.2.1 bt872.2.2.1 bt872.2.2.2 bt882.1 bt882.2).bind fun t886 => (if t886 = true then ((peristylelaw16_awake.f k).bind fun t887 => (some t887)) else (none))))) else (none))))) else (none))))) else (none)) else (none))))
/-! ### peristyleref14_Pick: function 30 -/
/-! ### words_Rank: function 68 -/
/-! ### span_Rank: function 70 -/
/-! ### poslist_List_Rank: function 32 -/
end Go.Proofs.YtjgmdjieandemaaGreat.Print
end
section
namespace Go.Proofs.YtjgmdjieandemaaGreat.Print
open Go.RowKit Go.Proofs.YtjgmdjieandemaaGreatW.PrintWords Go.Proofs.YtjgmdjieandemaaGreatW.PrintLast Go.Proofs.YtjgmdjieandemaaGreatW.PrintMore
attribute [local go_sem] max2_int min2_int max_two min_two max_three min_three max_four min_four   -- for this text's walks alone
set_option linter.unusedVariables false
set_option linter.unusedSimpArgs false

/-! ### peristyleref14_Rank: function 33 -/
def peristyleref14_Rank.l0 : Nat → Int → List Int → Int → Option (Int)
 | 0, _, _, _ => none
 | k + 1, x1, x5, x7 => if x7 < (x5.length : Int) then (if 0 ≤ x7 then (if (rd x5 x7) < x1 then (peristyleref14_Rank.l0 k x1 x5 (wrap64 (x7 + 1))) else (some x7)) else (none)) else (some x7)
/-! ### peristyleref14_Has: function 35 -/
/-! ### poslist_List_Slice: function 26 -/
/-! ### peristyleref16_Slice: function 36 -/
/-! ### poslist_List_As: function 37 -/
end Go.Proofs.YtjgmdjieandemaaGreat.Print
end
