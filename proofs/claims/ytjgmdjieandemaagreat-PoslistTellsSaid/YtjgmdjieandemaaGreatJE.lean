-- Functions and laws: texts of the session's own and of the kit's print program, joined; what nothing names is left out.
import Derived.Test.YtjgmdjieandemaaGreatJA
import Derived.Test.YtjgmdjieandemaaGreatJW
import Derived.Test.YtjgmdjieandemaaGreatJC
import Derived.Test.YtjgmdjieandemaaGreatJB
import Derived.Test.YtjgmdjieandemaaGreatJD
import Derived.Test.YtjgmdjieandemaaGreatJR
section
namespace Go.Proofs.YtjgmdjieandemaaGreat.Print
open Go.RowKit Go.Proofs.YtjgmdjieandemaaGreatW.PrintWords Go.Proofs.YtjgmdjieandemaaGreatW.PrintLast Go.Proofs.YtjgmdjieandemaaGreatW.PrintMore
attribute [local go_sem] max2_int min2_int max_two min_two max_three min_three max_four min_four   -- for this text's walks alone
set_option linter.unusedVariables false
set_option linter.unusedSimpArgs false

/-! ### peristylelaw16_is: function 13 -/
def peristylelaw16_is.f (k : Nat) (a0_0 : Int) (l0_1 : List (S64)) (l0_2 : List Int) (l0_3 : List Int) (l1_0 : List (S64)) (a1_1 : Int) : Option (Bool) := (peristyleref14_Places.f k l1_0).bind fun bt569 => ((poslist_List_Form.f a0_0 l0_1 l0_2 l0_3).bind fun t573 => (if t573 = a1_1 then ((poslist_List_Spans.f k a0_0 l0_1 l0_2 l0_3).bind fun t574 => ((peristyleref14_Same.f k t574 l1_0).bind fun t577 => (if t577 = true then ((poslist_List_Count.f k a0_0 l0_1 l0_2 l0_3).bind fun t578 => (if t578 = (bt569.1.length : Int) then ((peristylelaw16_listed.f k a0_0 l0_1 l0_2 l0_3).bind fun t579 => ((peristyleref01_Same.f k t579 bt569.1).bind fun t582 => (some t582))) else (none))) else (none)))) else (none)))
def peristylelaw16_is.T2 : Bool × List (List Nat × List Nat) := (true, [([], []), ([0], [0]), ([], []), ([2], [2]), ([1, 3], [1, 3]), ([4, 1], [4]), ([5], [5]), ([6, 5, 5], [5, 6]), ([5], [5]), ([8, 5], [5, 8]), ([7, 9, 7, 5], [5, 7, 9]), ([5, 10], [5, 10]), ([11, 10], [11]), ([12], [12]), ([13, 12, 12], [12, 13]), ([12], [12]), ([15, 12], [12, 15]), ([14, 16, 12], [12, 14, 16]), ([12, 17], [12, 17]), ([18, 14], [18]), ([19], [19]), ([20, 19, 19], [19, 20]), ([19], [19]), ([21, 22, 21, 19], [19, 21, 22]), ([19, 23], [19, 23]), ([24, 23, 0, 1, 2, 3, 4, 5, 6, 7, 8, 9, 10, 11, 12, 13, 14, 15, 16, 17, 18, 19, 20, 21, 22, 23, 24], [24])])
def peristylelaw16_is.B2 : List Nat := [0, 1, 0, 4, 15, 31, 63, 127, 63, 319, 1023, 2047, 4095, 8191, 16383, 8191, 40959, 131071, 262143, 524287, 1048575, 2097151, 1048575, 8388607, 16777215, 33554431]
theorem peristylelaw16_is.tab2 : rtab .any (opsOf Tryz.f13 2) = peristylelaw16_is.T2 := by kernel_rfl
theorem peristylelaw16_is.bits2 : waitsOk peristylelaw16_is.T2.2 peristylelaw16_is.B2 = true := by kernel_rfl
set_option maxHeartbeats 8000000 in
set_option maxRecDepth 100000 in
theorem peristylelaw16_is.calls (k : Nat) (a0_0 : Int) (A0_1 : Option Addr) (c0_1 : Nat) (l0_1 : List (S64)) (A0_2 : Option Addr) (c0_2 : Nat) (l0_2 : List Int) (A0_3 : Option Addr) (c0_3 : Nat) (l0_3 : List Int) (A1_0 : Option Addr) (c1_0 : Nat) (l1_0 : List (S64)) (a1_1 : Int) (r : Bool) (w : World) (hr0_1 : Kd.C k64 w A0_1 l0_1.length l0_1) (hc0_1 : l0_1.length ≤ c0_1) (hr0_2 : Kd.C (Kd.int .i64) w A0_2 l0_2.length l0_2) (hc0_2 : l0_2.length ≤ c0_2) (hr0_3 : Kd.C (Kd.int .i64) w A0_3 l0_3.length l0_3) (hc0_3 : l0_3.length ≤ c0_3) (hr1_0 : Kd.C k64 w A1_0 l1_0.length l1_0) (hc1_0 : l1_0.length ≤ c1_0) (h : peristylelaw16_is.f k a0_0 l0_1 l0_2 l0_3 l1_0 a1_1 = some r) :
  Calls Tryz.prog 13 #[.agg #[.int .i64 a0_0, .slice A0_1 l0_1.length c0_1, .slice A0_2 l0_2.length c0_2, .slice A0_3 l0_3.length c0_3], .agg #[.slice A1_0 l1_0.length c1_0, .int .i64 a1_1]] w fun e w' => e = .returned (.bool r) ∧ Below w.heap.size w w' := by
 have hu27 := Tryz.underlying27
 have hu32 := Tryz.underlying32
 have HR0_1 := Aside0.mk hr0_1
 have HC0_1 := Aside0.mk hc0_1
 clear hr0_1 hc0_1
 have HR0_2 := Aside0.mk hr0_2
 have HC0_2 := Aside0.mk hc0_2
 clear hr0_2 hc0_2
 have HR0_3 := Aside0.mk hr0_3
 have HC0_3 := Aside0.mk hc0_3
 clear hr0_3 hc0_3
 have HR1_0 := Aside0.mk hr1_0
 have HC1_0 := Aside0.mk hc1_0
 clear hr1_0 hc1_0
 have HB := Aside0.mk (Below.refl w.heap.size w)
 have H := h
 clear h
 unfold peristylelaw16_is.f at H
 replace H := bd H
 obtain ⟨⟨t569, t570⟩, A3, H⟩ := H
 dsimp only at H
 replace H := bd H
 obtain ⟨t573, A4, H⟩ := H
 replace H := ife H
 rcases H with ⟨-, c5b0, c5b1, H⟩ | ⟨-, -, -, ⟨⟩⟩
 replace H := bd H
 obtain ⟨t574, A6, H⟩ := H
 replace H := bd H
 obtain ⟨t577, A7, H⟩ := H
 replace H := ifb H
 rcases H with ⟨rfl, H⟩ | ⟨-, ⟨⟩⟩
 replace H := bd H
 obtain ⟨t578, A9, H⟩ := H
 replace H := ife H
 rcases H with ⟨-, c10b0, c10b1, H⟩ | ⟨-, -, -, ⟨⟩⟩
 replace H := bd H
 obtain ⟨t579, A11, H⟩ := H
 replace H := bd H
 obtain ⟨t582, A12, H⟩ := H
 obtain rfl := Option.some.inj H
 go_enter Tryz.func13, Tryz.ntmps13
 go_wp2_with (first | ((with_reducible refine gate_dst (N := 2) rfl ?_); ((refine gate_guard (by rfl) ?_; dsimp only)); refine boxE HB 2 27 #[.int .i64 a0_0, .slice A0_1 l0_1.length c0_1, .slice A0_2 l0_2.length c0_2, .slice A0_3 l0_3.length c0_3] ?_; clear HB; intro gb567 w13 BK567 GW567 hg hb HB; have GE567 := GW567; clear hb hg) | ((with_reducible refine gate_dst (N := 3) rfl ?_); ((refine gate_guard (by rfl) ?_; dsimp only)); refine boxE HB 3 32 #[.slice A1_0 l1_0.length c1_0, .int .i64 a1_1] ?_; clear HB; intro gb568 w14 BK568 GW568 hg hb HB; have GE568 := GW568; have NB567_568 := bna BK567 hg; have NB568_567 := bma BK567 hg; replace BK567 := bba BK567 hb; clear hb hg; have hnb15 := NB568_567.out; have hnc15 := NB567_568.out; obtain ⟨hcz16_0, hcz16_1, hfz16_0, hfz16_1⟩ := b2 BK568) | ((with_reducible refine gate_callee (f := 47) rfl ?_); refine gL 10 Tryz.func47 #[.slice A1_0 l1_0.length c1_0] ?_; (with_reducible refine (peristyleref14_Places.calls k _ _ l1_0 t569 t570 _ ?side1 ?side2 A3.out).mono ?_); (case side1 => exact cx (Kd.C_below HR1_0.out HB.out)); (case side2 => exact HC1_0.out); rintro e w17 ⟨v571, rfl, ho0, hb⟩; refine ⟨_, rfl, ?_⟩; have HO572 := Aside0.mk (Kd.R_lower ho0 (below_size (bh HB.out))); replace BK567 := bba BK567 hb; replace BK568 := bba BK568 hb; replace HB := bsa HB hb; clear hb ho0))
 replace HO572 := Aside0.mk (Kd.R_drew HO572.out)
 replace BK567 := Aside0.mk (blk_drew BK567.out)
 replace BK568 := Aside0.mk (blk_drew BK568.out)
 replace HB := Aside0.mk (below_drew1 HB.out)
 obtain ⟨A571_, c571_, hv571_⟩ := Kd.R_slice HO572.out
 have hln571_22_ := fun (w_ : World) => congrArg (fun v_ => (Builtin.len_ #[22] 3 #[v_]).run Tryz.prog w_) hv571_
 have hln571_25_ := fun (w_ : World) => congrArg (fun v_ => (Builtin.len_ #[25] 3 #[v_]).run Tryz.prog w_) hv571_
 have hln571_69_ := fun (w_ : World) => congrArg (fun v_ => (Builtin.len_ #[69] 3 #[v_]).run Tryz.prog w_) hv571_
 clear hv571_
 refine start_ (n := 26) (S := fun w' => w'.cell? ⟨gb567, 0, none⟩ = some (.int .i64 a0_0) ∧ w'.cell? ⟨gb567, 1, none⟩ = some (.slice A0_1 l0_1.length c0_1) ∧ w'.cell? ⟨gb567, 2, none⟩ = some (.slice A0_2 l0_2.length c0_2) ∧ w'.cell? ⟨gb567, 3, none⟩ = some (.slice A0_3 l0_3.length c0_3) ∧ w'.cell? ⟨gb568, 0, none⟩ = some (.slice A1_0 l1_0.length c1_0) ∧ w'.cell? ⟨gb568, 1, none⟩ = some (.int .i64 a1_1)) (ds := []) #[false, false, false, false, false, false, false, false, false, false, false, false, false, false, false, false, false, false, false, false, false, false, false, false, false, false] (by kernel_rfl) rfl rfl ⟨(blk_cell BK567.out 0).trans rfl, (blk_cell BK567.out 1).trans rfl, (blk_cell BK567.out 2).trans rfl, (blk_cell BK567.out 3).trans rfl, (blk_cell BK568.out 0).trans rfl, (blk_cell BK568.out 1).trans rfl⟩ (fun hHeld => ?_); refine with_tabW peristylelaw16_is.tab2 peristylelaw16_is.bits2 (fun HT_ HW_ => ?_)
 generalize w17.drew = w18 at HO572 BK567 BK568 HB hHeld ⊢
 refine puA HT_ 2 15 (bv 26 4) ?_
 refine taA HT_ HW_ hHeld 0 13 (bv 26 5) ?_
 refine taA HT_ HW_ hHeld 3 16 (bv 26 13) ?_
 refine one_ (i := 1) (N := some 14) #[true, true, true, true, false, false, false, false, false, false, false, false, false, false, false, false, false, false, false, false, false, false, false, false, false, false] rfl rfl (one_of HT_.out (by kernel_rfl)) (by decide) (fun K hK => ?_)
 refine goes_ Tryz.func28 (by kernel_rfl) rfl #[.agg #[.int .i64 a0_0, .slice A0_1 l0_1.length c0_1, .slice A0_2 l0_2.length c0_2, .slice A0_3 l0_3.length c0_3]] (by rfl) rfl rfl (by (simp only [List.map_toArray, List.map_cons, List.map_nil]); rfl) ?_
 with_reducible refine (poslist_List_Form.calls a0_0 _ _ l0_1 _ _ l0_2 _ _ l0_3 t573 _ ?side1 ?side2 ?side3 ?side4 ?side5 ?side6 A4.out).mono ?_
 (case side1 => exact cx (Kd.C_below HR0_1.out HB.out))
 (case side2 => exact HC0_1.out)
 (case side3 => exact cx (Kd.C_below HR0_2.out HB.out))
 (case side4 => exact HC0_2.out)
 (case side5 => exact cx (Kd.C_below HR0_3.out HB.out))
 (case side6 => exact HC0_3.out)
 rintro e w19 ⟨rfl, hb⟩
 refine ⟨_, rfl, ?_⟩
 replace HO572 := rba HO572 hb
 replace BK567 := bba BK567 hb
 replace BK568 := bba BK568 hb
 replace HB := bsa HB hb
 clear hb
 refine hK.out _ _ ⟨(blk_cell BK567.out 0).trans rfl, (blk_cell BK567.out 1).trans rfl, (blk_cell BK567.out 2).trans rfl, (blk_cell BK567.out 3).trans rfl, (blk_cell BK568.out 0).trans rfl, (blk_cell BK568.out 1).trans rfl⟩ (fun hHeld => ?_)
 clear hK K
 refine norm_ (a' := ?_) ?_ ?_
 rotate_left
 ·show Act.put _ (some 14) _ = _
  simp only [Act.put, List.setIfInBounds_toArray, List.set_cons_zero, List.set_cons_succ, i64_w, i32_w]
  rfl
 refine puA HT_ 4 17 (bv 26 31) ?_
 refine puA HT_ 5 18 (bv 26 63) ?_
 refine puA HT_ 8 21 (bv 26 319) ?_
 refine taA HT_ HW_ hHeld 6 19 (bv 26 383) ?_
 refine taA HT_ HW_ hHeld 9 22 (bv 26 895) ?_
 refine one_ (i := 7) (N := some 20) #[true, true, true, true, true, true, true, true, true, true, false, false, false, false, false, false, false, false, false, false, false, false, false, false, false, false] rfl rfl (one_of HT_.out (by kernel_rfl)) (by decide) (fun K hK => ?_)
 refine goes_ Tryz.func20 (by kernel_rfl) rfl #[.agg #[.int .i64 a0_0, .slice A0_1 l0_1.length c0_1, .slice A0_2 l0_2.length c0_2, .slice A0_3 l0_3.length c0_3]] (by rfl) rfl rfl (by (simp only [List.map_toArray, List.map_cons, List.map_nil]); rfl) ?_
 with_reducible refine (poslist_List_Spans.calls k a0_0 _ _ l0_1 _ _ l0_2 _ _ l0_3 t574 _ ?side1 ?side2 ?side3 ?side4 ?side5 ?side6 A6.out).mono ?_
 (case side1 => exact cx (Kd.C_below HR0_1.out HB.out))
 (case side2 => exact HC0_1.out)
 (case side3 => exact cx (Kd.C_below HR0_2.out HB.out))
 (case side4 => exact HC0_2.out)
 (case side5 => exact cx (Kd.C_below HR0_3.out HB.out))
 (case side6 => exact HC0_3.out)
 rintro e w20 ⟨v575, rfl, ho0, hb⟩
 refine ⟨_, rfl, ?_⟩
 replace HO572 := rba HO572 hb
 have HO576 := Aside0.mk (Kd.R_lower ho0 (below_size (bh HB.out)))
 replace BK567 := bba BK567 hb
 replace BK568 := bba BK568 hb
 replace HB := bsa HB hb
 clear hb ho0
 obtain ⟨Ao21, co21, eo21⟩ := Kd.R_slice HO576.out
 (subst eo21)
 refine hK.out _ _ ⟨(blk_cell BK567.out 0).trans rfl, (blk_cell BK567.out 1).trans rfl, (blk_cell BK567.out 2).trans rfl, (blk_cell BK567.out 3).trans rfl, (blk_cell BK568.out 0).trans rfl, (blk_cell BK568.out 1).trans rfl⟩ (fun hHeld => ?_)
 clear hK K
 refine norm_ (a' := ?_) ?_ ?_
 rotate_left
 ·show Act.put _ (some 20) _ = _
  simp only [Act.put, List.setIfInBounds_toArray, List.set_cons_zero, List.set_cons_succ, i64_w, i32_w]
  rfl
 refine one_ (i := 10) (N := some 23) #[true, true, true, true, true, true, true, true, true, true, true, false, false, false, false, false, false, false, false, false, false, false, false, false, false, false] rfl rfl (one_of HT_.out (by kernel_rfl)) (by decide) (fun K hK => ?_)
 refine goes_ Tryz.func27 (by kernel_rfl) rfl #[.slice Ao21 t574.length co21, .slice A1_0 l1_0.length c1_0] (by rfl) rfl rfl (by (simp only [List.map_toArray, List.map_cons, List.map_nil]); rfl) ?_
 with_reducible refine (peristyleref14_Same.calls k _ _ t574 _ _ l1_0 true _ ?side1 ?side2 ?side3 ?side4 A7.out).mono ?_
 (case side1 => exact cx (Kd.R_reads' HO576.out).2.2)
 (case side2 => exact (Kd.R_reads' HO576.out).2.1)
 (case side3 => exact cx (Kd.C_below HR1_0.out HB.out))
 (case side4 => exact HC1_0.out)
 rintro e w' ⟨rfl, ⟨nd, rfl⟩⟩
 refine ⟨_, rfl, ?_⟩
 refine hK.out _ _ ⟨(blk_cell BK567.out 0).trans rfl, (blk_cell BK567.out 1).trans rfl, (blk_cell BK567.out 2).trans rfl, (blk_cell BK567.out 3).trans rfl, (blk_cell BK568.out 0).trans rfl, (blk_cell BK568.out 1).trans rfl⟩ (fun hHeld => ?_)
 clear hK K
 refine norm_ (a' := ?_) ?_ ?_
 rotate_left
 ·show Act.put _ (some 23) _ = _
  simp only [Act.put, List.setIfInBounds_toArray, List.set_cons_zero, List.set_cons_succ, i64_w, i32_w]
  rfl
 refine puA HT_ 11 24 (bv 26 4095) ?_
 refine puA HT_ 12 25 (bv 26 8191) ?_
 refine puA HT_ 15 28 (bv 26 40959) ?_
 refine puA HT_ 16 29 (bv 26 106495) ?_
 refine taA HT_ HW_ hHeld 13 26 (bv 26 114687) ?_
 refine one_ (i := 14) (N := some 27) #[true, true, true, true, true, true, true, true, true, true, true, true, true, true, true, true, true, false, false, false, false, false, false, false, false, false] rfl rfl (one_of HT_.out (by kernel_rfl)) (by decide) (fun K hK => ?_)
 refine goes_ Tryz.func19 (by kernel_rfl) rfl #[.agg #[.int .i64 a0_0, .slice A0_1 l0_1.length c0_1, .slice A0_2 l0_2.length c0_2, .slice A0_3 l0_3.length c0_3]] (by rfl) rfl rfl (by (simp only [List.map_toArray, List.map_cons, List.map_nil]); rfl) ?_
 with_reducible refine (poslist_List_Count.calls k a0_0 _ _ l0_1 _ _ l0_2 _ _ l0_3 t578 _ ?side1 ?side2 ?side3 ?side4 ?side5 ?side6 A9.out).mono ?_
 (case side1 => repeat (exact (Kd.C_below HR0_1.out (bh HB.out))))
 (case side2 => exact HC0_1.out)
 (case side3 => repeat (exact (Kd.C_below HR0_2.out (bh HB.out))))
 (case side4 => exact HC0_2.out)
 (case side5 => repeat (exact (Kd.C_below HR0_3.out (bh HB.out))))
 (case side6 => exact HC0_3.out)
 rintro e w22 ⟨rfl, hb⟩
 refine ⟨_, rfl, ?_⟩
 replace HO572 := rba HO572 hb
 replace HO576 := rba HO576 hb
 replace BK567 := bba BK567 hb
 replace BK568 := bba BK568 hb
 replace HB := bsa HB hb
 clear hb
 obtain ⟨Ao23, co23, eo23⟩ := Kd.R_slice HO572.out
 (subst eo23)
 refine hK.out _ _ ⟨(blk_cell BK567.out 0).trans rfl, (blk_cell BK567.out 1).trans rfl, (blk_cell BK567.out 2).trans rfl, (blk_cell BK567.out 3).trans rfl, (blk_cell BK568.out 0).trans rfl, (blk_cell BK568.out 1).trans rfl⟩ (fun hHeld => ?_)
 clear hK K
 refine norm_ (a' := ?_) ?_ ?_
 rotate_left
 ·show Act.put _ (some 27) _ = _
  simp only [Act.put, List.setIfInBounds_toArray, List.set_cons_zero, List.set_cons_succ, i64_w, i32_w]
  rfl
 refine puA HT_ 17 30 (bv 26 262143) ?_
 refine puA HT_ 18 31 (bv 26 524287) ?_
 refine puA HT_ 19 32 (bv 26 1048575) ?_
 refine puA HT_ 22 35 (bv 26 5242879) ?_
 refine taA HT_ HW_ hHeld 20 33 (bv 26 6291455) ?_
 refine one_ (i := 21) (N := some 34) #[true, true, true, true, true, true, true, true, true, true, true, true, true, true, true, true, true, true, true, true, true, true, true, false, false, false] rfl rfl (one_of HT_.out (by kernel_rfl)) (by decide) (fun K hK => ?_)
 refine goes_ Tryz.func29 (by kernel_rfl) rfl #[.agg #[.int .i64 a0_0, .slice A0_1 l0_1.length c0_1, .slice A0_2 l0_2.length c0_2, .slice A0_3 l0_3.length c0_3]] (by rfl) rfl rfl (by (simp only [List.map_toArray, List.map_cons, List.map_nil]); rfl) ?_
 with_reducible refine (peristylelaw16_listed.calls k a0_0 _ _ l0_1 _ _ l0_2 _ _ l0_3 t579 _ ?side1 ?side2 ?side3 ?side4 ?side5 ?side6 A11.out).mono ?_
 (case side1 => exact cx (Kd.C_below HR0_1.out HB.out))
 (case side2 => exact HC0_1.out)
 (case side3 => exact cx (Kd.C_below HR0_2.out HB.out))
 (case side4 => exact HC0_2.out)
 (case side5 => exact cx (Kd.C_below HR0_3.out HB.out))
 (case side6 => exact HC0_3.out)
 rintro e w24 ⟨v580, rfl, ho0, hb⟩
 refine ⟨_, rfl, ?_⟩
 replace HO576 := rba HO576 hb
 have HO581 := Aside0.mk (Kd.R_lower (Kd.R_new' ho0 (Kd.R_lt (rx HO572.out))) (below_size (bh HB.out)))
 replace HO572 := Aside0.mk (Kd.R_elder' (rx HO572.out) (Kd.R_base ho0) hb)
 replace BK567 := bba BK567 hb
 replace BK568 := bba BK568 hb
 replace HB := bsa HB hb
 clear hb ho0
 obtain ⟨Ao25, co25, eo25⟩ := Kd.R_slice HO581.out
 (subst eo25)
 refine hK.out _ _ ⟨(blk_cell BK567.out 0).trans rfl, (blk_cell BK567.out 1).trans rfl, (blk_cell BK567.out 2).trans rfl, (blk_cell BK567.out 3).trans rfl, (blk_cell BK568.out 0).trans rfl, (blk_cell BK568.out 1).trans rfl⟩ (fun hHeld => ?_)
 clear hK K
 refine norm_ (a' := ?_) ?_ ?_
 rotate_left
 ·show Act.put _ (some 34) _ = _
  simp only [Act.put, List.setIfInBounds_toArray, List.set_cons_zero, List.set_cons_succ, i64_w, i32_w]
  rfl
 refine one_ (i := 23) (N := some 36) #[true, true, true, true, true, true, true, true, true, true, true, true, true, true, true, true, true, true, true, true, true, true, true, true, false, false] rfl rfl (one_of HT_.out (by kernel_rfl)) (by decide) (fun K hK => ?_)
 refine goes_ Tryz.func40 (by kernel_rfl) rfl #[.slice Ao25 t579.length co25, .slice Ao23 t569.length co23] (by rfl) rfl rfl (by (simp only [List.map_toArray, List.map_cons, List.map_nil]); rfl) ?_
 with_reducible refine (peristyleref01_Same.calls k _ _ t579 _ _ t569 t582 _ ?side1 ?side2 ?side3 ?side4 A12.out).mono ?_
 (case side1 => exact cx (Kd.R_reads' HO581.out).2.2)
 (case side2 => exact (Kd.R_reads' HO581.out).2.1)
 (case side3 => exact cx (Kd.R_reads' HO572.out).2.2)
 (case side4 => exact (Kd.R_reads' HO572.out).2.1)
 rintro e w' ⟨rfl, ⟨nd, rfl⟩⟩
 refine ⟨_, rfl, ?_⟩
 refine hK.out _ _ ⟨(blk_cell BK567.out 0).trans rfl, (blk_cell BK567.out 1).trans rfl, (blk_cell BK567.out 2).trans rfl, (blk_cell BK567.out 3).trans rfl, (blk_cell BK568.out 0).trans rfl, (blk_cell BK568.out 1).trans rfl⟩ (fun hHeld => ?_)
 clear hK K
 refine norm_ (a' := ?_) ?_ ?_
 rotate_left
 ·show Act.put _ (some 36) _ = _
  simp only [Act.put, List.setIfInBounds_toArray, List.set_cons_zero, List.set_cons_succ, i64_w, i32_w]
  rfl
 refine puA HT_ 24 37 (bv 26 33554431) ?_
 refine puA HT_ 25 4 (bv 26 67108863) ?_
 refine done_ (done_of HT_.out (by kernel_rfl)) ?_
 go_wp2
 go_ret
 exact ⟨er, bh HB.out⟩

end Go.Proofs.YtjgmdjieandemaaGreat.Print
end
section
namespace Go.Proofs.YtjgmdjieandemaaGreat.Print
open Go.RowKit Go.Proofs.YtjgmdjieandemaaGreatW.PrintWords Go.Proofs.YtjgmdjieandemaaGreatW.PrintLast Go.Proofs.YtjgmdjieandemaaGreatW.PrintMore
attribute [local go_sem] max2_int min2_int max_two min_two max_three min_three max_four min_four   -- for this text's walks alone
set_option linter.unusedVariables false
set_option linter.unusedSimpArgs false

/-! ### peristyleref14_Spans: function 50 -/
def peristyleref14_Spans.l0 : Nat → List Bool → List (S64) → Int → Option ((List (S64)))
 | 0, _, _, _ => none
 | k + 1, x0, x3, x4 => if x4 < (x0.length : Int) then (if 0 ≤ x4 then (if rdOf false x0 x4 = true then (if x4 > 0 then (if 0 ≤ (wrap64 (x4 - 1)) then (if (wrap64 (x4 - 1)) < (x0.length : Int) then (if rdOf false x0 (wrap64 (x4 - 1)) = true then (if 0 ≤ (wrap64 ((x3.length : Int) - 1)) then (if (wrap64 ((x3.length : Int) - 1)) < (x3.length : Int) then (peristyleref14_Spans.l0 k x0 (x3.set ((wrap64 ((x3.length : Int) - 1)) : Int).toNat (⟨(rd_T64 x3 (wrap64 ((x3.length : Int) - 1))).f0, wrap64 (((rd_T64 x3 (wrap64 ((x3.length : Int) - 1))).f1) + 1)⟩ : S64)) (wrap64 (x4 + 1))) else (none)) else (none)) else (if x3.length < 8796093022208 then (peristyleref14_Spans.l0 k x0 (x3 ++ [(⟨x4, wrap64 (x4 + 1)⟩ : S64)]) (wrap64 (x4 + 1))) else (none))) else (none)) else (none)) else (if x3.length < 8796093022208 then (peristyleref14_Spans.l0 k x0 (x3 ++ [(⟨x4, wrap64 (x4 + 1)⟩ : S64)]) (wrap64 (x4 + 1))) else (none))) else (peristyleref14_Spans.l0 k x0 x3 (wrap64 (x4 + 1)))) else (none)) else (some x3)
def peristyleref14_Spans.f (k : Nat) (l0 : List Bool) : Option ((List (S64))) := peristyleref14_Spans.l0 k l0 ([] : List (S64)) 0
theorem peristyleref14_Spans.l0_succ (k) (a0) (a1) (a2) : type_of% (@peristyleref14_Spans.l0.eq_2 a0 a1 a2 k) := peristyleref14_Spans.l0.eq_2 a0 a1 a2 k
set_option maxHeartbeats 8000000 in
set_option maxRecDepth 100000 in
theorem peristyleref14_Spans.calls (k : Nat) (A0 : Option Addr) (c0 : Nat) (l0 : List Bool) (r : List (S64)) (w : World) (hr0 : Kd.C Kd.bool w A0 l0.length l0) (hc0 : l0.length ≤ c0) (h : peristyleref14_Spans.f k l0 = some r) :
  Calls Tryz.prog 50 #[.slice A0 l0.length c0] w fun e w' => ∃ v0_ : Value, e = .returned (v0_) ∧ Kd.R k64 64 w' w.heap.size (fun _ => True) v0_ r ∧ Below w.heap.size w w' := by
 have hu64 := Tryz.underlying64
 have HR0 := Aside0.mk hr0
 have HC0 := Aside0.mk hc0
 clear hr0 hc0
 have HB := Aside0.mk (Below.refl w.heap.size w)
 have H := h
 clear h
 unfold peristyleref14_Spans.f at H
 have H' := Aside0.mk H
 clear H
 go_enter Tryz.func50, Tryz.ntmps50
 go_wp2
 go_loopg [3, 4] k (fun kq v3 v4 w' => ∃ (x3_1 : List (S64)) (x4_1 : Int), v4 = .int .i64 x4_1 ∧ Aside0 (peristyleref14_Spans.l0 kq l0 x3_1 x4_1 = some r) ∧ Aside0 (kq ≤ k) ∧ Aside0 (Kd.R k64 64 w' w.heap.size (fun _ => True) v3 x3_1) ∧ Aside0 (Below w.heap.size w w'))
 case atStart => exact ⟨(([] : List (S64))), (0), (by rfl), H', ⟨Nat.le_refl _⟩, ⟨nl⟩, ⟨bh HB.out⟩⟩
 case round =>
  clear H'
  obtain ⟨x3_1, x4_1, rfl, HA, HK1, HO_3, HB⟩ := hrel
  cases gk with
  | zero => exact absurd HA.out (by simp [peristyleref14_Spans.l0])
  | succ k1 =>
   have H := HA.out
   clear HA
   simp only [peristyleref14_Spans.l0] at H
   replace H := ifd H
   rcases H with ⟨-, c2b0, H⟩ | ⟨-, c2b0, H⟩
   ·replace H := ifn H
    obtain ⟨-, c3b0, H⟩ := H
    obtain ⟨bq4, hbq4⟩ : ∃ b_ : Bool, b_ = (rdOf false l0 x4_1) := ⟨_, rfl⟩
    replace H : (if bq4 = true then (if x4_1 > 0 then (if 0 ≤ (wrap64 (x4_1 - 1)) then (if (wrap64 (x4_1 - 1)) < (l0.length : Int) then (if rdOf false l0 (wrap64 (x4_1 - 1)) = true then (if 0 ≤ (wrap64 ((x3_1.length : Int) - 1)) then (if (wrap64 ((x3_1.length : Int) - 1)) < (x3_1.length : Int) then (peristyleref14_Spans.l0 k1 l0 (x3_1.set ((wrap64 ((x3_1.length : Int) - 1)) : Int).toNat (⟨(rd_T64 x3_1 (wrap64 ((x3_1.length : Int) - 1))).f0, wrap64 (((rd_T64 x3_1 (wrap64 ((x3_1.length : Int) - 1))).f1) + 1)⟩ : S64)) (wrap64 (x4_1 + 1))) else (none)) else (none)) else (if x3_1.length < 8796093022208 then (peristyleref14_Spans.l0 k1 l0 (x3_1 ++ [(⟨x4_1, wrap64 (x4_1 + 1)⟩ : S64)]) (wrap64 (x4_1 + 1))) else (none))) else (none)) else (none)) else (if x3_1.length < 8796093022208 then (peristyleref14_Spans.l0 k1 l0 (x3_1 ++ [(⟨x4_1, wrap64 (x4_1 + 1)⟩ : S64)]) (wrap64 (x4_1 + 1))) else (none))) else (peristyleref14_Spans.l0 k1 l0 x3_1 (wrap64 (x4_1 + 1)))) = some r := by rw [← hbq4] at H; exact H
    have Nbq4 := Aside0.mk hbq4
    clear hbq4
    replace H := ifb H
    rcases H with ⟨rfl, H⟩ | ⟨rfl, H⟩
    ·replace H := ifd H
     rcases H with ⟨-, c6b0, H⟩ | ⟨-, c6b0, H⟩
     ·obtain ⟨ji7, hji7⟩ : ∃ j_ : Int, (wrap64 (x4_1 - 1)) = j_ := ⟨_, rfl⟩
      replace H : (if 0 ≤ (ji7) then (if (ji7) < (l0.length : Int) then (if rdOf false l0 (ji7) = true then (if 0 ≤ (wrap64 ((x3_1.length : Int) - 1)) then (if (wrap64 ((x3_1.length : Int) - 1)) < (x3_1.length : Int) then (peristyleref14_Spans.l0 k1 l0 (x3_1.set ((wrap64 ((x3_1.length : Int) - 1)) : Int).toNat (⟨(rd_T64 x3_1 (wrap64 ((x3_1.length : Int) - 1))).f0, wrap64 (((rd_T64 x3_1 (wrap64 ((x3_1.length : Int) - 1))).f1) + 1)⟩ : S64)) (wrap64 (x4_1 + 1))) else (none)) else (none)) else (if x3_1.length < 8796093022208 then (peristyleref14_Spans.l0 k1 l0 (x3_1 ++ [(⟨x4_1, wrap64 (x4_1 + 1)⟩ : S64)]) (wrap64 (x4_1 + 1))) else (none))) else (none)) else (none)) = some r := by (rw [hji7] at H; exact H)
      have hji7w : (IntKind.i64.wrap (x4_1 - 1)) = ji7 := (i64_w _).trans hji7
      replace H := ifn H
      obtain ⟨-, c8b0, H⟩ := H
      replace H := ifn H
      obtain ⟨-, c9b0, H⟩ := H
      obtain ⟨bq10, hbq10⟩ : ∃ b_ : Bool, b_ = (rdOf false l0 (ji7)) := ⟨_, rfl⟩
      replace H : (if bq10 = true then (if 0 ≤ (wrap64 ((x3_1.length : Int) - 1)) then (if (wrap64 ((x3_1.length : Int) - 1)) < (x3_1.length : Int) then (peristyleref14_Spans.l0 k1 l0 (x3_1.set ((wrap64 ((x3_1.length : Int) - 1)) : Int).toNat (⟨(rd_T64 x3_1 (wrap64 ((x3_1.length : Int) - 1))).f0, wrap64 (((rd_T64 x3_1 (wrap64 ((x3_1.length : Int) - 1))).f1) + 1)⟩ : S64)) (wrap64 (x4_1 + 1))) else (none)) else (none)) else (if x3_1.length < 8796093022208 then (peristyleref14_Spans.l0 k1 l0 (x3_1 ++ [(⟨x4_1, wrap64 (x4_1 + 1)⟩ : S64)]) (wrap64 (x4_1 + 1))) else (none))) = some r := by rw [← hbq10] at H; exact H
      have Nbq10 := Aside0.mk hbq10
      clear hbq10
      replace H := ifb H
      rcases H with ⟨rfl, H⟩ | ⟨rfl, H⟩
      ·obtain ⟨ji12, hji12⟩ : ∃ j_ : Int, (wrap64 ((x3_1.length : Int) - 1)) = j_ := ⟨_, rfl⟩
       replace H : (if 0 ≤ (ji12) then (if (ji12) < (x3_1.length : Int) then (peristyleref14_Spans.l0 k1 l0 (x3_1.set ((ji12) : Int).toNat (⟨(rd_T64 x3_1 (ji12)).f0, wrap64 (((rd_T64 x3_1 (ji12)).f1) + 1)⟩ : S64)) (wrap64 (x4_1 + 1))) else (none)) else (none)) = some r := by (rw [hji12] at H; exact H)
       have hji12w : (IntKind.i64.wrap ((x3_1.length : Int) - 1)) = ji12 := (i64_w _).trans hji12
       replace H := ifn H
       obtain ⟨-, c13b0, H⟩ := H
       replace H := ifn H
       obtain ⟨-, c14b0, H⟩ := H
       obtain ⟨y630, hy630⟩ : ∃ y_ : List (S64), y_ = (x3_1.set ((ji12) : Int).toNat (⟨(rd_T64 x3_1 (ji12)).f0, wrap64 (((rd_T64 x3_1 (ji12)).f1) + 1)⟩ : S64)) := ⟨_, rfl⟩
       replace H : (peristyleref14_Spans.l0 k1 l0 y630 (wrap64 (x4_1 + 1))) = some r := by (rw [hy630]; with_reducible exact H)
       have Ny630 := Aside0.mk hy630
       clear hy630
       have H' := Aside0.mk H
       clear H
       have p627 : 0 ≤ (x4_1 : Int) := ad
       have q627 : x4_1 < (l0.length : Int) := ad
       obtain ⟨ad627, e627, hx627_0⟩ := Kd.at_bool HR0.out x4_1 p627 q627
       (rw [← Nbq4.out] at hx627_0)
       cases e627
       replace hx627_0 := cb HB.out.cell hx627_0
       replace p627 := eq_true p627
       replace q627 := eq_true q627
       have p628 : 0 ≤ ((ji7) : Int) := ad
       have q628 : (ji7) < (l0.length : Int) := ad
       obtain ⟨ad628, e628, hx628_0⟩ := Kd.at_bool HR0.out (ji7) p628 q628
       (rw [← Nbq10.out] at hx628_0)
       obtain rfl : ad627 = ad628 := (by injection e628)
       replace hx628_0 := cb HB.out.cell hx628_0
       replace p628 := eq_true p628
       replace q628 := eq_true q628
       obtain ⟨Ao16, co16, eo16⟩ := Kd.R_slice HO_3.out
       subst eo16
       have p629 : 0 ≤ ((ji12) : Int) := ad
       have q629 : (ji12) < (x3_1.length : Int) := ad
       obtain ⟨ad629, e629, hx629_0, hx629_1⟩ := at_T64 (Kd.R_reads' HO_3.out).2.2 (ji12) p629 q629
       cases e629
       replace p629 := eq_true p629
       replace q629 := eq_true q629
       have p15 : 0 ≤ ((ji12) : Int) := ad
       have q15 : ((ji12) : Int) < ((x3_1.length : Int) : Int) := ad
       obtain ⟨go15, co15, eo15, gb15, gl15, cl15, HG15⟩ := Kd.R_form HO_3.out (by omega)
       (cases eo15)
       have GB15 := Aside0.mk gb15
       have GG15 := Aside0.mk HG15
       clear gb15 gl15 HG15
       (simp only [add_plain] at hx629_0)
       (simp only [add_plain] at hx629_1)
       obtain ⟨ce15, hcl15, hM15, hcc15, hfr15⟩ := Kd.R_elem HO_3.out z64 ((ji12) : Int) p15 q15
       obtain rfl := k64_openM hM15
       have hx15_0 : wr.cell? ⟨go15, ((ji12) : Int).toNat * 2, none⟩ = some (.int .i64 ((rd_T64 x3_1 (ji12)).f0)) := hcc15 0 _ rfl
       have hx15_1 : wr.cell? ⟨go15, ((ji12) : Int).toNat * 2 + 1, none⟩ = some (.int .i64 ((rd_T64 x3_1 (ji12)).f1)) := hcc15 1 _ rfl
       have hf15_0 : wr.frozen? ⟨go15, ((ji12) : Int).toNat * 2, none⟩ = false := hfr15 0
       have hf15_1 : wr.frozen? ⟨go15, ((ji12) : Int).toNat * 2 + 1, none⟩ = false := hfr15 1
       clear hcl15 hcc15 hfr15 hM15
       replace p15 := eq_true p15
       replace q15 := eq_true q15
       have HX17 := Aside0.mk (show Kd.R k64 64 wr w.heap.size (fun _ => True) (.slice (some ⟨go15, 0, none⟩) x3_1.length co16) x3_1 from (rx HO_3.out))
       obtain ⟨ce17, hcl17, hM17, hcc17, hfr17⟩ := Kd.R_elem HX17.out z64 ((ji12) : Int) (of_decide_eq_true (by assumption)) (by have h_ : ((ji12) : Int) < ((x3_1.length : Int) : Int) := of_decide_eq_true (by assumption); exact h_)
       obtain rfl := k64_openM hM17
       have HP17 := Kd.R_seg HX17.out ((ji12) : Int) (of_decide_eq_true (by assumption)) (by have h_ : ((ji12) : Int) < ((x3_1.length : Int) : Int) := of_decide_eq_true (by assumption); exact h_) (seg := [.int .i64 (wrap64 (((rd_T64 x3_1 (ji12)).f1) + 1))]) (j := 1) hcl17 hcc17 (show 2 ≤ 2 from by decide) (x' := (⟨(rd_T64 x3_1 (ji12)).f0, wrap64 (((rd_T64 x3_1 (ji12)).f1) + 1)⟩ : S64)) (k64_mkM _ _ _ (⟨(rd_T64 x3_1 (ji12)).f0, wrap64 (((rd_T64 x3_1 (ji12)).f1) + 1)⟩ : S64) ) (fun _ hk => hk)
       have hx17_1 := hcc17 1 _ rfl
       (simp only [show (k64).sz = 2 from rfl, Nat.mul_one, Nat.add_zero] at hx17_1)
       have hf17_1 := hfr17 1
       (simp only [show (k64).sz = 2 from rfl, Nat.mul_one, Nat.add_zero] at hf17_1)
       clear hcl17 hcc17 hfr17 hM17
       go_wp2_with (((with_reducible refine gate_store (t := 3) (p := 34) rfl ?_); refine stE 3 34 (wr.setCell ⟨go15, ((ji12) : Int).toNat * 2 + 1, none⟩ (.int .i64 (wrap64 (((rd_T64 x3_1 (ji12)).f1) + 1)))) ?_; intro w18 hw; have hg : wr.grownBy w18 (some go15) := (by rw [hw]; exact HP17.2); have hp_ : Kd.R k64 64 w18 w.heap.size (fun _ => True) (.slice (some ⟨go15, 0, none⟩) x3_1.length co16) y630 := (by rw [hw, Ny630.out]; exact HP17.1); clear HP17; replace HO_3 := Aside0.mk (hp_); replace HB := Aside0.mk ((by rw [hw]; exact below_set (HB.out) GB15.out : Below w.heap.size w w18)); clear hg hw hp_))
       go_roundg k1
       case measure => have := HK1.out; omega
       case rel => exact ⟨(y630), (wrap64 (x4_1 + 1)), (by rfl), (by exact H'), ⟨by have := HK1.out; omega⟩, ⟨by exact HO_3.out⟩, ⟨bh HB.out⟩⟩
      ·replace H := ifn H
       obtain ⟨c19, -, H⟩ := H
       have LMc19 := Aside0.mk c19
       clear c19
       obtain ⟨y631, hy631⟩ : ∃ y_ : List (S64), y_ = (x3_1 ++ [(⟨x4_1, wrap64 (x4_1 + 1)⟩ : S64)]) := ⟨_, rfl⟩
       replace H : (peristyleref14_Spans.l0 k1 l0 y631 (wrap64 (x4_1 + 1))) = some r := by (rw [hy631]; with_reducible exact H)
       have Ny631 := Aside0.mk hy631
       clear hy631
       have H' := Aside0.mk H
       clear H
       have p627 : 0 ≤ (x4_1 : Int) := ad
       have q627 : x4_1 < (l0.length : Int) := ad
       obtain ⟨ad627, e627, hx627_0⟩ := Kd.at_bool HR0.out x4_1 p627 q627
       (rw [← Nbq4.out] at hx627_0)
       cases e627
       replace hx627_0 := cb HB.out.cell hx627_0
       replace p627 := eq_true p627
       replace q627 := eq_true q627
       have p628 : 0 ≤ ((ji7) : Int) := ad
       have q628 : (ji7) < (l0.length : Int) := ad
       obtain ⟨ad628, e628, hx628_0⟩ := Kd.at_bool HR0.out (ji7) p628 q628
       (rw [← Nbq10.out] at hx628_0)
       obtain rfl : ad627 = ad628 := (by injection e628)
       replace hx628_0 := cb HB.out.cell hx628_0
       replace p628 := eq_true p628
       replace q628 := eq_true q628
       go_wp2_with (((with_reducible refine gate_builtin (b := .append) (xs := #[.tmp 35, .tmp 40]) rfl ?_); at_builtin; refine Kd.R_append k64 (w0 := w) w.heap.size rfl (.tmp 35) (.tmp 40) 22 64 (.agg #[(.int .i64 0), (.int .i64 0)]) 16 rfl Tryz.underlying22 info64 rfl (by decide) (by omega) u3 x3_1 (⟨x4_1, wrap64 (x4_1 + 1)⟩ : S64) [.int .i64 x4_1, .int .i64 (wrap64 (x4_1 + 1))] (fun _ => True) (fun _ => False) rfl rfl ?aP (fun _ hk => hk.elim) ?aF ?aO ?aB ?aS ?aL ?_; (case aP => exact k64_mkM _ _ _ (⟨x4_1, wrap64 (x4_1 + 1)⟩ : S64)); (case aB => exact (bh HB.out)); (case aF => exact (fun _ _ => trivial)); (case aO => exact (rx HO_3.out)); (case aS => exact (below_size (bh HB.out))); (case aL => have := LMc19.out; omega); intro v632 w20 ho hb hg hat; rw [← Ny631.out] at ho; have n0_ := Aside0.mk (hb); have n1_ := Aside0.mk (ho); clear HB HO_3; have HB := n0_; have HO633 := n1_; clear n0_ n1_ ho hb hg hat))
       go_roundg k1
       case measure => have := HK1.out; omega
       case rel => exact ⟨(y631), (wrap64 (x4_1 + 1)), (by rfl), (by exact H'), ⟨by have := HK1.out; omega⟩, ⟨by exact HO633.out⟩, ⟨bh HB.out⟩⟩
     ·replace H := ifn H
      obtain ⟨c21, -, H⟩ := H
      have LMc21 := Aside0.mk c21
      clear c21
      obtain ⟨y634, hy634⟩ : ∃ y_ : List (S64), y_ = (x3_1 ++ [(⟨x4_1, wrap64 (x4_1 + 1)⟩ : S64)]) := ⟨_, rfl⟩
      replace H : (peristyleref14_Spans.l0 k1 l0 y634 (wrap64 (x4_1 + 1))) = some r := by (rw [hy634]; with_reducible exact H)
      have Ny634 := Aside0.mk hy634
      clear hy634
      have H' := Aside0.mk H
      clear H
      have p627 : 0 ≤ (x4_1 : Int) := ad
      have q627 : x4_1 < (l0.length : Int) := ad
      obtain ⟨ad627, e627, hx627_0⟩ := Kd.at_bool HR0.out x4_1 p627 q627
      (rw [← Nbq4.out] at hx627_0)
      cases e627
      replace hx627_0 := cb HB.out.cell hx627_0
      replace p627 := eq_true p627
      replace q627 := eq_true q627
      go_wp2_with (((with_reducible refine gate_builtin (b := .append) (xs := #[.tmp 35, .tmp 40]) rfl ?_); at_builtin; refine Kd.R_append k64 (w0 := w) w.heap.size rfl (.tmp 35) (.tmp 40) 22 64 (.agg #[(.int .i64 0), (.int .i64 0)]) 16 rfl Tryz.underlying22 info64 rfl (by decide) (by omega) u3 x3_1 (⟨x4_1, wrap64 (x4_1 + 1)⟩ : S64) [.int .i64 x4_1, .int .i64 (wrap64 (x4_1 + 1))] (fun _ => True) (fun _ => False) rfl rfl ?aP (fun _ hk => hk.elim) ?aF ?aO ?aB ?aS ?aL ?_; (case aP => exact k64_mkM _ _ _ (⟨x4_1, wrap64 (x4_1 + 1)⟩ : S64)); (case aB => exact (bh HB.out)); (case aF => exact (fun _ _ => trivial)); (case aO => exact (rx HO_3.out)); (case aS => exact (below_size (bh HB.out))); (case aL => have := LMc21.out; omega); intro v635 w22 ho hb hg hat; rw [← Ny634.out] at ho; have n0_ := Aside0.mk (hb); have n1_ := Aside0.mk (ho); clear HB HO_3; have HB := n0_; have HO636 := n1_; clear n0_ n1_ ho hb hg hat))
      go_roundg k1
      case measure => have := HK1.out; omega
      case rel => exact ⟨(y634), (wrap64 (x4_1 + 1)), (by rfl), H', ⟨by have := HK1.out; omega⟩, ⟨by exact HO636.out⟩, ⟨bh HB.out⟩⟩
    ·have H' := Aside0.mk H
     clear H
     have p627 : 0 ≤ (x4_1 : Int) := ad
     have q627 : x4_1 < (l0.length : Int) := ad
     obtain ⟨ad627, e627, hx627_0⟩ := Kd.at_bool HR0.out x4_1 p627 q627
     (rw [← Nbq4.out] at hx627_0)
     cases e627
     replace hx627_0 := cb HB.out.cell hx627_0
     replace p627 := eq_true p627
     replace q627 := eq_true q627
     go_wp2
     go_roundg k1
     case measure => have := HK1.out; omega
     case rel => exact ⟨(x3_1), (wrap64 (x4_1 + 1)), (by rfl), H', ⟨by have := HK1.out; omega⟩, ⟨by exact HO_3.out⟩, ⟨bh HB.out⟩⟩
   ·obtain rfl := Option.some.inj H
    go_wp2
    go_ret
    exact ⟨_, er, by exact HO_3.out, bh HB.out⟩

/-! ### peristyleref14_Of: function 17 -/
mutual
def peristyleref14_Of.l0 : Nat → List Int → Int → Int → Option ((List (S64)) × Int)
 | 0, _, _, _ => none
 | k + 1, x0, x4, x5 => if x5 < (x0.length : Int) then (if 0 ≤ x5 then (if (rd x0 x5) < 0 then (some (([] : List (S64)), 1)) else (if (rd x0 x5) ≥ 65536 then (some (([] : List (S64)), 1)) else (peristyleref14_Of.l0 k x0 (mx x4 (wrap64 ((rd x0 x5) + 1))) (wrap64 (x5 + 1))))) else (none)) else (if 0 ≤ x4 then (if (x4 : Int).toNat ≤ 281474976710656 then (peristyleref14_Of.l1 k x0 (List.replicate (x4 : Int).toNat false) 0) else (none)) else (none))
def peristyleref14_Of.l1 : Nat → List Int → List Bool → Int → Option ((List (S64)) × Int)
 | 0, _, _, _ => none
 | k + 1, x0, x6, x7 => if x7 < (x0.length : Int) then (if 0 ≤ x7 then (if 0 ≤ (rd x0 x7) then (if (rd x0 x7) < (x6.length : Int) then (peristyleref14_Of.l1 k x0 (x6.set ((rd x0 x7) : Int).toNat true) (wrap64 (x7 + 1))) else (none)) else (none)) else (none)) else ((peristyleref14_Spans.f k x6).bind fun t645 => (some (t645, 0)))
end
def peristyleref14_Of.f (k : Nat) (l0 : List Int) : Option ((List (S64)) × Int) := peristyleref14_Of.l0 k l0 0 0
theorem peristyleref14_Of.l0_succ (k) (a0) (a1) (a2) : type_of% (@peristyleref14_Of.l0.eq_2 a0 a1 a2 k) := peristyleref14_Of.l0.eq_2 a0 a1 a2 k
theorem peristyleref14_Of.l1_succ (k) (a0) (a1) (a2) : type_of% (@peristyleref14_Of.l1.eq_2 a0 a1 a2 k) := peristyleref14_Of.l1.eq_2 a0 a1 a2 k
set_option maxHeartbeats 8000000 in
set_option maxRecDepth 100000 in
theorem peristyleref14_Of.calls (k : Nat) (A0 : Option Addr) (c0 : Nat) (l0 : List Int) (r1 : List (S64)) (r2 : Int) (w : World) (hr0 : Kd.C (Kd.int .i64) w A0 l0.length l0) (hc0 : l0.length ≤ c0) (h : peristyleref14_Of.f k l0 = some (r1, r2)) :
  Calls Tryz.prog 17 #[.slice A0 l0.length c0] w fun e w' => ∃ v0_ : Value, e = .returned (.tuple #[v0_, .int .i64 r2]) ∧ Kd.R k64 64 w' w.heap.size (fun _ => True) v0_ r1 ∧ Below w.heap.size w w' := by
 have HR0 := Aside0.mk hr0
 have HC0 := Aside0.mk hc0
 clear hr0 hc0
 have HB := Aside0.mk (Below.refl w.heap.size w)
 have H := h
 clear h
 unfold peristyleref14_Of.f at H
 have H' := Aside0.mk H
 clear H
 go_enter Tryz.func17, Tryz.ntmps17
 go_wp2
 go_loopg [4, 5] k (fun kq v4 v5 w' => ∃ (x4_1 : Int) (x5_1 : Int), v4 = .int .i64 x4_1 ∧ v5 = .int .i64 x5_1 ∧ Aside0 (peristyleref14_Of.l0 kq l0 x4_1 x5_1 = some (r1, r2)) ∧ Aside0 (kq ≤ k) ∧ Aside0 (Below w.heap.size w w'))
 case atStart => exact ⟨(0), (0), (by rfl), (by rfl), H', ⟨Nat.le_refl _⟩, ⟨bh HB.out⟩⟩
 case round =>
  clear H'
  obtain ⟨x4_1, x5_1, rfl, rfl, HA, HK1, HB⟩ := hrel
  cases gk with
  | zero => exact absurd HA.out (by simp [peristyleref14_Of.l0])
  | succ k1 =>
   have H := HA.out
   clear HA
   simp only [peristyleref14_Of.l0] at H
   replace H := ifd H
   rcases H with ⟨-, c2b0, H⟩ | ⟨-, c2b0, H⟩
   ·replace H := ifn H
    obtain ⟨-, c3b0, H⟩ := H
    replace H := ifd H
    rcases H with ⟨-, c4b0, H⟩ | ⟨-, c4b0, H⟩
    ·simp only [Option.some.injEq, Prod.mk.injEq] at H
     obtain ⟨rfl, rfl⟩ := H
     have p637 : 0 ≤ (x5_1 : Int) := ad
     have q637 : x5_1 < (l0.length : Int) := ad
     obtain ⟨ad637, e637, hx637_0⟩ := Kd.at_int HR0.out x5_1 p637 q637
     cases e637
     replace hx637_0 := cb HB.out.cell hx637_0
     replace p637 := eq_true p637
     replace q637 := eq_true q637
     go_wp2
     go_ret2
     exact ⟨_, er, nl, bh HB.out⟩
    ·replace H := ifd H
     rcases H with ⟨-, c5b0, H⟩ | ⟨-, c5b0, H⟩
     ·simp only [Option.some.injEq, Prod.mk.injEq] at H
      obtain ⟨rfl, rfl⟩ := H
      have p637 : 0 ≤ (x5_1 : Int) := ad
      have q637 : x5_1 < (l0.length : Int) := ad
      obtain ⟨ad637, e637, hx637_0⟩ := Kd.at_int HR0.out x5_1 p637 q637
      cases e637
      replace hx637_0 := cb HB.out.cell hx637_0
      replace p637 := eq_true p637
      replace q637 := eq_true q637
      have p638 : 0 ≤ (x5_1 : Int) := ad
      have q638 : x5_1 < (l0.length : Int) := ad
      obtain ⟨ad638, e638, hx638_0⟩ := Kd.at_int HR0.out x5_1 p638 q638
      obtain rfl : ad637 = ad638 := (by injection e638)
      replace hx638_0 := cb HB.out.cell hx638_0
      replace p638 := eq_true p638
      replace q638 := eq_true q638
      go_wp2
      go_ret2
      exact ⟨_, er, nl, bh HB.out⟩
     ·obtain ⟨ji6, hji6⟩ : ∃ j_ : Int, (mx x4_1 (wrap64 ((rd l0 x5_1) + 1))) = j_ := ⟨_, rfl⟩
      replace H : (peristyleref14_Of.l0 k1 l0 ji6 (wrap64 (x5_1 + 1))) = some (r1, r2) := by (rw [hji6] at H; exact H)
      have hji6_ : (if x4_1 < (wrap64 ((rd l0 x5_1) + 1)) then (wrap64 ((rd l0 x5_1) + 1)) else x4_1) = ji6 := hji6
      have H' := Aside0.mk H
      clear H
      have p637 : 0 ≤ (x5_1 : Int) := ad
      have q637 : x5_1 < (l0.length : Int) := ad
      obtain ⟨ad637, e637, hx637_0⟩ := Kd.at_int HR0.out x5_1 p637 q637
      cases e637
      replace hx637_0 := cb HB.out.cell hx637_0
      replace p637 := eq_true p637
      replace q637 := eq_true q637
      have p638 : 0 ≤ (x5_1 : Int) := ad
      have q638 : x5_1 < (l0.length : Int) := ad
      obtain ⟨ad638, e638, hx638_0⟩ := Kd.at_int HR0.out x5_1 p638 q638
      obtain rfl : ad637 = ad638 := (by injection e638)
      replace hx638_0 := cb HB.out.cell hx638_0
      replace p638 := eq_true p638
      replace q638 := eq_true q638
      have p639 : 0 ≤ (x5_1 : Int) := ad
      have q639 : x5_1 < (l0.length : Int) := ad
      obtain ⟨ad639, e639, hx639_0⟩ := Kd.at_int HR0.out x5_1 p639 q639
      obtain rfl : ad637 = ad639 := (by injection e639)
      replace hx639_0 := cb HB.out.cell hx639_0
      replace p639 := eq_true p639
      replace q639 := eq_true q639
      go_wp2
      go_roundg k1
      case measure => have := HK1.out; omega
      case rel => exact ⟨(ji6), (wrap64 (x5_1 + 1)), (by rfl), (by rfl), (by exact H'), ⟨by have := HK1.out; omega⟩, ⟨bh HB.out⟩⟩
   ·replace H := ifn H
    obtain ⟨c7, -, H⟩ := H
    have c7b0 := eq_true c7
    have c7b1 : decide (0 ≤ x4_1) = true := decide_eq_true c7
    clear c7
    replace H := ifn H
    obtain ⟨c8, -, H⟩ := H
    have c8b0 := eq_true c8
    have c8b1 : decide ((x4_1 : Int).toNat ≤ 281474976710656) = true := decide_eq_true c8
    clear c8
    obtain ⟨y640, hy640⟩ : ∃ y_ : List Bool, y_ = (List.replicate (x4_1 : Int).toNat false) := ⟨_, rfl⟩
    replace H : (peristyleref14_Of.l1 k1 l0 y640 0) = some (r1, r2) := by (rw [hy640]; with_reducible exact H)
    have Ny640 := Aside0.mk hy640
    clear hy640
    have H' := Aside0.mk H
    clear H
    go_wp2_with (((with_reducible refine gate_dst (N := 34) rfl ?_); refine Kd.R_make Kd.bool _ 4 rfl (N := 34) rfl 69 _ _ rfl x4_1 rfl rfl Tryz.underlying69 (.bool false) 1 info4 rfl (by decide) (by omega) false (ok := fun _ => True) (okp := fun _ => True) rfl (fun _ hk => hk) trivial (of_decide_eq_true (by assumption)) (Nat.le_trans (Nat.mul_le_mul_right _ (of_decide_eq_true (by assumption) : x4_1.toNat ≤ 281474976710656)) (by omega)) (Below.refl _ _) (Nat.le_refl _) ?_; intro v641 w9 ho10 hb hg_ hnew_; clear hg_ hnew_; (rw [← Ny640.out] at ho10); have HO642 := Aside0.mk (Kd.R_lower ho10 (below_size (bh HB.out))); replace HB := bsa HB hb; clear hb ho10))
    go_loopg [7] k1 (fun kq v7 w' => ∃ (x6_2 : List Bool) (x7_2 : Int), v7 = .int .i64 x7_2 ∧ Aside0 (peristyleref14_Of.l1 kq l0 x6_2 x7_2 = some (r1, r2)) ∧ Aside0 (kq ≤ k1) ∧ Aside0 (Kd.R Kd.bool 4 w' w.heap.size (fun _ => True) v641 x6_2) ∧ Aside0 (Below w.heap.size w w'))
    case atStart => exact ⟨(y640), (0), (by rfl), H', ⟨Nat.le_refl _⟩, ⟨by exact HO642.out⟩, ⟨bh HB.out⟩⟩
    case round =>
     clear H' c2b0 c7b0 c7b1 c8b0 c8b1
     obtain ⟨x6_2, x7_2, rfl, HA, HK2, HO_6, HB⟩ := hrel
     cases gk with
     | zero => exact absurd HA.out (by simp [peristyleref14_Of.l1])
     | succ k2 =>
      have H := HA.out
      clear HA
      simp only [peristyleref14_Of.l1] at H
      replace H := ifd H
      rcases H with ⟨-, c11b0, H⟩ | ⟨-, c11b0, H⟩
      ·replace H := ifn H
       obtain ⟨-, c12b0, H⟩ := H
       replace H := ifn H
       obtain ⟨-, c13b0, H⟩ := H
       replace H := ifn H
       obtain ⟨-, c14b0, H⟩ := H
       obtain ⟨y644, hy644⟩ : ∃ y_ : List Bool, y_ = (x6_2.set ((rd l0 x7_2) : Int).toNat true) := ⟨_, rfl⟩
       replace H : (peristyleref14_Of.l1 k2 l0 y644 (wrap64 (x7_2 + 1))) = some (r1, r2) := by (rw [hy644]; with_reducible exact H)
       have Ny644 := Aside0.mk hy644
       clear hy644
       have H' := Aside0.mk H
       clear H
       have p643 : 0 ≤ (x7_2 : Int) := ad
       have q643 : x7_2 < (l0.length : Int) := ad
       obtain ⟨ad643, e643, hx643_0⟩ := Kd.at_int HR0.out x7_2 p643 q643
       cases e643
       replace hx643_0 := cb HB.out.cell hx643_0
       replace p643 := eq_true p643
       replace q643 := eq_true q643
       have p15 : 0 ≤ ((rd l0 x7_2) : Int) := ad
       have q15 : ((rd l0 x7_2) : Int) < ((x6_2.length : Int) : Int) := ad
       obtain ⟨go15, co15, eo15, gb15, gl15, cl15, HG15⟩ := Kd.R_form HO_6.out (by omega)
       (cases eo15)
       have GB15 := Aside0.mk gb15
       have GG15 := Aside0.mk HG15
       clear gb15 gl15 HG15
       obtain ⟨hx15_0, hf15_0⟩ := Kd.R_celln false HO_6.out ((rd l0 x7_2) : Int) p15 q15
       replace p15 := eq_true p15
       replace q15 := eq_true q15
       have HP16 := Kd.R_putg HO_6.out ((rd l0 x7_2) : Int) true
       go_wp2_with (((with_reducible refine gate_store (t := 4) (p := 46) rfl ?_); refine stE 4 46 (wr.setCell ⟨go15, ((rd l0 x7_2) : Int).toNat, none⟩ (.bool true)) ?_; intro w17 hw; have hg : wr.grownBy w17 (some go15) := (by rw [hw]; exact HP16.2); have hp_ : Kd.R Kd.bool 4 w17 w.heap.size (fun _ => True) (.slice (some ⟨go15, 0, none⟩) x6_2.length co15) y644 := (by rw [hw, Ny644.out]; exact HP16.1); clear HP16; replace HO_6 := Aside0.mk (hp_); replace HB := Aside0.mk ((by rw [hw]; exact below_set (HB.out) GB15.out : Below w.heap.size w w17)); clear hg hw hp_))
       go_roundg k2
       case measure => have := HK1.out; have := HK2.out; omega
       case rel => exact ⟨(y644), (wrap64 (x7_2 + 1)), (by rfl), H', ⟨by have := HK1.out; have := HK2.out; omega⟩, ⟨by exact HO_6.out⟩, ⟨bh HB.out⟩⟩
      ·replace H := bd H
       obtain ⟨t645, A18, H⟩ := H
       simp only [Option.some.injEq, Prod.mk.injEq] at H
       obtain ⟨rfl, rfl⟩ := H
       obtain ⟨Ao19, co19, eo19⟩ := Kd.R_slice HO_6.out
       subst eo19
       go_wp2_with (((with_reducible refine gate_callee (f := 50) rfl ?_); refine gL 48 Tryz.func50 #[.slice Ao19 x6_2.length co19] ?_; (with_reducible refine (peristyleref14_Spans.calls k2 _ _ x6_2 t645 _ ?side1 ?side2 A18.out).mono ?_); (case side1 => exact cx (Kd.R_reads' HO_6.out).2.2); (case side2 => exact (Kd.R_reads' HO_6.out).2.1); rintro e w20 ⟨v646, rfl, ho0, hb⟩; refine ⟨_, rfl, ?_⟩; replace HO_6 := rba HO_6 hb; have HO647 := Aside0.mk (Kd.R_lower ho0 (below_size (bh HB.out))); replace HB := bsa HB hb; clear hb ho0))
       go_ret2
       exact ⟨_, er, by exact HO647.out, bh HB.out⟩

end Go.Proofs.YtjgmdjieandemaaGreat.Print
end
section
namespace Go.Proofs.YtjgmdjieandemaaGreat.Print
open Go.RowKit Go.Proofs.YtjgmdjieandemaaGreatW.PrintWords Go.Proofs.YtjgmdjieandemaaGreatW.PrintLast Go.Proofs.YtjgmdjieandemaaGreatW.PrintMore
attribute [local go_sem] max2_int min2_int max_two min_two max_three min_three max_four min_four   -- for this text's walks alone
set_option linter.unusedVariables false
set_option linter.unusedSimpArgs false

/-! ### peristyleref14_Both: function 58 -/
mutual
def peristyleref14_Both.j0 : Nat → Int → List (S64) → List (S64) → Bool → Option ((List (S64)) × Int)
 | 0, _, _, _, _ => none
 | k + 1, x0, x1, x2, x20 => if x20 = true then (some (([] : List (S64)), 1)) else ((peristyleref14_Top.f x1).bind fun t695 => ((peristyleref14_Top.f x2).bind fun t696 => ((peristyleref14_Set.f k x1 (mx t695 t696)).bind fun t697 => ((peristyleref14_Set.f k x2 (mx t695 t696)).bind fun t700 => (if 0 ≤ (mx t695 t696) then (if (mx t695 t696 : Int).toNat ≤ 281474976710656 then (peristyleref14_Both.l0 k x0 (mx t695 t696) t697 t700 (List.replicate (mx t695 t696 : Int).toNat false) 0) else (none)) else (none))))))
def peristyleref14_Both.l0 : Nat → Int → Int → List Bool → List Bool → List Bool → Int → Option ((List (S64)) × Int)
 | 0, _, _, _, _, _, _ => none
 | k + 1, x0, x8, x9, x10, x11, x12 => if x12 < x8 then (if x0 = 0 then (if 0 ≤ x12 then (if x12 < (x9.length : Int) then (if rdOf false x9 x12 = true then (if x12 < (x10.length : Int) then (if x12 < (x11.length : Int) then (peristyleref14_Both.l0 k x0 x8 x9 x10 (x11.set (x12 : Int).toNat (rdOf false x10 x12)) (wrap64 (x12 + 1))) else (none)) else (none)) else (if x12 < (x11.length : Int) then (peristyleref14_Both.l0 k x0 x8 x9 x10 (x11.set (x12 : Int).toNat false) (wrap64 (x12 + 1))) else (none))) else (none)) else (none)) else (if x0 = 1 then (if 0 ≤ x12 then (if x12 < (x9.length : Int) then (if rdOf false x9 x12 = true then (if x12 < (x11.length : Int) then (peristyleref14_Both.l0 k x0 x8 x9 x10 (x11.set (x12 : Int).toNat true) (wrap64 (x12 + 1))) else (none)) else (if x12 < (x10.length : Int) then (if x12 < (x11.length : Int) then (peristyleref14_Both.l0 k x0 x8 x9 x10 (x11.set (x12 : Int).toNat (rdOf false x10 x12)) (wrap64 (x12 + 1))) else (none)) else (none))) else (none)) else (none)) else (if 0 ≤ x12 then (if x12 < (x9.length : Int) then (if rdOf false x9 x12 = true then (if x12 < (x10.length : Int) then (if x12 < (x11.length : Int) then (peristyleref14_Both.l0 k x0 x8 x9 x10 (x11.set (x12 : Int).toNat (!(rdOf false x10 x12))) (wrap64 (x12 + 1))) else (none)) else (none)) else (if x12 < (x11.length : Int) then (peristyleref14_Both.l0 k x0 x8 x9 x10 (x11.set (x12 : Int).toNat false) (wrap64 (x12 + 1))) else (none))) else (none)) else (none)))) else ((peristyleref14_Spans.f k x11).bind fun t706 => (some (t706, 0)))
end
def peristyleref14_Both.f (k : Nat) (a0 : Int) (l1 : List (S64)) (l2 : List (S64)) : Option ((List (S64)) × Int) := (peristyleref14_May.f k l1).bind fun t693 => (if t693 = true then ((peristyleref14_May.f k l2).bind fun t694 => (peristyleref14_Both.j0 k a0 l1 l2 (!t694))) else (peristyleref14_Both.j0 k a0 l1 l2 true))
/-! ### peristyleref16_Both: function 23 -/
def peristyleref16_Both.f (k : Nat) (a0 : Int) (l1 : List (S64)) (l2 : List (S64)) : Option ((List (S64)) × Int) := (peristyleref14_Both.f k a0 l1 l2).bind fun bt722 => ((peristyleref16_Of.f k bt722.1 0).bind fun bt726 => (some (bt726.1, bt726.2.1)))
/-! ### words_Or_1: function 89 -/
def words_Or_1.f (a0 : Int) (a1 : Int) : Option (Int) := some (Go.bits .or .i64 a0 a1)
end Go.Proofs.YtjgmdjieandemaaGreat.Print
end
section
namespace Go.Proofs.YtjgmdjieandemaaGreat.Print
open Go.RowKit Go.Proofs.YtjgmdjieandemaaGreatW.PrintWords Go.Proofs.YtjgmdjieandemaaGreatW.PrintLast Go.Proofs.YtjgmdjieandemaaGreatW.PrintMore
attribute [local go_sem] max2_int min2_int max_two min_two max_three min_three max_four min_four   -- for this text's walks alone
set_option linter.unusedVariables false
set_option linter.unusedSimpArgs false

/-! ### words_both_fn89: function 85 -/
mutual
def words_both_fn89.j0 : Nat → List Int → List Int → Bool → Option (List Int × Int)
 | 0, _, _, _ => none
 | k + 1, x0, x1, x18 => if x18 = true then (some (([] : List Int), 1)) else (if 0 ≤ (mx (x0.length : Int) (x1.length : Int)) then (if (mx (x0.length : Int) (x1.length : Int) : Int).toNat ≤ 35184372088832 then ((some (List.replicate (mx (x0.length : Int) (x1.length : Int) : Int).toNat 0 : List Int)).bind fun y734 => (words_both_fn89.l0 k x0 x1 y734 (y734.length : Int) 0)) else (none)) else (none))
def words_both_fn89.l0 : Nat → List Int → List Int → List Int → Int → Int → Option (List Int × Int)
 | 0, _, _, _, _, _ => none
 | k + 1, x0, x1, x9, x26, x27 => if x27 < x26 then ((words_both_1.f x0 x27).bind fun t737 => ((words_both_1.f x1 x27).bind fun t738 => ((words_Or_1.f t737 t738).bind fun t739 => (if 0 ≤ x27 then (if x27 < (x9.length : Int) then (words_both_fn89.l0 k x0 x1 (x9.set (x27 : Int).toNat t739) x26 (wrap64 (x27 + 1))) else (none)) else (none))))) else ((words_trimmed.f k x9).bind fun t741 => (some (t741, 0)))
end
def words_both_fn89.f (k : Nat) (l0 : List Int) (l1 : List Int)  : Option (List Int × Int) := (words_May.f l0).bind fun t732 => (if t732 = true then ((words_May.f l1).bind fun t733 => (words_both_fn89.j0 k l0 l1 (!t733))) else (words_both_fn89.j0 k l0 l1 true))
/-! ### words_Or: function 59 -/
def words_Or.f (k : Nat) (l0 : List Int) (l1 : List Int) : Option (List Int × Int) := (words_both_fn89.f k l0 l1).bind fun bt744 => (some (bt744.1, bt744.2))
/-! ### span_Or_1: function 90 -/
def span_Or_1.f (a0_0 : Int) (a0_1 : Int) (a0_2 : Bool) (a0_3 : Bool) : Option (Bool) := if a0_2 = true then (some true) else (some a0_3)
/-! ### span_both_fn90: function 87 (a contract of the session's own) -/
section
attribute [local go_sem] Oper.semAt_some
def span_both_fn90.go : List S98 → List S64 → Option (List S64)
  | [], o => some o
  | x :: xs, o => (span_Or_1.f x.f0.f0 x.f0.f1 x.f1 x.f2).bind fun t => if t = true then ((span_adds.f o x.f0.f0 x.f0.f1).bind fun o2 => span_both_fn90.go xs o2) else span_both_fn90.go xs o
def span_both_fn90.f (k : Nat) (l0 l1 : List S64) : Option (List S64 × Int) := (span_May.f k l0).bind fun a => if a = true then ((span_May.f k l1).bind fun b => if b = true then ((span_parts_1.f k l0 l1).bind fun xs => (span_both_fn90.go xs []).bind fun o => some (o, 0)) else some (([] : List S64), 1)) else some (([] : List S64), 1)
end

/-! ### span_Or: function 60 -/
def span_Or.f (k : Nat) (l0 : List (S64)) (l1 : List (S64)) : Option ((List (S64)) × Int) := (span_both_fn90.f k l0 l1).bind fun bt749 => (some (bt749.1, bt749.2))
end Go.Proofs.YtjgmdjieandemaaGreat.Print
end
section
namespace Go.Proofs.YtjgmdjieandemaaGreat.Print
open Go.RowKit Go.Proofs.YtjgmdjieandemaaGreatW.PrintWords Go.Proofs.YtjgmdjieandemaaGreatW.PrintLast Go.Proofs.YtjgmdjieandemaaGreatW.PrintMore
attribute [local go_sem] max2_int min2_int max_two min_two max_three min_three max_four min_four   -- for this text's walks alone
set_option linter.unusedVariables false
set_option linter.unusedSimpArgs false

/-! ### poslist_List_together_fn59_fn60: function 55 -/
def poslist_List_together_fn59_fn60.j0 : Nat → Bool → Int → List (S64) → List Int → List Int → Int → List (S64) → List Int → List Int → Option (Int × (List (S64)) × List Int × List Int)
 | 0, _, _, _, _, _, _, _, _, _ => none
 | k + 1, x22, x754000, x754001, x754002, x754003, x755000, x755001, x755002, x755003 => if x22 = true then ((poslist_List_bits.f k x754000 x754001 x754002 x754003).bind fun t756 => ((poslist_List_bits.f k x755000 x755001 x755002 x755003).bind fun t759 => ((words_Or.f k t756 t759).bind fun bt762 => ((words_Spans.f k bt762.1).bind fun bt766 => ((poslist_best.f k bt766.1).bind fun bt770 => (some (bt770.1, bt770.2.1, bt770.2.2.1, bt770.2.2.2))))))) else ((poslist_List_Spans.f k x754000 x754001 x754002 x754003).bind fun t780 => ((poslist_List_Spans.f k x755000 x755001 x755002 x755003).bind fun t783 => ((span_Or.f k t780 t783).bind fun bt786 => ((poslist_best.f k bt786.1).bind fun bt790 => (some (bt790.1, bt790.2.1, bt790.2.2.1, bt790.2.2.2))))))
def poslist_List_together_fn59_fn60.f (k : Nat) (a0_0 : Int) (l0_1 : List (S64)) (l0_2 : List Int) (l0_3 : List Int) (a1_0 : Int) (l1_1 : List (S64)) (l1_2 : List Int) (l1_3 : List Int)   : Option (Int × (List (S64)) × List Int × List Int) := if a0_0 = 2 then (poslist_List_together_fn59_fn60.j0 k true a0_0 l0_1 l0_2 l0_3 a1_0 l1_1 l1_2 l1_3) else (poslist_List_together_fn59_fn60.j0 k (a1_0 == 2) a0_0 l0_1 l0_2 l0_3 a1_0 l1_1 l1_2 l1_3)
/-! ### poslist_List_Or: function 24 -/
def poslist_List_Or.f (k : Nat) (a0_0 : Int) (l0_1 : List (S64)) (l0_2 : List Int) (l0_3 : List Int) (a1_0 : Int) (l1_1 : List (S64)) (l1_2 : List Int) (l1_3 : List Int) : Option (Int × (List (S64)) × List Int × List Int) := (poslist_List_together_fn59_fn60.f k a0_0 l0_1 l0_2 l0_3 a1_0 l1_1 l1_2 l1_3).bind fun bt803 => (some (bt803.1, bt803.2.1, bt803.2.2.1, bt803.2.2.2))
end Go.Proofs.YtjgmdjieandemaaGreat.Print
end
section
namespace Go.Proofs.YtjgmdjieandemaaGreat.Print
open Go.RowKit Go.Proofs.YtjgmdjieandemaaGreatW.PrintWords Go.Proofs.YtjgmdjieandemaaGreatW.PrintLast Go.Proofs.YtjgmdjieandemaaGreatW.PrintMore
attribute [local go_sem] max2_int min2_int max_two min_two max_three min_three max_four min_four   -- for this text's walks alone
set_option linter.unusedVariables false
set_option linter.unusedSimpArgs false

/-! ### peristylelaw16_PoslistBoth: function 5 -/
def peristylelaw16_PoslistBoth.j0 : Nat → List (S64) → List (S64) → Int → Bool → Option (Bool)
 | 0, _, _, _, _ => none
 | k + 1, x0, x1, x2, x28 => if x28 = true then ((peristylelaw16_awake.f k).bind fun t817 => (some t817)) else ((poslist_Of.f k x0 (wrap64 (1 + (Int.tmod (Go.bits .and .i64 x2 255) 3)))).bind fun bt818 => ((poslist_Of.f k x1 (wrap64 (1 + (Int.tmod (Go.bits .and .i64 (x2 / 256) 255) 3)))).bind fun bt830 => (if bt818.2.2.2.2 = 0 then (if bt830.2.2.2.2 = 0 then ((poslist_List_And.f k bt818.1 bt818.2.1 bt818.2.2.1 bt818.2.2.2.1 bt830.1 bt830.2.1 bt830.2.2.1 bt830.2.2.2.1).bind fun bt842 => ((peristyleref16_Both.f k 0 x0 x1).bind fun bt852 => ((peristylelaw16_is.f k bt842.1 bt842.2.1 bt842.2.2.1 bt842.2.2.2 bt852.1 bt852.2).bind fun t856 => (if t856 = true then ((poslist_List_Or.f k bt818.1 bt818.2.1 bt818.2.2.1 bt818.2.2.2.1 bt830.1 bt830.2.1 bt830.2.2.1 bt830.2.2.2.1).bind fun bt857 => ((peristyleref16_Both.f k 1 x0 x1).bind fun bt867 => ((peristylelaw16_is.f k bt857.1 bt857.2.1 bt857.2.2.1 bt857.2.2.2 bt867.1 bt867.2).bind fun t871 => (if t871 = true then ((poslist_List_Less.f k bt818.1 bt818.2.1 bt818.2.2.1 bt818.2.2.2.1 bt830.1 bt830.2.1 bt830.2.2.1 bt830.2.2.2.1).bind fun bt872 => ((peristyleref16_Both.f k 2 x0 x1).bind fun bt882 => ((peristylelaw16_is.f k bt872.1 bt872.2.1 bt872.2.2.1 bt872.2.2.2 bt882.1 bt882.2).bind fun t886 => (if t886 = true then ((peristylelaw16_awake.f k).bind fun t887 => (some t887)) else (none))))) else (none))))) else (none))))) else (none)) else (none))))
/-! ### peristyleref14_Pick: function 30 -/
def peristyleref14_Pick.f (k : Nat) (l0 : List (S64)) (a1 : Int) : Option (Int × Int) := (peristyleref14_Places.f k l0).bind fun bt888 => (if bt888.2 = 0 then (if a1 < 0 then (some (0, 3)) else (if a1 ≥ (bt888.1.length : Int) then (some (0, 3)) else (if 0 ≤ a1 then (if a1 < (bt888.1.length : Int) then (some (rd bt888.1 a1, 0)) else (none)) else (none)))) else (some (0, bt888.2)))
set_option maxHeartbeats 8000000 in
set_option maxRecDepth 100000 in
theorem peristyleref14_Pick.calls (k : Nat) (A0 : Option Addr) (c0 : Nat) (l0 : List (S64)) (a1 : Int) (r1 : Int) (r2 : Int) (w : World) (hr0 : Kd.C k64 w A0 l0.length l0) (hc0 : l0.length ≤ c0) (h : peristyleref14_Pick.f k l0 a1 = some (r1, r2)) :
  Calls Tryz.prog 30 #[.slice A0 l0.length c0, .int .i64 a1] w fun e w' => e = .returned (.tuple #[.int .i64 r1, .int .i64 r2]) ∧ Below w.heap.size w w' := by
 have HR0 := Aside0.mk hr0
 have HC0 := Aside0.mk hc0
 clear hr0 hc0
 have HB := Aside0.mk (Below.refl w.heap.size w)
 have H := h
 clear h
 unfold peristyleref14_Pick.f at H
 replace H := bd H
 obtain ⟨⟨t888, t889⟩, A3, H⟩ := H
 dsimp only at H
 replace H := ife H
 rcases H with ⟨-, c4b0, c4b1, H⟩ | ⟨c4, c4b0, c4b1, H⟩
 ·replace H := ifd H
  rcases H with ⟨-, c5b0, H⟩ | ⟨-, c5b0, H⟩
  ·simp only [Option.some.injEq, Prod.mk.injEq] at H
   obtain ⟨rfl, rfl⟩ := H
   go_enter Tryz.func30, Tryz.ntmps30
   go_wp2_with (((with_reducible refine gate_callee (f := 47) rfl ?_); refine gL 10 Tryz.func47 #[.slice A0 l0.length c0] ?_; (with_reducible refine (peristyleref14_Places.calls k _ _ l0 t888 t889 _ ?side1 ?side2 A3.out).mono ?_); (case side1 => exact cx HR0.out); (case side2 => exact HC0.out); rintro e w6 ⟨v890, rfl, ho0, hb⟩; refine ⟨_, rfl, ?_⟩; have HO891 := Aside0.mk (Kd.R_lower ho0 (below_size (bh HB.out))); replace HB := bsa HB hb; clear hb ho0))
   go_ret2
   exact ⟨er, bh HB.out⟩
  ·replace H := ifd H
   rcases H with ⟨-, c7b0, H⟩ | ⟨-, c7b0, H⟩
   ·simp only [Option.some.injEq, Prod.mk.injEq] at H
    obtain ⟨rfl, rfl⟩ := H
    go_enter Tryz.func30, Tryz.ntmps30
    go_wp2_with (((with_reducible refine gate_callee (f := 47) rfl ?_); refine gL 10 Tryz.func47 #[.slice A0 l0.length c0] ?_; (with_reducible refine (peristyleref14_Places.calls k _ _ l0 t888 t889 _ ?side1 ?side2 A3.out).mono ?_); (case side1 => exact cx HR0.out); (case side2 => exact HC0.out); rintro e w8 ⟨v890, rfl, ho0, hb⟩; refine ⟨_, rfl, ?_⟩; have HO891 := Aside0.mk (Kd.R_lower ho0 (below_size (bh HB.out))); replace HB := bsa HB hb; clear hb ho0; obtain ⟨Ao9, co9, eo9⟩ := Kd.R_slice HO891.out; subst eo9))
    go_ret2
    exact ⟨er, bh HB.out⟩
   ·replace H := ifn H
    obtain ⟨-, c10b0, H⟩ := H
    replace H := ifn H
    obtain ⟨-, c11b0, H⟩ := H
    simp only [Option.some.injEq, Prod.mk.injEq] at H
    obtain ⟨rfl, rfl⟩ := H
    go_enter Tryz.func30, Tryz.ntmps30
    go_wp2_with (((with_reducible refine gate_callee (f := 47) rfl ?_); refine gL 10 Tryz.func47 #[.slice A0 l0.length c0] ?_; (with_reducible refine (peristyleref14_Places.calls k _ _ l0 t888 t889 _ ?side1 ?side2 A3.out).mono ?_); (case side1 => exact cx HR0.out); (case side2 => exact HC0.out); rintro e w12 ⟨v890, rfl, ho0, hb⟩; refine ⟨_, rfl, ?_⟩; have HO891 := Aside0.mk (Kd.R_lower ho0 (below_size (bh HB.out))); replace HB := bsa HB hb; clear hb ho0; obtain ⟨Ao13, co13, eo13⟩ := Kd.R_slice HO891.out; subst eo13; have p892 : 0 ≤ (a1 : Int) := ad; have q892 : a1 < (t888.length : Int) := ad; obtain ⟨ad892, e892, hx892_0⟩ := Kd.at_int (Kd.R_reads' HO891.out).2.2 a1 p892 q892; cases e892; replace p892 := eq_true p892; replace q892 := eq_true q892))
    go_ret2
    exact ⟨er, bh HB.out⟩
 ·simp only [Option.some.injEq, Prod.mk.injEq] at H
  obtain ⟨rfl, rfl⟩ := H
  go_enter Tryz.func30, Tryz.ntmps30
  go_wp2_with (((with_reducible refine gate_callee (f := 47) rfl ?_); refine gL 10 Tryz.func47 #[.slice A0 l0.length c0] ?_; (with_reducible refine (peristyleref14_Places.calls k _ _ l0 t888 t889 _ ?side1 ?side2 A3.out).mono ?_); (case side1 => exact cx HR0.out); (case side2 => exact HC0.out); rintro e w14 ⟨v890, rfl, ho0, hb⟩; refine ⟨_, rfl, ?_⟩; have HO891 := Aside0.mk (Kd.R_lower ho0 (below_size (bh HB.out))); replace HB := bsa HB hb; clear hb ho0))
  go_ret2
  exact ⟨er, bh HB.out⟩

/-! ### words_Rank: function 68 -/
mutual
def words_Rank.j0 : Nat → List Int → Int → Bool → Option (Int)
 | 0, _, _, _ => none
 | k + 1, x0, x1, x15 => if x15 = true then (some 0) else (words_Rank.l0 k x1 0 x0 (x0.length : Int) 0)
def words_Rank.l0 : Nat → Int → Int → List Int → Int → Int → Option (Int)
 | 0, _, _, _, _, _ => none
 | k + 1, x1, x5, x16, x17, x18 => if x18 < x17 then (if 0 ≤ x18 then (if x18 < (x16.length : Int) then (if x1 ≥ (wrap64 ((wrap64 (64 * x18)) + 64)) then ((bits_Ones.f k (rd x16 x18)).bind fun t895 => (words_Rank.l0 k x1 (wrap64 (x5 + t895)) x16 x17 (wrap64 (x18 + 1)))) else (if x1 > (wrap64 (64 * x18)) then ((bits_Field.f (rd x16 x18) 0 (wrap64 (x1 - (wrap64 (64 * x18))))).bind fun t896 => ((bits_Ones.f k t896).bind fun t897 => (words_Rank.l0 k x1 (wrap64 (x5 + t897)) x16 x17 (wrap64 (x18 + 1))))) else (words_Rank.l0 k x1 x5 x16 x17 (wrap64 (x18 + 1))))) else (none)) else (none)) else (some x5)
end
def words_Rank.f (k : Nat) (l0 : List Int) (a1 : Int) : Option (Int) := (words_May.f l0).bind fun t893 => (if t893 = true then (words_Rank.j0 k l0 a1 (decide (a1 ≤ 0))) else (words_Rank.j0 k l0 a1 true))
theorem words_Rank.j0_succ (k) (a0) (a1) (a2) : type_of% (@words_Rank.j0.eq_2 a0 a1 a2 k) := words_Rank.j0.eq_2 a0 a1 a2 k
theorem words_Rank.l0_succ (k) (a0) (a1) (a2) (a3) (a4) : type_of% (@words_Rank.l0.eq_2 a0 a1 a2 a3 a4 k) := words_Rank.l0.eq_2 a0 a1 a2 a3 a4 k
set_option maxHeartbeats 8000000 in
set_option maxRecDepth 100000 in
theorem words_Rank.calls (k : Nat) (A0 : Option Addr) (c0 : Nat) (l0 : List Int) (a1 : Int) (r : Int) (w : World) (hr0 : Kd.C (Kd.int .i64) w A0 l0.length l0) (hc0 : l0.length ≤ c0) (h : words_Rank.f k l0 a1 = some r) :
  Calls Tryz.prog 68 #[.slice A0 l0.length c0, .int .i64 a1] w fun e w' => e = .returned (.int .i64 r) ∧ Drawn0 w w' := by
 have HR0 := Aside0.mk hr0
 have HC0 := Aside0.mk hc0
 clear hr0 hc0
 have H := h
 clear h
 unfold words_Rank.f at H
 have HC3 := Aside0.mk H
 clear H
 go_enter Tryz.func68, Tryz.ntmps68
 go_upto_region 1 with (fail)
 go_cut [15] (fun v15 wc => ∃ (kq : Nat) (x15_2 : Bool), v15 = .bool x15_2 ∧ Aside0 (words_Rank.j0 kq l0 a1 x15_2 = some r) ∧ Aside0 (kq ≤ k) ∧ Drawn0 w wc)
 case first =>
  have H := HC3.out
  clear HC3
  replace H := bd H
  obtain ⟨t893, A4, H⟩ := H
  replace H := ifb H
  rcases H with ⟨rfl, H⟩ | ⟨rfl, H⟩
  ·have H' := Aside0.mk H
   clear H
   go_wp2_with (((with_reducible refine gate_callee (f := 80) rfl ?_); refine gL 10 Tryz.func80 #[.slice A0 l0.length c0] ?_; (with_reducible refine (words_May.calls _ _ l0 true _ ?side1 ?side2 A4.out).mono ?_); (case side1 => exact cx HR0.out); (case side2 => exact HC0.out); rintro e w' ⟨rfl, ⟨nd, rfl⟩⟩; refine ⟨_, rfl, ?_⟩))
   go_meet
   case rel => exact ⟨_, (decide (a1 ≤ 0)), (by rfl), H', ⟨by omega⟩, by repeat (first | exact Drawn0.refl _ | apply Drawn0.step)⟩
  ·have H' := Aside0.mk H
   clear H
   go_wp2_with (((with_reducible refine gate_callee (f := 80) rfl ?_); refine gL 10 Tryz.func80 #[.slice A0 l0.length c0] ?_; (with_reducible refine (words_May.calls _ _ l0 false _ ?side1 ?side2 A4.out).mono ?_); (case side1 => exact cx HR0.out); (case side2 => exact HC0.out); rintro e w' ⟨rfl, ⟨nd, rfl⟩⟩; refine ⟨_, rfl, ?_⟩))
   go_meet
   case rel => exact ⟨_, (true), (by rfl), H', ⟨by omega⟩, by repeat (first | exact Drawn0.refl _ | apply Drawn0.step)⟩
 case rest =>
  clear HC3
  obtain ⟨kq, x15_2, rfl, HA, HJ2, ⟨mc2, rfl⟩⟩ := hcut
  cases kq with
  | zero => exact absurd HA.out (by simp [words_Rank.j0])
  | succ kj2 =>
   have H := HA.out
   clear HA
   simp only [words_Rank.j0] at H
   replace H := ifb H
   rcases H with ⟨rfl, H⟩ | ⟨rfl, H⟩
   ·obtain rfl := Option.some.inj H
    go_wp2
    go_ret
    exact ⟨by rfl, by repeat (first | exact Drawn0.refl _ | apply Drawn0.step)⟩
   ·have H' := Aside0.mk H
    clear H
    go_wp2
    go_loopg [5, 18] kj2 (fun kq v5 v18 w' => ∃ (x5_2 : Int) (x18_2 : Int), v5 = .int .i64 x5_2 ∧ v18 = .int .i64 x18_2 ∧ Aside0 (words_Rank.l0 kq a1 x5_2 l0 (l0.length : Int) x18_2 = some r) ∧ Aside0 (kq ≤ kj2) ∧ Drawn0 w w')
    case atStart => exact ⟨(0), (0), (by rfl), (by rfl), H', ⟨Nat.le_refl _⟩, by repeat (first | exact Drawn0.refl _ | apply Drawn0.step)⟩
    case round =>
     clear H'
     obtain ⟨x5_2, x18_2, rfl, rfl, HA, HK2, ⟨m2, rfl⟩⟩ := hrel
     cases gk with
     | zero => exact absurd HA.out (by simp [words_Rank.l0])
     | succ k2 =>
      have H := HA.out
      clear HA
      simp only [words_Rank.l0] at H
      replace H := ifd H
      rcases H with ⟨-, c7b0, H⟩ | ⟨-, c7b0, H⟩
      ·replace H := ifn H
       obtain ⟨-, c8b0, H⟩ := H
       replace H := ifn H
       obtain ⟨-, c9b0, H⟩ := H
       replace H := ifd H
       rcases H with ⟨-, c10b0, H⟩ | ⟨-, c10b0, H⟩
       ·replace H := bd H
        obtain ⟨t895, A11, H⟩ := H
        have H' := Aside0.mk H
        clear H
        have p894 : 0 ≤ (x18_2 : Int) := ad
        have q894 : x18_2 < (l0.length : Int) := ad
        obtain ⟨ad894, e894, hx894_0⟩ := Kd.at_int HR0.out x18_2 p894 q894
        cases e894
        replace p894 := eq_true p894
        replace q894 := eq_true q894
        go_wp2_with (((with_reducible refine gate_callee (f := 81) rfl ?_); refine gL 32 Tryz.func81 #[.int .i64 (rd l0 x18_2)] ?_; (with_reducible refine (bits_Ones.calls k2 (rd l0 x18_2) t895 _ A11.out).mono ?_); rintro e w' ⟨rfl, ⟨nd, rfl⟩⟩; refine ⟨_, rfl, ?_⟩))
        go_roundg k2
        case measure => have := HJ2.out; have := HK2.out; omega
        case rel => exact ⟨(wrap64 (x5_2 + t895)), (wrap64 (x18_2 + 1)), (by rfl), (by rfl), H', ⟨by have := HJ2.out; have := HK2.out; omega⟩, by repeat (first | exact Drawn0.refl _ | apply Drawn0.step)⟩
       ·replace H := ifd H
        rcases H with ⟨-, c12b0, H⟩ | ⟨-, c12b0, H⟩
        ·replace H := bd H
         obtain ⟨t896, A13, H⟩ := H
         replace H := bd H
         obtain ⟨t897, A14, H⟩ := H
         have H' := Aside0.mk H
         clear H
         have p894 : 0 ≤ (x18_2 : Int) := ad
         have q894 : x18_2 < (l0.length : Int) := ad
         obtain ⟨ad894, e894, hx894_0⟩ := Kd.at_int HR0.out x18_2 p894 q894
         cases e894
         replace p894 := eq_true p894
         replace q894 := eq_true q894
         go_wp2_with (first | ((with_reducible refine gate_callee (f := 98) rfl ?_); refine gL 43 Tryz.func98 #[.int .i64 (rd l0 x18_2), .int .i64 0, .int .i64 (wrap64 (a1 - (wrap64 (64 * x18_2))))] ?_; (with_reducible refine (bits_Field.calls (rd l0 x18_2) 0 (wrap64 (a1 - (wrap64 (64 * x18_2)))) t896 _ A13.out).mono ?_); rintro e w' ⟨rfl, ⟨nd, rfl⟩⟩; refine ⟨_, rfl, ?_⟩) | ((with_reducible refine gate_callee (f := 81) rfl ?_); refine gL 44 Tryz.func81 #[.int .i64 t896] ?_; (with_reducible refine (bits_Ones.calls k2 t896 t897 _ A14.out).mono ?_); rintro e w' ⟨rfl, ⟨nd, rfl⟩⟩; refine ⟨_, rfl, ?_⟩))
         go_roundg k2
         case measure => have := HJ2.out; have := HK2.out; omega
         case rel => exact ⟨(wrap64 (x5_2 + t897)), (wrap64 (x18_2 + 1)), (by rfl), (by rfl), H', ⟨by have := HJ2.out; have := HK2.out; omega⟩, by repeat (first | exact Drawn0.refl _ | apply Drawn0.step)⟩
        ·have H' := Aside0.mk H
         clear H
         have p894 : 0 ≤ (x18_2 : Int) := ad
         have q894 : x18_2 < (l0.length : Int) := ad
         obtain ⟨ad894, e894, hx894_0⟩ := Kd.at_int HR0.out x18_2 p894 q894
         cases e894
         replace p894 := eq_true p894
         replace q894 := eq_true q894
         go_wp2
         go_roundg k2
         case measure => have := HJ2.out; have := HK2.out; omega
         case rel => exact ⟨(x5_2), (wrap64 (x18_2 + 1)), (by rfl), (by rfl), H', ⟨by have := HJ2.out; have := HK2.out; omega⟩, by repeat (first | exact Drawn0.refl _ | apply Drawn0.step)⟩
      ·obtain rfl := Option.some.inj H
       go_wp2
       go_ret
       exact ⟨by rfl, by repeat (first | exact Drawn0.refl _ | apply Drawn0.step)⟩

/-! ### span_Rank: function 70 -/
def span_Rank.l0 : Nat → Int → Int → List (S64) → Int → Int → Option (Int)
 | 0, _, _, _, _, _ => none
 | k + 1, x1, x5, x12, x13, x14 => if x14 < x13 then (if 0 ≤ x14 then (if x14 < (x12.length : Int) then (span_Rank.l0 k x1 (wrap64 (x5 + (mx 0 (wrap64 ((mn x1 ((rd_T64 x12 x14).f1)) - ((rd_T64 x12 x14).f0)))))) x12 x13 (wrap64 (x14 + 1))) else (none)) else (none)) else (some x5)
def span_Rank.f (k : Nat) (l0 : List (S64)) (a1 : Int) : Option (Int) := (span_May.f k l0).bind fun t898 => (if t898 = true then (span_Rank.l0 k (mx a1 0) 0 l0 (l0.length : Int) 0) else (some 0))
theorem span_Rank.l0_succ (k) (a0) (a1) (a2) (a3) (a4) : type_of% (@span_Rank.l0.eq_2 a0 a1 a2 a3 a4 k) := span_Rank.l0.eq_2 a0 a1 a2 a3 a4 k
set_option maxHeartbeats 8000000 in
set_option maxRecDepth 100000 in
theorem span_Rank.calls (k : Nat) (A0 : Option Addr) (c0 : Nat) (l0 : List (S64)) (a1 : Int) (r : Int) (w : World) (hr0 : Kd.C k64 w A0 l0.length l0) (hc0 : l0.length ≤ c0) (h : span_Rank.f k l0 a1 = some r) :
  Calls Tryz.prog 70 #[.slice A0 l0.length c0, .int .i64 a1] w fun e w' => e = .returned (.int .i64 r) ∧ Below w.heap.size w w' := by
 have hu64 := Tryz.underlying64
 have HR0 := Aside0.mk hr0
 have HC0 := Aside0.mk hc0
 clear hr0 hc0
 have HB := Aside0.mk (Below.refl w.heap.size w)
 have H := h
 clear h
 unfold span_Rank.f at H
 obtain ⟨ji3, hji3⟩ : ∃ j_ : Int, (mx a1 0) = j_ := ⟨_, rfl⟩
 replace H : ((span_May.f k l0).bind fun t898 => (if t898 = true then (span_Rank.l0 k ji3 0 l0 (l0.length : Int) 0) else (some 0))) = some r := by (rw [hji3] at H; exact H)
 ((have hji3l : 0 ≤ ji3 := by (rw [← hji3]; unfold mx; (repeat' split) <;> omega)))
 ((have hji3m : 0 ≤ ji3 := by omega))
 have hji3_ : (if a1 < 0 then 0 else a1) = ji3 := hji3
 replace H := bd H
 obtain ⟨t898, A4, H⟩ := H
 replace H := ifb H
 rcases H with ⟨rfl, H⟩ | ⟨rfl, H⟩
 ·have H' := Aside0.mk H
  clear H
  go_enter Tryz.func70, Tryz.ntmps70
  go_wp2_with (((with_reducible refine gate_callee (f := 41) rfl ?_); refine gL 11 Tryz.func41 #[.slice A0 l0.length c0] ?_; (with_reducible refine (span_May.calls k _ _ l0 true _ ?side1 ?side2 A4.out).mono ?_); (case side1 => exact cx HR0.out); (case side2 => exact HC0.out); rintro e w6 ⟨rfl, hb⟩; refine ⟨_, rfl, ?_⟩; replace HB := bsa HB hb; clear hb))
  go_loopg [5, 14] k (fun kq v5 v14 w' => ∃ (x5_1 : Int) (x14_1 : Int), v5 = .int .i64 x5_1 ∧ v14 = .int .i64 x14_1 ∧ Aside0 (span_Rank.l0 kq ji3 x5_1 l0 (l0.length : Int) x14_1 = some r) ∧ Aside0 (kq ≤ k) ∧ Aside0 (Below w.heap.size w w'))
  case atStart => exact ⟨(0), (0), (by rfl), (by rfl), H', ⟨Nat.le_refl _⟩, ⟨bh HB.out⟩⟩
  case round =>
   clear H'
   obtain ⟨x5_1, x14_1, rfl, rfl, HA, HK1, HB⟩ := hrel
   cases gk with
   | zero => exact absurd HA.out (by simp [span_Rank.l0])
   | succ k1 =>
    have H := HA.out
    clear HA
    simp only [span_Rank.l0] at H
    replace H := ifd H
    rcases H with ⟨-, c7b0, H⟩ | ⟨-, c7b0, H⟩
    ·replace H := ifn H
     obtain ⟨-, c8b0, H⟩ := H
     replace H := ifn H
     obtain ⟨-, c9b0, H⟩ := H
     obtain ⟨ji10, hji10⟩ : ∃ j_ : Int, (mn ji3 ((rd_T64 l0 x14_1).f1)) = j_ := ⟨_, rfl⟩
     replace H : (span_Rank.l0 k1 ji3 (wrap64 (x5_1 + (mx 0 (wrap64 ((ji10) - ((rd_T64 l0 x14_1).f0)))))) l0 (l0.length : Int) (wrap64 (x14_1 + 1))) = some r := by (rw [hji10] at H; exact H)
     have hji10_ : (if ((rd_T64 l0 x14_1).f1) < ji3 then ((rd_T64 l0 x14_1).f1) else ji3) = ji10 := hji10
     obtain ⟨ji11, hji11⟩ : ∃ j_ : Int, (mx 0 (wrap64 ((ji10) - ((rd_T64 l0 x14_1).f0)))) = j_ := ⟨_, rfl⟩
     replace H : (span_Rank.l0 k1 ji3 (wrap64 (x5_1 + (ji11))) l0 (l0.length : Int) (wrap64 (x14_1 + 1))) = some r := by (rw [hji11] at H; exact H)
     have hji11_ : (if 0 < (wrap64 ((ji10) - ((rd_T64 l0 x14_1).f0))) then (wrap64 ((ji10) - ((rd_T64 l0 x14_1).f0))) else 0) = ji11 := hji11
     have H' := Aside0.mk H
     clear H
     have p899 : 0 ≤ (x14_1 : Int) := ad
     have q899 : x14_1 < (l0.length : Int) := ad
     obtain ⟨ad899, e899, hx899_0, hx899_1⟩ := at_T64 HR0.out x14_1 p899 q899
     cases e899
     replace hx899_0 := cb HB.out.cell hx899_0
     replace hx899_1 := cb HB.out.cell hx899_1
     replace p899 := eq_true p899
     replace q899 := eq_true q899
     go_wp2_with (((with_reducible refine gate_dst (N := 7) rfl ?_); refine boxE HB 7 64 #[.int .i64 0, .int .i64 0] ?_; clear HB; intro gb900 w12 BK900 GW900 hg hb HB; have GE900 := GW900; clear hb hg; obtain ⟨hcz13_0, hcz13_1, hfz13_0, hfz13_1⟩ := b2 BK900))
     go_roundg k1
     case measure => have := HK1.out; omega
     case rel => exact ⟨(wrap64 (x5_1 + (ji11))), (wrap64 (x14_1 + 1)), (by rfl), (by rfl), (by exact H'), ⟨by have := HK1.out; omega⟩, ⟨bh HB.out⟩⟩
    ·obtain rfl := Option.some.inj H
     go_wp2
     go_ret
     exact ⟨by rfl, bh HB.out⟩
 ·obtain rfl := Option.some.inj H
  go_enter Tryz.func70, Tryz.ntmps70
  go_wp2_with (((with_reducible refine gate_callee (f := 41) rfl ?_); refine gL 11 Tryz.func41 #[.slice A0 l0.length c0] ?_; (with_reducible refine (span_May.calls k _ _ l0 false _ ?side1 ?side2 A4.out).mono ?_); (case side1 => exact cx HR0.out); (case side2 => exact HC0.out); rintro e w14 ⟨rfl, hb⟩; refine ⟨_, rfl, ?_⟩; replace HB := bsa HB hb; clear hb))
  go_ret
  exact ⟨by rfl, bh HB.out⟩

/-! ### poslist_List_Rank: function 32 -/
def poslist_List_Rank.f (k : Nat) (a0_0 : Int) (l0_1 : List (S64)) (l0_2 : List Int) (l0_3 : List Int) (a1 : Int) : Option (Int) := if a0_0 = 2 then ((words_Rank.f k l0_2 a1).bind fun t902 => (some t902)) else (if a0_0 = 3 then ((slices_BinarySearch_int_int.f k l0_3 a1).bind fun bt903 => (some bt903.1)) else ((span_Rank.f k l0_1 a1).bind fun t905 => (some t905)))
set_option maxHeartbeats 8000000 in
set_option maxRecDepth 100000 in
theorem poslist_List_Rank.calls (k : Nat) (a0_0 : Int) (A0_1 : Option Addr) (c0_1 : Nat) (l0_1 : List (S64)) (A0_2 : Option Addr) (c0_2 : Nat) (l0_2 : List Int) (A0_3 : Option Addr) (c0_3 : Nat) (l0_3 : List Int) (a1 : Int) (r : Int) (w : World) (hr0_1 : Kd.C k64 w A0_1 l0_1.length l0_1) (hc0_1 : l0_1.length ≤ c0_1) (hr0_2 : Kd.C (Kd.int .i64) w A0_2 l0_2.length l0_2) (hc0_2 : l0_2.length ≤ c0_2) (hr0_3 : Kd.C (Kd.int .i64) w A0_3 l0_3.length l0_3) (hc0_3 : l0_3.length ≤ c0_3) (h : poslist_List_Rank.f k a0_0 l0_1 l0_2 l0_3 a1 = some r) :
  Calls Tryz.prog 32 #[.agg #[.int .i64 a0_0, .slice A0_1 l0_1.length c0_1, .slice A0_2 l0_2.length c0_2, .slice A0_3 l0_3.length c0_3], .int .i64 a1] w fun e w' => e = .returned (.int .i64 r) ∧ Below w.heap.size w w' := by
 have hu27 := Tryz.underlying27
 have HR0_1 := Aside0.mk hr0_1
 have HC0_1 := Aside0.mk hc0_1
 clear hr0_1 hc0_1
 have HR0_2 := Aside0.mk hr0_2
 have HC0_2 := Aside0.mk hc0_2
 clear hr0_2 hc0_2
 have HR0_3 := Aside0.mk hr0_3
 have HC0_3 := Aside0.mk hc0_3
 clear hr0_3 hc0_3
 have HB := Aside0.mk (Below.refl w.heap.size w)
 have H := h
 clear h
 unfold poslist_List_Rank.f at H
 replace H := ife H
 rcases H with ⟨-, c3b0, c3b1, H⟩ | ⟨c3, c3b0, c3b1, H⟩
 ·replace H := bd H
  obtain ⟨t902, A4, H⟩ := H
  obtain rfl := Option.some.inj H
  go_enter Tryz.func32, Tryz.ntmps32
  go_wp2_with (first | ((with_reducible refine gate_dst (N := 2) rfl ?_); refine boxE HB 2 27 #[.int .i64 a0_0, .slice A0_1 l0_1.length c0_1, .slice A0_2 l0_2.length c0_2, .slice A0_3 l0_3.length c0_3] ?_; clear HB; intro gb901 w5 BK901 GW901 hg hb HB; have GE901 := GW901; clear hb hg; obtain ⟨hcz6_0, hcz6_1, hcz6_2, hcz6_3, hfz6_0, hfz6_1, hfz6_2, hfz6_3⟩ := b4 BK901) | ((with_reducible refine gate_callee (f := 68) rfl ?_); refine gL 14 Tryz.func68 #[.slice A0_2 l0_2.length c0_2, .int .i64 a1] ?_; (with_reducible refine (words_Rank.calls k _ _ l0_2 a1 t902 _ ?side1 ?side2 A4.out).mono ?_); (case side1 => exact cx (Kd.C_below HR0_2.out HB.out)); (case side2 => exact HC0_2.out); rintro e w' ⟨rfl, ⟨nd, rfl⟩⟩; refine ⟨_, rfl, ?_⟩))
  go_ret
  exact ⟨er, bh HB.out⟩
 ·replace H := ife H
  rcases H with ⟨-, c7b0, c7b1, H⟩ | ⟨c7, c7b0, c7b1, H⟩
  ·replace H := bd H
   obtain ⟨⟨t903, t904⟩, A8, H⟩ := H
   dsimp only at H
   obtain rfl := Option.some.inj H
   go_enter Tryz.func32, Tryz.ntmps32
   go_wp2_with (first | ((with_reducible refine gate_dst (N := 2) rfl ?_); refine boxE HB 2 27 #[.int .i64 a0_0, .slice A0_1 l0_1.length c0_1, .slice A0_2 l0_2.length c0_2, .slice A0_3 l0_3.length c0_3] ?_; clear HB; intro gb901 w9 BK901 GW901 hg hb HB; have GE901 := GW901; clear hb hg; obtain ⟨hcz10_0, hcz10_1, hcz10_2, hcz10_3, hfz10_0, hfz10_1, hfz10_2, hfz10_3⟩ := b4 BK901) | ((with_reducible refine gate_callee (f := 69) rfl ?_); refine gL 21 Tryz.func69 #[.slice A0_3 l0_3.length c0_3, .int .i64 a1] ?_; (with_reducible refine (slices_BinarySearch_int_int.calls k _ _ l0_3 a1 t903 t904 _ ?side1 ?side2 A8.out).mono ?_); (case side1 => exact cx (Kd.C_below HR0_3.out HB.out)); (case side2 => exact HC0_3.out); rintro e w' ⟨rfl, ⟨nd, rfl⟩⟩; refine ⟨_, rfl, ?_⟩))
   go_ret
   exact ⟨er, bh HB.out⟩
  ·replace H := bd H
   obtain ⟨t905, A11, H⟩ := H
   obtain rfl := Option.some.inj H
   go_enter Tryz.func32, Tryz.ntmps32
   go_wp2_with (first | ((with_reducible refine gate_dst (N := 2) rfl ?_); refine boxE HB 2 27 #[.int .i64 a0_0, .slice A0_1 l0_1.length c0_1, .slice A0_2 l0_2.length c0_2, .slice A0_3 l0_3.length c0_3] ?_; clear HB; intro gb901 w12 BK901 GW901 hg hb HB; have GE901 := GW901; clear hb hg; obtain ⟨hcz13_0, hcz13_1, hcz13_2, hcz13_3, hfz13_0, hfz13_1, hfz13_2, hfz13_3⟩ := b4 BK901) | ((with_reducible refine gate_callee (f := 70) rfl ?_); refine gL 28 Tryz.func70 #[.slice A0_1 l0_1.length c0_1, .int .i64 a1] ?_; (with_reducible refine (span_Rank.calls k _ _ l0_1 a1 t905 _ ?side1 ?side2 A11.out).mono ?_); (case side1 => exact cx (Kd.C_below HR0_1.out HB.out)); (case side2 => exact HC0_1.out); rintro e w14 ⟨rfl, hb⟩; refine ⟨_, rfl, ?_⟩; replace BK901 := bba BK901 hb; replace HB := bsa HB hb; clear hb))
   go_ret
   exact ⟨er, bh HB.out⟩

end Go.Proofs.YtjgmdjieandemaaGreat.Print
end
section
namespace Go.Proofs.YtjgmdjieandemaaGreat.Print
open Go.RowKit Go.Proofs.YtjgmdjieandemaaGreatW.PrintWords Go.Proofs.YtjgmdjieandemaaGreatW.PrintLast Go.Proofs.YtjgmdjieandemaaGreatW.PrintMore
attribute [local go_sem] max2_int min2_int max_two min_two max_three min_three max_four min_four   -- for this text's walks alone
set_option linter.unusedVariables false
set_option linter.unusedSimpArgs false

/-! ### peristyleref14_Rank: function 33 -/
def peristyleref14_Rank.l0 : Nat → Int → List Int → Int → Option (Int)
 | 0, _, _, _ => none
 | k + 1, x1, x5, x7 => if x7 < (x5.length : Int) then (if 0 ≤ x7 then (if (rd x5 x7) < x1 then (peristyleref14_Rank.l0 k x1 x5 (wrap64 (x7 + 1))) else (some x7)) else (none)) else (some x7)
def peristyleref14_Rank.f (k : Nat) (l0 : List (S64)) (a1 : Int) : Option (Int) := (peristyleref14_Places.f k l0).bind fun bt906 => (peristyleref14_Rank.l0 k a1 bt906.1 0)
theorem peristyleref14_Rank.l0_succ (k) (a0) (a1) (a2) : type_of% (@peristyleref14_Rank.l0.eq_2 a0 a1 a2 k) := peristyleref14_Rank.l0.eq_2 a0 a1 a2 k
set_option maxHeartbeats 8000000 in
set_option maxRecDepth 100000 in
theorem peristyleref14_Rank.calls (k : Nat) (A0 : Option Addr) (c0 : Nat) (l0 : List (S64)) (a1 : Int) (r : Int) (w : World) (hr0 : Kd.C k64 w A0 l0.length l0) (hc0 : l0.length ≤ c0) (h : peristyleref14_Rank.f k l0 a1 = some r) :
  Calls Tryz.prog 33 #[.slice A0 l0.length c0, .int .i64 a1] w fun e w' => e = .returned (.int .i64 r) ∧ Below w.heap.size w w' := by
 have HR0 := Aside0.mk hr0
 have HC0 := Aside0.mk hc0
 clear hr0 hc0
 have HB := Aside0.mk (Below.refl w.heap.size w)
 have H := h
 clear h
 unfold peristyleref14_Rank.f at H
 replace H := bd H
 obtain ⟨⟨t906, t907⟩, A3, H⟩ := H
 dsimp only at H
 have H' := Aside0.mk H
 clear H
 go_enter Tryz.func33, Tryz.ntmps33
 go_wp2_with (((with_reducible refine gate_callee (f := 47) rfl ?_); refine gL 10 Tryz.func47 #[.slice A0 l0.length c0] ?_; (with_reducible refine (peristyleref14_Places.calls k _ _ l0 t906 t907 _ ?side1 ?side2 A3.out).mono ?_); (case side1 => exact cx HR0.out); (case side2 => exact HC0.out); rintro e w4 ⟨v908, rfl, ho0, hb⟩; refine ⟨_, rfl, ?_⟩; have HO909 := Aside0.mk (Kd.R_lower ho0 (below_size (bh HB.out))); replace HB := bsa HB hb; clear hb ho0))
 go_loopg [7] k (fun kq v7 w' => ∃ (x7_1 : Int), v7 = .int .i64 x7_1 ∧ Aside0 (peristyleref14_Rank.l0 kq a1 t906 x7_1 = some r) ∧ Aside0 (kq ≤ k) ∧ Aside0 (Kd.R (Kd.int .i64) 3 w' w.heap.size (fun _ => True) v908 t906) ∧ Aside0 (Below w.heap.size w w'))
 case atStart => exact ⟨(0), (by rfl), H', ⟨Nat.le_refl _⟩, ⟨by exact HO909.out⟩, ⟨bh HB.out⟩⟩
 case round =>
  clear H'
  obtain ⟨x7_1, rfl, HA, HK1, HO_5, HB⟩ := hrel
  cases gk with
  | zero => exact absurd HA.out (by simp [peristyleref14_Rank.l0])
  | succ k1 =>
   have H := HA.out
   clear HA
   simp only [peristyleref14_Rank.l0] at H
   replace H := ifd H
   rcases H with ⟨-, c5b0, H⟩ | ⟨-, c5b0, H⟩
   ·replace H := ifn H
    obtain ⟨-, c6b0, H⟩ := H
    replace H := ifd H
    rcases H with ⟨-, c7b0, H⟩ | ⟨-, c7b0, H⟩
    ·have H' := Aside0.mk H
     clear H
     obtain ⟨Ao8, co8, eo8⟩ := Kd.R_slice HO_5.out
     subst eo8
     have p910 : 0 ≤ (x7_1 : Int) := ad
     have q910 : x7_1 < (t906.length : Int) := ad
     obtain ⟨ad910, e910, hx910_0⟩ := Kd.at_int (Kd.R_reads' HO_5.out).2.2 x7_1 p910 q910
     cases e910
     replace p910 := eq_true p910
     replace q910 := eq_true q910
     go_wp2
     go_roundg k1
     case measure => have := HK1.out; omega
     case rel => exact ⟨(wrap64 (x7_1 + 1)), (by rfl), H', ⟨by have := HK1.out; omega⟩, ⟨by exact HO_5.out⟩, ⟨bh HB.out⟩⟩
    ·obtain rfl := Option.some.inj H
     obtain ⟨Ao9, co9, eo9⟩ := Kd.R_slice HO_5.out
     subst eo9
     have p910 : 0 ≤ (x7_1 : Int) := ad
     have q910 : x7_1 < (t906.length : Int) := ad
     obtain ⟨ad910, e910, hx910_0⟩ := Kd.at_int (Kd.R_reads' HO_5.out).2.2 x7_1 p910 q910
     cases e910
     replace p910 := eq_true p910
     replace q910 := eq_true q910
     go_wp2
     go_ret
     exact ⟨er, bh HB.out⟩
   ·obtain rfl := Option.some.inj H
    obtain ⟨Ao10, co10, eo10⟩ := Kd.R_slice HO_5.out
    subst eo10
    go_wp2
    go_ret
    exact ⟨er, bh HB.out⟩

/-! ### peristyleref14_Has: function 35 -/
mutual
def peristyleref14_Has.l0 : Nat → List (S64) → Int → Int → Option (Bool)
 | 0, _, _, _ => none
 | k + 1, x0, x1, x5 => if x5 < (x0.length : Int) then ((peristyleref14_May.f k x0).bind fun t911 => (peristyleref14_Has.j1 k x0 x1 x5 t911)) else (peristyleref14_Has.j1 k x0 x1 x5 false)
def peristyleref14_Has.j1 : Nat → List (S64) → Int → Int → Bool → Option (Bool)
 | 0, _, _, _, _ => none
 | k + 1, x0, x1, x5, x13 => if x13 = true then (if 0 ≤ x5 then (if x5 < (x0.length : Int) then (if x1 ≥ ((rd_T64 x0 x5).f0) then (if x1 < ((rd_T64 x0 x5).f1) then (some true) else (peristyleref14_Has.l0 k x0 x1 (wrap64 (x5 + 1)))) else (peristyleref14_Has.l0 k x0 x1 (wrap64 (x5 + 1)))) else (none)) else (none)) else (some false)
end
def peristyleref14_Has.f (k : Nat) (l0 : List (S64)) (a1 : Int) : Option (Bool) := peristyleref14_Has.l0 k l0 a1 0
theorem peristyleref14_Has.l0_succ (k) (a0) (a1) (a2) : type_of% (@peristyleref14_Has.l0.eq_2 a0 a1 a2 k) := peristyleref14_Has.l0.eq_2 a0 a1 a2 k
theorem peristyleref14_Has.j1_succ (k) (a0) (a1) (a2) (a3) : type_of% (@peristyleref14_Has.j1.eq_2 a0 a1 a2 a3 k) := peristyleref14_Has.j1.eq_2 a0 a1 a2 a3 k
set_option maxHeartbeats 8000000 in
set_option maxRecDepth 100000 in
theorem peristyleref14_Has.calls (k : Nat) (A0 : Option Addr) (c0 : Nat) (l0 : List (S64)) (a1 : Int) (r : Bool) (w : World) (hr0 : Kd.C k64 w A0 l0.length l0) (hc0 : l0.length ≤ c0) (h : peristyleref14_Has.f k l0 a1 = some r) :
  Calls Tryz.prog 35 #[.slice A0 l0.length c0, .int .i64 a1] w fun e w' => e = .returned (.bool r) ∧ Drawn0 w w' := by
 have HR0 := Aside0.mk hr0
 have HC0 := Aside0.mk hc0
 clear hr0 hc0
 have H := h
 clear h
 unfold peristyleref14_Has.f at H
 have H' := Aside0.mk H
 clear H
 go_enter Tryz.func35, Tryz.ntmps35
 go_wp2
 go_loopg [5] k (fun kq v5 w' => ∃ (x5_1 : Int), v5 = .int .i64 x5_1 ∧ Aside0 (peristyleref14_Has.l0 kq l0 a1 x5_1 = some r) ∧ Aside0 (kq ≤ k) ∧ Drawn0 w w')
 case atStart => exact ⟨(0), (by rfl), H', ⟨Nat.le_refl _⟩, by repeat (exact Drawn0.refl _)⟩
 case round =>
  clear H'
  obtain ⟨x5_1, rfl, HA, HK1, ⟨m1, rfl⟩⟩ := hrel
  cases gk with
  | zero => exact absurd HA.out (by simp [peristyleref14_Has.l0])
  | succ k1 =>
   have H := HA.out
   clear HA
   simp only [peristyleref14_Has.l0] at H
   have HC3 := Aside0.mk H
   clear H
   go_upto_region 2 with (fail)
   go_cut [13] (fun v13 wc => ∃ (kq : Nat) (x13_2 : Bool), v13 = .bool x13_2 ∧ Aside0 (peristyleref14_Has.j1 kq l0 a1 x5_1 x13_2 = some r) ∧ Aside0 (kq ≤ k1) ∧ Drawn0 w wc)
   case first =>
    have H := HC3.out
    clear HC3
    replace H := ifd H
    rcases H with ⟨-, c4b0, H⟩ | ⟨-, c4b0, H⟩
    ·(skip)
     replace H := bd H
     obtain ⟨t911, A5, H⟩ := H
     have H' := Aside0.mk H
     clear H
     go_wp2_with ((go_at_call 21; (with_reducible refine (peristyleref14_May.calls k1 _ _ l0 t911 _ ?side1 ?side2 A5.out).mono ?_); (case side1 => exact cx HR0.out); (case side2 => exact HC0.out); rintro e w' ⟨rfl, ⟨nd, rfl⟩⟩; clear A5))
     go_meet
     case rel => exact ⟨_, (t911), (by rfl), H', ⟨by have := HK1.out; omega⟩, by repeat (first | exact Drawn0.refl _ | apply Drawn0.step)⟩
    ·(skip)
     have H' := Aside0.mk H
     clear H
     go_wp2
     go_meet
     case rel => exact ⟨_, (false), (by rfl), H', ⟨by have := HK1.out; omega⟩, by repeat (first | exact Drawn0.refl _ | apply Drawn0.step)⟩
   case rest =>
    clear HC3
    obtain ⟨kq, x13_2, rfl, HA, HJ2, ⟨mc2, rfl⟩⟩ := hcut
    cases kq with
    | zero => exact absurd HA.out (by simp [peristyleref14_Has.j1])
    | succ kj2 =>
     have H := HA.out
     clear HA
     simp only [peristyleref14_Has.j1] at H
     replace H := ifb H
     rcases H with ⟨rfl, H⟩ | ⟨rfl, H⟩
     ·replace H := ifn H
      obtain ⟨-, c7b0, H⟩ := H
      replace H := ifn H
      obtain ⟨-, c8b0, H⟩ := H
      replace H := ifd H
      rcases H with ⟨-, c9b0, H⟩ | ⟨-, c9b0, H⟩
      ·replace H := ifd H
       rcases H with ⟨-, c10b0, H⟩ | ⟨-, c10b0, H⟩
       ·obtain rfl := Option.some.inj H
        have p912 : 0 ≤ (x5_1 : Int) := ad
        have q912 : x5_1 < (l0.length : Int) := ad
        obtain ⟨ad912, e912, hx912_0, hx912_1⟩ := at_T64 HR0.out x5_1 p912 q912
        cases e912
        replace p912 := eq_true p912
        replace q912 := eq_true q912
        have p913 : 0 ≤ (x5_1 : Int) := ad
        have q913 : x5_1 < (l0.length : Int) := ad
        obtain ⟨ad913, e913, hx913_0, hx913_1⟩ := at_T64 HR0.out x5_1 p913 q913
        obtain rfl : ad912 = ad913 := (by injection e913)
        replace p913 := eq_true p913
        replace q913 := eq_true q913
        go_wp2
        go_ret
        exact ⟨by rfl, by repeat (first | exact Drawn0.refl _ | apply Drawn0.step)⟩
       ·have H' := Aside0.mk H
        clear H
        have p912 : 0 ≤ (x5_1 : Int) := ad
        have q912 : x5_1 < (l0.length : Int) := ad
        obtain ⟨ad912, e912, hx912_0, hx912_1⟩ := at_T64 HR0.out x5_1 p912 q912
        cases e912
        replace p912 := eq_true p912
        replace q912 := eq_true q912
        have p913 : 0 ≤ (x5_1 : Int) := ad
        have q913 : x5_1 < (l0.length : Int) := ad
        obtain ⟨ad913, e913, hx913_0, hx913_1⟩ := at_T64 HR0.out x5_1 p913 q913
        obtain rfl : ad912 = ad913 := (by injection e913)
        replace p913 := eq_true p913
        replace q913 := eq_true q913
        go_wp2
        go_roundg kj2
        case measure => have := HK1.out; have := HJ2.out; omega
        case rel => exact ⟨(wrap64 (x5_1 + 1)), (by rfl), H', ⟨by have := HK1.out; have := HJ2.out; omega⟩, by repeat (first | exact Drawn0.refl _ | apply Drawn0.step)⟩
      ·have H' := Aside0.mk H
       clear H
       have p912 : 0 ≤ (x5_1 : Int) := ad
       have q912 : x5_1 < (l0.length : Int) := ad
       obtain ⟨ad912, e912, hx912_0, hx912_1⟩ := at_T64 HR0.out x5_1 p912 q912
       cases e912
       replace p912 := eq_true p912
       replace q912 := eq_true q912
       go_wp2
       go_roundg kj2
       case measure => have := HK1.out; have := HJ2.out; omega
       case rel => exact ⟨(wrap64 (x5_1 + 1)), (by rfl), H', ⟨by have := HK1.out; have := HJ2.out; omega⟩, by repeat (first | exact Drawn0.refl _ | apply Drawn0.step)⟩
     ·obtain rfl := Option.some.inj H
      go_wp2
      go_ret
      exact ⟨by rfl, by repeat (first | exact Drawn0.refl _ | apply Drawn0.step)⟩

/-! ### poslist_List_Slice: function 26 -/
def poslist_List_Slice.j0 : Nat → Int → Int → Int → Bool → Int → List (S64) → List Int → List Int → Option (Int × (List (S64)) × List Int × List Int)
 | 0, _, _, _, _, _, _, _, _ => none
 | k + 1, x1, x2, x7, x24, x915000, x915001, x915002, x915003 => if x24 = true then (some (0, ([] : List (S64)), ([] : List Int), ([] : List Int))) else ((poslist_List_Pick.f k x915000 x915001 x915002 x915003 x1).bind fun bt917 => ((poslist_List_Pick.f k x915000 x915001 x915002 x915003 (wrap64 ((wrap64 (x1 + (mn x2 (wrap64 (x7 - x1))))) - 1))).bind fun bt919 => ((poslist_List_Spans.f k x915000 x915001 x915002 x915003).bind fun t921 => ((span_And.f k t921 (([(⟨bt917.1, wrap64 (bt919.1 + 1)⟩ : S64)] : List (S64)))).bind fun bt927 => ((poslist_best.f k bt927.1).bind fun bt931 => (some (bt931.1, bt931.2.1, bt931.2.2.1, bt931.2.2.2)))))))
def poslist_List_Slice.f (k : Nat) (a0_0 : Int) (l0_1 : List (S64)) (l0_2 : List Int) (l0_3 : List Int) (a1 : Int) (a2 : Int) : Option (Int × (List (S64)) × List Int × List Int) := (poslist_List_Count.f k a0_0 l0_1 l0_2 l0_3).bind fun t916 => (if a2 < 1 then (poslist_List_Slice.j0 k (mx a1 0) a2 t916 true a0_0 l0_1 l0_2 l0_3) else (poslist_List_Slice.j0 k (mx a1 0) a2 t916 (decide ((mx a1 0) ≥ t916)) a0_0 l0_1 l0_2 l0_3))
theorem poslist_List_Slice.j0_succ (k) (a0) (a1) (a2) (a3) (a4) (a5) (a6) (a7) : type_of% (@poslist_List_Slice.j0.eq_2 a0 a1 a2 a3 a4 a5 a6 a7 k) := poslist_List_Slice.j0.eq_2 a0 a1 a2 a3 a4 a5 a6 a7 k
set_option maxHeartbeats 8000000 in
set_option maxRecDepth 100000 in
theorem poslist_List_Slice.calls (k : Nat) (a0_0 : Int) (A0_1 : Option Addr) (c0_1 : Nat) (l0_1 : List (S64)) (A0_2 : Option Addr) (c0_2 : Nat) (l0_2 : List Int) (A0_3 : Option Addr) (c0_3 : Nat) (l0_3 : List Int) (a1 : Int) (a2 : Int) (r1 : Int) (r2 : List (S64)) (r3 : List Int) (r4 : List Int) (w : World) (hr0_1 : Kd.C k64 w A0_1 l0_1.length l0_1) (hc0_1 : l0_1.length ≤ c0_1) (hr0_2 : Kd.C (Kd.int .i64) w A0_2 l0_2.length l0_2) (hc0_2 : l0_2.length ≤ c0_2) (hr0_3 : Kd.C (Kd.int .i64) w A0_3 l0_3.length l0_3) (hc0_3 : l0_3.length ≤ c0_3) (h : poslist_List_Slice.f k a0_0 l0_1 l0_2 l0_3 a1 a2 = some (r1, r2, r3, r4)) :
  Calls Tryz.prog 26 #[.agg #[.int .i64 a0_0, .slice A0_1 l0_1.length c0_1, .slice A0_2 l0_2.length c0_2, .slice A0_3 l0_3.length c0_3], .int .i64 a1, .int .i64 a2] w fun e w' => ∃ v1_ v2_ v3_ : Value, e = .returned (.agg #[.int .i64 r1, v1_, v2_, v3_]) ∧ Kd.R k64 64 w' w.heap.size (fun _ => True) v1_ r2 ∧ Kd.R (Kd.int .i64) 3 w' w.heap.size (fun k_ => some k_ ≠ (v3_ : Value).ownBlock) v2_ r3 ∧ Kd.R (Kd.int .i64) 3 w' w.heap.size (fun k_ => some k_ ≠ (v2_ : Value).ownBlock) v3_ r4 ∧ Below w.heap.size w w' := by
 have hu27 := Tryz.underlying27
 have hu64 := Tryz.underlying64
 have HR0_1 := Aside0.mk hr0_1
 have HC0_1 := Aside0.mk hc0_1
 clear hr0_1 hc0_1
 have HR0_2 := Aside0.mk hr0_2
 have HC0_2 := Aside0.mk hc0_2
 clear hr0_2 hc0_2
 have HR0_3 := Aside0.mk hr0_3
 have HC0_3 := Aside0.mk hc0_3
 clear hr0_3 hc0_3
 have HB := Aside0.mk (Below.refl w.heap.size w)
 have H := h
 clear h
 unfold poslist_List_Slice.f at H
 obtain ⟨ji4, hji4⟩ : ∃ j_ : Int, (mx a1 0) = j_ := ⟨_, rfl⟩
 replace H : ((poslist_List_Count.f k a0_0 l0_1 l0_2 l0_3).bind fun t916 => (if a2 < 1 then (poslist_List_Slice.j0 k ji4 a2 t916 true a0_0 l0_1 l0_2 l0_3) else (poslist_List_Slice.j0 k ji4 a2 t916 (decide ((ji4) ≥ t916)) a0_0 l0_1 l0_2 l0_3))) = some (r1, r2, r3, r4) := by (rw [hji4] at H; exact H)
 ((have hji4l : 0 ≤ ji4 := by (rw [← hji4]; unfold mx; (repeat' split) <;> omega)))
 ((have hji4m : 0 ≤ ji4 := by omega))
 have hji4_ : (if a1 < 0 then 0 else a1) = ji4 := hji4
 replace H := bd H
 obtain ⟨t916, A5, H⟩ := H
 have HC6 := Aside0.mk H
 clear H
 go_enter Tryz.func26, Tryz.ntmps26
 go_upto_region 3 with (first | ((with_reducible refine gate_dst (N := 3) rfl ?_); refine boxE HB 3 27 #[.int .i64 a0_0, .slice A0_1 l0_1.length c0_1, .slice A0_2 l0_2.length c0_2, .slice A0_3 l0_3.length c0_3] ?_; clear HB; intro gb914 w7 BK914 GW914 hg hb HB; have GE914 := GW914; clear hb hg) | ((with_reducible refine gate_dst (N := 6) rfl ?_); refine boxE HB 6 27 #[.int .i64 0, .slice none 0 0, .slice none 0 0, .slice none 0 0] ?_; clear HB; intro gb915 w8 BK915 GW915 hg hb HB; have GE915 := GW915; have NB914_915 := bna BK914 hg; have NB915_914 := bma BK914 hg; replace BK914 := bba BK914 hb; clear hb hg; have hnb9 := NB914_915.out; have hnc9 := NB915_914.out; obtain ⟨hcz10_0, hcz10_1, hcz10_2, hcz10_3, hfz10_0, hfz10_1, hfz10_2, hfz10_3⟩ := b4 BK914) | ((with_reducible refine gate_callee (f := 19) rfl ?_); refine gL 17 Tryz.func19 #[.agg #[.int .i64 a0_0, .slice A0_1 l0_1.length c0_1, .slice A0_2 l0_2.length c0_2, .slice A0_3 l0_3.length c0_3]] ?_; (with_reducible refine (poslist_List_Count.calls k a0_0 _ _ l0_1 _ _ l0_2 _ _ l0_3 t916 _ ?side1 ?side2 ?side3 ?side4 ?side5 ?side6 A5.out).mono ?_); (case side1 => exact cx (Kd.C_below HR0_1.out HB.out)); (case side2 => exact HC0_1.out); (case side3 => exact cx (Kd.C_below HR0_2.out HB.out)); (case side4 => exact HC0_2.out); (case side5 => exact cx (Kd.C_below HR0_3.out HB.out)); (case side6 => exact HC0_3.out); rintro e w11 ⟨rfl, hb⟩; refine ⟨_, rfl, ?_⟩; replace BK914 := bba BK914 hb; replace BK915 := bba BK915 hb; replace HB := bsa HB hb; clear hb))
 go_cut [24] (fun v24 wc => ∃ (kq : Nat) (x24_5 : Bool), v24 = .bool x24_5 ∧ Aside0 (poslist_List_Slice.j0 kq ji4 a2 t916 x24_5 a0_0 l0_1 l0_2 l0_3 = some (r1, r2, r3, r4)) ∧ Aside0 (kq ≤ k) ∧ Aside0 (wc.heap[gb914]? = some (.cells #[.int .i64 a0_0, (.slice A0_1 l0_1.length c0_1), (.slice A0_2 l0_2.length c0_2), (.slice A0_3 l0_3.length c0_3)] 27 (0, 0))) ∧ Aside0 (wc.heap[gb915]? = some (.cells #[.int .i64 0, (.slice none 0 0), (.slice none 0 0), (.slice none 0 0)] 27 (0, 0))) ∧ Aside0 (Below w.heap.size w wc))
 case first =>
  have H := HC6.out
  clear HC6
  replace H := ifd H
  rcases H with ⟨-, c12b0, H⟩ | ⟨-, c12b0, H⟩
  ·(skip)
   have H' := Aside0.mk H
   clear H
   go_wp2
   go_meet
   case rel => exact ⟨_, (true), (by rfl), (by exact H'), ⟨by omega⟩, ⟨bx BK914.out⟩, ⟨bx BK915.out⟩, ⟨bh HB.out⟩⟩
  ·(skip)
   have H' := Aside0.mk H
   clear H
   go_wp2
   go_meet
   case rel => exact ⟨_, (decide ((ji4) ≥ t916)), (by rfl), (by exact H'), ⟨by omega⟩, ⟨bx BK914.out⟩, ⟨bx BK915.out⟩, ⟨bh HB.out⟩⟩
 case rest =>
  clear HC6 hcz10_0 hcz10_1 hcz10_2 hcz10_3 hfz10_0 hfz10_1 hfz10_2 hfz10_3
  obtain ⟨kq, x24_5, rfl, HA, HJ5, BK914, BK915, HB⟩ := hcut
  cases kq with
  | zero => exact absurd HA.out (by simp [poslist_List_Slice.j0])
  | succ kj5 =>
   have H := HA.out
   clear HA
   simp only [poslist_List_Slice.j0] at H
   replace H := ifb H
   rcases H with ⟨rfl, H⟩ | ⟨rfl, H⟩
   ·simp only [Option.some.injEq, Prod.mk.injEq] at H
    obtain ⟨rfl, rfl, rfl, rfl⟩ := H
    have hnb14 := NB915_914.out
    have hnc14 := NB914_915.out
    obtain ⟨hcz15_0, hcz15_1, hcz15_2, hcz15_3, hfz15_0, hfz15_1, hfz15_2, hfz15_3⟩ := b4 BK915
    go_wp2_with (((with_reducible refine gate_store (t := 27) (p := 6) rfl ?_); refine stE 27 6 ((((wc.setCell ⟨gb915, 0, none⟩ (.int .i64 0)).setCell ⟨gb915, 1, none⟩ (.slice none 0 0)).setCell ⟨gb915, 2, none⟩ (.slice none 0 0)).setCell ⟨gb915, 3, none⟩ (.slice none 0 0)) ?_; intro w16 hw; have n0_ : Aside0 (w16.heap[gb914]? = some (.cells #[.int .i64 a0_0, .slice A0_1 l0_1.length c0_1, .slice A0_2 l0_2.length c0_2, .slice A0_3 l0_3.length c0_3] 27 (0, 0))) := ⟨(by rw [hw]; exact (bx BK914.out))⟩; have n1_ := sps #[.int .i64 0, .slice none 0 0, .slice none 0 0, .slice none 0 0] BK915 hw (.p (.p (.p (.p .nil)))); have n2_ := bhw HB hw; clear hw BK914 BK915 HB; have BK914 := n0_; have BK915 := n1_; have HB := n2_; clear n0_ n1_ n2_))
    refine bodyPost_ret (results_cell_row rfl _ _ gb915 27 #[.int .i64 0, .slice none 0 0, .slice none 0 0, .slice none 0 0] (0, 0) _ rfl (bx BK915.out) Tryz.underlying27 rfl (by kernel_rfl)) rfl ?_
    exact ⟨_, _, _, by rfl, nl, nl, nl, bh HB.out⟩
   ·obtain ⟨ji17, hji17⟩ : ∃ j_ : Int, (mn a2 (wrap64 (t916 - ji4))) = j_ := ⟨_, rfl⟩
    replace H : ((poslist_List_Pick.f kj5 a0_0 l0_1 l0_2 l0_3 ji4).bind fun bt917 => ((poslist_List_Pick.f kj5 a0_0 l0_1 l0_2 l0_3 (wrap64 ((wrap64 (ji4 + (ji17))) - 1))).bind fun bt919 => ((poslist_List_Spans.f kj5 a0_0 l0_1 l0_2 l0_3).bind fun t921 => ((span_And.f kj5 t921 (([(⟨bt917.1, wrap64 (bt919.1 + 1)⟩ : S64)] : List (S64)))).bind fun bt927 => ((poslist_best.f kj5 bt927.1).bind fun bt931 => (some (bt931.1, bt931.2.1, bt931.2.2.1, bt931.2.2.2))))))) = some (r1, r2, r3, r4) := by (rw [hji17] at H; exact H)
    have hji17_ : (if (wrap64 (t916 - ji4)) < a2 then (wrap64 (t916 - ji4)) else a2) = ji17 := hji17
    replace H := bd H
    obtain ⟨⟨t917, t918⟩, A18, H⟩ := H
    dsimp only at H
    replace H := bd H
    obtain ⟨⟨t919, t920⟩, A19, H⟩ := H
    dsimp only at H
    replace H := bd H
    obtain ⟨t921, A20, H⟩ := H
    obtain ⟨y924, hy924⟩ : ∃ y_ : List (S64), y_ = (([(⟨t917, wrap64 (t919 + 1)⟩ : S64)] : List (S64))) := ⟨_, rfl⟩
    replace H : ((span_And.f kj5 t921 y924).bind fun bt927 => ((poslist_best.f kj5 bt927.1).bind fun bt931 => (some (bt931.1, bt931.2.1, bt931.2.2.1, bt931.2.2.2)))) = some (r1, r2, r3, r4) := by (rw [hy924]; with_reducible exact H)
    have Ny924 := Aside0.mk hy924
    clear hy924
    replace H := bd H
    obtain ⟨⟨t927, t928⟩, A21, H⟩ := H
    dsimp only at H
    replace H := bd H
    obtain ⟨⟨t931, t932, t935, t938⟩, A22, H⟩ := H
    dsimp only at H
    simp only [Option.some.injEq, Prod.mk.injEq] at H
    obtain ⟨rfl, rfl, rfl, rfl⟩ := H
    have hnb23 := NB914_915.out
    have hnc23 := NB915_914.out
    obtain ⟨hcz24_0, hcz24_1, hcz24_2, hcz24_3, hfz24_0, hfz24_1, hfz24_2, hfz24_3⟩ := b4 BK914
    go_wp2_with (first | ((with_reducible refine gate_callee (f := 31) rfl ?_); refine gL 34 Tryz.func31 #[.agg #[.int .i64 a0_0, .slice A0_1 l0_1.length c0_1, .slice A0_2 l0_2.length c0_2, .slice A0_3 l0_3.length c0_3], .int .i64 ji4] ?_; (with_reducible refine (poslist_List_Pick.calls kj5 a0_0 _ _ l0_1 _ _ l0_2 _ _ l0_3 ji4 t917 t918 _ ?side1 ?side2 ?side3 ?side4 ?side5 ?side6 A18.out).mono ?_); (case side1 => exact cx (Kd.C_below HR0_1.out HB.out)); (case side2 => exact HC0_1.out); (case side3 => exact cx (Kd.C_below HR0_2.out HB.out)); (case side4 => exact HC0_2.out); (case side5 => exact cx (Kd.C_below HR0_3.out HB.out)); (case side6 => exact HC0_3.out); rintro e w25 ⟨rfl, hb⟩; refine ⟨_, rfl, ?_⟩; replace BK914 := bba BK914 hb; replace BK915 := bba BK915 hb; replace HB := bsa HB hb; clear hb; obtain ⟨hcz26_0, hcz26_1, hcz26_2, hcz26_3, hfz26_0, hfz26_1, hfz26_2, hfz26_3⟩ := b4 BK914) | ((with_reducible refine gate_callee (f := 31) rfl ?_); refine gL 43 Tryz.func31 #[.agg #[.int .i64 a0_0, .slice A0_1 l0_1.length c0_1, .slice A0_2 l0_2.length c0_2, .slice A0_3 l0_3.length c0_3], .int .i64 (wrap64 ((wrap64 (ji4 + (ji17))) - 1))] ?_; (with_reducible refine (poslist_List_Pick.calls kj5 a0_0 _ _ l0_1 _ _ l0_2 _ _ l0_3 (wrap64 ((wrap64 (ji4 + (ji17))) - 1)) t919 t920 _ ?side1 ?side2 ?side3 ?side4 ?side5 ?side6 A19.out).mono ?_); (case side1 => exact cx (Kd.C_below HR0_1.out HB.out)); (case side2 => exact HC0_1.out); (case side3 => exact cx (Kd.C_below HR0_2.out HB.out)); (case side4 => exact HC0_2.out); (case side5 => exact cx (Kd.C_below HR0_3.out HB.out)); (case side6 => exact HC0_3.out); rintro e w27 ⟨rfl, hb⟩; refine ⟨_, rfl, ?_⟩; replace BK914 := bba BK914 hb; replace BK915 := bba BK915 hb; replace HB := bsa HB hb; clear hb; obtain ⟨hcz28_0, hcz28_1, hcz28_2, hcz28_3, hfz28_0, hfz28_1, hfz28_2, hfz28_3⟩ := b4 BK914) | ((with_reducible refine gate_callee (f := 20) rfl ?_); refine gL 48 Tryz.func20 #[.agg #[.int .i64 a0_0, .slice A0_1 l0_1.length c0_1, .slice A0_2 l0_2.length c0_2, .slice A0_3 l0_3.length c0_3]] ?_; (with_reducible refine (poslist_List_Spans.calls kj5 a0_0 _ _ l0_1 _ _ l0_2 _ _ l0_3 t921 _ ?side1 ?side2 ?side3 ?side4 ?side5 ?side6 A20.out).mono ?_); (case side1 => exact cx (Kd.C_below HR0_1.out HB.out)); (case side2 => exact HC0_1.out); (case side3 => exact cx (Kd.C_below HR0_2.out HB.out)); (case side4 => exact HC0_2.out); (case side5 => exact cx (Kd.C_below HR0_3.out HB.out)); (case side6 => exact HC0_3.out); rintro e w29 ⟨v922, rfl, ho0, hb⟩; refine ⟨_, rfl, ?_⟩; have HO923 := Aside0.mk (Kd.R_lower ho0 (below_size (bh HB.out))); replace BK914 := bba BK914 hb; replace BK915 := bba BK915 hb; replace HB := bsa HB hb; clear hb ho0) | ((with_reducible refine gate_dst (N := 53) rfl ?_); refine Kd.R_lit k64 _ 64 ?hg (N := 53) ?hd (xs := ([(⟨t917, wrap64 (t919 + 1)⟩ : S64)] : List (S64))) (inner := [.int .i64 t917, .int .i64 (wrap64 (t919 + 1))]) (ok := fun _ => True) (okp := fun _ => True) ?hr ?hp (fun _ hk => hk) trivial (Below.refl _ _) (Nat.le_refl _) (by simp) ?_; (case hd => rfl); (case hg => rfl); (case hr => (go_simp; done)); (case hp => exact (Reps.c2 (show Kd.M k64 _ _ _ (⟨t917, wrap64 (t919 + 1)⟩ : S64) [.int .i64 t917, .int .i64 (wrap64 (t919 + 1))] from (k64_mkM _ _ _ (⟨t917, wrap64 (t919 + 1)⟩ : S64) )) (Reps.none _ _))); intro v925 w30 ho31 hb hg_ hnew_; clear hg_ hnew_; (rw [← Ny924.out] at ho31); have HO926 := Aside0.mk (Kd.R_lower (Kd.R_new' ho31 (Kd.R_lt (rx HO923.out))) (below_size (bh HB.out))); replace HO923 := Aside0.mk (Kd.R_elder' (rx HO923.out) (Kd.R_base ho31) hb); replace BK914 := bba BK914 hb; replace BK915 := bba BK915 hb; replace HB := bsa HB hb; clear hb ho31; obtain ⟨Ao32, co32, eo32⟩ := Kd.R_slice HO923.out; subst eo32; obtain ⟨Ao33, co33, eo33⟩ := Kd.R_slice HO926.out; subst eo33) | ((with_reducible refine gate_callee (f := 57) rfl ?_); refine gL 54 Tryz.func57 #[.slice Ao32 t921.length co32, .slice Ao33 y924.length co33] ?_; (with_reducible refine (span_And.calls kj5 _ _ t921 _ _ y924 t927 t928 _ ?side1 ?side2 ?side3 ?side4 A21.out).mono ?_); (case side1 => exact cx (Kd.R_reads' HO923.out).2.2); (case side2 => exact (Kd.R_reads' HO923.out).2.1); (case side3 => exact cx (Kd.R_reads' HO926.out).2.2); (case side4 => exact (Kd.R_reads' HO926.out).2.1); rintro e w34 ⟨v929, rfl, ho0, hb⟩; refine ⟨_, rfl, ?_⟩; have HO930 := Aside0.mk (Kd.R_lower (Kd.R_new' (Kd.R_new' ho0 (Kd.R_lt (rx HO923.out))) (Kd.R_lt (rx HO926.out))) (below_size (bh HB.out))); replace HO923 := Aside0.mk (Kd.R_elder' (rx HO923.out) (Kd.R_base ho0) hb); replace HO926 := Aside0.mk (Kd.R_elder' (rx HO926.out) (Kd.R_base ho0) hb); replace BK914 := bba BK914 hb; replace BK915 := bba BK915 hb; replace HB := bsa HB hb; clear hb ho0; obtain ⟨Ao35, co35, eo35⟩ := Kd.R_slice HO930.out; subst eo35) | ((with_reducible refine gate_callee (f := 64) rfl ?_); refine gL 58 Tryz.func64 #[.slice Ao35 t927.length co35] ?_; (with_reducible refine (poslist_best.calls kj5 _ _ t927 t931 t932 t935 t938 _ ?side1 ?side2 A22.out).mono ?_); (case side1 => exact cx (Kd.R_reads' HO930.out).2.2); (case side2 => exact (Kd.R_reads' HO930.out).2.1); rintro e w36 ⟨v933, v936, v939, rfl, ho0, ho1, ho2, hb⟩; refine ⟨_, rfl, ?_⟩; have HO934 := Aside0.mk (Kd.R_lower (Kd.R_new' (Kd.R_new' (Kd.R_new' ho0 (Kd.R_lt (rx HO923.out))) (Kd.R_lt (rx HO926.out))) (Kd.R_lt (rx HO930.out))) (below_size (bh HB.out))); replace HO923 := Aside0.mk (Kd.R_elder' (rx HO923.out) (Kd.R_base ho0) hb); replace HO926 := Aside0.mk (Kd.R_elder' (rx HO926.out) (Kd.R_base ho0) hb); replace HO930 := Aside0.mk (Kd.R_elder' (rx HO930.out) (Kd.R_base ho0) hb); have HO937 := Aside0.mk (Kd.R_lower ho1 (below_size (bh HB.out))); have HO940 := Aside0.mk (Kd.R_lower ho2 (below_size (bh HB.out))); replace BK914 := bba BK914 hb; replace BK915 := bba BK915 hb; replace HB := bsa HB hb; clear hb ho0 ho1 ho2; obtain ⟨hcz37_0, hcz37_1, hcz37_2, hcz37_3, hfz37_0, hfz37_1, hfz37_2, hfz37_3⟩ := b4 BK915; obtain ⟨Ao38, co38, eo38⟩ := Kd.R_slice HO934.out; subst eo38; obtain ⟨Ao39, co39, eo39⟩ := Kd.R_slice HO937.out; subst eo39; obtain ⟨Ao40, co40, eo40⟩ := Kd.R_slice HO940.out; subst eo40) | ((with_reducible refine gate_store (t := 27) (p := 6) rfl ?_); refine stE 27 6 ((((w36.setCell ⟨gb915, 0, none⟩ (.int .i64 t931)).setCell ⟨gb915, 1, none⟩ (.slice Ao38 t932.length co38)).setCell ⟨gb915, 2, none⟩ (.slice Ao39 t935.length co39)).setCell ⟨gb915, 3, none⟩ (.slice Ao40 t938.length co40)) ?_; intro w41 hw; have n0_ := rsm (fun k_ => some k_ ≠ (.slice Ao33 y924.length co33 : Value).ownBlock ∧ some k_ ≠ (.slice Ao35 t927.length co35 : Value).ownBlock ∧ some k_ ≠ (.slice Ao38 t932.length co38 : Value).ownBlock) HO923 hw (fun _ hk => ⟨hk.1.1.2, ⟨hk.1.2, hk.2⟩⟩); have n1_ := rsm (fun k_ => some k_ ≠ (.slice Ao32 t921.length co32 : Value).ownBlock ∧ some k_ ≠ (.slice Ao35 t927.length co35 : Value).ownBlock ∧ some k_ ≠ (.slice Ao38 t932.length co38 : Value).ownBlock) HO926 hw (fun _ hk => ⟨hk.1.1.2, ⟨hk.1.2, hk.2⟩⟩); have n2_ := rsm (fun k_ => some k_ ≠ (.slice Ao32 t921.length co32 : Value).ownBlock ∧ some k_ ≠ (.slice Ao33 y924.length co33 : Value).ownBlock ∧ some k_ ≠ (.slice Ao38 t932.length co38 : Value).ownBlock) HO930 hw (fun _ hk => ⟨hk.1.1.2, ⟨hk.1.2, hk.2⟩⟩); have n3_ := rsm (fun k_ => some k_ ≠ (.slice Ao32 t921.length co32 : Value).ownBlock ∧ some k_ ≠ (.slice Ao33 y924.length co33 : Value).ownBlock ∧ some k_ ≠ (.slice Ao35 t927.length co35 : Value).ownBlock) HO934 hw (fun _ hk => ⟨hk.1.1.2, ⟨hk.1.2, hk.2⟩⟩); have n4_ := rst HO937 hw; have n5_ := rst HO940 hw; have n6_ : Aside0 (w41.heap[gb914]? = some (.cells #[.int .i64 a0_0, .slice A0_1 l0_1.length c0_1, .slice A0_2 l0_2.length c0_2, .slice A0_3 l0_3.length c0_3] 27 (0, 0))) := ⟨(by rw [hw]; exact (bx BK914.out))⟩; have n7_ := sps #[.int .i64 t931, .slice Ao38 t932.length co38, .slice Ao39 t935.length co39, .slice Ao40 t938.length co40] BK915 hw (.p (.p (.p (.p .nil)))); have n8_ := bhw HB hw; clear hw HO923 HO926 HO930 HO934 HO937 HO940 BK914 BK915 HB; have HO923 := n0_; have HO926 := n1_; have HO930 := n2_; have HO934 := n3_; have HO937 := n4_; have HO940 := n5_; have BK914 := n6_; have BK915 := n7_; have HB := n8_; clear n0_ n1_ n2_ n3_ n4_ n5_ n6_ n7_ n8_))
    refine bodyPost_ret (results_cell_row rfl _ _ gb915 27 #[.int .i64 t931, .slice Ao38 t932.length co38, .slice Ao39 t935.length co39, .slice Ao40 t938.length co40] (0, 0) _ rfl (bx BK915.out) Tryz.underlying27 rfl (by kernel_rfl)) rfl ?_
    exact ⟨_, _, _, by rfl, by exact Kd.R_mono HO934.out (fun _ hk => trivial), by exact HO937.out, by exact HO940.out, bh HB.out⟩

/-! ### peristyleref16_Slice: function 36 -/
def peristyleref16_Slice.l0 : Nat → Int → Int → List Int → List Int → Int → Option ((List (S64)) × Int)
 | 0, _, _, _, _, _ => none
 | k + 1, x1, x2, x7, x9, x10 => if x10 < (x7.length : Int) then (if x10 ≥ x1 then (if (x9.length : Int) < x2 then (if 0 ≤ x10 then (if x9.length < 17592186044416 then (peristyleref16_Slice.l0 k x1 x2 x7 (x9 ++ [rd x7 x10]) (wrap64 (x10 + 1))) else (none)) else (none)) else (peristyleref16_Slice.l0 k x1 x2 x7 x9 (wrap64 (x10 + 1)))) else (peristyleref16_Slice.l0 k x1 x2 x7 x9 (wrap64 (x10 + 1)))) else ((peristyleref14_Of.f k x9).bind fun bt950 => ((peristyleref16_Of.f k bt950.1 0).bind fun bt954 => (some (bt954.1, bt954.2.1))))
def peristyleref16_Slice.f (k : Nat) (l0 : List (S64)) (a1 : Int) (a2 : Int) : Option ((List (S64)) × Int) := (peristyleref14_Places.f k l0).bind fun bt942 => (peristyleref16_Slice.l0 k a1 a2 bt942.1 ([] : List Int) 0)
theorem peristyleref16_Slice.l0_succ (k) (a0) (a1) (a2) (a3) (a4) : type_of% (@peristyleref16_Slice.l0.eq_2 a0 a1 a2 a3 a4 k) := peristyleref16_Slice.l0.eq_2 a0 a1 a2 a3 a4 k
set_option maxHeartbeats 8000000 in
set_option maxRecDepth 100000 in
theorem peristyleref16_Slice.calls (k : Nat) (A0 : Option Addr) (c0 : Nat) (l0 : List (S64)) (a1 : Int) (a2 : Int) (r1 : List (S64)) (r2 : Int) (w : World) (hr0 : Kd.C k64 w A0 l0.length l0) (hc0 : l0.length ≤ c0) (h : peristyleref16_Slice.f k l0 a1 a2 = some (r1, r2)) :
  Calls Tryz.prog 36 #[.slice A0 l0.length c0, .int .i64 a1, .int .i64 a2] w fun e w' => ∃ v0_ : Value, e = .returned (.agg #[v0_, .int .i64 r2]) ∧ Kd.V k64 64 w' w.heap.size (fun k_ => (w.heap.size ≤ k_)) v0_ r1 ∧ Below w.heap.size w w' := by
 have hu32 := Tryz.underlying32
 have HR0 := Aside0.mk hr0
 have HC0 := Aside0.mk hc0
 clear hr0 hc0
 have HB := Aside0.mk (Below.refl w.heap.size w)
 have H := h
 clear h
 unfold peristyleref16_Slice.f at H
 replace H := bd H
 obtain ⟨⟨t942, t943⟩, A4, H⟩ := H
 dsimp only at H
 have H' := Aside0.mk H
 clear H
 go_enter Tryz.func36, Tryz.ntmps36
 go_wp2_with (first | ((with_reducible refine gate_dst (N := 6) rfl ?_); ((refine gate_guard (by rfl) ?_; dsimp only)); refine boxE HB 6 32 #[.slice none 0 0, .int .i64 0] ?_; clear HB; intro gb941 w5 BK941 GW941 hg hb HB; have GE941 := GW941; clear hb hg) | ((with_reducible refine gate_callee (f := 47) rfl ?_); refine gL 17 Tryz.func47 #[.slice A0 l0.length c0] ?_; (with_reducible refine (peristyleref14_Places.calls k _ _ l0 t942 t943 _ ?side1 ?side2 A4.out).mono ?_); (case side1 => exact cx (Kd.C_below HR0.out HB.out)); (case side2 => exact HC0.out); rintro e w6 ⟨v944, rfl, ho0, hb⟩; refine ⟨_, rfl, ?_⟩; have HO945 := Aside0.mk (Kd.R_lower (Kd.R_newM (M := fun k_ => (w.heap.size ≤ k_)) ho0 (below_size (bh HB.out)) (fun k_ h_ => h_)) (below_size (bh HB.out))); replace BK941 := bba BK941 hb; replace HB := bsa HB hb; clear hb ho0))
 go_loopg [9, 10] k (fun kq v9 v10 w' => ∃ (x9_1 : List Int) (x10_1 : Int), v10 = .int .i64 x10_1 ∧ Aside0 (peristyleref16_Slice.l0 kq a1 a2 t942 x9_1 x10_1 = some (r1, r2)) ∧ Aside0 (kq ≤ k) ∧ Aside0 (Kd.R (Kd.int .i64) 3 w' w.heap.size (fun k_ => (w.heap.size ≤ k_) ∧ some k_ ≠ (v9 : Value).ownBlock) v944 t942) ∧ Aside0 (Kd.R (Kd.int .i64) 3 w' w.heap.size (fun k_ => (w.heap.size ≤ k_) ∧ some k_ ≠ (v944 : Value).ownBlock) v9 x9_1) ∧ Aside0 (w'.heap[gb941]? = some (.cells #[(.slice none 0 0), .int .i64 0] 32 (0, 0))) ∧ Aside0 (Below w.heap.size w w'))
 case atStart => exact ⟨(([] : List Int)), (0), (by rfl), H', ⟨Nat.le_refl _⟩, ⟨by exact Kd.R_mono HO945.out (fun _ hk => ⟨hk.1, (by simp [Value.ownBlock])⟩)⟩, ⟨nl⟩, ⟨bx BK941.out⟩, ⟨bh HB.out⟩⟩
 case round =>
  clear H'
  obtain ⟨x9_1, x10_1, rfl, HA, HK1, HO_7, HO_9, BK941, HB⟩ := hrel
  cases gk with
  | zero => exact absurd HA.out (by simp [peristyleref16_Slice.l0])
  | succ k1 =>
   have H := HA.out
   clear HA
   simp only [peristyleref16_Slice.l0] at H
   replace H := ifd H
   rcases H with ⟨-, c7b0, H⟩ | ⟨-, c7b0, H⟩
   ·replace H := ifd H
    rcases H with ⟨-, c8b0, H⟩ | ⟨-, c8b0, H⟩
    ·replace H := ifd H
     rcases H with ⟨-, c9b0, H⟩ | ⟨-, c9b0, H⟩
     ·replace H := ifn H
      obtain ⟨-, c10b0, H⟩ := H
      replace H := ifn H
      obtain ⟨c11, -, H⟩ := H
      have LMc11 := Aside0.mk c11
      clear c11
      obtain ⟨y947, hy947⟩ : ∃ y_ : List Int, y_ = (x9_1 ++ [rd t942 x10_1]) := ⟨_, rfl⟩
      replace H : (peristyleref16_Slice.l0 k1 a1 a2 t942 y947 (wrap64 (x10_1 + 1))) = some (r1, r2) := by (rw [hy947]; with_reducible exact H)
      have Ny947 := Aside0.mk hy947
      clear hy947
      have H' := Aside0.mk H
      clear H
      obtain ⟨Ao12, co12, eo12⟩ := Kd.R_slice HO_7.out
      subst eo12
      obtain ⟨Ao13, co13, eo13⟩ := Kd.R_slice HO_9.out
      subst eo13
      have p946 : 0 ≤ (x10_1 : Int) := ad
      have q946 : x10_1 < (t942.length : Int) := ad
      obtain ⟨ad946, e946, hx946_0⟩ := Kd.at_int (Kd.R_reads' HO_7.out).2.2 x10_1 p946 q946
      cases e946
      replace p946 := eq_true p946
      replace q946 := eq_true q946
      go_wp2_with (((with_reducible refine gate_builtin (b := .append) (xs := #[.tmp 35, .tmp 40]) rfl ?_); ((refine gate_guard (by rfl) ?_; dsimp only)); at_builtin; refine Kd.R_append (Kd.int .i64) (w0 := w) w.heap.size rfl (.tmp 35) (.tmp 40) 25 3 (.int .i64 0) 8 rfl Tryz.underlying25 info3 rfl (by decide) (by omega) (.slice Ao13 x9_1.length co13) x9_1 (rd t942 x10_1) [.int .i64 (rd t942 x10_1)] (fun k_ => (w.heap.size ≤ k_) ∧ some k_ ≠ (.slice (some ad946) t942.length co12 : Value).ownBlock) (fun _ => False) rfl rfl ?aP (fun _ hk => hk.elim) ?aF ?aO ?aB ?aS ?aL ?_; (case aP => exact rfl); (case aB => exact (bh HB.out)); (case aF => exact (fun k_ hk => ⟨(Nat.le_trans (below_size (bh HB.out)) hk), Kd.fresh' (Kd.R_lt (rx HO_7.out)) k_ hk⟩)); (case aO => exact (rx HO_9.out)); (case aS => exact (below_size (bh HB.out))); (case aL => have := LMc11.out; omega); intro v948 w14 ho hb hg hat; rw [← Ny947.out] at ho; have n0_ := Aside0.mk (Kd.R_after (ok := (fun k_ => (w.heap.size ≤ k_))) (rx HO_7.out) hg hat); have n1_ := Aside0.mk (blk_grown (g := gb941) (o := .cells #[.slice none 0 0, .int .i64 0] 32 (0, 0)) (bx BK941.out) hg (Kd.R_ne HO_9.out BK941.out (by decide))); have n2_ := Aside0.mk (hb); have n3_ := Aside0.mk (ho); clear HO_7 BK941 HB HO_9; have HO_7 := n0_; have BK941 := n1_; have HB := n2_; have HO949 := n3_; clear n0_ n1_ n2_ n3_ ho hb hg hat))
      go_roundg k1
      case measure => have := HK1.out; omega
      case rel => exact ⟨(y947), (wrap64 (x10_1 + 1)), (by rfl), H', ⟨by have := HK1.out; omega⟩, ⟨by exact HO_7.out⟩, ⟨by exact HO949.out⟩, ⟨bx BK941.out⟩, ⟨bh HB.out⟩⟩
     ·have H' := Aside0.mk H
      clear H
      obtain ⟨Ao15, co15, eo15⟩ := Kd.R_slice HO_7.out
      subst eo15
      obtain ⟨Ao16, co16, eo16⟩ := Kd.R_slice HO_9.out
      subst eo16
      go_wp2
      go_roundg k1
      case measure => have := HK1.out; omega
      case rel => exact ⟨(x9_1), (wrap64 (x10_1 + 1)), (by rfl), H', ⟨by have := HK1.out; omega⟩, ⟨by exact HO_7.out⟩, ⟨by exact HO_9.out⟩, ⟨bx BK941.out⟩, ⟨bh HB.out⟩⟩
    ·have H' := Aside0.mk H
     clear H
     obtain ⟨Ao17, co17, eo17⟩ := Kd.R_slice HO_7.out
     subst eo17
     go_wp2
     go_roundg k1
     case measure => have := HK1.out; omega
     case rel => exact ⟨(x9_1), (wrap64 (x10_1 + 1)), (by rfl), H', ⟨by have := HK1.out; omega⟩, ⟨by exact HO_7.out⟩, ⟨by exact HO_9.out⟩, ⟨bx BK941.out⟩, ⟨bh HB.out⟩⟩
   ·replace H := bd H
    obtain ⟨⟨t950, t951⟩, A18, H⟩ := H
    dsimp only at H
    replace H := bd H
    obtain ⟨⟨t954, t957, t958⟩, A19, H⟩ := H
    dsimp only at H
    simp only [Option.some.injEq, Prod.mk.injEq] at H
    obtain ⟨rfl, rfl⟩ := H
    obtain ⟨Ao20, co20, eo20⟩ := Kd.R_slice HO_7.out
    subst eo20
    obtain ⟨Ao21, co21, eo21⟩ := Kd.R_slice HO_9.out
    subst eo21
    go_wp2_with (first | ((with_reducible refine gate_callee (f := 17) rfl ?_); refine gL 44 Tryz.func17 #[.slice Ao21 x9_1.length co21] ?_; (with_reducible refine (peristyleref14_Of.calls k1 _ _ x9_1 t950 t951 _ ?side1 ?side2 A18.out).mono ?_); (case side1 => exact cx (Kd.R_reads' HO_9.out).2.2); (case side2 => exact (Kd.R_reads' HO_9.out).2.1); rintro e w22 ⟨v952, rfl, ho0, hb⟩; refine ⟨_, rfl, ?_⟩; replace HO_7 := rba HO_7 hb; replace HO_9 := rba HO_9 hb; have HO953 := Aside0.mk (Kd.R_lower (Kd.R_newM (M := fun k_ => (w.heap.size ≤ k_)) ho0 (below_size (bh HB.out)) (fun k_ h_ => h_)) (below_size (bh HB.out))); replace BK941 := bba BK941 hb; replace HB := bsa HB hb; clear hb ho0; obtain ⟨Ao23, co23, eo23⟩ := Kd.R_slice HO953.out; subst eo23) | ((with_reducible refine gate_callee (f := 11) rfl ?_); refine gL 49 Tryz.func11 #[.slice Ao23 t950.length co23, .int .i64 0] ?_; (with_reducible refine (peristyleref16_Of.calls k1 (fun k_ => some k_ = (.slice Ao23 t950.length co23 : Value).ownBlock) _ _ t950 0 t954 t957 t958 _ ?side1 A19.out).mono ?_); (case side1 => exact Kd.R_V (Kd.R_tight rfl (Kd.R_types (Kd.R_apart' (Kd.R_apart' (HO953.out) (Kd.R_typed HO_7.out) (by decide)) (Kd.R_typed HO_9.out) (by decide)) BK941.out (by decide)))); rintro e w24 ⟨v955, rfl, ho0, hb⟩; refine ⟨_, rfl, ?_⟩; have HO956 := Aside0.mk (Kd.V_lower (Kd.V_mono (ok' := fun k_ => (w.heap.size ≤ k_) ∧ some k_ ≠ (.slice Ao20 t942.length co20 : Value).ownBlock ∧ some k_ ≠ (.slice Ao21 x9_1.length co21 : Value).ownBlock ∧ k_ ≠ gb941) ho0 (fun k_ hk_ => ⟨Or.elim hk_ (fun hs_ => ((Kd.R_types (Kd.R_apart' (Kd.R_apart' (HO953.out) (Kd.R_typed HO_7.out) (by decide)) (Kd.R_typed HO_9.out) (by decide)) BK941.out (by decide)).1 k_ hs_.symm).1.1.1.1) (fun hn_ => (Nat.le_trans (below_size (bh HB.out)) hn_)), Or.elim hk_ (fun hs_ => ((Kd.R_types (Kd.R_apart' (Kd.R_apart' (HO953.out) (Kd.R_typed HO_7.out) (by decide)) (Kd.R_typed HO_9.out) (by decide)) BK941.out (by decide)).1 k_ hs_.symm).1.1.2) (fun hn_ => (Kd.fresh' (Kd.R_lt (rx HO_7.out)) k_ hn_)), Or.elim hk_ (fun hs_ => ((Kd.R_types (Kd.R_apart' (Kd.R_apart' (HO953.out) (Kd.R_typed HO_7.out) (by decide)) (Kd.R_typed HO_9.out) (by decide)) BK941.out (by decide)).1 k_ hs_.symm).1.2) (fun hn_ => (Kd.fresh' (Kd.R_lt (rx HO_9.out)) k_ hn_)), Or.elim hk_ (fun hs_ => ((Kd.R_types (Kd.R_apart' (Kd.R_apart' (HO953.out) (Kd.R_typed HO_7.out) (by decide)) (Kd.R_typed HO_9.out) (by decide)) BK941.out (by decide)).1 k_ hs_.symm).2) (fun hn_ => (Kd.freshB (g := gb941) (o := .cells #[.slice none 0 0, .int .i64 0] 32 (0, 0)) (bx BK941.out) k_ hn_))⟩)) (below_size (bh HB.out))); replace HO_7 := rba HO_7 hb; replace HO_9 := rba HO_9 hb; replace HO953 := rba HO953 hb; replace BK941 := bba BK941 hb; replace HB := bsa HB hb; clear hb ho0) | ((with_reducible refine gate_dst (N := 13) rfl ?_); ((refine gate_guard (by rfl) ?_; dsimp only)); refine box_event ?hg (N := 13) ?hd (cs := #[.slice none 0 0, .int .i64 0]) (t := 32) ?hr ?_; (case hd => rfl); (case hg => rfl); (case hr => (go_simp; done)); intro gb959 hg w25 hbox hb; replace HO_7 := rba HO_7 hb; replace HO_9 := rba HO_9 hb; replace HO953 := rba HO953 hb; replace HO956 := Aside0.mk (Kd.V_below (Kd.V_elderB (by exact HO956.out) gb959 (Nat.le_of_eq hg.symm)) hb); have BK959 := Aside0.mk (hbox); have GW959 := bza HB hg; have GE959 := bza HB hg; replace HB := bsa HB hb; obtain ⟨NB941_959, NB959_941⟩ := bnm BK941 hg; replace BK941 := bba BK941 hb; clear hb hbox hg; obtain ⟨Ao26, co26, eo26⟩ := Kd.V_slice HO956.out; subst eo26; have hnb27 := NB959_941.out; have hnc27 := NB941_959.out; obtain ⟨hcz28_0, hcz28_1, hfz28_0, hfz28_1⟩ := b2 BK959; obtain ⟨hcz29_0, hcz29_1, hfz29_0, hfz29_1⟩ := b2 BK941) | ((with_reducible refine gate_store (t := 32) (p := 6) rfl ?_); refine stE 32 6 ((((w25.setCell ⟨gb959, 0, none⟩ (.slice Ao26 t954.length co26)).setCell ⟨gb959, 1, none⟩ (.int .i64 t957)).setCell ⟨gb941, 0, none⟩ (.slice Ao26 t954.length co26)).setCell ⟨gb941, 1, none⟩ (.int .i64 t957)) ?_; intro w30 hw; have n0_ := rsm (fun k_ => (w.heap.size ≤ k_) ∧ some k_ ≠ (.slice Ao21 x9_1.length co21 : Value).ownBlock) HO_7 hw (fun _ hk => ⟨hk.1, hk.2⟩); have n1_ := rsm (fun k_ => (w.heap.size ≤ k_) ∧ some k_ ≠ (.slice Ao20 t942.length co20 : Value).ownBlock) HO_9 hw (fun _ hk => ⟨hk.1, hk.2⟩); have n2_ := rsm (fun k_ => (w.heap.size ≤ k_)) HO953 hw (fun _ hk => hk.1); have n3_ : Aside0 (Kd.V k64 64 w30 w.heap.size (fun k_ => (w.heap.size ≤ k_) ∧ some k_ ≠ (.slice Ao20 t942.length co20 : Value).ownBlock ∧ some k_ ≠ (.slice Ao21 x9_1.length co21 : Value).ownBlock ∧ k_ ≠ gb941 ∧ k_ ≠ gb959) (.slice Ao26 t954.length co26) t954) := ⟨(by rw [hw]; exact (by exact Kd.V_mono (Kd.V_far (p := ⟨gb941, 1, none⟩) (Kd.V_far (p := ⟨gb941, 0, none⟩) (Kd.V_far (p := ⟨gb959, 1, none⟩) (Kd.V_far (p := ⟨gb959, 0, none⟩) (Kd.V_mono (Kd.V_mono HO956.out (fun k_ hk => (⟨hk, hk.2⟩ : _ ∧ k_ ≠ gb959))) (fun k_ hk => (⟨hk, hk.1.1.2.2.2⟩ : _ ∧ k_ ≠ gb941))) (fun _ hk => hk.1.2) (.slice Ao26 t954.length co26)) (fun _ hk => hk.1.2) (.int .i64 t957)) (fun _ hk => hk.2) (.slice Ao26 t954.length co26)) (fun _ hk => hk.2) (.int .i64 t957)) (fun _ hk => ⟨hk.1.1.1.1, ⟨hk.1.1.1.2.1, ⟨hk.1.1.1.2.2.1, ⟨hk.1.1.1.2.2.2, hk.1.1.2⟩⟩⟩⟩)))⟩; have n4_ := sps #[.slice Ao26 t954.length co26, .int .i64 t957] BK941 hw (.p (.p (.f NB941_959 (.f NB941_959 .nil)))); have n5_ := sps #[.slice Ao26 t954.length co26, .int .i64 t957] BK959 hw (.f NB959_941 (.f NB959_941 (.p (.p .nil)))); have n6_ := bhw HB hw; clear hw HO_7 HO_9 HO953 HO956 BK941 BK959 HB; have HO_7 := n0_; have HO_9 := n1_; have HO953 := n2_; have HO956 := n3_; have BK941 := n4_; have BK959 := n5_; have HB := n6_; clear n0_ n1_ n2_ n3_ n4_ n5_ n6_))
    refine bodyPost_ret (results_cell_row rfl _ _ gb941 32 #[.slice Ao26 t954.length co26, .int .i64 t957] (0, 0) _ rfl (bx BK941.out) Tryz.underlying32 rfl (by kernel_rfl)) rfl ?_
    exact ⟨_, er, by exact Kd.V_mono HO956.out (fun _ hk => hk.1), bh HB.out⟩

/-! ### poslist_List_As: function 37 -/
def poslist_List_As.f (k : Nat) (a0_0 : Int) (l0_1 : List (S64)) (l0_2 : List Int) (l0_3 : List Int) (a1 : Int) : Option (Int × (List (S64)) × List Int × List Int × Int) := (poslist_List_Spans.f k a0_0 l0_1 l0_2 l0_3).bind fun t962 => ((poslist_Of.f k t962 a1).bind fun bt965 => (some (bt965.1, bt965.2.1, bt965.2.2.1, bt965.2.2.2.1, bt965.2.2.2.2)))
set_option maxHeartbeats 8000000 in
set_option maxRecDepth 100000 in
theorem poslist_List_As.calls (k : Nat) (a0_0 : Int) (A0_1 : Option Addr) (c0_1 : Nat) (l0_1 : List (S64)) (A0_2 : Option Addr) (c0_2 : Nat) (l0_2 : List Int) (A0_3 : Option Addr) (c0_3 : Nat) (l0_3 : List Int) (a1 : Int) (r1 : Int) (r2 : List (S64)) (r3 : List Int) (r4 : List Int) (r5 : Int) (w : World) (hr0_1 : Kd.C k64 w A0_1 l0_1.length l0_1) (hc0_1 : l0_1.length ≤ c0_1) (hr0_2 : Kd.C (Kd.int .i64) w A0_2 l0_2.length l0_2) (hc0_2 : l0_2.length ≤ c0_2) (hr0_3 : Kd.C (Kd.int .i64) w A0_3 l0_3.length l0_3) (hc0_3 : l0_3.length ≤ c0_3) (h : poslist_List_As.f k a0_0 l0_1 l0_2 l0_3 a1 = some (r1, r2, r3, r4, r5)) :
  Calls Tryz.prog 37 #[.agg #[.int .i64 a0_0, .slice A0_1 l0_1.length c0_1, .slice A0_2 l0_2.length c0_2, .slice A0_3 l0_3.length c0_3], .int .i64 a1] w fun e w' => ∃ v1_ v2_ v3_ : Value, e = .returned (.tuple #[.agg #[.int .i64 r1, v1_, v2_, v3_], .int .i64 r5]) ∧ Kd.R k64 64 w' w.heap.size (fun _ => True) v1_ r2 ∧ Kd.R (Kd.int .i64) 3 w' w.heap.size (fun k_ => some k_ ≠ (v3_ : Value).ownBlock) v2_ r3 ∧ Kd.R (Kd.int .i64) 3 w' w.heap.size (fun k_ => some k_ ≠ (v2_ : Value).ownBlock) v3_ r4 ∧ Below w.heap.size w w' := by
 have hu27 := Tryz.underlying27
 have HR0_1 := Aside0.mk hr0_1
 have HC0_1 := Aside0.mk hc0_1
 clear hr0_1 hc0_1
 have HR0_2 := Aside0.mk hr0_2
 have HC0_2 := Aside0.mk hc0_2
 clear hr0_2 hc0_2
 have HR0_3 := Aside0.mk hr0_3
 have HC0_3 := Aside0.mk hc0_3
 clear hr0_3 hc0_3
 have HB := Aside0.mk (Below.refl w.heap.size w)
 have H := h
 clear h
 unfold poslist_List_As.f at H
 replace H := bd H
 obtain ⟨t962, A3, H⟩ := H
 replace H := bd H
 obtain ⟨⟨t965, t966, t969, t972, t975⟩, A4, H⟩ := H
 dsimp only at H
 simp only [Option.some.injEq, Prod.mk.injEq] at H
 obtain ⟨rfl, rfl, rfl, rfl, rfl⟩ := H
 go_enter Tryz.func37, Tryz.ntmps37
 go_wp2_with (first | ((with_reducible refine gate_dst (N := 2) rfl ?_); refine boxE HB 2 27 #[.int .i64 a0_0, .slice A0_1 l0_1.length c0_1, .slice A0_2 l0_2.length c0_2, .slice A0_3 l0_3.length c0_3] ?_; clear HB; intro gb960 w5 BK960 GW960 hg hb HB; have GE960 := GW960; clear hb hg) | ((with_reducible refine gate_dst (N := 4) rfl ?_); refine boxE HB 4 27 #[.int .i64 0, .slice none 0 0, .slice none 0 0, .slice none 0 0] ?_; clear HB; intro gb961 w6 BK961 GW961 hg hb HB; have GE961 := GW961; have NB960_961 := bna BK960 hg; have NB961_960 := bma BK960 hg; replace BK960 := bba BK960 hb; clear hb hg; have hnb7 := NB960_961.out; have hnc7 := NB961_960.out; obtain ⟨hcz8_0, hcz8_1, hcz8_2, hcz8_3, hfz8_0, hfz8_1, hfz8_2, hfz8_3⟩ := b4 BK960) | ((with_reducible refine gate_callee (f := 20) rfl ?_); refine gL 7 Tryz.func20 #[.agg #[.int .i64 a0_0, .slice A0_1 l0_1.length c0_1, .slice A0_2 l0_2.length c0_2, .slice A0_3 l0_3.length c0_3]] ?_; (with_reducible refine (poslist_List_Spans.calls k a0_0 _ _ l0_1 _ _ l0_2 _ _ l0_3 t962 _ ?side1 ?side2 ?side3 ?side4 ?side5 ?side6 A3.out).mono ?_); (case side1 => exact cx (Kd.C_below HR0_1.out HB.out)); (case side2 => exact HC0_1.out); (case side3 => exact cx (Kd.C_below HR0_2.out HB.out)); (case side4 => exact HC0_2.out); (case side5 => exact cx (Kd.C_below HR0_3.out HB.out)); (case side6 => exact HC0_3.out); rintro e w9 ⟨v963, rfl, ho0, hb⟩; refine ⟨_, rfl, ?_⟩; have HO964 := Aside0.mk (Kd.R_lower ho0 (below_size (bh HB.out))); replace BK960 := bba BK960 hb; replace BK961 := bba BK961 hb; replace HB := bsa HB hb; clear hb ho0; obtain ⟨Ao10, co10, eo10⟩ := Kd.R_slice HO964.out; subst eo10) | ((with_reducible refine gate_callee (f := 10) rfl ?_); refine gL 9 Tryz.func10 #[.slice Ao10 t962.length co10, .int .i64 a1] ?_; (with_reducible refine (poslist_Of.calls k _ _ t962 a1 t965 t966 t969 t972 t975 _ ?side1 ?side2 A4.out).mono ?_); (case side1 => exact cx (Kd.R_reads' HO964.out).2.2); (case side2 => exact (Kd.R_reads' HO964.out).2.1); rintro e w11 ⟨v967, v970, v973, rfl, ho0, ho1, ho2, hb⟩; refine ⟨_, rfl, ?_⟩; have HO968 := Aside0.mk (Kd.R_lower (Kd.R_new' ho0 (Kd.R_lt (rx HO964.out))) (below_size (bh HB.out))); replace HO964 := Aside0.mk (Kd.R_elder' (rx HO964.out) (Kd.R_base ho0) hb); have HO971 := Aside0.mk (Kd.R_lower ho1 (below_size (bh HB.out))); have HO974 := Aside0.mk (Kd.R_lower ho2 (below_size (bh HB.out))); replace BK960 := bba BK960 hb; replace BK961 := bba BK961 hb; replace HB := bsa HB hb; clear hb ho0 ho1 ho2; obtain ⟨hcz12_0, hcz12_1, hcz12_2, hcz12_3, hfz12_0, hfz12_1, hfz12_2, hfz12_3⟩ := b4 BK961; obtain ⟨Ao13, co13, eo13⟩ := Kd.R_slice HO968.out; subst eo13; obtain ⟨Ao14, co14, eo14⟩ := Kd.R_slice HO971.out; subst eo14; obtain ⟨Ao15, co15, eo15⟩ := Kd.R_slice HO974.out; subst eo15) | ((with_reducible refine gate_store (t := 27) (p := 4) rfl ?_); refine stE 27 4 ((((w11.setCell ⟨gb961, 0, none⟩ (.int .i64 t965)).setCell ⟨gb961, 1, none⟩ (.slice Ao13 t966.length co13)).setCell ⟨gb961, 2, none⟩ (.slice Ao14 t969.length co14)).setCell ⟨gb961, 3, none⟩ (.slice Ao15 t972.length co15)) ?_; intro w16 hw; have n0_ := rsm (fun k_ => some k_ ≠ (.slice Ao13 t966.length co13 : Value).ownBlock) HO964 hw (fun _ hk => hk.2); have n1_ := rsm (fun k_ => some k_ ≠ (.slice Ao10 t962.length co10 : Value).ownBlock) HO968 hw (fun _ hk => hk.2); have n2_ := rst HO971 hw; have n3_ := rst HO974 hw; have n4_ : Aside0 (w16.heap[gb960]? = some (.cells #[.int .i64 a0_0, .slice A0_1 l0_1.length c0_1, .slice A0_2 l0_2.length c0_2, .slice A0_3 l0_3.length c0_3] 27 (0, 0))) := ⟨(by rw [hw]; exact (bx BK960.out))⟩; have n5_ := sps #[.int .i64 t965, .slice Ao13 t966.length co13, .slice Ao14 t969.length co14, .slice Ao15 t972.length co15] BK961 hw (.p (.p (.p (.p .nil)))); have n6_ := bhw HB hw; clear hw HO964 HO968 HO971 HO974 BK960 BK961 HB; have HO964 := n0_; have HO968 := n1_; have HO971 := n2_; have HO974 := n3_; have BK960 := n4_; have BK961 := n5_; have HB := n6_; clear n0_ n1_ n2_ n3_ n4_ n5_ n6_))
 refine bodyPost_ret (results_ct rfl _ _ gb961 27 #[.int .i64 t965, .slice Ao13 t966.length co13, .slice Ao14 t969.length co14, .slice Ao15 t972.length co15] (0, 0) _ rfl (bx BK961.out) Tryz.underlying27 rfl (by kernel_rfl)) rfl ?_
 exact ⟨_, _, _, er, by exact Kd.R_mono HO968.out (fun _ hk => trivial), by exact HO971.out, by exact HO974.out, bh HB.out⟩

end Go.Proofs.YtjgmdjieandemaaGreat.Print
end
section
namespace Go.Proofs.YtjgmdjieandemaaGreat.Print
open Go.RowKit Go.Proofs.YtjgmdjieandemaaGreatW.PrintWords Go.Proofs.YtjgmdjieandemaaGreatW.PrintLast Go.Proofs.YtjgmdjieandemaaGreatW.PrintMore
attribute [local go_sem] max2_int min2_int max_two min_two max_three min_three max_four min_four   -- for this text's walks alone
set_option linter.unusedVariables false
set_option linter.unusedSimpArgs false

/-! ### peristylelaw16_PoslistTells: function 7 -/
mutual
def peristylelaw16_PoslistTells.j0 : Nat → List (S64) → Int → Int → Bool → Option (Bool)
 | 0, _, _, _, _ => none
 | k + 1, x0, x1, x2, x24 => if x24 = true then ((peristylelaw16_awake.f k).bind fun t978 => (some t978)) else ((peristyleref14_Pick.f k x0 x1).bind fun bt979 => (peristylelaw16_PoslistTells.l0 k x0 x1 x2 bt979.1 bt979.2 1))
def peristylelaw16_PoslistTells.l0 : Nat → List (S64) → Int → Int → Int → Int → Int → Option (Bool)
 | 0, _, _, _, _, _, _ => none
 | k + 1, x0, x1, x2, x7, x8, x9 => if x9 ≤ 3 then ((poslist_Of.f k x0 x9).bind fun bt982 => ((poslist_List_Pick.f k bt982.1 bt982.2.1 bt982.2.2.1 bt982.2.2.2.1 x1).bind fun bt994 => (if bt982.2.2.2.2 = 0 then (if x7 = bt994.1 then (if x8 = bt994.2 then ((poslist_List_Rank.f k bt982.1 bt982.2.1 bt982.2.2.1 bt982.2.2.2.1 x2).bind fun t996 => ((peristyleref14_Rank.f k x0 x2).bind fun t997 => (if t996 = t997 then ((poslist_List_Has.f k bt982.1 bt982.2.1 bt982.2.2.1 bt982.2.2.2.1 x2).bind fun t998 => ((peristyleref14_Has.f k x0 x2).bind fun t999 => (if (t998 != t999) = true then (peristylelaw16_PoslistTells.j2 k x0 x1 x2 x7 x8 x9 true bt982.1 bt982.2.1 bt982.2.2.1 bt982.2.2.2.1) else ((poslist_List_Slice.f k bt982.1 bt982.2.1 bt982.2.2.1 bt982.2.2.2.1 x1 x2).bind fun bt1000 => ((peristyleref16_Slice.f k x0 x1 x2).bind fun bt1010 => ((peristylelaw16_is.f k bt1000.1 bt1000.2.1 bt1000.2.2.1 bt1000.2.2.2 bt1010.1 bt1010.2).bind fun t1014 => (peristylelaw16_PoslistTells.j2 k x0 x1 x2 x7 x8 x9 (!t1014) bt982.1 bt982.2.1 bt982.2.2.1 bt982.2.2.2.1))))))) else (peristylelaw16_PoslistTells.j2 k x0 x1 x2 x7 x8 x9 true bt982.1 bt982.2.1 bt982.2.2.1 bt982.2.2.2.1)))) else (peristylelaw16_PoslistTells.j2 k x0 x1 x2 x7 x8 x9 true bt982.1 bt982.2.1 bt982.2.2.1 bt982.2.2.2.1)) else (peristylelaw16_PoslistTells.j2 k x0 x1 x2 x7 x8 x9 true bt982.1 bt982.2.1 bt982.2.2.1 bt982.2.2.2.1)) else (peristylelaw16_PoslistTells.j2 k x0 x1 x2 x7 x8 x9 true bt982.1 bt982.2.1 bt982.2.2.1 bt982.2.2.2.1)))) else ((peristylelaw16_awake.f k).bind fun t981 => (some t981))
def peristylelaw16_PoslistTells.j2 : Nat → List (S64) → Int → Int → Int → Int → Int → Bool → Int → List (S64) → List Int → List Int → Option (Bool)
 | 0, _, _, _, _, _, _, _, _, _, _, _ => none
 | k + 1, x0, x1, x2, x7, x8, x9, x89, x994000, x994001, x994002, x994003 => if x89 = true then (some false) else (peristylelaw16_PoslistTells.l1 k x0 x1 x2 x7 x8 x9 0 x994000 x994001 x994002 x994003)
def peristylelaw16_PoslistTells.l1 : Nat → List (S64) → Int → Int → Int → Int → Int → Int → Int → List (S64) → List Int → List Int → Option (Bool)
 | 0, _, _, _, _, _, _, _, _, _, _, _ => none
 | k + 1, x0, x1, x2, x7, x8, x9, x14, x994000, x994001, x994002, x994003 => if x14 < 5 then ((poslist_List_As.f k x994000 x994001 x994002 x994003 x14).bind fun bt1015 => ((peristyleref16_May.f x14).bind fun t1027 => (if ((bt1015.2.2.2.2 == 0) != t1027) = true then (some false) else (if bt1015.2.2.2.2 = 0 then ((peristylelaw16_is.f k bt1015.1 bt1015.2.1 bt1015.2.2.1 bt1015.2.2.2.1 x0 x14).bind fun t1028 => (if t1028 = true then (peristylelaw16_PoslistTells.l1 k x0 x1 x2 x7 x8 x9 (wrap64 (x14 + 1)) x994000 x994001 x994002 x994003) else (some false))) else (if bt1015.2.2.2.2 = 1 then (peristylelaw16_PoslistTells.l1 k x0 x1 x2 x7 x8 x9 (wrap64 (x14 + 1)) x994000 x994001 x994002 x994003) else (some false)))))) else (peristylelaw16_PoslistTells.l0 k x0 x1 x2 x7 x8 (wrap64 (x9 + 1)))
end
def peristylelaw16_PoslistTells.f (k : Nat) (l0 : List (S64)) (a1 : Int) (a2 : Int) : Option (Bool) := (peristyleref14_Few.f k l0).bind fun t976 => (if t976 = true then ((peristyleref14_May.f k l0).bind fun t977 => (peristylelaw16_PoslistTells.j0 k l0 a1 a2 (!t977))) else (peristylelaw16_PoslistTells.j0 k l0 a1 a2 true))
theorem peristylelaw16_PoslistTells.j0_succ (k) (a0) (a1) (a2) (a3) : type_of% (@peristylelaw16_PoslistTells.j0.eq_2 a0 a1 a2 a3 k) := peristylelaw16_PoslistTells.j0.eq_2 a0 a1 a2 a3 k
theorem peristylelaw16_PoslistTells.l0_succ (k) (a0) (a1) (a2) (a3) (a4) (a5) : type_of% (@peristylelaw16_PoslistTells.l0.eq_2 a0 a1 a2 a3 a4 a5 k) := peristylelaw16_PoslistTells.l0.eq_2 a0 a1 a2 a3 a4 a5 k
theorem peristylelaw16_PoslistTells.j2_succ (k) (a0) (a1) (a2) (a3) (a4) (a5) (a6) (a7) (a8) (a9) (a10) : type_of% (@peristylelaw16_PoslistTells.j2.eq_2 a0 a1 a2 a3 a4 a5 a6 a7 a8 a9 a10 k) := peristylelaw16_PoslistTells.j2.eq_2 a0 a1 a2 a3 a4 a5 a6 a7 a8 a9 a10 k
theorem peristylelaw16_PoslistTells.l1_succ (k) (a0) (a1) (a2) (a3) (a4) (a5) (a6) (a7) (a8) (a9) (a10) : type_of% (@peristylelaw16_PoslistTells.l1.eq_2 a0 a1 a2 a3 a4 a5 a6 a7 a8 a9 a10 k) := peristylelaw16_PoslistTells.l1.eq_2 a0 a1 a2 a3 a4 a5 a6 a7 a8 a9 a10 k
set_option maxHeartbeats 8000000 in
set_option maxRecDepth 100000 in
theorem peristylelaw16_PoslistTells.calls (k : Nat) (A0 : Option Addr) (c0 : Nat) (l0 : List (S64)) (a1 : Int) (a2 : Int) (r : Bool) (w : World) (hr0 : Kd.C k64 w A0 l0.length l0) (hc0 : l0.length ≤ c0) (h : peristylelaw16_PoslistTells.f k l0 a1 a2 = some r) :
  Calls Tryz.prog 7 #[.slice A0 l0.length c0, .int .i64 a1, .int .i64 a2] w fun e w' => e = .returned (.bool r) ∧ Below w.heap.size w w' := by
 have hu27 := Tryz.underlying27
 have hu32 := Tryz.underlying32
 have HR0 := Aside0.mk hr0
 have HC0 := Aside0.mk hc0
 clear hr0 hc0
 have HB := Aside0.mk (Below.refl w.heap.size w)
 have H := h
 clear h
 unfold peristylelaw16_PoslistTells.f at H
 have HC4 := Aside0.mk H
 clear H
 go_enter Tryz.func7, Tryz.ntmps7
 go_upto_region 1 with (fail)
 go_cut [24] (fun v24 wc => ∃ (kq : Nat) (x24_3 : Bool), v24 = .bool x24_3 ∧ Aside0 (peristylelaw16_PoslistTells.j0 kq l0 a1 a2 x24_3 = some r) ∧ Aside0 (kq ≤ k) ∧ Aside0 (Below w.heap.size w wc))
 case first =>
  have H := HC4.out
  clear HC4
  replace H := bd H
  obtain ⟨t976, A5, H⟩ := H
  replace H := ifb H
  rcases H with ⟨rfl, H⟩ | ⟨rfl, H⟩
  ·replace H := bd H
   obtain ⟨t977, A7, H⟩ := H
   have H' := Aside0.mk H
   clear H
   go_wp2_with (first | ((with_reducible refine gate_callee (f := 8) rfl ?_); refine gL 18 Tryz.func8 #[.slice A0 l0.length c0] ?_; (with_reducible refine (peristyleref14_Few.calls k _ _ l0 true _ ?side1 ?side2 A5.out).mono ?_); (case side1 => exact cx (Kd.C_below HR0.out HB.out)); (case side2 => exact HC0.out); rintro e w' ⟨rfl, ⟨nd, rfl⟩⟩; refine ⟨_, rfl, ?_⟩) | (go_at_call 21; (with_reducible refine (peristyleref14_May.calls k _ _ l0 t977 _ ?side1 ?side2 A7.out).mono ?_); (case side1 => repeat (exact (Kd.C_below HR0.out (bh HB.out)))); (case side2 => exact HC0.out); rintro e w' ⟨rfl, ⟨nd, rfl⟩⟩; clear A7))
   go_meet
   case rel => exact ⟨_, (!t977), (by rfl), H', ⟨by omega⟩, ⟨bh HB.out⟩⟩
  ·have H' := Aside0.mk H
   clear H
   go_wp2_with (((with_reducible refine gate_callee (f := 8) rfl ?_); refine gL 18 Tryz.func8 #[.slice A0 l0.length c0] ?_; (with_reducible refine (peristyleref14_Few.calls k _ _ l0 false _ ?side1 ?side2 A5.out).mono ?_); (case side1 => exact cx (Kd.C_below HR0.out HB.out)); (case side2 => exact HC0.out); rintro e w' ⟨rfl, ⟨nd, rfl⟩⟩; refine ⟨_, rfl, ?_⟩))
   go_meet
   case rel => exact ⟨_, (true), (by rfl), H', ⟨by omega⟩, ⟨bh HB.out⟩⟩
 case rest =>
  clear HC4
  obtain ⟨kq, x24_3, rfl, HA, HJ3, HB⟩ := hcut
  cases kq with
  | zero => exact absurd HA.out (by simp [peristylelaw16_PoslistTells.j0])
  | succ kj3 =>
   have H := HA.out
   clear HA
   simp only [peristylelaw16_PoslistTells.j0] at H
   replace H := ifb H
   rcases H with ⟨rfl, H⟩ | ⟨rfl, H⟩
   ·replace H := bd H
    obtain ⟨t978, A9, H⟩ := H
    obtain rfl := Option.some.inj H
    go_wp2_with (((with_reducible refine gate_callee (f := 9) rfl ?_); refine gL 25 Tryz.func9 #[] ?_; (with_reducible refine (peristylelaw16_awake.calls kj3  t978 _ A9.out).mono ?_); rintro e w10 ⟨rfl, hb⟩; refine ⟨_, rfl, ?_⟩; replace HB := bsa HB hb; clear hb))
    go_ret
    exact ⟨er, bh HB.out⟩
   ·replace H := bd H
    obtain ⟨⟨t979, t980⟩, A11, H⟩ := H
    dsimp only at H
    have H' := Aside0.mk H
    clear H
    go_wp2_with (((with_reducible refine gate_callee (f := 30) rfl ?_); refine gL 29 Tryz.func30 #[.slice A0 l0.length c0, .int .i64 a1] ?_; (with_reducible refine (peristyleref14_Pick.calls kj3 _ _ l0 a1 t979 t980 _ ?side1 ?side2 A11.out).mono ?_); (case side1 => exact cx (Kd.C_below HR0.out HB.out)); (case side2 => exact HC0.out); rintro e w12 ⟨rfl, hb⟩; refine ⟨_, rfl, ?_⟩; replace HB := bsa HB hb; clear hb))
    go_loopg [9] kj3 (fun kq v9 w' => ∃ (x9_2 : Int), v9 = .int .i64 x9_2 ∧ Aside0 (peristylelaw16_PoslistTells.l0 kq l0 a1 a2 t979 t980 x9_2 = some r) ∧ Aside0 (kq ≤ kj3) ∧ Aside0 (Below w.heap.size w w'))
    case atStart => exact ⟨(1), (by rfl), H', ⟨Nat.le_refl _⟩, ⟨bh HB.out⟩⟩
    case round =>
     clear H'
     obtain ⟨x9_2, rfl, HA, HK2, HB⟩ := hrel
     cases gk with
     | zero => exact absurd HA.out (by simp [peristylelaw16_PoslistTells.l0])
     | succ k2 =>
      have H := HA.out
      clear HA
      simp only [peristylelaw16_PoslistTells.l0] at H
      replace H := ifd H
      rcases H with ⟨-, c13b0, H⟩ | ⟨-, c13b0, H⟩
      ·replace H := bd H
       obtain ⟨⟨t982, t983, t986, t989, t992⟩, A14, H⟩ := H
       dsimp only at H
       replace H := bd H
       obtain ⟨⟨t994, t995⟩, A15, H⟩ := H
       dsimp only at H
       have HC16 := Aside0.mk H
       clear H
       go_upto_region 9 with (first | ((with_reducible refine gate_callee (f := 10) rfl ?_); refine gL 39 Tryz.func10 #[.slice A0 l0.length c0, .int .i64 x9_2] ?_; (with_reducible refine (poslist_Of.calls k2 _ _ l0 x9_2 t982 t983 t986 t989 t992 _ ?side1 ?side2 A14.out).mono ?_); (case side1 => exact cx (Kd.C_below HR0.out HB.out)); (case side2 => exact HC0.out); rintro e w17 ⟨v984, v987, v990, rfl, ho0, ho1, ho2, hb⟩; refine ⟨_, rfl, ?_⟩; have HO985 := Aside0.mk (Kd.R_lower ho0 (below_size (bh HB.out))); have HO988 := Aside0.mk (Kd.R_lower ho1 (below_size (bh HB.out))); have HO991 := Aside0.mk (Kd.R_lower ho2 (below_size (bh HB.out))); replace HB := bsa HB hb; clear hb ho0 ho1 ho2) | ((with_reducible refine gate_dst (N := 10) rfl ?_); refine box_event ?hg (N := 10) ?hd (cs := #[.int .i64 0, .slice none 0 0, .slice none 0 0, .slice none 0 0]) (t := 27) ?hr ?_; (case hd => rfl); (case hg => rfl); (case hr => (go_simp; done)); intro gb993 hg w18 hbox hb; replace HO985 := rba HO985 hb; replace HO988 := rba HO988 hb; replace HO991 := rba HO991 hb; have BK993 := Aside0.mk (hbox); have GW993 := bza HB hg; have GE993 := bza HB hg; replace HB := bsa HB hb; clear hb hbox hg; obtain ⟨hcz19_0, hcz19_1, hcz19_2, hcz19_3, hfz19_0, hfz19_1, hfz19_2, hfz19_3⟩ := b4 BK993; obtain ⟨Ao20, co20, eo20⟩ := Kd.R_slice HO985.out; subst eo20; obtain ⟨Ao21, co21, eo21⟩ := Kd.R_slice HO988.out; subst eo21; obtain ⟨Ao22, co22, eo22⟩ := Kd.R_slice HO991.out; subst eo22) | ((with_reducible refine gate_store (t := 27) (p := 10) rfl ?_); refine stE 27 10 ((((w18.setCell ⟨gb993, 0, none⟩ (.int .i64 t982)).setCell ⟨gb993, 1, none⟩ (.slice Ao20 t983.length co20)).setCell ⟨gb993, 2, none⟩ (.slice Ao21 t986.length co21)).setCell ⟨gb993, 3, none⟩ (.slice Ao22 t989.length co22)) ?_; intro w23 hw; replace HO985 := rsm (fun _ => True) HO985 hw (fun _ hk => trivial); replace HO988 := rst HO988 hw; replace HO991 := rst HO991 hw; replace BK993 := sps #[.int .i64 t982, .slice Ao20 t983.length co20, .slice Ao21 t986.length co21, .slice Ao22 t989.length co22] BK993 hw (.p (.p (.p (.p .nil)))); replace HB := bhw HB hw; clear hw; obtain ⟨hcz24_0, hcz24_1, hcz24_2, hcz24_3, hfz24_0, hfz24_1, hfz24_2, hfz24_3⟩ := b4 BK993) | ((with_reducible refine gate_callee (f := 31) rfl ?_); refine gL 45 Tryz.func31 #[.agg #[.int .i64 t982, .slice Ao20 t983.length co20, .slice Ao21 t986.length co21, .slice Ao22 t989.length co22], .int .i64 a1] ?_; (with_reducible refine (poslist_List_Pick.calls k2 t982 _ _ t983 _ _ t986 _ _ t989 a1 t994 t995 _ ?side1 ?side2 ?side3 ?side4 ?side5 ?side6 A15.out).mono ?_); (case side1 => exact cx (Kd.R_reads' HO985.out).2.2); (case side2 => exact (Kd.R_reads' HO985.out).2.1); (case side3 => exact cx (Kd.R_reads' HO988.out).2.2); (case side4 => exact (Kd.R_reads' HO988.out).2.1); (case side5 => exact cx (Kd.R_reads' HO991.out).2.2); (case side6 => exact (Kd.R_reads' HO991.out).2.1); rintro e w25 ⟨rfl, hb⟩; refine ⟨_, rfl, ?_⟩; replace HO985 := rba HO985 hb; replace HO988 := rba HO988 hb; replace HO991 := rba HO991 hb; replace BK993 := bba BK993 hb; replace HB := bsa HB hb; clear hb))
       go_cut [89] (fun v89 wc => ∃ (kq : Nat) (x89_15 : Bool), v89 = .bool x89_15 ∧ Aside0 (peristylelaw16_PoslistTells.j2 kq l0 a1 a2 t979 t980 x9_2 x89_15 t982 t983 t986 t989 = some r) ∧ Aside0 (kq ≤ k2) ∧ Aside0 (Kd.R k64 64 wc w.heap.size (fun _ => True) (.slice Ao20 t983.length co20) t983) ∧ Aside0 (Kd.R (Kd.int .i64) 3 wc w.heap.size (fun k_ => some k_ ≠ ((.slice Ao22 t989.length co22) : Value).ownBlock) (.slice Ao21 t986.length co21) t986) ∧ Aside0 (Kd.R (Kd.int .i64) 3 wc w.heap.size (fun k_ => some k_ ≠ ((.slice Ao21 t986.length co21) : Value).ownBlock) (.slice Ao22 t989.length co22) t989) ∧ Aside0 (wc.heap[gb993]? = some (.cells #[.int .i64 t982, (.slice Ao20 t983.length co20), (.slice Ao21 t986.length co21), (.slice Ao22 t989.length co22)] 27 (0, 0))) ∧ Aside0 (Below w.heap.size w wc))
       case first =>
        have H := HC16.out
        clear HC16
        replace H := ife H
        rcases H with ⟨-, c26b0, c26b1, H⟩ | ⟨c26, c26b0, c26b1, H⟩
        ·(skip)
         replace H := ife H
         rcases H with ⟨-, c27b0, c27b1, H⟩ | ⟨c27, c27b0, c27b1, H⟩
         ·replace H := ife H
          rcases H with ⟨-, c28b0, c28b1, H⟩ | ⟨c28, c28b0, c28b1, H⟩
          ·replace H := bd H
           obtain ⟨t996, A29, H⟩ := H
           replace H := bd H
           obtain ⟨t997, A30, H⟩ := H
           replace H := ife H
           rcases H with ⟨-, c31b0, c31b1, H⟩ | ⟨c31, c31b0, c31b1, H⟩
           ·replace H := bd H
            obtain ⟨t998, A32, H⟩ := H
            replace H := bd H
            obtain ⟨t999, A33, H⟩ := H
            replace H := ifd H
            rcases H with ⟨c34, -, H⟩ | ⟨c34, -, H⟩
            ·have c34b0 : (t998 != t999) = true := c34
             ((have c34b1 : decide (t998 = t999) = false := by simpa using c34))
             ((have c34b2 : (t998 == t999) = false := by simpa using c34))
             ((have c34b3 : ¬ (t998 = t999) := by simpa using c34))
             clear c34
             have H' := Aside0.mk H
             clear H
             obtain ⟨hcz35_0, hcz35_1, hcz35_2, hcz35_3, hfz35_0, hfz35_1, hfz35_2, hfz35_3⟩ := b4 BK993
             go_wp2_with (first | (go_at_call 32; (with_reducible refine (poslist_List_Rank.calls k2 t982 _ _ t983 _ _ t986 _ _ t989 a2 t996 _ ?side1 ?side2 ?side3 ?side4 ?side5 ?side6 A29.out).mono ?_); (case side1 => exact cx (Kd.R_reads' HO985.out).2.2); (case side2 => exact (Kd.R_reads' HO985.out).2.1); (case side3 => exact cx (Kd.R_reads' HO988.out).2.2); (case side4 => exact (Kd.R_reads' HO988.out).2.1); (case side5 => exact cx (Kd.R_reads' HO991.out).2.2); (case side6 => exact (Kd.R_reads' HO991.out).2.1); rintro e w36 ⟨rfl, hb⟩; replace HO985 := rba HO985 hb; replace HO988 := rba HO988 hb; replace HO991 := rba HO991 hb; replace BK993 := bba BK993 hb; replace HB := bsa HB hb; clear hb A29) | (go_at_call 33; (with_reducible refine (peristyleref14_Rank.calls k2 _ _ l0 a2 t997 _ ?side1 ?side2 A30.out).mono ?_); (case side1 => exact cx (Kd.C_below HR0.out HB.out)); (case side2 => exact HC0.out); rintro e w37 ⟨rfl, hb⟩; replace HO985 := rba HO985 hb; replace HO988 := rba HO988 hb; replace HO991 := rba HO991 hb; replace BK993 := bba BK993 hb; replace HB := bsa HB hb; clear hb A30; obtain ⟨hcz38_0, hcz38_1, hcz38_2, hcz38_3, hfz38_0, hfz38_1, hfz38_2, hfz38_3⟩ := b4 BK993) | (go_at_call 34; (with_reducible refine (poslist_List_Has.calls k2 t982 _ _ t983 _ _ t986 _ _ t989 a2 t998 _ ?side1 ?side2 ?side3 ?side4 ?side5 ?side6 A32.out).mono ?_); (case side1 => exact cx (Kd.R_reads' HO985.out).2.2); (case side2 => exact (Kd.R_reads' HO985.out).2.1); (case side3 => exact cx (Kd.R_reads' HO988.out).2.2); (case side4 => exact (Kd.R_reads' HO988.out).2.1); (case side5 => exact cx (Kd.R_reads' HO991.out).2.2); (case side6 => exact (Kd.R_reads' HO991.out).2.1); rintro e w39 ⟨rfl, hb⟩; replace HO985 := rba HO985 hb; replace HO988 := rba HO988 hb; replace HO991 := rba HO991 hb; replace BK993 := bba BK993 hb; replace HB := bsa HB hb; clear hb A32) | (go_at_call 35; (with_reducible refine (peristyleref14_Has.calls k2 _ _ l0 a2 t999 _ ?side1 ?side2 A33.out).mono ?_); (case side1 => exact cx (Kd.C_below HR0.out HB.out)); (case side2 => exact HC0.out); rintro e w' ⟨rfl, ⟨nd, rfl⟩⟩; clear A33))
             go_meet
             case rel => exact ⟨_, (true), (by rfl), H', ⟨by have := HJ3.out; have := HK2.out; omega⟩, ⟨by (with_reducible repeat (apply Kd.R_drewN)); exact HO985.out⟩, ⟨by (with_reducible repeat (apply Kd.R_drewN)); exact HO988.out⟩, ⟨by (with_reducible repeat (apply Kd.R_drewN)); exact HO991.out⟩, ⟨bx BK993.out⟩, ⟨bh HB.out⟩⟩
            ·have c34b0 : (t998 != t999) = false := by simpa using c34
             ((have c34b1 : decide (t998 = t999) = true := by simpa using c34))
             ((have c34b2 : (t998 == t999) = true := by simpa using c34))
             clear c34
             replace H := bd H
             obtain ⟨⟨t1000, t1001, t1004, t1007⟩, A40, H⟩ := H
             dsimp only at H
             replace H := bd H
             obtain ⟨⟨t1010, t1013⟩, A41, H⟩ := H
             dsimp only at H
             replace H := bd H
             obtain ⟨t1014, A42, H⟩ := H
             have H' := Aside0.mk H
             clear H
             obtain ⟨hcz43_0, hcz43_1, hcz43_2, hcz43_3, hfz43_0, hfz43_1, hfz43_2, hfz43_3⟩ := b4 BK993
             go_wp2_with (first | (go_at_call 32; (with_reducible refine (poslist_List_Rank.calls k2 t982 _ _ t983 _ _ t986 _ _ t989 a2 t996 _ ?side1 ?side2 ?side3 ?side4 ?side5 ?side6 A29.out).mono ?_); (case side1 => exact cx (Kd.R_reads' HO985.out).2.2); (case side2 => exact (Kd.R_reads' HO985.out).2.1); (case side3 => exact cx (Kd.R_reads' HO988.out).2.2); (case side4 => exact (Kd.R_reads' HO988.out).2.1); (case side5 => exact cx (Kd.R_reads' HO991.out).2.2); (case side6 => exact (Kd.R_reads' HO991.out).2.1); rintro e w44 ⟨rfl, hb⟩; replace HO985 := rba HO985 hb; replace HO988 := rba HO988 hb; replace HO991 := rba HO991 hb; replace BK993 := bba BK993 hb; replace HB := bsa HB hb; clear hb A29) | (go_at_call 33; (with_reducible refine (peristyleref14_Rank.calls k2 _ _ l0 a2 t997 _ ?side1 ?side2 A30.out).mono ?_); (case side1 => exact cx (Kd.C_below HR0.out HB.out)); (case side2 => exact HC0.out); rintro e w45 ⟨rfl, hb⟩; replace HO985 := rba HO985 hb; replace HO988 := rba HO988 hb; replace HO991 := rba HO991 hb; replace BK993 := bba BK993 hb; replace HB := bsa HB hb; clear hb A30; obtain ⟨hcz46_0, hcz46_1, hcz46_2, hcz46_3, hfz46_0, hfz46_1, hfz46_2, hfz46_3⟩ := b4 BK993) | (go_at_call 34; (with_reducible refine (poslist_List_Has.calls k2 t982 _ _ t983 _ _ t986 _ _ t989 a2 t998 _ ?side1 ?side2 ?side3 ?side4 ?side5 ?side6 A32.out).mono ?_); (case side1 => exact cx (Kd.R_reads' HO985.out).2.2); (case side2 => exact (Kd.R_reads' HO985.out).2.1); (case side3 => exact cx (Kd.R_reads' HO988.out).2.2); (case side4 => exact (Kd.R_reads' HO988.out).2.1); (case side5 => exact cx (Kd.R_reads' HO991.out).2.2); (case side6 => exact (Kd.R_reads' HO991.out).2.1); rintro e w47 ⟨rfl, hb⟩; replace HO985 := rba HO985 hb; replace HO988 := rba HO988 hb; replace HO991 := rba HO991 hb; replace BK993 := bba BK993 hb; replace HB := bsa HB hb; clear hb A32) | (go_at_call 35; (with_reducible refine (peristyleref14_Has.calls k2 _ _ l0 a2 t999 _ ?side1 ?side2 A33.out).mono ?_); (case side1 => exact cx (Kd.C_below HR0.out HB.out)); (case side2 => exact HC0.out); rintro e w' ⟨rfl, ⟨nd, rfl⟩⟩; clear A33; obtain ⟨hcz48_0, hcz48_1, hcz48_2, hcz48_3, hfz48_0, hfz48_1, hfz48_2, hfz48_3⟩ := b4 BK993) | (go_at_call 26; (with_reducible refine (poslist_List_Slice.calls k2 t982 _ _ t983 _ _ t986 _ _ t989 a1 a2 t1000 t1001 t1004 t1007 _ ?side1 ?side2 ?side3 ?side4 ?side5 ?side6 A40.out).mono ?_); (case side1 => exact cx (Kd.R_reads' HO985.out).2.2); (case side2 => exact (Kd.R_reads' HO985.out).2.1); (case side3 => exact cx (Kd.R_reads' HO988.out).2.2); (case side4 => exact (Kd.R_reads' HO988.out).2.1); (case side5 => exact cx (Kd.R_reads' HO991.out).2.2); (case side6 => exact (Kd.R_reads' HO991.out).2.1); rintro e w49 ⟨v1002, v1005, v1008, rfl, ho0, ho1, ho2, hb⟩; have HO1003 := Aside0.mk (Kd.R_lower (Kd.R_new' ho0 (Kd.R_lt (rx HO985.out))) (below_size (bh HB.out))); replace HO985 := Aside0.mk (Kd.R_elder' (rx HO985.out) (Kd.R_base ho0) hb); have HO1006 := Aside0.mk (Kd.R_lower (Kd.R_new' (Kd.R_new' ho1 (Kd.R_lt (rx HO988.out))) (Kd.R_lt (rx HO991.out))) (below_size (bh HB.out))); have HO1009 := Aside0.mk (Kd.R_lower (Kd.R_new' (Kd.R_new' ho2 (Kd.R_lt (rx HO988.out))) (Kd.R_lt (rx HO991.out))) (below_size (bh HB.out))); replace HO988 := Aside0.mk (Kd.R_mono (Kd.R_told (Kd.R_told (Kd.R_old (rx HO988.out) hb) (Kd.R_base ho1)) (Kd.R_base ho2)) (fun _ h_ => h_.1)); replace HO991 := Aside0.mk (Kd.R_mono (Kd.R_told (Kd.R_told (Kd.R_old (rx HO991.out) hb) (Kd.R_base ho1)) (Kd.R_base ho2)) (fun _ h_ => h_.1)); replace BK993 := bba BK993 hb; replace HB := bsa HB hb; clear hb ho0 ho1 ho2 A40) | (go_at_call 36; (with_reducible refine (peristyleref16_Slice.calls k2 _ _ l0 a1 a2 t1010 t1013 _ ?side1 ?side2 A41.out).mono ?_); (case side1 => exact cx (Kd.C_below HR0.out HB.out)); (case side2 => exact HC0.out); rintro e w50 ⟨v1011, rfl, ho0, hb⟩; have HO1012 := Aside0.mk (Kd.V_lower (Kd.V_mono (ok' := fun k_ => some k_ ≠ (.slice Ao20 t983.length co20 : Value).ownBlock ∧ some k_ ≠ (.slice Ao21 t986.length co21 : Value).ownBlock ∧ some k_ ≠ (.slice Ao22 t989.length co22 : Value).ownBlock ∧ some k_ ≠ (v1002 : Value).ownBlock ∧ some k_ ≠ (v1005 : Value).ownBlock ∧ some k_ ≠ (v1008 : Value).ownBlock ∧ k_ ≠ gb993) ho0 (fun k_ hk_ => ⟨(Kd.fresh' (Kd.R_lt (rx HO985.out)) k_ hk_), (Kd.fresh' (Kd.R_lt (rx HO988.out)) k_ hk_), (Kd.fresh' (Kd.R_lt (rx HO991.out)) k_ hk_), (Kd.fresh' (Kd.R_lt (rx HO1003.out)) k_ hk_), (Kd.fresh' (Kd.R_lt (rx HO1006.out)) k_ hk_), (Kd.fresh' (Kd.R_lt (rx HO1009.out)) k_ hk_), (Kd.freshB (g := gb993) (o := .cells #[.int .i64 t982, .slice Ao20 t983.length co20, .slice Ao21 t986.length co21, .slice Ao22 t989.length co22] 27 (0, 0)) (bx BK993.out) k_ hk_)⟩)) (below_size (bh HB.out))); replace HO985 := rba HO985 hb; replace HO988 := rba HO988 hb; replace HO991 := rba HO991 hb; replace HO1003 := rba HO1003 hb; replace HO1006 := rba HO1006 hb; replace HO1009 := rba HO1009 hb; replace BK993 := bba BK993 hb; replace HB := bsa HB hb; clear hb ho0 A41; obtain ⟨Ao51, co51, eo51⟩ := Kd.R_slice HO1003.out; subst eo51; obtain ⟨Ao52, co52, eo52⟩ := Kd.R_slice HO1006.out; subst eo52; obtain ⟨Ao53, co53, eo53⟩ := Kd.R_slice HO1009.out; subst eo53; obtain ⟨Ao54, co54, eo54⟩ := Kd.V_slice HO1012.out; subst eo54) | (go_at_call 13; (with_reducible refine (peristylelaw16_is.calls k2 t1000 _ _ t1001 _ _ t1004 _ _ t1007 _ _ t1010 t1013 t1014 _ ?side1 ?side2 ?side3 ?side4 ?side5 ?side6 ?side7 ?side8 A42.out).mono ?_); (case side1 => exact cx (Kd.R_reads' HO1003.out).2.2); (case side2 => exact (Kd.R_reads' HO1003.out).2.1); (case side3 => exact cx (Kd.R_reads' HO1006.out).2.2); (case side4 => exact (Kd.R_reads' HO1006.out).2.1); (case side5 => exact cx (Kd.R_reads' HO1009.out).2.2); (case side6 => exact (Kd.R_reads' HO1009.out).2.1); (case side7 => exact cx (Kd.V_reads' HO1012.out).2.2); (case side8 => exact (Kd.V_reads' HO1012.out).2.1); rintro e w55 ⟨rfl, hb⟩; replace HO985 := rba HO985 hb; replace HO988 := rba HO988 hb; replace HO991 := rba HO991 hb; replace HO1003 := rba HO1003 hb; replace HO1006 := rba HO1006 hb; replace HO1009 := rba HO1009 hb; replace HO1012 := Aside0.mk (Kd.V_below (by exact HO1012.out) hb); replace BK993 := bba BK993 hb; replace HB := bsa HB hb; clear hb A42))
             go_meet
             case rel => exact ⟨_, (!t1014), (by rfl), H', ⟨by have := HJ3.out; have := HK2.out; omega⟩, ⟨by exact Kd.R_mono HO985.out (fun _ hk => trivial)⟩, ⟨by exact Kd.R_mono HO988.out (fun _ hk => hk.1.1)⟩, ⟨by exact Kd.R_mono HO991.out (fun _ hk => hk.1.1)⟩, ⟨bx BK993.out⟩, ⟨bh HB.out⟩⟩
           ·have H' := Aside0.mk H
            clear H
            obtain ⟨hcz56_0, hcz56_1, hcz56_2, hcz56_3, hfz56_0, hfz56_1, hfz56_2, hfz56_3⟩ := b4 BK993
            go_wp2_with (first | (go_at_call 32; (with_reducible refine (poslist_List_Rank.calls k2 t982 _ _ t983 _ _ t986 _ _ t989 a2 t996 _ ?side1 ?side2 ?side3 ?side4 ?side5 ?side6 A29.out).mono ?_); (case side1 => exact cx (Kd.R_reads' HO985.out).2.2); (case side2 => exact (Kd.R_reads' HO985.out).2.1); (case side3 => exact cx (Kd.R_reads' HO988.out).2.2); (case side4 => exact (Kd.R_reads' HO988.out).2.1); (case side5 => exact cx (Kd.R_reads' HO991.out).2.2); (case side6 => exact (Kd.R_reads' HO991.out).2.1); rintro e w57 ⟨rfl, hb⟩; replace HO985 := rba HO985 hb; replace HO988 := rba HO988 hb; replace HO991 := rba HO991 hb; replace BK993 := bba BK993 hb; replace HB := bsa HB hb; clear hb A29) | (go_at_call 33; (with_reducible refine (peristyleref14_Rank.calls k2 _ _ l0 a2 t997 _ ?side1 ?side2 A30.out).mono ?_); (case side1 => exact cx (Kd.C_below HR0.out HB.out)); (case side2 => exact HC0.out); rintro e w58 ⟨rfl, hb⟩; replace HO985 := rba HO985 hb; replace HO988 := rba HO988 hb; replace HO991 := rba HO991 hb; replace BK993 := bba BK993 hb; replace HB := bsa HB hb; clear hb A30))
            go_meet
            case rel => exact ⟨_, (true), (by rfl), H', ⟨by have := HJ3.out; have := HK2.out; omega⟩, ⟨by exact HO985.out⟩, ⟨by exact HO988.out⟩, ⟨by exact HO991.out⟩, ⟨bx BK993.out⟩, ⟨bh HB.out⟩⟩
          ·have H' := Aside0.mk H
           clear H
           go_wp2
           go_meet
           case rel => exact ⟨_, (true), (by rfl), H', ⟨by have := HJ3.out; have := HK2.out; omega⟩, ⟨by exact HO985.out⟩, ⟨by exact HO988.out⟩, ⟨by exact HO991.out⟩, ⟨bx BK993.out⟩, ⟨bh HB.out⟩⟩
         ·have H' := Aside0.mk H
          clear H
          go_wp2
          go_meet
          case rel => exact ⟨_, (true), (by rfl), H', ⟨by have := HJ3.out; have := HK2.out; omega⟩, ⟨by exact HO985.out⟩, ⟨by exact HO988.out⟩, ⟨by exact HO991.out⟩, ⟨bx BK993.out⟩, ⟨bh HB.out⟩⟩
        ·(skip)
         have H' := Aside0.mk H
         clear H
         go_wp2
         go_meet
         case rel => exact ⟨_, (true), (by rfl), H', ⟨by have := HJ3.out; have := HK2.out; omega⟩, ⟨by exact HO985.out⟩, ⟨by exact HO988.out⟩, ⟨by exact HO991.out⟩, ⟨bx BK993.out⟩, ⟨bh HB.out⟩⟩
       case rest =>
        clear HC16 c13b0 hcz19_0 hcz19_1 hcz19_2 hcz19_3 hcz24_0 hcz24_1 hcz24_2 hcz24_3 hfz19_0 hfz19_1 hfz19_2 hfz19_3 hfz24_0 hfz24_1 hfz24_2 hfz24_3
        obtain ⟨kq, x89_15, rfl, HA, HJ15, HO_994001, HO_994002, HO_994003, BK993, HB⟩ := hcut
        cases kq with
        | zero => exact absurd HA.out (by simp [peristylelaw16_PoslistTells.j2])
        | succ kj15 =>
         have H := HA.out
         clear HA
         simp only [peristylelaw16_PoslistTells.j2] at H
         replace H := ifb H
         rcases H with ⟨rfl, H⟩ | ⟨rfl, H⟩
         ·obtain rfl := Option.some.inj H
          go_wp2
          go_ret
          exact ⟨er, bh HB.out⟩
         ·have H' := Aside0.mk H
          clear H
          go_wp2
          go_loopg [14] kj15 (fun kq v14 w' => ∃ (x14_4 : Int), v14 = .int .i64 x14_4 ∧ Aside0 (peristylelaw16_PoslistTells.l1 kq l0 a1 a2 t979 t980 x9_2 x14_4 t982 t983 t986 t989 = some r) ∧ Aside0 (kq ≤ kj15) ∧ Aside0 (Kd.R k64 64 w' w.heap.size (fun _ => True) (.slice Ao20 t983.length co20) t983) ∧ Aside0 (Kd.R (Kd.int .i64) 3 w' w.heap.size (fun k_ => some k_ ≠ ((.slice Ao22 t989.length co22) : Value).ownBlock) (.slice Ao21 t986.length co21) t986) ∧ Aside0 (Kd.R (Kd.int .i64) 3 w' w.heap.size (fun k_ => some k_ ≠ ((.slice Ao21 t986.length co21) : Value).ownBlock) (.slice Ao22 t989.length co22) t989) ∧ Aside0 (w'.heap[gb993]? = some (.cells #[.int .i64 t982, (.slice Ao20 t983.length co20), (.slice Ao21 t986.length co21), (.slice Ao22 t989.length co22)] 27 (0, 0))) ∧ Aside0 (Below w.heap.size w w'))
          case atStart => exact ⟨(0), (by rfl), H', ⟨Nat.le_refl _⟩, ⟨by exact HO_994001.out⟩, ⟨by exact HO_994002.out⟩, ⟨by exact HO_994003.out⟩, ⟨bx BK993.out⟩, ⟨bh HB.out⟩⟩
          case round =>
           clear H'
           obtain ⟨x14_4, rfl, HA, HK4, HO_994001, HO_994002, HO_994003, BK993, HB⟩ := hrel
           cases gk with
           | zero => exact absurd HA.out (by simp [peristylelaw16_PoslistTells.l1])
           | succ k4 =>
            have H := HA.out
            clear HA
            simp only [peristylelaw16_PoslistTells.l1] at H
            replace H := ifd H
            rcases H with ⟨-, c60b0, H⟩ | ⟨-, c60b0, H⟩
            ·replace H := bd H
             obtain ⟨⟨t1015, t1016, t1019, t1022, t1025⟩, A61, H⟩ := H
             dsimp only at H
             replace H := bd H
             obtain ⟨t1027, A62, H⟩ := H
             replace H := ifd H
             rcases H with ⟨c63, -, H⟩ | ⟨c63, -, H⟩
             ·have c63b0 : ((t1025 == 0) != t1027) = true := c63
              ((have c63b1 : decide ((t1025 == 0) = t1027) = false := by simpa using c63))
              ((have c63b2 : ((t1025 == 0) == t1027) = false := by simpa using c63))
              ((have c63b3 : ¬ ((t1025 == 0) = t1027) := by simpa using c63))
              clear c63
              obtain rfl := Option.some.inj H
              obtain ⟨hcz64_0, hcz64_1, hcz64_2, hcz64_3, hfz64_0, hfz64_1, hfz64_2, hfz64_3⟩ := b4 BK993
              go_wp2_with (first | ((with_reducible refine gate_callee (f := 37) rfl ?_); refine gL 97 Tryz.func37 #[.agg #[.int .i64 t982, .slice Ao20 t983.length co20, .slice Ao21 t986.length co21, .slice Ao22 t989.length co22], .int .i64 x14_4] ?_; (with_reducible refine (poslist_List_As.calls k4 t982 _ _ t983 _ _ t986 _ _ t989 x14_4 t1015 t1016 t1019 t1022 t1025 _ ?side1 ?side2 ?side3 ?side4 ?side5 ?side6 A61.out).mono ?_); (case side1 => exact cx (Kd.R_reads' HO_994001.out).2.2); (case side2 => exact (Kd.R_reads' HO_994001.out).2.1); (case side3 => exact cx (Kd.R_reads' HO_994002.out).2.2); (case side4 => exact (Kd.R_reads' HO_994002.out).2.1); (case side5 => exact cx (Kd.R_reads' HO_994003.out).2.2); (case side6 => exact (Kd.R_reads' HO_994003.out).2.1); rintro e w65 ⟨v1017, v1020, v1023, rfl, ho0, ho1, ho2, hb⟩; refine ⟨_, rfl, ?_⟩; have HO1018 := Aside0.mk (Kd.R_lower (Kd.R_new' ho0 (Kd.R_lt (rx HO_994001.out))) (below_size (bh HB.out))); replace HO_994001 := Aside0.mk (Kd.R_elder' (rx HO_994001.out) (Kd.R_base ho0) hb); have HO1021 := Aside0.mk (Kd.R_lower (Kd.R_new' (Kd.R_new' ho1 (Kd.R_lt (rx HO_994002.out))) (Kd.R_lt (rx HO_994003.out))) (below_size (bh HB.out))); have HO1024 := Aside0.mk (Kd.R_lower (Kd.R_new' (Kd.R_new' ho2 (Kd.R_lt (rx HO_994002.out))) (Kd.R_lt (rx HO_994003.out))) (below_size (bh HB.out))); replace HO_994002 := Aside0.mk (Kd.R_mono (Kd.R_told (Kd.R_told (Kd.R_old (rx HO_994002.out) hb) (Kd.R_base ho1)) (Kd.R_base ho2)) (fun _ h_ => h_.1)); replace HO_994003 := Aside0.mk (Kd.R_mono (Kd.R_told (Kd.R_told (Kd.R_old (rx HO_994003.out) hb) (Kd.R_base ho1)) (Kd.R_base ho2)) (fun _ h_ => h_.1)); replace BK993 := bba BK993 hb; replace HB := bsa HB hb; clear hb ho0 ho1 ho2) | ((with_reducible refine gate_dst (N := 15) rfl ?_); refine box_event ?hg (N := 15) ?hd (cs := #[.int .i64 0, .slice none 0 0, .slice none 0 0, .slice none 0 0]) (t := 27) ?hr ?_; (case hd => rfl); (case hg => rfl); (case hr => (go_simp; done)); intro gb1026 hg w66 hbox hb; replace HO_994001 := rba HO_994001 hb; replace HO_994002 := rba HO_994002 hb; replace HO_994003 := rba HO_994003 hb; replace HO1018 := rba HO1018 hb; replace HO1021 := rba HO1021 hb; replace HO1024 := rba HO1024 hb; have BK1026 := Aside0.mk (hbox); have GW1026 := bza HB hg; have GE1026 := bza HB hg; replace HB := bsa HB hb; obtain ⟨NB993_1026, NB1026_993⟩ := bnm BK993 hg; replace BK993 := bba BK993 hb; clear hb hbox hg; have hnb67 := NB1026_993.out; have hnc67 := NB993_1026.out; obtain ⟨hcz68_0, hcz68_1, hcz68_2, hcz68_3, hfz68_0, hfz68_1, hfz68_2, hfz68_3⟩ := b4 BK1026; obtain ⟨Ao69, co69, eo69⟩ := Kd.R_slice HO1018.out; subst eo69; obtain ⟨Ao70, co70, eo70⟩ := Kd.R_slice HO1021.out; subst eo70; obtain ⟨Ao71, co71, eo71⟩ := Kd.R_slice HO1024.out; subst eo71) | ((with_reducible refine gate_store (t := 27) (p := 15) rfl ?_); refine stE 27 15 ((((w66.setCell ⟨gb1026, 0, none⟩ (.int .i64 t1015)).setCell ⟨gb1026, 1, none⟩ (.slice Ao69 t1016.length co69)).setCell ⟨gb1026, 2, none⟩ (.slice Ao70 t1019.length co70)).setCell ⟨gb1026, 3, none⟩ (.slice Ao71 t1022.length co71)) ?_; intro w72 hw; have n0_ := rsm (fun k_ => some k_ ≠ (.slice Ao69 t1016.length co69 : Value).ownBlock) HO_994001 hw (fun _ hk => hk.2); have n1_ := rsm (fun k_ => some k_ ≠ (.slice Ao22 t989.length co22 : Value).ownBlock ∧ some k_ ≠ (.slice Ao70 t1019.length co70 : Value).ownBlock ∧ some k_ ≠ (.slice Ao71 t1022.length co71 : Value).ownBlock) HO_994002 hw (fun _ hk => ⟨hk.1.1, ⟨hk.1.2, hk.2⟩⟩); have n2_ := rsm (fun k_ => some k_ ≠ (.slice Ao21 t986.length co21 : Value).ownBlock ∧ some k_ ≠ (.slice Ao70 t1019.length co70 : Value).ownBlock ∧ some k_ ≠ (.slice Ao71 t1022.length co71 : Value).ownBlock) HO_994003 hw (fun _ hk => ⟨hk.1.1, ⟨hk.1.2, hk.2⟩⟩); have n3_ := rsm (fun k_ => some k_ ≠ (.slice Ao20 t983.length co20 : Value).ownBlock) HO1018 hw (fun _ hk => hk.2); have n4_ := rsm (fun k_ => some k_ ≠ (.slice Ao21 t986.length co21 : Value).ownBlock ∧ some k_ ≠ (.slice Ao22 t989.length co22 : Value).ownBlock ∧ some k_ ≠ (.slice Ao71 t1022.length co71 : Value).ownBlock) HO1021 hw (fun _ hk => ⟨hk.1.2, ⟨hk.2, hk.1.1⟩⟩); have n5_ := rsm (fun k_ => some k_ ≠ (.slice Ao21 t986.length co21 : Value).ownBlock ∧ some k_ ≠ (.slice Ao22 t989.length co22 : Value).ownBlock ∧ some k_ ≠ (.slice Ao70 t1019.length co70 : Value).ownBlock) HO1024 hw (fun _ hk => ⟨hk.1.2, ⟨hk.2, hk.1.1⟩⟩); have n6_ : Aside0 (w72.heap[gb993]? = some (.cells #[.int .i64 t982, .slice Ao20 t983.length co20, .slice Ao21 t986.length co21, .slice Ao22 t989.length co22] 27 (0, 0))) := ⟨(by rw [hw]; exact (bx BK993.out))⟩; have n7_ := sps #[.int .i64 t1015, .slice Ao69 t1016.length co69, .slice Ao70 t1019.length co70, .slice Ao71 t1022.length co71] BK1026 hw (.p (.p (.p (.p .nil)))); have n8_ := bhw HB hw; clear hw HO_994001 HO_994002 HO_994003 HO1018 HO1021 HO1024 BK993 BK1026 HB; have HO_994001 := n0_; have HO_994002 := n1_; have HO_994003 := n2_; have HO1018 := n3_; have HO1021 := n4_; have HO1024 := n5_; have BK993 := n6_; have BK1026 := n7_; have HB := n8_; clear n0_ n1_ n2_ n3_ n4_ n5_ n6_ n7_ n8_) | ((with_reducible refine gate_callee (f := 38) rfl ?_); refine gL 103 Tryz.func38 #[.int .i64 x14_4] ?_; (with_reducible refine (peristyleref16_May.calls x14_4 t1027 _ A62.out).mono ?_); rintro e w' ⟨rfl, ⟨nd, rfl⟩⟩; refine ⟨_, rfl, ?_⟩))
              go_ret
              exact ⟨er, bh HB.out⟩
             ·have c63b0 : ((t1025 == 0) != t1027) = false := by simpa using c63
              ((have c63b1 : decide ((t1025 == 0) = t1027) = true := by simpa using c63))
              ((have c63b2 : ((t1025 == 0) == t1027) = true := by simpa using c63))
              clear c63
              replace H := ife H
              rcases H with ⟨-, -, c73b1, H⟩ | ⟨c73, -, c73b1, H⟩
              ·replace H := bd H
               obtain ⟨t1028, A74, H⟩ := H
               replace H := ifb H
               rcases H with ⟨rfl, H⟩ | ⟨rfl, H⟩
               ·have H' := Aside0.mk H
                clear H
                obtain ⟨hcz76_0, hcz76_1, hcz76_2, hcz76_3, hfz76_0, hfz76_1, hfz76_2, hfz76_3⟩ := b4 BK993
                go_wp2_with (first | ((with_reducible refine gate_callee (f := 37) rfl ?_); refine gL 97 Tryz.func37 #[.agg #[.int .i64 t982, .slice Ao20 t983.length co20, .slice Ao21 t986.length co21, .slice Ao22 t989.length co22], .int .i64 x14_4] ?_; (with_reducible refine (poslist_List_As.calls k4 t982 _ _ t983 _ _ t986 _ _ t989 x14_4 t1015 t1016 t1019 t1022 t1025 _ ?side1 ?side2 ?side3 ?side4 ?side5 ?side6 A61.out).mono ?_); (case side1 => exact cx (Kd.R_reads' HO_994001.out).2.2); (case side2 => exact (Kd.R_reads' HO_994001.out).2.1); (case side3 => exact cx (Kd.R_reads' HO_994002.out).2.2); (case side4 => exact (Kd.R_reads' HO_994002.out).2.1); (case side5 => exact cx (Kd.R_reads' HO_994003.out).2.2); (case side6 => exact (Kd.R_reads' HO_994003.out).2.1); rintro e w77 ⟨v1017, v1020, v1023, rfl, ho0, ho1, ho2, hb⟩; refine ⟨_, rfl, ?_⟩; have HO1018 := Aside0.mk (Kd.R_lower (Kd.R_new' ho0 (Kd.R_lt (rx HO_994001.out))) (below_size (bh HB.out))); replace HO_994001 := Aside0.mk (Kd.R_elder' (rx HO_994001.out) (Kd.R_base ho0) hb); have HO1021 := Aside0.mk (Kd.R_lower (Kd.R_new' (Kd.R_new' ho1 (Kd.R_lt (rx HO_994002.out))) (Kd.R_lt (rx HO_994003.out))) (below_size (bh HB.out))); have HO1024 := Aside0.mk (Kd.R_lower (Kd.R_new' (Kd.R_new' ho2 (Kd.R_lt (rx HO_994002.out))) (Kd.R_lt (rx HO_994003.out))) (below_size (bh HB.out))); replace HO_994002 := Aside0.mk (Kd.R_mono (Kd.R_told (Kd.R_told (Kd.R_old (rx HO_994002.out) hb) (Kd.R_base ho1)) (Kd.R_base ho2)) (fun _ h_ => h_.1)); replace HO_994003 := Aside0.mk (Kd.R_mono (Kd.R_told (Kd.R_told (Kd.R_old (rx HO_994003.out) hb) (Kd.R_base ho1)) (Kd.R_base ho2)) (fun _ h_ => h_.1)); replace BK993 := bba BK993 hb; replace HB := bsa HB hb; clear hb ho0 ho1 ho2) | ((with_reducible refine gate_dst (N := 15) rfl ?_); refine box_event ?hg (N := 15) ?hd (cs := #[.int .i64 0, .slice none 0 0, .slice none 0 0, .slice none 0 0]) (t := 27) ?hr ?_; (case hd => rfl); (case hg => rfl); (case hr => (go_simp; done)); intro gb1026 hg w78 hbox hb; replace HO_994001 := rba HO_994001 hb; replace HO_994002 := rba HO_994002 hb; replace HO_994003 := rba HO_994003 hb; replace HO1018 := rba HO1018 hb; replace HO1021 := rba HO1021 hb; replace HO1024 := rba HO1024 hb; have BK1026 := Aside0.mk (hbox); have GW1026 := bza HB hg; have GE1026 := bza HB hg; replace HB := bsa HB hb; obtain ⟨NB993_1026, NB1026_993⟩ := bnm BK993 hg; replace BK993 := bba BK993 hb; clear hb hbox hg; have hnb79 := NB1026_993.out; have hnc79 := NB993_1026.out; obtain ⟨hcz80_0, hcz80_1, hcz80_2, hcz80_3, hfz80_0, hfz80_1, hfz80_2, hfz80_3⟩ := b4 BK1026; obtain ⟨Ao81, co81, eo81⟩ := Kd.R_slice HO1018.out; subst eo81; obtain ⟨Ao82, co82, eo82⟩ := Kd.R_slice HO1021.out; subst eo82; obtain ⟨Ao83, co83, eo83⟩ := Kd.R_slice HO1024.out; subst eo83) | ((with_reducible refine gate_store (t := 27) (p := 15) rfl ?_); refine stE 27 15 ((((w78.setCell ⟨gb1026, 0, none⟩ (.int .i64 t1015)).setCell ⟨gb1026, 1, none⟩ (.slice Ao81 t1016.length co81)).setCell ⟨gb1026, 2, none⟩ (.slice Ao82 t1019.length co82)).setCell ⟨gb1026, 3, none⟩ (.slice Ao83 t1022.length co83)) ?_; intro w84 hw; have n0_ := rsm (fun k_ => some k_ ≠ (.slice Ao81 t1016.length co81 : Value).ownBlock) HO_994001 hw (fun _ hk => hk.2); have n1_ := rsm (fun k_ => some k_ ≠ (.slice Ao22 t989.length co22 : Value).ownBlock ∧ some k_ ≠ (.slice Ao82 t1019.length co82 : Value).ownBlock ∧ some k_ ≠ (.slice Ao83 t1022.length co83 : Value).ownBlock) HO_994002 hw (fun _ hk => ⟨hk.1.1, ⟨hk.1.2, hk.2⟩⟩); have n2_ := rsm (fun k_ => some k_ ≠ (.slice Ao21 t986.length co21 : Value).ownBlock ∧ some k_ ≠ (.slice Ao82 t1019.length co82 : Value).ownBlock ∧ some k_ ≠ (.slice Ao83 t1022.length co83 : Value).ownBlock) HO_994003 hw (fun _ hk => ⟨hk.1.1, ⟨hk.1.2, hk.2⟩⟩); have n3_ := rsm (fun k_ => some k_ ≠ (.slice Ao20 t983.length co20 : Value).ownBlock) HO1018 hw (fun _ hk => hk.2); have n4_ := rsm (fun k_ => some k_ ≠ (.slice Ao21 t986.length co21 : Value).ownBlock ∧ some k_ ≠ (.slice Ao22 t989.length co22 : Value).ownBlock ∧ some k_ ≠ (.slice Ao83 t1022.length co83 : Value).ownBlock) HO1021 hw (fun _ hk => ⟨hk.1.2, ⟨hk.2, hk.1.1⟩⟩); have n5_ := rsm (fun k_ => some k_ ≠ (.slice Ao21 t986.length co21 : Value).ownBlock ∧ some k_ ≠ (.slice Ao22 t989.length co22 : Value).ownBlock ∧ some k_ ≠ (.slice Ao82 t1019.length co82 : Value).ownBlock) HO1024 hw (fun _ hk => ⟨hk.1.2, ⟨hk.2, hk.1.1⟩⟩); have n6_ : Aside0 (w84.heap[gb993]? = some (.cells #[.int .i64 t982, .slice Ao20 t983.length co20, .slice Ao21 t986.length co21, .slice Ao22 t989.length co22] 27 (0, 0))) := ⟨(by rw [hw]; exact (bx BK993.out))⟩; have n7_ := sps #[.int .i64 t1015, .slice Ao81 t1016.length co81, .slice Ao82 t1019.length co82, .slice Ao83 t1022.length co83] BK1026 hw (.p (.p (.p (.p .nil)))); have n8_ := bhw HB hw; clear hw HO_994001 HO_994002 HO_994003 HO1018 HO1021 HO1024 BK993 BK1026 HB; have HO_994001 := n0_; have HO_994002 := n1_; have HO_994003 := n2_; have HO1018 := n3_; have HO1021 := n4_; have HO1024 := n5_; have BK993 := n6_; have BK1026 := n7_; have HB := n8_; clear n0_ n1_ n2_ n3_ n4_ n5_ n6_ n7_ n8_) | ((with_reducible refine gate_callee (f := 38) rfl ?_); refine gL 103 Tryz.func38 #[.int .i64 x14_4] ?_; (with_reducible refine (peristyleref16_May.calls x14_4 t1027 _ A62.out).mono ?_); rintro e w' ⟨rfl, ⟨nd, rfl⟩⟩; refine ⟨_, rfl, ?_⟩; obtain ⟨hcz85_0, hcz85_1, hcz85_2, hcz85_3, hfz85_0, hfz85_1, hfz85_2, hfz85_3⟩ := b4 BK1026) | (go_at_call 13; (with_reducible refine (peristylelaw16_is.calls k4 t1015 _ _ t1016 _ _ t1019 _ _ t1022 _ _ l0 x14_4 true _ ?side1 ?side2 ?side3 ?side4 ?side5 ?side6 ?side7 ?side8 A74.out).mono ?_); (case side1 => exact cx (Kd.R_reads' HO1018.out).2.2); (case side2 => exact (Kd.R_reads' HO1018.out).2.1); (case side3 => exact cx (Kd.R_reads' HO1021.out).2.2); (case side4 => exact (Kd.R_reads' HO1021.out).2.1); (case side5 => exact cx (Kd.R_reads' HO1024.out).2.2); (case side6 => exact (Kd.R_reads' HO1024.out).2.1); (case side7 => repeat (exact (Kd.C_below HR0.out (bh HB.out)))); (case side8 => exact HC0.out); rintro e w86 ⟨rfl, hb⟩; replace HO_994001 := rba HO_994001 hb; replace HO_994002 := rba HO_994002 hb; replace HO_994003 := rba HO_994003 hb; replace HO1018 := rba HO1018 hb; replace HO1021 := rba HO1021 hb; replace HO1024 := rba HO1024 hb; replace BK993 := bba BK993 hb; replace BK1026 := bba BK1026 hb; replace HB := bsa HB hb; clear hb A74))
                go_roundg k4
                case measure => have := HJ3.out; have := HK2.out; have := HJ15.out; have := HK4.out; omega
                case rel => exact ⟨(wrap64 (x14_4 + 1)), (by rfl), H', ⟨by have := HJ3.out; have := HK2.out; have := HJ15.out; have := HK4.out; omega⟩, ⟨by exact Kd.R_mono HO_994001.out (fun _ hk => trivial)⟩, ⟨by exact Kd.R_mono HO_994002.out (fun _ hk => hk.1)⟩, ⟨by exact Kd.R_mono HO_994003.out (fun _ hk => hk.1)⟩, ⟨bx BK993.out⟩, ⟨bh HB.out⟩⟩
                all_goals (exfalso; simp at c73b1; contradiction)
               ·obtain rfl := Option.some.inj H
                obtain ⟨hcz87_0, hcz87_1, hcz87_2, hcz87_3, hfz87_0, hfz87_1, hfz87_2, hfz87_3⟩ := b4 BK993
                go_wp2_with (first | ((with_reducible refine gate_callee (f := 37) rfl ?_); refine gL 97 Tryz.func37 #[.agg #[.int .i64 t982, .slice Ao20 t983.length co20, .slice Ao21 t986.length co21, .slice Ao22 t989.length co22], .int .i64 x14_4] ?_; (with_reducible refine (poslist_List_As.calls k4 t982 _ _ t983 _ _ t986 _ _ t989 x14_4 t1015 t1016 t1019 t1022 t1025 _ ?side1 ?side2 ?side3 ?side4 ?side5 ?side6 A61.out).mono ?_); (case side1 => exact cx (Kd.R_reads' HO_994001.out).2.2); (case side2 => exact (Kd.R_reads' HO_994001.out).2.1); (case side3 => exact cx (Kd.R_reads' HO_994002.out).2.2); (case side4 => exact (Kd.R_reads' HO_994002.out).2.1); (case side5 => exact cx (Kd.R_reads' HO_994003.out).2.2); (case side6 => exact (Kd.R_reads' HO_994003.out).2.1); rintro e w88 ⟨v1017, v1020, v1023, rfl, ho0, ho1, ho2, hb⟩; refine ⟨_, rfl, ?_⟩; have HO1018 := Aside0.mk (Kd.R_lower (Kd.R_new' ho0 (Kd.R_lt (rx HO_994001.out))) (below_size (bh HB.out))); replace HO_994001 := Aside0.mk (Kd.R_elder' (rx HO_994001.out) (Kd.R_base ho0) hb); have HO1021 := Aside0.mk (Kd.R_lower (Kd.R_new' (Kd.R_new' ho1 (Kd.R_lt (rx HO_994002.out))) (Kd.R_lt (rx HO_994003.out))) (below_size (bh HB.out))); have HO1024 := Aside0.mk (Kd.R_lower (Kd.R_new' (Kd.R_new' ho2 (Kd.R_lt (rx HO_994002.out))) (Kd.R_lt (rx HO_994003.out))) (below_size (bh HB.out))); replace HO_994002 := Aside0.mk (Kd.R_mono (Kd.R_told (Kd.R_told (Kd.R_old (rx HO_994002.out) hb) (Kd.R_base ho1)) (Kd.R_base ho2)) (fun _ h_ => h_.1)); replace HO_994003 := Aside0.mk (Kd.R_mono (Kd.R_told (Kd.R_told (Kd.R_old (rx HO_994003.out) hb) (Kd.R_base ho1)) (Kd.R_base ho2)) (fun _ h_ => h_.1)); replace BK993 := bba BK993 hb; replace HB := bsa HB hb; clear hb ho0 ho1 ho2) | ((with_reducible refine gate_dst (N := 15) rfl ?_); refine box_event ?hg (N := 15) ?hd (cs := #[.int .i64 0, .slice none 0 0, .slice none 0 0, .slice none 0 0]) (t := 27) ?hr ?_; (case hd => rfl); (case hg => rfl); (case hr => (go_simp; done)); intro gb1026 hg w89 hbox hb; replace HO_994001 := rba HO_994001 hb; replace HO_994002 := rba HO_994002 hb; replace HO_994003 := rba HO_994003 hb; replace HO1018 := rba HO1018 hb; replace HO1021 := rba HO1021 hb; replace HO1024 := rba HO1024 hb; have BK1026 := Aside0.mk (hbox); have GW1026 := bza HB hg; have GE1026 := bza HB hg; replace HB := bsa HB hb; obtain ⟨NB993_1026, NB1026_993⟩ := bnm BK993 hg; replace BK993 := bba BK993 hb; clear hb hbox hg; have hnb90 := NB1026_993.out; have hnc90 := NB993_1026.out; obtain ⟨hcz91_0, hcz91_1, hcz91_2, hcz91_3, hfz91_0, hfz91_1, hfz91_2, hfz91_3⟩ := b4 BK1026; obtain ⟨Ao92, co92, eo92⟩ := Kd.R_slice HO1018.out; subst eo92; obtain ⟨Ao93, co93, eo93⟩ := Kd.R_slice HO1021.out; subst eo93; obtain ⟨Ao94, co94, eo94⟩ := Kd.R_slice HO1024.out; subst eo94) | ((with_reducible refine gate_store (t := 27) (p := 15) rfl ?_); refine stE 27 15 ((((w89.setCell ⟨gb1026, 0, none⟩ (.int .i64 t1015)).setCell ⟨gb1026, 1, none⟩ (.slice Ao92 t1016.length co92)).setCell ⟨gb1026, 2, none⟩ (.slice Ao93 t1019.length co93)).setCell ⟨gb1026, 3, none⟩ (.slice Ao94 t1022.length co94)) ?_; intro w95 hw; have n0_ := rsm (fun k_ => some k_ ≠ (.slice Ao92 t1016.length co92 : Value).ownBlock) HO_994001 hw (fun _ hk => hk.2); have n1_ := rsm (fun k_ => some k_ ≠ (.slice Ao22 t989.length co22 : Value).ownBlock ∧ some k_ ≠ (.slice Ao93 t1019.length co93 : Value).ownBlock ∧ some k_ ≠ (.slice Ao94 t1022.length co94 : Value).ownBlock) HO_994002 hw (fun _ hk => ⟨hk.1.1, ⟨hk.1.2, hk.2⟩⟩); have n2_ := rsm (fun k_ => some k_ ≠ (.slice Ao21 t986.length co21 : Value).ownBlock ∧ some k_ ≠ (.slice Ao93 t1019.length co93 : Value).ownBlock ∧ some k_ ≠ (.slice Ao94 t1022.length co94 : Value).ownBlock) HO_994003 hw (fun _ hk => ⟨hk.1.1, ⟨hk.1.2, hk.2⟩⟩); have n3_ := rsm (fun k_ => some k_ ≠ (.slice Ao20 t983.length co20 : Value).ownBlock) HO1018 hw (fun _ hk => hk.2); have n4_ := rsm (fun k_ => some k_ ≠ (.slice Ao21 t986.length co21 : Value).ownBlock ∧ some k_ ≠ (.slice Ao22 t989.length co22 : Value).ownBlock ∧ some k_ ≠ (.slice Ao94 t1022.length co94 : Value).ownBlock) HO1021 hw (fun _ hk => ⟨hk.1.2, ⟨hk.2, hk.1.1⟩⟩); have n5_ := rsm (fun k_ => some k_ ≠ (.slice Ao21 t986.length co21 : Value).ownBlock ∧ some k_ ≠ (.slice Ao22 t989.length co22 : Value).ownBlock ∧ some k_ ≠ (.slice Ao93 t1019.length co93 : Value).ownBlock) HO1024 hw (fun _ hk => ⟨hk.1.2, ⟨hk.2, hk.1.1⟩⟩); have n6_ : Aside0 (w95.heap[gb993]? = some (.cells #[.int .i64 t982, .slice Ao20 t983.length co20, .slice Ao21 t986.length co21, .slice Ao22 t989.length co22] 27 (0, 0))) := ⟨(by rw [hw]; exact (bx BK993.out))⟩; have n7_ := sps #[.int .i64 t1015, .slice Ao92 t1016.length co92, .slice Ao93 t1019.length co93, .slice Ao94 t1022.length co94] BK1026 hw (.p (.p (.p (.p .nil)))); have n8_ := bhw HB hw; clear hw HO_994001 HO_994002 HO_994003 HO1018 HO1021 HO1024 BK993 BK1026 HB; have HO_994001 := n0_; have HO_994002 := n1_; have HO_994003 := n2_; have HO1018 := n3_; have HO1021 := n4_; have HO1024 := n5_; have BK993 := n6_; have BK1026 := n7_; have HB := n8_; clear n0_ n1_ n2_ n3_ n4_ n5_ n6_ n7_ n8_) | ((with_reducible refine gate_callee (f := 38) rfl ?_); refine gL 103 Tryz.func38 #[.int .i64 x14_4] ?_; (with_reducible refine (peristyleref16_May.calls x14_4 t1027 _ A62.out).mono ?_); rintro e w' ⟨rfl, ⟨nd, rfl⟩⟩; refine ⟨_, rfl, ?_⟩; obtain ⟨hcz96_0, hcz96_1, hcz96_2, hcz96_3, hfz96_0, hfz96_1, hfz96_2, hfz96_3⟩ := b4 BK1026) | (go_at_call 13; (with_reducible refine (peristylelaw16_is.calls k4 t1015 _ _ t1016 _ _ t1019 _ _ t1022 _ _ l0 x14_4 false _ ?side1 ?side2 ?side3 ?side4 ?side5 ?side6 ?side7 ?side8 A74.out).mono ?_); (case side1 => exact cx (Kd.R_reads' HO1018.out).2.2); (case side2 => exact (Kd.R_reads' HO1018.out).2.1); (case side3 => exact cx (Kd.R_reads' HO1021.out).2.2); (case side4 => exact (Kd.R_reads' HO1021.out).2.1); (case side5 => exact cx (Kd.R_reads' HO1024.out).2.2); (case side6 => exact (Kd.R_reads' HO1024.out).2.1); (case side7 => repeat (exact (Kd.C_below HR0.out (bh HB.out)))); (case side8 => exact HC0.out); rintro e w97 ⟨rfl, hb⟩; replace HO_994001 := rba HO_994001 hb; replace HO_994002 := rba HO_994002 hb; replace HO_994003 := rba HO_994003 hb; replace HO1018 := rba HO1018 hb; replace HO1021 := rba HO1021 hb; replace HO1024 := rba HO1024 hb; replace BK993 := bba BK993 hb; replace BK1026 := bba BK1026 hb; replace HB := bsa HB hb; clear hb A74))
                go_ret
                exact ⟨er, bh HB.out⟩
                all_goals (exfalso; simp at c73b1; contradiction)
              ·replace H := ife H
               rcases H with ⟨-, c98b0, c98b1, H⟩ | ⟨c98, c98b0, c98b1, H⟩
               ·have H' := Aside0.mk H
                clear H
                obtain ⟨hcz99_0, hcz99_1, hcz99_2, hcz99_3, hfz99_0, hfz99_1, hfz99_2, hfz99_3⟩ := b4 BK993
                go_wp2_with (first | ((with_reducible refine gate_callee (f := 37) rfl ?_); refine gL 97 Tryz.func37 #[.agg #[.int .i64 t982, .slice Ao20 t983.length co20, .slice Ao21 t986.length co21, .slice Ao22 t989.length co22], .int .i64 x14_4] ?_; (with_reducible refine (poslist_List_As.calls k4 t982 _ _ t983 _ _ t986 _ _ t989 x14_4 t1015 t1016 t1019 t1022 t1025 _ ?side1 ?side2 ?side3 ?side4 ?side5 ?side6 A61.out).mono ?_); (case side1 => exact cx (Kd.R_reads' HO_994001.out).2.2); (case side2 => exact (Kd.R_reads' HO_994001.out).2.1); (case side3 => exact cx (Kd.R_reads' HO_994002.out).2.2); (case side4 => exact (Kd.R_reads' HO_994002.out).2.1); (case side5 => exact cx (Kd.R_reads' HO_994003.out).2.2); (case side6 => exact (Kd.R_reads' HO_994003.out).2.1); rintro e w100 ⟨v1017, v1020, v1023, rfl, ho0, ho1, ho2, hb⟩; refine ⟨_, rfl, ?_⟩; have HO1018 := Aside0.mk (Kd.R_lower (Kd.R_new' ho0 (Kd.R_lt (rx HO_994001.out))) (below_size (bh HB.out))); replace HO_994001 := Aside0.mk (Kd.R_elder' (rx HO_994001.out) (Kd.R_base ho0) hb); have HO1021 := Aside0.mk (Kd.R_lower (Kd.R_new' (Kd.R_new' ho1 (Kd.R_lt (rx HO_994002.out))) (Kd.R_lt (rx HO_994003.out))) (below_size (bh HB.out))); have HO1024 := Aside0.mk (Kd.R_lower (Kd.R_new' (Kd.R_new' ho2 (Kd.R_lt (rx HO_994002.out))) (Kd.R_lt (rx HO_994003.out))) (below_size (bh HB.out))); replace HO_994002 := Aside0.mk (Kd.R_mono (Kd.R_told (Kd.R_told (Kd.R_old (rx HO_994002.out) hb) (Kd.R_base ho1)) (Kd.R_base ho2)) (fun _ h_ => h_.1)); replace HO_994003 := Aside0.mk (Kd.R_mono (Kd.R_told (Kd.R_told (Kd.R_old (rx HO_994003.out) hb) (Kd.R_base ho1)) (Kd.R_base ho2)) (fun _ h_ => h_.1)); replace BK993 := bba BK993 hb; replace HB := bsa HB hb; clear hb ho0 ho1 ho2) | ((with_reducible refine gate_dst (N := 15) rfl ?_); refine box_event ?hg (N := 15) ?hd (cs := #[.int .i64 0, .slice none 0 0, .slice none 0 0, .slice none 0 0]) (t := 27) ?hr ?_; (case hd => rfl); (case hg => rfl); (case hr => (go_simp; done)); intro gb1026 hg w101 hbox hb; replace HO_994001 := rba HO_994001 hb; replace HO_994002 := rba HO_994002 hb; replace HO_994003 := rba HO_994003 hb; replace HO1018 := rba HO1018 hb; replace HO1021 := rba HO1021 hb; replace HO1024 := rba HO1024 hb; have BK1026 := Aside0.mk (hbox); have GW1026 := bza HB hg; have GE1026 := bza HB hg; replace HB := bsa HB hb; obtain ⟨NB993_1026, NB1026_993⟩ := bnm BK993 hg; replace BK993 := bba BK993 hb; clear hb hbox hg; have hnb102 := NB1026_993.out; have hnc102 := NB993_1026.out; obtain ⟨hcz103_0, hcz103_1, hcz103_2, hcz103_3, hfz103_0, hfz103_1, hfz103_2, hfz103_3⟩ := b4 BK1026; obtain ⟨Ao104, co104, eo104⟩ := Kd.R_slice HO1018.out; subst eo104; obtain ⟨Ao105, co105, eo105⟩ := Kd.R_slice HO1021.out; subst eo105; obtain ⟨Ao106, co106, eo106⟩ := Kd.R_slice HO1024.out; subst eo106) | ((with_reducible refine gate_store (t := 27) (p := 15) rfl ?_); refine stE 27 15 ((((w101.setCell ⟨gb1026, 0, none⟩ (.int .i64 t1015)).setCell ⟨gb1026, 1, none⟩ (.slice Ao104 t1016.length co104)).setCell ⟨gb1026, 2, none⟩ (.slice Ao105 t1019.length co105)).setCell ⟨gb1026, 3, none⟩ (.slice Ao106 t1022.length co106)) ?_; intro w107 hw; have n0_ := rsm (fun k_ => some k_ ≠ (.slice Ao104 t1016.length co104 : Value).ownBlock) HO_994001 hw (fun _ hk => hk.2); have n1_ := rsm (fun k_ => some k_ ≠ (.slice Ao22 t989.length co22 : Value).ownBlock ∧ some k_ ≠ (.slice Ao105 t1019.length co105 : Value).ownBlock ∧ some k_ ≠ (.slice Ao106 t1022.length co106 : Value).ownBlock) HO_994002 hw (fun _ hk => ⟨hk.1.1, ⟨hk.1.2, hk.2⟩⟩); have n2_ := rsm (fun k_ => some k_ ≠ (.slice Ao21 t986.length co21 : Value).ownBlock ∧ some k_ ≠ (.slice Ao105 t1019.length co105 : Value).ownBlock ∧ some k_ ≠ (.slice Ao106 t1022.length co106 : Value).ownBlock) HO_994003 hw (fun _ hk => ⟨hk.1.1, ⟨hk.1.2, hk.2⟩⟩); have n3_ := rsm (fun k_ => some k_ ≠ (.slice Ao20 t983.length co20 : Value).ownBlock) HO1018 hw (fun _ hk => hk.2); have n4_ := rsm (fun k_ => some k_ ≠ (.slice Ao21 t986.length co21 : Value).ownBlock ∧ some k_ ≠ (.slice Ao22 t989.length co22 : Value).ownBlock ∧ some k_ ≠ (.slice Ao106 t1022.length co106 : Value).ownBlock) HO1021 hw (fun _ hk => ⟨hk.1.2, ⟨hk.2, hk.1.1⟩⟩); have n5_ := rsm (fun k_ => some k_ ≠ (.slice Ao21 t986.length co21 : Value).ownBlock ∧ some k_ ≠ (.slice Ao22 t989.length co22 : Value).ownBlock ∧ some k_ ≠ (.slice Ao105 t1019.length co105 : Value).ownBlock) HO1024 hw (fun _ hk => ⟨hk.1.2, ⟨hk.2, hk.1.1⟩⟩); have n6_ : Aside0 (w107.heap[gb993]? = some (.cells #[.int .i64 t982, .slice Ao20 t983.length co20, .slice Ao21 t986.length co21, .slice Ao22 t989.length co22] 27 (0, 0))) := ⟨(by rw [hw]; exact (bx BK993.out))⟩; have n7_ := sps #[.int .i64 t1015, .slice Ao104 t1016.length co104, .slice Ao105 t1019.length co105, .slice Ao106 t1022.length co106] BK1026 hw (.p (.p (.p (.p .nil)))); have n8_ := bhw HB hw; clear hw HO_994001 HO_994002 HO_994003 HO1018 HO1021 HO1024 BK993 BK1026 HB; have HO_994001 := n0_; have HO_994002 := n1_; have HO_994003 := n2_; have HO1018 := n3_; have HO1021 := n4_; have HO1024 := n5_; have BK993 := n6_; have BK1026 := n7_; have HB := n8_; clear n0_ n1_ n2_ n3_ n4_ n5_ n6_ n7_ n8_) | ((with_reducible refine gate_callee (f := 38) rfl ?_); refine gL 103 Tryz.func38 #[.int .i64 x14_4] ?_; (with_reducible refine (peristyleref16_May.calls x14_4 t1027 _ A62.out).mono ?_); rintro e w' ⟨rfl, ⟨nd, rfl⟩⟩; refine ⟨_, rfl, ?_⟩))
                go_roundg k4
                case measure => have := HJ3.out; have := HK2.out; have := HJ15.out; have := HK4.out; omega
                case rel => exact ⟨(wrap64 (x14_4 + 1)), (by rfl), H', ⟨by have := HJ3.out; have := HK2.out; have := HJ15.out; have := HK4.out; omega⟩, ⟨by (with_reducible repeat (apply Kd.R_drewN)); exact Kd.R_mono HO_994001.out (fun _ hk => trivial)⟩, ⟨by (with_reducible repeat (apply Kd.R_drewN)); exact Kd.R_mono HO_994002.out (fun _ hk => hk.1)⟩, ⟨by (with_reducible repeat (apply Kd.R_drewN)); exact Kd.R_mono HO_994003.out (fun _ hk => hk.1)⟩, ⟨bx BK993.out⟩, ⟨bh HB.out⟩⟩
               ·obtain rfl := Option.some.inj H
                obtain ⟨hcz108_0, hcz108_1, hcz108_2, hcz108_3, hfz108_0, hfz108_1, hfz108_2, hfz108_3⟩ := b4 BK993
                go_wp2_with (first | ((with_reducible refine gate_callee (f := 37) rfl ?_); refine gL 97 Tryz.func37 #[.agg #[.int .i64 t982, .slice Ao20 t983.length co20, .slice Ao21 t986.length co21, .slice Ao22 t989.length co22], .int .i64 x14_4] ?_; (with_reducible refine (poslist_List_As.calls k4 t982 _ _ t983 _ _ t986 _ _ t989 x14_4 t1015 t1016 t1019 t1022 t1025 _ ?side1 ?side2 ?side3 ?side4 ?side5 ?side6 A61.out).mono ?_); (case side1 => exact cx (Kd.R_reads' HO_994001.out).2.2); (case side2 => exact (Kd.R_reads' HO_994001.out).2.1); (case side3 => exact cx (Kd.R_reads' HO_994002.out).2.2); (case side4 => exact (Kd.R_reads' HO_994002.out).2.1); (case side5 => exact cx (Kd.R_reads' HO_994003.out).2.2); (case side6 => exact (Kd.R_reads' HO_994003.out).2.1); rintro e w109 ⟨v1017, v1020, v1023, rfl, ho0, ho1, ho2, hb⟩; refine ⟨_, rfl, ?_⟩; have HO1018 := Aside0.mk (Kd.R_lower (Kd.R_new' ho0 (Kd.R_lt (rx HO_994001.out))) (below_size (bh HB.out))); replace HO_994001 := Aside0.mk (Kd.R_elder' (rx HO_994001.out) (Kd.R_base ho0) hb); have HO1021 := Aside0.mk (Kd.R_lower (Kd.R_new' (Kd.R_new' ho1 (Kd.R_lt (rx HO_994002.out))) (Kd.R_lt (rx HO_994003.out))) (below_size (bh HB.out))); have HO1024 := Aside0.mk (Kd.R_lower (Kd.R_new' (Kd.R_new' ho2 (Kd.R_lt (rx HO_994002.out))) (Kd.R_lt (rx HO_994003.out))) (below_size (bh HB.out))); replace HO_994002 := Aside0.mk (Kd.R_mono (Kd.R_told (Kd.R_told (Kd.R_old (rx HO_994002.out) hb) (Kd.R_base ho1)) (Kd.R_base ho2)) (fun _ h_ => h_.1)); replace HO_994003 := Aside0.mk (Kd.R_mono (Kd.R_told (Kd.R_told (Kd.R_old (rx HO_994003.out) hb) (Kd.R_base ho1)) (Kd.R_base ho2)) (fun _ h_ => h_.1)); replace BK993 := bba BK993 hb; replace HB := bsa HB hb; clear hb ho0 ho1 ho2) | ((with_reducible refine gate_dst (N := 15) rfl ?_); refine box_event ?hg (N := 15) ?hd (cs := #[.int .i64 0, .slice none 0 0, .slice none 0 0, .slice none 0 0]) (t := 27) ?hr ?_; (case hd => rfl); (case hg => rfl); (case hr => (go_simp; done)); intro gb1026 hg w110 hbox hb; replace HO_994001 := rba HO_994001 hb; replace HO_994002 := rba HO_994002 hb; replace HO_994003 := rba HO_994003 hb; replace HO1018 := rba HO1018 hb; replace HO1021 := rba HO1021 hb; replace HO1024 := rba HO1024 hb; have BK1026 := Aside0.mk (hbox); have GW1026 := bza HB hg; have GE1026 := bza HB hg; replace HB := bsa HB hb; obtain ⟨NB993_1026, NB1026_993⟩ := bnm BK993 hg; replace BK993 := bba BK993 hb; clear hb hbox hg; have hnb111 := NB1026_993.out; have hnc111 := NB993_1026.out; obtain ⟨hcz112_0, hcz112_1, hcz112_2, hcz112_3, hfz112_0, hfz112_1, hfz112_2, hfz112_3⟩ := b4 BK1026; obtain ⟨Ao113, co113, eo113⟩ := Kd.R_slice HO1018.out; subst eo113; obtain ⟨Ao114, co114, eo114⟩ := Kd.R_slice HO1021.out; subst eo114; obtain ⟨Ao115, co115, eo115⟩ := Kd.R_slice HO1024.out; subst eo115) | ((with_reducible refine gate_store (t := 27) (p := 15) rfl ?_); refine stE 27 15 ((((w110.setCell ⟨gb1026, 0, none⟩ (.int .i64 t1015)).setCell ⟨gb1026, 1, none⟩ (.slice Ao113 t1016.length co113)).setCell ⟨gb1026, 2, none⟩ (.slice Ao114 t1019.length co114)).setCell ⟨gb1026, 3, none⟩ (.slice Ao115 t1022.length co115)) ?_; intro w116 hw; have n0_ := rsm (fun k_ => some k_ ≠ (.slice Ao113 t1016.length co113 : Value).ownBlock) HO_994001 hw (fun _ hk => hk.2); have n1_ := rsm (fun k_ => some k_ ≠ (.slice Ao22 t989.length co22 : Value).ownBlock ∧ some k_ ≠ (.slice Ao114 t1019.length co114 : Value).ownBlock ∧ some k_ ≠ (.slice Ao115 t1022.length co115 : Value).ownBlock) HO_994002 hw (fun _ hk => ⟨hk.1.1, ⟨hk.1.2, hk.2⟩⟩); have n2_ := rsm (fun k_ => some k_ ≠ (.slice Ao21 t986.length co21 : Value).ownBlock ∧ some k_ ≠ (.slice Ao114 t1019.length co114 : Value).ownBlock ∧ some k_ ≠ (.slice Ao115 t1022.length co115 : Value).ownBlock) HO_994003 hw (fun _ hk => ⟨hk.1.1, ⟨hk.1.2, hk.2⟩⟩); have n3_ := rsm (fun k_ => some k_ ≠ (.slice Ao20 t983.length co20 : Value).ownBlock) HO1018 hw (fun _ hk => hk.2); have n4_ := rsm (fun k_ => some k_ ≠ (.slice Ao21 t986.length co21 : Value).ownBlock ∧ some k_ ≠ (.slice Ao22 t989.length co22 : Value).ownBlock ∧ some k_ ≠ (.slice Ao115 t1022.length co115 : Value).ownBlock) HO1021 hw (fun _ hk => ⟨hk.1.2, ⟨hk.2, hk.1.1⟩⟩); have n5_ := rsm (fun k_ => some k_ ≠ (.slice Ao21 t986.length co21 : Value).ownBlock ∧ some k_ ≠ (.slice Ao22 t989.length co22 : Value).ownBlock ∧ some k_ ≠ (.slice Ao114 t1019.length co114 : Value).ownBlock) HO1024 hw (fun _ hk => ⟨hk.1.2, ⟨hk.2, hk.1.1⟩⟩); have n6_ : Aside0 (w116.heap[gb993]? = some (.cells #[.int .i64 t982, .slice Ao20 t983.length co20, .slice Ao21 t986.length co21, .slice Ao22 t989.length co22] 27 (0, 0))) := ⟨(by rw [hw]; exact (bx BK993.out))⟩; have n7_ := sps #[.int .i64 t1015, .slice Ao113 t1016.length co113, .slice Ao114 t1019.length co114, .slice Ao115 t1022.length co115] BK1026 hw (.p (.p (.p (.p .nil)))); have n8_ := bhw HB hw; clear hw HO_994001 HO_994002 HO_994003 HO1018 HO1021 HO1024 BK993 BK1026 HB; have HO_994001 := n0_; have HO_994002 := n1_; have HO_994003 := n2_; have HO1018 := n3_; have HO1021 := n4_; have HO1024 := n5_; have BK993 := n6_; have BK1026 := n7_; have HB := n8_; clear n0_ n1_ n2_ n3_ n4_ n5_ n6_ n7_ n8_) | ((with_reducible refine gate_callee (f := 38) rfl ?_); refine gL 103 Tryz.func38 #[.int .i64 x14_4] ?_; (with_reducible refine (peristyleref16_May.calls x14_4 t1027 _ A62.out).mono ?_); rintro e w' ⟨rfl, ⟨nd, rfl⟩⟩; refine ⟨_, rfl, ?_⟩))
                go_ret
                exact ⟨er, bh HB.out⟩
            ·have H' := Aside0.mk H
             clear H
             go_wp2
             go_roundg k4
             case measure => have := HJ3.out; have := HK2.out; have := HJ15.out; have := HK4.out; omega
             case rel => exact ⟨(wrap64 (x9_2 + 1)), (by rfl), H', ⟨by have := HJ3.out; have := HK2.out; have := HJ15.out; have := HK4.out; omega⟩, ⟨bh HB.out⟩⟩
      ·replace H := bd H
       obtain ⟨t981, A117, H⟩ := H
       obtain rfl := Option.some.inj H
       go_wp2_with (((with_reducible refine gate_callee (f := 9) rfl ?_); refine gL 125 Tryz.func9 #[] ?_; (with_reducible refine (peristylelaw16_awake.calls k2  t981 _ A117.out).mono ?_); rintro e w118 ⟨rfl, hb⟩; refine ⟨_, rfl, ?_⟩; replace HB := bsa HB hb; clear hb))
       go_ret
       exact ⟨er, bh HB.out⟩

/-- THE ONE PURE STATEMENT of peristylelaw16_PoslistTells: yours. -/
def peristylelaw16_PoslistTells.Pure : Prop := ∀ (l0 : List (S64)) (a1 : Int) (a2 : Int), (fun l : List (S64) => l.length ≤ maxLen ∧ l.length * 16 ≤ 140737488351232 ∧ ∀ x ∈ l, (fun x : S64 => (fun z : Int => (Lit.int .i64 z).wf = true) x.f0 ∧ (fun z : Int => (Lit.int .i64 z).wf = true) x.f1) x) l0 → (fun z : Int => (Lit.int .i64 z).wf = true) a1 → (fun z : Int => (Lit.int .i64 z).wf = true) a2 → ∃ k, peristylelaw16_PoslistTells.f k l0 a1 a2 = some true
theorem peristylelaw16_PoslistTells.walk (P : peristylelaw16_PoslistTells.Pure) (A0 : Option Addr) (c0 : Nat) (l0 : List (S64)) (a1 : Int) (a2 : Int) (w : World) (hr0 : Kd.C k64 w A0 l0.length l0) (hc0 : l0.length ≤ c0) (w0 : (fun l : List (S64) => l.length ≤ maxLen ∧ l.length * 16 ≤ 140737488351232 ∧ ∀ x ∈ l, (fun x : S64 => (fun z : Int => (Lit.int .i64 z).wf = true) x.f0 ∧ (fun z : Int => (Lit.int .i64 z).wf = true) x.f1) x) l0) (w1 : (fun z : Int => (Lit.int .i64 z).wf = true) a1) (w2 : (fun z : Int => (Lit.int .i64 z).wf = true) a2) :
  Calls Tryz.prog 7 #[.slice A0 l0.length c0, .int .i64 a1, .int .i64 a2] w fun e w' => e = .returned (.bool true) ∧ Below w.heap.size w w' := by
 obtain ⟨k, h⟩ := P l0 a1 a2 w0 w1 w2
 refine (peristylelaw16_PoslistTells.calls k _ _ l0 a1 a2 true w hr0 hc0 h).mono ?_
 rintro e w' ⟨rfl, hd⟩
 exact ⟨rfl, hd⟩

end Go.Proofs.YtjgmdjieandemaaGreat.Print
end
