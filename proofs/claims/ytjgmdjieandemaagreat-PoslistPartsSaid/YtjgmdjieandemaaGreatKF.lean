-- Functions and laws: texts of the session's own and of the kit's print program, joined; what nothing names is left out.
import Derived.Test.YtjgmdjieandemaaGreatKA
import Derived.Test.YtjgmdjieandemaaGreatKW
import Derived.Test.YtjgmdjieandemaaGreatKC
import Derived.Test.YtjgmdjieandemaaGreatKD
import Derived.Test.YtjgmdjieandemaaGreatKE
section
namespace Go.Proofs.YtjgmdjieandemaaGreat.Print
open Go.RowKit Go.Proofs.YtjgmdjieandemaaGreatW.PrintWords Go.Proofs.YtjgmdjieandemaaGreatW.PrintLast Go.Proofs.YtjgmdjieandemaaGreatW.PrintMore
attribute [local go_sem] max2_int min2_int max_two min_two max_three min_three max_four min_four   -- for this text's walks alone
set_option linter.unusedVariables false
set_option linter.unusedSimpArgs false
/-! ### peristylelaw16_PoslistParts: function 6 -/
def peristylelaw16_PoslistParts.j0 : Nat → List (S64) → Int → Int → Bool → Option (Bool)
 | 0, _, _, _, _ => none
 | k + 1, x0, x1, x2, x20 => if x20 = true then ((peristylelaw16_awake.f k).bind fun t642 => (some t642)) else ((poslist_Of.f k x0 (wrap64 (1 + (Int.tmod (Go.bits .and .i64 x2 255) 3)))).bind fun bt643 => ((poslist_List_Slice.f k bt643.1 bt643.2.1 bt643.2.2.1 bt643.2.2.2.1 0 (Go.bits .and .i64 x1 4095)).bind fun bt655 => ((poslist_List_Slice.f k bt643.1 bt643.2.1 bt643.2.2.1 bt643.2.2.2.1 (Go.bits .and .i64 x1 4095) 65536).bind fun bt665 => (if bt643.2.2.2.2 = 0 then ((poslist_List_Count.f k bt655.1 bt655.2.1 bt655.2.2.1 bt655.2.2.2).bind fun t678 => ((poslist_List_Count.f k bt643.1 bt643.2.1 bt643.2.2.1 bt643.2.2.2.1).bind fun t679 => (if t678 = (mn (Go.bits .and .i64 x1 4095) t679) then ((poslist_List_And.f k bt655.1 bt655.2.1 bt655.2.2.1 bt655.2.2.2 bt665.1 bt665.2.1 bt665.2.2.1 bt665.2.2.2).bind fun bt680 => ((poslist_List_Count.f k bt680.1 bt680.2.1 bt680.2.2.1 bt680.2.2.2).bind fun t690 => (if t690 = 0 then ((poslist_List_Or.f k bt655.1 bt655.2.1 bt655.2.2.1 bt655.2.2.2 bt665.1 bt665.2.1 bt665.2.2.1 bt665.2.2.2).bind fun bt691 => ((poslist_List_Spans.f k bt691.1 bt691.2.1 bt691.2.2.1 bt691.2.2.2).bind fun t701 => ((poslist_List_Spans.f k bt643.1 bt643.2.1 bt643.2.2.1 bt643.2.2.2.1).bind fun t704 => ((peristyleref14_Same.f k t701 t704).bind fun t707 => (if t707 = true then ((poslist_List_Count.f k 0 ([] : List (S64)) ([] : List Int) ([] : List Int)).bind fun t708 => (if t708 = 0 then ((poslist_List_Form.f 0 ([] : List (S64)) ([] : List Int) ([] : List Int)).bind fun t709 => (if t709 = 1 then ((poslist_List_Or.f k 0 ([] : List (S64)) ([] : List Int) ([] : List Int) bt643.1 bt643.2.1 bt643.2.2.1 bt643.2.2.2.1).bind fun bt710 => ((poslist_List_Count.f k bt710.1 bt710.2.1 bt710.2.2.1 bt710.2.2.2).bind fun t720 => ((poslist_List_Count.f k bt643.1 bt643.2.1 bt643.2.2.1 bt643.2.2.2.1).bind fun t721 => (if t720 = t721 then ((poslist_List_Less.f k bt643.1 bt643.2.1 bt643.2.2.1 bt643.2.2.2.1 0 ([] : List (S64)) ([] : List Int) ([] : List Int)).bind fun bt722 => ((poslist_List_Count.f k bt722.1 bt722.2.1 bt722.2.2.1 bt722.2.2.2).bind fun t732 => ((poslist_List_Count.f k bt643.1 bt643.2.1 bt643.2.2.1 bt643.2.2.2.1).bind fun t733 => (if t732 = t733 then ((peristylelaw16_listed.f k 0 ([] : List (S64)) ([] : List Int) ([] : List Int)).bind fun t734 => (if (t734.length : Int) = 0 then ((peristylelaw16_awake.f k).bind fun t737 => (some t737)) else (none))) else (none))))) else (none))))) else (none))) else (none))) else (none)))))) else (none)))) else (none)))) else (none)))))
def peristylelaw16_PoslistParts.f (k : Nat) (l0 : List (S64)) (a1 : Int) (a2 : Int) : Option (Bool) := (peristyleref14_Few.f k l0).bind fun t640 => (if t640 = true then ((peristyleref14_May.f k l0).bind fun t641 => (peristylelaw16_PoslistParts.j0 k l0 a1 a2 (!t641))) else (peristylelaw16_PoslistParts.j0 k l0 a1 a2 true))
theorem peristylelaw16_PoslistParts.j0_succ (k) (a0) (a1) (a2) (a3) : type_of% (@peristylelaw16_PoslistParts.j0.eq_2 a0 a1 a2 a3 k) := peristylelaw16_PoslistParts.j0.eq_2 a0 a1 a2 a3 k
def peristylelaw16_PoslistParts.T5 : Bool × List (List Nat × List Nat) := (true, [([], []), ([], []), ([0, 1], [0, 1]), ([], []), ([], []), ([3, 4, 2], [3, 4]), ([], []), ([], []), ([6, 2, 5, 0, 1, 2, 6, 7], [2, 6]), ([7, 5, 8, 0, 1, 2, 3, 4, 5, 6, 7, 8], [5, 7])])
def peristylelaw16_PoslistParts.B5 : List Nat := [0, 0, 3, 0, 0, 31, 0, 0, 255, 511]
theorem peristylelaw16_PoslistParts.tab5 : rtab .any (opsOf Tryz.f6 5) = peristylelaw16_PoslistParts.T5 := by kernel_rfl
theorem peristylelaw16_PoslistParts.bits5 : waitsOk peristylelaw16_PoslistParts.T5.2 peristylelaw16_PoslistParts.B5 = true := by kernel_rfl
def peristylelaw16_PoslistParts.T7 : Bool × List (List Nat × List Nat) := (true, [([], []), ([0], [0]), ([1], [1]), ([2], [2]), ([3, 2, 2], [2, 3]), ([2], [2]), ([2], [2]), ([6, 4, 2], [2, 6]), ([5, 7, 2], [2, 5, 7]), ([4, 8, 2], [2, 4, 8]), ([2, 9], [2, 9]), ([10, 7], [10]), ([11], [11]), ([11], [11]), ([12, 13, 11, 11], [11, 12, 13]), ([14, 14, 11], [11, 14]), ([15, 11], [11, 15]), ([11, 16], [11, 16]), ([17, 15], [17]), ([18], [18]), ([18], [18]), ([19, 20, 18, 18], [18, 19, 20]), ([21, 21, 18], [18, 21]), ([18], [18]), ([23, 22, 18], [18, 23]), ([22, 24, 24, 18], [18, 22, 24]), ([18, 25], [18, 25]), ([26, 25], [26]), ([27], [27]), ([28, 27, 27], [27, 28]), ([29, 27], [27, 29]), ([27, 30], [27, 30]), ([31, 29], [31]), ([32], [32]), ([33, 32, 32], [32, 33]), ([34, 32], [32, 34]), ([32, 35], [32, 35]), ([36, 34], [36]), ([37], [37]), ([37], [37]), ([38, 39, 37, 37], [37, 38, 39]), ([40, 40, 37], [37, 40]), ([37], [37]), ([42, 41, 37], [37, 42]), ([41, 43, 37], [37, 41, 43]), ([37, 44], [37, 44]), ([45, 43], [45]), ([46], [46]), ([46], [46]), ([47, 48, 46, 46], [46, 47, 48]), ([49, 49, 46], [46, 49]), ([46], [46]), ([51, 50, 46], [46, 51]), ([50, 52, 46], [46, 50, 52]), ([46, 53], [46, 53]), ([54, 52], [54]), ([55], [55]), ([56, 55, 55], [55, 56]), ([57, 55], [55, 57]), ([58, 55], [55, 58]), ([55, 59], [55, 59]), ([60, 57], [60]), ([61, 61], [61]), ([61, 62], [61, 62]), ([63, 62, 0, 1, 2, 3, 4, 5, 6, 7, 8, 9, 10, 11, 12, 13, 14, 15, 16, 17, 18, 19, 20, 21, 22, 23, 24, 25, 26, 27, 28, 29, 30, 31, 32, 33, 34, 35, 36, 37, 38, 39, 40, 41, 42, 43, 44, 45, 46, 47, 48, 49, 50, 51, 52, 53, 54, 55, 56, 57, 58, 59, 60, 61, 62, 63], [63])])
def peristylelaw16_PoslistParts.B7 : List Nat := [0, 1, 3, 7, 15, 7, 7, 95, 255, 511, 1023, 2047, 4095, 4095, 16383, 32767, 65535, 131071, 262143, 524287, 524287, 2097151, 4194303, 524287, 16777215, 33554431, 67108863, 134217727, 268435455, 536870911, 1073741823, 2147483647, 4294967295, 8589934591, 17179869183, 34359738367, 68719476735, 137438953471, 274877906943, 274877906943, 1099511627775, 2199023255551, 274877906943, 8796093022207, 17592186044415, 35184372088831, 70368744177663, 140737488355327, 140737488355327, 562949953421311, 1125899906842623, 140737488355327, 4503599627370495, 9007199254740991, 18014398509481983, 36028797018963967, 72057594037927935, 144115188075855871, 288230376151711743, 576460752303423487, 1152921504606846975, 2305843009213693951, 4611686018427387903, 9223372036854775807, 18446744073709551615]
theorem peristylelaw16_PoslistParts.tab7 : rtab .any (opsOf Tryz.f6 7) = peristylelaw16_PoslistParts.T7 := by kernel_rfl
theorem peristylelaw16_PoslistParts.bits7 : waitsOk peristylelaw16_PoslistParts.T7.2 peristylelaw16_PoslistParts.B7 = true := by kernel_rfl
set_option maxHeartbeats 8000000 in
set_option maxRecDepth 100000 in
theorem peristylelaw16_PoslistParts.calls (k : Nat) (A0 : Option Addr) (c0 : Nat) (l0 : List (S64)) (a1 : Int) (a2 : Int) (r : Bool) (w : World) (hr0 : Kd.C k64 w A0 l0.length l0) (hc0 : l0.length ≤ c0) (h : peristylelaw16_PoslistParts.f k l0 a1 a2 = some r) :
  Calls Tryz.prog 6 #[.slice A0 l0.length c0, .int .i64 a1, .int .i64 a2] w fun e w' => e = .returned (.bool r) ∧ Below w.heap.size w w' := by
 have hu27 := Tryz.underlying27
 have HR0 := Aside0.mk hr0
 have HC0 := Aside0.mk hc0
 clear hr0 hc0
 have HB := Aside0.mk (Below.refl w.heap.size w)
 have H := h
 clear h
 unfold peristylelaw16_PoslistParts.f at H
 have HC4 := Aside0.mk H
 clear H
 go_enter Tryz.func6, Tryz.ntmps6
 go_upto_region 1 with (fail)
 go_cut [20] (fun v20 wc => ∃ (kq : Nat) (x20_3 : Bool), v20 = .bool x20_3 ∧ Aside0 (peristylelaw16_PoslistParts.j0 kq l0 a1 a2 x20_3 = some r) ∧ Aside0 (kq ≤ k) ∧ Aside0 (Below w.heap.size w wc))
 case first =>
  have H := HC4.out
  clear HC4
  replace H := bd H
  obtain ⟨t640, A5, H⟩ := H
  replace H := ifb H
  rcases H with ⟨rfl, H⟩ | ⟨rfl, H⟩
  ·replace H := bd H
   obtain ⟨t641, A7, H⟩ := H
   have H' := Aside0.mk H
   clear H
   go_wp2_with (first | ((with_reducible refine gate_callee (f := 8) rfl ?_); refine gL 14 Tryz.func8 #[.slice A0 l0.length c0] ?_; (with_reducible refine (peristyleref14_Few.calls k _ _ l0 true _ ?side1 ?side2 A5.out).mono ?_); (case side1 => exact cx (Kd.C_below HR0.out HB.out)); (case side2 => exact HC0.out); rintro e w' ⟨rfl, ⟨nd, rfl⟩⟩; refine ⟨_, rfl, ?_⟩) | (go_at_call 21; (with_reducible refine (peristyleref14_May.calls k _ _ l0 t641 _ ?side1 ?side2 A7.out).mono ?_); (case side1 => repeat (exact (Kd.C_below HR0.out (bh HB.out)))); (case side2 => exact HC0.out); rintro e w' ⟨rfl, ⟨nd, rfl⟩⟩))
   go_meet
   case rel => exact ⟨_, (!t641), (by rfl), H', ⟨by omega⟩, ⟨bh HB.out⟩⟩
  ·have H' := Aside0.mk H
   clear H
   go_wp2_with (((with_reducible refine gate_callee (f := 8) rfl ?_); refine gL 14 Tryz.func8 #[.slice A0 l0.length c0] ?_; (with_reducible refine (peristyleref14_Few.calls k _ _ l0 false _ ?side1 ?side2 A5.out).mono ?_); (case side1 => exact cx (Kd.C_below HR0.out HB.out)); (case side2 => exact HC0.out); rintro e w' ⟨rfl, ⟨nd, rfl⟩⟩; refine ⟨_, rfl, ?_⟩))
   go_meet
   case rel => exact ⟨_, (true), (by rfl), H', ⟨by omega⟩, ⟨bh HB.out⟩⟩
 case rest =>
  clear HC4
  obtain ⟨kq, x20_3, rfl, HA, HJ3, HB⟩ := hcut
  cases kq with
  | zero => exact absurd HA.out (by simp [peristylelaw16_PoslistParts.j0])
  | succ kj3 =>
   have H := HA.out
   clear HA
   simp only [peristylelaw16_PoslistParts.j0] at H
   replace H := ifb H
   rcases H with ⟨rfl, H⟩ | ⟨rfl, H⟩
   ·replace H := bd H
    obtain ⟨t642, A9, H⟩ := H
    obtain rfl := Option.some.inj H
    go_wp2_with (((with_reducible refine gate_callee (f := 9) rfl ?_); refine gL 21 Tryz.func9 #[] ?_; (with_reducible refine (peristylelaw16_awake.calls kj3  t642 _ A9.out).mono ?_); rintro e w10 ⟨rfl, hb⟩; refine ⟨_, rfl, ?_⟩; replace HB := bsa HB hb; clear hb))
    go_ret
    exact ⟨er, bh HB.out⟩
   ·replace H := bd H
    obtain ⟨⟨t643, t644, t647, t650, t653⟩, A11, H⟩ := H
    dsimp only at H
    replace H := bd H
    obtain ⟨⟨t655, t656, t659, t662⟩, A12, H⟩ := H
    dsimp only at H
    replace H := bd H
    obtain ⟨⟨t665, t666, t669, t672⟩, A13, H⟩ := H
    dsimp only at H
    replace H := ife H
    rcases H with ⟨-, c14b0, c14b1, H⟩ | ⟨-, -, -, ⟨⟩⟩
    replace H := bd H
    obtain ⟨t678, A15, H⟩ := H
    replace H := bd H
    obtain ⟨t679, A16, H⟩ := H
    obtain ⟨ji17, hji17⟩ : ∃ j_ : Int, (mn (Go.bits .and .i64 a1 4095) t679) = j_ := ⟨_, rfl⟩
    replace H : (if t678 = (ji17) then ((poslist_List_And.f kj3 t655 t656 t659 t662 t665 t666 t669 t672).bind fun bt680 => ((poslist_List_Count.f kj3 bt680.1 bt680.2.1 bt680.2.2.1 bt680.2.2.2).bind fun t690 => (if t690 = 0 then ((poslist_List_Or.f kj3 t655 t656 t659 t662 t665 t666 t669 t672).bind fun bt691 => ((poslist_List_Spans.f kj3 bt691.1 bt691.2.1 bt691.2.2.1 bt691.2.2.2).bind fun t701 => ((poslist_List_Spans.f kj3 t643 t644 t647 t650).bind fun t704 => ((peristyleref14_Same.f kj3 t701 t704).bind fun t707 => (if t707 = true then ((poslist_List_Count.f kj3 0 ([] : List (S64)) ([] : List Int) ([] : List Int)).bind fun t708 => (if t708 = 0 then ((poslist_List_Form.f 0 ([] : List (S64)) ([] : List Int) ([] : List Int)).bind fun t709 => (if t709 = 1 then ((poslist_List_Or.f kj3 0 ([] : List (S64)) ([] : List Int) ([] : List Int) t643 t644 t647 t650).bind fun bt710 => ((poslist_List_Count.f kj3 bt710.1 bt710.2.1 bt710.2.2.1 bt710.2.2.2).bind fun t720 => ((poslist_List_Count.f kj3 t643 t644 t647 t650).bind fun t721 => (if t720 = t721 then ((poslist_List_Less.f kj3 t643 t644 t647 t650 0 ([] : List (S64)) ([] : List Int) ([] : List Int)).bind fun bt722 => ((poslist_List_Count.f kj3 bt722.1 bt722.2.1 bt722.2.2.1 bt722.2.2.2).bind fun t732 => ((poslist_List_Count.f kj3 t643 t644 t647 t650).bind fun t733 => (if t732 = t733 then ((peristylelaw16_listed.f kj3 0 ([] : List (S64)) ([] : List Int) ([] : List Int)).bind fun t734 => (if (t734.length : Int) = 0 then ((peristylelaw16_awake.f kj3).bind fun t737 => (some t737)) else (none))) else (none))))) else (none))))) else (none))) else (none))) else (none)))))) else (none)))) else (none)) = some r := by (rw [hji17] at H; exact H)
    have hji17_ : (if t679 < (Go.bits .and .i64 a1 4095) then t679 else (Go.bits .and .i64 a1 4095)) = ji17 := hji17
    replace H := ife H
    rcases H with ⟨-, c18b0, c18b1, H⟩ | ⟨-, -, -, ⟨⟩⟩
    replace H := bd H
    obtain ⟨⟨t680, t681, t684, t687⟩, A19, H⟩ := H
    dsimp only at H
    replace H := bd H
    obtain ⟨t690, A20, H⟩ := H
    replace H := ife H
    rcases H with ⟨-, c21b0, c21b1, H⟩ | ⟨-, -, -, ⟨⟩⟩
    replace H := bd H
    obtain ⟨⟨t691, t692, t695, t698⟩, A22, H⟩ := H
    dsimp only at H
    replace H := bd H
    obtain ⟨t701, A23, H⟩ := H
    replace H := bd H
    obtain ⟨t704, A24, H⟩ := H
    replace H := bd H
    obtain ⟨t707, A25, H⟩ := H
    replace H := ifb H
    rcases H with ⟨rfl, H⟩ | ⟨-, ⟨⟩⟩
    replace H := bd H
    obtain ⟨t708, A27, H⟩ := H
    replace H := ife H
    rcases H with ⟨-, c28b0, c28b1, H⟩ | ⟨-, -, -, ⟨⟩⟩
    replace H := bd H
    obtain ⟨t709, A29, H⟩ := H
    replace H := ife H
    rcases H with ⟨-, c30b0, c30b1, H⟩ | ⟨-, -, -, ⟨⟩⟩
    replace H := bd H
    obtain ⟨⟨t710, t711, t714, t717⟩, A31, H⟩ := H
    dsimp only at H
    replace H := bd H
    obtain ⟨t720, A32, H⟩ := H
    replace H := bd H
    obtain ⟨t721, A33, H⟩ := H
    replace H := ife H
    rcases H with ⟨-, c34b0, c34b1, H⟩ | ⟨-, -, -, ⟨⟩⟩
    replace H := bd H
    obtain ⟨⟨t722, t723, t726, t729⟩, A35, H⟩ := H
    dsimp only at H
    replace H := bd H
    obtain ⟨t732, A36, H⟩ := H
    replace H := bd H
    obtain ⟨t733, A37, H⟩ := H
    replace H := ife H
    rcases H with ⟨-, c38b0, c38b1, H⟩ | ⟨-, -, -, ⟨⟩⟩
    replace H := bd H
    obtain ⟨t734, A39, H⟩ := H
    replace H := ife H
    rcases H with ⟨-, c40b0, c40b1, H⟩ | ⟨-, -, -, ⟨⟩⟩
    replace H := bd H
    obtain ⟨t737, A41, H⟩ := H
    obtain rfl := Option.some.inj H
    go_wp2_with (first | ((with_reducible refine gate_callee (f := 10) rfl ?_); refine gL 28 Tryz.func10 #[.slice A0 l0.length c0, .int .i64 (wrap64 (1 + (Int.tmod (Go.bits .and .i64 a2 255) 3)))] ?_; (with_reducible refine (poslist_Of.calls kj3 _ _ l0 (wrap64 (1 + (Int.tmod (Go.bits .and .i64 a2 255) 3))) t643 t644 t647 t650 t653 _ ?side1 ?side2 A11.out).mono ?_); (case side1 => exact cx (Kd.C_below HR0.out HB.out)); (case side2 => exact HC0.out); rintro e w42 ⟨v645, v648, v651, rfl, ho0, ho1, ho2, hb⟩; refine ⟨_, rfl, ?_⟩; have HO646 := Aside0.mk (Kd.R_lower ho0 (below_size (bh HB.out))); have HO649 := Aside0.mk (Kd.R_lower ho1 (below_size (bh HB.out))); have HO652 := Aside0.mk (Kd.R_lower ho2 (below_size (bh HB.out))); replace HB := bsa HB hb; clear hb ho0 ho1 ho2) | ((with_reducible refine gate_dst (N := 7) rfl ?_); ((refine gate_guard (by rfl) ?_; dsimp only)); refine box_event ?hg (N := 7) ?hd (cs := #[.int .i64 0, .slice none 0 0, .slice none 0 0, .slice none 0 0]) (t := 27) ?hr ?_; (case hd => rfl); (case hg => rfl); (case hr => (go_simp; done)); intro gb654 hg w43 hbox hb; replace HO646 := rba HO646 hb; replace HO649 := rba HO649 hb; replace HO652 := rba HO652 hb; have BK654 := Aside0.mk (hbox); have GW654 := bza HB hg; have GE654 := bza HB hg; replace HB := bsa HB hb; clear hb hbox hg; have hcz44_0 : w43.cell? ⟨gb654, 0, none⟩ = some (.int .i64 0) := (blk_cell BK654.out 0).trans rfl; have hcz44_1 : w43.cell? ⟨gb654, 1, none⟩ = some (.slice none 0 0) := (blk_cell BK654.out 1).trans rfl; have hcz44_2 : w43.cell? ⟨gb654, 2, none⟩ = some (.slice none 0 0) := (blk_cell BK654.out 2).trans rfl; have hcz44_3 : w43.cell? ⟨gb654, 3, none⟩ = some (.slice none 0 0) := (blk_cell BK654.out 3).trans rfl; have hfz44_0 := blk_frozen BK654.out 0; have hfz44_1 := blk_frozen BK654.out 1; have hfz44_2 := blk_frozen BK654.out 2; have hfz44_3 := blk_frozen BK654.out 3; obtain ⟨Ao45, co45, eo45⟩ := Kd.R_slice HO646.out; subst eo45; obtain ⟨Ao46, co46, eo46⟩ := Kd.R_slice HO649.out; subst eo46; obtain ⟨Ao47, co47, eo47⟩ := Kd.R_slice HO652.out; subst eo47) | ((with_reducible refine gate_store (t := 27) (p := 7) rfl ?_); refine stE 27 7 ((((w43.setCell ⟨gb654, 0, none⟩ (.int .i64 t643)).setCell ⟨gb654, 1, none⟩ (.slice Ao45 t644.length co45)).setCell ⟨gb654, 2, none⟩ (.slice Ao46 t647.length co46)).setCell ⟨gb654, 3, none⟩ (.slice Ao47 t650.length co47)) ?_; intro w48 hw; replace HO646 := rsm (fun _ => True) HO646 hw (fun _ hk => trivial); replace HO649 := rst HO649 hw; replace HO652 := rst HO652 hw; replace BK654 := sps #[.int .i64 t643, .slice Ao45 t644.length co45, .slice Ao46 t647.length co46, .slice Ao47 t650.length co47] BK654 hw (.p (.p (.p (.p .nil)))); replace HB := bhw HB hw; clear hw))
    replace HO646 := Aside0.mk (Kd.R_drew HO646.out)
    replace HO649 := Aside0.mk (Kd.R_drew HO649.out)
    replace HO652 := Aside0.mk (Kd.R_drew HO652.out)
    replace BK654 := Aside0.mk (blk_drew BK654.out)
    replace HB := Aside0.mk (below_drew1 HB.out)
    refine start_ (n := 10) (S := fun w' => w'.cell? ⟨gb654, 0, none⟩ = some (.int .i64 t643) ∧ w'.cell? ⟨gb654, 1, none⟩ = some (.slice Ao45 t644.length co45) ∧ w'.cell? ⟨gb654, 2, none⟩ = some (.slice Ao46 t647.length co46) ∧ w'.cell? ⟨gb654, 3, none⟩ = some (.slice Ao47 t650.length co47)) (ds := []) #[false, false, false, false, false, false, false, false, false, false] (by kernel_rfl) rfl rfl ⟨(blk_cell BK654.out 0).trans rfl, (blk_cell BK654.out 1).trans rfl, (blk_cell BK654.out 2).trans rfl, (blk_cell BK654.out 3).trans rfl⟩ (fun hHeld => ?_); refine with_tabW peristylelaw16_PoslistParts.tab5 peristylelaw16_PoslistParts.bits5 (fun HT_ HW_ => ?_)
    generalize w48.drew = w49 at HO646 HO649 HO652 BK654 HB hHeld ⊢
    refine puA HT_ 1 34 (bv 10 2) ?_
    refine puA HT_ 4 37 (bv 10 18) ?_
    refine taA HT_ HW_ hHeld 0 33 (bv 10 19) ?_
    refine taA HT_ HW_ hHeld 3 36 (bv 10 27) ?_
    refine join_ (σ := Value × Value × Value × Value × Value × Value × Nat × Nat) 2 #[true, true, true, true, true, true, true, true, false, false] (fun s_ => [(35, .agg #[.int .i64 t655, s_.1, s_.2.1, s_.2.2.1]), (38, .agg #[.int .i64 t665, s_.2.2.2.1, s_.2.2.2.2.1, s_.2.2.2.2.2.1]), (10, .pointer (some ⟨s_.2.2.2.2.2.2.1, 0, none⟩)), (11, .pointer (some ⟨s_.2.2.2.2.2.2.2, 0, none⟩))]) (fun s_ w' => (w'.cell? ⟨gb654, 0, none⟩ = some (.int .i64 t643) ∧ w'.cell? ⟨gb654, 1, none⟩ = some (.slice Ao45 t644.length co45) ∧ w'.cell? ⟨gb654, 2, none⟩ = some (.slice Ao46 t647.length co46) ∧ w'.cell? ⟨gb654, 3, none⟩ = some (.slice Ao47 t650.length co47)) ∧ (Kd.R k64 64 w' w.heap.size (fun k_ => some k_ ≠ (s_.1 : Value).ownBlock ∧ some k_ ≠ (s_.2.2.2.1 : Value).ownBlock) (.slice Ao45 t644.length co45) t644) ∧ (Kd.R (Kd.int .i64) 3 w' w.heap.size (fun k_ => some k_ ≠ (.slice Ao47 t650.length co47 : Value).ownBlock ∧ some k_ ≠ (s_.2.1 : Value).ownBlock ∧ some k_ ≠ (s_.2.2.1 : Value).ownBlock ∧ some k_ ≠ (s_.2.2.2.2.1 : Value).ownBlock ∧ some k_ ≠ (s_.2.2.2.2.2.1 : Value).ownBlock) (.slice Ao46 t647.length co46) t647) ∧ (Kd.R (Kd.int .i64) 3 w' w.heap.size (fun k_ => some k_ ≠ (.slice Ao46 t647.length co46 : Value).ownBlock ∧ some k_ ≠ (s_.2.1 : Value).ownBlock ∧ some k_ ≠ (s_.2.2.1 : Value).ownBlock ∧ some k_ ≠ (s_.2.2.2.2.1 : Value).ownBlock ∧ some k_ ≠ (s_.2.2.2.2.2.1 : Value).ownBlock) (.slice Ao47 t650.length co47) t650) ∧ (Kd.R k64 64 w' w.heap.size (fun k_ => some k_ ≠ (.slice Ao45 t644.length co45 : Value).ownBlock ∧ some k_ ≠ (s_.2.2.2.1 : Value).ownBlock) s_.1 t656) ∧ (Kd.R (Kd.int .i64) 3 w' w.heap.size (fun k_ => some k_ ≠ (.slice Ao46 t647.length co46 : Value).ownBlock ∧ some k_ ≠ (.slice Ao47 t650.length co47 : Value).ownBlock ∧ some k_ ≠ (s_.2.2.1 : Value).ownBlock ∧ some k_ ≠ (s_.2.2.2.2.1 : Value).ownBlock ∧ some k_ ≠ (s_.2.2.2.2.2.1 : Value).ownBlock) s_.2.1 t659) ∧ (Kd.R (Kd.int .i64) 3 w' w.heap.size (fun k_ => some k_ ≠ (.slice Ao46 t647.length co46 : Value).ownBlock ∧ some k_ ≠ (.slice Ao47 t650.length co47 : Value).ownBlock ∧ some k_ ≠ (s_.2.1 : Value).ownBlock ∧ some k_ ≠ (s_.2.2.2.2.1 : Value).ownBlock ∧ some k_ ≠ (s_.2.2.2.2.2.1 : Value).ownBlock) s_.2.2.1 t662) ∧ (Kd.R k64 64 w' w.heap.size (fun k_ => some k_ ≠ (.slice Ao45 t644.length co45 : Value).ownBlock ∧ some k_ ≠ (s_.1 : Value).ownBlock) s_.2.2.2.1 t666) ∧ (Kd.R (Kd.int .i64) 3 w' w.heap.size (fun k_ => some k_ ≠ (.slice Ao46 t647.length co46 : Value).ownBlock ∧ some k_ ≠ (.slice Ao47 t650.length co47 : Value).ownBlock ∧ some k_ ≠ (s_.2.1 : Value).ownBlock ∧ some k_ ≠ (s_.2.2.1 : Value).ownBlock ∧ some k_ ≠ (s_.2.2.2.2.2.1 : Value).ownBlock) s_.2.2.2.2.1 t669) ∧ (Kd.R (Kd.int .i64) 3 w' w.heap.size (fun k_ => some k_ ≠ (.slice Ao46 t647.length co46 : Value).ownBlock ∧ some k_ ≠ (.slice Ao47 t650.length co47 : Value).ownBlock ∧ some k_ ≠ (s_.2.1 : Value).ownBlock ∧ some k_ ≠ (s_.2.2.1 : Value).ownBlock ∧ some k_ ≠ (s_.2.2.2.2.1 : Value).ownBlock) s_.2.2.2.2.2.1 t672) ∧ (w'.heap[gb654]? = some (.cells #[.int .i64 t643, .slice Ao45 t644.length co45, .slice Ao46 t647.length co46, .slice Ao47 t650.length co47] 27 (0, 0))) ∧ (w'.heap[s_.2.2.2.2.2.2.1]? = some (.cells #[.int .i64 0, .slice none 0 0, .slice none 0 0, .slice none 0 0] 27 (0, 0))) ∧ (w'.heap[s_.2.2.2.2.2.2.2]? = some (.cells #[.int .i64 0, .slice none 0 0, .slice none 0 0, .slice none 0 0] 27 (0, 0))) ∧ (w.heap.size ≤ s_.2.2.2.2.2.2.1) ∧ (w.heap.size ≤ s_.2.2.2.2.2.2.1) ∧ (gb654 ≠ s_.2.2.2.2.2.2.1) ∧ (s_.2.2.2.2.2.2.1 ≠ gb654) ∧ (s_.2.2.2.2.2.2.2 ≠ s_.2.2.2.2.2.2.1) ∧ (s_.2.2.2.2.2.2.1 ≠ s_.2.2.2.2.2.2.2) ∧ (w.heap.size ≤ s_.2.2.2.2.2.2.2) ∧ (w.heap.size ≤ s_.2.2.2.2.2.2.2) ∧ (gb654 ≠ s_.2.2.2.2.2.2.2) ∧ (s_.2.2.2.2.2.2.2 ≠ gb654) ∧ (Below w.heap.size w w')) ?_ ?_
    rotate_left
    ·intro hJ2_5_6_7
     refine join_ (σ := Value × Value × Value × Value × Value × Value × Nat) 3 #[true, true, true, true, true, true, true, false, false, false] (fun s_ => [(35, .agg #[.int .i64 t655, s_.1, s_.2.1, s_.2.2.1]), (38, .agg #[.int .i64 t665, s_.2.2.2.1, s_.2.2.2.2.1, s_.2.2.2.2.2.1]), (10, .pointer (some ⟨s_.2.2.2.2.2.2, 0, none⟩))]) (fun s_ w' => (w'.cell? ⟨gb654, 0, none⟩ = some (.int .i64 t643) ∧ w'.cell? ⟨gb654, 1, none⟩ = some (.slice Ao45 t644.length co45) ∧ w'.cell? ⟨gb654, 2, none⟩ = some (.slice Ao46 t647.length co46) ∧ w'.cell? ⟨gb654, 3, none⟩ = some (.slice Ao47 t650.length co47)) ∧ (Kd.R k64 64 w' w.heap.size (fun k_ => some k_ ≠ (s_.1 : Value).ownBlock ∧ some k_ ≠ (s_.2.2.2.1 : Value).ownBlock) (.slice Ao45 t644.length co45) t644) ∧ (Kd.R (Kd.int .i64) 3 w' w.heap.size (fun k_ => some k_ ≠ (.slice Ao47 t650.length co47 : Value).ownBlock ∧ some k_ ≠ (s_.2.1 : Value).ownBlock ∧ some k_ ≠ (s_.2.2.1 : Value).ownBlock ∧ some k_ ≠ (s_.2.2.2.2.1 : Value).ownBlock ∧ some k_ ≠ (s_.2.2.2.2.2.1 : Value).ownBlock) (.slice Ao46 t647.length co46) t647) ∧ (Kd.R (Kd.int .i64) 3 w' w.heap.size (fun k_ => some k_ ≠ (.slice Ao46 t647.length co46 : Value).ownBlock ∧ some k_ ≠ (s_.2.1 : Value).ownBlock ∧ some k_ ≠ (s_.2.2.1 : Value).ownBlock ∧ some k_ ≠ (s_.2.2.2.2.1 : Value).ownBlock ∧ some k_ ≠ (s_.2.2.2.2.2.1 : Value).ownBlock) (.slice Ao47 t650.length co47) t650) ∧ (Kd.R k64 64 w' w.heap.size (fun k_ => some k_ ≠ (.slice Ao45 t644.length co45 : Value).ownBlock ∧ some k_ ≠ (s_.2.2.2.1 : Value).ownBlock) s_.1 t656) ∧ (Kd.R (Kd.int .i64) 3 w' w.heap.size (fun k_ => some k_ ≠ (.slice Ao46 t647.length co46 : Value).ownBlock ∧ some k_ ≠ (.slice Ao47 t650.length co47 : Value).ownBlock ∧ some k_ ≠ (s_.2.2.1 : Value).ownBlock ∧ some k_ ≠ (s_.2.2.2.2.1 : Value).ownBlock ∧ some k_ ≠ (s_.2.2.2.2.2.1 : Value).ownBlock) s_.2.1 t659) ∧ (Kd.R (Kd.int .i64) 3 w' w.heap.size (fun k_ => some k_ ≠ (.slice Ao46 t647.length co46 : Value).ownBlock ∧ some k_ ≠ (.slice Ao47 t650.length co47 : Value).ownBlock ∧ some k_ ≠ (s_.2.1 : Value).ownBlock ∧ some k_ ≠ (s_.2.2.2.2.1 : Value).ownBlock ∧ some k_ ≠ (s_.2.2.2.2.2.1 : Value).ownBlock) s_.2.2.1 t662) ∧ (Kd.R k64 64 w' w.heap.size (fun k_ => some k_ ≠ (.slice Ao45 t644.length co45 : Value).ownBlock ∧ some k_ ≠ (s_.1 : Value).ownBlock) s_.2.2.2.1 t666) ∧ (Kd.R (Kd.int .i64) 3 w' w.heap.size (fun k_ => some k_ ≠ (.slice Ao46 t647.length co46 : Value).ownBlock ∧ some k_ ≠ (.slice Ao47 t650.length co47 : Value).ownBlock ∧ some k_ ≠ (s_.2.1 : Value).ownBlock ∧ some k_ ≠ (s_.2.2.1 : Value).ownBlock ∧ some k_ ≠ (s_.2.2.2.2.2.1 : Value).ownBlock) s_.2.2.2.2.1 t669) ∧ (Kd.R (Kd.int .i64) 3 w' w.heap.size (fun k_ => some k_ ≠ (.slice Ao46 t647.length co46 : Value).ownBlock ∧ some k_ ≠ (.slice Ao47 t650.length co47 : Value).ownBlock ∧ some k_ ≠ (s_.2.1 : Value).ownBlock ∧ some k_ ≠ (s_.2.2.1 : Value).ownBlock ∧ some k_ ≠ (s_.2.2.2.2.1 : Value).ownBlock) s_.2.2.2.2.2.1 t672) ∧ (w'.heap[gb654]? = some (.cells #[.int .i64 t643, .slice Ao45 t644.length co45, .slice Ao46 t647.length co46, .slice Ao47 t650.length co47] 27 (0, 0))) ∧ (w'.heap[s_.2.2.2.2.2.2]? = some (.cells #[.int .i64 0, .slice none 0 0, .slice none 0 0, .slice none 0 0] 27 (0, 0))) ∧ (w.heap.size ≤ s_.2.2.2.2.2.2) ∧ (w.heap.size ≤ s_.2.2.2.2.2.2) ∧ (gb654 ≠ s_.2.2.2.2.2.2) ∧ (s_.2.2.2.2.2.2 ≠ gb654) ∧ (Below w.heap.size w w')) ?_ ?_
     rotate_left
     ·intro hJ2_5_6
      refine join_ (σ := Value × Value × Value × Value × Value × Value × Nat) 3 #[true, true, true, true, true, true, false, true, false, false] (fun s_ => [(35, .agg #[.int .i64 t655, s_.1, s_.2.1, s_.2.2.1]), (38, .agg #[.int .i64 t665, s_.2.2.2.1, s_.2.2.2.2.1, s_.2.2.2.2.2.1]), (11, .pointer (some ⟨s_.2.2.2.2.2.2, 0, none⟩))]) (fun s_ w' => (w'.cell? ⟨gb654, 0, none⟩ = some (.int .i64 t643) ∧ w'.cell? ⟨gb654, 1, none⟩ = some (.slice Ao45 t644.length co45) ∧ w'.cell? ⟨gb654, 2, none⟩ = some (.slice Ao46 t647.length co46) ∧ w'.cell? ⟨gb654, 3, none⟩ = some (.slice Ao47 t650.length co47)) ∧ (Kd.R k64 64 w' w.heap.size (fun k_ => some k_ ≠ (s_.1 : Value).ownBlock ∧ some k_ ≠ (s_.2.2.2.1 : Value).ownBlock) (.slice Ao45 t644.length co45) t644) ∧ (Kd.R (Kd.int .i64) 3 w' w.heap.size (fun k_ => some k_ ≠ (.slice Ao47 t650.length co47 : Value).ownBlock ∧ some k_ ≠ (s_.2.1 : Value).ownBlock ∧ some k_ ≠ (s_.2.2.1 : Value).ownBlock ∧ some k_ ≠ (s_.2.2.2.2.1 : Value).ownBlock ∧ some k_ ≠ (s_.2.2.2.2.2.1 : Value).ownBlock) (.slice Ao46 t647.length co46) t647) ∧ (Kd.R (Kd.int .i64) 3 w' w.heap.size (fun k_ => some k_ ≠ (.slice Ao46 t647.length co46 : Value).ownBlock ∧ some k_ ≠ (s_.2.1 : Value).ownBlock ∧ some k_ ≠ (s_.2.2.1 : Value).ownBlock ∧ some k_ ≠ (s_.2.2.2.2.1 : Value).ownBlock ∧ some k_ ≠ (s_.2.2.2.2.2.1 : Value).ownBlock) (.slice Ao47 t650.length co47) t650) ∧ (Kd.R k64 64 w' w.heap.size (fun k_ => some k_ ≠ (.slice Ao45 t644.length co45 : Value).ownBlock ∧ some k_ ≠ (s_.2.2.2.1 : Value).ownBlock) s_.1 t656) ∧ (Kd.R (Kd.int .i64) 3 w' w.heap.size (fun k_ => some k_ ≠ (.slice Ao46 t647.length co46 : Value).ownBlock ∧ some k_ ≠ (.slice Ao47 t650.length co47 : Value).ownBlock ∧ some k_ ≠ (s_.2.2.1 : Value).ownBlock ∧ some k_ ≠ (s_.2.2.2.2.1 : Value).ownBlock ∧ some k_ ≠ (s_.2.2.2.2.2.1 : Value).ownBlock) s_.2.1 t659) ∧ (Kd.R (Kd.int .i64) 3 w' w.heap.size (fun k_ => some k_ ≠ (.slice Ao46 t647.length co46 : Value).ownBlock ∧ some k_ ≠ (.slice Ao47 t650.length co47 : Value).ownBlock ∧ some k_ ≠ (s_.2.1 : Value).ownBlock ∧ some k_ ≠ (s_.2.2.2.2.1 : Value).ownBlock ∧ some k_ ≠ (s_.2.2.2.2.2.1 : Value).ownBlock) s_.2.2.1 t662) ∧ (Kd.R k64 64 w' w.heap.size (fun k_ => some k_ ≠ (.slice Ao45 t644.length co45 : Value).ownBlock ∧ some k_ ≠ (s_.1 : Value).ownBlock) s_.2.2.2.1 t666) ∧ (Kd.R (Kd.int .i64) 3 w' w.heap.size (fun k_ => some k_ ≠ (.slice Ao46 t647.length co46 : Value).ownBlock ∧ some k_ ≠ (.slice Ao47 t650.length co47 : Value).ownBlock ∧ some k_ ≠ (s_.2.1 : Value).ownBlock ∧ some k_ ≠ (s_.2.2.1 : Value).ownBlock ∧ some k_ ≠ (s_.2.2.2.2.2.1 : Value).ownBlock) s_.2.2.2.2.1 t669) ∧ (Kd.R (Kd.int .i64) 3 w' w.heap.size (fun k_ => some k_ ≠ (.slice Ao46 t647.length co46 : Value).ownBlock ∧ some k_ ≠ (.slice Ao47 t650.length co47 : Value).ownBlock ∧ some k_ ≠ (s_.2.1 : Value).ownBlock ∧ some k_ ≠ (s_.2.2.1 : Value).ownBlock ∧ some k_ ≠ (s_.2.2.2.2.1 : Value).ownBlock) s_.2.2.2.2.2.1 t672) ∧ (w'.heap[gb654]? = some (.cells #[.int .i64 t643, .slice Ao45 t644.length co45, .slice Ao46 t647.length co46, .slice Ao47 t650.length co47] 27 (0, 0))) ∧ (w'.heap[s_.2.2.2.2.2.2]? = some (.cells #[.int .i64 0, .slice none 0 0, .slice none 0 0, .slice none 0 0] 27 (0, 0))) ∧ (w.heap.size ≤ s_.2.2.2.2.2.2) ∧ (w.heap.size ≤ s_.2.2.2.2.2.2) ∧ (gb654 ≠ s_.2.2.2.2.2.2) ∧ (s_.2.2.2.2.2.2 ≠ gb654) ∧ (Below w.heap.size w w')) ?_ ?_
      rotate_left
      ·intro hJ2_5_7
       refine join_ (σ := Value × Value × Value × Nat × Nat) 3 #[true, true, true, true, true, false, true, true, false, false] (fun s_ => [(35, .agg #[.int .i64 t655, s_.1, s_.2.1, s_.2.2.1]), (10, .pointer (some ⟨s_.2.2.2.1, 0, none⟩)), (11, .pointer (some ⟨s_.2.2.2.2, 0, none⟩))]) (fun s_ w' => (w'.cell? ⟨gb654, 0, none⟩ = some (.int .i64 t643) ∧ w'.cell? ⟨gb654, 1, none⟩ = some (.slice Ao45 t644.length co45) ∧ w'.cell? ⟨gb654, 2, none⟩ = some (.slice Ao46 t647.length co46) ∧ w'.cell? ⟨gb654, 3, none⟩ = some (.slice Ao47 t650.length co47)) ∧ (Kd.R k64 64 w' w.heap.size (fun k_ => some k_ ≠ (s_.1 : Value).ownBlock) (.slice Ao45 t644.length co45) t644) ∧ (Kd.R (Kd.int .i64) 3 w' w.heap.size (fun k_ => some k_ ≠ (.slice Ao47 t650.length co47 : Value).ownBlock ∧ some k_ ≠ (s_.2.1 : Value).ownBlock ∧ some k_ ≠ (s_.2.2.1 : Value).ownBlock) (.slice Ao46 t647.length co46) t647) ∧ (Kd.R (Kd.int .i64) 3 w' w.heap.size (fun k_ => some k_ ≠ (.slice Ao46 t647.length co46 : Value).ownBlock ∧ some k_ ≠ (s_.2.1 : Value).ownBlock ∧ some k_ ≠ (s_.2.2.1 : Value).ownBlock) (.slice Ao47 t650.length co47) t650) ∧ (Kd.R k64 64 w' w.heap.size (fun k_ => some k_ ≠ (.slice Ao45 t644.length co45 : Value).ownBlock) s_.1 t656) ∧ (Kd.R (Kd.int .i64) 3 w' w.heap.size (fun k_ => some k_ ≠ (.slice Ao46 t647.length co46 : Value).ownBlock ∧ some k_ ≠ (.slice Ao47 t650.length co47 : Value).ownBlock ∧ some k_ ≠ (s_.2.2.1 : Value).ownBlock) s_.2.1 t659) ∧ (Kd.R (Kd.int .i64) 3 w' w.heap.size (fun k_ => some k_ ≠ (.slice Ao46 t647.length co46 : Value).ownBlock ∧ some k_ ≠ (.slice Ao47 t650.length co47 : Value).ownBlock ∧ some k_ ≠ (s_.2.1 : Value).ownBlock) s_.2.2.1 t662) ∧ (w'.heap[gb654]? = some (.cells #[.int .i64 t643, .slice Ao45 t644.length co45, .slice Ao46 t647.length co46, .slice Ao47 t650.length co47] 27 (0, 0))) ∧ (w'.heap[s_.2.2.2.1]? = some (.cells #[.int .i64 0, .slice none 0 0, .slice none 0 0, .slice none 0 0] 27 (0, 0))) ∧ (w'.heap[s_.2.2.2.2]? = some (.cells #[.int .i64 0, .slice none 0 0, .slice none 0 0, .slice none 0 0] 27 (0, 0))) ∧ (w.heap.size ≤ s_.2.2.2.1) ∧ (w.heap.size ≤ s_.2.2.2.1) ∧ (gb654 ≠ s_.2.2.2.1) ∧ (s_.2.2.2.1 ≠ gb654) ∧ (s_.2.2.2.2 ≠ s_.2.2.2.1) ∧ (s_.2.2.2.1 ≠ s_.2.2.2.2) ∧ (w.heap.size ≤ s_.2.2.2.2) ∧ (w.heap.size ≤ s_.2.2.2.2) ∧ (gb654 ≠ s_.2.2.2.2) ∧ (s_.2.2.2.2 ≠ gb654) ∧ (Below w.heap.size w w')) ?_ ?_
       rotate_left
       ·intro hJ2_6_7
        refine join_ (σ := Value × Value × Value × Value × Value × Value) 4 #[true, true, true, true, true, true, false, false, false, false] (fun s_ => [(35, .agg #[.int .i64 t655, s_.1, s_.2.1, s_.2.2.1]), (38, .agg #[.int .i64 t665, s_.2.2.2.1, s_.2.2.2.2.1, s_.2.2.2.2.2])]) (fun s_ w' => (w'.cell? ⟨gb654, 0, none⟩ = some (.int .i64 t643) ∧ w'.cell? ⟨gb654, 1, none⟩ = some (.slice Ao45 t644.length co45) ∧ w'.cell? ⟨gb654, 2, none⟩ = some (.slice Ao46 t647.length co46) ∧ w'.cell? ⟨gb654, 3, none⟩ = some (.slice Ao47 t650.length co47)) ∧ (Kd.R k64 64 w' w.heap.size (fun k_ => some k_ ≠ (s_.1 : Value).ownBlock ∧ some k_ ≠ (s_.2.2.2.1 : Value).ownBlock) (.slice Ao45 t644.length co45) t644) ∧ (Kd.R (Kd.int .i64) 3 w' w.heap.size (fun k_ => some k_ ≠ (.slice Ao47 t650.length co47 : Value).ownBlock ∧ some k_ ≠ (s_.2.1 : Value).ownBlock ∧ some k_ ≠ (s_.2.2.1 : Value).ownBlock ∧ some k_ ≠ (s_.2.2.2.2.1 : Value).ownBlock ∧ some k_ ≠ (s_.2.2.2.2.2 : Value).ownBlock) (.slice Ao46 t647.length co46) t647) ∧ (Kd.R (Kd.int .i64) 3 w' w.heap.size (fun k_ => some k_ ≠ (.slice Ao46 t647.length co46 : Value).ownBlock ∧ some k_ ≠ (s_.2.1 : Value).ownBlock ∧ some k_ ≠ (s_.2.2.1 : Value).ownBlock ∧ some k_ ≠ (s_.2.2.2.2.1 : Value).ownBlock ∧ some k_ ≠ (s_.2.2.2.2.2 : Value).ownBlock) (.slice Ao47 t650.length co47) t650) ∧ (Kd.R k64 64 w' w.heap.size (fun k_ => some k_ ≠ (.slice Ao45 t644.length co45 : Value).ownBlock ∧ some k_ ≠ (s_.2.2.2.1 : Value).ownBlock) s_.1 t656) ∧ (Kd.R (Kd.int .i64) 3 w' w.heap.size (fun k_ => some k_ ≠ (.slice Ao46 t647.length co46 : Value).ownBlock ∧ some k_ ≠ (.slice Ao47 t650.length co47 : Value).ownBlock ∧ some k_ ≠ (s_.2.2.1 : Value).ownBlock ∧ some k_ ≠ (s_.2.2.2.2.1 : Value).ownBlock ∧ some k_ ≠ (s_.2.2.2.2.2 : Value).ownBlock) s_.2.1 t659) ∧ (Kd.R (Kd.int .i64) 3 w' w.heap.size (fun k_ => some k_ ≠ (.slice Ao46 t647.length co46 : Value).ownBlock ∧ some k_ ≠ (.slice Ao47 t650.length co47 : Value).ownBlock ∧ some k_ ≠ (s_.2.1 : Value).ownBlock ∧ some k_ ≠ (s_.2.2.2.2.1 : Value).ownBlock ∧ some k_ ≠ (s_.2.2.2.2.2 : Value).ownBlock) s_.2.2.1 t662) ∧ (Kd.R k64 64 w' w.heap.size (fun k_ => some k_ ≠ (.slice Ao45 t644.length co45 : Value).ownBlock ∧ some k_ ≠ (s_.1 : Value).ownBlock) s_.2.2.2.1 t666) ∧ (Kd.R (Kd.int .i64) 3 w' w.heap.size (fun k_ => some k_ ≠ (.slice Ao46 t647.length co46 : Value).ownBlock ∧ some k_ ≠ (.slice Ao47 t650.length co47 : Value).ownBlock ∧ some k_ ≠ (s_.2.1 : Value).ownBlock ∧ some k_ ≠ (s_.2.2.1 : Value).ownBlock ∧ some k_ ≠ (s_.2.2.2.2.2 : Value).ownBlock) s_.2.2.2.2.1 t669) ∧ (Kd.R (Kd.int .i64) 3 w' w.heap.size (fun k_ => some k_ ≠ (.slice Ao46 t647.length co46 : Value).ownBlock ∧ some k_ ≠ (.slice Ao47 t650.length co47 : Value).ownBlock ∧ some k_ ≠ (s_.2.1 : Value).ownBlock ∧ some k_ ≠ (s_.2.2.1 : Value).ownBlock ∧ some k_ ≠ (s_.2.2.2.2.1 : Value).ownBlock) s_.2.2.2.2.2 t672) ∧ (w'.heap[gb654]? = some (.cells #[.int .i64 t643, .slice Ao45 t644.length co45, .slice Ao46 t647.length co46, .slice Ao47 t650.length co47] 27 (0, 0))) ∧ (Below w.heap.size w w')) ?_ ?_
        rotate_left
        ·intro hJ2_5
         refine join_ (σ := Value × Value × Value × Nat) 4 #[true, true, true, true, true, false, true, false, false, false] (fun s_ => [(35, .agg #[.int .i64 t655, s_.1, s_.2.1, s_.2.2.1]), (10, .pointer (some ⟨s_.2.2.2, 0, none⟩))]) (fun s_ w' => (w'.cell? ⟨gb654, 0, none⟩ = some (.int .i64 t643) ∧ w'.cell? ⟨gb654, 1, none⟩ = some (.slice Ao45 t644.length co45) ∧ w'.cell? ⟨gb654, 2, none⟩ = some (.slice Ao46 t647.length co46) ∧ w'.cell? ⟨gb654, 3, none⟩ = some (.slice Ao47 t650.length co47)) ∧ (Kd.R k64 64 w' w.heap.size (fun k_ => some k_ ≠ (s_.1 : Value).ownBlock) (.slice Ao45 t644.length co45) t644) ∧ (Kd.R (Kd.int .i64) 3 w' w.heap.size (fun k_ => some k_ ≠ (.slice Ao47 t650.length co47 : Value).ownBlock ∧ some k_ ≠ (s_.2.1 : Value).ownBlock ∧ some k_ ≠ (s_.2.2.1 : Value).ownBlock) (.slice Ao46 t647.length co46) t647) ∧ (Kd.R (Kd.int .i64) 3 w' w.heap.size (fun k_ => some k_ ≠ (.slice Ao46 t647.length co46 : Value).ownBlock ∧ some k_ ≠ (s_.2.1 : Value).ownBlock ∧ some k_ ≠ (s_.2.2.1 : Value).ownBlock) (.slice Ao47 t650.length co47) t650) ∧ (Kd.R k64 64 w' w.heap.size (fun k_ => some k_ ≠ (.slice Ao45 t644.length co45 : Value).ownBlock) s_.1 t656) ∧ (Kd.R (Kd.int .i64) 3 w' w.heap.size (fun k_ => some k_ ≠ (.slice Ao46 t647.length co46 : Value).ownBlock ∧ some k_ ≠ (.slice Ao47 t650.length co47 : Value).ownBlock ∧ some k_ ≠ (s_.2.2.1 : Value).ownBlock) s_.2.1 t659) ∧ (Kd.R (Kd.int .i64) 3 w' w.heap.size (fun k_ => some k_ ≠ (.slice Ao46 t647.length co46 : Value).ownBlock ∧ some k_ ≠ (.slice Ao47 t650.length co47 : Value).ownBlock ∧ some k_ ≠ (s_.2.1 : Value).ownBlock) s_.2.2.1 t662) ∧ (w'.heap[gb654]? = some (.cells #[.int .i64 t643, .slice Ao45 t644.length co45, .slice Ao46 t647.length co46, .slice Ao47 t650.length co47] 27 (0, 0))) ∧ (w'.heap[s_.2.2.2]? = some (.cells #[.int .i64 0, .slice none 0 0, .slice none 0 0, .slice none 0 0] 27 (0, 0))) ∧ (w.heap.size ≤ s_.2.2.2) ∧ (w.heap.size ≤ s_.2.2.2) ∧ (gb654 ≠ s_.2.2.2) ∧ (s_.2.2.2 ≠ gb654) ∧ (Below w.heap.size w w')) ?_ ?_
         rotate_left
         ·intro hJ2_6
          refine join_ (σ := Value × Value × Value × Nat) 4 #[true, true, true, true, true, false, false, true, false, false] (fun s_ => [(35, .agg #[.int .i64 t655, s_.1, s_.2.1, s_.2.2.1]), (11, .pointer (some ⟨s_.2.2.2, 0, none⟩))]) (fun s_ w' => (w'.cell? ⟨gb654, 0, none⟩ = some (.int .i64 t643) ∧ w'.cell? ⟨gb654, 1, none⟩ = some (.slice Ao45 t644.length co45) ∧ w'.cell? ⟨gb654, 2, none⟩ = some (.slice Ao46 t647.length co46) ∧ w'.cell? ⟨gb654, 3, none⟩ = some (.slice Ao47 t650.length co47)) ∧ (Kd.R k64 64 w' w.heap.size (fun k_ => some k_ ≠ (s_.1 : Value).ownBlock) (.slice Ao45 t644.length co45) t644) ∧ (Kd.R (Kd.int .i64) 3 w' w.heap.size (fun k_ => some k_ ≠ (.slice Ao47 t650.length co47 : Value).ownBlock ∧ some k_ ≠ (s_.2.1 : Value).ownBlock ∧ some k_ ≠ (s_.2.2.1 : Value).ownBlock) (.slice Ao46 t647.length co46) t647) ∧ (Kd.R (Kd.int .i64) 3 w' w.heap.size (fun k_ => some k_ ≠ (.slice Ao46 t647.length co46 : Value).ownBlock ∧ some k_ ≠ (s_.2.1 : Value).ownBlock ∧ some k_ ≠ (s_.2.2.1 : Value).ownBlock) (.slice Ao47 t650.length co47) t650) ∧ (Kd.R k64 64 w' w.heap.size (fun k_ => some k_ ≠ (.slice Ao45 t644.length co45 : Value).ownBlock) s_.1 t656) ∧ (Kd.R (Kd.int .i64) 3 w' w.heap.size (fun k_ => some k_ ≠ (.slice Ao46 t647.length co46 : Value).ownBlock ∧ some k_ ≠ (.slice Ao47 t650.length co47 : Value).ownBlock ∧ some k_ ≠ (s_.2.2.1 : Value).ownBlock) s_.2.1 t659) ∧ (Kd.R (Kd.int .i64) 3 w' w.heap.size (fun k_ => some k_ ≠ (.slice Ao46 t647.length co46 : Value).ownBlock ∧ some k_ ≠ (.slice Ao47 t650.length co47 : Value).ownBlock ∧ some k_ ≠ (s_.2.1 : Value).ownBlock) s_.2.2.1 t662) ∧ (w'.heap[gb654]? = some (.cells #[.int .i64 t643, .slice Ao45 t644.length co45, .slice Ao46 t647.length co46, .slice Ao47 t650.length co47] 27 (0, 0))) ∧ (w'.heap[s_.2.2.2]? = some (.cells #[.int .i64 0, .slice none 0 0, .slice none 0 0, .slice none 0 0] 27 (0, 0))) ∧ (w.heap.size ≤ s_.2.2.2) ∧ (w.heap.size ≤ s_.2.2.2) ∧ (gb654 ≠ s_.2.2.2) ∧ (s_.2.2.2 ≠ gb654) ∧ (Below w.heap.size w w')) ?_ ?_
          rotate_left
          ·intro hJ2_7
           refine join_ (σ := Nat × Nat) 4 #[true, true, false, true, true, false, true, true, false, false] (fun s_ => [(10, .pointer (some ⟨s_.1, 0, none⟩)), (11, .pointer (some ⟨s_.2, 0, none⟩))]) (fun s_ w' => (w'.cell? ⟨gb654, 0, none⟩ = some (.int .i64 t643) ∧ w'.cell? ⟨gb654, 1, none⟩ = some (.slice Ao45 t644.length co45) ∧ w'.cell? ⟨gb654, 2, none⟩ = some (.slice Ao46 t647.length co46) ∧ w'.cell? ⟨gb654, 3, none⟩ = some (.slice Ao47 t650.length co47)) ∧ (Kd.R k64 64 w' w.heap.size (fun _ => True) (.slice Ao45 t644.length co45) t644) ∧ (Kd.R (Kd.int .i64) 3 w' w.heap.size (fun k_ => some k_ ≠ (.slice Ao47 t650.length co47 : Value).ownBlock) (.slice Ao46 t647.length co46) t647) ∧ (Kd.R (Kd.int .i64) 3 w' w.heap.size (fun k_ => some k_ ≠ (.slice Ao46 t647.length co46 : Value).ownBlock) (.slice Ao47 t650.length co47) t650) ∧ (w'.heap[gb654]? = some (.cells #[.int .i64 t643, .slice Ao45 t644.length co45, .slice Ao46 t647.length co46, .slice Ao47 t650.length co47] 27 (0, 0))) ∧ (w'.heap[s_.1]? = some (.cells #[.int .i64 0, .slice none 0 0, .slice none 0 0, .slice none 0 0] 27 (0, 0))) ∧ (w'.heap[s_.2]? = some (.cells #[.int .i64 0, .slice none 0 0, .slice none 0 0, .slice none 0 0] 27 (0, 0))) ∧ (w.heap.size ≤ s_.1) ∧ (w.heap.size ≤ s_.1) ∧ (gb654 ≠ s_.1) ∧ (s_.1 ≠ gb654) ∧ (s_.2 ≠ s_.1) ∧ (s_.1 ≠ s_.2) ∧ (w.heap.size ≤ s_.2) ∧ (w.heap.size ≤ s_.2) ∧ (gb654 ≠ s_.2) ∧ (s_.2 ≠ gb654) ∧ (Below w.heap.size w w')) ?_ ?_
           rotate_left
           ·intro hJ6_7
            refine join_ (σ := Value × Value × Value) 5 #[true, true, true, true, true, false, false, false, false, false] (fun s_ => [(35, .agg #[.int .i64 t655, s_.1, s_.2.1, s_.2.2])]) (fun s_ w' => (w'.cell? ⟨gb654, 0, none⟩ = some (.int .i64 t643) ∧ w'.cell? ⟨gb654, 1, none⟩ = some (.slice Ao45 t644.length co45) ∧ w'.cell? ⟨gb654, 2, none⟩ = some (.slice Ao46 t647.length co46) ∧ w'.cell? ⟨gb654, 3, none⟩ = some (.slice Ao47 t650.length co47)) ∧ (Kd.R k64 64 w' w.heap.size (fun k_ => some k_ ≠ (s_.1 : Value).ownBlock) (.slice Ao45 t644.length co45) t644) ∧ (Kd.R (Kd.int .i64) 3 w' w.heap.size (fun k_ => some k_ ≠ (.slice Ao47 t650.length co47 : Value).ownBlock ∧ some k_ ≠ (s_.2.1 : Value).ownBlock ∧ some k_ ≠ (s_.2.2 : Value).ownBlock) (.slice Ao46 t647.length co46) t647) ∧ (Kd.R (Kd.int .i64) 3 w' w.heap.size (fun k_ => some k_ ≠ (.slice Ao46 t647.length co46 : Value).ownBlock ∧ some k_ ≠ (s_.2.1 : Value).ownBlock ∧ some k_ ≠ (s_.2.2 : Value).ownBlock) (.slice Ao47 t650.length co47) t650) ∧ (Kd.R k64 64 w' w.heap.size (fun k_ => some k_ ≠ (.slice Ao45 t644.length co45 : Value).ownBlock) s_.1 t656) ∧ (Kd.R (Kd.int .i64) 3 w' w.heap.size (fun k_ => some k_ ≠ (.slice Ao46 t647.length co46 : Value).ownBlock ∧ some k_ ≠ (.slice Ao47 t650.length co47 : Value).ownBlock ∧ some k_ ≠ (s_.2.2 : Value).ownBlock) s_.2.1 t659) ∧ (Kd.R (Kd.int .i64) 3 w' w.heap.size (fun k_ => some k_ ≠ (.slice Ao46 t647.length co46 : Value).ownBlock ∧ some k_ ≠ (.slice Ao47 t650.length co47 : Value).ownBlock ∧ some k_ ≠ (s_.2.1 : Value).ownBlock) s_.2.2 t662) ∧ (w'.heap[gb654]? = some (.cells #[.int .i64 t643, .slice Ao45 t644.length co45, .slice Ao46 t647.length co46, .slice Ao47 t650.length co47] 27 (0, 0))) ∧ (Below w.heap.size w w')) ?_ ?_
            rotate_left
            ·intro hJ2
             refine join_ (σ := Nat) 5 #[true, true, false, true, true, false, true, false, false, false] (fun s_ => [(10, .pointer (some ⟨s_, 0, none⟩))]) (fun s_ w' => (w'.cell? ⟨gb654, 0, none⟩ = some (.int .i64 t643) ∧ w'.cell? ⟨gb654, 1, none⟩ = some (.slice Ao45 t644.length co45) ∧ w'.cell? ⟨gb654, 2, none⟩ = some (.slice Ao46 t647.length co46) ∧ w'.cell? ⟨gb654, 3, none⟩ = some (.slice Ao47 t650.length co47)) ∧ (Kd.R k64 64 w' w.heap.size (fun _ => True) (.slice Ao45 t644.length co45) t644) ∧ (Kd.R (Kd.int .i64) 3 w' w.heap.size (fun k_ => some k_ ≠ (.slice Ao47 t650.length co47 : Value).ownBlock) (.slice Ao46 t647.length co46) t647) ∧ (Kd.R (Kd.int .i64) 3 w' w.heap.size (fun k_ => some k_ ≠ (.slice Ao46 t647.length co46 : Value).ownBlock) (.slice Ao47 t650.length co47) t650) ∧ (w'.heap[gb654]? = some (.cells #[.int .i64 t643, .slice Ao45 t644.length co45, .slice Ao46 t647.length co46, .slice Ao47 t650.length co47] 27 (0, 0))) ∧ (w'.heap[s_]? = some (.cells #[.int .i64 0, .slice none 0 0, .slice none 0 0, .slice none 0 0] 27 (0, 0))) ∧ (w.heap.size ≤ s_) ∧ (w.heap.size ≤ s_) ∧ (gb654 ≠ s_) ∧ (s_ ≠ gb654) ∧ (Below w.heap.size w w')) ?_ ?_
             rotate_left
             ·intro hJ6
              refine join_ (σ := Nat) 5 #[true, true, false, true, true, false, false, true, false, false] (fun s_ => [(11, .pointer (some ⟨s_, 0, none⟩))]) (fun s_ w' => (w'.cell? ⟨gb654, 0, none⟩ = some (.int .i64 t643) ∧ w'.cell? ⟨gb654, 1, none⟩ = some (.slice Ao45 t644.length co45) ∧ w'.cell? ⟨gb654, 2, none⟩ = some (.slice Ao46 t647.length co46) ∧ w'.cell? ⟨gb654, 3, none⟩ = some (.slice Ao47 t650.length co47)) ∧ (Kd.R k64 64 w' w.heap.size (fun _ => True) (.slice Ao45 t644.length co45) t644) ∧ (Kd.R (Kd.int .i64) 3 w' w.heap.size (fun k_ => some k_ ≠ (.slice Ao47 t650.length co47 : Value).ownBlock) (.slice Ao46 t647.length co46) t647) ∧ (Kd.R (Kd.int .i64) 3 w' w.heap.size (fun k_ => some k_ ≠ (.slice Ao46 t647.length co46 : Value).ownBlock) (.slice Ao47 t650.length co47) t650) ∧ (w'.heap[gb654]? = some (.cells #[.int .i64 t643, .slice Ao45 t644.length co45, .slice Ao46 t647.length co46, .slice Ao47 t650.length co47] 27 (0, 0))) ∧ (w'.heap[s_]? = some (.cells #[.int .i64 0, .slice none 0 0, .slice none 0 0, .slice none 0 0] 27 (0, 0))) ∧ (w.heap.size ≤ s_) ∧ (w.heap.size ≤ s_) ∧ (gb654 ≠ s_) ∧ (s_ ≠ gb654) ∧ (Below w.heap.size w w')) ?_ ?_
              rotate_left
              ·intro hJ7
               refine three_ (i := 2) (j := 6) (k := 7) (Ni := some 35) (Nj := some 10) (Nk := some 11) #[true, true, true, true, true, false, false, false, false, false] #[true, true, false, true, true, false, true, false, false, false] #[true, true, false, true, true, false, false, true, false, false] rfl rfl rfl rfl rfl rfl (three_of HT_.out (by kernel_rfl)) (by decide) (by decide) (by decide) (fun K hK => ?_) (fun K hK => ?_) (fun K hK => ?_)
               ·skip
                refine goes_ Tryz.func26 (by kernel_rfl) rfl #[.agg #[.int .i64 t643, .slice Ao45 t644.length co45, .slice Ao46 t647.length co46, .slice Ao47 t650.length co47], .int .i64 0, .int .i64 (Go.bits .and .i64 a1 4095)] (by rfl) rfl rfl (by (simp only [List.map_toArray, List.map_cons, List.map_nil]); rfl) ?_
                with_reducible refine (poslist_List_Slice.calls kj3 t643 _ _ t644 _ _ t647 _ _ t650 0 (Go.bits .and .i64 a1 4095) t655 t656 t659 t662 _ ?side1 ?side2 ?side3 ?side4 ?side5 ?side6 A12.out).mono ?_
                (case side1 => exact cx (Kd.R_reads' HO646.out).2.2)
                (case side2 => exact (Kd.R_reads' HO646.out).2.1)
                (case side3 => exact cx (Kd.R_reads' HO649.out).2.2)
                (case side4 => exact (Kd.R_reads' HO649.out).2.1)
                (case side5 => exact cx (Kd.R_reads' HO652.out).2.2)
                (case side6 => exact (Kd.R_reads' HO652.out).2.1)
                rintro e w50 ⟨v657, v660, v663, rfl, ho0, ho1, ho2, hb⟩
                refine ⟨_, rfl, ?_⟩
                have HO658 := Aside0.mk (Kd.R_lower (Kd.R_new' ho0 (Kd.R_lt (rx HO646.out))) (below_size (bh HB.out)))
                replace HO646 := Aside0.mk (Kd.R_elder' (rx HO646.out) (Kd.R_base ho0) hb)
                have HO661 := Aside0.mk (Kd.R_lower (Kd.R_new' (Kd.R_new' ho1 (Kd.R_lt (rx HO649.out))) (Kd.R_lt (rx HO652.out))) (below_size (bh HB.out)))
                have HO664 := Aside0.mk (Kd.R_lower (Kd.R_new' (Kd.R_new' ho2 (Kd.R_lt (rx HO649.out))) (Kd.R_lt (rx HO652.out))) (below_size (bh HB.out)))
                replace HO649 := Aside0.mk (Kd.R_mono (Kd.R_told (Kd.R_told (Kd.R_old (rx HO649.out) hb) (Kd.R_base ho1)) (Kd.R_base ho2)) (fun _ h_ => h_.1))
                replace HO652 := Aside0.mk (Kd.R_mono (Kd.R_told (Kd.R_told (Kd.R_old (rx HO652.out) hb) (Kd.R_base ho1)) (Kd.R_base ho2)) (fun _ h_ => h_.1))
                replace BK654 := bba BK654 hb
                replace HB := bsa HB hb
                clear hb ho0 ho1 ho2
                refine hK.out _ _ ⟨(blk_cell BK654.out 0).trans rfl, (blk_cell BK654.out 1).trans rfl, (blk_cell BK654.out 2).trans rfl, (blk_cell BK654.out 3).trans rfl⟩ (fun hHeld => ?_)
                clear hK K
                refine norm_ (a' := ?_) ?_ ?_
                rotate_left
                ·show Act.put _ (some 35) _ = _
                 simp only [Act.put, List.setIfInBounds_toArray, List.set_cons_zero, List.set_cons_succ, i64_w, i32_w]
                 rfl
                exact norm_ (by (simp only [putAll, Act.put, List.setIfInBounds_toArray, List.set_cons_zero, List.set_cons_succ]; done)) (hJ2 (v657, v660, v663) _ ⟨hHeld, (by exact Kd.R_mono HO646.out (fun _ hk => hk.2)), (by exact Kd.R_mono HO649.out (fun _ hk => ⟨hk.1.1, ⟨hk.1.2, hk.2⟩⟩)), (by exact Kd.R_mono HO652.out (fun _ hk => ⟨hk.1.1, ⟨hk.1.2, hk.2⟩⟩)), (by exact Kd.R_mono HO658.out (fun _ hk => hk.2)), (by exact Kd.R_mono HO661.out (fun _ hk => ⟨hk.1.2, ⟨hk.2, hk.1.1⟩⟩)), (by exact Kd.R_mono HO664.out (fun _ hk => ⟨hk.1.2, ⟨hk.2, hk.1.1⟩⟩)), (bx BK654.out), (bh HB.out)⟩)
               ·skip
                refine box_step ?hg (N := 10) ?hd (cs := #[.int .i64 0, .slice none 0 0, .slice none 0 0, .slice none 0 0]) (t := 27) ?hr ?_; (case hd => rfl); (case hg => rfl); (case hr => (go_simp; done))
                intro gb675 hg w50 hbox hb
                replace HO646 := rba HO646 hb
                replace HO649 := rba HO649 hb
                replace HO652 := rba HO652 hb
                have BK675 := Aside0.mk (hbox)
                have GW675 := bza HB hg
                have GE675 := bza HB hg
                replace HB := bsa HB hb
                obtain ⟨NB654_675, NB675_654⟩ := bnm BK654 hg
                replace BK654 := bba BK654 hb
                clear hb hbox hg
                refine hK.out _ _ ⟨(blk_cell BK654.out 0).trans rfl, (blk_cell BK654.out 1).trans rfl, (blk_cell BK654.out 2).trans rfl, (blk_cell BK654.out 3).trans rfl⟩ (fun hHeld => ?_)
                clear hK K
                refine norm_ (a' := ?_) ?_ ?_
                rotate_left
                ·show Act.put _ (some 10) _ = _
                 simp only [Act.put, List.setIfInBounds_toArray, List.set_cons_zero, List.set_cons_succ, i64_w, i32_w]
                 rfl
                exact norm_ (by (simp only [putAll, Act.put, List.setIfInBounds_toArray, List.set_cons_zero, List.set_cons_succ]; done)) (hJ6 (gb675) _ ⟨hHeld, (rx HO646.out), (rx HO649.out), (rx HO652.out), (bx BK654.out), (bx BK675.out), GW675.out, GE675.out, NB654_675.out, NB675_654.out, (bh HB.out)⟩)
               ·skip
                refine box_step ?hg (N := 11) ?hd (cs := #[.int .i64 0, .slice none 0 0, .slice none 0 0, .slice none 0 0]) (t := 27) ?hr ?_; (case hd => rfl); (case hg => rfl); (case hr => (go_simp; done))
                intro gb676 hg w50 hbox hb
                replace HO646 := rba HO646 hb
                replace HO649 := rba HO649 hb
                replace HO652 := rba HO652 hb
                have BK676 := Aside0.mk (hbox)
                have GW676 := bza HB hg
                have GE676 := bza HB hg
                replace HB := bsa HB hb
                obtain ⟨NB654_676, NB676_654⟩ := bnm BK654 hg
                replace BK654 := bba BK654 hb
                clear hb hbox hg
                refine hK.out _ _ ⟨(blk_cell BK654.out 0).trans rfl, (blk_cell BK654.out 1).trans rfl, (blk_cell BK654.out 2).trans rfl, (blk_cell BK654.out 3).trans rfl⟩ (fun hHeld => ?_)
                clear hK K
                refine norm_ (a' := ?_) ?_ ?_
                rotate_left
                ·show Act.put _ (some 11) _ = _
                 simp only [Act.put, List.setIfInBounds_toArray, List.set_cons_zero, List.set_cons_succ, i64_w, i32_w]
                 rfl
                exact norm_ (by (simp only [putAll, Act.put, List.setIfInBounds_toArray, List.set_cons_zero, List.set_cons_succ]; done)) (hJ7 (gb676) _ ⟨hHeld, (rx HO646.out), (rx HO649.out), (rx HO652.out), (bx BK654.out), (bx BK676.out), GW676.out, GE676.out, NB654_676.out, NB676_654.out, (bh HB.out)⟩)
              ·skip
               rintro gb676 w51 ⟨hS_, h0_, h1_, h2_, h3_, h4_, h5_, h6_, h7_, h8_, h9_⟩
               have n0_ : Aside0 (Kd.R k64 64 w51 w.heap.size (fun _ => True) (.slice Ao45 t644.length co45) t644) := ⟨h0_⟩
               have n1_ : Aside0 (Kd.R (Kd.int .i64) 3 w51 w.heap.size (fun k_ => some k_ ≠ (.slice Ao47 t650.length co47 : Value).ownBlock) (.slice Ao46 t647.length co46) t647) := ⟨h1_⟩
               have n2_ : Aside0 (Kd.R (Kd.int .i64) 3 w51 w.heap.size (fun k_ => some k_ ≠ (.slice Ao46 t647.length co46 : Value).ownBlock) (.slice Ao47 t650.length co47) t650) := ⟨h2_⟩
               have n3_ : Aside0 (w51.heap[gb654]? = some (.cells #[.int .i64 t643, .slice Ao45 t644.length co45, .slice Ao46 t647.length co46, .slice Ao47 t650.length co47] 27 (0, 0))) := ⟨h3_⟩
               have n4_ : Aside0 (w51.heap[gb676]? = some (.cells #[.int .i64 0, .slice none 0 0, .slice none 0 0, .slice none 0 0] 27 (0, 0))) := ⟨h4_⟩
               have n5_ : Aside0 (w.heap.size ≤ gb676) := ⟨h5_⟩
               have n6_ : Aside0 (w.heap.size ≤ gb676) := ⟨h6_⟩
               have n7_ : Aside0 (gb654 ≠ gb676) := ⟨h7_⟩
               have n8_ : Aside0 (gb676 ≠ gb654) := ⟨h8_⟩
               have n9_ : Aside0 (Below w.heap.size w w51) := ⟨h9_⟩
               clear HO646 HO649 HO652 BK654 HB h0_ h1_ h2_ h3_ h4_ h5_ h6_ h7_ h8_ h9_
               have HO646 := n0_
               have HO649 := n1_
               have HO652 := n2_
               have BK654 := n3_
               have BK676 := n4_
               have GW676 := n5_
               have GE676 := n6_
               have NB654_676 := n7_
               have NB676_654 := n8_
               have HB := n9_
               clear n0_ n1_ n2_ n3_ n4_ n5_ n6_ n7_ n8_ n9_
               have hHeld : w51.cell? ⟨gb654, 0, none⟩ = some (.int .i64 t643) ∧ w51.cell? ⟨gb654, 1, none⟩ = some (.slice Ao45 t644.length co45) ∧ w51.cell? ⟨gb654, 2, none⟩ = some (.slice Ao46 t647.length co46) ∧ w51.cell? ⟨gb654, 3, none⟩ = some (.slice Ao47 t650.length co47) := hS_
               refine norm_ (a' := ?_) ?_ ?_
               rotate_left
               ·simp only [putAll, Act.put, List.setIfInBounds_toArray, List.set_cons_zero, List.set_cons_succ]
                rfl
               refine two_ (i := 2) (j := 6) (Ni := some 35) (Nj := some 10) #[true, true, true, true, true, false, false, true, false, false] #[true, true, false, true, true, false, true, true, false, false] rfl rfl rfl rfl (two_of HT_.out (by kernel_rfl)) (by decide) (by decide) (fun K hK => ?_) (fun K hK => ?_)
               ·skip
                refine goes_ Tryz.func26 (by kernel_rfl) rfl #[.agg #[.int .i64 t643, .slice Ao45 t644.length co45, .slice Ao46 t647.length co46, .slice Ao47 t650.length co47], .int .i64 0, .int .i64 (Go.bits .and .i64 a1 4095)] (by rfl) rfl rfl (by (simp only [List.map_toArray, List.map_cons, List.map_nil]); rfl) ?_
                with_reducible refine (poslist_List_Slice.calls kj3 t643 _ _ t644 _ _ t647 _ _ t650 0 (Go.bits .and .i64 a1 4095) t655 t656 t659 t662 _ ?side1 ?side2 ?side3 ?side4 ?side5 ?side6 A12.out).mono ?_
                (case side1 => exact cx (Kd.R_reads' HO646.out).2.2)
                (case side2 => exact (Kd.R_reads' HO646.out).2.1)
                (case side3 => exact cx (Kd.R_reads' HO649.out).2.2)
                (case side4 => exact (Kd.R_reads' HO649.out).2.1)
                (case side5 => exact cx (Kd.R_reads' HO652.out).2.2)
                (case side6 => exact (Kd.R_reads' HO652.out).2.1)
                rintro e w52 ⟨v657, v660, v663, rfl, ho0, ho1, ho2, hb⟩
                refine ⟨_, rfl, ?_⟩
                have HO658 := Aside0.mk (Kd.R_lower (Kd.R_new' ho0 (Kd.R_lt (rx HO646.out))) (below_size (bh HB.out)))
                replace HO646 := Aside0.mk (Kd.R_elder' (rx HO646.out) (Kd.R_base ho0) hb)
                have HO661 := Aside0.mk (Kd.R_lower (Kd.R_new' (Kd.R_new' ho1 (Kd.R_lt (rx HO649.out))) (Kd.R_lt (rx HO652.out))) (below_size (bh HB.out)))
                have HO664 := Aside0.mk (Kd.R_lower (Kd.R_new' (Kd.R_new' ho2 (Kd.R_lt (rx HO649.out))) (Kd.R_lt (rx HO652.out))) (below_size (bh HB.out)))
                replace HO649 := Aside0.mk (Kd.R_mono (Kd.R_told (Kd.R_told (Kd.R_old (rx HO649.out) hb) (Kd.R_base ho1)) (Kd.R_base ho2)) (fun _ h_ => h_.1))
                replace HO652 := Aside0.mk (Kd.R_mono (Kd.R_told (Kd.R_told (Kd.R_old (rx HO652.out) hb) (Kd.R_base ho1)) (Kd.R_base ho2)) (fun _ h_ => h_.1))
                replace BK654 := bba BK654 hb
                replace BK676 := bba BK676 hb
                replace HB := bsa HB hb
                clear hb ho0 ho1 ho2
                refine hK.out _ _ ⟨(blk_cell BK654.out 0).trans rfl, (blk_cell BK654.out 1).trans rfl, (blk_cell BK654.out 2).trans rfl, (blk_cell BK654.out 3).trans rfl⟩ (fun hHeld => ?_)
                clear hK K
                refine norm_ (a' := ?_) ?_ ?_
                rotate_left
                ·show Act.put _ (some 35) _ = _
                 simp only [Act.put, List.setIfInBounds_toArray, List.set_cons_zero, List.set_cons_succ, i64_w, i32_w]
                 rfl
                exact norm_ (by (simp only [putAll, Act.put, List.setIfInBounds_toArray, List.set_cons_zero, List.set_cons_succ]; done)) (hJ2_7 (v657, v660, v663, gb676) _ ⟨hHeld, (by exact Kd.R_mono HO646.out (fun _ hk => hk.2)), (by exact Kd.R_mono HO649.out (fun _ hk => ⟨hk.1.1, ⟨hk.1.2, hk.2⟩⟩)), (by exact Kd.R_mono HO652.out (fun _ hk => ⟨hk.1.1, ⟨hk.1.2, hk.2⟩⟩)), (by exact Kd.R_mono HO658.out (fun _ hk => hk.2)), (by exact Kd.R_mono HO661.out (fun _ hk => ⟨hk.1.2, ⟨hk.2, hk.1.1⟩⟩)), (by exact Kd.R_mono HO664.out (fun _ hk => ⟨hk.1.2, ⟨hk.2, hk.1.1⟩⟩)), (bx BK654.out), (bx BK676.out), GW676.out, GE676.out, NB654_676.out, NB676_654.out, (bh HB.out)⟩)
               ·skip
                refine box_step ?hg (N := 10) ?hd (cs := #[.int .i64 0, .slice none 0 0, .slice none 0 0, .slice none 0 0]) (t := 27) ?hr ?_; (case hd => rfl); (case hg => rfl); (case hr => (go_simp; done))
                intro gb675 hg w52 hbox hb
                replace HO646 := rba HO646 hb
                replace HO649 := rba HO649 hb
                replace HO652 := rba HO652 hb
                have BK675 := Aside0.mk (hbox)
                have GW675 := bza HB hg
                have GE675 := bza HB hg
                replace HB := bsa HB hb
                obtain ⟨NB654_675, NB675_654⟩ := bnm BK654 hg
                replace BK654 := bba BK654 hb
                obtain ⟨NB676_675, NB675_676⟩ := bnm BK676 hg
                replace BK676 := bba BK676 hb
                clear hb hbox hg
                refine hK.out _ _ ⟨(blk_cell BK654.out 0).trans rfl, (blk_cell BK654.out 1).trans rfl, (blk_cell BK654.out 2).trans rfl, (blk_cell BK654.out 3).trans rfl⟩ (fun hHeld => ?_)
                clear hK K
                refine norm_ (a' := ?_) ?_ ?_
                rotate_left
                ·show Act.put _ (some 10) _ = _
                 simp only [Act.put, List.setIfInBounds_toArray, List.set_cons_zero, List.set_cons_succ, i64_w, i32_w]
                 rfl
                exact norm_ (by (simp only [putAll, Act.put, List.setIfInBounds_toArray, List.set_cons_zero, List.set_cons_succ]; done)) (hJ6_7 (gb675, gb676) _ ⟨hHeld, (rx HO646.out), (rx HO649.out), (rx HO652.out), (bx BK654.out), (bx BK675.out), (bx BK676.out), GW675.out, GE675.out, NB654_675.out, NB675_654.out, NB676_675.out, NB675_676.out, GW676.out, GE676.out, NB654_676.out, NB676_654.out, (bh HB.out)⟩)
             ·skip
              rintro gb675 w51 ⟨hS_, h0_, h1_, h2_, h3_, h4_, h5_, h6_, h7_, h8_, h9_⟩
              have n0_ : Aside0 (Kd.R k64 64 w51 w.heap.size (fun _ => True) (.slice Ao45 t644.length co45) t644) := ⟨h0_⟩
              have n1_ : Aside0 (Kd.R (Kd.int .i64) 3 w51 w.heap.size (fun k_ => some k_ ≠ (.slice Ao47 t650.length co47 : Value).ownBlock) (.slice Ao46 t647.length co46) t647) := ⟨h1_⟩
              have n2_ : Aside0 (Kd.R (Kd.int .i64) 3 w51 w.heap.size (fun k_ => some k_ ≠ (.slice Ao46 t647.length co46 : Value).ownBlock) (.slice Ao47 t650.length co47) t650) := ⟨h2_⟩
              have n3_ : Aside0 (w51.heap[gb654]? = some (.cells #[.int .i64 t643, .slice Ao45 t644.length co45, .slice Ao46 t647.length co46, .slice Ao47 t650.length co47] 27 (0, 0))) := ⟨h3_⟩
              have n4_ : Aside0 (w51.heap[gb675]? = some (.cells #[.int .i64 0, .slice none 0 0, .slice none 0 0, .slice none 0 0] 27 (0, 0))) := ⟨h4_⟩
              have n5_ : Aside0 (w.heap.size ≤ gb675) := ⟨h5_⟩
              have n6_ : Aside0 (w.heap.size ≤ gb675) := ⟨h6_⟩
              have n7_ : Aside0 (gb654 ≠ gb675) := ⟨h7_⟩
              have n8_ : Aside0 (gb675 ≠ gb654) := ⟨h8_⟩
              have n9_ : Aside0 (Below w.heap.size w w51) := ⟨h9_⟩
              clear HO646 HO649 HO652 BK654 HB h0_ h1_ h2_ h3_ h4_ h5_ h6_ h7_ h8_ h9_
              have HO646 := n0_
              have HO649 := n1_
              have HO652 := n2_
              have BK654 := n3_
              have BK675 := n4_
              have GW675 := n5_
              have GE675 := n6_
              have NB654_675 := n7_
              have NB675_654 := n8_
              have HB := n9_
              clear n0_ n1_ n2_ n3_ n4_ n5_ n6_ n7_ n8_ n9_
              have hHeld : w51.cell? ⟨gb654, 0, none⟩ = some (.int .i64 t643) ∧ w51.cell? ⟨gb654, 1, none⟩ = some (.slice Ao45 t644.length co45) ∧ w51.cell? ⟨gb654, 2, none⟩ = some (.slice Ao46 t647.length co46) ∧ w51.cell? ⟨gb654, 3, none⟩ = some (.slice Ao47 t650.length co47) := hS_
              refine norm_ (a' := ?_) ?_ ?_
              rotate_left
              ·simp only [putAll, Act.put, List.setIfInBounds_toArray, List.set_cons_zero, List.set_cons_succ]
               rfl
              refine two_ (i := 2) (j := 7) (Ni := some 35) (Nj := some 11) #[true, true, true, true, true, false, true, false, false, false] #[true, true, false, true, true, false, true, true, false, false] rfl rfl rfl rfl (two_of HT_.out (by kernel_rfl)) (by decide) (by decide) (fun K hK => ?_) (fun K hK => ?_)
              ·skip
               refine goes_ Tryz.func26 (by kernel_rfl) rfl #[.agg #[.int .i64 t643, .slice Ao45 t644.length co45, .slice Ao46 t647.length co46, .slice Ao47 t650.length co47], .int .i64 0, .int .i64 (Go.bits .and .i64 a1 4095)] (by rfl) rfl rfl (by (simp only [List.map_toArray, List.map_cons, List.map_nil]); rfl) ?_
               with_reducible refine (poslist_List_Slice.calls kj3 t643 _ _ t644 _ _ t647 _ _ t650 0 (Go.bits .and .i64 a1 4095) t655 t656 t659 t662 _ ?side1 ?side2 ?side3 ?side4 ?side5 ?side6 A12.out).mono ?_
               (case side1 => exact cx (Kd.R_reads' HO646.out).2.2)
               (case side2 => exact (Kd.R_reads' HO646.out).2.1)
               (case side3 => exact cx (Kd.R_reads' HO649.out).2.2)
               (case side4 => exact (Kd.R_reads' HO649.out).2.1)
               (case side5 => exact cx (Kd.R_reads' HO652.out).2.2)
               (case side6 => exact (Kd.R_reads' HO652.out).2.1)
               rintro e w52 ⟨v657, v660, v663, rfl, ho0, ho1, ho2, hb⟩
               refine ⟨_, rfl, ?_⟩
               have HO658 := Aside0.mk (Kd.R_lower (Kd.R_new' ho0 (Kd.R_lt (rx HO646.out))) (below_size (bh HB.out)))
               replace HO646 := Aside0.mk (Kd.R_elder' (rx HO646.out) (Kd.R_base ho0) hb)
               have HO661 := Aside0.mk (Kd.R_lower (Kd.R_new' (Kd.R_new' ho1 (Kd.R_lt (rx HO649.out))) (Kd.R_lt (rx HO652.out))) (below_size (bh HB.out)))
               have HO664 := Aside0.mk (Kd.R_lower (Kd.R_new' (Kd.R_new' ho2 (Kd.R_lt (rx HO649.out))) (Kd.R_lt (rx HO652.out))) (below_size (bh HB.out)))
               replace HO649 := Aside0.mk (Kd.R_mono (Kd.R_told (Kd.R_told (Kd.R_old (rx HO649.out) hb) (Kd.R_base ho1)) (Kd.R_base ho2)) (fun _ h_ => h_.1))
               replace HO652 := Aside0.mk (Kd.R_mono (Kd.R_told (Kd.R_told (Kd.R_old (rx HO652.out) hb) (Kd.R_base ho1)) (Kd.R_base ho2)) (fun _ h_ => h_.1))
               replace BK654 := bba BK654 hb
               replace BK675 := bba BK675 hb
               replace HB := bsa HB hb
               clear hb ho0 ho1 ho2
               refine hK.out _ _ ⟨(blk_cell BK654.out 0).trans rfl, (blk_cell BK654.out 1).trans rfl, (blk_cell BK654.out 2).trans rfl, (blk_cell BK654.out 3).trans rfl⟩ (fun hHeld => ?_)
               clear hK K
               refine norm_ (a' := ?_) ?_ ?_
               rotate_left
               ·show Act.put _ (some 35) _ = _
                simp only [Act.put, List.setIfInBounds_toArray, List.set_cons_zero, List.set_cons_succ, i64_w, i32_w]
                rfl
               exact norm_ (by (simp only [putAll, Act.put, List.setIfInBounds_toArray, List.set_cons_zero, List.set_cons_succ]; done)) (hJ2_6 (v657, v660, v663, gb675) _ ⟨hHeld, (by exact Kd.R_mono HO646.out (fun _ hk => hk.2)), (by exact Kd.R_mono HO649.out (fun _ hk => ⟨hk.1.1, ⟨hk.1.2, hk.2⟩⟩)), (by exact Kd.R_mono HO652.out (fun _ hk => ⟨hk.1.1, ⟨hk.1.2, hk.2⟩⟩)), (by exact Kd.R_mono HO658.out (fun _ hk => hk.2)), (by exact Kd.R_mono HO661.out (fun _ hk => ⟨hk.1.2, ⟨hk.2, hk.1.1⟩⟩)), (by exact Kd.R_mono HO664.out (fun _ hk => ⟨hk.1.2, ⟨hk.2, hk.1.1⟩⟩)), (bx BK654.out), (bx BK675.out), GW675.out, GE675.out, NB654_675.out, NB675_654.out, (bh HB.out)⟩)
              ·skip
               refine box_step ?hg (N := 11) ?hd (cs := #[.int .i64 0, .slice none 0 0, .slice none 0 0, .slice none 0 0]) (t := 27) ?hr ?_; (case hd => rfl); (case hg => rfl); (case hr => (go_simp; done))
               intro gb676 hg w52 hbox hb
               replace HO646 := rba HO646 hb
               replace HO649 := rba HO649 hb
               replace HO652 := rba HO652 hb
               have BK676 := Aside0.mk (hbox)
               have GW676 := bza HB hg
               have GE676 := bza HB hg
               replace HB := bsa HB hb
               obtain ⟨NB654_676, NB676_654⟩ := bnm BK654 hg
               replace BK654 := bba BK654 hb
               obtain ⟨NB675_676, NB676_675⟩ := bnm BK675 hg
               replace BK675 := bba BK675 hb
               clear hb hbox hg
               refine hK.out _ _ ⟨(blk_cell BK654.out 0).trans rfl, (blk_cell BK654.out 1).trans rfl, (blk_cell BK654.out 2).trans rfl, (blk_cell BK654.out 3).trans rfl⟩ (fun hHeld => ?_)
               clear hK K
               refine norm_ (a' := ?_) ?_ ?_
               rotate_left
               ·show Act.put _ (some 11) _ = _
                simp only [Act.put, List.setIfInBounds_toArray, List.set_cons_zero, List.set_cons_succ, i64_w, i32_w]
                rfl
               exact norm_ (by (simp only [putAll, Act.put, List.setIfInBounds_toArray, List.set_cons_zero, List.set_cons_succ]; done)) (hJ6_7 (gb675, gb676) _ ⟨hHeld, (rx HO646.out), (rx HO649.out), (rx HO652.out), (bx BK654.out), (bx BK675.out), (bx BK676.out), GW675.out, GE675.out, NB654_675.out, NB675_654.out, NB676_675.out, NB675_676.out, GW676.out, GE676.out, NB654_676.out, NB676_654.out, (bh HB.out)⟩)
            ·skip
             rintro ⟨v657, v660, v663⟩ w51 ⟨hS_, h0_, h1_, h2_, h3_, h4_, h5_, h6_, h7_⟩
             have n0_ : Aside0 (Kd.R k64 64 w51 w.heap.size (fun k_ => some k_ ≠ (v657 : Value).ownBlock) (.slice Ao45 t644.length co45) t644) := ⟨h0_⟩
             have n1_ : Aside0 (Kd.R (Kd.int .i64) 3 w51 w.heap.size (fun k_ => some k_ ≠ (.slice Ao47 t650.length co47 : Value).ownBlock ∧ some k_ ≠ (v660 : Value).ownBlock ∧ some k_ ≠ (v663 : Value).ownBlock) (.slice Ao46 t647.length co46) t647) := ⟨h1_⟩
             have n2_ : Aside0 (Kd.R (Kd.int .i64) 3 w51 w.heap.size (fun k_ => some k_ ≠ (.slice Ao46 t647.length co46 : Value).ownBlock ∧ some k_ ≠ (v660 : Value).ownBlock ∧ some k_ ≠ (v663 : Value).ownBlock) (.slice Ao47 t650.length co47) t650) := ⟨h2_⟩
             have n3_ : Aside0 (Kd.R k64 64 w51 w.heap.size (fun k_ => some k_ ≠ (.slice Ao45 t644.length co45 : Value).ownBlock) v657 t656) := ⟨h3_⟩
             have n4_ : Aside0 (Kd.R (Kd.int .i64) 3 w51 w.heap.size (fun k_ => some k_ ≠ (.slice Ao46 t647.length co46 : Value).ownBlock ∧ some k_ ≠ (.slice Ao47 t650.length co47 : Value).ownBlock ∧ some k_ ≠ (v663 : Value).ownBlock) v660 t659) := ⟨h4_⟩
             have n5_ : Aside0 (Kd.R (Kd.int .i64) 3 w51 w.heap.size (fun k_ => some k_ ≠ (.slice Ao46 t647.length co46 : Value).ownBlock ∧ some k_ ≠ (.slice Ao47 t650.length co47 : Value).ownBlock ∧ some k_ ≠ (v660 : Value).ownBlock) v663 t662) := ⟨h5_⟩
             have n6_ : Aside0 (w51.heap[gb654]? = some (.cells #[.int .i64 t643, .slice Ao45 t644.length co45, .slice Ao46 t647.length co46, .slice Ao47 t650.length co47] 27 (0, 0))) := ⟨h6_⟩
             have n7_ : Aside0 (Below w.heap.size w w51) := ⟨h7_⟩
             clear HO646 HO649 HO652 BK654 HB h0_ h1_ h2_ h3_ h4_ h5_ h6_ h7_
             have HO646 := n0_
             have HO649 := n1_
             have HO652 := n2_
             have HO658 := n3_
             have HO661 := n4_
             have HO664 := n5_
             have BK654 := n6_
             have HB := n7_
             clear n0_ n1_ n2_ n3_ n4_ n5_ n6_ n7_
             have hHeld : w51.cell? ⟨gb654, 0, none⟩ = some (.int .i64 t643) ∧ w51.cell? ⟨gb654, 1, none⟩ = some (.slice Ao45 t644.length co45) ∧ w51.cell? ⟨gb654, 2, none⟩ = some (.slice Ao46 t647.length co46) ∧ w51.cell? ⟨gb654, 3, none⟩ = some (.slice Ao47 t650.length co47) := hS_
             refine norm_ (a' := ?_) ?_ ?_
             rotate_left
             ·simp only [putAll, Act.put, List.setIfInBounds_toArray, List.set_cons_zero, List.set_cons_succ]
              rfl
             refine three_ (i := 5) (j := 6) (k := 7) (Ni := some 38) (Nj := some 10) (Nk := some 11) #[true, true, true, true, true, true, false, false, false, false] #[true, true, true, true, true, false, true, false, false, false] #[true, true, true, true, true, false, false, true, false, false] rfl rfl rfl rfl rfl rfl (three_of HT_.out (by kernel_rfl)) (by decide) (by decide) (by decide) (fun K hK => ?_) (fun K hK => ?_) (fun K hK => ?_)
             ·skip
              refine goes_ Tryz.func26 (by kernel_rfl) rfl #[.agg #[.int .i64 t643, .slice Ao45 t644.length co45, .slice Ao46 t647.length co46, .slice Ao47 t650.length co47], .int .i64 (Go.bits .and .i64 a1 4095), .int .i64 65536] (by rfl) rfl rfl (by (simp only [List.map_toArray, List.map_cons, List.map_nil]); rfl) ?_
              with_reducible refine (poslist_List_Slice.calls kj3 t643 _ _ t644 _ _ t647 _ _ t650 (Go.bits .and .i64 a1 4095) 65536 t665 t666 t669 t672 _ ?side1 ?side2 ?side3 ?side4 ?side5 ?side6 A13.out).mono ?_
              (case side1 => exact cx (Kd.R_reads' HO646.out).2.2)
              (case side2 => exact (Kd.R_reads' HO646.out).2.1)
              (case side3 => exact cx (Kd.R_reads' HO649.out).2.2)
              (case side4 => exact (Kd.R_reads' HO649.out).2.1)
              (case side5 => exact cx (Kd.R_reads' HO652.out).2.2)
              (case side6 => exact (Kd.R_reads' HO652.out).2.1)
              rintro e w52 ⟨v667, v670, v673, rfl, ho0, ho1, ho2, hb⟩
              refine ⟨_, rfl, ?_⟩
              have HO668 := Aside0.mk (Kd.R_lower (Kd.R_new' (Kd.R_new' ho0 (Kd.R_lt (rx HO646.out))) (Kd.R_lt (rx HO658.out))) (below_size (bh HB.out)))
              replace HO646 := Aside0.mk (Kd.R_elder' (rx HO646.out) (Kd.R_base ho0) hb)
              replace HO658 := Aside0.mk (Kd.R_elder' (rx HO658.out) (Kd.R_base ho0) hb)
              have HO671 := Aside0.mk (Kd.R_lower (Kd.R_new' (Kd.R_new' (Kd.R_new' (Kd.R_new' ho1 (Kd.R_lt (rx HO649.out))) (Kd.R_lt (rx HO652.out))) (Kd.R_lt (rx HO661.out))) (Kd.R_lt (rx HO664.out))) (below_size (bh HB.out)))
              have HO674 := Aside0.mk (Kd.R_lower (Kd.R_new' (Kd.R_new' (Kd.R_new' (Kd.R_new' ho2 (Kd.R_lt (rx HO649.out))) (Kd.R_lt (rx HO652.out))) (Kd.R_lt (rx HO661.out))) (Kd.R_lt (rx HO664.out))) (below_size (bh HB.out)))
              replace HO649 := Aside0.mk (Kd.R_mono (Kd.R_told (Kd.R_told (Kd.R_old (rx HO649.out) hb) (Kd.R_base ho1)) (Kd.R_base ho2)) (fun _ h_ => h_.1))
              replace HO652 := Aside0.mk (Kd.R_mono (Kd.R_told (Kd.R_told (Kd.R_old (rx HO652.out) hb) (Kd.R_base ho1)) (Kd.R_base ho2)) (fun _ h_ => h_.1))
              replace HO661 := Aside0.mk (Kd.R_mono (Kd.R_told (Kd.R_told (Kd.R_old (rx HO661.out) hb) (Kd.R_base ho1)) (Kd.R_base ho2)) (fun _ h_ => h_.1))
              replace HO664 := Aside0.mk (Kd.R_mono (Kd.R_told (Kd.R_told (Kd.R_old (rx HO664.out) hb) (Kd.R_base ho1)) (Kd.R_base ho2)) (fun _ h_ => h_.1))
              replace BK654 := bba BK654 hb
              replace HB := bsa HB hb
              clear hb ho0 ho1 ho2
              refine hK.out _ _ ⟨(blk_cell BK654.out 0).trans rfl, (blk_cell BK654.out 1).trans rfl, (blk_cell BK654.out 2).trans rfl, (blk_cell BK654.out 3).trans rfl⟩ (fun hHeld => ?_)
              clear hK K
              refine norm_ (a' := ?_) ?_ ?_
              rotate_left
              ·show Act.put _ (some 38) _ = _
               simp only [Act.put, List.setIfInBounds_toArray, List.set_cons_zero, List.set_cons_succ, i64_w, i32_w]
               rfl
              exact norm_ (by (simp only [putAll, Act.put, List.setIfInBounds_toArray, List.set_cons_zero, List.set_cons_succ]; done)) (hJ2_5 (v657, v660, v663, v667, v670, v673) _ ⟨hHeld, (rx HO646.out), (by exact Kd.R_mono HO649.out (fun _ hk => ⟨hk.1.1.1, ⟨hk.1.1.2.1, ⟨hk.1.1.2.2, ⟨hk.1.2, hk.2⟩⟩⟩⟩)), (by exact Kd.R_mono HO652.out (fun _ hk => ⟨hk.1.1.1, ⟨hk.1.1.2.1, ⟨hk.1.1.2.2, ⟨hk.1.2, hk.2⟩⟩⟩⟩)), (rx HO658.out), (by exact Kd.R_mono HO661.out (fun _ hk => ⟨hk.1.1.1, ⟨hk.1.1.2.1, ⟨hk.1.1.2.2, ⟨hk.1.2, hk.2⟩⟩⟩⟩)), (by exact Kd.R_mono HO664.out (fun _ hk => ⟨hk.1.1.1, ⟨hk.1.1.2.1, ⟨hk.1.1.2.2, ⟨hk.1.2, hk.2⟩⟩⟩⟩)), (by exact Kd.R_mono HO668.out (fun _ hk => ⟨hk.1.2, hk.2⟩)), (by exact Kd.R_mono HO671.out (fun _ hk => ⟨hk.1.1.1.2, ⟨hk.1.1.2, ⟨hk.1.2, ⟨hk.2, hk.1.1.1.1⟩⟩⟩⟩)), (by exact Kd.R_mono HO674.out (fun _ hk => ⟨hk.1.1.1.2, ⟨hk.1.1.2, ⟨hk.1.2, ⟨hk.2, hk.1.1.1.1⟩⟩⟩⟩)), (bx BK654.out), (bh HB.out)⟩)
             ·skip
              refine box_step ?hg (N := 10) ?hd (cs := #[.int .i64 0, .slice none 0 0, .slice none 0 0, .slice none 0 0]) (t := 27) ?hr ?_; (case hd => rfl); (case hg => rfl); (case hr => (go_simp; done))
              intro gb675 hg w52 hbox hb
              replace HO646 := rba HO646 hb
              replace HO649 := rba HO649 hb
              replace HO652 := rba HO652 hb
              replace HO658 := rba HO658 hb
              replace HO661 := rba HO661 hb
              replace HO664 := rba HO664 hb
              have BK675 := Aside0.mk (hbox)
              have GW675 := bza HB hg
              have GE675 := bza HB hg
              replace HB := bsa HB hb
              obtain ⟨NB654_675, NB675_654⟩ := bnm BK654 hg
              replace BK654 := bba BK654 hb
              clear hb hbox hg
              refine hK.out _ _ ⟨(blk_cell BK654.out 0).trans rfl, (blk_cell BK654.out 1).trans rfl, (blk_cell BK654.out 2).trans rfl, (blk_cell BK654.out 3).trans rfl⟩ (fun hHeld => ?_)
              clear hK K
              refine norm_ (a' := ?_) ?_ ?_
              rotate_left
              ·show Act.put _ (some 10) _ = _
               simp only [Act.put, List.setIfInBounds_toArray, List.set_cons_zero, List.set_cons_succ, i64_w, i32_w]
               rfl
              exact norm_ (by (simp only [putAll, Act.put, List.setIfInBounds_toArray, List.set_cons_zero, List.set_cons_succ]; done)) (hJ2_6 (v657, v660, v663, gb675) _ ⟨hHeld, (rx HO646.out), (rx HO649.out), (rx HO652.out), (rx HO658.out), (rx HO661.out), (rx HO664.out), (bx BK654.out), (bx BK675.out), GW675.out, GE675.out, NB654_675.out, NB675_654.out, (bh HB.out)⟩)
             ·skip
              refine box_step ?hg (N := 11) ?hd (cs := #[.int .i64 0, .slice none 0 0, .slice none 0 0, .slice none 0 0]) (t := 27) ?hr ?_; (case hd => rfl); (case hg => rfl); (case hr => (go_simp; done))
              intro gb676 hg w52 hbox hb
              replace HO646 := rba HO646 hb
              replace HO649 := rba HO649 hb
              replace HO652 := rba HO652 hb
              replace HO658 := rba HO658 hb
              replace HO661 := rba HO661 hb
              replace HO664 := rba HO664 hb
              have BK676 := Aside0.mk (hbox)
              have GW676 := bza HB hg
              have GE676 := bza HB hg
              replace HB := bsa HB hb
              obtain ⟨NB654_676, NB676_654⟩ := bnm BK654 hg
              replace BK654 := bba BK654 hb
              clear hb hbox hg
              refine hK.out _ _ ⟨(blk_cell BK654.out 0).trans rfl, (blk_cell BK654.out 1).trans rfl, (blk_cell BK654.out 2).trans rfl, (blk_cell BK654.out 3).trans rfl⟩ (fun hHeld => ?_)
              clear hK K
              refine norm_ (a' := ?_) ?_ ?_
              rotate_left
              ·show Act.put _ (some 11) _ = _
               simp only [Act.put, List.setIfInBounds_toArray, List.set_cons_zero, List.set_cons_succ, i64_w, i32_w]
               rfl
              exact norm_ (by (simp only [putAll, Act.put, List.setIfInBounds_toArray, List.set_cons_zero, List.set_cons_succ]; done)) (hJ2_7 (v657, v660, v663, gb676) _ ⟨hHeld, (rx HO646.out), (rx HO649.out), (rx HO652.out), (rx HO658.out), (rx HO661.out), (rx HO664.out), (bx BK654.out), (bx BK676.out), GW676.out, GE676.out, NB654_676.out, NB676_654.out, (bh HB.out)⟩)
           ·skip
            rintro ⟨gb675, gb676⟩ w52 ⟨hS_, h0_, h1_, h2_, h3_, h4_, h5_, h6_, h7_, h8_, h9_, h10_, h11_, h12_, h13_, h14_, h15_, h16_⟩
            have n0_ : Aside0 (Kd.R k64 64 w52 w.heap.size (fun _ => True) (.slice Ao45 t644.length co45) t644) := ⟨h0_⟩
            have n1_ : Aside0 (Kd.R (Kd.int .i64) 3 w52 w.heap.size (fun k_ => some k_ ≠ (.slice Ao47 t650.length co47 : Value).ownBlock) (.slice Ao46 t647.length co46) t647) := ⟨h1_⟩
            have n2_ : Aside0 (Kd.R (Kd.int .i64) 3 w52 w.heap.size (fun k_ => some k_ ≠ (.slice Ao46 t647.length co46 : Value).ownBlock) (.slice Ao47 t650.length co47) t650) := ⟨h2_⟩
            have n3_ : Aside0 (w52.heap[gb654]? = some (.cells #[.int .i64 t643, .slice Ao45 t644.length co45, .slice Ao46 t647.length co46, .slice Ao47 t650.length co47] 27 (0, 0))) := ⟨h3_⟩
            have n4_ : Aside0 (w52.heap[gb675]? = some (.cells #[.int .i64 0, .slice none 0 0, .slice none 0 0, .slice none 0 0] 27 (0, 0))) := ⟨h4_⟩
            have n5_ : Aside0 (w52.heap[gb676]? = some (.cells #[.int .i64 0, .slice none 0 0, .slice none 0 0, .slice none 0 0] 27 (0, 0))) := ⟨h5_⟩
            have n6_ : Aside0 (w.heap.size ≤ gb675) := ⟨h6_⟩
            have n7_ : Aside0 (w.heap.size ≤ gb675) := ⟨h7_⟩
            have n8_ : Aside0 (gb654 ≠ gb675) := ⟨h8_⟩
            have n9_ : Aside0 (gb675 ≠ gb654) := ⟨h9_⟩
            have n10_ : Aside0 (gb676 ≠ gb675) := ⟨h10_⟩
            have n11_ : Aside0 (gb675 ≠ gb676) := ⟨h11_⟩
            have n12_ : Aside0 (w.heap.size ≤ gb676) := ⟨h12_⟩
            have n13_ : Aside0 (w.heap.size ≤ gb676) := ⟨h13_⟩
            have n14_ : Aside0 (gb654 ≠ gb676) := ⟨h14_⟩
            have n15_ : Aside0 (gb676 ≠ gb654) := ⟨h15_⟩
            have n16_ : Aside0 (Below w.heap.size w w52) := ⟨h16_⟩
            clear HO646 HO649 HO652 BK654 HB h0_ h1_ h2_ h3_ h4_ h5_ h6_ h7_ h8_ h9_ h10_ h11_ h12_ h13_ h14_ h15_ h16_
            have HO646 := n0_
            have HO649 := n1_
            have HO652 := n2_
            have BK654 := n3_
            have BK675 := n4_
            have BK676 := n5_
            have GW675 := n6_
            have GE675 := n7_
            have NB654_675 := n8_
            have NB675_654 := n9_
            have NB676_675 := n10_
            have NB675_676 := n11_
            have GW676 := n12_
            have GE676 := n13_
            have NB654_676 := n14_
            have NB676_654 := n15_
            have HB := n16_
            clear n0_ n1_ n2_ n3_ n4_ n5_ n6_ n7_ n8_ n9_ n10_ n11_ n12_ n13_ n14_ n15_ n16_
            have hHeld : w52.cell? ⟨gb654, 0, none⟩ = some (.int .i64 t643) ∧ w52.cell? ⟨gb654, 1, none⟩ = some (.slice Ao45 t644.length co45) ∧ w52.cell? ⟨gb654, 2, none⟩ = some (.slice Ao46 t647.length co46) ∧ w52.cell? ⟨gb654, 3, none⟩ = some (.slice Ao47 t650.length co47) := hS_
            refine norm_ (a' := ?_) ?_ ?_
            rotate_left
            ·simp only [putAll, Act.put, List.setIfInBounds_toArray, List.set_cons_zero, List.set_cons_succ]
             rfl
            refine one_ (i := 2) (N := some 35) #[true, true, true, true, true, false, true, true, false, false] rfl rfl (one_of HT_.out (by kernel_rfl)) (by decide) (fun K hK => ?_)
            refine goes_ Tryz.func26 (by kernel_rfl) rfl #[.agg #[.int .i64 t643, .slice Ao45 t644.length co45, .slice Ao46 t647.length co46, .slice Ao47 t650.length co47], .int .i64 0, .int .i64 (Go.bits .and .i64 a1 4095)] (by rfl) rfl rfl (by (simp only [List.map_toArray, List.map_cons, List.map_nil]); rfl) ?_
            with_reducible refine (poslist_List_Slice.calls kj3 t643 _ _ t644 _ _ t647 _ _ t650 0 (Go.bits .and .i64 a1 4095) t655 t656 t659 t662 _ ?side1 ?side2 ?side3 ?side4 ?side5 ?side6 A12.out).mono ?_
            (case side1 => exact cx (Kd.R_reads' HO646.out).2.2)
            (case side2 => exact (Kd.R_reads' HO646.out).2.1)
            (case side3 => exact cx (Kd.R_reads' HO649.out).2.2)
            (case side4 => exact (Kd.R_reads' HO649.out).2.1)
            (case side5 => exact cx (Kd.R_reads' HO652.out).2.2)
            (case side6 => exact (Kd.R_reads' HO652.out).2.1)
            rintro e w53 ⟨v657, v660, v663, rfl, ho0, ho1, ho2, hb⟩
            refine ⟨_, rfl, ?_⟩
            have HO658 := Aside0.mk (Kd.R_lower (Kd.R_new' ho0 (Kd.R_lt (rx HO646.out))) (below_size (bh HB.out)))
            replace HO646 := Aside0.mk (Kd.R_elder' (rx HO646.out) (Kd.R_base ho0) hb)
            have HO661 := Aside0.mk (Kd.R_lower (Kd.R_new' (Kd.R_new' ho1 (Kd.R_lt (rx HO649.out))) (Kd.R_lt (rx HO652.out))) (below_size (bh HB.out)))
            have HO664 := Aside0.mk (Kd.R_lower (Kd.R_new' (Kd.R_new' ho2 (Kd.R_lt (rx HO649.out))) (Kd.R_lt (rx HO652.out))) (below_size (bh HB.out)))
            replace HO649 := Aside0.mk (Kd.R_mono (Kd.R_told (Kd.R_told (Kd.R_old (rx HO649.out) hb) (Kd.R_base ho1)) (Kd.R_base ho2)) (fun _ h_ => h_.1))
            replace HO652 := Aside0.mk (Kd.R_mono (Kd.R_told (Kd.R_told (Kd.R_old (rx HO652.out) hb) (Kd.R_base ho1)) (Kd.R_base ho2)) (fun _ h_ => h_.1))
            replace BK654 := bba BK654 hb
            replace BK675 := bba BK675 hb
            replace BK676 := bba BK676 hb
            replace HB := bsa HB hb
            clear hb ho0 ho1 ho2
            refine hK.out _ _ ⟨(blk_cell BK654.out 0).trans rfl, (blk_cell BK654.out 1).trans rfl, (blk_cell BK654.out 2).trans rfl, (blk_cell BK654.out 3).trans rfl⟩ (fun hHeld => ?_)
            clear hK K
            refine norm_ (a' := ?_) ?_ ?_
            rotate_left
            ·show Act.put _ (some 35) _ = _
             simp only [Act.put, List.setIfInBounds_toArray, List.set_cons_zero, List.set_cons_succ, i64_w, i32_w]
             rfl
            exact norm_ (by (simp only [putAll, Act.put, List.setIfInBounds_toArray, List.set_cons_zero, List.set_cons_succ]; done)) (hJ2_6_7 (v657, v660, v663, gb675, gb676) _ ⟨hHeld, (by exact Kd.R_mono HO646.out (fun _ hk => hk.2)), (by exact Kd.R_mono HO649.out (fun _ hk => ⟨hk.1.1, ⟨hk.1.2, hk.2⟩⟩)), (by exact Kd.R_mono HO652.out (fun _ hk => ⟨hk.1.1, ⟨hk.1.2, hk.2⟩⟩)), (by exact Kd.R_mono HO658.out (fun _ hk => hk.2)), (by exact Kd.R_mono HO661.out (fun _ hk => ⟨hk.1.2, ⟨hk.2, hk.1.1⟩⟩)), (by exact Kd.R_mono HO664.out (fun _ hk => ⟨hk.1.2, ⟨hk.2, hk.1.1⟩⟩)), (bx BK654.out), (bx BK675.out), (bx BK676.out), GW675.out, GE675.out, NB654_675.out, NB675_654.out, NB676_675.out, NB675_676.out, GW676.out, GE676.out, NB654_676.out, NB676_654.out, (bh HB.out)⟩)
          ·skip
           rintro ⟨v657, v660, v663, gb676⟩ w52 ⟨hS_, h0_, h1_, h2_, h3_, h4_, h5_, h6_, h7_, h8_, h9_, h10_, h11_, h12_⟩
           have n0_ : Aside0 (Kd.R k64 64 w52 w.heap.size (fun k_ => some k_ ≠ (v657 : Value).ownBlock) (.slice Ao45 t644.length co45) t644) := ⟨h0_⟩
           have n1_ : Aside0 (Kd.R (Kd.int .i64) 3 w52 w.heap.size (fun k_ => some k_ ≠ (.slice Ao47 t650.length co47 : Value).ownBlock ∧ some k_ ≠ (v660 : Value).ownBlock ∧ some k_ ≠ (v663 : Value).ownBlock) (.slice Ao46 t647.length co46) t647) := ⟨h1_⟩
           have n2_ : Aside0 (Kd.R (Kd.int .i64) 3 w52 w.heap.size (fun k_ => some k_ ≠ (.slice Ao46 t647.length co46 : Value).ownBlock ∧ some k_ ≠ (v660 : Value).ownBlock ∧ some k_ ≠ (v663 : Value).ownBlock) (.slice Ao47 t650.length co47) t650) := ⟨h2_⟩
           have n3_ : Aside0 (Kd.R k64 64 w52 w.heap.size (fun k_ => some k_ ≠ (.slice Ao45 t644.length co45 : Value).ownBlock) v657 t656) := ⟨h3_⟩
           have n4_ : Aside0 (Kd.R (Kd.int .i64) 3 w52 w.heap.size (fun k_ => some k_ ≠ (.slice Ao46 t647.length co46 : Value).ownBlock ∧ some k_ ≠ (.slice Ao47 t650.length co47 : Value).ownBlock ∧ some k_ ≠ (v663 : Value).ownBlock) v660 t659) := ⟨h4_⟩
           have n5_ : Aside0 (Kd.R (Kd.int .i64) 3 w52 w.heap.size (fun k_ => some k_ ≠ (.slice Ao46 t647.length co46 : Value).ownBlock ∧ some k_ ≠ (.slice Ao47 t650.length co47 : Value).ownBlock ∧ some k_ ≠ (v660 : Value).ownBlock) v663 t662) := ⟨h5_⟩
           have n6_ : Aside0 (w52.heap[gb654]? = some (.cells #[.int .i64 t643, .slice Ao45 t644.length co45, .slice Ao46 t647.length co46, .slice Ao47 t650.length co47] 27 (0, 0))) := ⟨h6_⟩
           have n7_ : Aside0 (w52.heap[gb676]? = some (.cells #[.int .i64 0, .slice none 0 0, .slice none 0 0, .slice none 0 0] 27 (0, 0))) := ⟨h7_⟩
           have n8_ : Aside0 (w.heap.size ≤ gb676) := ⟨h8_⟩
           have n9_ : Aside0 (w.heap.size ≤ gb676) := ⟨h9_⟩
           have n10_ : Aside0 (gb654 ≠ gb676) := ⟨h10_⟩
           have n11_ : Aside0 (gb676 ≠ gb654) := ⟨h11_⟩
           have n12_ : Aside0 (Below w.heap.size w w52) := ⟨h12_⟩
           clear HO646 HO649 HO652 BK654 HB h0_ h1_ h2_ h3_ h4_ h5_ h6_ h7_ h8_ h9_ h10_ h11_ h12_
           have HO646 := n0_
           have HO649 := n1_
           have HO652 := n2_
           have HO658 := n3_
           have HO661 := n4_
           have HO664 := n5_
           have BK654 := n6_
           have BK676 := n7_
           have GW676 := n8_
           have GE676 := n9_
           have NB654_676 := n10_
           have NB676_654 := n11_
           have HB := n12_
           clear n0_ n1_ n2_ n3_ n4_ n5_ n6_ n7_ n8_ n9_ n10_ n11_ n12_
           have hHeld : w52.cell? ⟨gb654, 0, none⟩ = some (.int .i64 t643) ∧ w52.cell? ⟨gb654, 1, none⟩ = some (.slice Ao45 t644.length co45) ∧ w52.cell? ⟨gb654, 2, none⟩ = some (.slice Ao46 t647.length co46) ∧ w52.cell? ⟨gb654, 3, none⟩ = some (.slice Ao47 t650.length co47) := hS_
           refine norm_ (a' := ?_) ?_ ?_
           rotate_left
           ·simp only [putAll, Act.put, List.setIfInBounds_toArray, List.set_cons_zero, List.set_cons_succ]
            rfl
           refine two_ (i := 5) (j := 6) (Ni := some 38) (Nj := some 10) #[true, true, true, true, true, true, false, true, false, false] #[true, true, true, true, true, false, true, true, false, false] rfl rfl rfl rfl (two_of HT_.out (by kernel_rfl)) (by decide) (by decide) (fun K hK => ?_) (fun K hK => ?_)
           ·skip
            refine goes_ Tryz.func26 (by kernel_rfl) rfl #[.agg #[.int .i64 t643, .slice Ao45 t644.length co45, .slice Ao46 t647.length co46, .slice Ao47 t650.length co47], .int .i64 (Go.bits .and .i64 a1 4095), .int .i64 65536] (by rfl) rfl rfl (by (simp only [List.map_toArray, List.map_cons, List.map_nil]); rfl) ?_
            with_reducible refine (poslist_List_Slice.calls kj3 t643 _ _ t644 _ _ t647 _ _ t650 (Go.bits .and .i64 a1 4095) 65536 t665 t666 t669 t672 _ ?side1 ?side2 ?side3 ?side4 ?side5 ?side6 A13.out).mono ?_
            (case side1 => exact cx (Kd.R_reads' HO646.out).2.2)
            (case side2 => exact (Kd.R_reads' HO646.out).2.1)
            (case side3 => exact cx (Kd.R_reads' HO649.out).2.2)
            (case side4 => exact (Kd.R_reads' HO649.out).2.1)
            (case side5 => exact cx (Kd.R_reads' HO652.out).2.2)
            (case side6 => exact (Kd.R_reads' HO652.out).2.1)
            rintro e w53 ⟨v667, v670, v673, rfl, ho0, ho1, ho2, hb⟩
            refine ⟨_, rfl, ?_⟩
            have HO668 := Aside0.mk (Kd.R_lower (Kd.R_new' (Kd.R_new' ho0 (Kd.R_lt (rx HO646.out))) (Kd.R_lt (rx HO658.out))) (below_size (bh HB.out)))
            replace HO646 := Aside0.mk (Kd.R_elder' (rx HO646.out) (Kd.R_base ho0) hb)
            replace HO658 := Aside0.mk (Kd.R_elder' (rx HO658.out) (Kd.R_base ho0) hb)
            have HO671 := Aside0.mk (Kd.R_lower (Kd.R_new' (Kd.R_new' (Kd.R_new' (Kd.R_new' ho1 (Kd.R_lt (rx HO649.out))) (Kd.R_lt (rx HO652.out))) (Kd.R_lt (rx HO661.out))) (Kd.R_lt (rx HO664.out))) (below_size (bh HB.out)))
            have HO674 := Aside0.mk (Kd.R_lower (Kd.R_new' (Kd.R_new' (Kd.R_new' (Kd.R_new' ho2 (Kd.R_lt (rx HO649.out))) (Kd.R_lt (rx HO652.out))) (Kd.R_lt (rx HO661.out))) (Kd.R_lt (rx HO664.out))) (below_size (bh HB.out)))
            replace HO649 := Aside0.mk (Kd.R_mono (Kd.R_told (Kd.R_told (Kd.R_old (rx HO649.out) hb) (Kd.R_base ho1)) (Kd.R_base ho2)) (fun _ h_ => h_.1))
            replace HO652 := Aside0.mk (Kd.R_mono (Kd.R_told (Kd.R_told (Kd.R_old (rx HO652.out) hb) (Kd.R_base ho1)) (Kd.R_base ho2)) (fun _ h_ => h_.1))
            replace HO661 := Aside0.mk (Kd.R_mono (Kd.R_told (Kd.R_told (Kd.R_old (rx HO661.out) hb) (Kd.R_base ho1)) (Kd.R_base ho2)) (fun _ h_ => h_.1))
            replace HO664 := Aside0.mk (Kd.R_mono (Kd.R_told (Kd.R_told (Kd.R_old (rx HO664.out) hb) (Kd.R_base ho1)) (Kd.R_base ho2)) (fun _ h_ => h_.1))
            replace BK654 := bba BK654 hb
            replace BK676 := bba BK676 hb
            replace HB := bsa HB hb
            clear hb ho0 ho1 ho2
            refine hK.out _ _ ⟨(blk_cell BK654.out 0).trans rfl, (blk_cell BK654.out 1).trans rfl, (blk_cell BK654.out 2).trans rfl, (blk_cell BK654.out 3).trans rfl⟩ (fun hHeld => ?_)
            clear hK K
            refine norm_ (a' := ?_) ?_ ?_
            rotate_left
            ·show Act.put _ (some 38) _ = _
             simp only [Act.put, List.setIfInBounds_toArray, List.set_cons_zero, List.set_cons_succ, i64_w, i32_w]
             rfl
            exact norm_ (by (simp only [putAll, Act.put, List.setIfInBounds_toArray, List.set_cons_zero, List.set_cons_succ]; done)) (hJ2_5_7 (v657, v660, v663, v667, v670, v673, gb676) _ ⟨hHeld, (rx HO646.out), (by exact Kd.R_mono HO649.out (fun _ hk => ⟨hk.1.1.1, ⟨hk.1.1.2.1, ⟨hk.1.1.2.2, ⟨hk.1.2, hk.2⟩⟩⟩⟩)), (by exact Kd.R_mono HO652.out (fun _ hk => ⟨hk.1.1.1, ⟨hk.1.1.2.1, ⟨hk.1.1.2.2, ⟨hk.1.2, hk.2⟩⟩⟩⟩)), (rx HO658.out), (by exact Kd.R_mono HO661.out (fun _ hk => ⟨hk.1.1.1, ⟨hk.1.1.2.1, ⟨hk.1.1.2.2, ⟨hk.1.2, hk.2⟩⟩⟩⟩)), (by exact Kd.R_mono HO664.out (fun _ hk => ⟨hk.1.1.1, ⟨hk.1.1.2.1, ⟨hk.1.1.2.2, ⟨hk.1.2, hk.2⟩⟩⟩⟩)), (by exact Kd.R_mono HO668.out (fun _ hk => ⟨hk.1.2, hk.2⟩)), (by exact Kd.R_mono HO671.out (fun _ hk => ⟨hk.1.1.1.2, ⟨hk.1.1.2, ⟨hk.1.2, ⟨hk.2, hk.1.1.1.1⟩⟩⟩⟩)), (by exact Kd.R_mono HO674.out (fun _ hk => ⟨hk.1.1.1.2, ⟨hk.1.1.2, ⟨hk.1.2, ⟨hk.2, hk.1.1.1.1⟩⟩⟩⟩)), (bx BK654.out), (bx BK676.out), GW676.out, GE676.out, NB654_676.out, NB676_654.out, (bh HB.out)⟩)
           ·skip
            refine box_step ?hg (N := 10) ?hd (cs := #[.int .i64 0, .slice none 0 0, .slice none 0 0, .slice none 0 0]) (t := 27) ?hr ?_; (case hd => rfl); (case hg => rfl); (case hr => (go_simp; done))
            intro gb675 hg w53 hbox hb
            replace HO646 := rba HO646 hb
            replace HO649 := rba HO649 hb
            replace HO652 := rba HO652 hb
            replace HO658 := rba HO658 hb
            replace HO661 := rba HO661 hb
            replace HO664 := rba HO664 hb
            have BK675 := Aside0.mk (hbox)
            have GW675 := bza HB hg
            have GE675 := bza HB hg
            replace HB := bsa HB hb
            obtain ⟨NB654_675, NB675_654⟩ := bnm BK654 hg
            replace BK654 := bba BK654 hb
            obtain ⟨NB676_675, NB675_676⟩ := bnm BK676 hg
            replace BK676 := bba BK676 hb
            clear hb hbox hg
            refine hK.out _ _ ⟨(blk_cell BK654.out 0).trans rfl, (blk_cell BK654.out 1).trans rfl, (blk_cell BK654.out 2).trans rfl, (blk_cell BK654.out 3).trans rfl⟩ (fun hHeld => ?_)
            clear hK K
            refine norm_ (a' := ?_) ?_ ?_
            rotate_left
            ·show Act.put _ (some 10) _ = _
             simp only [Act.put, List.setIfInBounds_toArray, List.set_cons_zero, List.set_cons_succ, i64_w, i32_w]
             rfl
            exact norm_ (by (simp only [putAll, Act.put, List.setIfInBounds_toArray, List.set_cons_zero, List.set_cons_succ]; done)) (hJ2_6_7 (v657, v660, v663, gb675, gb676) _ ⟨hHeld, (rx HO646.out), (rx HO649.out), (rx HO652.out), (rx HO658.out), (rx HO661.out), (rx HO664.out), (bx BK654.out), (bx BK675.out), (bx BK676.out), GW675.out, GE675.out, NB654_675.out, NB675_654.out, NB676_675.out, NB675_676.out, GW676.out, GE676.out, NB654_676.out, NB676_654.out, (bh HB.out)⟩)
         ·skip
          rintro ⟨v657, v660, v663, gb675⟩ w52 ⟨hS_, h0_, h1_, h2_, h3_, h4_, h5_, h6_, h7_, h8_, h9_, h10_, h11_, h12_⟩
          have n0_ : Aside0 (Kd.R k64 64 w52 w.heap.size (fun k_ => some k_ ≠ (v657 : Value).ownBlock) (.slice Ao45 t644.length co45) t644) := ⟨h0_⟩
          have n1_ : Aside0 (Kd.R (Kd.int .i64) 3 w52 w.heap.size (fun k_ => some k_ ≠ (.slice Ao47 t650.length co47 : Value).ownBlock ∧ some k_ ≠ (v660 : Value).ownBlock ∧ some k_ ≠ (v663 : Value).ownBlock) (.slice Ao46 t647.length co46) t647) := ⟨h1_⟩
          have n2_ : Aside0 (Kd.R (Kd.int .i64) 3 w52 w.heap.size (fun k_ => some k_ ≠ (.slice Ao46 t647.length co46 : Value).ownBlock ∧ some k_ ≠ (v660 : Value).ownBlock ∧ some k_ ≠ (v663 : Value).ownBlock) (.slice Ao47 t650.length co47) t650) := ⟨h2_⟩
          have n3_ : Aside0 (Kd.R k64 64 w52 w.heap.size (fun k_ => some k_ ≠ (.slice Ao45 t644.length co45 : Value).ownBlock) v657 t656) := ⟨h3_⟩
          have n4_ : Aside0 (Kd.R (Kd.int .i64) 3 w52 w.heap.size (fun k_ => some k_ ≠ (.slice Ao46 t647.length co46 : Value).ownBlock ∧ some k_ ≠ (.slice Ao47 t650.length co47 : Value).ownBlock ∧ some k_ ≠ (v663 : Value).ownBlock) v660 t659) := ⟨h4_⟩
          have n5_ : Aside0 (Kd.R (Kd.int .i64) 3 w52 w.heap.size (fun k_ => some k_ ≠ (.slice Ao46 t647.length co46 : Value).ownBlock ∧ some k_ ≠ (.slice Ao47 t650.length co47 : Value).ownBlock ∧ some k_ ≠ (v660 : Value).ownBlock) v663 t662) := ⟨h5_⟩
          have n6_ : Aside0 (w52.heap[gb654]? = some (.cells #[.int .i64 t643, .slice Ao45 t644.length co45, .slice Ao46 t647.length co46, .slice Ao47 t650.length co47] 27 (0, 0))) := ⟨h6_⟩
          have n7_ : Aside0 (w52.heap[gb675]? = some (.cells #[.int .i64 0, .slice none 0 0, .slice none 0 0, .slice none 0 0] 27 (0, 0))) := ⟨h7_⟩
          have n8_ : Aside0 (w.heap.size ≤ gb675) := ⟨h8_⟩
          have n9_ : Aside0 (w.heap.size ≤ gb675) := ⟨h9_⟩
          have n10_ : Aside0 (gb654 ≠ gb675) := ⟨h10_⟩
          have n11_ : Aside0 (gb675 ≠ gb654) := ⟨h11_⟩
          have n12_ : Aside0 (Below w.heap.size w w52) := ⟨h12_⟩
          clear HO646 HO649 HO652 BK654 HB h0_ h1_ h2_ h3_ h4_ h5_ h6_ h7_ h8_ h9_ h10_ h11_ h12_
          have HO646 := n0_
          have HO649 := n1_
          have HO652 := n2_
          have HO658 := n3_
          have HO661 := n4_
          have HO664 := n5_
          have BK654 := n6_
          have BK675 := n7_
          have GW675 := n8_
          have GE675 := n9_
          have NB654_675 := n10_
          have NB675_654 := n11_
          have HB := n12_
          clear n0_ n1_ n2_ n3_ n4_ n5_ n6_ n7_ n8_ n9_ n10_ n11_ n12_
          have hHeld : w52.cell? ⟨gb654, 0, none⟩ = some (.int .i64 t643) ∧ w52.cell? ⟨gb654, 1, none⟩ = some (.slice Ao45 t644.length co45) ∧ w52.cell? ⟨gb654, 2, none⟩ = some (.slice Ao46 t647.length co46) ∧ w52.cell? ⟨gb654, 3, none⟩ = some (.slice Ao47 t650.length co47) := hS_
          refine norm_ (a' := ?_) ?_ ?_
          rotate_left
          ·simp only [putAll, Act.put, List.setIfInBounds_toArray, List.set_cons_zero, List.set_cons_succ]
           rfl
          refine two_ (i := 5) (j := 7) (Ni := some 38) (Nj := some 11) #[true, true, true, true, true, true, true, false, false, false] #[true, true, true, true, true, false, true, true, false, false] rfl rfl rfl rfl (two_of HT_.out (by kernel_rfl)) (by decide) (by decide) (fun K hK => ?_) (fun K hK => ?_)
          ·skip
           refine goes_ Tryz.func26 (by kernel_rfl) rfl #[.agg #[.int .i64 t643, .slice Ao45 t644.length co45, .slice Ao46 t647.length co46, .slice Ao47 t650.length co47], .int .i64 (Go.bits .and .i64 a1 4095), .int .i64 65536] (by rfl) rfl rfl (by (simp only [List.map_toArray, List.map_cons, List.map_nil]); rfl) ?_
           with_reducible refine (poslist_List_Slice.calls kj3 t643 _ _ t644 _ _ t647 _ _ t650 (Go.bits .and .i64 a1 4095) 65536 t665 t666 t669 t672 _ ?side1 ?side2 ?side3 ?side4 ?side5 ?side6 A13.out).mono ?_
           (case side1 => exact cx (Kd.R_reads' HO646.out).2.2)
           (case side2 => exact (Kd.R_reads' HO646.out).2.1)
           (case side3 => exact cx (Kd.R_reads' HO649.out).2.2)
           (case side4 => exact (Kd.R_reads' HO649.out).2.1)
           (case side5 => exact cx (Kd.R_reads' HO652.out).2.2)
           (case side6 => exact (Kd.R_reads' HO652.out).2.1)
           rintro e w53 ⟨v667, v670, v673, rfl, ho0, ho1, ho2, hb⟩
           refine ⟨_, rfl, ?_⟩
           have HO668 := Aside0.mk (Kd.R_lower (Kd.R_new' (Kd.R_new' ho0 (Kd.R_lt (rx HO646.out))) (Kd.R_lt (rx HO658.out))) (below_size (bh HB.out)))
           replace HO646 := Aside0.mk (Kd.R_elder' (rx HO646.out) (Kd.R_base ho0) hb)
           replace HO658 := Aside0.mk (Kd.R_elder' (rx HO658.out) (Kd.R_base ho0) hb)
           have HO671 := Aside0.mk (Kd.R_lower (Kd.R_new' (Kd.R_new' (Kd.R_new' (Kd.R_new' ho1 (Kd.R_lt (rx HO649.out))) (Kd.R_lt (rx HO652.out))) (Kd.R_lt (rx HO661.out))) (Kd.R_lt (rx HO664.out))) (below_size (bh HB.out)))
           have HO674 := Aside0.mk (Kd.R_lower (Kd.R_new' (Kd.R_new' (Kd.R_new' (Kd.R_new' ho2 (Kd.R_lt (rx HO649.out))) (Kd.R_lt (rx HO652.out))) (Kd.R_lt (rx HO661.out))) (Kd.R_lt (rx HO664.out))) (below_size (bh HB.out)))
           replace HO649 := Aside0.mk (Kd.R_mono (Kd.R_told (Kd.R_told (Kd.R_old (rx HO649.out) hb) (Kd.R_base ho1)) (Kd.R_base ho2)) (fun _ h_ => h_.1))
           replace HO652 := Aside0.mk (Kd.R_mono (Kd.R_told (Kd.R_told (Kd.R_old (rx HO652.out) hb) (Kd.R_base ho1)) (Kd.R_base ho2)) (fun _ h_ => h_.1))
           replace HO661 := Aside0.mk (Kd.R_mono (Kd.R_told (Kd.R_told (Kd.R_old (rx HO661.out) hb) (Kd.R_base ho1)) (Kd.R_base ho2)) (fun _ h_ => h_.1))
           replace HO664 := Aside0.mk (Kd.R_mono (Kd.R_told (Kd.R_told (Kd.R_old (rx HO664.out) hb) (Kd.R_base ho1)) (Kd.R_base ho2)) (fun _ h_ => h_.1))
           replace BK654 := bba BK654 hb
           replace BK675 := bba BK675 hb
           replace HB := bsa HB hb
           clear hb ho0 ho1 ho2
           refine hK.out _ _ ⟨(blk_cell BK654.out 0).trans rfl, (blk_cell BK654.out 1).trans rfl, (blk_cell BK654.out 2).trans rfl, (blk_cell BK654.out 3).trans rfl⟩ (fun hHeld => ?_)
           clear hK K
           refine norm_ (a' := ?_) ?_ ?_
           rotate_left
           ·show Act.put _ (some 38) _ = _
            simp only [Act.put, List.setIfInBounds_toArray, List.set_cons_zero, List.set_cons_succ, i64_w, i32_w]
            rfl
           exact norm_ (by (simp only [putAll, Act.put, List.setIfInBounds_toArray, List.set_cons_zero, List.set_cons_succ]; done)) (hJ2_5_6 (v657, v660, v663, v667, v670, v673, gb675) _ ⟨hHeld, (rx HO646.out), (by exact Kd.R_mono HO649.out (fun _ hk => ⟨hk.1.1.1, ⟨hk.1.1.2.1, ⟨hk.1.1.2.2, ⟨hk.1.2, hk.2⟩⟩⟩⟩)), (by exact Kd.R_mono HO652.out (fun _ hk => ⟨hk.1.1.1, ⟨hk.1.1.2.1, ⟨hk.1.1.2.2, ⟨hk.1.2, hk.2⟩⟩⟩⟩)), (rx HO658.out), (by exact Kd.R_mono HO661.out (fun _ hk => ⟨hk.1.1.1, ⟨hk.1.1.2.1, ⟨hk.1.1.2.2, ⟨hk.1.2, hk.2⟩⟩⟩⟩)), (by exact Kd.R_mono HO664.out (fun _ hk => ⟨hk.1.1.1, ⟨hk.1.1.2.1, ⟨hk.1.1.2.2, ⟨hk.1.2, hk.2⟩⟩⟩⟩)), (by exact Kd.R_mono HO668.out (fun _ hk => ⟨hk.1.2, hk.2⟩)), (by exact Kd.R_mono HO671.out (fun _ hk => ⟨hk.1.1.1.2, ⟨hk.1.1.2, ⟨hk.1.2, ⟨hk.2, hk.1.1.1.1⟩⟩⟩⟩)), (by exact Kd.R_mono HO674.out (fun _ hk => ⟨hk.1.1.1.2, ⟨hk.1.1.2, ⟨hk.1.2, ⟨hk.2, hk.1.1.1.1⟩⟩⟩⟩)), (bx BK654.out), (bx BK675.out), GW675.out, GE675.out, NB654_675.out, NB675_654.out, (bh HB.out)⟩)
          ·skip
           refine box_step ?hg (N := 11) ?hd (cs := #[.int .i64 0, .slice none 0 0, .slice none 0 0, .slice none 0 0]) (t := 27) ?hr ?_; (case hd => rfl); (case hg => rfl); (case hr => (go_simp; done))
           intro gb676 hg w53 hbox hb
           replace HO646 := rba HO646 hb
           replace HO649 := rba HO649 hb
           replace HO652 := rba HO652 hb
           replace HO658 := rba HO658 hb
           replace HO661 := rba HO661 hb
           replace HO664 := rba HO664 hb
           have BK676 := Aside0.mk (hbox)
           have GW676 := bza HB hg
           have GE676 := bza HB hg
           replace HB := bsa HB hb
           obtain ⟨NB654_676, NB676_654⟩ := bnm BK654 hg
           replace BK654 := bba BK654 hb
           obtain ⟨NB675_676, NB676_675⟩ := bnm BK675 hg
           replace BK675 := bba BK675 hb
           clear hb hbox hg
           refine hK.out _ _ ⟨(blk_cell BK654.out 0).trans rfl, (blk_cell BK654.out 1).trans rfl, (blk_cell BK654.out 2).trans rfl, (blk_cell BK654.out 3).trans rfl⟩ (fun hHeld => ?_)
           clear hK K
           refine norm_ (a' := ?_) ?_ ?_
           rotate_left
           ·show Act.put _ (some 11) _ = _
            simp only [Act.put, List.setIfInBounds_toArray, List.set_cons_zero, List.set_cons_succ, i64_w, i32_w]
            rfl
           exact norm_ (by (simp only [putAll, Act.put, List.setIfInBounds_toArray, List.set_cons_zero, List.set_cons_succ]; done)) (hJ2_6_7 (v657, v660, v663, gb675, gb676) _ ⟨hHeld, (rx HO646.out), (rx HO649.out), (rx HO652.out), (rx HO658.out), (rx HO661.out), (rx HO664.out), (bx BK654.out), (bx BK675.out), (bx BK676.out), GW675.out, GE675.out, NB654_675.out, NB675_654.out, NB676_675.out, NB675_676.out, GW676.out, GE676.out, NB654_676.out, NB676_654.out, (bh HB.out)⟩)
        ·skip
         rintro ⟨v657, v660, v663, v667, v670, v673⟩ w52 ⟨hS_, h0_, h1_, h2_, h3_, h4_, h5_, h6_, h7_, h8_, h9_, h10_⟩
         have n0_ : Aside0 (Kd.R k64 64 w52 w.heap.size (fun k_ => some k_ ≠ (v657 : Value).ownBlock ∧ some k_ ≠ (v667 : Value).ownBlock) (.slice Ao45 t644.length co45) t644) := ⟨h0_⟩
         have n1_ : Aside0 (Kd.R (Kd.int .i64) 3 w52 w.heap.size (fun k_ => some k_ ≠ (.slice Ao47 t650.length co47 : Value).ownBlock ∧ some k_ ≠ (v660 : Value).ownBlock ∧ some k_ ≠ (v663 : Value).ownBlock ∧ some k_ ≠ (v670 : Value).ownBlock ∧ some k_ ≠ (v673 : Value).ownBlock) (.slice Ao46 t647.length co46) t647) := ⟨h1_⟩
         have n2_ : Aside0 (Kd.R (Kd.int .i64) 3 w52 w.heap.size (fun k_ => some k_ ≠ (.slice Ao46 t647.length co46 : Value).ownBlock ∧ some k_ ≠ (v660 : Value).ownBlock ∧ some k_ ≠ (v663 : Value).ownBlock ∧ some k_ ≠ (v670 : Value).ownBlock ∧ some k_ ≠ (v673 : Value).ownBlock) (.slice Ao47 t650.length co47) t650) := ⟨h2_⟩
         have n3_ : Aside0 (Kd.R k64 64 w52 w.heap.size (fun k_ => some k_ ≠ (.slice Ao45 t644.length co45 : Value).ownBlock ∧ some k_ ≠ (v667 : Value).ownBlock) v657 t656) := ⟨h3_⟩
         have n4_ : Aside0 (Kd.R (Kd.int .i64) 3 w52 w.heap.size (fun k_ => some k_ ≠ (.slice Ao46 t647.length co46 : Value).ownBlock ∧ some k_ ≠ (.slice Ao47 t650.length co47 : Value).ownBlock ∧ some k_ ≠ (v663 : Value).ownBlock ∧ some k_ ≠ (v670 : Value).ownBlock ∧ some k_ ≠ (v673 : Value).ownBlock) v660 t659) := ⟨h4_⟩
         have n5_ : Aside0 (Kd.R (Kd.int .i64) 3 w52 w.heap.size (fun k_ => some k_ ≠ (.slice Ao46 t647.length co46 : Value).ownBlock ∧ some k_ ≠ (.slice Ao47 t650.length co47 : Value).ownBlock ∧ some k_ ≠ (v660 : Value).ownBlock ∧ some k_ ≠ (v670 : Value).ownBlock ∧ some k_ ≠ (v673 : Value).ownBlock) v663 t662) := ⟨h5_⟩
         have n6_ : Aside0 (Kd.R k64 64 w52 w.heap.size (fun k_ => some k_ ≠ (.slice Ao45 t644.length co45 : Value).ownBlock ∧ some k_ ≠ (v657 : Value).ownBlock) v667 t666) := ⟨h6_⟩
         have n7_ : Aside0 (Kd.R (Kd.int .i64) 3 w52 w.heap.size (fun k_ => some k_ ≠ (.slice Ao46 t647.length co46 : Value).ownBlock ∧ some k_ ≠ (.slice Ao47 t650.length co47 : Value).ownBlock ∧ some k_ ≠ (v660 : Value).ownBlock ∧ some k_ ≠ (v663 : Value).ownBlock ∧ some k_ ≠ (v673 : Value).ownBlock) v670 t669) := ⟨h7_⟩
         have n8_ : Aside0 (Kd.R (Kd.int .i64) 3 w52 w.heap.size (fun k_ => some k_ ≠ (.slice Ao46 t647.length co46 : Value).ownBlock ∧ some k_ ≠ (.slice Ao47 t650.length co47 : Value).ownBlock ∧ some k_ ≠ (v660 : Value).ownBlock ∧ some k_ ≠ (v663 : Value).ownBlock ∧ some k_ ≠ (v670 : Value).ownBlock) v673 t672) := ⟨h8_⟩
         have n9_ : Aside0 (w52.heap[gb654]? = some (.cells #[.int .i64 t643, .slice Ao45 t644.length co45, .slice Ao46 t647.length co46, .slice Ao47 t650.length co47] 27 (0, 0))) := ⟨h9_⟩
         have n10_ : Aside0 (Below w.heap.size w w52) := ⟨h10_⟩
         clear HO646 HO649 HO652 BK654 HB h0_ h1_ h2_ h3_ h4_ h5_ h6_ h7_ h8_ h9_ h10_
         have HO646 := n0_
         have HO649 := n1_
         have HO652 := n2_
         have HO658 := n3_
         have HO661 := n4_
         have HO664 := n5_
         have HO668 := n6_
         have HO671 := n7_
         have HO674 := n8_
         have BK654 := n9_
         have HB := n10_
         clear n0_ n1_ n2_ n3_ n4_ n5_ n6_ n7_ n8_ n9_ n10_
         have hHeld : w52.cell? ⟨gb654, 0, none⟩ = some (.int .i64 t643) ∧ w52.cell? ⟨gb654, 1, none⟩ = some (.slice Ao45 t644.length co45) ∧ w52.cell? ⟨gb654, 2, none⟩ = some (.slice Ao46 t647.length co46) ∧ w52.cell? ⟨gb654, 3, none⟩ = some (.slice Ao47 t650.length co47) := hS_
         refine norm_ (a' := ?_) ?_ ?_
         rotate_left
         ·simp only [putAll, Act.put, List.setIfInBounds_toArray, List.set_cons_zero, List.set_cons_succ]
          rfl
         refine two_ (i := 6) (j := 7) (Ni := some 10) (Nj := some 11) #[true, true, true, true, true, true, true, false, false, false] #[true, true, true, true, true, true, false, true, false, false] rfl rfl rfl rfl (two_of HT_.out (by kernel_rfl)) (by decide) (by decide) (fun K hK => ?_) (fun K hK => ?_)
         ·skip
          refine box_step ?hg (N := 10) ?hd (cs := #[.int .i64 0, .slice none 0 0, .slice none 0 0, .slice none 0 0]) (t := 27) ?hr ?_; (case hd => rfl); (case hg => rfl); (case hr => (go_simp; done))
          intro gb675 hg w53 hbox hb
          replace HO646 := rba HO646 hb
          replace HO649 := rba HO649 hb
          replace HO652 := rba HO652 hb
          replace HO658 := rba HO658 hb
          replace HO661 := rba HO661 hb
          replace HO664 := rba HO664 hb
          replace HO668 := rba HO668 hb
          replace HO671 := rba HO671 hb
          replace HO674 := rba HO674 hb
          have BK675 := Aside0.mk (hbox)
          have GW675 := bza HB hg
          have GE675 := bza HB hg
          replace HB := bsa HB hb
          obtain ⟨NB654_675, NB675_654⟩ := bnm BK654 hg
          replace BK654 := bba BK654 hb
          clear hb hbox hg
          refine hK.out _ _ ⟨(blk_cell BK654.out 0).trans rfl, (blk_cell BK654.out 1).trans rfl, (blk_cell BK654.out 2).trans rfl, (blk_cell BK654.out 3).trans rfl⟩ (fun hHeld => ?_)
          clear hK K
          refine norm_ (a' := ?_) ?_ ?_
          rotate_left
          ·show Act.put _ (some 10) _ = _
           simp only [Act.put, List.setIfInBounds_toArray, List.set_cons_zero, List.set_cons_succ, i64_w, i32_w]
           rfl
          exact norm_ (by (simp only [putAll, Act.put, List.setIfInBounds_toArray, List.set_cons_zero, List.set_cons_succ]; done)) (hJ2_5_6 (v657, v660, v663, v667, v670, v673, gb675) _ ⟨hHeld, (rx HO646.out), (rx HO649.out), (rx HO652.out), (rx HO658.out), (rx HO661.out), (rx HO664.out), (rx HO668.out), (rx HO671.out), (rx HO674.out), (bx BK654.out), (bx BK675.out), GW675.out, GE675.out, NB654_675.out, NB675_654.out, (bh HB.out)⟩)
         ·skip
          refine box_step ?hg (N := 11) ?hd (cs := #[.int .i64 0, .slice none 0 0, .slice none 0 0, .slice none 0 0]) (t := 27) ?hr ?_; (case hd => rfl); (case hg => rfl); (case hr => (go_simp; done))
          intro gb676 hg w53 hbox hb
          replace HO646 := rba HO646 hb
          replace HO649 := rba HO649 hb
          replace HO652 := rba HO652 hb
          replace HO658 := rba HO658 hb
          replace HO661 := rba HO661 hb
          replace HO664 := rba HO664 hb
          replace HO668 := rba HO668 hb
          replace HO671 := rba HO671 hb
          replace HO674 := rba HO674 hb
          have BK676 := Aside0.mk (hbox)
          have GW676 := bza HB hg
          have GE676 := bza HB hg
          replace HB := bsa HB hb
          obtain ⟨NB654_676, NB676_654⟩ := bnm BK654 hg
          replace BK654 := bba BK654 hb
          clear hb hbox hg
          refine hK.out _ _ ⟨(blk_cell BK654.out 0).trans rfl, (blk_cell BK654.out 1).trans rfl, (blk_cell BK654.out 2).trans rfl, (blk_cell BK654.out 3).trans rfl⟩ (fun hHeld => ?_)
          clear hK K
          refine norm_ (a' := ?_) ?_ ?_
          rotate_left
          ·show Act.put _ (some 11) _ = _
           simp only [Act.put, List.setIfInBounds_toArray, List.set_cons_zero, List.set_cons_succ, i64_w, i32_w]
           rfl
          exact norm_ (by (simp only [putAll, Act.put, List.setIfInBounds_toArray, List.set_cons_zero, List.set_cons_succ]; done)) (hJ2_5_7 (v657, v660, v663, v667, v670, v673, gb676) _ ⟨hHeld, (rx HO646.out), (rx HO649.out), (rx HO652.out), (rx HO658.out), (rx HO661.out), (rx HO664.out), (rx HO668.out), (rx HO671.out), (rx HO674.out), (bx BK654.out), (bx BK676.out), GW676.out, GE676.out, NB654_676.out, NB676_654.out, (bh HB.out)⟩)
       ·skip
        rintro ⟨v657, v660, v663, gb675, gb676⟩ w53 ⟨hS_, h0_, h1_, h2_, h3_, h4_, h5_, h6_, h7_, h8_, h9_, h10_, h11_, h12_, h13_, h14_, h15_, h16_, h17_, h18_, h19_⟩
        have n0_ : Aside0 (Kd.R k64 64 w53 w.heap.size (fun k_ => some k_ ≠ (v657 : Value).ownBlock) (.slice Ao45 t644.length co45) t644) := ⟨h0_⟩
        have n1_ : Aside0 (Kd.R (Kd.int .i64) 3 w53 w.heap.size (fun k_ => some k_ ≠ (.slice Ao47 t650.length co47 : Value).ownBlock ∧ some k_ ≠ (v660 : Value).ownBlock ∧ some k_ ≠ (v663 : Value).ownBlock) (.slice Ao46 t647.length co46) t647) := ⟨h1_⟩
        have n2_ : Aside0 (Kd.R (Kd.int .i64) 3 w53 w.heap.size (fun k_ => some k_ ≠ (.slice Ao46 t647.length co46 : Value).ownBlock ∧ some k_ ≠ (v660 : Value).ownBlock ∧ some k_ ≠ (v663 : Value).ownBlock) (.slice Ao47 t650.length co47) t650) := ⟨h2_⟩
        have n3_ : Aside0 (Kd.R k64 64 w53 w.heap.size (fun k_ => some k_ ≠ (.slice Ao45 t644.length co45 : Value).ownBlock) v657 t656) := ⟨h3_⟩
        have n4_ : Aside0 (Kd.R (Kd.int .i64) 3 w53 w.heap.size (fun k_ => some k_ ≠ (.slice Ao46 t647.length co46 : Value).ownBlock ∧ some k_ ≠ (.slice Ao47 t650.length co47 : Value).ownBlock ∧ some k_ ≠ (v663 : Value).ownBlock) v660 t659) := ⟨h4_⟩
        have n5_ : Aside0 (Kd.R (Kd.int .i64) 3 w53 w.heap.size (fun k_ => some k_ ≠ (.slice Ao46 t647.length co46 : Value).ownBlock ∧ some k_ ≠ (.slice Ao47 t650.length co47 : Value).ownBlock ∧ some k_ ≠ (v660 : Value).ownBlock) v663 t662) := ⟨h5_⟩
        have n6_ : Aside0 (w53.heap[gb654]? = some (.cells #[.int .i64 t643, .slice Ao45 t644.length co45, .slice Ao46 t647.length co46, .slice Ao47 t650.length co47] 27 (0, 0))) := ⟨h6_⟩
        have n7_ : Aside0 (w53.heap[gb675]? = some (.cells #[.int .i64 0, .slice none 0 0, .slice none 0 0, .slice none 0 0] 27 (0, 0))) := ⟨h7_⟩
        have n8_ : Aside0 (w53.heap[gb676]? = some (.cells #[.int .i64 0, .slice none 0 0, .slice none 0 0, .slice none 0 0] 27 (0, 0))) := ⟨h8_⟩
        have n9_ : Aside0 (w.heap.size ≤ gb675) := ⟨h9_⟩
        have n10_ : Aside0 (w.heap.size ≤ gb675) := ⟨h10_⟩
        have n11_ : Aside0 (gb654 ≠ gb675) := ⟨h11_⟩
        have n12_ : Aside0 (gb675 ≠ gb654) := ⟨h12_⟩
        have n13_ : Aside0 (gb676 ≠ gb675) := ⟨h13_⟩
        have n14_ : Aside0 (gb675 ≠ gb676) := ⟨h14_⟩
        have n15_ : Aside0 (w.heap.size ≤ gb676) := ⟨h15_⟩
        have n16_ : Aside0 (w.heap.size ≤ gb676) := ⟨h16_⟩
        have n17_ : Aside0 (gb654 ≠ gb676) := ⟨h17_⟩
        have n18_ : Aside0 (gb676 ≠ gb654) := ⟨h18_⟩
        have n19_ : Aside0 (Below w.heap.size w w53) := ⟨h19_⟩
        clear HO646 HO649 HO652 BK654 HB h0_ h1_ h2_ h3_ h4_ h5_ h6_ h7_ h8_ h9_ h10_ h11_ h12_ h13_ h14_ h15_ h16_ h17_ h18_ h19_
        have HO646 := n0_
        have HO649 := n1_
        have HO652 := n2_
        have HO658 := n3_
        have HO661 := n4_
        have HO664 := n5_
        have BK654 := n6_
        have BK675 := n7_
        have BK676 := n8_
        have GW675 := n9_
        have GE675 := n10_
        have NB654_675 := n11_
        have NB675_654 := n12_
        have NB676_675 := n13_
        have NB675_676 := n14_
        have GW676 := n15_
        have GE676 := n16_
        have NB654_676 := n17_
        have NB676_654 := n18_
        have HB := n19_
        clear n0_ n1_ n2_ n3_ n4_ n5_ n6_ n7_ n8_ n9_ n10_ n11_ n12_ n13_ n14_ n15_ n16_ n17_ n18_ n19_
        have hHeld : w53.cell? ⟨gb654, 0, none⟩ = some (.int .i64 t643) ∧ w53.cell? ⟨gb654, 1, none⟩ = some (.slice Ao45 t644.length co45) ∧ w53.cell? ⟨gb654, 2, none⟩ = some (.slice Ao46 t647.length co46) ∧ w53.cell? ⟨gb654, 3, none⟩ = some (.slice Ao47 t650.length co47) := hS_
        refine norm_ (a' := ?_) ?_ ?_
        rotate_left
        ·simp only [putAll, Act.put, List.setIfInBounds_toArray, List.set_cons_zero, List.set_cons_succ]
         rfl
        refine one_ (i := 5) (N := some 38) #[true, true, true, true, true, true, true, true, false, false] rfl rfl (one_of HT_.out (by kernel_rfl)) (by decide) (fun K hK => ?_)
        refine goes_ Tryz.func26 (by kernel_rfl) rfl #[.agg #[.int .i64 t643, .slice Ao45 t644.length co45, .slice Ao46 t647.length co46, .slice Ao47 t650.length co47], .int .i64 (Go.bits .and .i64 a1 4095), .int .i64 65536] (by rfl) rfl rfl (by (simp only [List.map_toArray, List.map_cons, List.map_nil]); rfl) ?_
        with_reducible refine (poslist_List_Slice.calls kj3 t643 _ _ t644 _ _ t647 _ _ t650 (Go.bits .and .i64 a1 4095) 65536 t665 t666 t669 t672 _ ?side1 ?side2 ?side3 ?side4 ?side5 ?side6 A13.out).mono ?_
        (case side1 => exact cx (Kd.R_reads' HO646.out).2.2)
        (case side2 => exact (Kd.R_reads' HO646.out).2.1)
        (case side3 => exact cx (Kd.R_reads' HO649.out).2.2)
        (case side4 => exact (Kd.R_reads' HO649.out).2.1)
        (case side5 => exact cx (Kd.R_reads' HO652.out).2.2)
        (case side6 => exact (Kd.R_reads' HO652.out).2.1)
        rintro e w54 ⟨v667, v670, v673, rfl, ho0, ho1, ho2, hb⟩
        refine ⟨_, rfl, ?_⟩
        have HO668 := Aside0.mk (Kd.R_lower (Kd.R_new' (Kd.R_new' ho0 (Kd.R_lt (rx HO646.out))) (Kd.R_lt (rx HO658.out))) (below_size (bh HB.out)))
        replace HO646 := Aside0.mk (Kd.R_elder' (rx HO646.out) (Kd.R_base ho0) hb)
        replace HO658 := Aside0.mk (Kd.R_elder' (rx HO658.out) (Kd.R_base ho0) hb)
        have HO671 := Aside0.mk (Kd.R_lower (Kd.R_new' (Kd.R_new' (Kd.R_new' (Kd.R_new' ho1 (Kd.R_lt (rx HO649.out))) (Kd.R_lt (rx HO652.out))) (Kd.R_lt (rx HO661.out))) (Kd.R_lt (rx HO664.out))) (below_size (bh HB.out)))
        have HO674 := Aside0.mk (Kd.R_lower (Kd.R_new' (Kd.R_new' (Kd.R_new' (Kd.R_new' ho2 (Kd.R_lt (rx HO649.out))) (Kd.R_lt (rx HO652.out))) (Kd.R_lt (rx HO661.out))) (Kd.R_lt (rx HO664.out))) (below_size (bh HB.out)))
        replace HO649 := Aside0.mk (Kd.R_mono (Kd.R_told (Kd.R_told (Kd.R_old (rx HO649.out) hb) (Kd.R_base ho1)) (Kd.R_base ho2)) (fun _ h_ => h_.1))
        replace HO652 := Aside0.mk (Kd.R_mono (Kd.R_told (Kd.R_told (Kd.R_old (rx HO652.out) hb) (Kd.R_base ho1)) (Kd.R_base ho2)) (fun _ h_ => h_.1))
        replace HO661 := Aside0.mk (Kd.R_mono (Kd.R_told (Kd.R_told (Kd.R_old (rx HO661.out) hb) (Kd.R_base ho1)) (Kd.R_base ho2)) (fun _ h_ => h_.1))
        replace HO664 := Aside0.mk (Kd.R_mono (Kd.R_told (Kd.R_told (Kd.R_old (rx HO664.out) hb) (Kd.R_base ho1)) (Kd.R_base ho2)) (fun _ h_ => h_.1))
        replace BK654 := bba BK654 hb
        replace BK675 := bba BK675 hb
        replace BK676 := bba BK676 hb
        replace HB := bsa HB hb
        clear hb ho0 ho1 ho2
        refine hK.out _ _ ⟨(blk_cell BK654.out 0).trans rfl, (blk_cell BK654.out 1).trans rfl, (blk_cell BK654.out 2).trans rfl, (blk_cell BK654.out 3).trans rfl⟩ (fun hHeld => ?_)
        clear hK K
        refine norm_ (a' := ?_) ?_ ?_
        rotate_left
        ·show Act.put _ (some 38) _ = _
         simp only [Act.put, List.setIfInBounds_toArray, List.set_cons_zero, List.set_cons_succ, i64_w, i32_w]
         rfl
        exact norm_ (by (simp only [putAll, Act.put, List.setIfInBounds_toArray, List.set_cons_zero, List.set_cons_succ]; done)) (hJ2_5_6_7 (v657, v660, v663, v667, v670, v673, gb675, gb676) _ ⟨hHeld, (rx HO646.out), (by exact Kd.R_mono HO649.out (fun _ hk => ⟨hk.1.1.1, ⟨hk.1.1.2.1, ⟨hk.1.1.2.2, ⟨hk.1.2, hk.2⟩⟩⟩⟩)), (by exact Kd.R_mono HO652.out (fun _ hk => ⟨hk.1.1.1, ⟨hk.1.1.2.1, ⟨hk.1.1.2.2, ⟨hk.1.2, hk.2⟩⟩⟩⟩)), (rx HO658.out), (by exact Kd.R_mono HO661.out (fun _ hk => ⟨hk.1.1.1, ⟨hk.1.1.2.1, ⟨hk.1.1.2.2, ⟨hk.1.2, hk.2⟩⟩⟩⟩)), (by exact Kd.R_mono HO664.out (fun _ hk => ⟨hk.1.1.1, ⟨hk.1.1.2.1, ⟨hk.1.1.2.2, ⟨hk.1.2, hk.2⟩⟩⟩⟩)), (by exact Kd.R_mono HO668.out (fun _ hk => ⟨hk.1.2, hk.2⟩)), (by exact Kd.R_mono HO671.out (fun _ hk => ⟨hk.1.1.1.2, ⟨hk.1.1.2, ⟨hk.1.2, ⟨hk.2, hk.1.1.1.1⟩⟩⟩⟩)), (by exact Kd.R_mono HO674.out (fun _ hk => ⟨hk.1.1.1.2, ⟨hk.1.1.2, ⟨hk.1.2, ⟨hk.2, hk.1.1.1.1⟩⟩⟩⟩)), (bx BK654.out), (bx BK675.out), (bx BK676.out), GW675.out, GE675.out, NB654_675.out, NB675_654.out, NB676_675.out, NB675_676.out, GW676.out, GE676.out, NB654_676.out, NB676_654.out, (bh HB.out)⟩)
      ·skip
       rintro ⟨v657, v660, v663, v667, v670, v673, gb676⟩ w53 ⟨hS_, h0_, h1_, h2_, h3_, h4_, h5_, h6_, h7_, h8_, h9_, h10_, h11_, h12_, h13_, h14_, h15_⟩
       have n0_ : Aside0 (Kd.R k64 64 w53 w.heap.size (fun k_ => some k_ ≠ (v657 : Value).ownBlock ∧ some k_ ≠ (v667 : Value).ownBlock) (.slice Ao45 t644.length co45) t644) := ⟨h0_⟩
       have n1_ : Aside0 (Kd.R (Kd.int .i64) 3 w53 w.heap.size (fun k_ => some k_ ≠ (.slice Ao47 t650.length co47 : Value).ownBlock ∧ some k_ ≠ (v660 : Value).ownBlock ∧ some k_ ≠ (v663 : Value).ownBlock ∧ some k_ ≠ (v670 : Value).ownBlock ∧ some k_ ≠ (v673 : Value).ownBlock) (.slice Ao46 t647.length co46) t647) := ⟨h1_⟩
       have n2_ : Aside0 (Kd.R (Kd.int .i64) 3 w53 w.heap.size (fun k_ => some k_ ≠ (.slice Ao46 t647.length co46 : Value).ownBlock ∧ some k_ ≠ (v660 : Value).ownBlock ∧ some k_ ≠ (v663 : Value).ownBlock ∧ some k_ ≠ (v670 : Value).ownBlock ∧ some k_ ≠ (v673 : Value).ownBlock) (.slice Ao47 t650.length co47) t650) := ⟨h2_⟩
       have n3_ : Aside0 (Kd.R k64 64 w53 w.heap.size (fun k_ => some k_ ≠ (.slice Ao45 t644.length co45 : Value).ownBlock ∧ some k_ ≠ (v667 : Value).ownBlock) v657 t656) := ⟨h3_⟩
       have n4_ : Aside0 (Kd.R (Kd.int .i64) 3 w53 w.heap.size (fun k_ => some k_ ≠ (.slice Ao46 t647.length co46 : Value).ownBlock ∧ some k_ ≠ (.slice Ao47 t650.length co47 : Value).ownBlock ∧ some k_ ≠ (v663 : Value).ownBlock ∧ some k_ ≠ (v670 : Value).ownBlock ∧ some k_ ≠ (v673 : Value).ownBlock) v660 t659) := ⟨h4_⟩
       have n5_ : Aside0 (Kd.R (Kd.int .i64) 3 w53 w.heap.size (fun k_ => some k_ ≠ (.slice Ao46 t647.length co46 : Value).ownBlock ∧ some k_ ≠ (.slice Ao47 t650.length co47 : Value).ownBlock ∧ some k_ ≠ (v660 : Value).ownBlock ∧ some k_ ≠ (v670 : Value).ownBlock ∧ some k_ ≠ (v673 : Value).ownBlock) v663 t662) := ⟨h5_⟩
       have n6_ : Aside0 (Kd.R k64 64 w53 w.heap.size (fun k_ => some k_ ≠ (.slice Ao45 t644.length co45 : Value).ownBlock ∧ some k_ ≠ (v657 : Value).ownBlock) v667 t666) := ⟨h6_⟩
       have n7_ : Aside0 (Kd.R (Kd.int .i64) 3 w53 w.heap.size (fun k_ => some k_ ≠ (.slice Ao46 t647.length co46 : Value).ownBlock ∧ some k_ ≠ (.slice Ao47 t650.length co47 : Value).ownBlock ∧ some k_ ≠ (v660 : Value).ownBlock ∧ some k_ ≠ (v663 : Value).ownBlock ∧ some k_ ≠ (v673 : Value).ownBlock) v670 t669) := ⟨h7_⟩
       have n8_ : Aside0 (Kd.R (Kd.int .i64) 3 w53 w.heap.size (fun k_ => some k_ ≠ (.slice Ao46 t647.length co46 : Value).ownBlock ∧ some k_ ≠ (.slice Ao47 t650.length co47 : Value).ownBlock ∧ some k_ ≠ (v660 : Value).ownBlock ∧ some k_ ≠ (v663 : Value).ownBlock ∧ some k_ ≠ (v670 : Value).ownBlock) v673 t672) := ⟨h8_⟩
       have n9_ : Aside0 (w53.heap[gb654]? = some (.cells #[.int .i64 t643, .slice Ao45 t644.length co45, .slice Ao46 t647.length co46, .slice Ao47 t650.length co47] 27 (0, 0))) := ⟨h9_⟩
       have n10_ : Aside0 (w53.heap[gb676]? = some (.cells #[.int .i64 0, .slice none 0 0, .slice none 0 0, .slice none 0 0] 27 (0, 0))) := ⟨h10_⟩
       have n11_ : Aside0 (w.heap.size ≤ gb676) := ⟨h11_⟩
       have n12_ : Aside0 (w.heap.size ≤ gb676) := ⟨h12_⟩
       have n13_ : Aside0 (gb654 ≠ gb676) := ⟨h13_⟩
       have n14_ : Aside0 (gb676 ≠ gb654) := ⟨h14_⟩
       have n15_ : Aside0 (Below w.heap.size w w53) := ⟨h15_⟩
       clear HO646 HO649 HO652 BK654 HB h0_ h1_ h2_ h3_ h4_ h5_ h6_ h7_ h8_ h9_ h10_ h11_ h12_ h13_ h14_ h15_
       have HO646 := n0_
       have HO649 := n1_
       have HO652 := n2_
       have HO658 := n3_
       have HO661 := n4_
       have HO664 := n5_
       have HO668 := n6_
       have HO671 := n7_
       have HO674 := n8_
       have BK654 := n9_
       have BK676 := n10_
       have GW676 := n11_
       have GE676 := n12_
       have NB654_676 := n13_
       have NB676_654 := n14_
       have HB := n15_
       clear n0_ n1_ n2_ n3_ n4_ n5_ n6_ n7_ n8_ n9_ n10_ n11_ n12_ n13_ n14_ n15_
       have hHeld : w53.cell? ⟨gb654, 0, none⟩ = some (.int .i64 t643) ∧ w53.cell? ⟨gb654, 1, none⟩ = some (.slice Ao45 t644.length co45) ∧ w53.cell? ⟨gb654, 2, none⟩ = some (.slice Ao46 t647.length co46) ∧ w53.cell? ⟨gb654, 3, none⟩ = some (.slice Ao47 t650.length co47) := hS_
       refine norm_ (a' := ?_) ?_ ?_
       rotate_left
       ·simp only [putAll, Act.put, List.setIfInBounds_toArray, List.set_cons_zero, List.set_cons_succ]
        rfl
       refine one_ (i := 6) (N := some 10) #[true, true, true, true, true, true, true, true, false, false] rfl rfl (one_of HT_.out (by kernel_rfl)) (by decide) (fun K hK => ?_)
       refine box_step ?hg (N := 10) ?hd (cs := #[.int .i64 0, .slice none 0 0, .slice none 0 0, .slice none 0 0]) (t := 27) ?hr ?_; (case hd => rfl); (case hg => rfl); (case hr => (go_simp; done))
       intro gb675 hg w54 hbox hb
       replace HO646 := rba HO646 hb
       replace HO649 := rba HO649 hb
       replace HO652 := rba HO652 hb
       replace HO658 := rba HO658 hb
       replace HO661 := rba HO661 hb
       replace HO664 := rba HO664 hb
       replace HO668 := rba HO668 hb
       replace HO671 := rba HO671 hb
       replace HO674 := rba HO674 hb
       have BK675 := Aside0.mk (hbox)
       have GW675 := bza HB hg
       have GE675 := bza HB hg
       replace HB := bsa HB hb
       obtain ⟨NB654_675, NB675_654⟩ := bnm BK654 hg
       replace BK654 := bba BK654 hb
       obtain ⟨NB676_675, NB675_676⟩ := bnm BK676 hg
       replace BK676 := bba BK676 hb
       clear hb hbox hg
       refine hK.out _ _ ⟨(blk_cell BK654.out 0).trans rfl, (blk_cell BK654.out 1).trans rfl, (blk_cell BK654.out 2).trans rfl, (blk_cell BK654.out 3).trans rfl⟩ (fun hHeld => ?_)
       clear hK K
       refine norm_ (a' := ?_) ?_ ?_
       rotate_left
       ·show Act.put _ (some 10) _ = _
        simp only [Act.put, List.setIfInBounds_toArray, List.set_cons_zero, List.set_cons_succ, i64_w, i32_w]
        rfl
       exact norm_ (by (simp only [putAll, Act.put, List.setIfInBounds_toArray, List.set_cons_zero, List.set_cons_succ]; done)) (hJ2_5_6_7 (v657, v660, v663, v667, v670, v673, gb675, gb676) _ ⟨hHeld, (rx HO646.out), (rx HO649.out), (rx HO652.out), (rx HO658.out), (rx HO661.out), (rx HO664.out), (rx HO668.out), (rx HO671.out), (rx HO674.out), (bx BK654.out), (bx BK675.out), (bx BK676.out), GW675.out, GE675.out, NB654_675.out, NB675_654.out, NB676_675.out, NB675_676.out, GW676.out, GE676.out, NB654_676.out, NB676_654.out, (bh HB.out)⟩)
     ·skip
      rintro ⟨v657, v660, v663, v667, v670, v673, gb675⟩ w53 ⟨hS_, h0_, h1_, h2_, h3_, h4_, h5_, h6_, h7_, h8_, h9_, h10_, h11_, h12_, h13_, h14_, h15_⟩
      have n0_ : Aside0 (Kd.R k64 64 w53 w.heap.size (fun k_ => some k_ ≠ (v657 : Value).ownBlock ∧ some k_ ≠ (v667 : Value).ownBlock) (.slice Ao45 t644.length co45) t644) := ⟨h0_⟩
      have n1_ : Aside0 (Kd.R (Kd.int .i64) 3 w53 w.heap.size (fun k_ => some k_ ≠ (.slice Ao47 t650.length co47 : Value).ownBlock ∧ some k_ ≠ (v660 : Value).ownBlock ∧ some k_ ≠ (v663 : Value).ownBlock ∧ some k_ ≠ (v670 : Value).ownBlock ∧ some k_ ≠ (v673 : Value).ownBlock) (.slice Ao46 t647.length co46) t647) := ⟨h1_⟩
      have n2_ : Aside0 (Kd.R (Kd.int .i64) 3 w53 w.heap.size (fun k_ => some k_ ≠ (.slice Ao46 t647.length co46 : Value).ownBlock ∧ some k_ ≠ (v660 : Value).ownBlock ∧ some k_ ≠ (v663 : Value).ownBlock ∧ some k_ ≠ (v670 : Value).ownBlock ∧ some k_ ≠ (v673 : Value).ownBlock) (.slice Ao47 t650.length co47) t650) := ⟨h2_⟩
      have n3_ : Aside0 (Kd.R k64 64 w53 w.heap.size (fun k_ => some k_ ≠ (.slice Ao45 t644.length co45 : Value).ownBlock ∧ some k_ ≠ (v667 : Value).ownBlock) v657 t656) := ⟨h3_⟩
      have n4_ : Aside0 (Kd.R (Kd.int .i64) 3 w53 w.heap.size (fun k_ => some k_ ≠ (.slice Ao46 t647.length co46 : Value).ownBlock ∧ some k_ ≠ (.slice Ao47 t650.length co47 : Value).ownBlock ∧ some k_ ≠ (v663 : Value).ownBlock ∧ some k_ ≠ (v670 : Value).ownBlock ∧ some k_ ≠ (v673 : Value).ownBlock) v660 t659) := ⟨h4_⟩
      have n5_ : Aside0 (Kd.R (Kd.int .i64) 3 w53 w.heap.size (fun k_ => some k_ ≠ (.slice Ao46 t647.length co46 : Value).ownBlock ∧ some k_ ≠ (.slice Ao47 t650.length co47 : Value).ownBlock ∧ some k_ ≠ (v660 : Value).ownBlock ∧ some k_ ≠ (v670 : Value).ownBlock ∧ some k_ ≠ (v673 : Value).ownBlock) v663 t662) := ⟨h5_⟩
      have n6_ : Aside0 (Kd.R k64 64 w53 w.heap.size (fun k_ => some k_ ≠ (.slice Ao45 t644.length co45 : Value).ownBlock ∧ some k_ ≠ (v657 : Value).ownBlock) v667 t666) := ⟨h6_⟩
      have n7_ : Aside0 (Kd.R (Kd.int .i64) 3 w53 w.heap.size (fun k_ => some k_ ≠ (.slice Ao46 t647.length co46 : Value).ownBlock ∧ some k_ ≠ (.slice Ao47 t650.length co47 : Value).ownBlock ∧ some k_ ≠ (v660 : Value).ownBlock ∧ some k_ ≠ (v663 : Value).ownBlock ∧ some k_ ≠ (v673 : Value).ownBlock) v670 t669) := ⟨h7_⟩
      have n8_ : Aside0 (Kd.R (Kd.int .i64) 3 w53 w.heap.size (fun k_ => some k_ ≠ (.slice Ao46 t647.length co46 : Value).ownBlock ∧ some k_ ≠ (.slice Ao47 t650.length co47 : Value).ownBlock ∧ some k_ ≠ (v660 : Value).ownBlock ∧ some k_ ≠ (v663 : Value).ownBlock ∧ some k_ ≠ (v670 : Value).ownBlock) v673 t672) := ⟨h8_⟩
      have n9_ : Aside0 (w53.heap[gb654]? = some (.cells #[.int .i64 t643, .slice Ao45 t644.length co45, .slice Ao46 t647.length co46, .slice Ao47 t650.length co47] 27 (0, 0))) := ⟨h9_⟩
      have n10_ : Aside0 (w53.heap[gb675]? = some (.cells #[.int .i64 0, .slice none 0 0, .slice none 0 0, .slice none 0 0] 27 (0, 0))) := ⟨h10_⟩
      have n11_ : Aside0 (w.heap.size ≤ gb675) := ⟨h11_⟩
      have n12_ : Aside0 (w.heap.size ≤ gb675) := ⟨h12_⟩
      have n13_ : Aside0 (gb654 ≠ gb675) := ⟨h13_⟩
      have n14_ : Aside0 (gb675 ≠ gb654) := ⟨h14_⟩
      have n15_ : Aside0 (Below w.heap.size w w53) := ⟨h15_⟩
      clear HO646 HO649 HO652 BK654 HB h0_ h1_ h2_ h3_ h4_ h5_ h6_ h7_ h8_ h9_ h10_ h11_ h12_ h13_ h14_ h15_
      have HO646 := n0_
      have HO649 := n1_
      have HO652 := n2_
      have HO658 := n3_
      have HO661 := n4_
      have HO664 := n5_
      have HO668 := n6_
      have HO671 := n7_
      have HO674 := n8_
      have BK654 := n9_
      have BK675 := n10_
      have GW675 := n11_
      have GE675 := n12_
      have NB654_675 := n13_
      have NB675_654 := n14_
      have HB := n15_
      clear n0_ n1_ n2_ n3_ n4_ n5_ n6_ n7_ n8_ n9_ n10_ n11_ n12_ n13_ n14_ n15_
      have hHeld : w53.cell? ⟨gb654, 0, none⟩ = some (.int .i64 t643) ∧ w53.cell? ⟨gb654, 1, none⟩ = some (.slice Ao45 t644.length co45) ∧ w53.cell? ⟨gb654, 2, none⟩ = some (.slice Ao46 t647.length co46) ∧ w53.cell? ⟨gb654, 3, none⟩ = some (.slice Ao47 t650.length co47) := hS_
      refine norm_ (a' := ?_) ?_ ?_
      rotate_left
      ·simp only [putAll, Act.put, List.setIfInBounds_toArray, List.set_cons_zero, List.set_cons_succ]
       rfl
      refine one_ (i := 7) (N := some 11) #[true, true, true, true, true, true, true, true, false, false] rfl rfl (one_of HT_.out (by kernel_rfl)) (by decide) (fun K hK => ?_)
      refine box_step ?hg (N := 11) ?hd (cs := #[.int .i64 0, .slice none 0 0, .slice none 0 0, .slice none 0 0]) (t := 27) ?hr ?_; (case hd => rfl); (case hg => rfl); (case hr => (go_simp; done))
      intro gb676 hg w54 hbox hb
      replace HO646 := rba HO646 hb
      replace HO649 := rba HO649 hb
      replace HO652 := rba HO652 hb
      replace HO658 := rba HO658 hb
      replace HO661 := rba HO661 hb
      replace HO664 := rba HO664 hb
      replace HO668 := rba HO668 hb
      replace HO671 := rba HO671 hb
      replace HO674 := rba HO674 hb
      have BK676 := Aside0.mk (hbox)
      have GW676 := bza HB hg
      have GE676 := bza HB hg
      replace HB := bsa HB hb
      obtain ⟨NB654_676, NB676_654⟩ := bnm BK654 hg
      replace BK654 := bba BK654 hb
      obtain ⟨NB675_676, NB676_675⟩ := bnm BK675 hg
      replace BK675 := bba BK675 hb
      clear hb hbox hg
      refine hK.out _ _ ⟨(blk_cell BK654.out 0).trans rfl, (blk_cell BK654.out 1).trans rfl, (blk_cell BK654.out 2).trans rfl, (blk_cell BK654.out 3).trans rfl⟩ (fun hHeld => ?_)
      clear hK K
      refine norm_ (a' := ?_) ?_ ?_
      rotate_left
      ·show Act.put _ (some 11) _ = _
       simp only [Act.put, List.setIfInBounds_toArray, List.set_cons_zero, List.set_cons_succ, i64_w, i32_w]
       rfl
      exact norm_ (by (simp only [putAll, Act.put, List.setIfInBounds_toArray, List.set_cons_zero, List.set_cons_succ]; done)) (hJ2_5_6_7 (v657, v660, v663, v667, v670, v673, gb675, gb676) _ ⟨hHeld, (rx HO646.out), (rx HO649.out), (rx HO652.out), (rx HO658.out), (rx HO661.out), (rx HO664.out), (rx HO668.out), (rx HO671.out), (rx HO674.out), (bx BK654.out), (bx BK675.out), (bx BK676.out), GW675.out, GE675.out, NB654_675.out, NB675_654.out, NB676_675.out, NB675_676.out, GW676.out, GE676.out, NB654_676.out, NB676_654.out, (bh HB.out)⟩)
    rintro ⟨v657, v660, v663, v667, v670, v673, gb675, gb676⟩ w54 ⟨hS_, h0_, h1_, h2_, h3_, h4_, h5_, h6_, h7_, h8_, h9_, h10_, h11_, h12_, h13_, h14_, h15_, h16_, h17_, h18_, h19_, h20_, h21_, h22_⟩
    have n0_ : Aside0 (Kd.R k64 64 w54 w.heap.size (fun k_ => some k_ ≠ (v657 : Value).ownBlock ∧ some k_ ≠ (v667 : Value).ownBlock) (.slice Ao45 t644.length co45) t644) := ⟨h0_⟩
    have n1_ : Aside0 (Kd.R (Kd.int .i64) 3 w54 w.heap.size (fun k_ => some k_ ≠ (.slice Ao47 t650.length co47 : Value).ownBlock ∧ some k_ ≠ (v660 : Value).ownBlock ∧ some k_ ≠ (v663 : Value).ownBlock ∧ some k_ ≠ (v670 : Value).ownBlock ∧ some k_ ≠ (v673 : Value).ownBlock) (.slice Ao46 t647.length co46) t647) := ⟨h1_⟩
    have n2_ : Aside0 (Kd.R (Kd.int .i64) 3 w54 w.heap.size (fun k_ => some k_ ≠ (.slice Ao46 t647.length co46 : Value).ownBlock ∧ some k_ ≠ (v660 : Value).ownBlock ∧ some k_ ≠ (v663 : Value).ownBlock ∧ some k_ ≠ (v670 : Value).ownBlock ∧ some k_ ≠ (v673 : Value).ownBlock) (.slice Ao47 t650.length co47) t650) := ⟨h2_⟩
    have n3_ : Aside0 (Kd.R k64 64 w54 w.heap.size (fun k_ => some k_ ≠ (.slice Ao45 t644.length co45 : Value).ownBlock ∧ some k_ ≠ (v667 : Value).ownBlock) v657 t656) := ⟨h3_⟩
    have n4_ : Aside0 (Kd.R (Kd.int .i64) 3 w54 w.heap.size (fun k_ => some k_ ≠ (.slice Ao46 t647.length co46 : Value).ownBlock ∧ some k_ ≠ (.slice Ao47 t650.length co47 : Value).ownBlock ∧ some k_ ≠ (v663 : Value).ownBlock ∧ some k_ ≠ (v670 : Value).ownBlock ∧ some k_ ≠ (v673 : Value).ownBlock) v660 t659) := ⟨h4_⟩
    have n5_ : Aside0 (Kd.R (Kd.int .i64) 3 w54 w.heap.size (fun k_ => some k_ ≠ (.slice Ao46 t647.length co46 : Value).ownBlock ∧ some k_ ≠ (.slice Ao47 t650.length co47 : Value).ownBlock ∧ some k_ ≠ (v660 : Value).ownBlock ∧ some k_ ≠ (v670 : Value).ownBlock ∧ some k_ ≠ (v673 : Value).ownBlock) v663 t662) := ⟨h5_⟩
    have n6_ : Aside0 (Kd.R k64 64 w54 w.heap.size (fun k_ => some k_ ≠ (.slice Ao45 t644.length co45 : Value).ownBlock ∧ some k_ ≠ (v657 : Value).ownBlock) v667 t666) := ⟨h6_⟩
    have n7_ : Aside0 (Kd.R (Kd.int .i64) 3 w54 w.heap.size (fun k_ => some k_ ≠ (.slice Ao46 t647.length co46 : Value).ownBlock ∧ some k_ ≠ (.slice Ao47 t650.length co47 : Value).ownBlock ∧ some k_ ≠ (v660 : Value).ownBlock ∧ some k_ ≠ (v663 : Value).ownBlock ∧ some k_ ≠ (v673 : Value).ownBlock) v670 t669) := ⟨h7_⟩
    have n8_ : Aside0 (Kd.R (Kd.int .i64) 3 w54 w.heap.size (fun k_ => some k_ ≠ (.slice Ao46 t647.length co46 : Value).ownBlock ∧ some k_ ≠ (.slice Ao47 t650.length co47 : Value).ownBlock ∧ some k_ ≠ (v660 : Value).ownBlock ∧ some k_ ≠ (v663 : Value).ownBlock ∧ some k_ ≠ (v670 : Value).ownBlock) v673 t672) := ⟨h8_⟩
    have n9_ : Aside0 (w54.heap[gb654]? = some (.cells #[.int .i64 t643, .slice Ao45 t644.length co45, .slice Ao46 t647.length co46, .slice Ao47 t650.length co47] 27 (0, 0))) := ⟨h9_⟩
    have n10_ : Aside0 (w54.heap[gb675]? = some (.cells #[.int .i64 0, .slice none 0 0, .slice none 0 0, .slice none 0 0] 27 (0, 0))) := ⟨h10_⟩
    have n11_ : Aside0 (w54.heap[gb676]? = some (.cells #[.int .i64 0, .slice none 0 0, .slice none 0 0, .slice none 0 0] 27 (0, 0))) := ⟨h11_⟩
    have n12_ : Aside0 (w.heap.size ≤ gb675) := ⟨h12_⟩
    have n13_ : Aside0 (w.heap.size ≤ gb675) := ⟨h13_⟩
    have n14_ : Aside0 (gb654 ≠ gb675) := ⟨h14_⟩
    have n15_ : Aside0 (gb675 ≠ gb654) := ⟨h15_⟩
    have n16_ : Aside0 (gb676 ≠ gb675) := ⟨h16_⟩
    have n17_ : Aside0 (gb675 ≠ gb676) := ⟨h17_⟩
    have n18_ : Aside0 (w.heap.size ≤ gb676) := ⟨h18_⟩
    have n19_ : Aside0 (w.heap.size ≤ gb676) := ⟨h19_⟩
    have n20_ : Aside0 (gb654 ≠ gb676) := ⟨h20_⟩
    have n21_ : Aside0 (gb676 ≠ gb654) := ⟨h21_⟩
    have n22_ : Aside0 (Below w.heap.size w w54) := ⟨h22_⟩
    clear HO646 HO649 HO652 BK654 HB h0_ h1_ h2_ h3_ h4_ h5_ h6_ h7_ h8_ h9_ h10_ h11_ h12_ h13_ h14_ h15_ h16_ h17_ h18_ h19_ h20_ h21_ h22_
    have HO646 := n0_
    have HO649 := n1_
    have HO652 := n2_
    have HO658 := n3_
    have HO661 := n4_
    have HO664 := n5_
    have HO668 := n6_
    have HO671 := n7_
    have HO674 := n8_
    have BK654 := n9_
    have BK675 := n10_
    have BK676 := n11_
    have GW675 := n12_
    have GE675 := n13_
    have NB654_675 := n14_
    have NB675_654 := n15_
    have NB676_675 := n16_
    have NB675_676 := n17_
    have GW676 := n18_
    have GE676 := n19_
    have NB654_676 := n20_
    have NB676_654 := n21_
    have HB := n22_
    clear n0_ n1_ n2_ n3_ n4_ n5_ n6_ n7_ n8_ n9_ n10_ n11_ n12_ n13_ n14_ n15_ n16_ n17_ n18_ n19_ n20_ n21_ n22_
    have hHeld : w54.cell? ⟨gb654, 0, none⟩ = some (.int .i64 t643) ∧ w54.cell? ⟨gb654, 1, none⟩ = some (.slice Ao45 t644.length co45) ∧ w54.cell? ⟨gb654, 2, none⟩ = some (.slice Ao46 t647.length co46) ∧ w54.cell? ⟨gb654, 3, none⟩ = some (.slice Ao47 t650.length co47) := hS_
    obtain ⟨Ao56, co56, eo56⟩ := Kd.R_slice HO658.out
    (subst eo56)
    obtain ⟨Ao58, co58, eo58⟩ := Kd.R_slice HO661.out
    (subst eo58)
    obtain ⟨Ao60, co60, eo60⟩ := Kd.R_slice HO664.out
    (subst eo60)
    obtain ⟨Ao63, co63, eo63⟩ := Kd.R_slice HO668.out
    (subst eo63)
    obtain ⟨Ao65, co65, eo65⟩ := Kd.R_slice HO671.out
    (subst eo65)
    obtain ⟨Ao67, co67, eo67⟩ := Kd.R_slice HO674.out
    (subst eo67)
    refine norm_ (a' := ?_) ?_ ?_
    rotate_left
    ·simp only [putAll, Act.put, List.setIfInBounds_toArray, List.set_cons_zero, List.set_cons_succ]
     rfl
    refine one_ (i := 8) (N := none) #[true, true, true, true, true, true, true, true, true, false] rfl rfl (one_of HT_.out (by kernel_rfl)) (by decide) (fun K hK => ?_)
    have hs55 : w54.cell? ⟨gb675, 0, none⟩ = some (.int .i64 0) := (blk_cell BK675.out 0).trans rfl
    have hfs55 := blk_frozen BK675.out 0
    have hns55_0 := NB654_675.out
    have hns55_2 := NB676_675.out
    have hms55_0 := NB675_654.out
    have hms55_2 := NB675_676.out
    have hs57 : w54.cell? ⟨gb675, 1, none⟩ = some (.slice none 0 0) := (blk_cell BK675.out 1).trans rfl
    have hfs57 := blk_frozen BK675.out 1
    have hns57_0 := NB654_675.out
    have hns57_2 := NB676_675.out
    have hms57_0 := NB675_654.out
    have hms57_2 := NB675_676.out
    have hs59 : w54.cell? ⟨gb675, 2, none⟩ = some (.slice none 0 0) := (blk_cell BK675.out 2).trans rfl
    have hfs59 := blk_frozen BK675.out 2
    have hns59_0 := NB654_675.out
    have hns59_2 := NB676_675.out
    have hms59_0 := NB675_654.out
    have hms59_2 := NB675_676.out
    have hs61 : w54.cell? ⟨gb675, 3, none⟩ = some (.slice none 0 0) := (blk_cell BK675.out 3).trans rfl
    have hfs61 := blk_frozen BK675.out 3
    have hns61_0 := NB654_675.out
    have hns61_2 := NB676_675.out
    have hms61_0 := NB675_654.out
    have hms61_2 := NB675_676.out
    refine skip_ (w1 := ?_) (by rfl) rfl ?_ ?_
    rotate_left
    ·go_simp
     rfl
    refine hK.out _ _ ⟨((cell_far (p := ⟨gb675, _, none⟩) NB654_675.out _).trans (((cell_far (p := ⟨gb675, _, none⟩) NB654_675.out _).trans (((cell_far (p := ⟨gb675, _, none⟩) NB654_675.out _).trans (((cell_far (p := ⟨gb675, _, none⟩) NB654_675.out _).trans (hHeld.1)))))))), ((cell_far (p := ⟨gb675, _, none⟩) NB654_675.out _).trans (((cell_far (p := ⟨gb675, _, none⟩) NB654_675.out _).trans (((cell_far (p := ⟨gb675, _, none⟩) NB654_675.out _).trans (((cell_far (p := ⟨gb675, _, none⟩) NB654_675.out _).trans (hHeld.2.1)))))))), ((cell_far (p := ⟨gb675, _, none⟩) NB654_675.out _).trans (((cell_far (p := ⟨gb675, _, none⟩) NB654_675.out _).trans (((cell_far (p := ⟨gb675, _, none⟩) NB654_675.out _).trans (((cell_far (p := ⟨gb675, _, none⟩) NB654_675.out _).trans (hHeld.2.2.1)))))))), ((cell_far (p := ⟨gb675, _, none⟩) NB654_675.out _).trans (((cell_far (p := ⟨gb675, _, none⟩) NB654_675.out _).trans (((cell_far (p := ⟨gb675, _, none⟩) NB654_675.out _).trans (((cell_far (p := ⟨gb675, _, none⟩) NB654_675.out _).trans (hHeld.2.2.2))))))))⟩ (fun hHeld => ?_)
    clear hK K
    refine one_ (i := 9) (N := none) #[true, true, true, true, true, true, true, true, true, true] rfl rfl (one_of HT_.out (by kernel_rfl)) (by decide) (fun K hK => ?_)
    have hs62 : w54.cell? ⟨gb676, 0, none⟩ = some (.int .i64 0) := (blk_cell BK676.out 0).trans rfl
    have hfs62 := blk_frozen BK676.out 0
    have hns62_0 := NB654_676.out
    have hns62_1 := NB675_676.out
    have hms62_0 := NB676_654.out
    have hms62_1 := NB676_675.out
    have hs64 : w54.cell? ⟨gb676, 1, none⟩ = some (.slice none 0 0) := (blk_cell BK676.out 1).trans rfl
    have hfs64 := blk_frozen BK676.out 1
    have hns64_0 := NB654_676.out
    have hns64_1 := NB675_676.out
    have hms64_0 := NB676_654.out
    have hms64_1 := NB676_675.out
    have hs66 : w54.cell? ⟨gb676, 2, none⟩ = some (.slice none 0 0) := (blk_cell BK676.out 2).trans rfl
    have hfs66 := blk_frozen BK676.out 2
    have hns66_0 := NB654_676.out
    have hns66_1 := NB675_676.out
    have hms66_0 := NB676_654.out
    have hms66_1 := NB676_675.out
    have hs68 : w54.cell? ⟨gb676, 3, none⟩ = some (.slice none 0 0) := (blk_cell BK676.out 3).trans rfl
    have hfs68 := blk_frozen BK676.out 3
    have hns68_0 := NB654_676.out
    have hns68_1 := NB675_676.out
    have hms68_0 := NB676_654.out
    have hms68_1 := NB676_675.out
    refine skip_ (w1 := ?_) (by rfl) rfl ?_ ?_
    rotate_left
    ·go_simp
     rfl
    refine hK.out _ _ ⟨((cell_far (p := ⟨gb676, _, none⟩) NB654_676.out _).trans (((cell_far (p := ⟨gb676, _, none⟩) NB654_676.out _).trans (((cell_far (p := ⟨gb676, _, none⟩) NB654_676.out _).trans (((cell_far (p := ⟨gb676, _, none⟩) NB654_676.out _).trans (hHeld.1)))))))), ((cell_far (p := ⟨gb676, _, none⟩) NB654_676.out _).trans (((cell_far (p := ⟨gb676, _, none⟩) NB654_676.out _).trans (((cell_far (p := ⟨gb676, _, none⟩) NB654_676.out _).trans (((cell_far (p := ⟨gb676, _, none⟩) NB654_676.out _).trans (hHeld.2.1)))))))), ((cell_far (p := ⟨gb676, _, none⟩) NB654_676.out _).trans (((cell_far (p := ⟨gb676, _, none⟩) NB654_676.out _).trans (((cell_far (p := ⟨gb676, _, none⟩) NB654_676.out _).trans (((cell_far (p := ⟨gb676, _, none⟩) NB654_676.out _).trans (hHeld.2.2.1)))))))), ((cell_far (p := ⟨gb676, _, none⟩) NB654_676.out _).trans (((cell_far (p := ⟨gb676, _, none⟩) NB654_676.out _).trans (((cell_far (p := ⟨gb676, _, none⟩) NB654_676.out _).trans (((cell_far (p := ⟨gb676, _, none⟩) NB654_676.out _).trans (hHeld.2.2.2))))))))⟩ (fun hHeld => ?_)
    clear hK K
    refine done_ (done_of HT_.out (by kernel_rfl)) ?_
    go_wp2_with (first | ((with_reducible refine gate_dst (N := 12) rfl ?_); ((refine gate_guard (by rfl) ?_; dsimp only)); refine box_event ?hg (N := 12) ?hd (cs := #[.int .i64 0, .slice none 0 0, .slice none 0 0, .slice none 0 0]) (t := 27) ?hr ?_; (case hd => rfl); (case hg => rfl); (case hr => (go_simp; done)); intro gb677 hg w69 hbox hb; replace HO646 := Aside0.mk (Kd.R_below (by exact (Kd.R_mono (Kd.R_mono (Kd.R_far (p := ⟨gb676, 3, none⟩) (Kd.R_far (p := ⟨gb676, 2, none⟩) (Kd.R_far (p := ⟨gb676, 1, none⟩) (Kd.R_far (p := ⟨gb676, 0, none⟩) (Kd.R_far (p := ⟨gb675, 3, none⟩) (Kd.R_far (p := ⟨gb675, 2, none⟩) (Kd.R_far (p := ⟨gb675, 1, none⟩) (Kd.R_far (p := ⟨gb675, 0, none⟩) (Kd.R_types (Kd.R_types HO646.out BK675.out (by decide)) BK676.out (by decide)) (fun _ hk => hk.1.2) (.int .i64 t655)) (fun _ hk => hk.1.2) (.slice Ao56 t656.length co56)) (fun _ hk => hk.1.2) (.slice Ao58 t659.length co58)) (fun _ hk => hk.1.2) (.slice Ao60 t662.length co60)) (fun _ hk => hk.2) (.int .i64 t665)) (fun _ hk => hk.2) (.slice Ao63 t666.length co63)) (fun _ hk => hk.2) (.slice Ao65 t669.length co65)) (fun _ hk => hk.2) (.slice Ao67 t672.length co67)) (fun _ h_ => h_.1)) (fun _ h_ => h_.1))) hb); replace HO649 := Aside0.mk (Kd.R_below (by exact (Kd.R_mono (Kd.R_mono (Kd.R_far (p := ⟨gb676, 3, none⟩) (Kd.R_far (p := ⟨gb676, 2, none⟩) (Kd.R_far (p := ⟨gb676, 1, none⟩) (Kd.R_far (p := ⟨gb676, 0, none⟩) (Kd.R_far (p := ⟨gb675, 3, none⟩) (Kd.R_far (p := ⟨gb675, 2, none⟩) (Kd.R_far (p := ⟨gb675, 1, none⟩) (Kd.R_far (p := ⟨gb675, 0, none⟩) (Kd.R_types (Kd.R_types HO649.out BK675.out (by decide)) BK676.out (by decide)) (fun _ hk => hk.1.2) (.int .i64 t655)) (fun _ hk => hk.1.2) (.slice Ao56 t656.length co56)) (fun _ hk => hk.1.2) (.slice Ao58 t659.length co58)) (fun _ hk => hk.1.2) (.slice Ao60 t662.length co60)) (fun _ hk => hk.2) (.int .i64 t665)) (fun _ hk => hk.2) (.slice Ao63 t666.length co63)) (fun _ hk => hk.2) (.slice Ao65 t669.length co65)) (fun _ hk => hk.2) (.slice Ao67 t672.length co67)) (fun _ h_ => h_.1)) (fun _ h_ => h_.1))) hb); replace HO652 := Aside0.mk (Kd.R_below (by exact (Kd.R_mono (Kd.R_mono (Kd.R_far (p := ⟨gb676, 3, none⟩) (Kd.R_far (p := ⟨gb676, 2, none⟩) (Kd.R_far (p := ⟨gb676, 1, none⟩) (Kd.R_far (p := ⟨gb676, 0, none⟩) (Kd.R_far (p := ⟨gb675, 3, none⟩) (Kd.R_far (p := ⟨gb675, 2, none⟩) (Kd.R_far (p := ⟨gb675, 1, none⟩) (Kd.R_far (p := ⟨gb675, 0, none⟩) (Kd.R_types (Kd.R_types HO652.out BK675.out (by decide)) BK676.out (by decide)) (fun _ hk => hk.1.2) (.int .i64 t655)) (fun _ hk => hk.1.2) (.slice Ao56 t656.length co56)) (fun _ hk => hk.1.2) (.slice Ao58 t659.length co58)) (fun _ hk => hk.1.2) (.slice Ao60 t662.length co60)) (fun _ hk => hk.2) (.int .i64 t665)) (fun _ hk => hk.2) (.slice Ao63 t666.length co63)) (fun _ hk => hk.2) (.slice Ao65 t669.length co65)) (fun _ hk => hk.2) (.slice Ao67 t672.length co67)) (fun _ h_ => h_.1)) (fun _ h_ => h_.1))) hb); replace HO658 := Aside0.mk (Kd.R_below (by exact (Kd.R_mono (Kd.R_mono (Kd.R_far (p := ⟨gb676, 3, none⟩) (Kd.R_far (p := ⟨gb676, 2, none⟩) (Kd.R_far (p := ⟨gb676, 1, none⟩) (Kd.R_far (p := ⟨gb676, 0, none⟩) (Kd.R_far (p := ⟨gb675, 3, none⟩) (Kd.R_far (p := ⟨gb675, 2, none⟩) (Kd.R_far (p := ⟨gb675, 1, none⟩) (Kd.R_far (p := ⟨gb675, 0, none⟩) (Kd.R_types (Kd.R_types HO658.out BK675.out (by decide)) BK676.out (by decide)) (fun _ hk => hk.1.2) (.int .i64 t655)) (fun _ hk => hk.1.2) (.slice Ao56 t656.length co56)) (fun _ hk => hk.1.2) (.slice Ao58 t659.length co58)) (fun _ hk => hk.1.2) (.slice Ao60 t662.length co60)) (fun _ hk => hk.2) (.int .i64 t665)) (fun _ hk => hk.2) (.slice Ao63 t666.length co63)) (fun _ hk => hk.2) (.slice Ao65 t669.length co65)) (fun _ hk => hk.2) (.slice Ao67 t672.length co67)) (fun _ h_ => h_.1)) (fun _ h_ => h_.1))) hb); replace HO661 := Aside0.mk (Kd.R_below (by exact (Kd.R_mono (Kd.R_mono (Kd.R_far (p := ⟨gb676, 3, none⟩) (Kd.R_far (p := ⟨gb676, 2, none⟩) (Kd.R_far (p := ⟨gb676, 1, none⟩) (Kd.R_far (p := ⟨gb676, 0, none⟩) (Kd.R_far (p := ⟨gb675, 3, none⟩) (Kd.R_far (p := ⟨gb675, 2, none⟩) (Kd.R_far (p := ⟨gb675, 1, none⟩) (Kd.R_far (p := ⟨gb675, 0, none⟩) (Kd.R_types (Kd.R_types HO661.out BK675.out (by decide)) BK676.out (by decide)) (fun _ hk => hk.1.2) (.int .i64 t655)) (fun _ hk => hk.1.2) (.slice Ao56 t656.length co56)) (fun _ hk => hk.1.2) (.slice Ao58 t659.length co58)) (fun _ hk => hk.1.2) (.slice Ao60 t662.length co60)) (fun _ hk => hk.2) (.int .i64 t665)) (fun _ hk => hk.2) (.slice Ao63 t666.length co63)) (fun _ hk => hk.2) (.slice Ao65 t669.length co65)) (fun _ hk => hk.2) (.slice Ao67 t672.length co67)) (fun _ h_ => h_.1)) (fun _ h_ => h_.1))) hb); replace HO664 := Aside0.mk (Kd.R_below (by exact (Kd.R_mono (Kd.R_mono (Kd.R_far (p := ⟨gb676, 3, none⟩) (Kd.R_far (p := ⟨gb676, 2, none⟩) (Kd.R_far (p := ⟨gb676, 1, none⟩) (Kd.R_far (p := ⟨gb676, 0, none⟩) (Kd.R_far (p := ⟨gb675, 3, none⟩) (Kd.R_far (p := ⟨gb675, 2, none⟩) (Kd.R_far (p := ⟨gb675, 1, none⟩) (Kd.R_far (p := ⟨gb675, 0, none⟩) (Kd.R_types (Kd.R_types HO664.out BK675.out (by decide)) BK676.out (by decide)) (fun _ hk => hk.1.2) (.int .i64 t655)) (fun _ hk => hk.1.2) (.slice Ao56 t656.length co56)) (fun _ hk => hk.1.2) (.slice Ao58 t659.length co58)) (fun _ hk => hk.1.2) (.slice Ao60 t662.length co60)) (fun _ hk => hk.2) (.int .i64 t665)) (fun _ hk => hk.2) (.slice Ao63 t666.length co63)) (fun _ hk => hk.2) (.slice Ao65 t669.length co65)) (fun _ hk => hk.2) (.slice Ao67 t672.length co67)) (fun _ h_ => h_.1)) (fun _ h_ => h_.1))) hb); replace HO668 := Aside0.mk (Kd.R_below (by exact (Kd.R_mono (Kd.R_mono (Kd.R_far (p := ⟨gb676, 3, none⟩) (Kd.R_far (p := ⟨gb676, 2, none⟩) (Kd.R_far (p := ⟨gb676, 1, none⟩) (Kd.R_far (p := ⟨gb676, 0, none⟩) (Kd.R_far (p := ⟨gb675, 3, none⟩) (Kd.R_far (p := ⟨gb675, 2, none⟩) (Kd.R_far (p := ⟨gb675, 1, none⟩) (Kd.R_far (p := ⟨gb675, 0, none⟩) (Kd.R_types (Kd.R_types HO668.out BK675.out (by decide)) BK676.out (by decide)) (fun _ hk => hk.1.2) (.int .i64 t655)) (fun _ hk => hk.1.2) (.slice Ao56 t656.length co56)) (fun _ hk => hk.1.2) (.slice Ao58 t659.length co58)) (fun _ hk => hk.1.2) (.slice Ao60 t662.length co60)) (fun _ hk => hk.2) (.int .i64 t665)) (fun _ hk => hk.2) (.slice Ao63 t666.length co63)) (fun _ hk => hk.2) (.slice Ao65 t669.length co65)) (fun _ hk => hk.2) (.slice Ao67 t672.length co67)) (fun _ h_ => h_.1)) (fun _ h_ => h_.1))) hb); replace HO671 := Aside0.mk (Kd.R_below (by exact (Kd.R_mono (Kd.R_mono (Kd.R_far (p := ⟨gb676, 3, none⟩) (Kd.R_far (p := ⟨gb676, 2, none⟩) (Kd.R_far (p := ⟨gb676, 1, none⟩) (Kd.R_far (p := ⟨gb676, 0, none⟩) (Kd.R_far (p := ⟨gb675, 3, none⟩) (Kd.R_far (p := ⟨gb675, 2, none⟩) (Kd.R_far (p := ⟨gb675, 1, none⟩) (Kd.R_far (p := ⟨gb675, 0, none⟩) (Kd.R_types (Kd.R_types HO671.out BK675.out (by decide)) BK676.out (by decide)) (fun _ hk => hk.1.2) (.int .i64 t655)) (fun _ hk => hk.1.2) (.slice Ao56 t656.length co56)) (fun _ hk => hk.1.2) (.slice Ao58 t659.length co58)) (fun _ hk => hk.1.2) (.slice Ao60 t662.length co60)) (fun _ hk => hk.2) (.int .i64 t665)) (fun _ hk => hk.2) (.slice Ao63 t666.length co63)) (fun _ hk => hk.2) (.slice Ao65 t669.length co65)) (fun _ hk => hk.2) (.slice Ao67 t672.length co67)) (fun _ h_ => h_.1)) (fun _ h_ => h_.1))) hb); replace HO674 := Aside0.mk (Kd.R_below (by exact (Kd.R_mono (Kd.R_mono (Kd.R_far (p := ⟨gb676, 3, none⟩) (Kd.R_far (p := ⟨gb676, 2, none⟩) (Kd.R_far (p := ⟨gb676, 1, none⟩) (Kd.R_far (p := ⟨gb676, 0, none⟩) (Kd.R_far (p := ⟨gb675, 3, none⟩) (Kd.R_far (p := ⟨gb675, 2, none⟩) (Kd.R_far (p := ⟨gb675, 1, none⟩) (Kd.R_far (p := ⟨gb675, 0, none⟩) (Kd.R_types (Kd.R_types HO674.out BK675.out (by decide)) BK676.out (by decide)) (fun _ hk => hk.1.2) (.int .i64 t655)) (fun _ hk => hk.1.2) (.slice Ao56 t656.length co56)) (fun _ hk => hk.1.2) (.slice Ao58 t659.length co58)) (fun _ hk => hk.1.2) (.slice Ao60 t662.length co60)) (fun _ hk => hk.2) (.int .i64 t665)) (fun _ hk => hk.2) (.slice Ao63 t666.length co63)) (fun _ hk => hk.2) (.slice Ao65 t669.length co65)) (fun _ hk => hk.2) (.slice Ao67 t672.length co67)) (fun _ h_ => h_.1)) (fun _ h_ => h_.1))) hb); have BK677 := Aside0.mk (hbox); have GW677 := bza HB hg; have GE677 := bza HB hg; replace HB := bsa HB hb; have NB654_677 := Aside0.mk ((by rw [hg]; exact Nat.ne_of_lt (blk_lt (g := gb654) (o := .cells #[.int .i64 t643, .slice Ao45 t644.length co45, .slice Ao46 t647.length co46, .slice Ao47 t650.length co47] 27 (0, 0)) (bx BK654.out)) : gb654 ≠ gb677)); have NB677_654 := Aside0.mk ((by rw [hg]; exact Nat.ne_of_gt (blk_lt (g := gb654) (o := .cells #[.int .i64 t643, .slice Ao45 t644.length co45, .slice Ao46 t647.length co46, .slice Ao47 t650.length co47] 27 (0, 0)) (bx BK654.out)) : gb677 ≠ gb654)); replace BK654 := Aside0.mk (blk_below (g := gb654) (o := .cells #[.int .i64 t643, .slice Ao45 t644.length co45, .slice Ao46 t647.length co46, .slice Ao47 t650.length co47] 27 (0, 0)) (bx BK654.out) hb); have NB675_677 := Aside0.mk ((by rw [hg]; exact Nat.ne_of_lt (blk_lt (g := gb675) (o := .cells #[.int .i64 t655, .slice Ao56 t656.length co56, .slice Ao58 t659.length co58, .slice Ao60 t662.length co60] 27 (0, 0)) (by refine blk_far ?_ NB675_676.out _; refine blk_far ?_ NB675_676.out _; refine blk_far ?_ NB675_676.out _; refine blk_far ?_ NB675_676.out _; refine blk_put (cs := #[.int .i64 t655, .slice Ao56 t656.length co56, .slice Ao58 t659.length co58, .slice none 0 0]) ?_ 3 _ rfl; refine blk_put (cs := #[.int .i64 t655, .slice Ao56 t656.length co56, .slice none 0 0, .slice none 0 0]) ?_ 2 _ rfl; refine blk_put (cs := #[.int .i64 t655, .slice none 0 0, .slice none 0 0, .slice none 0 0]) ?_ 1 _ rfl; refine blk_put (cs := #[.int .i64 0, .slice none 0 0, .slice none 0 0, .slice none 0 0]) ?_ 0 _ rfl; exact BK675.out)) : gb675 ≠ gb677)); have NB677_675 := Aside0.mk ((by rw [hg]; exact Nat.ne_of_gt (blk_lt (g := gb675) (o := .cells #[.int .i64 t655, .slice Ao56 t656.length co56, .slice Ao58 t659.length co58, .slice Ao60 t662.length co60] 27 (0, 0)) (by refine blk_far ?_ NB675_676.out _; refine blk_far ?_ NB675_676.out _; refine blk_far ?_ NB675_676.out _; refine blk_far ?_ NB675_676.out _; refine blk_put (cs := #[.int .i64 t655, .slice Ao56 t656.length co56, .slice Ao58 t659.length co58, .slice none 0 0]) ?_ 3 _ rfl; refine blk_put (cs := #[.int .i64 t655, .slice Ao56 t656.length co56, .slice none 0 0, .slice none 0 0]) ?_ 2 _ rfl; refine blk_put (cs := #[.int .i64 t655, .slice none 0 0, .slice none 0 0, .slice none 0 0]) ?_ 1 _ rfl; refine blk_put (cs := #[.int .i64 0, .slice none 0 0, .slice none 0 0, .slice none 0 0]) ?_ 0 _ rfl; exact BK675.out)) : gb677 ≠ gb675)); replace BK675 := Aside0.mk (blk_below (g := gb675) (o := .cells #[.int .i64 t655, .slice Ao56 t656.length co56, .slice Ao58 t659.length co58, .slice Ao60 t662.length co60] 27 (0, 0)) (by refine blk_far ?_ NB675_676.out _; refine blk_far ?_ NB675_676.out _; refine blk_far ?_ NB675_676.out _; refine blk_far ?_ NB675_676.out _; refine blk_put (cs := #[.int .i64 t655, .slice Ao56 t656.length co56, .slice Ao58 t659.length co58, .slice none 0 0]) ?_ 3 _ rfl; refine blk_put (cs := #[.int .i64 t655, .slice Ao56 t656.length co56, .slice none 0 0, .slice none 0 0]) ?_ 2 _ rfl; refine blk_put (cs := #[.int .i64 t655, .slice none 0 0, .slice none 0 0, .slice none 0 0]) ?_ 1 _ rfl; refine blk_put (cs := #[.int .i64 0, .slice none 0 0, .slice none 0 0, .slice none 0 0]) ?_ 0 _ rfl; exact BK675.out) hb); have NB676_677 := Aside0.mk ((by rw [hg]; exact Nat.ne_of_lt (blk_lt (g := gb676) (o := .cells #[.int .i64 t665, .slice Ao63 t666.length co63, .slice Ao65 t669.length co65, .slice Ao67 t672.length co67] 27 (0, 0)) (by refine blk_put (cs := #[.int .i64 t665, .slice Ao63 t666.length co63, .slice Ao65 t669.length co65, .slice none 0 0]) ?_ 3 _ rfl; refine blk_put (cs := #[.int .i64 t665, .slice Ao63 t666.length co63, .slice none 0 0, .slice none 0 0]) ?_ 2 _ rfl; refine blk_put (cs := #[.int .i64 t665, .slice none 0 0, .slice none 0 0, .slice none 0 0]) ?_ 1 _ rfl; refine blk_put (cs := #[.int .i64 0, .slice none 0 0, .slice none 0 0, .slice none 0 0]) ?_ 0 _ rfl; refine blk_far ?_ NB676_675.out _; refine blk_far ?_ NB676_675.out _; refine blk_far ?_ NB676_675.out _; refine blk_far ?_ NB676_675.out _; exact BK676.out)) : gb676 ≠ gb677)); have NB677_676 := Aside0.mk ((by rw [hg]; exact Nat.ne_of_gt (blk_lt (g := gb676) (o := .cells #[.int .i64 t665, .slice Ao63 t666.length co63, .slice Ao65 t669.length co65, .slice Ao67 t672.length co67] 27 (0, 0)) (by refine blk_put (cs := #[.int .i64 t665, .slice Ao63 t666.length co63, .slice Ao65 t669.length co65, .slice none 0 0]) ?_ 3 _ rfl; refine blk_put (cs := #[.int .i64 t665, .slice Ao63 t666.length co63, .slice none 0 0, .slice none 0 0]) ?_ 2 _ rfl; refine blk_put (cs := #[.int .i64 t665, .slice none 0 0, .slice none 0 0, .slice none 0 0]) ?_ 1 _ rfl; refine blk_put (cs := #[.int .i64 0, .slice none 0 0, .slice none 0 0, .slice none 0 0]) ?_ 0 _ rfl; refine blk_far ?_ NB676_675.out _; refine blk_far ?_ NB676_675.out _; refine blk_far ?_ NB676_675.out _; refine blk_far ?_ NB676_675.out _; exact BK676.out)) : gb677 ≠ gb676)); replace BK676 := Aside0.mk (blk_below (g := gb676) (o := .cells #[.int .i64 t665, .slice Ao63 t666.length co63, .slice Ao65 t669.length co65, .slice Ao67 t672.length co67] 27 (0, 0)) (by refine blk_put (cs := #[.int .i64 t665, .slice Ao63 t666.length co63, .slice Ao65 t669.length co65, .slice none 0 0]) ?_ 3 _ rfl; refine blk_put (cs := #[.int .i64 t665, .slice Ao63 t666.length co63, .slice none 0 0, .slice none 0 0]) ?_ 2 _ rfl; refine blk_put (cs := #[.int .i64 t665, .slice none 0 0, .slice none 0 0, .slice none 0 0]) ?_ 1 _ rfl; refine blk_put (cs := #[.int .i64 0, .slice none 0 0, .slice none 0 0, .slice none 0 0]) ?_ 0 _ rfl; refine blk_far ?_ NB676_675.out _; refine blk_far ?_ NB676_675.out _; refine blk_far ?_ NB676_675.out _; refine blk_far ?_ NB676_675.out _; exact BK676.out) hb); clear hb hbox hg; have hnb70 := NB677_654.out; have hnc70 := NB654_677.out; have hnb71 := NB677_675.out; have hnc71 := NB675_677.out; have hnb72 := NB677_676.out; have hnc72 := NB676_677.out; have hcz73_0 : w69.cell? ⟨gb677, 0, none⟩ = some (.int .i64 0) := (blk_cell BK677.out 0).trans rfl; have hcz73_1 : w69.cell? ⟨gb677, 1, none⟩ = some (.slice none 0 0) := (blk_cell BK677.out 1).trans rfl; have hcz73_2 : w69.cell? ⟨gb677, 2, none⟩ = some (.slice none 0 0) := (blk_cell BK677.out 2).trans rfl; have hcz73_3 : w69.cell? ⟨gb677, 3, none⟩ = some (.slice none 0 0) := (blk_cell BK677.out 3).trans rfl; have hfz73_0 := blk_frozen BK677.out 0; have hfz73_1 := blk_frozen BK677.out 1; have hfz73_2 := blk_frozen BK677.out 2; have hfz73_3 := blk_frozen BK677.out 3) | ((with_reducible refine gate_store (t := 27) (p := 12) rfl ?_); refine stE 27 12 ((((w69.setCell ⟨gb677, 0, none⟩ (.int .i64 0)).setCell ⟨gb677, 1, none⟩ (.slice none 0 0)).setCell ⟨gb677, 2, none⟩ (.slice none 0 0)).setCell ⟨gb677, 3, none⟩ (.slice none 0 0)) ?_; intro w74 hw; have n0_ := rsm (fun k_ => some k_ ≠ (.slice Ao56 t656.length co56 : Value).ownBlock ∧ some k_ ≠ (.slice Ao63 t666.length co63 : Value).ownBlock) HO646 hw (fun _ hk => ⟨hk.1, hk.2⟩); have n1_ := rsm (fun k_ => some k_ ≠ (.slice Ao47 t650.length co47 : Value).ownBlock ∧ some k_ ≠ (.slice Ao58 t659.length co58 : Value).ownBlock ∧ some k_ ≠ (.slice Ao60 t662.length co60 : Value).ownBlock ∧ some k_ ≠ (.slice Ao65 t669.length co65 : Value).ownBlock ∧ some k_ ≠ (.slice Ao67 t672.length co67 : Value).ownBlock) HO649 hw (fun _ hk => ⟨hk.1, ⟨hk.2.1, ⟨hk.2.2.1, ⟨hk.2.2.2.1, hk.2.2.2.2⟩⟩⟩⟩); have n2_ := rsm (fun k_ => some k_ ≠ (.slice Ao46 t647.length co46 : Value).ownBlock ∧ some k_ ≠ (.slice Ao58 t659.length co58 : Value).ownBlock ∧ some k_ ≠ (.slice Ao60 t662.length co60 : Value).ownBlock ∧ some k_ ≠ (.slice Ao65 t669.length co65 : Value).ownBlock ∧ some k_ ≠ (.slice Ao67 t672.length co67 : Value).ownBlock) HO652 hw (fun _ hk => ⟨hk.1, ⟨hk.2.1, ⟨hk.2.2.1, ⟨hk.2.2.2.1, hk.2.2.2.2⟩⟩⟩⟩); have n3_ := rsm (fun k_ => some k_ ≠ (.slice Ao45 t644.length co45 : Value).ownBlock ∧ some k_ ≠ (.slice Ao63 t666.length co63 : Value).ownBlock) HO658 hw (fun _ hk => ⟨hk.1, hk.2⟩); have n4_ := rsm (fun k_ => some k_ ≠ (.slice Ao46 t647.length co46 : Value).ownBlock ∧ some k_ ≠ (.slice Ao47 t650.length co47 : Value).ownBlock ∧ some k_ ≠ (.slice Ao60 t662.length co60 : Value).ownBlock ∧ some k_ ≠ (.slice Ao65 t669.length co65 : Value).ownBlock ∧ some k_ ≠ (.slice Ao67 t672.length co67 : Value).ownBlock) HO661 hw (fun _ hk => ⟨hk.1, ⟨hk.2.1, ⟨hk.2.2.1, ⟨hk.2.2.2.1, hk.2.2.2.2⟩⟩⟩⟩); have n5_ := rsm (fun k_ => some k_ ≠ (.slice Ao46 t647.length co46 : Value).ownBlock ∧ some k_ ≠ (.slice Ao47 t650.length co47 : Value).ownBlock ∧ some k_ ≠ (.slice Ao58 t659.length co58 : Value).ownBlock ∧ some k_ ≠ (.slice Ao65 t669.length co65 : Value).ownBlock ∧ some k_ ≠ (.slice Ao67 t672.length co67 : Value).ownBlock) HO664 hw (fun _ hk => ⟨hk.1, ⟨hk.2.1, ⟨hk.2.2.1, ⟨hk.2.2.2.1, hk.2.2.2.2⟩⟩⟩⟩); have n6_ := rsm (fun k_ => some k_ ≠ (.slice Ao45 t644.length co45 : Value).ownBlock ∧ some k_ ≠ (.slice Ao56 t656.length co56 : Value).ownBlock) HO668 hw (fun _ hk => ⟨hk.1, hk.2⟩); have n7_ := rsm (fun k_ => some k_ ≠ (.slice Ao46 t647.length co46 : Value).ownBlock ∧ some k_ ≠ (.slice Ao47 t650.length co47 : Value).ownBlock ∧ some k_ ≠ (.slice Ao58 t659.length co58 : Value).ownBlock ∧ some k_ ≠ (.slice Ao60 t662.length co60 : Value).ownBlock ∧ some k_ ≠ (.slice Ao67 t672.length co67 : Value).ownBlock) HO671 hw (fun _ hk => ⟨hk.1, ⟨hk.2.1, ⟨hk.2.2.1, ⟨hk.2.2.2.1, hk.2.2.2.2⟩⟩⟩⟩); have n8_ := rsm (fun k_ => some k_ ≠ (.slice Ao46 t647.length co46 : Value).ownBlock ∧ some k_ ≠ (.slice Ao47 t650.length co47 : Value).ownBlock ∧ some k_ ≠ (.slice Ao58 t659.length co58 : Value).ownBlock ∧ some k_ ≠ (.slice Ao60 t662.length co60 : Value).ownBlock ∧ some k_ ≠ (.slice Ao65 t669.length co65 : Value).ownBlock) HO674 hw (fun _ hk => ⟨hk.1, ⟨hk.2.1, ⟨hk.2.2.1, ⟨hk.2.2.2.1, hk.2.2.2.2⟩⟩⟩⟩); have n9_ : Aside0 (w74.heap[gb654]? = some (.cells #[.int .i64 t643, .slice Ao45 t644.length co45, .slice Ao46 t647.length co46, .slice Ao47 t650.length co47] 27 (0, 0))) := ⟨(by rw [hw]; exact (bx BK654.out))⟩; have n10_ : Aside0 (w74.heap[gb675]? = some (.cells #[.int .i64 t655, .slice Ao56 t656.length co56, .slice Ao58 t659.length co58, .slice Ao60 t662.length co60] 27 (0, 0))) := ⟨(by rw [hw]; exact (bx BK675.out))⟩; have n11_ : Aside0 (w74.heap[gb676]? = some (.cells #[.int .i64 t665, .slice Ao63 t666.length co63, .slice Ao65 t669.length co65, .slice Ao67 t672.length co67] 27 (0, 0))) := ⟨(by rw [hw]; exact (bx BK676.out))⟩; have n12_ := sps #[.int .i64 0, .slice none 0 0, .slice none 0 0, .slice none 0 0] BK677 hw (.p (.p (.p (.p .nil)))); have n13_ := bhw HB hw; clear hw HO646 HO649 HO652 HO658 HO661 HO664 HO668 HO671 HO674 BK654 BK675 BK676 BK677 HB; have HO646 := n0_; have HO649 := n1_; have HO652 := n2_; have HO658 := n3_; have HO661 := n4_; have HO664 := n5_; have HO668 := n6_; have HO671 := n7_; have HO674 := n8_; have BK654 := n9_; have BK675 := n10_; have BK676 := n11_; have BK677 := n12_; have HB := n13_; clear n0_ n1_ n2_ n3_ n4_ n5_ n6_ n7_ n8_ n9_ n10_ n11_ n12_ n13_))
    replace HO646 := Aside0.mk (Kd.R_drew HO646.out)
    replace HO649 := Aside0.mk (Kd.R_drew HO649.out)
    replace HO652 := Aside0.mk (Kd.R_drew HO652.out)
    replace HO658 := Aside0.mk (Kd.R_drew HO658.out)
    replace HO661 := Aside0.mk (Kd.R_drew HO661.out)
    replace HO664 := Aside0.mk (Kd.R_drew HO664.out)
    replace HO668 := Aside0.mk (Kd.R_drew HO668.out)
    replace HO671 := Aside0.mk (Kd.R_drew HO671.out)
    replace HO674 := Aside0.mk (Kd.R_drew HO674.out)
    replace BK654 := Aside0.mk (blk_drew BK654.out)
    replace BK675 := Aside0.mk (blk_drew BK675.out)
    replace BK676 := Aside0.mk (blk_drew BK676.out)
    replace BK677 := Aside0.mk (blk_drew BK677.out)
    replace HB := Aside0.mk (below_drew1 HB.out)
    refine start_ (n := 65) (S := fun w' => w'.cell? ⟨gb675, 0, none⟩ = some (.int .i64 t655) ∧ w'.cell? ⟨gb675, 1, none⟩ = some (.slice Ao56 t656.length co56) ∧ w'.cell? ⟨gb675, 2, none⟩ = some (.slice Ao58 t659.length co58) ∧ w'.cell? ⟨gb675, 3, none⟩ = some (.slice Ao60 t662.length co60) ∧ w'.cell? ⟨gb654, 0, none⟩ = some (.int .i64 t643) ∧ w'.cell? ⟨gb654, 1, none⟩ = some (.slice Ao45 t644.length co45) ∧ w'.cell? ⟨gb654, 2, none⟩ = some (.slice Ao46 t647.length co46) ∧ w'.cell? ⟨gb654, 3, none⟩ = some (.slice Ao47 t650.length co47) ∧ w'.cell? ⟨gb676, 0, none⟩ = some (.int .i64 t665) ∧ w'.cell? ⟨gb676, 1, none⟩ = some (.slice Ao63 t666.length co63) ∧ w'.cell? ⟨gb676, 2, none⟩ = some (.slice Ao65 t669.length co65) ∧ w'.cell? ⟨gb676, 3, none⟩ = some (.slice Ao67 t672.length co67) ∧ w'.cell? ⟨gb677, 0, none⟩ = some (.int .i64 0) ∧ w'.cell? ⟨gb677, 1, none⟩ = some (.slice none 0 0) ∧ w'.cell? ⟨gb677, 2, none⟩ = some (.slice none 0 0) ∧ w'.cell? ⟨gb677, 3, none⟩ = some (.slice none 0 0)) (ds := []) #[false, false, false, false, false, false, false, false, false, false, false, false, false, false, false, false, false, false, false, false, false, false, false, false, false, false, false, false, false, false, false, false, false, false, false, false, false, false, false, false, false, false, false, false, false, false, false, false, false, false, false, false, false, false, false, false, false, false, false, false, false, false, false, false, false] (by kernel_rfl) rfl rfl ⟨(blk_cell BK675.out 0).trans rfl, (blk_cell BK675.out 1).trans rfl, (blk_cell BK675.out 2).trans rfl, (blk_cell BK675.out 3).trans rfl, (blk_cell BK654.out 0).trans rfl, (blk_cell BK654.out 1).trans rfl, (blk_cell BK654.out 2).trans rfl, (blk_cell BK654.out 3).trans rfl, (blk_cell BK676.out 0).trans rfl, (blk_cell BK676.out 1).trans rfl, (blk_cell BK676.out 2).trans rfl, (blk_cell BK676.out 3).trans rfl, (blk_cell BK677.out 0).trans rfl, (blk_cell BK677.out 1).trans rfl, (blk_cell BK677.out 2).trans rfl, (blk_cell BK677.out 3).trans rfl⟩ (fun hHeld => ?_); refine with_tabW peristylelaw16_PoslistParts.tab7 peristylelaw16_PoslistParts.bits7 (fun HT_ HW_ => ?_)
    generalize w74.drew = w75 at HO646 HO649 HO652 HO658 HO661 HO664 HO668 HO671 HO674 BK654 BK675 BK676 BK677 HB hHeld ⊢
    refine puA HT_ 0 40 (bv 65 1) ?_
    refine puA HT_ 1 41 (bv 65 3) ?_
    refine puA HT_ 2 42 (bv 65 7) ?_
    refine puA HT_ 5 45 (bv 65 39) ?_
    refine taA HT_ HW_ hHeld 3 43 (bv 65 47) ?_
    refine taA HT_ HW_ hHeld 6 46 (bv 65 111) ?_
    refine one_ (i := 4) (N := some 44) #[true, true, true, true, true, true, true, false, false, false, false, false, false, false, false, false, false, false, false, false, false, false, false, false, false, false, false, false, false, false, false, false, false, false, false, false, false, false, false, false, false, false, false, false, false, false, false, false, false, false, false, false, false, false, false, false, false, false, false, false, false, false, false, false, false] rfl rfl (one_of HT_.out (by kernel_rfl)) (by decide) (fun K hK => ?_)
    refine goes_ Tryz.func19 (by kernel_rfl) rfl #[.agg #[.int .i64 t655, .slice Ao56 t656.length co56, .slice Ao58 t659.length co58, .slice Ao60 t662.length co60]] (by rfl) rfl rfl (by (simp only [List.map_toArray, List.map_cons, List.map_nil]); rfl) ?_
    with_reducible refine (poslist_List_Count.calls kj3 t655 _ _ t656 _ _ t659 _ _ t662 t678 _ ?side1 ?side2 ?side3 ?side4 ?side5 ?side6 A15.out).mono ?_
    (case side1 => exact cx (Kd.R_reads' HO658.out).2.2)
    (case side2 => exact (Kd.R_reads' HO658.out).2.1)
    (case side3 => exact cx (Kd.R_reads' HO661.out).2.2)
    (case side4 => exact (Kd.R_reads' HO661.out).2.1)
    (case side5 => exact cx (Kd.R_reads' HO664.out).2.2)
    (case side6 => exact (Kd.R_reads' HO664.out).2.1)
    rintro e w76 ⟨rfl, hb⟩
    refine ⟨_, rfl, ?_⟩
    replace HO646 := rba HO646 hb
    replace HO649 := rba HO649 hb
    replace HO652 := rba HO652 hb
    replace HO658 := rba HO658 hb
    replace HO661 := rba HO661 hb
    replace HO664 := rba HO664 hb
    replace HO668 := rba HO668 hb
    replace HO671 := rba HO671 hb
    replace HO674 := rba HO674 hb
    replace BK654 := bba BK654 hb
    replace BK675 := bba BK675 hb
    replace BK676 := bba BK676 hb
    replace BK677 := bba BK677 hb
    replace HB := bsa HB hb
    clear hb
    refine hK.out _ _ ⟨(blk_cell BK675.out 0).trans rfl, (blk_cell BK675.out 1).trans rfl, (blk_cell BK675.out 2).trans rfl, (blk_cell BK675.out 3).trans rfl, (blk_cell BK654.out 0).trans rfl, (blk_cell BK654.out 1).trans rfl, (blk_cell BK654.out 2).trans rfl, (blk_cell BK654.out 3).trans rfl, (blk_cell BK676.out 0).trans rfl, (blk_cell BK676.out 1).trans rfl, (blk_cell BK676.out 2).trans rfl, (blk_cell BK676.out 3).trans rfl, (blk_cell BK677.out 0).trans rfl, (blk_cell BK677.out 1).trans rfl, (blk_cell BK677.out 2).trans rfl, (blk_cell BK677.out 3).trans rfl⟩ (fun hHeld => ?_)
    clear hK K
    refine norm_ (a' := ?_) ?_ ?_
    rotate_left
    ·show Act.put _ (some 44) _ = _
     simp only [Act.put, List.setIfInBounds_toArray, List.set_cons_zero, List.set_cons_succ, i64_w, i32_w]
     rfl
    refine one_ (i := 7) (N := some 47) #[true, true, true, true, true, true, true, true, false, false, false, false, false, false, false, false, false, false, false, false, false, false, false, false, false, false, false, false, false, false, false, false, false, false, false, false, false, false, false, false, false, false, false, false, false, false, false, false, false, false, false, false, false, false, false, false, false, false, false, false, false, false, false, false, false] rfl rfl (one_of HT_.out (by kernel_rfl)) (by decide) (fun K hK => ?_)
    refine goes_ Tryz.func19 (by kernel_rfl) rfl #[.agg #[.int .i64 t643, .slice Ao45 t644.length co45, .slice Ao46 t647.length co46, .slice Ao47 t650.length co47]] (by rfl) rfl rfl (by (simp only [List.map_toArray, List.map_cons, List.map_nil]); rfl) ?_
    with_reducible refine (poslist_List_Count.calls kj3 t643 _ _ t644 _ _ t647 _ _ t650 t679 _ ?side1 ?side2 ?side3 ?side4 ?side5 ?side6 A16.out).mono ?_
    (case side1 => exact cx (Kd.R_reads' HO646.out).2.2)
    (case side2 => exact (Kd.R_reads' HO646.out).2.1)
    (case side3 => exact cx (Kd.R_reads' HO649.out).2.2)
    (case side4 => exact (Kd.R_reads' HO649.out).2.1)
    (case side5 => exact cx (Kd.R_reads' HO652.out).2.2)
    (case side6 => exact (Kd.R_reads' HO652.out).2.1)
    rintro e w77 ⟨rfl, hb⟩
    refine ⟨_, rfl, ?_⟩
    replace HO646 := rba HO646 hb
    replace HO649 := rba HO649 hb
    replace HO652 := rba HO652 hb
    replace HO658 := rba HO658 hb
    replace HO661 := rba HO661 hb
    replace HO664 := rba HO664 hb
    replace HO668 := rba HO668 hb
    replace HO671 := rba HO671 hb
    replace HO674 := rba HO674 hb
    replace BK654 := bba BK654 hb
    replace BK675 := bba BK675 hb
    replace BK676 := bba BK676 hb
    replace BK677 := bba BK677 hb
    replace HB := bsa HB hb
    clear hb
    refine hK.out _ _ ⟨(blk_cell BK675.out 0).trans rfl, (blk_cell BK675.out 1).trans rfl, (blk_cell BK675.out 2).trans rfl, (blk_cell BK675.out 3).trans rfl, (blk_cell BK654.out 0).trans rfl, (blk_cell BK654.out 1).trans rfl, (blk_cell BK654.out 2).trans rfl, (blk_cell BK654.out 3).trans rfl, (blk_cell BK676.out 0).trans rfl, (blk_cell BK676.out 1).trans rfl, (blk_cell BK676.out 2).trans rfl, (blk_cell BK676.out 3).trans rfl, (blk_cell BK677.out 0).trans rfl, (blk_cell BK677.out 1).trans rfl, (blk_cell BK677.out 2).trans rfl, (blk_cell BK677.out 3).trans rfl⟩ (fun hHeld => ?_)
    clear hK K
    refine norm_ (a' := ?_) ?_ ?_
    rotate_left
    ·show Act.put _ (some 47) _ = _
     simp only [Act.put, List.setIfInBounds_toArray, List.set_cons_zero, List.set_cons_succ, i64_w, i32_w]
     rfl
    refine puA HT_ 8 48 (bv 65 511) ?_
    refine puA HT_ 9 49 (bv 65 1023) ?_
    refine puA HT_ 10 50 (bv 65 2047) ?_
    refine puA HT_ 11 51 (bv 65 4095) ?_
    refine taA HT_ HW_ hHeld 12 52 (bv 65 8191) ?_
    refine taA HT_ HW_ hHeld 13 53 (bv 65 16383) ?_
    refine one_ (i := 14) (N := some 54) #[true, true, true, true, true, true, true, true, true, true, true, true, true, true, true, false, false, false, false, false, false, false, false, false, false, false, false, false, false, false, false, false, false, false, false, false, false, false, false, false, false, false, false, false, false, false, false, false, false, false, false, false, false, false, false, false, false, false, false, false, false, false, false, false, false] rfl rfl (one_of HT_.out (by kernel_rfl)) (by decide) (fun K hK => ?_)
    refine goes_ Tryz.func22 (by kernel_rfl) rfl #[.agg #[.int .i64 t655, .slice Ao56 t656.length co56, .slice Ao58 t659.length co58, .slice Ao60 t662.length co60], .agg #[.int .i64 t665, .slice Ao63 t666.length co63, .slice Ao65 t669.length co65, .slice Ao67 t672.length co67]] (by rfl) rfl rfl (by (simp only [List.map_toArray, List.map_cons, List.map_nil]); rfl) ?_
    with_reducible refine (poslist_List_And.calls kj3 t655 _ _ t656 _ _ t659 _ _ t662 t665 _ _ t666 _ _ t669 _ _ t672 t680 t681 t684 t687 _ ?side1 ?side2 ?side3 ?side4 ?side5 ?side6 ?side7 ?side8 ?side9 ?side10 ?side11 ?side12 A19.out).mono ?_
    (case side1 => exact cx (Kd.R_reads' HO658.out).2.2)
    (case side2 => exact (Kd.R_reads' HO658.out).2.1)
    (case side3 => exact cx (Kd.R_reads' HO661.out).2.2)
    (case side4 => exact (Kd.R_reads' HO661.out).2.1)
    (case side5 => exact cx (Kd.R_reads' HO664.out).2.2)
    (case side6 => exact (Kd.R_reads' HO664.out).2.1)
    (case side7 => exact cx (Kd.R_reads' HO668.out).2.2)
    (case side8 => exact (Kd.R_reads' HO668.out).2.1)
    (case side9 => exact cx (Kd.R_reads' HO671.out).2.2)
    (case side10 => exact (Kd.R_reads' HO671.out).2.1)
    (case side11 => exact cx (Kd.R_reads' HO674.out).2.2)
    (case side12 => exact (Kd.R_reads' HO674.out).2.1)
    rintro e w78 ⟨v682, v685, v688, rfl, ho0, ho1, ho2, hb⟩
    refine ⟨_, rfl, ?_⟩
    have HO683 := Aside0.mk (Kd.R_lower (Kd.R_new' (Kd.R_new' (Kd.R_new' ho0 (Kd.R_lt (rx HO646.out))) (Kd.R_lt (rx HO658.out))) (Kd.R_lt (rx HO668.out))) (below_size (bh HB.out)))
    replace HO646 := Aside0.mk (Kd.R_elder' (rx HO646.out) (Kd.R_base ho0) hb)
    replace HO658 := Aside0.mk (Kd.R_elder' (rx HO658.out) (Kd.R_base ho0) hb)
    replace HO668 := Aside0.mk (Kd.R_elder' (rx HO668.out) (Kd.R_base ho0) hb)
    have HO686 := Aside0.mk (Kd.R_lower (Kd.R_new' (Kd.R_new' (Kd.R_new' (Kd.R_new' (Kd.R_new' (Kd.R_new' ho1 (Kd.R_lt (rx HO649.out))) (Kd.R_lt (rx HO652.out))) (Kd.R_lt (rx HO661.out))) (Kd.R_lt (rx HO664.out))) (Kd.R_lt (rx HO671.out))) (Kd.R_lt (rx HO674.out))) (below_size (bh HB.out)))
    have HO689 := Aside0.mk (Kd.R_lower (Kd.R_new' (Kd.R_new' (Kd.R_new' (Kd.R_new' (Kd.R_new' (Kd.R_new' ho2 (Kd.R_lt (rx HO649.out))) (Kd.R_lt (rx HO652.out))) (Kd.R_lt (rx HO661.out))) (Kd.R_lt (rx HO664.out))) (Kd.R_lt (rx HO671.out))) (Kd.R_lt (rx HO674.out))) (below_size (bh HB.out)))
    replace HO649 := Aside0.mk (Kd.R_mono (Kd.R_told (Kd.R_told (Kd.R_old (rx HO649.out) hb) (Kd.R_base ho1)) (Kd.R_base ho2)) (fun _ h_ => h_.1))
    replace HO652 := Aside0.mk (Kd.R_mono (Kd.R_told (Kd.R_told (Kd.R_old (rx HO652.out) hb) (Kd.R_base ho1)) (Kd.R_base ho2)) (fun _ h_ => h_.1))
    replace HO661 := Aside0.mk (Kd.R_mono (Kd.R_told (Kd.R_told (Kd.R_old (rx HO661.out) hb) (Kd.R_base ho1)) (Kd.R_base ho2)) (fun _ h_ => h_.1))
    replace HO664 := Aside0.mk (Kd.R_mono (Kd.R_told (Kd.R_told (Kd.R_old (rx HO664.out) hb) (Kd.R_base ho1)) (Kd.R_base ho2)) (fun _ h_ => h_.1))
    replace HO671 := Aside0.mk (Kd.R_mono (Kd.R_told (Kd.R_told (Kd.R_old (rx HO671.out) hb) (Kd.R_base ho1)) (Kd.R_base ho2)) (fun _ h_ => h_.1))
    replace HO674 := Aside0.mk (Kd.R_mono (Kd.R_told (Kd.R_told (Kd.R_old (rx HO674.out) hb) (Kd.R_base ho1)) (Kd.R_base ho2)) (fun _ h_ => h_.1))
    replace BK654 := bba BK654 hb
    replace BK675 := bba BK675 hb
    replace BK676 := bba BK676 hb
    replace BK677 := bba BK677 hb
    replace HB := bsa HB hb
    clear hb ho0 ho1 ho2
    obtain ⟨Ao79, co79, eo79⟩ := Kd.R_slice HO683.out
    (subst eo79)
    obtain ⟨Ao80, co80, eo80⟩ := Kd.R_slice HO686.out
    (subst eo80)
    obtain ⟨Ao81, co81, eo81⟩ := Kd.R_slice HO689.out
    (subst eo81)
    refine hK.out _ _ ⟨(blk_cell BK675.out 0).trans rfl, (blk_cell BK675.out 1).trans rfl, (blk_cell BK675.out 2).trans rfl, (blk_cell BK675.out 3).trans rfl, (blk_cell BK654.out 0).trans rfl, (blk_cell BK654.out 1).trans rfl, (blk_cell BK654.out 2).trans rfl, (blk_cell BK654.out 3).trans rfl, (blk_cell BK676.out 0).trans rfl, (blk_cell BK676.out 1).trans rfl, (blk_cell BK676.out 2).trans rfl, (blk_cell BK676.out 3).trans rfl, (blk_cell BK677.out 0).trans rfl, (blk_cell BK677.out 1).trans rfl, (blk_cell BK677.out 2).trans rfl, (blk_cell BK677.out 3).trans rfl⟩ (fun hHeld => ?_)
    clear hK K
    refine norm_ (a' := ?_) ?_ ?_
    rotate_left
    ·show Act.put _ (some 54) _ = _
     simp only [Act.put, List.setIfInBounds_toArray, List.set_cons_zero, List.set_cons_succ, i64_w, i32_w]
     rfl
    refine one_ (i := 15) (N := some 55) #[true, true, true, true, true, true, true, true, true, true, true, true, true, true, true, true, false, false, false, false, false, false, false, false, false, false, false, false, false, false, false, false, false, false, false, false, false, false, false, false, false, false, false, false, false, false, false, false, false, false, false, false, false, false, false, false, false, false, false, false, false, false, false, false, false] rfl rfl (one_of HT_.out (by kernel_rfl)) (by decide) (fun K hK => ?_)
    refine goes_ Tryz.func19 (by kernel_rfl) rfl #[.agg #[.int .i64 t680, .slice Ao79 t681.length co79, .slice Ao80 t684.length co80, .slice Ao81 t687.length co81]] (by rfl) rfl rfl (by (simp only [List.map_toArray, List.map_cons, List.map_nil]); rfl) ?_
    with_reducible refine (poslist_List_Count.calls kj3 t680 _ _ t681 _ _ t684 _ _ t687 t690 _ ?side1 ?side2 ?side3 ?side4 ?side5 ?side6 A20.out).mono ?_
    (case side1 => exact cx (Kd.R_reads' HO683.out).2.2)
    (case side2 => exact (Kd.R_reads' HO683.out).2.1)
    (case side3 => exact cx (Kd.R_reads' HO686.out).2.2)
    (case side4 => exact (Kd.R_reads' HO686.out).2.1)
    (case side5 => exact cx (Kd.R_reads' HO689.out).2.2)
    (case side6 => exact (Kd.R_reads' HO689.out).2.1)
    rintro e w82 ⟨rfl, hb⟩
    refine ⟨_, rfl, ?_⟩
    replace HO646 := rba HO646 hb
    replace HO649 := rba HO649 hb
    replace HO652 := rba HO652 hb
    replace HO658 := rba HO658 hb
    replace HO661 := rba HO661 hb
    replace HO664 := rba HO664 hb
    replace HO668 := rba HO668 hb
    replace HO671 := rba HO671 hb
    replace HO674 := rba HO674 hb
    replace HO683 := rba HO683 hb
    replace HO686 := rba HO686 hb
    replace HO689 := rba HO689 hb
    replace BK654 := bba BK654 hb
    replace BK675 := bba BK675 hb
    replace BK676 := bba BK676 hb
    replace BK677 := bba BK677 hb
    replace HB := bsa HB hb
    clear hb
    refine hK.out _ _ ⟨(blk_cell BK675.out 0).trans rfl, (blk_cell BK675.out 1).trans rfl, (blk_cell BK675.out 2).trans rfl, (blk_cell BK675.out 3).trans rfl, (blk_cell BK654.out 0).trans rfl, (blk_cell BK654.out 1).trans rfl, (blk_cell BK654.out 2).trans rfl, (blk_cell BK654.out 3).trans rfl, (blk_cell BK676.out 0).trans rfl, (blk_cell BK676.out 1).trans rfl, (blk_cell BK676.out 2).trans rfl, (blk_cell BK676.out 3).trans rfl, (blk_cell BK677.out 0).trans rfl, (blk_cell BK677.out 1).trans rfl, (blk_cell BK677.out 2).trans rfl, (blk_cell BK677.out 3).trans rfl⟩ (fun hHeld => ?_)
    clear hK K
    refine norm_ (a' := ?_) ?_ ?_
    rotate_left
    ·show Act.put _ (some 55) _ = _
     simp only [Act.put, List.setIfInBounds_toArray, List.set_cons_zero, List.set_cons_succ, i64_w, i32_w]
     rfl
    refine puA HT_ 16 56 (bv 65 131071) ?_
    refine puA HT_ 17 57 (bv 65 262143) ?_
    refine puA HT_ 18 58 (bv 65 524287) ?_
    refine taA HT_ HW_ hHeld 19 59 (bv 65 1048575) ?_
    refine taA HT_ HW_ hHeld 20 60 (bv 65 2097151) ?_
    refine taA HT_ HW_ hHeld 23 63 (bv 65 10485759) ?_
    refine one_ (i := 21) (N := some 61) #[true, true, true, true, true, true, true, true, true, true, true, true, true, true, true, true, true, true, true, true, true, true, false, true, false, false, false, false, false, false, false, false, false, false, false, false, false, false, false, false, false, false, false, false, false, false, false, false, false, false, false, false, false, false, false, false, false, false, false, false, false, false, false, false, false] rfl rfl (one_of HT_.out (by kernel_rfl)) (by decide) (fun K hK => ?_)
    refine goes_ Tryz.func24 (by kernel_rfl) rfl #[.agg #[.int .i64 t655, .slice Ao56 t656.length co56, .slice Ao58 t659.length co58, .slice Ao60 t662.length co60], .agg #[.int .i64 t665, .slice Ao63 t666.length co63, .slice Ao65 t669.length co65, .slice Ao67 t672.length co67]] (by rfl) rfl rfl (by (simp only [List.map_toArray, List.map_cons, List.map_nil]); rfl) ?_
    with_reducible refine (poslist_List_Or.calls kj3 t655 _ _ t656 _ _ t659 _ _ t662 t665 _ _ t666 _ _ t669 _ _ t672 t691 t692 t695 t698 _ ?side1 ?side2 ?side3 ?side4 ?side5 ?side6 ?side7 ?side8 ?side9 ?side10 ?side11 ?side12 A22.out).mono ?_
    (case side1 => exact cx (Kd.R_reads' HO658.out).2.2)
    (case side2 => exact (Kd.R_reads' HO658.out).2.1)
    (case side3 => exact cx (Kd.R_reads' HO661.out).2.2)
    (case side4 => exact (Kd.R_reads' HO661.out).2.1)
    (case side5 => exact cx (Kd.R_reads' HO664.out).2.2)
    (case side6 => exact (Kd.R_reads' HO664.out).2.1)
    (case side7 => exact cx (Kd.R_reads' HO668.out).2.2)
    (case side8 => exact (Kd.R_reads' HO668.out).2.1)
    (case side9 => exact cx (Kd.R_reads' HO671.out).2.2)
    (case side10 => exact (Kd.R_reads' HO671.out).2.1)
    (case side11 => exact cx (Kd.R_reads' HO674.out).2.2)
    (case side12 => exact (Kd.R_reads' HO674.out).2.1)
    rintro e w83 ⟨v693, v696, v699, rfl, ho0, ho1, ho2, hb⟩
    refine ⟨_, rfl, ?_⟩
    have HO694 := Aside0.mk (Kd.R_lower (Kd.R_new' (Kd.R_new' (Kd.R_new' (Kd.R_new' ho0 (Kd.R_lt (rx HO646.out))) (Kd.R_lt (rx HO658.out))) (Kd.R_lt (rx HO668.out))) (Kd.R_lt (rx HO683.out))) (below_size (bh HB.out)))
    replace HO646 := Aside0.mk (Kd.R_elder' (rx HO646.out) (Kd.R_base ho0) hb)
    replace HO658 := Aside0.mk (Kd.R_elder' (rx HO658.out) (Kd.R_base ho0) hb)
    replace HO668 := Aside0.mk (Kd.R_elder' (rx HO668.out) (Kd.R_base ho0) hb)
    replace HO683 := Aside0.mk (Kd.R_elder' (rx HO683.out) (Kd.R_base ho0) hb)
    have HO697 := Aside0.mk (Kd.R_lower (Kd.R_new' (Kd.R_new' (Kd.R_new' (Kd.R_new' (Kd.R_new' (Kd.R_new' (Kd.R_new' (Kd.R_new' ho1 (Kd.R_lt (rx HO649.out))) (Kd.R_lt (rx HO652.out))) (Kd.R_lt (rx HO661.out))) (Kd.R_lt (rx HO664.out))) (Kd.R_lt (rx HO671.out))) (Kd.R_lt (rx HO674.out))) (Kd.R_lt (rx HO686.out))) (Kd.R_lt (rx HO689.out))) (below_size (bh HB.out)))
    have HO700 := Aside0.mk (Kd.R_lower (Kd.R_new' (Kd.R_new' (Kd.R_new' (Kd.R_new' (Kd.R_new' (Kd.R_new' (Kd.R_new' (Kd.R_new' ho2 (Kd.R_lt (rx HO649.out))) (Kd.R_lt (rx HO652.out))) (Kd.R_lt (rx HO661.out))) (Kd.R_lt (rx HO664.out))) (Kd.R_lt (rx HO671.out))) (Kd.R_lt (rx HO674.out))) (Kd.R_lt (rx HO686.out))) (Kd.R_lt (rx HO689.out))) (below_size (bh HB.out)))
    replace HO649 := Aside0.mk (Kd.R_mono (Kd.R_told (Kd.R_told (Kd.R_old (rx HO649.out) hb) (Kd.R_base ho1)) (Kd.R_base ho2)) (fun _ h_ => h_.1))
    replace HO652 := Aside0.mk (Kd.R_mono (Kd.R_told (Kd.R_told (Kd.R_old (rx HO652.out) hb) (Kd.R_base ho1)) (Kd.R_base ho2)) (fun _ h_ => h_.1))
    replace HO661 := Aside0.mk (Kd.R_mono (Kd.R_told (Kd.R_told (Kd.R_old (rx HO661.out) hb) (Kd.R_base ho1)) (Kd.R_base ho2)) (fun _ h_ => h_.1))
    replace HO664 := Aside0.mk (Kd.R_mono (Kd.R_told (Kd.R_told (Kd.R_old (rx HO664.out) hb) (Kd.R_base ho1)) (Kd.R_base ho2)) (fun _ h_ => h_.1))
    replace HO671 := Aside0.mk (Kd.R_mono (Kd.R_told (Kd.R_told (Kd.R_old (rx HO671.out) hb) (Kd.R_base ho1)) (Kd.R_base ho2)) (fun _ h_ => h_.1))
    replace HO674 := Aside0.mk (Kd.R_mono (Kd.R_told (Kd.R_told (Kd.R_old (rx HO674.out) hb) (Kd.R_base ho1)) (Kd.R_base ho2)) (fun _ h_ => h_.1))
    replace HO686 := Aside0.mk (Kd.R_mono (Kd.R_told (Kd.R_told (Kd.R_old (rx HO686.out) hb) (Kd.R_base ho1)) (Kd.R_base ho2)) (fun _ h_ => h_.1))
    replace HO689 := Aside0.mk (Kd.R_mono (Kd.R_told (Kd.R_told (Kd.R_old (rx HO689.out) hb) (Kd.R_base ho1)) (Kd.R_base ho2)) (fun _ h_ => h_.1))
    replace BK654 := bba BK654 hb
    replace BK675 := bba BK675 hb
    replace BK676 := bba BK676 hb
    replace BK677 := bba BK677 hb
    replace HB := bsa HB hb
    clear hb ho0 ho1 ho2
    obtain ⟨Ao84, co84, eo84⟩ := Kd.R_slice HO694.out
    (subst eo84)
    obtain ⟨Ao85, co85, eo85⟩ := Kd.R_slice HO697.out
    (subst eo85)
    obtain ⟨Ao86, co86, eo86⟩ := Kd.R_slice HO700.out
    (subst eo86)
    refine hK.out _ _ ⟨(blk_cell BK675.out 0).trans rfl, (blk_cell BK675.out 1).trans rfl, (blk_cell BK675.out 2).trans rfl, (blk_cell BK675.out 3).trans rfl, (blk_cell BK654.out 0).trans rfl, (blk_cell BK654.out 1).trans rfl, (blk_cell BK654.out 2).trans rfl, (blk_cell BK654.out 3).trans rfl, (blk_cell BK676.out 0).trans rfl, (blk_cell BK676.out 1).trans rfl, (blk_cell BK676.out 2).trans rfl, (blk_cell BK676.out 3).trans rfl, (blk_cell BK677.out 0).trans rfl, (blk_cell BK677.out 1).trans rfl, (blk_cell BK677.out 2).trans rfl, (blk_cell BK677.out 3).trans rfl⟩ (fun hHeld => ?_)
    clear hK K
    refine norm_ (a' := ?_) ?_ ?_
    rotate_left
    ·show Act.put _ (some 61) _ = _
     simp only [Act.put, List.setIfInBounds_toArray, List.set_cons_zero, List.set_cons_succ, i64_w, i32_w]
     rfl
    refine one_ (i := 22) (N := some 62) #[true, true, true, true, true, true, true, true, true, true, true, true, true, true, true, true, true, true, true, true, true, true, true, true, false, false, false, false, false, false, false, false, false, false, false, false, false, false, false, false, false, false, false, false, false, false, false, false, false, false, false, false, false, false, false, false, false, false, false, false, false, false, false, false, false] rfl rfl (one_of HT_.out (by kernel_rfl)) (by decide) (fun K hK => ?_)
    refine goes_ Tryz.func20 (by kernel_rfl) rfl #[.agg #[.int .i64 t691, .slice Ao84 t692.length co84, .slice Ao85 t695.length co85, .slice Ao86 t698.length co86]] (by rfl) rfl rfl (by (simp only [List.map_toArray, List.map_cons, List.map_nil]); rfl) ?_
    with_reducible refine (poslist_List_Spans.calls kj3 t691 _ _ t692 _ _ t695 _ _ t698 t701 _ ?side1 ?side2 ?side3 ?side4 ?side5 ?side6 A23.out).mono ?_
    (case side1 => exact cx (Kd.R_reads' HO694.out).2.2)
    (case side2 => exact (Kd.R_reads' HO694.out).2.1)
    (case side3 => exact cx (Kd.R_reads' HO697.out).2.2)
    (case side4 => exact (Kd.R_reads' HO697.out).2.1)
    (case side5 => exact cx (Kd.R_reads' HO700.out).2.2)
    (case side6 => exact (Kd.R_reads' HO700.out).2.1)
    rintro e w87 ⟨v702, rfl, ho0, hb⟩
    refine ⟨_, rfl, ?_⟩
    replace HO649 := rba HO649 hb
    replace HO652 := rba HO652 hb
    replace HO661 := rba HO661 hb
    replace HO664 := rba HO664 hb
    replace HO671 := rba HO671 hb
    replace HO674 := rba HO674 hb
    replace HO686 := rba HO686 hb
    replace HO689 := rba HO689 hb
    replace HO697 := rba HO697 hb
    replace HO700 := rba HO700 hb
    have HO703 := Aside0.mk (Kd.R_lower (Kd.R_new' (Kd.R_new' (Kd.R_new' (Kd.R_new' (Kd.R_new' ho0 (Kd.R_lt (rx HO646.out))) (Kd.R_lt (rx HO658.out))) (Kd.R_lt (rx HO668.out))) (Kd.R_lt (rx HO683.out))) (Kd.R_lt (rx HO694.out))) (below_size (bh HB.out)))
    replace HO646 := Aside0.mk (Kd.R_elder' (rx HO646.out) (Kd.R_base ho0) hb)
    replace HO658 := Aside0.mk (Kd.R_elder' (rx HO658.out) (Kd.R_base ho0) hb)
    replace HO668 := Aside0.mk (Kd.R_elder' (rx HO668.out) (Kd.R_base ho0) hb)
    replace HO683 := Aside0.mk (Kd.R_elder' (rx HO683.out) (Kd.R_base ho0) hb)
    replace HO694 := Aside0.mk (Kd.R_elder' (rx HO694.out) (Kd.R_base ho0) hb)
    replace BK654 := bba BK654 hb
    replace BK675 := bba BK675 hb
    replace BK676 := bba BK676 hb
    replace BK677 := bba BK677 hb
    replace HB := bsa HB hb
    clear hb ho0
    refine hK.out _ _ ⟨(blk_cell BK675.out 0).trans rfl, (blk_cell BK675.out 1).trans rfl, (blk_cell BK675.out 2).trans rfl, (blk_cell BK675.out 3).trans rfl, (blk_cell BK654.out 0).trans rfl, (blk_cell BK654.out 1).trans rfl, (blk_cell BK654.out 2).trans rfl, (blk_cell BK654.out 3).trans rfl, (blk_cell BK676.out 0).trans rfl, (blk_cell BK676.out 1).trans rfl, (blk_cell BK676.out 2).trans rfl, (blk_cell BK676.out 3).trans rfl, (blk_cell BK677.out 0).trans rfl, (blk_cell BK677.out 1).trans rfl, (blk_cell BK677.out 2).trans rfl, (blk_cell BK677.out 3).trans rfl⟩ (fun hHeld => ?_)
    clear hK K
    refine norm_ (a' := ?_) ?_ ?_
    rotate_left
    ·show Act.put _ (some 62) _ = _
     simp only [Act.put, List.setIfInBounds_toArray, List.set_cons_zero, List.set_cons_succ, i64_w, i32_w]
     rfl
    refine one_ (i := 24) (N := some 64) #[true, true, true, true, true, true, true, true, true, true, true, true, true, true, true, true, true, true, true, true, true, true, true, true, true, false, false, false, false, false, false, false, false, false, false, false, false, false, false, false, false, false, false, false, false, false, false, false, false, false, false, false, false, false, false, false, false, false, false, false, false, false, false, false, false] rfl rfl (one_of HT_.out (by kernel_rfl)) (by decide) (fun K hK => ?_)
    refine goes_ Tryz.func20 (by kernel_rfl) rfl #[.agg #[.int .i64 t643, .slice Ao45 t644.length co45, .slice Ao46 t647.length co46, .slice Ao47 t650.length co47]] (by rfl) rfl rfl (by (simp only [List.map_toArray, List.map_cons, List.map_nil]); rfl) ?_
    with_reducible refine (poslist_List_Spans.calls kj3 t643 _ _ t644 _ _ t647 _ _ t650 t704 _ ?side1 ?side2 ?side3 ?side4 ?side5 ?side6 A24.out).mono ?_
    (case side1 => exact cx (Kd.R_reads' HO646.out).2.2)
    (case side2 => exact (Kd.R_reads' HO646.out).2.1)
    (case side3 => exact cx (Kd.R_reads' HO649.out).2.2)
    (case side4 => exact (Kd.R_reads' HO649.out).2.1)
    (case side5 => exact cx (Kd.R_reads' HO652.out).2.2)
    (case side6 => exact (Kd.R_reads' HO652.out).2.1)
    rintro e w88 ⟨v705, rfl, ho0, hb⟩
    refine ⟨_, rfl, ?_⟩
    replace HO649 := rba HO649 hb
    replace HO652 := rba HO652 hb
    replace HO661 := rba HO661 hb
    replace HO664 := rba HO664 hb
    replace HO671 := rba HO671 hb
    replace HO674 := rba HO674 hb
    replace HO686 := rba HO686 hb
    replace HO689 := rba HO689 hb
    replace HO697 := rba HO697 hb
    replace HO700 := rba HO700 hb
    have HO706 := Aside0.mk (Kd.R_lower (Kd.R_new' (Kd.R_new' (Kd.R_new' (Kd.R_new' (Kd.R_new' (Kd.R_new' ho0 (Kd.R_lt (rx HO646.out))) (Kd.R_lt (rx HO658.out))) (Kd.R_lt (rx HO668.out))) (Kd.R_lt (rx HO683.out))) (Kd.R_lt (rx HO694.out))) (Kd.R_lt (rx HO703.out))) (below_size (bh HB.out)))
    replace HO646 := Aside0.mk (Kd.R_elder' (rx HO646.out) (Kd.R_base ho0) hb)
    replace HO658 := Aside0.mk (Kd.R_elder' (rx HO658.out) (Kd.R_base ho0) hb)
    replace HO668 := Aside0.mk (Kd.R_elder' (rx HO668.out) (Kd.R_base ho0) hb)
    replace HO683 := Aside0.mk (Kd.R_elder' (rx HO683.out) (Kd.R_base ho0) hb)
    replace HO694 := Aside0.mk (Kd.R_elder' (rx HO694.out) (Kd.R_base ho0) hb)
    replace HO703 := Aside0.mk (Kd.R_elder' (rx HO703.out) (Kd.R_base ho0) hb)
    replace BK654 := bba BK654 hb
    replace BK675 := bba BK675 hb
    replace BK676 := bba BK676 hb
    replace BK677 := bba BK677 hb
    replace HB := bsa HB hb
    clear hb ho0
    obtain ⟨Ao89, co89, eo89⟩ := Kd.R_slice HO703.out
    (subst eo89)
    obtain ⟨Ao90, co90, eo90⟩ := Kd.R_slice HO706.out
    (subst eo90)
    refine hK.out _ _ ⟨(blk_cell BK675.out 0).trans rfl, (blk_cell BK675.out 1).trans rfl, (blk_cell BK675.out 2).trans rfl, (blk_cell BK675.out 3).trans rfl, (blk_cell BK654.out 0).trans rfl, (blk_cell BK654.out 1).trans rfl, (blk_cell BK654.out 2).trans rfl, (blk_cell BK654.out 3).trans rfl, (blk_cell BK676.out 0).trans rfl, (blk_cell BK676.out 1).trans rfl, (blk_cell BK676.out 2).trans rfl, (blk_cell BK676.out 3).trans rfl, (blk_cell BK677.out 0).trans rfl, (blk_cell BK677.out 1).trans rfl, (blk_cell BK677.out 2).trans rfl, (blk_cell BK677.out 3).trans rfl⟩ (fun hHeld => ?_)
    clear hK K
    refine norm_ (a' := ?_) ?_ ?_
    rotate_left
    ·show Act.put _ (some 64) _ = _
     simp only [Act.put, List.setIfInBounds_toArray, List.set_cons_zero, List.set_cons_succ, i64_w, i32_w]
     rfl
    refine one_ (i := 25) (N := some 65) #[true, true, true, true, true, true, true, true, true, true, true, true, true, true, true, true, true, true, true, true, true, true, true, true, true, true, false, false, false, false, false, false, false, false, false, false, false, false, false, false, false, false, false, false, false, false, false, false, false, false, false, false, false, false, false, false, false, false, false, false, false, false, false, false, false] rfl rfl (one_of HT_.out (by kernel_rfl)) (by decide) (fun K hK => ?_)
    refine goes_ Tryz.func27 (by kernel_rfl) rfl #[.slice Ao89 t701.length co89, .slice Ao90 t704.length co90] (by rfl) rfl rfl (by (simp only [List.map_toArray, List.map_cons, List.map_nil]); rfl) ?_
    with_reducible refine (peristyleref14_Same.calls kj3 _ _ t701 _ _ t704 true _ ?side1 ?side2 ?side3 ?side4 A25.out).mono ?_
    (case side1 => exact cx (Kd.R_reads' HO703.out).2.2)
    (case side2 => exact (Kd.R_reads' HO703.out).2.1)
    (case side3 => exact cx (Kd.R_reads' HO706.out).2.2)
    (case side4 => exact (Kd.R_reads' HO706.out).2.1)
    rintro e w' ⟨rfl, ⟨nd, rfl⟩⟩
    refine ⟨_, rfl, ?_⟩
    refine hK.out _ _ ⟨(blk_cell BK675.out 0).trans rfl, (blk_cell BK675.out 1).trans rfl, (blk_cell BK675.out 2).trans rfl, (blk_cell BK675.out 3).trans rfl, (blk_cell BK654.out 0).trans rfl, (blk_cell BK654.out 1).trans rfl, (blk_cell BK654.out 2).trans rfl, (blk_cell BK654.out 3).trans rfl, (blk_cell BK676.out 0).trans rfl, (blk_cell BK676.out 1).trans rfl, (blk_cell BK676.out 2).trans rfl, (blk_cell BK676.out 3).trans rfl, (blk_cell BK677.out 0).trans rfl, (blk_cell BK677.out 1).trans rfl, (blk_cell BK677.out 2).trans rfl, (blk_cell BK677.out 3).trans rfl⟩ (fun hHeld => ?_)
    clear hK K
    refine norm_ (a' := ?_) ?_ ?_
    rotate_left
    ·show Act.put _ (some 65) _ = _
     simp only [Act.put, List.setIfInBounds_toArray, List.set_cons_zero, List.set_cons_succ, i64_w, i32_w]
     rfl
    refine puA HT_ 26 66 (bv 65 134217727) ?_
    refine puA HT_ 27 67 (bv 65 268435455) ?_
    refine taA HT_ HW_ hHeld 28 68 (bv 65 536870911) ?_
    refine one_ (i := 29) (N := some 69) #[true, true, true, true, true, true, true, true, true, true, true, true, true, true, true, true, true, true, true, true, true, true, true, true, true, true, true, true, true, true, false, false, false, false, false, false, false, false, false, false, false, false, false, false, false, false, false, false, false, false, false, false, false, false, false, false, false, false, false, false, false, false, false, false, false] rfl rfl (one_of HT_.out (by kernel_rfl)) (by decide) (fun K hK => ?_)
    refine goes_ Tryz.func19 (by kernel_rfl) rfl #[.agg #[.int .i64 0, .slice none 0 0, .slice none 0 0, .slice none 0 0]] (by rfl) rfl rfl (by (simp only [List.map_toArray, List.map_cons, List.map_nil]); rfl) ?_
    refine (poslist_List_Count.calls kj3 0 _ _ ([] : List (S64)) _ _ ([] : List Int) _ _ ([] : List Int) t708 _ ?side1 ?side2 ?side3 ?side4 ?side5 ?side6 A27.out).mono ?_
    (case side1 => exact Kd.C_nil _ _)
    (case side2 => exact Nat.le_refl _)
    (case side3 => exact Kd.C_nil _ _)
    (case side4 => exact Nat.le_refl _)
    (case side5 => exact Kd.C_nil _ _)
    (case side6 => exact Nat.le_refl _)
    rintro e w91 ⟨rfl, hb⟩
    refine ⟨_, rfl, ?_⟩
    replace HO646 := rba HO646 hb
    replace HO649 := rba HO649 hb
    replace HO652 := rba HO652 hb
    replace HO658 := rba HO658 hb
    replace HO661 := rba HO661 hb
    replace HO664 := rba HO664 hb
    replace HO668 := rba HO668 hb
    replace HO671 := rba HO671 hb
    replace HO674 := rba HO674 hb
    replace HO683 := rba HO683 hb
    replace HO686 := rba HO686 hb
    replace HO689 := rba HO689 hb
    replace HO694 := rba HO694 hb
    replace HO697 := rba HO697 hb
    replace HO700 := rba HO700 hb
    replace HO703 := rba HO703 hb
    replace HO706 := rba HO706 hb
    replace BK654 := bba BK654 hb
    replace BK675 := bba BK675 hb
    replace BK676 := bba BK676 hb
    replace BK677 := bba BK677 hb
    replace HB := bsa HB hb
    clear hb
    refine hK.out _ _ ⟨(blk_cell BK675.out 0).trans rfl, (blk_cell BK675.out 1).trans rfl, (blk_cell BK675.out 2).trans rfl, (blk_cell BK675.out 3).trans rfl, (blk_cell BK654.out 0).trans rfl, (blk_cell BK654.out 1).trans rfl, (blk_cell BK654.out 2).trans rfl, (blk_cell BK654.out 3).trans rfl, (blk_cell BK676.out 0).trans rfl, (blk_cell BK676.out 1).trans rfl, (blk_cell BK676.out 2).trans rfl, (blk_cell BK676.out 3).trans rfl, (blk_cell BK677.out 0).trans rfl, (blk_cell BK677.out 1).trans rfl, (blk_cell BK677.out 2).trans rfl, (blk_cell BK677.out 3).trans rfl⟩ (fun hHeld => ?_)
    clear hK K
    refine norm_ (a' := ?_) ?_ ?_
    rotate_left
    ·show Act.put _ (some 69) _ = _
     simp only [Act.put, List.setIfInBounds_toArray, List.set_cons_zero, List.set_cons_succ, i64_w, i32_w]
     rfl
    refine puA HT_ 30 70 (bv 65 2147483647) ?_
    refine puA HT_ 31 71 (bv 65 4294967295) ?_
    refine puA HT_ 32 72 (bv 65 8589934591) ?_
    refine taA HT_ HW_ hHeld 33 73 (bv 65 17179869183) ?_
    refine one_ (i := 34) (N := some 74) #[true, true, true, true, true, true, true, true, true, true, true, true, true, true, true, true, true, true, true, true, true, true, true, true, true, true, true, true, true, true, true, true, true, true, true, false, false, false, false, false, false, false, false, false, false, false, false, false, false, false, false, false, false, false, false, false, false, false, false, false, false, false, false, false, false] rfl rfl (one_of HT_.out (by kernel_rfl)) (by decide) (fun K hK => ?_)
    refine goes_ Tryz.func28 (by kernel_rfl) rfl #[.agg #[.int .i64 0, .slice none 0 0, .slice none 0 0, .slice none 0 0]] (by rfl) rfl rfl (by (simp only [List.map_toArray, List.map_cons, List.map_nil]); rfl) ?_
    refine (poslist_List_Form.calls 0 _ _ ([] : List (S64)) _ _ ([] : List Int) _ _ ([] : List Int) t709 _ ?side1 ?side2 ?side3 ?side4 ?side5 ?side6 A29.out).mono ?_
    (case side1 => exact Kd.C_nil _ _)
    (case side2 => exact Nat.le_refl _)
    (case side3 => exact Kd.C_nil _ _)
    (case side4 => exact Nat.le_refl _)
    (case side5 => exact Kd.C_nil _ _)
    (case side6 => exact Nat.le_refl _)
    rintro e w92 ⟨rfl, hb⟩
    refine ⟨_, rfl, ?_⟩
    replace HO646 := rba HO646 hb
    replace HO649 := rba HO649 hb
    replace HO652 := rba HO652 hb
    replace HO658 := rba HO658 hb
    replace HO661 := rba HO661 hb
    replace HO664 := rba HO664 hb
    replace HO668 := rba HO668 hb
    replace HO671 := rba HO671 hb
    replace HO674 := rba HO674 hb
    replace HO683 := rba HO683 hb
    replace HO686 := rba HO686 hb
    replace HO689 := rba HO689 hb
    replace HO694 := rba HO694 hb
    replace HO697 := rba HO697 hb
    replace HO700 := rba HO700 hb
    replace HO703 := rba HO703 hb
    replace HO706 := rba HO706 hb
    replace BK654 := bba BK654 hb
    replace BK675 := bba BK675 hb
    replace BK676 := bba BK676 hb
    replace BK677 := bba BK677 hb
    replace HB := bsa HB hb
    clear hb
    refine hK.out _ _ ⟨(blk_cell BK675.out 0).trans rfl, (blk_cell BK675.out 1).trans rfl, (blk_cell BK675.out 2).trans rfl, (blk_cell BK675.out 3).trans rfl, (blk_cell BK654.out 0).trans rfl, (blk_cell BK654.out 1).trans rfl, (blk_cell BK654.out 2).trans rfl, (blk_cell BK654.out 3).trans rfl, (blk_cell BK676.out 0).trans rfl, (blk_cell BK676.out 1).trans rfl, (blk_cell BK676.out 2).trans rfl, (blk_cell BK676.out 3).trans rfl, (blk_cell BK677.out 0).trans rfl, (blk_cell BK677.out 1).trans rfl, (blk_cell BK677.out 2).trans rfl, (blk_cell BK677.out 3).trans rfl⟩ (fun hHeld => ?_)
    clear hK K
    refine norm_ (a' := ?_) ?_ ?_
    rotate_left
    ·show Act.put _ (some 74) _ = _
     simp only [Act.put, List.setIfInBounds_toArray, List.set_cons_zero, List.set_cons_succ, i64_w, i32_w]
     rfl
    refine puA HT_ 35 75 (bv 65 68719476735) ?_
    refine puA HT_ 36 76 (bv 65 137438953471) ?_
    refine puA HT_ 37 77 (bv 65 274877906943) ?_
    refine taA HT_ HW_ hHeld 38 78 (bv 65 549755813887) ?_
    refine taA HT_ HW_ hHeld 39 79 (bv 65 1099511627775) ?_
    refine taA HT_ HW_ hHeld 42 82 (bv 65 5497558138879) ?_
    refine one_ (i := 40) (N := some 80) #[true, true, true, true, true, true, true, true, true, true, true, true, true, true, true, true, true, true, true, true, true, true, true, true, true, true, true, true, true, true, true, true, true, true, true, true, true, true, true, true, true, false, true, false, false, false, false, false, false, false, false, false, false, false, false, false, false, false, false, false, false, false, false, false, false] rfl rfl (one_of HT_.out (by kernel_rfl)) (by decide) (fun K hK => ?_)
    refine goes_ Tryz.func24 (by kernel_rfl) rfl #[.agg #[.int .i64 0, .slice none 0 0, .slice none 0 0, .slice none 0 0], .agg #[.int .i64 t643, .slice Ao45 t644.length co45, .slice Ao46 t647.length co46, .slice Ao47 t650.length co47]] (by rfl) rfl rfl (by (simp only [List.map_toArray, List.map_cons, List.map_nil]); rfl) ?_
    refine (poslist_List_Or.calls kj3 0 _ _ ([] : List (S64)) _ _ ([] : List Int) _ _ ([] : List Int) t643 _ _ t644 _ _ t647 _ _ t650 t710 t711 t714 t717 _ ?side1 ?side2 ?side3 ?side4 ?side5 ?side6 ?side7 ?side8 ?side9 ?side10 ?side11 ?side12 A31.out).mono ?_
    (case side1 => exact Kd.C_nil _ _)
    (case side2 => exact Nat.le_refl _)
    (case side3 => exact Kd.C_nil _ _)
    (case side4 => exact Nat.le_refl _)
    (case side5 => exact Kd.C_nil _ _)
    (case side6 => exact Nat.le_refl _)
    (case side7 => exact cx (Kd.R_reads' HO646.out).2.2)
    (case side8 => exact (Kd.R_reads' HO646.out).2.1)
    (case side9 => exact cx (Kd.R_reads' HO649.out).2.2)
    (case side10 => exact (Kd.R_reads' HO649.out).2.1)
    (case side11 => exact cx (Kd.R_reads' HO652.out).2.2)
    (case side12 => exact (Kd.R_reads' HO652.out).2.1)
    rintro e w93 ⟨v712, v715, v718, rfl, ho0, ho1, ho2, hb⟩
    refine ⟨_, rfl, ?_⟩
    have HO713 := Aside0.mk (Kd.R_lower (Kd.R_new' (Kd.R_new' (Kd.R_new' (Kd.R_new' (Kd.R_new' (Kd.R_new' (Kd.R_new' ho0 (Kd.R_lt (rx HO646.out))) (Kd.R_lt (rx HO658.out))) (Kd.R_lt (rx HO668.out))) (Kd.R_lt (rx HO683.out))) (Kd.R_lt (rx HO694.out))) (Kd.R_lt (rx HO703.out))) (Kd.R_lt (rx HO706.out))) (below_size (bh HB.out)))
    replace HO646 := Aside0.mk (Kd.R_elder' (rx HO646.out) (Kd.R_base ho0) hb)
    replace HO658 := Aside0.mk (Kd.R_elder' (rx HO658.out) (Kd.R_base ho0) hb)
    replace HO668 := Aside0.mk (Kd.R_elder' (rx HO668.out) (Kd.R_base ho0) hb)
    replace HO683 := Aside0.mk (Kd.R_elder' (rx HO683.out) (Kd.R_base ho0) hb)
    replace HO694 := Aside0.mk (Kd.R_elder' (rx HO694.out) (Kd.R_base ho0) hb)
    replace HO703 := Aside0.mk (Kd.R_elder' (rx HO703.out) (Kd.R_base ho0) hb)
    replace HO706 := Aside0.mk (Kd.R_elder' (rx HO706.out) (Kd.R_base ho0) hb)
    have HO716 := Aside0.mk (Kd.R_lower (Kd.R_new' (Kd.R_new' (Kd.R_new' (Kd.R_new' (Kd.R_new' (Kd.R_new' (Kd.R_new' (Kd.R_new' (Kd.R_new' (Kd.R_new' ho1 (Kd.R_lt (rx HO649.out))) (Kd.R_lt (rx HO652.out))) (Kd.R_lt (rx HO661.out))) (Kd.R_lt (rx HO664.out))) (Kd.R_lt (rx HO671.out))) (Kd.R_lt (rx HO674.out))) (Kd.R_lt (rx HO686.out))) (Kd.R_lt (rx HO689.out))) (Kd.R_lt (rx HO697.out))) (Kd.R_lt (rx HO700.out))) (below_size (bh HB.out)))
    have HO719 := Aside0.mk (Kd.R_lower (Kd.R_new' (Kd.R_new' (Kd.R_new' (Kd.R_new' (Kd.R_new' (Kd.R_new' (Kd.R_new' (Kd.R_new' (Kd.R_new' (Kd.R_new' ho2 (Kd.R_lt (rx HO649.out))) (Kd.R_lt (rx HO652.out))) (Kd.R_lt (rx HO661.out))) (Kd.R_lt (rx HO664.out))) (Kd.R_lt (rx HO671.out))) (Kd.R_lt (rx HO674.out))) (Kd.R_lt (rx HO686.out))) (Kd.R_lt (rx HO689.out))) (Kd.R_lt (rx HO697.out))) (Kd.R_lt (rx HO700.out))) (below_size (bh HB.out)))
    replace HO649 := Aside0.mk (Kd.R_mono (Kd.R_told (Kd.R_told (Kd.R_old (rx HO649.out) hb) (Kd.R_base ho1)) (Kd.R_base ho2)) (fun _ h_ => h_.1))
    replace HO652 := Aside0.mk (Kd.R_mono (Kd.R_told (Kd.R_told (Kd.R_old (rx HO652.out) hb) (Kd.R_base ho1)) (Kd.R_base ho2)) (fun _ h_ => h_.1))
    replace HO661 := Aside0.mk (Kd.R_mono (Kd.R_told (Kd.R_told (Kd.R_old (rx HO661.out) hb) (Kd.R_base ho1)) (Kd.R_base ho2)) (fun _ h_ => h_.1))
    replace HO664 := Aside0.mk (Kd.R_mono (Kd.R_told (Kd.R_told (Kd.R_old (rx HO664.out) hb) (Kd.R_base ho1)) (Kd.R_base ho2)) (fun _ h_ => h_.1))
    replace HO671 := Aside0.mk (Kd.R_mono (Kd.R_told (Kd.R_told (Kd.R_old (rx HO671.out) hb) (Kd.R_base ho1)) (Kd.R_base ho2)) (fun _ h_ => h_.1))
    replace HO674 := Aside0.mk (Kd.R_mono (Kd.R_told (Kd.R_told (Kd.R_old (rx HO674.out) hb) (Kd.R_base ho1)) (Kd.R_base ho2)) (fun _ h_ => h_.1))
    replace HO686 := Aside0.mk (Kd.R_mono (Kd.R_told (Kd.R_told (Kd.R_old (rx HO686.out) hb) (Kd.R_base ho1)) (Kd.R_base ho2)) (fun _ h_ => h_.1))
    replace HO689 := Aside0.mk (Kd.R_mono (Kd.R_told (Kd.R_told (Kd.R_old (rx HO689.out) hb) (Kd.R_base ho1)) (Kd.R_base ho2)) (fun _ h_ => h_.1))
    replace HO697 := Aside0.mk (Kd.R_mono (Kd.R_told (Kd.R_told (Kd.R_old (rx HO697.out) hb) (Kd.R_base ho1)) (Kd.R_base ho2)) (fun _ h_ => h_.1))
    replace HO700 := Aside0.mk (Kd.R_mono (Kd.R_told (Kd.R_told (Kd.R_old (rx HO700.out) hb) (Kd.R_base ho1)) (Kd.R_base ho2)) (fun _ h_ => h_.1))
    replace BK654 := bba BK654 hb
    replace BK675 := bba BK675 hb
    replace BK676 := bba BK676 hb
    replace BK677 := bba BK677 hb
    replace HB := bsa HB hb
    clear hb ho0 ho1 ho2
    obtain ⟨Ao94, co94, eo94⟩ := Kd.R_slice HO713.out
    (subst eo94)
    obtain ⟨Ao95, co95, eo95⟩ := Kd.R_slice HO716.out
    (subst eo95)
    obtain ⟨Ao96, co96, eo96⟩ := Kd.R_slice HO719.out
    (subst eo96)
    refine hK.out _ _ ⟨(blk_cell BK675.out 0).trans rfl, (blk_cell BK675.out 1).trans rfl, (blk_cell BK675.out 2).trans rfl, (blk_cell BK675.out 3).trans rfl, (blk_cell BK654.out 0).trans rfl, (blk_cell BK654.out 1).trans rfl, (blk_cell BK654.out 2).trans rfl, (blk_cell BK654.out 3).trans rfl, (blk_cell BK676.out 0).trans rfl, (blk_cell BK676.out 1).trans rfl, (blk_cell BK676.out 2).trans rfl, (blk_cell BK676.out 3).trans rfl, (blk_cell BK677.out 0).trans rfl, (blk_cell BK677.out 1).trans rfl, (blk_cell BK677.out 2).trans rfl, (blk_cell BK677.out 3).trans rfl⟩ (fun hHeld => ?_)
    clear hK K
    refine norm_ (a' := ?_) ?_ ?_
    rotate_left
    ·show Act.put _ (some 80) _ = _
     simp only [Act.put, List.setIfInBounds_toArray, List.set_cons_zero, List.set_cons_succ, i64_w, i32_w]
     rfl
    refine one_ (i := 41) (N := some 81) #[true, true, true, true, true, true, true, true, true, true, true, true, true, true, true, true, true, true, true, true, true, true, true, true, true, true, true, true, true, true, true, true, true, true, true, true, true, true, true, true, true, true, true, false, false, false, false, false, false, false, false, false, false, false, false, false, false, false, false, false, false, false, false, false, false] rfl rfl (one_of HT_.out (by kernel_rfl)) (by decide) (fun K hK => ?_)
    refine goes_ Tryz.func19 (by kernel_rfl) rfl #[.agg #[.int .i64 t710, .slice Ao94 t711.length co94, .slice Ao95 t714.length co95, .slice Ao96 t717.length co96]] (by rfl) rfl rfl (by (simp only [List.map_toArray, List.map_cons, List.map_nil]); rfl) ?_
    with_reducible refine (poslist_List_Count.calls kj3 t710 _ _ t711 _ _ t714 _ _ t717 t720 _ ?side1 ?side2 ?side3 ?side4 ?side5 ?side6 A32.out).mono ?_
    (case side1 => exact cx (Kd.R_reads' HO713.out).2.2)
    (case side2 => exact (Kd.R_reads' HO713.out).2.1)
    (case side3 => exact cx (Kd.R_reads' HO716.out).2.2)
    (case side4 => exact (Kd.R_reads' HO716.out).2.1)
    (case side5 => exact cx (Kd.R_reads' HO719.out).2.2)
    (case side6 => exact (Kd.R_reads' HO719.out).2.1)
    rintro e w97 ⟨rfl, hb⟩
    refine ⟨_, rfl, ?_⟩
    replace HO646 := rba HO646 hb
    replace HO649 := rba HO649 hb
    replace HO652 := rba HO652 hb
    replace HO658 := rba HO658 hb
    replace HO661 := rba HO661 hb
    replace HO664 := rba HO664 hb
    replace HO668 := rba HO668 hb
    replace HO671 := rba HO671 hb
    replace HO674 := rba HO674 hb
    replace HO683 := rba HO683 hb
    replace HO686 := rba HO686 hb
    replace HO689 := rba HO689 hb
    replace HO694 := rba HO694 hb
    replace HO697 := rba HO697 hb
    replace HO700 := rba HO700 hb
    replace HO703 := rba HO703 hb
    replace HO706 := rba HO706 hb
    replace HO713 := rba HO713 hb
    replace HO716 := rba HO716 hb
    replace HO719 := rba HO719 hb
    replace BK654 := bba BK654 hb
    replace BK675 := bba BK675 hb
    replace BK676 := bba BK676 hb
    replace BK677 := bba BK677 hb
    replace HB := bsa HB hb
    clear hb
    refine hK.out _ _ ⟨(blk_cell BK675.out 0).trans rfl, (blk_cell BK675.out 1).trans rfl, (blk_cell BK675.out 2).trans rfl, (blk_cell BK675.out 3).trans rfl, (blk_cell BK654.out 0).trans rfl, (blk_cell BK654.out 1).trans rfl, (blk_cell BK654.out 2).trans rfl, (blk_cell BK654.out 3).trans rfl, (blk_cell BK676.out 0).trans rfl, (blk_cell BK676.out 1).trans rfl, (blk_cell BK676.out 2).trans rfl, (blk_cell BK676.out 3).trans rfl, (blk_cell BK677.out 0).trans rfl, (blk_cell BK677.out 1).trans rfl, (blk_cell BK677.out 2).trans rfl, (blk_cell BK677.out 3).trans rfl⟩ (fun hHeld => ?_)
    clear hK K
    refine norm_ (a' := ?_) ?_ ?_
    rotate_left
    ·show Act.put _ (some 81) _ = _
     simp only [Act.put, List.setIfInBounds_toArray, List.set_cons_zero, List.set_cons_succ, i64_w, i32_w]
     rfl
    refine one_ (i := 43) (N := some 83) #[true, true, true, true, true, true, true, true, true, true, true, true, true, true, true, true, true, true, true, true, true, true, true, true, true, true, true, true, true, true, true, true, true, true, true, true, true, true, true, true, true, true, true, true, false, false, false, false, false, false, false, false, false, false, false, false, false, false, false, false, false, false, false, false, false] rfl rfl (one_of HT_.out (by kernel_rfl)) (by decide) (fun K hK => ?_)
    refine goes_ Tryz.func19 (by kernel_rfl) rfl #[.agg #[.int .i64 t643, .slice Ao45 t644.length co45, .slice Ao46 t647.length co46, .slice Ao47 t650.length co47]] (by rfl) rfl rfl (by (simp only [List.map_toArray, List.map_cons, List.map_nil]); rfl) ?_
    with_reducible refine (poslist_List_Count.calls kj3 t643 _ _ t644 _ _ t647 _ _ t650 t721 _ ?side1 ?side2 ?side3 ?side4 ?side5 ?side6 A33.out).mono ?_
    (case side1 => exact cx (Kd.R_reads' HO646.out).2.2)
    (case side2 => exact (Kd.R_reads' HO646.out).2.1)
    (case side3 => exact cx (Kd.R_reads' HO649.out).2.2)
    (case side4 => exact (Kd.R_reads' HO649.out).2.1)
    (case side5 => exact cx (Kd.R_reads' HO652.out).2.2)
    (case side6 => exact (Kd.R_reads' HO652.out).2.1)
    rintro e w98 ⟨rfl, hb⟩
    refine ⟨_, rfl, ?_⟩
    replace HO646 := rba HO646 hb
    replace HO649 := rba HO649 hb
    replace HO652 := rba HO652 hb
    replace HO658 := rba HO658 hb
    replace HO661 := rba HO661 hb
    replace HO664 := rba HO664 hb
    replace HO668 := rba HO668 hb
    replace HO671 := rba HO671 hb
    replace HO674 := rba HO674 hb
    replace HO683 := rba HO683 hb
    replace HO686 := rba HO686 hb
    replace HO689 := rba HO689 hb
    replace HO694 := rba HO694 hb
    replace HO697 := rba HO697 hb
    replace HO700 := rba HO700 hb
    replace HO703 := rba HO703 hb
    replace HO706 := rba HO706 hb
    replace HO713 := rba HO713 hb
    replace HO716 := rba HO716 hb
    replace HO719 := rba HO719 hb
    replace BK654 := bba BK654 hb
    replace BK675 := bba BK675 hb
    replace BK676 := bba BK676 hb
    replace BK677 := bba BK677 hb
    replace HB := bsa HB hb
    clear hb
    refine hK.out _ _ ⟨(blk_cell BK675.out 0).trans rfl, (blk_cell BK675.out 1).trans rfl, (blk_cell BK675.out 2).trans rfl, (blk_cell BK675.out 3).trans rfl, (blk_cell BK654.out 0).trans rfl, (blk_cell BK654.out 1).trans rfl, (blk_cell BK654.out 2).trans rfl, (blk_cell BK654.out 3).trans rfl, (blk_cell BK676.out 0).trans rfl, (blk_cell BK676.out 1).trans rfl, (blk_cell BK676.out 2).trans rfl, (blk_cell BK676.out 3).trans rfl, (blk_cell BK677.out 0).trans rfl, (blk_cell BK677.out 1).trans rfl, (blk_cell BK677.out 2).trans rfl, (blk_cell BK677.out 3).trans rfl⟩ (fun hHeld => ?_)
    clear hK K
    refine norm_ (a' := ?_) ?_ ?_
    rotate_left
    ·show Act.put _ (some 83) _ = _
     simp only [Act.put, List.setIfInBounds_toArray, List.set_cons_zero, List.set_cons_succ, i64_w, i32_w]
     rfl
    refine puA HT_ 44 84 (bv 65 35184372088831) ?_
    refine puA HT_ 45 85 (bv 65 70368744177663) ?_
    refine puA HT_ 46 86 (bv 65 140737488355327) ?_
    refine taA HT_ HW_ hHeld 47 87 (bv 65 281474976710655) ?_
    refine taA HT_ HW_ hHeld 48 88 (bv 65 562949953421311) ?_
    refine taA HT_ HW_ hHeld 51 91 (bv 65 2814749767106559) ?_
    refine one_ (i := 49) (N := some 89) #[true, true, true, true, true, true, true, true, true, true, true, true, true, true, true, true, true, true, true, true, true, true, true, true, true, true, true, true, true, true, true, true, true, true, true, true, true, true, true, true, true, true, true, true, true, true, true, true, true, true, false, true, false, false, false, false, false, false, false, false, false, false, false, false, false] rfl rfl (one_of HT_.out (by kernel_rfl)) (by decide) (fun K hK => ?_)
    refine goes_ Tryz.func25 (by kernel_rfl) rfl #[.agg #[.int .i64 t643, .slice Ao45 t644.length co45, .slice Ao46 t647.length co46, .slice Ao47 t650.length co47], .agg #[.int .i64 0, .slice none 0 0, .slice none 0 0, .slice none 0 0]] (by rfl) rfl rfl (by (simp only [List.map_toArray, List.map_cons, List.map_nil]); rfl) ?_
    refine (poslist_List_Less.calls kj3 t643 _ _ t644 _ _ t647 _ _ t650 0 _ _ ([] : List (S64)) _ _ ([] : List Int) _ _ ([] : List Int) t722 t723 t726 t729 _ ?side1 ?side2 ?side3 ?side4 ?side5 ?side6 ?side7 ?side8 ?side9 ?side10 ?side11 ?side12 A35.out).mono ?_
    (case side1 => exact cx (Kd.R_reads' HO646.out).2.2)
    (case side2 => exact (Kd.R_reads' HO646.out).2.1)
    (case side3 => exact cx (Kd.R_reads' HO649.out).2.2)
    (case side4 => exact (Kd.R_reads' HO649.out).2.1)
    (case side5 => exact cx (Kd.R_reads' HO652.out).2.2)
    (case side6 => exact (Kd.R_reads' HO652.out).2.1)
    (case side7 => exact Kd.C_nil _ _)
    (case side8 => exact Nat.le_refl _)
    (case side9 => exact Kd.C_nil _ _)
    (case side10 => exact Nat.le_refl _)
    (case side11 => exact Kd.C_nil _ _)
    (case side12 => exact Nat.le_refl _)
    rintro e w99 ⟨v724, v727, v730, rfl, ho0, ho1, ho2, hb⟩
    refine ⟨_, rfl, ?_⟩
    have HO725 := Aside0.mk (Kd.R_lower (Kd.R_new' (Kd.R_new' (Kd.R_new' (Kd.R_new' (Kd.R_new' (Kd.R_new' (Kd.R_new' (Kd.R_new' ho0 (Kd.R_lt (rx HO646.out))) (Kd.R_lt (rx HO658.out))) (Kd.R_lt (rx HO668.out))) (Kd.R_lt (rx HO683.out))) (Kd.R_lt (rx HO694.out))) (Kd.R_lt (rx HO703.out))) (Kd.R_lt (rx HO706.out))) (Kd.R_lt (rx HO713.out))) (below_size (bh HB.out)))
    replace HO646 := Aside0.mk (Kd.R_elder' (rx HO646.out) (Kd.R_base ho0) hb)
    replace HO658 := Aside0.mk (Kd.R_elder' (rx HO658.out) (Kd.R_base ho0) hb)
    replace HO668 := Aside0.mk (Kd.R_elder' (rx HO668.out) (Kd.R_base ho0) hb)
    replace HO683 := Aside0.mk (Kd.R_elder' (rx HO683.out) (Kd.R_base ho0) hb)
    replace HO694 := Aside0.mk (Kd.R_elder' (rx HO694.out) (Kd.R_base ho0) hb)
    replace HO703 := Aside0.mk (Kd.R_elder' (rx HO703.out) (Kd.R_base ho0) hb)
    replace HO706 := Aside0.mk (Kd.R_elder' (rx HO706.out) (Kd.R_base ho0) hb)
    replace HO713 := Aside0.mk (Kd.R_elder' (rx HO713.out) (Kd.R_base ho0) hb)
    have HO728 := Aside0.mk (Kd.R_lower (Kd.R_new' (Kd.R_new' (Kd.R_new' (Kd.R_new' (Kd.R_new' (Kd.R_new' (Kd.R_new' (Kd.R_new' (Kd.R_new' (Kd.R_new' (Kd.R_new' (Kd.R_new' ho1 (Kd.R_lt (rx HO649.out))) (Kd.R_lt (rx HO652.out))) (Kd.R_lt (rx HO661.out))) (Kd.R_lt (rx HO664.out))) (Kd.R_lt (rx HO671.out))) (Kd.R_lt (rx HO674.out))) (Kd.R_lt (rx HO686.out))) (Kd.R_lt (rx HO689.out))) (Kd.R_lt (rx HO697.out))) (Kd.R_lt (rx HO700.out))) (Kd.R_lt (rx HO716.out))) (Kd.R_lt (rx HO719.out))) (below_size (bh HB.out)))
    have HO731 := Aside0.mk (Kd.R_lower (Kd.R_new' (Kd.R_new' (Kd.R_new' (Kd.R_new' (Kd.R_new' (Kd.R_new' (Kd.R_new' (Kd.R_new' (Kd.R_new' (Kd.R_new' (Kd.R_new' (Kd.R_new' ho2 (Kd.R_lt (rx HO649.out))) (Kd.R_lt (rx HO652.out))) (Kd.R_lt (rx HO661.out))) (Kd.R_lt (rx HO664.out))) (Kd.R_lt (rx HO671.out))) (Kd.R_lt (rx HO674.out))) (Kd.R_lt (rx HO686.out))) (Kd.R_lt (rx HO689.out))) (Kd.R_lt (rx HO697.out))) (Kd.R_lt (rx HO700.out))) (Kd.R_lt (rx HO716.out))) (Kd.R_lt (rx HO719.out))) (below_size (bh HB.out)))
    replace HO649 := Aside0.mk (Kd.R_mono (Kd.R_told (Kd.R_told (Kd.R_old (rx HO649.out) hb) (Kd.R_base ho1)) (Kd.R_base ho2)) (fun _ h_ => h_.1))
    replace HO652 := Aside0.mk (Kd.R_mono (Kd.R_told (Kd.R_told (Kd.R_old (rx HO652.out) hb) (Kd.R_base ho1)) (Kd.R_base ho2)) (fun _ h_ => h_.1))
    replace HO661 := Aside0.mk (Kd.R_mono (Kd.R_told (Kd.R_told (Kd.R_old (rx HO661.out) hb) (Kd.R_base ho1)) (Kd.R_base ho2)) (fun _ h_ => h_.1))
    replace HO664 := Aside0.mk (Kd.R_mono (Kd.R_told (Kd.R_told (Kd.R_old (rx HO664.out) hb) (Kd.R_base ho1)) (Kd.R_base ho2)) (fun _ h_ => h_.1))
    replace HO671 := Aside0.mk (Kd.R_mono (Kd.R_told (Kd.R_told (Kd.R_old (rx HO671.out) hb) (Kd.R_base ho1)) (Kd.R_base ho2)) (fun _ h_ => h_.1))
    replace HO674 := Aside0.mk (Kd.R_mono (Kd.R_told (Kd.R_told (Kd.R_old (rx HO674.out) hb) (Kd.R_base ho1)) (Kd.R_base ho2)) (fun _ h_ => h_.1))
    replace HO686 := Aside0.mk (Kd.R_mono (Kd.R_told (Kd.R_told (Kd.R_old (rx HO686.out) hb) (Kd.R_base ho1)) (Kd.R_base ho2)) (fun _ h_ => h_.1))
    replace HO689 := Aside0.mk (Kd.R_mono (Kd.R_told (Kd.R_told (Kd.R_old (rx HO689.out) hb) (Kd.R_base ho1)) (Kd.R_base ho2)) (fun _ h_ => h_.1))
    replace HO697 := Aside0.mk (Kd.R_mono (Kd.R_told (Kd.R_told (Kd.R_old (rx HO697.out) hb) (Kd.R_base ho1)) (Kd.R_base ho2)) (fun _ h_ => h_.1))
    replace HO700 := Aside0.mk (Kd.R_mono (Kd.R_told (Kd.R_told (Kd.R_old (rx HO700.out) hb) (Kd.R_base ho1)) (Kd.R_base ho2)) (fun _ h_ => h_.1))
    replace HO716 := Aside0.mk (Kd.R_mono (Kd.R_told (Kd.R_told (Kd.R_old (rx HO716.out) hb) (Kd.R_base ho1)) (Kd.R_base ho2)) (fun _ h_ => h_.1))
    replace HO719 := Aside0.mk (Kd.R_mono (Kd.R_told (Kd.R_told (Kd.R_old (rx HO719.out) hb) (Kd.R_base ho1)) (Kd.R_base ho2)) (fun _ h_ => h_.1))
    replace BK654 := bba BK654 hb
    replace BK675 := bba BK675 hb
    replace BK676 := bba BK676 hb
    replace BK677 := bba BK677 hb
    replace HB := bsa HB hb
    clear hb ho0 ho1 ho2
    obtain ⟨Ao100, co100, eo100⟩ := Kd.R_slice HO725.out
    (subst eo100)
    obtain ⟨Ao101, co101, eo101⟩ := Kd.R_slice HO728.out
    (subst eo101)
    obtain ⟨Ao102, co102, eo102⟩ := Kd.R_slice HO731.out
    (subst eo102)
    refine hK.out _ _ ⟨(blk_cell BK675.out 0).trans rfl, (blk_cell BK675.out 1).trans rfl, (blk_cell BK675.out 2).trans rfl, (blk_cell BK675.out 3).trans rfl, (blk_cell BK654.out 0).trans rfl, (blk_cell BK654.out 1).trans rfl, (blk_cell BK654.out 2).trans rfl, (blk_cell BK654.out 3).trans rfl, (blk_cell BK676.out 0).trans rfl, (blk_cell BK676.out 1).trans rfl, (blk_cell BK676.out 2).trans rfl, (blk_cell BK676.out 3).trans rfl, (blk_cell BK677.out 0).trans rfl, (blk_cell BK677.out 1).trans rfl, (blk_cell BK677.out 2).trans rfl, (blk_cell BK677.out 3).trans rfl⟩ (fun hHeld => ?_)
    clear hK K
    refine norm_ (a' := ?_) ?_ ?_
    rotate_left
    ·show Act.put _ (some 89) _ = _
     simp only [Act.put, List.setIfInBounds_toArray, List.set_cons_zero, List.set_cons_succ, i64_w, i32_w]
     rfl
    refine one_ (i := 50) (N := some 90) #[true, true, true, true, true, true, true, true, true, true, true, true, true, true, true, true, true, true, true, true, true, true, true, true, true, true, true, true, true, true, true, true, true, true, true, true, true, true, true, true, true, true, true, true, true, true, true, true, true, true, true, true, false, false, false, false, false, false, false, false, false, false, false, false, false] rfl rfl (one_of HT_.out (by kernel_rfl)) (by decide) (fun K hK => ?_)
    refine goes_ Tryz.func19 (by kernel_rfl) rfl #[.agg #[.int .i64 t722, .slice Ao100 t723.length co100, .slice Ao101 t726.length co101, .slice Ao102 t729.length co102]] (by rfl) rfl rfl (by (simp only [List.map_toArray, List.map_cons, List.map_nil]); rfl) ?_
    with_reducible refine (poslist_List_Count.calls kj3 t722 _ _ t723 _ _ t726 _ _ t729 t732 _ ?side1 ?side2 ?side3 ?side4 ?side5 ?side6 A36.out).mono ?_
    (case side1 => exact cx (Kd.R_reads' HO725.out).2.2)
    (case side2 => exact (Kd.R_reads' HO725.out).2.1)
    (case side3 => exact cx (Kd.R_reads' HO728.out).2.2)
    (case side4 => exact (Kd.R_reads' HO728.out).2.1)
    (case side5 => exact cx (Kd.R_reads' HO731.out).2.2)
    (case side6 => exact (Kd.R_reads' HO731.out).2.1)
    rintro e w103 ⟨rfl, hb⟩
    refine ⟨_, rfl, ?_⟩
    replace HO646 := rba HO646 hb
    replace HO649 := rba HO649 hb
    replace HO652 := rba HO652 hb
    replace HO658 := rba HO658 hb
    replace HO661 := rba HO661 hb
    replace HO664 := rba HO664 hb
    replace HO668 := rba HO668 hb
    replace HO671 := rba HO671 hb
    replace HO674 := rba HO674 hb
    replace HO683 := rba HO683 hb
    replace HO686 := rba HO686 hb
    replace HO689 := rba HO689 hb
    replace HO694 := rba HO694 hb
    replace HO697 := rba HO697 hb
    replace HO700 := rba HO700 hb
    replace HO703 := rba HO703 hb
    replace HO706 := rba HO706 hb
    replace HO713 := rba HO713 hb
    replace HO716 := rba HO716 hb
    replace HO719 := rba HO719 hb
    replace HO725 := rba HO725 hb
    replace HO728 := rba HO728 hb
    replace HO731 := rba HO731 hb
    replace BK654 := bba BK654 hb
    replace BK675 := bba BK675 hb
    replace BK676 := bba BK676 hb
    replace BK677 := bba BK677 hb
    replace HB := bsa HB hb
    clear hb
    refine hK.out _ _ ⟨(blk_cell BK675.out 0).trans rfl, (blk_cell BK675.out 1).trans rfl, (blk_cell BK675.out 2).trans rfl, (blk_cell BK675.out 3).trans rfl, (blk_cell BK654.out 0).trans rfl, (blk_cell BK654.out 1).trans rfl, (blk_cell BK654.out 2).trans rfl, (blk_cell BK654.out 3).trans rfl, (blk_cell BK676.out 0).trans rfl, (blk_cell BK676.out 1).trans rfl, (blk_cell BK676.out 2).trans rfl, (blk_cell BK676.out 3).trans rfl, (blk_cell BK677.out 0).trans rfl, (blk_cell BK677.out 1).trans rfl, (blk_cell BK677.out 2).trans rfl, (blk_cell BK677.out 3).trans rfl⟩ (fun hHeld => ?_)
    clear hK K
    refine norm_ (a' := ?_) ?_ ?_
    rotate_left
    ·show Act.put _ (some 90) _ = _
     simp only [Act.put, List.setIfInBounds_toArray, List.set_cons_zero, List.set_cons_succ, i64_w, i32_w]
     rfl
    refine one_ (i := 52) (N := some 92) #[true, true, true, true, true, true, true, true, true, true, true, true, true, true, true, true, true, true, true, true, true, true, true, true, true, true, true, true, true, true, true, true, true, true, true, true, true, true, true, true, true, true, true, true, true, true, true, true, true, true, true, true, true, false, false, false, false, false, false, false, false, false, false, false, false] rfl rfl (one_of HT_.out (by kernel_rfl)) (by decide) (fun K hK => ?_)
    refine goes_ Tryz.func19 (by kernel_rfl) rfl #[.agg #[.int .i64 t643, .slice Ao45 t644.length co45, .slice Ao46 t647.length co46, .slice Ao47 t650.length co47]] (by rfl) rfl rfl (by (simp only [List.map_toArray, List.map_cons, List.map_nil]); rfl) ?_
    with_reducible refine (poslist_List_Count.calls kj3 t643 _ _ t644 _ _ t647 _ _ t650 t733 _ ?side1 ?side2 ?side3 ?side4 ?side5 ?side6 A37.out).mono ?_
    (case side1 => exact cx (Kd.R_reads' HO646.out).2.2)
    (case side2 => exact (Kd.R_reads' HO646.out).2.1)
    (case side3 => exact cx (Kd.R_reads' HO649.out).2.2)
    (case side4 => exact (Kd.R_reads' HO649.out).2.1)
    (case side5 => exact cx (Kd.R_reads' HO652.out).2.2)
    (case side6 => exact (Kd.R_reads' HO652.out).2.1)
    rintro e w104 ⟨rfl, hb⟩
    refine ⟨_, rfl, ?_⟩
    replace HO646 := rba HO646 hb
    replace HO649 := rba HO649 hb
    replace HO652 := rba HO652 hb
    replace HO658 := rba HO658 hb
    replace HO661 := rba HO661 hb
    replace HO664 := rba HO664 hb
    replace HO668 := rba HO668 hb
    replace HO671 := rba HO671 hb
    replace HO674 := rba HO674 hb
    replace HO683 := rba HO683 hb
    replace HO686 := rba HO686 hb
    replace HO689 := rba HO689 hb
    replace HO694 := rba HO694 hb
    replace HO697 := rba HO697 hb
    replace HO700 := rba HO700 hb
    replace HO703 := rba HO703 hb
    replace HO706 := rba HO706 hb
    replace HO713 := rba HO713 hb
    replace HO716 := rba HO716 hb
    replace HO719 := rba HO719 hb
    replace HO725 := rba HO725 hb
    replace HO728 := rba HO728 hb
    replace HO731 := rba HO731 hb
    replace BK654 := bba BK654 hb
    replace BK675 := bba BK675 hb
    replace BK676 := bba BK676 hb
    replace BK677 := bba BK677 hb
    replace HB := bsa HB hb
    clear hb
    refine hK.out _ _ ⟨(blk_cell BK675.out 0).trans rfl, (blk_cell BK675.out 1).trans rfl, (blk_cell BK675.out 2).trans rfl, (blk_cell BK675.out 3).trans rfl, (blk_cell BK654.out 0).trans rfl, (blk_cell BK654.out 1).trans rfl, (blk_cell BK654.out 2).trans rfl, (blk_cell BK654.out 3).trans rfl, (blk_cell BK676.out 0).trans rfl, (blk_cell BK676.out 1).trans rfl, (blk_cell BK676.out 2).trans rfl, (blk_cell BK676.out 3).trans rfl, (blk_cell BK677.out 0).trans rfl, (blk_cell BK677.out 1).trans rfl, (blk_cell BK677.out 2).trans rfl, (blk_cell BK677.out 3).trans rfl⟩ (fun hHeld => ?_)
    clear hK K
    refine norm_ (a' := ?_) ?_ ?_
    rotate_left
    ·show Act.put _ (some 92) _ = _
     simp only [Act.put, List.setIfInBounds_toArray, List.set_cons_zero, List.set_cons_succ, i64_w, i32_w]
     rfl
    refine puA HT_ 53 93 (bv 65 18014398509481983) ?_
    refine puA HT_ 54 94 (bv 65 36028797018963967) ?_
    refine puA HT_ 55 95 (bv 65 72057594037927935) ?_
    refine taA HT_ HW_ hHeld 56 96 (bv 65 144115188075855871) ?_
    refine one_ (i := 57) (N := some 97) #[true, true, true, true, true, true, true, true, true, true, true, true, true, true, true, true, true, true, true, true, true, true, true, true, true, true, true, true, true, true, true, true, true, true, true, true, true, true, true, true, true, true, true, true, true, true, true, true, true, true, true, true, true, true, true, true, true, true, false, false, false, false, false, false, false] rfl rfl (one_of HT_.out (by kernel_rfl)) (by decide) (fun K hK => ?_)
    refine goes_ Tryz.func29 (by kernel_rfl) rfl #[.agg #[.int .i64 0, .slice none 0 0, .slice none 0 0, .slice none 0 0]] (by rfl) rfl rfl (by (simp only [List.map_toArray, List.map_cons, List.map_nil]); rfl) ?_
    refine (peristylelaw16_listed.calls kj3 0 _ _ ([] : List (S64)) _ _ ([] : List Int) _ _ ([] : List Int) t734 _ ?side1 ?side2 ?side3 ?side4 ?side5 ?side6 A39.out).mono ?_
    (case side1 => exact Kd.C_nil _ _)
    (case side2 => exact Nat.le_refl _)
    (case side3 => exact Kd.C_nil _ _)
    (case side4 => exact Nat.le_refl _)
    (case side5 => exact Kd.C_nil _ _)
    (case side6 => exact Nat.le_refl _)
    rintro e w105 ⟨v735, rfl, ho0, hb⟩
    refine ⟨_, rfl, ?_⟩
    replace HO646 := rba HO646 hb
    replace HO658 := rba HO658 hb
    replace HO668 := rba HO668 hb
    replace HO683 := rba HO683 hb
    replace HO694 := rba HO694 hb
    replace HO703 := rba HO703 hb
    replace HO706 := rba HO706 hb
    replace HO713 := rba HO713 hb
    replace HO725 := rba HO725 hb
    have HO736 := Aside0.mk (Kd.R_lower (Kd.R_new' (Kd.R_new' (Kd.R_new' (Kd.R_new' (Kd.R_new' (Kd.R_new' (Kd.R_new' (Kd.R_new' (Kd.R_new' (Kd.R_new' (Kd.R_new' (Kd.R_new' (Kd.R_new' (Kd.R_new' ho0 (Kd.R_lt (rx HO649.out))) (Kd.R_lt (rx HO652.out))) (Kd.R_lt (rx HO661.out))) (Kd.R_lt (rx HO664.out))) (Kd.R_lt (rx HO671.out))) (Kd.R_lt (rx HO674.out))) (Kd.R_lt (rx HO686.out))) (Kd.R_lt (rx HO689.out))) (Kd.R_lt (rx HO697.out))) (Kd.R_lt (rx HO700.out))) (Kd.R_lt (rx HO716.out))) (Kd.R_lt (rx HO719.out))) (Kd.R_lt (rx HO728.out))) (Kd.R_lt (rx HO731.out))) (below_size (bh HB.out)))
    replace HO649 := Aside0.mk (Kd.R_elder' (rx HO649.out) (Kd.R_base ho0) hb)
    replace HO652 := Aside0.mk (Kd.R_elder' (rx HO652.out) (Kd.R_base ho0) hb)
    replace HO661 := Aside0.mk (Kd.R_elder' (rx HO661.out) (Kd.R_base ho0) hb)
    replace HO664 := Aside0.mk (Kd.R_elder' (rx HO664.out) (Kd.R_base ho0) hb)
    replace HO671 := Aside0.mk (Kd.R_elder' (rx HO671.out) (Kd.R_base ho0) hb)
    replace HO674 := Aside0.mk (Kd.R_elder' (rx HO674.out) (Kd.R_base ho0) hb)
    replace HO686 := Aside0.mk (Kd.R_elder' (rx HO686.out) (Kd.R_base ho0) hb)
    replace HO689 := Aside0.mk (Kd.R_elder' (rx HO689.out) (Kd.R_base ho0) hb)
    replace HO697 := Aside0.mk (Kd.R_elder' (rx HO697.out) (Kd.R_base ho0) hb)
    replace HO700 := Aside0.mk (Kd.R_elder' (rx HO700.out) (Kd.R_base ho0) hb)
    replace HO716 := Aside0.mk (Kd.R_elder' (rx HO716.out) (Kd.R_base ho0) hb)
    replace HO719 := Aside0.mk (Kd.R_elder' (rx HO719.out) (Kd.R_base ho0) hb)
    replace HO728 := Aside0.mk (Kd.R_elder' (rx HO728.out) (Kd.R_base ho0) hb)
    replace HO731 := Aside0.mk (Kd.R_elder' (rx HO731.out) (Kd.R_base ho0) hb)
    replace BK654 := bba BK654 hb
    replace BK675 := bba BK675 hb
    replace BK676 := bba BK676 hb
    replace BK677 := bba BK677 hb
    replace HB := bsa HB hb
    clear hb ho0
    obtain ⟨Ao106, co106, eo106⟩ := Kd.R_slice HO736.out
    (subst eo106)
    refine hK.out _ _ ⟨(blk_cell BK675.out 0).trans rfl, (blk_cell BK675.out 1).trans rfl, (blk_cell BK675.out 2).trans rfl, (blk_cell BK675.out 3).trans rfl, (blk_cell BK654.out 0).trans rfl, (blk_cell BK654.out 1).trans rfl, (blk_cell BK654.out 2).trans rfl, (blk_cell BK654.out 3).trans rfl, (blk_cell BK676.out 0).trans rfl, (blk_cell BK676.out 1).trans rfl, (blk_cell BK676.out 2).trans rfl, (blk_cell BK676.out 3).trans rfl, (blk_cell BK677.out 0).trans rfl, (blk_cell BK677.out 1).trans rfl, (blk_cell BK677.out 2).trans rfl, (blk_cell BK677.out 3).trans rfl⟩ (fun hHeld => ?_)
    clear hK K
    refine norm_ (a' := ?_) ?_ ?_
    rotate_left
    ·show Act.put _ (some 97) _ = _
     simp only [Act.put, List.setIfInBounds_toArray, List.set_cons_zero, List.set_cons_succ, i64_w, i32_w]
     rfl
    refine puA HT_ 58 98 (bv 65 576460752303423487) ?_
    refine puA HT_ 59 99 (bv 65 1152921504606846975) ?_
    refine puA HT_ 60 100 (bv 65 2305843009213693951) ?_
    refine puA HT_ 61 101 (bv 65 4611686018427387903) ?_
    refine one_ (i := 62) (N := some 102) #[true, true, true, true, true, true, true, true, true, true, true, true, true, true, true, true, true, true, true, true, true, true, true, true, true, true, true, true, true, true, true, true, true, true, true, true, true, true, true, true, true, true, true, true, true, true, true, true, true, true, true, true, true, true, true, true, true, true, true, true, true, true, true, false, false] rfl rfl (one_of HT_.out (by kernel_rfl)) (by decide) (fun K hK => ?_)
    refine goes_ Tryz.func9 (by kernel_rfl) rfl #[] (by rfl) rfl rfl (by (simp only [List.map_toArray, List.map_cons, List.map_nil]); done) ?_
    with_reducible refine (peristylelaw16_awake.calls kj3  t737 _ A41.out).mono ?_
    rintro e w107 ⟨rfl, hb⟩
    refine ⟨_, rfl, ?_⟩
    replace HO646 := rba HO646 hb
    replace HO649 := rba HO649 hb
    replace HO652 := rba HO652 hb
    replace HO658 := rba HO658 hb
    replace HO661 := rba HO661 hb
    replace HO664 := rba HO664 hb
    replace HO668 := rba HO668 hb
    replace HO671 := rba HO671 hb
    replace HO674 := rba HO674 hb
    replace HO683 := rba HO683 hb
    replace HO686 := rba HO686 hb
    replace HO689 := rba HO689 hb
    replace HO694 := rba HO694 hb
    replace HO697 := rba HO697 hb
    replace HO700 := rba HO700 hb
    replace HO703 := rba HO703 hb
    replace HO706 := rba HO706 hb
    replace HO713 := rba HO713 hb
    replace HO716 := rba HO716 hb
    replace HO719 := rba HO719 hb
    replace HO725 := rba HO725 hb
    replace HO728 := rba HO728 hb
    replace HO731 := rba HO731 hb
    replace HO736 := rba HO736 hb
    replace BK654 := bba BK654 hb
    replace BK675 := bba BK675 hb
    replace BK676 := bba BK676 hb
    replace BK677 := bba BK677 hb
    replace HB := bsa HB hb
    clear hb
    refine hK.out _ _ ⟨(blk_cell BK675.out 0).trans rfl, (blk_cell BK675.out 1).trans rfl, (blk_cell BK675.out 2).trans rfl, (blk_cell BK675.out 3).trans rfl, (blk_cell BK654.out 0).trans rfl, (blk_cell BK654.out 1).trans rfl, (blk_cell BK654.out 2).trans rfl, (blk_cell BK654.out 3).trans rfl, (blk_cell BK676.out 0).trans rfl, (blk_cell BK676.out 1).trans rfl, (blk_cell BK676.out 2).trans rfl, (blk_cell BK676.out 3).trans rfl, (blk_cell BK677.out 0).trans rfl, (blk_cell BK677.out 1).trans rfl, (blk_cell BK677.out 2).trans rfl, (blk_cell BK677.out 3).trans rfl⟩ (fun hHeld => ?_)
    clear hK K
    refine norm_ (a' := ?_) ?_ ?_
    rotate_left
    ·show Act.put _ (some 102) _ = _
     simp only [Act.put, List.setIfInBounds_toArray, List.set_cons_zero, List.set_cons_succ, i64_w, i32_w]
     rfl
    refine puA HT_ 63 103 (bv 65 18446744073709551615) ?_
    refine puA HT_ 64 6 (bv 65 36893488147419103231) ?_
    refine done_ (done_of HT_.out (by kernel_rfl)) ?_
    go_wp2
    go_ret
    exact ⟨by rfl, bh HB.out⟩
def peristylelaw16_PoslistParts.Pure : Prop := ∀ (l0 : List (S64)) (a1 : Int) (a2 : Int), (fun l : List (S64) => l.length ≤ maxLen ∧ l.length * 16 ≤ 140737488351232 ∧ ∀ x ∈ l, (fun x : S64 => (fun z : Int => (Lit.int .i64 z).wf = true) x.f0 ∧ (fun z : Int => (Lit.int .i64 z).wf = true) x.f1) x) l0 → (fun z : Int => (Lit.int .i64 z).wf = true) a1 → (fun z : Int => (Lit.int .i64 z).wf = true) a2 → ∃ k, peristylelaw16_PoslistParts.f k l0 a1 a2 = some true
theorem peristylelaw16_PoslistParts.walk (P : peristylelaw16_PoslistParts.Pure) (A0 : Option Addr) (c0 : Nat) (l0 : List (S64)) (a1 : Int) (a2 : Int) (w : World) (hr0 : Kd.C k64 w A0 l0.length l0) (hc0 : l0.length ≤ c0) (w0 : (fun l : List (S64) => l.length ≤ maxLen ∧ l.length * 16 ≤ 140737488351232 ∧ ∀ x ∈ l, (fun x : S64 => (fun z : Int => (Lit.int .i64 z).wf = true) x.f0 ∧ (fun z : Int => (Lit.int .i64 z).wf = true) x.f1) x) l0) (w1 : (fun z : Int => (Lit.int .i64 z).wf = true) a1) (w2 : (fun z : Int => (Lit.int .i64 z).wf = true) a2) :
  Calls Tryz.prog 6 #[.slice A0 l0.length c0, .int .i64 a1, .int .i64 a2] w fun e w' => e = .returned (.bool true) ∧ Below w.heap.size w w' := by
 obtain ⟨k, h⟩ := P l0 a1 a2 w0 w1 w2
 refine (peristylelaw16_PoslistParts.calls k _ _ l0 a1 a2 true w hr0 hc0 h).mono ?_
 rintro e w' ⟨rfl, hd⟩
 exact ⟨rfl, hd⟩
end Go.Proofs.YtjgmdjieandemaaGreat.Print
end
