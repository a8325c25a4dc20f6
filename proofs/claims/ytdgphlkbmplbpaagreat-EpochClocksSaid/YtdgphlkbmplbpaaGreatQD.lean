-- Functions and laws: texts of the session's own and of the kit's print program, joined; what nothing names is left out.
import Derived.Test.YtdgphlkbmplbpaaGreatQA
import Derived.Test.YtdgphlkbmplbpaaGreatQW
import Derived.Test.YtdgphlkbmplbpaaGreatQB
import Derived.Test.YtdgphlkbmplbpaaGreatQC
section
namespace Go.Proofs.YtdgphlkbmplbpaaGreat.Print
open Go.RowKit Go.Proofs.YtdgphlkbmplbpaaGreatW.PrintWords Go.Proofs.YtdgphlkbmplbpaaGreatW.PrintLast Go.Proofs.YtdgphlkbmplbpaaGreatW.PrintMore
attribute [local go_sem] max2_int min2_int max_two min_two max_three min_three max_four min_four   -- for this text's walks alone
set_option linter.unusedVariables false
set_option linter.unusedSimpArgs false
/-! ### epoch_Visible: function 9 -/
mutual
def epoch_Visible.j0 : Nat → List (S66) → List (S68) → Int → Int → Int → Int → Bool → Option (Int × (List (S70)) × List Int × List Int × Int)
 | 0, _, _, _, _, _, _, _ => none
 | k + 1, x0, x1, x2, x9, x10, x11, x34 => if x34 = true then (if 0 ≤ x11 then (if x11 < (x0.length : Int) then (epoch_Visible.j1 k x0 x1 x2 x9 (wrap64 (((rd_T66 x0 x11).f1) + ((rd_T66 x0 x11).f2)))) else (none)) else (none)) else (epoch_Visible.j1 k x0 x1 x2 x9 x10)
def epoch_Visible.j1 : Nat → List (S66) → List (S68) → Int → Int → Int → Option (Int × (List (S70)) × List Int × List Int × Int)
 | 0, _, _, _, _, _ => none
 | k + 1, x0, x1, x2, x9, x10 => if x9 = 0 then (if x10 > 4096 then (epoch_Visible.j2 k x0 x1 x2 true) else ((epoch_good.f k x1 x10).bind fun t382 => (epoch_Visible.j2 k x0 x1 x2 (!t382)))) else (epoch_Visible.j2 k x0 x1 x2 true)
def epoch_Visible.j2 : Nat → List (S66) → List (S68) → Int → Bool → Option (Int × (List (S70)) × List Int × List Int × Int)
 | 0, _, _, _, _ => none
 | k + 1, x0, x1, x2, x57 => if x57 = true then (some (0, ([] : List (S70)), ([] : List Int), ([] : List Int), 1)) else (epoch_Visible.l0 k x1 x2 ([] : List (S70)) x0 (x0.length : Int) 0)
def epoch_Visible.l0 : Nat → List (S68) → Int → List (S70) → List (S66) → Int → Int → Option (Int × (List (S70)) × List Int × List Int × Int)
 | 0, _, _, _, _, _, _ => none
 | k + 1, x1, x2, x12, x59, x60, x61 => if x61 < x60 then (if 0 ≤ x61 then (if x61 < (x59.length : Int) then (if ((rd_T66 x59 x61).f0) > x2 then (epoch_Visible.l0 k x1 x2 x12 x59 x60 (wrap64 (x61 + 1))) else (if (wrap64 ((x12.length : Int) - 1)) ≥ 0 then (if 0 ≤ (wrap64 ((x12.length : Int) - 1)) then (if (wrap64 ((x12.length : Int) - 1)) < (x12.length : Int) then (if ((rd_T70 x12 (wrap64 ((x12.length : Int) - 1))).f1) = ((rd_T66 x59 x61).f1) then (epoch_Visible.l0 k x1 x2 (x12.set ((wrap64 ((x12.length : Int) - 1)) : Int).toNat (⟨(rd_T70 x12 (wrap64 ((x12.length : Int) - 1))).f0, wrap64 (((rd_T70 x12 (wrap64 ((x12.length : Int) - 1))).f1) + ((rd_T66 x59 x61).f2))⟩ : S70)) x59 x60 (wrap64 (x61 + 1))) else (if x12.length < 8796093022208 then (epoch_Visible.l0 k x1 x2 (x12 ++ [(⟨(rd_T66 x59 x61).f1, wrap64 (((rd_T66 x59 x61).f1) + ((rd_T66 x59 x61).f2))⟩ : S70)]) x59 x60 (wrap64 (x61 + 1))) else (none))) else (none)) else (none)) else (if x12.length < 8796093022208 then (epoch_Visible.l0 k x1 x2 (x12 ++ [(⟨(rd_T66 x59 x61).f1, wrap64 (((rd_T66 x59 x61).f1) + ((rd_T66 x59 x61).f2))⟩ : S70)]) x59 x60 (wrap64 (x61 + 1))) else (none)))) else (none)) else (none)) else (epoch_Visible.l1 k x2 x12 ([] : List Int) x1 (x1.length : Int) 0)
def epoch_Visible.l1 : Nat → Int → List (S70) → List Int → List (S68) → Int → Int → Option (Int × (List (S70)) × List Int × List Int × Int)
 | 0, _, _, _, _, _, _ => none
 | k + 1, x2, x12, x16, x108, x109, x110 => if x110 < x109 then (if 0 ≤ x110 then (if x110 < (x108.length : Int) then (if ((rd_T68 x108 x110).f1) ≤ x2 then (if x16.length < 17592186044416 then (epoch_Visible.l1 k x2 x12 (x16 ++ [(rd_T68 x108 x110).f0]) x108 x109 (wrap64 (x110 + 1))) else (none)) else (epoch_Visible.l1 k x2 x12 x16 x108 x109 (wrap64 (x110 + 1)))) else (none)) else (none)) else ((poslist_Best.f k x12).bind fun bt399 => (if bt399.2.2.2.2 = 0 then ((poslist_From.f k x16).bind fun bt411 => ((poslist_List_Less.f k bt399.1 bt399.2.1 bt399.2.2.1 bt399.2.2.2.1 bt411.1 bt411.2.1 bt411.2.2.1 bt411.2.2.2.1).bind fun bt423 => (some (bt423.1, bt423.2.1, bt423.2.2.1, bt423.2.2.2, bt411.2.2.2.2)))) else (some (0, ([] : List (S70)), ([] : List Int), ([] : List Int), bt399.2.2.2.2))))
end
def epoch_Visible.f (k : Nat) (l0 : List (S66)) (l1 : List (S68)) (a2 : Int) : Option (Int × (List (S70)) × List Int × List Int × Int) := (runs_Put.f k l0).bind fun bt378 => (if (wrap64 ((l0.length : Int) - 1)) ≥ 0 then (epoch_Visible.j0 k l0 l1 a2 bt378.2 0 (wrap64 ((l0.length : Int) - 1)) (bt378.2 == 0)) else (epoch_Visible.j0 k l0 l1 a2 bt378.2 0 (wrap64 ((l0.length : Int) - 1)) false))
theorem epoch_Visible.j0_succ (k) (a0) (a1) (a2) (a3) (a4) (a5) (a6) : type_of% (@epoch_Visible.j0.eq_2 a0 a1 a2 a3 a4 a5 a6 k) := epoch_Visible.j0.eq_2 a0 a1 a2 a3 a4 a5 a6 k
theorem epoch_Visible.j1_succ (k) (a0) (a1) (a2) (a3) (a4) : type_of% (@epoch_Visible.j1.eq_2 a0 a1 a2 a3 a4 k) := epoch_Visible.j1.eq_2 a0 a1 a2 a3 a4 k
theorem epoch_Visible.j2_succ (k) (a0) (a1) (a2) (a3) : type_of% (@epoch_Visible.j2.eq_2 a0 a1 a2 a3 k) := epoch_Visible.j2.eq_2 a0 a1 a2 a3 k
theorem epoch_Visible.l0_succ (k) (a0) (a1) (a2) (a3) (a4) (a5) : type_of% (@epoch_Visible.l0.eq_2 a0 a1 a2 a3 a4 a5 k) := epoch_Visible.l0.eq_2 a0 a1 a2 a3 a4 a5 k
theorem epoch_Visible.l1_succ (k) (a0) (a1) (a2) (a3) (a4) (a5) : type_of% (@epoch_Visible.l1.eq_2 a0 a1 a2 a3 a4 a5 k) := epoch_Visible.l1.eq_2 a0 a1 a2 a3 a4 a5 k
def epoch_Visible.T5 : Bool × List (List Nat × List Nat) := (true, [([], []), ([], []), ([0, 1], [0, 1]), ([2], [2]), ([3], [3]), ([], []), ([], []), ([5, 6], [5, 6]), ([7], [7]), ([8], [8]), ([4, 9], [4, 9]), ([10, 0, 1, 2, 3, 4, 5, 6, 7, 8, 9, 10], [10])])
def epoch_Visible.B5 : List Nat := [0, 0, 3, 7, 15, 0, 0, 96, 224, 480, 1023, 2047]
theorem epoch_Visible.tab5 : rtab .any (opsOf Tryz.f9 5) = epoch_Visible.T5 := by kernel_rfl
theorem epoch_Visible.bits5 : waitsOk epoch_Visible.T5.2 epoch_Visible.B5 = true := by kernel_rfl
def epoch_Visible.T15 : Bool × List (List Nat × List Nat) := (true, [([], []), ([0], [0]), ([1], [1]), ([2], [2]), ([2], [2]), ([3, 4, 2], [2, 3, 4]), ([5, 2], [2, 5]), ([6, 2], [2, 6]), ([2], [2]), ([8, 2], [2, 8]), ([7, 9, 2], [2, 7, 9]), ([2, 10], [2, 10]), ([11, 2], [11])])
def epoch_Visible.B15 : List Nat := [0, 1, 3, 7, 7, 31, 63, 127, 7, 263, 1023, 2047, 4095]
theorem epoch_Visible.tab15 : rtab .any (opsOf Tryz.f9 15) = epoch_Visible.T15 := by kernel_rfl
theorem epoch_Visible.bits15 : waitsOk epoch_Visible.T15.2 epoch_Visible.B15 = true := by kernel_rfl
def epoch_Visible.T16 : Bool × List (List Nat × List Nat) := (true, [([], []), ([], []), ([0, 1], [0, 1]), ([2], [2]), ([3], [3]), ([], []), ([5], [5]), ([4, 6], [4, 6]), ([0, 1, 0, 1, 2, 3, 4, 5, 6, 7], [0, 1]), ([8, 0, 1, 2, 3, 4, 5, 6, 7], [8]), ([9, 7, 0, 1, 2, 3, 4, 5, 6, 7], [7, 9])])
def epoch_Visible.B16 : List Nat := [0, 0, 3, 7, 15, 0, 32, 127, 255, 511, 1023]
theorem epoch_Visible.tab16 : rtab .any (opsOf Tryz.f9 16) = epoch_Visible.T16 := by kernel_rfl
theorem epoch_Visible.bits16 : waitsOk epoch_Visible.T16.2 epoch_Visible.B16 = true := by kernel_rfl
set_option maxHeartbeats 8000000 in
set_option maxRecDepth 100000 in
theorem epoch_Visible.calls (k : Nat) (A0 : Option Addr) (c0 : Nat) (l0 : List (S66)) (A1 : Option Addr) (c1 : Nat) (l1 : List (S68)) (a2 : Int) (r1 : Int) (r2 : List (S70)) (r3 : List Int) (r4 : List Int) (r5 : Int) (w : World) (hr0 : Kd.C k66 w A0 l0.length l0) (hc0 : l0.length ≤ c0) (hr1 : Kd.C k68 w A1 l1.length l1) (hc1 : l1.length ≤ c1) (h : epoch_Visible.f k l0 l1 a2 = some (r1, r2, r3, r4, r5)) :
  Calls Tryz.prog 9 #[.slice A0 l0.length c0, .slice A1 l1.length c1, .int .i64 a2] w fun e w' => ∃ v1_ v2_ v3_ : Value, e = .returned (.tuple #[.agg #[.int .i64 r1, v1_, v2_, v3_], .int .i64 r5]) ∧ Kd.R k70 70 w' w.heap.size (fun _ => True) v1_ r2 ∧ Kd.R (Kd.int .i64) 3 w' w.heap.size (fun k_ => some k_ ≠ (v3_ : Value).ownBlock) v2_ r3 ∧ Kd.R (Kd.int .i64) 3 w' w.heap.size (fun k_ => some k_ ≠ (v2_ : Value).ownBlock) v3_ r4 ∧ Below w.heap.size w w' := by
 have hu29 := Tryz.underlying29
 have hu66 := Tryz.underlying66
 have hu70 := Tryz.underlying70
 have hu68 := Tryz.underlying68
 have HR0 := Aside0.mk hr0
 have HC0 := Aside0.mk hc0
 clear hr0 hc0
 have HR1 := Aside0.mk hr1
 have HC1 := Aside0.mk hc1
 clear hr1 hc1
 have HB := Aside0.mk (Below.refl w.heap.size w)
 have H := h
 clear h
 unfold epoch_Visible.f at H
 replace H := bd H
 obtain ⟨⟨t378, t379⟩, A4, H⟩ := H
 dsimp only at H
 have HC5 := Aside0.mk H
 clear H
 go_enter Tryz.func9, Tryz.ntmps9
 go_upto_region 4 with (first | ((with_reducible refine gate_dst (N := 6) rfl ?_); refine boxE HB 6 29 #[.int .i64 0, .slice none 0 0, .slice none 0 0, .slice none 0 0] ?_; clear HB; intro gb377 w6 BK377 GW377 hg hb HB; have GE377 := GW377; clear hb hg) | ((with_reducible refine gate_callee (f := 33) rfl ?_); refine gL 23 Tryz.func33 #[.slice A0 l0.length c0] ?_; (with_reducible refine (runs_Put.calls k _ _ l0 t378 t379 _ ?side1 ?side2 A4.out).mono ?_); (case side1 => exact cx (Kd.C_below HR0.out HB.out)); (case side2 => exact HC0.out); rintro e w7 ⟨rfl, hb⟩; refine ⟨_, rfl, ?_⟩; replace BK377 := bba BK377 hb; replace HB := bsa HB hb; clear hb))
 go_cut [34] (fun v34 wc => ∃ (kq : Nat) (x34_4 : Bool), v34 = .bool x34_4 ∧ Aside0 (epoch_Visible.j0 kq l0 l1 a2 t379 0 (wrap64 ((l0.length : Int) - 1)) x34_4 = some (r1, r2, r3, r4, r5)) ∧ Aside0 (kq ≤ k) ∧ Aside0 (wc.heap[gb377]? = some (.cells #[.int .i64 0, (.slice none 0 0), (.slice none 0 0), (.slice none 0 0)] 29 (0, 0))) ∧ Aside0 (Below w.heap.size w wc))
 case first =>
  have H := HC5.out
  clear HC5
  replace H := ifd H
  rcases H with ⟨-, c8b0, H⟩ | ⟨-, c8b0, H⟩
  ·(skip)
   have H' := Aside0.mk H
   clear H
   go_wp2
   go_meet
   case rel => exact ⟨_, ((t379 == 0)), (by rfl), H', ⟨by omega⟩, ⟨bx BK377.out⟩, ⟨bh HB.out⟩⟩
  ·(skip)
   have H' := Aside0.mk H
   clear H
   go_wp2
   go_meet
   case rel => exact ⟨_, (false), (by rfl), H', ⟨by omega⟩, ⟨bx BK377.out⟩, ⟨bh HB.out⟩⟩
 case rest =>
  clear HC5
  obtain ⟨kq, x34_4, rfl, HA, HJ4, BK377, HB⟩ := hcut
  cases kq with
  | zero => exact absurd HA.out (by simp [epoch_Visible.j0])
  | succ kj4 =>
   have H := HA.out
   clear HA
   simp only [epoch_Visible.j0] at H
   have HC9 := Aside0.mk H
   clear H
   go_upto_if 34 with (fail)
   go_cut [10] (fun v10 wc => ∃ (kq : Nat) (x10_8 : Int), v10 = .int .i64 x10_8 ∧ Aside0 (epoch_Visible.j1 kq l0 l1 a2 t379 x10_8 = some (r1, r2, r3, r4, r5)) ∧ Aside0 (kq ≤ kj4) ∧ Aside0 (wc.heap[gb377]? = some (.cells #[.int .i64 0, (.slice none 0 0), (.slice none 0 0), (.slice none 0 0)] 29 (0, 0))) ∧ Aside0 (Below w.heap.size w wc))
   case first =>
    have H := HC9.out
    clear HC9
    replace H := ifb H
    rcases H with ⟨rfl, H⟩ | ⟨rfl, H⟩
    ·obtain ⟨ji11, hji11⟩ : ∃ j_ : Int, (wrap64 ((l0.length : Int) - 1)) = j_ := ⟨_, rfl⟩
     replace H : (if 0 ≤ (ji11) then (if (ji11) < (l0.length : Int) then (epoch_Visible.j1 kj4 l0 l1 a2 t379 (wrap64 (((rd_T66 l0 (ji11)).f1) + ((rd_T66 l0 (ji11)).f2)))) else (none)) else (none)) = some (r1, r2, r3, r4, r5) := by (rw [hji11] at H; exact H)
     have hji11w : (IntKind.i64.wrap ((l0.length : Int) - 1)) = ji11 := (i64_w _).trans hji11
     replace H := ifn H
     obtain ⟨-, c12b0, H⟩ := H
     (skip)
     replace H := ifn H
     obtain ⟨-, c13b0, H⟩ := H
     have H' := Aside0.mk H
     clear H
     go_wp2
     replace BK377 := Aside0.mk (blk_drew BK377.out)
     replace HB := Aside0.mk (below_drew1 HB.out)
     have p380 : 0 ≤ ((ji11) : Int) := ad
     have q380 : (ji11) < (l0.length : Int) := ad
     obtain ⟨ad380, e380, hx380_0, hx380_1, hx380_2⟩ := at_T66 HR0.out (ji11) p380 q380
     have hw380_2 := hx380_2
     have hw380_1 := hx380_1
     have hw380_0 := hx380_0
     cases e380
     replace hx380_0 := cb HB.out.cell hx380_0
     replace hx380_1 := cb HB.out.cell hx380_1
     replace hx380_2 := cb HB.out.cell hx380_2
     replace p380 := eq_true p380
     replace q380 := eq_true q380
     have p381 : 0 ≤ ((ji11) : Int) := ad
     have q381 : (ji11) < (l0.length : Int) := ad
     obtain ⟨ad381, e381, hx381_0, hx381_1, hx381_2⟩ := at_T66 HR0.out (ji11) p381 q381
     have hw381_2 := hx381_2
     have hw381_1 := hx381_1
     have hw381_0 := hx381_0
     obtain rfl : ad380 = ad381 := (by injection e381)
     replace hx381_0 := cb HB.out.cell hx381_0
     replace hx381_1 := cb HB.out.cell hx381_1
     replace hx381_2 := cb HB.out.cell hx381_2
     replace p381 := eq_true p381
     replace q381 := eq_true q381
     refine start_ (n := 12) (S := fun w' => w'.cell? (ad380.add (((ji11)).toNat * 3)) = some (.int .i64 ((rd_T66 l0 (ji11)).f0)) ∧ w'.cell? ⟨(ad380.add (((ji11)).toNat * 3)).block, (ad380.add (((ji11)).toNat * 3)).off + 1, none⟩ = some (.int .i64 ((rd_T66 l0 (ji11)).f1)) ∧ w'.cell? ⟨(ad380.add (((ji11)).toNat * 3)).block, (ad380.add (((ji11)).toNat * 3)).off + 2, none⟩ = some (.int .i64 ((rd_T66 l0 (ji11)).f2)) ∧ w'.cell? (ad380.add (((ji11)).toNat * 3)) = some (.int .i64 ((rd_T66 l0 (ji11)).f0)) ∧ w'.cell? ⟨(ad380.add (((ji11)).toNat * 3)).block, (ad380.add (((ji11)).toNat * 3)).off + 1, none⟩ = some (.int .i64 ((rd_T66 l0 (ji11)).f1)) ∧ w'.cell? ⟨(ad380.add (((ji11)).toNat * 3)).block, (ad380.add (((ji11)).toNat * 3)).off + 2, none⟩ = some (.int .i64 ((rd_T66 l0 (ji11)).f2))) (ds := []) #[false, false, false, false, false, false, false, false, false, false, false, false] (by kernel_rfl) rfl rfl ⟨((HB.out.cell (World.block_lt_of_cell? w _ hw380_0)).trans hw380_0), ((HB.out.cell (World.block_lt_of_cell? w _ hw380_1)).trans hw380_1), ((HB.out.cell (World.block_lt_of_cell? w _ hw380_2)).trans hw380_2), ((HB.out.cell (World.block_lt_of_cell? w _ hw381_0)).trans hw381_0), ((HB.out.cell (World.block_lt_of_cell? w _ hw381_1)).trans hw381_1), ((HB.out.cell (World.block_lt_of_cell? w _ hw381_2)).trans hw381_2)⟩ (fun hHeld => ?_); refine with_tabW epoch_Visible.tab5 epoch_Visible.bits5 (fun HT_ HW_ => ?_)
     generalize wc.drew = w14 at BK377 HB hx380_0 hx380_1 hx380_2 hx381_0 hx381_1 hx381_2 hHeld ⊢
     refine puA HT_ 0 35 (bv 12 1) ?_
     refine puA HT_ 1 36 (bv 12 3) ?_
     refine puA HT_ 2 37 (bv 12 7) ?_
     refine puA HT_ 3 38 (bv 12 15) ?_
     refine puA HT_ 5 40 (bv 12 47) ?_
     refine puA HT_ 6 41 (bv 12 111) ?_
     refine puA HT_ 7 42 (bv 12 239) ?_
     refine puA HT_ 8 43 (bv 12 495) ?_
     refine taA HT_ HW_ hHeld 4 39 (bv 12 511) ?_
     refine taA HT_ HW_ hHeld 9 44 (bv 12 1023) ?_
     refine puA HT_ 10 45 (bv 12 2047) ?_
     refine puA HT_ 11 10 (bv 12 4095) ?_
     refine done_ (done_of HT_.out (by kernel_rfl)) ?_
     go_wp2
     (simp only [← hji11]; go_meet)
     case rel => exact ⟨_, (wrap64 (((rd_T66 l0 (ji11)).f1) + ((rd_T66 l0 (ji11)).f2))), (by (simp only [← hji11] <;> (fail))), (by exact H'), ⟨by have := HJ4.out; omega⟩, ⟨bx BK377.out⟩, ⟨bh HB.out⟩⟩
    ·have H' := Aside0.mk H
     clear H
     go_wp2
     go_meet
     case rel => exact ⟨_, (0), (by rfl), H', ⟨by have := HJ4.out; omega⟩, ⟨bx BK377.out⟩, ⟨bh HB.out⟩⟩
   case rest =>
    clear HC9
    obtain ⟨kq, x10_8, rfl, HA, HJ8, BK377, HB⟩ := hcut
    cases kq with
    | zero => exact absurd HA.out (by simp [epoch_Visible.j1])
    | succ kj8 =>
     have H := HA.out
     clear HA
     simp only [epoch_Visible.j1] at H
     have HC15 := Aside0.mk H
     clear H
     go_upto_region 6 with (fail)
     go_cut [57] (fun v57 wc => ∃ (kq : Nat) (x57_14 : Bool), v57 = .bool x57_14 ∧ Aside0 (epoch_Visible.j2 kq l0 l1 a2 x57_14 = some (r1, r2, r3, r4, r5)) ∧ Aside0 (kq ≤ kj8) ∧ Aside0 (wc.heap[gb377]? = some (.cells #[.int .i64 0, (.slice none 0 0), (.slice none 0 0), (.slice none 0 0)] 29 (0, 0))) ∧ Aside0 (Below w.heap.size w wc))
     case first =>
      have H := HC15.out
      clear HC15
      replace H := ife H
      rcases H with ⟨-, c16b0, c16b1, H⟩ | ⟨c16, c16b0, c16b1, H⟩
      ·(skip)
       replace H := ifd H
       rcases H with ⟨-, c17b0, H⟩ | ⟨-, c17b0, H⟩
       ·have H' := Aside0.mk H
        clear H
        go_wp2
        go_meet
        case rel => exact ⟨_, (true), (by rfl), H', ⟨by have := HJ4.out; have := HJ8.out; omega⟩, ⟨bx BK377.out⟩, ⟨bh HB.out⟩⟩
       ·replace H := bd H
        obtain ⟨t382, A18, H⟩ := H
        have H' := Aside0.mk H
        clear H
        go_wp2_with ((go_at_call 34; (with_reducible refine (epoch_good.calls kj8 _ _ l1 x10_8 t382 _ ?side1 ?side2 A18.out).mono ?_); (case side1 => exact cx (Kd.C_below HR1.out HB.out)); (case side2 => exact HC1.out); rintro e w19 ⟨rfl, hb⟩; replace BK377 := bba BK377 hb; replace HB := bsa HB hb; clear hb))
        go_meet
        case rel => exact ⟨_, (!t382), (by rfl), H', ⟨by have := HJ4.out; have := HJ8.out; omega⟩, ⟨bx BK377.out⟩, ⟨bh HB.out⟩⟩
      ·(skip)
       have H' := Aside0.mk H
       clear H
       go_wp2
       go_meet
       case rel => exact ⟨_, (true), (by rfl), H', ⟨by have := HJ4.out; have := HJ8.out; omega⟩, ⟨bx BK377.out⟩, ⟨bh HB.out⟩⟩
     case rest =>
      clear HC15
      obtain ⟨kq, x57_14, rfl, HA, HJ14, BK377, HB⟩ := hcut
      cases kq with
      | zero => exact absurd HA.out (by simp [epoch_Visible.j2])
      | succ kj14 =>
       have H := HA.out
       clear HA
       simp only [epoch_Visible.j2] at H
       replace H := ifb H
       rcases H with ⟨rfl, H⟩ | ⟨rfl, H⟩
       ·simp only [Option.some.injEq, Prod.mk.injEq] at H
        obtain ⟨rfl, rfl, rfl, rfl, rfl⟩ := H
        obtain ⟨hcz21_0, hcz21_1, hcz21_2, hcz21_3, hfz21_0, hfz21_1, hfz21_2, hfz21_3⟩ := b4 BK377
        go_wp2_with (((with_reducible refine gate_store (t := 29) (p := 6) rfl ?_); refine stE 29 6 ((((wc.setCell ⟨gb377, 0, none⟩ (.int .i64 0)).setCell ⟨gb377, 1, none⟩ (.slice none 0 0)).setCell ⟨gb377, 2, none⟩ (.slice none 0 0)).setCell ⟨gb377, 3, none⟩ (.slice none 0 0)) ?_; intro w22 hw; replace BK377 := sps #[.int .i64 0, .slice none 0 0, .slice none 0 0, .slice none 0 0] BK377 hw (.p (.p (.p (.p .nil)))); replace HB := bhw HB hw; clear hw))
        refine bodyPost_ret (results_ct rfl _ _ gb377 29 #[.int .i64 0, .slice none 0 0, .slice none 0 0, .slice none 0 0] (0, 0) _ rfl (bx BK377.out) Tryz.underlying29 rfl (by kernel_rfl)) rfl ?_
        exact ⟨_, _, _, er, nl, nl, nl, bh HB.out⟩
       ·have H' := Aside0.mk H
        clear H
        go_wp2
        go_loopg [12, 61] kj14 (fun kq v12 v61 w' => ∃ (x12_4 : List (S70)) (x61_4 : Int), v61 = .int .i64 x61_4 ∧ Aside0 (epoch_Visible.l0 kq l1 a2 x12_4 l0 (l0.length : Int) x61_4 = some (r1, r2, r3, r4, r5)) ∧ Aside0 (kq ≤ kj14) ∧ Aside0 (Kd.R k70 70 w' w.heap.size (fun _ => True) v12 x12_4) ∧ Aside0 (w'.heap[gb377]? = some (.cells #[.int .i64 0, (.slice none 0 0), (.slice none 0 0), (.slice none 0 0)] 29 (0, 0))) ∧ Aside0 (Below w.heap.size w w'))
        case atStart => exact ⟨(([] : List (S70))), (0), (by rfl), H', ⟨Nat.le_refl _⟩, ⟨nl⟩, ⟨bx BK377.out⟩, ⟨bh HB.out⟩⟩
        case round =>
         clear H'
         obtain ⟨x12_4, x61_4, rfl, HA, HK4, HO_12, BK377, HB⟩ := hrel
         cases gk with
         | zero => exact absurd HA.out (by simp [epoch_Visible.l0])
         | succ k4 =>
          have H := HA.out
          clear HA
          simp only [epoch_Visible.l0] at H
          replace H := ifd H
          rcases H with ⟨-, c23b0, H⟩ | ⟨-, c23b0, H⟩
          ·replace H := ifn H
           obtain ⟨-, c24b0, H⟩ := H
           replace H := ifn H
           obtain ⟨-, c25b0, H⟩ := H
           replace H := ifd H
           rcases H with ⟨-, c26b0, H⟩ | ⟨-, c26b0, H⟩
           ·have H' := Aside0.mk H
            clear H
            have p383 : 0 ≤ (x61_4 : Int) := ad
            have q383 : x61_4 < (l0.length : Int) := ad
            obtain ⟨ad383, e383, hx383_0, hx383_1, hx383_2⟩ := at_T66 HR0.out x61_4 p383 q383
            cases e383
            replace hx383_0 := cb HB.out.cell hx383_0
            replace hx383_1 := cb HB.out.cell hx383_1
            replace hx383_2 := cb HB.out.cell hx383_2
            replace p383 := eq_true p383
            replace q383 := eq_true q383
            go_wp2_with (first | ((with_reducible refine gate_dst (N := 14) rfl ?_); refine box_event ?hg (N := 14) ?hd (cs := #[.int .i64 0, .int .i64 0, .int .i64 0]) (t := 66) ?hr ?_; (case hd => rfl); (case hg => rfl); (case hr => (go_simp; done)); intro gb384 hg w27 hbox hb; replace HO_12 := rba HO_12 hb; have BK384 := Aside0.mk (hbox); have GW384 := bza HB hg; have GE384 := bza HB hg; replace HB := bsa HB hb; obtain ⟨NB377_384, NB384_377⟩ := bnm BK377 hg; replace BK377 := bba BK377 hb; clear hb hbox hg; have hnb28 := NB384_377.out; have hnc28 := NB377_384.out; obtain ⟨hcz29_0, hcz29_1, hcz29_2, hfz29_0, hfz29_1, hfz29_2⟩ := b3 BK384) | ((with_reducible refine gate_store (t := 66) (p := 14) rfl ?_); refine stE 66 14 (((w27.setCell ⟨gb384, 0, none⟩ (.int .i64 ((rd_T66 l0 x61_4).f0))).setCell ⟨gb384, 1, none⟩ (.int .i64 ((rd_T66 l0 x61_4).f1))).setCell ⟨gb384, 2, none⟩ (.int .i64 ((rd_T66 l0 x61_4).f2))) ?_; intro w30 hw; have n0_ := rsm (fun _ => True) HO_12 hw (fun _ hk => trivial); have n1_ : Aside0 (w30.heap[gb377]? = some (.cells #[.int .i64 0, .slice none 0 0, .slice none 0 0, .slice none 0 0] 29 (0, 0))) := ⟨(by rw [hw]; exact (bx BK377.out))⟩; have n2_ := sps #[.int .i64 ((rd_T66 l0 x61_4).f0), .int .i64 ((rd_T66 l0 x61_4).f1), .int .i64 ((rd_T66 l0 x61_4).f2)] BK384 hw (.p (.p (.p .nil))); have n3_ := bhw HB hw; clear hw HO_12 BK377 BK384 HB; have HO_12 := n0_; have BK377 := n1_; have BK384 := n2_; have HB := n3_; clear n0_ n1_ n2_ n3_; obtain ⟨Ao31, co31, eo31⟩ := Kd.R_slice HO_12.out; subst eo31; obtain ⟨hcz32_0, hcz32_1, hcz32_2, hfz32_0, hfz32_1, hfz32_2⟩ := b3 BK384))
            go_roundg k4
            case measure => have := HJ4.out; have := HJ8.out; have := HJ14.out; have := HK4.out; omega
            case rel => exact ⟨(x12_4), (wrap64 (x61_4 + 1)), (by rfl), H', ⟨by have := HJ4.out; have := HJ8.out; have := HJ14.out; have := HK4.out; omega⟩, ⟨by exact HO_12.out⟩, ⟨bx BK377.out⟩, ⟨bh HB.out⟩⟩
           ·replace H := ifd H
            rcases H with ⟨-, c33b0, H⟩ | ⟨-, c33b0, H⟩
            ·obtain ⟨ji34, hji34⟩ : ∃ j_ : Int, (wrap64 ((x12_4.length : Int) - 1)) = j_ := ⟨_, rfl⟩
             replace H : (if 0 ≤ (ji34) then (if (ji34) < (x12_4.length : Int) then (if ((rd_T70 x12_4 (ji34)).f1) = ((rd_T66 l0 x61_4).f1) then (epoch_Visible.l0 k4 l1 a2 (x12_4.set ((ji34) : Int).toNat (⟨(rd_T70 x12_4 (ji34)).f0, wrap64 (((rd_T70 x12_4 (ji34)).f1) + ((rd_T66 l0 x61_4).f2))⟩ : S70)) l0 (l0.length : Int) (wrap64 (x61_4 + 1))) else (if x12_4.length < 8796093022208 then (epoch_Visible.l0 k4 l1 a2 (x12_4 ++ [(⟨(rd_T66 l0 x61_4).f1, wrap64 (((rd_T66 l0 x61_4).f1) + ((rd_T66 l0 x61_4).f2))⟩ : S70)]) l0 (l0.length : Int) (wrap64 (x61_4 + 1))) else (none))) else (none)) else (none)) = some (r1, r2, r3, r4, r5) := by (rw [hji34] at H; exact H)
             (rw [hji34] at c33b0)
             have hji34w : (IntKind.i64.wrap ((x12_4.length : Int) - 1)) = ji34 := (i64_w _).trans hji34
             replace H := ifn H
             obtain ⟨-, c35b0, H⟩ := H
             replace H := ifn H
             obtain ⟨-, c36b0, H⟩ := H
             replace H := ife H
             rcases H with ⟨-, c37b0, c37b1, H⟩ | ⟨c37, c37b0, c37b1, H⟩
             ·obtain ⟨y387, hy387⟩ : ∃ y_ : List (S70), y_ = (x12_4.set ((ji34) : Int).toNat (⟨(rd_T70 x12_4 (ji34)).f0, wrap64 (((rd_T70 x12_4 (ji34)).f1) + ((rd_T66 l0 x61_4).f2))⟩ : S70)) := ⟨_, rfl⟩
              replace H : (epoch_Visible.l0 k4 l1 a2 y387 l0 (l0.length : Int) (wrap64 (x61_4 + 1))) = some (r1, r2, r3, r4, r5) := by (rw [hy387]; with_reducible exact H)
              have Ny387 := Aside0.mk hy387
              clear hy387
              have H' := Aside0.mk H
              clear H
              have p383 : 0 ≤ (x61_4 : Int) := ad
              have q383 : x61_4 < (l0.length : Int) := ad
              obtain ⟨ad383, e383, hx383_0, hx383_1, hx383_2⟩ := at_T66 HR0.out x61_4 p383 q383
              cases e383
              replace hx383_0 := cb HB.out.cell hx383_0
              replace hx383_1 := cb HB.out.cell hx383_1
              replace hx383_2 := cb HB.out.cell hx383_2
              replace p383 := eq_true p383
              replace q383 := eq_true q383
              go_wp2_with (first | ((with_reducible refine gate_dst (N := 14) rfl ?_); refine box_event ?hg (N := 14) ?hd (cs := #[.int .i64 0, .int .i64 0, .int .i64 0]) (t := 66) ?hr ?_; (case hd => rfl); (case hg => rfl); (case hr => (go_simp; done)); intro gb384 hg w39 hbox hb; replace HO_12 := rba HO_12 hb; have BK384 := Aside0.mk (hbox); have GW384 := bza HB hg; have GE384 := bza HB hg; replace HB := bsa HB hb; obtain ⟨NB377_384, NB384_377⟩ := bnm BK377 hg; replace BK377 := bba BK377 hb; clear hb hbox hg; have hnb40 := NB384_377.out; have hnc40 := NB377_384.out; obtain ⟨hcz41_0, hcz41_1, hcz41_2, hfz41_0, hfz41_1, hfz41_2⟩ := b3 BK384) | ((with_reducible refine gate_store (t := 66) (p := 14) rfl ?_); refine stE 66 14 (((w39.setCell ⟨gb384, 0, none⟩ (.int .i64 ((rd_T66 l0 x61_4).f0))).setCell ⟨gb384, 1, none⟩ (.int .i64 ((rd_T66 l0 x61_4).f1))).setCell ⟨gb384, 2, none⟩ (.int .i64 ((rd_T66 l0 x61_4).f2))) ?_; intro w42 hw; have n0_ := rsm (fun _ => True) HO_12 hw (fun _ hk => trivial); have n1_ : Aside0 (w42.heap[gb377]? = some (.cells #[.int .i64 0, .slice none 0 0, .slice none 0 0, .slice none 0 0] 29 (0, 0))) := ⟨(by rw [hw]; exact (bx BK377.out))⟩; have n2_ := sps #[.int .i64 ((rd_T66 l0 x61_4).f0), .int .i64 ((rd_T66 l0 x61_4).f1), .int .i64 ((rd_T66 l0 x61_4).f2)] BK384 hw (.p (.p (.p .nil))); have n3_ := bhw HB hw; clear hw HO_12 BK377 BK384 HB; have HO_12 := n0_; have BK377 := n1_; have BK384 := n2_; have HB := n3_; clear n0_ n1_ n2_ n3_; obtain ⟨Ao43, co43, eo43⟩ := Kd.R_slice HO_12.out; subst eo43; obtain ⟨hcz44_0, hcz44_1, hcz44_2, hfz44_0, hfz44_1, hfz44_2⟩ := b3 BK384))
              replace HO_12 := Aside0.mk (Kd.R_drew HO_12.out)
              replace BK377 := Aside0.mk (blk_drew BK377.out)
              replace BK384 := Aside0.mk (blk_drew BK384.out)
              replace HB := Aside0.mk (below_drew1 HB.out)
              have p385 : 0 ≤ ((ji34) : Int) := ad
              have q385 : (ji34) < (x12_4.length : Int) := ad
              obtain ⟨ad385, e385, hx385_0, hx385_1⟩ := at_T70 (Kd.R_reads' HO_12.out).2.2 (ji34) p385 q385
              cases e385
              replace p385 := eq_true p385
              replace q385 := eq_true q385
              refine start_ (n := 13) (S := fun w' => w'.cell? ⟨gb384, 0, none⟩ = some (.int .i64 ((rd_T66 l0 x61_4).f0)) ∧ w'.cell? ⟨gb384, 1, none⟩ = some (.int .i64 ((rd_T66 l0 x61_4).f1)) ∧ w'.cell? ⟨gb384, 2, none⟩ = some (.int .i64 ((rd_T66 l0 x61_4).f2)) ∧ w'.cell? (ad385.add (((ji34)).toNat * 2)) = some (.int .i64 ((rd_T70 x12_4 (ji34)).f0)) ∧ w'.cell? ⟨(ad385.add (((ji34)).toNat * 2)).block, (ad385.add (((ji34)).toNat * 2)).off + 1, none⟩ = some (.int .i64 ((rd_T70 x12_4 (ji34)).f1))) (ds := []) #[false, false, false, false, false, false, false, false, false, false, false, false, false] (by kernel_rfl) rfl rfl ⟨(blk_cell BK384.out 0).trans rfl, (blk_cell BK384.out 1).trans rfl, (blk_cell BK384.out 2).trans rfl, hx385_0, hx385_1⟩ (fun hHeld => ?_); refine with_tabW epoch_Visible.tab15 epoch_Visible.bits15 (fun HT_ HW_ => ?_)
              generalize w42.drew = w45 at HO_12 BK377 BK384 HB hx385_0 hx385_1 hHeld ⊢
              refine puA HT_ 0 85 (bv 13 1) ?_
              refine puA HT_ 1 86 (bv 13 3) ?_
              refine puA HT_ 2 87 (bv 13 7) ?_
              refine puA HT_ 3 88 (bv 13 15) ?_
              refine puA HT_ 4 89 (bv 13 31) ?_
              refine puA HT_ 5 90 (bv 13 63) ?_
              refine puA HT_ 6 91 (bv 13 127) ?_
              refine puA HT_ 8 93 (bv 13 383) ?_
              refine taA HT_ HW_ hHeld 7 92 (bv 13 511) ?_
              refine taA HT_ HW_ hHeld 9 94 (bv 13 1023) ?_
              refine puA HT_ 10 95 (bv 13 2047) ?_
              refine puA HT_ 11 96 (bv 13 4095) ?_
              refine puA HT_ 12 84 (bv 13 8191) ?_
              refine done_ (done_of HT_.out (by kernel_rfl)) ?_
              go_wp2
              replace HO_12 := Aside0.mk (Kd.R_drew HO_12.out)
              replace BK377 := Aside0.mk (blk_drew BK377.out)
              replace BK384 := Aside0.mk (blk_drew BK384.out)
              replace HB := Aside0.mk (below_drew1 HB.out)
              have p386 : 0 ≤ ((ji34) : Int) := ad
              have q386 : (ji34) < (x12_4.length : Int) := ad
              obtain ⟨ad386, e386, hx386_0, hx386_1⟩ := at_T70 (Kd.R_reads' HO_12.out).2.2 (ji34) p386 q386
              obtain rfl : ad385 = ad386 := (by injection e386)
              replace p386 := eq_true p386
              replace q386 := eq_true q386
              have p38 : 0 ≤ ((ji34) : Int) := ad
              have q38 : ((ji34) : Int) < ((x12_4.length : Int) : Int) := ad
              obtain ⟨go38, co38, eo38, gb38, gl38, cl38, HG38⟩ := Kd.R_form HO_12.out (by omega)
              (cases eo38)
              have GB38 := Aside0.mk gb38
              have GG38 := Aside0.mk HG38
              clear gb38 gl38 HG38
              (simp only [add_plain] at hx385_0)
              (simp only [add_plain] at hx385_1)
              (simp only [add_plain] at hx386_0)
              (simp only [add_plain] at hx386_1)
              obtain ⟨ce38, hcl38, hM38, hcc38, hfr38⟩ := Kd.R_elem HO_12.out z70 ((ji34) : Int) p38 q38
              obtain rfl := k70_openM hM38
              have hx38_0 : World.cell? _ ⟨go38, ((ji34) : Int).toNat * 2, none⟩ = some (.int .i64 ((rd_T70 x12_4 (ji34)).f0)) := hcc38 0 _ rfl
              have hx38_1 : World.cell? _ ⟨go38, ((ji34) : Int).toNat * 2 + 1, none⟩ = some (.int .i64 ((rd_T70 x12_4 (ji34)).f1)) := hcc38 1 _ rfl
              have hf38_0 : World.frozen? _ ⟨go38, ((ji34) : Int).toNat * 2, none⟩ = false := hfr38 0
              have hf38_1 : World.frozen? _ ⟨go38, ((ji34) : Int).toNat * 2 + 1, none⟩ = false := hfr38 1
              clear hcl38 hcc38 hfr38 hM38
              replace p38 := eq_true p38
              replace q38 := eq_true q38
              obtain ⟨ce47, hcl47, hM47, hcc47, hfr47⟩ := Kd.R_elem HO_12.out z70 ((ji34) : Int) (of_decide_eq_true (by assumption)) (by have h_ : ((ji34) : Int) < ((x12_4.length : Int) : Int) := of_decide_eq_true (by assumption); exact h_)
              obtain rfl := k70_openM hM47
              have HP47 := (Kd.R_seg HO_12.out ((ji34) : Int) (of_decide_eq_true (by assumption)) (by have h_ : ((ji34) : Int) < ((x12_4.length : Int) : Int) := of_decide_eq_true (by assumption); exact h_) (seg := [.int .i64 (wrap64 (((rd_T70 x12_4 (ji34)).f1) + ((rd_T66 l0 x61_4).f2)))]) (j := 1) hcl47 hcc47 (show 2 ≤ 2 from by decide) (x' := (⟨(rd_T70 x12_4 (ji34)).f0, wrap64 (((rd_T70 x12_4 (ji34)).f1) + ((rd_T66 l0 x61_4).f2))⟩ : S70)) (k70_mkM _ _ _ (⟨(rd_T70 x12_4 (ji34)).f0, wrap64 (((rd_T70 x12_4 (ji34)).f1) + ((rd_T66 l0 x61_4).f2))⟩ : S70) ) (fun _ hk => hk)).1
              rw [← Ny387.out] at HP47
              have HQ47 := Aside0.mk HP47
              clear hcl47 hcc47 hfr47 hM47 HP47
              refine start_ (n := 11) (S := fun w' => w'.cell? ⟨gb384, 0, none⟩ = some (.int .i64 ((rd_T66 l0 x61_4).f0)) ∧ w'.cell? ⟨gb384, 1, none⟩ = some (.int .i64 ((rd_T66 l0 x61_4).f1)) ∧ w'.cell? ⟨gb384, 2, none⟩ = some (.int .i64 ((rd_T66 l0 x61_4).f2)) ∧ w'.cell? ⟨go38, ((ji34)).toNat * 2, none⟩ = some (.int .i64 ((rd_T70 x12_4 (ji34)).f0)) ∧ w'.cell? ⟨go38, ((ji34)).toNat * 2 + 1, none⟩ = some (.int .i64 ((rd_T70 x12_4 (ji34)).f1))) (ds := [10]) #[false, false, false, false, false, false, false, false, false, false, false] (by kernel_rfl) rfl rfl ⟨(blk_cell BK384.out 0).trans rfl, (blk_cell BK384.out 1).trans rfl, (blk_cell BK384.out 2).trans rfl, hx386_0, hx386_1⟩ (fun hHeld => ?_); refine with_tabW epoch_Visible.tab16 epoch_Visible.bits16 (fun HT_ HW_ => ?_)
              generalize w45.drew = w46 at HO_12 BK377 BK384 HB GG38 HQ47 hf38_0 hf38_1 hx385_0 hx385_1 hx386_0 hx386_1 hx38_0 hx38_1 hHeld ⊢
              refine puA HT_ 0 97 (bv 11 1) ?_
              refine puA HT_ 1 98 (bv 11 3) ?_
              refine puA HT_ 2 99 (bv 11 7) ?_
              refine puA HT_ 3 100 (bv 11 15) ?_
              refine puA HT_ 5 102 (bv 11 47) ?_
              refine taA HT_ HW_ hHeld 4 101 (bv 11 63) ?_
              refine taA HT_ HW_ hHeld 6 103 (bv 11 127) ?_
              refine puA HT_ 7 104 (bv 11 255) ?_
              refine puA HT_ 8 105 (bv 11 511) ?_
              refine puA HT_ 9 106 (bv 11 1023) ?_
              refine last_ (i := 10) (N := none) #[true, true, true, true, true, true, true, true, true, true, true] rfl rfl (one_of HT_.out (by kernel_rfl)) (by decide) (fun K hK => ?_)
              refine skip_ (w1 := ?_) (by rfl) rfl ?_ ?_
              rotate_left
              ·go_simp
               rfl
              refine hK.out _ _ ?_
              clear hK K
              refine done_ (done_of HT_.out (by kernel_rfl)) ?_
              go_wp2
              go_roundg k4
              case measure => have := HJ4.out; have := HJ8.out; have := HJ14.out; have := HK4.out; omega
              case rel => exact ⟨(y387), (wrap64 (x61_4 + 1)), (by rfl), (by exact H'), ⟨by have := HJ4.out; have := HJ8.out; have := HJ14.out; have := HK4.out; omega⟩, ⟨by exact HQ47.out⟩, ⟨by refine blk_far ?_ (by have h_ := Kd.R_ne HO_12.out BK377.out (by decide); intro e_; exact h_ (by rw [e_]; rfl)) _; exact BK377.out⟩, ⟨by repeat ((with_reducible first | exact HB.out | refine below_set ?_ GB38.out))⟩⟩
             ·replace H := ifn H
              obtain ⟨c48, -, H⟩ := H
              have LMc48 := Aside0.mk c48
              clear c48
              obtain ⟨y388, hy388⟩ : ∃ y_ : List (S70), y_ = (x12_4 ++ [(⟨(rd_T66 l0 x61_4).f1, wrap64 (((rd_T66 l0 x61_4).f1) + ((rd_T66 l0 x61_4).f2))⟩ : S70)]) := ⟨_, rfl⟩
              replace H : (epoch_Visible.l0 k4 l1 a2 y388 l0 (l0.length : Int) (wrap64 (x61_4 + 1))) = some (r1, r2, r3, r4, r5) := by (rw [hy388]; with_reducible exact H)
              have Ny388 := Aside0.mk hy388
              clear hy388
              have H' := Aside0.mk H
              clear H
              have p383 : 0 ≤ (x61_4 : Int) := ad
              have q383 : x61_4 < (l0.length : Int) := ad
              obtain ⟨ad383, e383, hx383_0, hx383_1, hx383_2⟩ := at_T66 HR0.out x61_4 p383 q383
              cases e383
              replace hx383_0 := cb HB.out.cell hx383_0
              replace hx383_1 := cb HB.out.cell hx383_1
              replace hx383_2 := cb HB.out.cell hx383_2
              replace p383 := eq_true p383
              replace q383 := eq_true q383
              go_wp2_with (first | ((with_reducible refine gate_dst (N := 14) rfl ?_); refine box_event ?hg (N := 14) ?hd (cs := #[.int .i64 0, .int .i64 0, .int .i64 0]) (t := 66) ?hr ?_; (case hd => rfl); (case hg => rfl); (case hr => (go_simp; done)); intro gb384 hg w49 hbox hb; replace HO_12 := rba HO_12 hb; have BK384 := Aside0.mk (hbox); have GW384 := bza HB hg; have GE384 := bza HB hg; replace HB := bsa HB hb; obtain ⟨NB377_384, NB384_377⟩ := bnm BK377 hg; replace BK377 := bba BK377 hb; clear hb hbox hg; have hnb50 := NB384_377.out; have hnc50 := NB377_384.out; obtain ⟨hcz51_0, hcz51_1, hcz51_2, hfz51_0, hfz51_1, hfz51_2⟩ := b3 BK384) | ((with_reducible refine gate_store (t := 66) (p := 14) rfl ?_); refine stE 66 14 (((w49.setCell ⟨gb384, 0, none⟩ (.int .i64 ((rd_T66 l0 x61_4).f0))).setCell ⟨gb384, 1, none⟩ (.int .i64 ((rd_T66 l0 x61_4).f1))).setCell ⟨gb384, 2, none⟩ (.int .i64 ((rd_T66 l0 x61_4).f2))) ?_; intro w52 hw; have n0_ := rsm (fun _ => True) HO_12 hw (fun _ hk => trivial); have n1_ : Aside0 (w52.heap[gb377]? = some (.cells #[.int .i64 0, .slice none 0 0, .slice none 0 0, .slice none 0 0] 29 (0, 0))) := ⟨(by rw [hw]; exact (bx BK377.out))⟩; have n2_ := sps #[.int .i64 ((rd_T66 l0 x61_4).f0), .int .i64 ((rd_T66 l0 x61_4).f1), .int .i64 ((rd_T66 l0 x61_4).f2)] BK384 hw (.p (.p (.p .nil))); have n3_ := bhw HB hw; clear hw HO_12 BK377 BK384 HB; have HO_12 := n0_; have BK377 := n1_; have BK384 := n2_; have HB := n3_; clear n0_ n1_ n2_ n3_; obtain ⟨Ao53, co53, eo53⟩ := Kd.R_slice HO_12.out; subst eo53; obtain ⟨hcz54_0, hcz54_1, hcz54_2, hfz54_0, hfz54_1, hfz54_2⟩ := b3 BK384))
              replace HO_12 := Aside0.mk (Kd.R_drew HO_12.out)
              replace BK377 := Aside0.mk (blk_drew BK377.out)
              replace BK384 := Aside0.mk (blk_drew BK384.out)
              replace HB := Aside0.mk (below_drew1 HB.out)
              have p385 : 0 ≤ ((ji34) : Int) := ad
              have q385 : (ji34) < (x12_4.length : Int) := ad
              obtain ⟨ad385, e385, hx385_0, hx385_1⟩ := at_T70 (Kd.R_reads' HO_12.out).2.2 (ji34) p385 q385
              cases e385
              replace p385 := eq_true p385
              replace q385 := eq_true q385
              refine start_ (n := 13) (S := fun w' => w'.cell? ⟨gb384, 0, none⟩ = some (.int .i64 ((rd_T66 l0 x61_4).f0)) ∧ w'.cell? ⟨gb384, 1, none⟩ = some (.int .i64 ((rd_T66 l0 x61_4).f1)) ∧ w'.cell? ⟨gb384, 2, none⟩ = some (.int .i64 ((rd_T66 l0 x61_4).f2)) ∧ w'.cell? (ad385.add (((ji34)).toNat * 2)) = some (.int .i64 ((rd_T70 x12_4 (ji34)).f0)) ∧ w'.cell? ⟨(ad385.add (((ji34)).toNat * 2)).block, (ad385.add (((ji34)).toNat * 2)).off + 1, none⟩ = some (.int .i64 ((rd_T70 x12_4 (ji34)).f1))) (ds := []) #[false, false, false, false, false, false, false, false, false, false, false, false, false] (by kernel_rfl) rfl rfl ⟨(blk_cell BK384.out 0).trans rfl, (blk_cell BK384.out 1).trans rfl, (blk_cell BK384.out 2).trans rfl, hx385_0, hx385_1⟩ (fun hHeld => ?_); refine with_tabW epoch_Visible.tab15 epoch_Visible.bits15 (fun HT_ HW_ => ?_)
              generalize w52.drew = w55 at HO_12 BK377 BK384 HB hx385_0 hx385_1 hHeld ⊢
              refine puA HT_ 0 85 (bv 13 1) ?_
              refine puA HT_ 1 86 (bv 13 3) ?_
              refine puA HT_ 2 87 (bv 13 7) ?_
              refine puA HT_ 3 88 (bv 13 15) ?_
              refine puA HT_ 4 89 (bv 13 31) ?_
              refine puA HT_ 5 90 (bv 13 63) ?_
              refine puA HT_ 6 91 (bv 13 127) ?_
              refine puA HT_ 8 93 (bv 13 383) ?_
              refine taA HT_ HW_ hHeld 7 92 (bv 13 511) ?_
              refine taA HT_ HW_ hHeld 9 94 (bv 13 1023) ?_
              refine puA HT_ 10 95 (bv 13 2047) ?_
              refine puA HT_ 11 96 (bv 13 4095) ?_
              refine puA HT_ 12 84 (bv 13 8191) ?_
              refine done_ (done_of HT_.out (by kernel_rfl)) ?_
              obtain ⟨hcz56_0, hcz56_1, hcz56_2, hfz56_0, hfz56_1, hfz56_2⟩ := b3 BK384
              go_wp2_with (((with_reducible refine gate_builtin (b := .append) (xs := #[.tmp 68, .tmp 77]) rfl ?_); at_builtin; refine Kd.R_append k70 (w0 := w) w.heap.size rfl (.tmp 68) (.tmp 77) 26 70 (.agg #[(.int .i64 0), (.int .i64 0)]) 16 rfl Tryz.underlying26 info70 rfl (by decide) (by omega) (.slice (some ad385) x12_4.length co53) x12_4 (⟨(rd_T66 l0 x61_4).f1, wrap64 (((rd_T66 l0 x61_4).f1) + ((rd_T66 l0 x61_4).f2))⟩ : S70) [.int .i64 ((rd_T66 l0 x61_4).f1), .int .i64 (wrap64 (((rd_T66 l0 x61_4).f1) + ((rd_T66 l0 x61_4).f2)))] (fun _ => True) (fun _ => False) rfl rfl ?aP (fun _ hk => hk.elim) ?aF ?aO ?aB ?aS ?aL ?_; (case aP => exact k70_mkM _ _ _ (⟨(rd_T66 l0 x61_4).f1, wrap64 (((rd_T66 l0 x61_4).f1) + ((rd_T66 l0 x61_4).f2))⟩ : S70)); (case aB => exact (bh HB.out)); (case aF => exact (fun _ _ => trivial)); (case aO => exact (rx HO_12.out)); (case aS => exact (below_size (bh HB.out))); (case aL => have := LMc48.out; omega); intro v389 w57 ho hb hg hat; rw [← Ny388.out] at ho; have n0_ := Aside0.mk (blk_grown (g := gb377) (o := .cells #[.int .i64 0, .slice none 0 0, .slice none 0 0, .slice none 0 0] 29 (0, 0)) (bx BK377.out) hg (Kd.R_ne HO_12.out BK377.out (by decide))); have n1_ := Aside0.mk (blk_grown (g := gb384) (o := .cells #[.int .i64 ((rd_T66 l0 x61_4).f0), .int .i64 ((rd_T66 l0 x61_4).f1), .int .i64 ((rd_T66 l0 x61_4).f2)] 66 (0, 0)) (bx BK384.out) hg (Kd.R_ne HO_12.out BK384.out (by decide))); have n2_ := Aside0.mk (hb); have n3_ := Aside0.mk (ho); clear BK377 BK384 HB HO_12; have BK377 := n0_; have BK384 := n1_; have HB := n2_; have HO390 := n3_; clear n0_ n1_ n2_ n3_ ho hb hg hat))
              go_roundg k4
              case measure => have := HJ4.out; have := HJ8.out; have := HJ14.out; have := HK4.out; omega
              case rel => exact ⟨(y388), (wrap64 (x61_4 + 1)), (by rfl), (by exact H'), ⟨by have := HJ4.out; have := HJ8.out; have := HJ14.out; have := HK4.out; omega⟩, ⟨by exact HO390.out⟩, ⟨bx BK377.out⟩, ⟨bh HB.out⟩⟩
            ·replace H := ifn H
             obtain ⟨c58, -, H⟩ := H
             have LMc58 := Aside0.mk c58
             clear c58
             obtain ⟨y391, hy391⟩ : ∃ y_ : List (S70), y_ = (x12_4 ++ [(⟨(rd_T66 l0 x61_4).f1, wrap64 (((rd_T66 l0 x61_4).f1) + ((rd_T66 l0 x61_4).f2))⟩ : S70)]) := ⟨_, rfl⟩
             replace H : (epoch_Visible.l0 k4 l1 a2 y391 l0 (l0.length : Int) (wrap64 (x61_4 + 1))) = some (r1, r2, r3, r4, r5) := by (rw [hy391]; with_reducible exact H)
             have Ny391 := Aside0.mk hy391
             clear hy391
             have H' := Aside0.mk H
             clear H
             have p383 : 0 ≤ (x61_4 : Int) := ad
             have q383 : x61_4 < (l0.length : Int) := ad
             obtain ⟨ad383, e383, hx383_0, hx383_1, hx383_2⟩ := at_T66 HR0.out x61_4 p383 q383
             cases e383
             replace hx383_0 := cb HB.out.cell hx383_0
             replace hx383_1 := cb HB.out.cell hx383_1
             replace hx383_2 := cb HB.out.cell hx383_2
             replace p383 := eq_true p383
             replace q383 := eq_true q383
             go_wp2_with (first | ((with_reducible refine gate_dst (N := 14) rfl ?_); refine box_event ?hg (N := 14) ?hd (cs := #[.int .i64 0, .int .i64 0, .int .i64 0]) (t := 66) ?hr ?_; (case hd => rfl); (case hg => rfl); (case hr => (go_simp; done)); intro gb384 hg w59 hbox hb; replace HO_12 := rba HO_12 hb; have BK384 := Aside0.mk (hbox); have GW384 := bza HB hg; have GE384 := bza HB hg; replace HB := bsa HB hb; obtain ⟨NB377_384, NB384_377⟩ := bnm BK377 hg; replace BK377 := bba BK377 hb; clear hb hbox hg; have hnb60 := NB384_377.out; have hnc60 := NB377_384.out; obtain ⟨hcz61_0, hcz61_1, hcz61_2, hfz61_0, hfz61_1, hfz61_2⟩ := b3 BK384) | ((with_reducible refine gate_store (t := 66) (p := 14) rfl ?_); refine stE 66 14 (((w59.setCell ⟨gb384, 0, none⟩ (.int .i64 ((rd_T66 l0 x61_4).f0))).setCell ⟨gb384, 1, none⟩ (.int .i64 ((rd_T66 l0 x61_4).f1))).setCell ⟨gb384, 2, none⟩ (.int .i64 ((rd_T66 l0 x61_4).f2))) ?_; intro w62 hw; have n0_ := rsm (fun _ => True) HO_12 hw (fun _ hk => trivial); have n1_ : Aside0 (w62.heap[gb377]? = some (.cells #[.int .i64 0, .slice none 0 0, .slice none 0 0, .slice none 0 0] 29 (0, 0))) := ⟨(by rw [hw]; exact (bx BK377.out))⟩; have n2_ := sps #[.int .i64 ((rd_T66 l0 x61_4).f0), .int .i64 ((rd_T66 l0 x61_4).f1), .int .i64 ((rd_T66 l0 x61_4).f2)] BK384 hw (.p (.p (.p .nil))); have n3_ := bhw HB hw; clear hw HO_12 BK377 BK384 HB; have HO_12 := n0_; have BK377 := n1_; have BK384 := n2_; have HB := n3_; clear n0_ n1_ n2_ n3_; obtain ⟨Ao63, co63, eo63⟩ := Kd.R_slice HO_12.out; subst eo63; obtain ⟨hcz64_0, hcz64_1, hcz64_2, hfz64_0, hfz64_1, hfz64_2⟩ := b3 BK384))
             replace HO_12 := Aside0.mk (Kd.R_drew HO_12.out)
             replace BK377 := Aside0.mk (blk_drew BK377.out)
             replace BK384 := Aside0.mk (blk_drew BK384.out)
             replace HB := Aside0.mk (below_drew1 HB.out)
             refine start_ (n := 13) (S := fun w' => True) (ds := []) #[false, false, false, false, false, false, false, false, false, false, false, false, false] (by kernel_rfl) rfl rfl trivial (fun hHeld => ?_); refine with_tabW epoch_Visible.tab15 epoch_Visible.bits15 (fun HT_ HW_ => ?_)
             generalize w62.drew = w65 at HO_12 BK377 BK384 HB hHeld ⊢
             refine puA HT_ 0 85 (bv 13 1) ?_
             refine puA HT_ 1 86 (bv 13 3) ?_
             refine puA HT_ 2 87 (bv 13 7) ?_
             refine puU HT_ 3 88 (bv 13 15) ?_
             refine puU HT_ 4 89 (bv 13 31) ?_
             refine puU HT_ 5 90 (bv 13 63) ?_
             refine puU HT_ 6 91 (bv 13 127) ?_
             refine puU HT_ 7 92 (bv 13 255) ?_
             refine puU HT_ 8 93 (bv 13 511) ?_
             refine puU HT_ 9 94 (bv 13 1023) ?_
             refine puU HT_ 10 95 (bv 13 2047) ?_
             refine puA HT_ 11 96 (bv 13 4095) ?_
             refine puA HT_ 12 84 (bv 13 8191) ?_
             refine done_ (done_of HT_.out (by kernel_rfl)) ?_
             obtain ⟨hcz66_0, hcz66_1, hcz66_2, hfz66_0, hfz66_1, hfz66_2⟩ := b3 BK384
             go_wp2_with (((with_reducible refine gate_builtin (b := .append) (xs := #[.tmp 68, .tmp 77]) rfl ?_); at_builtin; refine Kd.R_append k70 (w0 := w) w.heap.size rfl (.tmp 68) (.tmp 77) 26 70 (.agg #[(.int .i64 0), (.int .i64 0)]) 16 rfl Tryz.underlying26 info70 rfl (by decide) (by omega) (.slice Ao63 x12_4.length co63) x12_4 (⟨(rd_T66 l0 x61_4).f1, wrap64 (((rd_T66 l0 x61_4).f1) + ((rd_T66 l0 x61_4).f2))⟩ : S70) [.int .i64 ((rd_T66 l0 x61_4).f1), .int .i64 (wrap64 (((rd_T66 l0 x61_4).f1) + ((rd_T66 l0 x61_4).f2)))] (fun _ => True) (fun _ => False) rfl rfl ?aP (fun _ hk => hk.elim) ?aF ?aO ?aB ?aS ?aL ?_; (case aP => exact k70_mkM _ _ _ (⟨(rd_T66 l0 x61_4).f1, wrap64 (((rd_T66 l0 x61_4).f1) + ((rd_T66 l0 x61_4).f2))⟩ : S70)); (case aB => exact (bh HB.out)); (case aF => exact (fun _ _ => trivial)); (case aO => exact (rx HO_12.out)); (case aS => exact (below_size (bh HB.out))); (case aL => have := LMc58.out; omega); intro v392 w67 ho hb hg hat; rw [← Ny391.out] at ho; have n0_ := Aside0.mk (blk_grown (g := gb377) (o := .cells #[.int .i64 0, .slice none 0 0, .slice none 0 0, .slice none 0 0] 29 (0, 0)) (bx BK377.out) hg (Kd.R_ne HO_12.out BK377.out (by decide))); have n1_ := Aside0.mk (blk_grown (g := gb384) (o := .cells #[.int .i64 ((rd_T66 l0 x61_4).f0), .int .i64 ((rd_T66 l0 x61_4).f1), .int .i64 ((rd_T66 l0 x61_4).f2)] 66 (0, 0)) (bx BK384.out) hg (Kd.R_ne HO_12.out BK384.out (by decide))); have n2_ := Aside0.mk (hb); have n3_ := Aside0.mk (ho); clear BK377 BK384 HB HO_12; have BK377 := n0_; have BK384 := n1_; have HB := n2_; have HO393 := n3_; clear n0_ n1_ n2_ n3_ ho hb hg hat))
             go_roundg k4
             case measure => have := HJ4.out; have := HJ8.out; have := HJ14.out; have := HK4.out; omega
             case rel => exact ⟨(y391), (wrap64 (x61_4 + 1)), (by rfl), H', ⟨by have := HJ4.out; have := HJ8.out; have := HJ14.out; have := HK4.out; omega⟩, ⟨by exact HO393.out⟩, ⟨bx BK377.out⟩, ⟨bh HB.out⟩⟩
          ·have H' := Aside0.mk H
           clear H
           go_wp2
           go_loopg [16, 110] k4 (fun kq v16 v110 w' => ∃ (x16_5 : List Int) (x110_5 : Int), v110 = .int .i64 x110_5 ∧ Aside0 (epoch_Visible.l1 kq a2 x12_4 x16_5 l1 (l1.length : Int) x110_5 = some (r1, r2, r3, r4, r5)) ∧ Aside0 (kq ≤ k4) ∧ Aside0 (Kd.R k70 70 w' w.heap.size (fun _ => True) u12 x12_4) ∧ Aside0 (Kd.R (Kd.int .i64) 3 w' w.heap.size (fun _ => True) v16 x16_5) ∧ Aside0 (w'.heap[gb377]? = some (.cells #[.int .i64 0, (.slice none 0 0), (.slice none 0 0), (.slice none 0 0)] 29 (0, 0))) ∧ Aside0 (Below w.heap.size w w'))
           case atStart => exact ⟨(([] : List Int)), (0), (by rfl), H', ⟨Nat.le_refl _⟩, ⟨by exact HO_12.out⟩, ⟨nl⟩, ⟨bx BK377.out⟩, ⟨bh HB.out⟩⟩
           case round =>
            clear H' c23b0
            obtain ⟨x16_5, x110_5, rfl, HA, HK5, HO_12, HO_16, BK377, HB⟩ := hrel
            cases gk with
            | zero => exact absurd HA.out (by simp [epoch_Visible.l1])
            | succ k5 =>
             have H := HA.out
             clear HA
             simp only [epoch_Visible.l1] at H
             replace H := ifd H
             rcases H with ⟨-, c68b0, H⟩ | ⟨-, c68b0, H⟩
             ·replace H := ifn H
              obtain ⟨-, c69b0, H⟩ := H
              replace H := ifn H
              obtain ⟨-, c70b0, H⟩ := H
              replace H := ifd H
              rcases H with ⟨-, c71b0, H⟩ | ⟨-, c71b0, H⟩
              ·replace H := ifn H
               obtain ⟨c72, -, H⟩ := H
               have LMc72 := Aside0.mk c72
               clear c72
               obtain ⟨y396, hy396⟩ : ∃ y_ : List Int, y_ = (x16_5 ++ [(rd_T68 l1 x110_5).f0]) := ⟨_, rfl⟩
               replace H : (epoch_Visible.l1 k5 a2 x12_4 y396 l1 (l1.length : Int) (wrap64 (x110_5 + 1))) = some (r1, r2, r3, r4, r5) := by (rw [hy396]; with_reducible exact H)
               have Ny396 := Aside0.mk hy396
               clear hy396
               have H' := Aside0.mk H
               clear H
               have p394 : 0 ≤ (x110_5 : Int) := ad
               have q394 : x110_5 < (l1.length : Int) := ad
               obtain ⟨ad394, e394, hx394_0, hx394_1⟩ := at_T68 HR1.out x110_5 p394 q394
               cases e394
               replace hx394_0 := cb HB.out.cell hx394_0
               replace hx394_1 := cb HB.out.cell hx394_1
               replace p394 := eq_true p394
               replace q394 := eq_true q394
               go_wp2_with (first | ((with_reducible refine gate_dst (N := 18) rfl ?_); refine box_event ?hg (N := 18) ?hd (cs := #[.int .i64 0, .int .i64 0]) (t := 68) ?hr ?_; (case hd => rfl); (case hg => rfl); (case hr => (go_simp; done)); intro gb395 hg w73 hbox hb; replace HO_12 := rba HO_12 hb; replace HO_16 := rba HO_16 hb; have BK395 := Aside0.mk (hbox); have GW395 := bza HB hg; have GE395 := bza HB hg; replace HB := bsa HB hb; obtain ⟨NB377_395, NB395_377⟩ := bnm BK377 hg; replace BK377 := bba BK377 hb; clear hb hbox hg; have hnb74 := NB395_377.out; have hnc74 := NB377_395.out; obtain ⟨hcz75_0, hcz75_1, hfz75_0, hfz75_1⟩ := b2 BK395) | ((with_reducible refine gate_builtin (b := .append) (xs := #[.tmp 118, .tmp 121]) rfl ?_); at_builtin; refine Kd.R_append (Kd.int .i64) (w0 := w) w.heap.size rfl (.tmp 118) (.tmp 121) 27 3 (.int .i64 0) 8 rfl Tryz.underlying27 info3 rfl (by decide) (by omega) u16 x16_5 ((rd_T68 l1 x110_5).f0) [.int .i64 ((rd_T68 l1 x110_5).f0)] (fun _ => True) (fun _ => False) rfl (by (go_simp; done)) ?aP (fun _ hk => hk.elim) ?aF ?aO ?aB ?aS ?aL ?_; (case aP => exact rfl); (case aB => exact (bh HB.out)); (case aF => exact (fun _ _ => trivial)); (case aO => exact (by exact Kd.R_mono (Kd.R_far (p := ⟨gb395, 1, none⟩) (Kd.R_far (p := ⟨gb395, 0, none⟩) (Kd.R_types HO_16.out BK395.out (by decide)) (fun _ hk => hk.2) (.int .i64 ((rd_T68 l1 x110_5).f0))) (fun _ hk => hk.2) (.int .i64 ((rd_T68 l1 x110_5).f1))) (fun _ hk => trivial))); (case aS => exact (below_size (bh HB.out))); (case aL => have := LMc72.out; omega); intro v397 w76 ho hb hg hat; rw [← Ny396.out] at ho; have n0_ := Aside0.mk (Kd.R_over' (by exact (Kd.R_mono (Kd.R_far (p := ⟨gb395, 1, none⟩) (Kd.R_far (p := ⟨gb395, 0, none⟩) (Kd.R_types HO_12.out BK395.out (by decide)) (fun _ hk => hk.2) (.int .i64 ((rd_T68 l1 x110_5).f0))) (fun _ hk => hk.2) (.int .i64 ((rd_T68 l1 x110_5).f1))) (fun _ h_ => h_.1))) (Kd.R_typed (by exact (Kd.R_mono (Kd.R_far (p := ⟨gb395, 1, none⟩) (Kd.R_far (p := ⟨gb395, 0, none⟩) (Kd.R_types HO_16.out BK395.out (by decide)) (fun _ hk => hk.2) (.int .i64 ((rd_T68 l1 x110_5).f0))) (fun _ hk => hk.2) (.int .i64 ((rd_T68 l1 x110_5).f1))) (fun _ h_ => h_.1)))) (by decide) hg); have n1_ := Aside0.mk (blk_grown (g := gb377) (o := .cells #[.int .i64 0, .slice none 0 0, .slice none 0 0, .slice none 0 0] 29 (0, 0)) (bx BK377.out) hg (Kd.R_ne HO_16.out BK377.out (by decide))); have n2_ := Aside0.mk (blk_grown (g := gb395) (o := .cells #[.int .i64 ((rd_T68 l1 x110_5).f0), .int .i64 ((rd_T68 l1 x110_5).f1)] 68 (0, 0)) (by refine blk_put (cs := #[.int .i64 ((rd_T68 l1 x110_5).f0), .int .i64 0]) ?_ 1 _ rfl; refine blk_put (cs := #[.int .i64 0, .int .i64 0]) ?_ 0 _ rfl; exact BK395.out) hg (Kd.R_ne HO_16.out BK395.out (by decide))); have n3_ := Aside0.mk (hb); have n4_ := Aside0.mk (ho); clear HO_12 BK377 BK395 HB HO_16; have HO_12 := n0_; have BK377 := n1_; have BK395 := n2_; have HB := n3_; have HO398 := n4_; clear n0_ n1_ n2_ n3_ n4_ ho hb hg hat))
               go_roundg k5
               case measure => have := HJ4.out; have := HJ8.out; have := HJ14.out; have := HK4.out; have := HK5.out; omega
               case rel => exact ⟨(y396), (wrap64 (x110_5 + 1)), (by rfl), H', ⟨by have := HJ4.out; have := HJ8.out; have := HJ14.out; have := HK4.out; have := HK5.out; omega⟩, ⟨by exact HO_12.out⟩, ⟨by exact HO398.out⟩, ⟨bx BK377.out⟩, ⟨bh HB.out⟩⟩
              ·have H' := Aside0.mk H
               clear H
               have p394 : 0 ≤ (x110_5 : Int) := ad
               have q394 : x110_5 < (l1.length : Int) := ad
               obtain ⟨ad394, e394, hx394_0, hx394_1⟩ := at_T68 HR1.out x110_5 p394 q394
               cases e394
               replace hx394_0 := cb HB.out.cell hx394_0
               replace hx394_1 := cb HB.out.cell hx394_1
               replace p394 := eq_true p394
               replace q394 := eq_true q394
               go_wp2_with (((with_reducible refine gate_dst (N := 18) rfl ?_); refine box_event ?hg (N := 18) ?hd (cs := #[.int .i64 0, .int .i64 0]) (t := 68) ?hr ?_; (case hd => rfl); (case hg => rfl); (case hr => (go_simp; done)); intro gb395 hg w77 hbox hb; replace HO_12 := rba HO_12 hb; replace HO_16 := rba HO_16 hb; have BK395 := Aside0.mk (hbox); have GW395 := bza HB hg; have GE395 := bza HB hg; replace HB := bsa HB hb; obtain ⟨NB377_395, NB395_377⟩ := bnm BK377 hg; replace BK377 := bba BK377 hb; clear hb hbox hg; have hnb78 := NB395_377.out; have hnc78 := NB377_395.out; obtain ⟨hcz79_0, hcz79_1, hfz79_0, hfz79_1⟩ := b2 BK395))
               go_roundg k5
               case measure => have := HJ4.out; have := HJ8.out; have := HJ14.out; have := HK4.out; have := HK5.out; omega
               case rel => exact ⟨(x16_5), (wrap64 (x110_5 + 1)), (by rfl), H', ⟨by have := HJ4.out; have := HJ8.out; have := HJ14.out; have := HK4.out; have := HK5.out; omega⟩, ⟨by exact Kd.R_mono (Kd.R_far (p := ⟨gb395, 1, none⟩) (Kd.R_far (p := ⟨gb395, 0, none⟩) (Kd.R_types HO_12.out BK395.out (by decide)) (fun _ hk => hk.2) (.int .i64 ((rd_T68 l1 x110_5).f0))) (fun _ hk => hk.2) (.int .i64 ((rd_T68 l1 x110_5).f1))) (fun _ hk => trivial)⟩, ⟨by exact Kd.R_mono (Kd.R_far (p := ⟨gb395, 1, none⟩) (Kd.R_far (p := ⟨gb395, 0, none⟩) (Kd.R_types HO_16.out BK395.out (by decide)) (fun _ hk => hk.2) (.int .i64 ((rd_T68 l1 x110_5).f0))) (fun _ hk => hk.2) (.int .i64 ((rd_T68 l1 x110_5).f1))) (fun _ hk => trivial)⟩, ⟨bx BK377.out⟩, ⟨bh HB.out⟩⟩
             ·replace H := bd H
              obtain ⟨⟨t399, t400, t403, t406, t409⟩, A80, H⟩ := H
              dsimp only at H
              replace H := ife H
              rcases H with ⟨-, c81b0, c81b1, H⟩ | ⟨c81, c81b0, c81b1, H⟩
              ·replace H := bd H
               obtain ⟨⟨t411, t412, t415, t418, t421⟩, A82, H⟩ := H
               dsimp only at H
               replace H := bd H
               obtain ⟨⟨t423, t424, t427, t430⟩, A83, H⟩ := H
               dsimp only at H
               simp only [Option.some.injEq, Prod.mk.injEq] at H
               obtain ⟨rfl, rfl, rfl, rfl, rfl⟩ := H
               obtain ⟨Ao84, co84, eo84⟩ := Kd.R_slice HO_12.out
               subst eo84
               go_wp2_with (first | ((with_reducible refine gate_callee (f := 35) rfl ?_); refine gL 126 Tryz.func35 #[.slice Ao84 x12_4.length co84] ?_; (with_reducible refine (poslist_Best.calls k5 _ _ x12_4 t399 t400 t403 t406 t409 _ ?side1 ?side2 A80.out).mono ?_); (case side1 => exact cx (Kd.R_reads' HO_12.out).2.2); (case side2 => exact (Kd.R_reads' HO_12.out).2.1); rintro e w85 ⟨v401, v404, v407, rfl, ho0, ho1, ho2, hb⟩; refine ⟨_, rfl, ?_⟩; have HO402 := Aside0.mk (Kd.R_lower (Kd.R_new' ho0 (Kd.R_lt (rx HO_12.out))) (below_size (bh HB.out))); replace HO_12 := Aside0.mk (Kd.R_elder' (rx HO_12.out) (Kd.R_base ho0) hb); have HO405 := Aside0.mk (Kd.R_lower (Kd.R_new' ho1 (Kd.R_lt (rx HO_16.out))) (below_size (bh HB.out))); have HO408 := Aside0.mk (Kd.R_lower (Kd.R_new' ho2 (Kd.R_lt (rx HO_16.out))) (below_size (bh HB.out))); replace HO_16 := Aside0.mk (Kd.R_mono (Kd.R_told (Kd.R_told (Kd.R_old (rx HO_16.out) hb) (Kd.R_base ho1)) (Kd.R_base ho2)) (fun _ h_ => h_.1)); replace BK377 := bba BK377 hb; replace HB := bsa HB hb; clear hb ho0 ho1 ho2) | ((with_reducible refine gate_dst (N := 19) rfl ?_); refine box_event ?hg (N := 19) ?hd (cs := #[.int .i64 0, .slice none 0 0, .slice none 0 0, .slice none 0 0]) (t := 29) ?hr ?_; (case hd => rfl); (case hg => rfl); (case hr => (go_simp; done)); intro gb410 hg w86 hbox hb; replace HO_12 := rba HO_12 hb; replace HO_16 := rba HO_16 hb; replace HO402 := rba HO402 hb; replace HO405 := rba HO405 hb; replace HO408 := rba HO408 hb; have BK410 := Aside0.mk (hbox); have GW410 := bza HB hg; have GE410 := bza HB hg; replace HB := bsa HB hb; obtain ⟨NB377_410, NB410_377⟩ := bnm BK377 hg; replace BK377 := bba BK377 hb; clear hb hbox hg; have hnb87 := NB410_377.out; have hnc87 := NB377_410.out; obtain ⟨hcz88_0, hcz88_1, hcz88_2, hcz88_3, hfz88_0, hfz88_1, hfz88_2, hfz88_3⟩ := b4 BK410; obtain ⟨Ao89, co89, eo89⟩ := Kd.R_slice HO402.out; subst eo89; obtain ⟨Ao90, co90, eo90⟩ := Kd.R_slice HO405.out; subst eo90; obtain ⟨Ao91, co91, eo91⟩ := Kd.R_slice HO408.out; subst eo91) | ((with_reducible refine gate_store (t := 29) (p := 19) rfl ?_); refine stE 29 19 ((((w86.setCell ⟨gb410, 0, none⟩ (.int .i64 t399)).setCell ⟨gb410, 1, none⟩ (.slice Ao89 t400.length co89)).setCell ⟨gb410, 2, none⟩ (.slice Ao90 t403.length co90)).setCell ⟨gb410, 3, none⟩ (.slice Ao91 t406.length co91)) ?_; intro w92 hw; have n0_ := rsm (fun k_ => some k_ ≠ (.slice Ao89 t400.length co89 : Value).ownBlock) HO_12 hw (fun _ hk => hk.2); have n1_ := rsm (fun k_ => some k_ ≠ (.slice Ao90 t403.length co90 : Value).ownBlock ∧ some k_ ≠ (.slice Ao91 t406.length co91 : Value).ownBlock) HO_16 hw (fun _ hk => ⟨hk.1.2, hk.2⟩); have n2_ := rsm (fun k_ => some k_ ≠ (.slice Ao84 x12_4.length co84 : Value).ownBlock) HO402 hw (fun _ hk => hk.2); have n3_ := rsm (fun k_ => some k_ ≠ (u16 : Value).ownBlock ∧ some k_ ≠ (.slice Ao91 t406.length co91 : Value).ownBlock) HO405 hw (fun _ hk => ⟨hk.2, hk.1⟩); have n4_ := rsm (fun k_ => some k_ ≠ (u16 : Value).ownBlock ∧ some k_ ≠ (.slice Ao90 t403.length co90 : Value).ownBlock) HO408 hw (fun _ hk => ⟨hk.2, hk.1⟩); have n5_ : Aside0 (w92.heap[gb377]? = some (.cells #[.int .i64 0, .slice none 0 0, .slice none 0 0, .slice none 0 0] 29 (0, 0))) := ⟨(by rw [hw]; exact (bx BK377.out))⟩; have n6_ := sps #[.int .i64 t399, .slice Ao89 t400.length co89, .slice Ao90 t403.length co90, .slice Ao91 t406.length co91] BK410 hw (.p (.p (.p (.p .nil)))); have n7_ := bhw HB hw; clear hw HO_12 HO_16 HO402 HO405 HO408 BK377 BK410 HB; have HO_12 := n0_; have HO_16 := n1_; have HO402 := n2_; have HO405 := n3_; have HO408 := n4_; have BK377 := n5_; have BK410 := n6_; have HB := n7_; clear n0_ n1_ n2_ n3_ n4_ n5_ n6_ n7_; obtain ⟨Ao93, co93, eo93⟩ := Kd.R_slice HO_16.out; subst eo93) | ((with_reducible refine gate_callee (f := 29) rfl ?_); refine gL 135 Tryz.func29 #[.slice Ao93 x16_5.length co93] ?_; (with_reducible refine (poslist_From.calls k5 _ _ x16_5 t411 t412 t415 t418 t421 _ ?side1 ?side2 A82.out).mono ?_); (case side1 => exact cx (Kd.R_reads' HO_16.out).2.2); (case side2 => exact (Kd.R_reads' HO_16.out).2.1); rintro e w94 ⟨v413, v416, v419, rfl, ho0, ho1, ho2, hb⟩; refine ⟨_, rfl, ?_⟩; have HO414 := Aside0.mk (Kd.R_lower (Kd.R_new' (Kd.R_new' ho0 (Kd.R_lt (rx HO_12.out))) (Kd.R_lt (rx HO402.out))) (below_size (bh HB.out))); replace HO_12 := Aside0.mk (Kd.R_elder' (rx HO_12.out) (Kd.R_base ho0) hb); replace HO402 := Aside0.mk (Kd.R_elder' (rx HO402.out) (Kd.R_base ho0) hb); have HO417 := Aside0.mk (Kd.R_lower (Kd.R_new' (Kd.R_new' (Kd.R_new' ho1 (Kd.R_lt (rx HO_16.out))) (Kd.R_lt (rx HO405.out))) (Kd.R_lt (rx HO408.out))) (below_size (bh HB.out))); have HO420 := Aside0.mk (Kd.R_lower (Kd.R_new' (Kd.R_new' (Kd.R_new' ho2 (Kd.R_lt (rx HO_16.out))) (Kd.R_lt (rx HO405.out))) (Kd.R_lt (rx HO408.out))) (below_size (bh HB.out))); replace HO_16 := Aside0.mk (Kd.R_mono (Kd.R_told (Kd.R_told (Kd.R_old (rx HO_16.out) hb) (Kd.R_base ho1)) (Kd.R_base ho2)) (fun _ h_ => h_.1)); replace HO405 := Aside0.mk (Kd.R_mono (Kd.R_told (Kd.R_told (Kd.R_old (rx HO405.out) hb) (Kd.R_base ho1)) (Kd.R_base ho2)) (fun _ h_ => h_.1)); replace HO408 := Aside0.mk (Kd.R_mono (Kd.R_told (Kd.R_told (Kd.R_old (rx HO408.out) hb) (Kd.R_base ho1)) (Kd.R_base ho2)) (fun _ h_ => h_.1)); replace BK377 := bba BK377 hb; replace BK410 := bba BK410 hb; replace HB := bsa HB hb; clear hb ho0 ho1 ho2) | ((with_reducible refine gate_dst (N := 20) rfl ?_); refine box_event ?hg (N := 20) ?hd (cs := #[.int .i64 0, .slice none 0 0, .slice none 0 0, .slice none 0 0]) (t := 29) ?hr ?_; (case hd => rfl); (case hg => rfl); (case hr => (go_simp; done)); intro gb422 hg w95 hbox hb; replace HO_12 := rba HO_12 hb; replace HO_16 := rba HO_16 hb; replace HO402 := rba HO402 hb; replace HO405 := rba HO405 hb; replace HO408 := rba HO408 hb; replace HO414 := rba HO414 hb; replace HO417 := rba HO417 hb; replace HO420 := rba HO420 hb; have BK422 := Aside0.mk (hbox); have GW422 := bza HB hg; have GE422 := bza HB hg; replace HB := bsa HB hb; obtain ⟨NB377_422, NB422_377⟩ := bnm BK377 hg; replace BK377 := bba BK377 hb; obtain ⟨NB410_422, NB422_410⟩ := bnm BK410 hg; replace BK410 := bba BK410 hb; clear hb hbox hg; have hnb96 := NB422_377.out; have hnc96 := NB377_422.out; have hnb97 := NB422_410.out; have hnc97 := NB410_422.out; obtain ⟨hcz98_0, hcz98_1, hcz98_2, hcz98_3, hfz98_0, hfz98_1, hfz98_2, hfz98_3⟩ := b4 BK422; obtain ⟨Ao99, co99, eo99⟩ := Kd.R_slice HO414.out; subst eo99; obtain ⟨Ao100, co100, eo100⟩ := Kd.R_slice HO417.out; subst eo100; obtain ⟨Ao101, co101, eo101⟩ := Kd.R_slice HO420.out; subst eo101) | ((with_reducible refine gate_store (t := 29) (p := 20) rfl ?_); refine stE 29 20 ((((w95.setCell ⟨gb422, 0, none⟩ (.int .i64 t411)).setCell ⟨gb422, 1, none⟩ (.slice Ao99 t412.length co99)).setCell ⟨gb422, 2, none⟩ (.slice Ao100 t415.length co100)).setCell ⟨gb422, 3, none⟩ (.slice Ao101 t418.length co101)) ?_; intro w102 hw; have n0_ := rsm (fun k_ => some k_ ≠ (.slice Ao89 t400.length co89 : Value).ownBlock ∧ some k_ ≠ (.slice Ao99 t412.length co99 : Value).ownBlock) HO_12 hw (fun _ hk => ⟨hk.1, hk.2⟩); have n1_ := rsm (fun k_ => some k_ ≠ (.slice Ao90 t403.length co90 : Value).ownBlock ∧ some k_ ≠ (.slice Ao91 t406.length co91 : Value).ownBlock ∧ some k_ ≠ (.slice Ao100 t415.length co100 : Value).ownBlock ∧ some k_ ≠ (.slice Ao101 t418.length co101 : Value).ownBlock) HO_16 hw (fun _ hk => ⟨hk.1.1.1, ⟨hk.1.1.2, ⟨hk.1.2, hk.2⟩⟩⟩); have n2_ := rsm (fun k_ => some k_ ≠ (.slice Ao84 x12_4.length co84 : Value).ownBlock ∧ some k_ ≠ (.slice Ao99 t412.length co99 : Value).ownBlock) HO402 hw (fun _ hk => ⟨hk.1, hk.2⟩); have n3_ := rsm (fun k_ => some k_ ≠ (.slice Ao93 x16_5.length co93 : Value).ownBlock ∧ some k_ ≠ (.slice Ao91 t406.length co91 : Value).ownBlock ∧ some k_ ≠ (.slice Ao100 t415.length co100 : Value).ownBlock ∧ some k_ ≠ (.slice Ao101 t418.length co101 : Value).ownBlock) HO405 hw (fun _ hk => ⟨hk.1.1.1, ⟨hk.1.1.2, ⟨hk.1.2, hk.2⟩⟩⟩); have n4_ := rsm (fun k_ => some k_ ≠ (.slice Ao93 x16_5.length co93 : Value).ownBlock ∧ some k_ ≠ (.slice Ao90 t403.length co90 : Value).ownBlock ∧ some k_ ≠ (.slice Ao100 t415.length co100 : Value).ownBlock ∧ some k_ ≠ (.slice Ao101 t418.length co101 : Value).ownBlock) HO408 hw (fun _ hk => ⟨hk.1.1.1, ⟨hk.1.1.2, ⟨hk.1.2, hk.2⟩⟩⟩); have n5_ := rsm (fun k_ => some k_ ≠ (.slice Ao84 x12_4.length co84 : Value).ownBlock ∧ some k_ ≠ (.slice Ao89 t400.length co89 : Value).ownBlock) HO414 hw (fun _ hk => ⟨hk.1.2, hk.2⟩); have n6_ := rsm (fun k_ => some k_ ≠ (.slice Ao93 x16_5.length co93 : Value).ownBlock ∧ some k_ ≠ (.slice Ao90 t403.length co90 : Value).ownBlock ∧ some k_ ≠ (.slice Ao91 t406.length co91 : Value).ownBlock ∧ some k_ ≠ (.slice Ao101 t418.length co101 : Value).ownBlock) HO417 hw (fun _ hk => ⟨hk.1.1.2, ⟨hk.1.2, ⟨hk.2, hk.1.1.1⟩⟩⟩); have n7_ := rsm (fun k_ => some k_ ≠ (.slice Ao93 x16_5.length co93 : Value).ownBlock ∧ some k_ ≠ (.slice Ao90 t403.length co90 : Value).ownBlock ∧ some k_ ≠ (.slice Ao91 t406.length co91 : Value).ownBlock ∧ some k_ ≠ (.slice Ao100 t415.length co100 : Value).ownBlock) HO420 hw (fun _ hk => ⟨hk.1.1.2, ⟨hk.1.2, ⟨hk.2, hk.1.1.1⟩⟩⟩); have n8_ : Aside0 (w102.heap[gb377]? = some (.cells #[.int .i64 0, .slice none 0 0, .slice none 0 0, .slice none 0 0] 29 (0, 0))) := ⟨(by rw [hw]; exact (bx BK377.out))⟩; have n9_ : Aside0 (w102.heap[gb410]? = some (.cells #[.int .i64 t399, .slice Ao89 t400.length co89, .slice Ao90 t403.length co90, .slice Ao91 t406.length co91] 29 (0, 0))) := ⟨(by rw [hw]; exact (bx BK410.out))⟩; have n10_ := sps #[.int .i64 t411, .slice Ao99 t412.length co99, .slice Ao100 t415.length co100, .slice Ao101 t418.length co101] BK422 hw (.p (.p (.p (.p .nil)))); have n11_ := bhw HB hw; clear hw HO_12 HO_16 HO402 HO405 HO408 HO414 HO417 HO420 BK377 BK410 BK422 HB; have HO_12 := n0_; have HO_16 := n1_; have HO402 := n2_; have HO405 := n3_; have HO408 := n4_; have HO414 := n5_; have HO417 := n6_; have HO420 := n7_; have BK377 := n8_; have BK410 := n9_; have BK422 := n10_; have HB := n11_; clear n0_ n1_ n2_ n3_ n4_ n5_ n6_ n7_ n8_ n9_ n10_ n11_; obtain ⟨hcz103_0, hcz103_1, hcz103_2, hcz103_3, hfz103_0, hfz103_1, hfz103_2, hfz103_3⟩ := b4 BK410; obtain ⟨hcz104_0, hcz104_1, hcz104_2, hcz104_3, hfz104_0, hfz104_1, hfz104_2, hfz104_3⟩ := b4 BK422) | ((with_reducible refine gate_callee (f := 36) rfl ?_); refine gL 140 Tryz.func36 #[.agg #[.int .i64 t399, .slice Ao89 t400.length co89, .slice Ao90 t403.length co90, .slice Ao91 t406.length co91], .agg #[.int .i64 t411, .slice Ao99 t412.length co99, .slice Ao100 t415.length co100, .slice Ao101 t418.length co101]] ?_; (with_reducible refine (poslist_List_Less.calls k5 t399 _ _ t400 _ _ t403 _ _ t406 t411 _ _ t412 _ _ t415 _ _ t418 t423 t424 t427 t430 _ ?side1 ?side2 ?side3 ?side4 ?side5 ?side6 ?side7 ?side8 ?side9 ?side10 ?side11 ?side12 A83.out).mono ?_); (case side1 => exact cx (Kd.R_reads' HO402.out).2.2); (case side2 => exact (Kd.R_reads' HO402.out).2.1); (case side3 => exact cx (Kd.R_reads' HO405.out).2.2); (case side4 => exact (Kd.R_reads' HO405.out).2.1); (case side5 => exact cx (Kd.R_reads' HO408.out).2.2); (case side6 => exact (Kd.R_reads' HO408.out).2.1); (case side7 => exact cx (Kd.R_reads' HO414.out).2.2); (case side8 => exact (Kd.R_reads' HO414.out).2.1); (case side9 => exact cx (Kd.R_reads' HO417.out).2.2); (case side10 => exact (Kd.R_reads' HO417.out).2.1); (case side11 => exact cx (Kd.R_reads' HO420.out).2.2); (case side12 => exact (Kd.R_reads' HO420.out).2.1); rintro e w105 ⟨v425, v428, v431, rfl, ho0, ho1, ho2, hb⟩; refine ⟨_, rfl, ?_⟩; have HO426 := Aside0.mk (Kd.R_lower (Kd.R_new' (Kd.R_new' (Kd.R_new' ho0 (Kd.R_lt (rx HO_12.out))) (Kd.R_lt (rx HO402.out))) (Kd.R_lt (rx HO414.out))) (below_size (bh HB.out))); replace HO_12 := Aside0.mk (Kd.R_elder' (rx HO_12.out) (Kd.R_base ho0) hb); replace HO402 := Aside0.mk (Kd.R_elder' (rx HO402.out) (Kd.R_base ho0) hb); replace HO414 := Aside0.mk (Kd.R_elder' (rx HO414.out) (Kd.R_base ho0) hb); have HO429 := Aside0.mk (Kd.R_lower (Kd.R_new' (Kd.R_new' (Kd.R_new' (Kd.R_new' (Kd.R_new' ho1 (Kd.R_lt (rx HO_16.out))) (Kd.R_lt (rx HO405.out))) (Kd.R_lt (rx HO408.out))) (Kd.R_lt (rx HO417.out))) (Kd.R_lt (rx HO420.out))) (below_size (bh HB.out))); have HO432 := Aside0.mk (Kd.R_lower (Kd.R_new' (Kd.R_new' (Kd.R_new' (Kd.R_new' (Kd.R_new' ho2 (Kd.R_lt (rx HO_16.out))) (Kd.R_lt (rx HO405.out))) (Kd.R_lt (rx HO408.out))) (Kd.R_lt (rx HO417.out))) (Kd.R_lt (rx HO420.out))) (below_size (bh HB.out))); replace HO_16 := Aside0.mk (Kd.R_mono (Kd.R_told (Kd.R_told (Kd.R_old (rx HO_16.out) hb) (Kd.R_base ho1)) (Kd.R_base ho2)) (fun _ h_ => h_.1)); replace HO405 := Aside0.mk (Kd.R_mono (Kd.R_told (Kd.R_told (Kd.R_old (rx HO405.out) hb) (Kd.R_base ho1)) (Kd.R_base ho2)) (fun _ h_ => h_.1)); replace HO408 := Aside0.mk (Kd.R_mono (Kd.R_told (Kd.R_told (Kd.R_old (rx HO408.out) hb) (Kd.R_base ho1)) (Kd.R_base ho2)) (fun _ h_ => h_.1)); replace HO417 := Aside0.mk (Kd.R_mono (Kd.R_told (Kd.R_told (Kd.R_old (rx HO417.out) hb) (Kd.R_base ho1)) (Kd.R_base ho2)) (fun _ h_ => h_.1)); replace HO420 := Aside0.mk (Kd.R_mono (Kd.R_told (Kd.R_told (Kd.R_old (rx HO420.out) hb) (Kd.R_base ho1)) (Kd.R_base ho2)) (fun _ h_ => h_.1)); replace BK377 := bba BK377 hb; replace BK410 := bba BK410 hb; replace BK422 := bba BK422 hb; replace HB := bsa HB hb; clear hb ho0 ho1 ho2; obtain ⟨hcz106_0, hcz106_1, hcz106_2, hcz106_3, hfz106_0, hfz106_1, hfz106_2, hfz106_3⟩ := b4 BK377; obtain ⟨Ao107, co107, eo107⟩ := Kd.R_slice HO426.out; subst eo107; obtain ⟨Ao108, co108, eo108⟩ := Kd.R_slice HO429.out; subst eo108; obtain ⟨Ao109, co109, eo109⟩ := Kd.R_slice HO432.out; subst eo109) | ((with_reducible refine gate_store (t := 29) (p := 6) rfl ?_); refine stE 29 6 ((((w105.setCell ⟨gb377, 0, none⟩ (.int .i64 t423)).setCell ⟨gb377, 1, none⟩ (.slice Ao107 t424.length co107)).setCell ⟨gb377, 2, none⟩ (.slice Ao108 t427.length co108)).setCell ⟨gb377, 3, none⟩ (.slice Ao109 t430.length co109)) ?_; intro w110 hw; have n0_ := rsm (fun k_ => some k_ ≠ (.slice Ao89 t400.length co89 : Value).ownBlock ∧ some k_ ≠ (.slice Ao99 t412.length co99 : Value).ownBlock ∧ some k_ ≠ (.slice Ao107 t424.length co107 : Value).ownBlock) HO_12 hw (fun _ hk => ⟨hk.1.1, ⟨hk.1.2, hk.2⟩⟩); have n1_ := rsm (fun k_ => some k_ ≠ (.slice Ao90 t403.length co90 : Value).ownBlock ∧ some k_ ≠ (.slice Ao91 t406.length co91 : Value).ownBlock ∧ some k_ ≠ (.slice Ao100 t415.length co100 : Value).ownBlock ∧ some k_ ≠ (.slice Ao101 t418.length co101 : Value).ownBlock ∧ some k_ ≠ (.slice Ao108 t427.length co108 : Value).ownBlock ∧ some k_ ≠ (.slice Ao109 t430.length co109 : Value).ownBlock) HO_16 hw (fun _ hk => ⟨hk.1.1.1, ⟨hk.1.1.2.1, ⟨hk.1.1.2.2.1, ⟨hk.1.1.2.2.2, ⟨hk.1.2, hk.2⟩⟩⟩⟩⟩); have n2_ := rsm (fun k_ => some k_ ≠ (.slice Ao84 x12_4.length co84 : Value).ownBlock ∧ some k_ ≠ (.slice Ao99 t412.length co99 : Value).ownBlock ∧ some k_ ≠ (.slice Ao107 t424.length co107 : Value).ownBlock) HO402 hw (fun _ hk => ⟨hk.1.1, ⟨hk.1.2, hk.2⟩⟩); have n3_ := rsm (fun k_ => some k_ ≠ (.slice Ao93 x16_5.length co93 : Value).ownBlock ∧ some k_ ≠ (.slice Ao91 t406.length co91 : Value).ownBlock ∧ some k_ ≠ (.slice Ao100 t415.length co100 : Value).ownBlock ∧ some k_ ≠ (.slice Ao101 t418.length co101 : Value).ownBlock ∧ some k_ ≠ (.slice Ao108 t427.length co108 : Value).ownBlock ∧ some k_ ≠ (.slice Ao109 t430.length co109 : Value).ownBlock) HO405 hw (fun _ hk => ⟨hk.1.1.1, ⟨hk.1.1.2.1, ⟨hk.1.1.2.2.1, ⟨hk.1.1.2.2.2, ⟨hk.1.2, hk.2⟩⟩⟩⟩⟩); have n4_ := rsm (fun k_ => some k_ ≠ (.slice Ao93 x16_5.length co93 : Value).ownBlock ∧ some k_ ≠ (.slice Ao90 t403.length co90 : Value).ownBlock ∧ some k_ ≠ (.slice Ao100 t415.length co100 : Value).ownBlock ∧ some k_ ≠ (.slice Ao101 t418.length co101 : Value).ownBlock ∧ some k_ ≠ (.slice Ao108 t427.length co108 : Value).ownBlock ∧ some k_ ≠ (.slice Ao109 t430.length co109 : Value).ownBlock) HO408 hw (fun _ hk => ⟨hk.1.1.1, ⟨hk.1.1.2.1, ⟨hk.1.1.2.2.1, ⟨hk.1.1.2.2.2, ⟨hk.1.2, hk.2⟩⟩⟩⟩⟩); have n5_ := rsm (fun k_ => some k_ ≠ (.slice Ao84 x12_4.length co84 : Value).ownBlock ∧ some k_ ≠ (.slice Ao89 t400.length co89 : Value).ownBlock ∧ some k_ ≠ (.slice Ao107 t424.length co107 : Value).ownBlock) HO414 hw (fun _ hk => ⟨hk.1.1, ⟨hk.1.2, hk.2⟩⟩); have n6_ := rsm (fun k_ => some k_ ≠ (.slice Ao93 x16_5.length co93 : Value).ownBlock ∧ some k_ ≠ (.slice Ao90 t403.length co90 : Value).ownBlock ∧ some k_ ≠ (.slice Ao91 t406.length co91 : Value).ownBlock ∧ some k_ ≠ (.slice Ao101 t418.length co101 : Value).ownBlock ∧ some k_ ≠ (.slice Ao108 t427.length co108 : Value).ownBlock ∧ some k_ ≠ (.slice Ao109 t430.length co109 : Value).ownBlock) HO417 hw (fun _ hk => ⟨hk.1.1.1, ⟨hk.1.1.2.1, ⟨hk.1.1.2.2.1, ⟨hk.1.1.2.2.2, ⟨hk.1.2, hk.2⟩⟩⟩⟩⟩); have n7_ := rsm (fun k_ => some k_ ≠ (.slice Ao93 x16_5.length co93 : Value).ownBlock ∧ some k_ ≠ (.slice Ao90 t403.length co90 : Value).ownBlock ∧ some k_ ≠ (.slice Ao91 t406.length co91 : Value).ownBlock ∧ some k_ ≠ (.slice Ao100 t415.length co100 : Value).ownBlock ∧ some k_ ≠ (.slice Ao108 t427.length co108 : Value).ownBlock ∧ some k_ ≠ (.slice Ao109 t430.length co109 : Value).ownBlock) HO420 hw (fun _ hk => ⟨hk.1.1.1, ⟨hk.1.1.2.1, ⟨hk.1.1.2.2.1, ⟨hk.1.1.2.2.2, ⟨hk.1.2, hk.2⟩⟩⟩⟩⟩); have n8_ := rsm (fun k_ => some k_ ≠ (.slice Ao84 x12_4.length co84 : Value).ownBlock ∧ some k_ ≠ (.slice Ao89 t400.length co89 : Value).ownBlock ∧ some k_ ≠ (.slice Ao99 t412.length co99 : Value).ownBlock) HO426 hw (fun _ hk => ⟨hk.1.1.2, ⟨hk.1.2, hk.2⟩⟩); have n9_ := rsm (fun k_ => some k_ ≠ (.slice Ao93 x16_5.length co93 : Value).ownBlock ∧ some k_ ≠ (.slice Ao90 t403.length co90 : Value).ownBlock ∧ some k_ ≠ (.slice Ao91 t406.length co91 : Value).ownBlock ∧ some k_ ≠ (.slice Ao100 t415.length co100 : Value).ownBlock ∧ some k_ ≠ (.slice Ao101 t418.length co101 : Value).ownBlock ∧ some k_ ≠ (.slice Ao109 t430.length co109 : Value).ownBlock) HO429 hw (fun _ hk => ⟨hk.1.1.1.1.2, ⟨hk.1.1.1.2, ⟨hk.1.1.2, ⟨hk.1.2, ⟨hk.2, hk.1.1.1.1.1⟩⟩⟩⟩⟩); have n10_ := rsm (fun k_ => some k_ ≠ (.slice Ao93 x16_5.length co93 : Value).ownBlock ∧ some k_ ≠ (.slice Ao90 t403.length co90 : Value).ownBlock ∧ some k_ ≠ (.slice Ao91 t406.length co91 : Value).ownBlock ∧ some k_ ≠ (.slice Ao100 t415.length co100 : Value).ownBlock ∧ some k_ ≠ (.slice Ao101 t418.length co101 : Value).ownBlock ∧ some k_ ≠ (.slice Ao108 t427.length co108 : Value).ownBlock) HO432 hw (fun _ hk => ⟨hk.1.1.1.1.2, ⟨hk.1.1.1.2, ⟨hk.1.1.2, ⟨hk.1.2, ⟨hk.2, hk.1.1.1.1.1⟩⟩⟩⟩⟩); have n11_ := sps #[.int .i64 t423, .slice Ao107 t424.length co107, .slice Ao108 t427.length co108, .slice Ao109 t430.length co109] BK377 hw (.p (.p (.p (.p .nil)))); have n12_ : Aside0 (w110.heap[gb410]? = some (.cells #[.int .i64 t399, .slice Ao89 t400.length co89, .slice Ao90 t403.length co90, .slice Ao91 t406.length co91] 29 (0, 0))) := ⟨(by rw [hw]; exact (bx BK410.out))⟩; have n13_ : Aside0 (w110.heap[gb422]? = some (.cells #[.int .i64 t411, .slice Ao99 t412.length co99, .slice Ao100 t415.length co100, .slice Ao101 t418.length co101] 29 (0, 0))) := ⟨(by rw [hw]; exact (bx BK422.out))⟩; have n14_ := bhw HB hw; clear hw HO_12 HO_16 HO402 HO405 HO408 HO414 HO417 HO420 HO426 HO429 HO432 BK377 BK410 BK422 HB; have HO_12 := n0_; have HO_16 := n1_; have HO402 := n2_; have HO405 := n3_; have HO408 := n4_; have HO414 := n5_; have HO417 := n6_; have HO420 := n7_; have HO426 := n8_; have HO429 := n9_; have HO432 := n10_; have BK377 := n11_; have BK410 := n12_; have BK422 := n13_; have HB := n14_; clear n0_ n1_ n2_ n3_ n4_ n5_ n6_ n7_ n8_ n9_ n10_ n11_ n12_ n13_ n14_))
               refine bodyPost_ret (results_ct rfl _ _ gb377 29 #[.int .i64 t423, .slice Ao107 t424.length co107, .slice Ao108 t427.length co108, .slice Ao109 t430.length co109] (0, 0) _ rfl (bx BK377.out) Tryz.underlying29 rfl (by kernel_rfl)) rfl ?_
               exact ⟨_, _, _, er, by exact Kd.R_mono HO426.out (fun _ hk => trivial), by exact Kd.R_mono HO429.out (fun _ hk => hk.2.2.2.2.2), by exact Kd.R_mono HO432.out (fun _ hk => hk.2.2.2.2.2), bh HB.out⟩
              ·simp only [Option.some.injEq, Prod.mk.injEq] at H
               obtain ⟨rfl, rfl, rfl, rfl, rfl⟩ := H
               obtain ⟨Ao111, co111, eo111⟩ := Kd.R_slice HO_12.out
               subst eo111
               go_wp2_with (first | ((with_reducible refine gate_callee (f := 35) rfl ?_); refine gL 126 Tryz.func35 #[.slice Ao111 x12_4.length co111] ?_; (with_reducible refine (poslist_Best.calls k5 _ _ x12_4 t399 t400 t403 t406 t409 _ ?side1 ?side2 A80.out).mono ?_); (case side1 => exact cx (Kd.R_reads' HO_12.out).2.2); (case side2 => exact (Kd.R_reads' HO_12.out).2.1); rintro e w112 ⟨v401, v404, v407, rfl, ho0, ho1, ho2, hb⟩; refine ⟨_, rfl, ?_⟩; have HO402 := Aside0.mk (Kd.R_lower (Kd.R_new' ho0 (Kd.R_lt (rx HO_12.out))) (below_size (bh HB.out))); replace HO_12 := Aside0.mk (Kd.R_elder' (rx HO_12.out) (Kd.R_base ho0) hb); have HO405 := Aside0.mk (Kd.R_lower (Kd.R_new' ho1 (Kd.R_lt (rx HO_16.out))) (below_size (bh HB.out))); have HO408 := Aside0.mk (Kd.R_lower (Kd.R_new' ho2 (Kd.R_lt (rx HO_16.out))) (below_size (bh HB.out))); replace HO_16 := Aside0.mk (Kd.R_mono (Kd.R_told (Kd.R_told (Kd.R_old (rx HO_16.out) hb) (Kd.R_base ho1)) (Kd.R_base ho2)) (fun _ h_ => h_.1)); replace BK377 := bba BK377 hb; replace HB := bsa HB hb; clear hb ho0 ho1 ho2) | ((with_reducible refine gate_dst (N := 19) rfl ?_); refine box_event ?hg (N := 19) ?hd (cs := #[.int .i64 0, .slice none 0 0, .slice none 0 0, .slice none 0 0]) (t := 29) ?hr ?_; (case hd => rfl); (case hg => rfl); (case hr => (go_simp; done)); intro gb410 hg w113 hbox hb; replace HO_12 := rba HO_12 hb; replace HO_16 := rba HO_16 hb; replace HO402 := rba HO402 hb; replace HO405 := rba HO405 hb; replace HO408 := rba HO408 hb; have BK410 := Aside0.mk (hbox); have GW410 := bza HB hg; have GE410 := bza HB hg; replace HB := bsa HB hb; obtain ⟨NB377_410, NB410_377⟩ := bnm BK377 hg; replace BK377 := bba BK377 hb; clear hb hbox hg; have hnb114 := NB410_377.out; have hnc114 := NB377_410.out; obtain ⟨hcz115_0, hcz115_1, hcz115_2, hcz115_3, hfz115_0, hfz115_1, hfz115_2, hfz115_3⟩ := b4 BK410; obtain ⟨Ao116, co116, eo116⟩ := Kd.R_slice HO402.out; subst eo116; obtain ⟨Ao117, co117, eo117⟩ := Kd.R_slice HO405.out; subst eo117; obtain ⟨Ao118, co118, eo118⟩ := Kd.R_slice HO408.out; subst eo118) | ((with_reducible refine gate_store (t := 29) (p := 19) rfl ?_); refine stE 29 19 ((((w113.setCell ⟨gb410, 0, none⟩ (.int .i64 t399)).setCell ⟨gb410, 1, none⟩ (.slice Ao116 t400.length co116)).setCell ⟨gb410, 2, none⟩ (.slice Ao117 t403.length co117)).setCell ⟨gb410, 3, none⟩ (.slice Ao118 t406.length co118)) ?_; intro w119 hw; have n0_ := rsm (fun k_ => some k_ ≠ (.slice Ao116 t400.length co116 : Value).ownBlock) HO_12 hw (fun _ hk => hk.2); have n1_ := rsm (fun k_ => some k_ ≠ (.slice Ao117 t403.length co117 : Value).ownBlock ∧ some k_ ≠ (.slice Ao118 t406.length co118 : Value).ownBlock) HO_16 hw (fun _ hk => ⟨hk.1.2, hk.2⟩); have n2_ := rsm (fun k_ => some k_ ≠ (.slice Ao111 x12_4.length co111 : Value).ownBlock) HO402 hw (fun _ hk => hk.2); have n3_ := rsm (fun k_ => some k_ ≠ (u16 : Value).ownBlock ∧ some k_ ≠ (.slice Ao118 t406.length co118 : Value).ownBlock) HO405 hw (fun _ hk => ⟨hk.2, hk.1⟩); have n4_ := rsm (fun k_ => some k_ ≠ (u16 : Value).ownBlock ∧ some k_ ≠ (.slice Ao117 t403.length co117 : Value).ownBlock) HO408 hw (fun _ hk => ⟨hk.2, hk.1⟩); have n5_ : Aside0 (w119.heap[gb377]? = some (.cells #[.int .i64 0, .slice none 0 0, .slice none 0 0, .slice none 0 0] 29 (0, 0))) := ⟨(by rw [hw]; exact (bx BK377.out))⟩; have n6_ := sps #[.int .i64 t399, .slice Ao116 t400.length co116, .slice Ao117 t403.length co117, .slice Ao118 t406.length co118] BK410 hw (.p (.p (.p (.p .nil)))); have n7_ := bhw HB hw; clear hw HO_12 HO_16 HO402 HO405 HO408 BK377 BK410 HB; have HO_12 := n0_; have HO_16 := n1_; have HO402 := n2_; have HO405 := n3_; have HO408 := n4_; have BK377 := n5_; have BK410 := n6_; have HB := n7_; clear n0_ n1_ n2_ n3_ n4_ n5_ n6_ n7_; obtain ⟨hcz120_0, hcz120_1, hcz120_2, hcz120_3, hfz120_0, hfz120_1, hfz120_2, hfz120_3⟩ := b4 BK377) | ((with_reducible refine gate_store (t := 29) (p := 6) rfl ?_); refine stE 29 6 ((((w119.setCell ⟨gb377, 0, none⟩ (.int .i64 0)).setCell ⟨gb377, 1, none⟩ (.slice none 0 0)).setCell ⟨gb377, 2, none⟩ (.slice none 0 0)).setCell ⟨gb377, 3, none⟩ (.slice none 0 0)) ?_; intro w121 hw; have n0_ := rst HO_12 hw; have n1_ := rsm (fun k_ => some k_ ≠ (.slice Ao117 t403.length co117 : Value).ownBlock ∧ some k_ ≠ (.slice Ao118 t406.length co118 : Value).ownBlock) HO_16 hw (fun _ hk => ⟨hk.1, hk.2⟩); have n2_ := rst HO402 hw; have n3_ := rsm (fun k_ => some k_ ≠ (u16 : Value).ownBlock ∧ some k_ ≠ (.slice Ao118 t406.length co118 : Value).ownBlock) HO405 hw (fun _ hk => ⟨hk.1, hk.2⟩); have n4_ := rsm (fun k_ => some k_ ≠ (u16 : Value).ownBlock ∧ some k_ ≠ (.slice Ao117 t403.length co117 : Value).ownBlock) HO408 hw (fun _ hk => ⟨hk.1, hk.2⟩); have n5_ := sps #[.int .i64 0, .slice none 0 0, .slice none 0 0, .slice none 0 0] BK377 hw (.p (.p (.p (.p .nil)))); have n6_ : Aside0 (w121.heap[gb410]? = some (.cells #[.int .i64 t399, .slice Ao116 t400.length co116, .slice Ao117 t403.length co117, .slice Ao118 t406.length co118] 29 (0, 0))) := ⟨(by rw [hw]; exact (bx BK410.out))⟩; have n7_ := bhw HB hw; clear hw HO_12 HO_16 HO402 HO405 HO408 BK377 BK410 HB; have HO_12 := n0_; have HO_16 := n1_; have HO402 := n2_; have HO405 := n3_; have HO408 := n4_; have BK377 := n5_; have BK410 := n6_; have HB := n7_; clear n0_ n1_ n2_ n3_ n4_ n5_ n6_ n7_))
               refine bodyPost_ret (results_ct rfl _ _ gb377 29 #[.int .i64 0, .slice none 0 0, .slice none 0 0, .slice none 0 0] (0, 0) _ rfl (bx BK377.out) Tryz.underlying29 rfl (by kernel_rfl)) rfl ?_
               exact ⟨_, _, _, er, nl, nl, nl, bh HB.out⟩
end Go.Proofs.YtdgphlkbmplbpaaGreat.Print
end
section
namespace Go.Proofs.YtdgphlkbmplbpaaGreat.Print
open Go.RowKit Go.Proofs.YtdgphlkbmplbpaaGreatW.PrintWords Go.Proofs.YtdgphlkbmplbpaaGreatW.PrintLast Go.Proofs.YtdgphlkbmplbpaaGreatW.PrintMore
attribute [local go_sem] max2_int min2_int max_two min_two max_three min_three max_four min_four   -- for this text's walks alone
set_option linter.unusedVariables false
set_option linter.unusedSimpArgs false
attribute [local go_sem high] eqA41 eqA70
/-! ### peristyleref14_Same: function 11 -/
def peristyleref14_Same.l0 : Nat → List (S70) → List (S70) → Int → Option (Bool)
 | 0, _, _, _ => none
 | k + 1, x0, x1, x5 => if x5 < (x0.length : Int) then (if 0 ≤ x5 then (if x5 < (x1.length : Int) then (if (!(((rd_T70 x0 x5).f0) == ((rd_T70 x1 x5).f0)) || (!(((rd_T70 x0 x5).f1) == ((rd_T70 x1 x5).f1)))) = true then (some false) else (peristyleref14_Same.l0 k x0 x1 (wrap64 (x5 + 1)))) else (none)) else (none)) else (some true)
def peristyleref14_Same.f (k : Nat) (l0 : List (S70)) (l1 : List (S70)) : Option (Bool) := if (l0.length : Int) = (l1.length : Int) then (peristyleref14_Same.l0 k l0 l1 0) else (some false)
theorem peristyleref14_Same.l0_succ (k) (a0) (a1) (a2) : type_of% (@peristyleref14_Same.l0.eq_2 a0 a1 a2 k) := peristyleref14_Same.l0.eq_2 a0 a1 a2 k
set_option maxHeartbeats 8000000 in
set_option maxRecDepth 100000 in
theorem peristyleref14_Same.calls (k : Nat) (A0 : Option Addr) (c0 : Nat) (l0 : List (S70)) (A1 : Option Addr) (c1 : Nat) (l1 : List (S70)) (r : Bool) (w : World) (hr0 : Kd.C k70 w A0 l0.length l0) (hc0 : l0.length ≤ c0) (hr1 : Kd.C k70 w A1 l1.length l1) (hc1 : l1.length ≤ c1) (h : peristyleref14_Same.f k l0 l1 = some r) :
  Calls Tryz.prog 11 #[.slice A0 l0.length c0, .slice A1 l1.length c1] w fun e w' => e = .returned (.bool r) ∧ Drawn0 w w' := by
 have hu70 := Tryz.underlying70
 have HR0 := Aside0.mk hr0
 have HC0 := Aside0.mk hc0
 clear hr0 hc0
 have HR1 := Aside0.mk hr1
 have HC1 := Aside0.mk hc1
 clear hr1 hc1
 have H := h
 clear h
 unfold peristyleref14_Same.f at H
 replace H := ife H
 rcases H with ⟨c3, c3b0, c3b1, H⟩ | ⟨c3, c3b0, c3b1, H⟩
 ·have c3b2 : (l0.length == l1.length) = true := by (simp at c3 ⊢; omega)
  clear c3
  have H' := Aside0.mk H
  clear H
  go_enter Tryz.func11, Tryz.ntmps11
  go_wp2
  repeat (go_quiet (fail))
  go_loopg [5] k (fun kq v5 w' => ∃ (x5_1 : Int), v5 = .int .i64 x5_1 ∧ Aside0 (peristyleref14_Same.l0 kq l0 l1 x5_1 = some r) ∧ Aside0 (kq ≤ k) ∧ Drawn0 w w')
  case atStart => exact ⟨(0), (by rfl), H', ⟨Nat.le_refl _⟩, by repeat (exact Drawn0.refl _)⟩
  case round =>
   clear H' c3b0 c3b1 c3b2
   obtain ⟨x5_1, rfl, HA, HK1, ⟨m1, rfl⟩⟩ := hrel
   cases gk with
   | zero => exact absurd HA.out (by simp [peristyleref14_Same.l0])
   | succ k1 =>
    have H := HA.out
    clear HA
    simp only [peristyleref14_Same.l0] at H
    replace H := ifd H
    rcases H with ⟨-, c4b0, H⟩ | ⟨-, c4b0, H⟩
    ·replace H := ifn H
     obtain ⟨-, c5b0, H⟩ := H
     replace H := ifn H
     obtain ⟨-, c6b0, H⟩ := H
     replace H := ifd H
     rcases H with ⟨c7, -, H⟩ | ⟨c7, -, H⟩
     ·have c7b0 : (!(((rd_T70 l0 x5_1).f0) == ((rd_T70 l1 x5_1).f0)) || (!(((rd_T70 l0 x5_1).f1) == ((rd_T70 l1 x5_1).f1)))) = true := c7
      clear c7
      obtain rfl := Option.some.inj H
      have p433 : 0 ≤ (x5_1 : Int) := ad
      have q433 : x5_1 < (l0.length : Int) := ad
      obtain ⟨ad433, e433, hx433_0, hx433_1⟩ := at_T70 HR0.out x5_1 p433 q433
      cases e433
      replace p433 := eq_true p433
      replace q433 := eq_true q433
      have p434 : 0 ≤ (x5_1 : Int) := ad
      have q434 : x5_1 < (l1.length : Int) := ad
      obtain ⟨ad434, e434, hx434_0, hx434_1⟩ := at_T70 HR1.out x5_1 p434 q434
      cases e434
      replace p434 := eq_true p434
      replace q434 := eq_true q434
      go_wp2
      repeat (go_quiet (fail); go_wp2)
      go_ret
      exact ⟨by rfl, by repeat (first | exact Drawn0.refl _ | apply Drawn0.step)⟩
     ·have c7b0 : (!(((rd_T70 l0 x5_1).f0) == ((rd_T70 l1 x5_1).f0)) || (!(((rd_T70 l0 x5_1).f1) == ((rd_T70 l1 x5_1).f1)))) = false := by simpa using c7
      clear c7
      have H' := Aside0.mk H
      clear H
      have p433 : 0 ≤ (x5_1 : Int) := ad
      have q433 : x5_1 < (l0.length : Int) := ad
      obtain ⟨ad433, e433, hx433_0, hx433_1⟩ := at_T70 HR0.out x5_1 p433 q433
      cases e433
      replace p433 := eq_true p433
      replace q433 := eq_true q433
      have p434 : 0 ≤ (x5_1 : Int) := ad
      have q434 : x5_1 < (l1.length : Int) := ad
      obtain ⟨ad434, e434, hx434_0, hx434_1⟩ := at_T70 HR1.out x5_1 p434 q434
      cases e434
      replace p434 := eq_true p434
      replace q434 := eq_true q434
      go_wp2
      repeat (go_quiet (fail); go_wp2)
      go_roundg k1
      case measure => have := HK1.out; omega
      case rel => exact ⟨(wrap64 (x5_1 + 1)), (by rfl), H', ⟨by have := HK1.out; omega⟩, by repeat (first | exact Drawn0.refl _ | apply Drawn0.step)⟩
    ·obtain rfl := Option.some.inj H
     go_wp2
     repeat (go_quiet (fail))
     go_ret
     exact ⟨by rfl, by repeat (first | exact Drawn0.refl _ | apply Drawn0.step)⟩
 ·have c3b2 : (l0.length == l1.length) = false := by (simp at c3 ⊢; omega)
  obtain rfl := Option.some.inj H
  go_enter Tryz.func11, Tryz.ntmps11
  go_wp2
  repeat (go_quiet (fail))
  go_ret
  exact ⟨by rfl, by repeat (exact Drawn0.refl _)⟩
/-! ### epoch_Sees: function 32 -/
def epoch_Sees.f (a0 : Int) (a1 : Int) (a2 : Int) : Option (Bool) := if a0 ≤ a2 then (if a1 = 0 then (some true) else (some (decide (a1 > a2)))) else (some false)
set_option maxHeartbeats 8000000 in
set_option maxRecDepth 100000 in
theorem epoch_Sees.calls (a0 : Int) (a1 : Int) (a2 : Int) (r : Bool) (w : World) (h : epoch_Sees.f a0 a1 a2 = some r) :
  Calls Tryz.prog 32 #[.int .i64 a0, .int .i64 a1, .int .i64 a2] w fun e w' => e = .returned (.bool r) ∧ Drawn0 w w' := by
 have H := h
 clear h
 unfold epoch_Sees.f at H
 replace H := ifd H
 rcases H with ⟨-, c4b0, H⟩ | ⟨-, c4b0, H⟩
 ·replace H := ife H
  rcases H with ⟨-, c5b0, c5b1, H⟩ | ⟨c5, c5b0, c5b1, H⟩
  ·obtain rfl := Option.some.inj H
   go_enter Tryz.func32, Tryz.ntmps32
   go_wp2
   go_ret
   exact ⟨by rfl, by repeat (exact Drawn0.refl _)⟩
  ·obtain rfl := Option.some.inj H
   go_enter Tryz.func32, Tryz.ntmps32
   go_wp2
   go_ret
   exact ⟨by rfl, by repeat (exact Drawn0.refl _)⟩
 ·obtain rfl := Option.some.inj H
  go_enter Tryz.func32, Tryz.ntmps32
  go_wp2
  go_ret
  exact ⟨by rfl, by repeat (exact Drawn0.refl _)⟩
/-! ### peristylelaw21_awake: function 8 -/
def peristylelaw21_awake.f (k : Nat)  : Option (Bool) := (epoch_First.f).bind fun bt435 => ((epoch_Advance.f bt435.1 bt435.2).bind fun bt437 => ((epoch_Visible.f k (([(⟨1, 0, 3⟩ : S66)] : List (S66))) (([(⟨1, 2⟩ : S68)] : List (S68))) 2).bind fun bt447 => ((epoch_At.f bt437.1 bt437.2.1 0).bind fun bt459 => (if (bt437.1 == 2 && (bt437.2.1 == 1)) = true then (if bt437.2.2 = 0 then (if bt447.2.2.2.2 = 0 then ((poslist_List_Spans.f k bt447.1 bt447.2.1 bt447.2.2.1 bt447.2.2.2.1).bind fun t461 => ((peristyleref14_Same.f k t461 (([(⟨0, 1⟩ : S70), (⟨2, 3⟩ : S70)] : List (S70)))).bind fun t467 => (if t467 = true then (if bt459.1 = 2 then (if bt459.2 = 0 then ((epoch_Sees.f 2 4 3).bind fun t468 => (if t468 = true then ((epoch_Sees.f 2 4 4).bind fun t469 => (some (!t469))) else (none))) else (none)) else (none)) else (none)))) else (none)) else (none)) else (none)))))
set_option maxHeartbeats 8000000 in
set_option maxRecDepth 100000 in
theorem peristylelaw21_awake.calls (k : Nat)  (r : Bool) (w : World) (h : peristylelaw21_awake.f k  = some r) :
  Calls Tryz.prog 8 #[] w fun e w' => e = .returned (.bool r) ∧ Below w.heap.size w w' := by
 have hu41 := Tryz.underlying41
 have hu66 := Tryz.underlying66
 have hu68 := Tryz.underlying68
 have hu29 := Tryz.underlying29
 have hu70 := Tryz.underlying70
 have HB := Aside0.mk (Below.refl w.heap.size w)
 have H := h
 clear h
 unfold peristylelaw21_awake.f at H
 replace H := bd H
 obtain ⟨⟨t435, t436⟩, A1, H⟩ := H
 dsimp only at H
 replace H := bd H
 obtain ⟨⟨t437, t438, t439⟩, A2, H⟩ := H
 dsimp only at H
 obtain ⟨y441, hy441⟩ : ∃ y_ : List (S66), y_ = (([(⟨1, 0, 3⟩ : S66)] : List (S66))) := ⟨_, rfl⟩
 replace H : ((epoch_Visible.f k y441 (([(⟨1, 2⟩ : S68)] : List (S68))) 2).bind fun bt447 => ((epoch_At.f t437 t438 0).bind fun bt459 => (if (t437 == 2 && (t438 == 1)) = true then (if t439 = 0 then (if bt447.2.2.2.2 = 0 then ((poslist_List_Spans.f k bt447.1 bt447.2.1 bt447.2.2.1 bt447.2.2.2.1).bind fun t461 => ((peristyleref14_Same.f k t461 (([(⟨0, 1⟩ : S70), (⟨2, 3⟩ : S70)] : List (S70)))).bind fun t467 => (if t467 = true then (if bt459.1 = 2 then (if bt459.2 = 0 then ((epoch_Sees.f 2 4 3).bind fun t468 => (if t468 = true then ((epoch_Sees.f 2 4 4).bind fun t469 => (some (!t469))) else (none))) else (none)) else (none)) else (none)))) else (none)) else (none)) else (none)))) = some r := by (rw [hy441]; with_reducible exact H)
 have Ny441 := Aside0.mk hy441
 clear hy441
 obtain ⟨y444, hy444⟩ : ∃ y_ : List (S68), y_ = (([(⟨1, 2⟩ : S68)] : List (S68))) := ⟨_, rfl⟩
 replace H : ((epoch_Visible.f k y441 y444 2).bind fun bt447 => ((epoch_At.f t437 t438 0).bind fun bt459 => (if (t437 == 2 && (t438 == 1)) = true then (if t439 = 0 then (if bt447.2.2.2.2 = 0 then ((poslist_List_Spans.f k bt447.1 bt447.2.1 bt447.2.2.1 bt447.2.2.2.1).bind fun t461 => ((peristyleref14_Same.f k t461 (([(⟨0, 1⟩ : S70), (⟨2, 3⟩ : S70)] : List (S70)))).bind fun t467 => (if t467 = true then (if bt459.1 = 2 then (if bt459.2 = 0 then ((epoch_Sees.f 2 4 3).bind fun t468 => (if t468 = true then ((epoch_Sees.f 2 4 4).bind fun t469 => (some (!t469))) else (none))) else (none)) else (none)) else (none)))) else (none)) else (none)) else (none)))) = some r := by (rw [hy444]; with_reducible exact H)
 have Ny444 := Aside0.mk hy444
 clear hy444
 replace H := bd H
 obtain ⟨⟨t447, t448, t451, t454, t457⟩, A3, H⟩ := H
 dsimp only at H
 replace H := bd H
 obtain ⟨⟨t459, t460⟩, A4, H⟩ := H
 dsimp only at H
 replace H := ifn H
 obtain ⟨c5, -, H⟩ := H
 have c5b0 : (t437 == 2 && (t438 == 1)) = true := c5
 ((have c5b1 : decide (t437 = 2 && (t438 == 1)) = true := by simpa using c5))
 ((have c5b2 : (t437 == 2 && (t438 == 1)) = true := by simpa using c5))
 clear c5
 replace H := ife H
 rcases H with ⟨-, c6b0, c6b1, H⟩ | ⟨-, -, -, ⟨⟩⟩
 replace H := ife H
 rcases H with ⟨-, c7b0, c7b1, H⟩ | ⟨-, -, -, ⟨⟩⟩
 replace H := bd H
 obtain ⟨t461, A8, H⟩ := H
 obtain ⟨y464, hy464⟩ : ∃ y_ : List (S70), y_ = (([(⟨0, 1⟩ : S70), (⟨2, 3⟩ : S70)] : List (S70))) := ⟨_, rfl⟩
 replace H : ((peristyleref14_Same.f k t461 y464).bind fun t467 => (if t467 = true then (if t459 = 2 then (if t460 = 0 then ((epoch_Sees.f 2 4 3).bind fun t468 => (if t468 = true then ((epoch_Sees.f 2 4 4).bind fun t469 => (some (!t469))) else (none))) else (none)) else (none)) else (none))) = some r := by (rw [hy464]; with_reducible exact H)
 have Ny464 := Aside0.mk hy464
 clear hy464
 replace H := bd H
 obtain ⟨t467, A9, H⟩ := H
 replace H := ifb H
 rcases H with ⟨rfl, H⟩ | ⟨-, ⟨⟩⟩
 replace H := ife H
 rcases H with ⟨-, c11b0, c11b1, H⟩ | ⟨-, -, -, ⟨⟩⟩
 replace H := ife H
 rcases H with ⟨-, c12b0, c12b1, H⟩ | ⟨-, -, -, ⟨⟩⟩
 replace H := bd H
 obtain ⟨t468, A13, H⟩ := H
 replace H := ifb H
 rcases H with ⟨rfl, H⟩ | ⟨-, ⟨⟩⟩
 replace H := bd H
 obtain ⟨t469, A15, H⟩ := H
 obtain rfl := Option.some.inj H
 go_enter Tryz.func8, Tryz.ntmps8
 go_wp2_with (first | ((with_reducible refine gate_callee (f := 22) rfl ?_); refine gL 8 Tryz.func22 #[] ?_; (with_reducible refine (epoch_First.calls  t435 t436 _ A1.out).mono ?_); rintro e w16 ⟨rfl, hb⟩; refine ⟨_, rfl, ?_⟩; replace HB := bsa HB hb; clear hb) | ((with_reducible refine gate_callee (f := 14) rfl ?_); refine gL 9 Tryz.func14 #[.agg #[.int .i64 t435, .int .i64 t436]] ?_; (with_reducible refine (epoch_Advance.calls t435 t436 t437 t438 t439 _ A2.out).mono ?_); rintro e w17 ⟨rfl, hb⟩; refine ⟨_, rfl, ?_⟩; replace HB := bsa HB hb; clear hb) | ((with_reducible refine gate_dst (N := 1) rfl ?_); ((refine gate_guard (by rfl) ?_; dsimp only)); refine boxE HB 1 41 #[.int .i64 0, .int .i64 0] ?_; clear HB; intro gb440 w18 BK440 GW440 hg hb HB; have GE440 := GW440; clear hb hg; obtain ⟨hcz19_0, hcz19_1, hfz19_0, hfz19_1⟩ := b2 BK440) | ((with_reducible refine gate_dst (N := 14) rfl ?_); ((refine gate_guard (by rfl) ?_; dsimp only)); refine Kd.R_lit k66 _ 66 ?hg (N := 14) ?hd (xs := ([(⟨1, 0, 3⟩ : S66)] : List (S66))) (inner := [.int .i64 1, .int .i64 0, .int .i64 3]) (ok := fun _ => True) (okp := fun _ => True) ?hr ?hp (fun _ hk => hk) trivial (Below.refl _ _) (Nat.le_refl _) (by simp) ?_; (case hd => rfl); (case hg => rfl); (case hr => (go_simp; done)); (case hp => exact (Reps.c3 (show Kd.M k66 _ _ _ (⟨1, 0, 3⟩ : S66) [.int .i64 1, .int .i64 0, .int .i64 3] from (k66_mkM _ _ _ (⟨1, 0, 3⟩ : S66) )) (Reps.none _ _))); intro v442 w20 ho21 hb hg_ hnew_; clear hg_ hnew_; (rw [← Ny441.out] at ho21); have HO443 := Aside0.mk (Kd.R_lower ho21 (below_size (bh HB.out))); replace BK440 := Aside0.mk (blk_below (g := gb440) (o := .cells #[.int .i64 t437, .int .i64 t438] 41 (0, 0)) (by refine blk_put (cs := #[.int .i64 t437, .int .i64 0]) ?_ 1 _ rfl; refine blk_put (cs := #[.int .i64 0, .int .i64 0]) ?_ 0 _ rfl; exact BK440.out) hb); replace HB := bsa HB hb; clear hb ho21) | ((with_reducible refine gate_dst (N := 16) rfl ?_); ((refine gate_guard (by rfl) ?_; dsimp only)); refine Kd.R_lit k68 _ 68 ?hg (N := 16) ?hd (xs := ([(⟨1, 2⟩ : S68)] : List (S68))) (inner := [.int .i64 1, .int .i64 2]) (ok := fun _ => True) (okp := fun _ => True) ?hr ?hp (fun _ hk => hk) trivial (Below.refl _ _) (Nat.le_refl _) (by simp) ?_; (case hd => rfl); (case hg => rfl); (case hr => (go_simp; done)); (case hp => exact (Reps.c2 (show Kd.M k68 _ _ _ (⟨1, 2⟩ : S68) [.int .i64 1, .int .i64 2] from (k68_mkM _ _ _ (⟨1, 2⟩ : S68) )) (Reps.none _ _))); intro v445 w22 ho23 hb hg_ hnew_; clear hg_ hnew_; (rw [← Ny444.out] at ho23); replace HO443 := rba HO443 hb; have HO446 := Aside0.mk (Kd.R_lower ho23 (below_size (bh HB.out))); replace BK440 := bba BK440 hb; replace HB := bsa HB hb; clear hb ho23; obtain ⟨Ao24, co24, eo24⟩ := Kd.R_slice HO443.out; subst eo24; obtain ⟨Ao25, co25, eo25⟩ := Kd.R_slice HO446.out; subst eo25) | ((with_reducible refine gate_callee (f := 9) rfl ?_); refine gL 17 Tryz.func9 #[.slice Ao24 y441.length co24, .slice Ao25 y444.length co25, .int .i64 2] ?_; (with_reducible refine (epoch_Visible.calls k _ _ y441 _ _ y444 2 t447 t448 t451 t454 t457 _ ?side1 ?side2 ?side3 ?side4 A3.out).mono ?_); (case side1 => exact cx (Kd.R_reads' HO443.out).2.2); (case side2 => exact (Kd.R_reads' HO443.out).2.1); (case side3 => exact cx (Kd.R_reads' HO446.out).2.2); (case side4 => exact (Kd.R_reads' HO446.out).2.1); rintro e w26 ⟨v449, v452, v455, rfl, ho0, ho1, ho2, hb⟩; refine ⟨_, rfl, ?_⟩; replace HO443 := rba HO443 hb; replace HO446 := rba HO446 hb; have HO450 := Aside0.mk (Kd.R_lower ho0 (below_size (bh HB.out))); have HO453 := Aside0.mk (Kd.R_lower ho1 (below_size (bh HB.out))); have HO456 := Aside0.mk (Kd.R_lower ho2 (below_size (bh HB.out))); replace BK440 := bba BK440 hb; replace HB := bsa HB hb; clear hb ho0 ho1 ho2) | ((with_reducible refine gate_dst (N := 3) rfl ?_); ((refine gate_guard (by rfl) ?_; dsimp only)); refine box_event ?hg (N := 3) ?hd (cs := #[.int .i64 0, .slice none 0 0, .slice none 0 0, .slice none 0 0]) (t := 29) ?hr ?_; (case hd => rfl); (case hg => rfl); (case hr => (go_simp; done)); intro gb458 hg w27 hbox hb; replace HO443 := rba HO443 hb; replace HO446 := rba HO446 hb; replace HO450 := rba HO450 hb; replace HO453 := rba HO453 hb; replace HO456 := rba HO456 hb; have BK458 := Aside0.mk (hbox); have GW458 := bza HB hg; have GE458 := bza HB hg; replace HB := bsa HB hb; obtain ⟨NB440_458, NB458_440⟩ := bnm BK440 hg; replace BK440 := bba BK440 hb; clear hb hbox hg; have hnb28 := NB458_440.out; have hnc28 := NB440_458.out; obtain ⟨hcz29_0, hcz29_1, hcz29_2, hcz29_3, hfz29_0, hfz29_1, hfz29_2, hfz29_3⟩ := b4 BK458; obtain ⟨Ao30, co30, eo30⟩ := Kd.R_slice HO450.out; subst eo30; obtain ⟨Ao31, co31, eo31⟩ := Kd.R_slice HO453.out; subst eo31; obtain ⟨Ao32, co32, eo32⟩ := Kd.R_slice HO456.out; subst eo32) | ((with_reducible refine gate_store (t := 29) (p := 3) rfl ?_); refine stE 29 3 ((((w27.setCell ⟨gb458, 0, none⟩ (.int .i64 t447)).setCell ⟨gb458, 1, none⟩ (.slice Ao30 t448.length co30)).setCell ⟨gb458, 2, none⟩ (.slice Ao31 t451.length co31)).setCell ⟨gb458, 3, none⟩ (.slice Ao32 t454.length co32)) ?_; intro w33 hw; have n0_ := rsm (fun _ => True) HO443 hw (fun _ hk => trivial); have n1_ := rsm (fun _ => True) HO446 hw (fun _ hk => trivial); have n2_ := rsm (fun _ => True) HO450 hw (fun _ hk => trivial); have n3_ := rst HO453 hw; have n4_ := rst HO456 hw; have n5_ : Aside0 (w33.heap[gb440]? = some (.cells #[.int .i64 t437, .int .i64 t438] 41 (0, 0))) := ⟨(by rw [hw]; exact (bx BK440.out))⟩; have n6_ := sps #[.int .i64 t447, .slice Ao30 t448.length co30, .slice Ao31 t451.length co31, .slice Ao32 t454.length co32] BK458 hw (.p (.p (.p (.p .nil)))); have n7_ := bhw HB hw; clear hw HO443 HO446 HO450 HO453 HO456 BK440 BK458 HB; have HO443 := n0_; have HO446 := n1_; have HO450 := n2_; have HO453 := n3_; have HO456 := n4_; have BK440 := n5_; have BK458 := n6_; have HB := n7_; clear n0_ n1_ n2_ n3_ n4_ n5_ n6_ n7_; obtain ⟨hcz34_0, hcz34_1, hfz34_0, hfz34_1⟩ := b2 BK440) | ((with_reducible refine gate_callee (f := 18) rfl ?_); refine gL 22 Tryz.func18 #[.agg #[.int .i64 t437, .int .i64 t438], .int .i64 0] ?_; (with_reducible refine (epoch_At.calls t437 t438 0 t459 t460 _ A4.out).mono ?_); rintro e w35 ⟨rfl, hb⟩; refine ⟨_, rfl, ?_⟩; replace HO443 := rba HO443 hb; replace HO446 := rba HO446 hb; replace HO450 := rba HO450 hb; replace HO453 := rba HO453 hb; replace HO456 := rba HO456 hb; replace BK440 := bba BK440 hb; replace BK458 := bba BK458 hb; replace HB := bsa HB hb; clear hb; obtain ⟨hcz36_0, hcz36_1, hfz36_0, hfz36_1⟩ := b2 BK440; obtain ⟨hcz37_0, hcz37_1, hcz37_2, hcz37_3, hfz37_0, hfz37_1, hfz37_2, hfz37_3⟩ := b4 BK458) | (go_at_call 12; (with_reducible refine (poslist_List_Spans.calls k t447 _ _ t448 _ _ t451 _ _ t454 t461 _ ?side1 ?side2 ?side3 ?side4 ?side5 ?side6 A8.out).mono ?_); (case side1 => exact cx (Kd.R_reads' HO450.out).2.2); (case side2 => exact (Kd.R_reads' HO450.out).2.1); (case side3 => exact cx (Kd.R_reads' HO453.out).2.2); (case side4 => exact (Kd.R_reads' HO453.out).2.1); (case side5 => exact cx (Kd.R_reads' HO456.out).2.2); (case side6 => exact (Kd.R_reads' HO456.out).2.1); rintro e w38 ⟨v462, rfl, ho0, hb⟩; replace HO443 := rba HO443 hb; replace HO446 := rba HO446 hb; replace HO453 := rba HO453 hb; replace HO456 := rba HO456 hb; have HO463 := Aside0.mk (Kd.R_lower (Kd.R_new' ho0 (Kd.R_lt (rx HO450.out))) (below_size (bh HB.out))); replace HO450 := Aside0.mk (Kd.R_elder' (rx HO450.out) (Kd.R_base ho0) hb); replace BK440 := bba BK440 hb; replace BK458 := bba BK458 hb; replace HB := bsa HB hb; clear hb ho0 A8) | ((with_reducible refine gate_dst (N := 41) rfl ?_); ((refine gate_guard (by rfl) ?_; dsimp only)); refine Kd.R_lit k70 _ 70 ?hg (N := 41) ?hd (xs := ([(⟨0, 1⟩ : S70), (⟨2, 3⟩ : S70)] : List (S70))) (inner := [.int .i64 0, .int .i64 1, .int .i64 2, .int .i64 3]) (ok := fun _ => True) (okp := fun _ => True) ?hr ?hp (fun _ hk => hk) trivial (Below.refl _ _) (Nat.le_refl _) (by simp) ?_; (case hd => rfl); (case hg => rfl); (case hr => (go_simp; done)); (case hp => exact (Reps.c2 (show Kd.M k70 _ _ _ (⟨0, 1⟩ : S70) [.int .i64 0, .int .i64 1] from (k70_mkM _ _ _ (⟨0, 1⟩ : S70) )) (Reps.c2 (show Kd.M k70 _ _ _ (⟨2, 3⟩ : S70) [.int .i64 2, .int .i64 3] from (k70_mkM _ _ _ (⟨2, 3⟩ : S70) )) (Reps.none _ _)))); intro v465 w39 ho40 hb hg_ hnew_; clear hg_ hnew_; (rw [← Ny464.out] at ho40); replace HO443 := rba HO443 hb; replace HO446 := rba HO446 hb; replace HO453 := rba HO453 hb; replace HO456 := rba HO456 hb; have HO466 := Aside0.mk (Kd.R_lower (Kd.R_new' (Kd.R_new' ho40 (Kd.R_lt (rx HO450.out))) (Kd.R_lt (rx HO463.out))) (below_size (bh HB.out))); replace HO450 := Aside0.mk (Kd.R_elder' (rx HO450.out) (Kd.R_base ho40) hb); replace HO463 := Aside0.mk (Kd.R_elder' (rx HO463.out) (Kd.R_base ho40) hb); replace BK440 := bba BK440 hb; replace BK458 := bba BK458 hb; replace HB := bsa HB hb; clear hb ho40; obtain ⟨Ao41, co41, eo41⟩ := Kd.R_slice HO463.out; subst eo41; obtain ⟨Ao42, co42, eo42⟩ := Kd.R_slice HO466.out; subst eo42) | (go_at_call 11; (with_reducible refine (peristyleref14_Same.calls k _ _ t461 _ _ y464 true _ ?side1 ?side2 ?side3 ?side4 A9.out).mono ?_); (case side1 => exact cx (Kd.R_reads' HO463.out).2.2); (case side2 => exact (Kd.R_reads' HO463.out).2.1); (case side3 => exact cx (Kd.R_reads' HO466.out).2.2); (case side4 => exact (Kd.R_reads' HO466.out).2.1); rintro e w' ⟨rfl, ⟨nd, rfl⟩⟩; clear A9) | (go_at_call 32; (with_reducible refine (epoch_Sees.calls 2 4 3 true _ A13.out).mono ?_); rintro e w' ⟨rfl, ⟨nd, rfl⟩⟩; clear A13) | (go_at_call 32; (with_reducible refine (epoch_Sees.calls 2 4 4 t469 _ A15.out).mono ?_); rintro e w' ⟨rfl, ⟨nd, rfl⟩⟩; clear A15))
 go_ret
 exact ⟨er, bh HB.out⟩
end Go.Proofs.YtdgphlkbmplbpaaGreat.Print
end
section
namespace Go.Proofs.YtdgphlkbmplbpaaGreat.Print
open Go.RowKit Go.Proofs.YtdgphlkbmplbpaaGreatW.PrintWords Go.Proofs.YtdgphlkbmplbpaaGreatW.PrintLast Go.Proofs.YtdgphlkbmplbpaaGreatW.PrintMore
attribute [local go_sem] max2_int min2_int max_two min_two max_three min_three max_four min_four   -- for this text's walks alone
set_option linter.unusedVariables false
set_option linter.unusedSimpArgs false
attribute [local go_sem high] eqA41
/-! ### peristylelaw21_EpochClocks: function 4 -/
def peristylelaw21_EpochClocks.f (k : Nat) (a0_0 : Int) (a0_1 : Int) (a1 : Int) (a2 : Int) : Option (Bool) := (epoch_Advance.f a0_0 a0_1).bind fun bt471 => ((peristyleref21_Advance.f a0_0 a0_1).bind fun bt475 => ((epoch_Raise.f a0_0 a0_1 a1).bind fun bt479 => ((peristyleref21_Raise.f a0_0 a0_1 a1).bind fun bt483 => ((epoch_At.f a0_0 a0_1 a2).bind fun bt487 => ((peristyleref21_At.f a0_0 a0_1 a2).bind fun bt489 => (if (bt471.1 == bt475.1 && (bt471.2.1 == bt475.2.1)) = true then (if bt471.2.2 = bt475.2.2 then (if (bt479.1 == bt483.1 && (bt479.2.1 == bt483.2.1)) = true then (if bt479.2.2 = bt483.2.2 then (if bt487.1 = bt489.1 then (if bt487.2 = bt489.2 then ((epoch_Check.f a0_0 a0_1).bind fun t491 => ((peristyleref21_May.f a0_0 a0_1).bind fun t492 => (if ((t491 == 0) == t492) = true then ((epoch_First.f).bind fun bt493 => (if (bt493.1 == 1 && (bt493.2 == 1)) = true then ((peristylelaw21_awake.f k).bind fun t495 => (some t495)) else (none))) else (none)))) else (none)) else (none)) else (none)) else (none)) else (none)) else (none)))))))
def peristylelaw21_EpochClocks.T7 : Bool × List (List Nat × List Nat) := (true, [([], []), ([], []), ([0, 1], [0, 1]), ([2], [2]), ([3], [3]), ([3], [3]), ([4, 5, 3], [3, 4, 5]), ([3, 6], [3, 6]), ([7, 3], [7]), ([8], [8]), ([8], [8]), ([9, 10, 8], [8, 9, 10]), ([8, 11], [8, 11]), ([12, 8], [12]), ([13], [13]), ([13], [13]), ([14, 15, 13], [13, 14, 15]), ([13, 16], [13, 16]), ([17, 13], [17]), ([18], [18]), ([18], [18]), ([19, 20, 18], [18, 19, 20]), ([18, 21], [18, 21]), ([22, 18], [22]), ([23], [23]), ([23], [23]), ([24, 25, 23], [23, 24, 25]), ([23, 26], [23, 26]), ([27, 23], [27]), ([28], [28]), ([29, 28, 28], [28, 29]), ([30, 28], [28, 30]), ([28], [28]), ([32, 30, 28], [28, 32]), ([31, 33, 28], [28, 31, 33]), ([28, 34], [28, 34]), ([35, 33], [35]), ([36, 36], [36]), ([36], [36]), ([37, 38, 36], [36, 37, 38]), ([36, 39], [36, 39]), ([40, 37], [40]), ([41, 41], [41]), ([41, 42], [41, 42]), ([43, 42, 0, 1, 2, 3, 4, 5, 6, 7, 8, 9, 10, 11, 12, 13, 14, 15, 16, 17, 18, 19, 20, 21, 22, 23, 24, 25, 26, 27, 28, 29, 30, 31, 32, 33, 34, 35, 36, 37, 38, 39, 40, 41, 42, 43], [43])])
def peristylelaw21_EpochClocks.B7 : List Nat := [0, 0, 3, 7, 15, 15, 63, 127, 255, 511, 511, 2047, 4095, 8191, 16383, 16383, 65535, 131071, 262143, 524287, 524287, 2097151, 4194303, 8388607, 16777215, 16777215, 67108863, 134217727, 268435455, 536870911, 1073741823, 2147483647, 536870911, 6442450943, 17179869183, 34359738367, 68719476735, 137438953471, 137438953471, 549755813887, 1099511627775, 2199023255551, 4398046511103, 8796093022207, 17592186044415]
theorem peristylelaw21_EpochClocks.tab7 : rtab .any (opsOf Tryz.f4 7) = peristylelaw21_EpochClocks.T7 := by kernel_rfl
theorem peristylelaw21_EpochClocks.bits7 : waitsOk peristylelaw21_EpochClocks.T7.2 peristylelaw21_EpochClocks.B7 = true := by kernel_rfl
set_option maxHeartbeats 8000000 in
set_option maxRecDepth 100000 in
theorem peristylelaw21_EpochClocks.calls (k : Nat) (a0_0 : Int) (a0_1 : Int) (a1 : Int) (a2 : Int) (r : Bool) (w : World) (h : peristylelaw21_EpochClocks.f k a0_0 a0_1 a1 a2 = some r) :
  Calls Tryz.prog 4 #[.agg #[.int .i64 a0_0, .int .i64 a0_1], .int .i64 a1, .int .i64 a2] w fun e w' => e = .returned (.bool r) ∧ Below w.heap.size w w' := by
 have hu41 := Tryz.underlying41
 have HB := Aside0.mk (Below.refl w.heap.size w)
 have H := h
 clear h
 unfold peristylelaw21_EpochClocks.f at H
 replace H := bd H
 obtain ⟨⟨t471, t472, t473⟩, A4, H⟩ := H
 dsimp only at H
 replace H := bd H
 obtain ⟨⟨t475, t476, t477⟩, A5, H⟩ := H
 dsimp only at H
 replace H := bd H
 obtain ⟨⟨t479, t480, t481⟩, A6, H⟩ := H
 dsimp only at H
 replace H := bd H
 obtain ⟨⟨t483, t484, t485⟩, A7, H⟩ := H
 dsimp only at H
 replace H := bd H
 obtain ⟨⟨t487, t488⟩, A8, H⟩ := H
 dsimp only at H
 replace H := bd H
 obtain ⟨⟨t489, t490⟩, A9, H⟩ := H
 dsimp only at H
 replace H := ifn H
 obtain ⟨c10, -, H⟩ := H
 have c10b0 : (t471 == t475 && (t472 == t476)) = true := c10
 ((have c10b1 : decide (t471 = t475 && (t472 == t476)) = true := by simpa using c10))
 ((have c10b2 : (t471 == t475 && (t472 == t476)) = true := by simpa using c10))
 clear c10
 replace H := ife H
 rcases H with ⟨-, c11b0, c11b1, H⟩ | ⟨-, -, -, ⟨⟩⟩
 replace H := ifn H
 obtain ⟨c12, -, H⟩ := H
 have c12b0 : (t479 == t483 && (t480 == t484)) = true := c12
 ((have c12b1 : decide (t479 = t483 && (t480 == t484)) = true := by simpa using c12))
 ((have c12b2 : (t479 == t483 && (t480 == t484)) = true := by simpa using c12))
 clear c12
 replace H := ife H
 rcases H with ⟨-, c13b0, c13b1, H⟩ | ⟨-, -, -, ⟨⟩⟩
 replace H := ife H
 rcases H with ⟨-, c14b0, c14b1, H⟩ | ⟨-, -, -, ⟨⟩⟩
 replace H := ife H
 rcases H with ⟨-, c15b0, c15b1, H⟩ | ⟨-, -, -, ⟨⟩⟩
 replace H := bd H
 obtain ⟨t491, A16, H⟩ := H
 replace H := bd H
 obtain ⟨t492, A17, H⟩ := H
 replace H := ifn H
 obtain ⟨c18, -, H⟩ := H
 have c18b0 : ((t491 == 0) == t492) = true := c18
 ((have c18b1 : decide ((t491 == 0) = t492) = true := by simpa using c18))
 ((have c18b2 : ((t491 == 0) == t492) = true := by simpa using c18))
 clear c18
 replace H := bd H
 obtain ⟨⟨t493, t494⟩, A19, H⟩ := H
 dsimp only at H
 replace H := ifn H
 obtain ⟨c20, -, H⟩ := H
 have c20b0 : (t493 == 1 && (t494 == 1)) = true := c20
 ((have c20b1 : decide (t493 = 1 && (t494 == 1)) = true := by simpa using c20))
 ((have c20b2 : (t493 == 1 && (t494 == 1)) = true := by simpa using c20))
 clear c20
 replace H := bd H
 obtain ⟨t495, A21, H⟩ := H
 obtain rfl := Option.some.inj H
 go_enter Tryz.func4, Tryz.ntmps4
 go_wp2_with (first | ((with_reducible refine gate_dst (N := 3) rfl ?_); refine boxE HB 3 41 #[.int .i64 a0_0, .int .i64 a0_1] ?_; clear HB; intro gb470 w22 BK470 GW470 hg hb HB; have GE470 := GW470; clear hb hg; obtain ⟨hcz23_0, hcz23_1, hfz23_0, hfz23_1⟩ := b2 BK470) | ((with_reducible refine gate_callee (f := 14) rfl ?_); refine gL 21 Tryz.func14 #[.agg #[.int .i64 a0_0, .int .i64 a0_1]] ?_; (with_reducible refine (epoch_Advance.calls a0_0 a0_1 t471 t472 t473 _ A4.out).mono ?_); rintro e w24 ⟨rfl, hb⟩; refine ⟨_, rfl, ?_⟩; replace BK470 := bba BK470 hb; replace HB := bsa HB hb; clear hb) | ((with_reducible refine gate_dst (N := 7) rfl ?_); refine boxE HB 7 41 #[.int .i64 0, .int .i64 0] ?_; clear HB; intro gb474 w25 BK474 GW474 hg hb HB; have GE474 := GW474; have NB470_474 := bna BK470 hg; have NB474_470 := bma BK470 hg; replace BK470 := bba BK470 hb; clear hb hg; have hnb26 := NB474_470.out; have hnc26 := NB470_474.out; obtain ⟨hcz27_0, hcz27_1, hfz27_0, hfz27_1⟩ := b2 BK474; obtain ⟨hcz28_0, hcz28_1, hfz28_0, hfz28_1⟩ := b2 BK470) | ((with_reducible refine gate_callee (f := 15) rfl ?_); refine gL 26 Tryz.func15 #[.agg #[.int .i64 a0_0, .int .i64 a0_1]] ?_; (with_reducible refine (peristyleref21_Advance.calls a0_0 a0_1 t475 t476 t477 _ A5.out).mono ?_); rintro e w29 ⟨rfl, hb⟩; refine ⟨_, rfl, ?_⟩; replace BK470 := Aside0.mk (blk_below (g := gb470) (o := .cells #[.int .i64 a0_0, .int .i64 a0_1] 41 (0, 0)) (bx BK470.out) hb); replace BK474 := Aside0.mk (blk_below (g := gb474) (o := .cells #[.int .i64 t471, .int .i64 t472] 41 (0, 0)) (by refine blk_put (cs := #[.int .i64 t471, .int .i64 0]) ?_ 1 _ rfl; refine blk_put (cs := #[.int .i64 0, .int .i64 0]) ?_ 0 _ rfl; exact BK474.out) hb); replace HB := bsa HB hb; clear hb) | ((with_reducible refine gate_dst (N := 9) rfl ?_); refine boxE HB 9 41 #[.int .i64 0, .int .i64 0] ?_; clear HB; intro gb478 w30 BK478 GW478 hg hb HB; have GE478 := GW478; have NB470_478 := bna BK470 hg; have NB478_470 := bma BK470 hg; replace BK470 := bba BK470 hb; have NB474_478 := bna BK474 hg; have NB478_474 := bma BK474 hg; replace BK474 := bba BK474 hb; clear hb hg; have hnb31 := NB478_470.out; have hnc31 := NB470_478.out; have hnb32 := NB478_474.out; have hnc32 := NB474_478.out; obtain ⟨hcz33_0, hcz33_1, hfz33_0, hfz33_1⟩ := b2 BK478; obtain ⟨hcz34_0, hcz34_1, hfz34_0, hfz34_1⟩ := b2 BK470) | ((with_reducible refine gate_callee (f := 16) rfl ?_); refine gL 32 Tryz.func16 #[.agg #[.int .i64 a0_0, .int .i64 a0_1], .int .i64 a1] ?_; (with_reducible refine (epoch_Raise.calls a0_0 a0_1 a1 t479 t480 t481 _ A6.out).mono ?_); rintro e w35 ⟨rfl, hb⟩; refine ⟨_, rfl, ?_⟩; replace BK470 := Aside0.mk (blk_below (g := gb470) (o := .cells #[.int .i64 a0_0, .int .i64 a0_1] 41 (0, 0)) (bx BK470.out) hb); replace BK474 := Aside0.mk (blk_below (g := gb474) (o := .cells #[.int .i64 t471, .int .i64 t472] 41 (0, 0)) (bx BK474.out) hb); replace BK478 := Aside0.mk (blk_below (g := gb478) (o := .cells #[.int .i64 t475, .int .i64 t476] 41 (0, 0)) (by refine blk_put (cs := #[.int .i64 t475, .int .i64 0]) ?_ 1 _ rfl; refine blk_put (cs := #[.int .i64 0, .int .i64 0]) ?_ 0 _ rfl; exact BK478.out) hb); replace HB := bsa HB hb; clear hb) | ((with_reducible refine gate_dst (N := 11) rfl ?_); refine boxE HB 11 41 #[.int .i64 0, .int .i64 0] ?_; clear HB; intro gb482 w36 BK482 GW482 hg hb HB; have GE482 := GW482; have NB470_482 := bna BK470 hg; have NB482_470 := bma BK470 hg; replace BK470 := bba BK470 hb; have NB474_482 := bna BK474 hg; have NB482_474 := bma BK474 hg; replace BK474 := bba BK474 hb; have NB478_482 := bna BK478 hg; have NB482_478 := bma BK478 hg; replace BK478 := bba BK478 hb; clear hb hg; have hnb37 := NB482_470.out; have hnc37 := NB470_482.out; have hnb38 := NB482_474.out; have hnc38 := NB474_482.out; have hnb39 := NB482_478.out; have hnc39 := NB478_482.out; obtain ⟨hcz40_0, hcz40_1, hfz40_0, hfz40_1⟩ := b2 BK482; obtain ⟨hcz41_0, hcz41_1, hfz41_0, hfz41_1⟩ := b2 BK470) | ((with_reducible refine gate_callee (f := 17) rfl ?_); refine gL 38 Tryz.func17 #[.agg #[.int .i64 a0_0, .int .i64 a0_1], .int .i64 a1] ?_; (with_reducible refine (peristyleref21_Raise.calls a0_0 a0_1 a1 t483 t484 t485 _ A7.out).mono ?_); rintro e w42 ⟨rfl, hb⟩; refine ⟨_, rfl, ?_⟩; replace BK470 := Aside0.mk (blk_below (g := gb470) (o := .cells #[.int .i64 a0_0, .int .i64 a0_1] 41 (0, 0)) (bx BK470.out) hb); replace BK474 := Aside0.mk (blk_below (g := gb474) (o := .cells #[.int .i64 t471, .int .i64 t472] 41 (0, 0)) (bx BK474.out) hb); replace BK478 := Aside0.mk (blk_below (g := gb478) (o := .cells #[.int .i64 t475, .int .i64 t476] 41 (0, 0)) (bx BK478.out) hb); replace BK482 := Aside0.mk (blk_below (g := gb482) (o := .cells #[.int .i64 t479, .int .i64 t480] 41 (0, 0)) (by refine blk_put (cs := #[.int .i64 t479, .int .i64 0]) ?_ 1 _ rfl; refine blk_put (cs := #[.int .i64 0, .int .i64 0]) ?_ 0 _ rfl; exact BK482.out) hb); replace HB := bsa HB hb; clear hb) | ((with_reducible refine gate_dst (N := 13) rfl ?_); refine boxE HB 13 41 #[.int .i64 0, .int .i64 0] ?_; clear HB; intro gb486 w43 BK486 GW486 hg hb HB; have GE486 := GW486; have NB470_486 := bna BK470 hg; have NB486_470 := bma BK470 hg; replace BK470 := bba BK470 hb; have NB474_486 := bna BK474 hg; have NB486_474 := bma BK474 hg; replace BK474 := bba BK474 hb; have NB478_486 := bna BK478 hg; have NB486_478 := bma BK478 hg; replace BK478 := bba BK478 hb; have NB482_486 := bna BK482 hg; have NB486_482 := bma BK482 hg; replace BK482 := bba BK482 hb; clear hb hg; have hnb44 := NB486_470.out; have hnc44 := NB470_486.out; have hnb45 := NB486_474.out; have hnc45 := NB474_486.out; have hnb46 := NB486_478.out; have hnc46 := NB478_486.out; have hnb47 := NB486_482.out; have hnc47 := NB482_486.out; obtain ⟨hcz48_0, hcz48_1, hfz48_0, hfz48_1⟩ := b2 BK486; obtain ⟨hcz49_0, hcz49_1, hfz49_0, hfz49_1⟩ := b2 BK470) | ((with_reducible refine gate_callee (f := 18) rfl ?_); refine gL 44 Tryz.func18 #[.agg #[.int .i64 a0_0, .int .i64 a0_1], .int .i64 a2] ?_; (with_reducible refine (epoch_At.calls a0_0 a0_1 a2 t487 t488 _ A8.out).mono ?_); rintro e w50 ⟨rfl, hb⟩; refine ⟨_, rfl, ?_⟩; replace BK470 := Aside0.mk (blk_below (g := gb470) (o := .cells #[.int .i64 a0_0, .int .i64 a0_1] 41 (0, 0)) (bx BK470.out) hb); replace BK474 := Aside0.mk (blk_below (g := gb474) (o := .cells #[.int .i64 t471, .int .i64 t472] 41 (0, 0)) (bx BK474.out) hb); replace BK478 := Aside0.mk (blk_below (g := gb478) (o := .cells #[.int .i64 t475, .int .i64 t476] 41 (0, 0)) (bx BK478.out) hb); replace BK482 := Aside0.mk (blk_below (g := gb482) (o := .cells #[.int .i64 t479, .int .i64 t480] 41 (0, 0)) (bx BK482.out) hb); replace BK486 := Aside0.mk (blk_below (g := gb486) (o := .cells #[.int .i64 t483, .int .i64 t484] 41 (0, 0)) (by refine blk_put (cs := #[.int .i64 t483, .int .i64 0]) ?_ 1 _ rfl; refine blk_put (cs := #[.int .i64 0, .int .i64 0]) ?_ 0 _ rfl; exact BK486.out) hb); replace HB := bsa HB hb; clear hb; obtain ⟨hcz51_0, hcz51_1, hfz51_0, hfz51_1⟩ := b2 BK470) | ((with_reducible refine gate_callee (f := 19) rfl ?_); refine gL 50 Tryz.func19 #[.agg #[.int .i64 a0_0, .int .i64 a0_1], .int .i64 a2] ?_; (with_reducible refine (peristyleref21_At.calls a0_0 a0_1 a2 t489 t490 _ A9.out).mono ?_); rintro e w52 ⟨rfl, hb⟩; refine ⟨_, rfl, ?_⟩; replace BK470 := bba BK470 hb; replace BK474 := bba BK474 hb; replace BK478 := bba BK478 hb; replace BK482 := bba BK482 hb; replace BK486 := bba BK486 hb; replace HB := bsa HB hb; clear hb))
 replace BK470 := Aside0.mk (blk_drew BK470.out)
 replace BK474 := Aside0.mk (blk_drew BK474.out)
 replace BK478 := Aside0.mk (blk_drew BK478.out)
 replace BK482 := Aside0.mk (blk_drew BK482.out)
 replace BK486 := Aside0.mk (blk_drew BK486.out)
 replace HB := Aside0.mk (below_drew1 HB.out)
 refine start_ (n := 45) (S := fun w' => w'.cell? ⟨gb474, 0, none⟩ = some (.int .i64 t471) ∧ w'.cell? ⟨gb474, 1, none⟩ = some (.int .i64 t472) ∧ w'.cell? ⟨gb478, 0, none⟩ = some (.int .i64 t475) ∧ w'.cell? ⟨gb478, 1, none⟩ = some (.int .i64 t476) ∧ w'.cell? ⟨gb482, 0, none⟩ = some (.int .i64 t479) ∧ w'.cell? ⟨gb482, 1, none⟩ = some (.int .i64 t480) ∧ w'.cell? ⟨gb486, 0, none⟩ = some (.int .i64 t483) ∧ w'.cell? ⟨gb486, 1, none⟩ = some (.int .i64 t484) ∧ w'.cell? ⟨gb470, 0, none⟩ = some (.int .i64 a0_0) ∧ w'.cell? ⟨gb470, 1, none⟩ = some (.int .i64 a0_1)) (ds := []) #[false, false, false, false, false, false, false, false, false, false, false, false, false, false, false, false, false, false, false, false, false, false, false, false, false, false, false, false, false, false, false, false, false, false, false, false, false, false, false, false, false, false, false, false, false] (by kernel_rfl) rfl rfl ⟨(blk_cell BK474.out 0).trans rfl, (blk_cell BK474.out 1).trans rfl, (blk_cell BK478.out 0).trans rfl, (blk_cell BK478.out 1).trans rfl, (blk_cell BK482.out 0).trans rfl, (blk_cell BK482.out 1).trans rfl, (blk_cell BK486.out 0).trans rfl, (blk_cell BK486.out 1).trans rfl, (blk_cell BK470.out 0).trans rfl, (blk_cell BK470.out 1).trans rfl⟩ (fun hHeld => ?_); refine with_tabW peristylelaw21_EpochClocks.tab7 peristylelaw21_EpochClocks.bits7 (fun HT_ HW_ => ?_)
 generalize w52.drew = w53 at BK470 BK474 BK478 BK482 BK486 HB hHeld ⊢
 refine taA HT_ HW_ hHeld 0 53 (bv 45 1) ?_
 refine taA HT_ HW_ hHeld 1 54 (bv 45 3) ?_
 refine puA HT_ 2 55 (bv 45 7) ?_
 refine puA HT_ 3 56 (bv 45 15) ?_
 refine puA HT_ 4 57 (bv 45 31) ?_
 refine puA HT_ 5 58 (bv 45 63) ?_
 refine puA HT_ 6 59 (bv 45 127) ?_
 refine puA HT_ 7 60 (bv 45 255) ?_
 refine puA HT_ 8 61 (bv 45 511) ?_
 refine taA HT_ HW_ hHeld 9 62 (bv 45 1023) ?_
 refine taA HT_ HW_ hHeld 10 63 (bv 45 2047) ?_
 refine puA HT_ 11 64 (bv 45 4095) ?_
 refine puA HT_ 12 65 (bv 45 8191) ?_
 refine puA HT_ 13 66 (bv 45 16383) ?_
 refine puA HT_ 14 67 (bv 45 32767) ?_
 refine puA HT_ 15 68 (bv 45 65535) ?_
 refine puA HT_ 16 69 (bv 45 131071) ?_
 refine puA HT_ 17 70 (bv 45 262143) ?_
 refine puA HT_ 18 71 (bv 45 524287) ?_
 refine puA HT_ 19 72 (bv 45 1048575) ?_
 refine puA HT_ 20 73 (bv 45 2097151) ?_
 refine puA HT_ 21 74 (bv 45 4194303) ?_
 refine puA HT_ 22 75 (bv 45 8388607) ?_
 refine puA HT_ 23 76 (bv 45 16777215) ?_
 refine puA HT_ 24 77 (bv 45 33554431) ?_
 refine puA HT_ 25 78 (bv 45 67108863) ?_
 refine puA HT_ 26 79 (bv 45 134217727) ?_
 refine puA HT_ 27 80 (bv 45 268435455) ?_
 refine puA HT_ 28 81 (bv 45 536870911) ?_
 refine taA HT_ HW_ hHeld 29 82 (bv 45 1073741823) ?_
 refine taA HT_ HW_ hHeld 32 85 (bv 45 5368709119) ?_
 refine one_ (i := 30) (N := some 83) #[true, true, true, true, true, true, true, true, true, true, true, true, true, true, true, true, true, true, true, true, true, true, true, true, true, true, true, true, true, true, true, false, true, false, false, false, false, false, false, false, false, false, false, false, false] rfl rfl (one_of HT_.out (by kernel_rfl)) (by decide) (fun K hK => ?_)
 refine goes_ Tryz.func20 (by kernel_rfl) rfl #[.agg #[.int .i64 a0_0, .int .i64 a0_1]] (by rfl) rfl rfl (by (simp only [List.map_toArray, List.map_cons, List.map_nil]); rfl) ?_
 with_reducible refine (epoch_Check.calls a0_0 a0_1 t491 _ A16.out).mono ?_
 rintro e w54 ⟨rfl, hb⟩
 refine ⟨_, rfl, ?_⟩
 replace BK470 := bba BK470 hb
 replace BK474 := bba BK474 hb
 replace BK478 := bba BK478 hb
 replace BK482 := bba BK482 hb
 replace BK486 := bba BK486 hb
 replace HB := bsa HB hb
 clear hb
 refine hK.out _ _ ⟨(blk_cell BK474.out 0).trans rfl, (blk_cell BK474.out 1).trans rfl, (blk_cell BK478.out 0).trans rfl, (blk_cell BK478.out 1).trans rfl, (blk_cell BK482.out 0).trans rfl, (blk_cell BK482.out 1).trans rfl, (blk_cell BK486.out 0).trans rfl, (blk_cell BK486.out 1).trans rfl, (blk_cell BK470.out 0).trans rfl, (blk_cell BK470.out 1).trans rfl⟩ (fun hHeld => ?_)
 clear hK K
 refine norm_ (a' := ?_) ?_ ?_
 rotate_left
 ·show Act.put _ (some 83) _ = _
  simp only [Act.put, List.setIfInBounds_toArray, List.set_cons_zero, List.set_cons_succ, i64_w, i32_w]
  rfl
 refine puA HT_ 31 84 (bv 45 8589934591) ?_
 refine one_ (i := 33) (N := some 86) #[true, true, true, true, true, true, true, true, true, true, true, true, true, true, true, true, true, true, true, true, true, true, true, true, true, true, true, true, true, true, true, true, true, true, false, false, false, false, false, false, false, false, false, false, false] rfl rfl (one_of HT_.out (by kernel_rfl)) (by decide) (fun K hK => ?_)
 refine goes_ Tryz.func21 (by kernel_rfl) rfl #[.agg #[.int .i64 a0_0, .int .i64 a0_1]] (by rfl) rfl rfl (by (simp only [List.map_toArray, List.map_cons, List.map_nil]); rfl) ?_
 with_reducible refine (peristyleref21_May.calls a0_0 a0_1 t492 _ A17.out).mono ?_
 rintro e w55 ⟨rfl, hb⟩
 refine ⟨_, rfl, ?_⟩
 replace BK470 := bba BK470 hb
 replace BK474 := bba BK474 hb
 replace BK478 := bba BK478 hb
 replace BK482 := bba BK482 hb
 replace BK486 := bba BK486 hb
 replace HB := bsa HB hb
 clear hb
 refine hK.out _ _ ⟨(blk_cell BK474.out 0).trans rfl, (blk_cell BK474.out 1).trans rfl, (blk_cell BK478.out 0).trans rfl, (blk_cell BK478.out 1).trans rfl, (blk_cell BK482.out 0).trans rfl, (blk_cell BK482.out 1).trans rfl, (blk_cell BK486.out 0).trans rfl, (blk_cell BK486.out 1).trans rfl, (blk_cell BK470.out 0).trans rfl, (blk_cell BK470.out 1).trans rfl⟩ (fun hHeld => ?_)
 clear hK K
 refine norm_ (a' := ?_) ?_ ?_
 rotate_left
 ·show Act.put _ (some 86) _ = _
  simp only [Act.put, List.setIfInBounds_toArray, List.set_cons_zero, List.set_cons_succ, i64_w, i32_w]
  rfl
 refine puA HT_ 34 87 (bv 45 34359738367) ?_
 refine puA HT_ 35 88 (bv 45 68719476735) ?_
 refine puA HT_ 36 89 (bv 45 137438953471) ?_
 refine puA HT_ 38 91 (bv 45 412316860415) ?_
 refine one_ (i := 37) (N := some 90) #[true, true, true, true, true, true, true, true, true, true, true, true, true, true, true, true, true, true, true, true, true, true, true, true, true, true, true, true, true, true, true, true, true, true, true, true, true, true, true, false, false, false, false, false, false] rfl rfl (one_of HT_.out (by kernel_rfl)) (by decide) (fun K hK => ?_)
 refine goes_ Tryz.func22 (by kernel_rfl) rfl #[] (by rfl) rfl rfl (by (simp only [List.map_toArray, List.map_cons, List.map_nil]); done) ?_
 with_reducible refine (epoch_First.calls  t493 t494 _ A19.out).mono ?_
 rintro e w56 ⟨rfl, hb⟩
 refine ⟨_, rfl, ?_⟩
 replace BK470 := bba BK470 hb
 replace BK474 := bba BK474 hb
 replace BK478 := bba BK478 hb
 replace BK482 := bba BK482 hb
 replace BK486 := bba BK486 hb
 replace HB := bsa HB hb
 clear hb
 refine hK.out _ _ ⟨(blk_cell BK474.out 0).trans rfl, (blk_cell BK474.out 1).trans rfl, (blk_cell BK478.out 0).trans rfl, (blk_cell BK478.out 1).trans rfl, (blk_cell BK482.out 0).trans rfl, (blk_cell BK482.out 1).trans rfl, (blk_cell BK486.out 0).trans rfl, (blk_cell BK486.out 1).trans rfl, (blk_cell BK470.out 0).trans rfl, (blk_cell BK470.out 1).trans rfl⟩ (fun hHeld => ?_)
 clear hK K
 refine norm_ (a' := ?_) ?_ ?_
 rotate_left
 ·show Act.put _ (some 90) _ = _
  simp only [Act.put, List.setIfInBounds_toArray, List.set_cons_zero, List.set_cons_succ, i64_w, i32_w]
  rfl
 refine puA HT_ 39 92 (bv 45 1099511627775) ?_
 refine puA HT_ 40 93 (bv 45 2199023255551) ?_
 refine puA HT_ 41 94 (bv 45 4398046511103) ?_
 refine one_ (i := 42) (N := some 95) #[true, true, true, true, true, true, true, true, true, true, true, true, true, true, true, true, true, true, true, true, true, true, true, true, true, true, true, true, true, true, true, true, true, true, true, true, true, true, true, true, true, true, true, false, false] rfl rfl (one_of HT_.out (by kernel_rfl)) (by decide) (fun K hK => ?_)
 refine goes_ Tryz.func8 (by kernel_rfl) rfl #[] (by rfl) rfl rfl (by (simp only [List.map_toArray, List.map_cons, List.map_nil]); done) ?_
 with_reducible refine (peristylelaw21_awake.calls k  t495 _ A21.out).mono ?_
 rintro e w57 ⟨rfl, hb⟩
 refine ⟨_, rfl, ?_⟩
 replace BK470 := bba BK470 hb
 replace BK474 := bba BK474 hb
 replace BK478 := bba BK478 hb
 replace BK482 := bba BK482 hb
 replace BK486 := bba BK486 hb
 replace HB := bsa HB hb
 clear hb
 refine hK.out _ _ ⟨(blk_cell BK474.out 0).trans rfl, (blk_cell BK474.out 1).trans rfl, (blk_cell BK478.out 0).trans rfl, (blk_cell BK478.out 1).trans rfl, (blk_cell BK482.out 0).trans rfl, (blk_cell BK482.out 1).trans rfl, (blk_cell BK486.out 0).trans rfl, (blk_cell BK486.out 1).trans rfl, (blk_cell BK470.out 0).trans rfl, (blk_cell BK470.out 1).trans rfl⟩ (fun hHeld => ?_)
 clear hK K
 refine norm_ (a' := ?_) ?_ ?_
 rotate_left
 ·show Act.put _ (some 95) _ = _
  simp only [Act.put, List.setIfInBounds_toArray, List.set_cons_zero, List.set_cons_succ, i64_w, i32_w]
  rfl
 refine puA HT_ 43 96 (bv 45 17592186044415) ?_
 refine puA HT_ 44 6 (bv 45 35184372088831) ?_
 refine done_ (done_of HT_.out (by kernel_rfl)) ?_
 go_wp2
 go_ret
 exact ⟨er, bh HB.out⟩
def peristylelaw21_EpochClocks.Pure : Prop := ∀ (a0_0 : Int) (a0_1 : Int) (a1 : Int) (a2 : Int), (fun z : Int => (Lit.int .i64 z).wf = true) a0_0 → (fun z : Int => (Lit.int .i64 z).wf = true) a0_1 → (fun z : Int => (Lit.int .i64 z).wf = true) a1 → (fun z : Int => (Lit.int .i64 z).wf = true) a2 → ∃ k, peristylelaw21_EpochClocks.f k a0_0 a0_1 a1 a2 = some true
theorem peristylelaw21_EpochClocks.walk (P : peristylelaw21_EpochClocks.Pure) (a0_0 : Int) (a0_1 : Int) (a1 : Int) (a2 : Int) (w : World) (w0_0 : (fun z : Int => (Lit.int .i64 z).wf = true) a0_0) (w0_1 : (fun z : Int => (Lit.int .i64 z).wf = true) a0_1) (w1 : (fun z : Int => (Lit.int .i64 z).wf = true) a1) (w2 : (fun z : Int => (Lit.int .i64 z).wf = true) a2) :
  Calls Tryz.prog 4 #[.agg #[.int .i64 a0_0, .int .i64 a0_1], .int .i64 a1, .int .i64 a2] w fun e w' => e = .returned (.bool true) ∧ Below w.heap.size w w' := by
 obtain ⟨k, h⟩ := P a0_0 a0_1 a1 a2 w0_0 w0_1 w1 w2
 refine (peristylelaw21_EpochClocks.calls k a0_0 a0_1 a1 a2 true w h).mono ?_
 rintro e w' ⟨rfl, hd⟩
 exact ⟨rfl, hd⟩
/-! ### peristylelaw21_few: function 7 -/
def peristylelaw21_few.l0 : Nat → List (S66) → List (S68) → Int → Int → Option (Bool)
 | 0, _, _, _, _ => none
 | k + 1, x0, x1, x5, x6 => if x6 < (x0.length : Int) then (if x6 < 60 then (if x5 ≤ 1024 then (if 0 ≤ x6 then (peristylelaw21_few.l0 k x0 x1 (wrap64 (x5 + (mn 1024 (mx 0 ((rd_T66 x0 x6).f2))))) (wrap64 (x6 + 1))) else (none)) else (if (x0.length : Int) ≤ 60 then (some false) else (some false))) else (if (x0.length : Int) ≤ 60 then (if x5 ≤ 1024 then (some (decide ((x1.length : Int) ≤ 60))) else (some false)) else (some false))) else (if (x0.length : Int) ≤ 60 then (if x5 ≤ 1024 then (some (decide ((x1.length : Int) ≤ 60))) else (some false)) else (some false))
def peristylelaw21_few.f (k : Nat) (l0 : List (S66)) (l1 : List (S68)) : Option (Bool) := peristylelaw21_few.l0 k l0 l1 0 0
end Go.Proofs.YtdgphlkbmplbpaaGreat.Print
end
section
namespace Go.Proofs.YtdgphlkbmplbpaaGreat.Print
open Go.RowKit Go.Proofs.YtdgphlkbmplbpaaGreatW.PrintWords Go.Proofs.YtdgphlkbmplbpaaGreatW.PrintLast Go.Proofs.YtdgphlkbmplbpaaGreatW.PrintMore
attribute [local go_sem] max2_int min2_int max_two min_two max_three min_three max_four min_four   -- for this text's walks alone
set_option linter.unusedVariables false
set_option linter.unusedSimpArgs false
/-! ### peristyleref10_May: function 37 -/
def peristyleref10_May.l0 : Nat → List (S66) → Int → Int → Option (Bool)
 | 0, _, _, _ => none
 | k + 1, x0, x3, x4 => if x4 < (x0.length : Int) then (if 0 ≤ x4 then (if ((rd_T66 x0 x4).f1) = x3 then (if ((rd_T66 x0 x4).f2) < 1 then (some false) else (if ((rd_T66 x0 x4).f2) > (wrap64 (65536 - x3)) then (some false) else (if x4 > 0 then (if 0 ≤ (wrap64 (x4 - 1)) then (if (wrap64 (x4 - 1)) < (x0.length : Int) then (if ((rd_T66 x0 x4).f0) = ((rd_T66 x0 (wrap64 (x4 - 1))).f0) then (some false) else (peristyleref10_May.l0 k x0 (wrap64 (x3 + ((rd_T66 x0 x4).f2))) (wrap64 (x4 + 1)))) else (none)) else (none)) else (peristyleref10_May.l0 k x0 (wrap64 (x3 + ((rd_T66 x0 x4).f2))) (wrap64 (x4 + 1)))))) else (some false)) else (none)) else (some true)
def peristyleref10_May.f (k : Nat) (l0 : List (S66)) : Option (Bool) := peristyleref10_May.l0 k l0 0 0
theorem peristyleref10_May.l0_succ (k) (a0) (a1) (a2) : type_of% (@peristyleref10_May.l0.eq_2 a0 a1 a2 k) := peristyleref10_May.l0.eq_2 a0 a1 a2 k
/-! ### peristyleref21_MayMarks: function 38 -/
def peristyleref21_MayMarks.l0 : Nat → List (S68) → Int → Int → Option (Bool)
 | 0, _, _, _ => none
 | k + 1, x0, x3, x4 => if x4 < (x0.length : Int) then (if 0 ≤ x4 then (if ((rd_T68 x0 x4).f0) ≤ x3 then (some false) else (if ((rd_T68 x0 x4).f0) ≥ 4096 then (some false) else (if ((rd_T68 x0 x4).f1) < 1 then (some false) else (if ((rd_T68 x0 x4).f1) > 1099511627776 then (some false) else (peristyleref21_MayMarks.l0 k x0 ((rd_T68 x0 x4).f0) (wrap64 (x4 + 1))))))) else (none)) else (some true)
def peristyleref21_MayMarks.f (k : Nat) (l0 : List (S68)) : Option (Bool) := peristyleref21_MayMarks.l0 k l0 (-1) 0
/-! ### peristyleref10_Flat: function 39 -/
mutual
def peristyleref10_Flat.l0 : Nat → List (S66) → List Int → Int → Option (List Int × Int)
 | 0, _, _, _ => none
 | k + 1, x0, x4, x5 => if x5 < (x0.length : Int) then (peristyleref10_Flat.l1 k x0 x4 x5 0) else (some (x4, 0))
def peristyleref10_Flat.l1 : Nat → List (S66) → List Int → Int → Int → Option (List Int × Int)
 | 0, _, _, _, _ => none
 | k + 1, x0, x4, x5, x6 => if 0 ≤ x5 then (if x5 < (x0.length : Int) then (if x6 < ((rd_T66 x0 x5).f2) then (if x4.length < 17592186044416 then (peristyleref10_Flat.l1 k x0 (x4 ++ [(rd_T66 x0 x5).f0]) x5 (wrap64 (x6 + 1))) else (none)) else (peristyleref10_Flat.l0 k x0 x4 (wrap64 (x5 + 1)))) else (none)) else (none)
end
def peristyleref10_Flat.f (k : Nat) (l0 : List (S66)) : Option (List Int × Int) := (peristyleref10_May.f k l0).bind fun t509 => (if t509 = true then (peristyleref10_Flat.l0 k l0 ([] : List Int) 0) else (some (([] : List Int), 1)))
/-! ### peristyleref21_Gone: function 41 -/
def peristyleref21_Gone.l0 : Nat → List (S68) → Int → Int → Option (Int)
 | 0, _, _, _ => none
 | k + 1, x0, x1, x5 => if x5 < (x0.length : Int) then (if 0 ≤ x5 then (if ((rd_T68 x0 x5).f0) = x1 then (some ((rd_T68 x0 x5).f1)) else (peristyleref21_Gone.l0 k x0 x1 (wrap64 (x5 + 1)))) else (none)) else (some 0)
def peristyleref21_Gone.f (k : Nat) (l0 : List (S68)) (a1 : Int) : Option (Int) := peristyleref21_Gone.l0 k l0 a1 0
/-! ### peristyleref21_Sees: function 40 -/
def peristyleref21_Sees.f (a0 : Int) (a1 : Int) (a2 : Int) : Option (Bool) := if a0 ≤ a2 then (if a1 = 0 then (some true) else (some (decide (a1 > a2)))) else (some false)
end Go.Proofs.YtdgphlkbmplbpaaGreat.Print
end
section
namespace Go.Proofs.YtdgphlkbmplbpaaGreat.Print
open Go.RowKit Go.Proofs.YtdgphlkbmplbpaaGreatW.PrintWords Go.Proofs.YtdgphlkbmplbpaaGreatW.PrintLast Go.Proofs.YtdgphlkbmplbpaaGreatW.PrintMore
attribute [local go_sem] max2_int min2_int max_two min_two max_three min_three max_four min_four   -- for this text's walks alone
set_option linter.unusedVariables false
set_option linter.unusedSimpArgs false
/-! ### peristyleref21_Visible: function 10 -/
mutual
def peristyleref21_Visible.j0 : Nat → List (S66) → List (S68) → Int → Int → Option (List Bool × Int)
 | 0, _, _, _, _ => none
 | k + 1, x0, x1, x2, x8 => (peristyleref10_May.f k x0).bind fun t518 => (if t518 = true then (if x8 > 4096 then (peristyleref21_Visible.j1 k x0 x1 x2 true) else ((peristyleref21_MayMarks.f k x1).bind fun t519 => (peristyleref21_Visible.j1 k x0 x1 x2 (!t519)))) else (peristyleref21_Visible.j1 k x0 x1 x2 true))
def peristyleref21_Visible.j1 : Nat → List (S66) → List (S68) → Int → Bool → Option (List Bool × Int)
 | 0, _, _, _, _ => none
 | k + 1, x0, x1, x2, x34 => if x34 = true then (some (([] : List Bool), 1)) else ((peristyleref10_Flat.f k x0).bind fun bt520 => (if (bt520.1.length : Int) > 4096 then (peristyleref21_Visible.j2 k x1 x2 bt520.1 true) else (if (x1.length : Int) > 0 then (if 0 ≤ (wrap64 ((x1.length : Int) - 1)) then (if (wrap64 ((x1.length : Int) - 1)) < (x1.length : Int) then (peristyleref21_Visible.j2 k x1 x2 bt520.1 (decide (((rd_T68 x1 (wrap64 ((x1.length : Int) - 1))).f0) ≥ (bt520.1.length : Int)))) else (none)) else (none)) else (peristyleref21_Visible.j2 k x1 x2 bt520.1 false))))
def peristyleref21_Visible.j2 : Nat → List (S68) → Int → List Int → Bool → Option (List Bool × Int)
 | 0, _, _, _, _ => none
 | k + 1, x1, x2, x9, x59 => if x59 = true then (some (([] : List Bool), 1)) else (peristyleref21_Visible.l0 k x1 x2 x9 ([] : List Bool) 0)
def peristyleref21_Visible.l0 : Nat → List (S68) → Int → List Int → List Bool → Int → Option (List Bool × Int)
 | 0, _, _, _, _, _ => none
 | k + 1, x1, x2, x9, x11, x12 => if x12 < (x9.length : Int) then (if 0 ≤ x12 then ((peristyleref21_Gone.f k x1 x12).bind fun t526 => ((peristyleref21_Sees.f (rd x9 x12) t526 x2).bind fun t527 => (if x11.length < 140737488355328 then (peristyleref21_Visible.l0 k x1 x2 x9 (x11 ++ [t527]) (wrap64 (x12 + 1))) else (none)))) else (none)) else (some (x11, 0))
end
def peristyleref21_Visible.f (k : Nat) (l0 : List (S66)) (l1 : List (S68)) (a2 : Int) : Option (List Bool × Int) := if (l0.length : Int) > 0 then (if 0 ≤ (wrap64 ((l0.length : Int) - 1)) then (if (wrap64 ((l0.length : Int) - 1)) < (l0.length : Int) then (peristyleref21_Visible.j0 k l0 l1 a2 ((rd_T66 l0 (wrap64 ((l0.length : Int) - 1))).f1)) else (none)) else (none)) else (peristyleref21_Visible.j0 k l0 l1 a2 0)
end Go.Proofs.YtdgphlkbmplbpaaGreat.Print
end
section
namespace Go.Proofs.YtdgphlkbmplbpaaGreat.Print
open Go.RowKit Go.Proofs.YtdgphlkbmplbpaaGreatW.PrintWords Go.Proofs.YtdgphlkbmplbpaaGreatW.PrintLast Go.Proofs.YtdgphlkbmplbpaaGreatW.PrintMore
attribute [local go_sem] max2_int min2_int max_two min_two max_three min_three max_four min_four   -- for this text's walks alone
set_option linter.unusedVariables false
set_option linter.unusedSimpArgs false
/-! ### peristyleref14_Spans: function 13 -/
def peristyleref14_Spans.l0 : Nat → List Bool → List (S70) → Int → Option ((List (S70)))
 | 0, _, _, _ => none
 | k + 1, x0, x3, x4 => if x4 < (x0.length : Int) then (if 0 ≤ x4 then (if rdOf false x0 x4 = true then (if x4 > 0 then (if 0 ≤ (wrap64 (x4 - 1)) then (if (wrap64 (x4 - 1)) < (x0.length : Int) then (if rdOf false x0 (wrap64 (x4 - 1)) = true then (if 0 ≤ (wrap64 ((x3.length : Int) - 1)) then (if (wrap64 ((x3.length : Int) - 1)) < (x3.length : Int) then (peristyleref14_Spans.l0 k x0 (x3.set ((wrap64 ((x3.length : Int) - 1)) : Int).toNat (⟨(rd_T70 x3 (wrap64 ((x3.length : Int) - 1))).f0, wrap64 (((rd_T70 x3 (wrap64 ((x3.length : Int) - 1))).f1) + 1)⟩ : S70)) (wrap64 (x4 + 1))) else (none)) else (none)) else (if x3.length < 8796093022208 then (peristyleref14_Spans.l0 k x0 (x3 ++ [(⟨x4, wrap64 (x4 + 1)⟩ : S70)]) (wrap64 (x4 + 1))) else (none))) else (none)) else (none)) else (if x3.length < 8796093022208 then (peristyleref14_Spans.l0 k x0 (x3 ++ [(⟨x4, wrap64 (x4 + 1)⟩ : S70)]) (wrap64 (x4 + 1))) else (none))) else (peristyleref14_Spans.l0 k x0 x3 (wrap64 (x4 + 1)))) else (none)) else (some x3)
def peristyleref14_Spans.f (k : Nat) (l0 : List Bool) : Option ((List (S70))) := peristyleref14_Spans.l0 k l0 ([] : List (S70)) 0
/-! ### peristylelaw21_EpochVisible: function 3 -/
def peristylelaw21_EpochVisible.f (k : Nat) (l0 : List (S66)) (l1 : List (S68)) (a2 : Int) : Option (Bool) := (peristylelaw21_few.f k l0 l1).bind fun t541 => (if t541 = true then ((epoch_Visible.f k l0 l1 a2).bind fun bt543 => ((peristyleref21_Visible.f k l0 l1 a2).bind fun bt555 => (if bt543.2.2.2.2 = bt555.2 then ((poslist_List_Spans.f k bt543.1 bt543.2.1 bt543.2.2.1 bt543.2.2.2.1).bind fun t559 => ((peristyleref14_Spans.f k bt555.1).bind fun t562 => ((peristyleref14_Same.f k t559 t562).bind fun t565 => (if t565 = true then ((peristylelaw21_awake.f k).bind fun t566 => (some t566)) else (none))))) else (none)))) else ((peristylelaw21_awake.f k).bind fun t542 => (some t542)))
/-! ### epoch_Put: function 23 (a contract of the session's own) -/
def epoch_Put.l0 : Nat → List S68 → Int → ByteArray → Int → Option ByteArray
  | 0, _, _, _, _ => none
  | k + 1, l0, last, s, i => if i < (l0.length : Int) then (if 0 ≤ i then ((vint_Put.f (wrap64 ((rd_T68 l0 i).f0 - last))).bind fun x => ((vint_Put.f (rd_T68 l0 i).f1).bind fun y => if s.size + (x.size + y.size) ≤ 100000000000000 then epoch_Put.l0 k l0 (rd_T68 l0 i).f0 (s ++ x ++ y) (wrap64 (i + 1)) else none)) else none) else some s
def epoch_Put.f (k : Nat) (l0 : List S68) : Option (ByteArray × Int) := (epoch_good.f k l0 4096).bind fun t => if t = true then ((vint_Put.f (l0.length : Int)).bind fun x => if x.size ≤ 100000000000000 then ((epoch_Put.l0 k l0 (-1) (ByteArray.empty ++ x) 0).bind fun s => some (s, 0)) else none) else some (ByteArray.empty, 1)
/-! ### peristyleref01_Of: function 115 (a contract of the session's own) -/
theorem peristyleref01_Of.size : (Tryz.prog.info? 155).map (·.size) = some 64 := by kernel_rfl
/-! ### peristyleref01_Word: function 116 (a contract of the session's own) -/
/-! ### peristyleref01_Zig: function 80 (a contract of the session's own) -/
def zigAt (l : List Bool) (k : Nat) : Bool := if k = 0 then bAt l 63 else (bAt l (k - 1) != bAt l 63)
def peristyleref01_Zig.f (a0 : Int) : Option (Int) := some (wordTo (fillTo (zigAt (bitsOf a0)) zB 64) 64)
/-! ### peristyleref01_Field: function 81 (a contract of the session's own) -/
def peristyleref01_Field.f (a0 a1 a2 : Int) : Option (Int) := some (wordTo (fillTo (fun k => bAt (bitsOf a0) (a1.toNat + k)) zB (fieldN a1 a2)) 64)
/-! ### peristyleref02_Put: function 48 -/
def peristyleref02_Put.l0 : Nat → Int → List Int → Option (ByteArray)
 | 0, _, _ => none
 | k + 1, x3, x4 => (peristyleref01_Field.f x3 0 7).bind fun t568 => ((peristyleref01_Field.f x3 7 64).bind fun t569 => (if t569 = 0 then (if x4.length < 140737488355328 then (some (strOfNums (x4 ++ [(t568) % 256]))) else (none)) else (if x4.length < 140737488355328 then (peristyleref02_Put.l0 k t569 (x4 ++ [(wrap64 (128 + t568)) % 256])) else (none))))
def peristyleref02_Put.f (k : Nat) (a0 : Int) : Option (ByteArray) := (peristyleref01_Zig.f a0).bind fun t567 => (peristyleref02_Put.l0 k t567 ([] : List Int))
end Go.Proofs.YtdgphlkbmplbpaaGreat.Print
end
section
namespace Go.Proofs.YtdgphlkbmplbpaaGreat.Print
open Go.RowKit Go.Proofs.YtdgphlkbmplbpaaGreatW.PrintWords Go.Proofs.YtdgphlkbmplbpaaGreatW.PrintLast Go.Proofs.YtdgphlkbmplbpaaGreatW.PrintMore
attribute [local go_sem] max2_int min2_int max_two min_two max_three min_three max_four min_four   -- for this text's walks alone
set_option linter.unusedVariables false
set_option linter.unusedSimpArgs false
/-! ### peristyleref21_Put: function 24 -/
def peristyleref21_Put.l0 : Nat → List (S68) → ByteArray → Int → Int → Option (ByteArray × Int)
 | 0, _, _, _, _ => none
 | k + 1, x0, x4, x5, x6 => if x6 < (x0.length : Int) then (if 0 ≤ x6 then ((peristyleref02_Put.f k (wrap64 (((rd_T68 x0 x6).f0) - x5))).bind fun t579 => (if x4.size + t579.size ≤ 9223372036854775807 then ((peristyleref02_Put.f k ((rd_T68 x0 x6).f1)).bind fun t581 => (if (x4 ++ t579).size + t581.size ≤ 9223372036854775807 then (peristyleref21_Put.l0 k x0 ((x4 ++ t579) ++ t581) ((rd_T68 x0 x6).f0) (wrap64 (x6 + 1))) else (none))) else (none))) else (none)) else (some (x4, 0))
def peristyleref21_Put.f (k : Nat) (l0 : List (S68)) : Option (ByteArray × Int) := (peristyleref21_MayMarks.f k l0).bind fun t576 => (if t576 = true then ((peristyleref02_Put.f k (l0.length : Int)).bind fun t577 => (peristyleref21_Put.l0 k l0 t577 (-1) 0)) else (some ((⟨#[]⟩ : ByteArray), 1)))
/-! ### bits_Zag: function 82 -/
def bits_Zag.f (a0 : Int) : Option (Int) := some (wrap64 (Go.bits .xor .u64 ((IntKind.u64.wrap (a0)) / 2) (IntKind.u64.wrap (-(Go.bits .and .u64 (IntKind.u64.wrap (a0)) 1)))))
/-! ### vint_Len: function 83 -/
def vint_Len.f (k : Nat) (a0 : Int) : Option (Int) := (bits_Zig.f a0).bind fun t583 => ((bits_Width.f k t583).bind fun t584 => (some (mx 1 (wrap64 (Int.tdiv (wrap64 ((wrap64 (t584 + 7)) - 1)) 7)))))
/-! ### vint_Take: function 49 -/
def vint_Take.l0 : Nat → ByteArray → Int → Int → Int → Option (Int × Int × Int)
 | 0, _, _, _, _ => none
 | k + 1, x0, x5, x11, x12 => if x12 < x11 then (if 0 ≤ x12 then (if x12 < (x0.size : Int) then (if 0 ≤ (wrap64 (7 * x12)) then (if (bt x0 x12) ≥ 128 then (vint_Take.l0 k x0 (Go.bits .or .u64 x5 (shl .u64 (IntKind.u64.wrap (Go.bits .andNot .u8 (bt x0 x12) 128)) (wrap64 (7 * x12)))) x11 (wrap64 (x12 + 1))) else ((bits_Zag.f (wrap64 (Go.bits .or .u64 x5 (shl .u64 (IntKind.u64.wrap (Go.bits .andNot .u8 (bt x0 x12) 128)) (wrap64 (7 * x12)))))).bind fun t585 => ((vint_Len.f k t585).bind fun t586 => (if t586 = (wrap64 (x12 + 1)) then (if x12 < 9 then (some (t585, wrap64 (x12 + 1), 0)) else (if (bt x0 x12) = 1 then (some (t585, wrap64 (x12 + 1), 0)) else (some (0, 0, 20)))) else (some (0, 0, 20)))))) else (none)) else (none)) else (none)) else (some (0, 0, 20))
def vint_Take.f (k : Nat) (a0 : ByteArray) : Option (Int × Int × Int) := vint_Take.l0 k a0 0 (mn (a0.size : Int) 10) 0
/-! ### peristyleref01_With: function 84 (a contract of the session's own) -/
def peristyleref01_With.f (a0 a1 a2 a3 : Int) : Option (Int) := some (wordTo (putTo (bitsOf a0) (bitsOf a3) a1.toNat (fieldN a1 a2)) 64)
/-! ### peristyleref01_Zag: function 85 (a contract of the session's own) -/
def zagAt (l : List Bool) (k : Nat) : Bool := bAt l (k + 1) != bAt l 0
def peristyleref01_Zag.f (a0 : Int) : Option (Int) := some (wordTo ((fillTo (zagAt (bitsOf a0)) zB 63).set 63 (bAt (bitsOf a0) 0)) 64)
end Go.Proofs.YtdgphlkbmplbpaaGreat.Print
end
section
namespace Go.Proofs.YtdgphlkbmplbpaaGreat.Print
open Go.RowKit Go.Proofs.YtdgphlkbmplbpaaGreatW.PrintWords Go.Proofs.YtdgphlkbmplbpaaGreatW.PrintLast Go.Proofs.YtdgphlkbmplbpaaGreatW.PrintMore
attribute [local go_sem] max2_int min2_int max_two min_two max_three min_three max_four min_four   -- for this text's walks alone
set_option linter.unusedVariables false
set_option linter.unusedSimpArgs false
/-! ### peristyleref02_Take: function 50 -/
mutual
def peristyleref02_Take.l0 : Nat → ByteArray → Int → Int → Option (Int × Int × Int)
 | 0, _, _, _ => none
 | k + 1, x0, x5, x6 => if x6 < (x0.size : Int) then (peristyleref02_Take.j1 k x0 x5 x6 (decide (x6 < 10))) else (peristyleref02_Take.j1 k x0 x5 x6 false)
def peristyleref02_Take.j1 : Nat → ByteArray → Int → Int → Bool → Option (Int × Int × Int)
 | 0, _, _, _, _ => none
 | k + 1, x0, x5, x6, x15 => if x15 = true then (if 0 ≤ x6 then (if x6 < (x0.size : Int) then ((peristyleref01_With.f x5 (wrap64 (7 * x6)) 7 (wrap64 (Go.bits .and .u8 (bt x0 x6) 127))).bind fun t595 => (if (bt x0 x6) < 128 then ((peristyleref01_Zag.f t595).bind fun t596 => ((peristyleref02_Put.f k t596).bind fun t597 => (if 0 ≤ (wrap64 (x6 + 1)) then (if (wrap64 (x6 + 1)) ≤ (x0.size : Int) then (if t597.toList = (x0.extract 0 ((wrap64 (x6 + 1)) : Int).toNat).toList then (some (t596, wrap64 (x6 + 1), 0)) else (some (0, 0, 20))) else (none)) else (none)))) else (peristyleref02_Take.l0 k x0 t595 (wrap64 (x6 + 1))))) else (none)) else (none)) else (some (0, 0, 20))
end
def peristyleref02_Take.f (k : Nat) (a0 : ByteArray) : Option (Int × Int × Int) := peristyleref02_Take.l0 k a0 0 0
/-! ### peristyleref21_Take: function 26 -/
mutual
def peristyleref21_Take.j0 : Nat → ByteArray → Int → Int → Bool → Option ((List (S68)) × Int × Int)
 | 0, _, _, _, _ => none
 | k + 1, x0, x5, x6, x32 => if x32 = true then (some (([] : List (S68)), 0, 20)) else (peristyleref21_Take.l0 k x0 x5 x6 ([] : List (S68)) (-1) 0)
def peristyleref21_Take.l0 : Nat → ByteArray → Int → Int → List (S68) → Int → Int → Option ((List (S68)) × Int × Int)
 | 0, _, _, _, _, _, _ => none
 | k + 1, x0, x5, x6, x8, x9, x10 => if x10 < x5 then (if 0 ≤ x6 then (if x6 ≤ (x0.size : Int) then ((peristyleref02_Take.f k (x0.extract (x6 : Int).toNat x0.size)).bind fun bt602 => (if bt602.2.2 = 0 then (if bt602.1 < 1 then (peristyleref21_Take.j2 k x0 x5 x6 x8 x9 x10 bt602.1 bt602.2.1 true) else (peristyleref21_Take.j2 k x0 x5 x6 x8 x9 x10 bt602.1 bt602.2.1 (decide (bt602.1 > 4096)))) else (peristyleref21_Take.j2 k x0 x5 x6 x8 x9 x10 bt602.1 bt602.2.1 true))) else (none)) else (none)) else ((peristyleref21_MayMarks.f k x8).bind fun t601 => (if t601 = true then (some (x8, x6, 0)) else (some (([] : List (S68)), 0, 20))))
def peristyleref21_Take.j2 : Nat → ByteArray → Int → Int → List (S68) → Int → Int → Int → Int → Bool → Option ((List (S68)) × Int × Int)
 | 0, _, _, _, _, _, _, _, _, _ => none
 | k + 1, x0, x5, x6, x8, x9, x10, x11, x12, x55 => if x55 = true then (some (([] : List (S68)), 0, 20)) else (if 0 ≤ (wrap64 (x6 + x12)) then (if (wrap64 (x6 + x12)) ≤ (x0.size : Int) then ((peristyleref02_Take.f k (x0.extract ((wrap64 (x6 + x12)) : Int).toNat x0.size)).bind fun bt605 => (if bt605.2.2 = 0 then (if x8.length < 8796093022208 then (peristyleref21_Take.l0 k x0 x5 (wrap64 ((wrap64 (x6 + x12)) + bt605.2.1)) (x8 ++ [(⟨wrap64 (x9 + x11), bt605.1⟩ : S68)]) (wrap64 (x9 + x11)) (wrap64 (x10 + 1))) else (none)) else (some (([] : List (S68)), 0, 20)))) else (none)) else (none))
end
def peristyleref21_Take.f (k : Nat) (a0 : ByteArray) : Option ((List (S68)) × Int × Int) := (peristyleref02_Take.f k a0).bind fun bt598 => (if bt598.2.2 = 0 then (if bt598.1 < 0 then (peristyleref21_Take.j0 k a0 bt598.1 bt598.2.1 true) else (peristyleref21_Take.j0 k a0 bt598.1 bt598.2.1 (decide (bt598.1 > 4096)))) else (peristyleref21_Take.j0 k a0 bt598.1 bt598.2.1 true))
end Go.Proofs.YtdgphlkbmplbpaaGreat.Print
end
