-- Functions and laws: texts of the session's own and of the kit's print program, joined; what nothing names is left out.
import Derived.Test.YtdgphlkbmplbpaaGreatVA
import Derived.Test.YtdgphlkbmplbpaaGreatVW
import Derived.Test.YtdgphlkbmplbpaaGreatVB
import Derived.Test.YtdgphlkbmplbpaaGreatVC
section
namespace Go.Proofs.YtdgphlkbmplbpaaGreat.Print
open Go.RowKit Go.Proofs.YtdgphlkbmplbpaaGreatW.PrintWords Go.Proofs.YtdgphlkbmplbpaaGreatW.PrintLast Go.Proofs.YtdgphlkbmplbpaaGreatW.PrintMore
attribute [local go_sem] max2_int min2_int max_two min_two max_three min_three max_four min_four   -- for this text's walks alone
set_option linter.unusedVariables false
set_option linter.unusedSimpArgs false
/-! ### epoch_Visible: function 9 -/
mutual
def epoch_Visible.j0 : Nat → List (S66) → List (S68) → Int → Int → Int → Int → Bool → Option (Int × (List (S70)) × List Int × List Int × Int)
 | 0, _, _, _, _, _, _, _ => none
 | k + 1, x0, x1, x2, x9, x10, x11, x34 => if x34 = true then (if 0 ≤ x11 then (if x11 < (x0.length : Int) then (epoch_Visible.j1 k x0 x1 x2 x9 (wrap64 (((rd_T66 x0 x11).f1) + ((rd_T66 x0 x11).f2)))) else (none)) else (none)) else (epoch_Visible.j1 k x0 x1 x2 x9 x10)
def epoch_Visible.j1 : Nat → List (S66) → List (S68) → Int → Int → Int → Option (Int × (List (S70)) × List Int × List Int × Int)
 | 0, _, _, _, _, _ => none
 | k + 1, x0, x1, x2, x9, x10 => if x9 = 0 then (if x10 > 4096 then (epoch_Visible.j2 k x0 x1 x2 true) else ((epoch_good.f k x1 x10).bind fun t382 => (epoch_Visible.j2 k x0 x1 x2 (!t382)))) else (epoch_Visible.j2 k x0 x1 x2 true)
def epoch_Visible.j2 : Nat → List (S66) → List (S68) → Int → Bool → Option (Int × (List (S70)) × List Int × List Int × Int)
 | 0, _, _, _, _ => none
 | k + 1, x0, x1, x2, x57 => if x57 = true then (some (0, ([] : List (S70)), ([] : List Int), ([] : List Int), 1)) else (epoch_Visible.l0 k x1 x2 ([] : List (S70)) x0 (x0.length : Int) 0)
def epoch_Visible.l0 : Nat → List (S68) → Int → List (S70) → List (S66) → Int → Int → Option (Int × (List (S70)) × List Int × List Int × Int)
 | 0, _, _, _, _, _, _ => none
 | k + 1, x1, x2, x12, x59, x60, x61 => if x61 < x60 then (if 0 ≤ x61 then (if x61 < (x59.length : Int) then (if ((rd_T66 x59 x61).f0) > x2 then (epoch_Visible.l0 k x1 x2 x12 x59 x60 (wrap64 (x61 + 1))) else (if (wrap64 ((x12.length : Int) - 1)) ≥ 0 then (if 0 ≤ (wrap64 ((x12.length : Int) - 1)) then (if (wrap64 ((x12.length : Int) - 1)) < (x12.length : Int) then (if ((rd_T70 x12 (wrap64 ((x12.length : Int) - 1))).f1) = ((rd_T66 x59 x61).f1) then (epoch_Visible.l0 k x1 x2 (x12.set ((wrap64 ((x12.length : Int) - 1)) : Int).toNat (⟨(rd_T70 x12 (wrap64 ((x12.length : Int) - 1))).f0, wrap64 (((rd_T70 x12 (wrap64 ((x12.length : Int) - 1))).f1) + ((rd_T66 x59 x61).f2))⟩ : S70)) x59 x60 (wrap64 (x61 + 1))) else (if x12.length < 8796093022208 then (epoch_Visible.l0 k x1 x2 (x12 ++ [(⟨(rd_T66 x59 x61).f1, wrap64 (((rd_T66 x59 x61).f1) + ((rd_T66 x59 x61).f2))⟩ : S70)]) x59 x60 (wrap64 (x61 + 1))) else (none))) else (none)) else (none)) else (if x12.length < 8796093022208 then (epoch_Visible.l0 k x1 x2 (x12 ++ [(⟨(rd_T66 x59 x61).f1, wrap64 (((rd_T66 x59 x61).f1) + ((rd_T66 x59 x61).f2))⟩ : S70)]) x59 x60 (wrap64 (x61 + 1))) else (none)))) else (none)) else (none)) else (epoch_Visible.l1 k x2 x12 ([] : List Int) x1 (x1.length : Int) 0)
def epoch_Visible.l1 : Nat → Int → List (S70) → List Int → List (S68) → Int → Int → Option (Int × (List (S70)) × List Int × List Int × Int)
 | 0, _, _, _, _, _, _ => none
 | k + 1, x2, x12, x16, x108, x109, x110 => if x110 < x109 then (if 0 ≤ x110 then (if x110 < (x108.length : Int) then (if ((rd_T68 x108 x110).f1) ≤ x2 then (if x16.length < 17592186044416 then (epoch_Visible.l1 k x2 x12 (x16 ++ [(rd_T68 x108 x110).f0]) x108 x109 (wrap64 (x110 + 1))) else (none)) else (epoch_Visible.l1 k x2 x12 x16 x108 x109 (wrap64 (x110 + 1)))) else (none)) else (none)) else ((poslist_Best.f k x12).bind fun bt399 => (if bt399.2.2.2.2 = 0 then ((poslist_From.f k x16).bind fun bt411 => ((poslist_List_Less.f k bt399.1 bt399.2.1 bt399.2.2.1 bt399.2.2.2.1 bt411.1 bt411.2.1 bt411.2.2.1 bt411.2.2.2.1).bind fun bt423 => (some (bt423.1, bt423.2.1, bt423.2.2.1, bt423.2.2.2, bt411.2.2.2.2)))) else (some (0, ([] : List (S70)), ([] : List Int), ([] : List Int), bt399.2.2.2.2))))
end
def epoch_Visible.f (k : Nat) (l0 : List (S66)) (l1 : List (S68)) (a2 : Int) : Option (Int × (List (S70)) × List Int × List Int × Int) := (runs_Put.f k l0).bind fun bt378 => (if (wrap64 ((l0.length : Int) - 1)) ≥ 0 then (epoch_Visible.j0 k l0 l1 a2 bt378.2 0 (wrap64 ((l0.length : Int) - 1)) (bt378.2 == 0)) else (epoch_Visible.j0 k l0 l1 a2 bt378.2 0 (wrap64 ((l0.length : Int) - 1)) false))
theorem epoch_Visible.j0_succ (k) (a0) (a1) (a2) (a3) (a4) (a5) (a6) : type_of% (@epoch_Visible.j0.eq_2 a0 a1 a2 a3 a4 a5 a6 k) := epoch_Visible.j0.eq_2 a0 a1 a2 a3 a4 a5 a6 k
theorem epoch_Visible.j1_succ (k) (a0) (a1) (a2) (a3) (a4) : type_of% (@epoch_Visible.j1.eq_2 a0 a1 a2 a3 a4 k) := epoch_Visible.j1.eq_2 a0 a1 a2 a3 a4 k
theorem epoch_Visible.j2_succ (k) (a0) (a1) (a2) (a3) : type_of% (@epoch_Visible.j2.eq_2 a0 a1 a2 a3 k) := epoch_Visible.j2.eq_2 a0 a1 a2 a3 k
theorem epoch_Visible.l0_succ (k) (a0) (a1) (a2) (a3) (a4) (a5) : type_of% (@epoch_Visible.l0.eq_2 a0 a1 a2 a3 a4 a5 k) := epoch_Visible.l0.eq_2 a0 a1 a2 a3 a4 a5 k
theorem epoch_Visible.l1_succ (k) (a0) (a1) (a2) (a3) (a4) (a5) : type_of% (@epoch_Visible.l1.eq_2 a0 a1 a2 a3 a4 a5 k) := epoch_Visible.l1.eq_2 a0 a1 a2 a3 a4 a5 k
def epoch_Visible.T5 : Bool × List (List Nat × List Nat) := (true, [([], []), ([], []), ([0, 1], [0, 1]), ([2], [2]), ([3], [3]), ([], []), ([], []), ([5, 6], [5, 6]), ([7], [7]), ([8], [8]), ([4, 9], [4, 9]), ([10, 0, 1, 2, 3, 4, 5, 6, 7, 8, 9, 10], [10])])
def epoch_Visible.B5 : List Nat := [0, 0, 3, 7, 15, 0, 0, 96, 224, 480, 1023, 2047]
theorem epoch_Visible.tab5 : rtab .any (opsOf Tryz.f9 5) = epoch_Visible.T5 := by kernel_rfl
theorem epoch_Visible.bits5 : waitsOk epoch_Visible.T5.2 epoch_Visible.B5 = true := by kernel_rfl
def epoch_Visible.T15 : Bool × List (List Nat × List Nat) := (true, [([], []), ([0], [0]), ([1], [1]), ([2], [2]), ([2], [2]), ([3, 4, 2], [2, 3, 4]), ([5, 2], [2, 5]), ([6, 2], [2, 6]), ([2], [2]), ([8, 2], [2, 8]), ([7, 9, 2], [2, 7, 9]), ([2, 10], [2, 10]), ([11, 2], [11])])
def epoch_Visible.B15 : List Nat := [0, 1, 3, 7, 7, 31, 63, 127, 7, 263, 1023, 2047, 4095]
theorem epoch_Visible.tab15 : rtab .any (opsOf Tryz.f9 15) = epoch_Visible.T15 := by kernel_rfl
theorem epoch_Visible.bits15 : waitsOk epoch_Visible.T15.2 epoch_Visible.B15 = true := by kernel_rfl
def epoch_Visible.T16 : Bool × List (List Nat × List Nat) := (true, [([], []), ([], []), ([0, 1], [0, 1]), ([2], [2]), ([3], [3]), ([], []), ([5], [5]), ([4, 6], [4, 6]), ([0, 1, 0, 1, 2, 3, 4, 5, 6, 7], [0, 1]), ([8, 0, 1, 2, 3, 4, 5, 6, 7], [8]), ([9, 7, 0, 1, 2, 3, 4, 5, 6, 7], [7, 9])])
def epoch_Visible.B16 : List Nat := [0, 0, 3, 7, 15, 0, 32, 127, 255, 511, 1023]
theorem epoch_Visible.tab16 : rtab .any (opsOf Tryz.f9 16) = epoch_Visible.T16 := by kernel_rfl
theorem epoch_Visible.bits16 : waitsOk epoch_Visible.T16.2 epoch_Visible.B16 = true := by kernel_rfl
set_option maxHeartbeats 8000000 in
set_option maxRecDepth 100000 in
theorem epoch_Visible.calls (k : Nat) (A0 : Option Addr) (c0 : Nat) (l0 : List (S66)) (A1 : Option Addr) (c1 : Nat) (l1 : List (S68)) (a2 : Int) (r1 : Int) (r2 : List (S70)) (r3 : List Int) (r4 : List Int) (r5 : Int) (w : World) (hr0 : Kd.C k66 w A0 l0.length l0) (hc0 : l0.length ≤ c0) (hr1 : Kd.C k68 w A1 l1.length l1) (hc1 : l1.length ≤ c1) (h : epoch_Visible.f k l0 l1 a2 = some (r1, r2, r3, r4, r5)) :
  Calls Tryz.prog 9 #[.slice A0 l0.length c0, .slice A1 l1.length c1, .int .i64 a2] w fun e w' => ∃ v1_ v2_ v3_ : Value, e = .returned (.tuple #[.agg #[.int .i64 r1, v1_, v2_, v3_], .int .i64 r5]) ∧ Kd.R k70 70 w' w.heap.size (fun _ => True) v1_ r2 ∧ Kd.R (Kd.int .i64) 3 w' w.heap.size (fun k_ => some k_ ≠ (v3_ : Value).ownBlock) v2_ r3 ∧ Kd.R (Kd.int .i64) 3 w' w.heap.size (fun k_ => some k_ ≠ (v2_ : Value).ownBlock) v3_ r4 ∧ Below w.heap.size w w' := by
 have hu29 := Tryz.underlying29
 have hu66 := Tryz.underlying66
 have hu70 := Tryz.underlying70
 have hu68 := Tryz.underlying68
 have HR0 := Aside0.mk hr0
 have HC0 := Aside0.mk hc0
 clear hr0 hc0
 have HR1 := Aside0.mk hr1
 have HC1 := Aside0.mk hc1
 clear hr1 hc1
 have HB := Aside0.mk (Below.refl w.heap.size w)
 have H := h
 clear h
 unfold epoch_Visible.f at H
 replace H := bd H
 obtain ⟨⟨t378, t379⟩, A4, H⟩ := H
 dsimp only at H
 have HC5 := Aside0.mk H
 clear H
 go_enter Tryz.func9, Tryz.ntmps9
 go_upto_region 4 with (first | ((with_reducible refine gate_dst (N := 6) rfl ?_); refine boxE HB 6 29 #[.int .i64 0, .slice none 0 0, .slice none 0 0, .slice none 0 0] ?_; clear HB; intro gb377 w6 BK377 GW377 hg hb HB; have GE377 := GW377; clear hb hg) | ((with_reducible refine gate_callee (f := 33) rfl ?_); refine gL 23 Tryz.func33 #[.slice A0 l0.length c0] ?_; (with_reducible refine (runs_Put.calls k _ _ l0 t378 t379 _ ?side1 ?side2 A4.out).mono ?_); (case side1 => exact cx (Kd.C_below HR0.out HB.out)); (case side2 => exact HC0.out); rintro e w7 ⟨rfl, hb⟩; refine ⟨_, rfl, ?_⟩; replace BK377 := bba BK377 hb; replace HB := bsa HB hb; clear hb))
 go_cut [34] (fun v34 wc => ∃ (kq : Nat) (x34_4 : Bool), v34 = .bool x34_4 ∧ Aside0 (epoch_Visible.j0 kq l0 l1 a2 t379 0 (wrap64 ((l0.length : Int) - 1)) x34_4 = some (r1, r2, r3, r4, r5)) ∧ Aside0 (kq ≤ k) ∧ Aside0 (wc.heap[gb377]? = some (.cells #[.int .i64 0, (.slice none 0 0), (.slice none 0 0), (.slice none 0 0)] 29 (0, 0))) ∧ Aside0 (Below w.heap.size w wc))
 case first =>
  have H := HC5.out
  clear HC5
  replace H := ifd H
  rcases H with ⟨-, c8b0, H⟩ | ⟨-, c8b0, H⟩
  ·(skip)
   have H' := Aside0.mk H
   clear H
   go_wp2
   go_meet
   case rel => exact ⟨_, ((t379 == 0)), (by rfl), H', ⟨by omega⟩, ⟨bx BK377.out⟩, ⟨bh HB.out⟩⟩
  ·(skip)
   have H' := Aside0.mk H
   clear H
   go_wp2
   go_meet
   case rel => exact ⟨_, (false), (by rfl), H', ⟨by omega⟩, ⟨bx BK377.out⟩, ⟨bh HB.out⟩⟩
 case rest =>
  clear HC5
  obtain ⟨kq, x34_4, rfl, HA, HJ4, BK377, HB⟩ := hcut
  cases kq with
  | zero => exact absurd HA.out (by simp [epoch_Visible.j0])
  | succ kj4 =>
   have H := HA.out
   clear HA
   simp only [epoch_Visible.j0] at H
   have HC9 := Aside0.mk H
   clear H
   go_upto_if 34 with (fail)
   go_cut [10] (fun v10 wc => ∃ (kq : Nat) (x10_8 : Int), v10 = .int .i64 x10_8 ∧ Aside0 (epoch_Visible.j1 kq l0 l1 a2 t379 x10_8 = some (r1, r2, r3, r4, r5)) ∧ Aside0 (kq ≤ kj4) ∧ Aside0 (wc.heap[gb377]? = some (.cells #[.int .i64 0, (.slice none 0 0), (.slice none 0 0), (.slice none 0 0)] 29 (0, 0))) ∧ Aside0 (Below w.heap.size w wc))
   case first =>
    have H := HC9.out
    clear HC9
    replace H := ifb H
    rcases H with ⟨rfl, H⟩ | ⟨rfl, H⟩
    ·obtain ⟨ji11, hji11⟩ : ∃ j_ : Int, (wrap64 ((l0.length : Int) - 1)) = j_ := ⟨_, rfl⟩
     replace H : (if 0 ≤ (ji11) then (if (ji11) < (l0.length : Int) then (epoch_Visible.j1 kj4 l0 l1 a2 t379 (wrap64 (((rd_T66 l0 (ji11)).f1) + ((rd_T66 l0 (ji11)).f2)))) else (none)) else (none)) = some (r1, r2, r3, r4, r5) := by (rw [hji11] at H; exact H)
     have hji11w : (IntKind.i64.wrap ((l0.length : Int) - 1)) = ji11 := (i64_w _).trans hji11
     replace H := ifn H
     obtain ⟨-, c12b0, H⟩ := H
     (skip)
     replace H := ifn H
     obtain ⟨-, c13b0, H⟩ := H
     have H' := Aside0.mk H
     clear H
     go_wp2
     replace BK377 := Aside0.mk (blk_drew BK377.out)
     replace HB := Aside0.mk (below_drew1 HB.out)
     have p380 : 0 ≤ ((ji11) : Int) := ad
     have q380 : (ji11) < (l0.length : Int) := ad
     obtain ⟨ad380, e380, hx380_0, hx380_1, hx380_2⟩ := at_T66 HR0.out (ji11) p380 q380
     have hw380_2 := hx380_2
     have hw380_1 := hx380_1
     have hw380_0 := hx380_0
     cases e380
     replace hx380_0 := cb HB.out.cell hx380_0
     replace hx380_1 := cb HB.out.cell hx380_1
     replace hx380_2 := cb HB.out.cell hx380_2
     replace p380 := eq_true p380
     replace q380 := eq_true q380
     have p381 : 0 ≤ ((ji11) : Int) := ad
     have q381 : (ji11) < (l0.length : Int) := ad
     obtain ⟨ad381, e381, hx381_0, hx381_1, hx381_2⟩ := at_T66 HR0.out (ji11) p381 q381
     have hw381_2 := hx381_2
     have hw381_1 := hx381_1
     have hw381_0 := hx381_0
     obtain rfl : ad380 = ad381 := (by injection e381)
     replace hx381_0 := cb HB.out.cell hx381_0
     replace hx381_1 := cb HB.out.cell hx381_1
     replace hx381_2 := cb HB.out.cell hx381_2
     replace p381 := eq_true p381
     replace q381 := eq_true q381
     refine start_ (n := 12) (S := fun w' => w'.cell? (ad380.add (((ji11)).toNat * 3)) = some (.int .i64 ((rd_T66 l0 (ji11)).f0)) ∧ w'.cell? ⟨(ad380.add (((ji11)).toNat * 3)).block, (ad380.add (((ji11)).toNat * 3)).off + 1, none⟩ = some (.int .i64 ((rd_T66 l0 (ji11)).f1)) ∧ w'.cell? ⟨(ad380.add (((ji11)).toNat * 3)).block, (ad380.add (((ji11)).toNat * 3)).off + 2, none⟩ = some (.int .i64 ((rd_T66 l0 (ji11)).f2)) ∧ w'.cell? (ad380.add (((ji11)).toNat * 3)) = some (.int .i64 ((rd_T66 l0 (ji11)).f0)) ∧ w'.cell? ⟨(ad380.add (((ji11)).toNat * 3)).block, (ad380.add (((ji11)).toNat * 3)).off + 1, none⟩ = some (.int .i64 ((rd_T66 l0 (ji11)).f1)) ∧ w'.cell? ⟨(ad380.add (((ji11)).toNat * 3)).block, (ad380.add (((ji11)).toNat * 3)).off + 2, none⟩ = some (.int .i64 ((rd_T66 l0 (ji11)).f2))) (ds := []) #[false, false, false, false, false, false, false, false, false, false, false, false] (by kernel_rfl) rfl rfl ⟨((HB.out.cell (World.block_lt_of_cell? w _ hw380_0)).trans hw380_0), ((HB.out.cell (World.block_lt_of_cell? w _ hw380_1)).trans hw380_1), ((HB.out.cell (World.block_lt_of_cell? w _ hw380_2)).trans hw380_2), ((HB.out.cell (World.block_lt_of_cell? w _ hw381_0)).trans hw381_0), ((HB.out.cell (World.block_lt_of_cell? w _ hw381_1)).trans hw381_1), ((HB.out.cell (World.block_lt_of_cell? w _ hw381_2)).trans hw381_2)⟩ (fun hHeld => ?_); refine with_tabW epoch_Visible.tab5 epoch_Visible.bits5 (fun HT_ HW_ => ?_)
     generalize wc.drew = w14 at BK377 HB hx380_0 hx380_1 hx380_2 hx381_0 hx381_1 hx381_2 hHeld ⊢
     refine puA HT_ 0 35 (bv 12 1) ?_
     refine puA HT_ 1 36 (bv 12 3) ?_
     refine puA HT_ 2 37 (bv 12 7) ?_
     refine puA HT_ 3 38 (bv 12 15) ?_
     refine puA HT_ 5 40 (bv 12 47) ?_
     refine puA HT_ 6 41 (bv 12 111) ?_
     refine puA HT_ 7 42 (bv 12 239) ?_
     refine puA HT_ 8 43 (bv 12 495) ?_
     refine taA HT_ HW_ hHeld 4 39 (bv 12 511) ?_
     refine taA HT_ HW_ hHeld 9 44 (bv 12 1023) ?_
     refine puA HT_ 10 45 (bv 12 2047) ?_
     refine puA HT_ 11 10 (bv 12 4095) ?_
     refine done_ (done_of HT_.out (by kernel_rfl)) ?_
     go_wp2
     (simp only [← hji11]; go_meet)
     case rel => exact ⟨_, (wrap64 (((rd_T66 l0 (ji11)).f1) + ((rd_T66 l0 (ji11)).f2))), (by (simp only [← hji11] <;> (fail))), (by exact H'), ⟨by have := HJ4.out; omega⟩, ⟨bx BK377.out⟩, ⟨bh HB.out⟩⟩
    ·have H' := Aside0.mk H
     clear H
     go_wp2
     go_meet
     case rel => exact ⟨_, (0), (by rfl), H', ⟨by have := HJ4.out; omega⟩, ⟨bx BK377.out⟩, ⟨bh HB.out⟩⟩
   case rest =>
    clear HC9
    obtain ⟨kq, x10_8, rfl, HA, HJ8, BK377, HB⟩ := hcut
    cases kq with
    | zero => exact absurd HA.out (by simp [epoch_Visible.j1])
    | succ kj8 =>
     have H := HA.out
     clear HA
     simp only [epoch_Visible.j1] at H
     have HC15 := Aside0.mk H
     clear H
     go_upto_region 6 with (fail)
     go_cut [57] (fun v57 wc => ∃ (kq : Nat) (x57_14 : Bool), v57 = .bool x57_14 ∧ Aside0 (epoch_Visible.j2 kq l0 l1 a2 x57_14 = some (r1, r2, r3, r4, r5)) ∧ Aside0 (kq ≤ kj8) ∧ Aside0 (wc.heap[gb377]? = some (.cells #[.int .i64 0, (.slice none 0 0), (.slice none 0 0), (.slice none 0 0)] 29 (0, 0))) ∧ Aside0 (Below w.heap.size w wc))
     case first =>
      have H := HC15.out
      clear HC15
      replace H := ife H
      rcases H with ⟨-, c16b0, c16b1, H⟩ | ⟨c16, c16b0, c16b1, H⟩
      ·(skip)
       replace H := ifd H
       rcases H with ⟨-, c17b0, H⟩ | ⟨-, c17b0, H⟩
       ·have H' := Aside0.mk H
        clear H
        go_wp2
        go_meet
        case rel => exact ⟨_, (true), (by rfl), H', ⟨by have := HJ4.out; have := HJ8.out; omega⟩, ⟨bx BK377.out⟩, ⟨bh HB.out⟩⟩
       ·replace H := bd H
        obtain ⟨t382, A18, H⟩ := H
        have H' := Aside0.mk H
        clear H
        go_wp2_with ((go_at_call 34; (with_reducible refine (epoch_good.calls kj8 _ _ l1 x10_8 t382 _ ?side1 ?side2 A18.out).mono ?_); (case side1 => exact cx (Kd.C_below HR1.out HB.out)); (case side2 => exact HC1.out); rintro e w19 ⟨rfl, hb⟩; replace BK377 := bba BK377 hb; replace HB := bsa HB hb; clear hb))
        go_meet
        case rel => exact ⟨_, (!t382), (by rfl), H', ⟨by have := HJ4.out; have := HJ8.out; omega⟩, ⟨bx BK377.out⟩, ⟨bh HB.out⟩⟩
      ·(skip)
       have H' := Aside0.mk H
       clear H
       go_wp2
       go_meet
       case rel => exact ⟨_, (true), (by rfl), H', ⟨by have := HJ4.out; have := HJ8.out; omega⟩, ⟨bx BK377.out⟩, ⟨bh HB.out⟩⟩
     case rest =>
      clear HC15
      obtain ⟨kq, x57_14, rfl, HA, HJ14, BK377, HB⟩ := hcut
      cases kq with
      | zero => exact absurd HA.out (by simp [epoch_Visible.j2])
      | succ kj14 =>
       have H := HA.out
       clear HA
       simp only [epoch_Visible.j2] at H
       replace H := ifb H
       rcases H with ⟨rfl, H⟩ | ⟨rfl, H⟩
       ·simp only [Option.some.injEq, Prod.mk.injEq] at H
        obtain ⟨rfl, rfl, rfl, rfl, rfl⟩ := H
        obtain ⟨hcz21_0, hcz21_1, hcz21_2, hcz21_3, hfz21_0, hfz21_1, hfz21_2, hfz21_3⟩ := b4 BK377
        go_wp2_with (((with_reducible refine gate_store (t := 29) (p := 6) rfl ?_); refine stE 29 6 ((((wc.setCell ⟨gb377, 0, none⟩ (.int .i64 0)).setCell ⟨gb377, 1, none⟩ (.slice none 0 0)).setCell ⟨gb377, 2, none⟩ (.slice none 0 0)).setCell ⟨gb377, 3, none⟩ (.slice none 0 0)) ?_; intro w22 hw; replace BK377 := sps #[.int .i64 0, .slice none 0 0, .slice none 0 0, .slice none 0 0] BK377 hw (.p (.p (.p (.p .nil)))); replace HB := bhw HB hw; clear hw))
        refine bodyPost_ret (results_ct rfl _ _ gb377 29 #[.int .i64 0, .slice none 0 0, .slice none 0 0, .slice none 0 0] (0, 0) _ rfl (bx BK377.out) Tryz.underlying29 rfl (by kernel_rfl)) rfl ?_
        exact ⟨_, _, _, er, nl, nl, nl, bh HB.out⟩
       ·have H' := Aside0.mk H
        clear H
        go_wp2
        go_loopg [12, 61] kj14 (fun kq v12 v61 w' => ∃ (x12_4 : List (S70)) (x61_4 : Int), v61 = .int .i64 x61_4 ∧ Aside0 (epoch_Visible.l0 kq l1 a2 x12_4 l0 (l0.length : Int) x61_4 = some (r1, r2, r3, r4, r5)) ∧ Aside0 (kq ≤ kj14) ∧ Aside0 (Kd.R k70 70 w' w.heap.size (fun _ => True) v12 x12_4) ∧ Aside0 (w'.heap[gb377]? = some (.cells #[.int .i64 0, (.slice none 0 0), (.slice none 0 0), (.slice none 0 0)] 29 (0, 0))) ∧ Aside0 (Below w.heap.size w w'))
        case atStart => exact ⟨(([] : List (S70))), (0), (by rfl), H', ⟨Nat.le_refl _⟩, ⟨nl⟩, ⟨bx BK377.out⟩, ⟨bh HB.out⟩⟩
        case round =>
         clear H'
         obtain ⟨x12_4, x61_4, rfl, HA, HK4, HO_12, BK377, HB⟩ := hrel
         cases gk with
         | zero => exact absurd HA.out (by simp [epoch_Visible.l0])
         | succ k4 =>
          have H := HA.out
          clear HA
          simp only [epoch_Visible.l0] at H
          replace H := ifd H
          rcases H with ⟨-, c23b0, H⟩ | ⟨-, c23b0, H⟩
          ·replace H := ifn H
           obtain ⟨-, c24b0, H⟩ := H
           replace H := ifn H
           obtain ⟨-, c25b0, H⟩ := H
           replace H := ifd H
           rcases H with ⟨-, c26b0, H⟩ | ⟨-, c26b0, H⟩
           ·have H' := Aside0.mk H
            clear H
            have p383 : 0 ≤ (x61_4 : Int) := ad
            have q383 : x61_4 < (l0.length : Int) := ad
            obtain ⟨ad383, e383, hx383_0, hx383_1, hx383_2⟩ := at_T66 HR0.out x61_4 p383 q383
            cases e383
            replace hx383_0 := cb HB.out.cell hx383_0
            replace hx383_1 := cb HB.out.cell hx383_1
            replace hx383_2 := cb HB.out.cell hx383_2
            replace p383 := eq_true p383
            replace q383 := eq_true q383
            go_wp2_with (first | ((with_reducible refine gate_dst (N := 14) rfl ?_); refine box_event ?hg (N := 14) ?hd (cs := #[.int .i64 0, .int .i64 0, .int .i64 0]) (t := 66) ?hr ?_; (case hd => rfl); (case hg => rfl); (case hr => (go_simp; done)); intro gb384 hg w27 hbox hb; replace HO_12 := rba HO_12 hb; have BK384 := Aside0.mk (hbox); have GW384 := bza HB hg; have GE384 := bza HB hg; replace HB := bsa HB hb; obtain ⟨NB377_384, NB384_377⟩ := bnm BK377 hg; replace BK377 := bba BK377 hb; clear hb hbox hg; have hnb28 := NB384_377.out; have hnc28 := NB377_384.out; obtain ⟨hcz29_0, hcz29_1, hcz29_2, hfz29_0, hfz29_1, hfz29_2⟩ := b3 BK384) | ((with_reducible refine gate_store (t := 66) (p := 14) rfl ?_); refine stE 66 14 (((w27.setCell ⟨gb384, 0, none⟩ (.int .i64 ((rd_T66 l0 x61_4).f0))).setCell ⟨gb384, 1, none⟩ (.int .i64 ((rd_T66 l0 x61_4).f1))).setCell ⟨gb384, 2, none⟩ (.int .i64 ((rd_T66 l0 x61_4).f2))) ?_; intro w30 hw; have n0_ := rsm (fun _ => True) HO_12 hw (fun _ hk => trivial); have n1_ : Aside0 (w30.heap[gb377]? = some (.cells #[.int .i64 0, .slice none 0 0, .slice none 0 0, .slice none 0 0] 29 (0, 0))) := ⟨(by rw [hw]; exact (bx BK377.out))⟩; have n2_ := sps #[.int .i64 ((rd_T66 l0 x61_4).f0), .int .i64 ((rd_T66 l0 x61_4).f1), .int .i64 ((rd_T66 l0 x61_4).f2)] BK384 hw (.p (.p (.p .nil))); have n3_ := bhw HB hw; clear hw HO_12 BK377 BK384 HB; have HO_12 := n0_; have BK377 := n1_; have BK384 := n2_; have HB := n3_; clear n0_ n1_ n2_ n3_; obtain ⟨Ao31, co31, eo31⟩ := Kd.R_slice HO_12.out; subst eo31; obtain ⟨hcz32_0, hcz32_1, hcz32_2, hfz32_0, hfz32_1, hfz32_2⟩ := b3 BK384))
            go_roundg k4
            case measure => have := HJ4.out; have := HJ8.out; have := HJ14.out; have := HK4.out; omega
            case rel => exact ⟨(x12_4), (wrap64 (x61_4 + 1)), (by rfl), H', ⟨by have := HJ4.out; have := HJ8.out; have := HJ14.out; have := HK4.out; omega⟩, ⟨by exact HO_12.out⟩, ⟨bx BK377.out⟩, ⟨bh HB.out⟩⟩
           ·replace H := ifd H
            rcases H with ⟨-, c33b0, H⟩ | ⟨-, c33b0, H⟩
            ·obtain ⟨ji34, hji34⟩ : ∃ j_ : Int, (wrap64 ((x12_4.length : Int) - 1)) = j_ := ⟨_, rfl⟩
             replace H : (if 0 ≤ (ji34) then (if (ji34) < (x12_4.length : Int) then (if ((rd_T70 x12_4 (ji34)).f1) = ((rd_T66 l0 x61_4).f1) then (epoch_Visible.l0 k4 l1 a2 (x12_4.set ((ji34) : Int).toNat (⟨(rd_T70 x12_4 (ji34)).f0, wrap64 (((rd_T70 x12_4 (ji34)).f1) + ((rd_T66 l0 x61_4).f2))⟩ : S70)) l0 (l0.length : Int) (wrap64 (x61_4 + 1))) else (if x12_4.length < 8796093022208 then (epoch_Visible.l0 k4 l1 a2 (x12_4 ++ [(⟨(rd_T66 l0 x61_4).f1, wrap64 (((rd_T66 l0 x61_4).f1) + ((rd_T66 l0 x61_4).f2))⟩ : S70)]) l0 (l0.length : Int) (wrap64 (x61_4 + 1))) else (none))) else (none)) else (none)) = some (r1, r2, r3, r4, r5) := by (rw [hji34] at H; exact H)
             (rw [hji34] at c33b0)
             have hji34w : (IntKind.i64.wrap ((x12_4.length : Int) - 1)) = ji34 := (i64_w _).trans hji34
             replace H := ifn H
             obtain ⟨-, c35b0, H⟩ := H
             replace H := ifn H
             obtain ⟨-, c36b0, H⟩ := H
             replace H := ife H
             rcases H with ⟨-, c37b0, c37b1, H⟩ | ⟨c37, c37b0, c37b1, H⟩
             ·obtain ⟨y387, hy387⟩ : ∃ y_ : List (S70), y_ = (x12_4.set ((ji34) : Int).toNat (⟨(rd_T70 x12_4 (ji34)).f0, wrap64 (((rd_T70 x12_4 (ji34)).f1) + ((rd_T66 l0 x61_4).f2))⟩ : S70)) := ⟨_, rfl⟩
              replace H : (epoch_Visible.l0 k4 l1 a2 y387 l0 (l0.length : Int) (wrap64 (x61_4 + 1))) = some (r1, r2, r3, r4, r5) := by (rw [hy387]; with_reducible exact H)
              have Ny387 := Aside0.mk hy387
              clear hy387
              have H' := Aside0.mk H
              clear H
              have p383 : 0 ≤ (x61_4 : Int) := ad
              have q383 : x61_4 < (l0.length : Int) := ad
              obtain ⟨ad383, e383, hx383_0, hx383_1, hx383_2⟩ := at_T66 HR0.out x61_4 p383 q383
              cases e383
              replace hx383_0 := cb HB.out.cell hx383_0
              replace hx383_1 := cb HB.out.cell hx383_1
              replace hx383_2 := cb HB.out.cell hx383_2
              replace p383 := eq_true p383
              replace q383 := eq_true q383
              go_wp2_with (first | ((with_reducible refine gate_dst (N := 14) rfl ?_); refine box_event ?hg (N := 14) ?hd (cs := #[.int .i64 0, .int .i64 0, .int .i64 0]) (t := 66) ?hr ?_; (case hd => rfl); (case hg => rfl); (case hr => (go_simp; done)); intro gb384 hg w39 hbox hb; replace HO_12 := rba HO_12 hb; have BK384 := Aside0.mk (hbox); have GW384 := bza HB hg; have GE384 := bza HB hg; replace HB := bsa HB hb; obtain ⟨NB377_384, NB384_377⟩ := bnm BK377 hg; replace BK377 := bba BK377 hb; clear hb hbox hg; have hnb40 := NB384_377.out; have hnc40 := NB377_384.out; obtain ⟨hcz41_0, hcz41_1, hcz41_2, hfz41_0, hfz41_1, hfz41_2⟩ := b3 BK384) | ((with_reducible refine gate_store (t := 66) (p := 14) rfl ?_); refine stE 66 14 (((w39.setCell ⟨gb384, 0, none⟩ (.int .i64 ((rd_T66 l0 x61_4).f0))).setCell ⟨gb384, 1, none⟩ (.int .i64 ((rd_T66 l0 x61_4).f1))).setCell ⟨gb384, 2, none⟩ (.int .i64 ((rd_T66 l0 x61_4).f2))) ?_; intro w42 hw; have n0_ := rsm (fun _ => True) HO_12 hw (fun _ hk => trivial); have n1_ : Aside0 (w42.heap[gb377]? = some (.cells #[.int .i64 0, .slice none 0 0, .slice none 0 0, .slice none 0 0] 29 (0, 0))) := ⟨(by rw [hw]; exact (bx BK377.out))⟩; have n2_ := sps #[.int .i64 ((rd_T66 l0 x61_4).f0), .int .i64 ((rd_T66 l0 x61_4).f1), .int .i64 ((rd_T66 l0 x61_4).f2)] BK384 hw (.p (.p (.p .nil))); have n3_ := bhw HB hw; clear hw HO_12 BK377 BK384 HB; have HO_12 := n0_; have BK377 := n1_; have BK384 := n2_; have HB := n3_; clear n0_ n1_ n2_ n3_; obtain ⟨Ao43, co43, eo43⟩ := Kd.R_slice HO_12.out; subst eo43; obtain ⟨hcz44_0, hcz44_1, hcz44_2, hfz44_0, hfz44_1, hfz44_2⟩ := b3 BK384))
              replace HO_12 := Aside0.mk (Kd.R_drew HO_12.out)
              replace BK377 := Aside0.mk (blk_drew BK377.out)
              replace BK384 := Aside0.mk (blk_drew BK384.out)
              replace HB := Aside0.mk (below_drew1 HB.out)
              have p385 : 0 ≤ ((ji34) : Int) := ad
              have q385 : (ji34) < (x12_4.length : Int) := ad
              obtain ⟨ad385, e385, hx385_0, hx385_1⟩ := at_T70 (Kd.R_reads' HO_12.out).2.2 (ji34) p385 q385
              cases e385
              replace p385 := eq_true p385
              replace q385 := eq_true q385
              refine start_ (n := 13) (S := fun w' => w'.cell? ⟨gb384, 0, none⟩ = some (.int .i64 ((rd_T66 l0 x61_4).f0)) ∧ w'.cell? ⟨gb384, 1, none⟩ = some (.int .i64 ((rd_T66 l0 x61_4).f1)) ∧ w'.cell? ⟨gb384, 2, none⟩ = some (.int .i64 ((rd_T66 l0 x61_4).f2)) ∧ w'.cell? (ad385.add (((ji34)).toNat * 2)) = some (.int .i64 ((rd_T70 x12_4 (ji34)).f0)) ∧ w'.cell? ⟨(ad385.add (((ji34)).toNat * 2)).block, (ad385.add (((ji34)).toNat * 2)).off + 1, none⟩ = some (.int .i64 ((rd_T70 x12_4 (ji34)).f1))) (ds := []) #[false, false, false, false, false, false, false, false, false, false, false, false, false] (by kernel_rfl) rfl rfl ⟨(blk_cell BK384.out 0).trans rfl, (blk_cell BK384.out 1).trans rfl, (blk_cell BK384.out 2).trans rfl, hx385_0, hx385_1⟩ (fun hHeld => ?_); refine with_tabW epoch_Visible.tab15 epoch_Visible.bits15 (fun HT_ HW_ => ?_)
              generalize w42.drew = w45 at HO_12 BK377 BK384 HB hx385_0 hx385_1 hHeld ⊢
              refine puA HT_ 0 85 (bv 13 1) ?_
              refine puA HT_ 1 86 (bv 13 3) ?_
              refine puA HT_ 2 87 (bv 13 7) ?_
              refine puA HT_ 3 88 (bv 13 15) ?_
              refine puA HT_ 4 89 (bv 13 31) ?_
              refine puA HT_ 5 90 (bv 13 63) ?_
              refine puA HT_ 6 91 (bv 13 127) ?_
              refine puA HT_ 8 93 (bv 13 383) ?_
              refine taA HT_ HW_ hHeld 7 92 (bv 13 511) ?_
              refine taA HT_ HW_ hHeld 9 94 (bv 13 1023) ?_
              refine puA HT_ 10 95 (bv 13 2047) ?_
              refine puA HT_ 11 96 (bv 13 4095) ?_
              refine puA HT_ 12 84 (bv 13 8191) ?_
              refine done_ (done_of HT_.out (by kernel_rfl)) ?_
              go_wp2
              replace HO_12 := Aside0.mk (Kd.R_drew HO_12.out)
              replace BK377 := Aside0.mk (blk_drew BK377.out)
              replace BK384 := Aside0.mk (blk_drew BK384.out)
              replace HB := Aside0.mk (below_drew1 HB.out)
              have p386 : 0 ≤ ((ji34) : Int) := ad
              have q386 : (ji34) < (x12_4.length : Int) := ad
              obtain ⟨ad386, e386, hx386_0, hx386_1⟩ := at_T70 (Kd.R_reads' HO_12.out).2.2 (ji34) p386 q386
              obtain rfl : ad385 = ad386 := (by injection e386)
              replace p386 := eq_true p386
              replace q386 := eq_true q386
              have p38 : 0 ≤ ((ji34) : Int) := ad
              have q38 : ((ji34) : Int) < ((x12_4.length : Int) : Int) := ad
              obtain ⟨go38, co38, eo38, gb38, gl38, cl38, HG38⟩ := Kd.R_form HO_12.out (by omega)
              (cases eo38)
              have GB38 := Aside0.mk gb38
              have GG38 := Aside0.mk HG38
              clear gb38 gl38 HG38
              (simp only [add_plain] at hx385_0)
              (simp only [add_plain] at hx385_1)
              (simp only [add_plain] at hx386_0)
              (simp only [add_plain] at hx386_1)
              obtain ⟨ce38, hcl38, hM38, hcc38, hfr38⟩ := Kd.R_elem HO_12.out z70 ((ji34) : Int) p38 q38
              obtain rfl := k70_openM hM38
              have hx38_0 : World.cell? _ ⟨go38, ((ji34) : Int).toNat * 2, none⟩ = some (.int .i64 ((rd_T70 x12_4 (ji34)).f0)) := hcc38 0 _ rfl
              have hx38_1 : World.cell? _ ⟨go38, ((ji34) : Int).toNat * 2 + 1, none⟩ = some (.int .i64 ((rd_T70 x12_4 (ji34)).f1)) := hcc38 1 _ rfl
              have hf38_0 : World.frozen? _ ⟨go38, ((ji34) : Int).toNat * 2, none⟩ = false := hfr38 0
              have hf38_1 : World.frozen? _ ⟨go38, ((ji34) : Int).toNat * 2 + 1, none⟩ = false := hfr38 1
              clear hcl38 hcc38 hfr38 hM38
              replace p38 := eq_true p38
              replace q38 := eq_true q38
              obtain ⟨ce47, hcl47, hM47, hcc47, hfr47⟩ := Kd.R_elem HO_12.out z70 ((ji34) : Int) (of_decide_eq_true (by assumption)) (by have h_ : ((ji34) : Int) < ((x12_4.length : Int) : Int) := of_decide_eq_true (by assumption); exact h_)
              obtain rfl := k70_openM hM47
              have HP47 := (Kd.R_seg HO_12.out ((ji34) : Int) (of_decide_eq_true (by assumption)) (by have h_ : ((ji34) : Int) < ((x12_4.length : Int) : Int) := of_decide_eq_true (by assumption); exact h_) (seg := [.int .i64 (wrap64 (((rd_T70 x12_4 (ji34)).f1) + ((rd_T66 l0 x61_4).f2)))]) (j := 1) hcl47 hcc47 (show 2 ≤ 2 from by decide) (x' := (⟨(rd_T70 x12_4 (ji34)).f0, wrap64 (((rd_T70 x12_4 (ji34)).f1) + ((rd_T66 l0 x61_4).f2))⟩ : S70)) (k70_mkM _ _ _ (⟨(rd_T70 x12_4 (ji34)).f0, wrap64 (((rd_T70 x12_4 (ji34)).f1) + ((rd_T66 l0 x61_4).f2))⟩ : S70) ) (fun _ hk => hk)).1
              rw [← Ny387.out] at HP47
              have HQ47 := Aside0.mk HP47
              clear hcl47 hcc47 hfr47 hM47 HP47
              refine start_ (n := 11) (S := fun w' => w'.cell? ⟨gb384, 0, none⟩ = some (.int .i64 ((rd_T66 l0 x61_4).f0)) ∧ w'.cell? ⟨gb384, 1, none⟩ = some (.int .i64 ((rd_T66 l0 x61_4).f1)) ∧ w'.cell? ⟨gb384, 2, none⟩ = some (.int .i64 ((rd_T66 l0 x61_4).f2)) ∧ w'.cell? ⟨go38, ((ji34)).toNat * 2, none⟩ = some (.int .i64 ((rd_T70 x12_4 (ji34)).f0)) ∧ w'.cell? ⟨go38, ((ji34)).toNat * 2 + 1, none⟩ = some (.int .i64 ((rd_T70 x12_4 (ji34)).f1))) (ds := [10]) #[false, false, false, false, false, false, false, false, false, false, false] (by kernel_rfl) rfl rfl ⟨(blk_cell BK384.out 0).trans rfl, (blk_cell BK384.out 1).trans rfl, (blk_cell BK384.out 2).trans rfl, hx386_0, hx386_1⟩ (fun hHeld => ?_); refine with_tabW epoch_Visible.tab16 epoch_Visible.bits16 (fun HT_ HW_ => ?_)
              generalize w45.drew = w46 at HO_12 BK377 BK384 HB GG38 HQ47 hf38_0 hf38_1 hx385_0 hx385_1 hx386_0 hx386_1 hx38_0 hx38_1 hHeld ⊢
              refine puA HT_ 0 97 (bv 11 1) ?_
              refine puA HT_ 1 98 (bv 11 3) ?_
              refine puA HT_ 2 99 (bv 11 7) ?_
              refine puA HT_ 3 100 (bv 11 15) ?_
              refine puA HT_ 5 102 (bv 11 47) ?_
              refine taA HT_ HW_ hHeld 4 101 (bv 11 63) ?_
              refine taA HT_ HW_ hHeld 6 103 (bv 11 127) ?_
              refine puA HT_ 7 104 (bv 11 255) ?_
              refine puA HT_ 8 105 (bv 11 511) ?_
              refine puA HT_ 9 106 (bv 11 1023) ?_
              refine last_ (i := 10) (N := none) #[true, true, true, true, true, true, true, true, true, true, true] rfl rfl (one_of HT_.out (by kernel_rfl)) (by decide) (fun K hK => ?_)
              refine skip_ (w1 := ?_) (by rfl) rfl ?_ ?_
              rotate_left
              ·go_simp
               rfl
              refine hK.out _ _ ?_
              clear hK K
              refine done_ (done_of HT_.out (by kernel_rfl)) ?_
              go_wp2
              go_roundg k4
              case measure => have := HJ4.out; have := HJ8.out; have := HJ14.out; have := HK4.out; omega
              case rel => exact ⟨(y387), (wrap64 (x61_4 + 1)), (by rfl), (by exact H'), ⟨by have := HJ4.out; have := HJ8.out; have := HJ14.out; have := HK4.out; omega⟩, ⟨by exact HQ47.out⟩, ⟨by refine blk_far ?_ (by have h_ := Kd.R_ne HO_12.out BK377.out (by decide); intro e_; exact h_ (by rw [e_]; rfl)) _; exact BK377.out⟩, ⟨by repeat ((with_reducible first | exact HB.out | refine below_set ?_ GB38.out))⟩⟩
             ·replace H := ifn H
              obtain ⟨c48, -, H⟩ := H
              have LMc48 := Aside0.mk c48
              clear c48
              obtain ⟨y388, hy388⟩ : ∃ y_ : List (S70), y_ = (x12_4 ++ [(⟨(rd_T66 l0 x61_4).f1, wrap64 (((rd_T66 l0 x61_4).f1) + ((rd_T66 l0 x61_4).f2))⟩ : S70)]) := ⟨_, rfl⟩
              replace H : (epoch_Visible.l0 k4 l1 a2 y388 l0 (l0.length : Int) (wrap64 (x61_4 + 1))) = some (r1, r2, r3, r4, r5) := by (rw [hy388]; with_reducible exact H)
              have Ny388 := Aside0.mk hy388
              clear hy388
              have H' := Aside0.mk H
              clear H
              have p383 : 0 ≤ (x61_4 : Int) := ad
              have q383 : x61_4 < (l0.length : Int) := ad
              obtain ⟨ad383, e383, hx383_0, hx383_1, hx383_2⟩ := at_T66 HR0.out x61_4 p383 q383
              cases e383
              replace hx383_0 := cb HB.out.cell hx383_0
              replace hx383_1 := cb HB.out.cell hx383_1
              replace hx383_2 := cb HB.out.cell hx383_2
              replace p383 := eq_true p383
              replace q383 := eq_true q383
              go_wp2_with (first | ((with_reducible refine gate_dst (N := 14) rfl ?_); refine box_event ?hg (N := 14) ?hd (cs := #[.int .i64 0, .int .i64 0, .int .i64 0]) (t := 66) ?hr ?_; (case hd => rfl); (case hg => rfl); (case hr => (go_simp; done)); intro gb384 hg w49 hbox hb; replace HO_12 := rba HO_12 hb; have BK384 := Aside0.mk (hbox); have GW384 := bza HB hg; have GE384 := bza HB hg; replace HB := bsa HB hb; obtain ⟨NB377_384, NB384_377⟩ := bnm BK377 hg; replace BK377 := bba BK377 hb; clear hb hbox hg; have hnb50 := NB384_377.out; have hnc50 := NB377_384.out; obtain ⟨hcz51_0, hcz51_1, hcz51_2, hfz51_0, hfz51_1, hfz51_2⟩ := b3 BK384) | ((with_reducible refine gate_store (t := 66) (p := 14) rfl ?_); refine stE 66 14 (((w49.setCell ⟨gb384, 0, none⟩ (.int .i64 ((rd_T66 l0 x61_4).f0))).setCell ⟨gb384, 1, none⟩ (.int .i64 ((rd_T66 l0 x61_4).f1))).setCell ⟨gb384, 2, none⟩ (.int .i64 ((rd_T66 l0 x61_4).f2))) ?_; intro w52 hw; have n0_ := rsm (fun _ => True) HO_12 hw (fun _ hk => trivial); have n1_ : Aside0 (w52.heap[gb377]? = some (.cells #[.int .i64 0, .slice none 0 0, .slice none 0 0, .slice none 0 0] 29 (0, 0))) := ⟨(by rw [hw]; exact (bx BK377.out))⟩; have n2_ := sps #[.int .i64 ((rd_T66 l0 x61_4).f0), .int .i64 ((rd_T66 l0 x61_4).f1), .int .i64 ((rd_T66 l0 x61_4).f2)] BK384 hw (.p (.p (.p .nil))); have n3_ := bhw HB hw; clear hw HO_12 BK377 BK384 HB; have HO_12 := n0_; have BK377 := n1_; have BK384 := n2_; have HB := n3_; clear n0_ n1_ n2_ n3_; obtain ⟨Ao53, co53, eo53⟩ := Kd.R_slice HO_12.out; subst eo53; obtain ⟨hcz54_0, hcz54_1, hcz54_2, hfz54_0, hfz54_1, hfz54_2⟩ := b3 BK384))
              replace HO_12 := Aside0.mk (Kd.R_drew HO_12.out)
              replace BK377 := Aside0.mk (blk_drew BK377.out)
              replace BK384 := Aside0.mk (blk_drew BK384.out)
              replace HB := Aside0.mk (below_drew1 HB.out)
              have p385 : 0 ≤ ((ji34) : Int) := ad
              have q385 : (ji34) < (x12_4.length : Int) := ad
              obtain ⟨ad385, e385, hx385_0, hx385_1⟩ := at_T70 (Kd.R_reads' HO_12.out).2.2 (ji34) p385 q385
              cases e385
              replace p385 := eq_true p385
              replace q385 := eq_true q385
              refine start_ (n := 13) (S := fun w' => w'.cell? ⟨gb384, 0, none⟩ = some (.int .i64 ((rd_T66 l0 x61_4).f0)) ∧ w'.cell? ⟨gb384, 1, none⟩ = some (.int .i64 ((rd_T66 l0 x61_4).f1)) ∧ w'.cell? ⟨gb384, 2, none⟩ = some (.int .i64 ((rd_T66 l0 x61_4).f2)) ∧ w'.cell? (ad385.add (((ji34)).toNat * 2)) = some (.int .i64 ((rd_T70 x12_4 (ji34)).f0)) ∧ w'.cell? ⟨(ad385.add (((ji34)).toNat * 2)).block, (ad385.add (((ji34)).toNat * 2)).off + 1, none⟩ = some (.int .i64 ((rd_T70 x12_4 (ji34)).f1))) (ds := []) #[false, false, false, false, false, false, false, false, false, false, false, false, false] (by kernel_rfl) rfl rfl ⟨(blk_cell BK384.out 0).trans rfl, (blk_cell BK384.out 1).trans rfl, (blk_cell BK384.out 2).trans rfl, hx385_0, hx385_1⟩ (fun hHeld => ?_); refine with_tabW epoch_Visible.tab15 epoch_Visible.bits15 (fun HT_ HW_ => ?_)
              generalize w52.drew = w55 at HO_12 BK377 BK384 HB hx385_0 hx385_1 hHeld ⊢
              refine puA HT_ 0 85 (bv 13 1) ?_
              refine puA HT_ 1 86 (bv 13 3) ?_
              refine puA HT_ 2 87 (bv 13 7) ?_
              refine puA HT_ 3 88 (bv 13 15) ?_
              refine puA HT_ 4 89 (bv 13 31) ?_
              refine puA HT_ 5 90 (bv 13 63) ?_
              refine puA HT_ 6 91 (bv 13 127) ?_
              refine puA HT_ 8 93 (bv 13 383) ?_
              refine taA HT_ HW_ hHeld 7 92 (bv 13 511) ?_
              refine taA HT_ HW_ hHeld 9 94 (bv 13 1023) ?_
              refine puA HT_ 10 95 (bv 13 2047) ?_
              refine puA HT_ 11 96 (bv 13 4095) ?_
              refine puA HT_ 12 84 (bv 13 8191) ?_
              refine done_ (done_of HT_.out (by kernel_rfl)) ?_
              obtain ⟨hcz56_0, hcz56_1, hcz56_2, hfz56_0, hfz56_1, hfz56_2⟩ := b3 BK384
              go_wp2_with (((with_reducible refine gate_builtin (b := .append) (xs := #[.tmp 68, .tmp 77]) rfl ?_); at_builtin; refine Kd.R_append k70 (w0 := w) w.heap.size rfl (.tmp 68) (.tmp 77) 26 70 (.agg #[(.int .i64 0), (.int .i64 0)]) 16 rfl Tryz.underlying26 info70 rfl (by decide) (by omega) (.slice (some ad385) x12_4.length co53) x12_4 (⟨(rd_T66 l0 x61_4).f1, wrap64 (((rd_T66 l0 x61_4).f1) + ((rd_T66 l0 x61_4).f2))⟩ : S70) [.int .i64 ((rd_T66 l0 x61_4).f1), .int .i64 (wrap64 (((rd_T66 l0 x61_4).f1) + ((rd_T66 l0 x61_4).f2)))] (fun _ => True) (fun _ => False) rfl rfl ?aP (fun _ hk => hk.elim) ?aF ?aO ?aB ?aS ?aL ?_; (case aP => exact k70_mkM _ _ _ (⟨(rd_T66 l0 x61_4).f1, wrap64 (((rd_T66 l0 x61_4).f1) + ((rd_T66 l0 x61_4).f2))⟩ : S70)); (case aB => exact (bh HB.out)); (case aF => exact (fun _ _ => trivial)); (case aO => exact (rx HO_12.out)); (case aS => exact (below_size (bh HB.out))); (case aL => have := LMc48.out; omega); intro v389 w57 ho hb hg hat; rw [← Ny388.out] at ho; have n0_ := Aside0.mk (blk_grown (g := gb377) (o := .cells #[.int .i64 0, .slice none 0 0, .slice none 0 0, .slice none 0 0] 29 (0, 0)) (bx BK377.out) hg (Kd.R_ne HO_12.out BK377.out (by decide))); have n1_ := Aside0.mk (blk_grown (g := gb384) (o := .cells #[.int .i64 ((rd_T66 l0 x61_4).f0), .int .i64 ((rd_T66 l0 x61_4).f1), .int .i64 ((rd_T66 l0 x61_4).f2)] 66 (0, 0)) (bx BK384.out) hg (Kd.R_ne HO_12.out BK384.out (by decide))); have n2_ := Aside0.mk (hb); have n3_ := Aside0.mk (ho); clear BK377 BK384 HB HO_12; have BK377 := n0_; have BK384 := n1_; have HB := n2_; have HO390 := n3_; clear n0_ n1_ n2_ n3_ ho hb hg hat))
              go_roundg k4
              case measure => have := HJ4.out; have := HJ8.out; have := HJ14.out; have := HK4.out; omega
              case rel => exact ⟨(y388), (wrap64 (x61_4 + 1)), (by rfl), (by exact H'), ⟨by have := HJ4.out; have := HJ8.out; have := HJ14.out; have := HK4.out; omega⟩, ⟨by exact HO390.out⟩, ⟨bx BK377.out⟩, ⟨bh HB.out⟩⟩
            ·replace H := ifn H
             obtain ⟨c58, -, H⟩ := H
             have LMc58 := Aside0.mk c58
             clear c58
             obtain ⟨y391, hy391⟩ : ∃ y_ : List (S70), y_ = (x12_4 ++ [(⟨(rd_T66 l0 x61_4).f1, wrap64 (((rd_T66 l0 x61_4).f1) + ((rd_T66 l0 x61_4).f2))⟩ : S70)]) := ⟨_, rfl⟩
             replace H : (epoch_Visible.l0 k4 l1 a2 y391 l0 (l0.length : Int) (wrap64 (x61_4 + 1))) = some (r1, r2, r3, r4, r5) := by (rw [hy391]; with_reducible exact H)
             have Ny391 := Aside0.mk hy391
             clear hy391
             have H' := Aside0.mk H
             clear H
             have p383 : 0 ≤ (x61_4 : Int) := ad
             have q383 : x61_4 < (l0.length : Int) := ad
             obtain ⟨ad383, e383, hx383_0, hx383_1, hx383_2⟩ := at_T66 HR0.out x61_4 p383 q383
             cases e383
             replace hx383_0 := cb HB.out.cell hx383_0
             replace hx383_1 := cb HB.out.cell hx383_1
             replace hx383_2 := cb HB.out.cell hx383_2
             replace p383 := eq_true p383
             replace q383 := eq_true q383
             go_wp2_with (first | ((with_reducible refine gate_dst (N := 14) rfl ?_); refine box_event ?hg (N := 14) ?hd (cs := #[.int .i64 0, .int .i64 0, .int .i64 0]) (t := 66) ?hr ?_; (case hd => rfl); (case hg => rfl); (case hr => (go_simp; done)); intro gb384 hg w59 hbox hb; replace HO_12 := rba HO_12 hb; have BK384 := Aside0.mk (hbox); have GW384 := bza HB hg; have GE384 := bza HB hg; replace HB := bsa HB hb; obtain ⟨NB377_384, NB384_377⟩ := bnm BK377 hg; replace BK377 := bba BK377 hb; clear hb hbox hg; have hnb60 := NB384_377.out; have hnc60 := NB377_384.out; obtain ⟨hcz61_0, hcz61_1, hcz61_2, hfz61_0, hfz61_1, hfz61_2⟩ := b3 BK384) | ((with_reducible refine gate_store (t := 66) (p := 14) rfl ?_); refine stE 66 14 (((w59.setCell ⟨gb384, 0, none⟩ (.int .i64 ((rd_T66 l0 x61_4).f0))).setCell ⟨gb384, 1, none⟩ (.int .i64 ((rd_T66 l0 x61_4).f1))).setCell ⟨gb384, 2, none⟩ (.int .i64 ((rd_T66 l0 x61_4).f2))) ?_; intro w62 hw; have n0_ := rsm (fun _ => True) HO_12 hw (fun _ hk => trivial); have n1_ : Aside0 (w62.heap[gb377]? = some (.cells #[.int .i64 0, .slice none 0 0, .slice none 0 0, .slice none 0 0] 29 (0, 0))) := ⟨(by rw [hw]; exact (bx BK377.out))⟩; have n2_ := sps #[.int .i64 ((rd_T66 l0 x61_4).f0), .int .i64 ((rd_T66 l0 x61_4).f1), .int .i64 ((rd_T66 l0 x61_4).f2)] BK384 hw (.p (.p (.p .nil))); have n3_ := bhw HB hw; clear hw HO_12 BK377 BK384 HB; have HO_12 := n0_; have BK377 := n1_; have BK384 := n2_; have HB := n3_; clear n0_ n1_ n2_ n3_; obtain ⟨Ao63, co63, eo63⟩ := Kd.R_slice HO_12.out; subst eo63; obtain ⟨hcz64_0, hcz64_1, hcz64_2, hfz64_0, hfz64_1, hfz64_2⟩ := b3 BK384))
             replace HO_12 := Aside0.mk (Kd.R_drew HO_12.out)
             replace BK377 := Aside0.mk (blk_drew BK377.out)
             replace BK384 := Aside0.mk (blk_drew BK384.out)
             replace HB := Aside0.mk (below_drew1 HB.out)
             refine start_ (n := 13) (S := fun w' => True) (ds := []) #[false, false, false, false, false, false, false, false, false, false, false, false, false] (by kernel_rfl) rfl rfl trivial (fun hHeld => ?_); refine with_tabW epoch_Visible.tab15 epoch_Visible.bits15 (fun HT_ HW_ => ?_)
             generalize w62.drew = w65 at HO_12 BK377 BK384 HB hHeld ⊢
             refine puA HT_ 0 85 (bv 13 1) ?_
             refine puA HT_ 1 86 (bv 13 3) ?_
             refine puA HT_ 2 87 (bv 13 7) ?_
             refine puU HT_ 3 88 (bv 13 15) ?_
             refine puU HT_ 4 89 (bv 13 31) ?_
             refine puU HT_ 5 90 (bv 13 63) ?_
             refine puU HT_ 6 91 (bv 13 127) ?_
             refine puU HT_ 7 92 (bv 13 255) ?_
             refine puU HT_ 8 93 (bv 13 511) ?_
             refine puU HT_ 9 94 (bv 13 1023) ?_
             refine puU HT_ 10 95 (bv 13 2047) ?_
             refine puA HT_ 11 96 (bv 13 4095) ?_
             refine puA HT_ 12 84 (bv 13 8191) ?_
             refine done_ (done_of HT_.out (by kernel_rfl)) ?_
             obtain ⟨hcz66_0, hcz66_1, hcz66_2, hfz66_0, hfz66_1, hfz66_2⟩ := b3 BK384
             go_wp2_with (((with_reducible refine gate_builtin (b := .append) (xs := #[.tmp 68, .tmp 77]) rfl ?_); at_builtin; refine Kd.R_append k70 (w0 := w) w.heap.size rfl (.tmp 68) (.tmp 77) 26 70 (.agg #[(.int .i64 0), (.int .i64 0)]) 16 rfl Tryz.underlying26 info70 rfl (by decide) (by omega) (.slice Ao63 x12_4.length co63) x12_4 (⟨(rd_T66 l0 x61_4).f1, wrap64 (((rd_T66 l0 x61_4).f1) + ((rd_T66 l0 x61_4).f2))⟩ : S70) [.int .i64 ((rd_T66 l0 x61_4).f1), .int .i64 (wrap64 (((rd_T66 l0 x61_4).f1) + ((rd_T66 l0 x61_4).f2)))] (fun _ => True) (fun _ => False) rfl rfl ?aP (fun _ hk => hk.elim) ?aF ?aO ?aB ?aS ?aL ?_; (case aP => exact k70_mkM _ _ _ (⟨(rd_T66 l0 x61_4).f1, wrap64 (((rd_T66 l0 x61_4).f1) + ((rd_T66 l0 x61_4).f2))⟩ : S70)); (case aB => exact (bh HB.out)); (case aF => exact (fun _ _ => trivial)); (case aO => exact (rx HO_12.out)); (case aS => exact (below_size (bh HB.out))); (case aL => have := LMc58.out; omega); intro v392 w67 ho hb hg hat; rw [← Ny391.out] at ho; have n0_ := Aside0.mk (blk_grown (g := gb377) (o := .cells #[.int .i64 0, .slice none 0 0, .slice none 0 0, .slice none 0 0] 29 (0, 0)) (bx BK377.out) hg (Kd.R_ne HO_12.out BK377.out (by decide))); have n1_ := Aside0.mk (blk_grown (g := gb384) (o := .cells #[.int .i64 ((rd_T66 l0 x61_4).f0), .int .i64 ((rd_T66 l0 x61_4).f1), .int .i64 ((rd_T66 l0 x61_4).f2)] 66 (0, 0)) (bx BK384.out) hg (Kd.R_ne HO_12.out BK384.out (by decide))); have n2_ := Aside0.mk (hb); have n3_ := Aside0.mk (ho); clear BK377 BK384 HB HO_12; have BK377 := n0_; have BK384 := n1_; have HB := n2_; have HO393 := n3_; clear n0_ n1_ n2_ n3_ ho hb hg hat))
             go_roundg k4
             case measure => have := HJ4.out; have := HJ8.out; have := HJ14.out; have := HK4.out; omega
             case rel => exact ⟨(y391), (wrap64 (x61_4 + 1)), (by rfl), H', ⟨by have := HJ4.out; have := HJ8.out; have := HJ14.out; have := HK4.out; omega⟩, ⟨by exact HO393.out⟩, ⟨bx BK377.out⟩, ⟨bh HB.out⟩⟩
          ·have H' := Aside0.mk H
           clear H
           go_wp2
           go_loopg [16, 110] k4 (fun kq v16 v110 w' => ∃ (x16_5 : List Int) (x110_5 : Int), v110 = .int .i64 x110_5 ∧ Aside0 (epoch_Visible.l1 kq a2 x12_4 x16_5 l1 (l1.length : Int) x110_5 = some (r1, r2, r3, r4, r5)) ∧ Aside0 (kq ≤ k4) ∧ Aside0 (Kd.R k70 70 w' w.heap.size (fun _ => True) u12 x12_4) ∧ Aside0 (Kd.R (Kd.int .i64) 3 w' w.heap.size (fun _ => True) v16 x16_5) ∧ Aside0 (w'.heap[gb377]? = some (.cells #[.int .i64 0, (.slice none 0 0), (.slice none 0 0), (.slice none 0 0)] 29 (0, 0))) ∧ Aside0 (Below w.heap.size w w'))
           case atStart => exact ⟨(([] : List Int)), (0), (by rfl), H', ⟨Nat.le_refl _⟩, ⟨by exact HO_12.out⟩, ⟨nl⟩, ⟨bx BK377.out⟩, ⟨bh HB.out⟩⟩
           case round =>
            clear H' c23b0
            obtain ⟨x16_5, x110_5, rfl, HA, HK5, HO_12, HO_16, BK377, HB⟩ := hrel
            cases gk with
            | zero => exact absurd HA.out (by simp [epoch_Visible.l1])
            | succ k5 =>
             have H := HA.out
             clear HA
             simp only [epoch_Visible.l1] at H
             replace H := ifd H
             rcases H with ⟨-, c68b0, H⟩ | ⟨-, c68b0, H⟩
             ·replace H := ifn H
              obtain ⟨-, c69b0, H⟩ := H
              replace H := ifn H
              obtain ⟨-, c70b0, H⟩ := H
              replace H := ifd H
              rcases H with ⟨-, c71b0, H⟩ | ⟨-, c71b0, H⟩
              ·replace H := ifn H
               obtain ⟨c72, -, H⟩ := H
               have LMc72 := Aside0.mk c72
               clear c72
               obtain ⟨y396, hy396⟩ : ∃ y_ : List Int, y_ = (x16_5 ++ [(rd_T68 l1 x110_5).f0]) := ⟨_, rfl⟩
               replace H : (epoch_Visible.l1 k5 a2 x12_4 y396 l1 (l1.length : Int) (wrap64 (x110_5 + 1))) = some (r1, r2, r3, r4, r5) := by (rw [hy396]; with_reducible exact H)
               have Ny396 := Aside0.mk hy396
               clear hy396
               have H' := Aside0.mk H
               clear H
               have p394 : 0 ≤ (x110_5 : Int) := ad
               have q394 : x110_5 < (l1.length : Int) := ad
               obtain ⟨ad394, e394, hx394_0, hx394_1⟩ := at_T68 HR1.out x110_5 p394 q394
               cases e394
               replace hx394_0 := cb HB.out.cell hx394_0
               replace hx394_1 := cb HB.out.cell hx394_1
               replace p394 := eq_true p394
               replace q394 := eq_true q394
               go_wp2_with (first | ((with_reducible refine gate_dst (N := 18) rfl ?_); refine box_event ?hg (N := 18) ?hd (cs := #[.int .i64 0, .int .i64 0]) (t := 68) ?hr ?_; (case hd => rfl); (case hg => rfl); (case hr => (go_simp; done)); intro gb395 hg w73 hbox hb; replace HO_12 := rba HO_12 hb; replace HO_16 := rba HO_16 hb; have BK395 := Aside0.mk (hbox); have GW395 := bza HB hg; have GE395 := bza HB hg; replace HB := bsa HB hb; obtain ⟨NB377_395, NB395_377⟩ := bnm BK377 hg; replace BK377 := bba BK377 hb; clear hb hbox hg; have hnb74 := NB395_377.out; have hnc74 := NB377_395.out; obtain ⟨hcz75_0, hcz75_1, hfz75_0, hfz75_1⟩ := b2 BK395) | ((with_reducible refine gate_builtin (b := .append) (xs := #[.tmp 118, .tmp 121]) rfl ?_); at_builtin; refine Kd.R_append (Kd.int .i64) (w0 := w) w.heap.size rfl (.tmp 118) (.tmp 121) 27 3 (.int .i64 0) 8 rfl Tryz.underlying27 info3 rfl (by decide) (by omega) u16 x16_5 ((rd_T68 l1 x110_5).f0) [.int .i64 ((rd_T68 l1 x110_5).f0)] (fun _ => True) (fun _ => False) rfl (by (go_simp; done)) ?aP (fun _ hk => hk.elim) ?aF ?aO ?aB ?aS ?aL ?_; (case aP => exact rfl); (case aB => exact (bh HB.out)); (case aF => exact (fun _ _ => trivial)); (case aO => exact (by exact Kd.R_mono (Kd.R_far (p := ⟨gb395, 1, none⟩) (Kd.R_far (p := ⟨gb395, 0, none⟩) (Kd.R_types HO_16.out BK395.out (by decide)) (fun _ hk => hk.2) (.int .i64 ((rd_T68 l1 x110_5).f0))) (fun _ hk => hk.2) (.int .i64 ((rd_T68 l1 x110_5).f1))) (fun _ hk => trivial))); (case aS => exact (below_size (bh HB.out))); (case aL => have := LMc72.out; omega); intro v397 w76 ho hb hg hat; rw [← Ny396.out] at ho; have n0_ := Aside0.mk (Kd.R_over' (by exact (Kd.R_mono (Kd.R_far (p := ⟨gb395, 1, none⟩) (Kd.R_far (p := ⟨gb395, 0, none⟩) (Kd.R_types HO_12.out BK395.out (by decide)) (fun _ hk => hk.2) (.int .i64 ((rd_T68 l1 x110_5).f0))) (fun _ hk => hk.2) (.int .i64 ((rd_T68 l1 x110_5).f1))) (fun _ h_ => h_.1))) (Kd.R_typed (by exact (Kd.R_mono (Kd.R_far (p := ⟨gb395, 1, none⟩) (Kd.R_far (p := ⟨gb395, 0, none⟩) (Kd.R_types HO_16.out BK395.out (by decide)) (fun _ hk => hk.2) (.int .i64 ((rd_T68 l1 x110_5).f0))) (fun _ hk => hk.2) (.int .i64 ((rd_T68 l1 x110_5).f1))) (fun _ h_ => h_.1)))) (by decide) hg); have n1_ := Aside0.mk (blk_grown (g := gb377) (o := .cells #[.int .i64 0, .slice none 0 0, .slice none 0 0, .slice none 0 0] 29 (0, 0)) (bx BK377.out) hg (Kd.R_ne HO_16.out BK377.out (by decide))); have n2_ := Aside0.mk (blk_grown (g := gb395) (o := .cells #[.int .i64 ((rd_T68 l1 x110_5).f0), .int .i64 ((rd_T68 l1 x110_5).f1)] 68 (0, 0)) (by refine blk_put (cs := #[.int .i64 ((rd_T68 l1 x110_5).f0), .int .i64 0]) ?_ 1 _ rfl; refine blk_put (cs := #[.int .i64 0, .int .i64 0]) ?_ 0 _ rfl; exact BK395.out) hg (Kd.R_ne HO_16.out BK395.out (by decide))); have n3_ := Aside0.mk (hb); have n4_ := Aside0.mk (ho); clear HO_12 BK377 BK395 HB HO_16; have HO_12 := n0_; have BK377 := n1_; have BK395 := n2_; have HB := n3_; have HO398 := n4_; clear n0_ n1_ n2_ n3_ n4_ ho hb hg hat))
               go_roundg k5
               case measure => have := HJ4.out; have := HJ8.out; have := HJ14.out; have := HK4.out; have := HK5.out; omega
               case rel => exact ⟨(y396), (wrap64 (x110_5 + 1)), (by rfl), H', ⟨by have := HJ4.out; have := HJ8.out; have := HJ14.out; have := HK4.out; have := HK5.out; omega⟩, ⟨by exact HO_12.out⟩, ⟨by exact HO398.out⟩, ⟨bx BK377.out⟩, ⟨bh HB.out⟩⟩
              ·have H' := Aside0.mk H
               clear H
               have p394 : 0 ≤ (x110_5 : Int) := ad
               have q394 : x110_5 < (l1.length : Int) := ad
               obtain ⟨ad394, e394, hx394_0, hx394_1⟩ := at_T68 HR1.out x110_5 p394 q394
               cases e394
               replace hx394_0 := cb HB.out.cell hx394_0
               replace hx394_1 := cb HB.out.cell hx394_1
               replace p394 := eq_true p394
               replace q394 := eq_true q394
               go_wp2_with (((with_reducible refine gate_dst (N := 18) rfl ?_); refine box_event ?hg (N := 18) ?hd (cs := #[.int .i64 0, .int .i64 0]) (t := 68) ?hr ?_; (case hd => rfl); (case hg => rfl); (case hr => (go_simp; done)); intro gb395 hg w77 hbox hb; replace HO_12 := rba HO_12 hb; replace HO_16 := rba HO_16 hb; have BK395 := Aside0.mk (hbox); have GW395 := bza HB hg; have GE395 := bza HB hg; replace HB := bsa HB hb; obtain ⟨NB377_395, NB395_377⟩ := bnm BK377 hg; replace BK377 := bba BK377 hb; clear hb hbox hg; have hnb78 := NB395_377.out; have hnc78 := NB377_395.out; obtain ⟨hcz79_0, hcz79_1, hfz79_0, hfz79_1⟩ := b2 BK395))
               go_roundg k5
               case measure => have := HJ4.out; have := HJ8.out; have := HJ14.out; have := HK4.out; have := HK5.out; omega
               case rel => exact ⟨(x16_5), (wrap64 (x110_5 + 1)), (by rfl), H', ⟨by have := HJ4.out; have := HJ8.out; have := HJ14.out; have := HK4.out; have := HK5.out; omega⟩, ⟨by exact Kd.R_mono (Kd.R_far (p := ⟨gb395, 1, none⟩) (Kd.R_far (p := ⟨gb395, 0, none⟩) (Kd.R_types HO_12.out BK395.out (by decide)) (fun _ hk => hk.2) (.int .i64 ((rd_T68 l1 x110_5).f0))) (fun _ hk => hk.2) (.int .i64 ((rd_T68 l1 x110_5).f1))) (fun _ hk => trivial)⟩, ⟨by exact Kd.R_mono (Kd.R_far (p := ⟨gb395, 1, none⟩) (Kd.R_far (p := ⟨gb395, 0, none⟩) (Kd.R_types HO_16.out BK395.out (by decide)) (fun _ hk => hk.2) (.int .i64 ((rd_T68 l1 x110_5).f0))) (fun _ hk => hk.2) (.int .i64 ((rd_T68 l1 x110_5).f1))) (fun _ hk => trivial)⟩, ⟨bx BK377.out⟩, ⟨bh HB.out⟩⟩
             ·replace H := bd H
              obtain ⟨⟨t399, t400, t403, t406, t409⟩, A80, H⟩ := H
              dsimp only at H
              replace H := ife H
              rcases H with ⟨-, c81b0, c81b1, H⟩ | ⟨c81, c81b0, c81b1, H⟩
              ·replace H := bd H
               obtain ⟨⟨t411, t412, t415, t418, t421⟩, A82, H⟩ := H
               dsimp only at H
               replace H := bd H
               obtain ⟨⟨t423, t424, t427, t430⟩, A83, H⟩ := H
               dsimp only at H
               simp only [Option.some.injEq, Prod.mk.injEq] at H
               obtain ⟨rfl, rfl, rfl, rfl, rfl⟩ := H
               obtain ⟨Ao84, co84, eo84⟩ := Kd.R_slice HO_12.out
               subst eo84
               go_wp2_with (first | ((with_reducible refine gate_callee (f := 35) rfl ?_); refine gL 126 Tryz.func35 #[.slice Ao84 x12_4.length co84] ?_; (with_reducible refine (poslist_Best.calls k5 _ _ x12_4 t399 t400 t403 t406 t409 _ ?side1 ?side2 A80.out).mono ?_); (case side1 => exact cx (Kd.R_reads' HO_12.out).2.2); (case side2 => exact (Kd.R_reads' HO_12.out).2.1); rintro e w85 ⟨v401, v404, v407, rfl, ho0, ho1, ho2, hb⟩; refine ⟨_, rfl, ?_⟩; have HO402 := Aside0.mk (Kd.R_lower (Kd.R_new' ho0 (Kd.R_lt (rx HO_12.out))) (below_size (bh HB.out))); replace HO_12 := Aside0.mk (Kd.R_elder' (rx HO_12.out) (Kd.R_base ho0) hb); have HO405 := Aside0.mk (Kd.R_lower (Kd.R_new' ho1 (Kd.R_lt (rx HO_16.out))) (below_size (bh HB.out))); have HO408 := Aside0.mk (Kd.R_lower (Kd.R_new' ho2 (Kd.R_lt (rx HO_16.out))) (below_size (bh HB.out))); replace HO_16 := Aside0.mk (Kd.R_mono (Kd.R_told (Kd.R_told (Kd.R_old (rx HO_16.out) hb) (Kd.R_base ho1)) (Kd.R_base ho2)) (fun _ h_ => h_.1)); replace BK377 := bba BK377 hb; replace HB := bsa HB hb; clear hb ho0 ho1 ho2) | ((with_reducible refine gate_dst (N := 19) rfl ?_); refine box_event ?hg (N := 19) ?hd (cs := #[.int .i64 0, .slice none 0 0, .slice none 0 0, .slice none 0 0]) (t := 29) ?hr ?_; (case hd => rfl); (case hg => rfl); (case hr => (go_simp; done)); intro gb410 hg w86 hbox hb; replace HO_12 := rba HO_12 hb; replace HO_16 := rba HO_16 hb; replace HO402 := rba HO402 hb; replace HO405 := rba HO405 hb; replace HO408 := rba HO408 hb; have BK410 := Aside0.mk (hbox); have GW410 := bza HB hg; have GE410 := bza HB hg; replace HB := bsa HB hb; obtain ⟨NB377_410, NB410_377⟩ := bnm BK377 hg; replace BK377 := bba BK377 hb; clear hb hbox hg; have hnb87 := NB410_377.out; have hnc87 := NB377_410.out; obtain ⟨hcz88_0, hcz88_1, hcz88_2, hcz88_3, hfz88_0, hfz88_1, hfz88_2, hfz88_3⟩ := b4 BK410; obtain ⟨Ao89, co89, eo89⟩ := Kd.R_slice HO402.out; subst eo89; obtain ⟨Ao90, co90, eo90⟩ := Kd.R_slice HO405.out; subst eo90; obtain ⟨Ao91, co91, eo91⟩ := Kd.R_slice HO408.out; subst eo91) | ((with_reducible refine gate_store (t := 29) (p := 19) rfl ?_); refine stE 29 19 ((((w86.setCell ⟨gb410, 0, none⟩ (.int .i64 t399)).setCell ⟨gb410, 1, none⟩ (.slice Ao89 t400.length co89)).setCell ⟨gb410, 2, none⟩ (.slice Ao90 t403.length co90)).setCell ⟨gb410, 3, none⟩ (.slice Ao91 t406.length co91)) ?_; intro w92 hw; have n0_ := rsm (fun k_ => some k_ ≠ (.slice Ao89 t400.length co89 : Value).ownBlock) HO_12 hw (fun _ hk => hk.2); have n1_ := rsm (fun k_ => some k_ ≠ (.slice Ao90 t403.length co90 : Value).ownBlock ∧ some k_ ≠ (.slice Ao91 t406.length co91 : Value).ownBlock) HO_16 hw (fun _ hk => ⟨hk.1.2, hk.2⟩); have n2_ := rsm (fun k_ => some k_ ≠ (.slice Ao84 x12_4.length co84 : Value).ownBlock) HO402 hw (fun _ hk => hk.2); have n3_ := rsm (fun k_ => some k_ ≠ (u16 : Value).ownBlock ∧ some k_ ≠ (.slice Ao91 t406.length co91 : Value).ownBlock) HO405 hw (fun _ hk => ⟨hk.2, hk.1⟩); have n4_ := rsm (fun k_ => some k_ ≠ (u16 : Value).ownBlock ∧ some k_ ≠ (.slice Ao90 t403.length co90 : Value).ownBlock) HO408 hw (fun _ hk => ⟨hk.2, hk.1⟩); have n5_ : Aside0 (w92.heap[gb377]? = some (.cells #[.int .i64 0, .slice none 0 0, .slice none 0 0, .slice none 0 0] 29 (0, 0))) := ⟨(by rw [hw]; exact (bx BK377.out))⟩; have n6_ := sps #[.int .i64 t399, .slice Ao89 t400.length co89, .slice Ao90 t403.length co90, .slice Ao91 t406.length co91] BK410 hw (.p (.p (.p (.p .nil)))); have n7_ := bhw HB hw; clear hw HO_12 HO_16 HO402 HO405 HO408 BK377 BK410 HB; have HO_12 := n0_; have HO_16 := n1_; have HO402 := n2_; have HO405 := n3_; have HO408 := n4_; have BK377 := n5_; have BK410 := n6_; have HB := n7_; clear n0_ n1_ n2_ n3_ n4_ n5_ n6_ n7_; obtain ⟨Ao93, co93, eo93⟩ := Kd.R_slice HO_16.out; subst eo93) | ((with_reducible refine gate_callee (f := 29) rfl ?_); refine gL 135 Tryz.func29 #[.slice Ao93 x16_5.length co93] ?_; (with_reducible refine (poslist_From.calls k5 _ _ x16_5 t411 t412 t415 t418 t421 _ ?side1 ?side2 A82.out).mono ?_); (case side1 => exact cx (Kd.R_reads' HO_16.out).2.2); (case side2 => exact (Kd.R_reads' HO_16.out).2.1); rintro e w94 ⟨v413, v416, v419, rfl, ho0, ho1, ho2, hb⟩; refine ⟨_, rfl, ?_⟩; have HO414 := Aside0.mk (Kd.R_lower (Kd.R_new' (Kd.R_new' ho0 (Kd.R_lt (rx HO_12.out))) (Kd.R_lt (rx HO402.out))) (below_size (bh HB.out))); replace HO_12 := Aside0.mk (Kd.R_elder' (rx HO_12.out) (Kd.R_base ho0) hb); replace HO402 := Aside0.mk (Kd.R_elder' (rx HO402.out) (Kd.R_base ho0) hb); have HO417 := Aside0.mk (Kd.R_lower (Kd.R_new' (Kd.R_new' (Kd.R_new' ho1 (Kd.R_lt (rx HO_16.out))) (Kd.R_lt (rx HO405.out))) (Kd.R_lt (rx HO408.out))) (below_size (bh HB.out))); have HO420 := Aside0.mk (Kd.R_lower (Kd.R_new' (Kd.R_new' (Kd.R_new' ho2 (Kd.R_lt (rx HO_16.out))) (Kd.R_lt (rx HO405.out))) (Kd.R_lt (rx HO408.out))) (below_size (bh HB.out))); replace HO_16 := Aside0.mk (Kd.R_mono (Kd.R_told (Kd.R_told (Kd.R_old (rx HO_16.out) hb) (Kd.R_base ho1)) (Kd.R_base ho2)) (fun _ h_ => h_.1)); replace HO405 := Aside0.mk (Kd.R_mono (Kd.R_told (Kd.R_told (Kd.R_old (rx HO405.out) hb) (Kd.R_base ho1)) (Kd.R_base ho2)) (fun _ h_ => h_.1)); replace HO408 := Aside0.mk (Kd.R_mono (Kd.R_told (Kd.R_told (Kd.R_old (rx HO408.out) hb) (Kd.R_base ho1)) (Kd.R_base ho2)) (fun _ h_ => h_.1)); replace BK377 := bba BK377 hb; replace BK410 := bba BK410 hb; replace HB := bsa HB hb; clear hb ho0 ho1 ho2) | ((with_reducible refine gate_dst (N := 20) rfl ?_); refine box_event ?hg (N := 20) ?hd (cs := #[.int .i64 0, .slice none 0 0, .slice none 0 0, .slice none 0 0]) (t := 29) ?hr ?_; (case hd => rfl); (case hg => rfl); (case hr => (go_simp; done)); intro gb422 hg w95 hbox hb; replace HO_12 := rba HO_12 hb; replace HO_16 := rba HO_16 hb; replace HO402 := rba HO402 hb; replace HO405 := rba HO405 hb; replace HO408 := rba HO408 hb; replace HO414 := rba HO414 hb; replace HO417 := rba HO417 hb; replace HO420 := rba HO420 hb; have BK422 := Aside0.mk (hbox); have GW422 := bza HB hg; have GE422 := bza HB hg; replace HB := bsa HB hb; obtain ⟨NB377_422, NB422_377⟩ := bnm BK377 hg; replace BK377 := bba BK377 hb; obtain ⟨NB410_422, NB422_410⟩ := bnm BK410 hg; replace BK410 := bba BK410 hb; clear hb hbox hg; have hnb96 := NB422_377.out; have hnc96 := NB377_422.out; have hnb97 := NB422_410.out; have hnc97 := NB410_422.out; obtain ⟨hcz98_0, hcz98_1, hcz98_2, hcz98_3, hfz98_0, hfz98_1, hfz98_2, hfz98_3⟩ := b4 BK422; obtain ⟨Ao99, co99, eo99⟩ := Kd.R_slice HO414.out; subst eo99; obtain ⟨Ao100, co100, eo100⟩ := Kd.R_slice HO417.out; subst eo100; obtain ⟨Ao101, co101, eo101⟩ := Kd.R_slice HO420.out; subst eo101) | ((with_reducible refine gate_store (t := 29) (p := 20) rfl ?_); refine stE 29 20 ((((w95.setCell ⟨gb422, 0, none⟩ (.int .i64 t411)).setCell ⟨gb422, 1, none⟩ (.slice Ao99 t412.length co99)).setCell ⟨gb422, 2, none⟩ (.slice Ao100 t415.length co100)).setCell ⟨gb422, 3, none⟩ (.slice Ao101 t418.length co101)) ?_; intro w102 hw; have n0_ := rsm (fun k_ => some k_ ≠ (.slice Ao89 t400.length co89 : Value).ownBlock ∧ some k_ ≠ (.slice Ao99 t412.length co99 : Value).ownBlock) HO_12 hw (fun _ hk => ⟨hk.1, hk.2⟩); have n1_ := rsm (fun k_ => some k_ ≠ (.slice Ao90 t403.length co90 : Value).ownBlock ∧ some k_ ≠ (.slice Ao91 t406.length co91 : Value).ownBlock ∧ some k_ ≠ (.slice Ao100 t415.length co100 : Value).ownBlock ∧ some k_ ≠ (.slice Ao101 t418.length co101 : Value).ownBlock) HO_16 hw (fun _ hk => ⟨hk.1.1.1, ⟨hk.1.1.2, ⟨hk.1.2, hk.2⟩⟩⟩); have n2_ := rsm (fun k_ => some k_ ≠ (.slice Ao84 x12_4.length co84 : Value).ownBlock ∧ some k_ ≠ (.slice Ao99 t412.length co99 : Value).ownBlock) HO402 hw (fun _ hk => ⟨hk.1, hk.2⟩); have n3_ := rsm (fun k_ => some k_ ≠ (.slice Ao93 x16_5.length co93 : Value).ownBlock ∧ some k_ ≠ (.slice Ao91 t406.length co91 : Value).ownBlock ∧ some k_ ≠ (.slice Ao100 t415.length co100 : Value).ownBlock ∧ some k_ ≠ (.slice Ao101 t418.length co101 : Value).ownBlock) HO405 hw (fun _ hk => ⟨hk.1.1.1, ⟨hk.1.1.2, ⟨hk.1.2, hk.2⟩⟩⟩); have n4_ := rsm (fun k_ => some k_ ≠ (.slice Ao93 x16_5.length co93 : Value).ownBlock ∧ some k_ ≠ (.slice Ao90 t403.length co90 : Value).ownBlock ∧ some k_ ≠ (.slice Ao100 t415.length co100 : Value).ownBlock ∧ some k_ ≠ (.slice Ao101 t418.length co101 : Value).ownBlock) HO408 hw (fun _ hk => ⟨hk.1.1.1, ⟨hk.1.1.2, ⟨hk.1.2, hk.2⟩⟩⟩); have n5_ := rsm (fun k_ => some k_ ≠ (.slice Ao84 x12_4.length co84 : Value).ownBlock ∧ some k_ ≠ (.slice Ao89 t400.length co89 : Value).ownBlock) HO414 hw (fun _ hk => ⟨hk.1.2, hk.2⟩); have n6_ := rsm (fun k_ => some k_ ≠ (.slice Ao93 x16_5.length co93 : Value).ownBlock ∧ some k_ ≠ (.slice Ao90 t403.length co90 : Value).ownBlock ∧ some k_ ≠ (.slice Ao91 t406.length co91 : Value).ownBlock ∧ some k_ ≠ (.slice Ao101 t418.length co101 : Value).ownBlock) HO417 hw (fun _ hk => ⟨hk.1.1.2, ⟨hk.1.2, ⟨hk.2, hk.1.1.1⟩⟩⟩); have n7_ := rsm (fun k_ => some k_ ≠ (.slice Ao93 x16_5.length co93 : Value).ownBlock ∧ some k_ ≠ (.slice Ao90 t403.length co90 : Value).ownBlock ∧ some k_ ≠ (.slice Ao91 t406.length co91 : Value).ownBlock ∧ some k_ ≠ (.slice Ao100 t415.length co100 : Value).ownBlock) HO420 hw (fun _ hk => ⟨hk.1.1.2, ⟨hk.1.2, ⟨hk.2, hk.1.1.1⟩⟩⟩); have n8_ : Aside0 (w102.heap[gb377]? = some (.cells #[.int .i64 0, .slice none 0 0, .slice none 0 0, .slice none 0 0] 29 (0, 0))) := ⟨(by rw [hw]; exact (bx BK377.out))⟩; have n9_ : Aside0 (w102.heap[gb410]? = some (.cells #[.int .i64 t399, .slice Ao89 t400.length co89, .slice Ao90 t403.length co90, .slice Ao91 t406.length co91] 29 (0, 0))) := ⟨(by rw [hw]; exact (bx BK410.out))⟩; have n10_ := sps #[.int .i64 t411, .slice Ao99 t412.length co99, .slice Ao100 t415.length co100, .slice Ao101 t418.length co101] BK422 hw (.p (.p (.p (.p .nil)))); have n11_ := bhw HB hw; clear hw HO_12 HO_16 HO402 HO405 HO408 HO414 HO417 HO420 BK377 BK410 BK422 HB; have HO_12 := n0_; have HO_16 := n1_; have HO402 := n2_; have HO405 := n3_; have HO408 := n4_; have HO414 := n5_; have HO417 := n6_; have HO420 := n7_; have BK377 := n8_; have BK410 := n9_; have BK422 := n10_; have HB := n11_; clear n0_ n1_ n2_ n3_ n4_ n5_ n6_ n7_ n8_ n9_ n10_ n11_; obtain ⟨hcz103_0, hcz103_1, hcz103_2, hcz103_3, hfz103_0, hfz103_1, hfz103_2, hfz103_3⟩ := b4 BK410; obtain ⟨hcz104_0, hcz104_1, hcz104_2, hcz104_3, hfz104_0, hfz104_1, hfz104_2, hfz104_3⟩ := b4 BK422) | ((with_reducible refine gate_callee (f := 36) rfl ?_); refine gL 140 Tryz.func36 #[.agg #[.int .i64 t399, .slice Ao89 t400.length co89, .slice Ao90 t403.length co90, .slice Ao91 t406.length co91], .agg #[.int .i64 t411, .slice Ao99 t412.length co99, .slice Ao100 t415.length co100, .slice Ao101 t418.length co101]] ?_; (with_reducible refine (poslist_List_Less.calls k5 t399 _ _ t400 _ _ t403 _ _ t406 t411 _ _ t412 _ _ t415 _ _ t418 t423 t424 t427 t430 _ ?side1 ?side2 ?side3 ?side4 ?side5 ?side6 ?side7 ?side8 ?side9 ?side10 ?side11 ?side12 A83.out).mono ?_); (case side1 => exact cx (Kd.R_reads' HO402.out).2.2); (case side2 => exact (Kd.R_reads' HO402.out).2.1); (case side3 => exact cx (Kd.R_reads' HO405.out).2.2); (case side4 => exact (Kd.R_reads' HO405.out).2.1); (case side5 => exact cx (Kd.R_reads' HO408.out).2.2); (case side6 => exact (Kd.R_reads' HO408.out).2.1); (case side7 => exact cx (Kd.R_reads' HO414.out).2.2); (case side8 => exact (Kd.R_reads' HO414.out).2.1); (case side9 => exact cx (Kd.R_reads' HO417.out).2.2); (case side10 => exact (Kd.R_reads' HO417.out).2.1); (case side11 => exact cx (Kd.R_reads' HO420.out).2.2); (case side12 => exact (Kd.R_reads' HO420.out).2.1); rintro e w105 ⟨v425, v428, v431, rfl, ho0, ho1, ho2, hb⟩; refine ⟨_, rfl, ?_⟩; have HO426 := Aside0.mk (Kd.R_lower (Kd.R_new' (Kd.R_new' (Kd.R_new' ho0 (Kd.R_lt (rx HO_12.out))) (Kd.R_lt (rx HO402.out))) (Kd.R_lt (rx HO414.out))) (below_size (bh HB.out))); replace HO_12 := Aside0.mk (Kd.R_elder' (rx HO_12.out) (Kd.R_base ho0) hb); replace HO402 := Aside0.mk (Kd.R_elder' (rx HO402.out) (Kd.R_base ho0) hb); replace HO414 := Aside0.mk (Kd.R_elder' (rx HO414.out) (Kd.R_base ho0) hb); have HO429 := Aside0.mk (Kd.R_lower (Kd.R_new' (Kd.R_new' (Kd.R_new' (Kd.R_new' (Kd.R_new' ho1 (Kd.R_lt (rx HO_16.out))) (Kd.R_lt (rx HO405.out))) (Kd.R_lt (rx HO408.out))) (Kd.R_lt (rx HO417.out))) (Kd.R_lt (rx HO420.out))) (below_size (bh HB.out))); have HO432 := Aside0.mk (Kd.R_lower (Kd.R_new' (Kd.R_new' (Kd.R_new' (Kd.R_new' (Kd.R_new' ho2 (Kd.R_lt (rx HO_16.out))) (Kd.R_lt (rx HO405.out))) (Kd.R_lt (rx HO408.out))) (Kd.R_lt (rx HO417.out))) (Kd.R_lt (rx HO420.out))) (below_size (bh HB.out))); replace HO_16 := Aside0.mk (Kd.R_mono (Kd.R_told (Kd.R_told (Kd.R_old (rx HO_16.out) hb) (Kd.R_base ho1)) (Kd.R_base ho2)) (fun _ h_ => h_.1)); replace HO405 := Aside0.mk (Kd.R_mono (Kd.R_told (Kd.R_told (Kd.R_old (rx HO405.out) hb) (Kd.R_base ho1)) (Kd.R_base ho2)) (fun _ h_ => h_.1)); replace HO408 := Aside0.mk (Kd.R_mono (Kd.R_told (Kd.R_told (Kd.R_old (rx HO408.out) hb) (Kd.R_base ho1)) (Kd.R_base ho2)) (fun _ h_ => h_.1)); replace HO417 := Aside0.mk (Kd.R_mono (Kd.R_told (Kd.R_told (Kd.R_old (rx HO417.out) hb) (Kd.R_base ho1)) (Kd.R_base ho2)) (fun _ h_ => h_.1)); replace HO420 := Aside0.mk (Kd.R_mono (Kd.R_told (Kd.R_told (Kd.R_old (rx HO420.out) hb) (Kd.R_base ho1)) (Kd.R_base ho2)) (fun _ h_ => h_.1)); replace BK377 := bba BK377 hb; replace BK410 := bba BK410 hb; replace BK422 := bba BK422 hb; replace HB := bsa HB hb; clear hb ho0 ho1 ho2; obtain ⟨hcz106_0, hcz106_1, hcz106_2, hcz106_3, hfz106_0, hfz106_1, hfz106_2, hfz106_3⟩ := b4 BK377; obtain ⟨Ao107, co107, eo107⟩ := Kd.R_slice HO426.out; subst eo107; obtain ⟨Ao108, co108, eo108⟩ := Kd.R_slice HO429.out; subst eo108; obtain ⟨Ao109, co109, eo109⟩ := Kd.R_slice HO432.out; subst eo109) | ((with_reducible refine gate_store (t := 29) (p := 6) rfl ?_); refine stE 29 6 ((((w105.setCell ⟨gb377, 0, none⟩ (.int .i64 t423)).setCell ⟨gb377, 1, none⟩ (.slice Ao107 t424.length co107)).setCell ⟨gb377, 2, none⟩ (.slice Ao108 t427.length co108)).setCell ⟨gb377, 3, none⟩ (.slice Ao109 t430.length co109)) ?_; intro w110 hw; have n0_ := rsm (fun k_ => some k_ ≠ (.slice Ao89 t400.length co89 : Value).ownBlock ∧ some k_ ≠ (.slice Ao99 t412.length co99 : Value).ownBlock ∧ some k_ ≠ (.slice Ao107 t424.length co107 : Value).ownBlock) HO_12 hw (fun _ hk => ⟨hk.1.1, ⟨hk.1.2, hk.2⟩⟩); have n1_ := rsm (fun k_ => some k_ ≠ (.slice Ao90 t403.length co90 : Value).ownBlock ∧ some k_ ≠ (.slice Ao91 t406.length co91 : Value).ownBlock ∧ some k_ ≠ (.slice Ao100 t415.length co100 : Value).ownBlock ∧ some k_ ≠ (.slice Ao101 t418.length co101 : Value).ownBlock ∧ some k_ ≠ (.slice Ao108 t427.length co108 : Value).ownBlock ∧ some k_ ≠ (.slice Ao109 t430.length co109 : Value).ownBlock) HO_16 hw (fun _ hk => ⟨hk.1.1.1, ⟨hk.1.1.2.1, ⟨hk.1.1.2.2.1, ⟨hk.1.1.2.2.2, ⟨hk.1.2, hk.2⟩⟩⟩⟩⟩); have n2_ := rsm (fun k_ => some k_ ≠ (.slice Ao84 x12_4.length co84 : Value).ownBlock ∧ some k_ ≠ (.slice Ao99 t412.length co99 : Value).ownBlock ∧ some k_ ≠ (.slice Ao107 t424.length co107 : Value).ownBlock) HO402 hw (fun _ hk => ⟨hk.1.1, ⟨hk.1.2, hk.2⟩⟩); have n3_ := rsm (fun k_ => some k_ ≠ (.slice Ao93 x16_5.length co93 : Value).ownBlock ∧ some k_ ≠ (.slice Ao91 t406.length co91 : Value).ownBlock ∧ some k_ ≠ (.slice Ao100 t415.length co100 : Value).ownBlock ∧ some k_ ≠ (.slice Ao101 t418.length co101 : Value).ownBlock ∧ some k_ ≠ (.slice Ao108 t427.length co108 : Value).ownBlock ∧ some k_ ≠ (.slice Ao109 t430.length co109 : Value).ownBlock) HO405 hw (fun _ hk => ⟨hk.1.1.1, ⟨hk.1.1.2.1, ⟨hk.1.1.2.2.1, ⟨hk.1.1.2.2.2, ⟨hk.1.2, hk.2⟩⟩⟩⟩⟩); have n4_ := rsm (fun k_ => some k_ ≠ (.slice Ao93 x16_5.length co93 : Value).ownBlock ∧ some k_ ≠ (.slice Ao90 t403.length co90 : Value).ownBlock ∧ some k_ ≠ (.slice Ao100 t415.length co100 : Value).ownBlock ∧ some k_ ≠ (.slice Ao101 t418.length co101 : Value).ownBlock ∧ some k_ ≠ (.slice Ao108 t427.length co108 : Value).ownBlock ∧ some k_ ≠ (.slice Ao109 t430.length co109 : Value).ownBlock) HO408 hw (fun _ hk => ⟨hk.1.1.1, ⟨hk.1.1.2.1, ⟨hk.1.1.2.2.1, ⟨hk.1.1.2.2.2, ⟨hk.1.2, hk.2⟩⟩⟩⟩⟩); have n5_ := rsm (fun k_ => some k_ ≠ (.slice Ao84 x12_4.length co84 : Value).ownBlock ∧ some k_ ≠ (.slice Ao89 t400.length co89 : Value).ownBlock ∧ some k_ ≠ (.slice Ao107 t424.length co107 : Value).ownBlock) HO414 hw (fun _ hk => ⟨hk.1.1, ⟨hk.1.2, hk.2⟩⟩); have n6_ := rsm (fun k_ => some k_ ≠ (.slice Ao93 x16_5.length co93 : Value).ownBlock ∧ some k_ ≠ (.slice Ao90 t403.length co90 : Value).ownBlock ∧ some k_ ≠ (.slice Ao91 t406.length co91 : Value).ownBlock ∧ some k_ ≠ (.slice Ao101 t418.length co101 : Value).ownBlock ∧ some k_ ≠ (.slice Ao108 t427.length co108 : Value).ownBlock ∧ some k_ ≠ (.slice Ao109 t430.length co109 : Value).ownBlock) HO417 hw (fun _ hk => ⟨hk.1.1.1, ⟨hk.1.1.2.1, ⟨hk.1.1.2.2.1, ⟨hk.1.1.2.2.2, ⟨hk.1.2, hk.2⟩⟩⟩⟩⟩); have n7_ := rsm (fun k_ => some k_ ≠ (.slice Ao93 x16_5.length co93 : Value).ownBlock ∧ some k_ ≠ (.slice Ao90 t403.length co90 : Value).ownBlock ∧ some k_ ≠ (.slice Ao91 t406.length co91 : Value).ownBlock ∧ some k_ ≠ (.slice Ao100 t415.length co100 : Value).ownBlock ∧ some k_ ≠ (.slice Ao108 t427.length co108 : Value).ownBlock ∧ some k_ ≠ (.slice Ao109 t430.length co109 : Value).ownBlock) HO420 hw (fun _ hk => ⟨hk.1.1.1, ⟨hk.1.1.2.1, ⟨hk.1.1.2.2.1, ⟨hk.1.1.2.2.2, ⟨hk.1.2, hk.2⟩⟩⟩⟩⟩); have n8_ := rsm (fun k_ => some k_ ≠ (.slice Ao84 x12_4.length co84 : Value).ownBlock ∧ some k_ ≠ (.slice Ao89 t400.length co89 : Value).ownBlock ∧ some k_ ≠ (.slice Ao99 t412.length co99 : Value).ownBlock) HO426 hw (fun _ hk => ⟨hk.1.1.2, ⟨hk.1.2, hk.2⟩⟩); have n9_ := rsm (fun k_ => some k_ ≠ (.slice Ao93 x16_5.length co93 : Value).ownBlock ∧ some k_ ≠ (.slice Ao90 t403.length co90 : Value).ownBlock ∧ some k_ ≠ (.slice Ao91 t406.length co91 : Value).ownBlock ∧ some k_ ≠ (.slice Ao100 t415.length co100 : Value).ownBlock ∧ some k_ ≠ (.slice Ao101 t418.length co101 : Value).ownBlock ∧ some k_ ≠ (.slice Ao109 t430.length co109 : Value).ownBlock) HO429 hw (fun _ hk => ⟨hk.1.1.1.1.2, ⟨hk.1.1.1.2, ⟨hk.1.1.2, ⟨hk.1.2, ⟨hk.2, hk.1.1.1.1.1⟩⟩⟩⟩⟩); have n10_ := rsm (fun k_ => some k_ ≠ (.slice Ao93 x16_5.length co93 : Value).ownBlock ∧ some k_ ≠ (.slice Ao90 t403.length co90 : Value).ownBlock ∧ some k_ ≠ (.slice Ao91 t406.length co91 : Value).ownBlock ∧ some k_ ≠ (.slice Ao100 t415.length co100 : Value).ownBlock ∧ some k_ ≠ (.slice Ao101 t418.length co101 : Value).ownBlock ∧ some k_ ≠ (.slice Ao108 t427.length co108 : Value).ownBlock) HO432 hw (fun _ hk => ⟨hk.1.1.1.1.2, ⟨hk.1.1.1.2, ⟨hk.1.1.2, ⟨hk.1.2, ⟨hk.2, hk.1.1.1.1.1⟩⟩⟩⟩⟩); have n11_ := sps #[.int .i64 t423, .slice Ao107 t424.length co107, .slice Ao108 t427.length co108, .slice Ao109 t430.length co109] BK377 hw (.p (.p (.p (.p .nil)))); have n12_ : Aside0 (w110.heap[gb410]? = some (.cells #[.int .i64 t399, .slice Ao89 t400.length co89, .slice Ao90 t403.length co90, .slice Ao91 t406.length co91] 29 (0, 0))) := ⟨(by rw [hw]; exact (bx BK410.out))⟩; have n13_ : Aside0 (w110.heap[gb422]? = some (.cells #[.int .i64 t411, .slice Ao99 t412.length co99, .slice Ao100 t415.length co100, .slice Ao101 t418.length co101] 29 (0, 0))) := ⟨(by rw [hw]; exact (bx BK422.out))⟩; have n14_ := bhw HB hw; clear hw HO_12 HO_16 HO402 HO405 HO408 HO414 HO417 HO420 HO426 HO429 HO432 BK377 BK410 BK422 HB; have HO_12 := n0_; have HO_16 := n1_; have HO402 := n2_; have HO405 := n3_; have HO408 := n4_; have HO414 := n5_; have HO417 := n6_; have HO420 := n7_; have HO426 := n8_; have HO429 := n9_; have HO432 := n10_; have BK377 := n11_; have BK410 := n12_; have BK422 := n13_; have HB := n14_; clear n0_ n1_ n2_ n3_ n4_ n5_ n6_ n7_ n8_ n9_ n10_ n11_ n12_ n13_ n14_))
               refine bodyPost_ret (results_ct rfl _ _ gb377 29 #[.int .i64 t423, .slice Ao107 t424.length co107, .slice Ao108 t427.length co108, .slice Ao109 t430.length co109] (0, 0) _ rfl (bx BK377.out) Tryz.underlying29 rfl (by kernel_rfl)) rfl ?_
               exact ⟨_, _, _, er, by exact Kd.R_mono HO426.out (fun _ hk => trivial), by exact Kd.R_mono HO429.out (fun _ hk => hk.2.2.2.2.2), by exact Kd.R_mono HO432.out (fun _ hk => hk.2.2.2.2.2), bh HB.out⟩
              ·simp only [Option.some.injEq, Prod.mk.injEq] at H
               obtain ⟨rfl, rfl, rfl, rfl, rfl⟩ := H
               obtain ⟨Ao111, co111, eo111⟩ := Kd.R_slice HO_12.out
               subst eo111
               go_wp2_with (first | ((with_reducible refine gate_callee (f := 35) rfl ?_); refine gL 126 Tryz.func35 #[.slice Ao111 x12_4.length co111] ?_; (with_reducible refine (poslist_Best.calls k5 _ _ x12_4 t399 t400 t403 t406 t409 _ ?side1 ?side2 A80.out).mono ?_); (case side1 => exact cx (Kd.R_reads' HO_12.out).2.2); (case side2 => exact (Kd.R_reads' HO_12.out).2.1); rintro e w112 ⟨v401, v404, v407, rfl, ho0, ho1, ho2, hb⟩; refine ⟨_, rfl, ?_⟩; have HO402 := Aside0.mk (Kd.R_lower (Kd.R_new' ho0 (Kd.R_lt (rx HO_12.out))) (below_size (bh HB.out))); replace HO_12 := Aside0.mk (Kd.R_elder' (rx HO_12.out) (Kd.R_base ho0) hb); have HO405 := Aside0.mk (Kd.R_lower (Kd.R_new' ho1 (Kd.R_lt (rx HO_16.out))) (below_size (bh HB.out))); have HO408 := Aside0.mk (Kd.R_lower (Kd.R_new' ho2 (Kd.R_lt (rx HO_16.out))) (below_size (bh HB.out))); replace HO_16 := Aside0.mk (Kd.R_mono (Kd.R_told (Kd.R_told (Kd.R_old (rx HO_16.out) hb) (Kd.R_base ho1)) (Kd.R_base ho2)) (fun _ h_ => h_.1)); replace BK377 := bba BK377 hb; replace HB := bsa HB hb; clear hb ho0 ho1 ho2) | ((with_reducible refine gate_dst (N := 19) rfl ?_); refine box_event ?hg (N := 19) ?hd (cs := #[.int .i64 0, .slice none 0 0, .slice none 0 0, .slice none 0 0]) (t := 29) ?hr ?_; (case hd => rfl); (case hg => rfl); (case hr => (go_simp; done)); intro gb410 hg w113 hbox hb; replace HO_12 := rba HO_12 hb; replace HO_16 := rba HO_16 hb; replace HO402 := rba HO402 hb; replace HO405 := rba HO405 hb; replace HO408 := rba HO408 hb; have BK410 := Aside0.mk (hbox); have GW410 := bza HB hg; have GE410 := bza HB hg; replace HB := bsa HB hb; obtain ⟨NB377_410, NB410_377⟩ := bnm BK377 hg; replace BK377 := bba BK377 hb; clear hb hbox hg; have hnb114 := NB410_377.out; have hnc114 := NB377_410.out; obtain ⟨hcz115_0, hcz115_1, hcz115_2, hcz115_3, hfz115_0, hfz115_1, hfz115_2, hfz115_3⟩ := b4 BK410; obtain ⟨Ao116, co116, eo116⟩ := Kd.R_slice HO402.out; subst eo116; obtain ⟨Ao117, co117, eo117⟩ := Kd.R_slice HO405.out; subst eo117; obtain ⟨Ao118, co118, eo118⟩ := Kd.R_slice HO408.out; subst eo118) | ((with_reducible refine gate_store (t := 29) (p := 19) rfl ?_); refine stE 29 19 ((((w113.setCell ⟨gb410, 0, none⟩ (.int .i64 t399)).setCell ⟨gb410, 1, none⟩ (.slice Ao116 t400.length co116)).setCell ⟨gb410, 2, none⟩ (.slice Ao117 t403.length co117)).setCell ⟨gb410, 3, none⟩ (.slice Ao118 t406.length co118)) ?_; intro w119 hw; have n0_ := rsm (fun k_ => some k_ ≠ (.slice Ao116 t400.length co116 : Value).ownBlock) HO_12 hw (fun _ hk => hk.2); have n1_ := rsm (fun k_ => some k_ ≠ (.slice Ao117 t403.length co117 : Value).ownBlock ∧ some k_ ≠ (.slice Ao118 t406.length co118 : Value).ownBlock) HO_16 hw (fun _ hk => ⟨hk.1.2, hk.2⟩); have n2_ := rsm (fun k_ => some k_ ≠ (.slice Ao111 x12_4.length co111 : Value).ownBlock) HO402 hw (fun _ hk => hk.2); have n3_ := rsm (fun k_ => some k_ ≠ (u16 : Value).ownBlock ∧ some k_ ≠ (.slice Ao118 t406.length co118 : Value).ownBlock) HO405 hw (fun _ hk => ⟨hk.2, hk.1⟩); have n4_ := rsm (fun k_ => some k_ ≠ (u16 : Value).ownBlock ∧ some k_ ≠ (.slice Ao117 t403.length co117 : Value).ownBlock) HO408 hw (fun _ hk => ⟨hk.2, hk.1⟩); have n5_ : Aside0 (w119.heap[gb377]? = some (.cells #[.int .i64 0, .slice none 0 0, .slice none 0 0, .slice none 0 0] 29 (0, 0))) := ⟨(by rw [hw]; exact (bx BK377.out))⟩; have n6_ := sps #[.int .i64 t399, .slice Ao116 t400.length co116, .slice Ao117 t403.length co117, .slice Ao118 t406.length co118] BK410 hw (.p (.p (.p (.p .nil)))); have n7_ := bhw HB hw; clear hw HO_12 HO_16 HO402 HO405 HO408 BK377 BK410 HB; have HO_12 := n0_; have HO_16 := n1_; have HO402 := n2_; have HO405 := n3_; have HO408 := n4_; have BK377 := n5_; have BK410 := n6_; have HB := n7_; clear n0_ n1_ n2_ n3_ n4_ n5_ n6_ n7_; obtain ⟨hcz120_0, hcz120_1, hcz120_2, hcz120_3, hfz120_0, hfz120_1, hfz120_2, hfz120_3⟩ := b4 BK377) | ((with_reducible refine gate_store (t := 29) (p := 6) rfl ?_); refine stE 29 6 ((((w119.setCell ⟨gb377, 0, none⟩ (.int .i64 0)).setCell ⟨gb377, 1, none⟩ (.slice none 0 0)).setCell ⟨gb377, 2, none⟩ (.slice none 0 0)).setCell ⟨gb377, 3, none⟩ (.slice none 0 0)) ?_; intro w121 hw; have n0_ := rst HO_12 hw; have n1_ := rsm (fun k_ => some k_ ≠ (.slice Ao117 t403.length co117 : Value).ownBlock ∧ some k_ ≠ (.slice Ao118 t406.length co118 : Value).ownBlock) HO_16 hw (fun _ hk => ⟨hk.1, hk.2⟩); have n2_ := rst HO402 hw; have n3_ := rsm (fun k_ => some k_ ≠ (u16 : Value).ownBlock ∧ some k_ ≠ (.slice Ao118 t406.length co118 : Value).ownBlock) HO405 hw (fun _ hk => ⟨hk.1, hk.2⟩); have n4_ := rsm (fun k_ => some k_ ≠ (u16 : Value).ownBlock ∧ some k_ ≠ (.slice Ao117 t403.length co117 : Value).ownBlock) HO408 hw (fun _ hk => ⟨hk.1, hk.2⟩); have n5_ := sps #[.int .i64 0, .slice none 0 0, .slice none 0 0, .slice none 0 0] BK377 hw (.p (.p (.p (.p .nil)))); have n6_ : Aside0 (w121.heap[gb410]? = some (.cells #[.int .i64 t399, .slice Ao116 t400.length co116, .slice Ao117 t403.length co117, .slice Ao118 t406.length co118] 29 (0, 0))) := ⟨(by rw [hw]; exact (bx BK410.out))⟩; have n7_ := bhw HB hw; clear hw HO_12 HO_16 HO402 HO405 HO408 BK377 BK410 HB; have HO_12 := n0_; have HO_16 := n1_; have HO402 := n2_; have HO405 := n3_; have HO408 := n4_; have BK377 := n5_; have BK410 := n6_; have HB := n7_; clear n0_ n1_ n2_ n3_ n4_ n5_ n6_ n7_))
               refine bodyPost_ret (results_ct rfl _ _ gb377 29 #[.int .i64 0, .slice none 0 0, .slice none 0 0, .slice none 0 0] (0, 0) _ rfl (bx BK377.out) Tryz.underlying29 rfl (by kernel_rfl)) rfl ?_
               exact ⟨_, _, _, er, nl, nl, nl, bh HB.out⟩
end Go.Proofs.YtdgphlkbmplbpaaGreat.Print
end
section
namespace Go.Proofs.YtdgphlkbmplbpaaGreat.Print
open Go.RowKit Go.Proofs.YtdgphlkbmplbpaaGreatW.PrintWords Go.Proofs.YtdgphlkbmplbpaaGreatW.PrintLast Go.Proofs.YtdgphlkbmplbpaaGreatW.PrintMore
attribute [local go_sem] max2_int min2_int max_two min_two max_three min_three max_four min_four   -- for this text's walks alone
set_option linter.unusedVariables false
set_option linter.unusedSimpArgs false
attribute [local go_sem high] eqA41 eqA70
/-! ### peristyleref14_Same: function 11 -/
def peristyleref14_Same.l0 : Nat → List (S70) → List (S70) → Int → Option (Bool)
 | 0, _, _, _ => none
 | k + 1, x0, x1, x5 => if x5 < (x0.length : Int) then (if 0 ≤ x5 then (if x5 < (x1.length : Int) then (if (!(((rd_T70 x0 x5).f0) == ((rd_T70 x1 x5).f0)) || (!(((rd_T70 x0 x5).f1) == ((rd_T70 x1 x5).f1)))) = true then (some false) else (peristyleref14_Same.l0 k x0 x1 (wrap64 (x5 + 1)))) else (none)) else (none)) else (some true)
def peristyleref14_Same.f (k : Nat) (l0 : List (S70)) (l1 : List (S70)) : Option (Bool) := if (l0.length : Int) = (l1.length : Int) then (peristyleref14_Same.l0 k l0 l1 0) else (some false)
theorem peristyleref14_Same.l0_succ (k) (a0) (a1) (a2) : type_of% (@peristyleref14_Same.l0.eq_2 a0 a1 a2 k) := peristyleref14_Same.l0.eq_2 a0 a1 a2 k
set_option maxHeartbeats 8000000 in
set_option maxRecDepth 100000 in
theorem peristyleref14_Same.calls (k : Nat) (A0 : Option Addr) (c0 : Nat) (l0 : List (S70)) (A1 : Option Addr) (c1 : Nat) (l1 : List (S70)) (r : Bool) (w : World) (hr0 : Kd.C k70 w A0 l0.length l0) (hc0 : l0.length ≤ c0) (hr1 : Kd.C k70 w A1 l1.length l1) (hc1 : l1.length ≤ c1) (h : peristyleref14_Same.f k l0 l1 = some r) :
  Calls Tryz.prog 11 #[.slice A0 l0.length c0, .slice A1 l1.length c1] w fun e w' => e = .returned (.bool r) ∧ Drawn0 w w' := by
 have hu70 := Tryz.underlying70
 have HR0 := Aside0.mk hr0
 have HC0 := Aside0.mk hc0
 clear hr0 hc0
 have HR1 := Aside0.mk hr1
 have HC1 := Aside0.mk hc1
 clear hr1 hc1
 have H := h
 clear h
 unfold peristyleref14_Same.f at H
 replace H := ife H
 rcases H with ⟨c3, c3b0, c3b1, H⟩ | ⟨c3, c3b0, c3b1, H⟩
 ·have c3b2 : (l0.length == l1.length) = true := by (simp at c3 ⊢; omega)
  clear c3
  have H' := Aside0.mk H
  clear H
  go_enter Tryz.func11, Tryz.ntmps11
  go_wp2
  repeat (go_quiet (fail))
  go_loopg [5] k (fun kq v5 w' => ∃ (x5_1 : Int), v5 = .int .i64 x5_1 ∧ Aside0 (peristyleref14_Same.l0 kq l0 l1 x5_1 = some r) ∧ Aside0 (kq ≤ k) ∧ Drawn0 w w')
  case atStart => exact ⟨(0), (by rfl), H', ⟨Nat.le_refl _⟩, by repeat (exact Drawn0.refl _)⟩
  case round =>
   clear H' c3b0 c3b1 c3b2
   obtain ⟨x5_1, rfl, HA, HK1, ⟨m1, rfl⟩⟩ := hrel
   cases gk with
   | zero => exact absurd HA.out (by simp [peristyleref14_Same.l0])
   | succ k1 =>
    have H := HA.out
    clear HA
    simp only [peristyleref14_Same.l0] at H
    replace H := ifd H
    rcases H with ⟨-, c4b0, H⟩ | ⟨-, c4b0, H⟩
    ·replace H := ifn H
     obtain ⟨-, c5b0, H⟩ := H
     replace H := ifn H
     obtain ⟨-, c6b0, H⟩ := H
     replace H := ifd H
     rcases H with ⟨c7, -, H⟩ | ⟨c7, -, H⟩
     ·have c7b0 : (!(((rd_T70 l0 x5_1).f0) == ((rd_T70 l1 x5_1).f0)) || (!(((rd_T70 l0 x5_1).f1) == ((rd_T70 l1 x5_1).f1)))) = true := c7
      clear c7
      obtain rfl := Option.some.inj H
      have p433 : 0 ≤ (x5_1 : Int) := ad
      have q433 : x5_1 < (l0.length : Int) := ad
      obtain ⟨ad433, e433, hx433_0, hx433_1⟩ := at_T70 HR0.out x5_1 p433 q433
      cases e433
      replace p433 := eq_true p433
      replace q433 := eq_true q433
      have p434 : 0 ≤ (x5_1 : Int) := ad
      have q434 : x5_1 < (l1.length : Int) := ad
      obtain ⟨ad434, e434, hx434_0, hx434_1⟩ := at_T70 HR1.out x5_1 p434 q434
      cases e434
      replace p434 := eq_true p434
      replace q434 := eq_true q434
      go_wp2
      repeat (go_quiet (fail); go_wp2)
      go_ret
      exact ⟨by rfl, by repeat (first | exact Drawn0.refl _ | apply Drawn0.step)⟩
     ·have c7b0 : (!(((rd_T70 l0 x5_1).f0) == ((rd_T70 l1 x5_1).f0)) || (!(((rd_T70 l0 x5_1).f1) == ((rd_T70 l1 x5_1).f1)))) = false := by simpa using c7
      clear c7
      have H' := Aside0.mk H
      clear H
      have p433 : 0 ≤ (x5_1 : Int) := ad
      have q433 : x5_1 < (l0.length : Int) := ad
      obtain ⟨ad433, e433, hx433_0, hx433_1⟩ := at_T70 HR0.out x5_1 p433 q433
      cases e433
      replace p433 := eq_true p433
      replace q433 := eq_true q433
      have p434 : 0 ≤ (x5_1 : Int) := ad
      have q434 : x5_1 < (l1.length : Int) := ad
      obtain ⟨ad434, e434, hx434_0, hx434_1⟩ := at_T70 HR1.out x5_1 p434 q434
      cases e434
      replace p434 := eq_true p434
      replace q434 := eq_true q434
      go_wp2
      repeat (go_quiet (fail); go_wp2)
      go_roundg k1
      case measure => have := HK1.out; omega
      case rel => exact ⟨(wrap64 (x5_1 + 1)), (by rfl), H', ⟨by have := HK1.out; omega⟩, by repeat (first | exact Drawn0.refl _ | apply Drawn0.step)⟩
    ·obtain rfl := Option.some.inj H
     go_wp2
     repeat (go_quiet (fail))
     go_ret
     exact ⟨by rfl, by repeat (first | exact Drawn0.refl _ | apply Drawn0.step)⟩
 ·have c3b2 : (l0.length == l1.length) = false := by (simp at c3 ⊢; omega)
  obtain rfl := Option.some.inj H
  go_enter Tryz.func11, Tryz.ntmps11
  go_wp2
  repeat (go_quiet (fail))
  go_ret
  exact ⟨by rfl, by repeat (exact Drawn0.refl _)⟩
/-! ### epoch_Sees: function 32 -/
def epoch_Sees.f (a0 : Int) (a1 : Int) (a2 : Int) : Option (Bool) := if a0 ≤ a2 then (if a1 = 0 then (some true) else (some (decide (a1 > a2)))) else (some false)
set_option maxHeartbeats 8000000 in
set_option maxRecDepth 100000 in
theorem epoch_Sees.calls (a0 : Int) (a1 : Int) (a2 : Int) (r : Bool) (w : World) (h : epoch_Sees.f a0 a1 a2 = some r) :
  Calls Tryz.prog 32 #[.int .i64 a0, .int .i64 a1, .int .i64 a2] w fun e w' => e = .returned (.bool r) ∧ Drawn0 w w' := by
 have H := h
 clear h
 unfold epoch_Sees.f at H
 replace H := ifd H
 rcases H with ⟨-, c4b0, H⟩ | ⟨-, c4b0, H⟩
 ·replace H := ife H
  rcases H with ⟨-, c5b0, c5b1, H⟩ | ⟨c5, c5b0, c5b1, H⟩
  ·obtain rfl := Option.some.inj H
   go_enter Tryz.func32, Tryz.ntmps32
   go_wp2
   go_ret
   exact ⟨by rfl, by repeat (exact Drawn0.refl _)⟩
  ·obtain rfl := Option.some.inj H
   go_enter Tryz.func32, Tryz.ntmps32
   go_wp2
   go_ret
   exact ⟨by rfl, by repeat (exact Drawn0.refl _)⟩
 ·obtain rfl := Option.some.inj H
  go_enter Tryz.func32, Tryz.ntmps32
  go_wp2
  go_ret
  exact ⟨by rfl, by repeat (exact Drawn0.refl _)⟩
/-! ### peristylelaw21_awake: function 8 -/
def peristylelaw21_awake.f (k : Nat)  : Option (Bool) := (epoch_First.f).bind fun bt435 => ((epoch_Advance.f bt435.1 bt435.2).bind fun bt437 => ((epoch_Visible.f k (([(⟨1, 0, 3⟩ : S66)] : List (S66))) (([(⟨1, 2⟩ : S68)] : List (S68))) 2).bind fun bt447 => ((epoch_At.f bt437.1 bt437.2.1 0).bind fun bt459 => (if (bt437.1 == 2 && (bt437.2.1 == 1)) = true then (if bt437.2.2 = 0 then (if bt447.2.2.2.2 = 0 then ((poslist_List_Spans.f k bt447.1 bt447.2.1 bt447.2.2.1 bt447.2.2.2.1).bind fun t461 => ((peristyleref14_Same.f k t461 (([(⟨0, 1⟩ : S70), (⟨2, 3⟩ : S70)] : List (S70)))).bind fun t467 => (if t467 = true then (if bt459.1 = 2 then (if bt459.2 = 0 then ((epoch_Sees.f 2 4 3).bind fun t468 => (if t468 = true then ((epoch_Sees.f 2 4 4).bind fun t469 => (some (!t469))) else (none))) else (none)) else (none)) else (none)))) else (none)) else (none)) else (none)))))
set_option maxHeartbeats 8000000 in
set_option maxRecDepth 100000 in
theorem peristylelaw21_awake.calls (k : Nat)  (r : Bool) (w : World) (h : peristylelaw21_awake.f k  = some r) :
  Calls Tryz.prog 8 #[] w fun e w' => e = .returned (.bool r) ∧ Below w.heap.size w w' := by
 have hu41 := Tryz.underlying41
 have hu66 := Tryz.underlying66
 have hu68 := Tryz.underlying68
 have hu29 := Tryz.underlying29
 have hu70 := Tryz.underlying70
 have HB := Aside0.mk (Below.refl w.heap.size w)
 have H := h
 clear h
 unfold peristylelaw21_awake.f at H
 replace H := bd H
 obtain ⟨⟨t435, t436⟩, A1, H⟩ := H
 dsimp only at H
 replace H := bd H
 obtain ⟨⟨t437, t438, t439⟩, A2, H⟩ := H
 dsimp only at H
 obtain ⟨y441, hy441⟩ : ∃ y_ : List (S66), y_ = (([(⟨1, 0, 3⟩ : S66)] : List (S66))) := ⟨_, rfl⟩
 replace H : ((epoch_Visible.f k y441 (([(⟨1, 2⟩ : S68)] : List (S68))) 2).bind fun bt447 => ((epoch_At.f t437 t438 0).bind fun bt459 => (if (t437 == 2 && (t438 == 1)) = true then (if t439 = 0 then (if bt447.2.2.2.2 = 0 then ((poslist_List_Spans.f k bt447.1 bt447.2.1 bt447.2.2.1 bt447.2.2.2.1).bind fun t461 => ((peristyleref14_Same.f k t461 (([(⟨0, 1⟩ : S70), (⟨2, 3⟩ : S70)] : List (S70)))).bind fun t467 => (if t467 = true then (if bt459.1 = 2 then (if bt459.2 = 0 then ((epoch_Sees.f 2 4 3).bind fun t468 => (if t468 = true then ((epoch_Sees.f 2 4 4).bind fun t469 => (some (!t469))) else (none))) else (none)) else (none)) else (none)))) else (none)) else (none)) else (none)))) = some r := by (rw [hy441]; with_reducible exact H)
 have Ny441 := Aside0.mk hy441
 clear hy441
 obtain ⟨y444, hy444⟩ : ∃ y_ : List (S68), y_ = (([(⟨1, 2⟩ : S68)] : List (S68))) := ⟨_, rfl⟩
 replace H : ((epoch_Visible.f k y441 y444 2).bind fun bt447 => ((epoch_At.f t437 t438 0).bind fun bt459 => (if (t437 == 2 && (t438 == 1)) = true then (if t439 = 0 then (if bt447.2.2.2.2 = 0 then ((poslist_List_Spans.f k bt447.1 bt447.2.1 bt447.2.2.1 bt447.2.2.2.1).bind fun t461 => ((peristyleref14_Same.f k t461 (([(⟨0, 1⟩ : S70), (⟨2, 3⟩ : S70)] : List (S70)))).bind fun t467 => (if t467 = true then (if bt459.1 = 2 then (if bt459.2 = 0 then ((epoch_Sees.f 2 4 3).bind fun t468 => (if t468 = true then ((epoch_Sees.f 2 4 4).bind fun t469 => (some (!t469))) else (none))) else (none)) else (none)) else (none)))) else (none)) else (none)) else (none)))) = some r := by (rw [hy444]; with_reducible exact H)
 have Ny444 := Aside0.mk hy444
 clear hy444
 replace H := bd H
 obtain ⟨⟨t447, t448, t451, t454, t457⟩, A3, H⟩ := H
 dsimp only at H
 replace H := bd H
 obtain ⟨⟨t459, t460⟩, A4, H⟩ := H
 dsimp only at H
 replace H := ifn H
 obtain ⟨c5, -, H⟩ := H
 have c5b0 : (t437 == 2 && (t438 == 1)) = true := c5
 ((have c5b1 : decide (t437 = 2 && (t438 == 1)) = true := by simpa using c5))
 ((have c5b2 : (t437 == 2 && (t438 == 1)) = true := by simpa using c5))
 clear c5
 replace H := ife H
 rcases H with ⟨-, c6b0, c6b1, H⟩ | ⟨-, -, -, ⟨⟩⟩
 replace H := ife H
 rcases H with ⟨-, c7b0, c7b1, H⟩ | ⟨-, -, -, ⟨⟩⟩
 replace H := bd H
 obtain ⟨t461, A8, H⟩ := H
 obtain ⟨y464, hy464⟩ : ∃ y_ : List (S70), y_ = (([(⟨0, 1⟩ : S70), (⟨2, 3⟩ : S70)] : List (S70))) := ⟨_, rfl⟩
 replace H : ((peristyleref14_Same.f k t461 y464).bind fun t467 => (if t467 = true then (if t459 = 2 then (if t460 = 0 then ((epoch_Sees.f 2 4 3).bind fun t468 => (if t468 = true then ((epoch_Sees.f 2 4 4).bind fun t469 => (some (!t469))) else (none))) else (none)) else (none)) else (none))) = some r := by (rw [hy464]; with_reducible exact H)
 have Ny464 := Aside0.mk hy464
 clear hy464
 replace H := bd H
 obtain ⟨t467, A9, H⟩ := H
 replace H := ifb H
 rcases H with ⟨rfl, H⟩ | ⟨-, ⟨⟩⟩
 replace H := ife H
 rcases H with ⟨-, c11b0, c11b1, H⟩ | ⟨-, -, -, ⟨⟩⟩
 replace H := ife H
 rcases H with ⟨-, c12b0, c12b1, H⟩ | ⟨-, -, -, ⟨⟩⟩
 replace H := bd H
 obtain ⟨t468, A13, H⟩ := H
 replace H := ifb H
 rcases H with ⟨rfl, H⟩ | ⟨-, ⟨⟩⟩
 replace H := bd H
 obtain ⟨t469, A15, H⟩ := H
 obtain rfl := Option.some.inj H
 go_enter Tryz.func8, Tryz.ntmps8
 go_wp2_with (first | ((with_reducible refine gate_callee (f := 22) rfl ?_); refine gL 8 Tryz.func22 #[] ?_; (with_reducible refine (epoch_First.calls  t435 t436 _ A1.out).mono ?_); rintro e w16 ⟨rfl, hb⟩; refine ⟨_, rfl, ?_⟩; replace HB := bsa HB hb; clear hb) | ((with_reducible refine gate_callee (f := 14) rfl ?_); refine gL 9 Tryz.func14 #[.agg #[.int .i64 t435, .int .i64 t436]] ?_; (with_reducible refine (epoch_Advance.calls t435 t436 t437 t438 t439 _ A2.out).mono ?_); rintro e w17 ⟨rfl, hb⟩; refine ⟨_, rfl, ?_⟩; replace HB := bsa HB hb; clear hb) | ((with_reducible refine gate_dst (N := 1) rfl ?_); ((refine gate_guard (by rfl) ?_; dsimp only)); refine boxE HB 1 41 #[.int .i64 0, .int .i64 0] ?_; clear HB; intro gb440 w18 BK440 GW440 hg hb HB; have GE440 := GW440; clear hb hg; obtain ⟨hcz19_0, hcz19_1, hfz19_0, hfz19_1⟩ := b2 BK440) | ((with_reducible refine gate_dst (N := 14) rfl ?_); ((refine gate_guard (by rfl) ?_; dsimp only)); refine Kd.R_lit k66 _ 66 ?hg (N := 14) ?hd (xs := ([(⟨1, 0, 3⟩ : S66)] : List (S66))) (inner := [.int .i64 1, .int .i64 0, .int .i64 3]) (ok := fun _ => True) (okp := fun _ => True) ?hr ?hp (fun _ hk => hk) trivial (Below.refl _ _) (Nat.le_refl _) (by simp) ?_; (case hd => rfl); (case hg => rfl); (case hr => (go_simp; done)); (case hp => exact (Reps.c3 (show Kd.M k66 _ _ _ (⟨1, 0, 3⟩ : S66) [.int .i64 1, .int .i64 0, .int .i64 3] from (k66_mkM _ _ _ (⟨1, 0, 3⟩ : S66) )) (Reps.none _ _))); intro v442 w20 ho21 hb hg_ hnew_; clear hg_ hnew_; (rw [← Ny441.out] at ho21); have HO443 := Aside0.mk (Kd.R_lower ho21 (below_size (bh HB.out))); replace BK440 := Aside0.mk (blk_below (g := gb440) (o := .cells #[.int .i64 t437, .int .i64 t438] 41 (0, 0)) (by refine blk_put (cs := #[.int .i64 t437, .int .i64 0]) ?_ 1 _ rfl; refine blk_put (cs := #[.int .i64 0, .int .i64 0]) ?_ 0 _ rfl; exact BK440.out) hb); replace HB := bsa HB hb; clear hb ho21) | ((with_reducible refine gate_dst (N := 16) rfl ?_); ((refine gate_guard (by rfl) ?_; dsimp only)); refine Kd.R_lit k68 _ 68 ?hg (N := 16) ?hd (xs := ([(⟨1, 2⟩ : S68)] : List (S68))) (inner := [.int .i64 1, .int .i64 2]) (ok := fun _ => True) (okp := fun _ => True) ?hr ?hp (fun _ hk => hk) trivial (Below.refl _ _) (Nat.le_refl _) (by simp) ?_; (case hd => rfl); (case hg => rfl); (case hr => (go_simp; done)); (case hp => exact (Reps.c2 (show Kd.M k68 _ _ _ (⟨1, 2⟩ : S68) [.int .i64 1, .int .i64 2] from (k68_mkM _ _ _ (⟨1, 2⟩ : S68) )) (Reps.none _ _))); intro v445 w22 ho23 hb hg_ hnew_; clear hg_ hnew_; (rw [← Ny444.out] at ho23); replace HO443 := rba HO443 hb; have HO446 := Aside0.mk (Kd.R_lower ho23 (below_size (bh HB.out))); replace BK440 := bba BK440 hb; replace HB := bsa HB hb; clear hb ho23; obtain ⟨Ao24, co24, eo24⟩ := Kd.R_slice HO443.out; subst eo24; obtain ⟨Ao25, co25, eo25⟩ := Kd.R_slice HO446.out; subst eo25) | ((with_reducible refine gate_callee (f := 9) rfl ?_); refine gL 17 Tryz.func9 #[.slice Ao24 y441.length co24, .slice Ao25 y444.length co25, .int .i64 2] ?_; (with_reducible refine (epoch_Visible.calls k _ _ y441 _ _ y444 2 t447 t448 t451 t454 t457 _ ?side1 ?side2 ?side3 ?side4 A3.out).mono ?_); (case side1 => exact cx (Kd.R_reads' HO443.out).2.2); (case side2 => exact (Kd.R_reads' HO443.out).2.1); (case side3 => exact cx (Kd.R_reads' HO446.out).2.2); (case side4 => exact (Kd.R_reads' HO446.out).2.1); rintro e w26 ⟨v449, v452, v455, rfl, ho0, ho1, ho2, hb⟩; refine ⟨_, rfl, ?_⟩; replace HO443 := rba HO443 hb; replace HO446 := rba HO446 hb; have HO450 := Aside0.mk (Kd.R_lower ho0 (below_size (bh HB.out))); have HO453 := Aside0.mk (Kd.R_lower ho1 (below_size (bh HB.out))); have HO456 := Aside0.mk (Kd.R_lower ho2 (below_size (bh HB.out))); replace BK440 := bba BK440 hb; replace HB := bsa HB hb; clear hb ho0 ho1 ho2) | ((with_reducible refine gate_dst (N := 3) rfl ?_); ((refine gate_guard (by rfl) ?_; dsimp only)); refine box_event ?hg (N := 3) ?hd (cs := #[.int .i64 0, .slice none 0 0, .slice none 0 0, .slice none 0 0]) (t := 29) ?hr ?_; (case hd => rfl); (case hg => rfl); (case hr => (go_simp; done)); intro gb458 hg w27 hbox hb; replace HO443 := rba HO443 hb; replace HO446 := rba HO446 hb; replace HO450 := rba HO450 hb; replace HO453 := rba HO453 hb; replace HO456 := rba HO456 hb; have BK458 := Aside0.mk (hbox); have GW458 := bza HB hg; have GE458 := bza HB hg; replace HB := bsa HB hb; obtain ⟨NB440_458, NB458_440⟩ := bnm BK440 hg; replace BK440 := bba BK440 hb; clear hb hbox hg; have hnb28 := NB458_440.out; have hnc28 := NB440_458.out; obtain ⟨hcz29_0, hcz29_1, hcz29_2, hcz29_3, hfz29_0, hfz29_1, hfz29_2, hfz29_3⟩ := b4 BK458; obtain ⟨Ao30, co30, eo30⟩ := Kd.R_slice HO450.out; subst eo30; obtain ⟨Ao31, co31, eo31⟩ := Kd.R_slice HO453.out; subst eo31; obtain ⟨Ao32, co32, eo32⟩ := Kd.R_slice HO456.out; subst eo32) | ((with_reducible refine gate_store (t := 29) (p := 3) rfl ?_); refine stE 29 3 ((((w27.setCell ⟨gb458, 0, none⟩ (.int .i64 t447)).setCell ⟨gb458, 1, none⟩ (.slice Ao30 t448.length co30)).setCell ⟨gb458, 2, none⟩ (.slice Ao31 t451.length co31)).setCell ⟨gb458, 3, none⟩ (.slice Ao32 t454.length co32)) ?_; intro w33 hw; have n0_ := rsm (fun _ => True) HO443 hw (fun _ hk => trivial); have n1_ := rsm (fun _ => True) HO446 hw (fun _ hk => trivial); have n2_ := rsm (fun _ => True) HO450 hw (fun _ hk => trivial); have n3_ := rst HO453 hw; have n4_ := rst HO456 hw; have n5_ : Aside0 (w33.heap[gb440]? = some (.cells #[.int .i64 t437, .int .i64 t438] 41 (0, 0))) := ⟨(by rw [hw]; exact (bx BK440.out))⟩; have n6_ := sps #[.int .i64 t447, .slice Ao30 t448.length co30, .slice Ao31 t451.length co31, .slice Ao32 t454.length co32] BK458 hw (.p (.p (.p (.p .nil)))); have n7_ := bhw HB hw; clear hw HO443 HO446 HO450 HO453 HO456 BK440 BK458 HB; have HO443 := n0_; have HO446 := n1_; have HO450 := n2_; have HO453 := n3_; have HO456 := n4_; have BK440 := n5_; have BK458 := n6_; have HB := n7_; clear n0_ n1_ n2_ n3_ n4_ n5_ n6_ n7_; obtain ⟨hcz34_0, hcz34_1, hfz34_0, hfz34_1⟩ := b2 BK440) | ((with_reducible refine gate_callee (f := 18) rfl ?_); refine gL 22 Tryz.func18 #[.agg #[.int .i64 t437, .int .i64 t438], .int .i64 0] ?_; (with_reducible refine (epoch_At.calls t437 t438 0 t459 t460 _ A4.out).mono ?_); rintro e w35 ⟨rfl, hb⟩; refine ⟨_, rfl, ?_⟩; replace HO443 := rba HO443 hb; replace HO446 := rba HO446 hb; replace HO450 := rba HO450 hb; replace HO453 := rba HO453 hb; replace HO456 := rba HO456 hb; replace BK440 := bba BK440 hb; replace BK458 := bba BK458 hb; replace HB := bsa HB hb; clear hb; obtain ⟨hcz36_0, hcz36_1, hfz36_0, hfz36_1⟩ := b2 BK440; obtain ⟨hcz37_0, hcz37_1, hcz37_2, hcz37_3, hfz37_0, hfz37_1, hfz37_2, hfz37_3⟩ := b4 BK458) | (go_at_call 12; (with_reducible refine (poslist_List_Spans.calls k t447 _ _ t448 _ _ t451 _ _ t454 t461 _ ?side1 ?side2 ?side3 ?side4 ?side5 ?side6 A8.out).mono ?_); (case side1 => exact cx (Kd.R_reads' HO450.out).2.2); (case side2 => exact (Kd.R_reads' HO450.out).2.1); (case side3 => exact cx (Kd.R_reads' HO453.out).2.2); (case side4 => exact (Kd.R_reads' HO453.out).2.1); (case side5 => exact cx (Kd.R_reads' HO456.out).2.2); (case side6 => exact (Kd.R_reads' HO456.out).2.1); rintro e w38 ⟨v462, rfl, ho0, hb⟩; replace HO443 := rba HO443 hb; replace HO446 := rba HO446 hb; replace HO453 := rba HO453 hb; replace HO456 := rba HO456 hb; have HO463 := Aside0.mk (Kd.R_lower (Kd.R_new' ho0 (Kd.R_lt (rx HO450.out))) (below_size (bh HB.out))); replace HO450 := Aside0.mk (Kd.R_elder' (rx HO450.out) (Kd.R_base ho0) hb); replace BK440 := bba BK440 hb; replace BK458 := bba BK458 hb; replace HB := bsa HB hb; clear hb ho0 A8) | ((with_reducible refine gate_dst (N := 41) rfl ?_); ((refine gate_guard (by rfl) ?_; dsimp only)); refine Kd.R_lit k70 _ 70 ?hg (N := 41) ?hd (xs := ([(⟨0, 1⟩ : S70), (⟨2, 3⟩ : S70)] : List (S70))) (inner := [.int .i64 0, .int .i64 1, .int .i64 2, .int .i64 3]) (ok := fun _ => True) (okp := fun _ => True) ?hr ?hp (fun _ hk => hk) trivial (Below.refl _ _) (Nat.le_refl _) (by simp) ?_; (case hd => rfl); (case hg => rfl); (case hr => (go_simp; done)); (case hp => exact (Reps.c2 (show Kd.M k70 _ _ _ (⟨0, 1⟩ : S70) [.int .i64 0, .int .i64 1] from (k70_mkM _ _ _ (⟨0, 1⟩ : S70) )) (Reps.c2 (show Kd.M k70 _ _ _ (⟨2, 3⟩ : S70) [.int .i64 2, .int .i64 3] from (k70_mkM _ _ _ (⟨2, 3⟩ : S70) )) (Reps.none _ _)))); intro v465 w39 ho40 hb hg_ hnew_; clear hg_ hnew_; (rw [← Ny464.out] at ho40); replace HO443 := rba HO443 hb; replace HO446 := rba HO446 hb; replace HO453 := rba HO453 hb; replace HO456 := rba HO456 hb; have HO466 := Aside0.mk (Kd.R_lower (Kd.R_new' (Kd.R_new' ho40 (Kd.R_lt (rx HO450.out))) (Kd.R_lt (rx HO463.out))) (below_size (bh HB.out))); replace HO450 := Aside0.mk (Kd.R_elder' (rx HO450.out) (Kd.R_base ho40) hb); replace HO463 := Aside0.mk (Kd.R_elder' (rx HO463.out) (Kd.R_base ho40) hb); replace BK440 := bba BK440 hb; replace BK458 := bba BK458 hb; replace HB := bsa HB hb; clear hb ho40; obtain ⟨Ao41, co41, eo41⟩ := Kd.R_slice HO463.out; subst eo41; obtain ⟨Ao42, co42, eo42⟩ := Kd.R_slice HO466.out; subst eo42) | (go_at_call 11; (with_reducible refine (peristyleref14_Same.calls k _ _ t461 _ _ y464 true _ ?side1 ?side2 ?side3 ?side4 A9.out).mono ?_); (case side1 => exact cx (Kd.R_reads' HO463.out).2.2); (case side2 => exact (Kd.R_reads' HO463.out).2.1); (case side3 => exact cx (Kd.R_reads' HO466.out).2.2); (case side4 => exact (Kd.R_reads' HO466.out).2.1); rintro e w' ⟨rfl, ⟨nd, rfl⟩⟩; clear A9) | (go_at_call 32; (with_reducible refine (epoch_Sees.calls 2 4 3 true _ A13.out).mono ?_); rintro e w' ⟨rfl, ⟨nd, rfl⟩⟩; clear A13) | (go_at_call 32; (with_reducible refine (epoch_Sees.calls 2 4 4 t469 _ A15.out).mono ?_); rintro e w' ⟨rfl, ⟨nd, rfl⟩⟩; clear A15))
 go_ret
 exact ⟨er, bh HB.out⟩
end Go.Proofs.YtdgphlkbmplbpaaGreat.Print
end
section
namespace Go.Proofs.YtdgphlkbmplbpaaGreat.Print
open Go.RowKit Go.Proofs.YtdgphlkbmplbpaaGreatW.PrintWords Go.Proofs.YtdgphlkbmplbpaaGreatW.PrintLast Go.Proofs.YtdgphlkbmplbpaaGreatW.PrintMore
attribute [local go_sem] max2_int min2_int max_two min_two max_three min_three max_four min_four   -- for this text's walks alone
set_option linter.unusedVariables false
set_option linter.unusedSimpArgs false
attribute [local go_sem high] eqA41
/-! ### peristylelaw21_EpochClocks: function 4 -/
def peristylelaw21_EpochClocks.f (k : Nat) (a0_0 : Int) (a0_1 : Int) (a1 : Int) (a2 : Int) : Option (Bool) := (epoch_Advance.f a0_0 a0_1).bind fun bt471 => ((peristyleref21_Advance.f a0_0 a0_1).bind fun bt475 => ((epoch_Raise.f a0_0 a0_1 a1).bind fun bt479 => ((peristyleref21_Raise.f a0_0 a0_1 a1).bind fun bt483 => ((epoch_At.f a0_0 a0_1 a2).bind fun bt487 => ((peristyleref21_At.f a0_0 a0_1 a2).bind fun bt489 => (if (bt471.1 == bt475.1 && (bt471.2.1 == bt475.2.1)) = true then (if bt471.2.2 = bt475.2.2 then (if (bt479.1 == bt483.1 && (bt479.2.1 == bt483.2.1)) = true then (if bt479.2.2 = bt483.2.2 then (if bt487.1 = bt489.1 then (if bt487.2 = bt489.2 then ((epoch_Check.f a0_0 a0_1).bind fun t491 => ((peristyleref21_May.f a0_0 a0_1).bind fun t492 => (if ((t491 == 0) == t492) = true then ((epoch_First.f).bind fun bt493 => (if (bt493.1 == 1 && (bt493.2 == 1)) = true then ((peristylelaw21_awake.f k).bind fun t495 => (some t495)) else (none))) else (none)))) else (none)) else (none)) else (none)) else (none)) else (none)) else (none)))))))
/-! ### peristylelaw21_few: function 7 -/
def peristylelaw21_few.l0 : Nat → List (S66) → List (S68) → Int → Int → Option (Bool)
 | 0, _, _, _, _ => none
 | k + 1, x0, x1, x5, x6 => if x6 < (x0.length : Int) then (if x6 < 60 then (if x5 ≤ 1024 then (if 0 ≤ x6 then (peristylelaw21_few.l0 k x0 x1 (wrap64 (x5 + (mn 1024 (mx 0 ((rd_T66 x0 x6).f2))))) (wrap64 (x6 + 1))) else (none)) else (if (x0.length : Int) ≤ 60 then (some false) else (some false))) else (if (x0.length : Int) ≤ 60 then (if x5 ≤ 1024 then (some (decide ((x1.length : Int) ≤ 60))) else (some false)) else (some false))) else (if (x0.length : Int) ≤ 60 then (if x5 ≤ 1024 then (some (decide ((x1.length : Int) ≤ 60))) else (some false)) else (some false))
def peristylelaw21_few.f (k : Nat) (l0 : List (S66)) (l1 : List (S68)) : Option (Bool) := peristylelaw21_few.l0 k l0 l1 0 0
end Go.Proofs.YtdgphlkbmplbpaaGreat.Print
end
section
namespace Go.Proofs.YtdgphlkbmplbpaaGreat.Print
open Go.RowKit Go.Proofs.YtdgphlkbmplbpaaGreatW.PrintWords Go.Proofs.YtdgphlkbmplbpaaGreatW.PrintLast Go.Proofs.YtdgphlkbmplbpaaGreatW.PrintMore
attribute [local go_sem] max2_int min2_int max_two min_two max_three min_three max_four min_four   -- for this text's walks alone
set_option linter.unusedVariables false
set_option linter.unusedSimpArgs false
/-! ### peristyleref10_May: function 37 -/
def peristyleref10_May.l0 : Nat → List (S66) → Int → Int → Option (Bool)
 | 0, _, _, _ => none
 | k + 1, x0, x3, x4 => if x4 < (x0.length : Int) then (if 0 ≤ x4 then (if ((rd_T66 x0 x4).f1) = x3 then (if ((rd_T66 x0 x4).f2) < 1 then (some false) else (if ((rd_T66 x0 x4).f2) > (wrap64 (65536 - x3)) then (some false) else (if x4 > 0 then (if 0 ≤ (wrap64 (x4 - 1)) then (if (wrap64 (x4 - 1)) < (x0.length : Int) then (if ((rd_T66 x0 x4).f0) = ((rd_T66 x0 (wrap64 (x4 - 1))).f0) then (some false) else (peristyleref10_May.l0 k x0 (wrap64 (x3 + ((rd_T66 x0 x4).f2))) (wrap64 (x4 + 1)))) else (none)) else (none)) else (peristyleref10_May.l0 k x0 (wrap64 (x3 + ((rd_T66 x0 x4).f2))) (wrap64 (x4 + 1)))))) else (some false)) else (none)) else (some true)
def peristyleref10_May.f (k : Nat) (l0 : List (S66)) : Option (Bool) := peristyleref10_May.l0 k l0 0 0
theorem peristyleref10_May.l0_succ (k) (a0) (a1) (a2) : type_of% (@peristyleref10_May.l0.eq_2 a0 a1 a2 k) := peristyleref10_May.l0.eq_2 a0 a1 a2 k
/-! ### peristyleref21_MayMarks: function 38 -/
def peristyleref21_MayMarks.l0 : Nat → List (S68) → Int → Int → Option (Bool)
 | 0, _, _, _ => none
 | k + 1, x0, x3, x4 => if x4 < (x0.length : Int) then (if 0 ≤ x4 then (if ((rd_T68 x0 x4).f0) ≤ x3 then (some false) else (if ((rd_T68 x0 x4).f0) ≥ 4096 then (some false) else (if ((rd_T68 x0 x4).f1) < 1 then (some false) else (if ((rd_T68 x0 x4).f1) > 1099511627776 then (some false) else (peristyleref21_MayMarks.l0 k x0 ((rd_T68 x0 x4).f0) (wrap64 (x4 + 1))))))) else (none)) else (some true)
def peristyleref21_MayMarks.f (k : Nat) (l0 : List (S68)) : Option (Bool) := peristyleref21_MayMarks.l0 k l0 (-1) 0
theorem peristyleref21_MayMarks.l0_succ (k) (a0) (a1) (a2) : type_of% (@peristyleref21_MayMarks.l0.eq_2 a0 a1 a2 k) := peristyleref21_MayMarks.l0.eq_2 a0 a1 a2 k
set_option maxHeartbeats 8000000 in
set_option maxRecDepth 100000 in
theorem peristyleref21_MayMarks.calls (k : Nat) (A0 : Option Addr) (c0 : Nat) (l0 : List (S68)) (r : Bool) (w : World) (hr0 : Kd.C k68 w A0 l0.length l0) (hc0 : l0.length ≤ c0) (h : peristyleref21_MayMarks.f k l0 = some r) :
  Calls Tryz.prog 38 #[.slice A0 l0.length c0] w fun e w' => e = .returned (.bool r) ∧ Drawn0 w w' := by
 have HR0 := Aside0.mk hr0
 have HC0 := Aside0.mk hc0
 clear hr0 hc0
 have H := h
 clear h
 unfold peristyleref21_MayMarks.f at H
 have H' := Aside0.mk H
 clear H
 go_enter Tryz.func38, Tryz.ntmps38
 go_wp2
 go_loopg [3, 4] k (fun kq v3 v4 w' => ∃ (x3_1 : Int) (x4_1 : Int), v3 = .int .i64 x3_1 ∧ v4 = .int .i64 x4_1 ∧ Aside0 (peristyleref21_MayMarks.l0 kq l0 x3_1 x4_1 = some r) ∧ Aside0 (kq ≤ k) ∧ Drawn0 w w')
 case atStart => exact ⟨((-1)), (0), (by rfl), (by rfl), H', ⟨Nat.le_refl _⟩, by repeat (exact Drawn0.refl _)⟩
 case round =>
  clear H'
  obtain ⟨x3_1, x4_1, rfl, rfl, HA, HK1, ⟨m1, rfl⟩⟩ := hrel
  cases gk with
  | zero => exact absurd HA.out (by simp [peristyleref21_MayMarks.l0])
  | succ k1 =>
   have H := HA.out
   clear HA
   simp only [peristyleref21_MayMarks.l0] at H
   replace H := ifd H
   rcases H with ⟨-, c2b0, H⟩ | ⟨-, c2b0, H⟩
   ·replace H := ifn H
    obtain ⟨-, c3b0, H⟩ := H
    replace H := ifd H
    rcases H with ⟨-, c4b0, H⟩ | ⟨-, c4b0, H⟩
    ·obtain rfl := Option.some.inj H
     have p504 : 0 ≤ (x4_1 : Int) := ad
     have q504 : x4_1 < (l0.length : Int) := ad
     obtain ⟨ad504, e504, hx504_0, hx504_1⟩ := at_T68 HR0.out x4_1 p504 q504
     cases e504
     replace p504 := eq_true p504
     replace q504 := eq_true q504
     go_wp2
     go_ret
     exact ⟨by rfl, by repeat (first | exact Drawn0.refl _ | apply Drawn0.step)⟩
    ·replace H := ifd H
     rcases H with ⟨-, c5b0, H⟩ | ⟨-, c5b0, H⟩
     ·obtain rfl := Option.some.inj H
      have p504 : 0 ≤ (x4_1 : Int) := ad
      have q504 : x4_1 < (l0.length : Int) := ad
      obtain ⟨ad504, e504, hx504_0, hx504_1⟩ := at_T68 HR0.out x4_1 p504 q504
      cases e504
      replace p504 := eq_true p504
      replace q504 := eq_true q504
      have p505 : 0 ≤ (x4_1 : Int) := ad
      have q505 : x4_1 < (l0.length : Int) := ad
      obtain ⟨ad505, e505, hx505_0, hx505_1⟩ := at_T68 HR0.out x4_1 p505 q505
      obtain rfl : ad504 = ad505 := (by injection e505)
      replace p505 := eq_true p505
      replace q505 := eq_true q505
      go_wp2
      go_ret
      exact ⟨by rfl, by repeat (first | exact Drawn0.refl _ | apply Drawn0.step)⟩
     ·replace H := ifd H
      rcases H with ⟨-, c6b0, H⟩ | ⟨-, c6b0, H⟩
      ·obtain rfl := Option.some.inj H
       have p504 : 0 ≤ (x4_1 : Int) := ad
       have q504 : x4_1 < (l0.length : Int) := ad
       obtain ⟨ad504, e504, hx504_0, hx504_1⟩ := at_T68 HR0.out x4_1 p504 q504
       cases e504
       replace p504 := eq_true p504
       replace q504 := eq_true q504
       have p505 : 0 ≤ (x4_1 : Int) := ad
       have q505 : x4_1 < (l0.length : Int) := ad
       obtain ⟨ad505, e505, hx505_0, hx505_1⟩ := at_T68 HR0.out x4_1 p505 q505
       obtain rfl : ad504 = ad505 := (by injection e505)
       replace p505 := eq_true p505
       replace q505 := eq_true q505
       have p506 : 0 ≤ (x4_1 : Int) := ad
       have q506 : x4_1 < (l0.length : Int) := ad
       obtain ⟨ad506, e506, hx506_0, hx506_1⟩ := at_T68 HR0.out x4_1 p506 q506
       obtain rfl : ad504 = ad506 := (by injection e506)
       replace p506 := eq_true p506
       replace q506 := eq_true q506
       go_wp2
       go_ret
       exact ⟨by rfl, by repeat (first | exact Drawn0.refl _ | apply Drawn0.step)⟩
      ·replace H := ifd H
       rcases H with ⟨-, c7b0, H⟩ | ⟨-, c7b0, H⟩
       ·obtain rfl := Option.some.inj H
        have p504 : 0 ≤ (x4_1 : Int) := ad
        have q504 : x4_1 < (l0.length : Int) := ad
        obtain ⟨ad504, e504, hx504_0, hx504_1⟩ := at_T68 HR0.out x4_1 p504 q504
        cases e504
        replace p504 := eq_true p504
        replace q504 := eq_true q504
        have p505 : 0 ≤ (x4_1 : Int) := ad
        have q505 : x4_1 < (l0.length : Int) := ad
        obtain ⟨ad505, e505, hx505_0, hx505_1⟩ := at_T68 HR0.out x4_1 p505 q505
        obtain rfl : ad504 = ad505 := (by injection e505)
        replace p505 := eq_true p505
        replace q505 := eq_true q505
        have p506 : 0 ≤ (x4_1 : Int) := ad
        have q506 : x4_1 < (l0.length : Int) := ad
        obtain ⟨ad506, e506, hx506_0, hx506_1⟩ := at_T68 HR0.out x4_1 p506 q506
        obtain rfl : ad504 = ad506 := (by injection e506)
        replace p506 := eq_true p506
        replace q506 := eq_true q506
        have p507 : 0 ≤ (x4_1 : Int) := ad
        have q507 : x4_1 < (l0.length : Int) := ad
        obtain ⟨ad507, e507, hx507_0, hx507_1⟩ := at_T68 HR0.out x4_1 p507 q507
        obtain rfl : ad504 = ad507 := (by injection e507)
        replace p507 := eq_true p507
        replace q507 := eq_true q507
        go_wp2
        go_ret
        exact ⟨by rfl, by repeat (first | exact Drawn0.refl _ | apply Drawn0.step)⟩
       ·have H' := Aside0.mk H
        clear H
        have p504 : 0 ≤ (x4_1 : Int) := ad
        have q504 : x4_1 < (l0.length : Int) := ad
        obtain ⟨ad504, e504, hx504_0, hx504_1⟩ := at_T68 HR0.out x4_1 p504 q504
        cases e504
        replace p504 := eq_true p504
        replace q504 := eq_true q504
        have p505 : 0 ≤ (x4_1 : Int) := ad
        have q505 : x4_1 < (l0.length : Int) := ad
        obtain ⟨ad505, e505, hx505_0, hx505_1⟩ := at_T68 HR0.out x4_1 p505 q505
        obtain rfl : ad504 = ad505 := (by injection e505)
        replace p505 := eq_true p505
        replace q505 := eq_true q505
        have p506 : 0 ≤ (x4_1 : Int) := ad
        have q506 : x4_1 < (l0.length : Int) := ad
        obtain ⟨ad506, e506, hx506_0, hx506_1⟩ := at_T68 HR0.out x4_1 p506 q506
        obtain rfl : ad504 = ad506 := (by injection e506)
        replace p506 := eq_true p506
        replace q506 := eq_true q506
        have p507 : 0 ≤ (x4_1 : Int) := ad
        have q507 : x4_1 < (l0.length : Int) := ad
        obtain ⟨ad507, e507, hx507_0, hx507_1⟩ := at_T68 HR0.out x4_1 p507 q507
        obtain rfl : ad504 = ad507 := (by injection e507)
        replace p507 := eq_true p507
        replace q507 := eq_true q507
        have p508 : 0 ≤ (x4_1 : Int) := ad
        have q508 : x4_1 < (l0.length : Int) := ad
        obtain ⟨ad508, e508, hx508_0, hx508_1⟩ := at_T68 HR0.out x4_1 p508 q508
        obtain rfl : ad504 = ad508 := (by injection e508)
        replace p508 := eq_true p508
        replace q508 := eq_true q508
        go_wp2
        go_roundg k1
        case measure => have := HK1.out; omega
        case rel => exact ⟨((rd_T68 l0 x4_1).f0), (wrap64 (x4_1 + 1)), (by rfl), (by rfl), H', ⟨by have := HK1.out; omega⟩, by repeat (first | exact Drawn0.refl _ | apply Drawn0.step)⟩
   ·obtain rfl := Option.some.inj H
    go_wp2
    go_ret
    exact ⟨by rfl, by repeat (first | exact Drawn0.refl _ | apply Drawn0.step)⟩
/-! ### peristyleref10_Flat: function 39 -/
mutual
def peristyleref10_Flat.l0 : Nat → List (S66) → List Int → Int → Option (List Int × Int)
 | 0, _, _, _ => none
 | k + 1, x0, x4, x5 => if x5 < (x0.length : Int) then (peristyleref10_Flat.l1 k x0 x4 x5 0) else (some (x4, 0))
def peristyleref10_Flat.l1 : Nat → List (S66) → List Int → Int → Int → Option (List Int × Int)
 | 0, _, _, _, _ => none
 | k + 1, x0, x4, x5, x6 => if 0 ≤ x5 then (if x5 < (x0.length : Int) then (if x6 < ((rd_T66 x0 x5).f2) then (if x4.length < 17592186044416 then (peristyleref10_Flat.l1 k x0 (x4 ++ [(rd_T66 x0 x5).f0]) x5 (wrap64 (x6 + 1))) else (none)) else (peristyleref10_Flat.l0 k x0 x4 (wrap64 (x5 + 1)))) else (none)) else (none)
end
def peristyleref10_Flat.f (k : Nat) (l0 : List (S66)) : Option (List Int × Int) := (peristyleref10_May.f k l0).bind fun t509 => (if t509 = true then (peristyleref10_Flat.l0 k l0 ([] : List Int) 0) else (some (([] : List Int), 1)))
/-! ### peristyleref21_Gone: function 41 -/
def peristyleref21_Gone.l0 : Nat → List (S68) → Int → Int → Option (Int)
 | 0, _, _, _ => none
 | k + 1, x0, x1, x5 => if x5 < (x0.length : Int) then (if 0 ≤ x5 then (if ((rd_T68 x0 x5).f0) = x1 then (some ((rd_T68 x0 x5).f1)) else (peristyleref21_Gone.l0 k x0 x1 (wrap64 (x5 + 1)))) else (none)) else (some 0)
def peristyleref21_Gone.f (k : Nat) (l0 : List (S68)) (a1 : Int) : Option (Int) := peristyleref21_Gone.l0 k l0 a1 0
/-! ### peristyleref21_Sees: function 40 -/
def peristyleref21_Sees.f (a0 : Int) (a1 : Int) (a2 : Int) : Option (Bool) := if a0 ≤ a2 then (if a1 = 0 then (some true) else (some (decide (a1 > a2)))) else (some false)
end Go.Proofs.YtdgphlkbmplbpaaGreat.Print
end
section
namespace Go.Proofs.YtdgphlkbmplbpaaGreat.Print
open Go.RowKit Go.Proofs.YtdgphlkbmplbpaaGreatW.PrintWords Go.Proofs.YtdgphlkbmplbpaaGreatW.PrintLast Go.Proofs.YtdgphlkbmplbpaaGreatW.PrintMore
attribute [local go_sem] max2_int min2_int max_two min_two max_three min_three max_four min_four   -- for this text's walks alone
set_option linter.unusedVariables false
set_option linter.unusedSimpArgs false
/-! ### peristyleref21_Visible: function 10 -/
mutual
def peristyleref21_Visible.j0 : Nat → List (S66) → List (S68) → Int → Int → Option (List Bool × Int)
 | 0, _, _, _, _ => none
 | k + 1, x0, x1, x2, x8 => (peristyleref10_May.f k x0).bind fun t518 => (if t518 = true then (if x8 > 4096 then (peristyleref21_Visible.j1 k x0 x1 x2 true) else ((peristyleref21_MayMarks.f k x1).bind fun t519 => (peristyleref21_Visible.j1 k x0 x1 x2 (!t519)))) else (peristyleref21_Visible.j1 k x0 x1 x2 true))
def peristyleref21_Visible.j1 : Nat → List (S66) → List (S68) → Int → Bool → Option (List Bool × Int)
 | 0, _, _, _, _ => none
 | k + 1, x0, x1, x2, x34 => if x34 = true then (some (([] : List Bool), 1)) else ((peristyleref10_Flat.f k x0).bind fun bt520 => (if (bt520.1.length : Int) > 4096 then (peristyleref21_Visible.j2 k x1 x2 bt520.1 true) else (if (x1.length : Int) > 0 then (if 0 ≤ (wrap64 ((x1.length : Int) - 1)) then (if (wrap64 ((x1.length : Int) - 1)) < (x1.length : Int) then (peristyleref21_Visible.j2 k x1 x2 bt520.1 (decide (((rd_T68 x1 (wrap64 ((x1.length : Int) - 1))).f0) ≥ (bt520.1.length : Int)))) else (none)) else (none)) else (peristyleref21_Visible.j2 k x1 x2 bt520.1 false))))
def peristyleref21_Visible.j2 : Nat → List (S68) → Int → List Int → Bool → Option (List Bool × Int)
 | 0, _, _, _, _ => none
 | k + 1, x1, x2, x9, x59 => if x59 = true then (some (([] : List Bool), 1)) else (peristyleref21_Visible.l0 k x1 x2 x9 ([] : List Bool) 0)
def peristyleref21_Visible.l0 : Nat → List (S68) → Int → List Int → List Bool → Int → Option (List Bool × Int)
 | 0, _, _, _, _, _ => none
 | k + 1, x1, x2, x9, x11, x12 => if x12 < (x9.length : Int) then (if 0 ≤ x12 then ((peristyleref21_Gone.f k x1 x12).bind fun t526 => ((peristyleref21_Sees.f (rd x9 x12) t526 x2).bind fun t527 => (if x11.length < 140737488355328 then (peristyleref21_Visible.l0 k x1 x2 x9 (x11 ++ [t527]) (wrap64 (x12 + 1))) else (none)))) else (none)) else (some (x11, 0))
end
def peristyleref21_Visible.f (k : Nat) (l0 : List (S66)) (l1 : List (S68)) (a2 : Int) : Option (List Bool × Int) := if (l0.length : Int) > 0 then (if 0 ≤ (wrap64 ((l0.length : Int) - 1)) then (if (wrap64 ((l0.length : Int) - 1)) < (l0.length : Int) then (peristyleref21_Visible.j0 k l0 l1 a2 ((rd_T66 l0 (wrap64 ((l0.length : Int) - 1))).f1)) else (none)) else (none)) else (peristyleref21_Visible.j0 k l0 l1 a2 0)
end Go.Proofs.YtdgphlkbmplbpaaGreat.Print
end
section
namespace Go.Proofs.YtdgphlkbmplbpaaGreat.Print
open Go.RowKit Go.Proofs.YtdgphlkbmplbpaaGreatW.PrintWords Go.Proofs.YtdgphlkbmplbpaaGreatW.PrintLast Go.Proofs.YtdgphlkbmplbpaaGreatW.PrintMore
attribute [local go_sem] max2_int min2_int max_two min_two max_three min_three max_four min_four   -- for this text's walks alone
set_option linter.unusedVariables false
set_option linter.unusedSimpArgs false
/-! ### peristyleref14_Spans: function 13 -/
def peristyleref14_Spans.l0 : Nat → List Bool → List (S70) → Int → Option ((List (S70)))
 | 0, _, _, _ => none
 | k + 1, x0, x3, x4 => if x4 < (x0.length : Int) then (if 0 ≤ x4 then (if rdOf false x0 x4 = true then (if x4 > 0 then (if 0 ≤ (wrap64 (x4 - 1)) then (if (wrap64 (x4 - 1)) < (x0.length : Int) then (if rdOf false x0 (wrap64 (x4 - 1)) = true then (if 0 ≤ (wrap64 ((x3.length : Int) - 1)) then (if (wrap64 ((x3.length : Int) - 1)) < (x3.length : Int) then (peristyleref14_Spans.l0 k x0 (x3.set ((wrap64 ((x3.length : Int) - 1)) : Int).toNat (⟨(rd_T70 x3 (wrap64 ((x3.length : Int) - 1))).f0, wrap64 (((rd_T70 x3 (wrap64 ((x3.length : Int) - 1))).f1) + 1)⟩ : S70)) (wrap64 (x4 + 1))) else (none)) else (none)) else (if x3.length < 8796093022208 then (peristyleref14_Spans.l0 k x0 (x3 ++ [(⟨x4, wrap64 (x4 + 1)⟩ : S70)]) (wrap64 (x4 + 1))) else (none))) else (none)) else (none)) else (if x3.length < 8796093022208 then (peristyleref14_Spans.l0 k x0 (x3 ++ [(⟨x4, wrap64 (x4 + 1)⟩ : S70)]) (wrap64 (x4 + 1))) else (none))) else (peristyleref14_Spans.l0 k x0 x3 (wrap64 (x4 + 1)))) else (none)) else (some x3)
def peristyleref14_Spans.f (k : Nat) (l0 : List Bool) : Option ((List (S70))) := peristyleref14_Spans.l0 k l0 ([] : List (S70)) 0
/-! ### peristylelaw21_EpochVisible: function 3 -/
def peristylelaw21_EpochVisible.f (k : Nat) (l0 : List (S66)) (l1 : List (S68)) (a2 : Int) : Option (Bool) := (peristylelaw21_few.f k l0 l1).bind fun t541 => (if t541 = true then ((epoch_Visible.f k l0 l1 a2).bind fun bt543 => ((peristyleref21_Visible.f k l0 l1 a2).bind fun bt555 => (if bt543.2.2.2.2 = bt555.2 then ((poslist_List_Spans.f k bt543.1 bt543.2.1 bt543.2.2.1 bt543.2.2.2.1).bind fun t559 => ((peristyleref14_Spans.f k bt555.1).bind fun t562 => ((peristyleref14_Same.f k t559 t562).bind fun t565 => (if t565 = true then ((peristylelaw21_awake.f k).bind fun t566 => (some t566)) else (none))))) else (none)))) else ((peristylelaw21_awake.f k).bind fun t542 => (some t542)))
/-! ### epoch_Put: function 23 (a contract of the session's own) -/
def epoch_Put.l0 : Nat → List S68 → Int → ByteArray → Int → Option ByteArray
  | 0, _, _, _, _ => none
  | k + 1, l0, last, s, i => if i < (l0.length : Int) then (if 0 ≤ i then ((vint_Put.f (wrap64 ((rd_T68 l0 i).f0 - last))).bind fun x => ((vint_Put.f (rd_T68 l0 i).f1).bind fun y => if s.size + (x.size + y.size) ≤ 100000000000000 then epoch_Put.l0 k l0 (rd_T68 l0 i).f0 (s ++ x ++ y) (wrap64 (i + 1)) else none)) else none) else some s
def epoch_Put.f (k : Nat) (l0 : List S68) : Option (ByteArray × Int) := (epoch_good.f k l0 4096).bind fun t => if t = true then ((vint_Put.f (l0.length : Int)).bind fun x => if x.size ≤ 100000000000000 then ((epoch_Put.l0 k l0 (-1) (ByteArray.empty ++ x) 0).bind fun s => some (s, 0)) else none) else some (ByteArray.empty, 1)
theorem epoch_Put.l0_succ (k) (a0) (a1) (a2) (a3) : type_of% (@epoch_Put.l0.eq_2 a0 a1 a2 a3 k) := epoch_Put.l0.eq_2 a0 a1 a2 a3 k
set_option maxHeartbeats 8000000 in
set_option maxRecDepth 100000 in
theorem epoch_Put.calls (k : Nat) (A0 : Option Addr) (c0 : Nat) (l0 : List S68) (r1 : ByteArray) (r2 : Int) (w : World) (hr0 : Kd.C k68 w A0 l0.length l0) (hc0 : l0.length ≤ c0) (h : epoch_Put.f k l0 = some (r1, r2)) :
    Calls Tryz.prog 23 #[.slice A0 l0.length c0] w fun e w' => e = .returned (.tuple #[.string r1, .int .i64 r2]) ∧ Below w.heap.size w w' := by
 have hu := Tryz.underlying68
 have HR0 := Aside0.mk hr0
 have HC0 := Aside0.mk hc0
 clear hr0 hc0
 have HB := Aside0.mk (Below.refl w.heap.size w)
 obtain ⟨t, A0_, H⟩ := Option.bind_eq_some_iff.mp h
 clear h
 have H0 := Aside0.mk A0_
 clear A0_
 cases t with
 | false =>
   simp only [Bool.false_eq_true, if_false, Option.some.injEq, Prod.mk.injEq] at H
   obtain ⟨rfl, rfl⟩ := H
   go_enter Tryz.func23, Tryz.ntmps23
   go_wp2_with (go_at_call 34; (with_reducible refine (epoch_good.calls k _ _ l0 4096 false _ ?s1 ?s2 H0.out).mono ?_); (case s1 => exact Kd.C_below HR0.out HB.out); (case s2 => exact HC0.out); rintro e w1 ⟨rfl, hb⟩; replace HB := bsa HB hb; clear hb)
   go_ret2
   exact ⟨rfl, HB.out⟩
 | true =>
   rw [if_pos rfl] at H
   obtain ⟨x0, A1_, H⟩ := Option.bind_eq_some_iff.mp H
   have H1 := Aside0.mk A1_
   clear A1_
   by_cases q0 : x0.size ≤ 100000000000000
   case neg => rw [if_neg q0] at H; exact absurd H (by simp)
   rw [if_pos q0] at H
   have LM0 := Aside0.mk q0
   clear q0
   obtain ⟨s9, A2_, H⟩ := Option.bind_eq_some_iff.mp H
   simp only [Option.some.injEq, Prod.mk.injEq] at H
   obtain ⟨rfl, rfl⟩ := H
   have H' := Aside0.mk A2_
   clear A2_
   go_enter Tryz.func23, Tryz.ntmps23
   go_wp2_with (first | (go_at_call 34; (with_reducible refine (epoch_good.calls k _ _ l0 4096 true _ ?s1 ?s2 H0.out).mono ?_); (case s1 => exact Kd.C_below HR0.out HB.out); (case s2 => exact HC0.out); rintro e w1 ⟨rfl, hb⟩; replace HB := bsa HB hb; clear hb) | ((with_reducible refine gate_dst (N := 4) rfl ?_); refine box_event ?hg (N := 4) ?hd (cs := #[.pointer none, .slice none 0 0]) (t := 87) ?hr ?_; (case hd => rfl); (case hg => rfl); (case hr => (go_simp; done)); intro gb hg w2 hbox hb; have HD := Aside0.mk (Bld.fresh (bz HB.out hg) hbox); replace HB := bsa HB hb; clear hb hbox hg) | (go_at_call 46; (with_reducible refine (vint_Put.calls (l0.length : Int) x0 _ H1.out).mono ?_); rintro e w3 ⟨rfl, hb⟩; replace HD := Aside0.mk (HD.out.below hb); replace HB := bsa HB hb; clear hb) | (go_at_call 45; (with_reducible refine (strings_Builder_WriteString.calls w.heap.size gb _ x0 _ HD.out (by have := LM0.out; simp; omega) (below_size HB.out)).mono ?_); rintro e w4 ⟨rfl, hd, hb, hk⟩; replace HD := Aside0.mk hd; replace HB := Aside0.mk (HB.out.trans hb); clear hd hb hk))
   go_loopg [5, 17] k (fun kq v5 v17 w' => ∃ (last : Int) (i : Int) (s : ByteArray), v5 = .int .i64 last ∧ v17 = .int .i64 i ∧ Aside0 (epoch_Put.l0 kq l0 last s i = some s9) ∧ Aside0 (kq ≤ k) ∧ Aside0 (Bld w.heap.size gb s w') ∧ Aside0 (Below w.heap.size w w'))
   case atStart => exact ⟨-1, 0, _, (by rfl), (by rfl), H', ⟨Nat.le_refl _⟩, HD, HB⟩
   case round =>
     clear H' HD HB
     obtain ⟨last, i, s, rfl, rfl, HA, HK1, HD, HB⟩ := hrel
     cases gk with
     | zero => exact absurd HA.out (by simp [epoch_Put.l0])
     | succ k1 =>
       have H := HA.out
       clear HA
       rw [epoch_Put.l0_succ] at H
       replace H := ifd H
       rcases H with ⟨-, c3b0, H⟩ | ⟨-, c3b0, H⟩
       ·replace H := ifn H
        obtain ⟨-, c4b0, H⟩ := H
        obtain ⟨x, A3_, H⟩ := Option.bind_eq_some_iff.mp H
        have H3 := Aside0.mk A3_
        obtain ⟨y, A4_, H⟩ := Option.bind_eq_some_iff.mp H
        have H4 := Aside0.mk A4_
        clear A3_ A4_
        by_cases q1 : s.size + (x.size + y.size) ≤ 100000000000000
        ·rw [if_pos q1] at H
         have LM := Aside0.mk q1
         clear q1
         have H' := Aside0.mk H
         clear H
         have p2 : 0 ≤ (i : Int) := ad
         have q2 : i < (l0.length : Int) := ad
         obtain ⟨ad, e2, hx0, hx1⟩ := at_T68 HR0.out i p2 q2
         cases e2
         replace hx0 := cb HB.out.cell hx0
         replace hx1 := cb HB.out.cell hx1
         replace p2 := eq_true p2
         replace q2 := eq_true q2
         go_upto_region 9 with (((with_reducible refine gate_dst (N := 7) rfl ?_); refine box_event ?hg (N := 7) ?hd (cs := #[.int .i64 0, .int .i64 0]) (t := 68) ?hr ?_; (case hd => rfl); (case hg => rfl); (case hr => (go_simp; done)); intro gr hg w5 hbox hb; have BKr := Aside0.mk hbox; have GEr := bza HB hg; have NBr : gr ≠ gb := (by rw [hg]; exact (Nat.ne_of_lt HD.out.lt).symm); replace HD := Aside0.mk (HD.out.below hb); replace HB := bsa HB hb; clear hb hbox hg; obtain ⟨hcz0, hcz1, hfz0, hfz1⟩ := b2 BKr))
         have n0_ : Aside0 (Bld w.heap.size gb s ((w5.setCell ⟨gr, 0, none⟩ (.int .i64 (rd_T68 l0 i).f0)).setCell ⟨gr, 1, none⟩ (.int .i64 (rd_T68 l0 i).f1))) := ⟨(Bld.set (Bld.set HD.out (BKr.out) (by decide) (by decide) 0 _) (blk_put (cs := #[.int .i64 0, .int .i64 0]) (BKr.out) 0 _ rfl) (by decide) (by decide) 1 _)⟩
         have n1_ : Aside0 (((w5.setCell ⟨gr, 0, none⟩ (.int .i64 (rd_T68 l0 i).f0)).setCell ⟨gr, 1, none⟩ (.int .i64 (rd_T68 l0 i).f1)).heap[gr]? = some (.cells #[.int .i64 (rd_T68 l0 i).f0, .int .i64 (rd_T68 l0 i).f1] 68 (0, 0))) := ⟨by refine blk_put (cs := #[.int .i64 (rd_T68 l0 i).f0, .int .i64 0]) ?_ 1 _ rfl; refine blk_put (cs := #[.int .i64 0, .int .i64 0]) ?_ 0 _ rfl; exact BKr.out⟩
         have n2_ : Aside0 (Below w.heap.size w ((w5.setCell ⟨gr, 0, none⟩ (.int .i64 (rd_T68 l0 i).f0)).setCell ⟨gr, 1, none⟩ (.int .i64 (rd_T68 l0 i).f1))) := ⟨(below_set (below_set HB.out GEr.out) GEr.out)⟩
         clear HD BKr HB
         generalize ((w5.setCell ⟨gr, 0, none⟩ (.int .i64 (rd_T68 l0 i).f0)).setCell ⟨gr, 1, none⟩ (.int .i64 (rd_T68 l0 i).f1)) = w6 at n0_ n1_ n2_ ⊢
         have HD := n0_
         have BKr := n1_
         have HB := n2_
         clear n0_ n1_ n2_
         obtain ⟨hc0_w6, hc1_w6, -, -⟩ := b2 BKr
         go_wp2_with (first | (go_at_call 46; (with_reducible refine (vint_Put.calls (wrap64 ((rd_T68 l0 i).f0 - last)) x _ H3.out).mono ?_); rintro e w7 ⟨rfl, hb⟩; replace HD := Aside0.mk (HD.out.below hb); replace HB := bsa HB hb; replace BKr := bba BKr hb; clear hb; obtain ⟨hc0_w7, hc1_w7, -, -⟩ := b2 BKr) | (go_at_call 45; (with_reducible refine (strings_Builder_WriteString.calls w.heap.size gb _ x _ HD.out (by have := LM.out; omega) (below_size HB.out)).mono ?_); rintro e w8 ⟨rfl, hd, hb, hk⟩; replace BKr := Aside0.mk (kept_blk hk BKr.out NBr (by decide)); replace HD := Aside0.mk hd; replace HB := Aside0.mk (HB.out.trans hb); clear hd hb hk; obtain ⟨hc0_w8, hc1_w8, -, -⟩ := b2 BKr) | (go_at_call 46; (with_reducible refine (vint_Put.calls (rd_T68 l0 i).f1 y _ H4.out).mono ?_); rintro e w9 ⟨rfl, hb⟩; replace HD := Aside0.mk (HD.out.below hb); replace HB := bsa HB hb; replace BKr := bba BKr hb; clear hb; obtain ⟨hc0_w9, hc1_w9, -, -⟩ := b2 BKr) | (go_at_call 45; (with_reducible refine (strings_Builder_WriteString.calls w.heap.size gb _ y _ HD.out (by have := LM.out; rw [ByteArray.size_append]; omega) (below_size HB.out)).mono ?_); rintro e w10 ⟨rfl, hd, hb, hk⟩; replace BKr := Aside0.mk (kept_blk hk BKr.out NBr (by decide)); replace HD := Aside0.mk hd; replace HB := Aside0.mk (HB.out.trans hb); clear hd hb hk; obtain ⟨hc0_w10, hc1_w10, -, -⟩ := b2 BKr))
         go_roundg k1
         case measure => have := HK1.out; omega
         case rel => exact ⟨(rd_T68 l0 i).f0, wrap64 (i + 1), _, (by rfl), (by rfl), H', ⟨by have := HK1.out; omega⟩, HD, HB⟩
        ·rw [if_neg q1] at H
         exact absurd H (by simp)
       ·obtain rfl := Option.some.inj H
        go_wp2_with ((go_at_call 47; (with_reducible refine (strings_Builder_String.calls w.heap.size gb _ _ HD.out (below_size HB.out)).mono ?_); rintro e wS ⟨rfl, hb⟩; replace HB := Aside0.mk (HB.out.trans hb); clear hb))
        go_ret2
        exact ⟨rfl, HB.out⟩
/-! ### peristyleref01_Of: function 115 (a contract of the session's own) -/
theorem peristyleref01_Of.zero : (Tryz.prog.info? 155).map (fun i => (i.zero, i.size)) = some (some (.agg (arrB zB)), 64) := by kernel_rfl
theorem peristyleref01_Of.size : (Tryz.prog.info? 155).map (·.size) = some 64 := by kernel_rfl
theorem peristyleref01_Of.elem : (Tryz.prog.info? 4).isSome = true := by kernel_rfl
set_option maxHeartbeats 800000 in
theorem peristyleref01_Of.calls (a0 : Int) (w : World) :
    Calls Tryz.prog 115 #[.int .i64 a0] w fun e w' => e = .returned (.agg (arrB (bitsOf a0))) ∧ Below w.heap.size w w' := by
 go_enter Tryz.func115, Tryz.ntmps115
 go_wp2_with (first | ((with_reducible refine gate_dst (N := 2) rfl ?_); refine arr_alloc (w0 := w) w.heap.size rfl 155 rfl _ 64 peristyleref01_Of.zero (Below.refl _ _) (Nat.le_refl _) ?_; intro g0 w1 hg0 hb0 hs0 HB1 hbs1 hgr1) | ((with_reducible refine gate_dst (N := 5) rfl ?_); refine arr_build rfl 155 rfl _ 64 4 64 peristyleref01_Of.zero Tryz.underlying155 peristyleref01_Of.elem ?_) | ((with_reducible refine gate_dst (N := 3) rfl ?_); refine arr_alloc (w0 := w) w.heap.size rfl 155 rfl _ 64 peristyleref01_Of.zero HB1 hbs1 ?_; intro g1 w2 hg1 hb1 hs1 HB2 hbs2 hgr2) | ((with_reducible refine gate_store (t := 155) (p := 3) rfl ?_); refine arr_store (w0 := w) w.heap.size rfl 155 _ _ rfl g1 _ _ rfl rfl hg1 peristyleref01_Of.size rfl (arrB_one _) HB2 hb1 ?_; intro w3 hg2 HB3 hbs3 hgr3))
 have hne : g0 ≠ g1 := by have := blk_lt hg0; omega
 have hg02 := blk_grown (blk_grown hg0 hgr2 (by simp)) hgr3 (by simpa using hne)
 have A1 := Aside0.mk hg02
 have A2 := Aside0.mk hg2
 have A3 := Aside0.mk HB3
 have A4 := Aside0.mk hne
 have HG0 := Aside0.mk hb0
 clear hg0 hb0 hs0 HB1 hbs1 hgr1 hg1 hs1 HB2 hbs2 hgr2 hg2 HB3 hbs3 hgr3 hg02 hne
 go_loopw [4] (fun v4 wr => ∃ k : Nat, k ≤ 64 ∧ v4 = .int .i64 k ∧ Aside0 (wr.heap[g1]? = some (.cells (arrB (fillTo (bitAt a0) zB k)) 155 (0, 0))) ∧ Aside0 (wr.heap[g0]? = some (.cells (arrB zB) 155 (0, 0))) ∧ Aside0 (Below w.heap.size w wr)) (fun v4 _ => 64 - (intOf v4).toNat)
 case atStart => exact ⟨0, by omega, rfl, ⟨by rw [fillTo_zero]; exact A2.out⟩, ⟨A1.out⟩, ⟨A3.out⟩⟩
 case round =>
   obtain ⟨k, hk, rfl, B2, B1, B3⟩ := hrel
   by_cases hlt : k < 64
   ·have hc2 : wr.cell? ⟨g1, k, none⟩ = some (.bool (bAt (fillTo (bitAt a0) zB k) k)) := arrB_cell B2.out k (by rw [fillTo_length _ _ _ hk]; exact hlt)
    have hf : wr.frozen? ⟨g1, k, none⟩ = false := blk_frozen B2.out k
    generalize bAt (fillTo (bitAt a0) zB k) k = old at hc2
    have hk0 : (0 : Int) ≤ (k : Int) := by omega
    have hk1 : (k : Int) < 64 := by omega
    go_wp2
    go_roundw
    case rel =>
      have hset := arrB_put B2.out k (bitAt a0 k)
      rw [fillTo_set _ zB k hlt] at hset
      exact ⟨k + 1, by omega, by go_num, ⟨hset⟩, ⟨blk_far B1.out (fun e => A4.out e) _⟩, ⟨B3.out.setCell hb1 _⟩⟩
    case measure => simp [intOf]; omega
   ·have hk64 : ¬ (k : Int) < 64 := by omega
    obtain rfl : k = 64 := by omega
    clear hk64
    have hfin : fillTo (bitAt a0) zB 64 = bitsOf a0 := fillTo_all _ zB
    have B4 : Aside0 (wr.heap[g1]? = some (.cells (arrB (bitsOf a0)) 155 (0, 0))) := ⟨by rw [← hfin]; exact B2.out⟩
    have HL := Aside0.mk (bitsOf_length a0)
    have hg0b : w.heap.size ≤ g0 := HG0.out
    clear B2 hfin hlt
    go_wp2_with (first | ((with_reducible refine gate_dst (N := 17) rfl ?_); refine wpList_load_row rfl 155 _ rfl g1 rfl 155 _ (0, 0) _ B4.out Tryz.underlying155 rfl (by rw [arrB_size, HL.out]; exact peristyleref01_Of.size) ?_) | ((with_reducible refine gate_store (t := 155) (p := 2) rfl ?_); refine arr_store (w0 := w) w.heap.size rfl 155 _ _ rfl g0 _ _ rfl rfl B1.out (by rw [arrB_size, HL.out]; exact peristyleref01_Of.size) (by rw [arrB_size, arrB_size, HL.out]; rfl) (arrB_one _) B3.out hg0b ?_; intro w5 hg5 HB5 hbs5 hgr5))
    refine bodyPost_ret (results_cell_row rfl _ _ g0 155 (arrB (bitsOf a0)) (0, 0) _ rfl hg5 Tryz.underlying155 rfl (by rw [arrB_size, HL.out]; exact peristyleref01_Of.size)) rfl ⟨rfl, HB5⟩
/-! ### peristyleref01_Word: function 116 (a contract of the session's own) -/
set_option maxHeartbeats 800000 in
theorem peristyleref01_Word.calls (l : List Bool) (hl : l.length = 64) (w : World) :
    Calls Tryz.prog 116 #[.agg (arrB l)] w fun e w' => e = .returned (.int .i64 (wordTo l 64)) ∧ Below w.heap.size w w' := by
 have HL := Aside0.mk hl
 clear hl
 go_enter Tryz.func116, Tryz.ntmps116
 go_wp2_with (((with_reducible refine gate_dst (N := 1) rfl ?_); refine arr_box (w0 := w) w.heap.size rfl 155 _ rfl _ rfl (Below.refl _ _) (Nat.le_refl _) ?_; intro g0 w1 hg0 hb0 hs0 HB1 hbs1 hgr1))
 have A1 := Aside0.mk hg0
 have A2 := Aside0.mk HB1
 clear hg0 hs0 HB1 hbs1 hgr1
 go_loop [3, 4] (fun v3 v4 => ∃ k : Nat, k ≤ 64 ∧ v4 = .int .i64 k ∧ v3 = .int .i64 (wordTo l k)) (fun _ v4 => 64 - (intOf v4).toNat)
 case atStart => exact ⟨0, by omega, rfl, rfl⟩
 case round =>
   obtain ⟨k, hk, rfl, rfl⟩ := hrel
   by_cases hlt : k < 64
   ·have hc2 : w1.cell? ⟨g0, k, none⟩ = some (.bool (bAt l k)) := arrB_cell A1.out k (by rw [HL.out]; exact hlt)
    have hk0 : (0 : Int) ≤ (k : Int) := by omega
    have hk1 : (k : Int) < 64 := by omega
    have HS : Aside0 (wordTo l (k + 1) = if bAt l k = true then Go.bits .or .i64 (wordTo l k) (wrap64 (2 ^ k)) else wordTo l k) := ⟨rfl⟩
    generalize wordTo l k = acc at HS ⊢
    generalize bAt l k = b at hc2 HS
    cases b
    all_goals
      go_wp2
      go_round
      case rel => exact ⟨k + 1, by omega, by go_num, by rw [HS.out]; simp⟩
      case measure => simp [intOf]; omega
   ·have hk64 : ¬ (k : Int) < 64 := by omega
    obtain rfl : k = 64 := by omega
    clear hk64
    go_wp2
    go_ret
    exact ⟨rfl, A2.out⟩
/-! ### peristyleref01_Zig: function 80 (a contract of the session's own) -/
def zigAt (l : List Bool) (k : Nat) : Bool := if k = 0 then bAt l 63 else (bAt l (k - 1) != bAt l 63)
def peristyleref01_Zig.f (a0 : Int) : Option (Int) := some (wordTo (fillTo (zigAt (bitsOf a0)) zB 64) 64)
set_option maxHeartbeats 1600000 in
theorem peristyleref01_Zig.calls0 (a0 : Int) (w : World) :
    Calls Tryz.prog 80 #[.int .i64 a0] w fun e w' => e = .returned (.int .i64 (wordTo (fillTo (zigAt (bitsOf a0)) zB 64) 64)) ∧ Below w.heap.size w w' := by
 go_enter Tryz.func80, Tryz.ntmps80
 go_wp2_with (first | (go_at_call 115; refine (peristyleref01_Of.calls a0 _).mono ?_; rintro e w1 ⟨rfl, HB1⟩) | ((with_reducible refine gate_dst (N := 3) rfl ?_); refine arr_alloc (w0 := w) w.heap.size rfl 155 rfl _ 64 peristyleref01_Of.zero HB1 HB1.size ?_; intro g0 w2 hg0 hb0 hs0 HB2 hbs2 hgr2) | ((with_reducible refine gate_store (t := 155) (p := 3) rfl ?_); refine arr_store (w0 := w) w.heap.size rfl 155 _ _ rfl g0 _ _ rfl rfl hg0 (by rw [arrB_size, bitsOf_length]; exact peristyleref01_Of.size) (by rw [arrB_size, arrB_size, bitsOf_length]; rfl) (arrB_one _) HB2 hb0 ?_; intro w3 hg3 HB3 hbs3 hgr3) | ((with_reducible refine gate_dst (N := 8) rfl ?_); refine arr_build rfl 155 rfl _ 64 4 64 peristyleref01_Of.zero Tryz.underlying155 peristyleref01_Of.elem ?_) | ((with_reducible refine gate_dst (N := 4) rfl ?_); refine arr_alloc (w0 := w) w.heap.size rfl 155 rfl _ 64 peristyleref01_Of.zero HB3 hbs3 ?_; intro g1 w4 hg1 hb1 hs1 HB4 hbs4 hgr4) | ((with_reducible refine gate_store (t := 155) (p := 4) rfl ?_); refine arr_store (w0 := w) w.heap.size rfl 155 _ _ rfl g1 _ _ rfl rfl hg1 peristyleref01_Of.size rfl (arrB_one _) HB4 hb1 ?_; intro w5 hg5 HB5 hbs5 hgr5; have hne : g0 ≠ g1 := (by have := blk_lt hg3; omega); have hg05 := blk_grown (blk_grown hg3 hgr4 (by simp)) hgr5 (by simpa using hne); have cb : w5.cell? ⟨g0, 63, none⟩ = some (.bool (bAt (bitsOf a0) 63)) := arrB_cell hg05 63 (by rw [bitsOf_length]; omega); have co : w5.cell? ⟨g1, 0, none⟩ = some (.bool (bAt zB 0)) := arrB_cell hg5 0 (by decide); have fo := blk_frozen hg5 0))
 have A1 := Aside0.mk hg05
 have A2 := Aside0.mk hg5
 have A3 := Aside0.mk HB5
 have A4 := Aside0.mk hne
 clear hg0 hs0 HB1 HB2 hbs2 hgr2 hg3 HB3 hbs3 hgr3 hg1 hs1 HB4 hbs4 hgr4 hg5 HB5 hbs5 hgr5 hne hg05
 have B1 : Aside0 ((w5.setCell ⟨g1, 0, none⟩ (.bool (bAt (bitsOf a0) 63))).heap[g1]? = some (.cells (arrB (fillTo (zigAt (bitsOf a0)) zB 1)) 155 (0, 0))) := ⟨by have := arrB_put A2.out 0 (zigAt (bitsOf a0) 0); rw [show zB.set 0 (zigAt (bitsOf a0) 0) = fillTo (zigAt (bitsOf a0)) zB 1 from by rw [← fillTo_set _ zB 0 (by decide), fillTo_zero]] at this; exact this⟩
 have B2 : Aside0 ((w5.setCell ⟨g1, 0, none⟩ (.bool (bAt (bitsOf a0) 63))).heap[g0]? = some (.cells (arrB (bitsOf a0)) 155 (0, 0))) := ⟨blk_far A1.out (fun e => A4.out e) _⟩
 have B3 : Aside0 (Below w.heap.size w (w5.setCell ⟨g1, 0, none⟩ (.bool (bAt (bitsOf a0) 63)))) := ⟨A3.out.setCell hb1 _⟩
 clear cb co fo A1 A2 A3
 go_loopw [5] (fun v5 wr => ∃ k : Nat, 1 ≤ k ∧ k ≤ 64 ∧ v5 = .int .i64 k ∧ Aside0 (wr.heap[g1]? = some (.cells (arrB (fillTo (zigAt (bitsOf a0)) zB k)) 155 (0, 0))) ∧ Aside0 (wr.heap[g0]? = some (.cells (arrB (bitsOf a0)) 155 (0, 0))) ∧ Aside0 (Below w.heap.size w wr)) (fun v5 _ => 64 - (intOf v5).toNat)
 case atStart => exact ⟨1, by omega, by omega, rfl, B1, B2, B3⟩
 case round =>
   clear B1 B2 B3
   obtain ⟨k, h1, hk, rfl, C1, C2, C3⟩ := hrel
   have HL : Aside0 ((fillTo (zigAt (bitsOf a0)) zB k).length = 64) := ⟨fillTo_length _ zB k hk⟩
   by_cases hlt : k < 64
   ·obtain ⟨m, rfl⟩ : ∃ m, k = m + 1 := ⟨k - 1, by omega⟩
    have e1 : ((m + 1 : Nat) : Int) = (m : Int) + 1 := by omega
    have co : wr.cell? ⟨g1, m + 1, none⟩ = some (.bool (bAt (fillTo (zigAt (bitsOf a0)) zB (m + 1)) (m + 1))) := arrB_cell C1.out (m + 1) (by rw [HL.out]; omega)
    have fo : wr.frozen? ⟨g1, m + 1, none⟩ = false := blk_frozen C1.out (m + 1)
    have cb : wr.cell? ⟨g0, m, none⟩ = some (.bool (bAt (bitsOf a0) m)) := arrB_cell C2.out m (by rw [bitsOf_length]; omega)
    have cb63 : wr.cell? ⟨g0, 63, none⟩ = some (.bool (bAt (bitsOf a0) 63)) := arrB_cell C2.out 63 (by rw [bitsOf_length]; omega)
    generalize bAt (fillTo (zigAt (bitsOf a0)) zB (m + 1)) (m + 1) = old at co
    have hk0 : (0 : Int) ≤ (m : Int) := by omega
    have hk1 : (m : Int) < 63 := by omega
    rw [e1]
    clear e1 h1 hk hlt
    go_wp2
    go_region
    go_wp2
    go_roundw
    case rel =>
      have hset := arrB_put C1.out (m + 1) (zigAt (bitsOf a0) (m + 1))
      rw [fillTo_set _ zB (m + 1) (by rw [zB_length]; omega)] at hset
      have hz : zigAt (bitsOf a0) (m + 1) = !(bAt (bitsOf a0) m == bAt (bitsOf a0) 63) := by simp [zigAt, bne]
      rw [hz] at hset
      exact ⟨m + 2, by omega, by omega, by go_num, ⟨hset⟩, ⟨blk_far C2.out (fun e => A4.out e) _⟩, ⟨below_drew (C3.out.setCell hb1 _)⟩⟩
    case measure => simp [intOf]; omega
   ·have hk64 : ¬ (k : Int) < 64 := by omega
    obtain rfl : k = 64 := by omega
    clear hk64 hlt h1 hk
    go_wp2_with (first | ((with_reducible refine gate_dst (N := 25) rfl ?_); refine wpList_load_row rfl 155 _ rfl g1 rfl 155 _ (0, 0) _ C1.out Tryz.underlying155 rfl (by rw [arrB_size, HL.out]; exact peristyleref01_Of.size) ?_) | (go_at_call 116; refine (peristyleref01_Word.calls _ HL.out _).mono ?_; rintro e w9 ⟨rfl, HB9⟩))
    go_ret
    exact ⟨rfl, below_step C3.out HB9⟩
theorem peristyleref01_Zig.calls (a0 : Int) (r : Int) (w : World) (h : peristyleref01_Zig.f a0 = some r) :
    Calls Tryz.prog 80 #[.int .i64 a0] w fun e w' => e = .returned (.int .i64 r) ∧ Below w.heap.size w w' := by
 obtain rfl := Option.some.inj h
 exact peristyleref01_Zig.calls0 a0 w
/-! ### peristyleref01_Field: function 81 (a contract of the session's own) -/
def peristyleref01_Field.f (a0 a1 a2 : Int) : Option (Int) := some (wordTo (fillTo (fun k => bAt (bitsOf a0) (a1.toNat + k)) zB (fieldN a1 a2)) 64)
set_option maxHeartbeats 1600000 in
theorem peristyleref01_Field.calls0 (a0 a1 a2 : Int) (w : World) :
    Calls Tryz.prog 81 #[.int .i64 a0, .int .i64 a1, .int .i64 a2] w fun e w' => e = .returned (.int .i64 (wordTo (fillTo (fun k => bAt (bitsOf a0) (a1.toNat + k)) zB (fieldN a1 a2)) 64)) ∧ Below w.heap.size w w' := by
 go_enter Tryz.func81, Tryz.ntmps81
 go_wp2_with (first | (go_at_call 115; refine (peristyleref01_Of.calls a0 _).mono ?_; rintro e w1 ⟨rfl, HB1⟩) | ((with_reducible refine gate_dst (N := 7) rfl ?_); refine arr_alloc (w0 := w) w.heap.size rfl 155 rfl _ 64 peristyleref01_Of.zero HB1 HB1.size ?_; intro g0 w2 hg0 hb0 hs0 HB2 hbs2 hgr2) | ((with_reducible refine gate_store (t := 155) (p := 7) rfl ?_); refine arr_store (w0 := w) w.heap.size rfl 155 _ _ rfl g0 _ _ rfl rfl hg0 (by rw [arrB_size, bitsOf_length]; exact peristyleref01_Of.size) (by rw [arrB_size, arrB_size, bitsOf_length]; rfl) (arrB_one _) HB2 hb0 ?_; intro w3 hg3 HB3 hbs3 hgr3) | ((with_reducible refine gate_dst (N := 12) rfl ?_); refine arr_build rfl 155 rfl _ 64 4 64 peristyleref01_Of.zero Tryz.underlying155 peristyleref01_Of.elem ?_) | ((with_reducible refine gate_dst (N := 8) rfl ?_); refine arr_alloc (w0 := w) w.heap.size rfl 155 rfl _ 64 peristyleref01_Of.zero HB3 hbs3 ?_; intro g1 w4 hg1 hb1 hs1 HB4 hbs4 hgr4) | ((with_reducible refine gate_store (t := 155) (p := 8) rfl ?_); refine arr_store (w0 := w) w.heap.size rfl 155 _ _ rfl g1 _ _ rfl rfl hg1 peristyleref01_Of.size rfl (arrB_one _) HB4 hb1 ?_; intro w5 hg5 HB5 hbs5 hgr5))
 have hne : g0 ≠ g1 := by have := blk_lt hg3; omega
 have hg05 := blk_grown (blk_grown hg3 hgr4 (by simp)) hgr5 (by simpa using hne)
 have A1 := Aside0.mk hg05
 have A2 := Aside0.mk hg5
 have A3 := Aside0.mk HB5
 have A4 := Aside0.mk hne
 clear hg0 hs0 HB1 HB2 hbs2 hgr2 hg3 HB3 hbs3 hgr3 hg1 hs1 HB4 hbs4 hgr4 hg5 HB5 hbs5 hgr5 hne hg05
 go_loopw [9] (fun v9 wr => ∃ k : Nat, Aside0 (k ≤ fieldN a1 a2) ∧ v9 = .int .i64 k ∧ Aside0 (wr.heap[g1]? = some (.cells (arrB (fillTo (fun k => bAt (bitsOf a0) (a1.toNat + k)) zB k)) 155 (0, 0))) ∧ Aside0 (wr.heap[g0]? = some (.cells (arrB (bitsOf a0)) 155 (0, 0))) ∧ Aside0 (Below w.heap.size w wr)) (fun v9 _ => 64 - (intOf v9).toNat)
 case atStart => exact ⟨0, ⟨Nat.zero_le _⟩, rfl, ⟨by rw [fillTo_zero]; exact A2.out⟩, A1, A3⟩
 case round =>
   clear A1 A2 A3
   obtain ⟨k, HK, rfl, C1, C2, C3⟩ := hrel
   have HL : Aside0 ((fillTo (fun k => bAt (bitsOf a0) (a1.toNat + k)) zB k).length = 64) := ⟨fillTo_length _ zB k (Nat.le_trans HK.out (fieldN_le _ _))⟩
   have hk0 : (0 : Int) ≤ (k : Int) := by omega
   by_cases hlt : k < fieldN a1 a2
   ·obtain ⟨h0, h1, h2, h3, h4⟩ := fieldN_in hlt
    obtain ⟨p, rfl⟩ := Int.eq_ofNat_of_zero_le h0
    have HLT := Aside0.mk hlt
    clear hlt
    have co : wr.cell? ⟨g1, k, none⟩ = some (.bool (bAt (fillTo (fun k => bAt (bitsOf a0) ((p : Int).toNat + k)) zB k) k)) := arrB_cell C1.out k (by rw [HL.out]; omega)
    have fo : wr.frozen? ⟨g1, k, none⟩ = false := blk_frozen C1.out k
    have cb : wr.cell? ⟨g0, p + k, none⟩ = some (.bool (bAt (bitsOf a0) (p + k))) := arrB_cell C2.out (p + k) (by rw [bitsOf_length]; omega)
    generalize bAt (fillTo (fun k => bAt (bitsOf a0) ((p : Int).toNat + k)) zB k) k = old at co
    go_wp2
    go_roundw
    case rel =>
      have hset := arrB_put C1.out k (bAt (bitsOf a0) (p + k))
      rw [show bAt (bitsOf a0) (p + k) = (fun k => bAt (bitsOf a0) ((p : Int).toNat + k)) k from rfl, fillTo_set _ zB k (by rw [zB_length]; omega)] at hset
      exact ⟨k + 1, ⟨HLT.out⟩, by go_num, ⟨hset⟩, ⟨blk_far C2.out (fun e => A4.out e) _⟩, ⟨C3.out.setCell hb1 _⟩⟩
    case measure => simp [intOf]; omega
   ·have hkn : k = fieldN a1 a2 := by have := HK.out; omega
    have HX := Aside0.mk (fieldN_out hkn)
    have HF : Aside0 (wordTo (fillTo (fun k => bAt (bitsOf a0) (a1.toNat + k)) zB k) 64 = wordTo (fillTo (fun k => bAt (bitsOf a0) (a1.toNat + k)) zB (fieldN a1 a2)) 64) := ⟨by rw [← hkn]⟩
    clear hlt HK hkn
    rcases HX.out with hx | hx | hx | ⟨hx0, hx1, hx⟩
    all_goals
      clear HX
      by_cases h64 : (k : Int) < 64
    all_goals (by_cases hw : (k : Int) < a2)
    all_goals (by_cases hp : 0 ≤ a1)
    all_goals first | (exfalso; omega; done) | skip
    all_goals
      go_wp2_with (first | ((with_reducible refine gate_dst (N := 43) rfl ?_); refine wpList_load_row rfl 155 _ rfl g1 rfl 155 _ (0, 0) _ C1.out Tryz.underlying155 rfl (by rw [arrB_size, HL.out]; exact peristyleref01_Of.size) ?_) | (go_at_call 116; refine (peristyleref01_Word.calls _ HL.out _).mono ?_; rintro e w9 ⟨rfl, HB9⟩))
      go_ret
      exact ⟨by rw [← HF.out]; rfl, below_step C3.out HB9⟩
theorem peristyleref01_Field.calls (a0 a1 a2 : Int) (r : Int) (w : World) (h : peristyleref01_Field.f a0 a1 a2 = some r) :
    Calls Tryz.prog 81 #[.int .i64 a0, .int .i64 a1, .int .i64 a2] w fun e w' => e = .returned (.int .i64 r) ∧ Below w.heap.size w w' := by
 obtain rfl := Option.some.inj h
 exact peristyleref01_Field.calls0 a0 a1 a2 w
/-! ### peristyleref02_Put: function 48 -/
def peristyleref02_Put.l0 : Nat → Int → List Int → Option (ByteArray)
 | 0, _, _ => none
 | k + 1, x3, x4 => (peristyleref01_Field.f x3 0 7).bind fun t568 => ((peristyleref01_Field.f x3 7 64).bind fun t569 => (if t569 = 0 then (if x4.length < 140737488355328 then (some (strOfNums (x4 ++ [(t568) % 256]))) else (none)) else (if x4.length < 140737488355328 then (peristyleref02_Put.l0 k t569 (x4 ++ [(wrap64 (128 + t568)) % 256])) else (none))))
def peristyleref02_Put.f (k : Nat) (a0 : Int) : Option (ByteArray) := (peristyleref01_Zig.f a0).bind fun t567 => (peristyleref02_Put.l0 k t567 ([] : List Int))
theorem peristyleref02_Put.l0_succ (k) (a0) (a1) : type_of% (@peristyleref02_Put.l0.eq_2 a0 a1 k) := peristyleref02_Put.l0.eq_2 a0 a1 k
set_option maxHeartbeats 8000000 in
set_option maxRecDepth 100000 in
theorem peristyleref02_Put.calls (k : Nat) (a0 : Int) (r : ByteArray) (w : World) (h : peristyleref02_Put.f k a0 = some r) :
  Calls Tryz.prog 48 #[.int .i64 a0] w fun e w' => e = .returned (.string r) ∧ Below w.heap.size w w' := by
 have HB := Aside0.mk (Below.refl w.heap.size w)
 have H := h
 clear h
 unfold peristyleref02_Put.f at H
 replace H := bd H
 obtain ⟨t567, A2, H⟩ := H
 have H' := Aside0.mk H
 clear H
 go_enter Tryz.func48, Tryz.ntmps48
 go_wp2_with (((with_reducible refine gate_callee (f := 80) rfl ?_); refine gL 7 Tryz.func80 #[.int .i64 a0] ?_; (with_reducible refine (peristyleref01_Zig.calls a0 t567 _ A2.out).mono ?_); rintro e w3 ⟨rfl, hb⟩; refine ⟨_, rfl, ?_⟩; replace HB := bsa HB hb; clear hb))
 go_loopg [3, 4] k (fun kq v3 v4 w' => ∃ (x3_1 : Int) (x4_1 : List Int), v3 = .int .i64 x3_1 ∧ Aside0 (peristyleref02_Put.l0 kq x3_1 x4_1 = some r) ∧ Aside0 (kq ≤ k) ∧ Aside0 (Kd.R (Kd.int .u8) 5 w' w.heap.size (fun _ => True) v4 x4_1) ∧ Aside0 (Below w.heap.size w w'))
 case atStart => exact ⟨(t567), (([] : List Int)), (by rfl), H', ⟨Nat.le_refl _⟩, ⟨nl⟩, ⟨bh HB.out⟩⟩
 case round =>
  clear H'
  obtain ⟨x3_1, x4_1, rfl, HA, HK1, HO_4, HB⟩ := hrel
  cases gk with
  | zero => exact absurd HA.out (by simp [peristyleref02_Put.l0])
  | succ k1 =>
   have H := HA.out
   clear HA
   simp only [peristyleref02_Put.l0] at H
   replace H := bd H
   obtain ⟨t568, A4, H⟩ := H
   replace H := bd H
   obtain ⟨t569, A5, H⟩ := H
   replace H := ife H
   rcases H with ⟨-, c6b0, c6b1, H⟩ | ⟨c6, c6b0, c6b1, H⟩
   ·replace H := ifn H
    obtain ⟨c7, -, H⟩ := H
    have LMc7 := Aside0.mk c7
    clear c7
    obtain ⟨y570, hy570⟩ : ∃ y_ : List Int, y_ = (x4_1 ++ [(t568) % 256]) := ⟨_, rfl⟩
    replace H : (some (strOfNums y570)) = some r := by (rw [hy570]; with_reducible exact H)
    have Ny570 := Aside0.mk hy570
    clear hy570
    obtain rfl := Option.some.inj H
    go_wp2_with (first | ((with_reducible refine gate_callee (f := 81) rfl ?_); refine gL 9 Tryz.func81 #[.int .i64 x3_1, .int .i64 0, .int .i64 7] ?_; (with_reducible refine (peristyleref01_Field.calls x3_1 0 7 t568 _ A4.out).mono ?_); rintro e w8 ⟨rfl, hb⟩; refine ⟨_, rfl, ?_⟩; replace HO_4 := rba HO_4 hb; replace HB := bsa HB hb; clear hb) | ((with_reducible refine gate_callee (f := 81) rfl ?_); refine gL 11 Tryz.func81 #[.int .i64 x3_1, .int .i64 7, .int .i64 64] ?_; (with_reducible refine (peristyleref01_Field.calls x3_1 7 64 t569 _ A5.out).mono ?_); rintro e w9 ⟨rfl, hb⟩; refine ⟨_, rfl, ?_⟩; replace HO_4 := rba HO_4 hb; replace HB := bsa HB hb; clear hb) | ((with_reducible refine gate_builtin (b := .append) (xs := #[.tmp 14, .tmp 17]) rfl ?_); at_builtin; refine Kd.R_append (Kd.int .u8) (w0 := w) w.heap.size rfl (.tmp 14) (.tmp 17) 85 5 (.int .u8 0) 1 rfl Tryz.underlying85 info5 rfl (by decide) (by omega) u4 x4_1 ((t568) % 256) [.int .u8 ((t568) % 256)] (fun _ => True) (fun _ => False) rfl rfl ?aP (fun _ hk => hk.elim) ?aF ?aO ?aB ?aS ?aL ?_; (case aP => exact rfl); (case aB => exact (bh HB.out)); (case aF => exact (fun _ _ => trivial)); (case aO => exact (rx HO_4.out)); (case aS => exact (below_size (bh HB.out))); (case aL => have := LMc7.out; omega); intro v571 w10 ho hb hg hat; rw [← Ny570.out] at ho; have n0_ := Aside0.mk (hb); have n1_ := Aside0.mk (ho); clear HB HO_4; have HB := n0_; have HO572 := n1_; clear n0_ n1_ ho hb hg hat; have hcv11 := own_string (P := Tryz.prog) Tryz.underlying85 Tryz.underlying5 Tryz.underlying9 (Kd.own_of_R HO572.out)))
    go_ret
    exact ⟨er, bh HB.out⟩
   ·replace H := ifn H
    obtain ⟨c12, -, H⟩ := H
    have LMc12 := Aside0.mk c12
    clear c12
    obtain ⟨y573, hy573⟩ : ∃ y_ : List Int, y_ = (x4_1 ++ [(wrap64 (128 + t568)) % 256]) := ⟨_, rfl⟩
    replace H : (peristyleref02_Put.l0 k1 t569 y573) = some r := by (rw [hy573]; with_reducible exact H)
    have Ny573 := Aside0.mk hy573
    clear hy573
    have H' := Aside0.mk H
    clear H
    go_wp2_with (first | ((with_reducible refine gate_callee (f := 81) rfl ?_); refine gL 9 Tryz.func81 #[.int .i64 x3_1, .int .i64 0, .int .i64 7] ?_; (with_reducible refine (peristyleref01_Field.calls x3_1 0 7 t568 _ A4.out).mono ?_); rintro e w13 ⟨rfl, hb⟩; refine ⟨_, rfl, ?_⟩; replace HO_4 := rba HO_4 hb; replace HB := bsa HB hb; clear hb) | ((with_reducible refine gate_callee (f := 81) rfl ?_); refine gL 11 Tryz.func81 #[.int .i64 x3_1, .int .i64 7, .int .i64 64] ?_; (with_reducible refine (peristyleref01_Field.calls x3_1 7 64 t569 _ A5.out).mono ?_); rintro e w14 ⟨rfl, hb⟩; refine ⟨_, rfl, ?_⟩; replace HO_4 := rba HO_4 hb; replace HB := bsa HB hb; clear hb) | ((with_reducible refine gate_builtin (b := .append) (xs := #[.tmp 20, .tmp 24]) rfl ?_); at_builtin; refine Kd.R_append (Kd.int .u8) (w0 := w) w.heap.size rfl (.tmp 20) (.tmp 24) 85 5 (.int .u8 0) 1 rfl Tryz.underlying85 info5 rfl (by decide) (by omega) u4 x4_1 ((wrap64 (128 + t568)) % 256) [.int .u8 ((wrap64 (128 + t568)) % 256)] (fun _ => True) (fun _ => False) rfl rfl ?aP (fun _ hk => hk.elim) ?aF ?aO ?aB ?aS ?aL ?_; (case aP => exact rfl); (case aB => exact (bh HB.out)); (case aF => exact (fun _ _ => trivial)); (case aO => exact (rx HO_4.out)); (case aS => exact (below_size (bh HB.out))); (case aL => have := LMc12.out; omega); intro v574 w15 ho hb hg hat; rw [← Ny573.out] at ho; have n0_ := Aside0.mk (hb); have n1_ := Aside0.mk (ho); clear HB HO_4; have HB := n0_; have HO575 := n1_; clear n0_ n1_ ho hb hg hat))
    go_roundg k1
    case measure => have := HK1.out; omega
    case rel => exact ⟨(t569), (y573), (by rfl), H', ⟨by have := HK1.out; omega⟩, ⟨by exact HO575.out⟩, ⟨bh HB.out⟩⟩
end Go.Proofs.YtdgphlkbmplbpaaGreat.Print
end
section
namespace Go.Proofs.YtdgphlkbmplbpaaGreat.Print
open Go.RowKit Go.Proofs.YtdgphlkbmplbpaaGreatW.PrintWords Go.Proofs.YtdgphlkbmplbpaaGreatW.PrintLast Go.Proofs.YtdgphlkbmplbpaaGreatW.PrintMore
attribute [local go_sem] max2_int min2_int max_two min_two max_three min_three max_four min_four   -- for this text's walks alone
set_option linter.unusedVariables false
set_option linter.unusedSimpArgs false
/-! ### peristyleref21_Put: function 24 -/
def peristyleref21_Put.l0 : Nat → List (S68) → ByteArray → Int → Int → Option (ByteArray × Int)
 | 0, _, _, _, _ => none
 | k + 1, x0, x4, x5, x6 => if x6 < (x0.length : Int) then (if 0 ≤ x6 then ((peristyleref02_Put.f k (wrap64 (((rd_T68 x0 x6).f0) - x5))).bind fun t579 => (if x4.size + t579.size ≤ 9223372036854775807 then ((peristyleref02_Put.f k ((rd_T68 x0 x6).f1)).bind fun t581 => (if (x4 ++ t579).size + t581.size ≤ 9223372036854775807 then (peristyleref21_Put.l0 k x0 ((x4 ++ t579) ++ t581) ((rd_T68 x0 x6).f0) (wrap64 (x6 + 1))) else (none))) else (none))) else (none)) else (some (x4, 0))
def peristyleref21_Put.f (k : Nat) (l0 : List (S68)) : Option (ByteArray × Int) := (peristyleref21_MayMarks.f k l0).bind fun t576 => (if t576 = true then ((peristyleref02_Put.f k (l0.length : Int)).bind fun t577 => (peristyleref21_Put.l0 k l0 t577 (-1) 0)) else (some ((⟨#[]⟩ : ByteArray), 1)))
theorem peristyleref21_Put.l0_succ (k) (a0) (a1) (a2) (a3) : type_of% (@peristyleref21_Put.l0.eq_2 a0 a1 a2 a3 k) := peristyleref21_Put.l0.eq_2 a0 a1 a2 a3 k
def peristyleref21_Put.T8 : Bool × List (List Nat × List Nat) := (true, [([], []), ([], []), ([], []), ([1, 2], [1, 2]), ([3], [3]), ([4], [4]), ([], []), ([5, 6], [5, 6]), ([7], [7]), ([0, 8], [0, 8]), ([], []), ([], []), ([10, 11], [10, 11]), ([12], [12]), ([13], [13]), ([14, 8], [14]), ([9, 15], [9, 15]), ([16, 15, 0, 1, 2, 3, 4, 5, 6, 7, 8, 9, 10, 11, 12, 13, 14, 15, 16], [0, 16])])
def peristyleref21_Put.B8 : List Nat := [0, 0, 0, 6, 14, 30, 0, 126, 254, 511, 0, 0, 3072, 7168, 15360, 32254, 65535, 131071]
theorem peristyleref21_Put.tab8 : rtab .any (opsOf Tryz.f24 8) = peristyleref21_Put.T8 := by kernel_rfl
theorem peristyleref21_Put.bits8 : waitsOk peristyleref21_Put.T8.2 peristyleref21_Put.B8 = true := by kernel_rfl
set_option maxHeartbeats 8000000 in
set_option maxRecDepth 100000 in
theorem peristyleref21_Put.calls (k : Nat) (A0 : Option Addr) (c0 : Nat) (l0 : List (S68)) (r1 : ByteArray) (r2 : Int) (w : World) (hr0 : Kd.C k68 w A0 l0.length l0) (hc0 : l0.length ≤ c0) (h : peristyleref21_Put.f k l0 = some (r1, r2)) :
  Calls Tryz.prog 24 #[.slice A0 l0.length c0] w fun e w' => e = .returned (.tuple #[.string r1, .int .i64 r2]) ∧ Below w.heap.size w w' := by
 have HR0 := Aside0.mk hr0
 have HC0 := Aside0.mk hc0
 clear hr0 hc0
 have HB := Aside0.mk (Below.refl w.heap.size w)
 have H := h
 clear h
 unfold peristyleref21_Put.f at H
 replace H := bd H
 obtain ⟨t576, A2, H⟩ := H
 replace H := ifb H
 rcases H with ⟨rfl, H⟩ | ⟨rfl, H⟩
 ·replace H := bd H
  obtain ⟨t577, A4, H⟩ := H
  have H' := Aside0.mk H
  clear H
  go_enter Tryz.func24, Tryz.ntmps24
  go_wp2_with (first | ((with_reducible refine gate_callee (f := 38) rfl ?_); refine gL 8 Tryz.func38 #[.slice A0 l0.length c0] ?_; (with_reducible refine (peristyleref21_MayMarks.calls k _ _ l0 true _ ?side1 ?side2 A2.out).mono ?_); (case side1 => exact cx HR0.out); (case side2 => exact HC0.out); rintro e w' ⟨rfl, ⟨nd, rfl⟩⟩; refine ⟨_, rfl, ?_⟩) | ((with_reducible refine gate_callee (f := 48) rfl ?_); refine gL 12 Tryz.func48 #[.int .i64 (l0.length : Int)] ?_; (with_reducible refine (peristyleref02_Put.calls k (l0.length : Int) t577 _ A4.out).mono ?_); rintro e w5 ⟨rfl, hb⟩; refine ⟨_, rfl, ?_⟩; replace HB := bsa HB hb; clear hb))
  go_loopg [4, 5, 6] k (fun kq v4 v5 v6 w' => ∃ (x4_1 : ByteArray) (x5_1 : Int) (x6_1 : Int), v4 = .string x4_1 ∧ v5 = .int .i64 x5_1 ∧ v6 = .int .i64 x6_1 ∧ Aside0 (peristyleref21_Put.l0 kq l0 x4_1 x5_1 x6_1 = some (r1, r2)) ∧ Aside0 (kq ≤ k) ∧ Aside0 (Below w.heap.size w w'))
  case atStart => exact ⟨(t577), ((-1)), (0), (by rfl), (by rfl), (by rfl), H', ⟨Nat.le_refl _⟩, ⟨bh HB.out⟩⟩
  case round =>
   clear H'
   obtain ⟨x4_1, x5_1, x6_1, rfl, rfl, rfl, HA, HK1, HB⟩ := hrel
   cases gk with
   | zero => exact absurd HA.out (by simp [peristyleref21_Put.l0])
   | succ k1 =>
    have H := HA.out
    clear HA
    simp only [peristyleref21_Put.l0] at H
    replace H := ifd H
    rcases H with ⟨-, c6b0, H⟩ | ⟨-, c6b0, H⟩
    ·replace H := ifn H
     obtain ⟨-, c7b0, H⟩ := H
     replace H := bd H
     obtain ⟨t579, A8, H⟩ := H
     replace H := ifn H
     obtain ⟨c9, -, H⟩ := H
     have c9b0 := eq_true c9
     have c9b1 : decide (x4_1.size + t579.size ≤ 9223372036854775807) = true := decide_eq_true c9
     have c9b2 : (9223372036854775807 < x4_1.size + t579.size) = False := eq_false (Nat.not_lt.2 c9)
     replace H := bd H
     obtain ⟨t581, A10, H⟩ := H
     replace H := ifn H
     obtain ⟨c11, -, H⟩ := H
     have c11b0 := eq_true c11
     have c11b1 : decide ((x4_1 ++ t579).size + t581.size ≤ 9223372036854775807) = true := decide_eq_true c11
     ((have c11b1s := c11b1; simp only [ByteArray.size_append] at c11b1s))
     have c11b2 : (9223372036854775807 < (x4_1 ++ t579).size + t581.size) = False := eq_false (Nat.not_lt.2 c11)
     ((have c11b2s := c11b2; simp only [ByteArray.size_append] at c11b2s))
     have H' := Aside0.mk H
     clear H
     go_wp2
     replace HB := Aside0.mk (below_drew1 HB.out)
     have p578 : 0 ≤ (x6_1 : Int) := ad
     have q578 : x6_1 < (l0.length : Int) := ad
     obtain ⟨ad578, e578, hx578_0, hx578_1⟩ := at_T68 HR0.out x6_1 p578 q578
     have hw578_1 := hx578_1
     have hw578_0 := hx578_0
     cases e578
     replace hx578_0 := cb HB.out.cell hx578_0
     replace hx578_1 := cb HB.out.cell hx578_1
     replace p578 := eq_true p578
     replace q578 := eq_true q578
     have p580 : 0 ≤ (x6_1 : Int) := ad
     have q580 : x6_1 < (l0.length : Int) := ad
     obtain ⟨ad580, e580, hx580_0, hx580_1⟩ := at_T68 HR0.out x6_1 p580 q580
     have hw580_1 := hx580_1
     have hw580_0 := hx580_0
     obtain rfl : ad578 = ad580 := (by injection e580)
     replace hx580_0 := cb HB.out.cell hx580_0
     replace hx580_1 := cb HB.out.cell hx580_1
     replace p580 := eq_true p580
     replace q580 := eq_true q580
     refine start_ (n := 18) (S := fun w' => w'.cell? (ad578.add ((x6_1).toNat * 2)) = some (.int .i64 ((rd_T68 l0 x6_1).f0)) ∧ w'.cell? ⟨(ad578.add ((x6_1).toNat * 2)).block, (ad578.add ((x6_1).toNat * 2)).off + 1, none⟩ = some (.int .i64 ((rd_T68 l0 x6_1).f1)) ∧ w'.cell? (ad578.add ((x6_1).toNat * 2)) = some (.int .i64 ((rd_T68 l0 x6_1).f0)) ∧ w'.cell? ⟨(ad578.add ((x6_1).toNat * 2)).block, (ad578.add ((x6_1).toNat * 2)).off + 1, none⟩ = some (.int .i64 ((rd_T68 l0 x6_1).f1))) (ds := []) #[false, false, false, false, false, false, false, false, false, false, false, false, false, false, false, false, false, false] (by kernel_rfl) rfl rfl ⟨((HB.out.cell (World.block_lt_of_cell? w _ hw578_0)).trans hw578_0), ((HB.out.cell (World.block_lt_of_cell? w _ hw578_1)).trans hw578_1), ((HB.out.cell (World.block_lt_of_cell? w _ hw580_0)).trans hw580_0), ((HB.out.cell (World.block_lt_of_cell? w _ hw580_1)).trans hw580_1)⟩ (fun hHeld => ?_); refine with_tabW peristyleref21_Put.tab8 peristyleref21_Put.bits8 (fun HT_ HW_ => ?_)
     generalize wr.drew = w12 at HB hx578_0 hx578_1 hx580_0 hx580_1 hHeld ⊢
     refine puA HT_ 0 19 (bv 18 1) ?_
     refine puA HT_ 1 20 (bv 18 3) ?_
     refine puA HT_ 2 21 (bv 18 7) ?_
     refine puA HT_ 3 22 (bv 18 15) ?_
     refine puA HT_ 4 23 (bv 18 31) ?_
     refine puA HT_ 6 25 (bv 18 95) ?_
     refine puA HT_ 10 29 (bv 18 1119) ?_
     refine puA HT_ 11 30 (bv 18 3167) ?_
     refine puA HT_ 12 31 (bv 18 7263) ?_
     refine puA HT_ 13 32 (bv 18 15455) ?_
     refine taA HT_ HW_ hHeld 5 24 (bv 18 15487) ?_
     refine puA HT_ 7 26 (bv 18 15615) ?_
     refine taA HT_ HW_ hHeld 14 33 (bv 18 31999) ?_
     refine one_ (i := 8) (N := some 27) #[true, true, true, true, true, true, true, true, true, false, true, true, true, true, true, false, false, false] rfl rfl (one_of HT_.out (by kernel_rfl)) (by decide) (fun K hK => ?_)
     refine goes_ Tryz.func48 (by kernel_rfl) rfl #[.int .i64 (wrap64 (((rd_T68 l0 x6_1).f0) - x5_1))] (by rfl) rfl rfl (by (simp only [List.map_toArray, List.map_cons, List.map_nil]); rfl) ?_
     with_reducible refine (peristyleref02_Put.calls k1 (wrap64 (((rd_T68 l0 x6_1).f0) - x5_1)) t579 _ A8.out).mono ?_
     rintro e w13 ⟨rfl, hb⟩
     refine ⟨_, rfl, ?_⟩
     replace HB := bsa HB hb
     clear hb
     refine hK.out _ _ ⟨((HB.out.cell (World.block_lt_of_cell? w _ hw578_0)).trans hw578_0), ((HB.out.cell (World.block_lt_of_cell? w _ hw578_1)).trans hw578_1), ((HB.out.cell (World.block_lt_of_cell? w _ hw580_0)).trans hw580_0), ((HB.out.cell (World.block_lt_of_cell? w _ hw580_1)).trans hw580_1)⟩ (fun hHeld => ?_)
     clear hK K
     refine norm_ (a' := ?_) ?_ ?_
     rotate_left
     ·show Act.put _ (some 27) _ = _
      simp only [Act.put, List.setIfInBounds_toArray, List.set_cons_zero, List.set_cons_succ, i64_w, i32_w]
      rfl
     refine puA HT_ 9 28 (bv 18 32767) ?_
     refine one_ (i := 15) (N := some 34) #[true, true, true, true, true, true, true, true, true, true, true, true, true, true, true, true, false, false] rfl rfl (one_of HT_.out (by kernel_rfl)) (by decide) (fun K hK => ?_)
     refine goes_ Tryz.func48 (by kernel_rfl) rfl #[.int .i64 ((rd_T68 l0 x6_1).f1)] (by rfl) rfl rfl (by (simp only [List.map_toArray, List.map_cons, List.map_nil]); rfl) ?_
     with_reducible refine (peristyleref02_Put.calls k1 ((rd_T68 l0 x6_1).f1) t581 _ A10.out).mono ?_
     rintro e w14 ⟨rfl, hb⟩
     refine ⟨_, rfl, ?_⟩
     replace HB := bsa HB hb
     clear hb
     refine hK.out _ _ ⟨((HB.out.cell (World.block_lt_of_cell? w _ hw578_0)).trans hw578_0), ((HB.out.cell (World.block_lt_of_cell? w _ hw578_1)).trans hw578_1), ((HB.out.cell (World.block_lt_of_cell? w _ hw580_0)).trans hw580_0), ((HB.out.cell (World.block_lt_of_cell? w _ hw580_1)).trans hw580_1)⟩ (fun hHeld => ?_)
     clear hK K
     refine norm_ (a' := ?_) ?_ ?_
     rotate_left
     ·show Act.put _ (some 34) _ = _
      simp only [Act.put, List.setIfInBounds_toArray, List.set_cons_zero, List.set_cons_succ, i64_w, i32_w]
      rfl
     refine puA HT_ 16 35 (bv 18 131071) ?_
     refine puA HT_ 17 4 (bv 18 262143) ?_
     refine done_ (done_of HT_.out (by kernel_rfl)) ?_
     have p582 : 0 ≤ (x6_1 : Int) := ad
     have q582 : x6_1 < (l0.length : Int) := ad
     obtain ⟨ad582, e582, hx582_0, hx582_1⟩ := at_T68 HR0.out x6_1 p582 q582
     obtain rfl : ad578 = ad582 := (by injection e582)
     replace hx582_0 := cb HB.out.cell hx582_0
     replace hx582_1 := cb HB.out.cell hx582_1
     replace p582 := eq_true p582
     replace q582 := eq_true q582
     go_wp2
     go_roundg k1
     case measure => have := HK1.out; omega
     case rel => exact ⟨((x4_1 ++ t579) ++ t581), ((rd_T68 l0 x6_1).f0), (wrap64 (x6_1 + 1)), (by rfl), (by rfl), (by rfl), H', ⟨by have := HK1.out; omega⟩, ⟨bh HB.out⟩⟩
    ·simp only [Option.some.injEq, Prod.mk.injEq] at H
     obtain ⟨rfl, rfl⟩ := H
     go_wp2
     go_ret2
     exact ⟨er, bh HB.out⟩
 ·simp only [Option.some.injEq, Prod.mk.injEq] at H
  obtain ⟨rfl, rfl⟩ := H
  go_enter Tryz.func24, Tryz.ntmps24
  go_wp2_with (((with_reducible refine gate_callee (f := 38) rfl ?_); refine gL 8 Tryz.func38 #[.slice A0 l0.length c0] ?_; (with_reducible refine (peristyleref21_MayMarks.calls k _ _ l0 false _ ?side1 ?side2 A2.out).mono ?_); (case side1 => exact cx HR0.out); (case side2 => exact HC0.out); rintro e w' ⟨rfl, ⟨nd, rfl⟩⟩; refine ⟨_, rfl, ?_⟩))
  go_ret2
  exact ⟨er, bh HB.out⟩
/-! ### bits_Zag: function 82 -/
def bits_Zag.f (a0 : Int) : Option (Int) := some (wrap64 (Go.bits .xor .u64 ((IntKind.u64.wrap (a0)) / 2) (IntKind.u64.wrap (-(Go.bits .and .u64 (IntKind.u64.wrap (a0)) 1)))))
set_option maxHeartbeats 8000000 in
set_option maxRecDepth 100000 in
theorem bits_Zag.calls (a0 : Int) (r : Int) (w : World) (h : bits_Zag.f a0 = some r) :
  Calls Tryz.prog 82 #[.int .i64 a0] w fun e w' => e = .returned (.int .i64 r) ∧ Drawn0 w w' := by
 have H := h
 clear h
 unfold bits_Zag.f at H
 obtain rfl := Option.some.inj H
 go_enter Tryz.func82, Tryz.ntmps82
 go_wp2
 go_ret
 exact ⟨by rfl, by repeat (exact Drawn0.refl _)⟩
/-! ### vint_Len: function 83 -/
def vint_Len.f (k : Nat) (a0 : Int) : Option (Int) := (bits_Zig.f a0).bind fun t583 => ((bits_Width.f k t583).bind fun t584 => (some (mx 1 (wrap64 (Int.tdiv (wrap64 ((wrap64 (t584 + 7)) - 1)) 7)))))
set_option maxHeartbeats 8000000 in
set_option maxRecDepth 100000 in
theorem vint_Len.calls (k : Nat) (a0 : Int) (r : Int) (w : World) (h : vint_Len.f k a0 = some r) :
  Calls Tryz.prog 83 #[.int .i64 a0] w fun e w' => e = .returned (.int .i64 r) ∧ Below w.heap.size w w' := by
 have HB := Aside0.mk (Below.refl w.heap.size w)
 have H := h
 clear h
 unfold vint_Len.f at H
 replace H := bd H
 obtain ⟨t583, A2, H⟩ := H
 replace H := bd H
 obtain ⟨t584, A3, H⟩ := H
 obtain ⟨ji4, hji4⟩ : ∃ j_ : Int, (mx 1 (wrap64 (Int.tdiv (wrap64 ((wrap64 (t584 + 7)) - 1)) 7))) = j_ := ⟨_, rfl⟩
 replace H : (some ji4) = some r := by (rw [hji4] at H; exact H)
 ((have hji4l : 1 ≤ ji4 := by (rw [← hji4]; unfold mx; (repeat' split) <;> omega)))
 ((have hji4m : 0 ≤ ji4 := by omega))
 have hji4_ : (if 1 < (wrap64 (Int.tdiv (wrap64 ((wrap64 (t584 + 7)) - 1)) 7)) then (wrap64 (Int.tdiv (wrap64 ((wrap64 (t584 + 7)) - 1)) 7)) else 1) = ji4 := hji4
 obtain rfl := Option.some.inj H
 go_enter Tryz.func83, Tryz.ntmps83
 go_wp2_with (first | ((with_reducible refine gate_callee (f := 79) rfl ?_); refine gL 4 Tryz.func79 #[.int .i64 a0] ?_; (with_reducible refine (bits_Zig.calls a0 t583 _ A2.out).mono ?_); rintro e w' ⟨rfl, ⟨nd, rfl⟩⟩; refine ⟨_, rfl, ?_⟩) | ((with_reducible refine gate_callee (f := 117) rfl ?_); refine gL 5 Tryz.func117 #[.int .i64 t583] ?_; (with_reducible refine (bits_Width.calls k t583 t584 _ A3.out).mono ?_); rintro e w' ⟨rfl, ⟨nd, rfl⟩⟩; refine ⟨_, rfl, ?_⟩))
 go_ret
 exact ⟨by rfl, bh HB.out⟩
/-! ### vint_Take: function 49 -/
def vint_Take.l0 : Nat → ByteArray → Int → Int → Int → Option (Int × Int × Int)
 | 0, _, _, _, _ => none
 | k + 1, x0, x5, x11, x12 => if x12 < x11 then (if 0 ≤ x12 then (if x12 < (x0.size : Int) then (if 0 ≤ (wrap64 (7 * x12)) then (if (bt x0 x12) ≥ 128 then (vint_Take.l0 k x0 (Go.bits .or .u64 x5 (shl .u64 (IntKind.u64.wrap (Go.bits .andNot .u8 (bt x0 x12) 128)) (wrap64 (7 * x12)))) x11 (wrap64 (x12 + 1))) else ((bits_Zag.f (wrap64 (Go.bits .or .u64 x5 (shl .u64 (IntKind.u64.wrap (Go.bits .andNot .u8 (bt x0 x12) 128)) (wrap64 (7 * x12)))))).bind fun t585 => ((vint_Len.f k t585).bind fun t586 => (if t586 = (wrap64 (x12 + 1)) then (if x12 < 9 then (some (t585, wrap64 (x12 + 1), 0)) else (if (bt x0 x12) = 1 then (some (t585, wrap64 (x12 + 1), 0)) else (some (0, 0, 20)))) else (some (0, 0, 20)))))) else (none)) else (none)) else (none)) else (some (0, 0, 20))
def vint_Take.f (k : Nat) (a0 : ByteArray) : Option (Int × Int × Int) := vint_Take.l0 k a0 0 (mn (a0.size : Int) 10) 0
theorem vint_Take.l0_succ (k) (a0) (a1) (a2) (a3) : type_of% (@vint_Take.l0.eq_2 a0 a1 a2 a3 k) := vint_Take.l0.eq_2 a0 a1 a2 a3 k
set_option maxHeartbeats 8000000 in
set_option maxRecDepth 100000 in
theorem vint_Take.calls (k : Nat) (a0 : ByteArray) (r1 : Int) (r2 : Int) (r3 : Int) (w : World) (h : vint_Take.f k a0 = some (r1, r2, r3)) :
  Calls Tryz.prog 49 #[.string a0] w fun e w' => e = .returned (.tuple #[.int .i64 r1, .int .i64 r2, .int .i64 r3]) ∧ Below w.heap.size w w' := by
 have HB := Aside0.mk (Below.refl w.heap.size w)
 have H := h
 clear h
 unfold vint_Take.f at H
 obtain ⟨ji2, hji2⟩ : ∃ j_ : Int, (mn (a0.size : Int) 10) = j_ := ⟨_, rfl⟩
 replace H : (vint_Take.l0 k a0 0 ji2 0) = some (r1, r2, r3) := by (rw [hji2] at H; exact H)
 ((have hji2h : ji2 ≤ 10 := by (rw [← hji2]; unfold mn; (repeat' split) <;> omega)))
 ((have hji2g : ji2 ≤ 64 := by omega))
 ((have hji2l : 0 ≤ ji2 := by (rw [← hji2]; unfold mn; (repeat' split) <;> omega)))
 ((have hji2m : 0 ≤ ji2 := by omega))
 have hji2_ : (if 10 < (a0.size : Int) then 10 else (a0.size : Int)) = ji2 := hji2
 have H' := Aside0.mk H
 clear H
 go_enter Tryz.func49, Tryz.ntmps49
 go_wp2
 go_loopg [5, 12] k (fun kq v5 v12 w' => ∃ (x5_1 : Int) (x12_1 : Int), v5 = .int .u64 x5_1 ∧ v12 = .int .i64 x12_1 ∧ Aside0 (vint_Take.l0 kq a0 x5_1 ji2 x12_1 = some (r1, r2, r3)) ∧ Aside0 (kq ≤ k) ∧ Aside0 (Below w.heap.size w w'))
 case atStart => exact ⟨(0), (0), (by rfl), (by rfl), H', ⟨Nat.le_refl _⟩, ⟨bh HB.out⟩⟩
 case round =>
  clear H'
  obtain ⟨x5_1, x12_1, rfl, rfl, HA, HK1, HB⟩ := hrel
  cases gk with
  | zero => exact absurd HA.out (by simp [vint_Take.l0])
  | succ k1 =>
   have H := HA.out
   clear HA
   simp only [vint_Take.l0] at H
   replace H := ifd H
   rcases H with ⟨-, c3b0, H⟩ | ⟨-, c3b0, H⟩
   ·replace H := ifn H
    obtain ⟨-, c4b0, H⟩ := H
    replace H := ifn H
    obtain ⟨-, c5b0, H⟩ := H
    obtain ⟨ji7, hji7⟩ : ∃ j_ : Int, (wrap64 (7 * x12_1)) = j_ := ⟨_, rfl⟩
    replace H : (if 0 ≤ (ji7) then (if (bt a0 x12_1) ≥ 128 then (vint_Take.l0 k1 a0 (Go.bits .or .u64 x5_1 (shl .u64 (IntKind.u64.wrap (Go.bits .andNot .u8 (bt a0 x12_1) 128)) (ji7))) ji2 (wrap64 (x12_1 + 1))) else ((bits_Zag.f (wrap64 (Go.bits .or .u64 x5_1 (shl .u64 (IntKind.u64.wrap (Go.bits .andNot .u8 (bt a0 x12_1) 128)) (ji7))))).bind fun t585 => ((vint_Len.f k1 t585).bind fun t586 => (if t586 = (wrap64 (x12_1 + 1)) then (if x12_1 < 9 then (some (t585, wrap64 (x12_1 + 1), 0)) else (if (bt a0 x12_1) = 1 then (some (t585, wrap64 (x12_1 + 1), 0)) else (some (0, 0, 20)))) else (some (0, 0, 20)))))) else (none)) = some (r1, r2, r3) := by (rw [hji7] at H; exact H)
    have hji7w : (IntKind.i64.wrap (7 * x12_1)) = ji7 := (i64_w _).trans hji7
    replace H := ifn H
    obtain ⟨c8, -, H⟩ := H
    have c8b0 := eq_true c8
    have c8b1 : decide (0 ≤ (ji7)) = true := decide_eq_true c8
    clear c8
    obtain ⟨ji9, hji9⟩ : ∃ j_ : Int, (shl .u64 (IntKind.u64.wrap (Go.bits .andNot .u8 (bt a0 x12_1) 128)) (ji7)) = j_ := ⟨_, rfl⟩
    replace H : (if (bt a0 x12_1) ≥ 128 then (vint_Take.l0 k1 a0 (Go.bits .or .u64 x5_1 (ji9)) ji2 (wrap64 (x12_1 + 1))) else ((bits_Zag.f (wrap64 (Go.bits .or .u64 x5_1 (ji9)))).bind fun t585 => ((vint_Len.f k1 t585).bind fun t586 => (if t586 = (wrap64 (x12_1 + 1)) then (if x12_1 < 9 then (some (t585, wrap64 (x12_1 + 1), 0)) else (if (bt a0 x12_1) = 1 then (some (t585, wrap64 (x12_1 + 1), 0)) else (some (0, 0, 20)))) else (some (0, 0, 20)))))) = some (r1, r2, r3) := by (rw [hji9] at H; exact H)
    have hji9_ : (IntKind.u64.wrap ((IntKind.u64.wrap (Go.bits .andNot .u8 (bt a0 x12_1) 128)) * 2 ^ min (ji7).toNat 64)) = ji9 := hji9
    have hji9z : (ji7) ≤ 64 → (IntKind.u64.wrap ((IntKind.u64.wrap (Go.bits .andNot .u8 (bt a0 x12_1) 128)) * 2 ^ (ji7).toNat)) = ji9 := shl_small hji9
    replace H := ifd H
    rcases H with ⟨-, c10b0, H⟩ | ⟨-, c10b0, H⟩
    ·have H' := Aside0.mk H
     clear H
     have p6 : 0 ≤ (x12_1 : Int) := ad
     have q6 : x12_1 < (a0.size : Int) := ad
     have hx6 := bt_at a0 x12_1
     replace p6 := eq_true p6
     replace q6 := eq_true q6
     go_wp2
     go_roundg k1
     case measure => have := HK1.out; omega
     case rel => exact ⟨(Go.bits .or .u64 x5_1 (ji9)), (wrap64 (x12_1 + 1)), (by rfl), (by rfl), (by exact H'), ⟨by have := HK1.out; omega⟩, ⟨bh HB.out⟩⟩
    ·replace H := bd H
     obtain ⟨t585, A11, H⟩ := H
     replace H := bd H
     obtain ⟨t586, A12, H⟩ := H
     replace H := ife H
     rcases H with ⟨-, c13b0, c13b1, H⟩ | ⟨c13, c13b0, c13b1, H⟩
     ·replace H := ifd H
      rcases H with ⟨-, c14b0, H⟩ | ⟨-, c14b0, H⟩
      ·simp only [Option.some.injEq, Prod.mk.injEq] at H
       obtain ⟨rfl, rfl, rfl⟩ := H
       have p6 : 0 ≤ (x12_1 : Int) := ad
       have q6 : x12_1 < (a0.size : Int) := ad
       have hx6 := bt_at a0 x12_1
       replace p6 := eq_true p6
       replace q6 := eq_true q6
       go_wp2_with (first | ((with_reducible refine gate_callee (f := 82) rfl ?_); refine gL 30 Tryz.func82 #[.int .i64 (wrap64 (Go.bits .or .u64 x5_1 (ji9)))] ?_; (with_reducible refine (bits_Zag.calls (wrap64 (Go.bits .or .u64 x5_1 (ji9))) t585 _ A11.out).mono ?_); rintro e w' ⟨rfl, ⟨nd, rfl⟩⟩; refine ⟨_, rfl, ?_⟩) | ((with_reducible refine gate_callee (f := 83) rfl ?_); refine gL 32 Tryz.func83 #[.int .i64 t585] ?_; (with_reducible refine (vint_Len.calls k1 t585 t586 _ A12.out).mono ?_); rintro e w15 ⟨rfl, hb⟩; refine ⟨_, rfl, ?_⟩; replace HB := bsa HB hb; clear hb))
       go_ret3
       exact ⟨by rfl, bh HB.out⟩
      ·replace H := ife H
       rcases H with ⟨-, c16b0, c16b1, H⟩ | ⟨c16, c16b0, c16b1, H⟩
       ·simp only [Option.some.injEq, Prod.mk.injEq] at H
        obtain ⟨rfl, rfl, rfl⟩ := H
        have p6 : 0 ≤ (x12_1 : Int) := ad
        have q6 : x12_1 < (a0.size : Int) := ad
        have hx6 := bt_at a0 x12_1
        replace p6 := eq_true p6
        replace q6 := eq_true q6
        go_wp2_with (first | ((with_reducible refine gate_callee (f := 82) rfl ?_); refine gL 30 Tryz.func82 #[.int .i64 (wrap64 (Go.bits .or .u64 x5_1 (ji9)))] ?_; (with_reducible refine (bits_Zag.calls (wrap64 (Go.bits .or .u64 x5_1 (ji9))) t585 _ A11.out).mono ?_); rintro e w' ⟨rfl, ⟨nd, rfl⟩⟩; refine ⟨_, rfl, ?_⟩) | ((with_reducible refine gate_callee (f := 83) rfl ?_); refine gL 32 Tryz.func83 #[.int .i64 t585] ?_; (with_reducible refine (vint_Len.calls k1 t585 t586 _ A12.out).mono ?_); rintro e w17 ⟨rfl, hb⟩; refine ⟨_, rfl, ?_⟩; replace HB := bsa HB hb; clear hb))
        go_ret3
        exact ⟨by rfl, bh HB.out⟩
       ·simp only [Option.some.injEq, Prod.mk.injEq] at H
        obtain ⟨rfl, rfl, rfl⟩ := H
        have p6 : 0 ≤ (x12_1 : Int) := ad
        have q6 : x12_1 < (a0.size : Int) := ad
        have hx6 := bt_at a0 x12_1
        replace p6 := eq_true p6
        replace q6 := eq_true q6
        go_wp2_with (first | ((with_reducible refine gate_callee (f := 82) rfl ?_); refine gL 30 Tryz.func82 #[.int .i64 (wrap64 (Go.bits .or .u64 x5_1 (ji9)))] ?_; (with_reducible refine (bits_Zag.calls (wrap64 (Go.bits .or .u64 x5_1 (ji9))) t585 _ A11.out).mono ?_); rintro e w' ⟨rfl, ⟨nd, rfl⟩⟩; refine ⟨_, rfl, ?_⟩) | ((with_reducible refine gate_callee (f := 83) rfl ?_); refine gL 32 Tryz.func83 #[.int .i64 t585] ?_; (with_reducible refine (vint_Len.calls k1 t585 t586 _ A12.out).mono ?_); rintro e w18 ⟨rfl, hb⟩; refine ⟨_, rfl, ?_⟩; replace HB := bsa HB hb; clear hb))
        go_ret3
        exact ⟨by rfl, bh HB.out⟩
     ·simp only [Option.some.injEq, Prod.mk.injEq] at H
      obtain ⟨rfl, rfl, rfl⟩ := H
      have p6 : 0 ≤ (x12_1 : Int) := ad
      have q6 : x12_1 < (a0.size : Int) := ad
      have hx6 := bt_at a0 x12_1
      replace p6 := eq_true p6
      replace q6 := eq_true q6
      go_wp2_with (first | ((with_reducible refine gate_callee (f := 82) rfl ?_); refine gL 30 Tryz.func82 #[.int .i64 (wrap64 (Go.bits .or .u64 x5_1 (ji9)))] ?_; (with_reducible refine (bits_Zag.calls (wrap64 (Go.bits .or .u64 x5_1 (ji9))) t585 _ A11.out).mono ?_); rintro e w' ⟨rfl, ⟨nd, rfl⟩⟩; refine ⟨_, rfl, ?_⟩) | ((with_reducible refine gate_callee (f := 83) rfl ?_); refine gL 32 Tryz.func83 #[.int .i64 t585] ?_; (with_reducible refine (vint_Len.calls k1 t585 t586 _ A12.out).mono ?_); rintro e w19 ⟨rfl, hb⟩; refine ⟨_, rfl, ?_⟩; replace HB := bsa HB hb; clear hb))
      go_ret3
      exact ⟨by rfl, bh HB.out⟩
   ·simp only [Option.some.injEq, Prod.mk.injEq] at H
    obtain ⟨rfl, rfl, rfl⟩ := H
    go_wp2
    go_ret3
    exact ⟨by rfl, bh HB.out⟩
/-! ### peristyleref01_With: function 84 (a contract of the session's own) -/
def peristyleref01_With.f (a0 a1 a2 a3 : Int) : Option (Int) := some (wordTo (putTo (bitsOf a0) (bitsOf a3) a1.toNat (fieldN a1 a2)) 64)
set_option maxHeartbeats 1600000 in
theorem peristyleref01_With.calls0 (a0 a1 a2 a3 : Int) (w : World) :
    Calls Tryz.prog 84 #[.int .i64 a0, .int .i64 a1, .int .i64 a2, .int .i64 a3] w fun e w' => e = .returned (.int .i64 (wordTo (putTo (bitsOf a0) (bitsOf a3) a1.toNat (fieldN a1 a2)) 64)) ∧ Below w.heap.size w w' := by
 go_enter Tryz.func84, Tryz.ntmps84
 go_wp2_with fail
 refine (peristyleref01_Of.calls a0 _).mono ?_
 rintro e w1 ⟨rfl, HB1⟩
 go_wp2_with fail
 refine (peristyleref01_Of.calls a3 _).mono ?_
 rintro e w2 ⟨rfl, HB2a⟩
 have HB2 := below_step HB1 HB2a
 go_wp2_with (first | ((with_reducible refine gate_dst (N := 9) rfl ?_); refine arr_alloc (w0 := w) w.heap.size rfl 155 rfl _ 64 peristyleref01_Of.zero HB2 HB2.size ?_; intro g0 w3 hg0 hb0 hs0 HB3 hbs3 hgr3) | ((with_reducible refine gate_dst (N := 10) rfl ?_); refine arr_alloc (w0 := w) w.heap.size rfl 155 rfl _ 64 peristyleref01_Of.zero HB3 hbs3 ?_; intro g1 w4 hg1 hb1 hs1 HB4 hbs4 hgr4) | ((with_reducible refine gate_store (t := 155) (p := 9) rfl ?_); refine arr_store (w0 := w) w.heap.size rfl 155 _ _ rfl g0 _ _ rfl rfl (blk_grown hg0 hgr4 (by simp)) (by rw [arrB_size, bitsOf_length]; exact peristyleref01_Of.size) (by rw [arrB_size, arrB_size, bitsOf_length]; rfl) (arrB_one _) HB4 hb0 ?_; intro w5 hg5 HB5 hbs5 hgr5) | ((with_reducible refine gate_store (t := 155) (p := 10) rfl ?_); have hne : g0 ≠ g1 := (by have := blk_lt hg0; omega); have hg15 := blk_grown hg1 hgr5 (by simpa using hne.symm); refine arr_store (w0 := w) w.heap.size rfl 155 _ _ rfl g1 _ _ rfl rfl hg15 (by rw [arrB_size, bitsOf_length]; exact peristyleref01_Of.size) (by rw [arrB_size, arrB_size, bitsOf_length]; rfl) (arrB_one _) HB5 hb1 ?_; intro w6 hg6 HB6 hbs6 hgr6; have hg06 := blk_grown hg5 hgr6 (by simpa using hne)))
 have A1 := Aside0.mk hg06
 have A2 := Aside0.mk hg6
 have A3 := Aside0.mk HB6
 have A4 := Aside0.mk hne
 clear HB1 HB2a HB2 hg0 hs0 HB3 hbs3 hgr3 hg1 hs1 HB4 hbs4 hgr4 hg5 HB5 hbs5 hgr5 hg15 hg6 HB6 hbs6 hgr6 hg06 hne
 go_loopw [11] (fun v11 wr => ∃ k : Nat, Aside0 (k ≤ fieldN a1 a2) ∧ v11 = .int .i64 k ∧ Aside0 (wr.heap[g0]? = some (.cells (arrB (putTo (bitsOf a0) (bitsOf a3) a1.toNat k)) 155 (0, 0))) ∧ Aside0 (wr.heap[g1]? = some (.cells (arrB (bitsOf a3)) 155 (0, 0))) ∧ Aside0 (Below w.heap.size w wr)) (fun v11 _ => 64 - (intOf v11).toNat)
 case atStart => exact ⟨0, ⟨Nat.zero_le _⟩, rfl, A1, A2, A3⟩
 case round =>
   clear A1 A2 A3
   obtain ⟨k, HK, rfl, C1, C2, C3⟩ := hrel
   have HL : Aside0 ((putTo (bitsOf a0) (bitsOf a3) a1.toNat k).length = 64) := ⟨by rw [putTo_length, bitsOf_length]⟩
   have hk0 : (0 : Int) ≤ (k : Int) := by omega
   by_cases hlt : k < fieldN a1 a2
   ·obtain ⟨h0, h1, h2, h3, h4⟩ := fieldN_in hlt
    obtain ⟨p, rfl⟩ := Int.eq_ofNat_of_zero_le h0
    have HLT := Aside0.mk hlt
    clear hlt
    have co : wr.cell? ⟨g0, p + k, none⟩ = some (.bool (bAt (putTo (bitsOf a0) (bitsOf a3) (p : Int).toNat k) (p + k))) := arrB_cell C1.out (p + k) (by rw [HL.out]; omega)
    have fo : wr.frozen? ⟨g0, p + k, none⟩ = false := blk_frozen C1.out (p + k)
    have cb : wr.cell? ⟨g1, k, none⟩ = some (.bool (bAt (bitsOf a3) k)) := arrB_cell C2.out k (by rw [bitsOf_length]; omega)
    generalize bAt (putTo (bitsOf a0) (bitsOf a3) (p : Int).toNat k) (p + k) = old at co
    go_wp2
    go_roundw
    case rel => exact ⟨k + 1, ⟨HLT.out⟩, by go_num, ⟨arrB_put C1.out (p + k) (bAt (bitsOf a3) k)⟩, ⟨blk_far C2.out (fun e => A4.out e.symm) _⟩, ⟨C3.out.setCell hb0 _⟩⟩
    case measure => simp [intOf]; omega
   ·have hkn : k = fieldN a1 a2 := by have := HK.out; omega
    have HX := Aside0.mk (fieldN_out hkn)
    have HF : Aside0 (wordTo (putTo (bitsOf a0) (bitsOf a3) a1.toNat k) 64 = wordTo (putTo (bitsOf a0) (bitsOf a3) a1.toNat (fieldN a1 a2)) 64) := ⟨by rw [← hkn]⟩
    clear hlt HK hkn
    rcases HX.out with hx | hx | hx | ⟨hx0, hx1, hx⟩
    all_goals
      clear HX
      by_cases h64 : (k : Int) < 64
    all_goals (by_cases hw : (k : Int) < a2)
    all_goals (by_cases hp : 0 ≤ a1)
    all_goals first | (exfalso; omega; done) | skip
    all_goals
      go_wp2_with (first | ((with_reducible refine gate_dst (N := 46) rfl ?_); refine wpList_load_row rfl 155 _ rfl g0 rfl 155 _ (0, 0) _ C1.out Tryz.underlying155 rfl (by rw [arrB_size, HL.out]; exact peristyleref01_Of.size) ?_) | (go_at_call 116; refine (peristyleref01_Word.calls _ HL.out _).mono ?_; rintro e w9 ⟨rfl, HB9⟩))
      go_ret
      exact ⟨by rw [← HF.out]; rfl, below_step C3.out HB9⟩
theorem peristyleref01_With.calls (a0 a1 a2 a3 : Int) (r : Int) (w : World) (h : peristyleref01_With.f a0 a1 a2 a3 = some r) :
    Calls Tryz.prog 84 #[.int .i64 a0, .int .i64 a1, .int .i64 a2, .int .i64 a3] w fun e w' => e = .returned (.int .i64 r) ∧ Below w.heap.size w w' := by
 obtain rfl := Option.some.inj h
 exact peristyleref01_With.calls0 a0 a1 a2 a3 w
/-! ### peristyleref01_Zag: function 85 (a contract of the session's own) -/
def zagAt (l : List Bool) (k : Nat) : Bool := bAt l (k + 1) != bAt l 0
def peristyleref01_Zag.f (a0 : Int) : Option (Int) := some (wordTo ((fillTo (zagAt (bitsOf a0)) zB 63).set 63 (bAt (bitsOf a0) 0)) 64)
set_option maxHeartbeats 1600000 in
theorem peristyleref01_Zag.calls0 (a0 : Int) (w : World) :
    Calls Tryz.prog 85 #[.int .i64 a0] w fun e w' => e = .returned (.int .i64 (wordTo ((fillTo (zagAt (bitsOf a0)) zB 63).set 63 (bAt (bitsOf a0) 0)) 64)) ∧ Below w.heap.size w w' := by
 go_enter Tryz.func85, Tryz.ntmps85
 go_wp2_with (first | (go_at_call 115; refine (peristyleref01_Of.calls a0 _).mono ?_; rintro e w1 ⟨rfl, HB1⟩) | ((with_reducible refine gate_dst (N := 3) rfl ?_); refine arr_alloc (w0 := w) w.heap.size rfl 155 rfl _ 64 peristyleref01_Of.zero HB1 HB1.size ?_; intro g0 w2 hg0 hb0 hs0 HB2 hbs2 hgr2) | ((with_reducible refine gate_store (t := 155) (p := 3) rfl ?_); refine arr_store (w0 := w) w.heap.size rfl 155 _ _ rfl g0 _ _ rfl rfl hg0 (by rw [arrB_size, bitsOf_length]; exact peristyleref01_Of.size) (by rw [arrB_size, arrB_size, bitsOf_length]; rfl) (arrB_one _) HB2 hb0 ?_; intro w3 hg3 HB3 hbs3 hgr3) | ((with_reducible refine gate_dst (N := 8) rfl ?_); refine arr_build rfl 155 rfl _ 64 4 64 peristyleref01_Of.zero Tryz.underlying155 peristyleref01_Of.elem ?_) | ((with_reducible refine gate_dst (N := 4) rfl ?_); refine arr_alloc (w0 := w) w.heap.size rfl 155 rfl _ 64 peristyleref01_Of.zero HB3 hbs3 ?_; intro g1 w4 hg1 hb1 hs1 HB4 hbs4 hgr4) | ((with_reducible refine gate_store (t := 155) (p := 4) rfl ?_); refine arr_store (w0 := w) w.heap.size rfl 155 _ _ rfl g1 _ _ rfl rfl hg1 peristyleref01_Of.size rfl (arrB_one _) HB4 hb1 ?_; intro w5 hg5 HB5 hbs5 hgr5))
 have hne : g0 ≠ g1 := by have := blk_lt hg3; omega
 have hg05 := blk_grown (blk_grown hg3 hgr4 (by simp)) hgr5 (by simpa using hne)
 have A1 := Aside0.mk hg05
 have A2 := Aside0.mk hg5
 have A3 := Aside0.mk HB5
 have A4 := Aside0.mk hne
 clear hg0 hs0 HB1 HB2 hbs2 hgr2 hg3 HB3 hbs3 hgr3 hg1 hs1 HB4 hbs4 hgr4 hg5 HB5 hbs5 hgr5 hne hg05
 go_loopw [5] (fun v5 wr => ∃ k : Nat, k ≤ 63 ∧ v5 = .int .i64 k ∧ Aside0 (wr.heap[g1]? = some (.cells (arrB (fillTo (zagAt (bitsOf a0)) zB k)) 155 (0, 0))) ∧ Aside0 (wr.heap[g0]? = some (.cells (arrB (bitsOf a0)) 155 (0, 0))) ∧ Aside0 (Below w.heap.size w wr)) (fun v5 _ => 63 - (intOf v5).toNat)
 case atStart => exact ⟨0, by omega, rfl, ⟨by rw [fillTo_zero]; exact A2.out⟩, A1, A3⟩
 case round =>
   clear A1 A2 A3
   obtain ⟨k, hk, rfl, C1, C2, C3⟩ := hrel
   have HL : Aside0 ((fillTo (zagAt (bitsOf a0)) zB k).length = 64) := ⟨fillTo_length _ zB k (by rw [zB_length]; omega)⟩
   have cb0 : wr.cell? ⟨g0, 0, none⟩ = some (.bool (bAt (bitsOf a0) 0)) := arrB_cell C2.out 0 (by rw [bitsOf_length]; omega)
   by_cases hlt : k < 63
   ·have co : wr.cell? ⟨g1, k, none⟩ = some (.bool (bAt (fillTo (zagAt (bitsOf a0)) zB k) k)) := arrB_cell C1.out k (by rw [HL.out]; omega)
    have fo : wr.frozen? ⟨g1, k, none⟩ = false := blk_frozen C1.out k
    have cb : wr.cell? ⟨g0, k + 1, none⟩ = some (.bool (bAt (bitsOf a0) (k + 1))) := arrB_cell C2.out (k + 1) (by rw [bitsOf_length]; omega)
    generalize bAt (fillTo (zagAt (bitsOf a0)) zB k) k = old at co
    have hk0 : (0 : Int) ≤ (k : Int) := by omega
    have hk1 : (k : Int) < 63 := by omega
    clear hk hlt
    go_wp2
    go_region
    go_wp2
    go_roundw
    case rel =>
      have hset := arrB_put C1.out k (zagAt (bitsOf a0) k)
      rw [fillTo_set _ zB k (by rw [zB_length]; omega)] at hset
      have hz : zagAt (bitsOf a0) k = !(bAt (bitsOf a0) (k + 1) == bAt (bitsOf a0) 0) := by simp [zagAt, bne]
      rw [hz] at hset
      exact ⟨k + 1, by omega, by go_num, ⟨hset⟩, ⟨blk_far C2.out (fun e => A4.out e) _⟩, ⟨below_drew (C3.out.setCell hb1 _)⟩⟩
    case measure => simp [intOf]; omega
   ·have hk64 : ¬ (k : Int) < 63 := by omega
    obtain rfl : k = 63 := by omega
    clear hk64 hlt hk
    have co : wr.cell? ⟨g1, 63, none⟩ = some (.bool (bAt (fillTo (zagAt (bitsOf a0)) zB 63) 63)) := arrB_cell C1.out 63 (by rw [HL.out]; omega)
    have fo : wr.frozen? ⟨g1, 63, none⟩ = false := blk_frozen C1.out 63
    have D1 : Aside0 ((wr.setCell ⟨g1, 63, none⟩ (.bool (bAt (bitsOf a0) 0))).heap[g1]? = some (.cells (arrB ((fillTo (zagAt (bitsOf a0)) zB 63).set 63 (bAt (bitsOf a0) 0))) 155 (0, 0))) := ⟨arrB_put C1.out 63 _⟩
    have D3 : Aside0 (Below w.heap.size w (wr.setCell ⟨g1, 63, none⟩ (.bool (bAt (bitsOf a0) 0)))) := ⟨C3.out.setCell hb1 _⟩
    have HL2 : Aside0 (((fillTo (zagAt (bitsOf a0)) zB 63).set 63 (bAt (bitsOf a0) 0)).length = 64) := ⟨by rw [List.length_set]; exact HL.out⟩
    clear C1 C2 C3 HL
    go_wp2_with (first | ((with_reducible refine gate_dst (N := 25) rfl ?_); refine wpList_load_row rfl 155 _ rfl g1 rfl 155 _ (0, 0) _ D1.out Tryz.underlying155 rfl (by rw [arrB_size, HL2.out]; exact peristyleref01_Of.size) ?_) | (go_at_call 116; refine (peristyleref01_Word.calls _ HL2.out _).mono ?_; rintro e w9 ⟨rfl, HB9⟩))
    go_ret
    exact ⟨rfl, below_step D3.out HB9⟩
theorem peristyleref01_Zag.calls (a0 : Int) (r : Int) (w : World) (h : peristyleref01_Zag.f a0 = some r) :
    Calls Tryz.prog 85 #[.int .i64 a0] w fun e w' => e = .returned (.int .i64 r) ∧ Below w.heap.size w w' := by
 obtain rfl := Option.some.inj h
 exact peristyleref01_Zag.calls0 a0 w
end Go.Proofs.YtdgphlkbmplbpaaGreat.Print
end
