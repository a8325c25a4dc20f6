-- Functions and laws: texts of the session's own and of the kit's print program, joined; what nothing names is left out.
import Derived.Test.YtjgmdjieandemaaGreatJA
import Derived.Test.YtjgmdjieandemaaGreatJW
import Derived.Test.YtjgmdjieandemaaGreatJB
import Derived.Test.YtjgmdjieandemaaGreatJC
import Derived.Test.YtjgmdjieandemaaGreatJR
section
namespace Go.Proofs.YtjgmdjieandemaaGreat.Print
open Go.RowKit Go.Proofs.YtjgmdjieandemaaGreatW.PrintWords Go.Proofs.YtjgmdjieandemaaGreatW.PrintLast Go.Proofs.YtjgmdjieandemaaGreatW.PrintMore
attribute [local go_sem] max2_int min2_int max_two min_two max_three min_three max_four min_four   -- for this text's walks alone
set_option linter.unusedVariables false
set_option linter.unusedSimpArgs false

/-! ### poslist_List_together_fn56_fn57: function 55 -/
def poslist_List_together_fn56_fn57.j0 : Nat → Bool → Int → List (S64) → List Int → List Int → Int → List (S64) → List Int → List Int → Option (Int × (List (S64)) × List Int × List Int)
 | 0, _, _, _, _, _, _, _, _, _ => none
 | k + 1, x22, x321000, x321001, x321002, x321003, x322000, x322001, x322002, x322003 => if x22 = true then ((poslist_List_bits.f k x321000 x321001 x321002 x321003).bind fun t323 => ((poslist_List_bits.f k x322000 x322001 x322002 x322003).bind fun t326 => ((words_And.f k t323 t326).bind fun bt329 => ((words_Spans.f k bt329.1).bind fun bt333 => ((poslist_best.f k bt333.1).bind fun bt337 => (some (bt337.1, bt337.2.1, bt337.2.2.1, bt337.2.2.2))))))) else ((poslist_List_Spans.f k x321000 x321001 x321002 x321003).bind fun t347 => ((poslist_List_Spans.f k x322000 x322001 x322002 x322003).bind fun t350 => ((span_And.f k t347 t350).bind fun bt353 => ((poslist_best.f k bt353.1).bind fun bt357 => (some (bt357.1, bt357.2.1, bt357.2.2.1, bt357.2.2.2))))))
def poslist_List_together_fn56_fn57.f (k : Nat) (a0_0 : Int) (l0_1 : List (S64)) (l0_2 : List Int) (l0_3 : List Int) (a1_0 : Int) (l1_1 : List (S64)) (l1_2 : List Int) (l1_3 : List Int)   : Option (Int × (List (S64)) × List Int × List Int) := if a0_0 = 2 then (poslist_List_together_fn56_fn57.j0 k true a0_0 l0_1 l0_2 l0_3 a1_0 l1_1 l1_2 l1_3) else (poslist_List_together_fn56_fn57.j0 k (a1_0 == 2) a0_0 l0_1 l0_2 l0_3 a1_0 l1_1 l1_2 l1_3)
theorem poslist_List_together_fn56_fn57.j0_succ (k) (a0) (a1) (a2) (a3) (a4) (a5) (a6) (a7) (a8) : type_of% (@poslist_List_together_fn56_fn57.j0.eq_2 a0 a1 a2 a3 a4 a5 a6 a7 a8 k) := poslist_List_together_fn56_fn57.j0.eq_2 a0 a1 a2 a3 a4 a5 a6 a7 a8 k
theorem poslist_List_together_fn56_fn57.mono_l : ∀ k, (∀ y0 y1 y2 y3 y4 y5 y6 y7 y8, LeO (poslist_List_together_fn56_fn57.j0 k y0 y1 y2 y3 y4 y5 y6 y7 y8) (poslist_List_together_fn56_fn57.j0 (k + 1) y0 y1 y2 y3 y4 y5 y6 y7 y8))
 | 0 => fun _ _ _ _ _ _ _ _ _ r h => by simp [poslist_List_together_fn56_fn57.j0] at h
 | k + 1 => by
  have ih0 := poslist_List_together_fn56_fn57.mono_l k
  ·intro y0 y1 y2 y3 y4 y5 y6 y7 y8
   unfold poslist_List_together_fn56_fn57.j0
   repeat' first | (with_reducible exact poslist_List_Spans.mono _ _ _ _ _) | (with_reducible exact poslist_List_bits.mono _ _ _ _ _) | (with_reducible exact poslist_best.mono _ _) | (with_reducible exact span_And.mono _ _ _) | (with_reducible exact words_And.mono _ _ _) | (with_reducible exact words_Spans.mono _ _) | (with_reducible exact LeO.refl _) | (with_reducible refine LeO.ite ?_ ?_) | (with_reducible refine LeO.bind ?_ (fun _ => ?_))
theorem poslist_List_together_fn56_fn57.mono : ∀ a0 a1 a2 a3 a4 a5 a6 a7 k, LeO (poslist_List_together_fn56_fn57.f k a0 a1 a2 a3 a4 a5 a6 a7) (poslist_List_together_fn56_fn57.f (k + 1) a0 a1 a2 a3 a4 a5 a6 a7) := by
 intro a0 a1 a2 a3 a4 a5 a6 a7 k
 have ih0 := poslist_List_together_fn56_fn57.mono_l k
 unfold poslist_List_together_fn56_fn57.f
 repeat' first | (with_reducible exact ih0 _ _ _ _ _ _ _ _ _) | (with_reducible refine LeO.ite ?_ ?_)
def poslist_List_together_fn56_fn57.T2 : Bool × List (List Nat × List Nat) := (true, [([], []), ([], []), ([1], [1]), ([], []), ([3, 2], [3]), ([0, 2, 4, 4], [0, 2, 4]), ([5], [5]), ([6], [6]), ([6], [6]), ([7, 5, 0, 1, 2, 3, 4, 5, 6, 7], [7]), ([8, 9, 0, 1, 2, 3, 4, 5, 6, 7, 8, 9], [8])])
def poslist_List_together_fn56_fn57.B2 : List Nat := [0, 0, 2, 0, 14, 31, 63, 127, 127, 255, 1023]
theorem poslist_List_together_fn56_fn57.tab2 : rtab .any (opsOf Tryz.f55 2) = poslist_List_together_fn56_fn57.T2 := by kernel_rfl
theorem poslist_List_together_fn56_fn57.bits2 : waitsOk poslist_List_together_fn56_fn57.T2.2 poslist_List_together_fn56_fn57.B2 = true := by kernel_rfl
def poslist_List_together_fn56_fn57.T5 : Bool × List (List Nat × List Nat) := (true, [([], []), ([], []), ([1], [1]), ([], []), ([3, 2], [3]), ([0, 2, 4, 4], [0, 2, 4]), ([5], [5]), ([6], [6]), ([6], [6]), ([7, 5, 0, 1, 2, 3, 4, 5, 6, 7], [7]), ([8, 9, 0, 1, 2, 3, 4, 5, 6, 7, 8, 9], [8])])
def poslist_List_together_fn56_fn57.B5 : List Nat := [0, 0, 2, 0, 14, 31, 63, 127, 127, 255, 1023]
theorem poslist_List_together_fn56_fn57.tab5 : rtab .any (opsOf Tryz.f55 5) = poslist_List_together_fn56_fn57.T5 := by kernel_rfl
theorem poslist_List_together_fn56_fn57.bits5 : waitsOk poslist_List_together_fn56_fn57.T5.2 poslist_List_together_fn56_fn57.B5 = true := by kernel_rfl
set_option maxHeartbeats 8000000 in
set_option maxRecDepth 100000 in
theorem poslist_List_together_fn56_fn57.calls (k : Nat) (a0_0 : Int) (A0_1 : Option Addr) (c0_1 : Nat) (l0_1 : List (S64)) (A0_2 : Option Addr) (c0_2 : Nat) (l0_2 : List Int) (A0_3 : Option Addr) (c0_3 : Nat) (l0_3 : List Int) (a1_0 : Int) (A1_1 : Option Addr) (c1_1 : Nat) (l1_1 : List (S64)) (A1_2 : Option Addr) (c1_2 : Nat) (l1_2 : List Int) (A1_3 : Option Addr) (c1_3 : Nat) (l1_3 : List Int)   (r1 : Int) (r2 : List (S64)) (r3 : List Int) (r4 : List Int) (w : World) (hr0_1 : Kd.C k64 w A0_1 l0_1.length l0_1) (hc0_1 : l0_1.length ≤ c0_1) (hr0_2 : Kd.C (Kd.int .i64) w A0_2 l0_2.length l0_2) (hc0_2 : l0_2.length ≤ c0_2) (hr0_3 : Kd.C (Kd.int .i64) w A0_3 l0_3.length l0_3) (hc0_3 : l0_3.length ≤ c0_3) (hr1_1 : Kd.C k64 w A1_1 l1_1.length l1_1) (hc1_1 : l1_1.length ≤ c1_1) (hr1_2 : Kd.C (Kd.int .i64) w A1_2 l1_2.length l1_2) (hc1_2 : l1_2.length ≤ c1_2) (hr1_3 : Kd.C (Kd.int .i64) w A1_3 l1_3.length l1_3) (hc1_3 : l1_3.length ≤ c1_3) (h : poslist_List_together_fn56_fn57.f k a0_0 l0_1 l0_2 l0_3 a1_0 l1_1 l1_2 l1_3 = some (r1, r2, r3, r4)) :
  Calls Tryz.prog 55 #[.agg #[.int .i64 a0_0, .slice A0_1 l0_1.length c0_1, .slice A0_2 l0_2.length c0_2, .slice A0_3 l0_3.length c0_3], .agg #[.int .i64 a1_0, .slice A1_1 l1_1.length c1_1, .slice A1_2 l1_2.length c1_2, .slice A1_3 l1_3.length c1_3], .func (.func 56) #[] #[], .func (.func 57) #[] #[]] w fun e w' => ∃ v1_ v2_ v3_ : Value, e = .returned (.agg #[.int .i64 r1, v1_, v2_, v3_]) ∧ Kd.R k64 64 w' w.heap.size (fun _ => True) v1_ r2 ∧ Kd.R (Kd.int .i64) 3 w' w.heap.size (fun k_ => some k_ ≠ (v3_ : Value).ownBlock) v2_ r3 ∧ Kd.R (Kd.int .i64) 3 w' w.heap.size (fun k_ => some k_ ≠ (v2_ : Value).ownBlock) v3_ r4 ∧ Below w.heap.size w w' := by
 have hu27 := Tryz.underlying27
 have HR0_1 := Aside0.mk hr0_1
 have HC0_1 := Aside0.mk hc0_1
 clear hr0_1 hc0_1
 have HR0_2 := Aside0.mk hr0_2
 have HC0_2 := Aside0.mk hc0_2
 clear hr0_2 hc0_2
 have HR0_3 := Aside0.mk hr0_3
 have HC0_3 := Aside0.mk hc0_3
 clear hr0_3 hc0_3
 have HR1_1 := Aside0.mk hr1_1
 have HC1_1 := Aside0.mk hc1_1
 clear hr1_1 hc1_1
 have HR1_2 := Aside0.mk hr1_2
 have HC1_2 := Aside0.mk hc1_2
 clear hr1_2 hc1_2
 have HR1_3 := Aside0.mk hr1_3
 have HC1_3 := Aside0.mk hc1_3
 clear hr1_3 hc1_3
 have HB := Aside0.mk (Below.refl w.heap.size w)
 have H := h
 clear h
 unfold poslist_List_together_fn56_fn57.f at H
 have HC5 := Aside0.mk H
 clear H
 go_enter Tryz.func55, Tryz.ntmps55
 go_upto_region 1 with (first | ((with_reducible refine gate_dst (N := 4) rfl ?_); refine boxE HB 4 27 #[.int .i64 a0_0, .slice A0_1 l0_1.length c0_1, .slice A0_2 l0_2.length c0_2, .slice A0_3 l0_3.length c0_3] ?_; clear HB; intro gb320 w6 BK320 GW320 hg hb HB; have GE320 := GW320; clear hb hg) | ((with_reducible refine gate_dst (N := 5) rfl ?_); refine boxE HB 5 27 #[.int .i64 a1_0, .slice A1_1 l1_1.length c1_1, .slice A1_2 l1_2.length c1_2, .slice A1_3 l1_3.length c1_3] ?_; clear HB; intro gb321 w7 BK321 GW321 hg hb HB; have GE321 := GW321; have NB320_321 := bna BK320 hg; have NB321_320 := bma BK320 hg; replace BK320 := bba BK320 hb; clear hb hg) | ((with_reducible refine gate_dst (N := 8) rfl ?_); refine boxE HB 8 27 #[.int .i64 0, .slice none 0 0, .slice none 0 0, .slice none 0 0] ?_; clear HB; intro gb322 w8 BK322 GW322 hg hb HB; have GE322 := GW322; have NB320_322 := bna BK320 hg; have NB322_320 := bma BK320 hg; replace BK320 := bba BK320 hb; have NB321_322 := bna BK321 hg; have NB322_321 := bma BK321 hg; replace BK321 := bba BK321 hb; clear hb hg))
 (simp only [Act.put, List.setIfInBounds_toArray, List.set_cons_zero, List.set_cons_succ])
 go_cut [22] (fun v22 wc => ∃ (kq : Nat) (x22_4 : Bool), v22 = .bool x22_4 ∧ Aside0 (poslist_List_together_fn56_fn57.j0 kq x22_4 a0_0 l0_1 l0_2 l0_3 a1_0 l1_1 l1_2 l1_3 = some (r1, r2, r3, r4)) ∧ Aside0 (kq ≤ k) ∧ Aside0 (wc.heap[gb320]? = some (.cells #[.int .i64 a0_0, (.slice A0_1 l0_1.length c0_1), (.slice A0_2 l0_2.length c0_2), (.slice A0_3 l0_3.length c0_3)] 27 (0, 0))) ∧ Aside0 (wc.heap[gb321]? = some (.cells #[.int .i64 a1_0, (.slice A1_1 l1_1.length c1_1), (.slice A1_2 l1_2.length c1_2), (.slice A1_3 l1_3.length c1_3)] 27 (0, 0))) ∧ Aside0 (wc.heap[gb322]? = some (.cells #[.int .i64 0, (.slice none 0 0), (.slice none 0 0), (.slice none 0 0)] 27 (0, 0))) ∧ Aside0 (Below w.heap.size w wc))
 case first =>
  have H := HC5.out
  clear HC5
  replace H := ife H
  rcases H with ⟨-, c9b0, c9b1, H⟩ | ⟨c9, c9b0, c9b1, H⟩
  ·(skip)
   have H' := Aside0.mk H
   clear H
   have hnb10 := NB320_321.out
   have hnc10 := NB321_320.out
   have hnb11 := NB320_322.out
   have hnc11 := NB322_320.out
   obtain ⟨hcz12_0, hcz12_1, hcz12_2, hcz12_3, hfz12_0, hfz12_1, hfz12_2, hfz12_3⟩ := b4 BK320
   go_wp2
   go_meet
   case rel => exact ⟨_, (true), (by rfl), H', ⟨by omega⟩, ⟨bx BK320.out⟩, ⟨bx BK321.out⟩, ⟨bx BK322.out⟩, ⟨bh HB.out⟩⟩
  ·(skip)
   have H' := Aside0.mk H
   clear H
   have hnb13 := NB320_321.out
   have hnc13 := NB321_320.out
   have hnb14 := NB320_322.out
   have hnc14 := NB322_320.out
   obtain ⟨hcz15_0, hcz15_1, hcz15_2, hcz15_3, hfz15_0, hfz15_1, hfz15_2, hfz15_3⟩ := b4 BK320
   have hnb16 := NB321_322.out
   have hnc16 := NB322_321.out
   obtain ⟨hcz17_0, hcz17_1, hcz17_2, hcz17_3, hfz17_0, hfz17_1, hfz17_2, hfz17_3⟩ := b4 BK321
   go_wp2
   go_meet
   case rel => exact ⟨_, ((a1_0 == 2)), (by rfl), H', ⟨by omega⟩, ⟨bx BK320.out⟩, ⟨bx BK321.out⟩, ⟨bx BK322.out⟩, ⟨bh HB.out⟩⟩
 case rest =>
  clear HC5
  obtain ⟨kq, x22_4, rfl, HA, HJ4, BK320, BK321, BK322, HB⟩ := hcut
  cases kq with
  | zero => exact absurd HA.out (by simp [poslist_List_together_fn56_fn57.j0])
  | succ kj4 =>
   have H := HA.out
   clear HA
   simp only [poslist_List_together_fn56_fn57.j0] at H
   replace H := ifb H
   rcases H with ⟨rfl, H⟩ | ⟨rfl, H⟩
   ·replace H := bd H
    obtain ⟨t323, A19, H⟩ := H
    replace H := bd H
    obtain ⟨t326, A20, H⟩ := H
    replace H := bd H
    obtain ⟨⟨t329, t332⟩, A21, H⟩ := H
    dsimp only at H
    replace H := bd H
    obtain ⟨⟨t333, t334⟩, A22, H⟩ := H
    dsimp only at H
    replace H := bd H
    obtain ⟨⟨t337, t338, t341, t344⟩, A23, H⟩ := H
    dsimp only at H
    simp only [Option.some.injEq, Prod.mk.injEq] at H
    obtain ⟨rfl, rfl, rfl, rfl⟩ := H
    go_wp2
    replace BK320 := Aside0.mk (blk_drew BK320.out)
    replace BK321 := Aside0.mk (blk_drew BK321.out)
    replace BK322 := Aside0.mk (blk_drew BK322.out)
    replace HB := Aside0.mk (below_drew1 HB.out)
    refine start_ (n := 11) (S := fun w' => w'.cell? ⟨gb320, 0, none⟩ = some (.int .i64 a0_0) ∧ w'.cell? ⟨gb320, 1, none⟩ = some (.slice A0_1 l0_1.length c0_1) ∧ w'.cell? ⟨gb320, 2, none⟩ = some (.slice A0_2 l0_2.length c0_2) ∧ w'.cell? ⟨gb320, 3, none⟩ = some (.slice A0_3 l0_3.length c0_3) ∧ w'.cell? ⟨gb321, 0, none⟩ = some (.int .i64 a1_0) ∧ w'.cell? ⟨gb321, 1, none⟩ = some (.slice A1_1 l1_1.length c1_1) ∧ w'.cell? ⟨gb321, 2, none⟩ = some (.slice A1_2 l1_2.length c1_2) ∧ w'.cell? ⟨gb321, 3, none⟩ = some (.slice A1_3 l1_3.length c1_3)) (ds := []) #[false, false, false, false, false, false, false, false, false, false, false] (by kernel_rfl) rfl rfl ⟨(blk_cell BK320.out 0).trans rfl, (blk_cell BK320.out 1).trans rfl, (blk_cell BK320.out 2).trans rfl, (blk_cell BK320.out 3).trans rfl, (blk_cell BK321.out 0).trans rfl, (blk_cell BK321.out 1).trans rfl, (blk_cell BK321.out 2).trans rfl, (blk_cell BK321.out 3).trans rfl⟩ (fun hHeld => ?_); refine with_tabW poslist_List_together_fn56_fn57.tab2 poslist_List_together_fn56_fn57.bits2 (fun HT_ HW_ => ?_)
    generalize wc.drew = w24 at BK320 BK321 BK322 HB hHeld ⊢
    refine puA HT_ 0 24 (bv 11 1) ?_
    refine taA HT_ HW_ hHeld 1 25 (bv 11 3) ?_
    refine taA HT_ HW_ hHeld 3 27 (bv 11 11) ?_
    refine one_ (i := 2) (N := some 26) #[true, true, true, true, false, false, false, false, false, false, false] rfl rfl (one_of HT_.out (by kernel_rfl)) (by decide) (fun K hK => ?_)
    refine goes_ Tryz.func84 (by kernel_rfl) rfl #[.agg #[.int .i64 a0_0, .slice A0_1 l0_1.length c0_1, .slice A0_2 l0_2.length c0_2, .slice A0_3 l0_3.length c0_3]] (by rfl) rfl rfl (by (simp only [List.map_toArray, List.map_cons, List.map_nil]); rfl) ?_
    with_reducible refine (poslist_List_bits.calls kj4 a0_0 _ _ l0_1 (fun k_ => k_ < w.heap.size) _ _ l0_2 _ _ l0_3 t323 _ ?side1 ?side2 ?side3 ?side4 ?side5 A19.out).mono ?_
    (case side1 => exact cx (Kd.C_below HR0_1.out HB.out))
    (case side2 => exact HC0_1.out)
    (case side3 => exact Kd.V_mk HC0_2.out (Kd.F_below (Kd.C_F (Kd.heap_int .i64) HR0_2.out) (bh HB.out)))
    (case side4 => exact cx (Kd.C_below HR0_3.out HB.out))
    (case side5 => exact HC0_3.out)
    rintro e w25 ⟨v324, rfl, ho0, hb⟩
    refine ⟨_, rfl, ?_⟩
    have HO325 := Aside0.mk (Kd.V_lower (Kd.V_mono (ok' := fun k_ => k_ ≠ gb320 ∧ k_ ≠ gb321 ∧ k_ ≠ gb322) ho0 (fun k_ hk_ => ⟨Or.elim hk_ (fun hs_ => fun e_ => Nat.not_le.2 hs_ (by rw [e_]; exact GW320.out)) (fun hn_ => (Kd.freshB (g := gb320) (o := .cells #[.int .i64 a0_0, .slice A0_1 l0_1.length c0_1, .slice A0_2 l0_2.length c0_2, .slice A0_3 l0_3.length c0_3] 27 (0, 0)) (bx BK320.out) k_ hn_)), Or.elim hk_ (fun hs_ => fun e_ => Nat.not_le.2 hs_ (by rw [e_]; exact GW321.out)) (fun hn_ => (Kd.freshB (g := gb321) (o := .cells #[.int .i64 a1_0, .slice A1_1 l1_1.length c1_1, .slice A1_2 l1_2.length c1_2, .slice A1_3 l1_3.length c1_3] 27 (0, 0)) (bx BK321.out) k_ hn_)), Or.elim hk_ (fun hs_ => fun e_ => Nat.not_le.2 hs_ (by rw [e_]; exact GW322.out)) (fun hn_ => (Kd.freshB (g := gb322) (o := .cells #[.int .i64 0, .slice none 0 0, .slice none 0 0, .slice none 0 0] 27 (0, 0)) (bx BK322.out) k_ hn_))⟩)) (below_size (bh HB.out)))
    replace BK320 := bba BK320 hb
    replace BK321 := bba BK321 hb
    replace BK322 := bba BK322 hb
    replace HB := bsa HB hb
    clear hb ho0
    refine hK.out _ _ ⟨(blk_cell BK320.out 0).trans rfl, (blk_cell BK320.out 1).trans rfl, (blk_cell BK320.out 2).trans rfl, (blk_cell BK320.out 3).trans rfl, (blk_cell BK321.out 0).trans rfl, (blk_cell BK321.out 1).trans rfl, (blk_cell BK321.out 2).trans rfl, (blk_cell BK321.out 3).trans rfl⟩ (fun hHeld => ?_)
    clear hK K
    refine norm_ (a' := ?_) ?_ ?_
    rotate_left
    ·show Act.put _ (some 26) _ = _
     simp only [Act.put, List.setIfInBounds_toArray, List.set_cons_zero, List.set_cons_succ, i64_w, i32_w]
     rfl
    refine one_ (i := 4) (N := some 28) #[true, true, true, true, true, false, false, false, false, false, false] rfl rfl (one_of HT_.out (by kernel_rfl)) (by decide) (fun K hK => ?_)
    refine goes_ Tryz.func84 (by kernel_rfl) rfl #[.agg #[.int .i64 a1_0, .slice A1_1 l1_1.length c1_1, .slice A1_2 l1_2.length c1_2, .slice A1_3 l1_3.length c1_3]] (by rfl) rfl rfl (by (simp only [List.map_toArray, List.map_cons, List.map_nil]); rfl) ?_
    with_reducible refine (poslist_List_bits.calls kj4 a1_0 _ _ l1_1 (fun k_ => k_ < w.heap.size) _ _ l1_2 _ _ l1_3 t326 _ ?side1 ?side2 ?side3 ?side4 ?side5 A20.out).mono ?_
    (case side1 => exact cx (Kd.C_below HR1_1.out HB.out))
    (case side2 => exact HC1_1.out)
    (case side3 => exact Kd.V_mk HC1_2.out (Kd.F_below (Kd.C_F (Kd.heap_int .i64) HR1_2.out) (bh HB.out)))
    (case side4 => exact cx (Kd.C_below HR1_3.out HB.out))
    (case side5 => exact HC1_3.out)
    rintro e w26 ⟨v327, rfl, ho0, hb⟩
    refine ⟨_, rfl, ?_⟩
    replace HO325 := Aside0.mk (Kd.V_below (by exact HO325.out) hb)
    have HO328 := Aside0.mk (Kd.V_lower (Kd.V_mono (ok' := fun k_ => k_ ≠ gb320 ∧ k_ ≠ gb321 ∧ k_ ≠ gb322) ho0 (fun k_ hk_ => ⟨Or.elim hk_ (fun hs_ => fun e_ => Nat.not_le.2 hs_ (by rw [e_]; exact GW320.out)) (fun hn_ => (Kd.freshB (g := gb320) (o := .cells #[.int .i64 a0_0, .slice A0_1 l0_1.length c0_1, .slice A0_2 l0_2.length c0_2, .slice A0_3 l0_3.length c0_3] 27 (0, 0)) (bx BK320.out) k_ hn_)), Or.elim hk_ (fun hs_ => fun e_ => Nat.not_le.2 hs_ (by rw [e_]; exact GW321.out)) (fun hn_ => (Kd.freshB (g := gb321) (o := .cells #[.int .i64 a1_0, .slice A1_1 l1_1.length c1_1, .slice A1_2 l1_2.length c1_2, .slice A1_3 l1_3.length c1_3] 27 (0, 0)) (bx BK321.out) k_ hn_)), Or.elim hk_ (fun hs_ => fun e_ => Nat.not_le.2 hs_ (by rw [e_]; exact GW322.out)) (fun hn_ => (Kd.freshB (g := gb322) (o := .cells #[.int .i64 0, .slice none 0 0, .slice none 0 0, .slice none 0 0] 27 (0, 0)) (bx BK322.out) k_ hn_))⟩)) (below_size (bh HB.out)))
    replace BK320 := bba BK320 hb
    replace BK321 := bba BK321 hb
    replace BK322 := bba BK322 hb
    replace HB := bsa HB hb
    clear hb ho0
    obtain ⟨Ao27, co27, eo27⟩ := Kd.V_slice HO325.out
    (subst eo27)
    obtain ⟨Ao28, co28, eo28⟩ := Kd.V_slice HO328.out
    (subst eo28)
    refine hK.out _ _ ⟨(blk_cell BK320.out 0).trans rfl, (blk_cell BK320.out 1).trans rfl, (blk_cell BK320.out 2).trans rfl, (blk_cell BK320.out 3).trans rfl, (blk_cell BK321.out 0).trans rfl, (blk_cell BK321.out 1).trans rfl, (blk_cell BK321.out 2).trans rfl, (blk_cell BK321.out 3).trans rfl⟩ (fun hHeld => ?_)
    clear hK K
    refine norm_ (a' := ?_) ?_ ?_
    rotate_left
    ·show Act.put _ (some 28) _ = _
     simp only [Act.put, List.setIfInBounds_toArray, List.set_cons_zero, List.set_cons_succ, i64_w, i32_w]
     rfl
    refine one_ (i := 5) (N := some 29) #[true, true, true, true, true, true, false, false, false, false, false] rfl rfl (one_of HT_.out (by kernel_rfl)) (by decide) (fun K hK => ?_)
    (refine goesW_ Tryz.func56 (by kernel_rfl) rfl #[.slice Ao27 t323.length co27, .slice Ao28 t326.length co28] (by rfl) rfl rfl rfl (by (simp only [List.map_toArray, List.map_cons, List.map_nil]); rfl) ?_)
    with_reducible refine (words_And.calls kj4 _ _ t323 _ _ t326 t329 t332 _ ?side1 ?side2 ?side3 ?side4 A21.out).mono ?_
    (case side1 => exact cx (Kd.V_reads' HO325.out).2.2)
    (case side2 => exact (Kd.V_reads' HO325.out).2.1)
    (case side3 => exact cx (Kd.V_reads' HO328.out).2.2)
    (case side4 => exact (Kd.V_reads' HO328.out).2.1)
    rintro e w29 ⟨v330, rfl, ho0, hb⟩
    refine ⟨_, rfl, ?_⟩
    replace HO325 := Aside0.mk (Kd.V_below (by exact HO325.out) hb)
    replace HO328 := Aside0.mk (Kd.V_below (by exact HO328.out) hb)
    have HO331 := Aside0.mk (Kd.V_lower (Kd.V_mono (ok' := fun k_ => k_ ≠ gb320 ∧ k_ ≠ gb321 ∧ k_ ≠ gb322) ho0 (fun k_ hk_ => ⟨(Kd.freshB (g := gb320) (o := .cells #[.int .i64 a0_0, .slice A0_1 l0_1.length c0_1, .slice A0_2 l0_2.length c0_2, .slice A0_3 l0_3.length c0_3] 27 (0, 0)) (bx BK320.out) k_ hk_), (Kd.freshB (g := gb321) (o := .cells #[.int .i64 a1_0, .slice A1_1 l1_1.length c1_1, .slice A1_2 l1_2.length c1_2, .slice A1_3 l1_3.length c1_3] 27 (0, 0)) (bx BK321.out) k_ hk_), (Kd.freshB (g := gb322) (o := .cells #[.int .i64 0, .slice none 0 0, .slice none 0 0, .slice none 0 0] 27 (0, 0)) (bx BK322.out) k_ hk_)⟩)) (below_size (bh HB.out)))
    replace BK320 := bba BK320 hb
    replace BK321 := bba BK321 hb
    replace BK322 := bba BK322 hb
    replace HB := bsa HB hb
    clear hb ho0
    refine hK.out _ _ ⟨(blk_cell BK320.out 0).trans rfl, (blk_cell BK320.out 1).trans rfl, (blk_cell BK320.out 2).trans rfl, (blk_cell BK320.out 3).trans rfl, (blk_cell BK321.out 0).trans rfl, (blk_cell BK321.out 1).trans rfl, (blk_cell BK321.out 2).trans rfl, (blk_cell BK321.out 3).trans rfl⟩ (fun hHeld => ?_)
    clear hK K
    refine norm_ (a' := ?_) ?_ ?_
    rotate_left
    ·show Act.put _ (some 29) _ = _
     simp only [Act.put, List.setIfInBounds_toArray, List.set_cons_zero, List.set_cons_succ, i64_w, i32_w]
     rfl
    refine puA HT_ 6 23 (bv 11 127) ?_
    refine puA HT_ 7 30 (bv 11 255) ?_
    refine puA HT_ 8 31 (bv 11 511) ?_
    refine puA HT_ 9 9 (bv 11 1023) ?_
    refine puA HT_ 10 10 (bv 11 2047) ?_
    refine done_ (done_of HT_.out (by kernel_rfl)) ?_
    obtain ⟨Ao30, co30, eo30⟩ := Kd.V_slice HO331.out
    subst eo30
    go_wp2_with (first | ((with_reducible refine gate_callee (f := 53) rfl ?_); refine gL 34 Tryz.func53 #[.slice Ao30 t329.length co30] ?_; (with_reducible refine (words_Spans.calls kj4 _ _ t329 t333 t334 _ ?side1 ?side2 A22.out).mono ?_); (case side1 => exact cx (Kd.V_reads' HO331.out).2.2); (case side2 => exact (Kd.V_reads' HO331.out).2.1); rintro e w31 ⟨v335, rfl, ho0, hb⟩; refine ⟨_, rfl, ?_⟩; replace HO325 := Aside0.mk (Kd.V_elder' (by exact HO325.out) (Kd.R_base ho0) hb); replace HO328 := Aside0.mk (Kd.V_elder' (by exact HO328.out) (Kd.R_base ho0) hb); replace HO331 := Aside0.mk (Kd.V_elder' (by exact HO331.out) (Kd.R_base ho0) hb); have HO336 := Aside0.mk (Kd.R_lower ho0 (below_size (bh HB.out))); replace BK320 := bba BK320 hb; replace BK321 := bba BK321 hb; replace BK322 := bba BK322 hb; replace HB := bsa HB hb; clear hb ho0; obtain ⟨Ao32, co32, eo32⟩ := Kd.R_slice HO336.out; subst eo32) | ((with_reducible refine gate_callee (f := 64) rfl ?_); refine gL 38 Tryz.func64 #[.slice Ao32 t333.length co32] ?_; (with_reducible refine (poslist_best.calls kj4 _ _ t333 t337 t338 t341 t344 _ ?side1 ?side2 A23.out).mono ?_); (case side1 => exact cx (Kd.R_reads' HO336.out).2.2); (case side2 => exact (Kd.R_reads' HO336.out).2.1); rintro e w33 ⟨v339, v342, v345, rfl, ho0, ho1, ho2, hb⟩; refine ⟨_, rfl, ?_⟩; replace HO325 := Aside0.mk (Kd.V_mono (Kd.V_told (Kd.V_told (Kd.V_told (Kd.V_old (by exact HO325.out) hb) (Kd.R_base ho0)) (Kd.R_base ho1)) (Kd.R_base ho2)) (fun _ h_ => h_.1)); replace HO328 := Aside0.mk (Kd.V_mono (Kd.V_told (Kd.V_told (Kd.V_told (Kd.V_old (by exact HO328.out) hb) (Kd.R_base ho0)) (Kd.R_base ho1)) (Kd.R_base ho2)) (fun _ h_ => h_.1)); replace HO331 := Aside0.mk (Kd.V_mono (Kd.V_told (Kd.V_told (Kd.V_told (Kd.V_old (by exact HO331.out) hb) (Kd.R_base ho0)) (Kd.R_base ho1)) (Kd.R_base ho2)) (fun _ h_ => h_.1)); have HO340 := Aside0.mk (Kd.R_lower (Kd.R_new' ho0 (Kd.R_lt (rx HO336.out))) (below_size (bh HB.out))); replace HO336 := Aside0.mk (Kd.R_elder' (rx HO336.out) (Kd.R_base ho0) hb); have HO343 := Aside0.mk (Kd.R_lower ho1 (below_size (bh HB.out))); have HO346 := Aside0.mk (Kd.R_lower ho2 (below_size (bh HB.out))); replace BK320 := bba BK320 hb; replace BK321 := bba BK321 hb; replace BK322 := bba BK322 hb; replace HB := bsa HB hb; clear hb ho0 ho1 ho2; have hnb34 := NB322_320.out; have hnc34 := NB320_322.out; have hnb35 := NB322_321.out; have hnc35 := NB321_322.out; obtain ⟨hcz36_0, hcz36_1, hcz36_2, hcz36_3, hfz36_0, hfz36_1, hfz36_2, hfz36_3⟩ := b4 BK322; obtain ⟨Ao37, co37, eo37⟩ := Kd.R_slice HO340.out; subst eo37; obtain ⟨Ao38, co38, eo38⟩ := Kd.R_slice HO343.out; subst eo38; obtain ⟨Ao39, co39, eo39⟩ := Kd.R_slice HO346.out; subst eo39) | ((with_reducible refine gate_store (t := 27) (p := 8) rfl ?_); refine stE 27 8 ((((w33.setCell ⟨gb322, 0, none⟩ (.int .i64 t337)).setCell ⟨gb322, 1, none⟩ (.slice Ao37 t338.length co37)).setCell ⟨gb322, 2, none⟩ (.slice Ao38 t341.length co38)).setCell ⟨gb322, 3, none⟩ (.slice Ao39 t344.length co39)) ?_; intro w40 hw; have n0_ : Aside0 (Kd.V (Kd.int .i64) 3 w40 w.heap.size (fun k_ => some k_ ≠ (.slice Ao32 t333.length co32 : Value).ownBlock ∧ some k_ ≠ (.slice Ao37 t338.length co37 : Value).ownBlock ∧ some k_ ≠ (.slice Ao38 t341.length co38 : Value).ownBlock ∧ some k_ ≠ (.slice Ao39 t344.length co39 : Value).ownBlock ∧ k_ ≠ gb320 ∧ k_ ≠ gb321 ∧ k_ ≠ gb322) (.slice Ao27 t323.length co27) t323) := ⟨(by rw [hw]; exact (by exact Kd.V_mono (Kd.V_far (p := ⟨gb322, 3, none⟩) (Kd.V_far (p := ⟨gb322, 2, none⟩) (Kd.V_far (p := ⟨gb322, 1, none⟩) (Kd.V_far (p := ⟨gb322, 0, none⟩) (Kd.V_mono HO325.out (fun k_ hk => (⟨hk, hk.1.1.1.1.2.2⟩ : _ ∧ k_ ≠ gb322))) (fun _ hk => hk.2) (.int .i64 t337)) (fun _ hk => hk.2) (.slice Ao37 t338.length co37)) (fun _ hk => hk.2) (.slice Ao38 t341.length co38)) (fun _ hk => hk.2) (.slice Ao39 t344.length co39)) (fun _ hk => ⟨hk.1.1.1.1.2, ⟨hk.1.1.1.2, ⟨hk.1.1.2, ⟨hk.1.2, ⟨hk.1.1.1.1.1.1, ⟨hk.1.1.1.1.1.2.1, hk.1.1.1.1.1.2.2⟩⟩⟩⟩⟩⟩)))⟩; have n1_ : Aside0 (Kd.V (Kd.int .i64) 3 w40 w.heap.size (fun k_ => some k_ ≠ (.slice Ao32 t333.length co32 : Value).ownBlock ∧ some k_ ≠ (.slice Ao37 t338.length co37 : Value).ownBlock ∧ some k_ ≠ (.slice Ao38 t341.length co38 : Value).ownBlock ∧ some k_ ≠ (.slice Ao39 t344.length co39 : Value).ownBlock ∧ k_ ≠ gb320 ∧ k_ ≠ gb321 ∧ k_ ≠ gb322) (.slice Ao28 t326.length co28) t326) := ⟨(by rw [hw]; exact (by exact Kd.V_mono (Kd.V_far (p := ⟨gb322, 3, none⟩) (Kd.V_far (p := ⟨gb322, 2, none⟩) (Kd.V_far (p := ⟨gb322, 1, none⟩) (Kd.V_far (p := ⟨gb322, 0, none⟩) (Kd.V_mono HO328.out (fun k_ hk => (⟨hk, hk.1.1.1.1.2.2⟩ : _ ∧ k_ ≠ gb322))) (fun _ hk => hk.2) (.int .i64 t337)) (fun _ hk => hk.2) (.slice Ao37 t338.length co37)) (fun _ hk => hk.2) (.slice Ao38 t341.length co38)) (fun _ hk => hk.2) (.slice Ao39 t344.length co39)) (fun _ hk => ⟨hk.1.1.1.1.2, ⟨hk.1.1.1.2, ⟨hk.1.1.2, ⟨hk.1.2, ⟨hk.1.1.1.1.1.1, ⟨hk.1.1.1.1.1.2.1, hk.1.1.1.1.1.2.2⟩⟩⟩⟩⟩⟩)))⟩; have n2_ : Aside0 (Kd.V (Kd.int .i64) 3 w40 w.heap.size (fun k_ => some k_ ≠ (.slice Ao32 t333.length co32 : Value).ownBlock ∧ some k_ ≠ (.slice Ao37 t338.length co37 : Value).ownBlock ∧ some k_ ≠ (.slice Ao38 t341.length co38 : Value).ownBlock ∧ some k_ ≠ (.slice Ao39 t344.length co39 : Value).ownBlock ∧ k_ ≠ gb320 ∧ k_ ≠ gb321 ∧ k_ ≠ gb322) (.slice Ao30 t329.length co30) t329) := ⟨(by rw [hw]; exact (by exact Kd.V_mono (Kd.V_far (p := ⟨gb322, 3, none⟩) (Kd.V_far (p := ⟨gb322, 2, none⟩) (Kd.V_far (p := ⟨gb322, 1, none⟩) (Kd.V_far (p := ⟨gb322, 0, none⟩) (Kd.V_mono HO331.out (fun k_ hk => (⟨hk, hk.1.1.1.1.2.2⟩ : _ ∧ k_ ≠ gb322))) (fun _ hk => hk.2) (.int .i64 t337)) (fun _ hk => hk.2) (.slice Ao37 t338.length co37)) (fun _ hk => hk.2) (.slice Ao38 t341.length co38)) (fun _ hk => hk.2) (.slice Ao39 t344.length co39)) (fun _ hk => ⟨hk.1.1.1.1.2, ⟨hk.1.1.1.2, ⟨hk.1.1.2, ⟨hk.1.2, ⟨hk.1.1.1.1.1.1, ⟨hk.1.1.1.1.1.2.1, hk.1.1.1.1.1.2.2⟩⟩⟩⟩⟩⟩)))⟩; have n3_ := rsm (fun k_ => some k_ ≠ (.slice Ao37 t338.length co37 : Value).ownBlock) HO336 hw (fun _ hk => hk.2); have n4_ := rsm (fun k_ => some k_ ≠ (.slice Ao32 t333.length co32 : Value).ownBlock) HO340 hw (fun _ hk => hk.2); have n5_ := rst HO343 hw; have n6_ := rst HO346 hw; have n7_ : Aside0 (w40.heap[gb320]? = some (.cells #[.int .i64 a0_0, .slice A0_1 l0_1.length c0_1, .slice A0_2 l0_2.length c0_2, .slice A0_3 l0_3.length c0_3] 27 (0, 0))) := ⟨(by rw [hw]; exact (bx BK320.out))⟩; have n8_ : Aside0 (w40.heap[gb321]? = some (.cells #[.int .i64 a1_0, .slice A1_1 l1_1.length c1_1, .slice A1_2 l1_2.length c1_2, .slice A1_3 l1_3.length c1_3] 27 (0, 0))) := ⟨(by rw [hw]; exact (bx BK321.out))⟩; have n9_ := sps #[.int .i64 t337, .slice Ao37 t338.length co37, .slice Ao38 t341.length co38, .slice Ao39 t344.length co39] BK322 hw (.p (.p (.p (.p .nil)))); have n10_ := bhw HB hw; clear hw HO325 HO328 HO331 HO336 HO340 HO343 HO346 BK320 BK321 BK322 HB; have HO325 := n0_; have HO328 := n1_; have HO331 := n2_; have HO336 := n3_; have HO340 := n4_; have HO343 := n5_; have HO346 := n6_; have BK320 := n7_; have BK321 := n8_; have BK322 := n9_; have HB := n10_; clear n0_ n1_ n2_ n3_ n4_ n5_ n6_ n7_ n8_ n9_ n10_))
    refine bodyPost_ret (results_cell_row rfl _ _ gb322 27 #[.int .i64 t337, .slice Ao37 t338.length co37, .slice Ao38 t341.length co38, .slice Ao39 t344.length co39] (0, 0) _ rfl (bx BK322.out) Tryz.underlying27 rfl (by kernel_rfl)) rfl ?_
    exact ⟨_, _, _, er, by exact Kd.R_mono HO340.out (fun _ hk => trivial), by exact HO343.out, by exact HO346.out, bh HB.out⟩
   ·replace H := bd H
    obtain ⟨t347, A41, H⟩ := H
    replace H := bd H
    obtain ⟨t350, A42, H⟩ := H
    replace H := bd H
    obtain ⟨⟨t353, t354⟩, A43, H⟩ := H
    dsimp only at H
    replace H := bd H
    obtain ⟨⟨t357, t358, t361, t364⟩, A44, H⟩ := H
    dsimp only at H
    simp only [Option.some.injEq, Prod.mk.injEq] at H
    obtain ⟨rfl, rfl, rfl, rfl⟩ := H
    go_wp2
    replace BK320 := Aside0.mk (blk_drew BK320.out)
    replace BK321 := Aside0.mk (blk_drew BK321.out)
    replace BK322 := Aside0.mk (blk_drew BK322.out)
    replace HB := Aside0.mk (below_drew1 HB.out)
    refine start_ (n := 11) (S := fun w' => w'.cell? ⟨gb320, 0, none⟩ = some (.int .i64 a0_0) ∧ w'.cell? ⟨gb320, 1, none⟩ = some (.slice A0_1 l0_1.length c0_1) ∧ w'.cell? ⟨gb320, 2, none⟩ = some (.slice A0_2 l0_2.length c0_2) ∧ w'.cell? ⟨gb320, 3, none⟩ = some (.slice A0_3 l0_3.length c0_3) ∧ w'.cell? ⟨gb321, 0, none⟩ = some (.int .i64 a1_0) ∧ w'.cell? ⟨gb321, 1, none⟩ = some (.slice A1_1 l1_1.length c1_1) ∧ w'.cell? ⟨gb321, 2, none⟩ = some (.slice A1_2 l1_2.length c1_2) ∧ w'.cell? ⟨gb321, 3, none⟩ = some (.slice A1_3 l1_3.length c1_3)) (ds := []) #[false, false, false, false, false, false, false, false, false, false, false] (by kernel_rfl) rfl rfl ⟨(blk_cell BK320.out 0).trans rfl, (blk_cell BK320.out 1).trans rfl, (blk_cell BK320.out 2).trans rfl, (blk_cell BK320.out 3).trans rfl, (blk_cell BK321.out 0).trans rfl, (blk_cell BK321.out 1).trans rfl, (blk_cell BK321.out 2).trans rfl, (blk_cell BK321.out 3).trans rfl⟩ (fun hHeld => ?_); refine with_tabW poslist_List_together_fn56_fn57.tab5 poslist_List_together_fn56_fn57.bits5 (fun HT_ HW_ => ?_)
    generalize wc.drew = w45 at BK320 BK321 BK322 HB hHeld ⊢
    refine puA HT_ 0 40 (bv 11 1) ?_
    refine taA HT_ HW_ hHeld 1 41 (bv 11 3) ?_
    refine taA HT_ HW_ hHeld 3 43 (bv 11 11) ?_
    refine one_ (i := 2) (N := some 42) #[true, true, true, true, false, false, false, false, false, false, false] rfl rfl (one_of HT_.out (by kernel_rfl)) (by decide) (fun K hK => ?_)
    refine goes_ Tryz.func20 (by kernel_rfl) rfl #[.agg #[.int .i64 a0_0, .slice A0_1 l0_1.length c0_1, .slice A0_2 l0_2.length c0_2, .slice A0_3 l0_3.length c0_3]] (by rfl) rfl rfl (by (simp only [List.map_toArray, List.map_cons, List.map_nil]); rfl) ?_
    with_reducible refine (poslist_List_Spans.calls kj4 a0_0 _ _ l0_1 _ _ l0_2 _ _ l0_3 t347 _ ?side1 ?side2 ?side3 ?side4 ?side5 ?side6 A41.out).mono ?_
    (case side1 => exact cx (Kd.C_below HR0_1.out HB.out))
    (case side2 => exact HC0_1.out)
    (case side3 => exact cx (Kd.C_below HR0_2.out HB.out))
    (case side4 => exact HC0_2.out)
    (case side5 => exact cx (Kd.C_below HR0_3.out HB.out))
    (case side6 => exact HC0_3.out)
    rintro e w46 ⟨v348, rfl, ho0, hb⟩
    refine ⟨_, rfl, ?_⟩
    have HO349 := Aside0.mk (Kd.R_lower ho0 (below_size (bh HB.out)))
    replace BK320 := bba BK320 hb
    replace BK321 := bba BK321 hb
    replace BK322 := bba BK322 hb
    replace HB := bsa HB hb
    clear hb ho0
    refine hK.out _ _ ⟨(blk_cell BK320.out 0).trans rfl, (blk_cell BK320.out 1).trans rfl, (blk_cell BK320.out 2).trans rfl, (blk_cell BK320.out 3).trans rfl, (blk_cell BK321.out 0).trans rfl, (blk_cell BK321.out 1).trans rfl, (blk_cell BK321.out 2).trans rfl, (blk_cell BK321.out 3).trans rfl⟩ (fun hHeld => ?_)
    clear hK K
    refine norm_ (a' := ?_) ?_ ?_
    rotate_left
    ·show Act.put _ (some 42) _ = _
     simp only [Act.put, List.setIfInBounds_toArray, List.set_cons_zero, List.set_cons_succ, i64_w, i32_w]
     rfl
    refine one_ (i := 4) (N := some 44) #[true, true, true, true, true, false, false, false, false, false, false] rfl rfl (one_of HT_.out (by kernel_rfl)) (by decide) (fun K hK => ?_)
    refine goes_ Tryz.func20 (by kernel_rfl) rfl #[.agg #[.int .i64 a1_0, .slice A1_1 l1_1.length c1_1, .slice A1_2 l1_2.length c1_2, .slice A1_3 l1_3.length c1_3]] (by rfl) rfl rfl (by (simp only [List.map_toArray, List.map_cons, List.map_nil]); rfl) ?_
    with_reducible refine (poslist_List_Spans.calls kj4 a1_0 _ _ l1_1 _ _ l1_2 _ _ l1_3 t350 _ ?side1 ?side2 ?side3 ?side4 ?side5 ?side6 A42.out).mono ?_
    (case side1 => exact cx (Kd.C_below HR1_1.out HB.out))
    (case side2 => exact HC1_1.out)
    (case side3 => exact cx (Kd.C_below HR1_2.out HB.out))
    (case side4 => exact HC1_2.out)
    (case side5 => exact cx (Kd.C_below HR1_3.out HB.out))
    (case side6 => exact HC1_3.out)
    rintro e w47 ⟨v351, rfl, ho0, hb⟩
    refine ⟨_, rfl, ?_⟩
    have HO352 := Aside0.mk (Kd.R_lower (Kd.R_new' ho0 (Kd.R_lt (rx HO349.out))) (below_size (bh HB.out)))
    replace HO349 := Aside0.mk (Kd.R_elder' (rx HO349.out) (Kd.R_base ho0) hb)
    replace BK320 := bba BK320 hb
    replace BK321 := bba BK321 hb
    replace BK322 := bba BK322 hb
    replace HB := bsa HB hb
    clear hb ho0
    obtain ⟨Ao48, co48, eo48⟩ := Kd.R_slice HO349.out
    (subst eo48)
    obtain ⟨Ao49, co49, eo49⟩ := Kd.R_slice HO352.out
    (subst eo49)
    refine hK.out _ _ ⟨(blk_cell BK320.out 0).trans rfl, (blk_cell BK320.out 1).trans rfl, (blk_cell BK320.out 2).trans rfl, (blk_cell BK320.out 3).trans rfl, (blk_cell BK321.out 0).trans rfl, (blk_cell BK321.out 1).trans rfl, (blk_cell BK321.out 2).trans rfl, (blk_cell BK321.out 3).trans rfl⟩ (fun hHeld => ?_)
    clear hK K
    refine norm_ (a' := ?_) ?_ ?_
    rotate_left
    ·show Act.put _ (some 44) _ = _
     simp only [Act.put, List.setIfInBounds_toArray, List.set_cons_zero, List.set_cons_succ, i64_w, i32_w]
     rfl
    refine one_ (i := 5) (N := some 45) #[true, true, true, true, true, true, false, false, false, false, false] rfl rfl (one_of HT_.out (by kernel_rfl)) (by decide) (fun K hK => ?_)
    (refine goesW_ Tryz.func57 (by kernel_rfl) rfl #[.slice Ao48 t347.length co48, .slice Ao49 t350.length co49] (by rfl) rfl rfl rfl (by (simp only [List.map_toArray, List.map_cons, List.map_nil]); rfl) ?_)
    with_reducible refine (span_And.calls kj4 _ _ t347 _ _ t350 t353 t354 _ ?side1 ?side2 ?side3 ?side4 A43.out).mono ?_
    (case side1 => exact cx (Kd.R_reads' HO349.out).2.2)
    (case side2 => exact (Kd.R_reads' HO349.out).2.1)
    (case side3 => exact cx (Kd.R_reads' HO352.out).2.2)
    (case side4 => exact (Kd.R_reads' HO352.out).2.1)
    rintro e w50 ⟨v355, rfl, ho0, hb⟩
    refine ⟨_, rfl, ?_⟩
    have HO356 := Aside0.mk (Kd.R_lower (Kd.R_new' (Kd.R_new' ho0 (Kd.R_lt (rx HO349.out))) (Kd.R_lt (rx HO352.out))) (below_size (bh HB.out)))
    replace HO349 := Aside0.mk (Kd.R_elder' (rx HO349.out) (Kd.R_base ho0) hb)
    replace HO352 := Aside0.mk (Kd.R_elder' (rx HO352.out) (Kd.R_base ho0) hb)
    replace BK320 := bba BK320 hb
    replace BK321 := bba BK321 hb
    replace BK322 := bba BK322 hb
    replace HB := bsa HB hb
    clear hb ho0
    refine hK.out _ _ ⟨(blk_cell BK320.out 0).trans rfl, (blk_cell BK320.out 1).trans rfl, (blk_cell BK320.out 2).trans rfl, (blk_cell BK320.out 3).trans rfl, (blk_cell BK321.out 0).trans rfl, (blk_cell BK321.out 1).trans rfl, (blk_cell BK321.out 2).trans rfl, (blk_cell BK321.out 3).trans rfl⟩ (fun hHeld => ?_)
    clear hK K
    refine norm_ (a' := ?_) ?_ ?_
    rotate_left
    ·show Act.put _ (some 45) _ = _
     simp only [Act.put, List.setIfInBounds_toArray, List.set_cons_zero, List.set_cons_succ, i64_w, i32_w]
     rfl
    refine puA HT_ 6 39 (bv 11 127) ?_
    refine puA HT_ 7 46 (bv 11 255) ?_
    refine puA HT_ 8 47 (bv 11 511) ?_
    refine puA HT_ 9 13 (bv 11 1023) ?_
    refine puA HT_ 10 14 (bv 11 2047) ?_
    refine done_ (done_of HT_.out (by kernel_rfl)) ?_
    obtain ⟨Ao51, co51, eo51⟩ := Kd.R_slice HO356.out
    subst eo51
    go_wp2_with (first | ((with_reducible refine gate_callee (f := 64) rfl ?_); refine gL 49 Tryz.func64 #[.slice Ao51 t353.length co51] ?_; (with_reducible refine (poslist_best.calls kj4 _ _ t353 t357 t358 t361 t364 _ ?side1 ?side2 A44.out).mono ?_); (case side1 => exact cx (Kd.R_reads' HO356.out).2.2); (case side2 => exact (Kd.R_reads' HO356.out).2.1); rintro e w52 ⟨v359, v362, v365, rfl, ho0, ho1, ho2, hb⟩; refine ⟨_, rfl, ?_⟩; have HO360 := Aside0.mk (Kd.R_lower (Kd.R_new' (Kd.R_new' (Kd.R_new' ho0 (Kd.R_lt (rx HO349.out))) (Kd.R_lt (rx HO352.out))) (Kd.R_lt (rx HO356.out))) (below_size (bh HB.out))); replace HO349 := Aside0.mk (Kd.R_elder' (rx HO349.out) (Kd.R_base ho0) hb); replace HO352 := Aside0.mk (Kd.R_elder' (rx HO352.out) (Kd.R_base ho0) hb); replace HO356 := Aside0.mk (Kd.R_elder' (rx HO356.out) (Kd.R_base ho0) hb); have HO363 := Aside0.mk (Kd.R_lower ho1 (below_size (bh HB.out))); have HO366 := Aside0.mk (Kd.R_lower ho2 (below_size (bh HB.out))); replace BK320 := bba BK320 hb; replace BK321 := bba BK321 hb; replace BK322 := bba BK322 hb; replace HB := bsa HB hb; clear hb ho0 ho1 ho2; have hnb53 := NB322_320.out; have hnc53 := NB320_322.out; have hnb54 := NB322_321.out; have hnc54 := NB321_322.out; obtain ⟨hcz55_0, hcz55_1, hcz55_2, hcz55_3, hfz55_0, hfz55_1, hfz55_2, hfz55_3⟩ := b4 BK322; obtain ⟨Ao56, co56, eo56⟩ := Kd.R_slice HO360.out; subst eo56; obtain ⟨Ao57, co57, eo57⟩ := Kd.R_slice HO363.out; subst eo57; obtain ⟨Ao58, co58, eo58⟩ := Kd.R_slice HO366.out; subst eo58) | ((with_reducible refine gate_store (t := 27) (p := 8) rfl ?_); refine stE 27 8 ((((w52.setCell ⟨gb322, 0, none⟩ (.int .i64 t357)).setCell ⟨gb322, 1, none⟩ (.slice Ao56 t358.length co56)).setCell ⟨gb322, 2, none⟩ (.slice Ao57 t361.length co57)).setCell ⟨gb322, 3, none⟩ (.slice Ao58 t364.length co58)) ?_; intro w59 hw; have n0_ := rsm (fun k_ => some k_ ≠ (.slice Ao49 t350.length co49 : Value).ownBlock ∧ some k_ ≠ (.slice Ao51 t353.length co51 : Value).ownBlock ∧ some k_ ≠ (.slice Ao56 t358.length co56 : Value).ownBlock) HO349 hw (fun _ hk => ⟨hk.1.1.2, ⟨hk.1.2, hk.2⟩⟩); have n1_ := rsm (fun k_ => some k_ ≠ (.slice Ao48 t347.length co48 : Value).ownBlock ∧ some k_ ≠ (.slice Ao51 t353.length co51 : Value).ownBlock ∧ some k_ ≠ (.slice Ao56 t358.length co56 : Value).ownBlock) HO352 hw (fun _ hk => ⟨hk.1.1.2, ⟨hk.1.2, hk.2⟩⟩); have n2_ := rsm (fun k_ => some k_ ≠ (.slice Ao48 t347.length co48 : Value).ownBlock ∧ some k_ ≠ (.slice Ao49 t350.length co49 : Value).ownBlock ∧ some k_ ≠ (.slice Ao56 t358.length co56 : Value).ownBlock) HO356 hw (fun _ hk => ⟨hk.1.1.2, ⟨hk.1.2, hk.2⟩⟩); have n3_ := rsm (fun k_ => some k_ ≠ (.slice Ao48 t347.length co48 : Value).ownBlock ∧ some k_ ≠ (.slice Ao49 t350.length co49 : Value).ownBlock ∧ some k_ ≠ (.slice Ao51 t353.length co51 : Value).ownBlock) HO360 hw (fun _ hk => ⟨hk.1.1.2, ⟨hk.1.2, hk.2⟩⟩); have n4_ := rst HO363 hw; have n5_ := rst HO366 hw; have n6_ : Aside0 (w59.heap[gb320]? = some (.cells #[.int .i64 a0_0, .slice A0_1 l0_1.length c0_1, .slice A0_2 l0_2.length c0_2, .slice A0_3 l0_3.length c0_3] 27 (0, 0))) := ⟨(by rw [hw]; exact (bx BK320.out))⟩; have n7_ : Aside0 (w59.heap[gb321]? = some (.cells #[.int .i64 a1_0, .slice A1_1 l1_1.length c1_1, .slice A1_2 l1_2.length c1_2, .slice A1_3 l1_3.length c1_3] 27 (0, 0))) := ⟨(by rw [hw]; exact (bx BK321.out))⟩; have n8_ := sps #[.int .i64 t357, .slice Ao56 t358.length co56, .slice Ao57 t361.length co57, .slice Ao58 t364.length co58] BK322 hw (.p (.p (.p (.p .nil)))); have n9_ := bhw HB hw; clear hw HO349 HO352 HO356 HO360 HO363 HO366 BK320 BK321 BK322 HB; have HO349 := n0_; have HO352 := n1_; have HO356 := n2_; have HO360 := n3_; have HO363 := n4_; have HO366 := n5_; have BK320 := n6_; have BK321 := n7_; have BK322 := n8_; have HB := n9_; clear n0_ n1_ n2_ n3_ n4_ n5_ n6_ n7_ n8_ n9_))
    refine bodyPost_ret (results_cell_row rfl _ _ gb322 27 #[.int .i64 t357, .slice Ao56 t358.length co56, .slice Ao57 t361.length co57, .slice Ao58 t364.length co58] (0, 0) _ rfl (bx BK322.out) Tryz.underlying27 rfl (by kernel_rfl)) rfl ?_
    exact ⟨_, _, _, er, by exact Kd.R_mono HO360.out (fun _ hk => trivial), by exact HO363.out, by exact HO366.out, bh HB.out⟩

/-! ### poslist_List_And: function 22 (a contract of the session's own) -/
def poslist_List_And.f (k : Nat) (a0_0 : Int) (l0_1 : List (S64)) (l0_2 : List Int) (l0_3 : List Int) (a1_0 : Int) (l1_1 : List (S64)) (l1_2 : List Int) (l1_3 : List Int) : Option (Int × (List (S64)) × List Int × List Int) := if a0_0 = 3 then poslist_List_kept.f (fun x => poslist_List_Has.f k a1_0 l1_1 l1_2 l1_3 x) k a0_0 l0_1 l0_2 l0_3 else if a1_0 = 3 then poslist_List_kept.f (fun x => poslist_List_Has.f k a0_0 l0_1 l0_2 l0_3 x) k a1_0 l1_1 l1_2 l1_3 else poslist_List_together_fn56_fn57.f k a0_0 l0_1 l0_2 l0_3 a1_0 l1_1 l1_2 l1_3
theorem poslist_List_And.mono : ∀ a0 a1 a2 a3 a4 a5 a6 a7 k, LeO (poslist_List_And.f k a0 a1 a2 a3 a4 a5 a6 a7) (poslist_List_And.f (k + 1) a0 a1 a2 a3 a4 a5 a6 a7) := by
 intro a0 a1 a2 a3 a4 a5 a6 a7 k
 unfold poslist_List_And.f
 exact LeO.ite (poslist_List_kept.mono (fun x => poslist_List_Has.mono _ _ _ _ _ _) _ _ _ _ _) (LeO.ite (poslist_List_kept.mono (fun x => poslist_List_Has.mono _ _ _ _ _ _) _ _ _ _ _) (poslist_List_together_fn56_fn57.mono _ _ _ _ _ _ _ _ _))
set_option maxHeartbeats 8000000 in
set_option maxRecDepth 100000 in
theorem poslist_List_And.calls (k : Nat) (a0_0 : Int) (A0_1 : Option Addr) (c0_1 : Nat) (l0_1 : List (S64)) (A0_2 : Option Addr) (c0_2 : Nat) (l0_2 : List Int) (A0_3 : Option Addr) (c0_3 : Nat) (l0_3 : List Int) (a1_0 : Int) (A1_1 : Option Addr) (c1_1 : Nat) (l1_1 : List (S64)) (A1_2 : Option Addr) (c1_2 : Nat) (l1_2 : List Int) (A1_3 : Option Addr) (c1_3 : Nat) (l1_3 : List Int) (r1 : Int) (r2 : List (S64)) (r3 : List Int) (r4 : List Int) (w : World) (hr0_1 : Kd.C k64 w A0_1 l0_1.length l0_1) (hc0_1 : l0_1.length ≤ c0_1) (hr0_2 : Kd.C (Kd.int .i64) w A0_2 l0_2.length l0_2) (hc0_2 : l0_2.length ≤ c0_2) (hr0_3 : Kd.C (Kd.int .i64) w A0_3 l0_3.length l0_3) (hc0_3 : l0_3.length ≤ c0_3) (hr1_1 : Kd.C k64 w A1_1 l1_1.length l1_1) (hc1_1 : l1_1.length ≤ c1_1) (hr1_2 : Kd.C (Kd.int .i64) w A1_2 l1_2.length l1_2) (hc1_2 : l1_2.length ≤ c1_2) (hr1_3 : Kd.C (Kd.int .i64) w A1_3 l1_3.length l1_3) (hc1_3 : l1_3.length ≤ c1_3) (h : poslist_List_And.f k a0_0 l0_1 l0_2 l0_3 a1_0 l1_1 l1_2 l1_3 = some (r1, r2, r3, r4)) :
    Calls Tryz.prog 22 #[.agg #[.int .i64 a0_0, .slice A0_1 l0_1.length c0_1, .slice A0_2 l0_2.length c0_2, .slice A0_3 l0_3.length c0_3], .agg #[.int .i64 a1_0, .slice A1_1 l1_1.length c1_1, .slice A1_2 l1_2.length c1_2, .slice A1_3 l1_3.length c1_3]] w fun e w' => ∃ v1_ v2_ v3_ : Value, e = .returned (.agg #[.int .i64 r1, v1_, v2_, v3_]) ∧ Kd.R k64 64 w' w.heap.size (fun _ => True) v1_ r2 ∧ Kd.R (Kd.int .i64) 3 w' w.heap.size (fun k_ => some k_ ≠ (v3_ : Value).ownBlock) v2_ r3 ∧ Kd.R (Kd.int .i64) 3 w' w.heap.size (fun k_ => some k_ ≠ (v2_ : Value).ownBlock) v3_ r4 ∧ Below w.heap.size w w' := by
 have hmf : ∀ (fn : Fn) (first cap : Array Value) (w : World), (Instr.makeFunc fn first cap).run Tryz.prog w = .ok (.func fn first cap) w := fun _ _ _ _ => rfl
 have hu27 := Tryz.underlying27
 have HR0_1 := Aside0.mk hr0_1
 have HC0_1 := Aside0.mk hc0_1
 clear hr0_1 hc0_1
 have HR0_2 := Aside0.mk hr0_2
 have HC0_2 := Aside0.mk hc0_2
 clear hr0_2 hc0_2
 have HR0_3 := Aside0.mk hr0_3
 have HC0_3 := Aside0.mk hc0_3
 clear hr0_3 hc0_3
 have HR1_1 := Aside0.mk hr1_1
 have HC1_1 := Aside0.mk hc1_1
 clear hr1_1 hc1_1
 have HR1_2 := Aside0.mk hr1_2
 have HC1_2 := Aside0.mk hc1_2
 clear hr1_2 hc1_2
 have HR1_3 := Aside0.mk hr1_3
 have HC1_3 := Aside0.mk hc1_3
 clear hr1_3 hc1_3
 have HB := Aside0.mk (Below.refl w.heap.size w)
 have H := h
 clear h
 unfold poslist_List_And.f at H
 by_cases c2 : a0_0 = 3
 ·rw [if_pos c2] at H
  have c2b0 : (a0_0 == 3) = true := beq_iff_eq.mpr c2
  clear c2
  have H1 := Aside0.mk H
  clear H
  have HEN := Aside0.mk (show ∀ args W, (callFunc 34 args).run Tryz.prog W = .ok (.enter 34 args) W from enters_of Tryz.func34 (by kernel_rfl) rfl)
  go_enter Tryz.func22, Tryz.ntmps22
  go_wp2_with (first | ((with_reducible refine gate_dst (N := 2) rfl ?_); refine box_event ?hg (N := 2) ?hd (cs := #[.int .i64 a0_0, .slice A0_1 l0_1.length c0_1, .slice A0_2 l0_2.length c0_2, .slice A0_3 l0_3.length c0_3]) (t := 27) ?hr ?_; (case hd => rfl); (case hg => rfl); (case hr => (go_simp; done)); intro g2 hg w2 hbox hb; have n0_ := Aside0.mk (below_step HB.out hb); have n1_ := Aside0.mk (hbox); have n2_ := Aside0.mk ((by rw [hg]; exact below_size HB.out : w.heap.size ≤ g2)); clear HB; have HB := n0_; have BK2 := n1_; have GE2 := n2_; clear n0_ n1_ n2_ hb hbox hg) | ((with_reducible refine gate_dst (N := 3) rfl ?_); refine box_event ?hg (N := 3) ?hd (cs := #[.int .i64 a1_0, .slice A1_1 l1_1.length c1_1, .slice A1_2 l1_2.length c1_2, .slice A1_3 l1_3.length c1_3]) (t := 27) ?hr ?_; (case hd => rfl); (case hg => rfl); (case hr => (go_simp; done)); intro g3 hg w3 hbox hb; have n0_ := Aside0.mk (below_step HB.out hb); have n1_ := Aside0.mk (blk_below BK2.out hb); have n2_ := Aside0.mk (hbox); have n3_ := Aside0.mk ((by rw [hg]; exact below_size HB.out : w.heap.size ≤ g3)); have n4_ := Aside0.mk ((by rw [hg]; exact Nat.ne_of_lt (blk_lt BK2.out) : g2 ≠ g3)); have n5_ := Aside0.mk ((by rw [hg]; exact (Nat.ne_of_lt (blk_lt BK2.out)).symm : g3 ≠ g2)); clear HB BK2; have HB := n0_; have BK2 := n1_; have BK3 := n2_; have GE3 := n3_; have NB23 := n4_; have NB32 := n5_; clear n0_ n1_ n2_ n3_ n4_ n5_ hb hbox hg) | ((with_reducible refine gate_dst (N := 4) rfl ?_); refine box_event ?hg (N := 4) ?hd (cs := #[.int .i64 0, .slice none 0 0, .slice none 0 0, .slice none 0 0]) (t := 27) ?hr ?_; (case hd => rfl); (case hg => rfl); (case hr => (go_simp; done)); intro g4 hg w4 hbox hb; have n0_ := Aside0.mk (below_step HB.out hb); have n1_ := Aside0.mk (blk_below BK2.out hb); have n2_ := Aside0.mk (blk_below BK3.out hb); have n3_ := Aside0.mk (hbox); have n4_ := Aside0.mk ((by rw [hg]; exact below_size HB.out : w.heap.size ≤ g4)); have n5_ := Aside0.mk ((by rw [hg]; exact Nat.ne_of_lt (blk_lt BK2.out) : g2 ≠ g4)); have n6_ := Aside0.mk ((by rw [hg]; exact (Nat.ne_of_lt (blk_lt BK2.out)).symm : g4 ≠ g2)); have n7_ := Aside0.mk ((by rw [hg]; exact Nat.ne_of_lt (blk_lt BK3.out) : g3 ≠ g4)); have n8_ := Aside0.mk ((by rw [hg]; exact (Nat.ne_of_lt (blk_lt BK3.out)).symm : g4 ≠ g3)); clear HB BK2 BK3; have HB := n0_; have BK2 := n1_; have BK3 := n2_; have BK4 := n3_; have GE4 := n4_; have NB24 := n5_; have NB42 := n6_; have NB34 := n7_; have NB43 := n8_; clear n0_ n1_ n2_ n3_ n4_ n5_ n6_ n7_ n8_ hb hbox hg; obtain ⟨hc20, hc21, hc22, hc23, hf20, hf21, hf22, hf23⟩ := b4 BK2; obtain ⟨hc30, hc31, hc32, hc33, hf30, hf31, hf32, hf33⟩ := b4 BK3) | (go_at_call 54; (with_reducible refine (poslist_List_kept.calls 34 #[.agg #[.int .i64 a1_0, .slice A1_1 l1_1.length c1_1, .slice A1_2 l1_2.length c1_2, .slice A1_3 l1_3.length c1_3]] #[] (fun x => poslist_List_Has.f k a1_0 l1_1 l1_2 l1_3 x) k a0_0 A0_1 c0_1 l0_1 A0_2 c0_2 l0_2 A0_3 c0_3 l0_3 r1 r2 r3 r4 _ ?a1 ?b1 ?a2 ?b2 ?a3 ?b3 HEN.out ?his H1.out).mono ?_); (case a1 => exact (Kd.C_below HR0_1.out HB.out)); (case b1 => exact HC0_1.out); (case a2 => exact (Kd.C_below HR0_2.out HB.out)); (case b2 => exact HC0_2.out); (case a3 => exact (Kd.C_below HR0_3.out HB.out)); (case b3 => exact HC0_3.out); (case his => intro X at_ t_ hX hp; exact calls_of_args (by simp) (poslist_List_Has.calls k a1_0 A1_1 c1_1 l1_1 A1_2 c1_2 l1_2 A1_3 c1_3 l1_3 at_ t_ X (Kd.C_below (Kd.C_below HR1_1.out HB.out) hX) HC1_1.out (Kd.C_below (Kd.C_below HR1_2.out HB.out) hX) HC1_2.out (Kd.C_below (Kd.C_below HR1_3.out HB.out) hX) HC1_3.out hp)); have hlt4 := blk_lt BK4.out; have HB0 := HB; rintro e w6 ⟨v1, v2, v3, rfl, hv1, hv2, hv3, hb⟩; have n0_ := Aside0.mk (below_step HB.out hb); have n1_ := Aside0.mk (blk_below BK2.out hb); have n2_ := Aside0.mk (blk_below BK3.out hb); have n3_ := Aside0.mk (blk_below BK4.out hb); clear HB BK2 BK3 BK4; have HB := n0_; have BK2 := n1_; have BK3 := n2_; have BK4 := n3_; clear n0_ n1_ n2_ n3_ hb; obtain ⟨Av1, cv1, rfl⟩ := Kd.R_slice hv1; obtain ⟨Av2, cv2, rfl⟩ := Kd.R_slice hv2; obtain ⟨Av3, cv3, rfl⟩ := Kd.R_slice hv3; obtain ⟨hc40, hc41, hc42, hc43, hf40, hf41, hf42, hf43⟩ := b4 BK4))
  refine bodyPost_ret (results_cell_row rfl _ _ g4 27 #[.int .i64 r1, .slice Av1 r2.length cv1, .slice Av2 r3.length cv2, .slice Av3 r4.length cv3] (0, 0) _ rfl (by refine blk_put (cs := #[.int .i64 r1, .slice Av1 r2.length cv1, .slice Av2 r3.length cv2, .slice none 0 0]) ?_ 3 _ rfl; refine blk_put (cs := #[.int .i64 r1, .slice Av1 r2.length cv1, .slice none 0 0, .slice none 0 0]) ?_ 2 _ rfl; refine blk_put (cs := #[.int .i64 r1, .slice none 0 0, .slice none 0 0, .slice none 0 0]) ?_ 1 _ rfl; refine blk_put (cs := #[.int .i64 0, .slice none 0 0, .slice none 0 0, .slice none 0 0]) ?_ 0 _ rfl; exact BK4.out) Tryz.underlying27 rfl (by kernel_rfl)) rfl ?_
  have hw_ := below_size HB0.out
  exact ⟨_, _, _, rfl, Kd.R_lower (XR.R_far (XR.R_far (XR.R_far (XR.R_far hv1 hlt4) hlt4) hlt4) hlt4) hw_, Kd.R_lower (XR.R_far (XR.R_far (XR.R_far (XR.R_far hv2 hlt4) hlt4) hlt4) hlt4) hw_, Kd.R_lower (XR.R_far (XR.R_far (XR.R_far (XR.R_far hv3 hlt4) hlt4) hlt4) hlt4) hw_, bh HB.out⟩
 rw [if_neg c2] at H
 have c2b0 : (a0_0 == 3) = false := beq_eq_false_iff_ne.mpr c2
 clear c2
 replace H := ife H
 rcases H with ⟨-, c3b0, -, H⟩ | ⟨-, c3b0, -, H⟩
 ·have H1 := Aside0.mk H
  clear H
  have HEN := Aside0.mk (show ∀ args W, (callFunc 34 args).run Tryz.prog W = .ok (.enter 34 args) W from enters_of Tryz.func34 (by kernel_rfl) rfl)
  go_enter Tryz.func22, Tryz.ntmps22
  go_wp2_with (first | ((with_reducible refine gate_dst (N := 2) rfl ?_); refine box_event ?hg (N := 2) ?hd (cs := #[.int .i64 a0_0, .slice A0_1 l0_1.length c0_1, .slice A0_2 l0_2.length c0_2, .slice A0_3 l0_3.length c0_3]) (t := 27) ?hr ?_; (case hd => rfl); (case hg => rfl); (case hr => (go_simp; done)); intro g2 hg w2 hbox hb; have n0_ := Aside0.mk (below_step HB.out hb); have n1_ := Aside0.mk (hbox); have n2_ := Aside0.mk ((by rw [hg]; exact below_size HB.out : w.heap.size ≤ g2)); clear HB; have HB := n0_; have BK2 := n1_; have GE2 := n2_; clear n0_ n1_ n2_ hb hbox hg) | ((with_reducible refine gate_dst (N := 3) rfl ?_); refine box_event ?hg (N := 3) ?hd (cs := #[.int .i64 a1_0, .slice A1_1 l1_1.length c1_1, .slice A1_2 l1_2.length c1_2, .slice A1_3 l1_3.length c1_3]) (t := 27) ?hr ?_; (case hd => rfl); (case hg => rfl); (case hr => (go_simp; done)); intro g3 hg w3 hbox hb; have n0_ := Aside0.mk (below_step HB.out hb); have n1_ := Aside0.mk (blk_below BK2.out hb); have n2_ := Aside0.mk (hbox); have n3_ := Aside0.mk ((by rw [hg]; exact below_size HB.out : w.heap.size ≤ g3)); have n4_ := Aside0.mk ((by rw [hg]; exact Nat.ne_of_lt (blk_lt BK2.out) : g2 ≠ g3)); have n5_ := Aside0.mk ((by rw [hg]; exact (Nat.ne_of_lt (blk_lt BK2.out)).symm : g3 ≠ g2)); clear HB BK2; have HB := n0_; have BK2 := n1_; have BK3 := n2_; have GE3 := n3_; have NB23 := n4_; have NB32 := n5_; clear n0_ n1_ n2_ n3_ n4_ n5_ hb hbox hg) | ((with_reducible refine gate_dst (N := 4) rfl ?_); refine box_event ?hg (N := 4) ?hd (cs := #[.int .i64 0, .slice none 0 0, .slice none 0 0, .slice none 0 0]) (t := 27) ?hr ?_; (case hd => rfl); (case hg => rfl); (case hr => (go_simp; done)); intro g4 hg w4 hbox hb; have n0_ := Aside0.mk (below_step HB.out hb); have n1_ := Aside0.mk (blk_below BK2.out hb); have n2_ := Aside0.mk (blk_below BK3.out hb); have n3_ := Aside0.mk (hbox); have n4_ := Aside0.mk ((by rw [hg]; exact below_size HB.out : w.heap.size ≤ g4)); have n5_ := Aside0.mk ((by rw [hg]; exact Nat.ne_of_lt (blk_lt BK2.out) : g2 ≠ g4)); have n6_ := Aside0.mk ((by rw [hg]; exact (Nat.ne_of_lt (blk_lt BK2.out)).symm : g4 ≠ g2)); have n7_ := Aside0.mk ((by rw [hg]; exact Nat.ne_of_lt (blk_lt BK3.out) : g3 ≠ g4)); have n8_ := Aside0.mk ((by rw [hg]; exact (Nat.ne_of_lt (blk_lt BK3.out)).symm : g4 ≠ g3)); clear HB BK2 BK3; have HB := n0_; have BK2 := n1_; have BK3 := n2_; have BK4 := n3_; have GE4 := n4_; have NB24 := n5_; have NB42 := n6_; have NB34 := n7_; have NB43 := n8_; clear n0_ n1_ n2_ n3_ n4_ n5_ n6_ n7_ n8_ hb hbox hg; obtain ⟨hc20, hc21, hc22, hc23, hf20, hf21, hf22, hf23⟩ := b4 BK2; obtain ⟨hc30, hc31, hc32, hc33, hf30, hf31, hf32, hf33⟩ := b4 BK3) | (go_at_call 54; (with_reducible refine (poslist_List_kept.calls 34 #[.agg #[.int .i64 a0_0, .slice A0_1 l0_1.length c0_1, .slice A0_2 l0_2.length c0_2, .slice A0_3 l0_3.length c0_3]] #[] (fun x => poslist_List_Has.f k a0_0 l0_1 l0_2 l0_3 x) k a1_0 A1_1 c1_1 l1_1 A1_2 c1_2 l1_2 A1_3 c1_3 l1_3 r1 r2 r3 r4 _ ?a1 ?b1 ?a2 ?b2 ?a3 ?b3 HEN.out ?his H1.out).mono ?_); (case a1 => exact (Kd.C_below HR1_1.out HB.out)); (case b1 => exact HC1_1.out); (case a2 => exact (Kd.C_below HR1_2.out HB.out)); (case b2 => exact HC1_2.out); (case a3 => exact (Kd.C_below HR1_3.out HB.out)); (case b3 => exact HC1_3.out); (case his => intro X at_ t_ hX hp; exact calls_of_args (by simp) (poslist_List_Has.calls k a0_0 A0_1 c0_1 l0_1 A0_2 c0_2 l0_2 A0_3 c0_3 l0_3 at_ t_ X (Kd.C_below (Kd.C_below HR0_1.out HB.out) hX) HC0_1.out (Kd.C_below (Kd.C_below HR0_2.out HB.out) hX) HC0_2.out (Kd.C_below (Kd.C_below HR0_3.out HB.out) hX) HC0_3.out hp)); have hlt4 := blk_lt BK4.out; have HB0 := HB; rintro e w6 ⟨v1, v2, v3, rfl, hv1, hv2, hv3, hb⟩; have n0_ := Aside0.mk (below_step HB.out hb); have n1_ := Aside0.mk (blk_below BK2.out hb); have n2_ := Aside0.mk (blk_below BK3.out hb); have n3_ := Aside0.mk (blk_below BK4.out hb); clear HB BK2 BK3 BK4; have HB := n0_; have BK2 := n1_; have BK3 := n2_; have BK4 := n3_; clear n0_ n1_ n2_ n3_ hb; obtain ⟨Av1, cv1, rfl⟩ := Kd.R_slice hv1; obtain ⟨Av2, cv2, rfl⟩ := Kd.R_slice hv2; obtain ⟨Av3, cv3, rfl⟩ := Kd.R_slice hv3; obtain ⟨hc40, hc41, hc42, hc43, hf40, hf41, hf42, hf43⟩ := b4 BK4))
  refine bodyPost_ret (results_cell_row rfl _ _ g4 27 #[.int .i64 r1, .slice Av1 r2.length cv1, .slice Av2 r3.length cv2, .slice Av3 r4.length cv3] (0, 0) _ rfl (by refine blk_put (cs := #[.int .i64 r1, .slice Av1 r2.length cv1, .slice Av2 r3.length cv2, .slice none 0 0]) ?_ 3 _ rfl; refine blk_put (cs := #[.int .i64 r1, .slice Av1 r2.length cv1, .slice none 0 0, .slice none 0 0]) ?_ 2 _ rfl; refine blk_put (cs := #[.int .i64 r1, .slice none 0 0, .slice none 0 0, .slice none 0 0]) ?_ 1 _ rfl; refine blk_put (cs := #[.int .i64 0, .slice none 0 0, .slice none 0 0, .slice none 0 0]) ?_ 0 _ rfl; exact BK4.out) Tryz.underlying27 rfl (by kernel_rfl)) rfl ?_
  have hw_ := below_size HB0.out
  exact ⟨_, _, _, rfl, Kd.R_lower (XR.R_far (XR.R_far (XR.R_far (XR.R_far hv1 hlt4) hlt4) hlt4) hlt4) hw_, Kd.R_lower (XR.R_far (XR.R_far (XR.R_far (XR.R_far hv2 hlt4) hlt4) hlt4) hlt4) hw_, Kd.R_lower (XR.R_far (XR.R_far (XR.R_far (XR.R_far hv3 hlt4) hlt4) hlt4) hlt4) hw_, bh HB.out⟩
 ·have H1 := Aside0.mk H
  clear H
  go_enter Tryz.func22, Tryz.ntmps22
  go_wp2_with (first | ((with_reducible refine gate_dst (N := 2) rfl ?_); refine box_event ?hg (N := 2) ?hd (cs := #[.int .i64 a0_0, .slice A0_1 l0_1.length c0_1, .slice A0_2 l0_2.length c0_2, .slice A0_3 l0_3.length c0_3]) (t := 27) ?hr ?_; (case hd => rfl); (case hg => rfl); (case hr => (go_simp; done)); intro g2 hg w2 hbox hb; have n0_ := Aside0.mk (below_step HB.out hb); have n1_ := Aside0.mk (hbox); have n2_ := Aside0.mk ((by rw [hg]; exact below_size HB.out : w.heap.size ≤ g2)); clear HB; have HB := n0_; have BK2 := n1_; have GE2 := n2_; clear n0_ n1_ n2_ hb hbox hg) | ((with_reducible refine gate_dst (N := 3) rfl ?_); refine box_event ?hg (N := 3) ?hd (cs := #[.int .i64 a1_0, .slice A1_1 l1_1.length c1_1, .slice A1_2 l1_2.length c1_2, .slice A1_3 l1_3.length c1_3]) (t := 27) ?hr ?_; (case hd => rfl); (case hg => rfl); (case hr => (go_simp; done)); intro g3 hg w3 hbox hb; have n0_ := Aside0.mk (below_step HB.out hb); have n1_ := Aside0.mk (blk_below BK2.out hb); have n2_ := Aside0.mk (hbox); have n3_ := Aside0.mk ((by rw [hg]; exact below_size HB.out : w.heap.size ≤ g3)); have n4_ := Aside0.mk ((by rw [hg]; exact Nat.ne_of_lt (blk_lt BK2.out) : g2 ≠ g3)); have n5_ := Aside0.mk ((by rw [hg]; exact (Nat.ne_of_lt (blk_lt BK2.out)).symm : g3 ≠ g2)); clear HB BK2; have HB := n0_; have BK2 := n1_; have BK3 := n2_; have GE3 := n3_; have NB23 := n4_; have NB32 := n5_; clear n0_ n1_ n2_ n3_ n4_ n5_ hb hbox hg) | ((with_reducible refine gate_dst (N := 4) rfl ?_); refine box_event ?hg (N := 4) ?hd (cs := #[.int .i64 0, .slice none 0 0, .slice none 0 0, .slice none 0 0]) (t := 27) ?hr ?_; (case hd => rfl); (case hg => rfl); (case hr => (go_simp; done)); intro g4 hg w4 hbox hb; have n0_ := Aside0.mk (below_step HB.out hb); have n1_ := Aside0.mk (blk_below BK2.out hb); have n2_ := Aside0.mk (blk_below BK3.out hb); have n3_ := Aside0.mk (hbox); have n4_ := Aside0.mk ((by rw [hg]; exact below_size HB.out : w.heap.size ≤ g4)); have n5_ := Aside0.mk ((by rw [hg]; exact Nat.ne_of_lt (blk_lt BK2.out) : g2 ≠ g4)); have n6_ := Aside0.mk ((by rw [hg]; exact (Nat.ne_of_lt (blk_lt BK2.out)).symm : g4 ≠ g2)); have n7_ := Aside0.mk ((by rw [hg]; exact Nat.ne_of_lt (blk_lt BK3.out) : g3 ≠ g4)); have n8_ := Aside0.mk ((by rw [hg]; exact (Nat.ne_of_lt (blk_lt BK3.out)).symm : g4 ≠ g3)); clear HB BK2 BK3; have HB := n0_; have BK2 := n1_; have BK3 := n2_; have BK4 := n3_; have GE4 := n4_; have NB24 := n5_; have NB42 := n6_; have NB34 := n7_; have NB43 := n8_; clear n0_ n1_ n2_ n3_ n4_ n5_ n6_ n7_ n8_ hb hbox hg; obtain ⟨hc20, hc21, hc22, hc23, hf20, hf21, hf22, hf23⟩ := b4 BK2; obtain ⟨hc30, hc31, hc32, hc33, hf30, hf31, hf32, hf33⟩ := b4 BK3) | (go_at_call 55; (with_reducible refine (poslist_List_together_fn56_fn57.calls k a0_0 A0_1 c0_1 l0_1 A0_2 c0_2 l0_2 A0_3 c0_3 l0_3 a1_0 A1_1 c1_1 l1_1 A1_2 c1_2 l1_2 A1_3 c1_3 l1_3 r1 r2 r3 r4 _ ?a01 ?b01 ?a02 ?b02 ?a03 ?b03 ?a11 ?b11 ?a12 ?b12 ?a13 ?b13 H1.out).mono ?_); (case a01 => exact (Kd.C_below HR0_1.out HB.out)); (case b01 => exact HC0_1.out); (case a02 => exact (Kd.C_below HR0_2.out HB.out)); (case b02 => exact HC0_2.out); (case a03 => exact (Kd.C_below HR0_3.out HB.out)); (case b03 => exact HC0_3.out); (case a11 => exact (Kd.C_below HR1_1.out HB.out)); (case b11 => exact HC1_1.out); (case a12 => exact (Kd.C_below HR1_2.out HB.out)); (case b12 => exact HC1_2.out); (case a13 => exact (Kd.C_below HR1_3.out HB.out)); (case b13 => exact HC1_3.out); have hlt4 := blk_lt BK4.out; have HB0 := HB; rintro e w6 ⟨v1, v2, v3, rfl, hv1, hv2, hv3, hb⟩; have n0_ := Aside0.mk (below_step HB.out hb); have n1_ := Aside0.mk (blk_below BK2.out hb); have n2_ := Aside0.mk (blk_below BK3.out hb); have n3_ := Aside0.mk (blk_below BK4.out hb); clear HB BK2 BK3 BK4; have HB := n0_; have BK2 := n1_; have BK3 := n2_; have BK4 := n3_; clear n0_ n1_ n2_ n3_ hb; obtain ⟨Av1, cv1, rfl⟩ := Kd.R_slice hv1; obtain ⟨Av2, cv2, rfl⟩ := Kd.R_slice hv2; obtain ⟨Av3, cv3, rfl⟩ := Kd.R_slice hv3; obtain ⟨hc40, hc41, hc42, hc43, hf40, hf41, hf42, hf43⟩ := b4 BK4))
  refine bodyPost_ret (results_cell_row rfl _ _ g4 27 #[.int .i64 r1, .slice Av1 r2.length cv1, .slice Av2 r3.length cv2, .slice Av3 r4.length cv3] (0, 0) _ rfl (by refine blk_put (cs := #[.int .i64 r1, .slice Av1 r2.length cv1, .slice Av2 r3.length cv2, .slice none 0 0]) ?_ 3 _ rfl; refine blk_put (cs := #[.int .i64 r1, .slice Av1 r2.length cv1, .slice none 0 0, .slice none 0 0]) ?_ 2 _ rfl; refine blk_put (cs := #[.int .i64 r1, .slice none 0 0, .slice none 0 0, .slice none 0 0]) ?_ 1 _ rfl; refine blk_put (cs := #[.int .i64 0, .slice none 0 0, .slice none 0 0, .slice none 0 0]) ?_ 0 _ rfl; exact BK4.out) Tryz.underlying27 rfl (by kernel_rfl)) rfl ?_
  have hw_ := below_size HB0.out
  exact ⟨_, _, _, rfl, Kd.R_lower (XR.R_far (XR.R_far (XR.R_far (XR.R_far hv1 hlt4) hlt4) hlt4) hlt4) hw_, Kd.R_lower (XR.R_far (XR.R_far (XR.R_far (XR.R_far hv2 hlt4) hlt4) hlt4) hlt4) hw_, Kd.R_lower (XR.R_far (XR.R_far (XR.R_far (XR.R_far hv3 hlt4) hlt4) hlt4) hlt4) hw_, bh HB.out⟩

end Go.Proofs.YtjgmdjieandemaaGreat.Print
end
section
namespace Go.Proofs.YtjgmdjieandemaaGreat.Print
open Go.RowKit Go.Proofs.YtjgmdjieandemaaGreatW.PrintWords Go.Proofs.YtjgmdjieandemaaGreatW.PrintLast Go.Proofs.YtjgmdjieandemaaGreatW.PrintMore
attribute [local go_sem] max2_int min2_int max_two min_two max_three min_three max_four min_four   -- for this text's walks alone
set_option linter.unusedVariables false
set_option linter.unusedSimpArgs false

/-! ### words_Pick: function 66 -/
mutual
def words_Pick.l0 : Nat → List Int → Int → Int → Int → Int → Option (Int × Int)
 | 0, _, _, _, _, _ => none
 | k + 1, x31, x32, x33, x372000, x375000 => if x33 < x32 then (if 0 ≤ x33 then (if x33 < (x31.length : Int) then ((bits_Next.f k (rd x31 x33) 0).bind fun t376 => (words_Pick.l1 k x33 (rd x31 x33) t376 x31 x32 x33 x372000 x375000)) else (none)) else (none)) else (some (x375000, 0))
def words_Pick.l1 : Nat → Int → Int → Int → List Int → Int → Int → Int → Int → Option (Int × Int)
 | 0, _, _, _, _, _, _, _, _ => none
 | k + 1, x28, x29, x30, x31, x32, x33, x372000, x375000 => if x30 ≥ 0 then (if ((wrap64 (x372000 - 1)) ≥ 0) then ((bits_Next.f k x29 (wrap64 (x30 + 1))).bind fun t377 => (words_Pick.l1 k x28 x29 t377 x31 x32 x33 (wrap64 (x372000 - 1)) (wrap64 ((wrap64 (64 * x28)) + x30)))) else (some (wrap64 ((wrap64 (64 * x28)) + x30), 0))) else (words_Pick.l0 k x31 x32 (wrap64 (x33 + 1)) x372000 x375000)
end
def words_Pick.f (k : Nat) (l0 : List Int) (a1 : Int) : Option (Int × Int) := (words_May.f l0).bind fun t372 => (if t372 = true then (if a1 < 0 then (some (0, 3)) else ((words_Count.f k l0).bind fun t373 => (if a1 ≥ t373 then (some (0, 3)) else (words_Pick.l0 k l0 (l0.length : Int) 0 a1 0)))) else (some (0, 1)))
theorem words_Pick.l0_succ (k) (a0) (a1) (a2) (a3) (a4) : type_of% (@words_Pick.l0.eq_2 a0 a1 a2 a3 a4 k) := words_Pick.l0.eq_2 a0 a1 a2 a3 a4 k
theorem words_Pick.l1_succ (k) (a0) (a1) (a2) (a3) (a4) (a5) (a6) (a7) : type_of% (@words_Pick.l1.eq_2 a0 a1 a2 a3 a4 a5 a6 a7 k) := words_Pick.l1.eq_2 a0 a1 a2 a3 a4 a5 a6 a7 k
theorem words_Pick.mono_l : ∀ k, (∀ y0 y1 y2 y3 y4, LeO (words_Pick.l0 k y0 y1 y2 y3 y4) (words_Pick.l0 (k + 1) y0 y1 y2 y3 y4)) ∧ (∀ y0 y1 y2 y3 y4 y5 y6 y7, LeO (words_Pick.l1 k y0 y1 y2 y3 y4 y5 y6 y7) (words_Pick.l1 (k + 1) y0 y1 y2 y3 y4 y5 y6 y7))
 | 0 => ⟨fun _ _ _ _ _ r h => by simp [words_Pick.l0] at h, fun _ _ _ _ _ _ _ _ r h => by simp [words_Pick.l1] at h⟩
 | k + 1 => by
  obtain ⟨ih0, ih1⟩ := words_Pick.mono_l k
  refine ⟨?_, ?_⟩
  ·intro y0 y1 y2 y3 y4
   unfold words_Pick.l0
   repeat' first | (with_reducible exact ih1 _ _ _ _ _ _ _ _) | (with_reducible exact bits_Next.mono _ _ _) | (with_reducible exact LeO.refl _) | (with_reducible refine LeO.ite ?_ ?_) | (with_reducible refine LeO.bind ?_ (fun _ => ?_))
  ·intro y0 y1 y2 y3 y4 y5 y6 y7
   unfold words_Pick.l1
   repeat' first | (with_reducible exact ih0 _ _ _ _ _) | (with_reducible exact ih1 _ _ _ _ _ _ _ _) | (with_reducible exact bits_Next.mono _ _ _) | (with_reducible exact LeO.refl _) | (with_reducible refine LeO.ite ?_ ?_) | (with_reducible refine LeO.bind ?_ (fun _ => ?_))
theorem words_Pick.mono : ∀ a0 a1 k, LeO (words_Pick.f k a0 a1) (words_Pick.f (k + 1) a0 a1) := by
 intro a0 a1 k
 obtain ⟨ih0, ih1⟩ := words_Pick.mono_l k
 unfold words_Pick.f
 repeat' first | (with_reducible exact ih0 _ _ _ _ _) | (with_reducible exact words_Count.mono _ _) | (with_reducible exact LeO.refl _) | (with_reducible refine LeO.ite ?_ ?_) | (with_reducible refine LeO.bind ?_ (fun _ => ?_))
set_option maxHeartbeats 8000000 in
set_option maxRecDepth 100000 in
theorem words_Pick.calls (k : Nat) (A0 : Option Addr) (c0 : Nat) (l0 : List Int) (a1 : Int) (r1 : Int) (r2 : Int) (w : World) (hr0 : Kd.C (Kd.int .i64) w A0 l0.length l0) (hc0 : l0.length ≤ c0) (h : words_Pick.f k l0 a1 = some (r1, r2)) :
  Calls Tryz.prog 66 #[.slice A0 l0.length c0, .int .i64 a1] w fun e w' => e = .returned (.tuple #[.int .i64 r1, .int .i64 r2]) ∧ Below w.heap.size w w' := by
 have hmf : ∀ (fn : Fn) (first cap : Array Value) (w : World), (Instr.makeFunc fn first cap).run Tryz.prog w = .ok (.func fn first cap) w := fun _ _ _ _ => rfl
 have HR0 := Aside0.mk hr0
 have HC0 := Aside0.mk hc0
 clear hr0 hc0
 have HB := Aside0.mk (Below.refl w.heap.size w)
 have H := h
 clear h
 unfold words_Pick.f at H
 replace H := bd H
 obtain ⟨t372, A3, H⟩ := H
 replace H := ifb H
 rcases H with ⟨rfl, H⟩ | ⟨rfl, H⟩
 ·replace H := ifd H
  rcases H with ⟨-, c5b0, H⟩ | ⟨-, c5b0, H⟩
  ·simp only [Option.some.injEq, Prod.mk.injEq] at H
   obtain ⟨rfl, rfl⟩ := H
   go_enter Tryz.func66, Tryz.ntmps66
   go_wp2_with (first | ((with_reducible refine gate_dst (N := 3) rfl ?_); refine boxE HB 3 3 #[.int .i64 a1] ?_; clear HB; intro gb371 w6 BK371 GW371 hg hb HB; have GE371 := GW371; clear hb hg) | (go_at_call 80; (with_reducible refine (words_May.calls _ _ l0 true _ ?side1 ?side2 A3.out).mono ?_); (case side1 => exact cx (Kd.C_below HR0.out HB.out)); (case side2 => exact HC0.out); rintro e w' ⟨rfl, ⟨nd, rfl⟩⟩; obtain ⟨hcz7_0, hfz7_0⟩ := b1 BK371))
   repeat ((fail))
   repeat (go_quiet (fail); go_wp2_with (fail))
   go_ret2
   exact ⟨er, bh HB.out⟩
  ·replace H := bd H
   obtain ⟨t373, A8, H⟩ := H
   replace H := ifd H
   rcases H with ⟨-, c9b0, H⟩ | ⟨-, c9b0, H⟩
   ·simp only [Option.some.injEq, Prod.mk.injEq] at H
    obtain ⟨rfl, rfl⟩ := H
    go_enter Tryz.func66, Tryz.ntmps66
    go_wp2_with (first | ((with_reducible refine gate_dst (N := 3) rfl ?_); refine boxE HB 3 3 #[.int .i64 a1] ?_; clear HB; intro gb371 w10 BK371 GW371 hg hb HB; have GE371 := GW371; clear hb hg) | (go_at_call 80; (with_reducible refine (words_May.calls _ _ l0 true _ ?side1 ?side2 A3.out).mono ?_); (case side1 => exact cx (Kd.C_below HR0.out HB.out)); (case side2 => exact HC0.out); rintro e w' ⟨rfl, ⟨nd, rfl⟩⟩; obtain ⟨hcz11_0, hfz11_0⟩ := b1 BK371))
    repeat ((fail))
    repeat (go_quiet ((go_at_call 51; (with_reducible refine (words_Count.calls k _ _ l0 t373 _ ?side1 ?side2 A8.out).mono ?_); (case side1 => repeat (exact (Kd.C_below HR0.out (bh HB.out)))); (case side2 => exact HC0.out); rintro e w' ⟨rfl, ⟨nd, rfl⟩⟩; (exact ⟨rfl, _, Eq.trans (World.drewN_drewN _ _ _) (congrArg (World.drewN _) (Nat.add_assoc _ _ _))⟩))); go_wp2_with (fail))
    go_ret2
    exact ⟨er, bh HB.out⟩
   ·have H' := Aside0.mk H
    clear H
    go_enter Tryz.func66, Tryz.ntmps66
    go_wp2_with (first | ((with_reducible refine gate_dst (N := 3) rfl ?_); refine boxE HB 3 3 #[.int .i64 a1] ?_; clear HB; intro gb371 w12 BK371 GW371 hg hb HB; have GE371 := GW371; clear hb hg) | (go_at_call 80; (with_reducible refine (words_May.calls _ _ l0 true _ ?side1 ?side2 A3.out).mono ?_); (case side1 => exact cx (Kd.C_below HR0.out HB.out)); (case side2 => exact HC0.out); rintro e w' ⟨rfl, ⟨nd, rfl⟩⟩; obtain ⟨hcz13_0, hfz13_0⟩ := b1 BK371))
    repeat ((fail))
    repeat (go_quiet ((go_at_call 51; (with_reducible refine (words_Count.calls k _ _ l0 t373 _ ?side1 ?side2 A8.out).mono ?_); (case side1 => repeat (exact (Kd.C_below HR0.out (bh HB.out)))); (case side2 => exact HC0.out); rintro e w' ⟨rfl, ⟨nd, rfl⟩⟩; (exact ⟨rfl, _, Eq.trans (World.drewN_drewN _ _ _) (congrArg (World.drewN _) (Nat.add_assoc _ _ _))⟩))); go_wp2_with (first | ((with_reducible refine gate_dst (N := 6) rfl ?_); refine boxE HB 6 3 #[.int .i64 0] ?_; clear HB; intro gb374 w14 BK374 GW374 hg hb HB; have GE374 := GW374; have NB371_374 := bna BK371 hg; have NB374_371 := bma BK371 hg; replace BK371 := bba BK371 hb; clear hb hg; have hnb15 := NB374_371.out; have hnc15 := NB371_374.out; obtain ⟨hcz16_0, hfz16_0⟩ := b1 BK374) | go_in))
    go_loopg [9] k (fun kq v33 w' => ∃ (x33_1 : Int) (x372000_1 : Int) (x375000_1 : Int), v33 = .int .i64 x33_1 ∧ Aside0 (words_Pick.l0 kq l0 (l0.length : Int) x33_1 x372000_1 x375000_1 = some (r1, r2)) ∧ Aside0 (kq ≤ k) ∧ Aside0 (w'.heap[gb371]? = some (.cells #[.int .i64 x372000_1] 3 (0, 0))) ∧ Aside0 (w'.heap[gb374]? = some (.cells #[.int .i64 x375000_1] 3 (0, 0))) ∧ Aside0 (Below w.heap.size w w'))
    case atStart => exact ⟨(0), (a1), (0), (by rfl), H', ⟨Nat.le_refl _⟩, ⟨bx BK371.out⟩, ⟨by refine blk_put (cs := #[.int .i64 0]) ?_ 0 _ rfl; exact BK374.out⟩, ⟨bh HB.out⟩⟩
    case round =>
     clear H' c5b0 c9b0 hcz13_0 hcz16_0 hfz13_0 hfz16_0
     obtain ⟨x33_1, x372000_1, x375000_1, rfl, HA, HK1, BK371, BK374, HB⟩ := hrel
     cases gk with
     | zero => exact absurd HA.out (by simp [words_Pick.l0])
     | succ k1 =>
      have H := HA.out
      clear HA
      simp only [words_Pick.l0] at H
      replace H := ifd H
      rcases H with ⟨-, c17b0, H⟩ | ⟨-, c17b0, H⟩
      ·replace H := ifn H
       obtain ⟨-, c18b0, H⟩ := H
       replace H := ifn H
       obtain ⟨-, c19b0, H⟩ := H
       replace H := bd H
       obtain ⟨t376, A20, H⟩ := H
       have H' := Aside0.mk H
       clear H
       have p375 : 0 ≤ (x33_1 : Int) := ad
       have q375 : x33_1 < (l0.length : Int) := ad
       obtain ⟨ad375, e375, hx375_0⟩ := Kd.at_int HR0.out x33_1 p375 q375
       cases e375
       replace hx375_0 := cb HB.out.cell hx375_0
       replace p375 := eq_true p375
       replace q375 := eq_true q375
       go_wp2_with ((go_at_call 94; (with_reducible refine (bits_Next.calls k1 (rd l0 x33_1) 0 t376 _ A20.out).mono ?_); rintro e w21 ⟨rfl, hb⟩; replace BK371 := bba BK371 hb; replace BK374 := bba BK374 hb; replace HB := bsa HB hb; clear hb))
       repeat ((fail))
       repeat (go_quiet (fail))
       go_loopg [6] k1 (fun kq v30 w' => ∃ (x30_2 : Int) (x372000_2 : Int) (x375000_2 : Int), v30 = .int .i64 x30_2 ∧ Aside0 (words_Pick.l1 kq x33_1 (rd l0 x33_1) x30_2 l0 (l0.length : Int) x33_1 x372000_2 x375000_2 = some (r1, r2)) ∧ Aside0 (kq ≤ k1) ∧ Aside0 (w'.heap[gb371]? = some (.cells #[.int .i64 x372000_2] 3 (0, 0))) ∧ Aside0 (w'.heap[gb374]? = some (.cells #[.int .i64 x375000_2] 3 (0, 0))) ∧ Aside0 (Below w.heap.size w w'))
       case atStart => exact ⟨(t376), (x372000_1), (x375000_1), (by rfl), H', ⟨Nat.le_refl _⟩, ⟨bx BK371.out⟩, ⟨bx BK374.out⟩, ⟨bh HB.out⟩⟩
       case round =>
        clear H' c17b0 c18b0 c19b0 hx375_0 p375 q375
        obtain ⟨x30_2, x372000_2, x375000_2, rfl, HA, HK2, BK371, BK374, HB⟩ := hrel
        cases gk with
        | zero => exact absurd HA.out (by simp [words_Pick.l1])
        | succ k2 =>
         have H := HA.out
         clear HA
         simp only [words_Pick.l1] at H
         replace H := ifd H
         rcases H with ⟨-, c22b0, H⟩ | ⟨-, c22b0, H⟩
         ·replace H := ifd H
          rcases H with ⟨-, c23b0, H⟩ | ⟨-, c23b0, H⟩
          ·replace H := bd H
           obtain ⟨t377, A24, H⟩ := H
           have H' := Aside0.mk H
           clear H
           have hnb25 := NB374_371.out
           have hnc25 := NB371_374.out
           obtain ⟨hcz26_0, hfz26_0⟩ := b1 BK374
           obtain ⟨hcz27_0, hfz27_0⟩ := b1 BK371
           go_wp2_with (first | (go_at_call 94; (with_reducible refine (bits_Next.calls k2 (rd l0 x33_1) (wrap64 (x30_2 + 1)) t377 _ A24.out).mono ?_); rintro e w28 ⟨rfl, hb⟩; replace BK371 := Aside0.mk (blk_below (g := gb371) (o := .cells #[.int .i64 (wrap64 (x372000_2 - 1))] 3 (0, 0)) (by refine blk_put (cs := #[.int .i64 x372000_2]) ?_ 0 _ rfl; refine blk_far ?_ NB371_374.out _; exact BK371.out) hb); replace BK374 := Aside0.mk (blk_below (g := gb374) (o := .cells #[.int .i64 (wrap64 ((wrap64 (64 * x33_1)) + x30_2))] 3 (0, 0)) (by refine blk_far ?_ NB374_371.out _; refine blk_put (cs := #[.int .i64 x375000_2]) ?_ 0 _ rfl; exact BK374.out) hb); replace HB := bsa HB hb; clear hb) | go_in)
           repeat ((fail))
           repeat (go_quiet (fail))
           go_roundg k2
           case measure => have := HK1.out; have := HK2.out; omega
           case rel => exact ⟨(t377), (wrap64 (x372000_2 - 1)), (wrap64 ((wrap64 (64 * x33_1)) + x30_2)), (by rfl), H', ⟨by have := HK1.out; have := HK2.out; omega⟩, ⟨bx BK371.out⟩, ⟨bx BK374.out⟩, ⟨bh HB.out⟩⟩
          ·simp only [Option.some.injEq, Prod.mk.injEq] at H
           obtain ⟨rfl, rfl⟩ := H
           have hnb29 := NB374_371.out
           have hnc29 := NB371_374.out
           obtain ⟨hcz30_0, hfz30_0⟩ := b1 BK374
           obtain ⟨hcz31_0, hfz31_0⟩ := b1 BK371
           go_wp2
           repeat (((refine bodyPost_ret (results_none rfl _ _ _) rfl ?_)); go_wp2)
           repeat (go_quiet (go_in))
           go_ret2
           exact ⟨er, bh HB.out⟩
         ·have H' := Aside0.mk H
          clear H
          go_wp2
          repeat (go_quiet (go_in))
          go_roundg k2
          case measure => have := HK1.out; have := HK2.out; omega
          case rel => exact ⟨(wrap64 (x33_1 + 1)), (x372000_2), (x375000_2), (by rfl), H', ⟨by have := HK1.out; have := HK2.out; omega⟩, ⟨bx BK371.out⟩, ⟨bx BK374.out⟩, ⟨bh HB.out⟩⟩
      ·simp only [Option.some.injEq, Prod.mk.injEq] at H
       obtain ⟨rfl, rfl⟩ := H
       have hnb32 := NB374_371.out
       have hnc32 := NB371_374.out
       obtain ⟨hcz33_0, hfz33_0⟩ := b1 BK374
       go_wp2
       repeat ((go_end0); go_wp2)
       repeat (go_quiet (go_in))
       go_ret2
       exact ⟨er, bh HB.out⟩
 ·simp only [Option.some.injEq, Prod.mk.injEq] at H
  obtain ⟨rfl, rfl⟩ := H
  go_enter Tryz.func66, Tryz.ntmps66
  go_wp2_with (first | ((with_reducible refine gate_dst (N := 3) rfl ?_); refine boxE HB 3 3 #[.int .i64 a1] ?_; clear HB; intro gb371 w34 BK371 GW371 hg hb HB; have GE371 := GW371; clear hb hg) | (go_at_call 80; (with_reducible refine (words_May.calls _ _ l0 false _ ?side1 ?side2 A3.out).mono ?_); (case side1 => exact cx (Kd.C_below HR0.out HB.out)); (case side2 => exact HC0.out); rintro e w' ⟨rfl, ⟨nd, rfl⟩⟩))
  repeat ((fail))
  repeat (go_quiet (fail))
  go_ret2
  exact ⟨er, bh HB.out⟩

/-! ### span_Pick: function 67 -/
def span_Pick.l0 : Nat → Int → List (S64) → Int → Int → Option (Int × Int)
 | 0, _, _, _, _ => none
 | k + 1, x1, x14, x15, x16 => if x16 < x15 then (if 0 ≤ x16 then (if x16 < (x14.length : Int) then (if x1 ≥ (wrap64 (((rd_T64 x14 x16).f1) - ((rd_T64 x14 x16).f0))) then (span_Pick.l0 k (wrap64 (x1 - (wrap64 (((rd_T64 x14 x16).f1) - ((rd_T64 x14 x16).f0))))) x14 x15 (wrap64 (x16 + 1))) else (some (wrap64 (((rd_T64 x14 x16).f0) + x1), 0))) else (none)) else (none)) else (some (0, 3))
def span_Pick.f (k : Nat) (l0 : List (S64)) (a1 : Int) : Option (Int × Int) := (span_May.f k l0).bind fun t378 => (if t378 = true then (if a1 < 0 then (some (0, 3)) else (span_Pick.l0 k a1 l0 (l0.length : Int) 0)) else (some (0, 1)))
theorem span_Pick.l0_succ (k) (a0) (a1) (a2) (a3) : type_of% (@span_Pick.l0.eq_2 a0 a1 a2 a3 k) := span_Pick.l0.eq_2 a0 a1 a2 a3 k
theorem span_Pick.mono_l : ∀ k, (∀ y0 y1 y2 y3, LeO (span_Pick.l0 k y0 y1 y2 y3) (span_Pick.l0 (k + 1) y0 y1 y2 y3))
 | 0 => fun _ _ _ _ r h => by simp [span_Pick.l0] at h
 | k + 1 => by
  have ih0 := span_Pick.mono_l k
  ·intro y0 y1 y2 y3
   unfold span_Pick.l0
   repeat' first | (with_reducible exact ih0 _ _ _ _) | (with_reducible exact LeO.refl _) | (with_reducible refine LeO.ite ?_ ?_)
theorem span_Pick.mono : ∀ a0 a1 k, LeO (span_Pick.f k a0 a1) (span_Pick.f (k + 1) a0 a1) := by
 intro a0 a1 k
 have ih0 := span_Pick.mono_l k
 unfold span_Pick.f
 repeat' first | (with_reducible exact ih0 _ _ _ _) | (with_reducible exact span_May.mono _ _) | (with_reducible exact LeO.refl _) | (with_reducible refine LeO.ite ?_ ?_) | (with_reducible refine LeO.bind ?_ (fun _ => ?_))
set_option maxHeartbeats 8000000 in
set_option maxRecDepth 100000 in
theorem span_Pick.calls (k : Nat) (A0 : Option Addr) (c0 : Nat) (l0 : List (S64)) (a1 : Int) (r1 : Int) (r2 : Int) (w : World) (hr0 : Kd.C k64 w A0 l0.length l0) (hc0 : l0.length ≤ c0) (h : span_Pick.f k l0 a1 = some (r1, r2)) :
  Calls Tryz.prog 67 #[.slice A0 l0.length c0, .int .i64 a1] w fun e w' => e = .returned (.tuple #[.int .i64 r1, .int .i64 r2]) ∧ Below w.heap.size w w' := by
 have hu64 := Tryz.underlying64
 have HR0 := Aside0.mk hr0
 have HC0 := Aside0.mk hc0
 clear hr0 hc0
 have HB := Aside0.mk (Below.refl w.heap.size w)
 have H := h
 clear h
 unfold span_Pick.f at H
 replace H := bd H
 obtain ⟨t378, A3, H⟩ := H
 replace H := ifb H
 rcases H with ⟨rfl, H⟩ | ⟨rfl, H⟩
 ·replace H := ifd H
  rcases H with ⟨-, c5b0, H⟩ | ⟨-, c5b0, H⟩
  ·simp only [Option.some.injEq, Prod.mk.injEq] at H
   obtain ⟨rfl, rfl⟩ := H
   go_enter Tryz.func67, Tryz.ntmps67
   go_wp2_with (((with_reducible refine gate_callee (f := 41) rfl ?_); refine gL 10 Tryz.func41 #[.slice A0 l0.length c0] ?_; (with_reducible refine (span_May.calls k _ _ l0 true _ ?side1 ?side2 A3.out).mono ?_); (case side1 => exact cx HR0.out); (case side2 => exact HC0.out); rintro e w6 ⟨rfl, hb⟩; refine ⟨_, rfl, ?_⟩; replace HB := bsa HB hb; clear hb))
   go_ret2
   exact ⟨er, bh HB.out⟩
  ·have H' := Aside0.mk H
   clear H
   go_enter Tryz.func67, Tryz.ntmps67
   go_wp2_with (((with_reducible refine gate_callee (f := 41) rfl ?_); refine gL 10 Tryz.func41 #[.slice A0 l0.length c0] ?_; (with_reducible refine (span_May.calls k _ _ l0 true _ ?side1 ?side2 A3.out).mono ?_); (case side1 => exact cx HR0.out); (case side2 => exact HC0.out); rintro e w7 ⟨rfl, hb⟩; refine ⟨_, rfl, ?_⟩; replace HB := bsa HB hb; clear hb))
   go_loopg [1, 16] k (fun kq v1 v16 w' => ∃ (x1_1 : Int) (x16_1 : Int), v1 = .int .i64 x1_1 ∧ v16 = .int .i64 x16_1 ∧ Aside0 (span_Pick.l0 kq x1_1 l0 (l0.length : Int) x16_1 = some (r1, r2)) ∧ Aside0 (kq ≤ k) ∧ Aside0 (Below w.heap.size w w'))
   case atStart => exact ⟨(a1), (0), (by rfl), (by rfl), H', ⟨Nat.le_refl _⟩, ⟨bh HB.out⟩⟩
   case round =>
    clear H' c5b0
    obtain ⟨x1_1, x16_1, rfl, rfl, HA, HK1, HB⟩ := hrel
    cases gk with
    | zero => exact absurd HA.out (by simp [span_Pick.l0])
    | succ k1 =>
     have H := HA.out
     clear HA
     simp only [span_Pick.l0] at H
     replace H := ifd H
     rcases H with ⟨-, c8b0, H⟩ | ⟨-, c8b0, H⟩
     ·replace H := ifn H
      obtain ⟨-, c9b0, H⟩ := H
      replace H := ifn H
      obtain ⟨-, c10b0, H⟩ := H
      replace H := ifd H
      rcases H with ⟨-, c11b0, H⟩ | ⟨-, c11b0, H⟩
      ·have H' := Aside0.mk H
       clear H
       have p379 : 0 ≤ (x16_1 : Int) := ad
       have q379 : x16_1 < (l0.length : Int) := ad
       obtain ⟨ad379, e379, hx379_0, hx379_1⟩ := at_T64 HR0.out x16_1 p379 q379
       cases e379
       replace hx379_0 := cb HB.out.cell hx379_0
       replace hx379_1 := cb HB.out.cell hx379_1
       replace p379 := eq_true p379
       replace q379 := eq_true q379
       go_wp2_with (((with_reducible refine gate_dst (N := 7) rfl ?_); refine boxE HB 7 64 #[.int .i64 0, .int .i64 0] ?_; clear HB; intro gb380 w12 BK380 GW380 hg hb HB; have GE380 := GW380; clear hb hg; obtain ⟨hcz13_0, hcz13_1, hfz13_0, hfz13_1⟩ := b2 BK380))
       go_roundg k1
       case measure => have := HK1.out; omega
       case rel => exact ⟨(wrap64 (x1_1 - (wrap64 (((rd_T64 l0 x16_1).f1) - ((rd_T64 l0 x16_1).f0))))), (wrap64 (x16_1 + 1)), (by rfl), (by rfl), H', ⟨by have := HK1.out; omega⟩, ⟨bh HB.out⟩⟩
      ·simp only [Option.some.injEq, Prod.mk.injEq] at H
       obtain ⟨rfl, rfl⟩ := H
       have p379 : 0 ≤ (x16_1 : Int) := ad
       have q379 : x16_1 < (l0.length : Int) := ad
       obtain ⟨ad379, e379, hx379_0, hx379_1⟩ := at_T64 HR0.out x16_1 p379 q379
       cases e379
       replace hx379_0 := cb HB.out.cell hx379_0
       replace hx379_1 := cb HB.out.cell hx379_1
       replace p379 := eq_true p379
       replace q379 := eq_true q379
       go_wp2_with (((with_reducible refine gate_dst (N := 7) rfl ?_); refine boxE HB 7 64 #[.int .i64 0, .int .i64 0] ?_; clear HB; intro gb380 w14 BK380 GW380 hg hb HB; have GE380 := GW380; clear hb hg; obtain ⟨hcz15_0, hcz15_1, hfz15_0, hfz15_1⟩ := b2 BK380))
       go_ret2
       exact ⟨er, bh HB.out⟩
     ·simp only [Option.some.injEq, Prod.mk.injEq] at H
      obtain ⟨rfl, rfl⟩ := H
      go_wp2
      go_ret2
      exact ⟨er, bh HB.out⟩
 ·simp only [Option.some.injEq, Prod.mk.injEq] at H
  obtain ⟨rfl, rfl⟩ := H
  go_enter Tryz.func67, Tryz.ntmps67
  go_wp2_with (((with_reducible refine gate_callee (f := 41) rfl ?_); refine gL 10 Tryz.func41 #[.slice A0 l0.length c0] ?_; (with_reducible refine (span_May.calls k _ _ l0 false _ ?side1 ?side2 A3.out).mono ?_); (case side1 => exact cx HR0.out); (case side2 => exact HC0.out); rintro e w16 ⟨rfl, hb⟩; refine ⟨_, rfl, ?_⟩; replace HB := bsa HB hb; clear hb))
  go_ret2
  exact ⟨er, bh HB.out⟩

/-! ### poslist_List_Pick: function 31 -/
def poslist_List_Pick.f (k : Nat) (a0_0 : Int) (l0_1 : List (S64)) (l0_2 : List Int) (l0_3 : List Int) (a1 : Int) : Option (Int × Int) := if a0_0 = 2 then ((words_Pick.f k l0_2 a1).bind fun bt382 => (some (bt382.1, bt382.2))) else (if a0_0 = 3 then (if a1 < 0 then (some (0, 3)) else (if a1 ≥ (l0_3.length : Int) then (some (0, 3)) else (if 0 ≤ a1 then (if a1 < (l0_3.length : Int) then (some (rd l0_3 a1, 0)) else (none)) else (none)))) else ((span_Pick.f k l0_1 a1).bind fun bt385 => (some (bt385.1, bt385.2))))
theorem poslist_List_Pick.mono : ∀ a0 a1 a2 a3 a4 k, LeO (poslist_List_Pick.f k a0 a1 a2 a3 a4) (poslist_List_Pick.f (k + 1) a0 a1 a2 a3 a4) := by
 intro a0 a1 a2 a3 a4 k
 unfold poslist_List_Pick.f
 repeat' first | (with_reducible exact span_Pick.mono _ _ _) | (with_reducible exact words_Pick.mono _ _ _) | (with_reducible exact LeO.refl _) | (with_reducible refine LeO.ite ?_ ?_) | (with_reducible refine LeO.bind ?_ (fun _ => ?_))
set_option maxHeartbeats 8000000 in
set_option maxRecDepth 100000 in
theorem poslist_List_Pick.calls (k : Nat) (a0_0 : Int) (A0_1 : Option Addr) (c0_1 : Nat) (l0_1 : List (S64)) (A0_2 : Option Addr) (c0_2 : Nat) (l0_2 : List Int) (A0_3 : Option Addr) (c0_3 : Nat) (l0_3 : List Int) (a1 : Int) (r1 : Int) (r2 : Int) (w : World) (hr0_1 : Kd.C k64 w A0_1 l0_1.length l0_1) (hc0_1 : l0_1.length ≤ c0_1) (hr0_2 : Kd.C (Kd.int .i64) w A0_2 l0_2.length l0_2) (hc0_2 : l0_2.length ≤ c0_2) (hr0_3 : Kd.C (Kd.int .i64) w A0_3 l0_3.length l0_3) (hc0_3 : l0_3.length ≤ c0_3) (h : poslist_List_Pick.f k a0_0 l0_1 l0_2 l0_3 a1 = some (r1, r2)) :
  Calls Tryz.prog 31 #[.agg #[.int .i64 a0_0, .slice A0_1 l0_1.length c0_1, .slice A0_2 l0_2.length c0_2, .slice A0_3 l0_3.length c0_3], .int .i64 a1] w fun e w' => e = .returned (.tuple #[.int .i64 r1, .int .i64 r2]) ∧ Below w.heap.size w w' := by
 have hu27 := Tryz.underlying27
 have HR0_1 := Aside0.mk hr0_1
 have HC0_1 := Aside0.mk hc0_1
 clear hr0_1 hc0_1
 have HR0_2 := Aside0.mk hr0_2
 have HC0_2 := Aside0.mk hc0_2
 clear hr0_2 hc0_2
 have HR0_3 := Aside0.mk hr0_3
 have HC0_3 := Aside0.mk hc0_3
 clear hr0_3 hc0_3
 have HB := Aside0.mk (Below.refl w.heap.size w)
 have H := h
 clear h
 unfold poslist_List_Pick.f at H
 replace H := ife H
 rcases H with ⟨-, c3b0, c3b1, H⟩ | ⟨c3, c3b0, c3b1, H⟩
 ·replace H := bd H
  obtain ⟨⟨t382, t383⟩, A4, H⟩ := H
  dsimp only at H
  simp only [Option.some.injEq, Prod.mk.injEq] at H
  obtain ⟨rfl, rfl⟩ := H
  go_enter Tryz.func31, Tryz.ntmps31
  go_wp2_with (first | ((with_reducible refine gate_dst (N := 2) rfl ?_); ((refine gate_guard (by rfl) ?_; dsimp only)); refine boxE HB 2 27 #[.int .i64 a0_0, .slice A0_1 l0_1.length c0_1, .slice A0_2 l0_2.length c0_2, .slice A0_3 l0_3.length c0_3] ?_; clear HB; intro gb381 w5 BK381 GW381 hg hb HB; have GE381 := GW381; clear hb hg; obtain ⟨hcz6_0, hcz6_1, hcz6_2, hcz6_3, hfz6_0, hfz6_1, hfz6_2, hfz6_3⟩ := b4 BK381) | ((with_reducible refine gate_callee (f := 66) rfl ?_); refine gL 13 Tryz.func66 #[.slice A0_2 l0_2.length c0_2, .int .i64 a1] ?_; (with_reducible refine (words_Pick.calls k _ _ l0_2 a1 t382 t383 _ ?side1 ?side2 A4.out).mono ?_); (case side1 => exact cx (Kd.C_below HR0_2.out HB.out)); (case side2 => exact HC0_2.out); rintro e w7 ⟨rfl, hb⟩; refine ⟨_, rfl, ?_⟩; replace BK381 := bba BK381 hb; replace HB := bsa HB hb; clear hb))
  go_ret2
  exact ⟨er, bh HB.out⟩
 ·replace H := ife H
  rcases H with ⟨-, c8b0, c8b1, H⟩ | ⟨c8, c8b0, c8b1, H⟩
  ·replace H := ifd H
   rcases H with ⟨-, c9b0, H⟩ | ⟨-, c9b0, H⟩
   ·simp only [Option.some.injEq, Prod.mk.injEq] at H
    obtain ⟨rfl, rfl⟩ := H
    go_enter Tryz.func31, Tryz.ntmps31
    go_wp2_with (((with_reducible refine gate_dst (N := 2) rfl ?_); ((refine gate_guard (by rfl) ?_; dsimp only)); refine boxE HB 2 27 #[.int .i64 a0_0, .slice A0_1 l0_1.length c0_1, .slice A0_2 l0_2.length c0_2, .slice A0_3 l0_3.length c0_3] ?_; clear HB; intro gb381 w10 BK381 GW381 hg hb HB; have GE381 := GW381; clear hb hg; obtain ⟨hcz11_0, hcz11_1, hcz11_2, hcz11_3, hfz11_0, hfz11_1, hfz11_2, hfz11_3⟩ := b4 BK381))
    go_ret2
    exact ⟨er, bh HB.out⟩
   ·replace H := ifd H
    rcases H with ⟨-, c12b0, H⟩ | ⟨-, c12b0, H⟩
    ·simp only [Option.some.injEq, Prod.mk.injEq] at H
     obtain ⟨rfl, rfl⟩ := H
     go_enter Tryz.func31, Tryz.ntmps31
     go_wp2_with (((with_reducible refine gate_dst (N := 2) rfl ?_); ((refine gate_guard (by rfl) ?_; dsimp only)); refine boxE HB 2 27 #[.int .i64 a0_0, .slice A0_1 l0_1.length c0_1, .slice A0_2 l0_2.length c0_2, .slice A0_3 l0_3.length c0_3] ?_; clear HB; intro gb381 w13 BK381 GW381 hg hb HB; have GE381 := GW381; clear hb hg; obtain ⟨hcz14_0, hcz14_1, hcz14_2, hcz14_3, hfz14_0, hfz14_1, hfz14_2, hfz14_3⟩ := b4 BK381))
     go_ret2
     exact ⟨er, bh HB.out⟩
    ·replace H := ifn H
     obtain ⟨-, c15b0, H⟩ := H
     replace H := ifn H
     obtain ⟨-, c16b0, H⟩ := H
     simp only [Option.some.injEq, Prod.mk.injEq] at H
     obtain ⟨rfl, rfl⟩ := H
     go_enter Tryz.func31, Tryz.ntmps31
     go_wp2_with (((with_reducible refine gate_dst (N := 2) rfl ?_); ((refine gate_guard (by rfl) ?_; dsimp only)); refine boxE HB 2 27 #[.int .i64 a0_0, .slice A0_1 l0_1.length c0_1, .slice A0_2 l0_2.length c0_2, .slice A0_3 l0_3.length c0_3] ?_; clear HB; intro gb381 w17 BK381 GW381 hg hb HB; have GE381 := GW381; clear hb hg; obtain ⟨hcz18_0, hcz18_1, hcz18_2, hcz18_3, hfz18_0, hfz18_1, hfz18_2, hfz18_3⟩ := b4 BK381; have p384 : 0 ≤ (a1 : Int) := ad; have q384 : a1 < (l0_3.length : Int) := ad; obtain ⟨ad384, e384, hx384_0⟩ := Kd.at_int HR0_3.out a1 p384 q384; cases e384; replace hx384_0 := cb HB.out.cell hx384_0; replace p384 := eq_true p384; replace q384 := eq_true q384))
     go_ret2
     exact ⟨er, bh HB.out⟩
  ·replace H := bd H
   obtain ⟨⟨t385, t386⟩, A19, H⟩ := H
   dsimp only at H
   simp only [Option.some.injEq, Prod.mk.injEq] at H
   obtain ⟨rfl, rfl⟩ := H
   go_enter Tryz.func31, Tryz.ntmps31
   go_wp2_with (first | ((with_reducible refine gate_dst (N := 2) rfl ?_); ((refine gate_guard (by rfl) ?_; dsimp only)); refine boxE HB 2 27 #[.int .i64 a0_0, .slice A0_1 l0_1.length c0_1, .slice A0_2 l0_2.length c0_2, .slice A0_3 l0_3.length c0_3] ?_; clear HB; intro gb381 w20 BK381 GW381 hg hb HB; have GE381 := GW381; clear hb hg; obtain ⟨hcz21_0, hcz21_1, hcz21_2, hcz21_3, hfz21_0, hfz21_1, hfz21_2, hfz21_3⟩ := b4 BK381) | ((with_reducible refine gate_callee (f := 67) rfl ?_); refine gL 35 Tryz.func67 #[.slice A0_1 l0_1.length c0_1, .int .i64 a1] ?_; (with_reducible refine (span_Pick.calls k _ _ l0_1 a1 t385 t386 _ ?side1 ?side2 A19.out).mono ?_); (case side1 => exact cx (Kd.C_below HR0_1.out HB.out)); (case side2 => exact HC0_1.out); rintro e w22 ⟨rfl, hb⟩; refine ⟨_, rfl, ?_⟩; replace BK381 := bba BK381 hb; replace HB := bsa HB hb; clear hb))
   go_ret2
   exact ⟨er, bh HB.out⟩

/-! ### poslist_List_Form: function 28 -/
def poslist_List_Form.f (a0_0 : Int) (l0_1 : List (S64)) (l0_2 : List Int) (l0_3 : List Int) : Option (Int) := some (mx a0_0 1)
set_option maxHeartbeats 8000000 in
set_option maxRecDepth 100000 in
theorem poslist_List_Form.calls (a0_0 : Int) (A0_1 : Option Addr) (c0_1 : Nat) (l0_1 : List (S64)) (A0_2 : Option Addr) (c0_2 : Nat) (l0_2 : List Int) (A0_3 : Option Addr) (c0_3 : Nat) (l0_3 : List Int) (r : Int) (w : World) (hr0_1 : Kd.C k64 w A0_1 l0_1.length l0_1) (hc0_1 : l0_1.length ≤ c0_1) (hr0_2 : Kd.C (Kd.int .i64) w A0_2 l0_2.length l0_2) (hc0_2 : l0_2.length ≤ c0_2) (hr0_3 : Kd.C (Kd.int .i64) w A0_3 l0_3.length l0_3) (hc0_3 : l0_3.length ≤ c0_3) (h : poslist_List_Form.f a0_0 l0_1 l0_2 l0_3 = some r) :
  Calls Tryz.prog 28 #[.agg #[.int .i64 a0_0, .slice A0_1 l0_1.length c0_1, .slice A0_2 l0_2.length c0_2, .slice A0_3 l0_3.length c0_3]] w fun e w' => e = .returned (.int .i64 r) ∧ Below w.heap.size w w' := by
 have hu27 := Tryz.underlying27
 have HR0_1 := Aside0.mk hr0_1
 have HC0_1 := Aside0.mk hc0_1
 clear hr0_1 hc0_1
 have HR0_2 := Aside0.mk hr0_2
 have HC0_2 := Aside0.mk hc0_2
 clear hr0_2 hc0_2
 have HR0_3 := Aside0.mk hr0_3
 have HC0_3 := Aside0.mk hc0_3
 clear hr0_3 hc0_3
 have HB := Aside0.mk (Below.refl w.heap.size w)
 have H := h
 clear h
 unfold poslist_List_Form.f at H
 obtain ⟨ji2, hji2⟩ : ∃ j_ : Int, (mx a0_0 1) = j_ := ⟨_, rfl⟩
 replace H : (some ji2) = some r := by (rw [hji2] at H; exact H)
 ((have hji2l : 1 ≤ ji2 := by (rw [← hji2]; unfold mx; (repeat' split) <;> omega)))
 ((have hji2m : 0 ≤ ji2 := by omega))
 have hji2_ : (if a0_0 < 1 then 1 else a0_0) = ji2 := hji2
 obtain rfl := Option.some.inj H
 go_enter Tryz.func28, Tryz.ntmps28
 go_wp2_with (((with_reducible refine gate_dst (N := 1) rfl ?_); refine boxE HB 1 27 #[.int .i64 a0_0, .slice A0_1 l0_1.length c0_1, .slice A0_2 l0_2.length c0_2, .slice A0_3 l0_3.length c0_3] ?_; clear HB; intro gb387 w3 BK387 GW387 hg hb HB; have GE387 := GW387; clear hb hg; obtain ⟨hcz4_0, hcz4_1, hcz4_2, hcz4_3, hfz4_0, hfz4_1, hfz4_2, hfz4_3⟩ := b4 BK387))
 go_ret
 exact ⟨by rfl, bh HB.out⟩

/-! ### peristylelaw16_listed: function 29 (a contract of the session's own) -/
section
attribute [local go_sem] Oper.semAt_some
def peristylelaw16_listed.go : List Int → List Int → Option (List Int)
  | [], o => some o
  | x :: xs, o => if o.length < 1000000000000 then peristylelaw16_listed.go xs (o ++ [x]) else none
def peristylelaw16_listed.f (k : Nat) (a0_0 : Int) (l0_1 : List (S64)) (l0_2 : List Int) (l0_3 : List Int) : Option (List Int) := (poslist_List_Places.f k a0_0 l0_1 l0_2 l0_3).bind fun xs => peristylelaw16_listed.go xs []
theorem peristylelaw16_listed.go_snoc : ∀ (pre : List Int) (x : Int) (o : List Int), peristylelaw16_listed.go (pre ++ [x]) o = (peristylelaw16_listed.go pre o).bind fun o1 => if o1.length < 1000000000000 then some (o1 ++ [x]) else none := by
 intro pre
 induction pre with
 | nil => intro x o; rfl
 | cons y ys ih =>
   intro x o
   simp only [List.cons_append, peristylelaw16_listed.go]
   split
   ·exact ih x _
   ·rfl
theorem peristylelaw16_listed.go_pre : ∀ (pre rest : List Int) (o r : List Int), peristylelaw16_listed.go (pre ++ rest) o = some r → ∃ o1, peristylelaw16_listed.go pre o = some o1 := by
 intro pre
 induction pre with
 | nil => intro rest o r h; exact ⟨o, rfl⟩
 | cons y ys ih =>
   intro rest o r h
   simp only [List.cons_append, peristylelaw16_listed.go] at h ⊢
   by_cases hc : o.length < 1000000000000
   ·rw [if_pos hc] at h ⊢; exact ih rest _ r h
   ·rw [if_neg hc] at h; cases h
theorem peristylelaw16_listed.mono : ∀ a0 a1 a2 a3 k, LeO (peristylelaw16_listed.f k a0 a1 a2 a3) (peristylelaw16_listed.f (k + 1) a0 a1 a2 a3) :=
  fun a0 a1 a2 a3 k => LeO.bind (poslist_List_Places.mono _ _ _ _ _) (fun xs => LeO.refl _)
set_option maxHeartbeats 8000000 in
set_option maxRecDepth 100000 in
theorem peristylelaw16_listed.calls (k : Nat) (a0_0 : Int) (A0_1 : Option Addr) (c0_1 : Nat) (l0_1 : List (S64)) (A0_2 : Option Addr) (c0_2 : Nat) (l0_2 : List Int) (A0_3 : Option Addr) (c0_3 : Nat) (l0_3 : List Int) (o : List Int) (w : World) (hr0_1 : Kd.C k64 w A0_1 l0_1.length l0_1) (hc0_1 : l0_1.length ≤ c0_1) (hr0_2 : Kd.C (Kd.int .i64) w A0_2 l0_2.length l0_2) (hc0_2 : l0_2.length ≤ c0_2) (hr0_3 : Kd.C (Kd.int .i64) w A0_3 l0_3.length l0_3) (hc0_3 : l0_3.length ≤ c0_3) (h : peristylelaw16_listed.f k a0_0 l0_1 l0_2 l0_3 = some o) :
    Calls Tryz.prog 29 #[.agg #[.int .i64 a0_0, .slice A0_1 l0_1.length c0_1, .slice A0_2 l0_2.length c0_2, .slice A0_3 l0_3.length c0_3]] w fun e w' => ∃ v0_ : Value, e = .returned (v0_) ∧ Kd.R (Kd.int .i64) 3 w' w.heap.size (fun _ => True) v0_ o ∧ Below w.heap.size w w' := by
 have hu27 := Tryz.underlying27
 have HR0_1 := Aside0.mk hr0_1
 have HC0_1 := Aside0.mk hc0_1
 clear hr0_1 hc0_1
 have HR0_2 := Aside0.mk hr0_2
 have HC0_2 := Aside0.mk hc0_2
 clear hr0_2 hc0_2
 have HR0_3 := Aside0.mk hr0_3
 have HC0_3 := Aside0.mk hc0_3
 clear hr0_3 hc0_3
 have HB := Aside0.mk (Below.refl w.heap.size w)
 obtain ⟨xs, A3_, A4_⟩ := Option.bind_eq_some_iff.mp (show ((poslist_List_Places.f k a0_0 l0_1 l0_2 l0_3).bind fun xs => peristylelaw16_listed.go xs []) = some o from h)
 clear h
 have H3 := Aside0.mk A3_
 have H4 := Aside0.mk A4_
 clear A3_ A4_
 refine (callsIn_wide (n := 4)).1 ?_
 refine callsIn_of_wp_marks Tryz.func29 rfl trivial ?_ rfl
 simp only [Tryz.ntmps29, List.size_toArray, List.length_cons, List.length_nil, Nat.reduceAdd, Nat.reduceSub, Array.replicate_succ, Array.replicate_zero, List.push_toArray, List.append_toArray, List.nil_append, List.cons_append]
 refine wpIn_wide.2 ?_
 go_wp2_with (first | ((with_reducible refine gate_dst (N := 1) rfl ?_); refine box_event ?hg (N := 1) ?hd (cs := #[.int .i64 a0_0, .slice A0_1 l0_1.length c0_1, .slice A0_2 l0_2.length c0_2, .slice A0_3 l0_3.length c0_3]) (t := 27) ?hr ?_; (case hd => rfl); (case hg => rfl); (case hr => (go_simp; done)); intro gl hg w2 hbox hb; have n0_ := Aside0.mk (below_step HB.out hb); have n1_ := Aside0.mk (hbox); have n2_ := Aside0.mk ((by rw [hg]; exact below_size HB.out : w.heap.size ≤ gl)); clear HB; have HB := n0_; have BKl := n1_; have GEl := n2_; clear n0_ n1_ n2_ hb hbox hg) | ((with_reducible refine gate_dst (N := 3) rfl ?_); refine box_event ?hg (N := 3) ?hd (cs := #[.slice none 0 0]) (t := 25) ?hr ?_; (case hd => rfl); (case hg => rfl); (case hr => (go_simp; done)); intro gu hg w3 hbox hb; have n0_ := Aside0.mk (below_step HB.out hb); have n1_ := Aside0.mk (blk_below BKl.out hb); have n2_ := Aside0.mk (hbox); have n3_ := Aside0.mk ((by rw [hg]; exact below_size HB.out : w.heap.size ≤ gu)); have n4_ := Aside0.mk ((by rw [hg]; exact Nat.ne_of_lt (blk_lt BKl.out) : gl ≠ gu)); have n5_ := Aside0.mk ((by rw [hg]; exact (Nat.ne_of_lt (blk_lt BKl.out)).symm : gu ≠ gl)); clear HB BKl; have HB := n0_; have BKl := n1_; have BKu := n2_; have GEu := n3_; have NBlu := n4_; have NBul := n5_; clear n0_ n1_ n2_ n3_ n4_ n5_ hb hbox hg; have hlu6 := Aside0.mk (blk_lt BKu.out); obtain ⟨hcl0, hcl1, hcl2, hcl3, hfl0, hfl1, hfl2, hfl3⟩ := b4 BKl) | (go_at_call 65; (with_reducible refine (poslist_List_Places.calls k _ _ _ _ _ _ _ _ _ _ xs w _ HB.out ?a1 ?b1 ?a2 ?b2 ?a3 ?b3 H3.out).mono ?_); (case a1 => exact HR0_1.out); (case b1 => exact HC0_1.out); (case a2 => exact HR0_2.out); (case b2 => exact HC0_2.out); (case a3 => exact HR0_3.out); (case b3 => exact HC0_3.out); rintro e w4 ⟨gI, gi, rfl, hen, hgi, hlti, hit, hb⟩; have n0_ := Aside0.mk (below_step HB.out hb); have n1_ := Aside0.mk (blk_below BKl.out hb); have n2_ := Aside0.mk (blk_below BKu.out hb); clear HB BKl BKu; have HB := n0_; have BKl := n1_; have BKu := n2_; clear n0_ n1_ n2_ hb))
 refine (wpIn_wide (n := 4)).1 ?_
 refine XR.wp_range (α := Int) (w0 := w) (by decide) (gf := gI) (lb := #[.pointer (some ⟨gi, 0, none⟩)]) rfl hen hit
   (by rintro k_ rfl; exact hlti) (fun _ => rfl)
   (fun G_ pre X => ∃ (o1 : List Int) (v : Value), peristylelaw16_listed.go pre [] = some o1 ∧ X.heap[gu]? = some (.cells #[v] 25 (0, 0)) ∧ Kd.R (Kd.int .i64) 3 X w.heap.size (fun k_ => w.heap.size ≤ k_ ∧ (k_ ≠ gl ∧ k_ ≠ gu ∧ k_ ≠ gi ∧ k_ ≠ w4.heap.size ∧ k_ ≠ w4.heap.size + 1 ∧ ¬ G_ k_)) v o1 ∧ Below w.heap.size w X)
   (fun _ _ _ => False)
   ?hI ?hIG (fun _ _ _ _ h _ => h) ?hIB ?hIp (fun _ _ _ _ _ h _ _ _ => h) ?h0
   (fun Y x a' Z => a' = { tmps := #[.agg #[.int .i64 a0_0, .slice A0_1 l0_1.length c0_1, .slice A0_2 l0_2.length c0_2, .slice A0_3 l0_3.length c0_3], .pointer (some ⟨gl, 0, none⟩), .slice none 0 0, .pointer (some ⟨gu, 0, none⟩), .int .i64 x, .agg #[.int .i64 a0_0, .slice A0_1 l0_1.length c0_1, .slice A0_2 l0_2.length c0_2, .slice A0_3 l0_3.length c0_3], .func (.func gI) #[] #[.pointer (some ⟨gi, 0, none⟩)], .int .i64 x, undef, undef, undef, undef, undef], defers := [] })
   ?hAx ?assign ?body ?done ?stop
 case hI =>
   rintro G_ pre X Y ⟨o1, v, hg, ho, hr, hb⟩ hXY
   exact ⟨o1, v, hg, blk_below ho hXY, Kd.R_below hr hXY,  below_step hb hXY⟩
 case hIG =>
   rintro G_ G2_ pre X ⟨o1, v, hg, ho, hr, hb⟩ hG
   refine ⟨o1, v, hg, ho, Kd.R_mono (Kd.R_tight rfl hr) (fun k_ hk => ?_),  hb⟩
   have hq := hr.1 k_ hk.symm
   have hlt := Kd.R_lt hr k_ hk.symm
   exact ⟨hq.1, hq.2.1, hq.2.2.1, hq.2.2.2.1, hq.2.2.2.2.1, hq.2.2.2.2.2.1, fun h2 => (hG k_ h2).elim hq.2.2.2.2.2.2 (fun z => by omega)⟩
 case hIB =>
   rintro G_ pre X ⟨o1, v, hg, ho, hr, hb⟩
   exact hb
 case hIp =>
   rintro G_ pre X l o2 ⟨o1, v, hg, ho, hr, hb⟩ hl hl2 hlt
   have hnl : l ≠ gl := by have := blk_lt BKl.out; omega
   have hnu : l ≠ gu := by have := blk_lt BKu.out; omega
   refine ⟨o1, v, hg, (World.putObj_heap_other (Ne.symm hnu)).trans ho, ?_,  XR.below_putObj hb (by have := HB.out.size; omega) hlt o2⟩
   exact Kd.R_step hr (fun k_ hk _ => World.putObj_heap_other (by have h5 := hk.2.2.2.2.1; have h6 := hk.2.2.2.2.2.1; omega))
 case h0 => exact ⟨[], _, rfl, BKu.out, Kd.R_nil _ _ _ _ _,  HB.out⟩
 case hAx =>
   rintro Y x a' Z l o2 rfl hl hl2 hlt
   rfl
 case assign =>
   intro G_ pre x Y hI hsz
   gi_wp2
   exact ⟨Below.refl _ Y, trivial⟩
 case body =>
   rintro G_ pre x rest Y Z a' hx hGY ⟨o1, v, hg, ho, hr, hb⟩ hsX hYZ rfl
   have hlu : gu < w4.heap.size := blk_lt BKu.out
   have hll : gl < w4.heap.size := blk_lt BKl.out
   have hli : gi < w4.heap.size := hlti
   have NBui : gu ≠ gi := by have := hgi; have := hlu6.out; omega
   have hsn := peristylelaw16_listed.go_snoc pre x []
   rw [hg] at hsn
   simp only [Option.bind_some] at hsn
   obtain ⟨o2, ho2⟩ := peristylelaw16_listed.go_pre (pre ++ [x]) rest [] _ (by have h4 := H4.out; rw [hx] at h4; simpa using h4)
   rw [ho2] at hsn
   have hcap : o1.length < 1000000000000 := by
     by_cases hc : o1.length < 1000000000000
     ·exact hc
     ·rw [if_neg hc] at hsn; cases hsn
   rw [if_pos hcap] at hsn
   obtain rfl := Option.some.inj hsn
   have hgo2 := ho2
   have d6 : Z.cell? ⟨gu, 0, none⟩ = some v := (blk_cell ho 0).trans rfl
   have hsW : Z.heap.size ≤ Z.heap.size := Nat.le_refl _
   have hb9 := Below.refl Z.heap.size Z
   gi_wp2_with (refine XR.listIn_out (N := 8) rfl ?a2 ?a3 ?a4 ?_; (case a2 => rfl); (case a3 => rintro ⟨_, _, h_⟩; exact h_); (case a4 => rfl))
   go_wp2_with (((with_reducible refine gate_builtin (b := .append) (xs := #[.tmp 8, .tmp 10]) rfl ?_); at_builtin; refine Kd.R_append (Kd.int .i64) (w0 := w) w.heap.size rfl (.tmp 8) (.tmp 10) 25 3 (.int .i64 0) 8 rfl Tryz.underlying25 info3 rfl (by decide) (by omega) v o1 x [.int .i64 x] (fun k_ => w.heap.size ≤ k_ ∧ (k_ ≠ gl ∧ k_ ≠ gu ∧ k_ ≠ gi ∧ k_ ≠ w4.heap.size ∧ k_ ≠ w4.heap.size + 1 ∧ ¬ G_ k_)) (fun _ => False) rfl rfl ?aP (fun _ hk => hk.elim) ?aF ?aO ?aB ?aS ?aL ?_; (case aP => exact rfl); (case aF => intro k_ hk; have h7 := below_size hb; have h8 := hsW; exact ⟨by omega, by omega, by omega, by omega, by omega, by omega, fun h2 => by have := hGY k_ h2; omega⟩); (case aO => exact hr); (case aB => exact hb); (case aS => exact below_size hb); (case aL => omega); intro v1 w10 hr10 hb10 hk10 _; have hne : ∀ k_, some k_ = v.ownBlock → w.heap.size ≤ k_ ∧ (k_ ≠ gl ∧ k_ ≠ gu ∧ k_ ≠ gi ∧ k_ ≠ w4.heap.size ∧ k_ ≠ w4.heap.size + 1 ∧ ¬ G_ k_) := fun k_ e_ => hr.1 k_ e_.symm; have ho10 := blk_grown ho hk10 (fun e_ => (hne _ e_).2.2.1 rfl); obtain ⟨Av, cv, rfl⟩ := Kd.R_slice hr10; have e6 : w10.cell? ⟨gu, 0, none⟩ = some v := (blk_cell ho10 0).trans rfl; have e7 := blk_frozen ho10 0))
   have hr11 : Kd.R (Kd.int .i64) 3 w10 w.heap.size (fun k_ => w.heap.size ≤ k_ ∧ (k_ ≠ gl ∧ k_ ≠ gu ∧ k_ ≠ gi ∧ k_ ≠ w4.heap.size ∧ k_ ≠ w4.heap.size + 1 ∧ ¬ G_ k_)) (.slice Av (o1.length + 1) cv) (o1 ++ [x]) := by rw [List.length_append] at hr10; exact hr10
   have hgb : Below w.heap.size w (w10.setCell ⟨gu, 0, none⟩ (.slice Av (o1.length + 1) cv)) := hb10.setCell (p := ⟨gu, 0, none⟩) GEu.out _
   have hrow := Kd.R_step hr11 (w1 := w10.setCell ⟨gu, 0, none⟩ (.slice Av (o1.length + 1) cv)) (fun k_ hk _ => Below.heap_setCell _ _ _ k_ (by exact hk.2.2.1))
   refine ⟨⟨o1 ++ [x], _, hgo2, blk_put ho10 0 _ rfl, hrow,  hgb⟩, ?_, ?_⟩
   ·have := hk10.size; have := hb9.size; simp; omega
   ·intro k_ hk hkeep
    have hkgo : k_ ≠ gu := by
      rcases hkeep with rfl | hh | hh | hh
      ·exact Ne.symm NBui
      ·have := hGY k_ hh; omega
      ·omega
      ·omega
    have hkv : ¬ some k_ = v.ownBlock := by
      intro e_
      have hq := hne _ e_
      rcases hkeep with rfl | hh | hh | hh
      ·exact hq.2.2.2.1 rfl
      ·exact hq.2.2.2.2.2.2 hh
      ·exact hq.2.2.2.2.1 hh
      ·exact hq.2.2.2.2.2.1 hh
    rw [Below.heap_setCell _ _ _ k_ hkgo, hk10.block k_ (by have := hb9.size; omega) hkv, hb9.block k_ hk]
 case done =>
   rintro G_ W ⟨o1, v, hg, ho, hr, hb⟩ hK
   obtain rfl : o1 = o := by have h4 := H4.out; rw [hg] at h4; exact Option.some.inj h4
   obtain ⟨Av, cv, rfl⟩ := Kd.R_slice hr
   have cv1 : W.cell? ⟨gu, 0, none⟩ = some (.slice Av o1.length cv) := (blk_cell ho 0).trans rfl
   go_wp2
   refine ⟨by simp, .inl ⟨_, _, rfl, run_takeDeferred hK, ?_⟩⟩
   exact ⟨_, results_single (r := .tmp 2) rfl (.tmp .nil), _, rfl, Kd.R_mono (Kd.R_step hr (fun k_ hk _ => World.putObj_heap_other (by have h5 := hk.2.2.2.2.1; omega))) (fun _ _ => trivial), XR.below_putObj hb (by have := HB.out.size; omega) (Array.getElem?_eq_some_iff.1 hK).1 _⟩
 case stop =>
   rintro c pre W _ h _
   exact h.elim
end

end Go.Proofs.YtjgmdjieandemaaGreat.Print
end
section
namespace Go.Proofs.YtjgmdjieandemaaGreat.Print
open Go.RowKit Go.Proofs.YtjgmdjieandemaaGreatW.PrintWords Go.Proofs.YtjgmdjieandemaaGreatW.PrintLast Go.Proofs.YtjgmdjieandemaaGreatW.PrintMore
attribute [local go_sem] max2_int min2_int max_two min_two max_three min_three max_four min_four   -- for this text's walks alone
set_option linter.unusedVariables false
set_option linter.unusedSimpArgs false

/-! ### peristylelaw16_awake: function 9 -/
def peristylelaw16_awake.f (k : Nat)  : Option (Bool) := (poslist_From.f k (([5, 3, 4, 3] : List Int))).bind fun bt464 => ((poslist_All.f k 100).bind fun bt476 => ((poslist_List_And.f k bt476.1 bt476.2.1 bt476.2.2.1 bt476.2.2.2.1 bt464.1 bt464.2.1 bt464.2.2.1 bt464.2.2.2.1).bind fun bt488 => ((poslist_List_Pick.f k bt488.1 bt488.2.1 bt488.2.2.1 bt488.2.2.2 1).bind fun bt498 => (if bt464.2.2.2.2 = 0 then ((poslist_List_Form.f bt464.1 bt464.2.1 bt464.2.2.1 bt464.2.2.2.1).bind fun t500 => (if t500 = 3 then ((peristylelaw16_listed.f k bt464.1 bt464.2.1 bt464.2.2.1 bt464.2.2.2.1).bind fun t501 => ((peristyleref01_Same.f k t501 (([3, 4, 5] : List Int))).bind fun t507 => (if t507 = true then (if bt476.2.2.2.2 = 0 then ((poslist_List_Form.f bt476.1 bt476.2.1 bt476.2.2.1 bt476.2.2.2.1).bind fun t508 => (if t508 = 1 then (if bt498.1 = 4 then (if bt498.2 = 0 then ((poslist_List_Less.f k bt476.1 bt476.2.1 bt476.2.2.1 bt476.2.2.2.1 bt464.1 bt464.2.1 bt464.2.2.1 bt464.2.2.2.1).bind fun bt509 => ((poslist_List_Count.f k bt509.1 bt509.2.1 bt509.2.2.1 bt509.2.2.2).bind fun t519 => (if t519 = 97 then ((poslist_List_Cost.f k bt464.1 bt464.2.1 bt464.2.2.1 bt464.2.2.2.1 2).bind fun t520 => (some (t520 == 8))) else (none)))) else (none)) else (none)) else (none))) else (none)) else (none)))) else (none))) else (none)))))
theorem peristylelaw16_awake.mono : ∀ k, LeO (peristylelaw16_awake.f k ) (peristylelaw16_awake.f (k + 1) ) := by
 intro  k
 unfold peristylelaw16_awake.f
 repeat' first | (with_reducible exact peristylelaw16_listed.mono _ _ _ _ _) | (with_reducible exact peristyleref01_Same.mono _ _ _) | (with_reducible exact poslist_All.mono _ _) | (with_reducible exact poslist_From.mono _ _) | (with_reducible exact poslist_List_And.mono _ _ _ _ _ _ _ _ _) | (with_reducible exact poslist_List_Cost.mono _ _ _ _ _ _) | (with_reducible exact poslist_List_Count.mono _ _ _ _ _) | (with_reducible exact poslist_List_Less.mono _ _ _ _ _ _ _ _ _) | (with_reducible exact poslist_List_Pick.mono _ _ _ _ _ _) | (with_reducible exact LeO.refl _) | (with_reducible refine LeO.ite ?_ ?_) | (with_reducible refine LeO.bind ?_ (fun _ => ?_))
set_option maxHeartbeats 8000000 in
set_option maxRecDepth 100000 in
theorem peristylelaw16_awake.calls (k : Nat)  (r : Bool) (w : World) (h : peristylelaw16_awake.f k  = some r) :
  Calls Tryz.prog 9 #[] w fun e w' => e = .returned (.bool r) ∧ Below w.heap.size w w' := by
 have hu27 := Tryz.underlying27
 have HB := Aside0.mk (Below.refl w.heap.size w)
 have H := h
 clear h
 unfold peristylelaw16_awake.f at H
 obtain ⟨y461, hy461⟩ : ∃ y_ : List Int, y_ = (([5, 3, 4, 3] : List Int)) := ⟨_, rfl⟩
 replace H : ((poslist_From.f k y461).bind fun bt464 => ((poslist_All.f k 100).bind fun bt476 => ((poslist_List_And.f k bt476.1 bt476.2.1 bt476.2.2.1 bt476.2.2.2.1 bt464.1 bt464.2.1 bt464.2.2.1 bt464.2.2.2.1).bind fun bt488 => ((poslist_List_Pick.f k bt488.1 bt488.2.1 bt488.2.2.1 bt488.2.2.2 1).bind fun bt498 => (if bt464.2.2.2.2 = 0 then ((poslist_List_Form.f bt464.1 bt464.2.1 bt464.2.2.1 bt464.2.2.2.1).bind fun t500 => (if t500 = 3 then ((peristylelaw16_listed.f k bt464.1 bt464.2.1 bt464.2.2.1 bt464.2.2.2.1).bind fun t501 => ((peristyleref01_Same.f k t501 (([3, 4, 5] : List Int))).bind fun t507 => (if t507 = true then (if bt476.2.2.2.2 = 0 then ((poslist_List_Form.f bt476.1 bt476.2.1 bt476.2.2.1 bt476.2.2.2.1).bind fun t508 => (if t508 = 1 then (if bt498.1 = 4 then (if bt498.2 = 0 then ((poslist_List_Less.f k bt476.1 bt476.2.1 bt476.2.2.1 bt476.2.2.2.1 bt464.1 bt464.2.1 bt464.2.2.1 bt464.2.2.2.1).bind fun bt509 => ((poslist_List_Count.f k bt509.1 bt509.2.1 bt509.2.2.1 bt509.2.2.2).bind fun t519 => (if t519 = 97 then ((poslist_List_Cost.f k bt464.1 bt464.2.1 bt464.2.2.1 bt464.2.2.2.1 2).bind fun t520 => (some (t520 == 8))) else (none)))) else (none)) else (none)) else (none))) else (none)) else (none)))) else (none))) else (none)))))) = some r := by (rw [hy461]; with_reducible exact H)
 have Ny461 := Aside0.mk hy461
 clear hy461
 replace H := bd H
 obtain ⟨⟨t464, t465, t468, t471, t474⟩, A1, H⟩ := H
 dsimp only at H
 replace H := bd H
 obtain ⟨⟨t476, t477, t480, t483, t486⟩, A2, H⟩ := H
 dsimp only at H
 replace H := bd H
 obtain ⟨⟨t488, t489, t492, t495⟩, A3, H⟩ := H
 dsimp only at H
 replace H := bd H
 obtain ⟨⟨t498, t499⟩, A4, H⟩ := H
 dsimp only at H
 replace H := ife H
 rcases H with ⟨-, c5b0, c5b1, H⟩ | ⟨-, -, -, ⟨⟩⟩
 replace H := bd H
 obtain ⟨t500, A6, H⟩ := H
 replace H := ife H
 rcases H with ⟨-, c7b0, c7b1, H⟩ | ⟨-, -, -, ⟨⟩⟩
 replace H := bd H
 obtain ⟨t501, A8, H⟩ := H
 obtain ⟨y504, hy504⟩ : ∃ y_ : List Int, y_ = (([3, 4, 5] : List Int)) := ⟨_, rfl⟩
 replace H : ((peristyleref01_Same.f k t501 y504).bind fun t507 => (if t507 = true then (if t486 = 0 then ((poslist_List_Form.f t476 t477 t480 t483).bind fun t508 => (if t508 = 1 then (if t498 = 4 then (if t499 = 0 then ((poslist_List_Less.f k t476 t477 t480 t483 t464 t465 t468 t471).bind fun bt509 => ((poslist_List_Count.f k bt509.1 bt509.2.1 bt509.2.2.1 bt509.2.2.2).bind fun t519 => (if t519 = 97 then ((poslist_List_Cost.f k t464 t465 t468 t471 2).bind fun t520 => (some (t520 == 8))) else (none)))) else (none)) else (none)) else (none))) else (none)) else (none))) = some r := by (rw [hy504]; with_reducible exact H)
 have Ny504 := Aside0.mk hy504
 clear hy504
 replace H := bd H
 obtain ⟨t507, A9, H⟩ := H
 replace H := ifb H
 rcases H with ⟨rfl, H⟩ | ⟨-, ⟨⟩⟩
 replace H := ife H
 rcases H with ⟨-, c11b0, c11b1, H⟩ | ⟨-, -, -, ⟨⟩⟩
 replace H := bd H
 obtain ⟨t508, A12, H⟩ := H
 replace H := ife H
 rcases H with ⟨-, c13b0, c13b1, H⟩ | ⟨-, -, -, ⟨⟩⟩
 replace H := ife H
 rcases H with ⟨-, c14b0, c14b1, H⟩ | ⟨-, -, -, ⟨⟩⟩
 replace H := ife H
 rcases H with ⟨-, c15b0, c15b1, H⟩ | ⟨-, -, -, ⟨⟩⟩
 replace H := bd H
 obtain ⟨⟨t509, t510, t513, t516⟩, A16, H⟩ := H
 dsimp only at H
 replace H := bd H
 obtain ⟨t519, A17, H⟩ := H
 replace H := ife H
 rcases H with ⟨-, c18b0, c18b1, H⟩ | ⟨-, -, -, ⟨⟩⟩
 replace H := bd H
 obtain ⟨t520, A19, H⟩ := H
 obtain rfl := Option.some.inj H
 go_enter Tryz.func9, Tryz.ntmps9
 go_wp2_with (first | ((with_reducible refine gate_dst (N := 8) rfl ?_); ((refine gate_guard (by rfl) ?_; dsimp only)); refine Kd.R_lit (Kd.int .i64) _ 3 ?hg (N := 8) ?hd (xs := ([5, 3, 4, 3] : List Int)) (inner := [.int .i64 5, .int .i64 3, .int .i64 4, .int .i64 3]) (ok := fun _ => True) (okp := fun _ => True) ?hr ?hp (fun _ hk => hk) trivial (Below.refl _ _) (Nat.le_refl _) (by simp) ?_; (case hd => rfl); (case hg => rfl); (case hr => (go_simp; done)); (case hp => exact (Reps.one (show Kd.M (Kd.int .i64) _ _ _ 5 [.int .i64 5] from rfl) (Reps.one (show Kd.M (Kd.int .i64) _ _ _ 3 [.int .i64 3] from rfl) (Reps.one (show Kd.M (Kd.int .i64) _ _ _ 4 [.int .i64 4] from rfl) (Reps.one (show Kd.M (Kd.int .i64) _ _ _ 3 [.int .i64 3] from rfl) (Reps.none _ _)))))); intro v462 w20 ho21 hb hg_ hnew_; clear hg_ hnew_; (rw [← Ny461.out] at ho21); have HO463 := Aside0.mk (Kd.R_lower ho21 (below_size (bh HB.out))); replace HB := bsa HB hb; clear hb ho21; obtain ⟨Ao22, co22, eo22⟩ := Kd.R_slice HO463.out; subst eo22) | ((with_reducible refine gate_callee (f := 16) rfl ?_); refine gL 9 Tryz.func16 #[.slice Ao22 y461.length co22] ?_; (with_reducible refine (poslist_From.calls k _ _ y461 t464 t465 t468 t471 t474 _ ?side1 ?side2 A1.out).mono ?_); (case side1 => exact cx (Kd.R_reads' HO463.out).2.2); (case side2 => exact (Kd.R_reads' HO463.out).2.1); rintro e w23 ⟨v466, v469, v472, rfl, ho0, ho1, ho2, hb⟩; refine ⟨_, rfl, ?_⟩; have HO467 := Aside0.mk (Kd.R_lower ho0 (below_size (bh HB.out))); have HO470 := Aside0.mk (Kd.R_lower (Kd.R_new' ho1 (Kd.R_lt (rx HO463.out))) (below_size (bh HB.out))); have HO473 := Aside0.mk (Kd.R_lower (Kd.R_new' ho2 (Kd.R_lt (rx HO463.out))) (below_size (bh HB.out))); replace HO463 := Aside0.mk (Kd.R_mono (Kd.R_told (Kd.R_told (Kd.R_old (rx HO463.out) hb) (Kd.R_base ho1)) (Kd.R_base ho2)) (fun _ h_ => h_.1)); replace HB := bsa HB hb; clear hb ho0 ho1 ho2) | ((with_reducible refine gate_dst (N := 1) rfl ?_); ((refine gate_guard (by rfl) ?_; dsimp only)); refine box_event ?hg (N := 1) ?hd (cs := #[.int .i64 0, .slice none 0 0, .slice none 0 0, .slice none 0 0]) (t := 27) ?hr ?_; (case hd => rfl); (case hg => rfl); (case hr => (go_simp; done)); intro gb475 hg w24 hbox hb; replace HO463 := rba HO463 hb; replace HO467 := rba HO467 hb; replace HO470 := rba HO470 hb; replace HO473 := rba HO473 hb; have BK475 := Aside0.mk (hbox); have GW475 := bza HB hg; have GE475 := bza HB hg; replace HB := bsa HB hb; clear hb hbox hg; obtain ⟨hcz25_0, hcz25_1, hcz25_2, hcz25_3, hfz25_0, hfz25_1, hfz25_2, hfz25_3⟩ := b4 BK475; obtain ⟨Ao26, co26, eo26⟩ := Kd.R_slice HO467.out; subst eo26; obtain ⟨Ao27, co27, eo27⟩ := Kd.R_slice HO470.out; subst eo27; obtain ⟨Ao28, co28, eo28⟩ := Kd.R_slice HO473.out; subst eo28) | ((with_reducible refine gate_store (t := 27) (p := 1) rfl ?_); refine stE 27 1 ((((w24.setCell ⟨gb475, 0, none⟩ (.int .i64 t464)).setCell ⟨gb475, 1, none⟩ (.slice Ao26 t465.length co26)).setCell ⟨gb475, 2, none⟩ (.slice Ao27 t468.length co27)).setCell ⟨gb475, 3, none⟩ (.slice Ao28 t471.length co28)) ?_; intro w29 hw; replace HO463 := rsm (fun k_ => some k_ ≠ (.slice Ao27 t468.length co27 : Value).ownBlock ∧ some k_ ≠ (.slice Ao28 t471.length co28 : Value).ownBlock) HO463 hw (fun _ hk => ⟨hk.1.2, hk.2⟩); replace HO467 := rsm (fun _ => True) HO467 hw (fun _ hk => trivial); replace HO470 := rsm (fun k_ => some k_ ≠ (.slice Ao22 y461.length co22 : Value).ownBlock ∧ some k_ ≠ (.slice Ao28 t471.length co28 : Value).ownBlock) HO470 hw (fun _ hk => ⟨hk.2, hk.1⟩); replace HO473 := rsm (fun k_ => some k_ ≠ (.slice Ao22 y461.length co22 : Value).ownBlock ∧ some k_ ≠ (.slice Ao27 t468.length co27 : Value).ownBlock) HO473 hw (fun _ hk => ⟨hk.2, hk.1⟩); replace BK475 := sps #[.int .i64 t464, .slice Ao26 t465.length co26, .slice Ao27 t468.length co27, .slice Ao28 t471.length co28] BK475 hw (.p (.p (.p (.p .nil)))); replace HB := bhw HB hw; clear hw) | ((with_reducible refine gate_callee (f := 18) rfl ?_); refine gL 13 Tryz.func18 #[.int .i64 100] ?_; (with_reducible refine (poslist_All.calls k 100 t476 t477 t480 t483 t486 _ A2.out).mono ?_); rintro e w30 ⟨v478, v481, v484, rfl, ho0, ho1, ho2, hb⟩; refine ⟨_, rfl, ?_⟩; have HO479 := Aside0.mk (Kd.R_lower (Kd.R_new' ho0 (Kd.R_lt (rx HO467.out))) (below_size (bh HB.out))); replace HO467 := Aside0.mk (Kd.R_elder' (rx HO467.out) (Kd.R_base ho0) hb); have HO482 := Aside0.mk (Kd.R_lower (Kd.R_new' (Kd.R_new' (Kd.R_new' ho1 (Kd.R_lt (rx HO463.out))) (Kd.R_lt (rx HO470.out))) (Kd.R_lt (rx HO473.out))) (below_size (bh HB.out))); have HO485 := Aside0.mk (Kd.R_lower (Kd.R_new' (Kd.R_new' (Kd.R_new' ho2 (Kd.R_lt (rx HO463.out))) (Kd.R_lt (rx HO470.out))) (Kd.R_lt (rx HO473.out))) (below_size (bh HB.out))); replace HO463 := Aside0.mk (Kd.R_mono (Kd.R_told (Kd.R_told (Kd.R_old (rx HO463.out) hb) (Kd.R_base ho1)) (Kd.R_base ho2)) (fun _ h_ => h_.1)); replace HO470 := Aside0.mk (Kd.R_mono (Kd.R_told (Kd.R_told (Kd.R_old (rx HO470.out) hb) (Kd.R_base ho1)) (Kd.R_base ho2)) (fun _ h_ => h_.1)); replace HO473 := Aside0.mk (Kd.R_mono (Kd.R_told (Kd.R_told (Kd.R_old (rx HO473.out) hb) (Kd.R_base ho1)) (Kd.R_base ho2)) (fun _ h_ => h_.1)); replace BK475 := bba BK475 hb; replace HB := bsa HB hb; clear hb ho0 ho1 ho2) | ((with_reducible refine gate_dst (N := 3) rfl ?_); ((refine gate_guard (by rfl) ?_; dsimp only)); refine box_event ?hg (N := 3) ?hd (cs := #[.int .i64 0, .slice none 0 0, .slice none 0 0, .slice none 0 0]) (t := 27) ?hr ?_; (case hd => rfl); (case hg => rfl); (case hr => (go_simp; done)); intro gb487 hg w31 hbox hb; replace HO463 := rba HO463 hb; replace HO467 := rba HO467 hb; replace HO470 := rba HO470 hb; replace HO473 := rba HO473 hb; replace HO479 := rba HO479 hb; replace HO482 := rba HO482 hb; replace HO485 := rba HO485 hb; have BK487 := Aside0.mk (hbox); have GW487 := bza HB hg; have GE487 := bza HB hg; replace HB := bsa HB hb; obtain ⟨NB475_487, NB487_475⟩ := bnm BK475 hg; replace BK475 := bba BK475 hb; clear hb hbox hg; have hnb32 := NB487_475.out; have hnc32 := NB475_487.out; obtain ⟨hcz33_0, hcz33_1, hcz33_2, hcz33_3, hfz33_0, hfz33_1, hfz33_2, hfz33_3⟩ := b4 BK487; obtain ⟨Ao34, co34, eo34⟩ := Kd.R_slice HO479.out; subst eo34; obtain ⟨Ao35, co35, eo35⟩ := Kd.R_slice HO482.out; subst eo35; obtain ⟨Ao36, co36, eo36⟩ := Kd.R_slice HO485.out; subst eo36) | ((with_reducible refine gate_store (t := 27) (p := 3) rfl ?_); refine stE 27 3 ((((w31.setCell ⟨gb487, 0, none⟩ (.int .i64 t476)).setCell ⟨gb487, 1, none⟩ (.slice Ao34 t477.length co34)).setCell ⟨gb487, 2, none⟩ (.slice Ao35 t480.length co35)).setCell ⟨gb487, 3, none⟩ (.slice Ao36 t483.length co36)) ?_; intro w37 hw; have n0_ := rsm (fun k_ => some k_ ≠ (.slice Ao27 t468.length co27 : Value).ownBlock ∧ some k_ ≠ (.slice Ao28 t471.length co28 : Value).ownBlock ∧ some k_ ≠ (.slice Ao35 t480.length co35 : Value).ownBlock ∧ some k_ ≠ (.slice Ao36 t483.length co36 : Value).ownBlock) HO463 hw (fun _ hk => ⟨hk.1.1.1, ⟨hk.1.1.2, ⟨hk.1.2, hk.2⟩⟩⟩); have n1_ := rsm (fun k_ => some k_ ≠ (.slice Ao34 t477.length co34 : Value).ownBlock) HO467 hw (fun _ hk => hk.2); have n2_ := rsm (fun k_ => some k_ ≠ (.slice Ao22 y461.length co22 : Value).ownBlock ∧ some k_ ≠ (.slice Ao28 t471.length co28 : Value).ownBlock ∧ some k_ ≠ (.slice Ao35 t480.length co35 : Value).ownBlock ∧ some k_ ≠ (.slice Ao36 t483.length co36 : Value).ownBlock) HO470 hw (fun _ hk => ⟨hk.1.1.1, ⟨hk.1.1.2, ⟨hk.1.2, hk.2⟩⟩⟩); have n3_ := rsm (fun k_ => some k_ ≠ (.slice Ao22 y461.length co22 : Value).ownBlock ∧ some k_ ≠ (.slice Ao27 t468.length co27 : Value).ownBlock ∧ some k_ ≠ (.slice Ao35 t480.length co35 : Value).ownBlock ∧ some k_ ≠ (.slice Ao36 t483.length co36 : Value).ownBlock) HO473 hw (fun _ hk => ⟨hk.1.1.1, ⟨hk.1.1.2, ⟨hk.1.2, hk.2⟩⟩⟩); have n4_ := rsm (fun k_ => some k_ ≠ (.slice Ao26 t465.length co26 : Value).ownBlock) HO479 hw (fun _ hk => hk.2); have n5_ := rsm (fun k_ => some k_ ≠ (.slice Ao22 y461.length co22 : Value).ownBlock ∧ some k_ ≠ (.slice Ao27 t468.length co27 : Value).ownBlock ∧ some k_ ≠ (.slice Ao28 t471.length co28 : Value).ownBlock ∧ some k_ ≠ (.slice Ao36 t483.length co36 : Value).ownBlock) HO482 hw (fun _ hk => ⟨hk.1.1.2, ⟨hk.1.2, ⟨hk.2, hk.1.1.1⟩⟩⟩); have n6_ := rsm (fun k_ => some k_ ≠ (.slice Ao22 y461.length co22 : Value).ownBlock ∧ some k_ ≠ (.slice Ao27 t468.length co27 : Value).ownBlock ∧ some k_ ≠ (.slice Ao28 t471.length co28 : Value).ownBlock ∧ some k_ ≠ (.slice Ao35 t480.length co35 : Value).ownBlock) HO485 hw (fun _ hk => ⟨hk.1.1.2, ⟨hk.1.2, ⟨hk.2, hk.1.1.1⟩⟩⟩); have n7_ : Aside0 (w37.heap[gb475]? = some (.cells #[.int .i64 t464, .slice Ao26 t465.length co26, .slice Ao27 t468.length co27, .slice Ao28 t471.length co28] 27 (0, 0))) := ⟨(by rw [hw]; exact (bx BK475.out))⟩; have n8_ := sps #[.int .i64 t476, .slice Ao34 t477.length co34, .slice Ao35 t480.length co35, .slice Ao36 t483.length co36] BK487 hw (.p (.p (.p (.p .nil)))); have n9_ := bhw HB hw; clear hw HO463 HO467 HO470 HO473 HO479 HO482 HO485 BK475 BK487 HB; have HO463 := n0_; have HO467 := n1_; have HO470 := n2_; have HO473 := n3_; have HO479 := n4_; have HO482 := n5_; have HO485 := n6_; have BK475 := n7_; have BK487 := n8_; have HB := n9_; clear n0_ n1_ n2_ n3_ n4_ n5_ n6_ n7_ n8_ n9_; obtain ⟨hcz38_0, hcz38_1, hcz38_2, hcz38_3, hfz38_0, hfz38_1, hfz38_2, hfz38_3⟩ := b4 BK487; obtain ⟨hcz39_0, hcz39_1, hcz39_2, hcz39_3, hfz39_0, hfz39_1, hfz39_2, hfz39_3⟩ := b4 BK475) | ((with_reducible refine gate_callee (f := 22) rfl ?_); refine gL 19 Tryz.func22 #[.agg #[.int .i64 t476, .slice Ao34 t477.length co34, .slice Ao35 t480.length co35, .slice Ao36 t483.length co36], .agg #[.int .i64 t464, .slice Ao26 t465.length co26, .slice Ao27 t468.length co27, .slice Ao28 t471.length co28]] ?_; (with_reducible refine (poslist_List_And.calls k t476 _ _ t477 _ _ t480 _ _ t483 t464 _ _ t465 _ _ t468 _ _ t471 t488 t489 t492 t495 _ ?side1 ?side2 ?side3 ?side4 ?side5 ?side6 ?side7 ?side8 ?side9 ?side10 ?side11 ?side12 A3.out).mono ?_); (case side1 => exact cx (Kd.R_reads' HO479.out).2.2); (case side2 => exact (Kd.R_reads' HO479.out).2.1); (case side3 => exact cx (Kd.R_reads' HO482.out).2.2); (case side4 => exact (Kd.R_reads' HO482.out).2.1); (case side5 => exact cx (Kd.R_reads' HO485.out).2.2); (case side6 => exact (Kd.R_reads' HO485.out).2.1); (case side7 => exact cx (Kd.R_reads' HO467.out).2.2); (case side8 => exact (Kd.R_reads' HO467.out).2.1); (case side9 => exact cx (Kd.R_reads' HO470.out).2.2); (case side10 => exact (Kd.R_reads' HO470.out).2.1); (case side11 => exact cx (Kd.R_reads' HO473.out).2.2); (case side12 => exact (Kd.R_reads' HO473.out).2.1); rintro e w40 ⟨v490, v493, v496, rfl, ho0, ho1, ho2, hb⟩; refine ⟨_, rfl, ?_⟩; have HO491 := Aside0.mk (Kd.R_lower (Kd.R_new' (Kd.R_new' ho0 (Kd.R_lt (rx HO467.out))) (Kd.R_lt (rx HO479.out))) (below_size (bh HB.out))); replace HO467 := Aside0.mk (Kd.R_elder' (rx HO467.out) (Kd.R_base ho0) hb); replace HO479 := Aside0.mk (Kd.R_elder' (rx HO479.out) (Kd.R_base ho0) hb); have HO494 := Aside0.mk (Kd.R_lower (Kd.R_new' (Kd.R_new' (Kd.R_new' (Kd.R_new' (Kd.R_new' ho1 (Kd.R_lt (rx HO463.out))) (Kd.R_lt (rx HO470.out))) (Kd.R_lt (rx HO473.out))) (Kd.R_lt (rx HO482.out))) (Kd.R_lt (rx HO485.out))) (below_size (bh HB.out))); have HO497 := Aside0.mk (Kd.R_lower (Kd.R_new' (Kd.R_new' (Kd.R_new' (Kd.R_new' (Kd.R_new' ho2 (Kd.R_lt (rx HO463.out))) (Kd.R_lt (rx HO470.out))) (Kd.R_lt (rx HO473.out))) (Kd.R_lt (rx HO482.out))) (Kd.R_lt (rx HO485.out))) (below_size (bh HB.out))); replace HO463 := Aside0.mk (Kd.R_mono (Kd.R_told (Kd.R_told (Kd.R_old (rx HO463.out) hb) (Kd.R_base ho1)) (Kd.R_base ho2)) (fun _ h_ => h_.1)); replace HO470 := Aside0.mk (Kd.R_mono (Kd.R_told (Kd.R_told (Kd.R_old (rx HO470.out) hb) (Kd.R_base ho1)) (Kd.R_base ho2)) (fun _ h_ => h_.1)); replace HO473 := Aside0.mk (Kd.R_mono (Kd.R_told (Kd.R_told (Kd.R_old (rx HO473.out) hb) (Kd.R_base ho1)) (Kd.R_base ho2)) (fun _ h_ => h_.1)); replace HO482 := Aside0.mk (Kd.R_mono (Kd.R_told (Kd.R_told (Kd.R_old (rx HO482.out) hb) (Kd.R_base ho1)) (Kd.R_base ho2)) (fun _ h_ => h_.1)); replace HO485 := Aside0.mk (Kd.R_mono (Kd.R_told (Kd.R_told (Kd.R_old (rx HO485.out) hb) (Kd.R_base ho1)) (Kd.R_base ho2)) (fun _ h_ => h_.1)); replace BK475 := bba BK475 hb; replace BK487 := bba BK487 hb; replace HB := bsa HB hb; clear hb ho0 ho1 ho2; obtain ⟨Ao41, co41, eo41⟩ := Kd.R_slice HO491.out; subst eo41; obtain ⟨Ao42, co42, eo42⟩ := Kd.R_slice HO494.out; subst eo42; obtain ⟨Ao43, co43, eo43⟩ := Kd.R_slice HO497.out; subst eo43) | ((with_reducible refine gate_callee (f := 31) rfl ?_); refine gL 20 Tryz.func31 #[.agg #[.int .i64 t488, .slice Ao41 t489.length co41, .slice Ao42 t492.length co42, .slice Ao43 t495.length co43], .int .i64 1] ?_; (with_reducible refine (poslist_List_Pick.calls k t488 _ _ t489 _ _ t492 _ _ t495 1 t498 t499 _ ?side1 ?side2 ?side3 ?side4 ?side5 ?side6 A4.out).mono ?_); (case side1 => exact cx (Kd.R_reads' HO491.out).2.2); (case side2 => exact (Kd.R_reads' HO491.out).2.1); (case side3 => exact cx (Kd.R_reads' HO494.out).2.2); (case side4 => exact (Kd.R_reads' HO494.out).2.1); (case side5 => exact cx (Kd.R_reads' HO497.out).2.2); (case side6 => exact (Kd.R_reads' HO497.out).2.1); rintro e w44 ⟨rfl, hb⟩; refine ⟨_, rfl, ?_⟩; replace HO463 := rba HO463 hb; replace HO467 := rba HO467 hb; replace HO470 := rba HO470 hb; replace HO473 := rba HO473 hb; replace HO479 := rba HO479 hb; replace HO482 := rba HO482 hb; replace HO485 := rba HO485 hb; replace HO491 := rba HO491 hb; replace HO494 := rba HO494 hb; replace HO497 := rba HO497 hb; replace BK475 := bba BK475 hb; replace BK487 := bba BK487 hb; replace HB := bsa HB hb; clear hb; obtain ⟨hcz45_0, hcz45_1, hcz45_2, hcz45_3, hfz45_0, hfz45_1, hfz45_2, hfz45_3⟩ := b4 BK475) | (go_at_call 28; (with_reducible refine (poslist_List_Form.calls t464 _ _ t465 _ _ t468 _ _ t471 t500 _ ?side1 ?side2 ?side3 ?side4 ?side5 ?side6 A6.out).mono ?_); (case side1 => exact cx (Kd.R_reads' HO467.out).2.2); (case side2 => exact (Kd.R_reads' HO467.out).2.1); (case side3 => exact cx (Kd.R_reads' HO470.out).2.2); (case side4 => exact (Kd.R_reads' HO470.out).2.1); (case side5 => exact cx (Kd.R_reads' HO473.out).2.2); (case side6 => exact (Kd.R_reads' HO473.out).2.1); rintro e w46 ⟨rfl, hb⟩; replace HO463 := rba HO463 hb; replace HO467 := rba HO467 hb; replace HO470 := rba HO470 hb; replace HO473 := rba HO473 hb; replace HO479 := rba HO479 hb; replace HO482 := rba HO482 hb; replace HO485 := rba HO485 hb; replace HO491 := rba HO491 hb; replace HO494 := rba HO494 hb; replace HO497 := rba HO497 hb; replace BK475 := bba BK475 hb; replace BK487 := bba BK487 hb; replace HB := bsa HB hb; clear hb A6; obtain ⟨hcz47_0, hcz47_1, hcz47_2, hcz47_3, hfz47_0, hfz47_1, hfz47_2, hfz47_3⟩ := b4 BK475) | (go_at_call 29; (with_reducible refine (peristylelaw16_listed.calls k t464 _ _ t465 _ _ t468 _ _ t471 t501 _ ?side1 ?side2 ?side3 ?side4 ?side5 ?side6 A8.out).mono ?_); (case side1 => exact cx (Kd.R_reads' HO467.out).2.2); (case side2 => exact (Kd.R_reads' HO467.out).2.1); (case side3 => exact cx (Kd.R_reads' HO470.out).2.2); (case side4 => exact (Kd.R_reads' HO470.out).2.1); (case side5 => exact cx (Kd.R_reads' HO473.out).2.2); (case side6 => exact (Kd.R_reads' HO473.out).2.1); rintro e w48 ⟨v502, rfl, ho0, hb⟩; replace HO467 := rba HO467 hb; replace HO479 := rba HO479 hb; replace HO491 := rba HO491 hb; have HO503 := Aside0.mk (Kd.R_lower (Kd.R_new' (Kd.R_new' (Kd.R_new' (Kd.R_new' (Kd.R_new' (Kd.R_new' (Kd.R_new' ho0 (Kd.R_lt (rx HO463.out))) (Kd.R_lt (rx HO470.out))) (Kd.R_lt (rx HO473.out))) (Kd.R_lt (rx HO482.out))) (Kd.R_lt (rx HO485.out))) (Kd.R_lt (rx HO494.out))) (Kd.R_lt (rx HO497.out))) (below_size (bh HB.out))); replace HO463 := Aside0.mk (Kd.R_elder' (rx HO463.out) (Kd.R_base ho0) hb); replace HO470 := Aside0.mk (Kd.R_elder' (rx HO470.out) (Kd.R_base ho0) hb); replace HO473 := Aside0.mk (Kd.R_elder' (rx HO473.out) (Kd.R_base ho0) hb); replace HO482 := Aside0.mk (Kd.R_elder' (rx HO482.out) (Kd.R_base ho0) hb); replace HO485 := Aside0.mk (Kd.R_elder' (rx HO485.out) (Kd.R_base ho0) hb); replace HO494 := Aside0.mk (Kd.R_elder' (rx HO494.out) (Kd.R_base ho0) hb); replace HO497 := Aside0.mk (Kd.R_elder' (rx HO497.out) (Kd.R_base ho0) hb); replace BK475 := bba BK475 hb; replace BK487 := bba BK487 hb; replace HB := bsa HB hb; clear hb ho0 A8) | ((with_reducible refine gate_dst (N := 33) rfl ?_); ((refine gate_guard (by rfl) ?_; dsimp only)); refine Kd.R_lit (Kd.int .i64) _ 3 ?hg (N := 33) ?hd (xs := ([3, 4, 5] : List Int)) (inner := [.int .i64 3, .int .i64 4, .int .i64 5]) (ok := fun _ => True) (okp := fun _ => True) ?hr ?hp (fun _ hk => hk) trivial (Below.refl _ _) (Nat.le_refl _) (by simp) ?_; (case hd => rfl); (case hg => rfl); (case hr => (go_simp; done)); (case hp => exact (Reps.one (show Kd.M (Kd.int .i64) _ _ _ 3 [.int .i64 3] from rfl) (Reps.one (show Kd.M (Kd.int .i64) _ _ _ 4 [.int .i64 4] from rfl) (Reps.one (show Kd.M (Kd.int .i64) _ _ _ 5 [.int .i64 5] from rfl) (Reps.none _ _))))); intro v505 w49 ho50 hb hg_ hnew_; clear hg_ hnew_; (rw [← Ny504.out] at ho50); replace HO467 := rba HO467 hb; replace HO479 := rba HO479 hb; replace HO491 := rba HO491 hb; have HO506 := Aside0.mk (Kd.R_lower (Kd.R_new' (Kd.R_new' (Kd.R_new' (Kd.R_new' (Kd.R_new' (Kd.R_new' (Kd.R_new' (Kd.R_new' ho50 (Kd.R_lt (rx HO463.out))) (Kd.R_lt (rx HO470.out))) (Kd.R_lt (rx HO473.out))) (Kd.R_lt (rx HO482.out))) (Kd.R_lt (rx HO485.out))) (Kd.R_lt (rx HO494.out))) (Kd.R_lt (rx HO497.out))) (Kd.R_lt (rx HO503.out))) (below_size (bh HB.out))); replace HO463 := Aside0.mk (Kd.R_elder' (rx HO463.out) (Kd.R_base ho50) hb); replace HO470 := Aside0.mk (Kd.R_elder' (rx HO470.out) (Kd.R_base ho50) hb); replace HO473 := Aside0.mk (Kd.R_elder' (rx HO473.out) (Kd.R_base ho50) hb); replace HO482 := Aside0.mk (Kd.R_elder' (rx HO482.out) (Kd.R_base ho50) hb); replace HO485 := Aside0.mk (Kd.R_elder' (rx HO485.out) (Kd.R_base ho50) hb); replace HO494 := Aside0.mk (Kd.R_elder' (rx HO494.out) (Kd.R_base ho50) hb); replace HO497 := Aside0.mk (Kd.R_elder' (rx HO497.out) (Kd.R_base ho50) hb); replace HO503 := Aside0.mk (Kd.R_elder' (rx HO503.out) (Kd.R_base ho50) hb); replace BK475 := bba BK475 hb; replace BK487 := bba BK487 hb; replace HB := bsa HB hb; clear hb ho50; obtain ⟨Ao51, co51, eo51⟩ := Kd.R_slice HO503.out; subst eo51; obtain ⟨Ao52, co52, eo52⟩ := Kd.R_slice HO506.out; subst eo52) | (go_at_call 40; (with_reducible refine (peristyleref01_Same.calls k _ _ t501 _ _ y504 true _ ?side1 ?side2 ?side3 ?side4 A9.out).mono ?_); (case side1 => exact cx (Kd.R_reads' HO503.out).2.2); (case side2 => exact (Kd.R_reads' HO503.out).2.1); (case side3 => exact cx (Kd.R_reads' HO506.out).2.2); (case side4 => exact (Kd.R_reads' HO506.out).2.1); rintro e w' ⟨rfl, ⟨nd, rfl⟩⟩; clear A9; obtain ⟨hcz53_0, hcz53_1, hcz53_2, hcz53_3, hfz53_0, hfz53_1, hfz53_2, hfz53_3⟩ := b4 BK487) | (go_at_call 28; (with_reducible refine (poslist_List_Form.calls t476 _ _ t477 _ _ t480 _ _ t483 t508 _ ?side1 ?side2 ?side3 ?side4 ?side5 ?side6 A12.out).mono ?_); (case side1 => exact cx (Kd.R_reads' HO479.out).2.2); (case side2 => exact (Kd.R_reads' HO479.out).2.1); (case side3 => exact cx (Kd.R_reads' HO482.out).2.2); (case side4 => exact (Kd.R_reads' HO482.out).2.1); (case side5 => exact cx (Kd.R_reads' HO485.out).2.2); (case side6 => exact (Kd.R_reads' HO485.out).2.1); rintro e w54 ⟨rfl, hb⟩; replace HO463 := rba HO463 hb; replace HO467 := rba HO467 hb; replace HO470 := rba HO470 hb; replace HO473 := rba HO473 hb; replace HO479 := rba HO479 hb; replace HO482 := rba HO482 hb; replace HO485 := rba HO485 hb; replace HO491 := rba HO491 hb; replace HO494 := rba HO494 hb; replace HO497 := rba HO497 hb; replace HO503 := rba HO503 hb; replace HO506 := rba HO506 hb; replace BK475 := bba BK475 hb; replace BK487 := bba BK487 hb; replace HB := bsa HB hb; clear hb A12; obtain ⟨hcz55_0, hcz55_1, hcz55_2, hcz55_3, hfz55_0, hfz55_1, hfz55_2, hfz55_3⟩ := b4 BK487; obtain ⟨hcz56_0, hcz56_1, hcz56_2, hcz56_3, hfz56_0, hfz56_1, hfz56_2, hfz56_3⟩ := b4 BK475) | (go_at_call 25; (with_reducible refine (poslist_List_Less.calls k t476 _ _ t477 _ _ t480 _ _ t483 t464 _ _ t465 _ _ t468 _ _ t471 t509 t510 t513 t516 _ ?side1 ?side2 ?side3 ?side4 ?side5 ?side6 ?side7 ?side8 ?side9 ?side10 ?side11 ?side12 A16.out).mono ?_); (case side1 => exact cx (Kd.R_reads' HO479.out).2.2); (case side2 => exact (Kd.R_reads' HO479.out).2.1); (case side3 => exact cx (Kd.R_reads' HO482.out).2.2); (case side4 => exact (Kd.R_reads' HO482.out).2.1); (case side5 => exact cx (Kd.R_reads' HO485.out).2.2); (case side6 => exact (Kd.R_reads' HO485.out).2.1); (case side7 => exact cx (Kd.R_reads' HO467.out).2.2); (case side8 => exact (Kd.R_reads' HO467.out).2.1); (case side9 => exact cx (Kd.R_reads' HO470.out).2.2); (case side10 => exact (Kd.R_reads' HO470.out).2.1); (case side11 => exact cx (Kd.R_reads' HO473.out).2.2); (case side12 => exact (Kd.R_reads' HO473.out).2.1); rintro e w57 ⟨v511, v514, v517, rfl, ho0, ho1, ho2, hb⟩; have HO512 := Aside0.mk (Kd.R_lower (Kd.R_new' (Kd.R_new' (Kd.R_new' ho0 (Kd.R_lt (rx HO467.out))) (Kd.R_lt (rx HO479.out))) (Kd.R_lt (rx HO491.out))) (below_size (bh HB.out))); replace HO467 := Aside0.mk (Kd.R_elder' (rx HO467.out) (Kd.R_base ho0) hb); replace HO479 := Aside0.mk (Kd.R_elder' (rx HO479.out) (Kd.R_base ho0) hb); replace HO491 := Aside0.mk (Kd.R_elder' (rx HO491.out) (Kd.R_base ho0) hb); have HO515 := Aside0.mk (Kd.R_lower (Kd.R_new' (Kd.R_new' (Kd.R_new' (Kd.R_new' (Kd.R_new' (Kd.R_new' (Kd.R_new' (Kd.R_new' (Kd.R_new' ho1 (Kd.R_lt (rx HO463.out))) (Kd.R_lt (rx HO470.out))) (Kd.R_lt (rx HO473.out))) (Kd.R_lt (rx HO482.out))) (Kd.R_lt (rx HO485.out))) (Kd.R_lt (rx HO494.out))) (Kd.R_lt (rx HO497.out))) (Kd.R_lt (rx HO503.out))) (Kd.R_lt (rx HO506.out))) (below_size (bh HB.out))); have HO518 := Aside0.mk (Kd.R_lower (Kd.R_new' (Kd.R_new' (Kd.R_new' (Kd.R_new' (Kd.R_new' (Kd.R_new' (Kd.R_new' (Kd.R_new' (Kd.R_new' ho2 (Kd.R_lt (rx HO463.out))) (Kd.R_lt (rx HO470.out))) (Kd.R_lt (rx HO473.out))) (Kd.R_lt (rx HO482.out))) (Kd.R_lt (rx HO485.out))) (Kd.R_lt (rx HO494.out))) (Kd.R_lt (rx HO497.out))) (Kd.R_lt (rx HO503.out))) (Kd.R_lt (rx HO506.out))) (below_size (bh HB.out))); replace HO463 := Aside0.mk (Kd.R_mono (Kd.R_told (Kd.R_told (Kd.R_old (rx HO463.out) hb) (Kd.R_base ho1)) (Kd.R_base ho2)) (fun _ h_ => h_.1)); replace HO470 := Aside0.mk (Kd.R_mono (Kd.R_told (Kd.R_told (Kd.R_old (rx HO470.out) hb) (Kd.R_base ho1)) (Kd.R_base ho2)) (fun _ h_ => h_.1)); replace HO473 := Aside0.mk (Kd.R_mono (Kd.R_told (Kd.R_told (Kd.R_old (rx HO473.out) hb) (Kd.R_base ho1)) (Kd.R_base ho2)) (fun _ h_ => h_.1)); replace HO482 := Aside0.mk (Kd.R_mono (Kd.R_told (Kd.R_told (Kd.R_old (rx HO482.out) hb) (Kd.R_base ho1)) (Kd.R_base ho2)) (fun _ h_ => h_.1)); replace HO485 := Aside0.mk (Kd.R_mono (Kd.R_told (Kd.R_told (Kd.R_old (rx HO485.out) hb) (Kd.R_base ho1)) (Kd.R_base ho2)) (fun _ h_ => h_.1)); replace HO494 := Aside0.mk (Kd.R_mono (Kd.R_told (Kd.R_told (Kd.R_old (rx HO494.out) hb) (Kd.R_base ho1)) (Kd.R_base ho2)) (fun _ h_ => h_.1)); replace HO497 := Aside0.mk (Kd.R_mono (Kd.R_told (Kd.R_told (Kd.R_old (rx HO497.out) hb) (Kd.R_base ho1)) (Kd.R_base ho2)) (fun _ h_ => h_.1)); replace HO503 := Aside0.mk (Kd.R_mono (Kd.R_told (Kd.R_told (Kd.R_old (rx HO503.out) hb) (Kd.R_base ho1)) (Kd.R_base ho2)) (fun _ h_ => h_.1)); replace HO506 := Aside0.mk (Kd.R_mono (Kd.R_told (Kd.R_told (Kd.R_old (rx HO506.out) hb) (Kd.R_base ho1)) (Kd.R_base ho2)) (fun _ h_ => h_.1)); replace BK475 := bba BK475 hb; replace BK487 := bba BK487 hb; replace HB := bsa HB hb; clear hb ho0 ho1 ho2 A16; obtain ⟨Ao58, co58, eo58⟩ := Kd.R_slice HO512.out; subst eo58; obtain ⟨Ao59, co59, eo59⟩ := Kd.R_slice HO515.out; subst eo59; obtain ⟨Ao60, co60, eo60⟩ := Kd.R_slice HO518.out; subst eo60) | (go_at_call 19; (with_reducible refine (poslist_List_Count.calls k t509 _ _ t510 _ _ t513 _ _ t516 t519 _ ?side1 ?side2 ?side3 ?side4 ?side5 ?side6 A17.out).mono ?_); (case side1 => exact cx (Kd.R_reads' HO512.out).2.2); (case side2 => exact (Kd.R_reads' HO512.out).2.1); (case side3 => exact cx (Kd.R_reads' HO515.out).2.2); (case side4 => exact (Kd.R_reads' HO515.out).2.1); (case side5 => exact cx (Kd.R_reads' HO518.out).2.2); (case side6 => exact (Kd.R_reads' HO518.out).2.1); rintro e w61 ⟨rfl, hb⟩; replace HO463 := rba HO463 hb; replace HO467 := rba HO467 hb; replace HO470 := rba HO470 hb; replace HO473 := rba HO473 hb; replace HO479 := rba HO479 hb; replace HO482 := rba HO482 hb; replace HO485 := rba HO485 hb; replace HO491 := rba HO491 hb; replace HO494 := rba HO494 hb; replace HO497 := rba HO497 hb; replace HO503 := rba HO503 hb; replace HO506 := rba HO506 hb; replace HO512 := rba HO512 hb; replace HO515 := rba HO515 hb; replace HO518 := rba HO518 hb; replace BK475 := bba BK475 hb; replace BK487 := bba BK487 hb; replace HB := bsa HB hb; clear hb A17; obtain ⟨hcz62_0, hcz62_1, hcz62_2, hcz62_3, hfz62_0, hfz62_1, hfz62_2, hfz62_3⟩ := b4 BK475) | (go_at_call 14; (with_reducible refine (poslist_List_Cost.calls k t464 _ _ t465 _ _ t468 _ _ t471 2 t520 _ ?side1 ?side2 ?side3 ?side4 ?side5 ?side6 A19.out).mono ?_); (case side1 => exact cx (Kd.R_reads' HO467.out).2.2); (case side2 => exact (Kd.R_reads' HO467.out).2.1); (case side3 => exact cx (Kd.R_reads' HO470.out).2.2); (case side4 => exact (Kd.R_reads' HO470.out).2.1); (case side5 => exact cx (Kd.R_reads' HO473.out).2.2); (case side6 => exact (Kd.R_reads' HO473.out).2.1); rintro e w63 ⟨rfl, hb⟩; replace HO463 := rba HO463 hb; replace HO467 := rba HO467 hb; replace HO470 := rba HO470 hb; replace HO473 := rba HO473 hb; replace HO479 := rba HO479 hb; replace HO482 := rba HO482 hb; replace HO485 := rba HO485 hb; replace HO491 := rba HO491 hb; replace HO494 := rba HO494 hb; replace HO497 := rba HO497 hb; replace HO503 := rba HO503 hb; replace HO506 := rba HO506 hb; replace HO512 := rba HO512 hb; replace HO515 := rba HO515 hb; replace HO518 := rba HO518 hb; replace BK475 := bba BK475 hb; replace BK487 := bba BK487 hb; replace HB := bsa HB hb; clear hb A19))
 go_ret
 exact ⟨er, bh HB.out⟩

/-! ### peristyleref14_Spans: function 50 -/
def peristyleref14_Spans.l0 : Nat → List Bool → List (S64) → Int → Option ((List (S64)))
 | 0, _, _, _ => none
 | k + 1, x0, x3, x4 => if x4 < (x0.length : Int) then (if 0 ≤ x4 then (if rdOf false x0 x4 = true then (if x4 > 0 then (if 0 ≤ (wrap64 (x4 - 1)) then (if (wrap64 (x4 - 1)) < (x0.length : Int) then (if rdOf false x0 (wrap64 (x4 - 1)) = true then (if 0 ≤ (wrap64 ((x3.length : Int) - 1)) then (if (wrap64 ((x3.length : Int) - 1)) < (x3.length : Int) then (peristyleref14_Spans.l0 k x0 (x3.set ((wrap64 ((x3.length : Int) - 1)) : Int).toNat (⟨(rd_T64 x3 (wrap64 ((x3.length : Int) - 1))).f0, wrap64 (((rd_T64 x3 (wrap64 ((x3.length : Int) - 1))).f1) + 1)⟩ : S64)) (wrap64 (x4 + 1))) else (none)) else (none)) else (if x3.length < 8796093022208 then (peristyleref14_Spans.l0 k x0 (x3 ++ [(⟨x4, wrap64 (x4 + 1)⟩ : S64)]) (wrap64 (x4 + 1))) else (none))) else (none)) else (none)) else (if x3.length < 8796093022208 then (peristyleref14_Spans.l0 k x0 (x3 ++ [(⟨x4, wrap64 (x4 + 1)⟩ : S64)]) (wrap64 (x4 + 1))) else (none))) else (peristyleref14_Spans.l0 k x0 x3 (wrap64 (x4 + 1)))) else (none)) else (some x3)
def peristyleref14_Spans.f (k : Nat) (l0 : List Bool) : Option ((List (S64))) := peristyleref14_Spans.l0 k l0 ([] : List (S64)) 0
theorem peristyleref14_Spans.l0_succ (k) (a0) (a1) (a2) : type_of% (@peristyleref14_Spans.l0.eq_2 a0 a1 a2 k) := peristyleref14_Spans.l0.eq_2 a0 a1 a2 k
theorem peristyleref14_Spans.mono_l : ∀ k, (∀ y0 y1 y2, LeO (peristyleref14_Spans.l0 k y0 y1 y2) (peristyleref14_Spans.l0 (k + 1) y0 y1 y2))
 | 0 => fun _ _ _ r h => by simp [peristyleref14_Spans.l0] at h
 | k + 1 => by
  have ih0 := peristyleref14_Spans.mono_l k
  ·intro y0 y1 y2
   unfold peristyleref14_Spans.l0
   repeat' first | (with_reducible exact ih0 _ _ _) | (with_reducible exact LeO.refl _) | (with_reducible refine LeO.ite ?_ ?_)
theorem peristyleref14_Spans.mono : ∀ a0 k, LeO (peristyleref14_Spans.f k a0) (peristyleref14_Spans.f (k + 1) a0) := by
 intro a0 k
 have ih0 := peristyleref14_Spans.mono_l k
 unfold peristyleref14_Spans.f
 repeat' (with_reducible exact ih0 _ _ _)
set_option maxHeartbeats 8000000 in
set_option maxRecDepth 100000 in
theorem peristyleref14_Spans.calls (k : Nat) (A0 : Option Addr) (c0 : Nat) (l0 : List Bool) (r : List (S64)) (w : World) (hr0 : Kd.C Kd.bool w A0 l0.length l0) (hc0 : l0.length ≤ c0) (h : peristyleref14_Spans.f k l0 = some r) :
  Calls Tryz.prog 50 #[.slice A0 l0.length c0] w fun e w' => ∃ v0_ : Value, e = .returned (v0_) ∧ Kd.R k64 64 w' w.heap.size (fun _ => True) v0_ r ∧ Below w.heap.size w w' := by
 have hu64 := Tryz.underlying64
 have HR0 := Aside0.mk hr0
 have HC0 := Aside0.mk hc0
 clear hr0 hc0
 have HB := Aside0.mk (Below.refl w.heap.size w)
 have H := h
 clear h
 unfold peristyleref14_Spans.f at H
 have H' := Aside0.mk H
 clear H
 go_enter Tryz.func50, Tryz.ntmps50
 go_wp2
 go_loopg [3, 4] k (fun kq v3 v4 w' => ∃ (x3_1 : List (S64)) (x4_1 : Int), v4 = .int .i64 x4_1 ∧ Aside0 (peristyleref14_Spans.l0 kq l0 x3_1 x4_1 = some r) ∧ Aside0 (kq ≤ k) ∧ Aside0 (Kd.R k64 64 w' w.heap.size (fun _ => True) v3 x3_1) ∧ Aside0 (Below w.heap.size w w'))
 case atStart => exact ⟨(([] : List (S64))), (0), (by rfl), H', ⟨Nat.le_refl _⟩, ⟨nl⟩, ⟨bh HB.out⟩⟩
 case round =>
  clear H'
  obtain ⟨x3_1, x4_1, rfl, HA, HK1, HO_3, HB⟩ := hrel
  cases gk with
  | zero => exact absurd HA.out (by simp [peristyleref14_Spans.l0])
  | succ k1 =>
   have H := HA.out
   clear HA
   simp only [peristyleref14_Spans.l0] at H
   replace H := ifd H
   rcases H with ⟨-, c2b0, H⟩ | ⟨-, c2b0, H⟩
   ·replace H := ifn H
    obtain ⟨-, c3b0, H⟩ := H
    obtain ⟨bq4, hbq4⟩ : ∃ b_ : Bool, b_ = (rdOf false l0 x4_1) := ⟨_, rfl⟩
    replace H : (if bq4 = true then (if x4_1 > 0 then (if 0 ≤ (wrap64 (x4_1 - 1)) then (if (wrap64 (x4_1 - 1)) < (l0.length : Int) then (if rdOf false l0 (wrap64 (x4_1 - 1)) = true then (if 0 ≤ (wrap64 ((x3_1.length : Int) - 1)) then (if (wrap64 ((x3_1.length : Int) - 1)) < (x3_1.length : Int) then (peristyleref14_Spans.l0 k1 l0 (x3_1.set ((wrap64 ((x3_1.length : Int) - 1)) : Int).toNat (⟨(rd_T64 x3_1 (wrap64 ((x3_1.length : Int) - 1))).f0, wrap64 (((rd_T64 x3_1 (wrap64 ((x3_1.length : Int) - 1))).f1) + 1)⟩ : S64)) (wrap64 (x4_1 + 1))) else (none)) else (none)) else (if x3_1.length < 8796093022208 then (peristyleref14_Spans.l0 k1 l0 (x3_1 ++ [(⟨x4_1, wrap64 (x4_1 + 1)⟩ : S64)]) (wrap64 (x4_1 + 1))) else (none))) else (none)) else (none)) else (if x3_1.length < 8796093022208 then (peristyleref14_Spans.l0 k1 l0 (x3_1 ++ [(⟨x4_1, wrap64 (x4_1 + 1)⟩ : S64)]) (wrap64 (x4_1 + 1))) else (none))) else (peristyleref14_Spans.l0 k1 l0 x3_1 (wrap64 (x4_1 + 1)))) = some r := by rw [← hbq4] at H; exact H
    have Nbq4 := Aside0.mk hbq4
    clear hbq4
    replace H := ifb H
    rcases H with ⟨rfl, H⟩ | ⟨rfl, H⟩
    ·replace H := ifd H
     rcases H with ⟨-, c6b0, H⟩ | ⟨-, c6b0, H⟩
     ·obtain ⟨ji7, hji7⟩ : ∃ j_ : Int, (wrap64 (x4_1 - 1)) = j_ := ⟨_, rfl⟩
      replace H : (if 0 ≤ (ji7) then (if (ji7) < (l0.length : Int) then (if rdOf false l0 (ji7) = true then (if 0 ≤ (wrap64 ((x3_1.length : Int) - 1)) then (if (wrap64 ((x3_1.length : Int) - 1)) < (x3_1.length : Int) then (peristyleref14_Spans.l0 k1 l0 (x3_1.set ((wrap64 ((x3_1.length : Int) - 1)) : Int).toNat (⟨(rd_T64 x3_1 (wrap64 ((x3_1.length : Int) - 1))).f0, wrap64 (((rd_T64 x3_1 (wrap64 ((x3_1.length : Int) - 1))).f1) + 1)⟩ : S64)) (wrap64 (x4_1 + 1))) else (none)) else (none)) else (if x3_1.length < 8796093022208 then (peristyleref14_Spans.l0 k1 l0 (x3_1 ++ [(⟨x4_1, wrap64 (x4_1 + 1)⟩ : S64)]) (wrap64 (x4_1 + 1))) else (none))) else (none)) else (none)) = some r := by (rw [hji7] at H; exact H)
      have hji7w : (IntKind.i64.wrap (x4_1 - 1)) = ji7 := (i64_w _).trans hji7
      replace H := ifn H
      obtain ⟨-, c8b0, H⟩ := H
      replace H := ifn H
      obtain ⟨-, c9b0, H⟩ := H
      obtain ⟨bq10, hbq10⟩ : ∃ b_ : Bool, b_ = (rdOf false l0 (ji7)) := ⟨_, rfl⟩
      replace H : (if bq10 = true then (if 0 ≤ (wrap64 ((x3_1.length : Int) - 1)) then (if (wrap64 ((x3_1.length : Int) - 1)) < (x3_1.length : Int) then (peristyleref14_Spans.l0 k1 l0 (x3_1.set ((wrap64 ((x3_1.length : Int) - 1)) : Int).toNat (⟨(rd_T64 x3_1 (wrap64 ((x3_1.length : Int) - 1))).f0, wrap64 (((rd_T64 x3_1 (wrap64 ((x3_1.length : Int) - 1))).f1) + 1)⟩ : S64)) (wrap64 (x4_1 + 1))) else (none)) else (none)) else (if x3_1.length < 8796093022208 then (peristyleref14_Spans.l0 k1 l0 (x3_1 ++ [(⟨x4_1, wrap64 (x4_1 + 1)⟩ : S64)]) (wrap64 (x4_1 + 1))) else (none))) = some r := by rw [← hbq10] at H; exact H
      have Nbq10 := Aside0.mk hbq10
      clear hbq10
      replace H := ifb H
      rcases H with ⟨rfl, H⟩ | ⟨rfl, H⟩
      ·obtain ⟨ji12, hji12⟩ : ∃ j_ : Int, (wrap64 ((x3_1.length : Int) - 1)) = j_ := ⟨_, rfl⟩
       replace H : (if 0 ≤ (ji12) then (if (ji12) < (x3_1.length : Int) then (peristyleref14_Spans.l0 k1 l0 (x3_1.set ((ji12) : Int).toNat (⟨(rd_T64 x3_1 (ji12)).f0, wrap64 (((rd_T64 x3_1 (ji12)).f1) + 1)⟩ : S64)) (wrap64 (x4_1 + 1))) else (none)) else (none)) = some r := by (rw [hji12] at H; exact H)
       have hji12w : (IntKind.i64.wrap ((x3_1.length : Int) - 1)) = ji12 := (i64_w _).trans hji12
       replace H := ifn H
       obtain ⟨-, c13b0, H⟩ := H
       replace H := ifn H
       obtain ⟨-, c14b0, H⟩ := H
       obtain ⟨y524, hy524⟩ : ∃ y_ : List (S64), y_ = (x3_1.set ((ji12) : Int).toNat (⟨(rd_T64 x3_1 (ji12)).f0, wrap64 (((rd_T64 x3_1 (ji12)).f1) + 1)⟩ : S64)) := ⟨_, rfl⟩
       replace H : (peristyleref14_Spans.l0 k1 l0 y524 (wrap64 (x4_1 + 1))) = some r := by (rw [hy524]; with_reducible exact H)
       have Ny524 := Aside0.mk hy524
       clear hy524
       have H' := Aside0.mk H
       clear H
       have p521 : 0 ≤ (x4_1 : Int) := ad
       have q521 : x4_1 < (l0.length : Int) := ad
       obtain ⟨ad521, e521, hx521_0⟩ := Kd.at_bool HR0.out x4_1 p521 q521
       (rw [← Nbq4.out] at hx521_0)
       cases e521
       replace hx521_0 := cb HB.out.cell hx521_0
       replace p521 := eq_true p521
       replace q521 := eq_true q521
       have p522 : 0 ≤ ((ji7) : Int) := ad
       have q522 : (ji7) < (l0.length : Int) := ad
       obtain ⟨ad522, e522, hx522_0⟩ := Kd.at_bool HR0.out (ji7) p522 q522
       (rw [← Nbq10.out] at hx522_0)
       obtain rfl : ad521 = ad522 := (by injection e522)
       replace hx522_0 := cb HB.out.cell hx522_0
       replace p522 := eq_true p522
       replace q522 := eq_true q522
       obtain ⟨Ao16, co16, eo16⟩ := Kd.R_slice HO_3.out
       subst eo16
       have p523 : 0 ≤ ((ji12) : Int) := ad
       have q523 : (ji12) < (x3_1.length : Int) := ad
       obtain ⟨ad523, e523, hx523_0, hx523_1⟩ := at_T64 (Kd.R_reads' HO_3.out).2.2 (ji12) p523 q523
       cases e523
       replace p523 := eq_true p523
       replace q523 := eq_true q523
       have p15 : 0 ≤ ((ji12) : Int) := ad
       have q15 : ((ji12) : Int) < ((x3_1.length : Int) : Int) := ad
       obtain ⟨go15, co15, eo15, gb15, gl15, cl15, HG15⟩ := Kd.R_form HO_3.out (by omega)
       (cases eo15)
       have GB15 := Aside0.mk gb15
       have GG15 := Aside0.mk HG15
       clear gb15 gl15 HG15
       (simp only [add_plain] at hx523_0)
       (simp only [add_plain] at hx523_1)
       obtain ⟨ce15, hcl15, hM15, hcc15, hfr15⟩ := Kd.R_elem HO_3.out z64 ((ji12) : Int) p15 q15
       obtain rfl := k64_openM hM15
       have hx15_0 : wr.cell? ⟨go15, ((ji12) : Int).toNat * 2, none⟩ = some (.int .i64 ((rd_T64 x3_1 (ji12)).f0)) := hcc15 0 _ rfl
       have hx15_1 : wr.cell? ⟨go15, ((ji12) : Int).toNat * 2 + 1, none⟩ = some (.int .i64 ((rd_T64 x3_1 (ji12)).f1)) := hcc15 1 _ rfl
       have hf15_0 : wr.frozen? ⟨go15, ((ji12) : Int).toNat * 2, none⟩ = false := hfr15 0
       have hf15_1 : wr.frozen? ⟨go15, ((ji12) : Int).toNat * 2 + 1, none⟩ = false := hfr15 1
       clear hcl15 hcc15 hfr15 hM15
       replace p15 := eq_true p15
       replace q15 := eq_true q15
       have HX17 := Aside0.mk (show Kd.R k64 64 wr w.heap.size (fun _ => True) (.slice (some ⟨go15, 0, none⟩) x3_1.length co16) x3_1 from (rx HO_3.out))
       obtain ⟨ce17, hcl17, hM17, hcc17, hfr17⟩ := Kd.R_elem HX17.out z64 ((ji12) : Int) (of_decide_eq_true (by assumption)) (by have h_ : ((ji12) : Int) < ((x3_1.length : Int) : Int) := of_decide_eq_true (by assumption); exact h_)
       obtain rfl := k64_openM hM17
       have HP17 := Kd.R_seg HX17.out ((ji12) : Int) (of_decide_eq_true (by assumption)) (by have h_ : ((ji12) : Int) < ((x3_1.length : Int) : Int) := of_decide_eq_true (by assumption); exact h_) (seg := [.int .i64 (wrap64 (((rd_T64 x3_1 (ji12)).f1) + 1))]) (j := 1) hcl17 hcc17 (show 2 ≤ 2 from by decide) (x' := (⟨(rd_T64 x3_1 (ji12)).f0, wrap64 (((rd_T64 x3_1 (ji12)).f1) + 1)⟩ : S64)) (k64_mkM _ _ _ (⟨(rd_T64 x3_1 (ji12)).f0, wrap64 (((rd_T64 x3_1 (ji12)).f1) + 1)⟩ : S64) ) (fun _ hk => hk)
       have hx17_1 := hcc17 1 _ rfl
       (simp only [show (k64).sz = 2 from rfl, Nat.mul_one, Nat.add_zero] at hx17_1)
       have hf17_1 := hfr17 1
       (simp only [show (k64).sz = 2 from rfl, Nat.mul_one, Nat.add_zero] at hf17_1)
       clear hcl17 hcc17 hfr17 hM17
       go_wp2_with (((with_reducible refine gate_store (t := 3) (p := 34) rfl ?_); refine stE 3 34 (wr.setCell ⟨go15, ((ji12) : Int).toNat * 2 + 1, none⟩ (.int .i64 (wrap64 (((rd_T64 x3_1 (ji12)).f1) + 1)))) ?_; intro w18 hw; have hg : wr.grownBy w18 (some go15) := (by rw [hw]; exact HP17.2); have hp_ : Kd.R k64 64 w18 w.heap.size (fun _ => True) (.slice (some ⟨go15, 0, none⟩) x3_1.length co16) y524 := (by rw [hw, Ny524.out]; exact HP17.1); clear HP17; replace HO_3 := Aside0.mk (hp_); replace HB := Aside0.mk ((by rw [hw]; exact below_set (HB.out) GB15.out : Below w.heap.size w w18)); clear hg hw hp_))
       go_roundg k1
       case measure => have := HK1.out; omega
       case rel => exact ⟨(y524), (wrap64 (x4_1 + 1)), (by rfl), (by exact H'), ⟨by have := HK1.out; omega⟩, ⟨by exact HO_3.out⟩, ⟨bh HB.out⟩⟩
      ·replace H := ifn H
       obtain ⟨c19, -, H⟩ := H
       have LMc19 := Aside0.mk c19
       clear c19
       obtain ⟨y525, hy525⟩ : ∃ y_ : List (S64), y_ = (x3_1 ++ [(⟨x4_1, wrap64 (x4_1 + 1)⟩ : S64)]) := ⟨_, rfl⟩
       replace H : (peristyleref14_Spans.l0 k1 l0 y525 (wrap64 (x4_1 + 1))) = some r := by (rw [hy525]; with_reducible exact H)
       have Ny525 := Aside0.mk hy525
       clear hy525
       have H' := Aside0.mk H
       clear H
       have p521 : 0 ≤ (x4_1 : Int) := ad
       have q521 : x4_1 < (l0.length : Int) := ad
       obtain ⟨ad521, e521, hx521_0⟩ := Kd.at_bool HR0.out x4_1 p521 q521
       (rw [← Nbq4.out] at hx521_0)
       cases e521
       replace hx521_0 := cb HB.out.cell hx521_0
       replace p521 := eq_true p521
       replace q521 := eq_true q521
       have p522 : 0 ≤ ((ji7) : Int) := ad
       have q522 : (ji7) < (l0.length : Int) := ad
       obtain ⟨ad522, e522, hx522_0⟩ := Kd.at_bool HR0.out (ji7) p522 q522
       (rw [← Nbq10.out] at hx522_0)
       obtain rfl : ad521 = ad522 := (by injection e522)
       replace hx522_0 := cb HB.out.cell hx522_0
       replace p522 := eq_true p522
       replace q522 := eq_true q522
       go_wp2_with (((with_reducible refine gate_builtin (b := .append) (xs := #[.tmp 35, .tmp 40]) rfl ?_); at_builtin; refine Kd.R_append k64 (w0 := w) w.heap.size rfl (.tmp 35) (.tmp 40) 22 64 (.agg #[(.int .i64 0), (.int .i64 0)]) 16 rfl Tryz.underlying22 info64 rfl (by decide) (by omega) u3 x3_1 (⟨x4_1, wrap64 (x4_1 + 1)⟩ : S64) [.int .i64 x4_1, .int .i64 (wrap64 (x4_1 + 1))] (fun _ => True) (fun _ => False) rfl rfl ?aP (fun _ hk => hk.elim) ?aF ?aO ?aB ?aS ?aL ?_; (case aP => exact k64_mkM _ _ _ (⟨x4_1, wrap64 (x4_1 + 1)⟩ : S64)); (case aB => exact (bh HB.out)); (case aF => exact (fun _ _ => trivial)); (case aO => exact (rx HO_3.out)); (case aS => exact (below_size (bh HB.out))); (case aL => have := LMc19.out; omega); intro v526 w20 ho hb hg hat; rw [← Ny525.out] at ho; have n0_ := Aside0.mk (hb); have n1_ := Aside0.mk (ho); clear HB HO_3; have HB := n0_; have HO527 := n1_; clear n0_ n1_ ho hb hg hat))
       go_roundg k1
       case measure => have := HK1.out; omega
       case rel => exact ⟨(y525), (wrap64 (x4_1 + 1)), (by rfl), (by exact H'), ⟨by have := HK1.out; omega⟩, ⟨by exact HO527.out⟩, ⟨bh HB.out⟩⟩
     ·replace H := ifn H
      obtain ⟨c21, -, H⟩ := H
      have LMc21 := Aside0.mk c21
      clear c21
      obtain ⟨y528, hy528⟩ : ∃ y_ : List (S64), y_ = (x3_1 ++ [(⟨x4_1, wrap64 (x4_1 + 1)⟩ : S64)]) := ⟨_, rfl⟩
      replace H : (peristyleref14_Spans.l0 k1 l0 y528 (wrap64 (x4_1 + 1))) = some r := by (rw [hy528]; with_reducible exact H)
      have Ny528 := Aside0.mk hy528
      clear hy528
      have H' := Aside0.mk H
      clear H
      have p521 : 0 ≤ (x4_1 : Int) := ad
      have q521 : x4_1 < (l0.length : Int) := ad
      obtain ⟨ad521, e521, hx521_0⟩ := Kd.at_bool HR0.out x4_1 p521 q521
      (rw [← Nbq4.out] at hx521_0)
      cases e521
      replace hx521_0 := cb HB.out.cell hx521_0
      replace p521 := eq_true p521
      replace q521 := eq_true q521
      go_wp2_with (((with_reducible refine gate_builtin (b := .append) (xs := #[.tmp 35, .tmp 40]) rfl ?_); at_builtin; refine Kd.R_append k64 (w0 := w) w.heap.size rfl (.tmp 35) (.tmp 40) 22 64 (.agg #[(.int .i64 0), (.int .i64 0)]) 16 rfl Tryz.underlying22 info64 rfl (by decide) (by omega) u3 x3_1 (⟨x4_1, wrap64 (x4_1 + 1)⟩ : S64) [.int .i64 x4_1, .int .i64 (wrap64 (x4_1 + 1))] (fun _ => True) (fun _ => False) rfl rfl ?aP (fun _ hk => hk.elim) ?aF ?aO ?aB ?aS ?aL ?_; (case aP => exact k64_mkM _ _ _ (⟨x4_1, wrap64 (x4_1 + 1)⟩ : S64)); (case aB => exact (bh HB.out)); (case aF => exact (fun _ _ => trivial)); (case aO => exact (rx HO_3.out)); (case aS => exact (below_size (bh HB.out))); (case aL => have := LMc21.out; omega); intro v529 w22 ho hb hg hat; rw [← Ny528.out] at ho; have n0_ := Aside0.mk (hb); have n1_ := Aside0.mk (ho); clear HB HO_3; have HB := n0_; have HO530 := n1_; clear n0_ n1_ ho hb hg hat))
      go_roundg k1
      case measure => have := HK1.out; omega
      case rel => exact ⟨(y528), (wrap64 (x4_1 + 1)), (by rfl), H', ⟨by have := HK1.out; omega⟩, ⟨by exact HO530.out⟩, ⟨bh HB.out⟩⟩
    ·have H' := Aside0.mk H
     clear H
     have p521 : 0 ≤ (x4_1 : Int) := ad
     have q521 : x4_1 < (l0.length : Int) := ad
     obtain ⟨ad521, e521, hx521_0⟩ := Kd.at_bool HR0.out x4_1 p521 q521
     (rw [← Nbq4.out] at hx521_0)
     cases e521
     replace hx521_0 := cb HB.out.cell hx521_0
     replace p521 := eq_true p521
     replace q521 := eq_true q521
     go_wp2
     go_roundg k1
     case measure => have := HK1.out; omega
     case rel => exact ⟨(x3_1), (wrap64 (x4_1 + 1)), (by rfl), H', ⟨by have := HK1.out; omega⟩, ⟨by exact HO_3.out⟩, ⟨bh HB.out⟩⟩
   ·obtain rfl := Option.some.inj H
    go_wp2
    go_ret
    exact ⟨_, er, by exact HO_3.out, bh HB.out⟩

/-! ### peristyleref14_Of: function 17 -/
mutual
def peristyleref14_Of.l0 : Nat → List Int → Int → Int → Option ((List (S64)) × Int)
 | 0, _, _, _ => none
 | k + 1, x0, x4, x5 => if x5 < (x0.length : Int) then (if 0 ≤ x5 then (if (rd x0 x5) < 0 then (some (([] : List (S64)), 1)) else (if (rd x0 x5) ≥ 65536 then (some (([] : List (S64)), 1)) else (peristyleref14_Of.l0 k x0 (mx x4 (wrap64 ((rd x0 x5) + 1))) (wrap64 (x5 + 1))))) else (none)) else (if 0 ≤ x4 then (if (x4 : Int).toNat ≤ 281474976710656 then (peristyleref14_Of.l1 k x0 (List.replicate (x4 : Int).toNat false) 0) else (none)) else (none))
def peristyleref14_Of.l1 : Nat → List Int → List Bool → Int → Option ((List (S64)) × Int)
 | 0, _, _, _ => none
 | k + 1, x0, x6, x7 => if x7 < (x0.length : Int) then (if 0 ≤ x7 then (if 0 ≤ (rd x0 x7) then (if (rd x0 x7) < (x6.length : Int) then (peristyleref14_Of.l1 k x0 (x6.set ((rd x0 x7) : Int).toNat true) (wrap64 (x7 + 1))) else (none)) else (none)) else (none)) else ((peristyleref14_Spans.f k x6).bind fun t539 => (some (t539, 0)))
end
def peristyleref14_Of.f (k : Nat) (l0 : List Int) : Option ((List (S64)) × Int) := peristyleref14_Of.l0 k l0 0 0
theorem peristyleref14_Of.l0_succ (k) (a0) (a1) (a2) : type_of% (@peristyleref14_Of.l0.eq_2 a0 a1 a2 k) := peristyleref14_Of.l0.eq_2 a0 a1 a2 k
theorem peristyleref14_Of.l1_succ (k) (a0) (a1) (a2) : type_of% (@peristyleref14_Of.l1.eq_2 a0 a1 a2 k) := peristyleref14_Of.l1.eq_2 a0 a1 a2 k
theorem peristyleref14_Of.mono_l : ∀ k, (∀ y0 y1 y2, LeO (peristyleref14_Of.l0 k y0 y1 y2) (peristyleref14_Of.l0 (k + 1) y0 y1 y2)) ∧ (∀ y0 y1 y2, LeO (peristyleref14_Of.l1 k y0 y1 y2) (peristyleref14_Of.l1 (k + 1) y0 y1 y2))
 | 0 => ⟨fun _ _ _ r h => by simp [peristyleref14_Of.l0] at h, fun _ _ _ r h => by simp [peristyleref14_Of.l1] at h⟩
 | k + 1 => by
  obtain ⟨ih0, ih1⟩ := peristyleref14_Of.mono_l k
  refine ⟨?_, ?_⟩
  ·intro y0 y1 y2
   unfold peristyleref14_Of.l0
   repeat' first | (with_reducible exact ih0 _ _ _) | (with_reducible exact ih1 _ _ _) | (with_reducible exact LeO.refl _) | (with_reducible refine LeO.ite ?_ ?_)
  ·intro y0 y1 y2
   unfold peristyleref14_Of.l1
   repeat' first | (with_reducible exact ih1 _ _ _) | (with_reducible exact peristyleref14_Spans.mono _ _) | (with_reducible exact LeO.refl _) | (with_reducible refine LeO.ite ?_ ?_) | (with_reducible refine LeO.bind ?_ (fun _ => ?_))
theorem peristyleref14_Of.mono : ∀ a0 k, LeO (peristyleref14_Of.f k a0) (peristyleref14_Of.f (k + 1) a0) := by
 intro a0 k
 obtain ⟨ih0, ih1⟩ := peristyleref14_Of.mono_l k
 unfold peristyleref14_Of.f
 repeat' (with_reducible exact ih0 _ _ _)
set_option maxHeartbeats 8000000 in
set_option maxRecDepth 100000 in
theorem peristyleref14_Of.calls (k : Nat) (A0 : Option Addr) (c0 : Nat) (l0 : List Int) (r1 : List (S64)) (r2 : Int) (w : World) (hr0 : Kd.C (Kd.int .i64) w A0 l0.length l0) (hc0 : l0.length ≤ c0) (h : peristyleref14_Of.f k l0 = some (r1, r2)) :
  Calls Tryz.prog 17 #[.slice A0 l0.length c0] w fun e w' => ∃ v0_ : Value, e = .returned (.tuple #[v0_, .int .i64 r2]) ∧ Kd.R k64 64 w' w.heap.size (fun _ => True) v0_ r1 ∧ Below w.heap.size w w' := by
 have HR0 := Aside0.mk hr0
 have HC0 := Aside0.mk hc0
 clear hr0 hc0
 have HB := Aside0.mk (Below.refl w.heap.size w)
 have H := h
 clear h
 unfold peristyleref14_Of.f at H
 have H' := Aside0.mk H
 clear H
 go_enter Tryz.func17, Tryz.ntmps17
 go_wp2
 go_loopg [4, 5] k (fun kq v4 v5 w' => ∃ (x4_1 : Int) (x5_1 : Int), v4 = .int .i64 x4_1 ∧ v5 = .int .i64 x5_1 ∧ Aside0 (peristyleref14_Of.l0 kq l0 x4_1 x5_1 = some (r1, r2)) ∧ Aside0 (kq ≤ k) ∧ Aside0 (Below w.heap.size w w'))
 case atStart => exact ⟨(0), (0), (by rfl), (by rfl), H', ⟨Nat.le_refl _⟩, ⟨bh HB.out⟩⟩
 case round =>
  clear H'
  obtain ⟨x4_1, x5_1, rfl, rfl, HA, HK1, HB⟩ := hrel
  cases gk with
  | zero => exact absurd HA.out (by simp [peristyleref14_Of.l0])
  | succ k1 =>
   have H := HA.out
   clear HA
   simp only [peristyleref14_Of.l0] at H
   replace H := ifd H
   rcases H with ⟨-, c2b0, H⟩ | ⟨-, c2b0, H⟩
   ·replace H := ifn H
    obtain ⟨-, c3b0, H⟩ := H
    replace H := ifd H
    rcases H with ⟨-, c4b0, H⟩ | ⟨-, c4b0, H⟩
    ·simp only [Option.some.injEq, Prod.mk.injEq] at H
     obtain ⟨rfl, rfl⟩ := H
     have p531 : 0 ≤ (x5_1 : Int) := ad
     have q531 : x5_1 < (l0.length : Int) := ad
     obtain ⟨ad531, e531, hx531_0⟩ := Kd.at_int HR0.out x5_1 p531 q531
     cases e531
     replace hx531_0 := cb HB.out.cell hx531_0
     replace p531 := eq_true p531
     replace q531 := eq_true q531
     go_wp2
     go_ret2
     exact ⟨_, er, nl, bh HB.out⟩
    ·replace H := ifd H
     rcases H with ⟨-, c5b0, H⟩ | ⟨-, c5b0, H⟩
     ·simp only [Option.some.injEq, Prod.mk.injEq] at H
      obtain ⟨rfl, rfl⟩ := H
      have p531 : 0 ≤ (x5_1 : Int) := ad
      have q531 : x5_1 < (l0.length : Int) := ad
      obtain ⟨ad531, e531, hx531_0⟩ := Kd.at_int HR0.out x5_1 p531 q531
      cases e531
      replace hx531_0 := cb HB.out.cell hx531_0
      replace p531 := eq_true p531
      replace q531 := eq_true q531
      have p532 : 0 ≤ (x5_1 : Int) := ad
      have q532 : x5_1 < (l0.length : Int) := ad
      obtain ⟨ad532, e532, hx532_0⟩ := Kd.at_int HR0.out x5_1 p532 q532
      obtain rfl : ad531 = ad532 := (by injection e532)
      replace hx532_0 := cb HB.out.cell hx532_0
      replace p532 := eq_true p532
      replace q532 := eq_true q532
      go_wp2
      go_ret2
      exact ⟨_, er, nl, bh HB.out⟩
     ·obtain ⟨ji6, hji6⟩ : ∃ j_ : Int, (mx x4_1 (wrap64 ((rd l0 x5_1) + 1))) = j_ := ⟨_, rfl⟩
      replace H : (peristyleref14_Of.l0 k1 l0 ji6 (wrap64 (x5_1 + 1))) = some (r1, r2) := by (rw [hji6] at H; exact H)
      have hji6_ : (if x4_1 < (wrap64 ((rd l0 x5_1) + 1)) then (wrap64 ((rd l0 x5_1) + 1)) else x4_1) = ji6 := hji6
      have H' := Aside0.mk H
      clear H
      have p531 : 0 ≤ (x5_1 : Int) := ad
      have q531 : x5_1 < (l0.length : Int) := ad
      obtain ⟨ad531, e531, hx531_0⟩ := Kd.at_int HR0.out x5_1 p531 q531
      cases e531
      replace hx531_0 := cb HB.out.cell hx531_0
      replace p531 := eq_true p531
      replace q531 := eq_true q531
      have p532 : 0 ≤ (x5_1 : Int) := ad
      have q532 : x5_1 < (l0.length : Int) := ad
      obtain ⟨ad532, e532, hx532_0⟩ := Kd.at_int HR0.out x5_1 p532 q532
      obtain rfl : ad531 = ad532 := (by injection e532)
      replace hx532_0 := cb HB.out.cell hx532_0
      replace p532 := eq_true p532
      replace q532 := eq_true q532
      have p533 : 0 ≤ (x5_1 : Int) := ad
      have q533 : x5_1 < (l0.length : Int) := ad
      obtain ⟨ad533, e533, hx533_0⟩ := Kd.at_int HR0.out x5_1 p533 q533
      obtain rfl : ad531 = ad533 := (by injection e533)
      replace hx533_0 := cb HB.out.cell hx533_0
      replace p533 := eq_true p533
      replace q533 := eq_true q533
      go_wp2
      go_roundg k1
      case measure => have := HK1.out; omega
      case rel => exact ⟨(ji6), (wrap64 (x5_1 + 1)), (by rfl), (by rfl), (by exact H'), ⟨by have := HK1.out; omega⟩, ⟨bh HB.out⟩⟩
   ·replace H := ifn H
    obtain ⟨c7, -, H⟩ := H
    have c7b0 := eq_true c7
    have c7b1 : decide (0 ≤ x4_1) = true := decide_eq_true c7
    clear c7
    replace H := ifn H
    obtain ⟨c8, -, H⟩ := H
    have c8b0 := eq_true c8
    have c8b1 : decide ((x4_1 : Int).toNat ≤ 281474976710656) = true := decide_eq_true c8
    clear c8
    obtain ⟨y534, hy534⟩ : ∃ y_ : List Bool, y_ = (List.replicate (x4_1 : Int).toNat false) := ⟨_, rfl⟩
    replace H : (peristyleref14_Of.l1 k1 l0 y534 0) = some (r1, r2) := by (rw [hy534]; with_reducible exact H)
    have Ny534 := Aside0.mk hy534
    clear hy534
    have H' := Aside0.mk H
    clear H
    go_wp2_with (((with_reducible refine gate_dst (N := 34) rfl ?_); refine Kd.R_make Kd.bool _ 4 rfl (N := 34) rfl 69 _ _ rfl x4_1 rfl rfl Tryz.underlying69 (.bool false) 1 info4 rfl (by decide) (by omega) false (ok := fun _ => True) (okp := fun _ => True) rfl (fun _ hk => hk) trivial (of_decide_eq_true (by assumption)) (Nat.le_trans (Nat.mul_le_mul_right _ (of_decide_eq_true (by assumption) : x4_1.toNat ≤ 281474976710656)) (by omega)) (Below.refl _ _) (Nat.le_refl _) ?_; intro v535 w9 ho10 hb hg_ hnew_; clear hg_ hnew_; (rw [← Ny534.out] at ho10); have HO536 := Aside0.mk (Kd.R_lower ho10 (below_size (bh HB.out))); replace HB := bsa HB hb; clear hb ho10))
    go_loopg [7] k1 (fun kq v7 w' => ∃ (x6_2 : List Bool) (x7_2 : Int), v7 = .int .i64 x7_2 ∧ Aside0 (peristyleref14_Of.l1 kq l0 x6_2 x7_2 = some (r1, r2)) ∧ Aside0 (kq ≤ k1) ∧ Aside0 (Kd.R Kd.bool 4 w' w.heap.size (fun _ => True) v535 x6_2) ∧ Aside0 (Below w.heap.size w w'))
    case atStart => exact ⟨(y534), (0), (by rfl), H', ⟨Nat.le_refl _⟩, ⟨by exact HO536.out⟩, ⟨bh HB.out⟩⟩
    case round =>
     clear H' c2b0 c7b0 c7b1 c8b0 c8b1
     obtain ⟨x6_2, x7_2, rfl, HA, HK2, HO_6, HB⟩ := hrel
     cases gk with
     | zero => exact absurd HA.out (by simp [peristyleref14_Of.l1])
     | succ k2 =>
      have H := HA.out
      clear HA
      simp only [peristyleref14_Of.l1] at H
      replace H := ifd H
      rcases H with ⟨-, c11b0, H⟩ | ⟨-, c11b0, H⟩
      ·replace H := ifn H
       obtain ⟨-, c12b0, H⟩ := H
       replace H := ifn H
       obtain ⟨-, c13b0, H⟩ := H
       replace H := ifn H
       obtain ⟨-, c14b0, H⟩ := H
       obtain ⟨y538, hy538⟩ : ∃ y_ : List Bool, y_ = (x6_2.set ((rd l0 x7_2) : Int).toNat true) := ⟨_, rfl⟩
       replace H : (peristyleref14_Of.l1 k2 l0 y538 (wrap64 (x7_2 + 1))) = some (r1, r2) := by (rw [hy538]; with_reducible exact H)
       have Ny538 := Aside0.mk hy538
       clear hy538
       have H' := Aside0.mk H
       clear H
       have p537 : 0 ≤ (x7_2 : Int) := ad
       have q537 : x7_2 < (l0.length : Int) := ad
       obtain ⟨ad537, e537, hx537_0⟩ := Kd.at_int HR0.out x7_2 p537 q537
       cases e537
       replace hx537_0 := cb HB.out.cell hx537_0
       replace p537 := eq_true p537
       replace q537 := eq_true q537
       have p15 : 0 ≤ ((rd l0 x7_2) : Int) := ad
       have q15 : ((rd l0 x7_2) : Int) < ((x6_2.length : Int) : Int) := ad
       obtain ⟨go15, co15, eo15, gb15, gl15, cl15, HG15⟩ := Kd.R_form HO_6.out (by omega)
       (cases eo15)
       have GB15 := Aside0.mk gb15
       have GG15 := Aside0.mk HG15
       clear gb15 gl15 HG15
       obtain ⟨hx15_0, hf15_0⟩ := Kd.R_celln false HO_6.out ((rd l0 x7_2) : Int) p15 q15
       replace p15 := eq_true p15
       replace q15 := eq_true q15
       have HP16 := Kd.R_putg HO_6.out ((rd l0 x7_2) : Int) true
       go_wp2_with (((with_reducible refine gate_store (t := 4) (p := 46) rfl ?_); refine stE 4 46 (wr.setCell ⟨go15, ((rd l0 x7_2) : Int).toNat, none⟩ (.bool true)) ?_; intro w17 hw; have hg : wr.grownBy w17 (some go15) := (by rw [hw]; exact HP16.2); have hp_ : Kd.R Kd.bool 4 w17 w.heap.size (fun _ => True) (.slice (some ⟨go15, 0, none⟩) x6_2.length co15) y538 := (by rw [hw, Ny538.out]; exact HP16.1); clear HP16; replace HO_6 := Aside0.mk (hp_); replace HB := Aside0.mk ((by rw [hw]; exact below_set (HB.out) GB15.out : Below w.heap.size w w17)); clear hg hw hp_))
       go_roundg k2
       case measure => have := HK1.out; have := HK2.out; omega
       case rel => exact ⟨(y538), (wrap64 (x7_2 + 1)), (by rfl), H', ⟨by have := HK1.out; have := HK2.out; omega⟩, ⟨by exact HO_6.out⟩, ⟨bh HB.out⟩⟩
      ·replace H := bd H
       obtain ⟨t539, A18, H⟩ := H
       simp only [Option.some.injEq, Prod.mk.injEq] at H
       obtain ⟨rfl, rfl⟩ := H
       obtain ⟨Ao19, co19, eo19⟩ := Kd.R_slice HO_6.out
       subst eo19
       go_wp2_with (((with_reducible refine gate_callee (f := 50) rfl ?_); refine gL 48 Tryz.func50 #[.slice Ao19 x6_2.length co19] ?_; (with_reducible refine (peristyleref14_Spans.calls k2 _ _ x6_2 t539 _ ?side1 ?side2 A18.out).mono ?_); (case side1 => exact cx (Kd.R_reads' HO_6.out).2.2); (case side2 => exact (Kd.R_reads' HO_6.out).2.1); rintro e w20 ⟨v540, rfl, ho0, hb⟩; refine ⟨_, rfl, ?_⟩; replace HO_6 := rba HO_6 hb; have HO541 := Aside0.mk (Kd.R_lower ho0 (below_size (bh HB.out))); replace HB := bsa HB hb; clear hb ho0))
       go_ret2
       exact ⟨_, er, by exact HO541.out, bh HB.out⟩

end Go.Proofs.YtjgmdjieandemaaGreat.Print
end
section
namespace Go.Proofs.YtjgmdjieandemaaGreat.Print
open Go.RowKit Go.Proofs.YtjgmdjieandemaaGreatW.PrintWords Go.Proofs.YtjgmdjieandemaaGreatW.PrintLast Go.Proofs.YtjgmdjieandemaaGreatW.PrintMore
attribute [local go_sem] max2_int min2_int max_two min_two max_three min_three max_four min_four   -- for this text's walks alone
set_option linter.unusedVariables false
set_option linter.unusedSimpArgs false

/-! ### peristyleref14_May: function 21 -/
def peristyleref14_May.l0 : Nat → List (S64) → Int → Option (Bool)
 | 0, _, _ => none
 | k + 1, x0, x3 => if x3 < (x0.length : Int) then (if 0 ≤ x3 then (if ((rd_T64 x0 x3).f0) < 0 then (some false) else (if ((rd_T64 x0 x3).f0) ≥ ((rd_T64 x0 x3).f1) then (some false) else (if ((rd_T64 x0 x3).f1) > 65536 then (some false) else (if x3 > 0 then (if 0 ≤ (wrap64 (x3 - 1)) then (if (wrap64 (x3 - 1)) < (x0.length : Int) then (if ((rd_T64 x0 x3).f0) ≤ ((rd_T64 x0 (wrap64 (x3 - 1))).f1) then (some false) else (peristyleref14_May.l0 k x0 (wrap64 (x3 + 1)))) else (none)) else (none)) else (peristyleref14_May.l0 k x0 (wrap64 (x3 + 1))))))) else (none)) else (some true)
def peristyleref14_May.f (k : Nat) (l0 : List (S64)) : Option (Bool) := peristyleref14_May.l0 k l0 0
theorem peristyleref14_May.l0_succ (k) (a0) (a1) : type_of% (@peristyleref14_May.l0.eq_2 a0 a1 k) := peristyleref14_May.l0.eq_2 a0 a1 k
theorem peristyleref14_May.mono_l : ∀ k, (∀ y0 y1, LeO (peristyleref14_May.l0 k y0 y1) (peristyleref14_May.l0 (k + 1) y0 y1))
 | 0 => fun _ _ r h => by simp [peristyleref14_May.l0] at h
 | k + 1 => by
  have ih0 := peristyleref14_May.mono_l k
  ·intro y0 y1
   unfold peristyleref14_May.l0
   repeat' first | (with_reducible exact ih0 _ _) | (with_reducible exact LeO.refl _) | (with_reducible refine LeO.ite ?_ ?_)
theorem peristyleref14_May.mono : ∀ a0 k, LeO (peristyleref14_May.f k a0) (peristyleref14_May.f (k + 1) a0) := by
 intro a0 k
 have ih0 := peristyleref14_May.mono_l k
 unfold peristyleref14_May.f
 repeat' (with_reducible exact ih0 _ _)
set_option maxHeartbeats 8000000 in
set_option maxRecDepth 100000 in
theorem peristyleref14_May.calls (k : Nat) (A0 : Option Addr) (c0 : Nat) (l0 : List (S64)) (r : Bool) (w : World) (hr0 : Kd.C k64 w A0 l0.length l0) (hc0 : l0.length ≤ c0) (h : peristyleref14_May.f k l0 = some r) :
  Calls Tryz.prog 21 #[.slice A0 l0.length c0] w fun e w' => e = .returned (.bool r) ∧ Drawn0 w w' := by
 have HR0 := Aside0.mk hr0
 have HC0 := Aside0.mk hc0
 clear hr0 hc0
 have H := h
 clear h
 unfold peristyleref14_May.f at H
 have H' := Aside0.mk H
 clear H
 go_enter Tryz.func21, Tryz.ntmps21
 go_wp2
 repeat (go_quiet (fail))
 go_loopg [3] k (fun kq v3 w' => ∃ (x3_1 : Int), v3 = .int .i64 x3_1 ∧ Aside0 (peristyleref14_May.l0 kq l0 x3_1 = some r) ∧ Aside0 (kq ≤ k) ∧ Drawn0 w w')
 case atStart => exact ⟨(0), (by rfl), H', ⟨Nat.le_refl _⟩, by repeat (exact Drawn0.refl _)⟩
 case round =>
  clear H'
  obtain ⟨x3_1, rfl, HA, HK1, ⟨m1, rfl⟩⟩ := hrel
  cases gk with
  | zero => exact absurd HA.out (by simp [peristyleref14_May.l0])
  | succ k1 =>
   have H := HA.out
   clear HA
   simp only [peristyleref14_May.l0] at H
   replace H := ifd H
   rcases H with ⟨-, c2b0, H⟩ | ⟨-, c2b0, H⟩
   ·replace H := ifn H
    obtain ⟨-, c3b0, H⟩ := H
    replace H := ifd H
    rcases H with ⟨-, c4b0, H⟩ | ⟨-, c4b0, H⟩
    ·obtain rfl := Option.some.inj H
     have p542 : 0 ≤ (x3_1 : Int) := ad
     have q542 : x3_1 < (l0.length : Int) := ad
     obtain ⟨ad542, e542, hx542_0, hx542_1⟩ := at_T64 HR0.out x3_1 p542 q542
     cases e542
     replace p542 := eq_true p542
     replace q542 := eq_true q542
     go_wp2
     repeat (go_quiet (fail); go_wp2)
     go_ret
     exact ⟨by rfl, by repeat (first | exact Drawn0.refl _ | apply Drawn0.step)⟩
    ·replace H := ifd H
     rcases H with ⟨-, c5b0, H⟩ | ⟨-, c5b0, H⟩
     ·obtain rfl := Option.some.inj H
      have p542 : 0 ≤ (x3_1 : Int) := ad
      have q542 : x3_1 < (l0.length : Int) := ad
      obtain ⟨ad542, e542, hx542_0, hx542_1⟩ := at_T64 HR0.out x3_1 p542 q542
      cases e542
      replace p542 := eq_true p542
      replace q542 := eq_true q542
      have p543 : 0 ≤ (x3_1 : Int) := ad
      have q543 : x3_1 < (l0.length : Int) := ad
      obtain ⟨ad543, e543, hx543_0, hx543_1⟩ := at_T64 HR0.out x3_1 p543 q543
      obtain rfl : ad542 = ad543 := (by injection e543)
      replace p543 := eq_true p543
      replace q543 := eq_true q543
      have p544 : 0 ≤ (x3_1 : Int) := ad
      have q544 : x3_1 < (l0.length : Int) := ad
      obtain ⟨ad544, e544, hx544_0, hx544_1⟩ := at_T64 HR0.out x3_1 p544 q544
      obtain rfl : ad542 = ad544 := (by injection e544)
      replace p544 := eq_true p544
      replace q544 := eq_true q544
      go_wp2
      repeat (go_quiet (fail); go_wp2)
      go_ret
      exact ⟨by rfl, by repeat (first | exact Drawn0.refl _ | apply Drawn0.step)⟩
     ·replace H := ifd H
      rcases H with ⟨-, c6b0, H⟩ | ⟨-, c6b0, H⟩
      ·obtain rfl := Option.some.inj H
       have p542 : 0 ≤ (x3_1 : Int) := ad
       have q542 : x3_1 < (l0.length : Int) := ad
       obtain ⟨ad542, e542, hx542_0, hx542_1⟩ := at_T64 HR0.out x3_1 p542 q542
       cases e542
       replace p542 := eq_true p542
       replace q542 := eq_true q542
       have p543 : 0 ≤ (x3_1 : Int) := ad
       have q543 : x3_1 < (l0.length : Int) := ad
       obtain ⟨ad543, e543, hx543_0, hx543_1⟩ := at_T64 HR0.out x3_1 p543 q543
       obtain rfl : ad542 = ad543 := (by injection e543)
       replace p543 := eq_true p543
       replace q543 := eq_true q543
       have p544 : 0 ≤ (x3_1 : Int) := ad
       have q544 : x3_1 < (l0.length : Int) := ad
       obtain ⟨ad544, e544, hx544_0, hx544_1⟩ := at_T64 HR0.out x3_1 p544 q544
       obtain rfl : ad542 = ad544 := (by injection e544)
       replace p544 := eq_true p544
       replace q544 := eq_true q544
       have p545 : 0 ≤ (x3_1 : Int) := ad
       have q545 : x3_1 < (l0.length : Int) := ad
       obtain ⟨ad545, e545, hx545_0, hx545_1⟩ := at_T64 HR0.out x3_1 p545 q545
       obtain rfl : ad542 = ad545 := (by injection e545)
       replace p545 := eq_true p545
       replace q545 := eq_true q545
       go_wp2
       repeat (go_quiet (fail); go_wp2)
       go_ret
       exact ⟨by rfl, by repeat (first | exact Drawn0.refl _ | apply Drawn0.step)⟩
      ·replace H := ifd H
       rcases H with ⟨-, c7b0, H⟩ | ⟨-, c7b0, H⟩
       ·obtain ⟨ji8, hji8⟩ : ∃ j_ : Int, (wrap64 (x3_1 - 1)) = j_ := ⟨_, rfl⟩
        replace H : (if 0 ≤ (ji8) then (if (ji8) < (l0.length : Int) then (if ((rd_T64 l0 x3_1).f0) ≤ ((rd_T64 l0 (ji8)).f1) then (some false) else (peristyleref14_May.l0 k1 l0 (wrap64 (x3_1 + 1)))) else (none)) else (none)) = some r := by (rw [hji8] at H; exact H)
        have hji8w : (IntKind.i64.wrap (x3_1 - 1)) = ji8 := (i64_w _).trans hji8
        replace H := ifn H
        obtain ⟨-, c9b0, H⟩ := H
        replace H := ifn H
        obtain ⟨-, c10b0, H⟩ := H
        replace H := ifd H
        rcases H with ⟨-, c11b0, H⟩ | ⟨-, c11b0, H⟩
        ·obtain rfl := Option.some.inj H
         have p542 : 0 ≤ (x3_1 : Int) := ad
         have q542 : x3_1 < (l0.length : Int) := ad
         obtain ⟨ad542, e542, hx542_0, hx542_1⟩ := at_T64 HR0.out x3_1 p542 q542
         cases e542
         replace p542 := eq_true p542
         replace q542 := eq_true q542
         have p543 : 0 ≤ (x3_1 : Int) := ad
         have q543 : x3_1 < (l0.length : Int) := ad
         obtain ⟨ad543, e543, hx543_0, hx543_1⟩ := at_T64 HR0.out x3_1 p543 q543
         obtain rfl : ad542 = ad543 := (by injection e543)
         replace p543 := eq_true p543
         replace q543 := eq_true q543
         have p544 : 0 ≤ (x3_1 : Int) := ad
         have q544 : x3_1 < (l0.length : Int) := ad
         obtain ⟨ad544, e544, hx544_0, hx544_1⟩ := at_T64 HR0.out x3_1 p544 q544
         obtain rfl : ad542 = ad544 := (by injection e544)
         replace p544 := eq_true p544
         replace q544 := eq_true q544
         have p545 : 0 ≤ (x3_1 : Int) := ad
         have q545 : x3_1 < (l0.length : Int) := ad
         obtain ⟨ad545, e545, hx545_0, hx545_1⟩ := at_T64 HR0.out x3_1 p545 q545
         obtain rfl : ad542 = ad545 := (by injection e545)
         replace p545 := eq_true p545
         replace q545 := eq_true q545
         have p546 : 0 ≤ (x3_1 : Int) := ad
         have q546 : x3_1 < (l0.length : Int) := ad
         obtain ⟨ad546, e546, hx546_0, hx546_1⟩ := at_T64 HR0.out x3_1 p546 q546
         obtain rfl : ad542 = ad546 := (by injection e546)
         replace p546 := eq_true p546
         replace q546 := eq_true q546
         have p547 : 0 ≤ ((ji8) : Int) := ad
         have q547 : (ji8) < (l0.length : Int) := ad
         obtain ⟨ad547, e547, hx547_0, hx547_1⟩ := at_T64 HR0.out (ji8) p547 q547
         obtain rfl : ad542 = ad547 := (by injection e547)
         replace p547 := eq_true p547
         replace q547 := eq_true q547
         go_wp2
         repeat (go_quiet (fail); go_wp2)
         go_ret
         exact ⟨by rfl, by repeat (first | exact Drawn0.refl _ | apply Drawn0.step)⟩
        ·have H' := Aside0.mk H
         clear H
         have p542 : 0 ≤ (x3_1 : Int) := ad
         have q542 : x3_1 < (l0.length : Int) := ad
         obtain ⟨ad542, e542, hx542_0, hx542_1⟩ := at_T64 HR0.out x3_1 p542 q542
         cases e542
         replace p542 := eq_true p542
         replace q542 := eq_true q542
         have p543 : 0 ≤ (x3_1 : Int) := ad
         have q543 : x3_1 < (l0.length : Int) := ad
         obtain ⟨ad543, e543, hx543_0, hx543_1⟩ := at_T64 HR0.out x3_1 p543 q543
         obtain rfl : ad542 = ad543 := (by injection e543)
         replace p543 := eq_true p543
         replace q543 := eq_true q543
         have p544 : 0 ≤ (x3_1 : Int) := ad
         have q544 : x3_1 < (l0.length : Int) := ad
         obtain ⟨ad544, e544, hx544_0, hx544_1⟩ := at_T64 HR0.out x3_1 p544 q544
         obtain rfl : ad542 = ad544 := (by injection e544)
         replace p544 := eq_true p544
         replace q544 := eq_true q544
         have p545 : 0 ≤ (x3_1 : Int) := ad
         have q545 : x3_1 < (l0.length : Int) := ad
         obtain ⟨ad545, e545, hx545_0, hx545_1⟩ := at_T64 HR0.out x3_1 p545 q545
         obtain rfl : ad542 = ad545 := (by injection e545)
         replace p545 := eq_true p545
         replace q545 := eq_true q545
         have p546 : 0 ≤ (x3_1 : Int) := ad
         have q546 : x3_1 < (l0.length : Int) := ad
         obtain ⟨ad546, e546, hx546_0, hx546_1⟩ := at_T64 HR0.out x3_1 p546 q546
         obtain rfl : ad542 = ad546 := (by injection e546)
         replace p546 := eq_true p546
         replace q546 := eq_true q546
         have p547 : 0 ≤ ((ji8) : Int) := ad
         have q547 : (ji8) < (l0.length : Int) := ad
         obtain ⟨ad547, e547, hx547_0, hx547_1⟩ := at_T64 HR0.out (ji8) p547 q547
         obtain rfl : ad542 = ad547 := (by injection e547)
         replace p547 := eq_true p547
         replace q547 := eq_true q547
         go_wp2
         repeat (go_quiet (fail); go_wp2)
         go_roundg k1
         case measure => have := HK1.out; omega
         case rel => exact ⟨(wrap64 (x3_1 + 1)), (by rfl), (by exact H'), ⟨by have := HK1.out; omega⟩, by repeat (first | exact Drawn0.refl _ | apply Drawn0.step)⟩
       ·have H' := Aside0.mk H
        clear H
        have p542 : 0 ≤ (x3_1 : Int) := ad
        have q542 : x3_1 < (l0.length : Int) := ad
        obtain ⟨ad542, e542, hx542_0, hx542_1⟩ := at_T64 HR0.out x3_1 p542 q542
        cases e542
        replace p542 := eq_true p542
        replace q542 := eq_true q542
        have p543 : 0 ≤ (x3_1 : Int) := ad
        have q543 : x3_1 < (l0.length : Int) := ad
        obtain ⟨ad543, e543, hx543_0, hx543_1⟩ := at_T64 HR0.out x3_1 p543 q543
        obtain rfl : ad542 = ad543 := (by injection e543)
        replace p543 := eq_true p543
        replace q543 := eq_true q543
        have p544 : 0 ≤ (x3_1 : Int) := ad
        have q544 : x3_1 < (l0.length : Int) := ad
        obtain ⟨ad544, e544, hx544_0, hx544_1⟩ := at_T64 HR0.out x3_1 p544 q544
        obtain rfl : ad542 = ad544 := (by injection e544)
        replace p544 := eq_true p544
        replace q544 := eq_true q544
        have p545 : 0 ≤ (x3_1 : Int) := ad
        have q545 : x3_1 < (l0.length : Int) := ad
        obtain ⟨ad545, e545, hx545_0, hx545_1⟩ := at_T64 HR0.out x3_1 p545 q545
        obtain rfl : ad542 = ad545 := (by injection e545)
        replace p545 := eq_true p545
        replace q545 := eq_true q545
        go_wp2
        repeat (go_quiet (fail); go_wp2)
        go_roundg k1
        case measure => have := HK1.out; omega
        case rel => exact ⟨(wrap64 (x3_1 + 1)), (by rfl), H', ⟨by have := HK1.out; omega⟩, by repeat (first | exact Drawn0.refl _ | apply Drawn0.step)⟩
   ·obtain rfl := Option.some.inj H
    go_wp2
    repeat (go_quiet (fail))
    go_ret
    exact ⟨by rfl, by repeat (first | exact Drawn0.refl _ | apply Drawn0.step)⟩

/-! ### peristyleref16_May: function 38 -/
def peristyleref16_May.f (a0 : Int) : Option (Bool) := if a0 ≥ 1 then (some (decide (a0 ≤ 3))) else (some false)
set_option maxHeartbeats 8000000 in
set_option maxRecDepth 100000 in
theorem peristyleref16_May.calls (a0 : Int) (r : Bool) (w : World) (h : peristyleref16_May.f a0 = some r) :
  Calls Tryz.prog 38 #[.int .i64 a0] w fun e w' => e = .returned (.bool r) ∧ Drawn0 w w' := by
 have H := h
 clear h
 unfold peristyleref16_May.f at H
 replace H := ifd H
 rcases H with ⟨-, c2b0, H⟩ | ⟨-, c2b0, H⟩
 ·obtain rfl := Option.some.inj H
  go_enter Tryz.func38, Tryz.ntmps38
  go_wp2
  go_ret
  exact ⟨by rfl, by repeat (exact Drawn0.refl _)⟩
 ·obtain rfl := Option.some.inj H
  go_enter Tryz.func38, Tryz.ntmps38
  go_wp2
  go_ret
  exact ⟨by rfl, by repeat (exact Drawn0.refl _)⟩

/-! ### peristyleref14_Top: function 39 -/
def peristyleref14_Top.f (l0 : List (S64)) : Option (Int) := if (l0.length : Int) = 0 then (some 0) else (if 0 ≤ (wrap64 ((l0.length : Int) - 1)) then (if (wrap64 ((l0.length : Int) - 1)) < (l0.length : Int) then (some ((rd_T64 l0 (wrap64 ((l0.length : Int) - 1))).f1)) else (none)) else (none))
set_option maxHeartbeats 8000000 in
set_option maxRecDepth 100000 in
theorem peristyleref14_Top.calls (A0 : Option Addr) (c0 : Nat) (l0 : List (S64)) (r : Int) (w : World) (hr0 : Kd.C k64 w A0 l0.length l0) (hc0 : l0.length ≤ c0) (h : peristyleref14_Top.f l0 = some r) :
  Calls Tryz.prog 39 #[.slice A0 l0.length c0] w fun e w' => e = .returned (.int .i64 r) ∧ Drawn0 w w' := by
 have HR0 := Aside0.mk hr0
 have HC0 := Aside0.mk hc0
 clear hr0 hc0
 have H := h
 clear h
 unfold peristyleref14_Top.f at H
 replace H := ife H
 rcases H with ⟨-, c2b0, c2b1, H⟩ | ⟨c2, c2b0, c2b1, H⟩
 ·obtain rfl := Option.some.inj H
  go_enter Tryz.func39, Tryz.ntmps39
  go_wp2
  go_ret
  exact ⟨by rfl, by repeat (exact Drawn0.refl _)⟩
 ·have c2b2 : ¬ (l0 = []) := fun h_ => c2 (by rw [h_]; rfl)
  obtain ⟨ji3, hji3⟩ : ∃ j_ : Int, (wrap64 ((l0.length : Int) - 1)) = j_ := ⟨_, rfl⟩
  replace H : (if 0 ≤ (ji3) then (if (ji3) < (l0.length : Int) then (some ((rd_T64 l0 (ji3)).f1)) else (none)) else (none)) = some r := by (rw [hji3] at H; exact H)
  have hji3w : (IntKind.i64.wrap ((l0.length : Int) - 1)) = ji3 := (i64_w _).trans hji3
  replace H := ifn H
  obtain ⟨-, c4b0, H⟩ := H
  replace H := ifn H
  obtain ⟨-, c5b0, H⟩ := H
  obtain rfl := Option.some.inj H
  have p548 : 0 ≤ ((ji3) : Int) := ad
  have q548 : (ji3) < (l0.length : Int) := ad
  obtain ⟨ad548, e548, hx548_0, hx548_1⟩ := at_T64 HR0.out (ji3) p548 q548
  cases e548
  replace p548 := eq_true p548
  replace q548 := eq_true q548
  go_enter Tryz.func39, Tryz.ntmps39
  go_wp2
  go_ret
  exact ⟨by rfl, by repeat (exact Drawn0.refl _)⟩

/-! ### peristyleref14_Set: function 74 -/
mutual
def peristyleref14_Set.l0 : Nat → List (S64) → Int → List Bool → Int → Option (List Bool)
 | 0, _, _, _, _ => none
 | k + 1, x0, x1, x5, x6 => if x6 < (x0.length : Int) then (if 0 ≤ x6 then (peristyleref14_Set.l1 k x0 x1 x5 x6 ((rd_T64 x0 x6).f0)) else (none)) else (some x5)
def peristyleref14_Set.l1 : Nat → List (S64) → Int → List Bool → Int → Int → Option (List Bool)
 | 0, _, _, _, _, _ => none
 | k + 1, x0, x1, x5, x6, x7 => if 0 ≤ x6 then (if x6 < (x0.length : Int) then (if x7 < ((rd_T64 x0 x6).f1) then (if x7 < x1 then (if 0 ≤ x7 then (if x7 < (x5.length : Int) then (peristyleref14_Set.l1 k x0 x1 (x5.set (x7 : Int).toNat true) x6 (wrap64 (x7 + 1))) else (none)) else (none)) else (peristyleref14_Set.l0 k x0 x1 x5 (wrap64 (x6 + 1)))) else (peristyleref14_Set.l0 k x0 x1 x5 (wrap64 (x6 + 1)))) else (none)) else (none)
end
def peristyleref14_Set.f (k : Nat) (l0 : List (S64)) (a1 : Int) : Option (List Bool) := if 0 ≤ a1 then (if (a1 : Int).toNat ≤ 281474976710656 then (peristyleref14_Set.l0 k l0 a1 (List.replicate (a1 : Int).toNat false) 0) else (none)) else (none)
theorem peristyleref14_Set.l0_succ (k) (a0) (a1) (a2) (a3) : type_of% (@peristyleref14_Set.l0.eq_2 a0 a1 a2 a3 k) := peristyleref14_Set.l0.eq_2 a0 a1 a2 a3 k
theorem peristyleref14_Set.l1_succ (k) (a0) (a1) (a2) (a3) (a4) : type_of% (@peristyleref14_Set.l1.eq_2 a0 a1 a2 a3 a4 k) := peristyleref14_Set.l1.eq_2 a0 a1 a2 a3 a4 k
theorem peristyleref14_Set.mono_l : ∀ k, (∀ y0 y1 y2 y3, LeO (peristyleref14_Set.l0 k y0 y1 y2 y3) (peristyleref14_Set.l0 (k + 1) y0 y1 y2 y3)) ∧ (∀ y0 y1 y2 y3 y4, LeO (peristyleref14_Set.l1 k y0 y1 y2 y3 y4) (peristyleref14_Set.l1 (k + 1) y0 y1 y2 y3 y4))
 | 0 => ⟨fun _ _ _ _ r h => by simp [peristyleref14_Set.l0] at h, fun _ _ _ _ _ r h => by simp [peristyleref14_Set.l1] at h⟩
 | k + 1 => by
  obtain ⟨ih0, ih1⟩ := peristyleref14_Set.mono_l k
  refine ⟨?_, ?_⟩
  ·intro y0 y1 y2 y3
   unfold peristyleref14_Set.l0
   repeat' first | (with_reducible exact ih1 _ _ _ _ _) | (with_reducible exact LeO.refl _) | (with_reducible refine LeO.ite ?_ ?_)
  ·intro y0 y1 y2 y3 y4
   unfold peristyleref14_Set.l1
   repeat' first | (with_reducible exact ih0 _ _ _ _) | (with_reducible exact ih1 _ _ _ _ _) | (with_reducible exact LeO.refl _) | (with_reducible refine LeO.ite ?_ ?_)
theorem peristyleref14_Set.mono : ∀ a0 a1 k, LeO (peristyleref14_Set.f k a0 a1) (peristyleref14_Set.f (k + 1) a0 a1) := by
 intro a0 a1 k
 obtain ⟨ih0, ih1⟩ := peristyleref14_Set.mono_l k
 unfold peristyleref14_Set.f
 repeat' first | (with_reducible exact ih0 _ _ _ _) | (with_reducible exact LeO.refl _) | (with_reducible refine LeO.ite ?_ ?_)
set_option maxHeartbeats 8000000 in
set_option maxRecDepth 100000 in
theorem peristyleref14_Set.calls (k : Nat) (A0 : Option Addr) (c0 : Nat) (l0 : List (S64)) (a1 : Int) (r : List Bool) (w : World) (hr0 : Kd.C k64 w A0 l0.length l0) (hc0 : l0.length ≤ c0) (h : peristyleref14_Set.f k l0 a1 = some r) :
  Calls Tryz.prog 74 #[.slice A0 l0.length c0, .int .i64 a1] w fun e w' => ∃ v0_ : Value, e = .returned (v0_) ∧ Kd.R Kd.bool 4 w' w.heap.size (fun _ => True) v0_ r ∧ Below w.heap.size w w' := by
 have HR0 := Aside0.mk hr0
 have HC0 := Aside0.mk hc0
 clear hr0 hc0
 have HB := Aside0.mk (Below.refl w.heap.size w)
 have H := h
 clear h
 unfold peristyleref14_Set.f at H
 replace H := ifn H
 obtain ⟨c3, -, H⟩ := H
 have c3b0 := eq_true c3
 have c3b1 : decide (0 ≤ a1) = true := decide_eq_true c3
 clear c3
 replace H := ifn H
 obtain ⟨c4, -, H⟩ := H
 have c4b0 := eq_true c4
 have c4b1 : decide ((a1 : Int).toNat ≤ 281474976710656) = true := decide_eq_true c4
 clear c4
 obtain ⟨y549, hy549⟩ : ∃ y_ : List Bool, y_ = (List.replicate (a1 : Int).toNat false) := ⟨_, rfl⟩
 replace H : (peristyleref14_Set.l0 k l0 a1 y549 0) = some r := by (rw [hy549]; with_reducible exact H)
 have Ny549 := Aside0.mk hy549
 clear hy549
 have H' := Aside0.mk H
 clear H
 go_enter Tryz.func74, Tryz.ntmps74
 go_wp2_with (((with_reducible refine gate_dst (N := 9) rfl ?_); refine Kd.R_make Kd.bool _ 4 rfl (N := 9) rfl 69 _ _ rfl a1 rfl rfl Tryz.underlying69 (.bool false) 1 info4 rfl (by decide) (by omega) false (ok := fun _ => True) (okp := fun _ => True) rfl (fun _ hk => hk) trivial (of_decide_eq_true (by assumption)) (Nat.le_trans (Nat.mul_le_mul_right _ (of_decide_eq_true (by assumption) : a1.toNat ≤ 281474976710656)) (by omega)) (Below.refl _ _) (Nat.le_refl _) ?_; intro v550 w5 ho6 hb hg_ hnew_; clear hg_ hnew_; (rw [← Ny549.out] at ho6); have HO551 := Aside0.mk (Kd.R_lower ho6 (below_size (bh HB.out))); replace HB := bsa HB hb; clear hb ho6))
 go_loopg [6] k (fun kq v6 w' => ∃ (x5_1 : List Bool) (x6_1 : Int), v6 = .int .i64 x6_1 ∧ Aside0 (peristyleref14_Set.l0 kq l0 a1 x5_1 x6_1 = some r) ∧ Aside0 (kq ≤ k) ∧ Aside0 (Kd.R Kd.bool 4 w' w.heap.size (fun _ => True) v550 x5_1) ∧ Aside0 (Below w.heap.size w w'))
 case atStart => exact ⟨(y549), (0), (by rfl), H', ⟨Nat.le_refl _⟩, ⟨by exact HO551.out⟩, ⟨bh HB.out⟩⟩
 case round =>
  clear H' c3b0 c3b1 c4b0 c4b1
  obtain ⟨x5_1, x6_1, rfl, HA, HK1, HO_5, HB⟩ := hrel
  cases gk with
  | zero => exact absurd HA.out (by simp [peristyleref14_Set.l0])
  | succ k1 =>
   have H := HA.out
   clear HA
   simp only [peristyleref14_Set.l0] at H
   replace H := ifd H
   rcases H with ⟨-, c7b0, H⟩ | ⟨-, c7b0, H⟩
   ·replace H := ifn H
    obtain ⟨-, c8b0, H⟩ := H
    have H' := Aside0.mk H
    clear H
    have p552 : 0 ≤ (x6_1 : Int) := ad
    have q552 : x6_1 < (l0.length : Int) := ad
    obtain ⟨ad552, e552, hx552_0, hx552_1⟩ := at_T64 HR0.out x6_1 p552 q552
    cases e552
    replace hx552_0 := cb HB.out.cell hx552_0
    replace hx552_1 := cb HB.out.cell hx552_1
    replace p552 := eq_true p552
    replace q552 := eq_true q552
    go_wp2
    go_loopg [7] k1 (fun kq v7 w' => ∃ (x5_2 : List Bool) (x7_2 : Int), v7 = .int .i64 x7_2 ∧ Aside0 (peristyleref14_Set.l1 kq l0 a1 x5_2 x6_1 x7_2 = some r) ∧ Aside0 (kq ≤ k1) ∧ Aside0 (Kd.R Kd.bool 4 w' w.heap.size (fun _ => True) v550 x5_2) ∧ Aside0 (Below w.heap.size w w'))
    case atStart => exact ⟨(x5_1), ((rd_T64 l0 x6_1).f0), (by rfl), H', ⟨Nat.le_refl _⟩, ⟨by exact HO_5.out⟩, ⟨bh HB.out⟩⟩
    case round =>
     clear H' c7b0 c8b0 hx552_0 hx552_1 p552 q552
     obtain ⟨x5_2, x7_2, rfl, HA, HK2, HO_5, HB⟩ := hrel
     cases gk with
     | zero => exact absurd HA.out (by simp [peristyleref14_Set.l1])
     | succ k2 =>
      have H := HA.out
      clear HA
      simp only [peristyleref14_Set.l1] at H
      replace H := ifn H
      obtain ⟨-, c9b0, H⟩ := H
      replace H := ifn H
      obtain ⟨-, c10b0, H⟩ := H
      replace H := ifd H
      rcases H with ⟨-, c11b0, H⟩ | ⟨-, c11b0, H⟩
      ·replace H := ifd H
       rcases H with ⟨-, c12b0, H⟩ | ⟨-, c12b0, H⟩
       ·replace H := ifn H
        obtain ⟨-, c13b0, H⟩ := H
        replace H := ifn H
        obtain ⟨-, c14b0, H⟩ := H
        obtain ⟨y554, hy554⟩ : ∃ y_ : List Bool, y_ = (x5_2.set (x7_2 : Int).toNat true) := ⟨_, rfl⟩
        replace H : (peristyleref14_Set.l1 k2 l0 a1 y554 x6_1 (wrap64 (x7_2 + 1))) = some r := by (rw [hy554]; with_reducible exact H)
        have Ny554 := Aside0.mk hy554
        clear hy554
        have H' := Aside0.mk H
        clear H
        have p553 : 0 ≤ (x6_1 : Int) := ad
        have q553 : x6_1 < (l0.length : Int) := ad
        obtain ⟨ad553, e553, hx553_0, hx553_1⟩ := at_T64 HR0.out x6_1 p553 q553
        obtain rfl : ad552 = ad553 := (by injection e553)
        replace hx553_0 := cb HB.out.cell hx553_0
        replace hx553_1 := cb HB.out.cell hx553_1
        replace p553 := eq_true p553
        replace q553 := eq_true q553
        have p15 : 0 ≤ (x7_2 : Int) := ad
        have q15 : (x7_2 : Int) < ((x5_2.length : Int) : Int) := ad
        obtain ⟨go15, co15, eo15, gb15, gl15, cl15, HG15⟩ := Kd.R_form HO_5.out (by omega)
        (cases eo15)
        have GB15 := Aside0.mk gb15
        have GG15 := Aside0.mk HG15
        clear gb15 gl15 HG15
        obtain ⟨hx15_0, hf15_0⟩ := Kd.R_celln false HO_5.out (x7_2 : Int) p15 q15
        replace p15 := eq_true p15
        replace q15 := eq_true q15
        have HP16 := Kd.R_putg HO_5.out (x7_2 : Int) true
        go_wp2_with (((with_reducible refine gate_store (t := 4) (p := 37) rfl ?_); refine stE 4 37 (wr.setCell ⟨go15, (x7_2 : Int).toNat, none⟩ (.bool true)) ?_; intro w17 hw; have hg : wr.grownBy w17 (some go15) := (by rw [hw]; exact HP16.2); have hp_ : Kd.R Kd.bool 4 w17 w.heap.size (fun _ => True) (.slice (some ⟨go15, 0, none⟩) x5_2.length co15) y554 := (by rw [hw, Ny554.out]; exact HP16.1); clear HP16; replace HO_5 := Aside0.mk (hp_); replace HB := Aside0.mk ((by rw [hw]; exact below_set (HB.out) GB15.out : Below w.heap.size w w17)); clear hg hw hp_))
        go_roundg k2
        case measure => have := HK1.out; have := HK2.out; omega
        case rel => exact ⟨(y554), (wrap64 (x7_2 + 1)), (by rfl), H', ⟨by have := HK1.out; have := HK2.out; omega⟩, ⟨by exact HO_5.out⟩, ⟨bh HB.out⟩⟩
       ·have H' := Aside0.mk H
        clear H
        have p553 : 0 ≤ (x6_1 : Int) := ad
        have q553 : x6_1 < (l0.length : Int) := ad
        obtain ⟨ad553, e553, hx553_0, hx553_1⟩ := at_T64 HR0.out x6_1 p553 q553
        obtain rfl : ad552 = ad553 := (by injection e553)
        replace hx553_0 := cb HB.out.cell hx553_0
        replace hx553_1 := cb HB.out.cell hx553_1
        replace p553 := eq_true p553
        replace q553 := eq_true q553
        go_wp2
        go_roundg k2
        case measure => have := HK1.out; have := HK2.out; omega
        case rel => exact ⟨(x5_2), (wrap64 (x6_1 + 1)), (by rfl), H', ⟨by have := HK1.out; have := HK2.out; omega⟩, ⟨by exact HO_5.out⟩, ⟨bh HB.out⟩⟩
      ·have H' := Aside0.mk H
       clear H
       have p553 : 0 ≤ (x6_1 : Int) := ad
       have q553 : x6_1 < (l0.length : Int) := ad
       obtain ⟨ad553, e553, hx553_0, hx553_1⟩ := at_T64 HR0.out x6_1 p553 q553
       obtain rfl : ad552 = ad553 := (by injection e553)
       replace hx553_0 := cb HB.out.cell hx553_0
       replace hx553_1 := cb HB.out.cell hx553_1
       replace p553 := eq_true p553
       replace q553 := eq_true q553
       go_wp2
       go_roundg k2
       case measure => have := HK1.out; have := HK2.out; omega
       case rel => exact ⟨(x5_2), (wrap64 (x6_1 + 1)), (by rfl), H', ⟨by have := HK1.out; have := HK2.out; omega⟩, ⟨by exact HO_5.out⟩, ⟨bh HB.out⟩⟩
   ·obtain rfl := Option.some.inj H
    go_wp2
    go_ret
    exact ⟨_, er, by exact HO_5.out, bh HB.out⟩

end Go.Proofs.YtjgmdjieandemaaGreat.Print
end
