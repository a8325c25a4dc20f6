-- Functions and laws: texts of the session's own and of the kit's print program, joined; what nothing names is left out.
import Derived.Test.YtdgphlkbmplbpaaGreatVA
import Derived.Test.YtdgphlkbmplbpaaGreatVW
import Derived.Test.YtdgphlkbmplbpaaGreatVD
import Derived.Test.YtdgphlkbmplbpaaGreatVB
import Derived.Test.YtdgphlkbmplbpaaGreatVC
section
namespace Go.Proofs.YtdgphlkbmplbpaaGreat.Print
open Go.RowKit Go.Proofs.YtdgphlkbmplbpaaGreatW.PrintWords Go.Proofs.YtdgphlkbmplbpaaGreatW.PrintLast Go.Proofs.YtdgphlkbmplbpaaGreatW.PrintMore
attribute [local go_sem] max2_int min2_int max_two min_two max_three min_three max_four min_four   -- for this text's walks alone
set_option linter.unusedVariables false
set_option linter.unusedSimpArgs false
/-! ### peristyleref02_Take: function 50 -/
mutual
def peristyleref02_Take.l0 : Nat → ByteArray → Int → Int → Option (Int × Int × Int)
 | 0, _, _, _ => none
 | k + 1, x0, x5, x6 => if x6 < (x0.size : Int) then (peristyleref02_Take.j1 k x0 x5 x6 (decide (x6 < 10))) else (peristyleref02_Take.j1 k x0 x5 x6 false)
def peristyleref02_Take.j1 : Nat → ByteArray → Int → Int → Bool → Option (Int × Int × Int)
 | 0, _, _, _, _ => none
 | k + 1, x0, x5, x6, x15 => if x15 = true then (if 0 ≤ x6 then (if x6 < (x0.size : Int) then ((peristyleref01_With.f x5 (wrap64 (7 * x6)) 7 (wrap64 (Go.bits .and .u8 (bt x0 x6) 127))).bind fun t595 => (if (bt x0 x6) < 128 then ((peristyleref01_Zag.f t595).bind fun t596 => ((peristyleref02_Put.f k t596).bind fun t597 => (if 0 ≤ (wrap64 (x6 + 1)) then (if (wrap64 (x6 + 1)) ≤ (x0.size : Int) then (if t597.toList = (x0.extract 0 ((wrap64 (x6 + 1)) : Int).toNat).toList then (some (t596, wrap64 (x6 + 1), 0)) else (some (0, 0, 20))) else (none)) else (none)))) else (peristyleref02_Take.l0 k x0 t595 (wrap64 (x6 + 1))))) else (none)) else (none)) else (some (0, 0, 20))
end
def peristyleref02_Take.f (k : Nat) (a0 : ByteArray) : Option (Int × Int × Int) := peristyleref02_Take.l0 k a0 0 0
theorem peristyleref02_Take.l0_succ (k) (a0) (a1) (a2) : type_of% (@peristyleref02_Take.l0.eq_2 a0 a1 a2 k) := peristyleref02_Take.l0.eq_2 a0 a1 a2 k
theorem peristyleref02_Take.j1_succ (k) (a0) (a1) (a2) (a3) : type_of% (@peristyleref02_Take.j1.eq_2 a0 a1 a2 a3 k) := peristyleref02_Take.j1.eq_2 a0 a1 a2 a3 k
set_option maxHeartbeats 8000000 in
set_option maxRecDepth 100000 in
theorem peristyleref02_Take.calls (k : Nat) (a0 : ByteArray) (r1 : Int) (r2 : Int) (r3 : Int) (w : World) (h : peristyleref02_Take.f k a0 = some (r1, r2, r3)) :
  Calls Tryz.prog 50 #[.string a0] w fun e w' => e = .returned (.tuple #[.int .i64 r1, .int .i64 r2, .int .i64 r3]) ∧ Below w.heap.size w w' := by
 have HB := Aside0.mk (Below.refl w.heap.size w)
 have H := h
 clear h
 unfold peristyleref02_Take.f at H
 have H' := Aside0.mk H
 clear H
 go_enter Tryz.func50, Tryz.ntmps50
 go_wp2
 go_loopg [5, 6] k (fun kq v5 v6 w' => ∃ (x5_1 : Int) (x6_1 : Int), v5 = .int .i64 x5_1 ∧ v6 = .int .i64 x6_1 ∧ Aside0 (peristyleref02_Take.l0 kq a0 x5_1 x6_1 = some (r1, r2, r3)) ∧ Aside0 (kq ≤ k) ∧ Aside0 (Below w.heap.size w w'))
 case atStart => exact ⟨(0), (0), (by rfl), (by rfl), H', ⟨Nat.le_refl _⟩, ⟨bh HB.out⟩⟩
 case round =>
  clear H'
  obtain ⟨x5_1, x6_1, rfl, rfl, HA, HK1, HB⟩ := hrel
  cases gk with
  | zero => exact absurd HA.out (by simp [peristyleref02_Take.l0])
  | succ k1 =>
   have H := HA.out
   clear HA
   simp only [peristyleref02_Take.l0] at H
   have HC2 := Aside0.mk H
   clear H
   go_upto_region 3 with (fail)
   go_cut [15] (fun v15 wc => ∃ (kq : Nat) (x15_1 : Bool), v15 = .bool x15_1 ∧ Aside0 (peristyleref02_Take.j1 kq a0 x5_1 x6_1 x15_1 = some (r1, r2, r3)) ∧ Aside0 (kq ≤ k1) ∧ Aside0 (Below w.heap.size w wc))
   case first =>
    have H := HC2.out
    clear HC2
    replace H := ifd H
    rcases H with ⟨-, c3b0, H⟩ | ⟨-, c3b0, H⟩
    ·(skip)
     have H' := Aside0.mk H
     clear H
     go_wp2
     go_meet
     case rel => exact ⟨_, (decide (x6_1 < 10)), (by rfl), H', ⟨by have := HK1.out; omega⟩, ⟨bh HB.out⟩⟩
    ·(skip)
     have H' := Aside0.mk H
     clear H
     go_wp2
     go_meet
     case rel => exact ⟨_, (false), (by rfl), H', ⟨by have := HK1.out; omega⟩, ⟨bh HB.out⟩⟩
   case rest =>
    clear HC2
    obtain ⟨kq, x15_1, rfl, HA, HJ1, HB⟩ := hcut
    cases kq with
    | zero => exact absurd HA.out (by simp [peristyleref02_Take.j1])
    | succ kj1 =>
     have H := HA.out
     clear HA
     simp only [peristyleref02_Take.j1] at H
     replace H := ifb H
     rcases H with ⟨rfl, H⟩ | ⟨rfl, H⟩
     ·replace H := ifn H
      obtain ⟨-, c5b0, H⟩ := H
      replace H := ifn H
      obtain ⟨-, c6b0, H⟩ := H
      replace H := bd H
      obtain ⟨t595, A8, H⟩ := H
      replace H := ifd H
      rcases H with ⟨-, c10b0, H⟩ | ⟨-, c10b0, H⟩
      ·replace H := bd H
       obtain ⟨t596, A11, H⟩ := H
       replace H := bd H
       obtain ⟨t597, A12, H⟩ := H
       obtain ⟨ji13, hji13⟩ : ∃ j_ : Int, (wrap64 (x6_1 + 1)) = j_ := ⟨_, rfl⟩
       replace H : (if 0 ≤ (ji13) then (if (ji13) ≤ (a0.size : Int) then (if t597.toList = (a0.extract 0 ((ji13) : Int).toNat).toList then (some (t596, ji13, 0)) else (some (0, 0, 20))) else (none)) else (none)) = some (r1, r2, r3) := by (rw [hji13] at H; exact H)
       have hji13w : (IntKind.i64.wrap (x6_1 + 1)) = ji13 := (i64_w _).trans hji13
       replace H := ifn H
       obtain ⟨c14, -, H⟩ := H
       have c14b0 := eq_true c14
       have c14b1 : decide (0 ≤ (ji13)) = true := decide_eq_true c14
       clear c14
       replace H := ifn H
       obtain ⟨c15, -, H⟩ := H
       have c15b0 := eq_true c15
       have c15b1 : decide ((ji13) ≤ (a0.size : Int)) = true := decide_eq_true c15
       clear c15
       replace H := ife H
       rcases H with ⟨-, c16b0, c16b1, H⟩ | ⟨c16, c16b0, c16b1, H⟩
       ·simp only [Option.some.injEq, Prod.mk.injEq] at H
        obtain ⟨rfl, rfl, rfl⟩ := H
        have p7 : 0 ≤ (x6_1 : Int) := ad
        have q7 : x6_1 < (a0.size : Int) := ad
        have hx7 := bt_at a0 x6_1
        replace p7 := eq_true p7
        replace q7 := eq_true q7
        go_wp2_with (first | ((with_reducible refine gate_callee (f := 84) rfl ?_); refine gL 26 Tryz.func84 #[.int .i64 x5_1, .int .i64 (wrap64 (7 * x6_1)), .int .i64 7, .int .i64 (wrap64 (Go.bits .and .u8 (bt a0 x6_1) 127))] ?_; (with_reducible refine (peristyleref01_With.calls x5_1 (wrap64 (7 * x6_1)) 7 (wrap64 (Go.bits .and .u8 (bt a0 x6_1) 127)) t595 _ A8.out).mono ?_); rintro e w17 ⟨rfl, hb⟩; refine ⟨_, rfl, ?_⟩; replace HB := bsa HB hb; clear hb; have p9 : 0 ≤ (x6_1 : Int) := ad; have q9 : x6_1 < (a0.size : Int) := ad; have hx9 := bt_at a0 x6_1; replace p9 := eq_true p9; replace q9 := eq_true q9) | ((with_reducible refine gate_callee (f := 85) rfl ?_); refine gL 32 Tryz.func85 #[.int .i64 t595] ?_; (with_reducible refine (peristyleref01_Zag.calls t595 t596 _ A11.out).mono ?_); rintro e w18 ⟨rfl, hb⟩; refine ⟨_, rfl, ?_⟩; replace HB := bsa HB hb; clear hb))
        replace HB := Aside0.mk (below_drew1 HB.out)
        refine start_ (n := 7) (S := fun w' => True) (ds := []) #[false, false, false, false, false, false, false] (by kernel_rfl) rfl rfl trivial (fun hHeld => ?_)
        generalize w18.drew = w19 at HB hHeld ⊢
        refine pure_ (i := 0) (N := some 33) (v := ?_) (a' := ?_) #[true, false, false, false, false, false, false] rfl rfl (by kernel_rfl) (fun _ _ _ h => h) (Or.inl ⟨by rfl, ?_⟩) ?_ ?_
        rotate_left
        ·intro w'
         go_simp
         with_reducible rfl
        rotate_left
        ·simp only [Act.put, List.setIfInBounds_toArray, List.set_cons_zero, List.set_cons_succ, i64_w, i32_w]
         rfl
        refine pure_ (i := 2) (N := some 35) (v := ?_) (a' := ?_) #[true, false, true, false, false, false, false] rfl rfl (by kernel_rfl) (fun _ _ _ h => h) (Or.inl ⟨by rfl, ?_⟩) ?_ ?_
        rotate_left
        ·intro w'
         go_simp
         with_reducible rfl
        rotate_left
        ·simp only [Act.put, List.setIfInBounds_toArray, List.set_cons_zero, List.set_cons_succ, i64_w, i32_w]
         rfl
        refine pure_ (i := 3) (N := some 36) (v := ?_) (a' := ?_) #[true, false, true, true, false, false, false] rfl rfl (by kernel_rfl) (fun _ _ _ h => h) (Or.inl ⟨by rfl, ?_⟩) ?_ ?_
        rotate_left
        ·intro w'
         go_simp
         with_reducible rfl
        rotate_left
        ·simp only [Act.put, List.setIfInBounds_toArray, List.set_cons_zero, List.set_cons_succ, i64_w, i32_w]
         rfl
        refine pure_ (i := 4) (N := some 37) (v := ?_) (a' := ?_) #[true, false, true, true, true, false, false] rfl rfl (by kernel_rfl) (fun _ _ _ h => h) (Or.inl ⟨by rfl, ?_⟩) ?_ ?_
        rotate_left
        ·intro w'
         go_simp
         with_reducible rfl
        rotate_left
        ·simp only [Act.put, List.setIfInBounds_toArray, List.set_cons_zero, List.set_cons_succ, i64_w, i32_w]
         rfl
        refine pure_ (i := 5) (N := some 38) (v := ?_) (a' := ?_) #[true, false, true, true, true, true, false] rfl rfl (by kernel_rfl) (fun _ _ _ h => h) (Or.inl ⟨by rfl, ?_⟩) ?_ ?_
        rotate_left
        ·intro w'
         go_simp
         with_reducible rfl
        rotate_left
        ·simp only [Act.put, List.setIfInBounds_toArray, List.set_cons_zero, List.set_cons_succ, i64_w, i32_w]
         rfl
        refine one_ (i := 1) (N := some 34) #[true, true, true, true, true, true, false] rfl rfl (by kernel_rfl) (by decide) (fun K hK => ?_)
        refine goes_ Tryz.func48 (by kernel_rfl) rfl #[.int .i64 t596] (by rfl) rfl rfl (by (simp only [List.map_toArray, List.map_cons, List.map_nil]); rfl) ?_
        with_reducible refine (peristyleref02_Put.calls kj1 t596 t597 _ A12.out).mono ?_
        rintro e w20 ⟨rfl, hb⟩
        refine ⟨_, rfl, ?_⟩
        replace HB := bsa HB hb
        clear hb
        refine hK.out _ _ trivial (fun hHeld => ?_)
        clear hK K
        refine norm_ (a' := ?_) ?_ ?_
        rotate_left
        ·show Act.put _ (some 34) _ = _
         simp only [Act.put, List.setIfInBounds_toArray, List.set_cons_zero, List.set_cons_succ, i64_w, i32_w]
         rfl
        refine pure_ (i := 6) (N := some 39) (v := ?_) (a' := ?_) #[true, true, true, true, true, true, true] rfl rfl (by kernel_rfl) (fun _ _ _ h => h) (Or.inl ⟨by rfl, ?_⟩) ?_ ?_
        rotate_left
        ·intro w'
         go_simp
         with_reducible rfl
        rotate_left
        ·simp only [Act.put, List.setIfInBounds_toArray, List.set_cons_zero, List.set_cons_succ, i64_w, i32_w]
         rfl
        refine done_ (by kernel_rfl) ?_
        go_wp2
        go_ret3
        exact ⟨by rfl, bh HB.out⟩
       ·simp only [Option.some.injEq, Prod.mk.injEq] at H
        obtain ⟨rfl, rfl, rfl⟩ := H
        have p7 : 0 ≤ (x6_1 : Int) := ad
        have q7 : x6_1 < (a0.size : Int) := ad
        have hx7 := bt_at a0 x6_1
        replace p7 := eq_true p7
        replace q7 := eq_true q7
        go_wp2_with (first | ((with_reducible refine gate_callee (f := 84) rfl ?_); refine gL 26 Tryz.func84 #[.int .i64 x5_1, .int .i64 (wrap64 (7 * x6_1)), .int .i64 7, .int .i64 (wrap64 (Go.bits .and .u8 (bt a0 x6_1) 127))] ?_; (with_reducible refine (peristyleref01_With.calls x5_1 (wrap64 (7 * x6_1)) 7 (wrap64 (Go.bits .and .u8 (bt a0 x6_1) 127)) t595 _ A8.out).mono ?_); rintro e w21 ⟨rfl, hb⟩; refine ⟨_, rfl, ?_⟩; replace HB := bsa HB hb; clear hb; have p9 : 0 ≤ (x6_1 : Int) := ad; have q9 : x6_1 < (a0.size : Int) := ad; have hx9 := bt_at a0 x6_1; replace p9 := eq_true p9; replace q9 := eq_true q9) | ((with_reducible refine gate_callee (f := 85) rfl ?_); refine gL 32 Tryz.func85 #[.int .i64 t595] ?_; (with_reducible refine (peristyleref01_Zag.calls t595 t596 _ A11.out).mono ?_); rintro e w22 ⟨rfl, hb⟩; refine ⟨_, rfl, ?_⟩; replace HB := bsa HB hb; clear hb))
        replace HB := Aside0.mk (below_drew1 HB.out)
        refine start_ (n := 7) (S := fun w' => True) (ds := []) #[false, false, false, false, false, false, false] (by kernel_rfl) rfl rfl trivial (fun hHeld => ?_)
        generalize w22.drew = w23 at HB hHeld ⊢
        refine pure_ (i := 0) (N := some 33) (v := ?_) (a' := ?_) #[true, false, false, false, false, false, false] rfl rfl (by kernel_rfl) (fun _ _ _ h => h) (Or.inl ⟨by rfl, ?_⟩) ?_ ?_
        rotate_left
        ·intro w'
         go_simp
         with_reducible rfl
        rotate_left
        ·simp only [Act.put, List.setIfInBounds_toArray, List.set_cons_zero, List.set_cons_succ, i64_w, i32_w]
         rfl
        refine pure_ (i := 2) (N := some 35) (v := ?_) (a' := ?_) #[true, false, true, false, false, false, false] rfl rfl (by kernel_rfl) (fun _ _ _ h => h) (Or.inl ⟨by rfl, ?_⟩) ?_ ?_
        rotate_left
        ·intro w'
         go_simp
         with_reducible rfl
        rotate_left
        ·simp only [Act.put, List.setIfInBounds_toArray, List.set_cons_zero, List.set_cons_succ, i64_w, i32_w]
         rfl
        refine pure_ (i := 3) (N := some 36) (v := ?_) (a' := ?_) #[true, false, true, true, false, false, false] rfl rfl (by kernel_rfl) (fun _ _ _ h => h) (Or.inl ⟨by rfl, ?_⟩) ?_ ?_
        rotate_left
        ·intro w'
         go_simp
         with_reducible rfl
        rotate_left
        ·simp only [Act.put, List.setIfInBounds_toArray, List.set_cons_zero, List.set_cons_succ, i64_w, i32_w]
         rfl
        refine pure_ (i := 4) (N := some 37) (v := ?_) (a' := ?_) #[true, false, true, true, true, false, false] rfl rfl (by kernel_rfl) (fun _ _ _ h => h) (Or.inl ⟨by rfl, ?_⟩) ?_ ?_
        rotate_left
        ·intro w'
         go_simp
         with_reducible rfl
        rotate_left
        ·simp only [Act.put, List.setIfInBounds_toArray, List.set_cons_zero, List.set_cons_succ, i64_w, i32_w]
         rfl
        refine pure_ (i := 5) (N := some 38) (v := ?_) (a' := ?_) #[true, false, true, true, true, true, false] rfl rfl (by kernel_rfl) (fun _ _ _ h => h) (Or.inl ⟨by rfl, ?_⟩) ?_ ?_
        rotate_left
        ·intro w'
         go_simp
         with_reducible rfl
        rotate_left
        ·simp only [Act.put, List.setIfInBounds_toArray, List.set_cons_zero, List.set_cons_succ, i64_w, i32_w]
         rfl
        refine one_ (i := 1) (N := some 34) #[true, true, true, true, true, true, false] rfl rfl (by kernel_rfl) (by decide) (fun K hK => ?_)
        refine goes_ Tryz.func48 (by kernel_rfl) rfl #[.int .i64 t596] (by rfl) rfl rfl (by (simp only [List.map_toArray, List.map_cons, List.map_nil]); rfl) ?_
        with_reducible refine (peristyleref02_Put.calls kj1 t596 t597 _ A12.out).mono ?_
        rintro e w24 ⟨rfl, hb⟩
        refine ⟨_, rfl, ?_⟩
        replace HB := bsa HB hb
        clear hb
        refine hK.out _ _ trivial (fun hHeld => ?_)
        clear hK K
        refine norm_ (a' := ?_) ?_ ?_
        rotate_left
        ·show Act.put _ (some 34) _ = _
         simp only [Act.put, List.setIfInBounds_toArray, List.set_cons_zero, List.set_cons_succ, i64_w, i32_w]
         rfl
        refine pure_ (i := 6) (N := some 39) (v := ?_) (a' := ?_) #[true, true, true, true, true, true, true] rfl rfl (by kernel_rfl) (fun _ _ _ h => h) (Or.inl ⟨by rfl, ?_⟩) ?_ ?_
        rotate_left
        ·intro w'
         go_simp
         with_reducible rfl
        rotate_left
        ·simp only [Act.put, List.setIfInBounds_toArray, List.set_cons_zero, List.set_cons_succ, i64_w, i32_w]
         rfl
        refine done_ (by kernel_rfl) ?_
        go_wp2
        go_ret3
        exact ⟨by rfl, bh HB.out⟩
      ·have H' := Aside0.mk H
       clear H
       have p7 : 0 ≤ (x6_1 : Int) := ad
       have q7 : x6_1 < (a0.size : Int) := ad
       have hx7 := bt_at a0 x6_1
       replace p7 := eq_true p7
       replace q7 := eq_true q7
       go_wp2_with (((with_reducible refine gate_callee (f := 84) rfl ?_); refine gL 26 Tryz.func84 #[.int .i64 x5_1, .int .i64 (wrap64 (7 * x6_1)), .int .i64 7, .int .i64 (wrap64 (Go.bits .and .u8 (bt a0 x6_1) 127))] ?_; (with_reducible refine (peristyleref01_With.calls x5_1 (wrap64 (7 * x6_1)) 7 (wrap64 (Go.bits .and .u8 (bt a0 x6_1) 127)) t595 _ A8.out).mono ?_); rintro e w25 ⟨rfl, hb⟩; refine ⟨_, rfl, ?_⟩; replace HB := bsa HB hb; clear hb; have p9 : 0 ≤ (x6_1 : Int) := ad; have q9 : x6_1 < (a0.size : Int) := ad; have hx9 := bt_at a0 x6_1; replace p9 := eq_true p9; replace q9 := eq_true q9))
       go_roundg kj1
       case measure => have := HK1.out; have := HJ1.out; omega
       case rel => exact ⟨(t595), (wrap64 (x6_1 + 1)), (by rfl), (by rfl), H', ⟨by have := HK1.out; have := HJ1.out; omega⟩, ⟨bh HB.out⟩⟩
     ·simp only [Option.some.injEq, Prod.mk.injEq] at H
      obtain ⟨rfl, rfl, rfl⟩ := H
      go_wp2
      go_ret3
      exact ⟨er, bh HB.out⟩
/-! ### peristyleref21_Take: function 26 -/
mutual
def peristyleref21_Take.j0 : Nat → ByteArray → Int → Int → Bool → Option ((List (S68)) × Int × Int)
 | 0, _, _, _, _ => none
 | k + 1, x0, x5, x6, x32 => if x32 = true then (some (([] : List (S68)), 0, 20)) else (peristyleref21_Take.l0 k x0 x5 x6 ([] : List (S68)) (-1) 0)
def peristyleref21_Take.l0 : Nat → ByteArray → Int → Int → List (S68) → Int → Int → Option ((List (S68)) × Int × Int)
 | 0, _, _, _, _, _, _ => none
 | k + 1, x0, x5, x6, x8, x9, x10 => if x10 < x5 then (if 0 ≤ x6 then (if x6 ≤ (x0.size : Int) then ((peristyleref02_Take.f k (x0.extract (x6 : Int).toNat x0.size)).bind fun bt602 => (if bt602.2.2 = 0 then (if bt602.1 < 1 then (peristyleref21_Take.j2 k x0 x5 x6 x8 x9 x10 bt602.1 bt602.2.1 true) else (peristyleref21_Take.j2 k x0 x5 x6 x8 x9 x10 bt602.1 bt602.2.1 (decide (bt602.1 > 4096)))) else (peristyleref21_Take.j2 k x0 x5 x6 x8 x9 x10 bt602.1 bt602.2.1 true))) else (none)) else (none)) else ((peristyleref21_MayMarks.f k x8).bind fun t601 => (if t601 = true then (some (x8, x6, 0)) else (some (([] : List (S68)), 0, 20))))
def peristyleref21_Take.j2 : Nat → ByteArray → Int → Int → List (S68) → Int → Int → Int → Int → Bool → Option ((List (S68)) × Int × Int)
 | 0, _, _, _, _, _, _, _, _, _ => none
 | k + 1, x0, x5, x6, x8, x9, x10, x11, x12, x55 => if x55 = true then (some (([] : List (S68)), 0, 20)) else (if 0 ≤ (wrap64 (x6 + x12)) then (if (wrap64 (x6 + x12)) ≤ (x0.size : Int) then ((peristyleref02_Take.f k (x0.extract ((wrap64 (x6 + x12)) : Int).toNat x0.size)).bind fun bt605 => (if bt605.2.2 = 0 then (if x8.length < 8796093022208 then (peristyleref21_Take.l0 k x0 x5 (wrap64 ((wrap64 (x6 + x12)) + bt605.2.1)) (x8 ++ [(⟨wrap64 (x9 + x11), bt605.1⟩ : S68)]) (wrap64 (x9 + x11)) (wrap64 (x10 + 1))) else (none)) else (some (([] : List (S68)), 0, 20)))) else (none)) else (none))
end
def peristyleref21_Take.f (k : Nat) (a0 : ByteArray) : Option ((List (S68)) × Int × Int) := (peristyleref02_Take.f k a0).bind fun bt598 => (if bt598.2.2 = 0 then (if bt598.1 < 0 then (peristyleref21_Take.j0 k a0 bt598.1 bt598.2.1 true) else (peristyleref21_Take.j0 k a0 bt598.1 bt598.2.1 (decide (bt598.1 > 4096)))) else (peristyleref21_Take.j0 k a0 bt598.1 bt598.2.1 true))
theorem peristyleref21_Take.j0_succ (k) (a0) (a1) (a2) (a3) : type_of% (@peristyleref21_Take.j0.eq_2 a0 a1 a2 a3 k) := peristyleref21_Take.j0.eq_2 a0 a1 a2 a3 k
theorem peristyleref21_Take.l0_succ (k) (a0) (a1) (a2) (a3) (a4) (a5) : type_of% (@peristyleref21_Take.l0.eq_2 a0 a1 a2 a3 a4 a5 k) := peristyleref21_Take.l0.eq_2 a0 a1 a2 a3 a4 a5 k
theorem peristyleref21_Take.j2_succ (k) (a0) (a1) (a2) (a3) (a4) (a5) (a6) (a7) (a8) : type_of% (@peristyleref21_Take.j2.eq_2 a0 a1 a2 a3 a4 a5 a6 a7 a8 k) := peristyleref21_Take.j2.eq_2 a0 a1 a2 a3 a4 a5 a6 a7 a8 k
set_option maxHeartbeats 8000000 in
set_option maxRecDepth 100000 in
theorem peristyleref21_Take.calls (k : Nat) (a0 : ByteArray) (r1 : List (S68)) (r2 : Int) (r3 : Int) (w : World) (h : peristyleref21_Take.f k a0 = some (r1, r2, r3)) :
  Calls Tryz.prog 26 #[.string a0] w fun e w' => ∃ v0_ : Value, e = .returned (.tuple #[v0_, .int .i64 r2, .int .i64 r3]) ∧ Kd.R k68 68 w' w.heap.size (fun _ => True) v0_ r1 ∧ Below w.heap.size w w' := by
 have hu68 := Tryz.underlying68
 have HB := Aside0.mk (Below.refl w.heap.size w)
 have H := h
 clear h
 unfold peristyleref21_Take.f at H
 replace H := bd H
 obtain ⟨⟨t598, t599, t600⟩, A2, H⟩ := H
 dsimp only at H
 have HC3 := Aside0.mk H
 clear H
 go_enter Tryz.func26, Tryz.ntmps26
 go_upto_region 2 with (((with_reducible refine gate_callee (f := 50) rfl ?_); refine gL 19 Tryz.func50 #[.string a0] ?_; (with_reducible refine (peristyleref02_Take.calls k a0 t598 t599 t600 _ A2.out).mono ?_); rintro e w4 ⟨rfl, hb⟩; refine ⟨_, rfl, ?_⟩; replace HB := bsa HB hb; clear hb))
 go_cut [32] (fun v32 wc => ∃ (kq : Nat) (x32_2 : Bool), v32 = .bool x32_2 ∧ Aside0 (peristyleref21_Take.j0 kq a0 t598 t599 x32_2 = some (r1, r2, r3)) ∧ Aside0 (kq ≤ k) ∧ Aside0 (Below w.heap.size w wc))
 case first =>
  have H := HC3.out
  clear HC3
  replace H := ife H
  rcases H with ⟨-, c5b0, c5b1, H⟩ | ⟨c5, c5b0, c5b1, H⟩
  ·(skip)
   replace H := ifd H
   rcases H with ⟨-, c6b0, H⟩ | ⟨-, c6b0, H⟩
   ·have H' := Aside0.mk H
    clear H
    go_wp2
    go_meet
    case rel => exact ⟨_, (true), (by rfl), H', ⟨by omega⟩, ⟨bh HB.out⟩⟩
   ·have H' := Aside0.mk H
    clear H
    go_wp2
    go_meet
    case rel => exact ⟨_, (decide (t598 > 4096)), (by rfl), H', ⟨by omega⟩, ⟨bh HB.out⟩⟩
  ·(skip)
   have H' := Aside0.mk H
   clear H
   go_wp2
   go_meet
   case rel => exact ⟨_, (true), (by rfl), H', ⟨by omega⟩, ⟨bh HB.out⟩⟩
 case rest =>
  clear HC3
  obtain ⟨kq, x32_2, rfl, HA, HJ2, HB⟩ := hcut
  cases kq with
  | zero => exact absurd HA.out (by simp [peristyleref21_Take.j0])
  | succ kj2 =>
   have H := HA.out
   clear HA
   simp only [peristyleref21_Take.j0] at H
   replace H := ifb H
   rcases H with ⟨rfl, H⟩ | ⟨rfl, H⟩
   ·simp only [Option.some.injEq, Prod.mk.injEq] at H
    obtain ⟨rfl, rfl, rfl⟩ := H
    go_wp2
    go_ret3
    exact ⟨_, er, nl, bh HB.out⟩
   ·have H' := Aside0.mk H
    clear H
    go_wp2
    go_loopg [6, 8, 9, 10] kj2 (fun kq v6 v8 v9 v10 w' => ∃ (x6_2 : Int) (x8_2 : List (S68)) (x9_2 : Int) (x10_2 : Int), v6 = .int .i64 x6_2 ∧ v9 = .int .i64 x9_2 ∧ v10 = .int .i64 x10_2 ∧ Aside0 (peristyleref21_Take.l0 kq a0 t598 x6_2 x8_2 x9_2 x10_2 = some (r1, r2, r3)) ∧ Aside0 (kq ≤ kj2) ∧ Aside0 (Kd.R k68 68 w' w.heap.size (fun _ => True) v8 x8_2) ∧ Aside0 (Below w.heap.size w w'))
    case atStart => exact ⟨(t599), (([] : List (S68))), ((-1)), (0), (by rfl), (by rfl), (by rfl), H', ⟨Nat.le_refl _⟩, ⟨nl⟩, ⟨bh HB.out⟩⟩
    case round =>
     clear H'
     obtain ⟨x6_2, x8_2, x9_2, x10_2, rfl, rfl, rfl, HA, HK2, HO_8, HB⟩ := hrel
     cases gk with
     | zero => exact absurd HA.out (by simp [peristyleref21_Take.l0])
     | succ k2 =>
      have H := HA.out
      clear HA
      simp only [peristyleref21_Take.l0] at H
      replace H := ifd H
      rcases H with ⟨-, c8b0, H⟩ | ⟨-, c8b0, H⟩
      ·replace H := ifn H
       obtain ⟨c9, -, H⟩ := H
       have c9b0 := eq_true c9
       have c9b1 : decide (0 ≤ x6_2) = true := decide_eq_true c9
       clear c9
       replace H := ifn H
       obtain ⟨c10, -, H⟩ := H
       have c10b0 := eq_true c10
       have c10b1 : decide (x6_2 ≤ (a0.size : Int)) = true := decide_eq_true c10
       clear c10
       replace H := bd H
       obtain ⟨⟨t602, t603, t604⟩, A11, H⟩ := H
       dsimp only at H
       have HC12 := Aside0.mk H
       clear H
       go_upto_region 10 with (((with_reducible refine gate_callee (f := 50) rfl ?_); refine gL 42 Tryz.func50 #[.string (a0.extract (x6_2 : Int).toNat a0.size)] ?_; (with_reducible refine (peristyleref02_Take.calls k2 (a0.extract (x6_2 : Int).toNat a0.size) t602 t603 t604 _ A11.out).mono ?_); rintro e w13 ⟨rfl, hb⟩; refine ⟨_, rfl, ?_⟩; replace HO_8 := rba HO_8 hb; replace HB := bsa HB hb; clear hb))
       go_cut [55] (fun v55 wc => ∃ (kq : Nat) (x55_11 : Bool), v55 = .bool x55_11 ∧ Aside0 (peristyleref21_Take.j2 kq a0 t598 x6_2 x8_2 x9_2 x10_2 t602 t603 x55_11 = some (r1, r2, r3)) ∧ Aside0 (kq ≤ k2) ∧ Aside0 (Kd.R k68 68 wc w.heap.size (fun _ => True) u8 x8_2) ∧ Aside0 (Below w.heap.size w wc))
       case first =>
        have H := HC12.out
        clear HC12
        replace H := ife H
        rcases H with ⟨-, c14b0, c14b1, H⟩ | ⟨c14, c14b0, c14b1, H⟩
        ·(skip)
         replace H := ifd H
         rcases H with ⟨-, c15b0, H⟩ | ⟨-, c15b0, H⟩
         ·have H' := Aside0.mk H
          clear H
          go_wp2
          go_meet
          case rel => exact ⟨_, (true), (by rfl), H', ⟨by have := HJ2.out; have := HK2.out; omega⟩, ⟨by exact HO_8.out⟩, ⟨bh HB.out⟩⟩
         ·have H' := Aside0.mk H
          clear H
          go_wp2
          go_meet
          case rel => exact ⟨_, (decide (t602 > 4096)), (by rfl), H', ⟨by have := HJ2.out; have := HK2.out; omega⟩, ⟨by exact HO_8.out⟩, ⟨bh HB.out⟩⟩
        ·(skip)
         have H' := Aside0.mk H
         clear H
         go_wp2
         go_meet
         case rel => exact ⟨_, (true), (by rfl), H', ⟨by have := HJ2.out; have := HK2.out; omega⟩, ⟨by exact HO_8.out⟩, ⟨bh HB.out⟩⟩
       case rest =>
        clear HC12 c8b0 c9b0 c9b1 c10b0 c10b1
        obtain ⟨kq, x55_11, rfl, HA, HJ11, HO_8, HB⟩ := hcut
        cases kq with
        | zero => exact absurd HA.out (by simp [peristyleref21_Take.j2])
        | succ kj11 =>
         have H := HA.out
         clear HA
         simp only [peristyleref21_Take.j2] at H
         replace H := ifb H
         rcases H with ⟨rfl, H⟩ | ⟨rfl, H⟩
         ·simp only [Option.some.injEq, Prod.mk.injEq] at H
          obtain ⟨rfl, rfl, rfl⟩ := H
          go_wp2
          go_ret3
          exact ⟨_, er, nl, bh HB.out⟩
         ·obtain ⟨ji17, hji17⟩ : ∃ j_ : Int, (wrap64 (x6_2 + t603)) = j_ := ⟨_, rfl⟩
          replace H : (if 0 ≤ (ji17) then (if (ji17) ≤ (a0.size : Int) then ((peristyleref02_Take.f kj11 (a0.extract ((ji17) : Int).toNat a0.size)).bind fun bt605 => (if bt605.2.2 = 0 then (if x8_2.length < 8796093022208 then (peristyleref21_Take.l0 kj11 a0 t598 (wrap64 ((ji17) + bt605.2.1)) (x8_2 ++ [(⟨wrap64 (x9_2 + t602), bt605.1⟩ : S68)]) (wrap64 (x9_2 + t602)) (wrap64 (x10_2 + 1))) else (none)) else (some (([] : List (S68)), 0, 20)))) else (none)) else (none)) = some (r1, r2, r3) := by (rw [hji17] at H; exact H)
          have hji17w : (IntKind.i64.wrap (x6_2 + t603)) = ji17 := (i64_w _).trans hji17
          replace H := ifn H
          obtain ⟨c18, -, H⟩ := H
          have c18b0 := eq_true c18
          have c18b1 : decide (0 ≤ (ji17)) = true := decide_eq_true c18
          clear c18
          replace H := ifn H
          obtain ⟨c19, -, H⟩ := H
          have c19b0 := eq_true c19
          have c19b1 : decide ((ji17) ≤ (a0.size : Int)) = true := decide_eq_true c19
          clear c19
          replace H := bd H
          obtain ⟨⟨t605, t606, t607⟩, A20, H⟩ := H
          dsimp only at H
          replace H := ife H
          rcases H with ⟨-, c21b0, c21b1, H⟩ | ⟨c21, c21b0, c21b1, H⟩
          ·replace H := ifn H
           obtain ⟨c22, -, H⟩ := H
           have LMc22 := Aside0.mk c22
           clear c22
           obtain ⟨y608, hy608⟩ : ∃ y_ : List (S68), y_ = (x8_2 ++ [(⟨wrap64 (x9_2 + t602), t605⟩ : S68)]) := ⟨_, rfl⟩
           replace H : (peristyleref21_Take.l0 kj11 a0 t598 (wrap64 ((ji17) + t606)) y608 (wrap64 (x9_2 + t602)) (wrap64 (x10_2 + 1))) = some (r1, r2, r3) := by (rw [hy608]; with_reducible exact H)
           have Ny608 := Aside0.mk hy608
           clear hy608
           have H' := Aside0.mk H
           clear H
           go_wp2_with (first | ((with_reducible refine gate_callee (f := 50) rfl ?_); refine gL 63 Tryz.func50 #[.string (a0.extract ((ji17) : Int).toNat a0.size)] ?_; (with_reducible refine (peristyleref02_Take.calls kj11 (a0.extract ((ji17) : Int).toNat a0.size) t605 t606 t607 _ A20.out).mono ?_); rintro e w23 ⟨rfl, hb⟩; refine ⟨_, rfl, ?_⟩; replace HO_8 := rba HO_8 hb; replace HB := bsa HB hb; clear hb) | ((with_reducible refine gate_builtin (b := .append) (xs := #[.tmp 75, .tmp 79]) rfl ?_); at_builtin; refine Kd.R_append k68 (w0 := w) w.heap.size rfl (.tmp 75) (.tmp 79) 23 68 (.agg #[(.int .i64 0), (.int .i64 0)]) 16 rfl Tryz.underlying23 info68 rfl (by decide) (by omega) u8 x8_2 (⟨wrap64 (x9_2 + t602), t605⟩ : S68) [.int .i64 (wrap64 (x9_2 + t602)), .int .i64 t605] (fun _ => True) (fun _ => False) rfl rfl ?aP (fun _ hk => hk.elim) ?aF ?aO ?aB ?aS ?aL ?_; (case aP => exact k68_mkM _ _ _ (⟨wrap64 (x9_2 + t602), t605⟩ : S68)); (case aB => exact (bh HB.out)); (case aF => exact (fun _ _ => trivial)); (case aO => exact (rx HO_8.out)); (case aS => exact (below_size (bh HB.out))); (case aL => have := LMc22.out; omega); intro v609 w24 ho hb hg hat; rw [← Ny608.out] at ho; have n0_ := Aside0.mk (hb); have n1_ := Aside0.mk (ho); clear HB HO_8; have HB := n0_; have HO610 := n1_; clear n0_ n1_ ho hb hg hat))
           go_roundg kj11
           case measure => have := HJ2.out; have := HK2.out; have := HJ11.out; omega
           case rel => exact ⟨(wrap64 ((ji17) + t606)), (y608), (wrap64 (x9_2 + t602)), (wrap64 (x10_2 + 1)), (by rfl), (by rfl), (by rfl), (by exact H'), ⟨by have := HJ2.out; have := HK2.out; have := HJ11.out; omega⟩, ⟨by exact HO610.out⟩, ⟨bh HB.out⟩⟩
          ·simp only [Option.some.injEq, Prod.mk.injEq] at H
           obtain ⟨rfl, rfl, rfl⟩ := H
           go_wp2_with (((with_reducible refine gate_callee (f := 50) rfl ?_); refine gL 63 Tryz.func50 #[.string (a0.extract ((ji17) : Int).toNat a0.size)] ?_; (with_reducible refine (peristyleref02_Take.calls kj11 (a0.extract ((ji17) : Int).toNat a0.size) t605 t606 t607 _ A20.out).mono ?_); rintro e w25 ⟨rfl, hb⟩; refine ⟨_, rfl, ?_⟩; replace HO_8 := rba HO_8 hb; replace HB := bsa HB hb; clear hb))
           go_ret3
           exact ⟨_, by rfl, nl, bh HB.out⟩
      ·replace H := bd H
       obtain ⟨t601, A26, H⟩ := H
       replace H := ifb H
       rcases H with ⟨rfl, H⟩ | ⟨rfl, H⟩
       ·simp only [Option.some.injEq, Prod.mk.injEq] at H
        obtain ⟨rfl, rfl, rfl⟩ := H
        obtain ⟨Ao28, co28, eo28⟩ := Kd.R_slice HO_8.out
        subst eo28
        go_wp2_with (((with_reducible refine gate_callee (f := 38) rfl ?_); refine gL 82 Tryz.func38 #[.slice Ao28 x8_2.length co28] ?_; (with_reducible refine (peristyleref21_MayMarks.calls k2 _ _ x8_2 true _ ?side1 ?side2 A26.out).mono ?_); (case side1 => exact cx (Kd.R_reads' HO_8.out).2.2); (case side2 => exact (Kd.R_reads' HO_8.out).2.1); rintro e w' ⟨rfl, ⟨nd, rfl⟩⟩; refine ⟨_, rfl, ?_⟩))
        go_ret3
        exact ⟨_, er, by (with_reducible repeat (apply Kd.R_drewN)); exact HO_8.out, bh HB.out⟩
       ·simp only [Option.some.injEq, Prod.mk.injEq] at H
        obtain ⟨rfl, rfl, rfl⟩ := H
        obtain ⟨Ao29, co29, eo29⟩ := Kd.R_slice HO_8.out
        subst eo29
        go_wp2_with (((with_reducible refine gate_callee (f := 38) rfl ?_); refine gL 82 Tryz.func38 #[.slice Ao29 x8_2.length co29] ?_; (with_reducible refine (peristyleref21_MayMarks.calls k2 _ _ x8_2 false _ ?side1 ?side2 A26.out).mono ?_); (case side1 => exact cx (Kd.R_reads' HO_8.out).2.2); (case side2 => exact (Kd.R_reads' HO_8.out).2.1); rintro e w' ⟨rfl, ⟨nd, rfl⟩⟩; refine ⟨_, rfl, ?_⟩))
        go_ret3
        exact ⟨_, er, nl, bh HB.out⟩
end Go.Proofs.YtdgphlkbmplbpaaGreat.Print
end
section
namespace Go.Proofs.YtdgphlkbmplbpaaGreat.Print
open Go.RowKit Go.Proofs.YtdgphlkbmplbpaaGreatW.PrintWords Go.Proofs.YtdgphlkbmplbpaaGreatW.PrintLast Go.Proofs.YtdgphlkbmplbpaaGreatW.PrintMore
attribute [local go_sem] max2_int min2_int max_two min_two max_three min_three max_four min_four   -- for this text's walks alone
set_option linter.unusedVariables false
set_option linter.unusedSimpArgs false
attribute [local go_sem high] eqA68
/-! ### peristyleref21_Same: function 27 -/
def peristyleref21_Same.l0 : Nat → List (S68) → List (S68) → Int → Option (Bool)
 | 0, _, _, _ => none
 | k + 1, x0, x1, x5 => if x5 < (x0.length : Int) then (if 0 ≤ x5 then (if x5 < (x1.length : Int) then (if (!(((rd_T68 x0 x5).f0) == ((rd_T68 x1 x5).f0)) || (!(((rd_T68 x0 x5).f1) == ((rd_T68 x1 x5).f1)))) = true then (some false) else (peristyleref21_Same.l0 k x0 x1 (wrap64 (x5 + 1)))) else (none)) else (none)) else (some true)
def peristyleref21_Same.f (k : Nat) (l0 : List (S68)) (l1 : List (S68)) : Option (Bool) := if (l0.length : Int) = (l1.length : Int) then (peristyleref21_Same.l0 k l0 l1 0) else (some false)
theorem peristyleref21_Same.l0_succ (k) (a0) (a1) (a2) : type_of% (@peristyleref21_Same.l0.eq_2 a0 a1 a2 k) := peristyleref21_Same.l0.eq_2 a0 a1 a2 k
set_option maxHeartbeats 8000000 in
set_option maxRecDepth 100000 in
theorem peristyleref21_Same.calls (k : Nat) (A0 : Option Addr) (c0 : Nat) (l0 : List (S68)) (A1 : Option Addr) (c1 : Nat) (l1 : List (S68)) (r : Bool) (w : World) (hr0 : Kd.C k68 w A0 l0.length l0) (hc0 : l0.length ≤ c0) (hr1 : Kd.C k68 w A1 l1.length l1) (hc1 : l1.length ≤ c1) (h : peristyleref21_Same.f k l0 l1 = some r) :
  Calls Tryz.prog 27 #[.slice A0 l0.length c0, .slice A1 l1.length c1] w fun e w' => e = .returned (.bool r) ∧ Drawn0 w w' := by
 have hu68 := Tryz.underlying68
 have HR0 := Aside0.mk hr0
 have HC0 := Aside0.mk hc0
 clear hr0 hc0
 have HR1 := Aside0.mk hr1
 have HC1 := Aside0.mk hc1
 clear hr1 hc1
 have H := h
 clear h
 unfold peristyleref21_Same.f at H
 replace H := ife H
 rcases H with ⟨c3, c3b0, c3b1, H⟩ | ⟨c3, c3b0, c3b1, H⟩
 ·have c3b2 : (l0.length == l1.length) = true := by (simp at c3 ⊢; omega)
  clear c3
  have H' := Aside0.mk H
  clear H
  go_enter Tryz.func27, Tryz.ntmps27
  go_wp2
  repeat (go_quiet (fail))
  go_loopg [5] k (fun kq v5 w' => ∃ (x5_1 : Int), v5 = .int .i64 x5_1 ∧ Aside0 (peristyleref21_Same.l0 kq l0 l1 x5_1 = some r) ∧ Aside0 (kq ≤ k) ∧ Drawn0 w w')
  case atStart => exact ⟨(0), (by rfl), H', ⟨Nat.le_refl _⟩, by repeat (exact Drawn0.refl _)⟩
  case round =>
   clear H' c3b0 c3b1 c3b2
   obtain ⟨x5_1, rfl, HA, HK1, ⟨m1, rfl⟩⟩ := hrel
   cases gk with
   | zero => exact absurd HA.out (by simp [peristyleref21_Same.l0])
   | succ k1 =>
    have H := HA.out
    clear HA
    simp only [peristyleref21_Same.l0] at H
    replace H := ifd H
    rcases H with ⟨-, c4b0, H⟩ | ⟨-, c4b0, H⟩
    ·replace H := ifn H
     obtain ⟨-, c5b0, H⟩ := H
     replace H := ifn H
     obtain ⟨-, c6b0, H⟩ := H
     replace H := ifd H
     rcases H with ⟨c7, -, H⟩ | ⟨c7, -, H⟩
     ·have c7b0 : (!(((rd_T68 l0 x5_1).f0) == ((rd_T68 l1 x5_1).f0)) || (!(((rd_T68 l0 x5_1).f1) == ((rd_T68 l1 x5_1).f1)))) = true := c7
      clear c7
      obtain rfl := Option.some.inj H
      have p611 : 0 ≤ (x5_1 : Int) := ad
      have q611 : x5_1 < (l0.length : Int) := ad
      obtain ⟨ad611, e611, hx611_0, hx611_1⟩ := at_T68 HR0.out x5_1 p611 q611
      cases e611
      replace p611 := eq_true p611
      replace q611 := eq_true q611
      have p612 : 0 ≤ (x5_1 : Int) := ad
      have q612 : x5_1 < (l1.length : Int) := ad
      obtain ⟨ad612, e612, hx612_0, hx612_1⟩ := at_T68 HR1.out x5_1 p612 q612
      cases e612
      replace p612 := eq_true p612
      replace q612 := eq_true q612
      go_wp2
      repeat (go_quiet (fail); go_wp2)
      go_ret
      exact ⟨by rfl, by repeat (first | exact Drawn0.refl _ | apply Drawn0.step)⟩
     ·have c7b0 : (!(((rd_T68 l0 x5_1).f0) == ((rd_T68 l1 x5_1).f0)) || (!(((rd_T68 l0 x5_1).f1) == ((rd_T68 l1 x5_1).f1)))) = false := by simpa using c7
      clear c7
      have H' := Aside0.mk H
      clear H
      have p611 : 0 ≤ (x5_1 : Int) := ad
      have q611 : x5_1 < (l0.length : Int) := ad
      obtain ⟨ad611, e611, hx611_0, hx611_1⟩ := at_T68 HR0.out x5_1 p611 q611
      cases e611
      replace p611 := eq_true p611
      replace q611 := eq_true q611
      have p612 : 0 ≤ (x5_1 : Int) := ad
      have q612 : x5_1 < (l1.length : Int) := ad
      obtain ⟨ad612, e612, hx612_0, hx612_1⟩ := at_T68 HR1.out x5_1 p612 q612
      cases e612
      replace p612 := eq_true p612
      replace q612 := eq_true q612
      go_wp2
      repeat (go_quiet (fail); go_wp2)
      go_roundg k1
      case measure => have := HK1.out; omega
      case rel => exact ⟨(wrap64 (x5_1 + 1)), (by rfl), H', ⟨by have := HK1.out; omega⟩, by repeat (first | exact Drawn0.refl _ | apply Drawn0.step)⟩
    ·obtain rfl := Option.some.inj H
     go_wp2
     repeat (go_quiet (fail))
     go_ret
     exact ⟨by rfl, by repeat (first | exact Drawn0.refl _ | apply Drawn0.step)⟩
 ·have c3b2 : (l0.length == l1.length) = false := by (simp at c3 ⊢; omega)
  obtain rfl := Option.some.inj H
  go_enter Tryz.func27, Tryz.ntmps27
  go_wp2
  repeat (go_quiet (fail))
  go_ret
  exact ⟨by rfl, by repeat (exact Drawn0.refl _)⟩
end Go.Proofs.YtdgphlkbmplbpaaGreat.Print
end
section
namespace Go.Proofs.YtdgphlkbmplbpaaGreat.Print
open Go.RowKit Go.Proofs.YtdgphlkbmplbpaaGreatW.PrintWords Go.Proofs.YtdgphlkbmplbpaaGreatW.PrintLast Go.Proofs.YtdgphlkbmplbpaaGreatW.PrintMore
attribute [local go_sem] max2_int min2_int max_two min_two max_three min_three max_four min_four   -- for this text's walks alone
set_option linter.unusedVariables false
set_option linter.unusedSimpArgs false
end Go.Proofs.YtdgphlkbmplbpaaGreat.Print
end
section
namespace Go.Proofs.YtdgphlkbmplbpaaGreat.Print
open Go.RowKit Go.Proofs.YtdgphlkbmplbpaaGreatW.PrintWords Go.Proofs.YtdgphlkbmplbpaaGreatW.PrintLast Go.Proofs.YtdgphlkbmplbpaaGreatW.PrintMore
attribute [local go_sem] max2_int min2_int max_two min_two max_three min_three max_four min_four   -- for this text's walks alone
set_option linter.unusedVariables false
set_option linter.unusedSimpArgs false
/-! ### epoch_Take: function 25 -/
mutual
def epoch_Take.j0 : Nat → ByteArray → Int → Int → Bool → Option ((List (S68)) × Int × Int)
 | 0, _, _, _, _ => none
 | k + 1, x0, x5, x6, x30 => if x30 = true then (some (([] : List (S68)), 0, 20)) else (epoch_Take.l0 k x0 x6 ([] : List (S68)) (-1) x5 0)
def epoch_Take.l0 : Nat → ByteArray → Int → List (S68) → Int → Int → Int → Option ((List (S68)) × Int × Int)
 | 0, _, _, _, _, _, _ => none
 | k + 1, x0, x6, x8, x9, x31, x32 => if x32 < x31 then (epoch_Take.l1 k x0 x6 x8 x9 x31 x32 0 0 0) else ((epoch_good.f k x8 4096).bind fun t486 => (if t486 = true then (some (x8, x6, 0)) else (some (([] : List (S68)), 0, 20))))
def epoch_Take.l1 : Nat → ByteArray → Int → List (S68) → Int → Int → Int → Int → Int → Int → Option ((List (S68)) × Int × Int)
 | 0, _, _, _, _, _, _, _, _, _ => none
 | k + 1, x0, x6, x8, x9, x31, x32, x34, x488000, x488001 => if x34 < 2 then (if 0 ≤ x6 then (if x6 ≤ (x0.size : Int) then ((vint_Take.f k (x0.extract (x6 : Int).toNat x0.size)).bind fun bt488 => (if bt488.2.2 = 0 then (if x34 = 0 then (epoch_Take.l1 k x0 (wrap64 (x6 + bt488.2.1)) x8 x9 x31 x32 (wrap64 (x34 + 1)) bt488.1 x488001) else (if x34 = 1 then (epoch_Take.l1 k x0 (wrap64 (x6 + bt488.2.1)) x8 x9 x31 x32 (wrap64 (x34 + 1)) x488000 bt488.1) else (none))) else (some (([] : List (S68)), 0, 20)))) else (none)) else (none)) else (if x488000 < 1 then (some (([] : List (S68)), 0, 20)) else (if x488000 > 4096 then (some (([] : List (S68)), 0, 20)) else (if x8.length < 8796093022208 then (epoch_Take.l0 k x0 x6 (x8 ++ [(⟨wrap64 (x9 + x488000), x488001⟩ : S68)]) (wrap64 (x9 + x488000)) x31 (wrap64 (x32 + 1))) else (none))))
end
def epoch_Take.f (k : Nat) (a0 : ByteArray) : Option ((List (S68)) × Int × Int) := (vint_Take.f k a0).bind fun bt483 => (if bt483.2.2 = 0 then (if bt483.1 < 0 then (epoch_Take.j0 k a0 bt483.1 bt483.2.1 true) else (epoch_Take.j0 k a0 bt483.1 bt483.2.1 (decide (bt483.1 > 4096)))) else (epoch_Take.j0 k a0 bt483.1 bt483.2.1 true))
theorem epoch_Take.j0_succ (k : Nat) (x0 : ByteArray) (x5 : Int) (x6 : Int) (x30 : Bool) : epoch_Take.j0 (k + 1) x0 x5 x6 x30 = (if x30 = true then (some (([] : List (S68)), 0, 20)) else (epoch_Take.l0 k x0 x6 ([] : List (S68)) (-1) x5 0)) := by
 simp only [epoch_Take.j0]
theorem epoch_Take.l0_succ (k : Nat) (x0 : ByteArray) (x6 : Int) (x8 : List (S68)) (x9 : Int) (x31 : Int) (x32 : Int) : epoch_Take.l0 (k + 1) x0 x6 x8 x9 x31 x32 = (if x32 < x31 then (epoch_Take.l1 k x0 x6 x8 x9 x31 x32 0 0 0) else ((epoch_good.f k x8 4096).bind fun t486 => (if t486 = true then (some (x8, x6, 0)) else (some (([] : List (S68)), 0, 20))))) := by
 simp only [epoch_Take.l0]
theorem epoch_Take.l1_succ (k : Nat) (x0 : ByteArray) (x6 : Int) (x8 : List (S68)) (x9 : Int) (x31 : Int) (x32 : Int) (x34 : Int) (x488000 : Int) (x488001 : Int) : epoch_Take.l1 (k + 1) x0 x6 x8 x9 x31 x32 x34 x488000 x488001 = (if x34 < 2 then (if 0 ≤ x6 then (if x6 ≤ (x0.size : Int) then ((vint_Take.f k (x0.extract (x6 : Int).toNat x0.size)).bind fun bt488 => (if bt488.2.2 = 0 then (if x34 = 0 then (epoch_Take.l1 k x0 (wrap64 (x6 + bt488.2.1)) x8 x9 x31 x32 (wrap64 (x34 + 1)) bt488.1 x488001) else (if x34 = 1 then (epoch_Take.l1 k x0 (wrap64 (x6 + bt488.2.1)) x8 x9 x31 x32 (wrap64 (x34 + 1)) x488000 bt488.1) else (none))) else (some (([] : List (S68)), 0, 20)))) else (none)) else (none)) else (if x488000 < 1 then (some (([] : List (S68)), 0, 20)) else (if x488000 > 4096 then (some (([] : List (S68)), 0, 20)) else (if x8.length < 8796093022208 then (epoch_Take.l0 k x0 x6 (x8 ++ [(⟨wrap64 (x9 + x488000), x488001⟩ : S68)]) (wrap64 (x9 + x488000)) x31 (wrap64 (x32 + 1))) else (none))))) := by
 simp only [epoch_Take.l1]
set_option maxHeartbeats 8000000 in
set_option maxRecDepth 100000 in
theorem epoch_Take.calls (k : Nat) (a0 : ByteArray) (r1 : List (S68)) (r2 : Int) (r3 : Int) (w : World) (h : epoch_Take.f k a0 = some (r1, r2, r3)) :
  Calls Tryz.prog 25 #[.string a0] w fun e w' => ∃ v0_ : Value, e = .returned (.tuple #[v0_, .int .i64 r2, .int .i64 r3]) ∧ Kd.R k68 68 w' w.heap.size (fun _ => True) v0_ r1 ∧ Below w.heap.size w w' := by
 have hu59 := Tryz.underlying59
 have hu68 := Tryz.underlying68
 have HB := Aside0.mk (Below.refl w.heap.size w)
 have H : ((vint_Take.f k a0).bind fun bt483 => (if bt483.2.2 = 0 then (if bt483.1 < 0 then (epoch_Take.j0 k a0 bt483.1 bt483.2.1 true) else (epoch_Take.j0 k a0 bt483.1 bt483.2.1 (decide (bt483.1 > 4096)))) else (epoch_Take.j0 k a0 bt483.1 bt483.2.1 true))) = some (r1, r2, r3) := h
 clear h
 replace H := Option.bind_eq_some_iff.mp H
 obtain ⟨⟨t483, t484, t485⟩, A20, H⟩ := H
 replace H : (if t485 = 0 then (if t483 < 0 then (epoch_Take.j0 k a0 t483 t484 true) else (epoch_Take.j0 k a0 t483 t484 (decide (t483 > 4096)))) else (epoch_Take.j0 k a0 t483 t484 true)) = some (r1, r2, r3) := H
 have A2 := Aside0.mk A20
 clear A20
 have HC3 := Aside0.mk H
 clear H
 go_enter Tryz.func25, Tryz.ntmps25
 go_upto_region 2 with (first | ((with_reducible refine gate_callee (f := 49) rfl ?_); refine goesL_ (some 17) rfl rfl Tryz.func49 (by kernel_rfl) rfl #[.string a0] rfl (by (try simp only [List.map_toArray, List.map_cons, List.map_nil]); first | done | rfl) ?_; (with_reducible refine (vint_Take.calls k a0 t483 t484 t485 _ A2.out).mono ?_); rintro e w4 ⟨rfl, hb⟩; refine ⟨_, rfl, ?_⟩; replace HB := bsa HB hb; (try clear hb)))
 (try simp only [Act.put, List.setIfInBounds_toArray, List.set_cons_zero, List.set_cons_succ])
 go_cut [30] (fun v30 wc => ∃ (kq : Nat) (x30_2 : Bool), v30 = .bool x30_2 ∧ Aside0 (epoch_Take.j0 kq a0 t483 t484 x30_2 = some (r1, r2, r3)) ∧ Aside0 (kq ≤ k) ∧ Aside0 (Below w.heap.size w wc))
 case first =>
  have H := HC3.out
  clear HC3
  by_cases c5 : t485 = 0
  ·rw [if_pos c5] at H
   have c5b0 : (t485 == 0) = true := beq_iff_eq.mpr c5
   have c5b1 : (t485 != 0) = false := bne_eq_false_iff_eq.mpr c5
   clear c5
   (first | rw [c5b0] | (simp only [i64_w, i32_w]; rw [c5b0]) | rw [c5b1] | skip)
   by_cases c6 : t483 < 0
   ·rw [if_pos c6] at H
    have c6b0 : decide (t483 < 0) = true := decide_eq_true c6
    clear c6
    have H' := Aside0.mk H
    clear H
    go_wp2
    go_meet
    case rel => exact ⟨_, (true), (by first | rfl | (simp; done) | (simp [*]; done)), H', ⟨by first | omega | exact Nat.le_refl _⟩, ⟨bh HB.out⟩⟩
   ·rw [if_neg c6] at H
    have c6b0 : decide (t483 < 0) = false := decide_eq_false c6
    clear c6
    have H' := Aside0.mk H
    clear H
    go_wp2
    go_meet
    case rel => exact ⟨_, (decide (t483 > 4096)), (by first | rfl | (simp; done) | (simp [*]; done)), H', ⟨by first | omega | exact Nat.le_refl _⟩, ⟨bh HB.out⟩⟩
  ·rw [if_neg c5] at H
   have c5b0 : (t485 == 0) = false := beq_eq_false_iff_ne.mpr c5
   have c5b1 : (t485 != 0) = true := bne_iff_ne.mpr c5
   (first | rw [c5b0] | (simp only [i64_w, i32_w]; rw [c5b0]) | rw [c5b1] | skip)
   have H' := Aside0.mk H
   clear H
   go_wp2
   go_meet
   case rel => exact ⟨_, (true), (by first | rfl | (simp; done) | (simp [*]; done)), H', ⟨by first | omega | exact Nat.le_refl _⟩, ⟨bh HB.out⟩⟩
 case rest =>
  clear HC3
  try clear c5
  try clear c5b0
  try clear c5b1
  try clear c6
  try clear c6b0
  obtain ⟨kq, x30_2, rfl, HA, HJ2, HB⟩ := hcut
  cases kq with
  | zero => exact absurd HA.out (by simp [epoch_Take.j0])
  | succ kj2 =>
   have H := HA.out
   clear HA
   simp only [epoch_Take.j0] at H
   by_cases c7 : x30_2 = true
   ·subst c7
    have H1 : (some (([] : List (S68)), 0, 20)) = some (r1, r2, r3) := by rw [if_pos rfl] at H; exact H
    clear H
    have H := H1
    clear H1
    simp only [Option.some.injEq, Prod.mk.injEq] at H
    obtain ⟨rfl, rfl, rfl⟩ := H
    go_wp2
    go_ret3
    exact ⟨_, er, nl, bh HB.out⟩
   ·replace c7 := Bool.eq_false_iff.mpr c7
    subst c7
    have H1 : (epoch_Take.l0 kj2 a0 t484 ([] : List (S68)) (-1) t483 0) = some (r1, r2, r3) := by rw [if_neg (show ¬ (false = true) by decide)] at H; exact H
    clear H
    have H := H1
    clear H1
    have H' := Aside0.mk H
    clear H
    go_wp2
    go_loopg [6, 8, 9, 32] kj2 (fun kq v6 v8 v9 v32 w' => ∃ (x6_2 : Int) (x8_2 : List (S68)) (x9_2 : Int) (x32_2 : Int), v6 = .int .i64 x6_2 ∧ v9 = .int .i64 x9_2 ∧ v32 = .int .i64 x32_2 ∧ Aside0 (epoch_Take.l0 kq a0 x6_2 x8_2 x9_2 t483 x32_2 = some (r1, r2, r3)) ∧ Aside0 (kq ≤ kj2) ∧ Aside0 (Kd.R k68 68 w' w.heap.size (fun _ => True) v8 x8_2) ∧ Aside0 (Below w.heap.size w w'))
    case atStart => exact ⟨(t484), (([] : List (S68))), ((-1)), (0), (by first | rfl | (simp; done) | (simp [*]; done)), (by first | rfl | (simp; done) | (simp [*]; done)), (by first | rfl | (simp; done) | (simp [*]; done)), H', ⟨Nat.le_refl _⟩, ⟨nl⟩, ⟨bh HB.out⟩⟩
    case round =>
     clear H'
     try clear c5
     try clear c5b0
     try clear c5b1
     try clear c6
     try clear c6b0
     try clear c7
     obtain ⟨x6_2, x8_2, x9_2, x32_2, rfl, rfl, rfl, HA, HK2, HO_8, HB⟩ := hrel
     cases gk with
     | zero => exact absurd HA.out (by simp [epoch_Take.l0])
     | succ k2 =>
      have H := HA.out
      clear HA
      simp only [epoch_Take.l0] at H
      by_cases c8 : x32_2 < t483
      ·rw [if_pos c8] at H
       have c8b0 : decide (x32_2 < t483) = true := decide_eq_true c8
       clear c8
       have H' := Aside0.mk H
       clear H
       go_wp2_with (first | ((with_reducible refine gate_dst (N := 10) rfl ?_); refine box_event ?hg (N := 10) ?hd (cs := #[.int .i64 0, .int .i64 0]) (t := 59) ?hr ?_; (case hd => rfl); (case hg => rfl); (case hr => first | (go_simp; done) | (go_simp; rfl)); intro gb487 hg w9 hbox hb; replace HO_8 := rba HO_8 hb; have BK487 := Aside0.mk (hbox); have GW487 := bza HB hg; have GE487 := bza HB hg; replace HB := bsa HB hb; clear hb hbox hg))
       go_loopg [6, 34] k2 (fun kq v6 v34 w' => ∃ (x6_3 : Int) (x34_3 : Int) (x488000_3 : Int) (x488001_3 : Int), v6 = .int .i64 x6_3 ∧ v34 = .int .i64 x34_3 ∧ Aside0 (epoch_Take.l1 kq a0 x6_3 x8_2 x9_2 t483 x32_2 x34_3 x488000_3 x488001_3 = some (r1, r2, r3)) ∧ Aside0 (kq ≤ k2) ∧ Aside0 (Kd.R k68 68 w' w.heap.size (fun _ => True) u8 x8_2) ∧ Aside0 (w'.heap[gb487]? = some (.cells #[.int .i64 x488000_3, .int .i64 x488001_3] 59 (0, 0))) ∧ Aside0 (Below w.heap.size w w'))
       case atStart => exact ⟨(x6_2), (0), (0), (0), (by first | rfl | (simp; done) | (simp [*]; done)), (by first | rfl | (simp; done) | (simp [*]; done)), H', ⟨Nat.le_refl _⟩, ⟨by (with_reducible repeat (first | apply Kd.R_alloc | apply Kd.R_drewN | apply Kd.R_drew)); exact HO_8.out⟩, ⟨bx BK487.out⟩, ⟨bh HB.out⟩⟩
       case round =>
        clear H'
        try clear c5
        try clear c5b0
        try clear c5b1
        try clear c6
        try clear c6b0
        try clear c7
        try clear c8
        try clear c8b0
        obtain ⟨x6_3, x34_3, x488000_3, x488001_3, rfl, rfl, HA, HK3, HO_8, BK487, HB⟩ := hrel
        cases gk with
        | zero => exact absurd HA.out (by simp [epoch_Take.l1])
        | succ k3 =>
         have H := HA.out
         clear HA
         simp only [epoch_Take.l1] at H
         by_cases c10 : x34_3 < 2
         ·rw [if_pos c10] at H
          have c10b0 : decide (x34_3 < 2) = true := decide_eq_true c10
          clear c10
          by_cases c11 : 0 ≤ x6_3
          ·rw [if_pos c11] at H
           have c11b0 := eq_true c11
           have c11b1 : decide (0 ≤ x6_3) = true := decide_eq_true c11
           clear c11
           by_cases c12 : x6_3 ≤ (a0.size : Int)
           ·rw [if_pos c12] at H
            have c12b0 := eq_true c12
            have c12b1 : decide (x6_3 ≤ (a0.size : Int)) = true := decide_eq_true c12
            clear c12
            replace H := Option.bind_eq_some_iff.mp H
            obtain ⟨⟨t488, t489, t490⟩, A130, H⟩ := H
            replace H : (if t490 = 0 then (if x34_3 = 0 then (epoch_Take.l1 k3 a0 (wrap64 (x6_3 + t489)) x8_2 x9_2 t483 x32_2 (wrap64 (x34_3 + 1)) t488 x488001_3) else (if x34_3 = 1 then (epoch_Take.l1 k3 a0 (wrap64 (x6_3 + t489)) x8_2 x9_2 t483 x32_2 (wrap64 (x34_3 + 1)) x488000_3 t488) else (none))) else (some (([] : List (S68)), 0, 20))) = some (r1, r2, r3) := H
            have A13 := Aside0.mk A130
            clear A130
            by_cases c14 : t490 = 0
            ·rw [if_pos c14] at H
             have c14b0 : (t490 == 0) = true := beq_iff_eq.mpr c14
             have c14b1 : (t490 != 0) = false := bne_eq_false_iff_eq.mpr c14
             clear c14
             by_cases c15 : x34_3 = 0
             ·subst c15
              have H1 : (epoch_Take.l1 k3 a0 (wrap64 (x6_3 + t489)) x8_2 x9_2 t483 x32_2 (wrap64 (0 + 1)) t488 x488001_3) = some (r1, r2, r3) := by rw [if_pos rfl] at H; exact H
              clear H
              have H := H1
              clear H1
              have H' := Aside0.mk H
              clear H
              go_wp2_with (first | ((with_reducible refine gate_callee (f := 49) rfl ?_); refine goesL_ (some 41) rfl rfl Tryz.func49 (by kernel_rfl) rfl #[.string (a0.extract (x6_3 : Int).toNat a0.size)] rfl (by (try simp only [List.map_toArray, List.map_cons, List.map_nil]); first | done | rfl | (simp only [List.length_drop, List.length_take]; rfl) | (simp only [ByteArray.size_extract, Nat.min_self]; rfl)) ?_; (with_reducible refine (vint_Take.calls k3 (a0.extract (x6_3 : Int).toNat a0.size) t488 t489 t490 _ A13.out).mono ?_); rintro e w16 ⟨rfl, hb⟩; refine ⟨_, rfl, ?_⟩; replace HO_8 := rba HO_8 hb; replace BK487 := bba BK487 hb; replace HB := bsa HB hb; (try clear hb); have hcz17_0 : w16.cell? ⟨gb487, 0, none⟩ = some (.int .i64 x488000_3) := (blk_cell BK487.out 0).trans rfl; have hcz17_1 : w16.cell? ⟨gb487, 1, none⟩ = some (.int .i64 x488001_3) := (blk_cell BK487.out 1).trans rfl; have hfz17_0 := blk_frozen BK487.out 0; have hfz17_1 := blk_frozen BK487.out 1))
              go_roundg k3
              case measure => have := HJ2.out; have := HK2.out; have := HK3.out; omega
              case rel => exact ⟨(wrap64 (x6_3 + t489)), (wrap64 (0 + 1)), (t488), (x488001_3), (by first | rfl | (simp; done) | (simp [wrap64]; done) | (simp [*]; done)), (by first | rfl | (simp; done) | (simp [wrap64]; done) | (simp [*]; done)), H', ⟨by have := HJ2.out; have := HK2.out; have := HK3.out; omega⟩, ⟨by (with_reducible repeat (first | apply Kd.R_alloc | apply Kd.R_drewN | apply Kd.R_drew)); exact Kd.R_mono (Kd.R_far (p := ⟨gb487, 0, none⟩) (Kd.R_types HO_8.out BK487.out (by decide)) (fun _ hk => hk.2) (.int .i64 t488)) (fun _ hk => trivial)⟩, ⟨by (with_reducible repeat (first | refine blk_drewN ?_ _ | refine blk_drew ?_ | refine blk_alloc ?_ _)); refine blk_put (cs := #[.int .i64 x488000_3, .int .i64 x488001_3]) ?_ 0 _ rfl; (with_reducible repeat (first | refine blk_drewN ?_ _ | refine blk_drew ?_ | refine blk_alloc ?_ _)); exact BK487.out⟩, ⟨bh HB.out⟩⟩
             ·rw [if_neg c15] at H
              by_cases c18 : x34_3 = 1
              ·subst c18
               have H1 : (epoch_Take.l1 k3 a0 (wrap64 (x6_3 + t489)) x8_2 x9_2 t483 x32_2 (wrap64 (1 + 1)) x488000_3 t488) = some (r1, r2, r3) := by rw [if_pos rfl] at H; exact H
               clear H
               have H := H1
               clear H1
               have H' := Aside0.mk H
               clear H
               go_wp2_with (first | ((with_reducible refine gate_callee (f := 49) rfl ?_); refine goesL_ (some 41) rfl rfl Tryz.func49 (by kernel_rfl) rfl #[.string (a0.extract (x6_3 : Int).toNat a0.size)] rfl (by (try simp only [List.map_toArray, List.map_cons, List.map_nil]); first | done | rfl | (simp only [List.length_drop, List.length_take]; rfl) | (simp only [ByteArray.size_extract, Nat.min_self]; rfl)) ?_; (with_reducible refine (vint_Take.calls k3 (a0.extract (x6_3 : Int).toNat a0.size) t488 t489 t490 _ A13.out).mono ?_); rintro e w19 ⟨rfl, hb⟩; refine ⟨_, rfl, ?_⟩; replace HO_8 := rba HO_8 hb; replace BK487 := bba BK487 hb; replace HB := bsa HB hb; (try clear hb); have hcz20_0 : w19.cell? ⟨gb487, 0, none⟩ = some (.int .i64 x488000_3) := (blk_cell BK487.out 0).trans rfl; have hcz20_1 : w19.cell? ⟨gb487, 1, none⟩ = some (.int .i64 x488001_3) := (blk_cell BK487.out 1).trans rfl; have hfz20_0 := blk_frozen BK487.out 0; have hfz20_1 := blk_frozen BK487.out 1))
               go_roundg k3
               case measure => have := HJ2.out; have := HK2.out; have := HK3.out; omega
               case rel => exact ⟨(wrap64 (x6_3 + t489)), (wrap64 (1 + 1)), (x488000_3), (t488), (by first | rfl | (simp; done) | (simp [wrap64]; done) | (simp [*]; done)), (by first | rfl | (simp; done) | (simp [wrap64]; done) | (simp [*]; done)), H', ⟨by have := HJ2.out; have := HK2.out; have := HK3.out; omega⟩, ⟨by (with_reducible repeat (first | apply Kd.R_alloc | apply Kd.R_drewN | apply Kd.R_drew)); exact Kd.R_mono (Kd.R_far (p := ⟨gb487, 1, none⟩) (Kd.R_types HO_8.out BK487.out (by decide)) (fun _ hk => hk.2) (.int .i64 t488)) (fun _ hk => trivial)⟩, ⟨by (with_reducible repeat (first | refine blk_drewN ?_ _ | refine blk_drew ?_ | refine blk_alloc ?_ _)); refine blk_put (cs := #[.int .i64 x488000_3, .int .i64 x488001_3]) ?_ 1 _ rfl; (with_reducible repeat (first | refine blk_drewN ?_ _ | refine blk_drew ?_ | refine blk_alloc ?_ _)); exact BK487.out⟩, ⟨bh HB.out⟩⟩
              ·rw [if_neg c18] at H
               exact absurd H (by simp)
            ·rw [if_neg c14] at H
             have c14b0 : (t490 == 0) = false := beq_eq_false_iff_ne.mpr c14
             have c14b1 : (t490 != 0) = true := bne_iff_ne.mpr c14
             simp only [Option.some.injEq, Prod.mk.injEq] at H
             obtain ⟨rfl, rfl, rfl⟩ := H
             go_wp2_with (first | ((with_reducible refine gate_callee (f := 49) rfl ?_); refine goesL_ (some 41) rfl rfl Tryz.func49 (by kernel_rfl) rfl #[.string (a0.extract (x6_3 : Int).toNat a0.size)] rfl (by (try simp only [List.map_toArray, List.map_cons, List.map_nil]); first | done | rfl | (simp only [List.length_drop, List.length_take]; rfl) | (simp only [ByteArray.size_extract, Nat.min_self]; rfl)) ?_; (with_reducible refine (vint_Take.calls k3 (a0.extract (x6_3 : Int).toNat a0.size) t488 t489 t490 _ A13.out).mono ?_); rintro e w21 ⟨rfl, hb⟩; refine ⟨_, rfl, ?_⟩; replace HO_8 := rba HO_8 hb; replace BK487 := bba BK487 hb; replace HB := bsa HB hb; (try clear hb)))
             go_ret3
             exact ⟨_, er, nl, bh HB.out⟩
           ·rw [if_neg c12] at H
            exact absurd H (by simp)
          ·rw [if_neg c11] at H
           exact absurd H (by simp)
         ·rw [if_neg c10] at H
          have c10b0 : decide (x34_3 < 2) = false := decide_eq_false c10
          clear c10
          by_cases c22 : x488000_3 < 1
          ·rw [if_pos c22] at H
           have c22b0 : decide (x488000_3 < 1) = true := decide_eq_true c22
           clear c22
           simp only [Option.some.injEq, Prod.mk.injEq] at H
           obtain ⟨rfl, rfl, rfl⟩ := H
           have hcz23_0 : wr.cell? ⟨gb487, 0, none⟩ = some (.int .i64 x488000_3) := (blk_cell BK487.out 0).trans rfl
           have hcz23_1 : wr.cell? ⟨gb487, 1, none⟩ = some (.int .i64 x488001_3) := (blk_cell BK487.out 1).trans rfl
           have hfz23_0 := blk_frozen BK487.out 0
           have hfz23_1 := blk_frozen BK487.out 1
           go_wp2
           go_ret3
           exact ⟨_, er, nl, bh HB.out⟩
          ·rw [if_neg c22] at H
           have c22b0 : decide (x488000_3 < 1) = false := decide_eq_false c22
           clear c22
           by_cases c24 : x488000_3 > 4096
           ·rw [if_pos c24] at H
            have c24b0 : decide (4096 < x488000_3) = true := decide_eq_true c24
            clear c24
            simp only [Option.some.injEq, Prod.mk.injEq] at H
            obtain ⟨rfl, rfl, rfl⟩ := H
            have hcz25_0 : wr.cell? ⟨gb487, 0, none⟩ = some (.int .i64 x488000_3) := (blk_cell BK487.out 0).trans rfl
            have hcz25_1 : wr.cell? ⟨gb487, 1, none⟩ = some (.int .i64 x488001_3) := (blk_cell BK487.out 1).trans rfl
            have hfz25_0 := blk_frozen BK487.out 0
            have hfz25_1 := blk_frozen BK487.out 1
            go_wp2
            go_ret3
            exact ⟨_, er, nl, bh HB.out⟩
           ·rw [if_neg c24] at H
            have c24b0 : decide (4096 < x488000_3) = false := decide_eq_false c24
            clear c24
            by_cases c26 : x8_2.length < 8796093022208
            ·rw [if_pos c26] at H
             have LMc26 := Aside0.mk c26
             clear c26
             obtain ⟨y491, hy491⟩ : ∃ y_ : List (S68), y_ = (x8_2 ++ [(⟨wrap64 (x9_2 + x488000_3), x488001_3⟩ : S68)]) := ⟨_, rfl⟩
             replace H : (epoch_Take.l0 k3 a0 x6_3 y491 (wrap64 (x9_2 + x488000_3)) t483 (wrap64 (x32_2 + 1))) = some (r1, r2, r3) := by first | (rw [hy491]; with_reducible exact H) | (have H2_ := (Option.bind_some _ _).symm.trans H; rw [hy491]; with_reducible exact H2_) | (have H2_ := (Option.bind_some _ _).symm.trans H; with_reducible exact H2_) | with_reducible exact H | (rw [hy491]; exact H) | exact H
             have Ny491 := Aside0.mk hy491
             clear hy491
             have H' := Aside0.mk H
             clear H
             have hcz27_0 : wr.cell? ⟨gb487, 0, none⟩ = some (.int .i64 x488000_3) := (blk_cell BK487.out 0).trans rfl
             have hcz27_1 : wr.cell? ⟨gb487, 1, none⟩ = some (.int .i64 x488001_3) := (blk_cell BK487.out 1).trans rfl
             have hfz27_0 := blk_frozen BK487.out 0
             have hfz27_1 := blk_frozen BK487.out 1
             go_wp2_with (first | ((with_reducible refine gate_builtin (b := .append) (xs := #[.tmp 66, .tmp 71]) rfl ?_); at_builtin; refine Kd.R_append k68 (w0 := w) w.heap.size rfl (.tmp 66) (.tmp 71) 23 68 (.agg #[(.int .i64 0), (.int .i64 0)]) 16 rfl Tryz.underlying23 info68 rfl (by decide) (by omega) u8 x8_2 (⟨wrap64 (x9_2 + x488000_3), x488001_3⟩ : S68) [.int .i64 (wrap64 (x9_2 + x488000_3)), .int .i64 x488001_3] (fun _ => True) (fun _ => False) rfl rfl ?aP (fun _ hk => hk.elim) ?aF ?aO ?aB ?aS ?aL ?_; (case aP => exact k68_mkM _ _ _ (⟨wrap64 (x9_2 + x488000_3), x488001_3⟩ : S68)); (case aB => exact (bh HB.out)); (case aF => exact (fun _ _ => trivial)); (case aO => exact (rx HO_8.out)); (case aS => exact (below_size (bh HB.out))); (case aL => have := LMc26.out; omega); intro v492 w28 ho hb hg hat; rw [← Ny491.out] at ho; have n0_ := Aside0.mk (blk_grown (g := gb487) (o := .cells #[.int .i64 x488000_3, .int .i64 x488001_3] 59 (0, 0)) (bx BK487.out) hg (Kd.R_ne HO_8.out BK487.out (by decide))); have n1_ := Aside0.mk (hb); have n2_ := Aside0.mk (ho); clear BK487 HB HO_8; have BK487 := n0_; have HB := n1_; have HO493 := n2_; clear n0_ n1_ n2_; clear ho hb hg hat))
             go_roundg k3
             case measure => have := HJ2.out; have := HK2.out; have := HK3.out; omega
             case rel => exact ⟨(x6_3), (y491), (wrap64 (x9_2 + x488000_3)), (wrap64 (x32_2 + 1)), (by first | rfl | (simp; done) | (simp [*]; done)), (by first | rfl | (simp; done) | (simp [*]; done)), (by first | rfl | (simp; done) | (simp [*]; done)), H', ⟨by have := HJ2.out; have := HK2.out; have := HK3.out; omega⟩, ⟨by (with_reducible repeat (first | apply Kd.R_alloc | apply Kd.R_drewN | apply Kd.R_drew)); exact HO493.out⟩, ⟨bh HB.out⟩⟩
            ·rw [if_neg c26] at H
             exact absurd H (by simp)
      ·rw [if_neg c8] at H
       have c8b0 : decide (x32_2 < t483) = false := decide_eq_false c8
       clear c8
       replace H := Option.bind_eq_some_iff.mp H
       obtain ⟨t486, A290, H⟩ := H
       replace H : (if t486 = true then (some (x8_2, x6_2, 0)) else (some (([] : List (S68)), 0, 20))) = some (r1, r2, r3) := H
       have A29 := Aside0.mk A290
       clear A290
       by_cases c30 : t486 = true
       ·subst c30
        have H1 : (some (x8_2, x6_2, 0)) = some (r1, r2, r3) := by rw [if_pos rfl] at H; exact H
        clear H
        have H := H1
        clear H1
        simp only [Option.some.injEq, Prod.mk.injEq] at H
        obtain ⟨rfl, rfl, rfl⟩ := H
        obtain ⟨Ao31, co31, eo31⟩ := Kd.R_slice HO_8.out
        subst eo31
        go_wp2_with (first | ((with_reducible refine gate_callee (f := 34) rfl ?_); refine goesL_ (some 75) rfl rfl Tryz.func34 (by kernel_rfl) rfl #[.slice Ao31 x8_2.length co31, .int .i64 4096] rfl (by (try simp only [List.map_toArray, List.map_cons, List.map_nil]); first | done | rfl) ?_; (with_reducible refine (epoch_good.calls k2 _ _ x8_2 4096 true _ ?side1 ?side2 A29.out).mono ?_); (case side1 => exact cx (Kd.R_reads' HO_8.out).2.2); (case side2 => exact (Kd.R_reads' HO_8.out).2.1); rintro e w32 ⟨rfl, hb⟩; refine ⟨_, rfl, ?_⟩; replace HO_8 := rba HO_8 hb; replace HB := bsa HB hb; (try clear hb)))
        go_ret3
        exact ⟨_, er, by (with_reducible repeat (first | apply Kd.R_alloc | apply Kd.R_drewN | apply Kd.R_drew)); exact HO_8.out, bh HB.out⟩
       ·replace c30 := Bool.eq_false_iff.mpr c30
        subst c30
        have H1 : (some (([] : List (S68)), 0, 20)) = some (r1, r2, r3) := by rw [if_neg (show ¬ (false = true) by decide)] at H; exact H
        clear H
        have H := H1
        clear H1
        simp only [Option.some.injEq, Prod.mk.injEq] at H
        obtain ⟨rfl, rfl, rfl⟩ := H
        obtain ⟨Ao33, co33, eo33⟩ := Kd.R_slice HO_8.out
        subst eo33
        go_wp2_with (first | ((with_reducible refine gate_callee (f := 34) rfl ?_); refine goesL_ (some 75) rfl rfl Tryz.func34 (by kernel_rfl) rfl #[.slice Ao33 x8_2.length co33, .int .i64 4096] rfl (by (try simp only [List.map_toArray, List.map_cons, List.map_nil]); first | done | rfl) ?_; (with_reducible refine (epoch_good.calls k2 _ _ x8_2 4096 false _ ?side1 ?side2 A29.out).mono ?_); (case side1 => exact cx (Kd.R_reads' HO_8.out).2.2); (case side2 => exact (Kd.R_reads' HO_8.out).2.1); rintro e w34 ⟨rfl, hb⟩; refine ⟨_, rfl, ?_⟩; replace HO_8 := rba HO_8 hb; replace HB := bsa HB hb; (try clear hb)))
        go_ret3
        exact ⟨_, er, nl, bh HB.out⟩
end Go.Proofs.YtdgphlkbmplbpaaGreat.Print
end
section
namespace Go.Proofs.YtdgphlkbmplbpaaGreat.Print
open Go.RowKit Go.Proofs.YtdgphlkbmplbpaaGreatW.PrintWords Go.Proofs.YtdgphlkbmplbpaaGreatW.PrintLast Go.Proofs.YtdgphlkbmplbpaaGreatW.PrintMore
attribute [local go_sem] max2_int min2_int max_two min_two max_three min_three max_four min_four   -- for this text's walks alone
set_option linter.unusedVariables false
set_option linter.unusedSimpArgs false
attribute [local go_sem high] eqA68
/-! ### peristylelaw21_EpochBytes: function 5 -/
mutual
def peristylelaw21_EpochBytes.j0 : Nat → List (S68) → ByteArray → Bool → Option (Bool)
 | 0, _, _, _ => none
 | k + 1, x0, x1, x25 => if x25 = true then ((peristylelaw21_awake.f k).bind fun t512 => (some t512)) else ((epoch_Put.f k x0).bind fun bt513 => ((peristyleref21_Put.f k x0).bind fun bt515 => ((epoch_Take.f k x1).bind fun bt517 => ((peristyleref21_Take.f k x1).bind fun bt522 => (if bt513.1.toList = bt515.1.toList then (if bt513.2 = bt515.2 then ((peristyleref21_Same.f k bt517.1 bt522.1).bind fun t527 => (if t527 = true then (if bt517.2.1 = bt522.2.1 then (peristylelaw21_EpochBytes.j1 k x0 x1 bt513.1 bt513.2 (bt517.2.2 != bt522.2.2)) else (peristylelaw21_EpochBytes.j1 k x0 x1 bt513.1 bt513.2 true)) else (peristylelaw21_EpochBytes.j1 k x0 x1 bt513.1 bt513.2 true))) else (peristylelaw21_EpochBytes.j1 k x0 x1 bt513.1 bt513.2 true)) else (peristylelaw21_EpochBytes.j1 k x0 x1 bt513.1 bt513.2 true))))))
def peristylelaw21_EpochBytes.j1 : Nat → List (S68) → ByteArray → ByteArray → Int → Bool → Option (Bool)
 | 0, _, _, _, _, _ => none
 | k + 1, x0, x1, x5, x6, x72 => if x72 = true then (some false) else (if x5.size + x1.size ≤ 9223372036854775807 then ((epoch_Take.f k (x5 ++ x1)).bind fun bt528 => (if x6 = 0 then (if bt528.2.2 = 0 then (if bt528.2.1 = (x5.size : Int) then ((peristyleref21_Same.f k bt528.1 x0).bind fun t533 => (if t533 = true then ((peristylelaw21_awake.f k).bind fun t534 => (some t534)) else (none))) else (none)) else (none)) else ((peristylelaw21_awake.f k).bind fun t535 => (some t535)))) else (none))
end
def peristylelaw21_EpochBytes.f (k : Nat) (l0 : List (S68)) (a1 : ByteArray) : Option (Bool) := if (l0.length : Int) > 60 then (peristylelaw21_EpochBytes.j0 k l0 a1 true) else (peristylelaw21_EpochBytes.j0 k l0 a1 (decide ((a1.size : Int) > 512)))
theorem peristylelaw21_EpochBytes.j0_succ (k : Nat) (x0 : List (S68)) (x1 : ByteArray) (x25 : Bool) : peristylelaw21_EpochBytes.j0 (k + 1) x0 x1 x25 = (if x25 = true then ((peristylelaw21_awake.f k).bind fun t512 => (some t512)) else ((epoch_Put.f k x0).bind fun bt513 => ((peristyleref21_Put.f k x0).bind fun bt515 => ((epoch_Take.f k x1).bind fun bt517 => ((peristyleref21_Take.f k x1).bind fun bt522 => (if bt513.1.toList = bt515.1.toList then (if bt513.2 = bt515.2 then ((peristyleref21_Same.f k bt517.1 bt522.1).bind fun t527 => (if t527 = true then (if bt517.2.1 = bt522.2.1 then (peristylelaw21_EpochBytes.j1 k x0 x1 bt513.1 bt513.2 (bt517.2.2 != bt522.2.2)) else (peristylelaw21_EpochBytes.j1 k x0 x1 bt513.1 bt513.2 true)) else (peristylelaw21_EpochBytes.j1 k x0 x1 bt513.1 bt513.2 true))) else (peristylelaw21_EpochBytes.j1 k x0 x1 bt513.1 bt513.2 true)) else (peristylelaw21_EpochBytes.j1 k x0 x1 bt513.1 bt513.2 true))))))) := by
 simp only [peristylelaw21_EpochBytes.j0]
theorem peristylelaw21_EpochBytes.j1_succ (k : Nat) (x0 : List (S68)) (x1 : ByteArray) (x5 : ByteArray) (x6 : Int) (x72 : Bool) : peristylelaw21_EpochBytes.j1 (k + 1) x0 x1 x5 x6 x72 = (if x72 = true then (some false) else (if x5.size + x1.size ≤ 9223372036854775807 then ((epoch_Take.f k (x5 ++ x1)).bind fun bt528 => (if x6 = 0 then (if bt528.2.2 = 0 then (if bt528.2.1 = (x5.size : Int) then ((peristyleref21_Same.f k bt528.1 x0).bind fun t533 => (if t533 = true then ((peristylelaw21_awake.f k).bind fun t534 => (some t534)) else (none))) else (none)) else (none)) else ((peristylelaw21_awake.f k).bind fun t535 => (some t535)))) else (none))) := by
 simp only [peristylelaw21_EpochBytes.j1]
set_option maxHeartbeats 8000000 in
set_option maxRecDepth 100000 in
theorem peristylelaw21_EpochBytes.calls (k : Nat) (A0 : Option Addr) (c0 : Nat) (l0 : List (S68)) (a1 : ByteArray) (r : Bool) (w : World) (hr0 : Kd.C k68 w A0 l0.length l0) (hc0 : l0.length ≤ c0) (h : peristylelaw21_EpochBytes.f k l0 a1 = some r) :
  Calls Tryz.prog 5 #[.slice A0 l0.length c0, .string a1] w fun e w' => e = .returned (.bool r) ∧ Below w.heap.size w w' := by
 have HR0 := Aside0.mk hr0
 have HC0 := Aside0.mk hc0
 clear hr0 hc0
 have HB := Aside0.mk (Below.refl w.heap.size w)
 have H : (if (l0.length : Int) > 60 then (peristylelaw21_EpochBytes.j0 k l0 a1 true) else (peristylelaw21_EpochBytes.j0 k l0 a1 (decide ((a1.size : Int) > 512)))) = some r := h
 clear h
 have HC3 := Aside0.mk H
 clear H
 go_enter Tryz.func5, Tryz.ntmps5
 go_upto_region 1 with (fail)
 go_cut [25] (fun v25 wc => ∃ (kq : Nat) (x25_2 : Bool), v25 = .bool x25_2 ∧ Aside0 (peristylelaw21_EpochBytes.j0 kq l0 a1 x25_2 = some r) ∧ Aside0 (kq ≤ k) ∧ Aside0 (Below w.heap.size w wc))
 case first =>
  have H := HC3.out
  clear HC3
  by_cases c4 : (l0.length : Int) > 60
  ·rw [if_pos c4] at H
   have c4b0 : decide (60 < (l0.length : Int)) = true := decide_eq_true c4
   have c4b1 : decide (60 < l0.length) = true := decide_eq_true (by omega)
   clear c4
   (first | rw [c4b0] | (simp only [i64_w, i32_w]; rw [c4b0]) | rw [c4b1] | skip)
   have H' := Aside0.mk H
   clear H
   go_wp2
   go_meet
   case rel => exact ⟨_, (true), (by first | rfl | (simp; done) | (simp [*]; done)), H', ⟨by first | omega | exact Nat.le_refl _⟩, ⟨bh HB.out⟩⟩
  ·rw [if_neg c4] at H
   have c4b0 : decide (60 < (l0.length : Int)) = false := decide_eq_false c4
   have c4b1 : decide (60 < l0.length) = false := decide_eq_false (by omega)
   clear c4
   (first | rw [c4b0] | (simp only [i64_w, i32_w]; rw [c4b0]) | rw [c4b1] | skip)
   have H' := Aside0.mk H
   clear H
   go_wp2
   go_meet
   case rel => exact ⟨_, (decide ((a1.size : Int) > 512)), (by first | rfl | (simp; done) | (simp [*]; done)), H', ⟨by first | omega | exact Nat.le_refl _⟩, ⟨bh HB.out⟩⟩
 case rest =>
  clear HC3
  try clear c4
  try clear c4b0
  try clear c4b1
  obtain ⟨kq, x25_2, rfl, HA, HJ2, HB⟩ := hcut
  cases kq with
  | zero => exact absurd HA.out (by simp [peristylelaw21_EpochBytes.j0])
  | succ kj2 =>
   have H := HA.out
   clear HA
   simp only [peristylelaw21_EpochBytes.j0] at H
   by_cases c5 : x25_2 = true
   ·subst c5
    have H1 : ((peristylelaw21_awake.f kj2).bind fun t512 => (some t512)) = some r := by rw [if_pos rfl] at H; exact H
    clear H
    have H := H1
    clear H1
    replace H := Option.bind_eq_some_iff.mp H
    obtain ⟨t512, A60, H⟩ := H
    replace H : (some t512) = some r := H
    have A6 := Aside0.mk A60
    clear A60
    obtain rfl := Option.some.inj H
    go_wp2_with (first | ((with_reducible refine gate_callee (f := 8) rfl ?_); refine goesL_ (some 26) rfl rfl Tryz.func8 (by kernel_rfl) rfl #[] rfl (by (try simp only [List.map_toArray, List.map_cons, List.map_nil]); first | done | rfl) ?_; (with_reducible refine (peristylelaw21_awake.calls kj2  t512 _ A6.out).mono ?_); rintro e w7 ⟨rfl, hb⟩; refine ⟨_, rfl, ?_⟩; replace HB := bsa HB hb; (try clear hb)))
    go_ret
    exact ⟨er, bh HB.out⟩
   ·replace c5 := Bool.eq_false_iff.mpr c5
    subst c5
    have H1 : ((epoch_Put.f kj2 l0).bind fun bt513 => ((peristyleref21_Put.f kj2 l0).bind fun bt515 => ((epoch_Take.f kj2 a1).bind fun bt517 => ((peristyleref21_Take.f kj2 a1).bind fun bt522 => (if bt513.1.toList = bt515.1.toList then (if bt513.2 = bt515.2 then ((peristyleref21_Same.f kj2 bt517.1 bt522.1).bind fun t527 => (if t527 = true then (if bt517.2.1 = bt522.2.1 then (peristylelaw21_EpochBytes.j1 kj2 l0 a1 bt513.1 bt513.2 (bt517.2.2 != bt522.2.2)) else (peristylelaw21_EpochBytes.j1 kj2 l0 a1 bt513.1 bt513.2 true)) else (peristylelaw21_EpochBytes.j1 kj2 l0 a1 bt513.1 bt513.2 true))) else (peristylelaw21_EpochBytes.j1 kj2 l0 a1 bt513.1 bt513.2 true)) else (peristylelaw21_EpochBytes.j1 kj2 l0 a1 bt513.1 bt513.2 true)))))) = some r := by rw [if_neg (show ¬ (false = true) by decide)] at H; exact H
    clear H
    have H := H1
    clear H1
    replace H := Option.bind_eq_some_iff.mp H
    obtain ⟨⟨t513, t514⟩, A80, H⟩ := H
    replace H : ((peristyleref21_Put.f kj2 l0).bind fun bt515 => ((epoch_Take.f kj2 a1).bind fun bt517 => ((peristyleref21_Take.f kj2 a1).bind fun bt522 => (if t513.toList = bt515.1.toList then (if t514 = bt515.2 then ((peristyleref21_Same.f kj2 bt517.1 bt522.1).bind fun t527 => (if t527 = true then (if bt517.2.1 = bt522.2.1 then (peristylelaw21_EpochBytes.j1 kj2 l0 a1 t513 t514 (bt517.2.2 != bt522.2.2)) else (peristylelaw21_EpochBytes.j1 kj2 l0 a1 t513 t514 true)) else (peristylelaw21_EpochBytes.j1 kj2 l0 a1 t513 t514 true))) else (peristylelaw21_EpochBytes.j1 kj2 l0 a1 t513 t514 true)) else (peristylelaw21_EpochBytes.j1 kj2 l0 a1 t513 t514 true))))) = some r := H
    have A8 := Aside0.mk A80
    clear A80
    replace H := Option.bind_eq_some_iff.mp H
    obtain ⟨⟨t515, t516⟩, A90, H⟩ := H
    replace H : ((epoch_Take.f kj2 a1).bind fun bt517 => ((peristyleref21_Take.f kj2 a1).bind fun bt522 => (if t513.toList = t515.toList then (if t514 = t516 then ((peristyleref21_Same.f kj2 bt517.1 bt522.1).bind fun t527 => (if t527 = true then (if bt517.2.1 = bt522.2.1 then (peristylelaw21_EpochBytes.j1 kj2 l0 a1 t513 t514 (bt517.2.2 != bt522.2.2)) else (peristylelaw21_EpochBytes.j1 kj2 l0 a1 t513 t514 true)) else (peristylelaw21_EpochBytes.j1 kj2 l0 a1 t513 t514 true))) else (peristylelaw21_EpochBytes.j1 kj2 l0 a1 t513 t514 true)) else (peristylelaw21_EpochBytes.j1 kj2 l0 a1 t513 t514 true)))) = some r := H
    have A9 := Aside0.mk A90
    clear A90
    replace H := Option.bind_eq_some_iff.mp H
    obtain ⟨⟨t517, t518, t519⟩, A100, H⟩ := H
    replace H : ((peristyleref21_Take.f kj2 a1).bind fun bt522 => (if t513.toList = t515.toList then (if t514 = t516 then ((peristyleref21_Same.f kj2 t517 bt522.1).bind fun t527 => (if t527 = true then (if t518 = bt522.2.1 then (peristylelaw21_EpochBytes.j1 kj2 l0 a1 t513 t514 (t519 != bt522.2.2)) else (peristylelaw21_EpochBytes.j1 kj2 l0 a1 t513 t514 true)) else (peristylelaw21_EpochBytes.j1 kj2 l0 a1 t513 t514 true))) else (peristylelaw21_EpochBytes.j1 kj2 l0 a1 t513 t514 true)) else (peristylelaw21_EpochBytes.j1 kj2 l0 a1 t513 t514 true))) = some r := H
    have A10 := Aside0.mk A100
    clear A100
    replace H := Option.bind_eq_some_iff.mp H
    obtain ⟨⟨t522, t523, t524⟩, A110, H⟩ := H
    replace H : (if t513.toList = t515.toList then (if t514 = t516 then ((peristyleref21_Same.f kj2 t517 t522).bind fun t527 => (if t527 = true then (if t518 = t523 then (peristylelaw21_EpochBytes.j1 kj2 l0 a1 t513 t514 (t519 != t524)) else (peristylelaw21_EpochBytes.j1 kj2 l0 a1 t513 t514 true)) else (peristylelaw21_EpochBytes.j1 kj2 l0 a1 t513 t514 true))) else (peristylelaw21_EpochBytes.j1 kj2 l0 a1 t513 t514 true)) else (peristylelaw21_EpochBytes.j1 kj2 l0 a1 t513 t514 true)) = some r := H
    have A11 := Aside0.mk A110
    clear A110
    have HC12 := Aside0.mk H
    clear H
    go_upto_region 7 with (first | ((with_reducible refine gate_callee (f := 23) rfl ?_); refine goesL_ (some 29) rfl rfl Tryz.func23 (by kernel_rfl) rfl #[.slice A0 l0.length c0] rfl (by (try simp only [List.map_toArray, List.map_cons, List.map_nil]); first | done | rfl) ?_; (with_reducible refine (epoch_Put.calls kj2 _ _ l0 t513 t514 _ ?side1 ?side2 A8.out).mono ?_); (case side1 => exact cx (Kd.C_below HR0.out HB.out)); (case side2 => exact HC0.out); rintro e w13 ⟨rfl, hb⟩; refine ⟨_, rfl, ?_⟩; replace HB := bsa HB hb; (try clear hb)) | ((with_reducible refine gate_callee (f := 24) rfl ?_); refine goesL_ (some 34) rfl rfl Tryz.func24 (by kernel_rfl) rfl #[.slice A0 l0.length c0] rfl (by (try simp only [List.map_toArray, List.map_cons, List.map_nil]); first | done | rfl) ?_; (with_reducible refine (peristyleref21_Put.calls kj2 _ _ l0 t515 t516 _ ?side1 ?side2 A9.out).mono ?_); (case side1 => exact cx (Kd.C_below HR0.out HB.out)); (case side2 => exact HC0.out); rintro e w14 ⟨rfl, hb⟩; refine ⟨_, rfl, ?_⟩; replace HB := bsa HB hb; (try clear hb)) | ((with_reducible refine gate_callee (f := 25) rfl ?_); refine goesL_ (some 39) rfl rfl Tryz.func25 (by kernel_rfl) rfl #[.string a1] rfl (by (try simp only [List.map_toArray, List.map_cons, List.map_nil]); first | done | rfl) ?_; (with_reducible refine (epoch_Take.calls kj2 a1 t517 t518 t519 _ A10.out).mono ?_); rintro e w15 ⟨v520, rfl, ho0, hb⟩; refine ⟨_, rfl, ?_⟩; have HO521 := Aside0.mk (Kd.R_lower ho0 (below_size (bh HB.out))); replace HB := bsa HB hb; (try clear hb); (try clear ho0)) | ((with_reducible refine gate_callee (f := 26) rfl ?_); refine goesL_ (some 45) rfl rfl Tryz.func26 (by kernel_rfl) rfl #[.string a1] rfl (by (try simp only [List.map_toArray, List.map_cons, List.map_nil]); first | done | rfl) ?_; (with_reducible refine (peristyleref21_Take.calls kj2 a1 t522 t523 t524 _ A11.out).mono ?_); rintro e w16 ⟨v525, rfl, ho0, hb⟩; refine ⟨_, rfl, ?_⟩; have HO526 := Aside0.mk (Kd.R_lower (Kd.R_new' ho0 (Kd.R_lt (rx HO521.out))) (below_size (bh HB.out))); replace HO521 := Aside0.mk (Kd.R_elder' (rx HO521.out) (Kd.R_base ho0) hb); replace HB := bsa HB hb; (try clear hb); (try clear ho0)))
    (try simp only [Act.put, List.setIfInBounds_toArray, List.set_cons_zero, List.set_cons_succ])
    go_cut [72] (fun v72 wc => ∃ (kq : Nat) (x72_11 : Bool), v72 = .bool x72_11 ∧ Aside0 (peristylelaw21_EpochBytes.j1 kq l0 a1 t513 t514 x72_11 = some r) ∧ Aside0 (kq ≤ kj2) ∧ Aside0 (Below w.heap.size w wc))
    case first =>
     have H := HC12.out
     clear HC12
     by_cases c17 : t513.toList = t515.toList
     ·rw [if_pos c17] at H
      have c17b0 : (t513.toList == t515.toList) = true := beq_iff_eq.mpr c17
      have c17b1 : (t513.toList != t515.toList) = false := bne_eq_false_iff_eq.mpr c17
      clear c17
      (first | rw [c17b0] | (simp only [i64_w, i32_w]; rw [c17b0]) | rw [c17b1] | skip)
      by_cases c18 : t514 = t516
      ·rw [if_pos c18] at H
       have c18b0 : (t514 == t516) = true := beq_iff_eq.mpr c18
       have c18b1 : (t514 != t516) = false := bne_eq_false_iff_eq.mpr c18
       clear c18
       replace H := Option.bind_eq_some_iff.mp H
       obtain ⟨t527, A190, H⟩ := H
       replace H : (if t527 = true then (if t518 = t523 then (peristylelaw21_EpochBytes.j1 kj2 l0 a1 t513 t514 (t519 != t524)) else (peristylelaw21_EpochBytes.j1 kj2 l0 a1 t513 t514 true)) else (peristylelaw21_EpochBytes.j1 kj2 l0 a1 t513 t514 true)) = some r := H
       have A19 := Aside0.mk A190
       clear A190
       by_cases c20 : t527 = true
       ·subst c20
        have H1 : (if t518 = t523 then (peristylelaw21_EpochBytes.j1 kj2 l0 a1 t513 t514 (t519 != t524)) else (peristylelaw21_EpochBytes.j1 kj2 l0 a1 t513 t514 true)) = some r := by rw [if_pos rfl] at H; exact H
        clear H
        have H := H1
        clear H1
        by_cases c21 : t518 = t523
        ·rw [if_pos c21] at H
         have c21b0 : (t518 == t523) = true := beq_iff_eq.mpr c21
         have c21b1 : (t518 != t523) = false := bne_eq_false_iff_eq.mpr c21
         clear c21
         have H' := Aside0.mk H
         clear H
         obtain ⟨Ao22, co22, eo22⟩ := Kd.R_slice HO521.out
         subst eo22
         obtain ⟨Ao23, co23, eo23⟩ := Kd.R_slice HO526.out
         subst eo23
         go_wp2_with (first | (go_at_call 27; (with_reducible refine (peristyleref21_Same.calls kj2 _ _ t517 _ _ t522 true _ ?side1 ?side2 ?side3 ?side4 A19.out).mono ?_); (case side1 => exact cx (Kd.R_reads' HO521.out).2.2); (case side2 => exact (Kd.R_reads' HO521.out).2.1); (case side3 => exact cx (Kd.R_reads' HO526.out).2.2); (case side4 => exact (Kd.R_reads' HO526.out).2.1); rintro e w' ⟨rfl, ⟨nd, rfl⟩⟩; (try clear A19)))
         go_meet
         case rel => exact ⟨_, ((t519 != t524)), (by first | rfl | (simp; done) | (simp [*]; done)), H', ⟨by have := HJ2.out; first | omega | exact Nat.le_refl _⟩, ⟨bh HB.out⟩⟩
        ·rw [if_neg c21] at H
         have c21b0 : (t518 == t523) = false := beq_eq_false_iff_ne.mpr c21
         have c21b1 : (t518 != t523) = true := bne_iff_ne.mpr c21
         have H' := Aside0.mk H
         clear H
         obtain ⟨Ao24, co24, eo24⟩ := Kd.R_slice HO521.out
         subst eo24
         obtain ⟨Ao25, co25, eo25⟩ := Kd.R_slice HO526.out
         subst eo25
         go_wp2_with (first | (go_at_call 27; (with_reducible refine (peristyleref21_Same.calls kj2 _ _ t517 _ _ t522 true _ ?side1 ?side2 ?side3 ?side4 A19.out).mono ?_); (case side1 => exact cx (Kd.R_reads' HO521.out).2.2); (case side2 => exact (Kd.R_reads' HO521.out).2.1); (case side3 => exact cx (Kd.R_reads' HO526.out).2.2); (case side4 => exact (Kd.R_reads' HO526.out).2.1); rintro e w' ⟨rfl, ⟨nd, rfl⟩⟩; (try clear A19)))
         go_meet
         case rel => exact ⟨_, (true), (by first | rfl | (simp; done) | (simp [*]; done)), H', ⟨by have := HJ2.out; first | omega | exact Nat.le_refl _⟩, ⟨bh HB.out⟩⟩
       ·replace c20 := Bool.eq_false_iff.mpr c20
        subst c20
        have H1 : (peristylelaw21_EpochBytes.j1 kj2 l0 a1 t513 t514 true) = some r := by rw [if_neg (show ¬ (false = true) by decide)] at H; exact H
        clear H
        have H := H1
        clear H1
        have H' := Aside0.mk H
        clear H
        obtain ⟨Ao26, co26, eo26⟩ := Kd.R_slice HO521.out
        subst eo26
        obtain ⟨Ao27, co27, eo27⟩ := Kd.R_slice HO526.out
        subst eo27
        go_wp2_with (first | (go_at_call 27; (with_reducible refine (peristyleref21_Same.calls kj2 _ _ t517 _ _ t522 false _ ?side1 ?side2 ?side3 ?side4 A19.out).mono ?_); (case side1 => exact cx (Kd.R_reads' HO521.out).2.2); (case side2 => exact (Kd.R_reads' HO521.out).2.1); (case side3 => exact cx (Kd.R_reads' HO526.out).2.2); (case side4 => exact (Kd.R_reads' HO526.out).2.1); rintro e w' ⟨rfl, ⟨nd, rfl⟩⟩; (try clear A19)))
        go_meet
        case rel => exact ⟨_, (true), (by first | rfl | (simp; done) | (simp [*]; done)), H', ⟨by have := HJ2.out; first | omega | exact Nat.le_refl _⟩, ⟨bh HB.out⟩⟩
      ·rw [if_neg c18] at H
       have c18b0 : (t514 == t516) = false := beq_eq_false_iff_ne.mpr c18
       have c18b1 : (t514 != t516) = true := bne_iff_ne.mpr c18
       have H' := Aside0.mk H
       clear H
       go_wp2
       go_meet
       case rel => exact ⟨_, (true), (by first | rfl | (simp; done) | (simp [*]; done)), H', ⟨by have := HJ2.out; first | omega | exact Nat.le_refl _⟩, ⟨bh HB.out⟩⟩
     ·rw [if_neg c17] at H
      have c17b0 : (t513.toList == t515.toList) = false := beq_eq_false_iff_ne.mpr c17
      have c17b1 : (t513.toList != t515.toList) = true := bne_iff_ne.mpr c17
      (first | rw [c17b0] | (simp only [i64_w, i32_w]; rw [c17b0]) | rw [c17b1] | skip)
      have H' := Aside0.mk H
      clear H
      go_wp2
      go_meet
      case rel => exact ⟨_, (true), (by first | rfl | (simp; done) | (simp [*]; done)), H', ⟨by have := HJ2.out; first | omega | exact Nat.le_refl _⟩, ⟨bh HB.out⟩⟩
    case rest =>
     clear HC12
     try clear c4
     try clear c4b0
     try clear c4b1
     try clear c5
     try clear c17
     try clear c17b0
     try clear c17b1
     try clear c18
     try clear c18b0
     try clear c18b1
     try clear c20
     try clear c21
     try clear c21b0
     try clear c21b1
     obtain ⟨kq, x72_11, rfl, HA, HJ11, HB⟩ := hcut
     cases kq with
     | zero => exact absurd HA.out (by simp [peristylelaw21_EpochBytes.j1])
     | succ kj11 =>
      have H := HA.out
      clear HA
      simp only [peristylelaw21_EpochBytes.j1] at H
      by_cases c28 : x72_11 = true
      ·subst c28
       have H1 : (some false) = some r := by rw [if_pos rfl] at H; exact H
       clear H
       have H := H1
       clear H1
       obtain rfl := Option.some.inj H
       go_wp2
       go_ret
       exact ⟨er, bh HB.out⟩
      ·replace c28 := Bool.eq_false_iff.mpr c28
       subst c28
       have H1 : (if t513.size + a1.size ≤ 9223372036854775807 then ((epoch_Take.f kj11 (t513 ++ a1)).bind fun bt528 => (if t514 = 0 then (if bt528.2.2 = 0 then (if bt528.2.1 = (t513.size : Int) then ((peristyleref21_Same.f kj11 bt528.1 l0).bind fun t533 => (if t533 = true then ((peristylelaw21_awake.f kj11).bind fun t534 => (some t534)) else (none))) else (none)) else (none)) else ((peristylelaw21_awake.f kj11).bind fun t535 => (some t535)))) else (none)) = some r := by rw [if_neg (show ¬ (false = true) by decide)] at H; exact H
       clear H
       have H := H1
       clear H1
       by_cases c29 : t513.size + a1.size ≤ 9223372036854775807
       ·rw [if_pos c29] at H
        have c29b0 := eq_true c29
        have c29b1 : decide (t513.size + a1.size ≤ 9223372036854775807) = true := decide_eq_true c29
        try have c29b2 : (9223372036854775807 < t513.size + a1.size) = False := eq_false (Nat.not_lt.2 c29)
        replace H := Option.bind_eq_some_iff.mp H
        obtain ⟨⟨t528, t529, t530⟩, A300, H⟩ := H
        replace H : (if t514 = 0 then (if t530 = 0 then (if t529 = (t513.size : Int) then ((peristyleref21_Same.f kj11 t528 l0).bind fun t533 => (if t533 = true then ((peristylelaw21_awake.f kj11).bind fun t534 => (some t534)) else (none))) else (none)) else (none)) else ((peristylelaw21_awake.f kj11).bind fun t535 => (some t535))) = some r := H
        have A30 := Aside0.mk A300
        clear A300
        by_cases c31 : t514 = 0
        ·rw [if_pos c31] at H
         have c31b0 : (t514 == 0) = true := beq_iff_eq.mpr c31
         have c31b1 : (t514 != 0) = false := bne_eq_false_iff_eq.mpr c31
         clear c31
         by_cases c32 : t530 = 0
         ·rw [if_pos c32] at H
          have c32b0 : (t530 == 0) = true := beq_iff_eq.mpr c32
          have c32b1 : (t530 != 0) = false := bne_eq_false_iff_eq.mpr c32
          clear c32
          by_cases c33 : t529 = (t513.size : Int)
          ·rw [if_pos c33] at H
           have c33b0 : (t529 == (t513.size : Int)) = true := beq_iff_eq.mpr c33
           have c33b1 : (t529 != (t513.size : Int)) = false := bne_eq_false_iff_eq.mpr c33
           clear c33
           replace H := Option.bind_eq_some_iff.mp H
           obtain ⟨t533, A340, H⟩ := H
           replace H : (if t533 = true then ((peristylelaw21_awake.f kj11).bind fun t534 => (some t534)) else (none)) = some r := H
           have A34 := Aside0.mk A340
           clear A340
           by_cases c35 : t533 = true
           ·subst c35
            have H1 : ((peristylelaw21_awake.f kj11).bind fun t534 => (some t534)) = some r := by rw [if_pos rfl] at H; exact H
            clear H
            have H := H1
            clear H1
            replace H := Option.bind_eq_some_iff.mp H
            obtain ⟨t534, A360, H⟩ := H
            replace H : (some t534) = some r := H
            have A36 := Aside0.mk A360
            clear A360
            obtain rfl := Option.some.inj H
            go_wp2_with (first | ((with_reducible refine gate_callee (f := 25) rfl ?_); refine goesL_ (some 77) rfl rfl Tryz.func25 (by kernel_rfl) rfl #[.string (t513 ++ a1)] rfl (by (try simp only [List.map_toArray, List.map_cons, List.map_nil]); first | done | rfl) ?_; (with_reducible refine (epoch_Take.calls kj11 (t513 ++ a1) t528 t529 t530 _ A30.out).mono ?_); rintro e w37 ⟨v531, rfl, ho0, hb⟩; refine ⟨_, rfl, ?_⟩; have HO532 := Aside0.mk (Kd.R_lower ho0 (below_size (bh HB.out))); replace HB := bsa HB hb; (try clear hb); (try clear ho0); obtain ⟨Ao38, co38, eo38⟩ := Kd.R_slice HO532.out; subst eo38) | (go_at_call 27; (with_reducible refine (peristyleref21_Same.calls kj11 _ _ t528 _ _ l0 true _ ?side1 ?side2 ?side3 ?side4 A34.out).mono ?_); (case side1 => exact cx (Kd.R_reads' HO532.out).2.2); (case side2 => exact (Kd.R_reads' HO532.out).2.1); (case side3 => exact cx (Kd.C_below HR0.out HB.out)); (case side4 => exact HC0.out); rintro e w' ⟨rfl, ⟨nd, rfl⟩⟩; (try clear A34)) | (go_at_call 8; (with_reducible refine (peristylelaw21_awake.calls kj11  t534 _ A36.out).mono ?_); rintro e w39 ⟨rfl, hb⟩; replace HO532 := rba HO532 hb; replace HB := bsa HB hb; (try clear hb); (try clear A36)))
            go_ret
            exact ⟨er, bh HB.out⟩
           ·replace c35 := Bool.eq_false_iff.mpr c35
            subst c35
            have H1 : (none) = some r := by rw [if_neg (show ¬ (false = true) by decide)] at H; exact H
            clear H
            have H := H1
            clear H1
            exact absurd H (by simp)
          ·rw [if_neg c33] at H
           exact absurd H (by simp)
         ·rw [if_neg c32] at H
          exact absurd H (by simp)
        ·rw [if_neg c31] at H
         have c31b0 : (t514 == 0) = false := beq_eq_false_iff_ne.mpr c31
         have c31b1 : (t514 != 0) = true := bne_iff_ne.mpr c31
         replace H := Option.bind_eq_some_iff.mp H
         obtain ⟨t535, A400, H⟩ := H
         replace H : (some t535) = some r := H
         have A40 := Aside0.mk A400
         clear A400
         obtain rfl := Option.some.inj H
         go_wp2_with (first | ((with_reducible refine gate_callee (f := 25) rfl ?_); refine goesL_ (some 77) rfl rfl Tryz.func25 (by kernel_rfl) rfl #[.string (t513 ++ a1)] rfl (by (try simp only [List.map_toArray, List.map_cons, List.map_nil]); first | done | rfl) ?_; (with_reducible refine (epoch_Take.calls kj11 (t513 ++ a1) t528 t529 t530 _ A30.out).mono ?_); rintro e w41 ⟨v531, rfl, ho0, hb⟩; refine ⟨_, rfl, ?_⟩; have HO532 := Aside0.mk (Kd.R_lower ho0 (below_size (bh HB.out))); replace HB := bsa HB hb; (try clear hb); (try clear ho0)) | (go_at_call 8; (with_reducible refine (peristylelaw21_awake.calls kj11  t535 _ A40.out).mono ?_); rintro e w42 ⟨rfl, hb⟩; replace HO532 := rba HO532 hb; replace HB := bsa HB hb; (try clear hb); (try clear A40)))
         go_ret
         exact ⟨er, bh HB.out⟩
       ·rw [if_neg c29] at H
        exact absurd H (by simp)
def peristylelaw21_EpochBytes.Pure : Prop := ∀ (l0 : List (S68)) (a1 : ByteArray), (fun l : List (S68) => l.length ≤ maxLen ∧ l.length * 16 ≤ 140737488351232 ∧ ∀ x ∈ l, (fun x : S68 => (fun z : Int => (Lit.int .i64 z).wf = true) x.f0 ∧ (fun z : Int => (Lit.int .i64 z).wf = true) x.f1) x) l0 → (fun s : ByteArray => s.size ≤ 140737488351232) a1 → ∃ k, peristylelaw21_EpochBytes.f k l0 a1 = some true
theorem peristylelaw21_EpochBytes.walk (P : peristylelaw21_EpochBytes.Pure) (A0 : Option Addr) (c0 : Nat) (l0 : List (S68)) (a1 : ByteArray) (w : World) (hr0 : Kd.C k68 w A0 l0.length l0) (hc0 : l0.length ≤ c0) (w0 : (fun l : List (S68) => l.length ≤ maxLen ∧ l.length * 16 ≤ 140737488351232 ∧ ∀ x ∈ l, (fun x : S68 => (fun z : Int => (Lit.int .i64 z).wf = true) x.f0 ∧ (fun z : Int => (Lit.int .i64 z).wf = true) x.f1) x) l0) (w1 : (fun s : ByteArray => s.size ≤ 140737488351232) a1) :
  Calls Tryz.prog 5 #[.slice A0 l0.length c0, .string a1] w fun e w' => e = .returned (.bool true) ∧ Below w.heap.size w w' := by
 obtain ⟨k, h⟩ := P l0 a1 w0 w1
 refine (peristylelaw21_EpochBytes.calls k _ _ l0 a1 true w hr0 hc0 h).mono ?_
 rintro e w' ⟨rfl, hd⟩
 exact ⟨rfl, hd⟩
end Go.Proofs.YtdgphlkbmplbpaaGreat.Print
end
