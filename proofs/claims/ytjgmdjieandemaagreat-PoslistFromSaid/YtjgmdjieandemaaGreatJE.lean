-- Functions and laws: texts of the session's own and of the kit's print program, joined; what nothing names is left out.
import Derived.Test.YtjgmdjieandemaaGreatJA
import Derived.Test.YtjgmdjieandemaaGreatJW
import Derived.Test.YtjgmdjieandemaaGreatJD
import Derived.Test.YtjgmdjieandemaaGreatJC
section
namespace Go.Proofs.YtjgmdjieandemaaGreat.Print
open Go.RowKit Go.Proofs.YtjgmdjieandemaaGreatW.PrintWords Go.Proofs.YtjgmdjieandemaaGreatW.PrintLast Go.Proofs.YtjgmdjieandemaaGreatW.PrintMore
attribute [local go_sem] max2_int min2_int max_two min_two max_three min_three max_four min_four   -- for this text's walks alone
set_option linter.unusedVariables false
set_option linter.unusedSimpArgs false

/-! ### peristyleref15_Of: function 48 -/
mutual
def peristyleref15_Of.l0 : Nat → Int → List Bool → List Int → Int → Option (List Int × Int)
 | 0, _, _, _, _ => none
 | k + 1, x4, x5, x6, x7 => if x7 < x4 then (peristyleref15_Of.l1 k x4 x5 x6 x7 0 0) else (some (x6, 0))
def peristyleref15_Of.l1 : Nat → Int → List Bool → List Int → Int → Int → Int → Option (List Int × Int)
 | 0, _, _, _, _, _, _ => none
 | k + 1, x4, x5, x6, x7, x8, x9 => if x9 < 64 then (if 0 ≤ (wrap64 ((wrap64 (64 * x7)) + x9)) then (if (wrap64 ((wrap64 (64 * x7)) + x9)) < (x5.length : Int) then (if rdOf false x5 (wrap64 ((wrap64 (64 * x7)) + x9)) = true then (if 0 ≤ x9 then (peristyleref15_Of.l1 k x4 x5 x6 x7 (Go.bits .or .i64 x8 (shl .i64 1 x9)) (wrap64 (x9 + 1))) else (none)) else (peristyleref15_Of.l1 k x4 x5 x6 x7 x8 (wrap64 (x9 + 1)))) else (none)) else (none)) else (if x6.length < 17592186044416 then (peristyleref15_Of.l0 k x4 x5 (x6 ++ [x8]) (wrap64 (x7 + 1))) else (none))
end
def peristyleref15_Of.f (k : Nat) (l0 : List (S64)) : Option (List Int × Int) := (peristyleref14_May.f k l0).bind fun t555 => (if t555 = true then ((peristyleref14_Top.f l0).bind fun t556 => ((peristyleref14_Set.f k l0 (wrap64 (64 * (wrap64 (Int.tdiv (wrap64 (t556 + 63)) 64))))).bind fun t557 => (peristyleref15_Of.l0 k (wrap64 (Int.tdiv (wrap64 (t556 + 63)) 64)) t557 ([] : List Int) 0))) else (some (([] : List Int), 1)))
theorem peristyleref15_Of.l0_succ (k) (a0) (a1) (a2) (a3) : type_of% (@peristyleref15_Of.l0.eq_2 a0 a1 a2 a3 k) := peristyleref15_Of.l0.eq_2 a0 a1 a2 a3 k
theorem peristyleref15_Of.l1_succ (k) (a0) (a1) (a2) (a3) (a4) (a5) : type_of% (@peristyleref15_Of.l1.eq_2 a0 a1 a2 a3 a4 a5 k) := peristyleref15_Of.l1.eq_2 a0 a1 a2 a3 a4 a5 k
theorem peristyleref15_Of.mono_l : ∀ k, (∀ y0 y1 y2 y3, LeO (peristyleref15_Of.l0 k y0 y1 y2 y3) (peristyleref15_Of.l0 (k + 1) y0 y1 y2 y3)) ∧ (∀ y0 y1 y2 y3 y4 y5, LeO (peristyleref15_Of.l1 k y0 y1 y2 y3 y4 y5) (peristyleref15_Of.l1 (k + 1) y0 y1 y2 y3 y4 y5))
 | 0 => ⟨fun _ _ _ _ r h => by simp [peristyleref15_Of.l0] at h, fun _ _ _ _ _ _ r h => by simp [peristyleref15_Of.l1] at h⟩
 | k + 1 => by
  obtain ⟨ih0, ih1⟩ := peristyleref15_Of.mono_l k
  refine ⟨?_, ?_⟩
  ·intro y0 y1 y2 y3
   unfold peristyleref15_Of.l0
   repeat' first | (with_reducible exact ih1 _ _ _ _ _ _) | (with_reducible exact LeO.refl _) | (with_reducible refine LeO.ite ?_ ?_)
  ·intro y0 y1 y2 y3 y4 y5
   unfold peristyleref15_Of.l1
   repeat' first | (with_reducible exact ih0 _ _ _ _) | (with_reducible exact ih1 _ _ _ _ _ _) | (with_reducible exact LeO.refl _) | (with_reducible refine LeO.ite ?_ ?_)
theorem peristyleref15_Of.mono : ∀ a0 k, LeO (peristyleref15_Of.f k a0) (peristyleref15_Of.f (k + 1) a0) := by
 intro a0 k
 obtain ⟨ih0, ih1⟩ := peristyleref15_Of.mono_l k
 unfold peristyleref15_Of.f
 repeat' first | (with_reducible exact ih0 _ _ _ _) | (with_reducible exact peristyleref14_May.mono _ _) | (with_reducible exact peristyleref14_Set.mono _ _ _) | (with_reducible exact LeO.refl _) | (with_reducible refine LeO.ite ?_ ?_) | (with_reducible refine LeO.bind ?_ (fun _ => ?_))
set_option maxHeartbeats 8000000 in
set_option maxRecDepth 100000 in
theorem peristyleref15_Of.calls (k : Nat) (A0 : Option Addr) (c0 : Nat) (l0 : List (S64)) (r1 : List Int) (r2 : Int) (w : World) (hr0 : Kd.C k64 w A0 l0.length l0) (hc0 : l0.length ≤ c0) (h : peristyleref15_Of.f k l0 = some (r1, r2)) :
  Calls Tryz.prog 48 #[.slice A0 l0.length c0] w fun e w' => ∃ v0_ : Value, e = .returned (.tuple #[v0_, .int .i64 r2]) ∧ Kd.R (Kd.int .i64) 3 w' w.heap.size (fun _ => True) v0_ r1 ∧ Below w.heap.size w w' := by
 have HR0 := Aside0.mk hr0
 have HC0 := Aside0.mk hc0
 clear hr0 hc0
 have HB := Aside0.mk (Below.refl w.heap.size w)
 have H := h
 clear h
 unfold peristyleref15_Of.f at H
 replace H := bd H
 obtain ⟨t555, A2, H⟩ := H
 replace H := ifb H
 rcases H with ⟨rfl, H⟩ | ⟨rfl, H⟩
 ·replace H := bd H
  obtain ⟨t556, A4, H⟩ := H
  replace H := bd H
  obtain ⟨t557, A5, H⟩ := H
  have H' := Aside0.mk H
  clear H
  go_enter Tryz.func48, Tryz.ntmps48
  go_wp2_with (first | ((with_reducible refine gate_callee (f := 21) rfl ?_); refine gL 11 Tryz.func21 #[.slice A0 l0.length c0] ?_; (with_reducible refine (peristyleref14_May.calls k _ _ l0 true _ ?side1 ?side2 A2.out).mono ?_); (case side1 => exact cx HR0.out); (case side2 => exact HC0.out); rintro e w' ⟨rfl, ⟨nd, rfl⟩⟩; refine ⟨_, rfl, ?_⟩) | ((with_reducible refine gate_callee (f := 39) rfl ?_); refine gL 14 Tryz.func39 #[.slice A0 l0.length c0] ?_; (with_reducible refine (peristyleref14_Top.calls _ _ l0 t556 _ ?side1 ?side2 A4.out).mono ?_); (case side1 => exact cx HR0.out); (case side2 => exact HC0.out); rintro e w' ⟨rfl, ⟨nd, rfl⟩⟩; refine ⟨_, rfl, ?_⟩) | ((with_reducible refine gate_callee (f := 74) rfl ?_); refine gL 20 Tryz.func74 #[.slice A0 l0.length c0, .int .i64 (wrap64 (64 * (wrap64 (Int.tdiv (wrap64 (t556 + 63)) 64))))] ?_; (with_reducible refine (peristyleref14_Set.calls k _ _ l0 (wrap64 (64 * (wrap64 (Int.tdiv (wrap64 (t556 + 63)) 64)))) t557 _ ?side1 ?side2 A5.out).mono ?_); (case side1 => exact cx HR0.out); (case side2 => exact HC0.out); rintro e w6 ⟨v558, rfl, ho0, hb⟩; refine ⟨_, rfl, ?_⟩; have HO559 := Aside0.mk (Kd.R_lower ho0 (below_size (bh HB.out))); replace HB := bsa HB hb; clear hb ho0))
  go_loopg [6, 7] k (fun kq v6 v7 w' => ∃ (x6_1 : List Int) (x7_1 : Int), v7 = .int .i64 x7_1 ∧ Aside0 (peristyleref15_Of.l0 kq (wrap64 (Int.tdiv (wrap64 (t556 + 63)) 64)) t557 x6_1 x7_1 = some (r1, r2)) ∧ Aside0 (kq ≤ k) ∧ Aside0 (Kd.R Kd.bool 4 w' w.heap.size (fun _ => True) v558 t557) ∧ Aside0 (Kd.R (Kd.int .i64) 3 w' w.heap.size (fun _ => True) v6 x6_1) ∧ Aside0 (Below w.heap.size w w'))
  case atStart => exact ⟨(([] : List Int)), (0), (by rfl), H', ⟨Nat.le_refl _⟩, ⟨by exact HO559.out⟩, ⟨nl⟩, ⟨bh HB.out⟩⟩
  case round =>
   clear H'
   obtain ⟨x6_1, x7_1, rfl, HA, HK1, HO_5, HO_6, HB⟩ := hrel
   cases gk with
   | zero => exact absurd HA.out (by simp [peristyleref15_Of.l0])
   | succ k1 =>
    have H := HA.out
    clear HA
    simp only [peristyleref15_Of.l0] at H
    replace H := ifd H
    rcases H with ⟨-, c7b0, H⟩ | ⟨-, c7b0, H⟩
    ·have H' := Aside0.mk H
     clear H
     go_wp2
     go_loopg [8, 9] k1 (fun kq v8 v9 w' => ∃ (x8_2 : Int) (x9_2 : Int), v8 = .int .i64 x8_2 ∧ v9 = .int .i64 x9_2 ∧ Aside0 (peristyleref15_Of.l1 kq (wrap64 (Int.tdiv (wrap64 (t556 + 63)) 64)) t557 x6_1 x7_1 x8_2 x9_2 = some (r1, r2)) ∧ Aside0 (kq ≤ k1) ∧ Aside0 (Kd.R Kd.bool 4 w' w.heap.size (fun _ => True) v558 t557) ∧ Aside0 (Kd.R (Kd.int .i64) 3 w' w.heap.size (fun _ => True) u6 x6_1) ∧ Aside0 (Below w.heap.size w w'))
     case atStart => exact ⟨(0), (0), (by rfl), (by rfl), H', ⟨Nat.le_refl _⟩, ⟨by exact HO_5.out⟩, ⟨by exact HO_6.out⟩, ⟨bh HB.out⟩⟩
     case round =>
      clear H' c7b0
      obtain ⟨x8_2, x9_2, rfl, rfl, HA, HK2, HO_5, HO_6, HB⟩ := hrel
      cases gk with
      | zero => exact absurd HA.out (by simp [peristyleref15_Of.l1])
      | succ k2 =>
       have H := HA.out
       clear HA
       simp only [peristyleref15_Of.l1] at H
       replace H := ifd H
       rcases H with ⟨-, c8b0, H⟩ | ⟨-, c8b0, H⟩
       ·obtain ⟨ji9, hji9⟩ : ∃ j_ : Int, (wrap64 ((wrap64 (64 * x7_1)) + x9_2)) = j_ := ⟨_, rfl⟩
        replace H : (if 0 ≤ (ji9) then (if (ji9) < (t557.length : Int) then (if rdOf false t557 (ji9) = true then (if 0 ≤ x9_2 then (peristyleref15_Of.l1 k2 (wrap64 (Int.tdiv (wrap64 (t556 + 63)) 64)) t557 x6_1 x7_1 (Go.bits .or .i64 x8_2 (shl .i64 1 x9_2)) (wrap64 (x9_2 + 1))) else (none)) else (peristyleref15_Of.l1 k2 (wrap64 (Int.tdiv (wrap64 (t556 + 63)) 64)) t557 x6_1 x7_1 x8_2 (wrap64 (x9_2 + 1)))) else (none)) else (none)) = some (r1, r2) := by (rw [hji9] at H; exact H)
        have hji9w : (IntKind.i64.wrap ((wrap64 (64 * x7_1)) + x9_2)) = ji9 := (i64_w _).trans hji9
        replace H := ifn H
        obtain ⟨-, c10b0, H⟩ := H
        replace H := ifn H
        obtain ⟨-, c11b0, H⟩ := H
        obtain ⟨bq12, hbq12⟩ : ∃ b_ : Bool, b_ = (rdOf false t557 (ji9)) := ⟨_, rfl⟩
        replace H : (if bq12 = true then (if 0 ≤ x9_2 then (peristyleref15_Of.l1 k2 (wrap64 (Int.tdiv (wrap64 (t556 + 63)) 64)) t557 x6_1 x7_1 (Go.bits .or .i64 x8_2 (shl .i64 1 x9_2)) (wrap64 (x9_2 + 1))) else (none)) else (peristyleref15_Of.l1 k2 (wrap64 (Int.tdiv (wrap64 (t556 + 63)) 64)) t557 x6_1 x7_1 x8_2 (wrap64 (x9_2 + 1)))) = some (r1, r2) := by rw [← hbq12] at H; exact H
        have Nbq12 := Aside0.mk hbq12
        clear hbq12
        replace H := ifb H
        rcases H with ⟨rfl, H⟩ | ⟨rfl, H⟩
        ·replace H := ifn H
         obtain ⟨c14, -, H⟩ := H
         have c14b0 := eq_true c14
         have c14b1 : decide (0 ≤ x9_2) = true := decide_eq_true c14
         clear c14
         obtain ⟨ji15, hji15⟩ : ∃ j_ : Int, (shl .i64 1 x9_2) = j_ := ⟨_, rfl⟩
         replace H : (peristyleref15_Of.l1 k2 (wrap64 (Int.tdiv (wrap64 (t556 + 63)) 64)) t557 x6_1 x7_1 (Go.bits .or .i64 x8_2 (ji15)) (wrap64 (x9_2 + 1))) = some (r1, r2) := by (rw [hji15] at H; exact H)
         have hji15_ : (IntKind.i64.wrap (1 * 2 ^ min x9_2.toNat 64)) = ji15 := hji15
         have hji15z : x9_2 ≤ 64 → (IntKind.i64.wrap (1 * 2 ^ x9_2.toNat)) = ji15 := shl_small hji15
         have hji15u : (IntKind.i64.wrap (2 ^ min x9_2.toNat 64)) = ji15 := by have h_ := hji15_; rw [Int.one_mul] at h_; exact h_
         have hji15v : x9_2 ≤ 64 → (IntKind.i64.wrap (2 ^ x9_2.toNat)) = ji15 := fun hle_ => by have h_ := hji15z hle_; rw [Int.one_mul] at h_; exact h_
         have hji15y : (wrap64 (1 * 2 ^ min x9_2.toNat 64)) = ji15 := (i64_w _).symm.trans hji15_
         have hji15x : x9_2 ≤ 64 → (wrap64 (1 * 2 ^ x9_2.toNat)) = ji15 := fun h_ => (i64_w _).symm.trans (hji15z h_)
         have H' := Aside0.mk H
         clear H
         obtain ⟨Ao16, co16, eo16⟩ := Kd.R_slice HO_5.out
         subst eo16
         have p560 : 0 ≤ ((ji9) : Int) := ad
         have q560 : (ji9) < (t557.length : Int) := ad
         obtain ⟨ad560, e560, hx560_0⟩ := Kd.at_bool (Kd.R_reads' HO_5.out).2.2 (ji9) p560 q560
         (rw [← Nbq12.out] at hx560_0)
         cases e560
         replace p560 := eq_true p560
         replace q560 := eq_true q560
         go_wp2
         go_roundg k2
         case measure => have := HK1.out; have := HK2.out; omega
         case rel => exact ⟨(Go.bits .or .i64 x8_2 (ji15)), (wrap64 (x9_2 + 1)), (by rfl), (by rfl), (by exact H'), ⟨by have := HK1.out; have := HK2.out; omega⟩, ⟨by exact HO_5.out⟩, ⟨by exact HO_6.out⟩, ⟨bh HB.out⟩⟩
        ·have H' := Aside0.mk H
         clear H
         obtain ⟨Ao17, co17, eo17⟩ := Kd.R_slice HO_5.out
         subst eo17
         have p560 : 0 ≤ ((ji9) : Int) := ad
         have q560 : (ji9) < (t557.length : Int) := ad
         obtain ⟨ad560, e560, hx560_0⟩ := Kd.at_bool (Kd.R_reads' HO_5.out).2.2 (ji9) p560 q560
         (rw [← Nbq12.out] at hx560_0)
         cases e560
         replace p560 := eq_true p560
         replace q560 := eq_true q560
         go_wp2
         go_roundg k2
         case measure => have := HK1.out; have := HK2.out; omega
         case rel => exact ⟨(x8_2), (wrap64 (x9_2 + 1)), (by rfl), (by rfl), (by exact H'), ⟨by have := HK1.out; have := HK2.out; omega⟩, ⟨by exact HO_5.out⟩, ⟨by exact HO_6.out⟩, ⟨bh HB.out⟩⟩
       ·replace H := ifn H
        obtain ⟨c18, -, H⟩ := H
        have LMc18 := Aside0.mk c18
        clear c18
        obtain ⟨y561, hy561⟩ : ∃ y_ : List Int, y_ = (x6_1 ++ [x8_2]) := ⟨_, rfl⟩
        replace H : (peristyleref15_Of.l0 k2 (wrap64 (Int.tdiv (wrap64 (t556 + 63)) 64)) t557 y561 (wrap64 (x7_1 + 1))) = some (r1, r2) := by (rw [hy561]; with_reducible exact H)
        have Ny561 := Aside0.mk hy561
        clear hy561
        have H' := Aside0.mk H
        clear H
        go_wp2_with (((with_reducible refine gate_builtin (b := .append) (xs := #[.tmp 41, .tmp 43]) rfl ?_); at_builtin; refine Kd.R_append (Kd.int .i64) (w0 := w) w.heap.size rfl (.tmp 41) (.tmp 43) 25 3 (.int .i64 0) 8 rfl Tryz.underlying25 info3 rfl (by decide) (by omega) u6 x6_1 x8_2 [.int .i64 x8_2] (fun _ => True) (fun _ => False) rfl rfl ?aP (fun _ hk => hk.elim) ?aF ?aO ?aB ?aS ?aL ?_; (case aP => exact rfl); (case aB => exact (bh HB.out)); (case aF => exact (fun _ _ => trivial)); (case aO => exact (rx HO_6.out)); (case aS => exact (below_size (bh HB.out))); (case aL => have := LMc18.out; omega); intro v562 w19 ho hb hg hat; rw [← Ny561.out] at ho; have n0_ := Aside0.mk (Kd.R_over' (rx HO_5.out) (Kd.R_typed (rx HO_6.out)) (by decide) hg); have n1_ := Aside0.mk (hb); have n2_ := Aside0.mk (ho); clear HO_5 HB HO_6; have HO_5 := n0_; have HB := n1_; have HO563 := n2_; clear n0_ n1_ n2_ ho hb hg hat))
        go_roundg k2
        case measure => have := HK1.out; have := HK2.out; omega
        case rel => exact ⟨(y561), (wrap64 (x7_1 + 1)), (by rfl), H', ⟨by have := HK1.out; have := HK2.out; omega⟩, ⟨by exact HO_5.out⟩, ⟨by exact HO563.out⟩, ⟨bh HB.out⟩⟩
    ·simp only [Option.some.injEq, Prod.mk.injEq] at H
     obtain ⟨rfl, rfl⟩ := H
     go_wp2
     go_ret2
     exact ⟨_, er, by exact HO_6.out, bh HB.out⟩
 ·simp only [Option.some.injEq, Prod.mk.injEq] at H
  obtain ⟨rfl, rfl⟩ := H
  go_enter Tryz.func48, Tryz.ntmps48
  go_wp2_with (((with_reducible refine gate_callee (f := 21) rfl ?_); refine gL 11 Tryz.func21 #[.slice A0 l0.length c0] ?_; (with_reducible refine (peristyleref14_May.calls k _ _ l0 false _ ?side1 ?side2 A2.out).mono ?_); (case side1 => exact cx HR0.out); (case side2 => exact HC0.out); rintro e w' ⟨rfl, ⟨nd, rfl⟩⟩; refine ⟨_, rfl, ?_⟩))
  go_ret2
  exact ⟨_, er, nl, bh HB.out⟩

/-! ### peristyleref14_Places: function 47 -/
mutual
def peristyleref14_Places.l0 : Nat → List (S64) → List Int → Int → Option (List Int × Int)
 | 0, _, _, _ => none
 | k + 1, x0, x4, x5 => if x5 < (x0.length : Int) then (if 0 ≤ x5 then (peristyleref14_Places.l1 k x0 x4 x5 ((rd_T64 x0 x5).f0)) else (none)) else (some (x4, 0))
def peristyleref14_Places.l1 : Nat → List (S64) → List Int → Int → Int → Option (List Int × Int)
 | 0, _, _, _, _ => none
 | k + 1, x0, x4, x5, x6 => if 0 ≤ x5 then (if x5 < (x0.length : Int) then (if x6 < ((rd_T64 x0 x5).f1) then (if x4.length < 17592186044416 then (peristyleref14_Places.l1 k x0 (x4 ++ [x6]) x5 (wrap64 (x6 + 1))) else (none)) else (peristyleref14_Places.l0 k x0 x4 (wrap64 (x5 + 1)))) else (none)) else (none)
end
def peristyleref14_Places.f (k : Nat) (l0 : List (S64)) : Option (List Int × Int) := (peristyleref14_May.f k l0).bind fun t564 => (if t564 = true then (peristyleref14_Places.l0 k l0 ([] : List Int) 0) else (some (([] : List Int), 1)))
theorem peristyleref14_Places.l0_succ (k) (a0) (a1) (a2) : type_of% (@peristyleref14_Places.l0.eq_2 a0 a1 a2 k) := peristyleref14_Places.l0.eq_2 a0 a1 a2 k
theorem peristyleref14_Places.l1_succ (k) (a0) (a1) (a2) (a3) : type_of% (@peristyleref14_Places.l1.eq_2 a0 a1 a2 a3 k) := peristyleref14_Places.l1.eq_2 a0 a1 a2 a3 k
theorem peristyleref14_Places.mono_l : ∀ k, (∀ y0 y1 y2, LeO (peristyleref14_Places.l0 k y0 y1 y2) (peristyleref14_Places.l0 (k + 1) y0 y1 y2)) ∧ (∀ y0 y1 y2 y3, LeO (peristyleref14_Places.l1 k y0 y1 y2 y3) (peristyleref14_Places.l1 (k + 1) y0 y1 y2 y3))
 | 0 => ⟨fun _ _ _ r h => by simp [peristyleref14_Places.l0] at h, fun _ _ _ _ r h => by simp [peristyleref14_Places.l1] at h⟩
 | k + 1 => by
  obtain ⟨ih0, ih1⟩ := peristyleref14_Places.mono_l k
  refine ⟨?_, ?_⟩
  ·intro y0 y1 y2
   unfold peristyleref14_Places.l0
   repeat' first | (with_reducible exact ih1 _ _ _ _) | (with_reducible exact LeO.refl _) | (with_reducible refine LeO.ite ?_ ?_)
  ·intro y0 y1 y2 y3
   unfold peristyleref14_Places.l1
   repeat' first | (with_reducible exact ih0 _ _ _) | (with_reducible exact ih1 _ _ _ _) | (with_reducible exact LeO.refl _) | (with_reducible refine LeO.ite ?_ ?_)
theorem peristyleref14_Places.mono : ∀ a0 k, LeO (peristyleref14_Places.f k a0) (peristyleref14_Places.f (k + 1) a0) := by
 intro a0 k
 obtain ⟨ih0, ih1⟩ := peristyleref14_Places.mono_l k
 unfold peristyleref14_Places.f
 repeat' first | (with_reducible exact ih0 _ _ _) | (with_reducible exact peristyleref14_May.mono _ _) | (with_reducible exact LeO.refl _) | (with_reducible refine LeO.ite ?_ ?_) | (with_reducible refine LeO.bind ?_ (fun _ => ?_))
set_option maxHeartbeats 8000000 in
set_option maxRecDepth 100000 in
theorem peristyleref14_Places.calls (k : Nat) (A0 : Option Addr) (c0 : Nat) (l0 : List (S64)) (r1 : List Int) (r2 : Int) (w : World) (hr0 : Kd.C k64 w A0 l0.length l0) (hc0 : l0.length ≤ c0) (h : peristyleref14_Places.f k l0 = some (r1, r2)) :
  Calls Tryz.prog 47 #[.slice A0 l0.length c0] w fun e w' => ∃ v0_ : Value, e = .returned (.tuple #[v0_, .int .i64 r2]) ∧ Kd.R (Kd.int .i64) 3 w' w.heap.size (fun _ => True) v0_ r1 ∧ Below w.heap.size w w' := by
 have HR0 := Aside0.mk hr0
 have HC0 := Aside0.mk hc0
 clear hr0 hc0
 have HB := Aside0.mk (Below.refl w.heap.size w)
 have H := h
 clear h
 unfold peristyleref14_Places.f at H
 replace H := bd H
 obtain ⟨t564, A2, H⟩ := H
 replace H := ifb H
 rcases H with ⟨rfl, H⟩ | ⟨rfl, H⟩
 ·have H' := Aside0.mk H
  clear H
  go_enter Tryz.func47, Tryz.ntmps47
  go_wp2_with (((with_reducible refine gate_callee (f := 21) rfl ?_); refine gL 8 Tryz.func21 #[.slice A0 l0.length c0] ?_; (with_reducible refine (peristyleref14_May.calls k _ _ l0 true _ ?side1 ?side2 A2.out).mono ?_); (case side1 => exact cx HR0.out); (case side2 => exact HC0.out); rintro e w' ⟨rfl, ⟨nd, rfl⟩⟩; refine ⟨_, rfl, ?_⟩))
  go_loopg [4, 5] k (fun kq v4 v5 w' => ∃ (x4_1 : List Int) (x5_1 : Int), v5 = .int .i64 x5_1 ∧ Aside0 (peristyleref14_Places.l0 kq l0 x4_1 x5_1 = some (r1, r2)) ∧ Aside0 (kq ≤ k) ∧ Aside0 (Kd.R (Kd.int .i64) 3 w' w.heap.size (fun _ => True) v4 x4_1) ∧ Aside0 (Below w.heap.size w w'))
  case atStart => exact ⟨(([] : List Int)), (0), (by rfl), H', ⟨Nat.le_refl _⟩, ⟨nl⟩, ⟨bh HB.out⟩⟩
  case round =>
   clear H'
   obtain ⟨x4_1, x5_1, rfl, HA, HK1, HO_4, HB⟩ := hrel
   cases gk with
   | zero => exact absurd HA.out (by simp [peristyleref14_Places.l0])
   | succ k1 =>
    have H := HA.out
    clear HA
    simp only [peristyleref14_Places.l0] at H
    replace H := ifd H
    rcases H with ⟨-, c4b0, H⟩ | ⟨-, c4b0, H⟩
    ·replace H := ifn H
     obtain ⟨-, c5b0, H⟩ := H
     have H' := Aside0.mk H
     clear H
     have p565 : 0 ≤ (x5_1 : Int) := ad
     have q565 : x5_1 < (l0.length : Int) := ad
     obtain ⟨ad565, e565, hx565_0, hx565_1⟩ := at_T64 HR0.out x5_1 p565 q565
     cases e565
     replace hx565_0 := cb HB.out.cell hx565_0
     replace hx565_1 := cb HB.out.cell hx565_1
     replace p565 := eq_true p565
     replace q565 := eq_true q565
     go_wp2
     go_loopg [4, 6] k1 (fun kq v4 v6 w' => ∃ (x4_2 : List Int) (x6_2 : Int), v6 = .int .i64 x6_2 ∧ Aside0 (peristyleref14_Places.l1 kq l0 x4_2 x5_1 x6_2 = some (r1, r2)) ∧ Aside0 (kq ≤ k1) ∧ Aside0 (Kd.R (Kd.int .i64) 3 w' w.heap.size (fun _ => True) v4 x4_2) ∧ Aside0 (Below w.heap.size w w'))
     case atStart => exact ⟨(x4_1), ((rd_T64 l0 x5_1).f0), (by rfl), H', ⟨Nat.le_refl _⟩, ⟨by exact HO_4.out⟩, ⟨bh HB.out⟩⟩
     case round =>
      clear H' c4b0 c5b0 hx565_0 hx565_1 p565 q565
      obtain ⟨x4_2, x6_2, rfl, HA, HK2, HO_4, HB⟩ := hrel
      cases gk with
      | zero => exact absurd HA.out (by simp [peristyleref14_Places.l1])
      | succ k2 =>
       have H := HA.out
       clear HA
       simp only [peristyleref14_Places.l1] at H
       replace H := ifn H
       obtain ⟨-, c6b0, H⟩ := H
       replace H := ifn H
       obtain ⟨-, c7b0, H⟩ := H
       replace H := ifd H
       rcases H with ⟨-, c8b0, H⟩ | ⟨-, c8b0, H⟩
       ·replace H := ifn H
        obtain ⟨c9, -, H⟩ := H
        have LMc9 := Aside0.mk c9
        clear c9
        obtain ⟨y567, hy567⟩ : ∃ y_ : List Int, y_ = (x4_2 ++ [x6_2]) := ⟨_, rfl⟩
        replace H : (peristyleref14_Places.l1 k2 l0 y567 x5_1 (wrap64 (x6_2 + 1))) = some (r1, r2) := by (rw [hy567]; with_reducible exact H)
        have Ny567 := Aside0.mk hy567
        clear hy567
        have H' := Aside0.mk H
        clear H
        have p566 : 0 ≤ (x5_1 : Int) := ad
        have q566 : x5_1 < (l0.length : Int) := ad
        obtain ⟨ad566, e566, hx566_0, hx566_1⟩ := at_T64 HR0.out x5_1 p566 q566
        obtain rfl : ad565 = ad566 := (by injection e566)
        replace hx566_0 := cb HB.out.cell hx566_0
        replace hx566_1 := cb HB.out.cell hx566_1
        replace p566 := eq_true p566
        replace q566 := eq_true q566
        go_wp2_with (((with_reducible refine gate_builtin (b := .append) (xs := #[.tmp 30, .tmp 32]) rfl ?_); at_builtin; refine Kd.R_append (Kd.int .i64) (w0 := w) w.heap.size rfl (.tmp 30) (.tmp 32) 25 3 (.int .i64 0) 8 rfl Tryz.underlying25 info3 rfl (by decide) (by omega) u4 x4_2 x6_2 [.int .i64 x6_2] (fun _ => True) (fun _ => False) rfl rfl ?aP (fun _ hk => hk.elim) ?aF ?aO ?aB ?aS ?aL ?_; (case aP => exact rfl); (case aB => exact (bh HB.out)); (case aF => exact (fun _ _ => trivial)); (case aO => exact (rx HO_4.out)); (case aS => exact (below_size (bh HB.out))); (case aL => have := LMc9.out; omega); intro v568 w10 ho hb hg hat; rw [← Ny567.out] at ho; have n0_ := Aside0.mk (hb); have n1_ := Aside0.mk (ho); clear HB HO_4; have HB := n0_; have HO569 := n1_; clear n0_ n1_ ho hb hg hat))
        go_roundg k2
        case measure => have := HK1.out; have := HK2.out; omega
        case rel => exact ⟨(y567), (wrap64 (x6_2 + 1)), (by rfl), H', ⟨by have := HK1.out; have := HK2.out; omega⟩, ⟨by exact HO569.out⟩, ⟨bh HB.out⟩⟩
       ·have H' := Aside0.mk H
        clear H
        have p566 : 0 ≤ (x5_1 : Int) := ad
        have q566 : x5_1 < (l0.length : Int) := ad
        obtain ⟨ad566, e566, hx566_0, hx566_1⟩ := at_T64 HR0.out x5_1 p566 q566
        obtain rfl : ad565 = ad566 := (by injection e566)
        replace hx566_0 := cb HB.out.cell hx566_0
        replace hx566_1 := cb HB.out.cell hx566_1
        replace p566 := eq_true p566
        replace q566 := eq_true q566
        go_wp2
        go_roundg k2
        case measure => have := HK1.out; have := HK2.out; omega
        case rel => exact ⟨(x4_2), (wrap64 (x5_1 + 1)), (by rfl), H', ⟨by have := HK1.out; have := HK2.out; omega⟩, ⟨by exact HO_4.out⟩, ⟨bh HB.out⟩⟩
    ·simp only [Option.some.injEq, Prod.mk.injEq] at H
     obtain ⟨rfl, rfl⟩ := H
     go_wp2
     go_ret2
     exact ⟨_, er, by exact HO_4.out, bh HB.out⟩
 ·simp only [Option.some.injEq, Prod.mk.injEq] at H
  obtain ⟨rfl, rfl⟩ := H
  go_enter Tryz.func47, Tryz.ntmps47
  go_wp2_with (((with_reducible refine gate_callee (f := 21) rfl ?_); refine gL 8 Tryz.func21 #[.slice A0 l0.length c0] ?_; (with_reducible refine (peristyleref14_May.calls k _ _ l0 false _ ?side1 ?side2 A2.out).mono ?_); (case side1 => exact cx HR0.out); (case side2 => exact HC0.out); rintro e w' ⟨rfl, ⟨nd, rfl⟩⟩; refine ⟨_, rfl, ?_⟩))
  go_ret2
  exact ⟨_, er, nl, bh HB.out⟩

/-! ### peristyleref16_Cost: function 15 -/
def peristyleref16_Cost.f (k : Nat) (l0 : List (S64)) (a1 : Int) : Option (Int) := if a1 = 1 then (some (wrap64 (8 * (l0.length : Int)))) else (if a1 = 2 then ((peristyleref15_Of.f k l0).bind fun bt570 => (some (wrap64 (8 * (bt570.1.length : Int))))) else (if a1 = 3 then ((peristyleref14_Places.f k l0).bind fun bt574 => (some (wrap64 (2 * (bt574.1.length : Int))))) else (some 0)))
theorem peristyleref16_Cost.mono : ∀ a0 a1 k, LeO (peristyleref16_Cost.f k a0 a1) (peristyleref16_Cost.f (k + 1) a0 a1) := by
 intro a0 a1 k
 unfold peristyleref16_Cost.f
 repeat' first | (with_reducible exact peristyleref14_Places.mono _ _) | (with_reducible exact peristyleref15_Of.mono _ _) | (with_reducible exact LeO.refl _) | (with_reducible refine LeO.ite ?_ ?_) | (with_reducible refine LeO.bind ?_ (fun _ => ?_))
set_option maxHeartbeats 8000000 in
set_option maxRecDepth 100000 in
theorem peristyleref16_Cost.calls (k : Nat) (A0 : Option Addr) (c0 : Nat) (l0 : List (S64)) (a1 : Int) (r : Int) (w : World) (hr0 : Kd.C k64 w A0 l0.length l0) (hc0 : l0.length ≤ c0) (h : peristyleref16_Cost.f k l0 a1 = some r) :
  Calls Tryz.prog 15 #[.slice A0 l0.length c0, .int .i64 a1] w fun e w' => e = .returned (.int .i64 r) ∧ Below w.heap.size w w' := by
 have HR0 := Aside0.mk hr0
 have HC0 := Aside0.mk hc0
 clear hr0 hc0
 have HB := Aside0.mk (Below.refl w.heap.size w)
 have H := h
 clear h
 unfold peristyleref16_Cost.f at H
 replace H := ife H
 rcases H with ⟨-, c3b0, c3b1, H⟩ | ⟨c3, c3b0, c3b1, H⟩
 ·obtain rfl := Option.some.inj H
  go_enter Tryz.func15, Tryz.ntmps15
  go_wp2
  go_ret
  exact ⟨er, bh HB.out⟩
 ·replace H := ife H
  rcases H with ⟨-, c4b0, c4b1, H⟩ | ⟨c4, c4b0, c4b1, H⟩
  ·replace H := bd H
   obtain ⟨⟨t570, t571⟩, A5, H⟩ := H
   dsimp only at H
   obtain rfl := Option.some.inj H
   go_enter Tryz.func15, Tryz.ntmps15
   go_wp2_with (((with_reducible refine gate_callee (f := 48) rfl ?_); refine gL 19 Tryz.func48 #[.slice A0 l0.length c0] ?_; (with_reducible refine (peristyleref15_Of.calls k _ _ l0 t570 t571 _ ?side1 ?side2 A5.out).mono ?_); (case side1 => exact cx HR0.out); (case side2 => exact HC0.out); rintro e w6 ⟨v572, rfl, ho0, hb⟩; refine ⟨_, rfl, ?_⟩; have HO573 := Aside0.mk (Kd.R_lower ho0 (below_size (bh HB.out))); replace HB := bsa HB hb; clear hb ho0; obtain ⟨Ao7, co7, eo7⟩ := Kd.R_slice HO573.out; subst eo7))
   go_ret
   exact ⟨er, bh HB.out⟩
  ·replace H := ife H
   rcases H with ⟨-, c8b0, c8b1, H⟩ | ⟨c8, c8b0, c8b1, H⟩
   ·replace H := bd H
    obtain ⟨⟨t574, t575⟩, A9, H⟩ := H
    dsimp only at H
    obtain rfl := Option.some.inj H
    go_enter Tryz.func15, Tryz.ntmps15
    go_wp2_with (((with_reducible refine gate_callee (f := 47) rfl ?_); refine gL 29 Tryz.func47 #[.slice A0 l0.length c0] ?_; (with_reducible refine (peristyleref14_Places.calls k _ _ l0 t574 t575 _ ?side1 ?side2 A9.out).mono ?_); (case side1 => exact cx HR0.out); (case side2 => exact HC0.out); rintro e w10 ⟨v576, rfl, ho0, hb⟩; refine ⟨_, rfl, ?_⟩; have HO577 := Aside0.mk (Kd.R_lower ho0 (below_size (bh HB.out))); replace HB := bsa HB hb; clear hb ho0; obtain ⟨Ao11, co11, eo11⟩ := Kd.R_slice HO577.out; subst eo11))
    go_ret
    exact ⟨er, bh HB.out⟩
   ·obtain rfl := Option.some.inj H
    go_enter Tryz.func15, Tryz.ntmps15
    go_wp2
    go_ret
    exact ⟨er, bh HB.out⟩

/-! ### peristyleref16_Best: function 45 -/
def peristyleref16_Best.l0 : Nat → List (S64) → Int → Int → Option (Int)
 | 0, _, _, _ => none
 | k + 1, x0, x3, x4 => if x4 ≤ 3 then ((peristyleref16_Cost.f k x0 x4).bind fun t578 => ((peristyleref16_Cost.f k x0 x3).bind fun t579 => (if t578 < t579 then (peristyleref16_Best.l0 k x0 x4 (wrap64 (x4 + 1))) else (peristyleref16_Best.l0 k x0 x3 (wrap64 (x4 + 1)))))) else (some x3)
def peristyleref16_Best.f (k : Nat) (l0 : List (S64)) : Option (Int) := peristyleref16_Best.l0 k l0 1 2
theorem peristyleref16_Best.l0_succ (k) (a0) (a1) (a2) : type_of% (@peristyleref16_Best.l0.eq_2 a0 a1 a2 k) := peristyleref16_Best.l0.eq_2 a0 a1 a2 k
theorem peristyleref16_Best.mono_l : ∀ k, (∀ y0 y1 y2, LeO (peristyleref16_Best.l0 k y0 y1 y2) (peristyleref16_Best.l0 (k + 1) y0 y1 y2))
 | 0 => fun _ _ _ r h => by simp [peristyleref16_Best.l0] at h
 | k + 1 => by
  have ih0 := peristyleref16_Best.mono_l k
  ·intro y0 y1 y2
   unfold peristyleref16_Best.l0
   repeat' first | (with_reducible exact ih0 _ _ _) | (with_reducible exact peristyleref16_Cost.mono _ _ _) | (with_reducible exact LeO.refl _) | (with_reducible refine LeO.ite ?_ ?_) | (with_reducible refine LeO.bind ?_ (fun _ => ?_))
theorem peristyleref16_Best.mono : ∀ a0 k, LeO (peristyleref16_Best.f k a0) (peristyleref16_Best.f (k + 1) a0) := by
 intro a0 k
 have ih0 := peristyleref16_Best.mono_l k
 unfold peristyleref16_Best.f
 repeat' (with_reducible exact ih0 _ _ _)
set_option maxHeartbeats 8000000 in
set_option maxRecDepth 100000 in
theorem peristyleref16_Best.calls (k : Nat) (A0 : Option Addr) (c0 : Nat) (l0 : List (S64)) (r : Int) (w : World) (hr0 : Kd.C k64 w A0 l0.length l0) (hc0 : l0.length ≤ c0) (h : peristyleref16_Best.f k l0 = some r) :
  Calls Tryz.prog 45 #[.slice A0 l0.length c0] w fun e w' => e = .returned (.int .i64 r) ∧ Below w.heap.size w w' := by
 have HR0 := Aside0.mk hr0
 have HC0 := Aside0.mk hc0
 clear hr0 hc0
 have HB := Aside0.mk (Below.refl w.heap.size w)
 have H := h
 clear h
 unfold peristyleref16_Best.f at H
 have H' := Aside0.mk H
 clear H
 go_enter Tryz.func45, Tryz.ntmps45
 go_wp2
 go_loopg [3, 4] k (fun kq v3 v4 w' => ∃ (x3_1 : Int) (x4_1 : Int), v3 = .int .i64 x3_1 ∧ v4 = .int .i64 x4_1 ∧ Aside0 (peristyleref16_Best.l0 kq l0 x3_1 x4_1 = some r) ∧ Aside0 (kq ≤ k) ∧ Aside0 (Below w.heap.size w w'))
 case atStart => exact ⟨(1), (2), (by rfl), (by rfl), H', ⟨Nat.le_refl _⟩, ⟨bh HB.out⟩⟩
 case round =>
  clear H'
  obtain ⟨x3_1, x4_1, rfl, rfl, HA, HK1, HB⟩ := hrel
  cases gk with
  | zero => exact absurd HA.out (by simp [peristyleref16_Best.l0])
  | succ k1 =>
   have H := HA.out
   clear HA
   simp only [peristyleref16_Best.l0] at H
   replace H := ifd H
   rcases H with ⟨-, c2b0, H⟩ | ⟨-, c2b0, H⟩
   ·replace H := bd H
    obtain ⟨t578, A3, H⟩ := H
    replace H := bd H
    obtain ⟨t579, A4, H⟩ := H
    replace H := ifd H
    rcases H with ⟨-, c5b0, H⟩ | ⟨-, c5b0, H⟩
    ·have H' := Aside0.mk H
     clear H
     go_wp2_with (first | ((with_reducible refine gate_callee (f := 15) rfl ?_); refine gL 11 Tryz.func15 #[.slice A0 l0.length c0, .int .i64 x4_1] ?_; (with_reducible refine (peristyleref16_Cost.calls k1 _ _ l0 x4_1 t578 _ ?side1 ?side2 A3.out).mono ?_); (case side1 => exact cx (Kd.C_below HR0.out HB.out)); (case side2 => exact HC0.out); rintro e w6 ⟨rfl, hb⟩; refine ⟨_, rfl, ?_⟩; replace HB := bsa HB hb; clear hb) | ((with_reducible refine gate_callee (f := 15) rfl ?_); refine gL 14 Tryz.func15 #[.slice A0 l0.length c0, .int .i64 x3_1] ?_; (with_reducible refine (peristyleref16_Cost.calls k1 _ _ l0 x3_1 t579 _ ?side1 ?side2 A4.out).mono ?_); (case side1 => exact cx (Kd.C_below HR0.out HB.out)); (case side2 => exact HC0.out); rintro e w7 ⟨rfl, hb⟩; refine ⟨_, rfl, ?_⟩; replace HB := bsa HB hb; clear hb))
     go_roundg k1
     case measure => have := HK1.out; omega
     case rel => exact ⟨(x4_1), (wrap64 (x4_1 + 1)), (by rfl), (by rfl), H', ⟨by have := HK1.out; omega⟩, ⟨bh HB.out⟩⟩
    ·have H' := Aside0.mk H
     clear H
     go_wp2_with (first | ((with_reducible refine gate_callee (f := 15) rfl ?_); refine gL 11 Tryz.func15 #[.slice A0 l0.length c0, .int .i64 x4_1] ?_; (with_reducible refine (peristyleref16_Cost.calls k1 _ _ l0 x4_1 t578 _ ?side1 ?side2 A3.out).mono ?_); (case side1 => exact cx (Kd.C_below HR0.out HB.out)); (case side2 => exact HC0.out); rintro e w8 ⟨rfl, hb⟩; refine ⟨_, rfl, ?_⟩; replace HB := bsa HB hb; clear hb) | ((with_reducible refine gate_callee (f := 15) rfl ?_); refine gL 14 Tryz.func15 #[.slice A0 l0.length c0, .int .i64 x3_1] ?_; (with_reducible refine (peristyleref16_Cost.calls k1 _ _ l0 x3_1 t579 _ ?side1 ?side2 A4.out).mono ?_); (case side1 => exact cx (Kd.C_below HR0.out HB.out)); (case side2 => exact HC0.out); rintro e w9 ⟨rfl, hb⟩; refine ⟨_, rfl, ?_⟩; replace HB := bsa HB hb; clear hb))
     go_roundg k1
     case measure => have := HK1.out; omega
     case rel => exact ⟨(x3_1), (wrap64 (x4_1 + 1)), (by rfl), (by rfl), H', ⟨by have := HK1.out; omega⟩, ⟨bh HB.out⟩⟩
   ·obtain rfl := Option.some.inj H
    go_wp2
    go_ret
    exact ⟨er, bh HB.out⟩

/-! ### peristyleref16_Of: function 11 -/
def peristyleref16_Of.j0 : Nat → List (S64) → Int → Bool → Option ((List (S64)) × Int × Int)
 | 0, _, _, _ => none
 | k + 1, x0, x1, x17 => if x17 = true then (some (([] : List (S64)), 0, 1)) else (if x1 = 0 then ((peristyleref16_Best.f k x0).bind fun t583 => (some (x0, t583, 0))) else (some (x0, x1, 0)))
def peristyleref16_Of.f (k : Nat) (l0 : List (S64)) (a1 : Int) : Option ((List (S64)) × Int × Int) := (peristyleref14_May.f k l0).bind fun t581 => (if t581 = true then (if a1 = 0 then (peristyleref16_Of.j0 k l0 a1 false) else ((peristyleref16_May.f a1).bind fun t582 => (peristyleref16_Of.j0 k l0 a1 (!t582)))) else (peristyleref16_Of.j0 k l0 a1 true))
theorem peristyleref16_Of.j0_succ (k) (a0) (a1) (a2) : type_of% (@peristyleref16_Of.j0.eq_2 a0 a1 a2 k) := peristyleref16_Of.j0.eq_2 a0 a1 a2 k
theorem peristyleref16_Of.mono_l : ∀ k, (∀ y0 y1 y2, LeO (peristyleref16_Of.j0 k y0 y1 y2) (peristyleref16_Of.j0 (k + 1) y0 y1 y2))
 | 0 => fun _ _ _ r h => by simp [peristyleref16_Of.j0] at h
 | k + 1 => by
  have ih0 := peristyleref16_Of.mono_l k
  ·intro y0 y1 y2
   unfold peristyleref16_Of.j0
   repeat' first | (with_reducible exact peristyleref16_Best.mono _ _) | (with_reducible exact LeO.refl _) | (with_reducible refine LeO.ite ?_ ?_) | (with_reducible refine LeO.bind ?_ (fun _ => ?_))
theorem peristyleref16_Of.mono : ∀ a0 a1 k, LeO (peristyleref16_Of.f k a0 a1) (peristyleref16_Of.f (k + 1) a0 a1) := by
 intro a0 a1 k
 have ih0 := peristyleref16_Of.mono_l k
 unfold peristyleref16_Of.f
 repeat' first | (with_reducible exact ih0 _ _ _) | (with_reducible exact peristyleref14_May.mono _ _) | (with_reducible exact LeO.refl _) | (with_reducible refine LeO.ite ?_ ?_) | (with_reducible refine LeO.bind ?_ (fun _ => ?_))
set_option maxHeartbeats 8000000 in
set_option maxRecDepth 100000 in
theorem peristyleref16_Of.calls (k : Nat) (P0_ : Nat → Prop) (A0 : Option Addr) (c0 : Nat) (l0 : List (S64)) (a1 : Int) (r1 : List (S64)) (r2 : Int) (r3 : Int) (w : World) (hs0 : Kd.V k64 64 w w.heap.size (fun k_ => P0_ k_) (.slice A0 l0.length c0) l0) (h : peristyleref16_Of.f k l0 a1 = some (r1, r2, r3)) :
  Calls Tryz.prog 11 #[.slice A0 l0.length c0, .int .i64 a1] w fun e w' => ∃ v0_ : Value, e = .returned (.tuple #[.agg #[v0_, .int .i64 r2], .int .i64 r3]) ∧ Kd.V k64 64 w' w.heap.size (fun k_ => (P0_ k_ ∨ w.heap.size ≤ k_)) v0_ r1 ∧ Below w.heap.size w w' := by
 have hu32 := Tryz.underlying32
 have HO0 := Aside0.mk (show Kd.V k64 64 w w.heap.size (fun k_ => (P0_ k_ ∨ w.heap.size ≤ k_)) (.slice A0 l0.length c0) l0 from Kd.V_mono hs0 (fun k_ hk => .inl hk))
 have HB := Aside0.mk (Below.refl w.heap.size w)
 have H := h
 clear h
 unfold peristyleref16_Of.f at H
 have HC3 := Aside0.mk H
 clear H
 go_enter Tryz.func11, Tryz.ntmps11
 go_upto_region 1 with (((with_reducible refine gate_dst (N := 4) rfl ?_); refine box_event ?hg (N := 4) ?hd (cs := #[.slice none 0 0, .int .i64 0]) (t := 32) ?hr ?_; (case hd => rfl); (case hg => rfl); (case hr => (go_simp; done)); intro gb580 hg w4 hbox hb; replace HO0 := Aside0.mk (Kd.V_below (Kd.V_elderB (by exact HO0.out) gb580 (Nat.le_of_eq hg.symm)) hb); have BK580 := Aside0.mk (hbox); have GW580 := bza HB hg; have GE580 := bza HB hg; replace HB := bsa HB hb; clear hb hbox hg))
 go_cut [17] (fun v17 wc => ∃ (kq : Nat) (x17_2 : Bool), v17 = .bool x17_2 ∧ Aside0 (peristyleref16_Of.j0 kq l0 a1 x17_2 = some (r1, r2, r3)) ∧ Aside0 (kq ≤ k) ∧ Aside0 (Kd.V k64 64 wc w.heap.size (fun k_ => (P0_ k_ ∨ w.heap.size ≤ k_) ∧ k_ ≠ gb580) (.slice A0 l0.length c0) l0) ∧ Aside0 (wc.heap[gb580]? = some (.cells #[(.slice none 0 0), .int .i64 0] 32 (0, 0))) ∧ Aside0 (Below w.heap.size w wc))
 case first =>
  have H := HC3.out
  clear HC3
  replace H := bd H
  obtain ⟨t581, A5, H⟩ := H
  replace H := ifb H
  rcases H with ⟨rfl, H⟩ | ⟨rfl, H⟩
  ·replace H := ife H
   rcases H with ⟨-, c7b0, c7b1, H⟩ | ⟨c7, c7b0, c7b1, H⟩
   ·(skip)
    have H' := Aside0.mk H
    clear H
    go_wp2_with (((with_reducible refine gate_callee (f := 21) rfl ?_); refine gL 7 Tryz.func21 #[.slice A0 l0.length c0] ?_; (with_reducible refine (peristyleref14_May.calls k _ _ l0 true _ ?side1 ?side2 A5.out).mono ?_); (case side1 => exact cx (Kd.V_reads' HO0.out).2.2); (case side2 => exact (Kd.V_reads' HO0.out).2.1); rintro e w' ⟨rfl, ⟨nd, rfl⟩⟩; refine ⟨_, rfl, ?_⟩))
    go_meet
    case rel => exact ⟨_, (false), (by rfl), H', ⟨by omega⟩, ⟨by (with_reducible repeat (apply Kd.V_drewN)); exact HO0.out⟩, ⟨bx BK580.out⟩, ⟨bh HB.out⟩⟩
   ·(skip)
    replace H := bd H
    obtain ⟨t582, A8, H⟩ := H
    have H' := Aside0.mk H
    clear H
    go_wp2_with (first | ((with_reducible refine gate_callee (f := 21) rfl ?_); refine gL 7 Tryz.func21 #[.slice A0 l0.length c0] ?_; (with_reducible refine (peristyleref14_May.calls k _ _ l0 true _ ?side1 ?side2 A5.out).mono ?_); (case side1 => exact cx (Kd.V_reads' HO0.out).2.2); (case side2 => exact (Kd.V_reads' HO0.out).2.1); rintro e w' ⟨rfl, ⟨nd, rfl⟩⟩; refine ⟨_, rfl, ?_⟩) | (go_at_call 38; (with_reducible refine (peristyleref16_May.calls a1 t582 _ A8.out).mono ?_); rintro e w' ⟨rfl, ⟨nd, rfl⟩⟩; clear A8))
    go_meet
    case rel => exact ⟨_, (!t582), (by rfl), H', ⟨by omega⟩, ⟨by (with_reducible repeat (apply Kd.V_drewN)); exact HO0.out⟩, ⟨bx BK580.out⟩, ⟨bh HB.out⟩⟩
  ·have H' := Aside0.mk H
   clear H
   go_wp2_with (((with_reducible refine gate_callee (f := 21) rfl ?_); refine gL 7 Tryz.func21 #[.slice A0 l0.length c0] ?_; (with_reducible refine (peristyleref14_May.calls k _ _ l0 false _ ?side1 ?side2 A5.out).mono ?_); (case side1 => exact cx (Kd.V_reads' HO0.out).2.2); (case side2 => exact (Kd.V_reads' HO0.out).2.1); rintro e w' ⟨rfl, ⟨nd, rfl⟩⟩; refine ⟨_, rfl, ?_⟩))
   go_meet
   case rel => exact ⟨_, (true), (by rfl), H', ⟨by omega⟩, ⟨by (with_reducible repeat (apply Kd.V_drewN)); exact HO0.out⟩, ⟨bx BK580.out⟩, ⟨bh HB.out⟩⟩
 case rest =>
  clear HC3
  obtain ⟨kq, x17_2, rfl, HA, HJ2, HO_0, BK580, HB⟩ := hcut
  cases kq with
  | zero => exact absurd HA.out (by simp [peristyleref16_Of.j0])
  | succ kj2 =>
   have H := HA.out
   clear HA
   simp only [peristyleref16_Of.j0] at H
   replace H := ifb H
   rcases H with ⟨rfl, H⟩ | ⟨rfl, H⟩
   ·simp only [Option.some.injEq, Prod.mk.injEq] at H
    obtain ⟨rfl, rfl, rfl⟩ := H
    obtain ⟨hcz10_0, hcz10_1, hfz10_0, hfz10_1⟩ := b2 BK580
    go_wp2
    refine bodyPost_ret (results_ct rfl _ _ gb580 32 #[.slice none 0 0, .int .i64 0] (0, 0) _ rfl (by refine blk_put (cs := #[.slice none 0 0, .int .i64 0]) ?_ 1 _ rfl; refine blk_put (cs := #[.slice none 0 0, .int .i64 0]) ?_ 0 _ rfl; exact BK580.out) Tryz.underlying32 rfl (by kernel_rfl)) rfl ?_
    exact ⟨_, er, Kd.V_mono (Kd.V_nil _ _ _ _ _) (fun k_ hk => by exact (.inr (hk))), bh HB.out⟩
   ·replace H := ife H
    rcases H with ⟨-, c11b0, c11b1, H⟩ | ⟨c11, c11b0, c11b1, H⟩
    ·replace H := bd H
     obtain ⟨t583, A12, H⟩ := H
     simp only [Option.some.injEq, Prod.mk.injEq] at H
     obtain ⟨rfl, rfl, rfl⟩ := H
     go_wp2_with (((with_reducible refine gate_callee (f := 45) rfl ?_); refine gL 22 Tryz.func45 #[.slice A0 l0.length c0] ?_; (with_reducible refine (peristyleref16_Best.calls kj2 _ _ l0 t583 _ ?side1 ?side2 A12.out).mono ?_); (case side1 => exact cx (Kd.V_reads' HO_0.out).2.2); (case side2 => exact (Kd.V_reads' HO_0.out).2.1); rintro e w13 ⟨rfl, hb⟩; refine ⟨_, rfl, ?_⟩; replace HO_0 := Aside0.mk (Kd.V_below (by exact HO_0.out) hb); replace BK580 := bba BK580 hb; replace HB := bsa HB hb; clear hb; obtain ⟨hcz14_0, hcz14_1, hfz14_0, hfz14_1⟩ := b2 BK580))
     refine bodyPost_ret (results_ct rfl _ _ gb580 32 #[.slice A0 l0.length c0, .int .i64 t583] (0, 0) _ rfl (by refine blk_put (cs := #[.slice A0 l0.length c0, .int .i64 0]) ?_ 1 _ rfl; refine blk_put (cs := #[.slice none 0 0, .int .i64 0]) ?_ 0 _ rfl; exact BK580.out) Tryz.underlying32 rfl (by kernel_rfl)) rfl ?_
     exact ⟨_, er, by exact Kd.V_mono (Kd.V_far (p := ⟨gb580, 1, none⟩) (Kd.V_far (p := ⟨gb580, 0, none⟩) (Kd.V_mono HO_0.out (fun k_ hk => (⟨hk, hk.2⟩ : _ ∧ k_ ≠ gb580))) (fun _ hk => hk.2) (.slice A0 l0.length c0)) (fun _ hk => hk.2) (.int .i64 t583)) (fun _ hk => hk.1.1), bh HB.out⟩
    ·simp only [Option.some.injEq, Prod.mk.injEq] at H
     obtain ⟨rfl, rfl, rfl⟩ := H
     obtain ⟨hcz15_0, hcz15_1, hfz15_0, hfz15_1⟩ := b2 BK580
     go_wp2
     refine bodyPost_ret (results_ct rfl _ _ gb580 32 #[.slice A0 l0.length c0, .int .i64 a1] (0, 0) _ rfl (by refine blk_put (cs := #[.slice A0 l0.length c0, .int .i64 0]) ?_ 1 _ rfl; refine blk_put (cs := #[.slice none 0 0, .int .i64 0]) ?_ 0 _ rfl; exact BK580.out) Tryz.underlying32 rfl (by kernel_rfl)) rfl ?_
     exact ⟨_, er, by exact Kd.V_mono (Kd.V_far (p := ⟨gb580, 1, none⟩) (Kd.V_far (p := ⟨gb580, 0, none⟩) (Kd.V_mono HO_0.out (fun k_ hk => (⟨hk, hk.2⟩ : _ ∧ k_ ≠ gb580))) (fun _ hk => hk.2) (.slice A0 l0.length c0)) (fun _ hk => hk.2) (.int .i64 a1)) (fun _ hk => hk.1.1), bh HB.out⟩

end Go.Proofs.YtjgmdjieandemaaGreat.Print
end
section
namespace Go.Proofs.YtjgmdjieandemaaGreat.Print
open Go.RowKit Go.Proofs.YtjgmdjieandemaaGreatW.PrintWords Go.Proofs.YtjgmdjieandemaaGreatW.PrintLast Go.Proofs.YtjgmdjieandemaaGreatW.PrintMore
attribute [local go_sem] max2_int min2_int max_two min_two max_three min_three max_four min_four   -- for this text's walks alone
set_option linter.unusedVariables false
set_option linter.unusedSimpArgs false

theorem eqA64 (d : Nat) (w : World) (x0 y0 : Int) (x1 y1 : Int) :
    (Op.equalIn (d + 2) 64 (.agg #[.int .i64 x0, .int .i64 x1]) (.agg #[.int .i64 y0, .int .i64 y1])).run Tryz.prog w = .ok (x0 == y0 && (x1 == y1)) w := by
 refine eqA_of Tryz.underlying64 (by kernel_rfl) ?_
 refine eqf_cons (by rfl) (by go_simp; rfl) (by go_simp; rfl) (by go_simp) ?_
 exact eqf_last (by rfl) (by go_simp; rfl) (by go_simp; rfl) (by go_simp)
end Go.Proofs.YtjgmdjieandemaaGreat.Print
end
section
namespace Go.Proofs.YtjgmdjieandemaaGreat.Print
open Go.RowKit Go.Proofs.YtjgmdjieandemaaGreatW.PrintWords Go.Proofs.YtjgmdjieandemaaGreatW.PrintLast Go.Proofs.YtjgmdjieandemaaGreatW.PrintMore
attribute [local go_sem] max2_int min2_int max_two min_two max_three min_three max_four min_four   -- for this text's walks alone
set_option linter.unusedVariables false
set_option linter.unusedSimpArgs false

attribute [local go_sem high] eqA64
/-! ### peristyleref14_Same: function 27 -/
def peristyleref14_Same.l0 : Nat → List (S64) → List (S64) → Int → Option (Bool)
 | 0, _, _, _ => none
 | k + 1, x0, x1, x5 => if x5 < (x0.length : Int) then (if 0 ≤ x5 then (if x5 < (x1.length : Int) then (if (!(((rd_T64 x0 x5).f0) == ((rd_T64 x1 x5).f0)) || (!(((rd_T64 x0 x5).f1) == ((rd_T64 x1 x5).f1)))) = true then (some false) else (peristyleref14_Same.l0 k x0 x1 (wrap64 (x5 + 1)))) else (none)) else (none)) else (some true)
def peristyleref14_Same.f (k : Nat) (l0 : List (S64)) (l1 : List (S64)) : Option (Bool) := if (l0.length : Int) = (l1.length : Int) then (peristyleref14_Same.l0 k l0 l1 0) else (some false)
theorem peristyleref14_Same.l0_succ (k) (a0) (a1) (a2) : type_of% (@peristyleref14_Same.l0.eq_2 a0 a1 a2 k) := peristyleref14_Same.l0.eq_2 a0 a1 a2 k
theorem peristyleref14_Same.mono_l : ∀ k, (∀ y0 y1 y2, LeO (peristyleref14_Same.l0 k y0 y1 y2) (peristyleref14_Same.l0 (k + 1) y0 y1 y2))
 | 0 => fun _ _ _ r h => by simp [peristyleref14_Same.l0] at h
 | k + 1 => by
  have ih0 := peristyleref14_Same.mono_l k
  ·intro y0 y1 y2
   unfold peristyleref14_Same.l0
   repeat' first | (with_reducible exact ih0 _ _ _) | (with_reducible exact LeO.refl _) | (with_reducible refine LeO.ite ?_ ?_)
theorem peristyleref14_Same.mono : ∀ a0 a1 k, LeO (peristyleref14_Same.f k a0 a1) (peristyleref14_Same.f (k + 1) a0 a1) := by
 intro a0 a1 k
 have ih0 := peristyleref14_Same.mono_l k
 unfold peristyleref14_Same.f
 repeat' first | (with_reducible exact ih0 _ _ _) | (with_reducible exact LeO.refl _) | (with_reducible refine LeO.ite ?_ ?_)
set_option maxHeartbeats 8000000 in
set_option maxRecDepth 100000 in
theorem peristyleref14_Same.calls (k : Nat) (A0 : Option Addr) (c0 : Nat) (l0 : List (S64)) (A1 : Option Addr) (c1 : Nat) (l1 : List (S64)) (r : Bool) (w : World) (hr0 : Kd.C k64 w A0 l0.length l0) (hc0 : l0.length ≤ c0) (hr1 : Kd.C k64 w A1 l1.length l1) (hc1 : l1.length ≤ c1) (h : peristyleref14_Same.f k l0 l1 = some r) :
  Calls Tryz.prog 27 #[.slice A0 l0.length c0, .slice A1 l1.length c1] w fun e w' => e = .returned (.bool r) ∧ Drawn0 w w' := by
 have hu64 := Tryz.underlying64
 have HR0 := Aside0.mk hr0
 have HC0 := Aside0.mk hc0
 clear hr0 hc0
 have HR1 := Aside0.mk hr1
 have HC1 := Aside0.mk hc1
 clear hr1 hc1
 have H := h
 clear h
 unfold peristyleref14_Same.f at H
 replace H := ife H
 rcases H with ⟨c3, c3b0, c3b1, H⟩ | ⟨c3, c3b0, c3b1, H⟩
 ·have c3b2 : (l0.length == l1.length) = true := by (simp at c3 ⊢; omega)
  clear c3
  have H' := Aside0.mk H
  clear H
  go_enter Tryz.func27, Tryz.ntmps27
  go_wp2
  repeat (go_quiet (fail))
  go_loopg [5] k (fun kq v5 w' => ∃ (x5_1 : Int), v5 = .int .i64 x5_1 ∧ Aside0 (peristyleref14_Same.l0 kq l0 l1 x5_1 = some r) ∧ Aside0 (kq ≤ k) ∧ Drawn0 w w')
  case atStart => exact ⟨(0), (by rfl), H', ⟨Nat.le_refl _⟩, by repeat (exact Drawn0.refl _)⟩
  case round =>
   clear H' c3b0 c3b1 c3b2
   obtain ⟨x5_1, rfl, HA, HK1, ⟨m1, rfl⟩⟩ := hrel
   cases gk with
   | zero => exact absurd HA.out (by simp [peristyleref14_Same.l0])
   | succ k1 =>
    have H := HA.out
    clear HA
    simp only [peristyleref14_Same.l0] at H
    replace H := ifd H
    rcases H with ⟨-, c4b0, H⟩ | ⟨-, c4b0, H⟩
    ·replace H := ifn H
     obtain ⟨-, c5b0, H⟩ := H
     replace H := ifn H
     obtain ⟨-, c6b0, H⟩ := H
     replace H := ifd H
     rcases H with ⟨c7, -, H⟩ | ⟨c7, -, H⟩
     ·have c7b0 : (!(((rd_T64 l0 x5_1).f0) == ((rd_T64 l1 x5_1).f0)) || (!(((rd_T64 l0 x5_1).f1) == ((rd_T64 l1 x5_1).f1)))) = true := c7
      clear c7
      obtain rfl := Option.some.inj H
      have p584 : 0 ≤ (x5_1 : Int) := ad
      have q584 : x5_1 < (l0.length : Int) := ad
      obtain ⟨ad584, e584, hx584_0, hx584_1⟩ := at_T64 HR0.out x5_1 p584 q584
      cases e584
      replace p584 := eq_true p584
      replace q584 := eq_true q584
      have p585 : 0 ≤ (x5_1 : Int) := ad
      have q585 : x5_1 < (l1.length : Int) := ad
      obtain ⟨ad585, e585, hx585_0, hx585_1⟩ := at_T64 HR1.out x5_1 p585 q585
      cases e585
      replace p585 := eq_true p585
      replace q585 := eq_true q585
      go_wp2
      repeat (go_quiet (fail); go_wp2)
      go_ret
      exact ⟨by rfl, by repeat (first | exact Drawn0.refl _ | apply Drawn0.step)⟩
     ·have c7b0 : (!(((rd_T64 l0 x5_1).f0) == ((rd_T64 l1 x5_1).f0)) || (!(((rd_T64 l0 x5_1).f1) == ((rd_T64 l1 x5_1).f1)))) = false := by simpa using c7
      clear c7
      have H' := Aside0.mk H
      clear H
      have p584 : 0 ≤ (x5_1 : Int) := ad
      have q584 : x5_1 < (l0.length : Int) := ad
      obtain ⟨ad584, e584, hx584_0, hx584_1⟩ := at_T64 HR0.out x5_1 p584 q584
      cases e584
      replace p584 := eq_true p584
      replace q584 := eq_true q584
      have p585 : 0 ≤ (x5_1 : Int) := ad
      have q585 : x5_1 < (l1.length : Int) := ad
      obtain ⟨ad585, e585, hx585_0, hx585_1⟩ := at_T64 HR1.out x5_1 p585 q585
      cases e585
      replace p585 := eq_true p585
      replace q585 := eq_true q585
      go_wp2
      repeat (go_quiet (fail); go_wp2)
      go_roundg k1
      case measure => have := HK1.out; omega
      case rel => exact ⟨(wrap64 (x5_1 + 1)), (by rfl), H', ⟨by have := HK1.out; omega⟩, by repeat (first | exact Drawn0.refl _ | apply Drawn0.step)⟩
    ·obtain rfl := Option.some.inj H
     go_wp2
     repeat (go_quiet (fail))
     go_ret
     exact ⟨by rfl, by repeat (first | exact Drawn0.refl _ | apply Drawn0.step)⟩
 ·have c3b2 : (l0.length == l1.length) = false := by (simp at c3 ⊢; omega)
  obtain rfl := Option.some.inj H
  go_enter Tryz.func27, Tryz.ntmps27
  go_wp2
  repeat (go_quiet (fail))
  go_ret
  exact ⟨by rfl, by repeat (exact Drawn0.refl _)⟩

/-! ### peristylelaw16_is: function 13 -/
def peristylelaw16_is.f (k : Nat) (a0_0 : Int) (l0_1 : List (S64)) (l0_2 : List Int) (l0_3 : List Int) (l1_0 : List (S64)) (a1_1 : Int) : Option (Bool) := (peristyleref14_Places.f k l1_0).bind fun bt588 => ((poslist_List_Form.f a0_0 l0_1 l0_2 l0_3).bind fun t592 => (if t592 = a1_1 then ((poslist_List_Spans.f k a0_0 l0_1 l0_2 l0_3).bind fun t593 => ((peristyleref14_Same.f k t593 l1_0).bind fun t596 => (if t596 = true then ((poslist_List_Count.f k a0_0 l0_1 l0_2 l0_3).bind fun t597 => (if t597 = (bt588.1.length : Int) then ((peristylelaw16_listed.f k a0_0 l0_1 l0_2 l0_3).bind fun t598 => ((peristyleref01_Same.f k t598 bt588.1).bind fun t601 => (some t601))) else (none))) else (none)))) else (none)))
theorem peristylelaw16_is.mono : ∀ a0 a1 a2 a3 a4 a5 k, LeO (peristylelaw16_is.f k a0 a1 a2 a3 a4 a5) (peristylelaw16_is.f (k + 1) a0 a1 a2 a3 a4 a5) := by
 intro a0 a1 a2 a3 a4 a5 k
 unfold peristylelaw16_is.f
 repeat' first | (with_reducible exact peristylelaw16_listed.mono _ _ _ _ _) | (with_reducible exact peristyleref01_Same.mono _ _ _) | (with_reducible exact peristyleref14_Places.mono _ _) | (with_reducible exact peristyleref14_Same.mono _ _ _) | (with_reducible exact poslist_List_Count.mono _ _ _ _ _) | (with_reducible exact poslist_List_Spans.mono _ _ _ _ _) | (with_reducible exact LeO.refl _) | (with_reducible refine LeO.ite ?_ ?_) | (with_reducible refine LeO.bind ?_ (fun _ => ?_))
def peristylelaw16_is.T2 : Bool × List (List Nat × List Nat) := (true, [([], []), ([0], [0]), ([], []), ([2], [2]), ([1, 3], [1, 3]), ([4, 1], [4]), ([5], [5]), ([6, 5, 5], [5, 6]), ([5], [5]), ([8, 5], [5, 8]), ([7, 9, 7, 5], [5, 7, 9]), ([5, 10], [5, 10]), ([11, 10], [11]), ([12], [12]), ([13, 12, 12], [12, 13]), ([12], [12]), ([15, 12], [12, 15]), ([14, 16, 12], [12, 14, 16]), ([12, 17], [12, 17]), ([18, 14], [18]), ([19], [19]), ([20, 19, 19], [19, 20]), ([19], [19]), ([21, 22, 21, 19], [19, 21, 22]), ([19, 23], [19, 23]), ([24, 23, 0, 1, 2, 3, 4, 5, 6, 7, 8, 9, 10, 11, 12, 13, 14, 15, 16, 17, 18, 19, 20, 21, 22, 23, 24], [24])])
def peristylelaw16_is.B2 : List Nat := [0, 1, 0, 4, 15, 31, 63, 127, 63, 319, 1023, 2047, 4095, 8191, 16383, 8191, 40959, 131071, 262143, 524287, 1048575, 2097151, 1048575, 8388607, 16777215, 33554431]
theorem peristylelaw16_is.tab2 : rtab .any (opsOf Tryz.f13 2) = peristylelaw16_is.T2 := by kernel_rfl
theorem peristylelaw16_is.bits2 : waitsOk peristylelaw16_is.T2.2 peristylelaw16_is.B2 = true := by kernel_rfl
set_option maxHeartbeats 8000000 in
set_option maxRecDepth 100000 in
theorem peristylelaw16_is.calls (k : Nat) (a0_0 : Int) (A0_1 : Option Addr) (c0_1 : Nat) (l0_1 : List (S64)) (A0_2 : Option Addr) (c0_2 : Nat) (l0_2 : List Int) (A0_3 : Option Addr) (c0_3 : Nat) (l0_3 : List Int) (A1_0 : Option Addr) (c1_0 : Nat) (l1_0 : List (S64)) (a1_1 : Int) (r : Bool) (w : World) (hr0_1 : Kd.C k64 w A0_1 l0_1.length l0_1) (hc0_1 : l0_1.length ≤ c0_1) (hr0_2 : Kd.C (Kd.int .i64) w A0_2 l0_2.length l0_2) (hc0_2 : l0_2.length ≤ c0_2) (hr0_3 : Kd.C (Kd.int .i64) w A0_3 l0_3.length l0_3) (hc0_3 : l0_3.length ≤ c0_3) (hr1_0 : Kd.C k64 w A1_0 l1_0.length l1_0) (hc1_0 : l1_0.length ≤ c1_0) (h : peristylelaw16_is.f k a0_0 l0_1 l0_2 l0_3 l1_0 a1_1 = some r) :
  Calls Tryz.prog 13 #[.agg #[.int .i64 a0_0, .slice A0_1 l0_1.length c0_1, .slice A0_2 l0_2.length c0_2, .slice A0_3 l0_3.length c0_3], .agg #[.slice A1_0 l1_0.length c1_0, .int .i64 a1_1]] w fun e w' => e = .returned (.bool r) ∧ Below w.heap.size w w' := by
 have hu27 := Tryz.underlying27
 have hu32 := Tryz.underlying32
 have HR0_1 := Aside0.mk hr0_1
 have HC0_1 := Aside0.mk hc0_1
 clear hr0_1 hc0_1
 have HR0_2 := Aside0.mk hr0_2
 have HC0_2 := Aside0.mk hc0_2
 clear hr0_2 hc0_2
 have HR0_3 := Aside0.mk hr0_3
 have HC0_3 := Aside0.mk hc0_3
 clear hr0_3 hc0_3
 have HR1_0 := Aside0.mk hr1_0
 have HC1_0 := Aside0.mk hc1_0
 clear hr1_0 hc1_0
 have HB := Aside0.mk (Below.refl w.heap.size w)
 have H := h
 clear h
 unfold peristylelaw16_is.f at H
 replace H := bd H
 obtain ⟨⟨t588, t589⟩, A3, H⟩ := H
 dsimp only at H
 replace H := bd H
 obtain ⟨t592, A4, H⟩ := H
 replace H := ife H
 rcases H with ⟨-, c5b0, c5b1, H⟩ | ⟨-, -, -, ⟨⟩⟩
 replace H := bd H
 obtain ⟨t593, A6, H⟩ := H
 replace H := bd H
 obtain ⟨t596, A7, H⟩ := H
 replace H := ifb H
 rcases H with ⟨rfl, H⟩ | ⟨-, ⟨⟩⟩
 replace H := bd H
 obtain ⟨t597, A9, H⟩ := H
 replace H := ife H
 rcases H with ⟨-, c10b0, c10b1, H⟩ | ⟨-, -, -, ⟨⟩⟩
 replace H := bd H
 obtain ⟨t598, A11, H⟩ := H
 replace H := bd H
 obtain ⟨t601, A12, H⟩ := H
 obtain rfl := Option.some.inj H
 go_enter Tryz.func13, Tryz.ntmps13
 go_wp2_with (first | ((with_reducible refine gate_dst (N := 2) rfl ?_); ((refine gate_guard (by rfl) ?_; dsimp only)); refine boxE HB 2 27 #[.int .i64 a0_0, .slice A0_1 l0_1.length c0_1, .slice A0_2 l0_2.length c0_2, .slice A0_3 l0_3.length c0_3] ?_; clear HB; intro gb586 w13 BK586 GW586 hg hb HB; have GE586 := GW586; clear hb hg) | ((with_reducible refine gate_dst (N := 3) rfl ?_); ((refine gate_guard (by rfl) ?_; dsimp only)); refine boxE HB 3 32 #[.slice A1_0 l1_0.length c1_0, .int .i64 a1_1] ?_; clear HB; intro gb587 w14 BK587 GW587 hg hb HB; have GE587 := GW587; have NB586_587 := bna BK586 hg; have NB587_586 := bma BK586 hg; replace BK586 := bba BK586 hb; clear hb hg; have hnb15 := NB587_586.out; have hnc15 := NB586_587.out; obtain ⟨hcz16_0, hcz16_1, hfz16_0, hfz16_1⟩ := b2 BK587) | ((with_reducible refine gate_callee (f := 47) rfl ?_); refine gL 10 Tryz.func47 #[.slice A1_0 l1_0.length c1_0] ?_; (with_reducible refine (peristyleref14_Places.calls k _ _ l1_0 t588 t589 _ ?side1 ?side2 A3.out).mono ?_); (case side1 => exact cx (Kd.C_below HR1_0.out HB.out)); (case side2 => exact HC1_0.out); rintro e w17 ⟨v590, rfl, ho0, hb⟩; refine ⟨_, rfl, ?_⟩; have HO591 := Aside0.mk (Kd.R_lower ho0 (below_size (bh HB.out))); replace BK586 := bba BK586 hb; replace BK587 := bba BK587 hb; replace HB := bsa HB hb; clear hb ho0))
 replace HO591 := Aside0.mk (Kd.R_drew HO591.out)
 replace BK586 := Aside0.mk (blk_drew BK586.out)
 replace BK587 := Aside0.mk (blk_drew BK587.out)
 replace HB := Aside0.mk (below_drew1 HB.out)
 obtain ⟨A590_, c590_, hv590_⟩ := Kd.R_slice HO591.out
 have hln590_22_ := fun (w_ : World) => congrArg (fun v_ => (Builtin.len_ #[22] 3 #[v_]).run Tryz.prog w_) hv590_
 have hln590_25_ := fun (w_ : World) => congrArg (fun v_ => (Builtin.len_ #[25] 3 #[v_]).run Tryz.prog w_) hv590_
 have hln590_69_ := fun (w_ : World) => congrArg (fun v_ => (Builtin.len_ #[69] 3 #[v_]).run Tryz.prog w_) hv590_
 clear hv590_
 refine start_ (n := 26) (S := fun w' => w'.cell? ⟨gb586, 0, none⟩ = some (.int .i64 a0_0) ∧ w'.cell? ⟨gb586, 1, none⟩ = some (.slice A0_1 l0_1.length c0_1) ∧ w'.cell? ⟨gb586, 2, none⟩ = some (.slice A0_2 l0_2.length c0_2) ∧ w'.cell? ⟨gb586, 3, none⟩ = some (.slice A0_3 l0_3.length c0_3) ∧ w'.cell? ⟨gb587, 0, none⟩ = some (.slice A1_0 l1_0.length c1_0) ∧ w'.cell? ⟨gb587, 1, none⟩ = some (.int .i64 a1_1)) (ds := []) #[false, false, false, false, false, false, false, false, false, false, false, false, false, false, false, false, false, false, false, false, false, false, false, false, false, false] (by kernel_rfl) rfl rfl ⟨(blk_cell BK586.out 0).trans rfl, (blk_cell BK586.out 1).trans rfl, (blk_cell BK586.out 2).trans rfl, (blk_cell BK586.out 3).trans rfl, (blk_cell BK587.out 0).trans rfl, (blk_cell BK587.out 1).trans rfl⟩ (fun hHeld => ?_); refine with_tabW peristylelaw16_is.tab2 peristylelaw16_is.bits2 (fun HT_ HW_ => ?_)
 generalize w17.drew = w18 at HO591 BK586 BK587 HB hHeld ⊢
 refine puA HT_ 2 15 (bv 26 4) ?_
 refine taA HT_ HW_ hHeld 0 13 (bv 26 5) ?_
 refine taA HT_ HW_ hHeld 3 16 (bv 26 13) ?_
 refine one_ (i := 1) (N := some 14) #[true, true, true, true, false, false, false, false, false, false, false, false, false, false, false, false, false, false, false, false, false, false, false, false, false, false] rfl rfl (one_of HT_.out (by kernel_rfl)) (by decide) (fun K hK => ?_)
 refine goes_ Tryz.func28 (by kernel_rfl) rfl #[.agg #[.int .i64 a0_0, .slice A0_1 l0_1.length c0_1, .slice A0_2 l0_2.length c0_2, .slice A0_3 l0_3.length c0_3]] (by rfl) rfl rfl (by (simp only [List.map_toArray, List.map_cons, List.map_nil]); rfl) ?_
 with_reducible refine (poslist_List_Form.calls a0_0 _ _ l0_1 _ _ l0_2 _ _ l0_3 t592 _ ?side1 ?side2 ?side3 ?side4 ?side5 ?side6 A4.out).mono ?_
 (case side1 => exact cx (Kd.C_below HR0_1.out HB.out))
 (case side2 => exact HC0_1.out)
 (case side3 => exact cx (Kd.C_below HR0_2.out HB.out))
 (case side4 => exact HC0_2.out)
 (case side5 => exact cx (Kd.C_below HR0_3.out HB.out))
 (case side6 => exact HC0_3.out)
 rintro e w19 ⟨rfl, hb⟩
 refine ⟨_, rfl, ?_⟩
 replace HO591 := rba HO591 hb
 replace BK586 := bba BK586 hb
 replace BK587 := bba BK587 hb
 replace HB := bsa HB hb
 clear hb
 refine hK.out _ _ ⟨(blk_cell BK586.out 0).trans rfl, (blk_cell BK586.out 1).trans rfl, (blk_cell BK586.out 2).trans rfl, (blk_cell BK586.out 3).trans rfl, (blk_cell BK587.out 0).trans rfl, (blk_cell BK587.out 1).trans rfl⟩ (fun hHeld => ?_)
 clear hK K
 refine norm_ (a' := ?_) ?_ ?_
 rotate_left
 ·show Act.put _ (some 14) _ = _
  simp only [Act.put, List.setIfInBounds_toArray, List.set_cons_zero, List.set_cons_succ, i64_w, i32_w]
  rfl
 refine puA HT_ 4 17 (bv 26 31) ?_
 refine puA HT_ 5 18 (bv 26 63) ?_
 refine puA HT_ 8 21 (bv 26 319) ?_
 refine taA HT_ HW_ hHeld 6 19 (bv 26 383) ?_
 refine taA HT_ HW_ hHeld 9 22 (bv 26 895) ?_
 refine one_ (i := 7) (N := some 20) #[true, true, true, true, true, true, true, true, true, true, false, false, false, false, false, false, false, false, false, false, false, false, false, false, false, false] rfl rfl (one_of HT_.out (by kernel_rfl)) (by decide) (fun K hK => ?_)
 refine goes_ Tryz.func20 (by kernel_rfl) rfl #[.agg #[.int .i64 a0_0, .slice A0_1 l0_1.length c0_1, .slice A0_2 l0_2.length c0_2, .slice A0_3 l0_3.length c0_3]] (by rfl) rfl rfl (by (simp only [List.map_toArray, List.map_cons, List.map_nil]); rfl) ?_
 with_reducible refine (poslist_List_Spans.calls k a0_0 _ _ l0_1 _ _ l0_2 _ _ l0_3 t593 _ ?side1 ?side2 ?side3 ?side4 ?side5 ?side6 A6.out).mono ?_
 (case side1 => exact cx (Kd.C_below HR0_1.out HB.out))
 (case side2 => exact HC0_1.out)
 (case side3 => exact cx (Kd.C_below HR0_2.out HB.out))
 (case side4 => exact HC0_2.out)
 (case side5 => exact cx (Kd.C_below HR0_3.out HB.out))
 (case side6 => exact HC0_3.out)
 rintro e w20 ⟨v594, rfl, ho0, hb⟩
 refine ⟨_, rfl, ?_⟩
 replace HO591 := rba HO591 hb
 have HO595 := Aside0.mk (Kd.R_lower ho0 (below_size (bh HB.out)))
 replace BK586 := bba BK586 hb
 replace BK587 := bba BK587 hb
 replace HB := bsa HB hb
 clear hb ho0
 obtain ⟨Ao21, co21, eo21⟩ := Kd.R_slice HO595.out
 (subst eo21)
 refine hK.out _ _ ⟨(blk_cell BK586.out 0).trans rfl, (blk_cell BK586.out 1).trans rfl, (blk_cell BK586.out 2).trans rfl, (blk_cell BK586.out 3).trans rfl, (blk_cell BK587.out 0).trans rfl, (blk_cell BK587.out 1).trans rfl⟩ (fun hHeld => ?_)
 clear hK K
 refine norm_ (a' := ?_) ?_ ?_
 rotate_left
 ·show Act.put _ (some 20) _ = _
  simp only [Act.put, List.setIfInBounds_toArray, List.set_cons_zero, List.set_cons_succ, i64_w, i32_w]
  rfl
 refine one_ (i := 10) (N := some 23) #[true, true, true, true, true, true, true, true, true, true, true, false, false, false, false, false, false, false, false, false, false, false, false, false, false, false] rfl rfl (one_of HT_.out (by kernel_rfl)) (by decide) (fun K hK => ?_)
 refine goes_ Tryz.func27 (by kernel_rfl) rfl #[.slice Ao21 t593.length co21, .slice A1_0 l1_0.length c1_0] (by rfl) rfl rfl (by (simp only [List.map_toArray, List.map_cons, List.map_nil]); rfl) ?_
 with_reducible refine (peristyleref14_Same.calls k _ _ t593 _ _ l1_0 true _ ?side1 ?side2 ?side3 ?side4 A7.out).mono ?_
 (case side1 => exact cx (Kd.R_reads' HO595.out).2.2)
 (case side2 => exact (Kd.R_reads' HO595.out).2.1)
 (case side3 => exact cx (Kd.C_below HR1_0.out HB.out))
 (case side4 => exact HC1_0.out)
 rintro e w' ⟨rfl, ⟨nd, rfl⟩⟩
 refine ⟨_, rfl, ?_⟩
 refine hK.out _ _ ⟨(blk_cell BK586.out 0).trans rfl, (blk_cell BK586.out 1).trans rfl, (blk_cell BK586.out 2).trans rfl, (blk_cell BK586.out 3).trans rfl, (blk_cell BK587.out 0).trans rfl, (blk_cell BK587.out 1).trans rfl⟩ (fun hHeld => ?_)
 clear hK K
 refine norm_ (a' := ?_) ?_ ?_
 rotate_left
 ·show Act.put _ (some 23) _ = _
  simp only [Act.put, List.setIfInBounds_toArray, List.set_cons_zero, List.set_cons_succ, i64_w, i32_w]
  rfl
 refine puA HT_ 11 24 (bv 26 4095) ?_
 refine puA HT_ 12 25 (bv 26 8191) ?_
 refine puA HT_ 15 28 (bv 26 40959) ?_
 refine puA HT_ 16 29 (bv 26 106495) ?_
 refine taA HT_ HW_ hHeld 13 26 (bv 26 114687) ?_
 refine one_ (i := 14) (N := some 27) #[true, true, true, true, true, true, true, true, true, true, true, true, true, true, true, true, true, false, false, false, false, false, false, false, false, false] rfl rfl (one_of HT_.out (by kernel_rfl)) (by decide) (fun K hK => ?_)
 refine goes_ Tryz.func19 (by kernel_rfl) rfl #[.agg #[.int .i64 a0_0, .slice A0_1 l0_1.length c0_1, .slice A0_2 l0_2.length c0_2, .slice A0_3 l0_3.length c0_3]] (by rfl) rfl rfl (by (simp only [List.map_toArray, List.map_cons, List.map_nil]); rfl) ?_
 with_reducible refine (poslist_List_Count.calls k a0_0 _ _ l0_1 _ _ l0_2 _ _ l0_3 t597 _ ?side1 ?side2 ?side3 ?side4 ?side5 ?side6 A9.out).mono ?_
 (case side1 => repeat (exact (Kd.C_below HR0_1.out (bh HB.out))))
 (case side2 => exact HC0_1.out)
 (case side3 => repeat (exact (Kd.C_below HR0_2.out (bh HB.out))))
 (case side4 => exact HC0_2.out)
 (case side5 => repeat (exact (Kd.C_below HR0_3.out (bh HB.out))))
 (case side6 => exact HC0_3.out)
 rintro e w22 ⟨rfl, hb⟩
 refine ⟨_, rfl, ?_⟩
 replace HO591 := rba HO591 hb
 replace HO595 := rba HO595 hb
 replace BK586 := bba BK586 hb
 replace BK587 := bba BK587 hb
 replace HB := bsa HB hb
 clear hb
 obtain ⟨Ao23, co23, eo23⟩ := Kd.R_slice HO591.out
 (subst eo23)
 refine hK.out _ _ ⟨(blk_cell BK586.out 0).trans rfl, (blk_cell BK586.out 1).trans rfl, (blk_cell BK586.out 2).trans rfl, (blk_cell BK586.out 3).trans rfl, (blk_cell BK587.out 0).trans rfl, (blk_cell BK587.out 1).trans rfl⟩ (fun hHeld => ?_)
 clear hK K
 refine norm_ (a' := ?_) ?_ ?_
 rotate_left
 ·show Act.put _ (some 27) _ = _
  simp only [Act.put, List.setIfInBounds_toArray, List.set_cons_zero, List.set_cons_succ, i64_w, i32_w]
  rfl
 refine puA HT_ 17 30 (bv 26 262143) ?_
 refine puA HT_ 18 31 (bv 26 524287) ?_
 refine puA HT_ 19 32 (bv 26 1048575) ?_
 refine puA HT_ 22 35 (bv 26 5242879) ?_
 refine taA HT_ HW_ hHeld 20 33 (bv 26 6291455) ?_
 refine one_ (i := 21) (N := some 34) #[true, true, true, true, true, true, true, true, true, true, true, true, true, true, true, true, true, true, true, true, true, true, true, false, false, false] rfl rfl (one_of HT_.out (by kernel_rfl)) (by decide) (fun K hK => ?_)
 refine goes_ Tryz.func29 (by kernel_rfl) rfl #[.agg #[.int .i64 a0_0, .slice A0_1 l0_1.length c0_1, .slice A0_2 l0_2.length c0_2, .slice A0_3 l0_3.length c0_3]] (by rfl) rfl rfl (by (simp only [List.map_toArray, List.map_cons, List.map_nil]); rfl) ?_
 with_reducible refine (peristylelaw16_listed.calls k a0_0 _ _ l0_1 _ _ l0_2 _ _ l0_3 t598 _ ?side1 ?side2 ?side3 ?side4 ?side5 ?side6 A11.out).mono ?_
 (case side1 => exact cx (Kd.C_below HR0_1.out HB.out))
 (case side2 => exact HC0_1.out)
 (case side3 => exact cx (Kd.C_below HR0_2.out HB.out))
 (case side4 => exact HC0_2.out)
 (case side5 => exact cx (Kd.C_below HR0_3.out HB.out))
 (case side6 => exact HC0_3.out)
 rintro e w24 ⟨v599, rfl, ho0, hb⟩
 refine ⟨_, rfl, ?_⟩
 replace HO595 := rba HO595 hb
 have HO600 := Aside0.mk (Kd.R_lower (Kd.R_new' ho0 (Kd.R_lt (rx HO591.out))) (below_size (bh HB.out)))
 replace HO591 := Aside0.mk (Kd.R_elder' (rx HO591.out) (Kd.R_base ho0) hb)
 replace BK586 := bba BK586 hb
 replace BK587 := bba BK587 hb
 replace HB := bsa HB hb
 clear hb ho0
 obtain ⟨Ao25, co25, eo25⟩ := Kd.R_slice HO600.out
 (subst eo25)
 refine hK.out _ _ ⟨(blk_cell BK586.out 0).trans rfl, (blk_cell BK586.out 1).trans rfl, (blk_cell BK586.out 2).trans rfl, (blk_cell BK586.out 3).trans rfl, (blk_cell BK587.out 0).trans rfl, (blk_cell BK587.out 1).trans rfl⟩ (fun hHeld => ?_)
 clear hK K
 refine norm_ (a' := ?_) ?_ ?_
 rotate_left
 ·show Act.put _ (some 34) _ = _
  simp only [Act.put, List.setIfInBounds_toArray, List.set_cons_zero, List.set_cons_succ, i64_w, i32_w]
  rfl
 refine one_ (i := 23) (N := some 36) #[true, true, true, true, true, true, true, true, true, true, true, true, true, true, true, true, true, true, true, true, true, true, true, true, false, false] rfl rfl (one_of HT_.out (by kernel_rfl)) (by decide) (fun K hK => ?_)
 refine goes_ Tryz.func40 (by kernel_rfl) rfl #[.slice Ao25 t598.length co25, .slice Ao23 t588.length co23] (by rfl) rfl rfl (by (simp only [List.map_toArray, List.map_cons, List.map_nil]); rfl) ?_
 with_reducible refine (peristyleref01_Same.calls k _ _ t598 _ _ t588 t601 _ ?side1 ?side2 ?side3 ?side4 A12.out).mono ?_
 (case side1 => exact cx (Kd.R_reads' HO600.out).2.2)
 (case side2 => exact (Kd.R_reads' HO600.out).2.1)
 (case side3 => exact cx (Kd.R_reads' HO591.out).2.2)
 (case side4 => exact (Kd.R_reads' HO591.out).2.1)
 rintro e w' ⟨rfl, ⟨nd, rfl⟩⟩
 refine ⟨_, rfl, ?_⟩
 refine hK.out _ _ ⟨(blk_cell BK586.out 0).trans rfl, (blk_cell BK586.out 1).trans rfl, (blk_cell BK586.out 2).trans rfl, (blk_cell BK586.out 3).trans rfl, (blk_cell BK587.out 0).trans rfl, (blk_cell BK587.out 1).trans rfl⟩ (fun hHeld => ?_)
 clear hK K
 refine norm_ (a' := ?_) ?_ ?_
 rotate_left
 ·show Act.put _ (some 36) _ = _
  simp only [Act.put, List.setIfInBounds_toArray, List.set_cons_zero, List.set_cons_succ, i64_w, i32_w]
  rfl
 refine puA HT_ 24 37 (bv 26 33554431) ?_
 refine puA HT_ 25 4 (bv 26 67108863) ?_
 refine done_ (done_of HT_.out (by kernel_rfl)) ?_
 go_wp2
 go_ret
 exact ⟨er, bh HB.out⟩

end Go.Proofs.YtjgmdjieandemaaGreat.Print
end
section
namespace Go.Proofs.YtjgmdjieandemaaGreat.Print
open Go.RowKit Go.Proofs.YtjgmdjieandemaaGreatW.PrintWords Go.Proofs.YtjgmdjieandemaaGreatW.PrintLast Go.Proofs.YtjgmdjieandemaaGreatW.PrintMore
attribute [local go_sem] max2_int min2_int max_two min_two max_three min_three max_four min_four   -- for this text's walks alone
set_option linter.unusedVariables false
set_option linter.unusedSimpArgs false

/-! ### peristylelaw16_PoslistFrom: function 4 -/
mutual
def peristylelaw16_PoslistFrom.j0 : Nat → List Int → Int → Bool → Option (Bool)
 | 0, _, _, _ => none
 | k + 1, x0, x1, x24 => if x24 = true then ((peristylelaw16_awake.f k).bind fun t602 => (some t602)) else (peristylelaw16_PoslistFrom.l0 k x0 x1 0)
def peristylelaw16_PoslistFrom.l0 : Nat → List Int → Int → Int → Option (Bool)
 | 0, _, _, _ => none
 | k + 1, x0, x1, x5 => if x5 < (x0.length : Int) then (if 0 ≤ x5 then (if (rd x0 x5) ≥ 2048 then (if (rd x0 x5) < 65536 then ((peristylelaw16_awake.f k).bind fun t605 => (some t605)) else (peristylelaw16_PoslistFrom.l0 k x0 x1 (wrap64 (x5 + 1)))) else (peristylelaw16_PoslistFrom.l0 k x0 x1 (wrap64 (x5 + 1)))) else (none)) else ((poslist_From.f k x0).bind fun bt606 => ((peristyleref14_Of.f k x0).bind fun bt618 => (if bt606.2.2.2.2 = bt618.2 then ((peristyleref16_Of.f k bt618.1 0).bind fun bt622 => (if bt606.2.2.2.2 = 0 then ((peristylelaw16_is.f k bt606.1 bt606.2.1 bt606.2.2.1 bt606.2.2.2.1 bt622.1 bt622.2.1).bind fun t628 => (peristylelaw16_PoslistFrom.j2 k x1 (!t628))) else (peristylelaw16_PoslistFrom.j2 k x1 false))) else (some false))))
def peristylelaw16_PoslistFrom.j2 : Nat → Int → Bool → Option (Bool)
 | 0, _, _ => none
 | k + 1, x1, x70 => if x70 = true then (some false) else ((poslist_All.f k x1).bind fun bt629 => (if x1 < 0 then (peristylelaw16_PoslistFrom.j3 k x1 bt629.2.2.2.2 true bt629.1 bt629.2.1 bt629.2.2.1 bt629.2.2.2.1) else (peristylelaw16_PoslistFrom.j3 k x1 bt629.2.2.2.2 (decide (x1 > 65536)) bt629.1 bt629.2.1 bt629.2.2.1 bt629.2.2.2.1)))
def peristylelaw16_PoslistFrom.j3 : Nat → Int → Int → Bool → Int → List (S64) → List Int → List Int → Option (Bool)
 | 0, _, _, _, _, _, _, _ => none
 | k + 1, x1, x13, x81, x641000, x641001, x641002, x641003 => if x81 = true then (if x13 = 1 then ((peristylelaw16_awake.f k).bind fun t641 => (some t641)) else (none)) else (if x13 = 0 then ((poslist_List_Count.f k x641000 x641001 x641002 x641003).bind fun t642 => (if t642 = x1 then ((poslist_List_Spans.f k x641000 x641001 x641002 x641003).bind fun t643 => (if ((x1 == 0) == ((t643.length : Int) == 0)) = true then ((peristylelaw16_awake.f k).bind fun t646 => (some t646)) else (none))) else (none))) else (none))
end
def peristylelaw16_PoslistFrom.f (k : Nat) (l0 : List Int) (a1 : Int) : Option (Bool) := if (l0.length : Int) > 100 then (peristylelaw16_PoslistFrom.j0 k l0 a1 true) else (if a1 > 2048 then (peristylelaw16_PoslistFrom.j0 k l0 a1 (decide (a1 ≤ 65536))) else (peristylelaw16_PoslistFrom.j0 k l0 a1 false))
theorem peristylelaw16_PoslistFrom.j0_succ (k) (a0) (a1) (a2) : type_of% (@peristylelaw16_PoslistFrom.j0.eq_2 a0 a1 a2 k) := peristylelaw16_PoslistFrom.j0.eq_2 a0 a1 a2 k
theorem peristylelaw16_PoslistFrom.l0_succ (k) (a0) (a1) (a2) : type_of% (@peristylelaw16_PoslistFrom.l0.eq_2 a0 a1 a2 k) := peristylelaw16_PoslistFrom.l0.eq_2 a0 a1 a2 k
theorem peristylelaw16_PoslistFrom.j2_succ (k) (a0) (a1) : type_of% (@peristylelaw16_PoslistFrom.j2.eq_2 a0 a1 k) := peristylelaw16_PoslistFrom.j2.eq_2 a0 a1 k
theorem peristylelaw16_PoslistFrom.j3_succ (k) (a0) (a1) (a2) (a3) (a4) (a5) (a6) : type_of% (@peristylelaw16_PoslistFrom.j3.eq_2 a0 a1 a2 a3 a4 a5 a6 k) := peristylelaw16_PoslistFrom.j3.eq_2 a0 a1 a2 a3 a4 a5 a6 k
theorem peristylelaw16_PoslistFrom.mono_l : ∀ k, (∀ y0 y1 y2, LeO (peristylelaw16_PoslistFrom.j0 k y0 y1 y2) (peristylelaw16_PoslistFrom.j0 (k + 1) y0 y1 y2)) ∧ (∀ y0 y1 y2, LeO (peristylelaw16_PoslistFrom.l0 k y0 y1 y2) (peristylelaw16_PoslistFrom.l0 (k + 1) y0 y1 y2)) ∧ (∀ y0 y1, LeO (peristylelaw16_PoslistFrom.j2 k y0 y1) (peristylelaw16_PoslistFrom.j2 (k + 1) y0 y1)) ∧ (∀ y0 y1 y2 y3 y4 y5 y6, LeO (peristylelaw16_PoslistFrom.j3 k y0 y1 y2 y3 y4 y5 y6) (peristylelaw16_PoslistFrom.j3 (k + 1) y0 y1 y2 y3 y4 y5 y6))
 | 0 => ⟨fun _ _ _ r h => by simp [peristylelaw16_PoslistFrom.j0] at h, fun _ _ _ r h => by simp [peristylelaw16_PoslistFrom.l0] at h, fun _ _ r h => by simp [peristylelaw16_PoslistFrom.j2] at h, fun _ _ _ _ _ _ _ r h => by simp [peristylelaw16_PoslistFrom.j3] at h⟩
 | k + 1 => by
  obtain ⟨ih0, ih1, ih2, ih3⟩ := peristylelaw16_PoslistFrom.mono_l k
  refine ⟨?_, ?_, ?_, ?_⟩
  ·intro y0 y1 y2
   unfold peristylelaw16_PoslistFrom.j0
   repeat' first | (with_reducible exact ih1 _ _ _) | (with_reducible exact peristylelaw16_awake.mono _) | (with_reducible exact LeO.refl _) | (with_reducible refine LeO.ite ?_ ?_) | (with_reducible refine LeO.bind ?_ (fun _ => ?_))
  ·intro y0 y1 y2
   unfold peristylelaw16_PoslistFrom.l0
   repeat' first | (with_reducible exact ih1 _ _ _) | (with_reducible exact ih2 _ _) | (with_reducible exact peristylelaw16_awake.mono _) | (with_reducible exact peristylelaw16_is.mono _ _ _ _ _ _ _) | (with_reducible exact peristyleref14_Of.mono _ _) | (with_reducible exact peristyleref16_Of.mono _ _ _) | (with_reducible exact poslist_From.mono _ _) | (with_reducible exact LeO.refl _) | (with_reducible refine LeO.ite ?_ ?_) | (with_reducible refine LeO.bind ?_ (fun _ => ?_))
  ·intro y0 y1
   unfold peristylelaw16_PoslistFrom.j2
   repeat' first | (with_reducible exact ih3 _ _ _ _ _ _ _) | (with_reducible exact poslist_All.mono _ _) | (with_reducible exact LeO.refl _) | (with_reducible refine LeO.ite ?_ ?_) | (with_reducible refine LeO.bind ?_ (fun _ => ?_))
  ·intro y0 y1 y2 y3 y4 y5 y6
   unfold peristylelaw16_PoslistFrom.j3
   repeat' first | (with_reducible exact peristylelaw16_awake.mono _) | (with_reducible exact poslist_List_Count.mono _ _ _ _ _) | (with_reducible exact poslist_List_Spans.mono _ _ _ _ _) | (with_reducible exact LeO.refl _) | (with_reducible refine LeO.ite ?_ ?_) | (with_reducible refine LeO.bind ?_ (fun _ => ?_))
theorem peristylelaw16_PoslistFrom.mono : ∀ a0 a1 k, LeO (peristylelaw16_PoslistFrom.f k a0 a1) (peristylelaw16_PoslistFrom.f (k + 1) a0 a1) := by
 intro a0 a1 k
 obtain ⟨ih0, ih1, ih2, ih3⟩ := peristylelaw16_PoslistFrom.mono_l k
 unfold peristylelaw16_PoslistFrom.f
 repeat' first | (with_reducible exact ih0 _ _ _) | (with_reducible refine LeO.ite ?_ ?_)
set_option maxHeartbeats 8000000 in
set_option maxRecDepth 100000 in
theorem peristylelaw16_PoslistFrom.calls (k : Nat) (A0 : Option Addr) (c0 : Nat) (l0 : List Int) (a1 : Int) (r : Bool) (w : World) (hr0 : Kd.C (Kd.int .i64) w A0 l0.length l0) (hc0 : l0.length ≤ c0) (h : peristylelaw16_PoslistFrom.f k l0 a1 = some r) :
  Calls Tryz.prog 4 #[.slice A0 l0.length c0, .int .i64 a1] w fun e w' => e = .returned (.bool r) ∧ Below w.heap.size w w' := by
 have hu27 := Tryz.underlying27
 have hu32 := Tryz.underlying32
 have HR0 := Aside0.mk hr0
 have HC0 := Aside0.mk hc0
 clear hr0 hc0
 have HB := Aside0.mk (Below.refl w.heap.size w)
 have H := h
 clear h
 unfold peristylelaw16_PoslistFrom.f at H
 have HC3 := Aside0.mk H
 clear H
 go_enter Tryz.func4, Tryz.ntmps4
 go_upto_region 1 with (fail)
 go_cut [24] (fun v24 wc => ∃ (kq : Nat) (x24_2 : Bool), v24 = .bool x24_2 ∧ Aside0 (peristylelaw16_PoslistFrom.j0 kq l0 a1 x24_2 = some r) ∧ Aside0 (kq ≤ k) ∧ Aside0 (Below w.heap.size w wc))
 case first =>
  have H := HC3.out
  clear HC3
  replace H := ifd H
  rcases H with ⟨c4, c4b0, H⟩ | ⟨c4, c4b0, H⟩
  ·have c4b1 : decide (100 < l0.length) = true := decide_eq_true (by omega)
   clear c4
   (skip)
   have H' := Aside0.mk H
   clear H
   go_wp2
   go_meet
   case rel => exact ⟨_, (true), (by rfl), H', ⟨by omega⟩, ⟨bh HB.out⟩⟩
  ·have c4b1 : decide (100 < l0.length) = false := decide_eq_false (by omega)
   clear c4
   (skip)
   replace H := ifd H
   rcases H with ⟨-, c5b0, H⟩ | ⟨-, c5b0, H⟩
   ·have H' := Aside0.mk H
    clear H
    go_wp2
    go_meet
    case rel => exact ⟨_, (decide (a1 ≤ 65536)), (by rfl), H', ⟨by omega⟩, ⟨bh HB.out⟩⟩
   ·have H' := Aside0.mk H
    clear H
    go_wp2
    go_meet
    case rel => exact ⟨_, (false), (by rfl), H', ⟨by omega⟩, ⟨bh HB.out⟩⟩
 case rest =>
  clear HC3
  obtain ⟨kq, x24_2, rfl, HA, HJ2, HB⟩ := hcut
  cases kq with
  | zero => exact absurd HA.out (by simp [peristylelaw16_PoslistFrom.j0])
  | succ kj2 =>
   have H := HA.out
   clear HA
   simp only [peristylelaw16_PoslistFrom.j0] at H
   replace H := ifb H
   rcases H with ⟨rfl, H⟩ | ⟨rfl, H⟩
   ·replace H := bd H
    obtain ⟨t602, A7, H⟩ := H
    obtain rfl := Option.some.inj H
    go_wp2_with (((with_reducible refine gate_callee (f := 9) rfl ?_); refine gL 25 Tryz.func9 #[] ?_; (with_reducible refine (peristylelaw16_awake.calls kj2  t602 _ A7.out).mono ?_); rintro e w8 ⟨rfl, hb⟩; refine ⟨_, rfl, ?_⟩; replace HB := bsa HB hb; clear hb))
    go_ret
    exact ⟨er, bh HB.out⟩
   ·have H' := Aside0.mk H
    clear H
    go_wp2
    go_loopg [5] kj2 (fun kq v5 w' => ∃ (x5_2 : Int), v5 = .int .i64 x5_2 ∧ Aside0 (peristylelaw16_PoslistFrom.l0 kq l0 a1 x5_2 = some r) ∧ Aside0 (kq ≤ kj2) ∧ Aside0 (Below w.heap.size w w'))
    case atStart => exact ⟨(0), (by rfl), H', ⟨Nat.le_refl _⟩, ⟨bh HB.out⟩⟩
    case round =>
     clear H'
     obtain ⟨x5_2, rfl, HA, HK2, HB⟩ := hrel
     cases gk with
     | zero => exact absurd HA.out (by simp [peristylelaw16_PoslistFrom.l0])
     | succ k2 =>
      have H := HA.out
      clear HA
      simp only [peristylelaw16_PoslistFrom.l0] at H
      replace H := ifd H
      rcases H with ⟨-, c9b0, H⟩ | ⟨-, c9b0, H⟩
      ·replace H := ifn H
       obtain ⟨-, c10b0, H⟩ := H
       replace H := ifd H
       rcases H with ⟨-, c11b0, H⟩ | ⟨-, c11b0, H⟩
       ·replace H := ifd H
        rcases H with ⟨-, c12b0, H⟩ | ⟨-, c12b0, H⟩
        ·replace H := bd H
         obtain ⟨t605, A13, H⟩ := H
         obtain rfl := Option.some.inj H
         have p603 : 0 ≤ (x5_2 : Int) := ad
         have q603 : x5_2 < (l0.length : Int) := ad
         obtain ⟨ad603, e603, hx603_0⟩ := Kd.at_int HR0.out x5_2 p603 q603
         cases e603
         replace hx603_0 := cb HB.out.cell hx603_0
         replace p603 := eq_true p603
         replace q603 := eq_true q603
         have p604 : 0 ≤ (x5_2 : Int) := ad
         have q604 : x5_2 < (l0.length : Int) := ad
         obtain ⟨ad604, e604, hx604_0⟩ := Kd.at_int HR0.out x5_2 p604 q604
         obtain rfl : ad603 = ad604 := (by injection e604)
         replace hx604_0 := cb HB.out.cell hx604_0
         replace p604 := eq_true p604
         replace q604 := eq_true q604
         go_wp2_with (((with_reducible refine gate_callee (f := 9) rfl ?_); refine gL 44 Tryz.func9 #[] ?_; (with_reducible refine (peristylelaw16_awake.calls k2  t605 _ A13.out).mono ?_); rintro e w14 ⟨rfl, hb⟩; refine ⟨_, rfl, ?_⟩; replace HB := bsa HB hb; clear hb))
         go_ret
         exact ⟨er, bh HB.out⟩
        ·have H' := Aside0.mk H
         clear H
         have p603 : 0 ≤ (x5_2 : Int) := ad
         have q603 : x5_2 < (l0.length : Int) := ad
         obtain ⟨ad603, e603, hx603_0⟩ := Kd.at_int HR0.out x5_2 p603 q603
         cases e603
         replace hx603_0 := cb HB.out.cell hx603_0
         replace p603 := eq_true p603
         replace q603 := eq_true q603
         have p604 : 0 ≤ (x5_2 : Int) := ad
         have q604 : x5_2 < (l0.length : Int) := ad
         obtain ⟨ad604, e604, hx604_0⟩ := Kd.at_int HR0.out x5_2 p604 q604
         obtain rfl : ad603 = ad604 := (by injection e604)
         replace hx604_0 := cb HB.out.cell hx604_0
         replace p604 := eq_true p604
         replace q604 := eq_true q604
         go_wp2
         go_roundg k2
         case measure => have := HJ2.out; have := HK2.out; omega
         case rel => exact ⟨(wrap64 (x5_2 + 1)), (by rfl), H', ⟨by have := HJ2.out; have := HK2.out; omega⟩, ⟨bh HB.out⟩⟩
       ·have H' := Aside0.mk H
        clear H
        have p603 : 0 ≤ (x5_2 : Int) := ad
        have q603 : x5_2 < (l0.length : Int) := ad
        obtain ⟨ad603, e603, hx603_0⟩ := Kd.at_int HR0.out x5_2 p603 q603
        cases e603
        replace hx603_0 := cb HB.out.cell hx603_0
        replace p603 := eq_true p603
        replace q603 := eq_true q603
        go_wp2
        go_roundg k2
        case measure => have := HJ2.out; have := HK2.out; omega
        case rel => exact ⟨(wrap64 (x5_2 + 1)), (by rfl), H', ⟨by have := HJ2.out; have := HK2.out; omega⟩, ⟨bh HB.out⟩⟩
      ·replace H := bd H
       obtain ⟨⟨t606, t607, t610, t613, t616⟩, A15, H⟩ := H
       dsimp only at H
       replace H := bd H
       obtain ⟨⟨t618, t619⟩, A16, H⟩ := H
       dsimp only at H
       replace H := ife H
       rcases H with ⟨-, c17b0, c17b1, H⟩ | ⟨c17, c17b0, c17b1, H⟩
       ·replace H := bd H
        obtain ⟨⟨t622, t625, t626⟩, A18, H⟩ := H
        dsimp only at H
        have HC19 := Aside0.mk H
        clear H
        go_upto_region 13 with (first | ((with_reducible refine gate_callee (f := 16) rfl ?_); refine gL 47 Tryz.func16 #[.slice A0 l0.length c0] ?_; (with_reducible refine (poslist_From.calls k2 _ _ l0 t606 t607 t610 t613 t616 _ ?side1 ?side2 A15.out).mono ?_); (case side1 => exact cx (Kd.C_below HR0.out HB.out)); (case side2 => exact HC0.out); rintro e w20 ⟨v608, v611, v614, rfl, ho0, ho1, ho2, hb⟩; refine ⟨_, rfl, ?_⟩; have HO609 := Aside0.mk (Kd.R_lower ho0 (below_size (bh HB.out))); have HO612 := Aside0.mk (Kd.R_lower ho1 (below_size (bh HB.out))); have HO615 := Aside0.mk (Kd.R_lower ho2 (below_size (bh HB.out))); replace HB := bsa HB hb; clear hb ho0 ho1 ho2) | ((with_reducible refine gate_dst (N := 6) rfl ?_); ((refine gate_guard (by rfl) ?_; dsimp only)); refine box_event ?hg (N := 6) ?hd (cs := #[.int .i64 0, .slice none 0 0, .slice none 0 0, .slice none 0 0]) (t := 27) ?hr ?_; (case hd => rfl); (case hg => rfl); (case hr => (go_simp; done)); intro gb617 hg w21 hbox hb; replace HO609 := rba HO609 hb; replace HO612 := rba HO612 hb; replace HO615 := rba HO615 hb; have BK617 := Aside0.mk (hbox); have GW617 := bza HB hg; have GE617 := bza HB hg; replace HB := bsa HB hb; clear hb hbox hg; obtain ⟨hcz22_0, hcz22_1, hcz22_2, hcz22_3, hfz22_0, hfz22_1, hfz22_2, hfz22_3⟩ := b4 BK617; obtain ⟨Ao23, co23, eo23⟩ := Kd.R_slice HO609.out; subst eo23; obtain ⟨Ao24, co24, eo24⟩ := Kd.R_slice HO612.out; subst eo24; obtain ⟨Ao25, co25, eo25⟩ := Kd.R_slice HO615.out; subst eo25) | ((with_reducible refine gate_store (t := 27) (p := 6) rfl ?_); refine stE 27 6 ((((w21.setCell ⟨gb617, 0, none⟩ (.int .i64 t606)).setCell ⟨gb617, 1, none⟩ (.slice Ao23 t607.length co23)).setCell ⟨gb617, 2, none⟩ (.slice Ao24 t610.length co24)).setCell ⟨gb617, 3, none⟩ (.slice Ao25 t613.length co25)) ?_; intro w26 hw; replace HO609 := rsm (fun _ => True) HO609 hw (fun _ hk => trivial); replace HO612 := rst HO612 hw; replace HO615 := rst HO615 hw; replace BK617 := sps #[.int .i64 t606, .slice Ao23 t607.length co23, .slice Ao24 t610.length co24, .slice Ao25 t613.length co25] BK617 hw (.p (.p (.p (.p .nil)))); replace HB := bhw HB hw; clear hw) | ((with_reducible refine gate_callee (f := 17) rfl ?_); refine gL 52 Tryz.func17 #[.slice A0 l0.length c0] ?_; (with_reducible refine (peristyleref14_Of.calls k2 _ _ l0 t618 t619 _ ?side1 ?side2 A16.out).mono ?_); (case side1 => exact cx (Kd.C_below HR0.out HB.out)); (case side2 => exact HC0.out); rintro e w27 ⟨v620, rfl, ho0, hb⟩; refine ⟨_, rfl, ?_⟩; replace HO612 := rba HO612 hb; replace HO615 := rba HO615 hb; have HO621 := Aside0.mk (Kd.R_lower (Kd.R_new' ho0 (Kd.R_lt (rx HO609.out))) (below_size (bh HB.out))); replace HO609 := Aside0.mk (Kd.R_elder' (rx HO609.out) (Kd.R_base ho0) hb); replace BK617 := bba BK617 hb; replace HB := bsa HB hb; clear hb ho0; obtain ⟨Ao28, co28, eo28⟩ := Kd.R_slice HO621.out; subst eo28) | ((with_reducible refine gate_callee (f := 11) rfl ?_); refine gL 60 Tryz.func11 #[.slice Ao28 t618.length co28, .int .i64 0] ?_; (with_reducible refine (peristyleref16_Of.calls k2 (fun k_ => some k_ = (.slice Ao28 t618.length co28 : Value).ownBlock) _ _ t618 0 t622 t625 t626 _ ?side1 A18.out).mono ?_); (case side1 => exact Kd.R_V (Kd.R_tight rfl (Kd.R_types (Kd.R_apart' (Kd.R_apart' (HO621.out) (Kd.R_typed HO612.out) (by decide)) (Kd.R_typed HO615.out) (by decide)) BK617.out (by decide)))); rintro e w29 ⟨v623, rfl, ho0, hb⟩; refine ⟨_, rfl, ?_⟩; have HO624 := Aside0.mk (Kd.V_lower (Kd.V_mono (ok' := fun k_ => some k_ ≠ (.slice Ao23 t607.length co23 : Value).ownBlock ∧ some k_ ≠ (.slice Ao24 t610.length co24 : Value).ownBlock ∧ some k_ ≠ (.slice Ao25 t613.length co25 : Value).ownBlock ∧ k_ ≠ gb617) ho0 (fun k_ hk_ => ⟨Or.elim hk_ (fun hs_ => ((Kd.R_types (Kd.R_apart' (Kd.R_apart' (HO621.out) (Kd.R_typed HO612.out) (by decide)) (Kd.R_typed HO615.out) (by decide)) BK617.out (by decide)).1 k_ hs_.symm).1.1.1.2) (fun hn_ => (Kd.fresh' (Kd.R_lt (rx HO609.out)) k_ hn_)), Or.elim hk_ (fun hs_ => ((Kd.R_types (Kd.R_apart' (Kd.R_apart' (HO621.out) (Kd.R_typed HO612.out) (by decide)) (Kd.R_typed HO615.out) (by decide)) BK617.out (by decide)).1 k_ hs_.symm).1.1.2) (fun hn_ => (Kd.fresh' (Kd.R_lt (rx HO612.out)) k_ hn_)), Or.elim hk_ (fun hs_ => ((Kd.R_types (Kd.R_apart' (Kd.R_apart' (HO621.out) (Kd.R_typed HO612.out) (by decide)) (Kd.R_typed HO615.out) (by decide)) BK617.out (by decide)).1 k_ hs_.symm).1.2) (fun hn_ => (Kd.fresh' (Kd.R_lt (rx HO615.out)) k_ hn_)), Or.elim hk_ (fun hs_ => ((Kd.R_types (Kd.R_apart' (Kd.R_apart' (HO621.out) (Kd.R_typed HO612.out) (by decide)) (Kd.R_typed HO615.out) (by decide)) BK617.out (by decide)).1 k_ hs_.symm).2) (fun hn_ => (Kd.freshB (g := gb617) (o := .cells #[.int .i64 t606, .slice Ao23 t607.length co23, .slice Ao24 t610.length co24, .slice Ao25 t613.length co25] 27 (0, 0)) (bx BK617.out) k_ hn_))⟩)) (below_size (bh HB.out))); replace HO609 := rba HO609 hb; replace HO612 := rba HO612 hb; replace HO615 := rba HO615 hb; replace HO621 := rba HO621 hb; replace BK617 := bba BK617 hb; replace HB := bsa HB hb; clear hb ho0) | ((with_reducible refine gate_dst (N := 10) rfl ?_); ((refine gate_guard (by rfl) ?_; dsimp only)); refine box_event ?hg (N := 10) ?hd (cs := #[.slice none 0 0, .int .i64 0]) (t := 32) ?hr ?_; (case hd => rfl); (case hg => rfl); (case hr => (go_simp; done)); intro gb627 hg w30 hbox hb; replace HO609 := rba HO609 hb; replace HO612 := rba HO612 hb; replace HO615 := rba HO615 hb; replace HO621 := rba HO621 hb; replace HO624 := Aside0.mk (Kd.V_below (Kd.V_elderB (by exact HO624.out) gb627 (Nat.le_of_eq hg.symm)) hb); have BK627 := Aside0.mk (hbox); have GW627 := bza HB hg; have GE627 := bza HB hg; replace HB := bsa HB hb; obtain ⟨NB617_627, NB627_617⟩ := bnm BK617 hg; replace BK617 := bba BK617 hb; clear hb hbox hg; obtain ⟨Ao31, co31, eo31⟩ := Kd.V_slice HO624.out; subst eo31; have hnb32 := NB627_617.out; have hnc32 := NB617_627.out; obtain ⟨hcz33_0, hcz33_1, hfz33_0, hfz33_1⟩ := b2 BK627))
        go_cut [70] (fun v70 wc => ∃ (kq : Nat) (x70_18 : Bool), v70 = .bool x70_18 ∧ Aside0 (peristylelaw16_PoslistFrom.j2 kq a1 x70_18 = some r) ∧ Aside0 (kq ≤ k2) ∧ Aside0 (Kd.R k64 64 wc w.heap.size (fun _ => True) (.slice Ao23 t607.length co23) t607) ∧ Aside0 (Kd.R (Kd.int .i64) 3 wc w.heap.size (fun k_ => some k_ ≠ ((.slice Ao25 t613.length co25) : Value).ownBlock) (.slice Ao24 t610.length co24) t610) ∧ Aside0 (Kd.R (Kd.int .i64) 3 wc w.heap.size (fun k_ => some k_ ≠ ((.slice Ao24 t610.length co24) : Value).ownBlock) (.slice Ao25 t613.length co25) t613) ∧ Aside0 (Kd.V k64 64 wc w.heap.size (fun k_ => some k_ ≠ ((.slice Ao23 t607.length co23) : Value).ownBlock ∧ some k_ ≠ ((.slice Ao24 t610.length co24) : Value).ownBlock ∧ some k_ ≠ ((.slice Ao25 t613.length co25) : Value).ownBlock ∧ k_ ≠ gb617 ∧ k_ ≠ gb627) (.slice Ao31 t622.length co31) t622) ∧ Aside0 (wc.heap[gb617]? = some (.cells #[.int .i64 t606, (.slice Ao23 t607.length co23), (.slice Ao24 t610.length co24), (.slice Ao25 t613.length co25)] 27 (0, 0))) ∧ Aside0 (wc.heap[gb627]? = some (.cells #[(.slice Ao31 t622.length co31), .int .i64 t625] 32 (0, 0))) ∧ Aside0 (Below w.heap.size w wc))
        case first =>
         have H := HC19.out
         clear HC19
         replace H := ife H
         rcases H with ⟨-, c34b0, c34b1, H⟩ | ⟨c34, c34b0, c34b1, H⟩
         ·(skip)
          replace H := bd H
          obtain ⟨t628, A35, H⟩ := H
          have H' := Aside0.mk H
          clear H
          have hnb36 := NB617_627.out
          have hnc36 := NB627_617.out
          obtain ⟨hcz37_0, hcz37_1, hcz37_2, hcz37_3, hfz37_0, hfz37_1, hfz37_2, hfz37_3⟩ := b4 BK617
          obtain ⟨hcz38_0, hcz38_1, hfz38_0, hfz38_1⟩ := b2 BK627
          go_wp2_with ((go_at_call 13; (with_reducible refine (peristylelaw16_is.calls k2 t606 _ _ t607 _ _ t610 _ _ t613 _ _ t622 t625 t628 _ ?side1 ?side2 ?side3 ?side4 ?side5 ?side6 ?side7 ?side8 A35.out).mono ?_); (case side1 => refine (Kd.R_reads' (e := 64) (base := w.heap.size) (ok := fun k_ => (True ∧ some k_ ≠ (.slice Ao28 t618.length co28 : Value).ownBlock)) (n := t607.length) (c := co23) ?_).2.2; exact (by exact (Kd.R_mono (Kd.R_far (p := ⟨gb627, 1, none⟩) (Kd.R_far (p := ⟨gb627, 0, none⟩) (Kd.R_types HO609.out BK627.out (by decide)) (fun _ hk => hk.2) (.slice Ao31 t622.length co31)) (fun _ hk => hk.2) (.int .i64 t625)) (fun _ h_ => h_.1)))); (case side2 => exact (Kd.R_reads' HO609.out).2.1); (case side3 => refine (Kd.R_reads' (e := 3) (base := w.heap.size) (ok := fun k_ => some k_ ≠ (.slice Ao25 t613.length co25 : Value).ownBlock) (n := t610.length) (c := co24) ?_).2.2; exact (by exact (Kd.R_mono (Kd.R_far (p := ⟨gb627, 1, none⟩) (Kd.R_far (p := ⟨gb627, 0, none⟩) (Kd.R_types HO612.out BK627.out (by decide)) (fun _ hk => hk.2) (.slice Ao31 t622.length co31)) (fun _ hk => hk.2) (.int .i64 t625)) (fun _ h_ => h_.1)))); (case side4 => exact (Kd.R_reads' HO612.out).2.1); (case side5 => refine (Kd.R_reads' (e := 3) (base := w.heap.size) (ok := fun k_ => some k_ ≠ (.slice Ao24 t610.length co24 : Value).ownBlock) (n := t613.length) (c := co25) ?_).2.2; exact (by exact (Kd.R_mono (Kd.R_far (p := ⟨gb627, 1, none⟩) (Kd.R_far (p := ⟨gb627, 0, none⟩) (Kd.R_types HO615.out BK627.out (by decide)) (fun _ hk => hk.2) (.slice Ao31 t622.length co31)) (fun _ hk => hk.2) (.int .i64 t625)) (fun _ h_ => h_.1)))); (case side6 => exact (Kd.R_reads' HO615.out).2.1); (case side7 => refine (Kd.V_reads' (e := 64) (base := w.heap.size) (ok := fun k_ => ((some k_ ≠ (.slice Ao23 t607.length co23 : Value).ownBlock ∧ (some k_ ≠ (.slice Ao24 t610.length co24 : Value).ownBlock ∧ (some k_ ≠ (.slice Ao25 t613.length co25 : Value).ownBlock ∧ k_ ≠ gb617))) ∧ k_ ≠ gb627)) (n := t622.length) (c := co31) ?_).2.2; exact (by exact (Kd.V_mono (Kd.V_far (p := ⟨gb627, 1, none⟩) (Kd.V_far (p := ⟨gb627, 0, none⟩) (Kd.V_mono HO624.out (fun k_ hk => (⟨hk, hk.2⟩ : _ ∧ k_ ≠ gb627))) (fun _ hk => hk.2) (.slice Ao31 t622.length co31)) (fun _ hk => hk.2) (.int .i64 t625)) (fun _ h_ => h_.1)))); (case side8 => exact (Kd.V_reads' HO624.out).2.1); rintro e w39 ⟨rfl, hb⟩; replace HO609 := Aside0.mk (Kd.R_below (by exact (Kd.R_mono (Kd.R_far (p := ⟨gb627, 1, none⟩) (Kd.R_far (p := ⟨gb627, 0, none⟩) (Kd.R_types HO609.out BK627.out (by decide)) (fun _ hk => hk.2) (.slice Ao31 t622.length co31)) (fun _ hk => hk.2) (.int .i64 t625)) (fun _ h_ => h_.1))) hb); replace HO612 := Aside0.mk (Kd.R_below (by exact (Kd.R_mono (Kd.R_far (p := ⟨gb627, 1, none⟩) (Kd.R_far (p := ⟨gb627, 0, none⟩) (Kd.R_types HO612.out BK627.out (by decide)) (fun _ hk => hk.2) (.slice Ao31 t622.length co31)) (fun _ hk => hk.2) (.int .i64 t625)) (fun _ h_ => h_.1))) hb); replace HO615 := Aside0.mk (Kd.R_below (by exact (Kd.R_mono (Kd.R_far (p := ⟨gb627, 1, none⟩) (Kd.R_far (p := ⟨gb627, 0, none⟩) (Kd.R_types HO615.out BK627.out (by decide)) (fun _ hk => hk.2) (.slice Ao31 t622.length co31)) (fun _ hk => hk.2) (.int .i64 t625)) (fun _ h_ => h_.1))) hb); replace HO621 := Aside0.mk (Kd.R_below (by exact (Kd.R_mono (Kd.R_far (p := ⟨gb627, 1, none⟩) (Kd.R_far (p := ⟨gb627, 0, none⟩) (Kd.R_types HO621.out BK627.out (by decide)) (fun _ hk => hk.2) (.slice Ao31 t622.length co31)) (fun _ hk => hk.2) (.int .i64 t625)) (fun _ h_ => h_.1))) hb); replace HO624 := Aside0.mk (Kd.V_below (by exact (Kd.V_mono (Kd.V_far (p := ⟨gb627, 1, none⟩) (Kd.V_far (p := ⟨gb627, 0, none⟩) (Kd.V_mono HO624.out (fun k_ hk => (⟨hk, hk.2⟩ : _ ∧ k_ ≠ gb627))) (fun _ hk => hk.2) (.slice Ao31 t622.length co31)) (fun _ hk => hk.2) (.int .i64 t625)) (fun _ h_ => h_.1))) hb); replace BK617 := Aside0.mk (blk_below (g := gb617) (o := .cells #[.int .i64 t606, .slice Ao23 t607.length co23, .slice Ao24 t610.length co24, .slice Ao25 t613.length co25] 27 (0, 0)) (bx BK617.out) hb); replace BK627 := Aside0.mk (blk_below (g := gb627) (o := .cells #[.slice Ao31 t622.length co31, .int .i64 t625] 32 (0, 0)) (by refine blk_put (cs := #[.slice Ao31 t622.length co31, .int .i64 0]) ?_ 1 _ rfl; refine blk_put (cs := #[.slice none 0 0, .int .i64 0]) ?_ 0 _ rfl; exact BK627.out) hb); replace HB := bsa HB hb; clear hb A35))
          go_meet
          case rel => exact ⟨_, (!t628), (by rfl), H', ⟨by have := HJ2.out; have := HK2.out; omega⟩, ⟨by exact Kd.R_mono HO609.out (fun _ hk => trivial)⟩, ⟨by exact HO612.out⟩, ⟨by exact HO615.out⟩, ⟨by exact Kd.V_mono HO624.out (fun _ hk => ⟨hk.1.1, ⟨hk.1.2.1, ⟨hk.1.2.2.1, ⟨hk.1.2.2.2, hk.2⟩⟩⟩⟩)⟩, ⟨bx BK617.out⟩, ⟨bx BK627.out⟩, ⟨bh HB.out⟩⟩
         ·(skip)
          have H' := Aside0.mk H
          clear H
          go_wp2
          go_meet
          case rel => exact ⟨_, (false), (by rfl), H', ⟨by have := HJ2.out; have := HK2.out; omega⟩, ⟨by exact Kd.R_mono (Kd.R_far (p := ⟨gb627, 1, none⟩) (Kd.R_far (p := ⟨gb627, 0, none⟩) (Kd.R_types HO609.out BK627.out (by decide)) (fun _ hk => hk.2) (.slice Ao31 t622.length co31)) (fun _ hk => hk.2) (.int .i64 t625)) (fun _ hk => trivial)⟩, ⟨by exact Kd.R_mono (Kd.R_far (p := ⟨gb627, 1, none⟩) (Kd.R_far (p := ⟨gb627, 0, none⟩) (Kd.R_types HO612.out BK627.out (by decide)) (fun _ hk => hk.2) (.slice Ao31 t622.length co31)) (fun _ hk => hk.2) (.int .i64 t625)) (fun _ hk => hk.1)⟩, ⟨by exact Kd.R_mono (Kd.R_far (p := ⟨gb627, 1, none⟩) (Kd.R_far (p := ⟨gb627, 0, none⟩) (Kd.R_types HO615.out BK627.out (by decide)) (fun _ hk => hk.2) (.slice Ao31 t622.length co31)) (fun _ hk => hk.2) (.int .i64 t625)) (fun _ hk => hk.1)⟩, ⟨by exact Kd.V_mono (Kd.V_far (p := ⟨gb627, 1, none⟩) (Kd.V_far (p := ⟨gb627, 0, none⟩) (Kd.V_mono HO624.out (fun k_ hk => (⟨hk, hk.2⟩ : _ ∧ k_ ≠ gb627))) (fun _ hk => hk.2) (.slice Ao31 t622.length co31)) (fun _ hk => hk.2) (.int .i64 t625)) (fun _ hk => ⟨hk.1.1.1, ⟨hk.1.1.2.1, ⟨hk.1.1.2.2.1, ⟨hk.1.1.2.2.2, hk.1.2⟩⟩⟩⟩)⟩, ⟨bx BK617.out⟩, ⟨by refine blk_put (cs := #[.slice Ao31 t622.length co31, .int .i64 0]) ?_ 1 _ rfl; refine blk_put (cs := #[.slice none 0 0, .int .i64 0]) ?_ 0 _ rfl; exact BK627.out⟩, ⟨bh HB.out⟩⟩
        case rest =>
         clear HC19 c9b0 c17b0 c17b1 hcz22_0 hcz22_1 hcz22_2 hcz22_3 hcz33_0 hcz33_1 hfz22_0 hfz22_1 hfz22_2 hfz22_3 hfz33_0 hfz33_1
         obtain ⟨kq, x70_18, rfl, HA, HJ18, HO_618001, HO_618002, HO_618003, HO_628000, BK617, BK627, HB⟩ := hcut
         cases kq with
         | zero => exact absurd HA.out (by simp [peristylelaw16_PoslistFrom.j2])
         | succ kj18 =>
          have H := HA.out
          clear HA
          simp only [peristylelaw16_PoslistFrom.j2] at H
          replace H := ifb H
          rcases H with ⟨rfl, H⟩ | ⟨rfl, H⟩
          ·obtain rfl := Option.some.inj H
           go_wp2
           go_ret
           exact ⟨er, bh HB.out⟩
          ·replace H := bd H
           obtain ⟨⟨t629, t630, t633, t636, t639⟩, A41, H⟩ := H
           dsimp only at H
           have HC42 := Aside0.mk H
           clear H
           go_upto_region 16 with (first | ((with_reducible refine gate_callee (f := 18) rfl ?_); refine gL 73 Tryz.func18 #[.int .i64 a1] ?_; (with_reducible refine (poslist_All.calls kj18 a1 t629 t630 t633 t636 t639 _ A41.out).mono ?_); rintro e w43 ⟨v631, v634, v637, rfl, ho0, ho1, ho2, hb⟩; refine ⟨_, rfl, ?_⟩; replace HO_628000 := Aside0.mk (Kd.V_mono (Kd.V_told (Kd.V_told (Kd.V_told (Kd.V_old (by exact HO_628000.out) hb) (Kd.R_base ho0)) (Kd.R_base ho1)) (Kd.R_base ho2)) (fun _ h_ => h_.1)); have HO632 := Aside0.mk (Kd.R_lower (Kd.R_new' ho0 (Kd.R_lt (rx HO_618001.out))) (below_size (bh HB.out))); replace HO_618001 := Aside0.mk (Kd.R_elder' (rx HO_618001.out) (Kd.R_base ho0) hb); have HO635 := Aside0.mk (Kd.R_lower (Kd.R_new' (Kd.R_new' ho1 (Kd.R_lt (rx HO_618002.out))) (Kd.R_lt (rx HO_618003.out))) (below_size (bh HB.out))); have HO638 := Aside0.mk (Kd.R_lower (Kd.R_new' (Kd.R_new' ho2 (Kd.R_lt (rx HO_618002.out))) (Kd.R_lt (rx HO_618003.out))) (below_size (bh HB.out))); replace HO_618002 := Aside0.mk (Kd.R_mono (Kd.R_told (Kd.R_told (Kd.R_old (rx HO_618002.out) hb) (Kd.R_base ho1)) (Kd.R_base ho2)) (fun _ h_ => h_.1)); replace HO_618003 := Aside0.mk (Kd.R_mono (Kd.R_told (Kd.R_told (Kd.R_old (rx HO_618003.out) hb) (Kd.R_base ho1)) (Kd.R_base ho2)) (fun _ h_ => h_.1)); replace BK617 := bba BK617 hb; replace BK627 := bba BK627 hb; replace HB := bsa HB hb; clear hb ho0 ho1 ho2) | ((with_reducible refine gate_dst (N := 12) rfl ?_); ((refine gate_guard (by rfl) ?_; dsimp only)); refine box_event ?hg (N := 12) ?hd (cs := #[.int .i64 0, .slice none 0 0, .slice none 0 0, .slice none 0 0]) (t := 27) ?hr ?_; (case hd => rfl); (case hg => rfl); (case hr => (go_simp; done)); intro gb640 hg w44 hbox hb; replace HO_618001 := rba HO_618001 hb; replace HO_618002 := rba HO_618002 hb; replace HO_618003 := rba HO_618003 hb; replace HO_628000 := Aside0.mk (Kd.V_below (Kd.V_elderB (by exact HO_628000.out) gb640 (Nat.le_of_eq hg.symm)) hb); replace HO632 := rba HO632 hb; replace HO635 := rba HO635 hb; replace HO638 := rba HO638 hb; have BK640 := Aside0.mk (hbox); have GW640 := bza HB hg; have GE640 := bza HB hg; replace HB := bsa HB hb; obtain ⟨NB617_640, NB640_617⟩ := bnm BK617 hg; replace BK617 := bba BK617 hb; obtain ⟨NB627_640, NB640_627⟩ := bnm BK627 hg; replace BK627 := bba BK627 hb; clear hb hbox hg; have hnb45 := NB640_617.out; have hnc45 := NB617_640.out; have hnb46 := NB640_627.out; have hnc46 := NB627_640.out; obtain ⟨hcz47_0, hcz47_1, hcz47_2, hcz47_3, hfz47_0, hfz47_1, hfz47_2, hfz47_3⟩ := b4 BK640; obtain ⟨Ao48, co48, eo48⟩ := Kd.R_slice HO632.out; subst eo48; obtain ⟨Ao49, co49, eo49⟩ := Kd.R_slice HO635.out; subst eo49; obtain ⟨Ao50, co50, eo50⟩ := Kd.R_slice HO638.out; subst eo50) | ((with_reducible refine gate_store (t := 27) (p := 12) rfl ?_); refine stE 27 12 ((((w44.setCell ⟨gb640, 0, none⟩ (.int .i64 t629)).setCell ⟨gb640, 1, none⟩ (.slice Ao48 t630.length co48)).setCell ⟨gb640, 2, none⟩ (.slice Ao49 t633.length co49)).setCell ⟨gb640, 3, none⟩ (.slice Ao50 t636.length co50)) ?_; intro w51 hw; have n0_ := rsm (fun k_ => some k_ ≠ (.slice Ao48 t630.length co48 : Value).ownBlock) HO_618001 hw (fun _ hk => hk.2); have n1_ := rsm (fun k_ => some k_ ≠ (.slice Ao25 t613.length co25 : Value).ownBlock ∧ some k_ ≠ (.slice Ao49 t633.length co49 : Value).ownBlock ∧ some k_ ≠ (.slice Ao50 t636.length co50 : Value).ownBlock) HO_618002 hw (fun _ hk => ⟨hk.1.1, ⟨hk.1.2, hk.2⟩⟩); have n2_ := rsm (fun k_ => some k_ ≠ (.slice Ao24 t610.length co24 : Value).ownBlock ∧ some k_ ≠ (.slice Ao49 t633.length co49 : Value).ownBlock ∧ some k_ ≠ (.slice Ao50 t636.length co50 : Value).ownBlock) HO_618003 hw (fun _ hk => ⟨hk.1.1, ⟨hk.1.2, hk.2⟩⟩); have n3_ : Aside0 (Kd.V k64 64 w51 w.heap.size (fun k_ => some k_ ≠ (.slice Ao23 t607.length co23 : Value).ownBlock ∧ some k_ ≠ (.slice Ao24 t610.length co24 : Value).ownBlock ∧ some k_ ≠ (.slice Ao25 t613.length co25 : Value).ownBlock ∧ some k_ ≠ (.slice Ao48 t630.length co48 : Value).ownBlock ∧ some k_ ≠ (.slice Ao49 t633.length co49 : Value).ownBlock ∧ some k_ ≠ (.slice Ao50 t636.length co50 : Value).ownBlock ∧ k_ ≠ gb617 ∧ k_ ≠ gb627 ∧ k_ ≠ gb640) (.slice Ao31 t622.length co31) t622) := ⟨(by rw [hw]; exact (by exact Kd.V_mono (Kd.V_far (p := ⟨gb640, 3, none⟩) (Kd.V_far (p := ⟨gb640, 2, none⟩) (Kd.V_far (p := ⟨gb640, 1, none⟩) (Kd.V_far (p := ⟨gb640, 0, none⟩) (Kd.V_mono HO_628000.out (fun k_ hk => (⟨hk, hk.2⟩ : _ ∧ k_ ≠ gb640))) (fun _ hk => hk.2) (.int .i64 t629)) (fun _ hk => hk.2) (.slice Ao48 t630.length co48)) (fun _ hk => hk.2) (.slice Ao49 t633.length co49)) (fun _ hk => hk.2) (.slice Ao50 t636.length co50)) (fun _ hk => ⟨hk.1.1.1.1.1.1, ⟨hk.1.1.1.1.1.2.1, ⟨hk.1.1.1.1.1.2.2.1, ⟨hk.1.1.1.1.2, ⟨hk.1.1.1.2, ⟨hk.1.1.2, ⟨hk.1.1.1.1.1.2.2.2.1, ⟨hk.1.1.1.1.1.2.2.2.2, hk.1.2⟩⟩⟩⟩⟩⟩⟩⟩)))⟩; have n4_ := rsm (fun k_ => some k_ ≠ (.slice Ao23 t607.length co23 : Value).ownBlock) HO632 hw (fun _ hk => hk.2); have n5_ := rsm (fun k_ => some k_ ≠ (.slice Ao24 t610.length co24 : Value).ownBlock ∧ some k_ ≠ (.slice Ao25 t613.length co25 : Value).ownBlock ∧ some k_ ≠ (.slice Ao50 t636.length co50 : Value).ownBlock) HO635 hw (fun _ hk => ⟨hk.1.2, ⟨hk.2, hk.1.1⟩⟩); have n6_ := rsm (fun k_ => some k_ ≠ (.slice Ao24 t610.length co24 : Value).ownBlock ∧ some k_ ≠ (.slice Ao25 t613.length co25 : Value).ownBlock ∧ some k_ ≠ (.slice Ao49 t633.length co49 : Value).ownBlock) HO638 hw (fun _ hk => ⟨hk.1.2, ⟨hk.2, hk.1.1⟩⟩); have n7_ : Aside0 (w51.heap[gb617]? = some (.cells #[.int .i64 t606, .slice Ao23 t607.length co23, .slice Ao24 t610.length co24, .slice Ao25 t613.length co25] 27 (0, 0))) := ⟨(by rw [hw]; exact (bx BK617.out))⟩; have n8_ : Aside0 (w51.heap[gb627]? = some (.cells #[.slice Ao31 t622.length co31, .int .i64 t625] 32 (0, 0))) := ⟨(by rw [hw]; exact (bx BK627.out))⟩; have n9_ := sps #[.int .i64 t629, .slice Ao48 t630.length co48, .slice Ao49 t633.length co49, .slice Ao50 t636.length co50] BK640 hw (.p (.p (.p (.p .nil)))); have n10_ := bhw HB hw; clear hw HO_618001 HO_618002 HO_618003 HO_628000 HO632 HO635 HO638 BK617 BK627 BK640 HB; have HO_618001 := n0_; have HO_618002 := n1_; have HO_618003 := n2_; have HO_628000 := n3_; have HO632 := n4_; have HO635 := n5_; have HO638 := n6_; have BK617 := n7_; have BK627 := n8_; have BK640 := n9_; have HB := n10_; clear n0_ n1_ n2_ n3_ n4_ n5_ n6_ n7_ n8_ n9_ n10_))
           go_cut [81] (fun v81 wc => ∃ (kq : Nat) (x81_41 : Bool), v81 = .bool x81_41 ∧ Aside0 (peristylelaw16_PoslistFrom.j3 kq a1 t639 x81_41 t629 t630 t633 t636 = some r) ∧ Aside0 (kq ≤ kj18) ∧ Aside0 (Kd.R k64 64 wc w.heap.size (fun k_ => some k_ ≠ ((.slice Ao48 t630.length co48) : Value).ownBlock) (.slice Ao23 t607.length co23) t607) ∧ Aside0 (Kd.R (Kd.int .i64) 3 wc w.heap.size (fun k_ => some k_ ≠ ((.slice Ao25 t613.length co25) : Value).ownBlock ∧ some k_ ≠ ((.slice Ao49 t633.length co49) : Value).ownBlock ∧ some k_ ≠ ((.slice Ao50 t636.length co50) : Value).ownBlock) (.slice Ao24 t610.length co24) t610) ∧ Aside0 (Kd.R (Kd.int .i64) 3 wc w.heap.size (fun k_ => some k_ ≠ ((.slice Ao24 t610.length co24) : Value).ownBlock ∧ some k_ ≠ ((.slice Ao49 t633.length co49) : Value).ownBlock ∧ some k_ ≠ ((.slice Ao50 t636.length co50) : Value).ownBlock) (.slice Ao25 t613.length co25) t613) ∧ Aside0 (Kd.V k64 64 wc w.heap.size (fun k_ => some k_ ≠ ((.slice Ao23 t607.length co23) : Value).ownBlock ∧ some k_ ≠ ((.slice Ao24 t610.length co24) : Value).ownBlock ∧ some k_ ≠ ((.slice Ao25 t613.length co25) : Value).ownBlock ∧ some k_ ≠ ((.slice Ao48 t630.length co48) : Value).ownBlock ∧ some k_ ≠ ((.slice Ao49 t633.length co49) : Value).ownBlock ∧ some k_ ≠ ((.slice Ao50 t636.length co50) : Value).ownBlock ∧ k_ ≠ gb617 ∧ k_ ≠ gb627 ∧ k_ ≠ gb640) (.slice Ao31 t622.length co31) t622) ∧ Aside0 (Kd.R k64 64 wc w.heap.size (fun k_ => some k_ ≠ ((.slice Ao23 t607.length co23) : Value).ownBlock) (.slice Ao48 t630.length co48) t630) ∧ Aside0 (Kd.R (Kd.int .i64) 3 wc w.heap.size (fun k_ => some k_ ≠ ((.slice Ao24 t610.length co24) : Value).ownBlock ∧ some k_ ≠ ((.slice Ao25 t613.length co25) : Value).ownBlock ∧ some k_ ≠ ((.slice Ao50 t636.length co50) : Value).ownBlock) (.slice Ao49 t633.length co49) t633) ∧ Aside0 (Kd.R (Kd.int .i64) 3 wc w.heap.size (fun k_ => some k_ ≠ ((.slice Ao24 t610.length co24) : Value).ownBlock ∧ some k_ ≠ ((.slice Ao25 t613.length co25) : Value).ownBlock ∧ some k_ ≠ ((.slice Ao49 t633.length co49) : Value).ownBlock) (.slice Ao50 t636.length co50) t636) ∧ Aside0 (wc.heap[gb617]? = some (.cells #[.int .i64 t606, (.slice Ao23 t607.length co23), (.slice Ao24 t610.length co24), (.slice Ao25 t613.length co25)] 27 (0, 0))) ∧ Aside0 (wc.heap[gb627]? = some (.cells #[(.slice Ao31 t622.length co31), .int .i64 t625] 32 (0, 0))) ∧ Aside0 (wc.heap[gb640]? = some (.cells #[.int .i64 t629, (.slice Ao48 t630.length co48), (.slice Ao49 t633.length co49), (.slice Ao50 t636.length co50)] 27 (0, 0))) ∧ Aside0 (Below w.heap.size w wc))
           case first =>
            have H := HC42.out
            clear HC42
            replace H := ifd H
            rcases H with ⟨-, c52b0, H⟩ | ⟨-, c52b0, H⟩
            ·(skip)
             have H' := Aside0.mk H
             clear H
             go_wp2
             go_meet
             case rel => exact ⟨_, (true), (by rfl), H', ⟨by have := HJ2.out; have := HK2.out; have := HJ18.out; omega⟩, ⟨by exact HO_618001.out⟩, ⟨by exact HO_618002.out⟩, ⟨by exact HO_618003.out⟩, ⟨by exact HO_628000.out⟩, ⟨by exact HO632.out⟩, ⟨by exact HO635.out⟩, ⟨by exact HO638.out⟩, ⟨bx BK617.out⟩, ⟨bx BK627.out⟩, ⟨bx BK640.out⟩, ⟨bh HB.out⟩⟩
            ·(skip)
             have H' := Aside0.mk H
             clear H
             go_wp2
             go_meet
             case rel => exact ⟨_, (decide (a1 > 65536)), (by rfl), H', ⟨by have := HJ2.out; have := HK2.out; have := HJ18.out; omega⟩, ⟨by exact HO_618001.out⟩, ⟨by exact HO_618002.out⟩, ⟨by exact HO_618003.out⟩, ⟨by exact HO_628000.out⟩, ⟨by exact HO632.out⟩, ⟨by exact HO635.out⟩, ⟨by exact HO638.out⟩, ⟨bx BK617.out⟩, ⟨bx BK627.out⟩, ⟨bx BK640.out⟩, ⟨bh HB.out⟩⟩
           case rest =>
            clear HC42 hcz47_0 hcz47_1 hcz47_2 hcz47_3 hfz47_0 hfz47_1 hfz47_2 hfz47_3
            obtain ⟨kq, x81_41, rfl, HA, HJ41, HO_618001, HO_618002, HO_618003, HO_628000, HO_641001, HO_641002, HO_641003, BK617, BK627, BK640, HB⟩ := hcut
            cases kq with
            | zero => exact absurd HA.out (by simp [peristylelaw16_PoslistFrom.j3])
            | succ kj41 =>
             have H := HA.out
             clear HA
             simp only [peristylelaw16_PoslistFrom.j3] at H
             replace H := ifb H
             rcases H with ⟨rfl, H⟩ | ⟨rfl, H⟩
             ·replace H := ife H
              rcases H with ⟨-, c54b0, c54b1, H⟩ | ⟨-, -, -, ⟨⟩⟩
              replace H := bd H
              obtain ⟨t641, A55, H⟩ := H
              obtain rfl := Option.some.inj H
              go_wp2_with ((go_at_call 9; (with_reducible refine (peristylelaw16_awake.calls kj41  t641 _ A55.out).mono ?_); rintro e w56 ⟨rfl, hb⟩; replace HO_618001 := rba HO_618001 hb; replace HO_618002 := rba HO_618002 hb; replace HO_618003 := rba HO_618003 hb; replace HO_628000 := Aside0.mk (Kd.V_below (by exact HO_628000.out) hb); replace HO_641001 := rba HO_641001 hb; replace HO_641002 := rba HO_641002 hb; replace HO_641003 := rba HO_641003 hb; replace BK617 := bba BK617 hb; replace BK627 := bba BK627 hb; replace BK640 := bba BK640 hb; replace HB := bsa HB hb; clear hb A55))
              go_ret
              exact ⟨er, bh HB.out⟩
             ·replace H := ife H
              rcases H with ⟨-, c57b0, c57b1, H⟩ | ⟨-, -, -, ⟨⟩⟩
              replace H := bd H
              obtain ⟨t642, A58, H⟩ := H
              replace H := ife H
              rcases H with ⟨-, c59b0, c59b1, H⟩ | ⟨-, -, -, ⟨⟩⟩
              replace H := bd H
              obtain ⟨t643, A60, H⟩ := H
              replace H := ifn H
              obtain ⟨c61, -, H⟩ := H
              have c61b0 : ((a1 == 0) == ((t643.length : Int) == 0)) = true := c61
              ((have c61b1 : decide ((a1 == 0) = ((t643.length : Int) == 0)) = true := by simpa using c61))
              ((have c61b2 : ((a1 == 0) == ((t643.length : Int) == 0)) = true := by simpa using c61))
              clear c61
              replace H := bd H
              obtain ⟨t646, A62, H⟩ := H
              obtain rfl := Option.some.inj H
              have hnb63 := NB640_617.out
              have hnc63 := NB617_640.out
              have hnb64 := NB640_627.out
              have hnc64 := NB627_640.out
              obtain ⟨hcz65_0, hcz65_1, hcz65_2, hcz65_3, hfz65_0, hfz65_1, hfz65_2, hfz65_3⟩ := b4 BK640
              go_wp2_with (first | (go_at_call 19; (with_reducible refine (poslist_List_Count.calls kj41 t629 _ _ t630 _ _ t633 _ _ t636 t642 _ ?side1 ?side2 ?side3 ?side4 ?side5 ?side6 A58.out).mono ?_); (case side1 => exact cx (Kd.R_reads' HO_641001.out).2.2); (case side2 => exact (Kd.R_reads' HO_641001.out).2.1); (case side3 => exact cx (Kd.R_reads' HO_641002.out).2.2); (case side4 => exact (Kd.R_reads' HO_641002.out).2.1); (case side5 => exact cx (Kd.R_reads' HO_641003.out).2.2); (case side6 => exact (Kd.R_reads' HO_641003.out).2.1); rintro e w66 ⟨rfl, hb⟩; replace HO_618001 := rba HO_618001 hb; replace HO_618002 := rba HO_618002 hb; replace HO_618003 := rba HO_618003 hb; replace HO_628000 := Aside0.mk (Kd.V_below (by exact HO_628000.out) hb); replace HO_641001 := rba HO_641001 hb; replace HO_641002 := rba HO_641002 hb; replace HO_641003 := rba HO_641003 hb; replace BK617 := bba BK617 hb; replace BK627 := bba BK627 hb; replace BK640 := bba BK640 hb; replace HB := bsa HB hb; clear hb A58; obtain ⟨hcz67_0, hcz67_1, hcz67_2, hcz67_3, hfz67_0, hfz67_1, hfz67_2, hfz67_3⟩ := b4 BK640) | (go_at_call 20; (with_reducible refine (poslist_List_Spans.calls kj41 t629 _ _ t630 _ _ t633 _ _ t636 t643 _ ?side1 ?side2 ?side3 ?side4 ?side5 ?side6 A60.out).mono ?_); (case side1 => exact cx (Kd.R_reads' HO_641001.out).2.2); (case side2 => exact (Kd.R_reads' HO_641001.out).2.1); (case side3 => exact cx (Kd.R_reads' HO_641002.out).2.2); (case side4 => exact (Kd.R_reads' HO_641002.out).2.1); (case side5 => exact cx (Kd.R_reads' HO_641003.out).2.2); (case side6 => exact (Kd.R_reads' HO_641003.out).2.1); rintro e w68 ⟨v644, rfl, ho0, hb⟩; replace HO_618002 := rba HO_618002 hb; replace HO_618003 := rba HO_618003 hb; replace HO_628000 := Aside0.mk (Kd.V_elder' (by exact HO_628000.out) (Kd.R_base ho0) hb); replace HO_641002 := rba HO_641002 hb; replace HO_641003 := rba HO_641003 hb; have HO645 := Aside0.mk (Kd.R_lower (Kd.R_new' (Kd.R_new' ho0 (Kd.R_lt (rx HO_618001.out))) (Kd.R_lt (rx HO_641001.out))) (below_size (bh HB.out))); replace HO_618001 := Aside0.mk (Kd.R_elder' (rx HO_618001.out) (Kd.R_base ho0) hb); replace HO_641001 := Aside0.mk (Kd.R_elder' (rx HO_641001.out) (Kd.R_base ho0) hb); replace BK617 := bba BK617 hb; replace BK627 := bba BK627 hb; replace BK640 := bba BK640 hb; replace HB := bsa HB hb; clear hb ho0 A60; obtain ⟨Ao69, co69, eo69⟩ := Kd.R_slice HO645.out; subst eo69) | (go_at_call 9; (with_reducible refine (peristylelaw16_awake.calls kj41  t646 _ A62.out).mono ?_); rintro e w70 ⟨rfl, hb⟩; replace HO_618001 := rba HO_618001 hb; replace HO_618002 := rba HO_618002 hb; replace HO_618003 := rba HO_618003 hb; replace HO_628000 := Aside0.mk (Kd.V_below (by exact HO_628000.out) hb); replace HO_641001 := rba HO_641001 hb; replace HO_641002 := rba HO_641002 hb; replace HO_641003 := rba HO_641003 hb; replace HO645 := rba HO645 hb; replace BK617 := bba BK617 hb; replace BK627 := bba BK627 hb; replace BK640 := bba BK640 hb; replace HB := bsa HB hb; clear hb A62))
              go_ret
              exact ⟨er, bh HB.out⟩
       ·obtain rfl := Option.some.inj H
        go_wp2_with (first | ((with_reducible refine gate_callee (f := 16) rfl ?_); refine gL 47 Tryz.func16 #[.slice A0 l0.length c0] ?_; (with_reducible refine (poslist_From.calls k2 _ _ l0 t606 t607 t610 t613 t616 _ ?side1 ?side2 A15.out).mono ?_); (case side1 => exact cx (Kd.C_below HR0.out HB.out)); (case side2 => exact HC0.out); rintro e w71 ⟨v608, v611, v614, rfl, ho0, ho1, ho2, hb⟩; refine ⟨_, rfl, ?_⟩; have HO609 := Aside0.mk (Kd.R_lower ho0 (below_size (bh HB.out))); have HO612 := Aside0.mk (Kd.R_lower ho1 (below_size (bh HB.out))); have HO615 := Aside0.mk (Kd.R_lower ho2 (below_size (bh HB.out))); replace HB := bsa HB hb; clear hb ho0 ho1 ho2) | ((with_reducible refine gate_dst (N := 6) rfl ?_); ((refine gate_guard (by rfl) ?_; dsimp only)); refine box_event ?hg (N := 6) ?hd (cs := #[.int .i64 0, .slice none 0 0, .slice none 0 0, .slice none 0 0]) (t := 27) ?hr ?_; (case hd => rfl); (case hg => rfl); (case hr => (go_simp; done)); intro gb617 hg w72 hbox hb; replace HO609 := rba HO609 hb; replace HO612 := rba HO612 hb; replace HO615 := rba HO615 hb; have BK617 := Aside0.mk (hbox); have GW617 := bza HB hg; have GE617 := bza HB hg; replace HB := bsa HB hb; clear hb hbox hg; obtain ⟨hcz73_0, hcz73_1, hcz73_2, hcz73_3, hfz73_0, hfz73_1, hfz73_2, hfz73_3⟩ := b4 BK617; obtain ⟨Ao74, co74, eo74⟩ := Kd.R_slice HO609.out; subst eo74; obtain ⟨Ao75, co75, eo75⟩ := Kd.R_slice HO612.out; subst eo75; obtain ⟨Ao76, co76, eo76⟩ := Kd.R_slice HO615.out; subst eo76) | ((with_reducible refine gate_store (t := 27) (p := 6) rfl ?_); refine stE 27 6 ((((w72.setCell ⟨gb617, 0, none⟩ (.int .i64 t606)).setCell ⟨gb617, 1, none⟩ (.slice Ao74 t607.length co74)).setCell ⟨gb617, 2, none⟩ (.slice Ao75 t610.length co75)).setCell ⟨gb617, 3, none⟩ (.slice Ao76 t613.length co76)) ?_; intro w77 hw; replace HO609 := rsm (fun _ => True) HO609 hw (fun _ hk => trivial); replace HO612 := rst HO612 hw; replace HO615 := rst HO615 hw; replace BK617 := sps #[.int .i64 t606, .slice Ao74 t607.length co74, .slice Ao75 t610.length co75, .slice Ao76 t613.length co76] BK617 hw (.p (.p (.p (.p .nil)))); replace HB := bhw HB hw; clear hw) | ((with_reducible refine gate_callee (f := 17) rfl ?_); refine gL 52 Tryz.func17 #[.slice A0 l0.length c0] ?_; (with_reducible refine (peristyleref14_Of.calls k2 _ _ l0 t618 t619 _ ?side1 ?side2 A16.out).mono ?_); (case side1 => exact cx (Kd.C_below HR0.out HB.out)); (case side2 => exact HC0.out); rintro e w78 ⟨v620, rfl, ho0, hb⟩; refine ⟨_, rfl, ?_⟩; replace HO612 := rba HO612 hb; replace HO615 := rba HO615 hb; have HO621 := Aside0.mk (Kd.R_lower (Kd.R_new' ho0 (Kd.R_lt (rx HO609.out))) (below_size (bh HB.out))); replace HO609 := Aside0.mk (Kd.R_elder' (rx HO609.out) (Kd.R_base ho0) hb); replace BK617 := bba BK617 hb; replace HB := bsa HB hb; clear hb ho0))
        go_ret
        exact ⟨er, bh HB.out⟩

/-- THE ONE PURE STATEMENT of peristylelaw16_PoslistFrom: yours. -/
def peristylelaw16_PoslistFrom.Pure : Prop := ∀ (l0 : List Int) (a1 : Int), l0.length ≤ maxLen → l0.length * 8 ≤ 140737488351232 → (∀ x ∈ l0, (Lit.int .i64 x).wf = true) → (Lit.int .i64 a1).wf = true → ∃ k, peristylelaw16_PoslistFrom.f k l0 a1 = some true
theorem peristylelaw16_PoslistFrom.walk (P : peristylelaw16_PoslistFrom.Pure) (a0 : Option Addr) (len0 cap0 : Nat) (z0 : List Int) (a1 : Int) (w : World) (w0 : (a0 = none ∧ len0 = 0 ∧ cap0 = 0 ∧ z0 = []) ∨ ∃ x, a0 = some x ∧ len0 ≤ cap0 ∧ cap0 ≤ maxLen ∧ z0.length = cap0 ∧ (∀ i, i < z0.length → w.cell? (x.add i) = some (.int .i64 (z0.getD i 0))) ∧ ∀ n ∈ z0, (Lit.int .i64 n).wf = true) (y0 : len0 * 8 ≤ 140737488351232) (w1 : (Lit.int .i64 a1).wf = true) :
  Calls Tryz.prog 4 #[.slice a0 len0 cap0, .int .i64 a1] w fun e w' => e = .returned (.bool true) ∧ Below w.heap.size w w' := by
 obtain ⟨l0, rfl, hr0, hm0, hw0, hc0⟩ := ReadsInt.ofRowC w0
 obtain ⟨k, h⟩ := P l0 a1 hm0 y0 hw0 w1
 refine (peristylelaw16_PoslistFrom.calls k _ _ l0 a1 true w (Kd.C_of_reads (d := (0 : Int)) (h1 := fun _ => rfl) hr0) hc0 h).mono ?_
 rintro e w' ⟨rfl, hd⟩
 exact ⟨rfl, hd⟩

end Go.Proofs.YtjgmdjieandemaaGreat.Print
end
