-- Functions and laws: texts of the session's own and of the kit's print program, joined; what nothing names is left out.
import Derived.Test.YtfohecpfenegkaaTA
import Derived.Ground.NamesProg
import Derived.Lib.SortBridge
import Derived.Shelf.Slices.In.SortNone
import Derived.Shelf.Sort.Plain
import Derived.Sort.EveryDepth
import Derived.Sort.OwnSortedInts
section
namespace Go.Proofs.Ytfohecpfenegkaa.Print
open Go.RowKit Go.Proofs.YtfohecpfenegkaaW.PrintWords Go.Proofs.YtfohecpfenegkaaW.PrintLast Go.Proofs.YtfohecpfenegkaaW.PrintMore
attribute [local go_sem] max2_int min2_int max_two min_two max_three min_three max_four min_four   -- for this text's walks alone
set_option linter.unusedVariables false
set_option linter.unusedSimpArgs false
/-! ### peristyleref11_Texts: function 15 -/
mutual
def peristyleref11_Texts.l0 : Nat → List ByteArray → List ByteArray → Int → Option (List ByteArray × List Int)
 | 0, _, _, _ => none
 | k + 1, x0, x4, x6 => if x6 < (x0.length : Int) then (peristyleref11_Texts.l1 k x0 x4 x6 0) else (peristyleref11_Texts.l2 k x0 x4 ([] : List Int) 0)
def peristyleref11_Texts.l1 : Nat → List ByteArray → List ByteArray → Int → Int → Option (List ByteArray × List Int)
 | 0, _, _, _, _ => none
 | k + 1, x0, x4, x6, x7 => if x7 < (x4.length : Int) then (if 0 ≤ x7 then (if 0 ≤ x6 then (if x6 < (x0.length : Int) then (if (Op.bytesLess ((rdOf ByteArray.empty x4 x7).toList) ((rdOf ByteArray.empty x0 x6).toList)) = true then (peristyleref11_Texts.l1 k x0 x4 x6 (wrap64 (x7 + 1))) else (if (rdOf ByteArray.empty x4 x7).toList = (rdOf ByteArray.empty x0 x6).toList then (peristyleref11_Texts.l0 k x0 x4 (wrap64 (x6 + 1))) else (if x7 ≤ (x4.length : Int) then ((some (x4.take (x7 : Int).toNat : List ByteArray)).bind fun y412 => (if ([] : List ByteArray).length + y412.length < 8796093022208 then ((some (([] : List ByteArray) ++ y412 : List ByteArray)).bind fun y416 => (if y416.length < 8796093022208 then ((some (y416 ++ [rdOf ByteArray.empty x0 x6] : List ByteArray)).bind fun y420 => ((some (x4.drop (x7 : Int).toNat : List ByteArray)).bind fun y423 => (if y420.length + y423.length < 8796093022208 then (peristyleref11_Texts.l0 k x0 (y420 ++ y423) (wrap64 (x6 + 1))) else (none)))) else (none))) else (none))) else (none)))) else (none)) else (none)) else (none)) else (if 0 ≤ x7 then (if x7 ≤ (x4.length : Int) then ((some (x4.take (x7 : Int).toNat : List ByteArray)).bind fun y430 => (if ([] : List ByteArray).length + y430.length < 8796093022208 then ((some (([] : List ByteArray) ++ y430 : List ByteArray)).bind fun y434 => (if 0 ≤ x6 then (if x6 < (x0.length : Int) then (if y434.length < 8796093022208 then ((some (y434 ++ [rdOf ByteArray.empty x0 x6] : List ByteArray)).bind fun y438 => ((some (x4.drop (x7 : Int).toNat : List ByteArray)).bind fun y441 => (if y438.length + y441.length < 8796093022208 then (peristyleref11_Texts.l0 k x0 (y438 ++ y441) (wrap64 (x6 + 1))) else (none)))) else (none)) else (none)) else (none))) else (none))) else (none)) else (none))
def peristyleref11_Texts.l2 : Nat → List ByteArray → List ByteArray → List Int → Int → Option (List ByteArray × List Int)
 | 0, _, _, _, _ => none
 | k + 1, x0, x4, x5, x9 => if x9 < (x0.length : Int) then (peristyleref11_Texts.l3 k x0 x4 x5 x9 0) else (some (x4, x5))
def peristyleref11_Texts.l3 : Nat → List ByteArray → List ByteArray → List Int → Int → Int → Option (List ByteArray × List Int)
 | 0, _, _, _, _, _ => none
 | k + 1, x0, x4, x5, x9, x10 => if 0 ≤ x10 then (if x10 < (x4.length : Int) then (if 0 ≤ x9 then (if x9 < (x0.length : Int) then (if (rdOf ByteArray.empty x4 x10).toList = (rdOf ByteArray.empty x0 x9).toList then (if x5.length < 17592186044416 then (peristyleref11_Texts.l2 k x0 x4 (x5 ++ [x10]) (wrap64 (x9 + 1))) else (none)) else (peristyleref11_Texts.l3 k x0 x4 x5 x9 (wrap64 (x10 + 1)))) else (none)) else (none)) else (none)) else (none)
end
def peristyleref11_Texts.f (k : Nat) (l0 : List ByteArray) : Option (List ByteArray × List Int) := peristyleref11_Texts.l0 k l0 ([] : List ByteArray) 0
theorem peristyleref11_Texts.l0_succ (k : Nat) (x0 : List ByteArray) (x4 : List ByteArray) (x6 : Int) : peristyleref11_Texts.l0 (k + 1) x0 x4 x6 = (if x6 < (x0.length : Int) then (peristyleref11_Texts.l1 k x0 x4 x6 0) else (peristyleref11_Texts.l2 k x0 x4 ([] : List Int) 0)) := by
 simp only [peristyleref11_Texts.l0]
theorem peristyleref11_Texts.l1_succ (k : Nat) (x0 : List ByteArray) (x4 : List ByteArray) (x6 : Int) (x7 : Int) : peristyleref11_Texts.l1 (k + 1) x0 x4 x6 x7 = (if x7 < (x4.length : Int) then (if 0 ≤ x7 then (if 0 ≤ x6 then (if x6 < (x0.length : Int) then (if (Op.bytesLess ((rdOf ByteArray.empty x4 x7).toList) ((rdOf ByteArray.empty x0 x6).toList)) = true then (peristyleref11_Texts.l1 k x0 x4 x6 (wrap64 (x7 + 1))) else (if (rdOf ByteArray.empty x4 x7).toList = (rdOf ByteArray.empty x0 x6).toList then (peristyleref11_Texts.l0 k x0 x4 (wrap64 (x6 + 1))) else (if x7 ≤ (x4.length : Int) then ((some (x4.take (x7 : Int).toNat : List ByteArray)).bind fun y412 => (if ([] : List ByteArray).length + y412.length < 8796093022208 then ((some (([] : List ByteArray) ++ y412 : List ByteArray)).bind fun y416 => (if y416.length < 8796093022208 then ((some (y416 ++ [rdOf ByteArray.empty x0 x6] : List ByteArray)).bind fun y420 => ((some (x4.drop (x7 : Int).toNat : List ByteArray)).bind fun y423 => (if y420.length + y423.length < 8796093022208 then (peristyleref11_Texts.l0 k x0 (y420 ++ y423) (wrap64 (x6 + 1))) else (none)))) else (none))) else (none))) else (none)))) else (none)) else (none)) else (none)) else (if 0 ≤ x7 then (if x7 ≤ (x4.length : Int) then ((some (x4.take (x7 : Int).toNat : List ByteArray)).bind fun y430 => (if ([] : List ByteArray).length + y430.length < 8796093022208 then ((some (([] : List ByteArray) ++ y430 : List ByteArray)).bind fun y434 => (if 0 ≤ x6 then (if x6 < (x0.length : Int) then (if y434.length < 8796093022208 then ((some (y434 ++ [rdOf ByteArray.empty x0 x6] : List ByteArray)).bind fun y438 => ((some (x4.drop (x7 : Int).toNat : List ByteArray)).bind fun y441 => (if y438.length + y441.length < 8796093022208 then (peristyleref11_Texts.l0 k x0 (y438 ++ y441) (wrap64 (x6 + 1))) else (none)))) else (none)) else (none)) else (none))) else (none))) else (none)) else (none))) := by
 simp only [peristyleref11_Texts.l1]
theorem peristyleref11_Texts.l2_succ (k : Nat) (x0 : List ByteArray) (x4 : List ByteArray) (x5 : List Int) (x9 : Int) : peristyleref11_Texts.l2 (k + 1) x0 x4 x5 x9 = (if x9 < (x0.length : Int) then (peristyleref11_Texts.l3 k x0 x4 x5 x9 0) else (some (x4, x5))) := by
 simp only [peristyleref11_Texts.l2]
theorem peristyleref11_Texts.l3_succ (k : Nat) (x0 : List ByteArray) (x4 : List ByteArray) (x5 : List Int) (x9 : Int) (x10 : Int) : peristyleref11_Texts.l3 (k + 1) x0 x4 x5 x9 x10 = (if 0 ≤ x10 then (if x10 < (x4.length : Int) then (if 0 ≤ x9 then (if x9 < (x0.length : Int) then (if (rdOf ByteArray.empty x4 x10).toList = (rdOf ByteArray.empty x0 x9).toList then (if x5.length < 17592186044416 then (peristyleref11_Texts.l2 k x0 x4 (x5 ++ [x10]) (wrap64 (x9 + 1))) else (none)) else (peristyleref11_Texts.l3 k x0 x4 x5 x9 (wrap64 (x10 + 1)))) else (none)) else (none)) else (none)) else (none)) := by
 simp only [peristyleref11_Texts.l3]
set_option maxHeartbeats 8000000 in
set_option maxRecDepth 100000 in
theorem peristyleref11_Texts.calls (k : Nat) (A0 : Option Addr) (c0 : Nat) (l0 : List ByteArray) (r1 : List ByteArray) (r2 : List Int) (w : World) (hr0 : Kd.C Kd.string w A0 l0.length l0) (hc0 : l0.length ≤ c0) (h : peristyleref11_Texts.f k l0 = some (r1, r2)) :
  Calls Try.prog 15 #[.slice A0 l0.length c0] w fun e w' => ∃ v0_ v1_ : Value, e = .returned (.tuple #[v0_, v1_]) ∧ Kd.R Kd.string 9 w' w.heap.size (fun _ => True) v0_ r1 ∧ Kd.R (Kd.int .i64) 3 w' w.heap.size (fun _ => True) v1_ r2 ∧ Below w.heap.size w w' := by
 have HR0 := Aside0.mk hr0
 have HC0 := Aside0.mk hc0
 clear hr0 hc0
 have HB := Aside0.mk (Below.refl w.heap.size w)
 have H : (peristyleref11_Texts.l0 k l0 ([] : List ByteArray) 0) = some (r1, r2) := h
 clear h
 have H' := Aside0.mk H
 clear H
 go_enter Try.func15, Try.ntmps15
 go_wp2
 repeat (go_quiet (fail); try go_wp2)
 go_loopg [4, 6] k (fun kq v4 v6 w' => ∃ (x4_1 : List ByteArray) (x6_1 : Int), v6 = .int .i64 x6_1 ∧ Aside0 (peristyleref11_Texts.l0 kq l0 x4_1 x6_1 = some (r1, r2)) ∧ Aside0 (kq ≤ k) ∧ Aside0 (Kd.R Kd.string 9 w' w.heap.size (fun _ => True) v4 x4_1) ∧ Aside0 (Below w.heap.size w w'))
 case atStart => exact ⟨(([] : List ByteArray)), (0), (by first | rfl | (simp; done) | (simp [*]; done)), H', ⟨Nat.le_refl _⟩, ⟨nl⟩, ⟨bh HB.out⟩⟩
 case round =>
  clear H'
  obtain ⟨x4_1, x6_1, rfl, HA, HK1, HO_4, HB⟩ := hrel
  cases gk with
  | zero => exact absurd HA.out (by simp [peristyleref11_Texts.l0])
  | succ k1 =>
   have H := HA.out
   clear HA
   simp only [peristyleref11_Texts.l0] at H
   by_cases c2 : x6_1 < (l0.length : Int)
   ·rw [if_pos c2] at H
    have c2b0 : decide (x6_1 < (l0.length : Int)) = true := decide_eq_true c2
    clear c2
    have H' := Aside0.mk H
    clear H
    go_wp2
    repeat (go_quiet (fail); try go_wp2)
    go_loopg [7] k1 (fun kq v7 w' => ∃ (x7_2 : Int), v7 = .int .i64 x7_2 ∧ Aside0 (peristyleref11_Texts.l1 kq l0 x4_1 x6_1 x7_2 = some (r1, r2)) ∧ Aside0 (kq ≤ k1) ∧ Aside0 (Kd.R Kd.string 9 w' w.heap.size (fun _ => True) u4 x4_1) ∧ Aside0 (Below w.heap.size w w'))
    case atStart => exact ⟨(0), (by first | rfl | (simp; done) | (simp [*]; done)), H', ⟨Nat.le_refl _⟩, ⟨by (with_reducible repeat (first | apply Kd.R_alloc | apply Kd.R_drewN | apply Kd.R_drew)); exact HO_4.out⟩, ⟨bh HB.out⟩⟩
    case round =>
     clear H'
     try clear c2
     try clear c2b0
     obtain ⟨x7_2, rfl, HA, HK2, HO_4, HB⟩ := hrel
     cases gk with
     | zero => exact absurd HA.out (by simp [peristyleref11_Texts.l1])
     | succ k2 =>
      have H := HA.out
      clear HA
      simp only [peristyleref11_Texts.l1] at H
      by_cases c3 : x7_2 < (x4_1.length : Int)
      ·rw [if_pos c3] at H
       have c3b0 : decide (x7_2 < (x4_1.length : Int)) = true := decide_eq_true c3
       clear c3
       by_cases c4 : 0 ≤ x7_2
       ·rw [if_pos c4] at H
        have c4b0 : decide (0 ≤ x7_2) = true := decide_eq_true c4
        clear c4
        by_cases c5 : 0 ≤ x6_1
        ·rw [if_pos c5] at H
         have c5b0 : decide (0 ≤ x6_1) = true := decide_eq_true c5
         clear c5
         by_cases c6 : x6_1 < (l0.length : Int)
         ·rw [if_pos c6] at H
          have c6b0 : decide (x6_1 < (l0.length : Int)) = true := decide_eq_true c6
          clear c6
          by_cases c7 : (Op.bytesLess ((rdOf ByteArray.empty x4_1 x7_2).toList) ((rdOf ByteArray.empty l0 x6_1).toList)) = true
          ·rw [if_pos c7] at H
           have c7b0 : (Op.bytesLess ((rdOf ByteArray.empty x4_1 x7_2).toList) ((rdOf ByteArray.empty l0 x6_1).toList)) = true := c7
           clear c7
           have H' := Aside0.mk H
           clear H
           obtain ⟨Ao8, co8, eo8⟩ := Kd.R_slice HO_4.out
           subst eo8
           have p408 : 0 ≤ (x7_2 : Int) := of_decide_eq_true (by assumption)
           have q408 : x7_2 < (x4_1.length : Int) := of_decide_eq_true (by assumption)
           obtain ⟨ad408, e408, hx408_0⟩ := Kd.at_string (Kd.R_reads' HO_4.out).2.2 x7_2 p408 q408
           cases e408
           replace p408 := eq_true p408
           replace q408 := eq_true q408
           have p409 : 0 ≤ (x6_1 : Int) := of_decide_eq_true (by assumption)
           have q409 : x6_1 < (l0.length : Int) := of_decide_eq_true (by assumption)
           obtain ⟨ad409, e409, hx409_0⟩ := Kd.at_string HR0.out x6_1 p409 q409
           cases e409
           replace hx409_0 := (HB.out.cell (World.block_lt_of_cell? w _ hx409_0)).trans hx409_0
           replace p409 := eq_true p409
           replace q409 := eq_true q409
           go_wp2
           repeat (go_quiet (fail); try go_wp2)
           go_roundg k2
           case measure => have := HK1.out; have := HK2.out; omega
           case rel => exact ⟨(wrap64 (x7_2 + 1)), (by first | rfl | (simp; done) | (simp [*]; done)), H', ⟨by have := HK1.out; have := HK2.out; omega⟩, ⟨by (with_reducible repeat (first | apply Kd.R_alloc | apply Kd.R_drewN | apply Kd.R_drew)); exact HO_4.out⟩, ⟨bh HB.out⟩⟩
          ·rw [if_neg c7] at H
           have c7b0 : (Op.bytesLess ((rdOf ByteArray.empty x4_1 x7_2).toList) ((rdOf ByteArray.empty l0 x6_1).toList)) = false := by simpa using c7
           clear c7
           by_cases c9 : (rdOf ByteArray.empty x4_1 x7_2).toList = (rdOf ByteArray.empty l0 x6_1).toList
           ·rw [if_pos c9] at H
            have c9b0 : ((rdOf ByteArray.empty x4_1 x7_2).toList == (rdOf ByteArray.empty l0 x6_1).toList) = true := beq_iff_eq.mpr c9
            have c9b1 : ((rdOf ByteArray.empty x4_1 x7_2).toList != (rdOf ByteArray.empty l0 x6_1).toList) = false := bne_eq_false_iff_eq.mpr c9
            clear c9
            have H' := Aside0.mk H
            clear H
            obtain ⟨Ao10, co10, eo10⟩ := Kd.R_slice HO_4.out
            subst eo10
            have p408 : 0 ≤ (x7_2 : Int) := of_decide_eq_true (by assumption)
            have q408 : x7_2 < (x4_1.length : Int) := of_decide_eq_true (by assumption)
            obtain ⟨ad408, e408, hx408_0⟩ := Kd.at_string (Kd.R_reads' HO_4.out).2.2 x7_2 p408 q408
            cases e408
            replace p408 := eq_true p408
            replace q408 := eq_true q408
            have p409 : 0 ≤ (x6_1 : Int) := of_decide_eq_true (by assumption)
            have q409 : x6_1 < (l0.length : Int) := of_decide_eq_true (by assumption)
            obtain ⟨ad409, e409, hx409_0⟩ := Kd.at_string HR0.out x6_1 p409 q409
            cases e409
            replace hx409_0 := (HB.out.cell (World.block_lt_of_cell? w _ hx409_0)).trans hx409_0
            replace p409 := eq_true p409
            replace q409 := eq_true q409
            have p410 : 0 ≤ (x7_2 : Int) := of_decide_eq_true (by assumption)
            have q410 : x7_2 < (x4_1.length : Int) := of_decide_eq_true (by assumption)
            obtain ⟨ad410, e410, hx410_0⟩ := Kd.at_string (Kd.R_reads' HO_4.out).2.2 x7_2 p410 q410
            obtain rfl : ad408 = ad410 := (by injection e410)
            replace p410 := eq_true p410
            replace q410 := eq_true q410
            have p411 : 0 ≤ (x6_1 : Int) := of_decide_eq_true (by assumption)
            have q411 : x6_1 < (l0.length : Int) := of_decide_eq_true (by assumption)
            obtain ⟨ad411, e411, hx411_0⟩ := Kd.at_string HR0.out x6_1 p411 q411
            obtain rfl : ad409 = ad411 := (by injection e411)
            replace hx411_0 := (HB.out.cell (World.block_lt_of_cell? w _ hx411_0)).trans hx411_0
            replace p411 := eq_true p411
            replace q411 := eq_true q411
            go_wp2
            repeat (go_quiet (fail); try go_wp2)
            go_roundg k2
            case measure => have := HK1.out; have := HK2.out; omega
            case rel => exact ⟨(x4_1), (wrap64 (x6_1 + 1)), (by first | rfl | (simp; done) | (simp [*]; done)), H', ⟨by have := HK1.out; have := HK2.out; omega⟩, ⟨by (with_reducible repeat (first | apply Kd.R_alloc | apply Kd.R_drewN | apply Kd.R_drew)); exact HO_4.out⟩, ⟨bh HB.out⟩⟩
           ·rw [if_neg c9] at H
            have c9b0 : ((rdOf ByteArray.empty x4_1 x7_2).toList == (rdOf ByteArray.empty l0 x6_1).toList) = false := beq_eq_false_iff_ne.mpr c9
            have c9b1 : ((rdOf ByteArray.empty x4_1 x7_2).toList != (rdOf ByteArray.empty l0 x6_1).toList) = true := bne_iff_ne.mpr c9
            have c11b0 := eq_true (of_decide_eq_true (by assumption) : 0 ≤ x7_2)
            by_cases c12 : x7_2 ≤ (x4_1.length : Int)
            ·rw [if_pos c12] at H
             have c12b0 := eq_true c12
             have c12b1 : decide (x7_2 ≤ (x4_1.length : Int)) = true := decide_eq_true c12
             clear c12
             obtain ⟨y412, hy412⟩ : ∃ y_ : List ByteArray, y_ = (x4_1.take (x7_2 : Int).toNat) := ⟨_, rfl⟩
             replace H : (if ([] : List ByteArray).length + y412.length < 8796093022208 then ((some (([] : List ByteArray) ++ y412 : List ByteArray)).bind fun y416 => (if y416.length < 8796093022208 then ((some (y416 ++ [rdOf ByteArray.empty l0 x6_1] : List ByteArray)).bind fun y420 => ((some (x4_1.drop (x7_2 : Int).toNat : List ByteArray)).bind fun y423 => (if y420.length + y423.length < 8796093022208 then (peristyleref11_Texts.l0 k2 l0 (y420 ++ y423) (wrap64 (x6_1 + 1))) else (none)))) else (none))) else (none)) = some (r1, r2) := by first | (rw [hy412]; with_reducible exact H) | (have H2_ := (Option.bind_some _ _).symm.trans H; rw [hy412]; with_reducible exact H2_) | (have H2_ := (Option.bind_some _ _).symm.trans H; with_reducible exact H2_) | with_reducible exact H | (rw [hy412]; exact H) | exact H
             have Ny412 := Aside0.mk hy412
             clear hy412
             by_cases c13 : ([] : List ByteArray).length + y412.length < 8796093022208
             ·rw [if_pos c13] at H
              have LMc13 := Aside0.mk c13
              clear c13
              obtain ⟨y416, hy416⟩ : ∃ y_ : List ByteArray, y_ = (([] : List ByteArray) ++ y412) := ⟨_, rfl⟩
              replace H : (if y416.length < 8796093022208 then ((some (y416 ++ [rdOf ByteArray.empty l0 x6_1] : List ByteArray)).bind fun y420 => ((some (x4_1.drop (x7_2 : Int).toNat : List ByteArray)).bind fun y423 => (if y420.length + y423.length < 8796093022208 then (peristyleref11_Texts.l0 k2 l0 (y420 ++ y423) (wrap64 (x6_1 + 1))) else (none)))) else (none)) = some (r1, r2) := by first | (rw [hy416]; with_reducible exact H) | (have H2_ := (Option.bind_some _ _).symm.trans H; rw [hy416]; with_reducible exact H2_) | (have H2_ := (Option.bind_some _ _).symm.trans H; with_reducible exact H2_) | with_reducible exact H | (rw [hy416]; exact H) | exact H
              have Ny416 := Aside0.mk hy416
              clear hy416
              by_cases c14 : y416.length < 8796093022208
              ·rw [if_pos c14] at H
               have LMc14 := Aside0.mk c14
               clear c14
               obtain ⟨y420, hy420⟩ : ∃ y_ : List ByteArray, y_ = (y416 ++ [rdOf ByteArray.empty l0 x6_1]) := ⟨_, rfl⟩
               replace H : ((some (x4_1.drop (x7_2 : Int).toNat : List ByteArray)).bind fun y423 => (if y420.length + y423.length < 8796093022208 then (peristyleref11_Texts.l0 k2 l0 (y420 ++ y423) (wrap64 (x6_1 + 1))) else (none))) = some (r1, r2) := by first | (rw [hy420]; with_reducible exact H) | (have H2_ := (Option.bind_some _ _).symm.trans H; rw [hy420]; with_reducible exact H2_) | (have H2_ := (Option.bind_some _ _).symm.trans H; with_reducible exact H2_) | with_reducible exact H | (rw [hy420]; exact H) | exact H
               have Ny420 := Aside0.mk hy420
               clear hy420
               have c15b0 := eq_true (of_decide_eq_true (by assumption) : 0 ≤ x7_2)
               have c16b0 := eq_true (of_decide_eq_true (by assumption) : x7_2 ≤ (x4_1.length : Int))
               obtain ⟨y423, hy423⟩ : ∃ y_ : List ByteArray, y_ = (x4_1.drop (x7_2 : Int).toNat) := ⟨_, rfl⟩
               replace H : (if y420.length + y423.length < 8796093022208 then (peristyleref11_Texts.l0 k2 l0 (y420 ++ y423) (wrap64 (x6_1 + 1))) else (none)) = some (r1, r2) := by first | (rw [hy423]; with_reducible exact H) | (have H2_ := (Option.bind_some _ _).symm.trans H; rw [hy423]; with_reducible exact H2_) | (have H2_ := (Option.bind_some _ _).symm.trans H; with_reducible exact H2_) | with_reducible exact H | (rw [hy423]; exact H) | exact H
               have Ny423 := Aside0.mk hy423
               clear hy423
               by_cases c17 : y420.length + y423.length < 8796093022208
               ·rw [if_pos c17] at H
                have LMc17 := Aside0.mk c17
                clear c17
                obtain ⟨y427, hy427⟩ : ∃ y_ : List ByteArray, y_ = (y420 ++ y423) := ⟨_, rfl⟩
                replace H : (peristyleref11_Texts.l0 k2 l0 y427 (wrap64 (x6_1 + 1))) = some (r1, r2) := by first | (rw [hy427]; with_reducible exact H) | (have H2_ := (Option.bind_some _ _).symm.trans H; rw [hy427]; with_reducible exact H2_) | (have H2_ := (Option.bind_some _ _).symm.trans H; with_reducible exact H2_) | with_reducible exact H | (rw [hy427]; exact H) | exact H
                have Ny427 := Aside0.mk hy427
                clear hy427
                have H' := Aside0.mk H
                clear H
                obtain ⟨Ao18, co18, eo18⟩ := Kd.R_slice HO_4.out
                subst eo18
                have p408 : 0 ≤ (x7_2 : Int) := of_decide_eq_true (by assumption)
                have q408 : x7_2 < (x4_1.length : Int) := of_decide_eq_true (by assumption)
                obtain ⟨ad408, e408, hx408_0⟩ := Kd.at_string (Kd.R_reads' HO_4.out).2.2 x7_2 p408 q408
                cases e408
                replace p408 := eq_true p408
                replace q408 := eq_true q408
                have p409 : 0 ≤ (x6_1 : Int) := of_decide_eq_true (by assumption)
                have q409 : x6_1 < (l0.length : Int) := of_decide_eq_true (by assumption)
                obtain ⟨ad409, e409, hx409_0⟩ := Kd.at_string HR0.out x6_1 p409 q409
                cases e409
                replace hx409_0 := (HB.out.cell (World.block_lt_of_cell? w _ hx409_0)).trans hx409_0
                replace p409 := eq_true p409
                replace q409 := eq_true q409
                have p410 : 0 ≤ (x7_2 : Int) := of_decide_eq_true (by assumption)
                have q410 : x7_2 < (x4_1.length : Int) := of_decide_eq_true (by assumption)
                obtain ⟨ad410, e410, hx410_0⟩ := Kd.at_string (Kd.R_reads' HO_4.out).2.2 x7_2 p410 q410
                obtain rfl : ad408 = ad410 := (by injection e410)
                replace p410 := eq_true p410
                replace q410 := eq_true q410
                have p411 : 0 ≤ (x6_1 : Int) := of_decide_eq_true (by assumption)
                have q411 : x6_1 < (l0.length : Int) := of_decide_eq_true (by assumption)
                obtain ⟨ad411, e411, hx411_0⟩ := Kd.at_string HR0.out x6_1 p411 q411
                obtain rfl : ad409 = ad411 := (by injection e411)
                replace hx411_0 := (HB.out.cell (World.block_lt_of_cell? w _ hx411_0)).trans hx411_0
                replace p411 := eq_true p411
                replace q411 := eq_true q411
                have q19 : (x7_2 : Int) ≤ ((x4_1.length : Int) : Int) := of_decide_eq_true (by assumption)
                obtain ⟨i019, hi019, _, hsz19, _⟩ := info_parts info9
                have hroom19 : x4_1.length ≤ co18 := (Kd.R_reads' HO_4.out).2.1
                have hC19 : Kd.C Kd.string _ (some ad408) x4_1.length x4_1 := (Kd.R_reads' HO_4.out).2.2
                have hcut19 := cut_to (P := Try.prog) 22 9 .i64 Try.underlying22 hi019 (some ad408) x4_1.length co18 x7_2 (of_decide_eq_true (by assumption)) q19 hroom19
                have hr19 := Kd.C_take (m := (x7_2 : Int).toNat) hC19 (by omega)
                have hy19 : y412.length = (x7_2 : Int).toNat := (by rw [Ny412.out, List.length_take]; omega)
                rw [← Ny412.out] at hr19
                rw [← hy19] at hcut19
                have HR415 := Aside0.mk hr19
                have HC415 := Aside0.mk (show y412.length ≤ co18 from by omega)
                clear hr19 hC19 hroom19 hi019 hsz19
                have KY19 := Aside0.mk hy19
                clear hy19
                have KL19 := Aside0.mk (show (x7_2 : Int).toNat ≤ x4_1.length from by omega)
                replace q19 := eq_true q19
                go_wp2_with (first | ((with_reducible refine gate_builtin (b := .append) (xs := #[.tmp 49, .tmp 52]) rfl ?_); at_builtin; refine Kd.R_append_rows Kd.string (w0 := w) w.heap.size rfl (.tmp 49) (.tmp 52) 22 9 (.string ⟨#[]⟩) 16 rfl Try.underlying22 info9 rfl (by decide) (by omega) (.slice none 0 0) ([] : List ByteArray) y412 _ _ _ (fun k_ => some k_ ≠ (.slice (some ad408) x4_1.length co18 : Value).ownBlock) (fun _ => False) rfl rfl ?aO ?aR (fun _ _ h => h) (fun _ h => h.elim) ?aF ?aB ?aS ?aL ?_; (case aR => repeat (first | exact (by repeat (first | (with_reducible exact HR415.out) | (with_reducible refine Kd.C_alloc ?_ _) | (with_reducible refine Kd.C_drewN ?_ _) | (with_reducible refine Kd.C_drew ?_) | exact HR415.out)) | (with_reducible refine Kd.C_alloc ?_ _) | (with_reducible refine Kd.C_drewN ?_ _) | (with_reducible refine Kd.C_drew ?_))); (case aB => exact (bh HB.out)); (case aF => exact (fun k_ hk => Kd.fresh' (Kd.R_lt (rx HO_4.out)) k_ hk)); (case aO => exact ((Kd.R_nil _ _ _ _ (fun k_ => some k_ ≠ (.slice (some ad408) x4_1.length co18 : Value).ownBlock)))); (case aS => exact (below_size (bh HB.out))); (case aL => have := LMc13.out; omega); intro v417 w20 ho hb hg hat; rw [← Ny416.out] at ho; replace HB := Aside0.mk (hb); replace HR415 := Aside0.mk ((show Kd.C Kd.string w20 (some ad408) y412.length y412 from by rw [Ny412.out]; exact Kd.C_take (m := (x7_2 : Int).toNat) ((Kd.R_reads' (Kd.R_after (Kd.R_apart_nil (rx HO_4.out)) hg hat)).2.2) KL19.out)); replace HO_4 := Aside0.mk (Kd.R_after (Kd.R_apart_nil (rx HO_4.out)) hg hat); have HO418 := Aside0.mk (ho); clear ho hb hg hat; have p419 : 0 ≤ (x6_1 : Int) := of_decide_eq_true (by assumption); have q419 : x6_1 < (l0.length : Int) := of_decide_eq_true (by assumption); obtain ⟨ad419, e419, hx419_0⟩ := Kd.at_string HR0.out x6_1 p419 q419; obtain rfl : ad409 = ad419 := (by injection e419); replace hx419_0 := (HB.out.cell (World.block_lt_of_cell? w _ hx419_0)).trans hx419_0; replace p419 := eq_true p419; replace q419 := eq_true q419) | ((with_reducible refine gate_builtin (b := .append) (xs := #[.tmp 54, .tmp 59]) rfl ?_); at_builtin; refine Kd.R_append Kd.string (w0 := w) w.heap.size rfl (.tmp 54) (.tmp 59) 22 9 (.string ⟨#[]⟩) 16 rfl Try.underlying22 info9 rfl (by decide) (by omega) v417 y416 (rdOf ByteArray.empty l0 x6_1) [.string (rdOf ByteArray.empty l0 x6_1)] (fun k_ => some k_ ≠ (.slice (some ad408) x4_1.length co18 : Value).ownBlock) (fun _ => False) rfl rfl ?aP (fun _ hk => hk.elim) ?aF ?aO ?aB ?aS ?aL ?_; (case aP => exact rfl); (case aB => exact (bh HB.out)); (case aF => exact (fun k_ hk => Kd.fresh' (Kd.R_lt (rx HO_4.out)) k_ hk)); (case aO => exact (rx HO418.out)); (case aS => exact (below_size (bh HB.out))); (case aL => have := LMc14.out; omega); intro v421 w21 ho hb hg hat; rw [← Ny420.out] at ho; have n0_ := Aside0.mk (Kd.R_after (ok := (fun _ => True)) (rx HO_4.out) hg hat); have n1_ := Aside0.mk (hb); have n2_ := Aside0.mk ((show Kd.C Kd.string w21 (some ad408) y412.length y412 from by rw [Ny412.out]; exact Kd.C_take (m := (x7_2 : Int).toNat) ((Kd.R_reads' (Kd.R_after (ok := (fun _ => True)) (rx HO_4.out) hg hat)).2.2) KL19.out)); have n3_ := Aside0.mk (ho); clear HO_4 HB HR415 HO418; have HO_4 := n0_; have HB := n1_; have HR415 := n2_; have HO422 := n3_; clear n0_ n1_ n2_ n3_; clear ho hb hg hat; have q22 : (x7_2 : Int) ≤ ((x4_1.length : Int) : Int) := of_decide_eq_true (by assumption); obtain ⟨i022, hi022, _, hsz22, _⟩ := info_parts info9; have hroom22 : x4_1.length ≤ co18 := (Kd.R_reads' HO_4.out).2.1; have hC22 : Kd.C Kd.string _ (some ad408) x4_1.length x4_1 := (Kd.R_reads' HO_4.out).2.2; have q022 : (0 : Int) ≤ (x7_2 : Int) := of_decide_eq_true (by assumption); have hcut22 := cut_from (P := Try.prog) 22 9 .i64 Try.underlying22 hi022 1 hsz22 (some ad408) x4_1.length co18 x7_2 q022 q22; have hr22 := Kd.C_drop (m := (x7_2 : Int).toNat) (c := co18) hC22 (by omega) hroom22; obtain ⟨A22, hA22⟩ : ∃ A1, A1 = (if co18 = (x7_2 : Int).toNat then (some ad408) else ((some ad408) : Option Addr).map (·.add ((x7_2 : Int).toNat * 1))) := ⟨_, rfl⟩; obtain ⟨c22, hc22⟩ : ∃ c1, c1 = co18 - (x7_2 : Int).toNat := ⟨_, rfl⟩; have hy22 : y423.length = x4_1.length - (x7_2 : Int).toNat := (by rw [Ny423.out, List.length_drop] <;> omega); rw [show (x4_1).drop (x7_2 : Int).toNat = y423 from Ny423.out.symm] at hr22; replace hr22 : Kd.C Kd.string _ A22 y423.length y423 := (by rw [hA22]; exact hr22); rw [← hy22, ← hA22, ← hc22] at hcut22; have HR426 := Aside0.mk hr22; have HC426 := Aside0.mk (show y423.length ≤ c22 from by rw [hy22, hc22]; exact Nat.sub_le_sub_right hroom22 _); clear hr22 hC22 hroom22 hi022 hsz22 hc22; have KY22 := Aside0.mk hy22; have KA22 := Aside0.mk hA22; clear hy22 hA22; have KL22 := Aside0.mk (show (x7_2 : Int).toNat ≤ x4_1.length from by omega); replace q22 := eq_true q22) | ((with_reducible refine gate_builtin (b := .append) (xs := #[.tmp 61, .tmp 64]) rfl ?_); at_builtin; refine Kd.R_append_rows Kd.string (w0 := w) w.heap.size rfl (.tmp 61) (.tmp 64) 22 9 (.string ⟨#[]⟩) 16 rfl Try.underlying22 info9 rfl (by decide) (by omega) v421 y420 y423 _ _ _ (fun k_ => some k_ ≠ (.slice (some ad408) x4_1.length co18 : Value).ownBlock) (fun _ => False) rfl rfl ?aO ?aR (fun _ _ h => h) (fun _ h => h.elim) ?aF ?aB ?aS ?aL ?_; (case aR => repeat (first | exact (by repeat (first | (with_reducible exact HR426.out) | (with_reducible refine Kd.C_alloc ?_ _) | (with_reducible refine Kd.C_drewN ?_ _) | (with_reducible refine Kd.C_drew ?_) | exact HR426.out)) | (with_reducible refine Kd.C_alloc ?_ _) | (with_reducible refine Kd.C_drewN ?_ _) | (with_reducible refine Kd.C_drew ?_))); (case aB => exact (bh HB.out)); (case aF => exact (fun k_ hk => Kd.fresh' (Kd.R_lt (rx HO_4.out)) k_ hk)); (case aO => exact (rx HO422.out)); (case aS => exact (below_size (bh HB.out))); (case aL => have := LMc17.out; omega); intro v428 w23 ho hb hg hat; rw [← Ny427.out] at ho; have n0_ := Aside0.mk (Kd.R_after (ok := (fun _ => True)) (rx HO_4.out) hg hat); have n1_ := Aside0.mk (hb); have n2_ := Aside0.mk ((show Kd.C Kd.string w23 (some ad408) y412.length y412 from by rw [Ny412.out]; exact Kd.C_take (m := (x7_2 : Int).toNat) ((Kd.R_reads' (Kd.R_after (ok := (fun _ => True)) (rx HO_4.out) hg hat)).2.2) KL19.out)); have n3_ := Aside0.mk ((show Kd.C Kd.string w23 A22 y423.length y423 from by rw [Ny423.out, KA22.out]; exact Kd.C_drop (m := (x7_2 : Int).toNat) (c := co18) ((Kd.R_reads' (Kd.R_after (ok := (fun _ => True)) (rx HO_4.out) hg hat)).2.2) KL22.out ((Kd.R_reads' (Kd.R_after (ok := (fun _ => True)) (rx HO_4.out) hg hat)).2.1))); have n4_ := Aside0.mk (ho); clear HO_4 HB HR415 HR426 HO422; have HO_4 := n0_; have HB := n1_; have HR415 := n2_; have HR426 := n3_; have HO429 := n4_; clear n0_ n1_ n2_ n3_ n4_; clear ho hb hg hat))
                repeat (go_quiet (first | ((with_reducible refine gate_builtin (b := .append) (xs := #[.tmp 49, .tmp 52]) rfl ?_); at_builtin; refine Kd.R_append_rows Kd.string (w0 := w) w.heap.size rfl (.tmp 49) (.tmp 52) 22 9 (.string ⟨#[]⟩) 16 rfl Try.underlying22 info9 rfl (by decide) (by omega) (.slice none 0 0) ([] : List ByteArray) y412 _ _ _ (fun k_ => some k_ ≠ (.slice (some ad408) x4_1.length co18 : Value).ownBlock) (fun _ => False) rfl rfl ?aO ?aR (fun _ _ h => h) (fun _ h => h.elim) ?aF ?aB ?aS ?aL ?_; (case aR => repeat (first | exact (by repeat (first | (with_reducible exact HR415.out) | (with_reducible refine Kd.C_alloc ?_ _) | (with_reducible refine Kd.C_drewN ?_ _) | (with_reducible refine Kd.C_drew ?_) | exact HR415.out)) | (with_reducible refine Kd.C_alloc ?_ _) | (with_reducible refine Kd.C_drewN ?_ _) | (with_reducible refine Kd.C_drew ?_))); (case aB => exact (bh HB.out)); (case aF => exact (fun k_ hk => Kd.fresh' (Kd.R_lt (rx HO_4.out)) k_ hk)); (case aO => exact ((Kd.R_nil _ _ _ _ (fun k_ => some k_ ≠ (.slice (some ad408) x4_1.length co18 : Value).ownBlock)))); (case aS => exact (below_size (bh HB.out))); (case aL => have := LMc13.out; omega); intro v417 w20 ho hb hg hat; rw [← Ny416.out] at ho; replace HB := Aside0.mk (hb); replace HR415 := Aside0.mk ((show Kd.C Kd.string w20 (some ad408) y412.length y412 from by rw [Ny412.out]; exact Kd.C_take (m := (x7_2 : Int).toNat) ((Kd.R_reads' (Kd.R_after (Kd.R_apart_nil (rx HO_4.out)) hg hat)).2.2) KL19.out)); replace HO_4 := Aside0.mk (Kd.R_after (Kd.R_apart_nil (rx HO_4.out)) hg hat); have HO418 := Aside0.mk (ho); clear ho hb hg hat; have p419 : 0 ≤ (x6_1 : Int) := of_decide_eq_true (by assumption); have q419 : x6_1 < (l0.length : Int) := of_decide_eq_true (by assumption); obtain ⟨ad419, e419, hx419_0⟩ := Kd.at_string HR0.out x6_1 p419 q419; obtain rfl : ad409 = ad419 := (by injection e419); replace hx419_0 := (HB.out.cell (World.block_lt_of_cell? w _ hx419_0)).trans hx419_0; replace p419 := eq_true p419; replace q419 := eq_true q419) | ((with_reducible refine gate_builtin (b := .append) (xs := #[.tmp 54, .tmp 59]) rfl ?_); at_builtin; refine Kd.R_append Kd.string (w0 := w) w.heap.size rfl (.tmp 54) (.tmp 59) 22 9 (.string ⟨#[]⟩) 16 rfl Try.underlying22 info9 rfl (by decide) (by omega) v417 y416 (rdOf ByteArray.empty l0 x6_1) [.string (rdOf ByteArray.empty l0 x6_1)] (fun k_ => some k_ ≠ (.slice (some ad408) x4_1.length co18 : Value).ownBlock) (fun _ => False) rfl rfl ?aP (fun _ hk => hk.elim) ?aF ?aO ?aB ?aS ?aL ?_; (case aP => exact rfl); (case aB => exact (bh HB.out)); (case aF => exact (fun k_ hk => Kd.fresh' (Kd.R_lt (rx HO_4.out)) k_ hk)); (case aO => exact (rx HO418.out)); (case aS => exact (below_size (bh HB.out))); (case aL => have := LMc14.out; omega); intro v421 w21 ho hb hg hat; rw [← Ny420.out] at ho; have n0_ := Aside0.mk (Kd.R_after (ok := (fun _ => True)) (rx HO_4.out) hg hat); have n1_ := Aside0.mk (hb); have n2_ := Aside0.mk ((show Kd.C Kd.string w21 (some ad408) y412.length y412 from by rw [Ny412.out]; exact Kd.C_take (m := (x7_2 : Int).toNat) ((Kd.R_reads' (Kd.R_after (ok := (fun _ => True)) (rx HO_4.out) hg hat)).2.2) KL19.out)); have n3_ := Aside0.mk (ho); clear HO_4 HB HR415 HO418; have HO_4 := n0_; have HB := n1_; have HR415 := n2_; have HO422 := n3_; clear n0_ n1_ n2_ n3_; clear ho hb hg hat; have q22 : (x7_2 : Int) ≤ ((x4_1.length : Int) : Int) := of_decide_eq_true (by assumption); obtain ⟨i022, hi022, _, hsz22, _⟩ := info_parts info9; have hroom22 : x4_1.length ≤ co18 := (Kd.R_reads' HO_4.out).2.1; have hC22 : Kd.C Kd.string _ (some ad408) x4_1.length x4_1 := (Kd.R_reads' HO_4.out).2.2; have q022 : (0 : Int) ≤ (x7_2 : Int) := of_decide_eq_true (by assumption); have hcut22 := cut_from (P := Try.prog) 22 9 .i64 Try.underlying22 hi022 1 hsz22 (some ad408) x4_1.length co18 x7_2 q022 q22; have hr22 := Kd.C_drop (m := (x7_2 : Int).toNat) (c := co18) hC22 (by omega) hroom22; obtain ⟨A22, hA22⟩ : ∃ A1, A1 = (if co18 = (x7_2 : Int).toNat then (some ad408) else ((some ad408) : Option Addr).map (·.add ((x7_2 : Int).toNat * 1))) := ⟨_, rfl⟩; obtain ⟨c22, hc22⟩ : ∃ c1, c1 = co18 - (x7_2 : Int).toNat := ⟨_, rfl⟩; have hy22 : y423.length = x4_1.length - (x7_2 : Int).toNat := (by rw [Ny423.out, List.length_drop] <;> omega); rw [show (x4_1).drop (x7_2 : Int).toNat = y423 from Ny423.out.symm] at hr22; replace hr22 : Kd.C Kd.string _ A22 y423.length y423 := (by rw [hA22]; exact hr22); rw [← hy22, ← hA22, ← hc22] at hcut22; have HR426 := Aside0.mk hr22; have HC426 := Aside0.mk (show y423.length ≤ c22 from by rw [hy22, hc22]; exact Nat.sub_le_sub_right hroom22 _); clear hr22 hC22 hroom22 hi022 hsz22 hc22; have KY22 := Aside0.mk hy22; have KA22 := Aside0.mk hA22; clear hy22 hA22; have KL22 := Aside0.mk (show (x7_2 : Int).toNat ≤ x4_1.length from by omega); replace q22 := eq_true q22) | ((with_reducible refine gate_builtin (b := .append) (xs := #[.tmp 61, .tmp 64]) rfl ?_); at_builtin; refine Kd.R_append_rows Kd.string (w0 := w) w.heap.size rfl (.tmp 61) (.tmp 64) 22 9 (.string ⟨#[]⟩) 16 rfl Try.underlying22 info9 rfl (by decide) (by omega) v421 y420 y423 _ _ _ (fun k_ => some k_ ≠ (.slice (some ad408) x4_1.length co18 : Value).ownBlock) (fun _ => False) rfl rfl ?aO ?aR (fun _ _ h => h) (fun _ h => h.elim) ?aF ?aB ?aS ?aL ?_; (case aR => repeat (first | exact (by repeat (first | (with_reducible exact HR426.out) | (with_reducible refine Kd.C_alloc ?_ _) | (with_reducible refine Kd.C_drewN ?_ _) | (with_reducible refine Kd.C_drew ?_) | exact HR426.out)) | (with_reducible refine Kd.C_alloc ?_ _) | (with_reducible refine Kd.C_drewN ?_ _) | (with_reducible refine Kd.C_drew ?_))); (case aB => exact (bh HB.out)); (case aF => exact (fun k_ hk => Kd.fresh' (Kd.R_lt (rx HO_4.out)) k_ hk)); (case aO => exact (rx HO422.out)); (case aS => exact (below_size (bh HB.out))); (case aL => have := LMc17.out; omega); intro v428 w23 ho hb hg hat; rw [← Ny427.out] at ho; have n0_ := Aside0.mk (Kd.R_after (ok := (fun _ => True)) (rx HO_4.out) hg hat); have n1_ := Aside0.mk (hb); have n2_ := Aside0.mk ((show Kd.C Kd.string w23 (some ad408) y412.length y412 from by rw [Ny412.out]; exact Kd.C_take (m := (x7_2 : Int).toNat) ((Kd.R_reads' (Kd.R_after (ok := (fun _ => True)) (rx HO_4.out) hg hat)).2.2) KL19.out)); have n3_ := Aside0.mk ((show Kd.C Kd.string w23 A22 y423.length y423 from by rw [Ny423.out, KA22.out]; exact Kd.C_drop (m := (x7_2 : Int).toNat) (c := co18) ((Kd.R_reads' (Kd.R_after (ok := (fun _ => True)) (rx HO_4.out) hg hat)).2.2) KL22.out ((Kd.R_reads' (Kd.R_after (ok := (fun _ => True)) (rx HO_4.out) hg hat)).2.1))); have n4_ := Aside0.mk (ho); clear HO_4 HB HR415 HR426 HO422; have HO_4 := n0_; have HB := n1_; have HR415 := n2_; have HR426 := n3_; have HO429 := n4_; clear n0_ n1_ n2_ n3_ n4_; clear ho hb hg hat)); try go_wp2_with (first | ((with_reducible refine gate_builtin (b := .append) (xs := #[.tmp 49, .tmp 52]) rfl ?_); at_builtin; refine Kd.R_append_rows Kd.string (w0 := w) w.heap.size rfl (.tmp 49) (.tmp 52) 22 9 (.string ⟨#[]⟩) 16 rfl Try.underlying22 info9 rfl (by decide) (by omega) (.slice none 0 0) ([] : List ByteArray) y412 _ _ _ (fun k_ => some k_ ≠ (.slice (some ad408) x4_1.length co18 : Value).ownBlock) (fun _ => False) rfl rfl ?aO ?aR (fun _ _ h => h) (fun _ h => h.elim) ?aF ?aB ?aS ?aL ?_; (case aR => repeat (first | exact (by repeat (first | (with_reducible exact HR415.out) | (with_reducible refine Kd.C_alloc ?_ _) | (with_reducible refine Kd.C_drewN ?_ _) | (with_reducible refine Kd.C_drew ?_) | exact HR415.out)) | (with_reducible refine Kd.C_alloc ?_ _) | (with_reducible refine Kd.C_drewN ?_ _) | (with_reducible refine Kd.C_drew ?_))); (case aB => exact (bh HB.out)); (case aF => exact (fun k_ hk => Kd.fresh' (Kd.R_lt (rx HO_4.out)) k_ hk)); (case aO => exact ((Kd.R_nil _ _ _ _ (fun k_ => some k_ ≠ (.slice (some ad408) x4_1.length co18 : Value).ownBlock)))); (case aS => exact (below_size (bh HB.out))); (case aL => have := LMc13.out; omega); intro v417 w20 ho hb hg hat; rw [← Ny416.out] at ho; replace HB := Aside0.mk (hb); replace HR415 := Aside0.mk ((show Kd.C Kd.string w20 (some ad408) y412.length y412 from by rw [Ny412.out]; exact Kd.C_take (m := (x7_2 : Int).toNat) ((Kd.R_reads' (Kd.R_after (Kd.R_apart_nil (rx HO_4.out)) hg hat)).2.2) KL19.out)); replace HO_4 := Aside0.mk (Kd.R_after (Kd.R_apart_nil (rx HO_4.out)) hg hat); have HO418 := Aside0.mk (ho); clear ho hb hg hat; have p419 : 0 ≤ (x6_1 : Int) := of_decide_eq_true (by assumption); have q419 : x6_1 < (l0.length : Int) := of_decide_eq_true (by assumption); obtain ⟨ad419, e419, hx419_0⟩ := Kd.at_string HR0.out x6_1 p419 q419; obtain rfl : ad409 = ad419 := (by injection e419); replace hx419_0 := (HB.out.cell (World.block_lt_of_cell? w _ hx419_0)).trans hx419_0; replace p419 := eq_true p419; replace q419 := eq_true q419) | ((with_reducible refine gate_builtin (b := .append) (xs := #[.tmp 54, .tmp 59]) rfl ?_); at_builtin; refine Kd.R_append Kd.string (w0 := w) w.heap.size rfl (.tmp 54) (.tmp 59) 22 9 (.string ⟨#[]⟩) 16 rfl Try.underlying22 info9 rfl (by decide) (by omega) v417 y416 (rdOf ByteArray.empty l0 x6_1) [.string (rdOf ByteArray.empty l0 x6_1)] (fun k_ => some k_ ≠ (.slice (some ad408) x4_1.length co18 : Value).ownBlock) (fun _ => False) rfl rfl ?aP (fun _ hk => hk.elim) ?aF ?aO ?aB ?aS ?aL ?_; (case aP => exact rfl); (case aB => exact (bh HB.out)); (case aF => exact (fun k_ hk => Kd.fresh' (Kd.R_lt (rx HO_4.out)) k_ hk)); (case aO => exact (rx HO418.out)); (case aS => exact (below_size (bh HB.out))); (case aL => have := LMc14.out; omega); intro v421 w21 ho hb hg hat; rw [← Ny420.out] at ho; have n0_ := Aside0.mk (Kd.R_after (ok := (fun _ => True)) (rx HO_4.out) hg hat); have n1_ := Aside0.mk (hb); have n2_ := Aside0.mk ((show Kd.C Kd.string w21 (some ad408) y412.length y412 from by rw [Ny412.out]; exact Kd.C_take (m := (x7_2 : Int).toNat) ((Kd.R_reads' (Kd.R_after (ok := (fun _ => True)) (rx HO_4.out) hg hat)).2.2) KL19.out)); have n3_ := Aside0.mk (ho); clear HO_4 HB HR415 HO418; have HO_4 := n0_; have HB := n1_; have HR415 := n2_; have HO422 := n3_; clear n0_ n1_ n2_ n3_; clear ho hb hg hat; have q22 : (x7_2 : Int) ≤ ((x4_1.length : Int) : Int) := of_decide_eq_true (by assumption); obtain ⟨i022, hi022, _, hsz22, _⟩ := info_parts info9; have hroom22 : x4_1.length ≤ co18 := (Kd.R_reads' HO_4.out).2.1; have hC22 : Kd.C Kd.string _ (some ad408) x4_1.length x4_1 := (Kd.R_reads' HO_4.out).2.2; have q022 : (0 : Int) ≤ (x7_2 : Int) := of_decide_eq_true (by assumption); have hcut22 := cut_from (P := Try.prog) 22 9 .i64 Try.underlying22 hi022 1 hsz22 (some ad408) x4_1.length co18 x7_2 q022 q22; have hr22 := Kd.C_drop (m := (x7_2 : Int).toNat) (c := co18) hC22 (by omega) hroom22; obtain ⟨A22, hA22⟩ : ∃ A1, A1 = (if co18 = (x7_2 : Int).toNat then (some ad408) else ((some ad408) : Option Addr).map (·.add ((x7_2 : Int).toNat * 1))) := ⟨_, rfl⟩; obtain ⟨c22, hc22⟩ : ∃ c1, c1 = co18 - (x7_2 : Int).toNat := ⟨_, rfl⟩; have hy22 : y423.length = x4_1.length - (x7_2 : Int).toNat := (by rw [Ny423.out, List.length_drop] <;> omega); rw [show (x4_1).drop (x7_2 : Int).toNat = y423 from Ny423.out.symm] at hr22; replace hr22 : Kd.C Kd.string _ A22 y423.length y423 := (by rw [hA22]; exact hr22); rw [← hy22, ← hA22, ← hc22] at hcut22; have HR426 := Aside0.mk hr22; have HC426 := Aside0.mk (show y423.length ≤ c22 from by rw [hy22, hc22]; exact Nat.sub_le_sub_right hroom22 _); clear hr22 hC22 hroom22 hi022 hsz22 hc22; have KY22 := Aside0.mk hy22; have KA22 := Aside0.mk hA22; clear hy22 hA22; have KL22 := Aside0.mk (show (x7_2 : Int).toNat ≤ x4_1.length from by omega); replace q22 := eq_true q22) | ((with_reducible refine gate_builtin (b := .append) (xs := #[.tmp 61, .tmp 64]) rfl ?_); at_builtin; refine Kd.R_append_rows Kd.string (w0 := w) w.heap.size rfl (.tmp 61) (.tmp 64) 22 9 (.string ⟨#[]⟩) 16 rfl Try.underlying22 info9 rfl (by decide) (by omega) v421 y420 y423 _ _ _ (fun k_ => some k_ ≠ (.slice (some ad408) x4_1.length co18 : Value).ownBlock) (fun _ => False) rfl rfl ?aO ?aR (fun _ _ h => h) (fun _ h => h.elim) ?aF ?aB ?aS ?aL ?_; (case aR => repeat (first | exact (by repeat (first | (with_reducible exact HR426.out) | (with_reducible refine Kd.C_alloc ?_ _) | (with_reducible refine Kd.C_drewN ?_ _) | (with_reducible refine Kd.C_drew ?_) | exact HR426.out)) | (with_reducible refine Kd.C_alloc ?_ _) | (with_reducible refine Kd.C_drewN ?_ _) | (with_reducible refine Kd.C_drew ?_))); (case aB => exact (bh HB.out)); (case aF => exact (fun k_ hk => Kd.fresh' (Kd.R_lt (rx HO_4.out)) k_ hk)); (case aO => exact (rx HO422.out)); (case aS => exact (below_size (bh HB.out))); (case aL => have := LMc17.out; omega); intro v428 w23 ho hb hg hat; rw [← Ny427.out] at ho; have n0_ := Aside0.mk (Kd.R_after (ok := (fun _ => True)) (rx HO_4.out) hg hat); have n1_ := Aside0.mk (hb); have n2_ := Aside0.mk ((show Kd.C Kd.string w23 (some ad408) y412.length y412 from by rw [Ny412.out]; exact Kd.C_take (m := (x7_2 : Int).toNat) ((Kd.R_reads' (Kd.R_after (ok := (fun _ => True)) (rx HO_4.out) hg hat)).2.2) KL19.out)); have n3_ := Aside0.mk ((show Kd.C Kd.string w23 A22 y423.length y423 from by rw [Ny423.out, KA22.out]; exact Kd.C_drop (m := (x7_2 : Int).toNat) (c := co18) ((Kd.R_reads' (Kd.R_after (ok := (fun _ => True)) (rx HO_4.out) hg hat)).2.2) KL22.out ((Kd.R_reads' (Kd.R_after (ok := (fun _ => True)) (rx HO_4.out) hg hat)).2.1))); have n4_ := Aside0.mk (ho); clear HO_4 HB HR415 HR426 HO422; have HO_4 := n0_; have HB := n1_; have HR415 := n2_; have HR426 := n3_; have HO429 := n4_; clear n0_ n1_ n2_ n3_ n4_; clear ho hb hg hat)))
                go_roundg k2
                case measure => have := HK1.out; have := HK2.out; omega
                case rel => exact ⟨(y427), (wrap64 (x6_1 + 1)), (by first | rfl | (simp; done) | (simp [*]; done)), H', ⟨by have := HK1.out; have := HK2.out; omega⟩, ⟨by (with_reducible repeat (first | apply Kd.R_alloc | apply Kd.R_drewN | apply Kd.R_drew)); exact Kd.R_mono HO429.out (fun _ hk => trivial)⟩, ⟨bh HB.out⟩⟩
               ·rw [if_neg c17] at H
                exact absurd H (by simp)
              ·rw [if_neg c14] at H
               exact absurd H (by simp)
             ·rw [if_neg c13] at H
              exact absurd H (by simp)
            ·rw [if_neg c12] at H
             exact absurd H (by simp)
         ·rw [if_neg c6] at H
          exact absurd H (by simp)
        ·rw [if_neg c5] at H
         exact absurd H (by simp)
       ·rw [if_neg c4] at H
        exact absurd H (by simp)
      ·rw [if_neg c3] at H
       have c3b0 : decide (x7_2 < (x4_1.length : Int)) = false := decide_eq_false c3
       clear c3
       by_cases c24 : 0 ≤ x7_2
       ·rw [if_pos c24] at H
        have c24b0 := eq_true c24
        have c24b1 : decide (0 ≤ x7_2) = true := decide_eq_true c24
        clear c24
        by_cases c25 : x7_2 ≤ (x4_1.length : Int)
        ·rw [if_pos c25] at H
         have c25b0 := eq_true c25
         have c25b1 : decide (x7_2 ≤ (x4_1.length : Int)) = true := decide_eq_true c25
         clear c25
         obtain ⟨y430, hy430⟩ : ∃ y_ : List ByteArray, y_ = (x4_1.take (x7_2 : Int).toNat) := ⟨_, rfl⟩
         replace H : (if ([] : List ByteArray).length + y430.length < 8796093022208 then ((some (([] : List ByteArray) ++ y430 : List ByteArray)).bind fun y434 => (if 0 ≤ x6_1 then (if x6_1 < (l0.length : Int) then (if y434.length < 8796093022208 then ((some (y434 ++ [rdOf ByteArray.empty l0 x6_1] : List ByteArray)).bind fun y438 => ((some (x4_1.drop (x7_2 : Int).toNat : List ByteArray)).bind fun y441 => (if y438.length + y441.length < 8796093022208 then (peristyleref11_Texts.l0 k2 l0 (y438 ++ y441) (wrap64 (x6_1 + 1))) else (none)))) else (none)) else (none)) else (none))) else (none)) = some (r1, r2) := by first | (rw [hy430]; with_reducible exact H) | (have H2_ := (Option.bind_some _ _).symm.trans H; rw [hy430]; with_reducible exact H2_) | (have H2_ := (Option.bind_some _ _).symm.trans H; with_reducible exact H2_) | with_reducible exact H | (rw [hy430]; exact H) | exact H
         have Ny430 := Aside0.mk hy430
         clear hy430
         by_cases c26 : ([] : List ByteArray).length + y430.length < 8796093022208
         ·rw [if_pos c26] at H
          have LMc26 := Aside0.mk c26
          clear c26
          obtain ⟨y434, hy434⟩ : ∃ y_ : List ByteArray, y_ = (([] : List ByteArray) ++ y430) := ⟨_, rfl⟩
          replace H : (if 0 ≤ x6_1 then (if x6_1 < (l0.length : Int) then (if y434.length < 8796093022208 then ((some (y434 ++ [rdOf ByteArray.empty l0 x6_1] : List ByteArray)).bind fun y438 => ((some (x4_1.drop (x7_2 : Int).toNat : List ByteArray)).bind fun y441 => (if y438.length + y441.length < 8796093022208 then (peristyleref11_Texts.l0 k2 l0 (y438 ++ y441) (wrap64 (x6_1 + 1))) else (none)))) else (none)) else (none)) else (none)) = some (r1, r2) := by first | (rw [hy434]; with_reducible exact H) | (have H2_ := (Option.bind_some _ _).symm.trans H; rw [hy434]; with_reducible exact H2_) | (have H2_ := (Option.bind_some _ _).symm.trans H; with_reducible exact H2_) | with_reducible exact H | (rw [hy434]; exact H) | exact H
          have Ny434 := Aside0.mk hy434
          clear hy434
          by_cases c27 : 0 ≤ x6_1
          ·rw [if_pos c27] at H
           have c27b0 : decide (0 ≤ x6_1) = true := decide_eq_true c27
           clear c27
           by_cases c28 : x6_1 < (l0.length : Int)
           ·rw [if_pos c28] at H
            have c28b0 : decide (x6_1 < (l0.length : Int)) = true := decide_eq_true c28
            clear c28
            by_cases c29 : y434.length < 8796093022208
            ·rw [if_pos c29] at H
             have LMc29 := Aside0.mk c29
             clear c29
             obtain ⟨y438, hy438⟩ : ∃ y_ : List ByteArray, y_ = (y434 ++ [rdOf ByteArray.empty l0 x6_1]) := ⟨_, rfl⟩
             replace H : ((some (x4_1.drop (x7_2 : Int).toNat : List ByteArray)).bind fun y441 => (if y438.length + y441.length < 8796093022208 then (peristyleref11_Texts.l0 k2 l0 (y438 ++ y441) (wrap64 (x6_1 + 1))) else (none))) = some (r1, r2) := by first | (rw [hy438]; with_reducible exact H) | (have H2_ := (Option.bind_some _ _).symm.trans H; rw [hy438]; with_reducible exact H2_) | (have H2_ := (Option.bind_some _ _).symm.trans H; with_reducible exact H2_) | with_reducible exact H | (rw [hy438]; exact H) | exact H
             have Ny438 := Aside0.mk hy438
             clear hy438
             have c30b0 := eq_true (of_decide_eq_true (by assumption) : 0 ≤ x7_2)
             have c31b0 := eq_true (of_decide_eq_true (by assumption) : x7_2 ≤ (x4_1.length : Int))
             obtain ⟨y441, hy441⟩ : ∃ y_ : List ByteArray, y_ = (x4_1.drop (x7_2 : Int).toNat) := ⟨_, rfl⟩
             replace H : (if y438.length + y441.length < 8796093022208 then (peristyleref11_Texts.l0 k2 l0 (y438 ++ y441) (wrap64 (x6_1 + 1))) else (none)) = some (r1, r2) := by first | (rw [hy441]; with_reducible exact H) | (have H2_ := (Option.bind_some _ _).symm.trans H; rw [hy441]; with_reducible exact H2_) | (have H2_ := (Option.bind_some _ _).symm.trans H; with_reducible exact H2_) | with_reducible exact H | (rw [hy441]; exact H) | exact H
             have Ny441 := Aside0.mk hy441
             clear hy441
             by_cases c32 : y438.length + y441.length < 8796093022208
             ·rw [if_pos c32] at H
              have LMc32 := Aside0.mk c32
              clear c32
              obtain ⟨y445, hy445⟩ : ∃ y_ : List ByteArray, y_ = (y438 ++ y441) := ⟨_, rfl⟩
              replace H : (peristyleref11_Texts.l0 k2 l0 y445 (wrap64 (x6_1 + 1))) = some (r1, r2) := by first | (rw [hy445]; with_reducible exact H) | (have H2_ := (Option.bind_some _ _).symm.trans H; rw [hy445]; with_reducible exact H2_) | (have H2_ := (Option.bind_some _ _).symm.trans H; with_reducible exact H2_) | with_reducible exact H | (rw [hy445]; exact H) | exact H
              have Ny445 := Aside0.mk hy445
              clear hy445
              have H' := Aside0.mk H
              clear H
              obtain ⟨Ao33, co33, eo33⟩ := Kd.R_slice HO_4.out
              subst eo33
              have q34 : (x7_2 : Int) ≤ ((x4_1.length : Int) : Int) := of_decide_eq_true (by assumption)
              obtain ⟨i034, hi034, _, hsz34, _⟩ := info_parts info9
              have hroom34 : x4_1.length ≤ co33 := (Kd.R_reads' HO_4.out).2.1
              have hC34 : Kd.C Kd.string _ Ao33 x4_1.length x4_1 := (Kd.R_reads' HO_4.out).2.2
              have hcut34 := cut_to (P := Try.prog) 22 9 .i64 Try.underlying22 hi034 Ao33 x4_1.length co33 x7_2 (of_decide_eq_true (by assumption)) q34 hroom34
              have hr34 := Kd.C_take (m := (x7_2 : Int).toNat) hC34 (by omega)
              have hy34 : y430.length = (x7_2 : Int).toNat := (by rw [Ny430.out, List.length_take]; omega)
              rw [← Ny430.out] at hr34
              rw [← hy34] at hcut34
              have HR433 := Aside0.mk hr34
              have HC433 := Aside0.mk (show y430.length ≤ co33 from by omega)
              clear hr34 hC34 hroom34 hi034 hsz34
              have KY34 := Aside0.mk hy34
              clear hy34
              have KL34 := Aside0.mk (show (x7_2 : Int).toNat ≤ x4_1.length from by omega)
              replace q34 := eq_true q34
              go_wp2_with (first | ((with_reducible refine gate_builtin (b := .append) (xs := #[.tmp 49, .tmp 52]) rfl ?_); at_builtin; refine Kd.R_append_rows Kd.string (w0 := w) w.heap.size rfl (.tmp 49) (.tmp 52) 22 9 (.string ⟨#[]⟩) 16 rfl Try.underlying22 info9 rfl (by decide) (by omega) (.slice none 0 0) ([] : List ByteArray) y430 _ _ _ (fun k_ => some k_ ≠ (.slice Ao33 x4_1.length co33 : Value).ownBlock) (fun _ => False) rfl rfl ?aO ?aR (fun _ _ h => h) (fun _ h => h.elim) ?aF ?aB ?aS ?aL ?_; (case aR => repeat (first | exact (by repeat (first | (with_reducible exact HR433.out) | (with_reducible refine Kd.C_alloc ?_ _) | (with_reducible refine Kd.C_drewN ?_ _) | (with_reducible refine Kd.C_drew ?_) | exact HR433.out)) | (with_reducible refine Kd.C_alloc ?_ _) | (with_reducible refine Kd.C_drewN ?_ _) | (with_reducible refine Kd.C_drew ?_))); (case aB => exact (bh HB.out)); (case aF => exact (fun k_ hk => Kd.fresh' (Kd.R_lt (rx HO_4.out)) k_ hk)); (case aO => exact ((Kd.R_nil _ _ _ _ (fun k_ => some k_ ≠ (.slice Ao33 x4_1.length co33 : Value).ownBlock)))); (case aS => exact (below_size (bh HB.out))); (case aL => have := LMc26.out; omega); intro v435 w35 ho hb hg hat; rw [← Ny434.out] at ho; replace HB := Aside0.mk (hb); replace HR433 := Aside0.mk ((show Kd.C Kd.string w35 Ao33 y430.length y430 from by rw [Ny430.out]; exact Kd.C_take (m := (x7_2 : Int).toNat) ((Kd.R_reads' (Kd.R_after (Kd.R_apart_nil (rx HO_4.out)) hg hat)).2.2) KL34.out)); replace HO_4 := Aside0.mk (Kd.R_after (Kd.R_apart_nil (rx HO_4.out)) hg hat); have HO436 := Aside0.mk (ho); clear ho hb hg hat; have p437 : 0 ≤ (x6_1 : Int) := of_decide_eq_true (by assumption); have q437 : x6_1 < (l0.length : Int) := of_decide_eq_true (by assumption); obtain ⟨ad437, e437, hx437_0⟩ := Kd.at_string HR0.out x6_1 p437 q437; cases e437; replace hx437_0 := (HB.out.cell (World.block_lt_of_cell? w _ hx437_0)).trans hx437_0; replace p437 := eq_true p437; replace q437 := eq_true q437) | ((with_reducible refine gate_builtin (b := .append) (xs := #[.tmp 54, .tmp 59]) rfl ?_); at_builtin; refine Kd.R_append Kd.string (w0 := w) w.heap.size rfl (.tmp 54) (.tmp 59) 22 9 (.string ⟨#[]⟩) 16 rfl Try.underlying22 info9 rfl (by decide) (by omega) v435 y434 (rdOf ByteArray.empty l0 x6_1) [.string (rdOf ByteArray.empty l0 x6_1)] (fun k_ => some k_ ≠ (.slice Ao33 x4_1.length co33 : Value).ownBlock) (fun _ => False) rfl rfl ?aP (fun _ hk => hk.elim) ?aF ?aO ?aB ?aS ?aL ?_; (case aP => exact rfl); (case aB => exact (bh HB.out)); (case aF => exact (fun k_ hk => Kd.fresh' (Kd.R_lt (rx HO_4.out)) k_ hk)); (case aO => exact (rx HO436.out)); (case aS => exact (below_size (bh HB.out))); (case aL => have := LMc29.out; omega); intro v439 w36 ho hb hg hat; rw [← Ny438.out] at ho; have n0_ := Aside0.mk (Kd.R_after (ok := (fun _ => True)) (rx HO_4.out) hg hat); have n1_ := Aside0.mk (hb); have n2_ := Aside0.mk ((show Kd.C Kd.string w36 Ao33 y430.length y430 from by rw [Ny430.out]; exact Kd.C_take (m := (x7_2 : Int).toNat) ((Kd.R_reads' (Kd.R_after (ok := (fun _ => True)) (rx HO_4.out) hg hat)).2.2) KL34.out)); have n3_ := Aside0.mk (ho); clear HO_4 HB HR433 HO436; have HO_4 := n0_; have HB := n1_; have HR433 := n2_; have HO440 := n3_; clear n0_ n1_ n2_ n3_; clear ho hb hg hat; have q37 : (x7_2 : Int) ≤ ((x4_1.length : Int) : Int) := of_decide_eq_true (by assumption); obtain ⟨i037, hi037, _, hsz37, _⟩ := info_parts info9; have hroom37 : x4_1.length ≤ co33 := (Kd.R_reads' HO_4.out).2.1; have hC37 : Kd.C Kd.string _ Ao33 x4_1.length x4_1 := (Kd.R_reads' HO_4.out).2.2; have q037 : (0 : Int) ≤ (x7_2 : Int) := of_decide_eq_true (by assumption); have hcut37 := cut_from (P := Try.prog) 22 9 .i64 Try.underlying22 hi037 1 hsz37 Ao33 x4_1.length co33 x7_2 q037 q37; have hr37 := Kd.C_drop (m := (x7_2 : Int).toNat) (c := co33) hC37 (by omega) hroom37; obtain ⟨A37, hA37⟩ : ∃ A1, A1 = (if co33 = (x7_2 : Int).toNat then Ao33 else (Ao33 : Option Addr).map (·.add ((x7_2 : Int).toNat * 1))) := ⟨_, rfl⟩; obtain ⟨c37, hc37⟩ : ∃ c1, c1 = co33 - (x7_2 : Int).toNat := ⟨_, rfl⟩; have hy37 : y441.length = x4_1.length - (x7_2 : Int).toNat := (by rw [Ny441.out, List.length_drop] <;> omega); rw [show (x4_1).drop (x7_2 : Int).toNat = y441 from Ny441.out.symm] at hr37; replace hr37 : Kd.C Kd.string _ A37 y441.length y441 := (by rw [hA37]; exact hr37); rw [← hy37, ← hA37, ← hc37] at hcut37; have HR444 := Aside0.mk hr37; have HC444 := Aside0.mk (show y441.length ≤ c37 from by rw [hy37, hc37]; exact Nat.sub_le_sub_right hroom37 _); clear hr37 hC37 hroom37 hi037 hsz37 hc37; have KY37 := Aside0.mk hy37; have KA37 := Aside0.mk hA37; clear hy37 hA37; have KL37 := Aside0.mk (show (x7_2 : Int).toNat ≤ x4_1.length from by omega); replace q37 := eq_true q37) | ((with_reducible refine gate_builtin (b := .append) (xs := #[.tmp 61, .tmp 64]) rfl ?_); at_builtin; refine Kd.R_append_rows Kd.string (w0 := w) w.heap.size rfl (.tmp 61) (.tmp 64) 22 9 (.string ⟨#[]⟩) 16 rfl Try.underlying22 info9 rfl (by decide) (by omega) v439 y438 y441 _ _ _ (fun k_ => some k_ ≠ (.slice Ao33 x4_1.length co33 : Value).ownBlock) (fun _ => False) rfl rfl ?aO ?aR (fun _ _ h => h) (fun _ h => h.elim) ?aF ?aB ?aS ?aL ?_; (case aR => repeat (first | exact (by repeat (first | (with_reducible exact HR444.out) | (with_reducible refine Kd.C_alloc ?_ _) | (with_reducible refine Kd.C_drewN ?_ _) | (with_reducible refine Kd.C_drew ?_) | exact HR444.out)) | (with_reducible refine Kd.C_alloc ?_ _) | (with_reducible refine Kd.C_drewN ?_ _) | (with_reducible refine Kd.C_drew ?_))); (case aB => exact (bh HB.out)); (case aF => exact (fun k_ hk => Kd.fresh' (Kd.R_lt (rx HO_4.out)) k_ hk)); (case aO => exact (rx HO440.out)); (case aS => exact (below_size (bh HB.out))); (case aL => have := LMc32.out; omega); intro v446 w38 ho hb hg hat; rw [← Ny445.out] at ho; have n0_ := Aside0.mk (Kd.R_after (ok := (fun _ => True)) (rx HO_4.out) hg hat); have n1_ := Aside0.mk (hb); have n2_ := Aside0.mk ((show Kd.C Kd.string w38 Ao33 y430.length y430 from by rw [Ny430.out]; exact Kd.C_take (m := (x7_2 : Int).toNat) ((Kd.R_reads' (Kd.R_after (ok := (fun _ => True)) (rx HO_4.out) hg hat)).2.2) KL34.out)); have n3_ := Aside0.mk ((show Kd.C Kd.string w38 A37 y441.length y441 from by rw [Ny441.out, KA37.out]; exact Kd.C_drop (m := (x7_2 : Int).toNat) (c := co33) ((Kd.R_reads' (Kd.R_after (ok := (fun _ => True)) (rx HO_4.out) hg hat)).2.2) KL37.out ((Kd.R_reads' (Kd.R_after (ok := (fun _ => True)) (rx HO_4.out) hg hat)).2.1))); have n4_ := Aside0.mk (ho); clear HO_4 HB HR433 HR444 HO440; have HO_4 := n0_; have HB := n1_; have HR433 := n2_; have HR444 := n3_; have HO447 := n4_; clear n0_ n1_ n2_ n3_ n4_; clear ho hb hg hat))
              repeat (go_quiet (first | ((with_reducible refine gate_builtin (b := .append) (xs := #[.tmp 49, .tmp 52]) rfl ?_); at_builtin; refine Kd.R_append_rows Kd.string (w0 := w) w.heap.size rfl (.tmp 49) (.tmp 52) 22 9 (.string ⟨#[]⟩) 16 rfl Try.underlying22 info9 rfl (by decide) (by omega) (.slice none 0 0) ([] : List ByteArray) y430 _ _ _ (fun k_ => some k_ ≠ (.slice Ao33 x4_1.length co33 : Value).ownBlock) (fun _ => False) rfl rfl ?aO ?aR (fun _ _ h => h) (fun _ h => h.elim) ?aF ?aB ?aS ?aL ?_; (case aR => repeat (first | exact (by repeat (first | (with_reducible exact HR433.out) | (with_reducible refine Kd.C_alloc ?_ _) | (with_reducible refine Kd.C_drewN ?_ _) | (with_reducible refine Kd.C_drew ?_) | exact HR433.out)) | (with_reducible refine Kd.C_alloc ?_ _) | (with_reducible refine Kd.C_drewN ?_ _) | (with_reducible refine Kd.C_drew ?_))); (case aB => exact (bh HB.out)); (case aF => exact (fun k_ hk => Kd.fresh' (Kd.R_lt (rx HO_4.out)) k_ hk)); (case aO => exact ((Kd.R_nil _ _ _ _ (fun k_ => some k_ ≠ (.slice Ao33 x4_1.length co33 : Value).ownBlock)))); (case aS => exact (below_size (bh HB.out))); (case aL => have := LMc26.out; omega); intro v435 w35 ho hb hg hat; rw [← Ny434.out] at ho; replace HB := Aside0.mk (hb); replace HR433 := Aside0.mk ((show Kd.C Kd.string w35 Ao33 y430.length y430 from by rw [Ny430.out]; exact Kd.C_take (m := (x7_2 : Int).toNat) ((Kd.R_reads' (Kd.R_after (Kd.R_apart_nil (rx HO_4.out)) hg hat)).2.2) KL34.out)); replace HO_4 := Aside0.mk (Kd.R_after (Kd.R_apart_nil (rx HO_4.out)) hg hat); have HO436 := Aside0.mk (ho); clear ho hb hg hat; have p437 : 0 ≤ (x6_1 : Int) := of_decide_eq_true (by assumption); have q437 : x6_1 < (l0.length : Int) := of_decide_eq_true (by assumption); obtain ⟨ad437, e437, hx437_0⟩ := Kd.at_string HR0.out x6_1 p437 q437; cases e437; replace hx437_0 := (HB.out.cell (World.block_lt_of_cell? w _ hx437_0)).trans hx437_0; replace p437 := eq_true p437; replace q437 := eq_true q437) | ((with_reducible refine gate_builtin (b := .append) (xs := #[.tmp 54, .tmp 59]) rfl ?_); at_builtin; refine Kd.R_append Kd.string (w0 := w) w.heap.size rfl (.tmp 54) (.tmp 59) 22 9 (.string ⟨#[]⟩) 16 rfl Try.underlying22 info9 rfl (by decide) (by omega) v435 y434 (rdOf ByteArray.empty l0 x6_1) [.string (rdOf ByteArray.empty l0 x6_1)] (fun k_ => some k_ ≠ (.slice Ao33 x4_1.length co33 : Value).ownBlock) (fun _ => False) rfl rfl ?aP (fun _ hk => hk.elim) ?aF ?aO ?aB ?aS ?aL ?_; (case aP => exact rfl); (case aB => exact (bh HB.out)); (case aF => exact (fun k_ hk => Kd.fresh' (Kd.R_lt (rx HO_4.out)) k_ hk)); (case aO => exact (rx HO436.out)); (case aS => exact (below_size (bh HB.out))); (case aL => have := LMc29.out; omega); intro v439 w36 ho hb hg hat; rw [← Ny438.out] at ho; have n0_ := Aside0.mk (Kd.R_after (ok := (fun _ => True)) (rx HO_4.out) hg hat); have n1_ := Aside0.mk (hb); have n2_ := Aside0.mk ((show Kd.C Kd.string w36 Ao33 y430.length y430 from by rw [Ny430.out]; exact Kd.C_take (m := (x7_2 : Int).toNat) ((Kd.R_reads' (Kd.R_after (ok := (fun _ => True)) (rx HO_4.out) hg hat)).2.2) KL34.out)); have n3_ := Aside0.mk (ho); clear HO_4 HB HR433 HO436; have HO_4 := n0_; have HB := n1_; have HR433 := n2_; have HO440 := n3_; clear n0_ n1_ n2_ n3_; clear ho hb hg hat; have q37 : (x7_2 : Int) ≤ ((x4_1.length : Int) : Int) := of_decide_eq_true (by assumption); obtain ⟨i037, hi037, _, hsz37, _⟩ := info_parts info9; have hroom37 : x4_1.length ≤ co33 := (Kd.R_reads' HO_4.out).2.1; have hC37 : Kd.C Kd.string _ Ao33 x4_1.length x4_1 := (Kd.R_reads' HO_4.out).2.2; have q037 : (0 : Int) ≤ (x7_2 : Int) := of_decide_eq_true (by assumption); have hcut37 := cut_from (P := Try.prog) 22 9 .i64 Try.underlying22 hi037 1 hsz37 Ao33 x4_1.length co33 x7_2 q037 q37; have hr37 := Kd.C_drop (m := (x7_2 : Int).toNat) (c := co33) hC37 (by omega) hroom37; obtain ⟨A37, hA37⟩ : ∃ A1, A1 = (if co33 = (x7_2 : Int).toNat then Ao33 else (Ao33 : Option Addr).map (·.add ((x7_2 : Int).toNat * 1))) := ⟨_, rfl⟩; obtain ⟨c37, hc37⟩ : ∃ c1, c1 = co33 - (x7_2 : Int).toNat := ⟨_, rfl⟩; have hy37 : y441.length = x4_1.length - (x7_2 : Int).toNat := (by rw [Ny441.out, List.length_drop] <;> omega); rw [show (x4_1).drop (x7_2 : Int).toNat = y441 from Ny441.out.symm] at hr37; replace hr37 : Kd.C Kd.string _ A37 y441.length y441 := (by rw [hA37]; exact hr37); rw [← hy37, ← hA37, ← hc37] at hcut37; have HR444 := Aside0.mk hr37; have HC444 := Aside0.mk (show y441.length ≤ c37 from by rw [hy37, hc37]; exact Nat.sub_le_sub_right hroom37 _); clear hr37 hC37 hroom37 hi037 hsz37 hc37; have KY37 := Aside0.mk hy37; have KA37 := Aside0.mk hA37; clear hy37 hA37; have KL37 := Aside0.mk (show (x7_2 : Int).toNat ≤ x4_1.length from by omega); replace q37 := eq_true q37) | ((with_reducible refine gate_builtin (b := .append) (xs := #[.tmp 61, .tmp 64]) rfl ?_); at_builtin; refine Kd.R_append_rows Kd.string (w0 := w) w.heap.size rfl (.tmp 61) (.tmp 64) 22 9 (.string ⟨#[]⟩) 16 rfl Try.underlying22 info9 rfl (by decide) (by omega) v439 y438 y441 _ _ _ (fun k_ => some k_ ≠ (.slice Ao33 x4_1.length co33 : Value).ownBlock) (fun _ => False) rfl rfl ?aO ?aR (fun _ _ h => h) (fun _ h => h.elim) ?aF ?aB ?aS ?aL ?_; (case aR => repeat (first | exact (by repeat (first | (with_reducible exact HR444.out) | (with_reducible refine Kd.C_alloc ?_ _) | (with_reducible refine Kd.C_drewN ?_ _) | (with_reducible refine Kd.C_drew ?_) | exact HR444.out)) | (with_reducible refine Kd.C_alloc ?_ _) | (with_reducible refine Kd.C_drewN ?_ _) | (with_reducible refine Kd.C_drew ?_))); (case aB => exact (bh HB.out)); (case aF => exact (fun k_ hk => Kd.fresh' (Kd.R_lt (rx HO_4.out)) k_ hk)); (case aO => exact (rx HO440.out)); (case aS => exact (below_size (bh HB.out))); (case aL => have := LMc32.out; omega); intro v446 w38 ho hb hg hat; rw [← Ny445.out] at ho; have n0_ := Aside0.mk (Kd.R_after (ok := (fun _ => True)) (rx HO_4.out) hg hat); have n1_ := Aside0.mk (hb); have n2_ := Aside0.mk ((show Kd.C Kd.string w38 Ao33 y430.length y430 from by rw [Ny430.out]; exact Kd.C_take (m := (x7_2 : Int).toNat) ((Kd.R_reads' (Kd.R_after (ok := (fun _ => True)) (rx HO_4.out) hg hat)).2.2) KL34.out)); have n3_ := Aside0.mk ((show Kd.C Kd.string w38 A37 y441.length y441 from by rw [Ny441.out, KA37.out]; exact Kd.C_drop (m := (x7_2 : Int).toNat) (c := co33) ((Kd.R_reads' (Kd.R_after (ok := (fun _ => True)) (rx HO_4.out) hg hat)).2.2) KL37.out ((Kd.R_reads' (Kd.R_after (ok := (fun _ => True)) (rx HO_4.out) hg hat)).2.1))); have n4_ := Aside0.mk (ho); clear HO_4 HB HR433 HR444 HO440; have HO_4 := n0_; have HB := n1_; have HR433 := n2_; have HR444 := n3_; have HO447 := n4_; clear n0_ n1_ n2_ n3_ n4_; clear ho hb hg hat)); try go_wp2_with (first | ((with_reducible refine gate_builtin (b := .append) (xs := #[.tmp 49, .tmp 52]) rfl ?_); at_builtin; refine Kd.R_append_rows Kd.string (w0 := w) w.heap.size rfl (.tmp 49) (.tmp 52) 22 9 (.string ⟨#[]⟩) 16 rfl Try.underlying22 info9 rfl (by decide) (by omega) (.slice none 0 0) ([] : List ByteArray) y430 _ _ _ (fun k_ => some k_ ≠ (.slice Ao33 x4_1.length co33 : Value).ownBlock) (fun _ => False) rfl rfl ?aO ?aR (fun _ _ h => h) (fun _ h => h.elim) ?aF ?aB ?aS ?aL ?_; (case aR => repeat (first | exact (by repeat (first | (with_reducible exact HR433.out) | (with_reducible refine Kd.C_alloc ?_ _) | (with_reducible refine Kd.C_drewN ?_ _) | (with_reducible refine Kd.C_drew ?_) | exact HR433.out)) | (with_reducible refine Kd.C_alloc ?_ _) | (with_reducible refine Kd.C_drewN ?_ _) | (with_reducible refine Kd.C_drew ?_))); (case aB => exact (bh HB.out)); (case aF => exact (fun k_ hk => Kd.fresh' (Kd.R_lt (rx HO_4.out)) k_ hk)); (case aO => exact ((Kd.R_nil _ _ _ _ (fun k_ => some k_ ≠ (.slice Ao33 x4_1.length co33 : Value).ownBlock)))); (case aS => exact (below_size (bh HB.out))); (case aL => have := LMc26.out; omega); intro v435 w35 ho hb hg hat; rw [← Ny434.out] at ho; replace HB := Aside0.mk (hb); replace HR433 := Aside0.mk ((show Kd.C Kd.string w35 Ao33 y430.length y430 from by rw [Ny430.out]; exact Kd.C_take (m := (x7_2 : Int).toNat) ((Kd.R_reads' (Kd.R_after (Kd.R_apart_nil (rx HO_4.out)) hg hat)).2.2) KL34.out)); replace HO_4 := Aside0.mk (Kd.R_after (Kd.R_apart_nil (rx HO_4.out)) hg hat); have HO436 := Aside0.mk (ho); clear ho hb hg hat; have p437 : 0 ≤ (x6_1 : Int) := of_decide_eq_true (by assumption); have q437 : x6_1 < (l0.length : Int) := of_decide_eq_true (by assumption); obtain ⟨ad437, e437, hx437_0⟩ := Kd.at_string HR0.out x6_1 p437 q437; cases e437; replace hx437_0 := (HB.out.cell (World.block_lt_of_cell? w _ hx437_0)).trans hx437_0; replace p437 := eq_true p437; replace q437 := eq_true q437) | ((with_reducible refine gate_builtin (b := .append) (xs := #[.tmp 54, .tmp 59]) rfl ?_); at_builtin; refine Kd.R_append Kd.string (w0 := w) w.heap.size rfl (.tmp 54) (.tmp 59) 22 9 (.string ⟨#[]⟩) 16 rfl Try.underlying22 info9 rfl (by decide) (by omega) v435 y434 (rdOf ByteArray.empty l0 x6_1) [.string (rdOf ByteArray.empty l0 x6_1)] (fun k_ => some k_ ≠ (.slice Ao33 x4_1.length co33 : Value).ownBlock) (fun _ => False) rfl rfl ?aP (fun _ hk => hk.elim) ?aF ?aO ?aB ?aS ?aL ?_; (case aP => exact rfl); (case aB => exact (bh HB.out)); (case aF => exact (fun k_ hk => Kd.fresh' (Kd.R_lt (rx HO_4.out)) k_ hk)); (case aO => exact (rx HO436.out)); (case aS => exact (below_size (bh HB.out))); (case aL => have := LMc29.out; omega); intro v439 w36 ho hb hg hat; rw [← Ny438.out] at ho; have n0_ := Aside0.mk (Kd.R_after (ok := (fun _ => True)) (rx HO_4.out) hg hat); have n1_ := Aside0.mk (hb); have n2_ := Aside0.mk ((show Kd.C Kd.string w36 Ao33 y430.length y430 from by rw [Ny430.out]; exact Kd.C_take (m := (x7_2 : Int).toNat) ((Kd.R_reads' (Kd.R_after (ok := (fun _ => True)) (rx HO_4.out) hg hat)).2.2) KL34.out)); have n3_ := Aside0.mk (ho); clear HO_4 HB HR433 HO436; have HO_4 := n0_; have HB := n1_; have HR433 := n2_; have HO440 := n3_; clear n0_ n1_ n2_ n3_; clear ho hb hg hat; have q37 : (x7_2 : Int) ≤ ((x4_1.length : Int) : Int) := of_decide_eq_true (by assumption); obtain ⟨i037, hi037, _, hsz37, _⟩ := info_parts info9; have hroom37 : x4_1.length ≤ co33 := (Kd.R_reads' HO_4.out).2.1; have hC37 : Kd.C Kd.string _ Ao33 x4_1.length x4_1 := (Kd.R_reads' HO_4.out).2.2; have q037 : (0 : Int) ≤ (x7_2 : Int) := of_decide_eq_true (by assumption); have hcut37 := cut_from (P := Try.prog) 22 9 .i64 Try.underlying22 hi037 1 hsz37 Ao33 x4_1.length co33 x7_2 q037 q37; have hr37 := Kd.C_drop (m := (x7_2 : Int).toNat) (c := co33) hC37 (by omega) hroom37; obtain ⟨A37, hA37⟩ : ∃ A1, A1 = (if co33 = (x7_2 : Int).toNat then Ao33 else (Ao33 : Option Addr).map (·.add ((x7_2 : Int).toNat * 1))) := ⟨_, rfl⟩; obtain ⟨c37, hc37⟩ : ∃ c1, c1 = co33 - (x7_2 : Int).toNat := ⟨_, rfl⟩; have hy37 : y441.length = x4_1.length - (x7_2 : Int).toNat := (by rw [Ny441.out, List.length_drop] <;> omega); rw [show (x4_1).drop (x7_2 : Int).toNat = y441 from Ny441.out.symm] at hr37; replace hr37 : Kd.C Kd.string _ A37 y441.length y441 := (by rw [hA37]; exact hr37); rw [← hy37, ← hA37, ← hc37] at hcut37; have HR444 := Aside0.mk hr37; have HC444 := Aside0.mk (show y441.length ≤ c37 from by rw [hy37, hc37]; exact Nat.sub_le_sub_right hroom37 _); clear hr37 hC37 hroom37 hi037 hsz37 hc37; have KY37 := Aside0.mk hy37; have KA37 := Aside0.mk hA37; clear hy37 hA37; have KL37 := Aside0.mk (show (x7_2 : Int).toNat ≤ x4_1.length from by omega); replace q37 := eq_true q37) | ((with_reducible refine gate_builtin (b := .append) (xs := #[.tmp 61, .tmp 64]) rfl ?_); at_builtin; refine Kd.R_append_rows Kd.string (w0 := w) w.heap.size rfl (.tmp 61) (.tmp 64) 22 9 (.string ⟨#[]⟩) 16 rfl Try.underlying22 info9 rfl (by decide) (by omega) v439 y438 y441 _ _ _ (fun k_ => some k_ ≠ (.slice Ao33 x4_1.length co33 : Value).ownBlock) (fun _ => False) rfl rfl ?aO ?aR (fun _ _ h => h) (fun _ h => h.elim) ?aF ?aB ?aS ?aL ?_; (case aR => repeat (first | exact (by repeat (first | (with_reducible exact HR444.out) | (with_reducible refine Kd.C_alloc ?_ _) | (with_reducible refine Kd.C_drewN ?_ _) | (with_reducible refine Kd.C_drew ?_) | exact HR444.out)) | (with_reducible refine Kd.C_alloc ?_ _) | (with_reducible refine Kd.C_drewN ?_ _) | (with_reducible refine Kd.C_drew ?_))); (case aB => exact (bh HB.out)); (case aF => exact (fun k_ hk => Kd.fresh' (Kd.R_lt (rx HO_4.out)) k_ hk)); (case aO => exact (rx HO440.out)); (case aS => exact (below_size (bh HB.out))); (case aL => have := LMc32.out; omega); intro v446 w38 ho hb hg hat; rw [← Ny445.out] at ho; have n0_ := Aside0.mk (Kd.R_after (ok := (fun _ => True)) (rx HO_4.out) hg hat); have n1_ := Aside0.mk (hb); have n2_ := Aside0.mk ((show Kd.C Kd.string w38 Ao33 y430.length y430 from by rw [Ny430.out]; exact Kd.C_take (m := (x7_2 : Int).toNat) ((Kd.R_reads' (Kd.R_after (ok := (fun _ => True)) (rx HO_4.out) hg hat)).2.2) KL34.out)); have n3_ := Aside0.mk ((show Kd.C Kd.string w38 A37 y441.length y441 from by rw [Ny441.out, KA37.out]; exact Kd.C_drop (m := (x7_2 : Int).toNat) (c := co33) ((Kd.R_reads' (Kd.R_after (ok := (fun _ => True)) (rx HO_4.out) hg hat)).2.2) KL37.out ((Kd.R_reads' (Kd.R_after (ok := (fun _ => True)) (rx HO_4.out) hg hat)).2.1))); have n4_ := Aside0.mk (ho); clear HO_4 HB HR433 HR444 HO440; have HO_4 := n0_; have HB := n1_; have HR433 := n2_; have HR444 := n3_; have HO447 := n4_; clear n0_ n1_ n2_ n3_ n4_; clear ho hb hg hat)))
              go_roundg k2
              case measure => have := HK1.out; have := HK2.out; omega
              case rel => exact ⟨(y445), (wrap64 (x6_1 + 1)), (by first | rfl | (simp; done) | (simp [*]; done)), H', ⟨by have := HK1.out; have := HK2.out; omega⟩, ⟨by (with_reducible repeat (first | apply Kd.R_alloc | apply Kd.R_drewN | apply Kd.R_drew)); exact Kd.R_mono HO447.out (fun _ hk => trivial)⟩, ⟨bh HB.out⟩⟩
             ·rw [if_neg c32] at H
              exact absurd H (by simp)
            ·rw [if_neg c29] at H
             exact absurd H (by simp)
           ·rw [if_neg c28] at H
            exact absurd H (by simp)
          ·rw [if_neg c27] at H
           exact absurd H (by simp)
         ·rw [if_neg c26] at H
          exact absurd H (by simp)
        ·rw [if_neg c25] at H
         exact absurd H (by simp)
       ·rw [if_neg c24] at H
        exact absurd H (by simp)
   ·rw [if_neg c2] at H
    have c2b0 : decide (x6_1 < (l0.length : Int)) = false := decide_eq_false c2
    clear c2
    have H' := Aside0.mk H
    clear H
    go_wp2
    repeat (go_quiet (fail); try go_wp2)
    go_loopg [5, 9] k1 (fun kq v5 v9 w' => ∃ (x5_2 : List Int) (x9_2 : Int), v9 = .int .i64 x9_2 ∧ Aside0 (peristyleref11_Texts.l2 kq l0 x4_1 x5_2 x9_2 = some (r1, r2)) ∧ Aside0 (kq ≤ k1) ∧ Aside0 (Kd.R Kd.string 9 w' w.heap.size (fun _ => True) u4 x4_1) ∧ Aside0 (Kd.R (Kd.int .i64) 3 w' w.heap.size (fun _ => True) v5 x5_2) ∧ Aside0 (Below w.heap.size w w'))
    case atStart => exact ⟨(([] : List Int)), (0), (by first | rfl | (simp; done) | (simp [*]; done)), H', ⟨Nat.le_refl _⟩, ⟨by (with_reducible repeat (first | apply Kd.R_alloc | apply Kd.R_drewN | apply Kd.R_drew)); exact HO_4.out⟩, ⟨nl⟩, ⟨bh HB.out⟩⟩
    case round =>
     clear H'
     try clear c1
     try clear c2
     try clear c2b0
     try clear c3
     try clear c3b0
     try clear c4
     try clear c4b0
     try clear c5
     try clear c5b0
     try clear c6
     try clear c6b0
     try clear c7
     try clear c7b0
     try clear c9
     try clear c9b0
     try clear c9b1
     try clear c11b0
     try clear c12
     try clear c12b0
     try clear c12b1
     try clear c13
     try clear c14
     try clear c15b0
     try clear c16b0
     try clear c17
     try clear q19
     try clear c22
     try clear q22
     try clear c24
     try clear c24b0
     try clear c24b1
     try clear c25
     try clear c25b0
     try clear c25b1
     try clear c26
     try clear c27
     try clear c27b0
     try clear c28
     try clear c28b0
     try clear c29
     try clear c30b0
     try clear c31b0
     try clear c32
     try clear q34
     try clear c37
     try clear q37
     try clear hx408_0
     try clear hx409_0
     try clear hx410_0
     try clear hx411_0
     try clear hx419_0
     try clear hx437_0
     try clear p408
     try clear p409
     try clear p410
     try clear p411
     try clear p419
     try clear p437
     try clear q022
     try clear q037
     try clear q19
     try clear q22
     try clear q34
     try clear q37
     try clear q408
     try clear q409
     try clear q410
     try clear q411
     try clear q419
     try clear q437
     obtain ⟨x5_2, x9_2, rfl, HA, HK2, HO_4, HO_5, HB⟩ := hrel
     cases gk with
     | zero => exact absurd HA.out (by simp [peristyleref11_Texts.l2])
     | succ k2 =>
      have H := HA.out
      clear HA
      simp only [peristyleref11_Texts.l2] at H
      by_cases c39 : x9_2 < (l0.length : Int)
      ·rw [if_pos c39] at H
       have c39b0 : decide (x9_2 < (l0.length : Int)) = true := decide_eq_true c39
       clear c39
       have H' := Aside0.mk H
       clear H
       go_wp2
       repeat (go_quiet (fail); try go_wp2)
       go_loopg [10] k2 (fun kq v10 w' => ∃ (x10_3 : Int), v10 = .int .i64 x10_3 ∧ Aside0 (peristyleref11_Texts.l3 kq l0 x4_1 x5_2 x9_2 x10_3 = some (r1, r2)) ∧ Aside0 (kq ≤ k2) ∧ Aside0 (Kd.R Kd.string 9 w' w.heap.size (fun _ => True) u4 x4_1) ∧ Aside0 (Kd.R (Kd.int .i64) 3 w' w.heap.size (fun _ => True) u5 x5_2) ∧ Aside0 (Below w.heap.size w w'))
       case atStart => exact ⟨(0), (by first | rfl | (simp; done) | (simp [*]; done)), H', ⟨Nat.le_refl _⟩, ⟨by (with_reducible repeat (first | apply Kd.R_alloc | apply Kd.R_drewN | apply Kd.R_drew)); exact HO_4.out⟩, ⟨by (with_reducible repeat (first | apply Kd.R_alloc | apply Kd.R_drewN | apply Kd.R_drew)); exact HO_5.out⟩, ⟨bh HB.out⟩⟩
       case round =>
        clear H'
        try clear c1
        try clear c2
        try clear c2b0
        try clear c3
        try clear c3b0
        try clear c4
        try clear c4b0
        try clear c5
        try clear c5b0
        try clear c6
        try clear c6b0
        try clear c7
        try clear c7b0
        try clear c9
        try clear c9b0
        try clear c9b1
        try clear c11b0
        try clear c12
        try clear c12b0
        try clear c12b1
        try clear c13
        try clear c14
        try clear c15b0
        try clear c16b0
        try clear c17
        try clear q19
        try clear c22
        try clear q22
        try clear c24
        try clear c24b0
        try clear c24b1
        try clear c25
        try clear c25b0
        try clear c25b1
        try clear c26
        try clear c27
        try clear c27b0
        try clear c28
        try clear c28b0
        try clear c29
        try clear c30b0
        try clear c31b0
        try clear c32
        try clear q34
        try clear c37
        try clear q37
        try clear c39
        try clear c39b0
        try clear hx408_0
        try clear hx409_0
        try clear hx410_0
        try clear hx411_0
        try clear hx419_0
        try clear hx437_0
        try clear p408
        try clear p409
        try clear p410
        try clear p411
        try clear p419
        try clear p437
        try clear q022
        try clear q037
        try clear q19
        try clear q22
        try clear q34
        try clear q37
        try clear q408
        try clear q409
        try clear q410
        try clear q411
        try clear q419
        try clear q437
        obtain ⟨x10_3, rfl, HA, HK3, HO_4, HO_5, HB⟩ := hrel
        cases gk with
        | zero => exact absurd HA.out (by simp [peristyleref11_Texts.l3])
        | succ k3 =>
         have H := HA.out
         clear HA
         simp only [peristyleref11_Texts.l3] at H
         by_cases c40 : 0 ≤ x10_3
         ·rw [if_pos c40] at H
          have c40b0 : decide (0 ≤ x10_3) = true := decide_eq_true c40
          clear c40
          by_cases c41 : x10_3 < (x4_1.length : Int)
          ·rw [if_pos c41] at H
           have c41b0 : decide (x10_3 < (x4_1.length : Int)) = true := decide_eq_true c41
           clear c41
           by_cases c42 : 0 ≤ x9_2
           ·rw [if_pos c42] at H
            have c42b0 : decide (0 ≤ x9_2) = true := decide_eq_true c42
            clear c42
            by_cases c43 : x9_2 < (l0.length : Int)
            ·rw [if_pos c43] at H
             have c43b0 : decide (x9_2 < (l0.length : Int)) = true := decide_eq_true c43
             clear c43
             by_cases c44 : (rdOf ByteArray.empty x4_1 x10_3).toList = (rdOf ByteArray.empty l0 x9_2).toList
             ·rw [if_pos c44] at H
              have c44b0 : ((rdOf ByteArray.empty x4_1 x10_3).toList == (rdOf ByteArray.empty l0 x9_2).toList) = true := beq_iff_eq.mpr c44
              have c44b1 : ((rdOf ByteArray.empty x4_1 x10_3).toList != (rdOf ByteArray.empty l0 x9_2).toList) = false := bne_eq_false_iff_eq.mpr c44
              clear c44
              by_cases c45 : x5_2.length < 17592186044416
              ·rw [if_pos c45] at H
               have LMc45 := Aside0.mk c45
               clear c45
               obtain ⟨y450, hy450⟩ : ∃ y_ : List Int, y_ = (x5_2 ++ [x10_3]) := ⟨_, rfl⟩
               replace H : (peristyleref11_Texts.l2 k3 l0 x4_1 y450 (wrap64 (x9_2 + 1))) = some (r1, r2) := by first | (rw [hy450]; with_reducible exact H) | (have H2_ := (Option.bind_some _ _).symm.trans H; rw [hy450]; with_reducible exact H2_) | (have H2_ := (Option.bind_some _ _).symm.trans H; with_reducible exact H2_) | with_reducible exact H | (rw [hy450]; exact H) | exact H
               have Ny450 := Aside0.mk hy450
               clear hy450
               have H' := Aside0.mk H
               clear H
               obtain ⟨Ao46, co46, eo46⟩ := Kd.R_slice HO_4.out
               subst eo46
               have p448 : 0 ≤ (x10_3 : Int) := of_decide_eq_true (by assumption)
               have q448 : x10_3 < (x4_1.length : Int) := of_decide_eq_true (by assumption)
               obtain ⟨ad448, e448, hx448_0⟩ := Kd.at_string (Kd.R_reads' HO_4.out).2.2 x10_3 p448 q448
               cases e448
               replace p448 := eq_true p448
               replace q448 := eq_true q448
               have p449 : 0 ≤ (x9_2 : Int) := of_decide_eq_true (by assumption)
               have q449 : x9_2 < (l0.length : Int) := of_decide_eq_true (by assumption)
               obtain ⟨ad449, e449, hx449_0⟩ := Kd.at_string HR0.out x9_2 p449 q449
               cases e449
               replace hx449_0 := (HB.out.cell (World.block_lt_of_cell? w _ hx449_0)).trans hx449_0
               replace p449 := eq_true p449
               replace q449 := eq_true q449
               go_wp2_with (first | ((with_reducible refine gate_builtin (b := .append) (xs := #[.tmp 83, .tmp 85]) rfl ?_); at_builtin; refine Kd.R_append (Kd.int .i64) (w0 := w) w.heap.size rfl (.tmp 83) (.tmp 85) 25 3 (.int .i64 0) 8 rfl Try.underlying25 info3 rfl (by decide) (by omega) u5 x5_2 x10_3 [.int .i64 x10_3] (fun _ => True) (fun _ => False) rfl rfl ?aP (fun _ hk => hk.elim) ?aF ?aO ?aB ?aS ?aL ?_; (case aP => exact rfl); (case aB => exact (bh HB.out)); (case aF => exact (fun _ _ => trivial)); (case aO => exact (rx HO_5.out)); (case aS => exact (below_size (bh HB.out))); (case aL => have := LMc45.out; omega); intro v451 w47 ho hb hg hat; rw [← Ny450.out] at ho; have n0_ := Aside0.mk (Kd.R_over' (rx HO_4.out) (Kd.R_typed (rx HO_5.out)) (by decide) hg); have n1_ := Aside0.mk (hb); have n2_ := Aside0.mk (ho); clear HO_4 HB HO_5; have HO_4 := n0_; have HB := n1_; have HO452 := n2_; clear n0_ n1_ n2_; clear ho hb hg hat))
               repeat (go_quiet (first | ((with_reducible refine gate_builtin (b := .append) (xs := #[.tmp 83, .tmp 85]) rfl ?_); at_builtin; refine Kd.R_append (Kd.int .i64) (w0 := w) w.heap.size rfl (.tmp 83) (.tmp 85) 25 3 (.int .i64 0) 8 rfl Try.underlying25 info3 rfl (by decide) (by omega) u5 x5_2 x10_3 [.int .i64 x10_3] (fun _ => True) (fun _ => False) rfl rfl ?aP (fun _ hk => hk.elim) ?aF ?aO ?aB ?aS ?aL ?_; (case aP => exact rfl); (case aB => exact (bh HB.out)); (case aF => exact (fun _ _ => trivial)); (case aO => exact (rx HO_5.out)); (case aS => exact (below_size (bh HB.out))); (case aL => have := LMc45.out; omega); intro v451 w47 ho hb hg hat; rw [← Ny450.out] at ho; have n0_ := Aside0.mk (Kd.R_over' (rx HO_4.out) (Kd.R_typed (rx HO_5.out)) (by decide) hg); have n1_ := Aside0.mk (hb); have n2_ := Aside0.mk (ho); clear HO_4 HB HO_5; have HO_4 := n0_; have HB := n1_; have HO452 := n2_; clear n0_ n1_ n2_; clear ho hb hg hat)); try go_wp2_with (first | ((with_reducible refine gate_builtin (b := .append) (xs := #[.tmp 83, .tmp 85]) rfl ?_); at_builtin; refine Kd.R_append (Kd.int .i64) (w0 := w) w.heap.size rfl (.tmp 83) (.tmp 85) 25 3 (.int .i64 0) 8 rfl Try.underlying25 info3 rfl (by decide) (by omega) u5 x5_2 x10_3 [.int .i64 x10_3] (fun _ => True) (fun _ => False) rfl rfl ?aP (fun _ hk => hk.elim) ?aF ?aO ?aB ?aS ?aL ?_; (case aP => exact rfl); (case aB => exact (bh HB.out)); (case aF => exact (fun _ _ => trivial)); (case aO => exact (rx HO_5.out)); (case aS => exact (below_size (bh HB.out))); (case aL => have := LMc45.out; omega); intro v451 w47 ho hb hg hat; rw [← Ny450.out] at ho; have n0_ := Aside0.mk (Kd.R_over' (rx HO_4.out) (Kd.R_typed (rx HO_5.out)) (by decide) hg); have n1_ := Aside0.mk (hb); have n2_ := Aside0.mk (ho); clear HO_4 HB HO_5; have HO_4 := n0_; have HB := n1_; have HO452 := n2_; clear n0_ n1_ n2_; clear ho hb hg hat)))
               go_roundg k3
               case measure => have := HK1.out; have := HK2.out; have := HK3.out; omega
               case rel => exact ⟨(y450), (wrap64 (x9_2 + 1)), (by first | rfl | (simp; done) | (simp [*]; done)), H', ⟨by have := HK1.out; have := HK2.out; have := HK3.out; omega⟩, ⟨by (with_reducible repeat (first | apply Kd.R_alloc | apply Kd.R_drewN | apply Kd.R_drew)); exact HO_4.out⟩, ⟨by (with_reducible repeat (first | apply Kd.R_alloc | apply Kd.R_drewN | apply Kd.R_drew)); exact HO452.out⟩, ⟨bh HB.out⟩⟩
              ·rw [if_neg c45] at H
               exact absurd H (by simp)
             ·rw [if_neg c44] at H
              have c44b0 : ((rdOf ByteArray.empty x4_1 x10_3).toList == (rdOf ByteArray.empty l0 x9_2).toList) = false := beq_eq_false_iff_ne.mpr c44
              have c44b1 : ((rdOf ByteArray.empty x4_1 x10_3).toList != (rdOf ByteArray.empty l0 x9_2).toList) = true := bne_iff_ne.mpr c44
              have H' := Aside0.mk H
              clear H
              obtain ⟨Ao48, co48, eo48⟩ := Kd.R_slice HO_4.out
              subst eo48
              have p448 : 0 ≤ (x10_3 : Int) := of_decide_eq_true (by assumption)
              have q448 : x10_3 < (x4_1.length : Int) := of_decide_eq_true (by assumption)
              obtain ⟨ad448, e448, hx448_0⟩ := Kd.at_string (Kd.R_reads' HO_4.out).2.2 x10_3 p448 q448
              cases e448
              replace p448 := eq_true p448
              replace q448 := eq_true q448
              have p449 : 0 ≤ (x9_2 : Int) := of_decide_eq_true (by assumption)
              have q449 : x9_2 < (l0.length : Int) := of_decide_eq_true (by assumption)
              obtain ⟨ad449, e449, hx449_0⟩ := Kd.at_string HR0.out x9_2 p449 q449
              cases e449
              replace hx449_0 := (HB.out.cell (World.block_lt_of_cell? w _ hx449_0)).trans hx449_0
              replace p449 := eq_true p449
              replace q449 := eq_true q449
              go_wp2
              repeat (go_quiet (fail); try go_wp2)
              go_roundg k3
              case measure => have := HK1.out; have := HK2.out; have := HK3.out; omega
              case rel => exact ⟨(wrap64 (x10_3 + 1)), (by first | rfl | (simp; done) | (simp [*]; done)), H', ⟨by have := HK1.out; have := HK2.out; have := HK3.out; omega⟩, ⟨by (with_reducible repeat (first | apply Kd.R_alloc | apply Kd.R_drewN | apply Kd.R_drew)); exact HO_4.out⟩, ⟨by (with_reducible repeat (first | apply Kd.R_alloc | apply Kd.R_drewN | apply Kd.R_drew)); exact HO_5.out⟩, ⟨bh HB.out⟩⟩
            ·rw [if_neg c43] at H
             exact absurd H (by simp)
           ·rw [if_neg c42] at H
            exact absurd H (by simp)
          ·rw [if_neg c41] at H
           exact absurd H (by simp)
         ·rw [if_neg c40] at H
          exact absurd H (by simp)
      ·rw [if_neg c39] at H
       have c39b0 : decide (x9_2 < (l0.length : Int)) = false := decide_eq_false c39
       clear c39
       simp only [Option.some.injEq, Prod.mk.injEq] at H
       obtain ⟨rfl, rfl⟩ := H
       go_wp2
       repeat (go_quiet (fail); try go_wp2)
       go_ret2
       exact ⟨_, _, er, by (with_reducible repeat (first | apply Kd.R_alloc | apply Kd.R_drewN | apply Kd.R_drew)); exact HO_4.out, by (with_reducible repeat (first | apply Kd.R_alloc | apply Kd.R_drewN | apply Kd.R_drew)); exact HO_5.out, bh HB.out⟩
end Go.Proofs.Ytfohecpfenegkaa.Print
end
section
namespace Go.Proofs.Ytfohecpfenegkaa.Print
open Go.RowKit Go.Proofs.YtfohecpfenegkaaW.PrintWords Go.Proofs.YtfohecpfenegkaaW.PrintLast Go.Proofs.YtfohecpfenegkaaW.PrintMore
attribute [local go_sem] max2_int min2_int max_two min_two max_three min_three max_four min_four   -- for this text's walks alone
set_option linter.unusedVariables false
set_option linter.unusedSimpArgs false
/-! ### slices_Clone_int_int: function 25 (a contract of the session's own) -/
def slices_Clone_int_int.f (l0 : List Int) : Option (List Int) := if l0.length ≤ 2000000000000 then some l0 else none
/-! ### slices_Sort_int_int: function 26 (a contract of the session's own) -/
def slices_Sort_int_int.f (l0 : List Int) : Option (List Int) := if l0.length ≤ 2000000000000 then some (l0.mergeSort fun x y => decide (x ≤ y)) else none
/-! ### slices_Compact_int_int: function 27 (a contract of the session's own) -/
abbrev slices_Compact_int_int.eq (a b : Int) : Prop := a = b
def slices_Compact_int_int.kp (l : List Int) : Nat → List Int
  | 0 => []
  | 1 => l.take 1
  | j + 2 => if slices_Compact_int_int.eq (rd l ((j + 1 : Nat) : Int)) (rd l (j : Int)) then slices_Compact_int_int.kp l (j + 1) else slices_Compact_int_int.kp l (j + 1) ++ [rd l ((j + 1 : Nat) : Int)]
def slices_Compact_int_int.f (l0 : List Int) : Option (List Int) := if l0.length ≤ 2000000000000 then some (slices_Compact_int_int.kp l0 l0.length) else none
theorem slices_Compact_int_int.rd_get (l : List Int) (i : Nat) (h : i < l.length) : rd l (i : Int) = l[i] := by simp [rd, List.getD_eq_getElem?_getD, h]
def slices_Compact_int_int.St (l L : List Int) (i q : Nat) : Prop := L.length = l.length ∧ 1 ≤ i ∧ i < q ∧ q ≤ l.length ∧ L.take i = slices_Compact_int_int.kp l q ∧ L.drop (q - 1) = l.drop (q - 1)
/-! ### cmp_isNaN_int: function 83 -/
def cmp_isNaN_int.f (a0 : Int) : Option (Bool) := some (a0 != a0)
/-! ### cmp_Less_int: function 48 -/
def cmp_Less_int.f (a0 : Int) (a1 : Int) : Option (Bool) := (cmp_isNaN_int.f a0).bind fun t271 => (if t271 = true then ((cmp_isNaN_int.f a1).bind fun t272 => (if t272 = true then (some (decide (a0 < a1))) else (some true))) else (some (decide (a0 < a1))))
/-! ### slices_isNaN_int: function 49 -/
def slices_isNaN_int.f (a0 : Int) : Option (Bool) := some (a0 != a0)
/-! ### slices_BinarySearch_int_int: function 28 -/
def slices_BinarySearch_int_int.l0 : Nat → List Int → Int → Int → Int → Int → Option (Int × Bool)
 | 0, _, _, _, _, _ => none
 | k + 1, x0, x1, x6, x7, x8 => if x7 < x8 then (if 0 ≤ (wrap64 ((IntKind.u64.wrap (wrap64 (x7 + x8))) / 2)) then (if (wrap64 ((IntKind.u64.wrap (wrap64 (x7 + x8))) / 2)) < (x0.length : Int) then ((cmp_Less_int.f (rd x0 (wrap64 ((IntKind.u64.wrap (wrap64 (x7 + x8))) / 2))) x1).bind fun t274 => (if t274 = true then (slices_BinarySearch_int_int.l0 k x0 x1 x6 (wrap64 ((wrap64 ((IntKind.u64.wrap (wrap64 (x7 + x8))) / 2)) + 1)) x8) else (slices_BinarySearch_int_int.l0 k x0 x1 x6 x7 (wrap64 ((IntKind.u64.wrap (wrap64 (x7 + x8))) / 2))))) else (none)) else (none)) else (if x7 < x6 then (if 0 ≤ x7 then (if x7 < (x0.length : Int) then (if (rd x0 x7) = x1 then (some (x7, true)) else ((slices_isNaN_int.f (rd x0 x7)).bind fun t277 => (if t277 = true then ((slices_isNaN_int.f x1).bind fun t278 => (some (x7, t278))) else (some (x7, false))))) else (none)) else (none)) else (some (x7, false)))
def slices_BinarySearch_int_int.f (k : Nat) (l0 : List Int) (a1 : Int) : Option (Int × Bool) := slices_BinarySearch_int_int.l0 k l0 a1 (l0.length : Int) 0 (l0.length : Int)
/-! ### dict_Of_int: function 9 -/
def dict_Of_int.l0 : Nat → List Int → List Int → List Int → Int → Int → Option (List Int × List Int)
 | 0, _, _, _, _, _ => none
 | k + 1, x4, x5, x16, x17, x18 => if x18 < x17 then (if 0 ≤ x18 then (if x18 < (x16.length : Int) then ((slices_BinarySearch_int_int.f k x4 (rd x16 x18)).bind fun bt287 => (if x5.length < 17592186044416 then (dict_Of_int.l0 k x4 (x5 ++ [bt287.1]) x16 x17 (wrap64 (x18 + 1))) else (none))) else (none)) else (none)) else (some (x4, x5))
def dict_Of_int.f (k : Nat) (l0 : List Int) : Option (List Int × List Int) := (slices_Clone_int_int.f l0).bind fun t279 => ((slices_Sort_int_int.f t279).bind fun t282 => ((slices_Compact_int_int.f t282).bind fun t283 => (dict_Of_int.l0 k t283 ([] : List Int) l0 (l0.length : Int) 0)))
end Go.Proofs.Ytfohecpfenegkaa.Print
end
section
namespace Go.Proofs.Ytfohecpfenegkaa.Print
open Go.RowKit Go.Proofs.YtfohecpfenegkaaW.PrintWords Go.Proofs.YtfohecpfenegkaaW.PrintLast Go.Proofs.YtfohecpfenegkaaW.PrintMore
attribute [local go_sem] max2_int min2_int max_two min_two max_three min_three max_four min_four   -- for this text's walks alone
set_option linter.unusedVariables false
set_option linter.unusedSimpArgs false
/-! ### peristyleref11_Ints: function 10 -/
mutual
def peristyleref11_Ints.l0 : Nat → List Int → List Int → Int → Option (List Int × List Int)
 | 0, _, _, _ => none
 | k + 1, x0, x4, x6 => if x6 < (x0.length : Int) then (peristyleref11_Ints.l1 k x0 x4 x6 0) else (peristyleref11_Ints.l2 k x0 x4 ([] : List Int) 0)
def peristyleref11_Ints.l1 : Nat → List Int → List Int → Int → Int → Option (List Int × List Int)
 | 0, _, _, _, _ => none
 | k + 1, x0, x4, x6, x7 => if x7 < (x4.length : Int) then (if 0 ≤ x7 then (if 0 ≤ x6 then (if x6 < (x0.length : Int) then (if (rd x4 x7) < (rd x0 x6) then (peristyleref11_Ints.l1 k x0 x4 x6 (wrap64 (x7 + 1))) else (if (rd x4 x7) = (rd x0 x6) then (peristyleref11_Ints.l0 k x0 x4 (wrap64 (x6 + 1))) else (if x7 ≤ (x4.length : Int) then ((some (x4.take (x7 : Int).toNat : List Int)).bind fun y296 => (if ([] : List Int).length + y296.length < 17592186044416 then ((some (([] : List Int) ++ y296 : List Int)).bind fun y300 => (if y300.length < 17592186044416 then ((some (y300 ++ [rd x0 x6] : List Int)).bind fun y304 => ((some (x4.drop (x7 : Int).toNat : List Int)).bind fun y307 => (if y304.length + y307.length < 17592186044416 then (peristyleref11_Ints.l0 k x0 (y304 ++ y307) (wrap64 (x6 + 1))) else (none)))) else (none))) else (none))) else (none)))) else (none)) else (none)) else (none)) else (if 0 ≤ x7 then (if x7 ≤ (x4.length : Int) then ((some (x4.take (x7 : Int).toNat : List Int)).bind fun y314 => (if ([] : List Int).length + y314.length < 17592186044416 then ((some (([] : List Int) ++ y314 : List Int)).bind fun y318 => (if 0 ≤ x6 then (if x6 < (x0.length : Int) then (if y318.length < 17592186044416 then ((some (y318 ++ [rd x0 x6] : List Int)).bind fun y322 => ((some (x4.drop (x7 : Int).toNat : List Int)).bind fun y325 => (if y322.length + y325.length < 17592186044416 then (peristyleref11_Ints.l0 k x0 (y322 ++ y325) (wrap64 (x6 + 1))) else (none)))) else (none)) else (none)) else (none))) else (none))) else (none)) else (none))
def peristyleref11_Ints.l2 : Nat → List Int → List Int → List Int → Int → Option (List Int × List Int)
 | 0, _, _, _, _ => none
 | k + 1, x0, x4, x5, x9 => if x9 < (x0.length : Int) then (peristyleref11_Ints.l3 k x0 x4 x5 x9 0) else (some (x4, x5))
def peristyleref11_Ints.l3 : Nat → List Int → List Int → List Int → Int → Int → Option (List Int × List Int)
 | 0, _, _, _, _, _ => none
 | k + 1, x0, x4, x5, x9, x10 => if 0 ≤ x10 then (if x10 < (x4.length : Int) then (if 0 ≤ x9 then (if x9 < (x0.length : Int) then (if (rd x4 x10) = (rd x0 x9) then (if x5.length < 17592186044416 then (peristyleref11_Ints.l2 k x0 x4 (x5 ++ [x10]) (wrap64 (x9 + 1))) else (none)) else (peristyleref11_Ints.l3 k x0 x4 x5 x9 (wrap64 (x10 + 1)))) else (none)) else (none)) else (none)) else (none)
end
def peristyleref11_Ints.f (k : Nat) (l0 : List Int) : Option (List Int × List Int) := peristyleref11_Ints.l0 k l0 ([] : List Int) 0
/-! ### dict_ints: function 30 (a contract of the session's own) -/
def dict_ints.l0 : Nat → List Int → ByteArray → Int → Option ByteArray
  | 0, _, _, _ => none
  | k + 1, l0, s, i => if i < (l0.length : Int) then (if 0 ≤ i then ((vint_Put.f (rd l0 i)).bind fun x => if s.size + x.size ≤ 100000000000000 then dict_ints.l0 k l0 (s ++ x) (wrap64 (i + 1)) else none) else none) else some s
def dict_ints.f (k : Nat) (l0 : List Int) : Option (ByteArray × Int) := (dict_ints.l0 k l0 ByteArray.empty 0).bind fun s => some (s, 0)
end Go.Proofs.Ytfohecpfenegkaa.Print
end
section
namespace Go.Proofs.Ytfohecpfenegkaa.Print
open Go.RowKit Go.Proofs.YtfohecpfenegkaaW.PrintWords Go.Proofs.YtfohecpfenegkaaW.PrintLast Go.Proofs.YtfohecpfenegkaaW.PrintMore
attribute [local go_sem] max2_int min2_int max_two min_two max_three min_three max_four min_four   -- for this text's walks alone
set_option linter.unusedVariables false
set_option linter.unusedSimpArgs false
/-! ### dict_put_int_fn30: function 29 -/
def dict_put_int_fn30.f (k : Nat) (l0 : List Int)  : Option (ByteArray × Int) := if (l0.length : Int) > 65536 then (some ((⟨#[]⟩ : ByteArray), 1)) else (if (l0.length : Int) = 0 then (some ((⟨#[]⟩ : ByteArray), 0)) else ((dict_Of_int.f k l0).bind fun bt337 => ((dict_ints.f k bt337.1).bind fun bt343 => (if bt343.2 = 0 then ((pack_Width.f k bt337.2).bind fun t345 => ((pack_Put.f k bt337.2 t345).bind fun bt346 => ((vint_Put.f (bt337.1.length : Int)).bind fun t348 => (if t348.size + bt343.1.size ≤ 9223372036854775807 then (if (t348 ++ bt343.1).size + bt346.1.size ≤ 9223372036854775807 then (some ((t348 ++ bt343.1) ++ bt346.1, bt346.2)) else (none)) else (none))))) else (some ((⟨#[]⟩ : ByteArray), bt343.2))))))
/-! ### dict_PutInts: function 11 -/
def dict_PutInts.f (k : Nat) (l0 : List Int) : Option (ByteArray × Int) := (dict_put_int_fn30.f k l0).bind fun bt349 => (some (bt349.1, bt349.2))
/-! ### peristyleref01_Of: function 89 (a contract of the session's own) -/
theorem peristyleref01_Of.zero : (Try.prog.info? 111).map (fun i => (i.zero, i.size)) = some (some (.agg (arrB zB)), 64) := by kernel_rfl
theorem peristyleref01_Of.size : (Try.prog.info? 111).map (·.size) = some 64 := by kernel_rfl
theorem peristyleref01_Of.elem : (Try.prog.info? 4).isSome = true := by kernel_rfl
set_option maxHeartbeats 800000 in
theorem peristyleref01_Of.calls (a0 : Int) (w : World) :
    Calls Try.prog 89 #[.int .i64 a0] w fun e w' => e = .returned (.agg (arrB (bitsOf a0))) ∧ Below w.heap.size w w' := by
  go_enter Try.func89, Try.ntmps89
  go_wp2_with (first | ((with_reducible refine gate_dst (N := 2) rfl ?_); refine arr_alloc (w0 := w) w.heap.size rfl 111 rfl _ 64 peristyleref01_Of.zero (Below.refl _ _) (Nat.le_refl _) ?_; intro g0 w1 hg0 hb0 hs0 HB1 hbs1 hgr1) | ((with_reducible refine gate_dst (N := 5) rfl ?_); refine arr_build rfl 111 rfl _ 64 4 64 peristyleref01_Of.zero Try.underlying111 peristyleref01_Of.elem ?_) | ((with_reducible refine gate_dst (N := 3) rfl ?_); refine arr_alloc (w0 := w) w.heap.size rfl 111 rfl _ 64 peristyleref01_Of.zero HB1 hbs1 ?_; intro g1 w2 hg1 hb1 hs1 HB2 hbs2 hgr2) | ((with_reducible refine gate_store (t := 111) (p := 3) rfl ?_); refine arr_store (w0 := w) w.heap.size rfl 111 _ _ rfl g1 _ _ rfl rfl hg1 peristyleref01_Of.size rfl (arrB_one _) HB2 hb1 ?_; intro w3 hg2 HB3 hbs3 hgr3))
  have hne : g0 ≠ g1 := by have := blk_lt hg0; omega
  have hg02 := blk_grown (blk_grown hg0 hgr2 (by simp)) hgr3 (by simpa using hne)
  have A1 := Aside0.mk hg02
  have A2 := Aside0.mk hg2
  have A3 := Aside0.mk HB3
  have A4 := Aside0.mk hne
  have HG0 := Aside0.mk hb0
  clear hg0 hb0 hs0 HB1 hbs1 hgr1 hg1 hs1 HB2 hbs2 hgr2 hg2 HB3 hbs3 hgr3 hg02 hne
  go_loopw [4] (fun v4 wr => ∃ k : Nat, k ≤ 64 ∧ v4 = .int .i64 k ∧ Aside0 (wr.heap[g1]? = some (.cells (arrB (fillTo (bitAt a0) zB k)) 111 (0, 0))) ∧ Aside0 (wr.heap[g0]? = some (.cells (arrB zB) 111 (0, 0))) ∧ Aside0 (Below w.heap.size w wr)) (fun v4 _ => 64 - (intOf v4).toNat)
  case atStart => exact ⟨0, by omega, rfl, ⟨by rw [fillTo_zero]; exact A2.out⟩, ⟨A1.out⟩, ⟨A3.out⟩⟩
  case round =>
    obtain ⟨k, hk, rfl, B2, B1, B3⟩ := hrel
    by_cases hlt : k < 64
    · have hc2 : wr.cell? ⟨g1, k, none⟩ = some (.bool (bAt (fillTo (bitAt a0) zB k) k)) := arrB_cell B2.out k (by rw [fillTo_length _ _ _ hk]; exact hlt)
      have hf : wr.frozen? ⟨g1, k, none⟩ = false := blk_frozen B2.out k
      generalize bAt (fillTo (bitAt a0) zB k) k = old at hc2
      have hk0 : (0 : Int) ≤ (k : Int) := by omega
      have hk1 : (k : Int) < 64 := by omega
      go_wp2
      go_roundw
      case rel =>
        have hset := arrB_put B2.out k (bitAt a0 k)
        rw [fillTo_set _ zB k hlt] at hset
        exact ⟨k + 1, by omega, by go_num, ⟨hset⟩, ⟨blk_far B1.out (fun e => A4.out e) _⟩, ⟨B3.out.setCell hb1 _⟩⟩
      case measure => simp [intOf]; omega
    · have hk64 : ¬ (k : Int) < 64 := by omega
      obtain rfl : k = 64 := by omega
      clear hk64
      have hfin : fillTo (bitAt a0) zB 64 = bitsOf a0 := fillTo_all _ zB
      have B4 : Aside0 (wr.heap[g1]? = some (.cells (arrB (bitsOf a0)) 111 (0, 0))) := ⟨by rw [← hfin]; exact B2.out⟩
      have HL := Aside0.mk (bitsOf_length a0)
      have hg0b : w.heap.size ≤ g0 := HG0.out
      clear B2 hfin hlt
      go_wp2_with (first | ((with_reducible refine gate_dst (N := 17) rfl ?_); refine wpList_load_row rfl 111 _ rfl g1 rfl 111 _ (0, 0) _ B4.out Try.underlying111 rfl (by rw [arrB_size, HL.out]; exact peristyleref01_Of.size) ?_) | ((with_reducible refine gate_store (t := 111) (p := 2) rfl ?_); refine arr_store (w0 := w) w.heap.size rfl 111 _ _ rfl g0 _ _ rfl rfl B1.out (by rw [arrB_size, HL.out]; exact peristyleref01_Of.size) (by rw [arrB_size, arrB_size, HL.out]; rfl) (arrB_one _) B3.out hg0b ?_; intro w5 hg5 HB5 hbs5 hgr5))
      refine bodyPost_ret (results_cell_row rfl _ _ g0 111 (arrB (bitsOf a0)) (0, 0) _ rfl hg5 Try.underlying111 rfl (by rw [arrB_size, HL.out]; exact peristyleref01_Of.size)) rfl ⟨rfl, HB5⟩
/-! ### peristyleref01_Word: function 90 (a contract of the session's own) -/
set_option maxHeartbeats 800000 in
theorem peristyleref01_Word.calls (l : List Bool) (hl : l.length = 64) (w : World) :
    Calls Try.prog 90 #[.agg (arrB l)] w fun e w' => e = .returned (.int .i64 (wordTo l 64)) ∧ Below w.heap.size w w' := by
  have HL := Aside0.mk hl
  clear hl
  go_enter Try.func90, Try.ntmps90
  go_wp2_with (first | ((with_reducible refine gate_dst (N := 1) rfl ?_); refine arr_box (w0 := w) w.heap.size rfl 111 _ rfl _ rfl (Below.refl _ _) (Nat.le_refl _) ?_; intro g0 w1 hg0 hb0 hs0 HB1 hbs1 hgr1))
  have A1 := Aside0.mk hg0
  have A2 := Aside0.mk HB1
  clear hg0 hs0 HB1 hbs1 hgr1
  go_loop [3, 4] (fun v3 v4 => ∃ k : Nat, k ≤ 64 ∧ v4 = .int .i64 k ∧ v3 = .int .i64 (wordTo l k)) (fun _ v4 => 64 - (intOf v4).toNat)
  case atStart => exact ⟨0, by omega, rfl, rfl⟩
  case round =>
    obtain ⟨k, hk, rfl, rfl⟩ := hrel
    by_cases hlt : k < 64
    · have hc2 : w1.cell? ⟨g0, k, none⟩ = some (.bool (bAt l k)) := arrB_cell A1.out k (by rw [HL.out]; exact hlt)
      have hk0 : (0 : Int) ≤ (k : Int) := by omega
      have hk1 : (k : Int) < 64 := by omega
      have HS : Aside0 (wordTo l (k + 1) = if bAt l k = true then Go.bits .or .i64 (wordTo l k) (wrap64 (2 ^ k)) else wordTo l k) := ⟨rfl⟩
      generalize wordTo l k = acc at HS ⊢
      generalize bAt l k = b at hc2 HS
      cases b
      all_goals
        go_wp2
        go_round
        case rel => exact ⟨k + 1, by omega, by go_num, by rw [HS.out]; simp⟩
        case measure => simp [intOf]; omega
    · have hk64 : ¬ (k : Int) < 64 := by omega
      obtain rfl : k = 64 := by omega
      clear hk64
      go_wp2
      go_ret
      exact ⟨rfl, A2.out⟩
/-! ### peristyleref01_Zig: function 55 (a contract of the session's own) -/
def zigAt (l : List Bool) (k : Nat) : Bool := if k = 0 then bAt l 63 else (bAt l (k - 1) != bAt l 63)
def peristyleref01_Zig.f (a0 : Int) : Option (Int) := some (wordTo (fillTo (zigAt (bitsOf a0)) zB 64) 64)
set_option maxHeartbeats 1600000 in
theorem peristyleref01_Zig.calls0 (a0 : Int) (w : World) :
    Calls Try.prog 55 #[.int .i64 a0] w fun e w' => e = .returned (.int .i64 (wordTo (fillTo (zigAt (bitsOf a0)) zB 64) 64)) ∧ Below w.heap.size w w' := by
  go_enter Try.func55, Try.ntmps55
  go_wp2_with (first | (go_at_call 89; refine (peristyleref01_Of.calls a0 _).mono ?_; rintro e w1 ⟨rfl, HB1⟩) | ((with_reducible refine gate_dst (N := 3) rfl ?_); refine arr_alloc (w0 := w) w.heap.size rfl 111 rfl _ 64 peristyleref01_Of.zero HB1 HB1.size ?_; intro g0 w2 hg0 hb0 hs0 HB2 hbs2 hgr2) | ((with_reducible refine gate_store (t := 111) (p := 3) rfl ?_); refine arr_store (w0 := w) w.heap.size rfl 111 _ _ rfl g0 _ _ rfl rfl hg0 (by rw [arrB_size, bitsOf_length]; exact peristyleref01_Of.size) (by rw [arrB_size, arrB_size, bitsOf_length]; rfl) (arrB_one _) HB2 hb0 ?_; intro w3 hg3 HB3 hbs3 hgr3) | ((with_reducible refine gate_dst (N := 8) rfl ?_); refine arr_build rfl 111 rfl _ 64 4 64 peristyleref01_Of.zero Try.underlying111 peristyleref01_Of.elem ?_) | ((with_reducible refine gate_dst (N := 4) rfl ?_); refine arr_alloc (w0 := w) w.heap.size rfl 111 rfl _ 64 peristyleref01_Of.zero HB3 hbs3 ?_; intro g1 w4 hg1 hb1 hs1 HB4 hbs4 hgr4) | ((with_reducible refine gate_store (t := 111) (p := 4) rfl ?_); refine arr_store (w0 := w) w.heap.size rfl 111 _ _ rfl g1 _ _ rfl rfl hg1 peristyleref01_Of.size rfl (arrB_one _) HB4 hb1 ?_; intro w5 hg5 HB5 hbs5 hgr5; have hne : g0 ≠ g1 := (by have := blk_lt hg3; omega); have hg05 := blk_grown (blk_grown hg3 hgr4 (by simp)) hgr5 (by simpa using hne); have cb : w5.cell? ⟨g0, 63, none⟩ = some (.bool (bAt (bitsOf a0) 63)) := arrB_cell hg05 63 (by rw [bitsOf_length]; omega); have co : w5.cell? ⟨g1, 0, none⟩ = some (.bool (bAt zB 0)) := arrB_cell hg5 0 (by decide); have fo := blk_frozen hg5 0))
  have A1 := Aside0.mk hg05
  have A2 := Aside0.mk hg5
  have A3 := Aside0.mk HB5
  have A4 := Aside0.mk hne
  clear hg0 hs0 HB1 HB2 hbs2 hgr2 hg3 HB3 hbs3 hgr3 hg1 hs1 HB4 hbs4 hgr4 hg5 HB5 hbs5 hgr5 hne hg05
  have B1 : Aside0 ((w5.setCell ⟨g1, 0, none⟩ (.bool (bAt (bitsOf a0) 63))).heap[g1]? = some (.cells (arrB (fillTo (zigAt (bitsOf a0)) zB 1)) 111 (0, 0))) := ⟨by have := arrB_put A2.out 0 (zigAt (bitsOf a0) 0); rw [show zB.set 0 (zigAt (bitsOf a0) 0) = fillTo (zigAt (bitsOf a0)) zB 1 from by rw [← fillTo_set _ zB 0 (by decide), fillTo_zero]] at this; exact this⟩
  have B2 : Aside0 ((w5.setCell ⟨g1, 0, none⟩ (.bool (bAt (bitsOf a0) 63))).heap[g0]? = some (.cells (arrB (bitsOf a0)) 111 (0, 0))) := ⟨blk_far A1.out (fun e => A4.out e) _⟩
  have B3 : Aside0 (Below w.heap.size w (w5.setCell ⟨g1, 0, none⟩ (.bool (bAt (bitsOf a0) 63)))) := ⟨A3.out.setCell hb1 _⟩
  clear cb co fo A1 A2 A3
  go_loopw [5] (fun v5 wr => ∃ k : Nat, 1 ≤ k ∧ k ≤ 64 ∧ v5 = .int .i64 k ∧ Aside0 (wr.heap[g1]? = some (.cells (arrB (fillTo (zigAt (bitsOf a0)) zB k)) 111 (0, 0))) ∧ Aside0 (wr.heap[g0]? = some (.cells (arrB (bitsOf a0)) 111 (0, 0))) ∧ Aside0 (Below w.heap.size w wr)) (fun v5 _ => 64 - (intOf v5).toNat)
  case atStart => exact ⟨1, by omega, by omega, rfl, B1, B2, B3⟩
  case round =>
    clear B1 B2 B3
    obtain ⟨k, h1, hk, rfl, C1, C2, C3⟩ := hrel
    have HL : Aside0 ((fillTo (zigAt (bitsOf a0)) zB k).length = 64) := ⟨fillTo_length _ zB k hk⟩
    by_cases hlt : k < 64
    · obtain ⟨m, rfl⟩ : ∃ m, k = m + 1 := ⟨k - 1, by omega⟩
      have e1 : ((m + 1 : Nat) : Int) = (m : Int) + 1 := by omega
      have co : wr.cell? ⟨g1, m + 1, none⟩ = some (.bool (bAt (fillTo (zigAt (bitsOf a0)) zB (m + 1)) (m + 1))) := arrB_cell C1.out (m + 1) (by rw [HL.out]; omega)
      have fo : wr.frozen? ⟨g1, m + 1, none⟩ = false := blk_frozen C1.out (m + 1)
      have cb : wr.cell? ⟨g0, m, none⟩ = some (.bool (bAt (bitsOf a0) m)) := arrB_cell C2.out m (by rw [bitsOf_length]; omega)
      have cb63 : wr.cell? ⟨g0, 63, none⟩ = some (.bool (bAt (bitsOf a0) 63)) := arrB_cell C2.out 63 (by rw [bitsOf_length]; omega)
      generalize bAt (fillTo (zigAt (bitsOf a0)) zB (m + 1)) (m + 1) = old at co
      have hk0 : (0 : Int) ≤ (m : Int) := by omega
      have hk1 : (m : Int) < 63 := by omega
      rw [e1]
      clear e1 h1 hk hlt
      go_wp2
      go_region
      go_wp2
      go_roundw
      case rel =>
        have hset := arrB_put C1.out (m + 1) (zigAt (bitsOf a0) (m + 1))
        rw [fillTo_set _ zB (m + 1) (by rw [zB_length]; omega)] at hset
        have hz : zigAt (bitsOf a0) (m + 1) = !(bAt (bitsOf a0) m == bAt (bitsOf a0) 63) := by simp [zigAt, bne]
        rw [hz] at hset
        exact ⟨m + 2, by omega, by omega, by go_num, ⟨hset⟩, ⟨blk_far C2.out (fun e => A4.out e) _⟩, ⟨below_drew (C3.out.setCell hb1 _)⟩⟩
      case measure => simp [intOf]; omega
    · have hk64 : ¬ (k : Int) < 64 := by omega
      obtain rfl : k = 64 := by omega
      clear hk64 hlt h1 hk
      go_wp2_with (first | ((with_reducible refine gate_dst (N := 25) rfl ?_); refine wpList_load_row rfl 111 _ rfl g1 rfl 111 _ (0, 0) _ C1.out Try.underlying111 rfl (by rw [arrB_size, HL.out]; exact peristyleref01_Of.size) ?_) | (go_at_call 90; refine (peristyleref01_Word.calls _ HL.out _).mono ?_; rintro e w9 ⟨rfl, HB9⟩))
      go_ret
      exact ⟨rfl, below_step C3.out HB9⟩
theorem peristyleref01_Zig.calls (a0 : Int) (r : Int) (w : World) (h : peristyleref01_Zig.f a0 = some r) :
    Calls Try.prog 55 #[.int .i64 a0] w fun e w' => e = .returned (.int .i64 r) ∧ Below w.heap.size w w' := by
  obtain rfl := Option.some.inj h
  exact peristyleref01_Zig.calls0 a0 w
/-! ### peristyleref01_Field: function 56 (a contract of the session's own) -/
def peristyleref01_Field.f (a0 a1 a2 : Int) : Option (Int) := some (wordTo (fillTo (fun k => bAt (bitsOf a0) (a1.toNat + k)) zB (fieldN a1 a2)) 64)
set_option maxHeartbeats 1600000 in
theorem peristyleref01_Field.calls0 (a0 a1 a2 : Int) (w : World) :
    Calls Try.prog 56 #[.int .i64 a0, .int .i64 a1, .int .i64 a2] w fun e w' => e = .returned (.int .i64 (wordTo (fillTo (fun k => bAt (bitsOf a0) (a1.toNat + k)) zB (fieldN a1 a2)) 64)) ∧ Below w.heap.size w w' := by
  go_enter Try.func56, Try.ntmps56
  go_wp2_with (first | (go_at_call 89; refine (peristyleref01_Of.calls a0 _).mono ?_; rintro e w1 ⟨rfl, HB1⟩) | ((with_reducible refine gate_dst (N := 7) rfl ?_); refine arr_alloc (w0 := w) w.heap.size rfl 111 rfl _ 64 peristyleref01_Of.zero HB1 HB1.size ?_; intro g0 w2 hg0 hb0 hs0 HB2 hbs2 hgr2) | ((with_reducible refine gate_store (t := 111) (p := 7) rfl ?_); refine arr_store (w0 := w) w.heap.size rfl 111 _ _ rfl g0 _ _ rfl rfl hg0 (by rw [arrB_size, bitsOf_length]; exact peristyleref01_Of.size) (by rw [arrB_size, arrB_size, bitsOf_length]; rfl) (arrB_one _) HB2 hb0 ?_; intro w3 hg3 HB3 hbs3 hgr3) | ((with_reducible refine gate_dst (N := 12) rfl ?_); refine arr_build rfl 111 rfl _ 64 4 64 peristyleref01_Of.zero Try.underlying111 peristyleref01_Of.elem ?_) | ((with_reducible refine gate_dst (N := 8) rfl ?_); refine arr_alloc (w0 := w) w.heap.size rfl 111 rfl _ 64 peristyleref01_Of.zero HB3 hbs3 ?_; intro g1 w4 hg1 hb1 hs1 HB4 hbs4 hgr4) | ((with_reducible refine gate_store (t := 111) (p := 8) rfl ?_); refine arr_store (w0 := w) w.heap.size rfl 111 _ _ rfl g1 _ _ rfl rfl hg1 peristyleref01_Of.size rfl (arrB_one _) HB4 hb1 ?_; intro w5 hg5 HB5 hbs5 hgr5))
  have hne : g0 ≠ g1 := by have := blk_lt hg3; omega
  have hg05 := blk_grown (blk_grown hg3 hgr4 (by simp)) hgr5 (by simpa using hne)
  have A1 := Aside0.mk hg05
  have A2 := Aside0.mk hg5
  have A3 := Aside0.mk HB5
  have A4 := Aside0.mk hne
  clear hg0 hs0 HB1 HB2 hbs2 hgr2 hg3 HB3 hbs3 hgr3 hg1 hs1 HB4 hbs4 hgr4 hg5 HB5 hbs5 hgr5 hne hg05
  go_loopw [9] (fun v9 wr => ∃ k : Nat, Aside0 (k ≤ fieldN a1 a2) ∧ v9 = .int .i64 k ∧ Aside0 (wr.heap[g1]? = some (.cells (arrB (fillTo (fun k => bAt (bitsOf a0) (a1.toNat + k)) zB k)) 111 (0, 0))) ∧ Aside0 (wr.heap[g0]? = some (.cells (arrB (bitsOf a0)) 111 (0, 0))) ∧ Aside0 (Below w.heap.size w wr)) (fun v9 _ => 64 - (intOf v9).toNat)
  case atStart => exact ⟨0, ⟨Nat.zero_le _⟩, rfl, ⟨by rw [fillTo_zero]; exact A2.out⟩, A1, A3⟩
  case round =>
    clear A1 A2 A3
    obtain ⟨k, HK, rfl, C1, C2, C3⟩ := hrel
    have HL : Aside0 ((fillTo (fun k => bAt (bitsOf a0) (a1.toNat + k)) zB k).length = 64) := ⟨fillTo_length _ zB k (Nat.le_trans HK.out (fieldN_le _ _))⟩
    have hk0 : (0 : Int) ≤ (k : Int) := by omega
    by_cases hlt : k < fieldN a1 a2
    · obtain ⟨h0, h1, h2, h3, h4⟩ := fieldN_in hlt
      obtain ⟨p, rfl⟩ := Int.eq_ofNat_of_zero_le h0
      have HLT := Aside0.mk hlt
      clear hlt
      have co : wr.cell? ⟨g1, k, none⟩ = some (.bool (bAt (fillTo (fun k => bAt (bitsOf a0) ((p : Int).toNat + k)) zB k) k)) := arrB_cell C1.out k (by rw [HL.out]; omega)
      have fo : wr.frozen? ⟨g1, k, none⟩ = false := blk_frozen C1.out k
      have cb : wr.cell? ⟨g0, p + k, none⟩ = some (.bool (bAt (bitsOf a0) (p + k))) := arrB_cell C2.out (p + k) (by rw [bitsOf_length]; omega)
      generalize bAt (fillTo (fun k => bAt (bitsOf a0) ((p : Int).toNat + k)) zB k) k = old at co
      go_wp2
      go_roundw
      case rel =>
        have hset := arrB_put C1.out k (bAt (bitsOf a0) (p + k))
        rw [show bAt (bitsOf a0) (p + k) = (fun k => bAt (bitsOf a0) ((p : Int).toNat + k)) k from rfl, fillTo_set _ zB k (by rw [zB_length]; omega)] at hset
        exact ⟨k + 1, ⟨HLT.out⟩, by go_num, ⟨hset⟩, ⟨blk_far C2.out (fun e => A4.out e) _⟩, ⟨C3.out.setCell hb1 _⟩⟩
      case measure => simp [intOf]; omega
    · have hkn : k = fieldN a1 a2 := by have := HK.out; omega
      have HX := Aside0.mk (fieldN_out hkn)
      have HF : Aside0 (wordTo (fillTo (fun k => bAt (bitsOf a0) (a1.toNat + k)) zB k) 64 = wordTo (fillTo (fun k => bAt (bitsOf a0) (a1.toNat + k)) zB (fieldN a1 a2)) 64) := ⟨by rw [← hkn]⟩
      clear hlt HK hkn
      rcases HX.out with hx | hx | hx | ⟨hx0, hx1, hx⟩
      all_goals
        clear HX
        by_cases h64 : (k : Int) < 64
      all_goals (try by_cases hw : (k : Int) < a2)
      all_goals (try by_cases hp : 0 ≤ a1)
      all_goals first | (exfalso; omega; done) | skip
      all_goals
        go_wp2_with (first | ((with_reducible refine gate_dst (N := 43) rfl ?_); refine wpList_load_row rfl 111 _ rfl g1 rfl 111 _ (0, 0) _ C1.out Try.underlying111 rfl (by rw [arrB_size, HL.out]; exact peristyleref01_Of.size) ?_) | (go_at_call 90; refine (peristyleref01_Word.calls _ HL.out _).mono ?_; rintro e w9 ⟨rfl, HB9⟩))
        go_ret
        exact ⟨by rw [← HF.out]; rfl, below_step C3.out HB9⟩
theorem peristyleref01_Field.calls (a0 a1 a2 : Int) (r : Int) (w : World) (h : peristyleref01_Field.f a0 a1 a2 = some r) :
    Calls Try.prog 56 #[.int .i64 a0, .int .i64 a1, .int .i64 a2] w fun e w' => e = .returned (.int .i64 r) ∧ Below w.heap.size w w' := by
  obtain rfl := Option.some.inj h
  exact peristyleref01_Field.calls0 a0 a1 a2 w
/-! ### peristyleref02_Put: function 31 -/
def peristyleref02_Put.l0 : Nat → Int → List Int → Option (ByteArray)
 | 0, _, _ => none
 | k + 1, x3, x4 => (peristyleref01_Field.f x3 0 7).bind fun t352 => ((peristyleref01_Field.f x3 7 64).bind fun t353 => (if t353 = 0 then (if x4.length < 140737488355328 then (some (strOfNums (x4 ++ [(t352) % 256]))) else (none)) else (if x4.length < 140737488355328 then (peristyleref02_Put.l0 k t353 (x4 ++ [(wrap64 (128 + t352)) % 256])) else (none))))
def peristyleref02_Put.f (k : Nat) (a0 : Int) : Option (ByteArray) := (peristyleref01_Zig.f a0).bind fun t351 => (peristyleref02_Put.l0 k t351 ([] : List Int))
theorem peristyleref02_Put.l0_succ (k : Nat) (x3 : Int) (x4 : List Int) : peristyleref02_Put.l0 (k + 1) x3 x4 = ((peristyleref01_Field.f x3 0 7).bind fun t352 => ((peristyleref01_Field.f x3 7 64).bind fun t353 => (if t353 = 0 then (if x4.length < 140737488355328 then (some (strOfNums (x4 ++ [(t352) % 256]))) else (none)) else (if x4.length < 140737488355328 then (peristyleref02_Put.l0 k t353 (x4 ++ [(wrap64 (128 + t352)) % 256])) else (none))))) := by
 simp only [peristyleref02_Put.l0]
set_option maxHeartbeats 8000000 in
set_option maxRecDepth 100000 in
theorem peristyleref02_Put.calls (k : Nat) (a0 : Int) (r : ByteArray) (w : World) (h : peristyleref02_Put.f k a0 = some r) :
  Calls Try.prog 31 #[.int .i64 a0] w fun e w' => e = .returned (.string r) ∧ Below w.heap.size w w' := by
 have HB := Aside0.mk (Below.refl w.heap.size w)
 have H : ((peristyleref01_Zig.f a0).bind fun t351 => (peristyleref02_Put.l0 k t351 ([] : List Int))) = some r := h
 clear h
 replace H := Option.bind_eq_some_iff.mp H
 obtain ⟨t351, A20, H⟩ := H
 replace H : (peristyleref02_Put.l0 k t351 ([] : List Int)) = some r := H
 have A2 := Aside0.mk A20
 clear A20
 have H' := Aside0.mk H
 clear H
 go_enter Try.func31, Try.ntmps31
 go_wp2_with (first | ((with_reducible refine gate_callee (f := 55) rfl ?_); refine goesL_ (some 7) rfl rfl Try.func55 (by kernel_rfl) rfl #[.int .i64 a0] rfl (by (try simp only [List.map_toArray, List.map_cons, List.map_nil]); first | done | rfl) ?_; (with_reducible refine (peristyleref01_Zig.calls a0 t351 _ A2.out).mono ?_); rintro e w3 ⟨rfl, hb⟩; refine ⟨_, rfl, ?_⟩; replace HB := bsa HB hb; (try clear hb)))
 go_loopg [3, 4] k (fun kq v3 v4 w' => ∃ (x3_1 : Int) (x4_1 : List Int), v3 = .int .i64 x3_1 ∧ Aside0 (peristyleref02_Put.l0 kq x3_1 x4_1 = some r) ∧ Aside0 (kq ≤ k) ∧ Aside0 (Kd.R (Kd.int .u8) 5 w' w.heap.size (fun _ => True) v4 x4_1) ∧ Aside0 (Below w.heap.size w w'))
 case atStart => exact ⟨(t351), (([] : List Int)), (by first | rfl | (simp; done) | (simp [*]; done)), H', ⟨Nat.le_refl _⟩, ⟨nl⟩, ⟨bh HB.out⟩⟩
 case round =>
  clear H'
  obtain ⟨x3_1, x4_1, rfl, HA, HK1, HO_4, HB⟩ := hrel
  cases gk with
  | zero => exact absurd HA.out (by simp [peristyleref02_Put.l0])
  | succ k1 =>
   have H := HA.out
   clear HA
   simp only [peristyleref02_Put.l0] at H
   replace H := Option.bind_eq_some_iff.mp H
   obtain ⟨t352, A40, H⟩ := H
   replace H : ((peristyleref01_Field.f x3_1 7 64).bind fun t353 => (if t353 = 0 then (if x4_1.length < 140737488355328 then (some (strOfNums (x4_1 ++ [(t352) % 256]))) else (none)) else (if x4_1.length < 140737488355328 then (peristyleref02_Put.l0 k1 t353 (x4_1 ++ [(wrap64 (128 + t352)) % 256])) else (none)))) = some r := H
   have A4 := Aside0.mk A40
   clear A40
   replace H := Option.bind_eq_some_iff.mp H
   obtain ⟨t353, A50, H⟩ := H
   replace H : (if t353 = 0 then (if x4_1.length < 140737488355328 then (some (strOfNums (x4_1 ++ [(t352) % 256]))) else (none)) else (if x4_1.length < 140737488355328 then (peristyleref02_Put.l0 k1 t353 (x4_1 ++ [(wrap64 (128 + t352)) % 256])) else (none))) = some r := H
   have A5 := Aside0.mk A50
   clear A50
   by_cases c6 : t353 = 0
   ·rw [if_pos c6] at H
    have c6b0 : (t353 == 0) = true := beq_iff_eq.mpr c6
    have c6b1 : (t353 != 0) = false := bne_eq_false_iff_eq.mpr c6
    clear c6
    by_cases c7 : x4_1.length < 140737488355328
    ·rw [if_pos c7] at H
     have LMc7 := Aside0.mk c7
     clear c7
     obtain ⟨y354, hy354⟩ : ∃ y_ : List Int, y_ = (x4_1 ++ [(t352) % 256]) := ⟨_, rfl⟩
     replace H : (some (strOfNums y354)) = some r := by first | (rw [hy354]; with_reducible exact H) | (have H2_ := (Option.bind_some _ _).symm.trans H; rw [hy354]; with_reducible exact H2_) | (have H2_ := (Option.bind_some _ _).symm.trans H; with_reducible exact H2_) | with_reducible exact H | (rw [hy354]; exact H) | exact H
     have Ny354 := Aside0.mk hy354
     clear hy354
     obtain rfl := Option.some.inj H
     go_wp2_with (first | ((with_reducible refine gate_callee (f := 56) rfl ?_); refine goesL_ (some 9) rfl rfl Try.func56 (by kernel_rfl) rfl #[.int .i64 x3_1, .int .i64 0, .int .i64 7] rfl (by (try simp only [List.map_toArray, List.map_cons, List.map_nil]); first | done | rfl) ?_; (with_reducible refine (peristyleref01_Field.calls x3_1 0 7 t352 _ A4.out).mono ?_); rintro e w8 ⟨rfl, hb⟩; refine ⟨_, rfl, ?_⟩; replace HO_4 := rba HO_4 hb; replace HB := bsa HB hb; (try clear hb); (try clear hk)) | ((with_reducible refine gate_callee (f := 56) rfl ?_); refine goesL_ (some 11) rfl rfl Try.func56 (by kernel_rfl) rfl #[.int .i64 x3_1, .int .i64 7, .int .i64 64] rfl (by (try simp only [List.map_toArray, List.map_cons, List.map_nil]); first | done | rfl) ?_; (with_reducible refine (peristyleref01_Field.calls x3_1 7 64 t353 _ A5.out).mono ?_); rintro e w9 ⟨rfl, hb⟩; refine ⟨_, rfl, ?_⟩; replace HO_4 := rba HO_4 hb; replace HB := bsa HB hb; (try clear hb); (try clear hk)) | ((with_reducible refine gate_builtin (b := .append) (xs := #[.tmp 14, .tmp 17]) rfl ?_); at_builtin; refine Kd.R_append (Kd.int .u8) (w0 := w) w.heap.size rfl (.tmp 14) (.tmp 17) 76 5 (.int .u8 0) 1 rfl Try.underlying76 info5 rfl (by decide) (by omega) u4 x4_1 ((t352) % 256) [.int .u8 ((t352) % 256)] (fun _ => True) (fun _ => False) rfl rfl ?aP (fun _ hk => hk.elim) ?aF ?aO ?aB ?aS ?aL ?_; (case aP => exact rfl); (case aB => exact (bh HB.out)); (case aF => exact (fun _ _ => trivial)); (case aO => exact (rx HO_4.out)); (case aS => exact (below_size (bh HB.out))); (case aL => have := LMc7.out; omega); intro v355 w10 ho hb hg hat; rw [← Ny354.out] at ho; have n0_ := Aside0.mk (hb); have n1_ := Aside0.mk (ho); clear HB HO_4; have HB := n0_; have HO356 := n1_; clear n0_ n1_; clear ho hb hg hat; have hcv11 := own_string (P := Try.prog) Try.underlying76 Try.underlying5 Try.underlying9 (Kd.own_of_R HO356.out)))
     go_ret
     exact ⟨er, bh HB.out⟩
    ·rw [if_neg c7] at H
     exact absurd H (by simp)
   ·rw [if_neg c6] at H
    have c6b0 : (t353 == 0) = false := beq_eq_false_iff_ne.mpr c6
    have c6b1 : (t353 != 0) = true := bne_iff_ne.mpr c6
    by_cases c12 : x4_1.length < 140737488355328
    ·rw [if_pos c12] at H
     have LMc12 := Aside0.mk c12
     clear c12
     obtain ⟨y357, hy357⟩ : ∃ y_ : List Int, y_ = (x4_1 ++ [(wrap64 (128 + t352)) % 256]) := ⟨_, rfl⟩
     replace H : (peristyleref02_Put.l0 k1 t353 y357) = some r := by first | (rw [hy357]; with_reducible exact H) | (have H2_ := (Option.bind_some _ _).symm.trans H; rw [hy357]; with_reducible exact H2_) | (have H2_ := (Option.bind_some _ _).symm.trans H; with_reducible exact H2_) | with_reducible exact H | (rw [hy357]; exact H) | exact H
     have Ny357 := Aside0.mk hy357
     clear hy357
     have H' := Aside0.mk H
     clear H
     go_wp2_with (first | ((with_reducible refine gate_callee (f := 56) rfl ?_); refine goesL_ (some 9) rfl rfl Try.func56 (by kernel_rfl) rfl #[.int .i64 x3_1, .int .i64 0, .int .i64 7] rfl (by (try simp only [List.map_toArray, List.map_cons, List.map_nil]); first | done | rfl) ?_; (with_reducible refine (peristyleref01_Field.calls x3_1 0 7 t352 _ A4.out).mono ?_); rintro e w13 ⟨rfl, hb⟩; refine ⟨_, rfl, ?_⟩; replace HO_4 := rba HO_4 hb; replace HB := bsa HB hb; (try clear hb); (try clear hk)) | ((with_reducible refine gate_callee (f := 56) rfl ?_); refine goesL_ (some 11) rfl rfl Try.func56 (by kernel_rfl) rfl #[.int .i64 x3_1, .int .i64 7, .int .i64 64] rfl (by (try simp only [List.map_toArray, List.map_cons, List.map_nil]); first | done | rfl) ?_; (with_reducible refine (peristyleref01_Field.calls x3_1 7 64 t353 _ A5.out).mono ?_); rintro e w14 ⟨rfl, hb⟩; refine ⟨_, rfl, ?_⟩; replace HO_4 := rba HO_4 hb; replace HB := bsa HB hb; (try clear hb); (try clear hk)) | ((with_reducible refine gate_builtin (b := .append) (xs := #[.tmp 20, .tmp 24]) rfl ?_); at_builtin; refine Kd.R_append (Kd.int .u8) (w0 := w) w.heap.size rfl (.tmp 20) (.tmp 24) 76 5 (.int .u8 0) 1 rfl Try.underlying76 info5 rfl (by decide) (by omega) u4 x4_1 ((wrap64 (128 + t352)) % 256) [.int .u8 ((wrap64 (128 + t352)) % 256)] (fun _ => True) (fun _ => False) rfl rfl ?aP (fun _ hk => hk.elim) ?aF ?aO ?aB ?aS ?aL ?_; (case aP => exact rfl); (case aB => exact (bh HB.out)); (case aF => exact (fun _ _ => trivial)); (case aO => exact (rx HO_4.out)); (case aS => exact (below_size (bh HB.out))); (case aL => have := LMc12.out; omega); intro v358 w15 ho hb hg hat; rw [← Ny357.out] at ho; have n0_ := Aside0.mk (hb); have n1_ := Aside0.mk (ho); clear HB HO_4; have HB := n0_; have HO359 := n1_; clear n0_ n1_; clear ho hb hg hat))
     go_roundg k1
     case measure => have := HK1.out; omega
     case rel => exact ⟨(t353), (y357), (by first | rfl | (simp; done) | (simp [*]; done)), H', ⟨by have := HK1.out; omega⟩, ⟨by (with_reducible repeat (first | apply Kd.R_alloc | apply Kd.R_drewN | apply Kd.R_drew)); exact HO359.out⟩, ⟨bh HB.out⟩⟩
    ·rw [if_neg c12] at H
     exact absurd H (by simp)
/-! ### peristyleref01_Width: function 92 (a contract of the session's own) -/
def peristyleref01_Width.f (a0 : Int) : Option (Int) := some (topTo (bitsOf a0) 64)
set_option maxHeartbeats 1600000 in
theorem peristyleref01_Width.calls0 (a0 : Int) (w : World) :
    Calls Try.prog 92 #[.int .i64 a0] w fun e w' => e = .returned (.int .i64 (topTo (bitsOf a0) 64)) ∧ Below w.heap.size w w' := by
  go_enter Try.func92, Try.ntmps92
  go_wp2_with (first | (go_at_call 89; refine (peristyleref01_Of.calls _ _).mono ?_; rintro e w1 ⟨rfl, HB1⟩) | ((with_reducible refine gate_dst (N := 3) rfl ?_); refine arr_alloc (w0 := w) w.heap.size rfl 111 rfl _ 64 peristyleref01_Of.zero HB1 HB1.size ?_; intro g0 w2 hg0 hb0 hs0 HB2 hbs2 hgr2) | ((with_reducible refine gate_store (t := 111) (p := 3) rfl ?_); refine arr_store (w0 := w) w.heap.size rfl 111 _ _ rfl g0 _ _ rfl rfl hg0 (by rw [arrB_size, bitsOf_length]; exact peristyleref01_Of.size) (by rw [arrB_size, arrB_size, bitsOf_length]; rfl) (arrB_one _) HB2 hb0 ?_; intro w3 hg3 HB3 hbs3 hgr3))
  have A1 := Aside0.mk hg3
  have A2 := Aside0.mk HB3
  clear hg0 hs0 HB1 HB2 hbs2 hgr2 hg3 HB3 hbs3 hgr3
  go_loop [4] (fun v4 => (∃ k : Nat, k ≤ 63 ∧ v4 = .int .i64 k ∧ Aside0 (topTo (bitsOf a0) 64 = topTo (bitsOf a0) (k + 1))) ∨ (v4 = .int .i64 (-1) ∧ Aside0 (topTo (bitsOf a0) 64 = 0))) (fun v4 => (intOf v4 + 1).toNat)
  case atStart => exact .inl ⟨63, by omega, rfl, ⟨rfl⟩⟩
  case round =>
    rcases hrel with ⟨k, hk, rfl, HT⟩ | ⟨rfl, HT⟩
    · have hc2 : w3.cell? ⟨g0, k, none⟩ = some (.bool (bAt (bitsOf a0) k)) := arrB_cell A1.out k (by rw [bitsOf_length]; omega)
      have hk0 : (0 : Int) ≤ (k : Int) := by omega
      have hk1 : (k : Int) < 64 := by omega
      have HS : Aside0 (topTo (bitsOf a0) (k + 1) = if bAt (bitsOf a0) k = true then (k : Int) + 1 else topTo (bitsOf a0) k) := ⟨rfl⟩
      generalize bAt (bitsOf a0) k = b at hc2 HS
      cases b
      · rcases k with _ | k
        · simp only [Int.natCast_zero] at hk0 hk1 hc2
          go_wp2
          go_round
          case rel => exact .inr ⟨by go_num, ⟨by rw [HT.out, HS.out]; simp [topTo]⟩⟩
          case measure => simp [intOf]
        · go_wp2
          go_round
          case rel => exact .inl ⟨k, by omega, by go_num, ⟨by rw [HT.out, HS.out]; simp⟩⟩
          case measure => simp [intOf]; omega
      · go_wp2
        go_ret
        exact ⟨by rw [HT.out, HS.out]; simp, A2.out⟩
    · go_wp2
      go_ret
      exact ⟨by rw [HT.out]; rfl, A2.out⟩
theorem peristyleref01_Width.calls (a0 : Int) (r : Int) (w : World) (h : peristyleref01_Width.f a0 = some r) :
    Calls Try.prog 92 #[.int .i64 a0] w fun e w' => e = .returned (.int .i64 r) ∧ Below w.heap.size w w' := by
  obtain rfl := Option.some.inj h
  exact peristyleref01_Width.calls0 a0 w
/-! ### peristyleref08_Width: function 58 -/
def peristyleref08_Width.l0 : Nat → List Int → Int → Int → Option (Int)
 | 0, _, _, _ => none
 | k + 1, x0, x3, x4 => if x4 < (x0.length : Int) then (if 0 ≤ x4 then ((peristyleref01_Width.f (rd x0 x4)).bind fun t361 => (peristyleref08_Width.l0 k x0 (mx x3 t361) (wrap64 (x4 + 1)))) else (none)) else (some x3)
def peristyleref08_Width.f (k : Nat) (l0 : List Int) : Option (Int) := peristyleref08_Width.l0 k l0 0 0
theorem peristyleref08_Width.l0_succ (k : Nat) (x0 : List Int) (x3 : Int) (x4 : Int) : peristyleref08_Width.l0 (k + 1) x0 x3 x4 = (if x4 < (x0.length : Int) then (if 0 ≤ x4 then ((peristyleref01_Width.f (rd x0 x4)).bind fun t361 => (peristyleref08_Width.l0 k x0 (mx x3 t361) (wrap64 (x4 + 1)))) else (none)) else (some x3)) := by
 simp only [peristyleref08_Width.l0]
set_option maxHeartbeats 8000000 in
set_option maxRecDepth 100000 in
theorem peristyleref08_Width.calls (k : Nat) (A0 : Option Addr) (c0 : Nat) (l0 : List Int) (r : Int) (w : World) (hr0 : Kd.C (Kd.int .i64) w A0 l0.length l0) (hc0 : l0.length ≤ c0) (h : peristyleref08_Width.f k l0 = some r) :
  Calls Try.prog 58 #[.slice A0 l0.length c0] w fun e w' => e = .returned (.int .i64 r) ∧ Below w.heap.size w w' := by
 have HR0 := Aside0.mk hr0
 have HC0 := Aside0.mk hc0
 clear hr0 hc0
 have HB := Aside0.mk (Below.refl w.heap.size w)
 have H : (peristyleref08_Width.l0 k l0 0 0) = some r := h
 clear h
 have H' := Aside0.mk H
 clear H
 go_enter Try.func58, Try.ntmps58
 go_wp2
 go_loopg [3, 4] k (fun kq v3 v4 w' => ∃ (x3_1 : Int) (x4_1 : Int), v3 = .int .i64 x3_1 ∧ v4 = .int .i64 x4_1 ∧ Aside0 (peristyleref08_Width.l0 kq l0 x3_1 x4_1 = some r) ∧ Aside0 (kq ≤ k) ∧ Aside0 (Below w.heap.size w w'))
 case atStart => exact ⟨(0), (0), (by first | rfl | (simp; done) | (simp [*]; done)), (by first | rfl | (simp; done) | (simp [*]; done)), H', ⟨Nat.le_refl _⟩, ⟨bh HB.out⟩⟩
 case round =>
  clear H'
  obtain ⟨x3_1, x4_1, rfl, rfl, HA, HK1, HB⟩ := hrel
  cases gk with
  | zero => exact absurd HA.out (by simp [peristyleref08_Width.l0])
  | succ k1 =>
   have H := HA.out
   clear HA
   simp only [peristyleref08_Width.l0] at H
   by_cases c2 : x4_1 < (l0.length : Int)
   ·rw [if_pos c2] at H
    have c2b0 : decide (x4_1 < (l0.length : Int)) = true := decide_eq_true c2
    clear c2
    by_cases c3 : 0 ≤ x4_1
    ·rw [if_pos c3] at H
     have c3b0 : decide (0 ≤ x4_1) = true := decide_eq_true c3
     clear c3
     replace H := Option.bind_eq_some_iff.mp H
     obtain ⟨t361, A40, H⟩ := H
     replace H : (peristyleref08_Width.l0 k1 l0 (mx x3_1 t361) (wrap64 (x4_1 + 1))) = some r := H
     have A4 := Aside0.mk A40
     clear A40
     obtain ⟨ji5, hji5⟩ : ∃ j_ : Int, (mx x3_1 t361) = j_ := ⟨_, rfl⟩
     replace H : (peristyleref08_Width.l0 k1 l0 ji5 (wrap64 (x4_1 + 1))) = some r := by first | (rw [hji5] at H; exact H) | (simp only [hji5] at H ⊢; exact H)
     (try rw [hji5] at A4)
     have hji5_ : (if x3_1 < t361 then t361 else x3_1) = ji5 := hji5
     have H' := Aside0.mk H
     clear H
     have p360 : 0 ≤ (x4_1 : Int) := of_decide_eq_true (by assumption)
     have q360 : x4_1 < (l0.length : Int) := of_decide_eq_true (by assumption)
     obtain ⟨ad360, e360, hx360_0⟩ := Kd.at_int HR0.out x4_1 p360 q360
     cases e360
     replace hx360_0 := (HB.out.cell (World.block_lt_of_cell? w _ hx360_0)).trans hx360_0
     replace p360 := eq_true p360
     replace q360 := eq_true q360
     go_wp2_with (first | ((with_reducible refine gate_callee (f := 92) rfl ?_); refine goesL_ (some 16) rfl rfl Try.func92 (by kernel_rfl) rfl #[.int .i64 (rd l0 x4_1)] rfl (by (try simp only [List.map_toArray, List.map_cons, List.map_nil]); first | done | rfl) ?_; (with_reducible refine (peristyleref01_Width.calls (rd l0 x4_1) t361 _ A4.out).mono ?_); rintro e w6 ⟨rfl, hb⟩; refine ⟨_, rfl, ?_⟩; replace HB := bsa HB hb; (try clear hb)))
     go_roundg k1
     case measure => have := HK1.out; omega
     case rel => exact ⟨(ji5), (wrap64 (x4_1 + 1)), (by first | rfl | (simp; done) | (simp only [← hji5] <;> (first | rfl | simp)) | (simp [*]; done)), (by first | rfl | (simp; done) | (simp [*]; done)), (by first | exact H' | (simp only [hji5]; exact H')), ⟨by have := HK1.out; omega⟩, ⟨bh HB.out⟩⟩
    ·rw [if_neg c3] at H
     exact absurd H (by simp)
   ·rw [if_neg c2] at H
    have c2b0 : decide (x4_1 < (l0.length : Int)) = false := decide_eq_false c2
    clear c2
    obtain rfl := Option.some.inj H
    go_wp2
    go_ret
    exact ⟨er, bh HB.out⟩
/-! ### peristyleref08_Bytes: function 91 -/
def peristyleref08_Bytes.f (a0 : Int) (a1 : Int) : Option (Int) := if a0 < 1 then (some 0) else (if a0 > 65536 then (some 0) else (if a1 < 1 then (some 0) else (if a1 > 64 then (some 0) else (some (wrap64 (Int.tdiv (wrap64 ((wrap64 (a0 * a1)) + 7)) 8))))))
set_option maxHeartbeats 8000000 in
set_option maxRecDepth 100000 in
theorem peristyleref08_Bytes.calls (a0 : Int) (a1 : Int) (r : Int) (w : World) (h : peristyleref08_Bytes.f a0 a1 = some r) :
  Calls Try.prog 91 #[.int .i64 a0, .int .i64 a1] w fun e w' => e = .returned (.int .i64 r) ∧ Drawn0 w w' := by
 have H : (if a0 < 1 then (some 0) else (if a0 > 65536 then (some 0) else (if a1 < 1 then (some 0) else (if a1 > 64 then (some 0) else (some (wrap64 (Int.tdiv (wrap64 ((wrap64 (a0 * a1)) + 7)) 8))))))) = some r := h
 clear h
 by_cases c3 : a0 < 1
 ·rw [if_pos c3] at H
  have c3b0 : decide (a0 < 1) = true := decide_eq_true c3
  clear c3
  obtain rfl := Option.some.inj H
  go_enter Try.func91, Try.ntmps91
  go_wp2
  go_ret
  exact ⟨by first | rfl | (unfold wrap64; rfl) | (simp; done) | (simp [*]; done), by repeat (first | exact Drawn0.refl _ | apply Drawn0.step)⟩
 ·rw [if_neg c3] at H
  have c3b0 : decide (a0 < 1) = false := decide_eq_false c3
  clear c3
  by_cases c4 : a0 > 65536
  ·rw [if_pos c4] at H
   have c4b0 : decide (65536 < a0) = true := decide_eq_true c4
   clear c4
   obtain rfl := Option.some.inj H
   go_enter Try.func91, Try.ntmps91
   go_wp2
   go_ret
   exact ⟨by first | rfl | (unfold wrap64; rfl) | (simp; done) | (simp [*]; done), by repeat (first | exact Drawn0.refl _ | apply Drawn0.step)⟩
  ·rw [if_neg c4] at H
   have c4b0 : decide (65536 < a0) = false := decide_eq_false c4
   clear c4
   by_cases c5 : a1 < 1
   ·rw [if_pos c5] at H
    have c5b0 : decide (a1 < 1) = true := decide_eq_true c5
    clear c5
    obtain rfl := Option.some.inj H
    go_enter Try.func91, Try.ntmps91
    go_wp2
    go_ret
    exact ⟨by first | rfl | (unfold wrap64; rfl) | (simp; done) | (simp [*]; done), by repeat (first | exact Drawn0.refl _ | apply Drawn0.step)⟩
   ·rw [if_neg c5] at H
    have c5b0 : decide (a1 < 1) = false := decide_eq_false c5
    clear c5
    by_cases c6 : a1 > 64
    ·rw [if_pos c6] at H
     have c6b0 : decide (64 < a1) = true := decide_eq_true c6
     clear c6
     obtain rfl := Option.some.inj H
     go_enter Try.func91, Try.ntmps91
     go_wp2
     go_ret
     exact ⟨by first | rfl | (unfold wrap64; rfl) | (simp; done) | (simp [*]; done), by repeat (first | exact Drawn0.refl _ | apply Drawn0.step)⟩
    ·rw [if_neg c6] at H
     have c6b0 : decide (64 < a1) = false := decide_eq_false c6
     clear c6
     obtain rfl := Option.some.inj H
     go_enter Try.func91, Try.ntmps91
     go_wp2
     go_ret
     exact ⟨by first | rfl | (unfold wrap64; rfl) | (simp; done) | (simp [*]; done), by repeat (first | exact Drawn0.refl _ | apply Drawn0.step)⟩
end Go.Proofs.Ytfohecpfenegkaa.Print
end
section
namespace Go.Proofs.Ytfohecpfenegkaa.Print
open Go.RowKit Go.Proofs.YtfohecpfenegkaaW.PrintWords Go.Proofs.YtfohecpfenegkaaW.PrintLast Go.Proofs.YtfohecpfenegkaaW.PrintMore
attribute [local go_sem] max2_int min2_int max_two min_two max_three min_three max_four min_four   -- for this text's walks alone
set_option linter.unusedVariables false
set_option linter.unusedSimpArgs false
/-! ### peristyleref08_Put: function 57 -/
mutual
def peristyleref08_Put.j0 : Nat → List Int → Int → Bool → Option (ByteArray × Int)
 | 0, _, _, _ => none
 | k + 1, x0, x1, x26 => if x26 = true then (some ((⟨#[]⟩ : ByteArray), 1)) else ((peristyleref08_Bytes.f (x0.length : Int) x1).bind fun t363 => (if 0 ≤ t363 then (if (t363 : Int).toNat ≤ 281474976710656 then (peristyleref08_Put.l0 k x0 x1 (List.replicate (t363 : Int).toNat 0) 0) else (none)) else (none)))
def peristyleref08_Put.l0 : Nat → List Int → Int → List Int → Int → Option (ByteArray × Int)
 | 0, _, _, _, _ => none
 | k + 1, x0, x1, x6, x7 => if x7 < (x0.length : Int) then (peristyleref08_Put.l1 k x0 x1 x6 x7 0) else (some (strOfNums x6, 0))
def peristyleref08_Put.l1 : Nat → List Int → Int → List Int → Int → Int → Option (ByteArray × Int)
 | 0, _, _, _, _, _ => none
 | k + 1, x0, x1, x6, x7, x8 => if x8 < x1 then (if 0 ≤ x7 then (if x7 < (x0.length : Int) then (if 0 ≤ x8 then (if (Go.bits .and .i64 (shr .i64 (rd x0 x7) x8) 1) = 1 then (if 0 ≤ (wrap64 (Int.tdiv (wrap64 ((wrap64 (x7 * x1)) + x8)) 8)) then (if (wrap64 (Int.tdiv (wrap64 ((wrap64 (x7 * x1)) + x8)) 8)) < (x6.length : Int) then (if 0 ≤ (Int.tmod (wrap64 ((wrap64 (x7 * x1)) + x8)) 8) then (peristyleref08_Put.l1 k x0 x1 (x6.set ((wrap64 (Int.tdiv (wrap64 ((wrap64 (x7 * x1)) + x8)) 8)) : Int).toNat (Go.bits .or .u8 (rd x6 (wrap64 (Int.tdiv (wrap64 ((wrap64 (x7 * x1)) + x8)) 8))) (shl .u8 1 (Int.tmod (wrap64 ((wrap64 (x7 * x1)) + x8)) 8)))) x7 (wrap64 (x8 + 1))) else (none)) else (none)) else (none)) else (peristyleref08_Put.l1 k x0 x1 x6 x7 (wrap64 (x8 + 1)))) else (none)) else (none)) else (none)) else (peristyleref08_Put.l0 k x0 x1 x6 (wrap64 (x7 + 1)))
end
def peristyleref08_Put.f (k : Nat) (l0 : List Int) (a1 : Int) : Option (ByteArray × Int) := if a1 < 0 then (peristyleref08_Put.j0 k l0 a1 true) else (if a1 > 64 then (peristyleref08_Put.j0 k l0 a1 true) else (if (l0.length : Int) > 65536 then (peristyleref08_Put.j0 k l0 a1 true) else ((peristyleref08_Width.f k l0).bind fun t362 => (peristyleref08_Put.j0 k l0 a1 (decide (t362 > a1))))))
theorem peristyleref08_Put.j0_succ (k : Nat) (x0 : List Int) (x1 : Int) (x26 : Bool) : peristyleref08_Put.j0 (k + 1) x0 x1 x26 = (if x26 = true then (some ((⟨#[]⟩ : ByteArray), 1)) else ((peristyleref08_Bytes.f (x0.length : Int) x1).bind fun t363 => (if 0 ≤ t363 then (if (t363 : Int).toNat ≤ 281474976710656 then (peristyleref08_Put.l0 k x0 x1 (List.replicate (t363 : Int).toNat 0) 0) else (none)) else (none)))) := by
 simp only [peristyleref08_Put.j0]
theorem peristyleref08_Put.l0_succ (k : Nat) (x0 : List Int) (x1 : Int) (x6 : List Int) (x7 : Int) : peristyleref08_Put.l0 (k + 1) x0 x1 x6 x7 = (if x7 < (x0.length : Int) then (peristyleref08_Put.l1 k x0 x1 x6 x7 0) else (some (strOfNums x6, 0))) := by
 simp only [peristyleref08_Put.l0]
theorem peristyleref08_Put.l1_succ (k : Nat) (x0 : List Int) (x1 : Int) (x6 : List Int) (x7 : Int) (x8 : Int) : peristyleref08_Put.l1 (k + 1) x0 x1 x6 x7 x8 = (if x8 < x1 then (if 0 ≤ x7 then (if x7 < (x0.length : Int) then (if 0 ≤ x8 then (if (Go.bits .and .i64 (shr .i64 (rd x0 x7) x8) 1) = 1 then (if 0 ≤ (wrap64 (Int.tdiv (wrap64 ((wrap64 (x7 * x1)) + x8)) 8)) then (if (wrap64 (Int.tdiv (wrap64 ((wrap64 (x7 * x1)) + x8)) 8)) < (x6.length : Int) then (if 0 ≤ (Int.tmod (wrap64 ((wrap64 (x7 * x1)) + x8)) 8) then (peristyleref08_Put.l1 k x0 x1 (x6.set ((wrap64 (Int.tdiv (wrap64 ((wrap64 (x7 * x1)) + x8)) 8)) : Int).toNat (Go.bits .or .u8 (rd x6 (wrap64 (Int.tdiv (wrap64 ((wrap64 (x7 * x1)) + x8)) 8))) (shl .u8 1 (Int.tmod (wrap64 ((wrap64 (x7 * x1)) + x8)) 8)))) x7 (wrap64 (x8 + 1))) else (none)) else (none)) else (none)) else (peristyleref08_Put.l1 k x0 x1 x6 x7 (wrap64 (x8 + 1)))) else (none)) else (none)) else (none)) else (peristyleref08_Put.l0 k x0 x1 x6 (wrap64 (x7 + 1)))) := by
 simp only [peristyleref08_Put.l1]
def peristyleref08_Put.T12 : Bool × List (List Nat × List Nat) := (true, [([], []), ([], []), ([1], [1]), ([], []), ([], []), ([4], [4]), ([3, 5], [3, 5]), ([6], [6]), ([], []), ([8], [8]), ([9], [9]), ([7, 10], [7, 10]), ([0, 2, 0, 1, 2, 3, 4, 5, 6, 7, 8, 9, 10, 11], [0, 2]), ([12, 11, 0, 1, 2, 3, 4, 5, 6, 7, 8, 9, 10, 11], [11, 12])])
def peristyleref08_Put.B12 : List Nat := [0, 0, 2, 0, 0, 16, 56, 120, 0, 256, 768, 2040, 4095, 8191]
theorem peristyleref08_Put.tab12 : rtab .any (opsOf Try.f57 12) = peristyleref08_Put.T12 := by kernel_rfl
theorem peristyleref08_Put.bits12 : waitsOk peristyleref08_Put.T12.2 peristyleref08_Put.B12 = true := by kernel_rfl
set_option maxHeartbeats 8000000 in
set_option maxRecDepth 100000 in
theorem peristyleref08_Put.calls (k : Nat) (A0 : Option Addr) (c0 : Nat) (l0 : List Int) (a1 : Int) (r1 : ByteArray) (r2 : Int) (w : World) (hr0 : Kd.C (Kd.int .i64) w A0 l0.length l0) (hc0 : l0.length ≤ c0) (h : peristyleref08_Put.f k l0 a1 = some (r1, r2)) :
  Calls Try.prog 57 #[.slice A0 l0.length c0, .int .i64 a1] w fun e w' => e = .returned (.tuple #[.string r1, .int .i64 r2]) ∧ Below w.heap.size w w' := by
 have HR0 := Aside0.mk hr0
 have HC0 := Aside0.mk hc0
 clear hr0 hc0
 have HB := Aside0.mk (Below.refl w.heap.size w)
 have H : (if a1 < 0 then (peristyleref08_Put.j0 k l0 a1 true) else (if a1 > 64 then (peristyleref08_Put.j0 k l0 a1 true) else (if (l0.length : Int) > 65536 then (peristyleref08_Put.j0 k l0 a1 true) else ((peristyleref08_Width.f k l0).bind fun t362 => (peristyleref08_Put.j0 k l0 a1 (decide (t362 > a1))))))) = some (r1, r2) := h
 clear h
 have HC3 := Aside0.mk H
 clear H
 go_enter Try.func57, Try.ntmps57
 go_upto_region 1 with (fail)
 go_cut [26] (fun v26 wc => ∃ (kq : Nat) (x26_2 : Bool), v26 = .bool x26_2 ∧ Aside0 (peristyleref08_Put.j0 kq l0 a1 x26_2 = some (r1, r2)) ∧ Aside0 (kq ≤ k) ∧ Aside0 (Below w.heap.size w wc))
 case first =>
  have H := HC3.out
  clear HC3
  by_cases c4 : a1 < 0
  ·rw [if_pos c4] at H
   have c4b0 : decide (a1 < 0) = true := decide_eq_true c4
   clear c4
   (first | rw [c4b0] | (simp only [i64_w, i32_w]; rw [c4b0]) | rw [c4b1] | skip)
   have H' := Aside0.mk H
   clear H
   go_wp2
   go_meet
   case rel => exact ⟨_, (true), (by first | rfl | (simp; done) | (simp [*]; done)), H', ⟨by first | omega | exact Nat.le_refl _⟩, ⟨bh HB.out⟩⟩
  ·rw [if_neg c4] at H
   have c4b0 : decide (a1 < 0) = false := decide_eq_false c4
   clear c4
   (first | rw [c4b0] | (simp only [i64_w, i32_w]; rw [c4b0]) | rw [c4b1] | skip)
   by_cases c5 : a1 > 64
   ·rw [if_pos c5] at H
    have c5b0 : decide (64 < a1) = true := decide_eq_true c5
    clear c5
    have H' := Aside0.mk H
    clear H
    go_wp2
    go_meet
    case rel => exact ⟨_, (true), (by first | rfl | (simp; done) | (simp [*]; done)), H', ⟨by first | omega | exact Nat.le_refl _⟩, ⟨bh HB.out⟩⟩
   ·rw [if_neg c5] at H
    have c5b0 : decide (64 < a1) = false := decide_eq_false c5
    clear c5
    by_cases c6 : (l0.length : Int) > 65536
    ·rw [if_pos c6] at H
     have c6b0 : decide (65536 < (l0.length : Int)) = true := decide_eq_true c6
     have c6b1 : decide (65536 < l0.length) = true := decide_eq_true (by omega)
     clear c6
     have H' := Aside0.mk H
     clear H
     go_wp2
     go_meet
     case rel => exact ⟨_, (true), (by first | rfl | (simp; done) | (simp [*]; done)), H', ⟨by first | omega | exact Nat.le_refl _⟩, ⟨bh HB.out⟩⟩
    ·rw [if_neg c6] at H
     have c6b0 : decide (65536 < (l0.length : Int)) = false := decide_eq_false c6
     have c6b1 : decide (65536 < l0.length) = false := decide_eq_false (by omega)
     clear c6
     replace H := Option.bind_eq_some_iff.mp H
     obtain ⟨t362, A70, H⟩ := H
     replace H : (peristyleref08_Put.j0 k l0 a1 (decide (t362 > a1))) = some (r1, r2) := H
     have A7 := Aside0.mk A70
     clear A70
     have H' := Aside0.mk H
     clear H
     go_wp2_with (first | (go_at_call 58; (with_reducible refine (peristyleref08_Width.calls k _ _ l0 t362 _ ?side1 ?side2 A7.out).mono ?_); (case side1 => exact cx (Kd.C_below HR0.out HB.out)); (case side2 => exact HC0.out); rintro e w8 ⟨rfl, hb⟩; replace HB := bsa HB hb; (try clear hb)))
     go_meet
     case rel => exact ⟨_, (decide (t362 > a1)), (by first | rfl | (simp; done) | (simp [*]; done)), H', ⟨by first | omega | exact Nat.le_refl _⟩, ⟨bh HB.out⟩⟩
 case rest =>
  clear HC3
  try clear c4
  try clear c4b0
  try clear c5
  try clear c5b0
  try clear c6
  try clear c6b0
  try clear c6b1
  obtain ⟨kq, x26_2, rfl, HA, HJ2, HB⟩ := hcut
  cases kq with
  | zero => exact absurd HA.out (by simp [peristyleref08_Put.j0])
  | succ kj2 =>
   have H := HA.out
   clear HA
   simp only [peristyleref08_Put.j0] at H
   by_cases c9 : x26_2 = true
   ·subst c9
    have H1 : (some ((⟨#[]⟩ : ByteArray), 1)) = some (r1, r2) := by rw [if_pos rfl] at H; exact H
    clear H
    have H := H1
    clear H1
    simp only [Option.some.injEq, Prod.mk.injEq] at H
    obtain ⟨rfl, rfl⟩ := H
    go_wp2
    go_ret2
    exact ⟨er, bh HB.out⟩
   ·replace c9 := Bool.eq_false_iff.mpr c9
    subst c9
    have H1 : ((peristyleref08_Bytes.f (l0.length : Int) a1).bind fun t363 => (if 0 ≤ t363 then (if (t363 : Int).toNat ≤ 281474976710656 then (peristyleref08_Put.l0 kj2 l0 a1 (List.replicate (t363 : Int).toNat 0) 0) else (none)) else (none))) = some (r1, r2) := by rw [if_neg (show ¬ (false = true) by decide)] at H; exact H
    clear H
    have H := H1
    clear H1
    replace H := Option.bind_eq_some_iff.mp H
    obtain ⟨t363, A100, H⟩ := H
    replace H : (if 0 ≤ t363 then (if (t363 : Int).toNat ≤ 281474976710656 then (peristyleref08_Put.l0 kj2 l0 a1 (List.replicate (t363 : Int).toNat 0) 0) else (none)) else (none)) = some (r1, r2) := H
    have A10 := Aside0.mk A100
    clear A100
    by_cases c11 : 0 ≤ t363
    ·rw [if_pos c11] at H
     have c11b0 := eq_true c11
     have c11b1 : decide (0 ≤ t363) = true := decide_eq_true c11
     clear c11
     by_cases c12 : (t363 : Int).toNat ≤ 281474976710656
     ·rw [if_pos c12] at H
      have c12b0 := eq_true c12
      have c12b1 : decide ((t363 : Int).toNat ≤ 281474976710656) = true := decide_eq_true c12
      clear c12
      obtain ⟨y364, hy364⟩ : ∃ y_ : List Int, y_ = (List.replicate (t363 : Int).toNat 0) := ⟨_, rfl⟩
      replace H : (peristyleref08_Put.l0 kj2 l0 a1 y364 0) = some (r1, r2) := by first | (rw [hy364]; with_reducible exact H) | (have H2_ := (Option.bind_some _ _).symm.trans H; rw [hy364]; with_reducible exact H2_) | (have H2_ := (Option.bind_some _ _).symm.trans H; with_reducible exact H2_) | with_reducible exact H | (rw [hy364]; exact H) | exact H
      have Ny364 := Aside0.mk hy364
      clear hy364
      have H' := Aside0.mk H
      clear H
      go_wp2_with (first | ((with_reducible refine gate_callee (f := 91) rfl ?_); refine goesL_ (some 30) rfl rfl Try.func91 (by kernel_rfl) rfl #[.int .i64 (l0.length : Int), .int .i64 a1] rfl (by (try simp only [List.map_toArray, List.map_cons, List.map_nil]); first | done | rfl) ?_; (with_reducible refine (peristyleref08_Bytes.calls (l0.length : Int) a1 t363 _ A10.out).mono ?_); rintro e w' ⟨rfl, ⟨nd, rfl⟩⟩; refine ⟨_, rfl, ?_⟩) | ((with_reducible refine gate_dst (N := 31) rfl ?_); (try (refine gate_guard (by rfl) ?_; dsimp only)); refine Kd.R_make (Kd.int .u8) _ 5 rfl (N := 31) rfl 76 _ _ rfl t363 rfl rfl Try.underlying76 (.int .u8 0) 1 info5 rfl (by decide) (by omega) 0 (ok := fun _ => True) (okp := fun _ => True) rfl (fun _ hk => hk) trivial (of_decide_eq_true (by assumption)) (Nat.le_trans (Nat.mul_le_mul_right _ (of_decide_eq_true (by assumption) : t363.toNat ≤ 281474976710656)) (by omega)) (Below.refl _ _) (Nat.le_refl _) ?_; intro v365 w13 ho14 hb hg_ hnew_; clear hg_ hnew_; (first | rw [← Ny364.out] at ho14 | (simp only [Int.reduceToNat] at ho14; rw [← Ny364.out] at ho14)); have HO366 := Aside0.mk (Kd.R_lower ho14 (below_size (bh HB.out))); replace HB := bsa HB hb; clear hb ho14))
      go_loopg [7] kj2 (fun kq v7 w' => ∃ (x6_2 : List Int) (x7_2 : Int), v7 = .int .i64 x7_2 ∧ Aside0 (peristyleref08_Put.l0 kq l0 a1 x6_2 x7_2 = some (r1, r2)) ∧ Aside0 (kq ≤ kj2) ∧ Aside0 (Kd.R (Kd.int .u8) 5 w' w.heap.size (fun _ => True) v365 x6_2) ∧ Aside0 (Below w.heap.size w w'))
      case atStart => exact ⟨(y364), (0), (by first | rfl | (simp; done) | (simp [*]; done)), H', ⟨Nat.le_refl _⟩, ⟨by (with_reducible repeat (first | apply Kd.R_alloc | apply Kd.R_drewN | apply Kd.R_drew)); exact HO366.out⟩, ⟨bh HB.out⟩⟩
      case round =>
       clear H'
       try clear c4
       try clear c4b0
       try clear c5
       try clear c5b0
       try clear c6
       try clear c6b0
       try clear c6b1
       try clear c9
       try clear c11
       try clear c11b0
       try clear c11b1
       try clear c12
       try clear c12b0
       try clear c12b1
       obtain ⟨x6_2, x7_2, rfl, HA, HK2, HO_6, HB⟩ := hrel
       cases gk with
       | zero => exact absurd HA.out (by simp [peristyleref08_Put.l0])
       | succ k2 =>
        have H := HA.out
        clear HA
        simp only [peristyleref08_Put.l0] at H
        by_cases c15 : x7_2 < (l0.length : Int)
        ·rw [if_pos c15] at H
         have c15b0 : decide (x7_2 < (l0.length : Int)) = true := decide_eq_true c15
         clear c15
         have H' := Aside0.mk H
         clear H
         go_wp2
         go_loopg [8] k2 (fun kq v8 w' => ∃ (x6_3 : List Int) (x8_3 : Int), v8 = .int .i64 x8_3 ∧ Aside0 (peristyleref08_Put.l1 kq l0 a1 x6_3 x7_2 x8_3 = some (r1, r2)) ∧ Aside0 (kq ≤ k2) ∧ Aside0 (Kd.R (Kd.int .u8) 5 w' w.heap.size (fun _ => True) v365 x6_3) ∧ Aside0 (Below w.heap.size w w'))
         case atStart => exact ⟨(x6_2), (0), (by first | rfl | (simp; done) | (simp [*]; done)), H', ⟨Nat.le_refl _⟩, ⟨by (with_reducible repeat (first | apply Kd.R_alloc | apply Kd.R_drewN | apply Kd.R_drew)); exact HO_6.out⟩, ⟨bh HB.out⟩⟩
         case round =>
          clear H'
          try clear c4
          try clear c4b0
          try clear c5
          try clear c5b0
          try clear c6
          try clear c6b0
          try clear c6b1
          try clear c9
          try clear c11
          try clear c11b0
          try clear c11b1
          try clear c12
          try clear c12b0
          try clear c12b1
          try clear c15
          try clear c15b0
          obtain ⟨x6_3, x8_3, rfl, HA, HK3, HO_6, HB⟩ := hrel
          cases gk with
          | zero => exact absurd HA.out (by simp [peristyleref08_Put.l1])
          | succ k3 =>
           have H := HA.out
           clear HA
           simp only [peristyleref08_Put.l1] at H
           by_cases c16 : x8_3 < a1
           ·rw [if_pos c16] at H
            have c16b0 : decide (x8_3 < a1) = true := decide_eq_true c16
            clear c16
            by_cases c17 : 0 ≤ x7_2
            ·rw [if_pos c17] at H
             have c17b0 : decide (0 ≤ x7_2) = true := decide_eq_true c17
             clear c17
             by_cases c18 : x7_2 < (l0.length : Int)
             ·rw [if_pos c18] at H
              have c18b0 : decide (x7_2 < (l0.length : Int)) = true := decide_eq_true c18
              clear c18
              by_cases c19 : 0 ≤ x8_3
              ·rw [if_pos c19] at H
               have c19b0 := eq_true c19
               have c19b1 : decide (0 ≤ x8_3) = true := decide_eq_true c19
               clear c19
               obtain ⟨ji20, hji20⟩ : ∃ j_ : Int, (shr .i64 (rd l0 x7_2) x8_3) = j_ := ⟨_, rfl⟩
               replace H : (if (Go.bits .and .i64 (ji20) 1) = 1 then (if 0 ≤ (wrap64 (Int.tdiv (wrap64 ((wrap64 (x7_2 * a1)) + x8_3)) 8)) then (if (wrap64 (Int.tdiv (wrap64 ((wrap64 (x7_2 * a1)) + x8_3)) 8)) < (x6_3.length : Int) then (if 0 ≤ (Int.tmod (wrap64 ((wrap64 (x7_2 * a1)) + x8_3)) 8) then (peristyleref08_Put.l1 k3 l0 a1 (x6_3.set ((wrap64 (Int.tdiv (wrap64 ((wrap64 (x7_2 * a1)) + x8_3)) 8)) : Int).toNat (Go.bits .or .u8 (rd x6_3 (wrap64 (Int.tdiv (wrap64 ((wrap64 (x7_2 * a1)) + x8_3)) 8))) (shl .u8 1 (Int.tmod (wrap64 ((wrap64 (x7_2 * a1)) + x8_3)) 8)))) x7_2 (wrap64 (x8_3 + 1))) else (none)) else (none)) else (none)) else (peristyleref08_Put.l1 k3 l0 a1 x6_3 x7_2 (wrap64 (x8_3 + 1)))) = some (r1, r2) := by first | (rw [hji20] at H; exact H) | (simp only [hji20] at H ⊢; exact H)
               have hji20_ : ((rd l0 x7_2) / 2 ^ min x8_3.toNat 64) = ji20 := hji20
               have hji20z : x8_3 ≤ 64 → ((rd l0 x7_2) / 2 ^ x8_3.toNat) = ji20 := shr_small hji20
               by_cases c21 : (Go.bits .and .i64 (ji20) 1) = 1
               ·rw [if_pos c21] at H
                have c21b0 : ((Go.bits .and .i64 (ji20) 1) == 1) = true := beq_iff_eq.mpr c21
                have c21b1 : ((Go.bits .and .i64 (ji20) 1) != 1) = false := bne_eq_false_iff_eq.mpr c21
                clear c21
                obtain ⟨ji22, hji22⟩ : ∃ j_ : Int, (wrap64 (Int.tdiv (wrap64 ((wrap64 (x7_2 * a1)) + x8_3)) 8)) = j_ := ⟨_, rfl⟩
                replace H : (if 0 ≤ (ji22) then (if (ji22) < (x6_3.length : Int) then (if 0 ≤ (Int.tmod (wrap64 ((wrap64 (x7_2 * a1)) + x8_3)) 8) then (peristyleref08_Put.l1 k3 l0 a1 (x6_3.set ((ji22) : Int).toNat (Go.bits .or .u8 (rd x6_3 (ji22)) (shl .u8 1 (Int.tmod (wrap64 ((wrap64 (x7_2 * a1)) + x8_3)) 8)))) x7_2 (wrap64 (x8_3 + 1))) else (none)) else (none)) else (none)) = some (r1, r2) := by first | (rw [hji22] at H; exact H) | (simp only [hji22] at H ⊢; exact H)
                have hji22w : (IntKind.i64.wrap (Int.tdiv (wrap64 ((wrap64 (x7_2 * a1)) + x8_3)) 8)) = ji22 := (i64_w _).trans hji22
                by_cases c23 : 0 ≤ (ji22)
                ·rw [if_pos c23] at H
                 have c23b0 : decide (0 ≤ (ji22)) = true := decide_eq_true c23
                 clear c23
                 by_cases c24 : (ji22) < (x6_3.length : Int)
                 ·rw [if_pos c24] at H
                  have c24b0 : decide ((ji22) < (x6_3.length : Int)) = true := decide_eq_true c24
                  clear c24
                  obtain ⟨ji25, hji25⟩ : ∃ j_ : Int, (Int.tmod (wrap64 ((wrap64 (x7_2 * a1)) + x8_3)) 8) = j_ := ⟨_, rfl⟩
                  replace H : (if 0 ≤ (ji25) then (peristyleref08_Put.l1 k3 l0 a1 (x6_3.set ((ji22) : Int).toNat (Go.bits .or .u8 (rd x6_3 (ji22)) (shl .u8 1 (ji25)))) x7_2 (wrap64 (x8_3 + 1))) else (none)) = some (r1, r2) := by first | (rw [hji25] at H; exact H) | (simp only [hji25] at H ⊢; exact H)
                  by_cases c26 : 0 ≤ (ji25)
                  ·rw [if_pos c26] at H
                   have c26b0 := eq_true c26
                   have c26b1 : decide (0 ≤ (ji25)) = true := decide_eq_true c26
                   clear c26
                   obtain ⟨ji27, hji27⟩ : ∃ j_ : Int, (shl .u8 1 (ji25)) = j_ := ⟨_, rfl⟩
                   replace H : (peristyleref08_Put.l1 k3 l0 a1 (x6_3.set ((ji22) : Int).toNat (Go.bits .or .u8 (rd x6_3 (ji22)) (ji27))) x7_2 (wrap64 (x8_3 + 1))) = some (r1, r2) := by first | (rw [hji27] at H; exact H) | (simp only [hji27] at H ⊢; exact H)
                   have hji27_ : (IntKind.u8.wrap (1 * 2 ^ min (ji25).toNat 8)) = ji27 := hji27
                   have hji27z : (ji25) ≤ 8 → (IntKind.u8.wrap (1 * 2 ^ (ji25).toNat)) = ji27 := shl_small hji27
                   have hji27u : (IntKind.u8.wrap (2 ^ min (ji25).toNat 8)) = ji27 := by have h_ := hji27_; rw [Int.one_mul] at h_; exact h_
                   have hji27v : (ji25) ≤ 8 → (IntKind.u8.wrap (2 ^ (ji25).toNat)) = ji27 := fun hle_ => by have h_ := hji27z hle_; rw [Int.one_mul] at h_; exact h_
                   obtain ⟨y369, hy369⟩ : ∃ y_ : List Int, y_ = (x6_3.set ((ji22) : Int).toNat (Go.bits .or .u8 (rd x6_3 (ji22)) (ji27))) := ⟨_, rfl⟩
                   replace H : (peristyleref08_Put.l1 k3 l0 a1 y369 x7_2 (wrap64 (x8_3 + 1))) = some (r1, r2) := by first | (rw [hy369]; with_reducible exact H) | (have H2_ := (Option.bind_some _ _).symm.trans H; rw [hy369]; with_reducible exact H2_) | (have H2_ := (Option.bind_some _ _).symm.trans H; with_reducible exact H2_) | with_reducible exact H | (rw [hy369]; exact H) | exact H
                   have Ny369 := Aside0.mk hy369
                   clear hy369
                   have H' := Aside0.mk H
                   clear H
                   have p367 : 0 ≤ (x7_2 : Int) := of_decide_eq_true (by assumption)
                   have q367 : x7_2 < (l0.length : Int) := of_decide_eq_true (by assumption)
                   obtain ⟨ad367, e367, hx367_0⟩ := Kd.at_int HR0.out x7_2 p367 q367
                   cases e367
                   replace hx367_0 := (HB.out.cell (World.block_lt_of_cell? w _ hx367_0)).trans hx367_0
                   replace p367 := eq_true p367
                   replace q367 := eq_true q367
                   try go_wp2
                   replace HO_6 := Aside0.mk (Kd.R_drew HO_6.out)
                   replace HB := Aside0.mk (below_drew1 HB.out)
                   obtain ⟨Ao30, co30, eo30⟩ := Kd.R_slice HO_6.out
                   (first | subst eo30 | (injection eo30 with f1_ f2_ f3_; have f4_ := f1_.symm; have f5_ := f3_.symm; clear f1_ f2_ f3_; subst f4_; subst f5_))
                   have p368 : 0 ≤ ((ji22) : Int) := of_decide_eq_true (by assumption)
                   have q368 : (ji22) < (x6_3.length : Int) := of_decide_eq_true (by assumption)
                   obtain ⟨ad368, e368, hx368_0⟩ := Kd.at_int (Kd.R_reads' HO_6.out).2.2 (ji22) p368 q368
                   cases e368
                   replace p368 := eq_true p368
                   replace q368 := eq_true q368
                   have p28 : 0 ≤ ((ji22) : Int) := of_decide_eq_true (by assumption)
                   have q28 : ((ji22) : Int) < ((x6_3.length : Int) : Int) := of_decide_eq_true (by assumption)
                   obtain ⟨go28, co28, eo28, gb28, gl28, cl28, HG28⟩ := Kd.R_form HO_6.out (by omega)
                   (first | cases eo28 | (injection eo28 with ea_ en_ ec_; (first | subst ea_ | (injection ea_ with ea_; subst ea_)); subst ec_; clear en_))
                   have GB28 := Aside0.mk gb28
                   have GG28 := Aside0.mk HG28
                   clear gb28 gl28 HG28
                   (first | simp only [add_plain] at hx368_0 | skip)
                   obtain ⟨hx28_0, hf28_0⟩ := Kd.R_celln 0 HO_6.out ((ji22) : Int) p28 q28
                   replace p28 := eq_true p28
                   replace q28 := eq_true q28
                   have HP31 := Kd.R_putn HO_6.out ((ji22) : Int) (Go.bits .or .u8 (rd x6_3 (ji22)) (ji27))
                   rw [← Ny369.out] at HP31
                   have HQ31 := Aside0.mk HP31
                   clear HP31
                   refine start_ (n := 14) (S := fun w' => w'.cell? ⟨go28, ((ji22)).toNat, none⟩ = some (.int .u8 (rd x6_3 (ji22)))) (ds := [13]) #[false, false, false, false, false, false, false, false, false, false, false, false, false, false] (by kernel_rfl) rfl rfl (hx368_0) (fun hHeld => ?_); refine with_tabW peristyleref08_Put.tab12 peristyleref08_Put.bits12 (fun HT_ HW_ => ?_)
                   generalize wr.drew = w29 at HO_6 HB GG28 HQ31 hf28_0 hx28_0 hx368_0 hHeld ⊢
                   refine pure_ (i := 0) (N := some 56) (v := ?_) (a' := ?_) #[true, false, false, false, false, false, false, false, false, false, false, false, false, false] rfl rfl (any_of HT_.out (by kernel_rfl)) (fun _ _ _ h => h) (Or.inl ⟨by rfl, ?_⟩) ?_ ?_
                   rotate_left
                   ·intro w'
                    go_simp
                    with_reducible rfl
                   rotate_left
                   ·simp only [Act.put, List.setIfInBounds_toArray, List.set_cons_zero, List.set_cons_succ, i64_w, i32_w]
                    rfl
                   refine pure_ (i := 1) (N := some 57) (v := ?_) (a' := ?_) #[true, true, false, false, false, false, false, false, false, false, false, false, false, false] rfl rfl (any_of HT_.out (by kernel_rfl)) (fun _ _ _ h => h) (Or.inl ⟨by rfl, ?_⟩) ?_ ?_
                   rotate_left
                   ·intro w'
                    go_simp
                    with_reducible rfl
                   rotate_left
                   ·simp only [Act.put, List.setIfInBounds_toArray, List.set_cons_zero, List.set_cons_succ, i64_w, i32_w]
                    rfl
                   refine pure_ (i := 2) (N := some 58) (v := ?_) (a' := ?_) #[true, true, true, false, false, false, false, false, false, false, false, false, false, false] rfl rfl (any_of HT_.out (by kernel_rfl)) (fun _ _ _ h => h) (Or.inl ⟨by rfl, ?_⟩) ?_ ?_
                   rotate_left
                   ·intro w'
                    go_simp
                    with_reducible rfl
                   rotate_left
                   ·simp only [Act.put, List.setIfInBounds_toArray, List.set_cons_zero, List.set_cons_succ, i64_w, i32_w]
                    rfl
                   refine pure_ (i := 3) (N := some 59) (v := ?_) (a' := ?_) #[true, true, true, true, false, false, false, false, false, false, false, false, false, false] rfl rfl (any_of HT_.out (by kernel_rfl)) (fun _ _ _ h => h) (Or.inl ⟨by rfl, ?_⟩) ?_ ?_
                   rotate_left
                   ·intro w'
                    go_simp
                    with_reducible rfl
                   rotate_left
                   ·simp only [Act.put, List.setIfInBounds_toArray, List.set_cons_zero, List.set_cons_succ, i64_w, i32_w]
                    rfl
                   refine pure_ (i := 4) (N := some 60) (v := ?_) (a' := ?_) #[true, true, true, true, true, false, false, false, false, false, false, false, false, false] rfl rfl (any_of HT_.out (by kernel_rfl)) (fun _ _ _ h => h) (Or.inl ⟨by rfl, ?_⟩) ?_ ?_
                   rotate_left
                   ·intro w'
                    go_simp
                    with_reducible rfl
                   rotate_left
                   ·simp only [Act.put, List.setIfInBounds_toArray, List.set_cons_zero, List.set_cons_succ, i64_w, i32_w]
                    rfl
                   refine pure_ (i := 5) (N := some 61) (v := ?_) (a' := ?_) #[true, true, true, true, true, true, false, false, false, false, false, false, false, false] rfl rfl (any_of HT_.out (by kernel_rfl)) (fun _ _ _ h => h) (Or.inl ⟨by rfl, ?_⟩) ?_ ?_
                   rotate_left
                   ·intro w'
                    go_simp
                    with_reducible rfl
                   rotate_left
                   ·simp only [Act.put, List.setIfInBounds_toArray, List.set_cons_zero, List.set_cons_succ, i64_w, i32_w]
                    rfl
                   refine pure_ (i := 6) (N := some 62) (v := ?_) (a' := ?_) #[true, true, true, true, true, true, true, false, false, false, false, false, false, false] rfl rfl (any_of HT_.out (by kernel_rfl)) (fun _ _ _ h => h) (Or.inl ⟨by rfl, ?_⟩) ?_ ?_
                   rotate_left
                   ·intro w'
                    go_simp
                    with_reducible rfl
                   rotate_left
                   ·simp only [Act.put, List.setIfInBounds_toArray, List.set_cons_zero, List.set_cons_succ, i64_w, i32_w]
                    rfl
                   refine pure_ (i := 8) (N := some 64) (v := ?_) (a' := ?_) #[true, true, true, true, true, true, true, false, true, false, false, false, false, false] rfl rfl (any_of HT_.out (by kernel_rfl)) (fun _ _ _ h => h) (Or.inl ⟨by rfl, ?_⟩) ?_ ?_
                   rotate_left
                   ·intro w'
                    go_simp
                    with_reducible rfl
                   rotate_left
                   ·simp only [Act.put, List.setIfInBounds_toArray, List.set_cons_zero, List.set_cons_succ, i64_w, i32_w]
                    rfl
                   refine pure_ (i := 9) (N := some 65) (v := ?_) (a' := ?_) #[true, true, true, true, true, true, true, false, true, true, false, false, false, false] rfl rfl (any_of HT_.out (by kernel_rfl)) (fun _ _ _ h => h) (Or.inl ⟨by rfl, ?_⟩) ?_ ?_
                   rotate_left
                   ·intro w'
                    go_simp
                    with_reducible rfl
                   rotate_left
                   ·simp only [Act.put, List.setIfInBounds_toArray, List.set_cons_zero, List.set_cons_succ, i64_w, i32_w]
                    rfl
                   refine pure_ (i := 10) (N := some 66) (v := ?_) (a' := ?_) #[true, true, true, true, true, true, true, false, true, true, true, false, false, false] rfl rfl (any_of HT_.out (by kernel_rfl)) (fun _ _ _ h => h) (Or.inl ⟨by rfl, ?_⟩) ?_ ?_
                   rotate_left
                   ·intro w'
                    go_simp
                    with_reducible rfl
                   rotate_left
                   ·simp only [Act.put, List.setIfInBounds_toArray, List.set_cons_zero, List.set_cons_succ, i64_w, i32_w]
                    rfl
                   refine take_ (i := 7) (N := some 63) (v := ?_) (a' := ?_) #[true, true, true, true, true, true, true, true, true, true, true, false, false, false] rfl rfl (take_ofW HT_.out HW_.out (by kernel_rfl)) (fun _ _ _ h => h) (Or.inl ⟨by rfl, ?_⟩) hHeld ?_ ?_
                   rotate_left
                   ·intro w' s0
                    go_simp
                    with_reducible rfl
                   rotate_left
                   ·simp only [Act.put, List.setIfInBounds_toArray, List.set_cons_zero, List.set_cons_succ, i64_w, i32_w]
                    rfl
                   refine pure_ (i := 11) (N := some 67) (v := ?_) (a' := ?_) #[true, true, true, true, true, true, true, true, true, true, true, true, false, false] rfl rfl (any_of HT_.out (by kernel_rfl)) (fun _ _ _ h => h) (Or.inl ⟨by rfl, ?_⟩) ?_ ?_
                   rotate_left
                   ·intro w'
                    go_simp
                    with_reducible rfl
                   rotate_left
                   ·simp only [Act.put, List.setIfInBounds_toArray, List.set_cons_zero, List.set_cons_succ, i64_w, i32_w]
                    rfl
                   refine pure_ (i := 12) (N := some 68) (v := ?_) (a' := ?_) #[true, true, true, true, true, true, true, true, true, true, true, true, true, false] rfl rfl (any_of HT_.out (by kernel_rfl)) (fun _ _ _ h => h) (Or.inl ⟨by rfl, ?_⟩) ?_ ?_
                   rotate_left
                   ·intro w'
                    go_simp
                    with_reducible rfl
                   rotate_left
                   ·simp only [Act.put, List.setIfInBounds_toArray, List.set_cons_zero, List.set_cons_succ, i64_w, i32_w]
                    rfl
                   refine last_ (i := 13) (N := none) #[true, true, true, true, true, true, true, true, true, true, true, true, true, true] rfl rfl (one_of HT_.out (by kernel_rfl)) (by decide) (fun K hK => ?_)
                   refine skip_ (w1 := ?_) (by rfl) rfl ?_ ?_
                   rotate_left
                   ·go_simp
                    rfl
                   refine hK.out _ _ ?_
                   clear hK K
                   refine done_ (done_of HT_.out (by kernel_rfl)) ?_
                   try go_wp2
                   go_roundg k3
                   case measure => have := HJ2.out; have := HK2.out; have := HK3.out; omega
                   case rel => exact ⟨(y369), (wrap64 (x8_3 + 1)), (by first | rfl | (simp; done) | (simp [*]; done)), (by first | exact H' | (simp only [hji20, hji22, hji25, hji27]; exact H')), ⟨by have := HJ2.out; have := HK2.out; have := HK3.out; omega⟩, ⟨by (with_reducible repeat (first | apply Kd.R_alloc | apply Kd.R_drewN | apply Kd.R_drew)); exact HQ31.out⟩, ⟨by repeat (first | (with_reducible first | exact HB.out | apply below_alloc | apply pw_below_drewN | apply below_drew1 | refine below_set ?_ GB28.out) | exact HB.out)⟩⟩
                  ·rw [if_neg c26] at H
                   exact absurd H (by simp)
                 ·rw [if_neg c24] at H
                  exact absurd H (by simp)
                ·rw [if_neg c23] at H
                 exact absurd H (by simp)
               ·rw [if_neg c21] at H
                have c21b0 : ((Go.bits .and .i64 (ji20) 1) == 1) = false := beq_eq_false_iff_ne.mpr c21
                have c21b1 : ((Go.bits .and .i64 (ji20) 1) != 1) = true := bne_iff_ne.mpr c21
                have H' := Aside0.mk H
                clear H
                have p367 : 0 ≤ (x7_2 : Int) := of_decide_eq_true (by assumption)
                have q367 : x7_2 < (l0.length : Int) := of_decide_eq_true (by assumption)
                obtain ⟨ad367, e367, hx367_0⟩ := Kd.at_int HR0.out x7_2 p367 q367
                cases e367
                replace hx367_0 := (HB.out.cell (World.block_lt_of_cell? w _ hx367_0)).trans hx367_0
                replace p367 := eq_true p367
                replace q367 := eq_true q367
                go_wp2
                go_roundg k3
                case measure => have := HJ2.out; have := HK2.out; have := HK3.out; omega
                case rel => exact ⟨(x6_3), (wrap64 (x8_3 + 1)), (by first | rfl | (simp; done) | (simp [*]; done)), (by first | exact H' | (simp only [hji20]; exact H')), ⟨by have := HJ2.out; have := HK2.out; have := HK3.out; omega⟩, ⟨by (with_reducible repeat (first | apply Kd.R_alloc | apply Kd.R_drewN | apply Kd.R_drew)); exact HO_6.out⟩, ⟨bh HB.out⟩⟩
              ·rw [if_neg c19] at H
               exact absurd H (by simp)
             ·rw [if_neg c18] at H
              exact absurd H (by simp)
            ·rw [if_neg c17] at H
             exact absurd H (by simp)
           ·rw [if_neg c16] at H
            have c16b0 : decide (x8_3 < a1) = false := decide_eq_false c16
            clear c16
            have H' := Aside0.mk H
            clear H
            go_wp2
            go_roundg k3
            case measure => have := HJ2.out; have := HK2.out; have := HK3.out; omega
            case rel => exact ⟨(x6_3), (wrap64 (x7_2 + 1)), (by first | rfl | (simp; done) | (simp [*]; done)), H', ⟨by have := HJ2.out; have := HK2.out; have := HK3.out; omega⟩, ⟨by (with_reducible repeat (first | apply Kd.R_alloc | apply Kd.R_drewN | apply Kd.R_drew)); exact HO_6.out⟩, ⟨bh HB.out⟩⟩
        ·rw [if_neg c15] at H
         have c15b0 : decide (x7_2 < (l0.length : Int)) = false := decide_eq_false c15
         clear c15
         simp only [Option.some.injEq, Prod.mk.injEq] at H
         obtain ⟨rfl, rfl⟩ := H
         have hcv32 := own_string (P := Try.prog) Try.underlying76 Try.underlying5 Try.underlying9 (Kd.own_of_R HO_6.out)
         go_wp2
         go_ret2
         exact ⟨er, bh HB.out⟩
     ·rw [if_neg c12] at H
      exact absurd H (by simp)
    ·rw [if_neg c11] at H
     exact absurd H (by simp)
/-! ### peristyleref11_packed: function 32 -/
def peristyleref11_packed.f (k : Nat) (l0 : List Int) : Option (ByteArray) := (peristyleref08_Width.f k l0).bind fun t370 => ((peristyleref08_Put.f k l0 t370).bind fun bt371 => (some bt371.1))
set_option maxHeartbeats 8000000 in
set_option maxRecDepth 100000 in
theorem peristyleref11_packed.calls (k : Nat) (A0 : Option Addr) (c0 : Nat) (l0 : List Int) (r : ByteArray) (w : World) (hr0 : Kd.C (Kd.int .i64) w A0 l0.length l0) (hc0 : l0.length ≤ c0) (h : peristyleref11_packed.f k l0 = some r) :
  Calls Try.prog 32 #[.slice A0 l0.length c0] w fun e w' => e = .returned (.string r) ∧ Below w.heap.size w w' := by
 have HR0 := Aside0.mk hr0
 have HC0 := Aside0.mk hc0
 clear hr0 hc0
 have HB := Aside0.mk (Below.refl w.heap.size w)
 have H : ((peristyleref08_Width.f k l0).bind fun t370 => ((peristyleref08_Put.f k l0 t370).bind fun bt371 => (some bt371.1))) = some r := h
 clear h
 replace H := Option.bind_eq_some_iff.mp H
 obtain ⟨t370, A20, H⟩ := H
 replace H : ((peristyleref08_Put.f k l0 t370).bind fun bt371 => (some bt371.1)) = some r := H
 have A2 := Aside0.mk A20
 clear A20
 replace H := Option.bind_eq_some_iff.mp H
 obtain ⟨⟨t371, t372⟩, A30, H⟩ := H
 replace H : (some t371) = some r := H
 have A3 := Aside0.mk A30
 clear A30
 obtain rfl := Option.some.inj H
 go_enter Try.func32, Try.ntmps32
 go_wp2_with (first | ((with_reducible refine gate_callee (f := 58) rfl ?_); refine goesL_ (some 8) rfl rfl Try.func58 (by kernel_rfl) rfl #[.slice A0 l0.length c0] rfl (by (try simp only [List.map_toArray, List.map_cons, List.map_nil]); first | done | rfl) ?_; (with_reducible refine (peristyleref08_Width.calls k _ _ l0 t370 _ ?side1 ?side2 A2.out).mono ?_); (case side1 => exact cx HR0.out); (case side2 => exact HC0.out); rintro e w4 ⟨rfl, hb⟩; refine ⟨_, rfl, ?_⟩; replace HB := bsa HB hb; (try clear hb)) | ((with_reducible refine gate_callee (f := 57) rfl ?_); refine goesL_ (some 9) rfl rfl Try.func57 (by kernel_rfl) rfl #[.slice A0 l0.length c0, .int .i64 t370] rfl (by (try simp only [List.map_toArray, List.map_cons, List.map_nil]); first | done | rfl) ?_; (with_reducible refine (peristyleref08_Put.calls k _ _ l0 t370 t371 t372 _ ?side1 ?side2 A3.out).mono ?_); (case side1 => exact cx (Kd.C_below HR0.out HB.out)); (case side2 => exact HC0.out); rintro e w5 ⟨rfl, hb⟩; refine ⟨_, rfl, ?_⟩; replace HB := bsa HB hb; (try clear hb)))
 go_ret
 exact ⟨er, bh HB.out⟩
/-! ### peristyleref11_PutInts: function 12 -/
def peristyleref11_PutInts.l0 : Nat → List Int → List Int → ByteArray → Int → Option (ByteArray × Int)
 | 0, _, _, _, _ => none
 | k + 1, x4, x5, x6, x7 => if x7 < (x4.length : Int) then (if 0 ≤ x7 then ((peristyleref02_Put.f k (rd x4 x7)).bind fun t381 => (if x6.size + t381.size ≤ 9223372036854775807 then (peristyleref11_PutInts.l0 k x4 x5 (x6 ++ t381) (wrap64 (x7 + 1))) else (none))) else (none)) else ((peristyleref11_packed.f k x5).bind fun t382 => (if x6.size + t382.size ≤ 9223372036854775807 then (some (x6 ++ t382, 0)) else (none)))
def peristyleref11_PutInts.f (k : Nat) (l0 : List Int) : Option (ByteArray × Int) := if (l0.length : Int) > 65536 then (some ((⟨#[]⟩ : ByteArray), 1)) else (if (l0.length : Int) = 0 then (some ((⟨#[]⟩ : ByteArray), 0)) else ((peristyleref11_Ints.f k l0).bind fun bt373 => ((peristyleref02_Put.f k (bt373.1.length : Int)).bind fun t379 => (peristyleref11_PutInts.l0 k bt373.1 bt373.2 t379 0))))
end Go.Proofs.Ytfohecpfenegkaa.Print
end
section
namespace Go.Proofs.Ytfohecpfenegkaa.Print
open Go.RowKit Go.Proofs.YtfohecpfenegkaaW.PrintWords Go.Proofs.YtfohecpfenegkaaW.PrintLast Go.Proofs.YtfohecpfenegkaaW.PrintMore
attribute [local go_sem] max2_int min2_int max_two min_two max_three min_three max_four min_four   -- for this text's walks alone
set_option linter.unusedVariables false
set_option linter.unusedSimpArgs false
/-! ### peristyleref07_PutTexts: function 39 -/
def peristyleref07_PutTexts.l0 : Nat → List ByteArray → List Int → Int → Option (ByteArray × Int)
 | 0, _, _, _ => none
 | k + 1, x0, x4, x5 => if x5 < (x0.length : Int) then (if 0 ≤ x5 then (if ((rdOf ByteArray.empty x0 x5).size : Int) > 32 then (some ((⟨#[]⟩ : ByteArray), 1)) else (if x4.length < 140737488355328 then ((some (x4 ++ [(((rdOf ByteArray.empty x0 x5).size : Int)) % 256] : List Int)).bind fun y455 => (if y455.length + (rdOf ByteArray.empty x0 x5).size < 140737488355328 then (peristyleref07_PutTexts.l0 k x0 (y455 ++ bytesOf (rdOf ByteArray.empty x0 x5)) (wrap64 (x5 + 1))) else (none))) else (none))) else (none)) else (some (strOfNums x4, 0))
def peristyleref07_PutTexts.f (k : Nat) (l0 : List ByteArray) : Option (ByteArray × Int) := peristyleref07_PutTexts.l0 k l0 ([] : List Int) 0
theorem peristyleref07_PutTexts.l0_succ (k : Nat) (x0 : List ByteArray) (x4 : List Int) (x5 : Int) : peristyleref07_PutTexts.l0 (k + 1) x0 x4 x5 = (if x5 < (x0.length : Int) then (if 0 ≤ x5 then (if ((rdOf ByteArray.empty x0 x5).size : Int) > 32 then (some ((⟨#[]⟩ : ByteArray), 1)) else (if x4.length < 140737488355328 then ((some (x4 ++ [(((rdOf ByteArray.empty x0 x5).size : Int)) % 256] : List Int)).bind fun y455 => (if y455.length + (rdOf ByteArray.empty x0 x5).size < 140737488355328 then (peristyleref07_PutTexts.l0 k x0 (y455 ++ bytesOf (rdOf ByteArray.empty x0 x5)) (wrap64 (x5 + 1))) else (none))) else (none))) else (none)) else (some (strOfNums x4, 0))) := by
 simp only [peristyleref07_PutTexts.l0]
set_option maxHeartbeats 8000000 in
set_option maxRecDepth 100000 in
theorem peristyleref07_PutTexts.calls (k : Nat) (A0 : Option Addr) (c0 : Nat) (l0 : List ByteArray) (r1 : ByteArray) (r2 : Int) (w : World) (hr0 : Kd.C Kd.string w A0 l0.length l0) (hc0 : l0.length ≤ c0) (h : peristyleref07_PutTexts.f k l0 = some (r1, r2)) :
  Calls Try.prog 39 #[.slice A0 l0.length c0] w fun e w' => e = .returned (.tuple #[.string r1, .int .i64 r2]) ∧ Below w.heap.size w w' := by
 have HR0 := Aside0.mk hr0
 have HC0 := Aside0.mk hc0
 clear hr0 hc0
 have HB := Aside0.mk (Below.refl w.heap.size w)
 have H : (peristyleref07_PutTexts.l0 k l0 ([] : List Int) 0) = some (r1, r2) := h
 clear h
 have H' := Aside0.mk H
 clear H
 go_enter Try.func39, Try.ntmps39
 go_wp2
 go_loopg [4, 5] k (fun kq v4 v5 w' => ∃ (x4_1 : List Int) (x5_1 : Int), v5 = .int .i64 x5_1 ∧ Aside0 (peristyleref07_PutTexts.l0 kq l0 x4_1 x5_1 = some (r1, r2)) ∧ Aside0 (kq ≤ k) ∧ Aside0 (Kd.R (Kd.int .u8) 5 w' w.heap.size (fun _ => True) v4 x4_1) ∧ Aside0 (Below w.heap.size w w'))
 case atStart => exact ⟨(([] : List Int)), (0), (by first | rfl | (simp; done) | (simp [*]; done)), H', ⟨Nat.le_refl _⟩, ⟨nl⟩, ⟨bh HB.out⟩⟩
 case round =>
  clear H'
  obtain ⟨x4_1, x5_1, rfl, HA, HK1, HO_4, HB⟩ := hrel
  cases gk with
  | zero => exact absurd HA.out (by simp [peristyleref07_PutTexts.l0])
  | succ k1 =>
   have H := HA.out
   clear HA
   simp only [peristyleref07_PutTexts.l0] at H
   by_cases c2 : x5_1 < (l0.length : Int)
   ·rw [if_pos c2] at H
    have c2b0 : decide (x5_1 < (l0.length : Int)) = true := decide_eq_true c2
    clear c2
    by_cases c3 : 0 ≤ x5_1
    ·rw [if_pos c3] at H
     have c3b0 : decide (0 ≤ x5_1) = true := decide_eq_true c3
     clear c3
     by_cases c4 : ((rdOf ByteArray.empty l0 x5_1).size : Int) > 32
     ·rw [if_pos c4] at H
      have c4b0 : decide (32 < ((rdOf ByteArray.empty l0 x5_1).size : Int)) = true := decide_eq_true c4
      have c4b1 : decide (32 < (rdOf ByteArray.empty l0 x5_1).size) = true := decide_eq_true (by omega)
      clear c4
      simp only [Option.some.injEq, Prod.mk.injEq] at H
      obtain ⟨rfl, rfl⟩ := H
      have p453 : 0 ≤ (x5_1 : Int) := of_decide_eq_true (by assumption)
      have q453 : x5_1 < (l0.length : Int) := of_decide_eq_true (by assumption)
      obtain ⟨ad453, e453, hx453_0⟩ := Kd.at_string HR0.out x5_1 p453 q453
      cases e453
      replace hx453_0 := (HB.out.cell (World.block_lt_of_cell? w _ hx453_0)).trans hx453_0
      replace p453 := eq_true p453
      replace q453 := eq_true q453
      go_wp2
      go_ret2
      exact ⟨er, bh HB.out⟩
     ·rw [if_neg c4] at H
      have c4b0 : decide (32 < ((rdOf ByteArray.empty l0 x5_1).size : Int)) = false := decide_eq_false c4
      have c4b1 : decide (32 < (rdOf ByteArray.empty l0 x5_1).size) = false := decide_eq_false (by omega)
      clear c4
      by_cases c5 : x4_1.length < 140737488355328
      ·rw [if_pos c5] at H
       have LMc5 := Aside0.mk c5
       clear c5
       obtain ⟨y455, hy455⟩ : ∃ y_ : List Int, y_ = (x4_1 ++ [(((rdOf ByteArray.empty l0 x5_1).size : Int)) % 256]) := ⟨_, rfl⟩
       replace H : (if y455.length + (rdOf ByteArray.empty l0 x5_1).size < 140737488355328 then (peristyleref07_PutTexts.l0 k1 l0 (y455 ++ bytesOf (rdOf ByteArray.empty l0 x5_1)) (wrap64 (x5_1 + 1))) else (none)) = some (r1, r2) := by first | (rw [hy455]; with_reducible exact H) | (have H2_ := (Option.bind_some _ _).symm.trans H; rw [hy455]; with_reducible exact H2_) | (have H2_ := (Option.bind_some _ _).symm.trans H; with_reducible exact H2_) | with_reducible exact H | (rw [hy455]; exact H) | exact H
       have Ny455 := Aside0.mk hy455
       clear hy455
       by_cases c6 : y455.length + (rdOf ByteArray.empty l0 x5_1).size < 140737488355328
       ·rw [if_pos c6] at H
        have LMc6 := Aside0.mk c6
        clear c6
        obtain ⟨y459, hy459⟩ : ∃ y_ : List Int, y_ = (y455 ++ bytesOf (rdOf ByteArray.empty l0 x5_1)) := ⟨_, rfl⟩
        replace H : (peristyleref07_PutTexts.l0 k1 l0 y459 (wrap64 (x5_1 + 1))) = some (r1, r2) := by first | (rw [hy459]; with_reducible exact H) | (have H2_ := (Option.bind_some _ _).symm.trans H; rw [hy459]; with_reducible exact H2_) | (have H2_ := (Option.bind_some _ _).symm.trans H; with_reducible exact H2_) | with_reducible exact H | (rw [hy459]; exact H) | exact H
        have Ny459 := Aside0.mk hy459
        clear hy459
        have H' := Aside0.mk H
        clear H
        have p453 : 0 ≤ (x5_1 : Int) := of_decide_eq_true (by assumption)
        have q453 : x5_1 < (l0.length : Int) := of_decide_eq_true (by assumption)
        obtain ⟨ad453, e453, hx453_0⟩ := Kd.at_string HR0.out x5_1 p453 q453
        cases e453
        replace hx453_0 := (HB.out.cell (World.block_lt_of_cell? w _ hx453_0)).trans hx453_0
        replace p453 := eq_true p453
        replace q453 := eq_true q453
        have p454 : 0 ≤ (x5_1 : Int) := of_decide_eq_true (by assumption)
        have q454 : x5_1 < (l0.length : Int) := of_decide_eq_true (by assumption)
        obtain ⟨ad454, e454, hx454_0⟩ := Kd.at_string HR0.out x5_1 p454 q454
        obtain rfl : ad453 = ad454 := (by injection e454)
        replace hx454_0 := (HB.out.cell (World.block_lt_of_cell? w _ hx454_0)).trans hx454_0
        replace p454 := eq_true p454
        replace q454 := eq_true q454
        go_wp2_with (first | ((with_reducible refine gate_builtin (b := .append) (xs := #[.tmp 18, .tmp 25]) rfl ?_); at_builtin; refine Kd.R_append (Kd.int .u8) (w0 := w) w.heap.size rfl (.tmp 18) (.tmp 25) 76 5 (.int .u8 0) 1 rfl Try.underlying76 info5 rfl (by decide) (by omega) u4 x4_1 ((((rdOf ByteArray.empty l0 x5_1).size : Int)) % 256) [.int .u8 ((((rdOf ByteArray.empty l0 x5_1).size : Int)) % 256)] (fun _ => True) (fun _ => False) rfl rfl ?aP (fun _ hk => hk.elim) ?aF ?aO ?aB ?aS ?aL ?_; (case aP => exact rfl); (case aB => exact (bh HB.out)); (case aF => exact (fun _ _ => trivial)); (case aO => exact (rx HO_4.out)); (case aS => exact (below_size (bh HB.out))); (case aL => have := LMc5.out; omega); intro v456 w7 ho hb hg hat; rw [← Ny455.out] at ho; have n0_ := Aside0.mk (hb); have n1_ := Aside0.mk (ho); clear HB HO_4; have HB := n0_; have HO457 := n1_; clear n0_ n1_; clear ho hb hg hat; have p458 : 0 ≤ (x5_1 : Int) := of_decide_eq_true (by assumption); have q458 : x5_1 < (l0.length : Int) := of_decide_eq_true (by assumption); obtain ⟨ad458, e458, hx458_0⟩ := Kd.at_string HR0.out x5_1 p458 q458; obtain rfl : ad453 = ad458 := (by injection e458); replace hx458_0 := (HB.out.cell (World.block_lt_of_cell? w _ hx458_0)).trans hx458_0; replace p458 := eq_true p458; replace q458 := eq_true q458) | (at_builtin; refine print_append_str (w0 := w) w.heap.size rfl (.tmp 27) _ 76 9 5 rfl Try.underlying76 Try.underlying9 info5 v456 y455 (rdOf ByteArray.empty l0 x5_1) rfl rfl ?aO ?aB ?aS ?aL ?_; (case aB => exact (bh HB.out)); (case aO => exact (Kd.own_of_R (rx HO457.out))); (case aS => exact (below_size (bh HB.out))); (case aL => have := LMc6.out; omega); intro v460 w8 ho0 hb hg; have ho := Kd.R_of_own (h1 := fun _ => rfl) (ok := fun _ => True) ho0 (fun _ _ => trivial); clear ho0; have hat := True.intro; rw [← Ny459.out] at ho; change Kd.R (Kd.int .u8) 5 w8 w.heap.size (fun _ => True) v460 y459 at ho; have n0_ := Aside0.mk (hb); have n1_ := Aside0.mk (ho); clear HB HO457; have HB := n0_; have HO461 := n1_; clear n0_ n1_; clear ho hb hg hat))
        go_roundg k1
        case measure => have := HK1.out; omega
        case rel => exact ⟨(y459), (wrap64 (x5_1 + 1)), (by first | rfl | (simp; done) | (simp [*]; done)), H', ⟨by have := HK1.out; omega⟩, ⟨by (with_reducible repeat (first | apply Kd.R_alloc | apply Kd.R_drewN | apply Kd.R_drew)); exact HO461.out⟩, ⟨bh HB.out⟩⟩
       ·rw [if_neg c6] at H
        exact absurd H (by simp)
      ·rw [if_neg c5] at H
       exact absurd H (by simp)
    ·rw [if_neg c3] at H
     exact absurd H (by simp)
   ·rw [if_neg c2] at H
    have c2b0 : decide (x5_1 < (l0.length : Int)) = false := decide_eq_false c2
    clear c2
    simp only [Option.some.injEq, Prod.mk.injEq] at H
    obtain ⟨rfl, rfl⟩ := H
    have hcv9 := own_string (P := Try.prog) Try.underlying76 Try.underlying5 Try.underlying9 (Kd.own_of_R HO_4.out)
    go_wp2
    go_ret2
    exact ⟨er, bh HB.out⟩
/-! ### peristyleref11_PutTexts: function 17 -/
def peristyleref11_PutTexts.f (k : Nat) (l0 : List ByteArray) : Option (ByteArray × Int) := if (l0.length : Int) > 65536 then (some ((⟨#[]⟩ : ByteArray), 1)) else (if (l0.length : Int) = 0 then (some ((⟨#[]⟩ : ByteArray), 0)) else ((peristyleref11_Texts.f k l0).bind fun bt462 => ((peristyleref07_PutTexts.f k bt462.1).bind fun bt468 => (if bt468.2 = 0 then ((peristyleref02_Put.f k (bt462.1.length : Int)).bind fun t470 => (if t470.size + bt468.1.size ≤ 9223372036854775807 then ((peristyleref11_packed.f k bt462.2).bind fun t471 => (if (t470 ++ bt468.1).size + t471.size ≤ 9223372036854775807 then (some ((t470 ++ bt468.1) ++ t471, 0)) else (none))) else (none))) else (some ((⟨#[]⟩ : ByteArray), bt468.2))))))
set_option maxHeartbeats 8000000 in
set_option maxRecDepth 100000 in
theorem peristyleref11_PutTexts.calls (k : Nat) (A0 : Option Addr) (c0 : Nat) (l0 : List ByteArray) (r1 : ByteArray) (r2 : Int) (w : World) (hr0 : Kd.C Kd.string w A0 l0.length l0) (hc0 : l0.length ≤ c0) (h : peristyleref11_PutTexts.f k l0 = some (r1, r2)) :
  Calls Try.prog 17 #[.slice A0 l0.length c0] w fun e w' => e = .returned (.tuple #[.string r1, .int .i64 r2]) ∧ Below w.heap.size w w' := by
 have HR0 := Aside0.mk hr0
 have HC0 := Aside0.mk hc0
 clear hr0 hc0
 have HB := Aside0.mk (Below.refl w.heap.size w)
 have H : (if (l0.length : Int) > 65536 then (some ((⟨#[]⟩ : ByteArray), 1)) else (if (l0.length : Int) = 0 then (some ((⟨#[]⟩ : ByteArray), 0)) else ((peristyleref11_Texts.f k l0).bind fun bt462 => ((peristyleref07_PutTexts.f k bt462.1).bind fun bt468 => (if bt468.2 = 0 then ((peristyleref02_Put.f k (bt462.1.length : Int)).bind fun t470 => (if t470.size + bt468.1.size ≤ 9223372036854775807 then ((peristyleref11_packed.f k bt462.2).bind fun t471 => (if (t470 ++ bt468.1).size + t471.size ≤ 9223372036854775807 then (some ((t470 ++ bt468.1) ++ t471, 0)) else (none))) else (none))) else (some ((⟨#[]⟩ : ByteArray), bt468.2))))))) = some (r1, r2) := h
 clear h
 by_cases c2 : (l0.length : Int) > 65536
 ·rw [if_pos c2] at H
  have c2b0 : decide (65536 < (l0.length : Int)) = true := decide_eq_true c2
  have c2b1 : decide (65536 < l0.length) = true := decide_eq_true (by omega)
  clear c2
  simp only [Option.some.injEq, Prod.mk.injEq] at H
  obtain ⟨rfl, rfl⟩ := H
  go_enter Try.func17, Try.ntmps17
  go_wp2
  go_ret2
  exact ⟨er, bh HB.out⟩
 ·rw [if_neg c2] at H
  have c2b0 : decide (65536 < (l0.length : Int)) = false := decide_eq_false c2
  have c2b1 : decide (65536 < l0.length) = false := decide_eq_false (by omega)
  clear c2
  by_cases c3 : (l0.length : Int) = 0
  ·rw [if_pos c3] at H
   have c3b0 : ((l0.length : Int) == 0) = true := beq_iff_eq.mpr c3
   have c3b1 : ((l0.length : Int) != 0) = false := bne_eq_false_iff_eq.mpr c3
   clear c3
   simp only [Option.some.injEq, Prod.mk.injEq] at H
   obtain ⟨rfl, rfl⟩ := H
   go_enter Try.func17, Try.ntmps17
   go_wp2
   go_ret2
   exact ⟨er, bh HB.out⟩
  ·rw [if_neg c3] at H
   have c3b0 : ((l0.length : Int) == 0) = false := beq_eq_false_iff_ne.mpr c3
   have c3b1 : ((l0.length : Int) != 0) = true := bne_iff_ne.mpr c3
   have c3b2 : ¬ (l0 = []) := fun h_ => c3 (by rw [h_]; rfl)
   replace H := Option.bind_eq_some_iff.mp H
   obtain ⟨⟨t462, t463⟩, A40, H⟩ := H
   replace H : ((peristyleref07_PutTexts.f k t462).bind fun bt468 => (if bt468.2 = 0 then ((peristyleref02_Put.f k (t462.length : Int)).bind fun t470 => (if t470.size + bt468.1.size ≤ 9223372036854775807 then ((peristyleref11_packed.f k t463).bind fun t471 => (if (t470 ++ bt468.1).size + t471.size ≤ 9223372036854775807 then (some ((t470 ++ bt468.1) ++ t471, 0)) else (none))) else (none))) else (some ((⟨#[]⟩ : ByteArray), bt468.2)))) = some (r1, r2) := H
   have A4 := Aside0.mk A40
   clear A40
   replace H := Option.bind_eq_some_iff.mp H
   obtain ⟨⟨t468, t469⟩, A50, H⟩ := H
   replace H : (if t469 = 0 then ((peristyleref02_Put.f k (t462.length : Int)).bind fun t470 => (if t470.size + t468.size ≤ 9223372036854775807 then ((peristyleref11_packed.f k t463).bind fun t471 => (if (t470 ++ t468).size + t471.size ≤ 9223372036854775807 then (some ((t470 ++ t468) ++ t471, 0)) else (none))) else (none))) else (some ((⟨#[]⟩ : ByteArray), t469))) = some (r1, r2) := H
   have A5 := Aside0.mk A50
   clear A50
   by_cases c6 : t469 = 0
   ·rw [if_pos c6] at H
    have c6b0 : (t469 == 0) = true := beq_iff_eq.mpr c6
    have c6b1 : (t469 != 0) = false := bne_eq_false_iff_eq.mpr c6
    clear c6
    replace H := Option.bind_eq_some_iff.mp H
    obtain ⟨t470, A70, H⟩ := H
    replace H : (if t470.size + t468.size ≤ 9223372036854775807 then ((peristyleref11_packed.f k t463).bind fun t471 => (if (t470 ++ t468).size + t471.size ≤ 9223372036854775807 then (some ((t470 ++ t468) ++ t471, 0)) else (none))) else (none)) = some (r1, r2) := H
    have A7 := Aside0.mk A70
    clear A70
    by_cases c8 : t470.size + t468.size ≤ 9223372036854775807
    ·rw [if_pos c8] at H
     have c8b0 := eq_true c8
     have c8b1 : decide (t470.size + t468.size ≤ 9223372036854775807) = true := decide_eq_true c8
     try have c8b2 : (9223372036854775807 < t470.size + t468.size) = False := eq_false (Nat.not_lt.2 c8)
     replace H := Option.bind_eq_some_iff.mp H
     obtain ⟨t471, A90, H⟩ := H
     replace H : (if (t470 ++ t468).size + t471.size ≤ 9223372036854775807 then (some ((t470 ++ t468) ++ t471, 0)) else (none)) = some (r1, r2) := H
     have A9 := Aside0.mk A90
     clear A90
     by_cases c10 : (t470 ++ t468).size + t471.size ≤ 9223372036854775807
     ·rw [if_pos c10] at H
      have c10b0 := eq_true c10
      have c10b1 : decide ((t470 ++ t468).size + t471.size ≤ 9223372036854775807) = true := decide_eq_true c10
      (try (have c10b1s := c10b1; simp only [ByteArray.size_append] at c10b1s))
      try have c10b2 : (9223372036854775807 < (t470 ++ t468).size + t471.size) = False := eq_false (Nat.not_lt.2 c10)
      (try (have c10b2s := c10b2; simp only [ByteArray.size_append] at c10b2s))
      simp only [Option.some.injEq, Prod.mk.injEq] at H
      obtain ⟨rfl, rfl⟩ := H
      go_enter Try.func17, Try.ntmps17
      go_wp2_with (first | ((with_reducible refine gate_callee (f := 15) rfl ?_); refine goesL_ (some 16) rfl rfl Try.func15 (by kernel_rfl) rfl #[.slice A0 l0.length c0] rfl (by (try simp only [List.map_toArray, List.map_cons, List.map_nil]); first | done | rfl) ?_; (with_reducible refine (peristyleref11_Texts.calls k _ _ l0 t462 t463 _ ?side1 ?side2 A4.out).mono ?_); (case side1 => exact cx HR0.out); (case side2 => exact HC0.out); rintro e w11 ⟨v464, v466, rfl, ho0, ho1, hb⟩; refine ⟨_, rfl, ?_⟩; have HO465 := Aside0.mk (Kd.R_lower ho0 (below_size (bh HB.out))); have HO467 := Aside0.mk (Kd.R_lower ho1 (below_size (bh HB.out))); replace HB := bsa HB hb; (try clear hb); (try clear ho0); (try clear ho1); obtain ⟨Ao12, co12, eo12⟩ := Kd.R_slice HO465.out; subst eo12) | ((with_reducible refine gate_callee (f := 39) rfl ?_); refine goesL_ (some 21) rfl rfl Try.func39 (by kernel_rfl) rfl #[.slice Ao12 t462.length co12] rfl (by (try simp only [List.map_toArray, List.map_cons, List.map_nil]); first | done | rfl) ?_; (with_reducible refine (peristyleref07_PutTexts.calls k _ _ t462 t468 t469 _ ?side1 ?side2 A5.out).mono ?_); (case side1 => exact cx (Kd.R_reads' HO465.out).2.2); (case side2 => exact (Kd.R_reads' HO465.out).2.1); rintro e w13 ⟨rfl, hb⟩; refine ⟨_, rfl, ?_⟩; replace HO465 := rba HO465 hb; replace HO467 := rba HO467 hb; replace HB := bsa HB hb; (try clear hb)) | ((with_reducible refine gate_callee (f := 31) rfl ?_); refine goesL_ (some 29) rfl rfl Try.func31 (by kernel_rfl) rfl #[.int .i64 (t462.length : Int)] rfl (by (try simp only [List.map_toArray, List.map_cons, List.map_nil]); first | done | rfl) ?_; (with_reducible refine (peristyleref02_Put.calls k (t462.length : Int) t470 _ A7.out).mono ?_); rintro e w14 ⟨rfl, hb⟩; refine ⟨_, rfl, ?_⟩; replace HO465 := rba HO465 hb; replace HO467 := rba HO467 hb; replace HB := bsa HB hb; (try clear hb); obtain ⟨Ao15, co15, eo15⟩ := Kd.R_slice HO467.out; subst eo15) | ((with_reducible refine gate_callee (f := 32) rfl ?_); refine goesL_ (some 33) rfl rfl Try.func32 (by kernel_rfl) rfl #[.slice Ao15 t463.length co15] rfl (by (try simp only [List.map_toArray, List.map_cons, List.map_nil]); first | done | rfl) ?_; (with_reducible refine (peristyleref11_packed.calls k _ _ t463 t471 _ ?side1 ?side2 A9.out).mono ?_); (case side1 => exact cx (Kd.R_reads' HO467.out).2.2); (case side2 => exact (Kd.R_reads' HO467.out).2.1); rintro e w16 ⟨rfl, hb⟩; refine ⟨_, rfl, ?_⟩; replace HO465 := rba HO465 hb; replace HO467 := rba HO467 hb; replace HB := bsa HB hb; (try clear hb)))
      go_ret2
      exact ⟨er, bh HB.out⟩
     ·rw [if_neg c10] at H
      exact absurd H (by simp)
    ·rw [if_neg c8] at H
     exact absurd H (by simp)
   ·rw [if_neg c6] at H
    have c6b0 : (t469 == 0) = false := beq_eq_false_iff_ne.mpr c6
    have c6b1 : (t469 != 0) = true := bne_iff_ne.mpr c6
    simp only [Option.some.injEq, Prod.mk.injEq] at H
    obtain ⟨rfl, rfl⟩ := H
    go_enter Try.func17, Try.ntmps17
    go_wp2_with (first | ((with_reducible refine gate_callee (f := 15) rfl ?_); refine goesL_ (some 16) rfl rfl Try.func15 (by kernel_rfl) rfl #[.slice A0 l0.length c0] rfl (by (try simp only [List.map_toArray, List.map_cons, List.map_nil]); first | done | rfl) ?_; (with_reducible refine (peristyleref11_Texts.calls k _ _ l0 t462 t463 _ ?side1 ?side2 A4.out).mono ?_); (case side1 => exact cx HR0.out); (case side2 => exact HC0.out); rintro e w17 ⟨v464, v466, rfl, ho0, ho1, hb⟩; refine ⟨_, rfl, ?_⟩; have HO465 := Aside0.mk (Kd.R_lower ho0 (below_size (bh HB.out))); have HO467 := Aside0.mk (Kd.R_lower ho1 (below_size (bh HB.out))); replace HB := bsa HB hb; (try clear hb); (try clear ho0); (try clear ho1); obtain ⟨Ao18, co18, eo18⟩ := Kd.R_slice HO465.out; subst eo18) | ((with_reducible refine gate_callee (f := 39) rfl ?_); refine goesL_ (some 21) rfl rfl Try.func39 (by kernel_rfl) rfl #[.slice Ao18 t462.length co18] rfl (by (try simp only [List.map_toArray, List.map_cons, List.map_nil]); first | done | rfl) ?_; (with_reducible refine (peristyleref07_PutTexts.calls k _ _ t462 t468 t469 _ ?side1 ?side2 A5.out).mono ?_); (case side1 => exact cx (Kd.R_reads' HO465.out).2.2); (case side2 => exact (Kd.R_reads' HO465.out).2.1); rintro e w19 ⟨rfl, hb⟩; refine ⟨_, rfl, ?_⟩; replace HO465 := rba HO465 hb; replace HO467 := rba HO467 hb; replace HB := bsa HB hb; (try clear hb)))
    go_ret2
    exact ⟨er, bh HB.out⟩
/-! ### dict_Places_1: function 42 -/
def dict_Places_1.f (a0 : ByteArray) : Option (ByteArray × Int) := if a0.toList = ([] : List UInt8) then (some ((⟨#[]⟩ : ByteArray), 0)) else (if 0 < (a0.size : Int) then (if (wrap64 (bt a0 0)) > 32 then (some ((⟨#[]⟩ : ByteArray), 0)) else (if (wrap64 (bt a0 0)) ≥ (a0.size : Int) then (some ((⟨#[]⟩ : ByteArray), 0)) else (if 1 ≤ (wrap64 (1 + (wrap64 (bt a0 0)))) then (if (wrap64 (1 + (wrap64 (bt a0 0)))) ≤ (a0.size : Int) then (some (a0.extract 1 ((wrap64 (1 + (wrap64 (bt a0 0)))) : Int).toNat, wrap64 (1 + (wrap64 (bt a0 0))))) else (none)) else (none)))) else (none))
set_option maxHeartbeats 8000000 in
set_option maxRecDepth 100000 in
theorem dict_Places_1.calls (a0 : ByteArray) (r1 : ByteArray) (r2 : Int) (w : World) (h : dict_Places_1.f a0 = some (r1, r2)) :
  Calls Try.prog 42 #[.string a0] w fun e w' => e = .returned (.tuple #[.string r1, .int .i64 r2]) ∧ Drawn0 w w' := by
 have H : (if a0.toList = ([] : List UInt8) then (some ((⟨#[]⟩ : ByteArray), 0)) else (if 0 < (a0.size : Int) then (if (wrap64 (bt a0 0)) > 32 then (some ((⟨#[]⟩ : ByteArray), 0)) else (if (wrap64 (bt a0 0)) ≥ (a0.size : Int) then (some ((⟨#[]⟩ : ByteArray), 0)) else (if 1 ≤ (wrap64 (1 + (wrap64 (bt a0 0)))) then (if (wrap64 (1 + (wrap64 (bt a0 0)))) ≤ (a0.size : Int) then (some (a0.extract 1 ((wrap64 (1 + (wrap64 (bt a0 0)))) : Int).toNat, wrap64 (1 + (wrap64 (bt a0 0))))) else (none)) else (none)))) else (none))) = some (r1, r2) := h
 clear h
 by_cases c2 : a0.toList = ([] : List UInt8)
 ·rw [if_pos c2] at H
  have c2b0 : (a0.toList == ([] : List UInt8)) = true := beq_iff_eq.mpr c2
  have c2b1 : (a0.toList != ([] : List UInt8)) = false := bne_eq_false_iff_eq.mpr c2
  clear c2
  simp only [Option.some.injEq, Prod.mk.injEq] at H
  obtain ⟨rfl, rfl⟩ := H
  go_enter Try.func42, Try.ntmps42
  go_wp2
  go_ret2
  exact ⟨by first | rfl | (unfold wrap64; rfl) | (simp; done) | (simp [*]; done), by repeat (first | exact Drawn0.refl _ | apply Drawn0.step)⟩
 ·rw [if_neg c2] at H
  have c2b0 : (a0.toList == ([] : List UInt8)) = false := beq_eq_false_iff_ne.mpr c2
  have c2b1 : (a0.toList != ([] : List UInt8)) = true := bne_iff_ne.mpr c2
  by_cases c3 : 0 < (a0.size : Int)
  ·rw [if_pos c3] at H
   have c3b0 : decide (0 < (a0.size : Int)) = true := decide_eq_true c3
   have c3b1 : decide (0 < a0.size) = true := decide_eq_true (by omega)
   clear c3
   by_cases c5 : (wrap64 (bt a0 0)) > 32
   ·rw [if_pos c5] at H
    have c5b0 : decide (32 < (wrap64 (bt a0 0))) = true := decide_eq_true c5
    clear c5
    simp only [Option.some.injEq, Prod.mk.injEq] at H
    obtain ⟨rfl, rfl⟩ := H
    have p4 : 0 ≤ (0 : Int) := (by omega)
    have q4 : 0 < a0.size := (by have : (0 : Int) < (a0.size : Int) := of_decide_eq_true (by assumption); omega)
    have hx4 : ∀ h : 0 < a0.size, ((a0[0]'h).toNat : Int) = bt a0 0 := bt_at a0 0
    clear p4
    have qi4 : (0 < (a0.size : Int)) = True := eq_true (of_decide_eq_true (by assumption))
    replace q4 := eq_true q4
    go_enter Try.func42, Try.ntmps42
    go_wp2
    go_ret2
    exact ⟨by first | rfl | (unfold wrap64; rfl) | (simp; done) | (simp [*]; done), by repeat (first | exact Drawn0.refl _ | apply Drawn0.step)⟩
   ·rw [if_neg c5] at H
    have c5b0 : decide (32 < (wrap64 (bt a0 0))) = false := decide_eq_false c5
    clear c5
    by_cases c6 : (wrap64 (bt a0 0)) ≥ (a0.size : Int)
    ·rw [if_pos c6] at H
     have c6b0 : decide ((a0.size : Int) ≤ (wrap64 (bt a0 0))) = true := decide_eq_true c6
     clear c6
     simp only [Option.some.injEq, Prod.mk.injEq] at H
     obtain ⟨rfl, rfl⟩ := H
     have p4 : 0 ≤ (0 : Int) := (by omega)
     have q4 : 0 < a0.size := (by have : (0 : Int) < (a0.size : Int) := of_decide_eq_true (by assumption); omega)
     have hx4 : ∀ h : 0 < a0.size, ((a0[0]'h).toNat : Int) = bt a0 0 := bt_at a0 0
     clear p4
     have qi4 : (0 < (a0.size : Int)) = True := eq_true (of_decide_eq_true (by assumption))
     replace q4 := eq_true q4
     go_enter Try.func42, Try.ntmps42
     go_wp2
     go_ret2
     exact ⟨by first | rfl | (unfold wrap64; rfl) | (simp; done) | (simp [*]; done), by repeat (first | exact Drawn0.refl _ | apply Drawn0.step)⟩
    ·rw [if_neg c6] at H
     have c6b0 : decide ((a0.size : Int) ≤ (wrap64 (bt a0 0))) = false := decide_eq_false c6
     clear c6
     by_cases c7 : 1 ≤ (wrap64 (1 + (wrap64 (bt a0 0))))
     ·rw [if_pos c7] at H
      have c7b0 := eq_true c7
      have c7b1 : decide (1 ≤ (wrap64 (1 + (wrap64 (bt a0 0))))) = true := decide_eq_true c7
      by_cases c8 : (wrap64 (1 + (wrap64 (bt a0 0)))) ≤ (a0.size : Int)
      ·rw [if_pos c8] at H
       have c8b0 := eq_true c8
       have c8b1 : decide ((wrap64 (1 + (wrap64 (bt a0 0)))) ≤ (a0.size : Int)) = true := decide_eq_true c8
       simp only [Option.some.injEq, Prod.mk.injEq] at H
       obtain ⟨rfl, rfl⟩ := H
       have p4 : 0 ≤ (0 : Int) := (by omega)
       have q4 : 0 < a0.size := (by have : (0 : Int) < (a0.size : Int) := of_decide_eq_true (by assumption); omega)
       have hx4 : ∀ h : 0 < a0.size, ((a0[0]'h).toNat : Int) = bt a0 0 := bt_at a0 0
       clear p4
       have qi4 : (0 < (a0.size : Int)) = True := eq_true (of_decide_eq_true (by assumption))
       replace q4 := eq_true q4
       go_enter Try.func42, Try.ntmps42
       go_wp2
       go_ret2
       exact ⟨by first | rfl | (unfold wrap64; rfl) | (simp; done) | (simp [*]; done), by repeat (first | exact Drawn0.refl _ | apply Drawn0.step)⟩
      ·rw [if_neg c8] at H
       exact absurd H (by simp)
     ·rw [if_neg c7] at H
      exact absurd H (by simp)
  ·rw [if_neg c3] at H
   exact absurd H (by simp)
end Go.Proofs.Ytfohecpfenegkaa.Print
end
