-- Functions and laws: texts of the session's own and of the kit's print program, joined; what nothing names is left out.
import Derived.Test.YtfohecpfenegkaaTA
import Derived.Test.YtfohecpfenegkaaTB
import Derived.Test.YtfohecpfenegkaaTC
import Derived.Sort.Walk0
section
namespace Go.Proofs.Ytfohecpfenegkaa.Print
open Go.RowKit Go.Proofs.YtfohecpfenegkaaW.PrintWords Go.Proofs.YtfohecpfenegkaaW.PrintLast Go.Proofs.YtfohecpfenegkaaW.PrintMore
attribute [local go_sem] max2_int min2_int max_two min_two max_three min_three max_four min_four   -- for this text's walks alone
set_option linter.unusedVariables false
set_option linter.unusedSimpArgs false
/-! ### dict_take_string_fn42: function 41 -/
mutual
def dict_take_string_fn42.j0 : Nat → ByteArray → Int → Bool → Option (List ByteArray × List Int × Int)
 | 0, _, _, _ => none
 | k + 1, x0, x1, x25 => if x25 = true then (some (([] : List ByteArray), ([] : List Int), 1)) else (if x1 = 0 then (if x0.toList = ([] : List UInt8) then (some (([] : List ByteArray), ([] : List Int), 0)) else (some (([] : List ByteArray), ([] : List Int), 20))) else ((vint_Take.f k x0).bind fun bt472 => (if bt472.2.2 = 0 then (if bt472.1 < 1 then (dict_take_string_fn42.j1 k x0 x1 bt472.1 bt472.2.1 true) else (dict_take_string_fn42.j1 k x0 x1 bt472.1 bt472.2.1 (decide (bt472.1 > x1)))) else (dict_take_string_fn42.j1 k x0 x1 bt472.1 bt472.2.1 true))))
def dict_take_string_fn42.j1 : Nat → ByteArray → Int → Int → Int → Bool → Option (List ByteArray × List Int × Int)
 | 0, _, _, _, _, _ => none
 | k + 1, x0, x1, x9, x10, x46 => if x46 = true then (some (([] : List ByteArray), ([] : List Int), 20)) else (dict_take_string_fn42.l0 k x0 x1 x9 x10 ([] : List ByteArray) x9 0)
def dict_take_string_fn42.l0 : Nat → ByteArray → Int → Int → Int → List ByteArray → Int → Int → Option (List ByteArray × List Int × Int)
 | 0, _, _, _, _, _, _, _ => none
 | k + 1, x0, x1, x9, x10, x12, x47, x48 => if x48 < x47 then (if 0 ≤ x10 then (if x10 ≤ (x0.size : Int) then ((dict_Places_1.f (x0.extract (x10 : Int).toNat x0.size)).bind fun bt475 => (if bt475.2 = 0 then (some (([] : List ByteArray), ([] : List Int), 20)) else (if x48 > 0 then (if 0 ≤ (wrap64 (x48 - 1)) then (if (wrap64 (x48 - 1)) < (x12.length : Int) then (if ((Op.bytesLess ((rdOf ByteArray.empty x12 (wrap64 (x48 - 1))).toList) bt475.1.toList) = true) then (if x12.length < 8796093022208 then (dict_take_string_fn42.l0 k x0 x1 x9 (wrap64 (x10 + bt475.2)) (x12 ++ [bt475.1]) x47 (wrap64 (x48 + 1))) else (none)) else (some (([] : List ByteArray), ([] : List Int), 20))) else (none)) else (none)) else (if x12.length < 8796093022208 then (dict_take_string_fn42.l0 k x0 x1 x9 (wrap64 (x10 + bt475.2)) (x12 ++ [bt475.1]) x47 (wrap64 (x48 + 1))) else (none))))) else (none)) else (none)) else (if 0 ≤ x10 then (if x10 ≤ (x0.size : Int) then ((pack_Width.f k (([wrap64 (x9 - 1)] : List Int))).bind fun t487 => ((pack_Take.f k (x0.extract (x10 : Int).toNat x0.size) x1 t487).bind fun bt488 => (if bt488.2 = 0 then (if 0 ≤ x9 then (if (x9 : Int).toNat ≤ 281474976710656 then (dict_take_string_fn42.l1 k x9 x12 bt488.1 (List.replicate (x9 : Int).toNat false) bt488.1 (bt488.1.length : Int) 0) else (none)) else (none)) else (some (([] : List ByteArray), ([] : List Int), 20))))) else (none)) else (none))
def dict_take_string_fn42.l1 : Nat → Int → List ByteArray → List Int → List Bool → List Int → Int → Int → Option (List ByteArray × List Int × Int)
 | 0, _, _, _, _, _, _, _ => none
 | k + 1, x9, x12, x16, x17, x98, x99, x100 => if x100 < x99 then (if 0 ≤ x100 then (if x100 < (x98.length : Int) then (if (rd x98 x100) < 0 then (some (([] : List ByteArray), ([] : List Int), 20)) else (if (rd x98 x100) ≥ x9 then (some (([] : List ByteArray), ([] : List Int), 20)) else (if 0 ≤ (rd x98 x100) then (if (rd x98 x100) < (x17.length : Int) then (dict_take_string_fn42.l1 k x9 x12 x16 (x17.set ((rd x98 x100) : Int).toNat true) x98 x99 (wrap64 (x100 + 1))) else (none)) else (none)))) else (none)) else (none)) else ((slices_Contains_bool_bool.f k x17 false).bind fun t497 => (if t497 = true then (some (([] : List ByteArray), ([] : List Int), 20)) else (some (x12, x16, 0))))
end
def dict_take_string_fn42.f (k : Nat) (a0 : ByteArray) (a1 : Int)  : Option (List ByteArray × List Int × Int) := if a1 < 0 then (dict_take_string_fn42.j0 k a0 a1 true) else (dict_take_string_fn42.j0 k a0 a1 (decide (a1 > 65536)))
theorem dict_take_string_fn42.j0_succ (k : Nat) (x0 : ByteArray) (x1 : Int) (x25 : Bool) : dict_take_string_fn42.j0 (k + 1) x0 x1 x25 = (if x25 = true then (some (([] : List ByteArray), ([] : List Int), 1)) else (if x1 = 0 then (if x0.toList = ([] : List UInt8) then (some (([] : List ByteArray), ([] : List Int), 0)) else (some (([] : List ByteArray), ([] : List Int), 20))) else ((vint_Take.f k x0).bind fun bt472 => (if bt472.2.2 = 0 then (if bt472.1 < 1 then (dict_take_string_fn42.j1 k x0 x1 bt472.1 bt472.2.1 true) else (dict_take_string_fn42.j1 k x0 x1 bt472.1 bt472.2.1 (decide (bt472.1 > x1)))) else (dict_take_string_fn42.j1 k x0 x1 bt472.1 bt472.2.1 true))))) := by
 simp only [dict_take_string_fn42.j0]
theorem dict_take_string_fn42.j1_succ (k : Nat) (x0 : ByteArray) (x1 : Int) (x9 : Int) (x10 : Int) (x46 : Bool) : dict_take_string_fn42.j1 (k + 1) x0 x1 x9 x10 x46 = (if x46 = true then (some (([] : List ByteArray), ([] : List Int), 20)) else (dict_take_string_fn42.l0 k x0 x1 x9 x10 ([] : List ByteArray) x9 0)) := by
 simp only [dict_take_string_fn42.j1]
theorem dict_take_string_fn42.l0_succ (k : Nat) (x0 : ByteArray) (x1 : Int) (x9 : Int) (x10 : Int) (x12 : List ByteArray) (x47 : Int) (x48 : Int) : dict_take_string_fn42.l0 (k + 1) x0 x1 x9 x10 x12 x47 x48 = (if x48 < x47 then (if 0 ≤ x10 then (if x10 ≤ (x0.size : Int) then ((dict_Places_1.f (x0.extract (x10 : Int).toNat x0.size)).bind fun bt475 => (if bt475.2 = 0 then (some (([] : List ByteArray), ([] : List Int), 20)) else (if x48 > 0 then (if 0 ≤ (wrap64 (x48 - 1)) then (if (wrap64 (x48 - 1)) < (x12.length : Int) then (if ((Op.bytesLess ((rdOf ByteArray.empty x12 (wrap64 (x48 - 1))).toList) bt475.1.toList) = true) then (if x12.length < 8796093022208 then (dict_take_string_fn42.l0 k x0 x1 x9 (wrap64 (x10 + bt475.2)) (x12 ++ [bt475.1]) x47 (wrap64 (x48 + 1))) else (none)) else (some (([] : List ByteArray), ([] : List Int), 20))) else (none)) else (none)) else (if x12.length < 8796093022208 then (dict_take_string_fn42.l0 k x0 x1 x9 (wrap64 (x10 + bt475.2)) (x12 ++ [bt475.1]) x47 (wrap64 (x48 + 1))) else (none))))) else (none)) else (none)) else (if 0 ≤ x10 then (if x10 ≤ (x0.size : Int) then ((pack_Width.f k (([wrap64 (x9 - 1)] : List Int))).bind fun t487 => ((pack_Take.f k (x0.extract (x10 : Int).toNat x0.size) x1 t487).bind fun bt488 => (if bt488.2 = 0 then (if 0 ≤ x9 then (if (x9 : Int).toNat ≤ 281474976710656 then (dict_take_string_fn42.l1 k x9 x12 bt488.1 (List.replicate (x9 : Int).toNat false) bt488.1 (bt488.1.length : Int) 0) else (none)) else (none)) else (some (([] : List ByteArray), ([] : List Int), 20))))) else (none)) else (none))) := by
 simp only [dict_take_string_fn42.l0]
theorem dict_take_string_fn42.l1_succ (k : Nat) (x9 : Int) (x12 : List ByteArray) (x16 : List Int) (x17 : List Bool) (x98 : List Int) (x99 : Int) (x100 : Int) : dict_take_string_fn42.l1 (k + 1) x9 x12 x16 x17 x98 x99 x100 = (if x100 < x99 then (if 0 ≤ x100 then (if x100 < (x98.length : Int) then (if (rd x98 x100) < 0 then (some (([] : List ByteArray), ([] : List Int), 20)) else (if (rd x98 x100) ≥ x9 then (some (([] : List ByteArray), ([] : List Int), 20)) else (if 0 ≤ (rd x98 x100) then (if (rd x98 x100) < (x17.length : Int) then (dict_take_string_fn42.l1 k x9 x12 x16 (x17.set ((rd x98 x100) : Int).toNat true) x98 x99 (wrap64 (x100 + 1))) else (none)) else (none)))) else (none)) else (none)) else ((slices_Contains_bool_bool.f k x17 false).bind fun t497 => (if t497 = true then (some (([] : List ByteArray), ([] : List Int), 20)) else (some (x12, x16, 0))))) := by
 simp only [dict_take_string_fn42.l1]
def dict_take_string_fn42.T20 : Bool × List (List Nat × List Nat) := (true, [([], []), ([], []), ([0, 1], [0, 1]), ([], []), ([], []), ([4], [4]), ([5], [5]), ([6], [6]), ([2, 3, 7, 7], [2, 3, 7]), ([8], [8]), ([9], [9]), ([9], [9]), ([10, 8, 0, 1, 2, 3, 4, 5, 6, 7, 8, 9, 10], [10]), ([11, 12, 0, 1, 2, 3, 4, 5, 6, 7, 8, 9, 10, 11, 12], [11])])
def dict_take_string_fn42.B20 : List Nat := [0, 0, 3, 0, 0, 16, 48, 112, 255, 511, 1023, 1023, 2047, 8191]
theorem dict_take_string_fn42.tab20 : rtab .any (opsOf Try.f41 20) = dict_take_string_fn42.T20 := by kernel_rfl
theorem dict_take_string_fn42.bits20 : waitsOk dict_take_string_fn42.T20.2 dict_take_string_fn42.B20 = true := by kernel_rfl
set_option maxHeartbeats 8000000 in
set_option maxRecDepth 100000 in
theorem dict_take_string_fn42.calls (k : Nat) (a0 : ByteArray) (a1 : Int)  (r1 : List ByteArray) (r2 : List Int) (r3 : Int) (w : World) (h : dict_take_string_fn42.f k a0 a1 = some (r1, r2, r3)) :
  Calls Try.prog 41 #[.string a0, .int .i64 a1, .func (.func 42) #[] #[]] w fun e w' => ∃ v0_ v1_ : Value, e = .returned (.tuple #[v0_, v1_, .int .i64 r3]) ∧ Kd.R Kd.string 9 w' w.heap.size (fun _ => True) v0_ r1 ∧ Kd.R (Kd.int .i64) 3 w' w.heap.size (fun _ => True) v1_ r2 ∧ Below w.heap.size w w' := by
 have hsq : ∀ (a b : ByteArray), binOp BinOp.leq 9 (.string a) (.string b) = (pure (.bool (!(Op.bytesLess b.toList a.toList))) : Sem Value) := by
  intro a b
  have e : (Op.bytesLess a.toList b.toList || a.toList == b.toList) = !(Op.bytesLess b.toList a.toList) := by
   rw [Go.Proofs.bytesLess_eq, Go.Proofs.bytesLess_eq, Bool.eq_iff_iff]
   simp only [Bool.or_eq_true, decide_eq_true_eq, beq_iff_eq, Bool.not_eq_true', decide_eq_false_iff_not]
   constructor
   ·rintro (h | h) h2
    ·exact List.lt_irrefl _ (List.lt_trans h h2)
    ·rw [h] at h2; exact List.lt_irrefl _ h2
   ·intro h
    by_cases c : a.toList < b.toList
    ·exact .inl c
    ·exact .inr (List.le_antisymm (List.not_lt.1 h) (List.not_lt.1 c))
  simp only [binOp, Op.stringOp, e]
 have HB := Aside0.mk (Below.refl w.heap.size w)
 have H : (if a1 < 0 then (dict_take_string_fn42.j0 k a0 a1 true) else (dict_take_string_fn42.j0 k a0 a1 (decide (a1 > 65536)))) = some (r1, r2, r3) := h
 clear h
 have HC4 := Aside0.mk H
 clear H
 go_enter Try.func41, Try.ntmps41
 go_upto_region 1 with (fail)
 go_cut [25] (fun v25 wc => ∃ (kq : Nat) (x25_3 : Bool), v25 = .bool x25_3 ∧ Aside0 (dict_take_string_fn42.j0 kq a0 a1 x25_3 = some (r1, r2, r3)) ∧ Aside0 (kq ≤ k) ∧ Aside0 (Below w.heap.size w wc))
 case first =>
  have H := HC4.out
  clear HC4
  by_cases c5 : a1 < 0
  ·rw [if_pos c5] at H
   have c5b0 : decide (a1 < 0) = true := decide_eq_true c5
   clear c5
   (first | rw [c5b0] | (simp only [i64_w, i32_w]; rw [c5b0]) | rw [c5b1] | skip)
   have H' := Aside0.mk H
   clear H
   go_wp2
   go_meet
   case rel => exact ⟨_, (true), (by first | rfl | (simp; done) | (simp [*]; done)), H', ⟨by first | omega | exact Nat.le_refl _⟩, ⟨bh HB.out⟩⟩
  ·rw [if_neg c5] at H
   have c5b0 : decide (a1 < 0) = false := decide_eq_false c5
   clear c5
   (first | rw [c5b0] | (simp only [i64_w, i32_w]; rw [c5b0]) | rw [c5b1] | skip)
   have H' := Aside0.mk H
   clear H
   go_wp2
   go_meet
   case rel => exact ⟨_, (decide (a1 > 65536)), (by first | rfl | (simp; done) | (simp [*]; done)), H', ⟨by first | omega | exact Nat.le_refl _⟩, ⟨bh HB.out⟩⟩
 case rest =>
  clear HC4
  try clear c5
  try clear c5b0
  obtain ⟨kq, x25_3, rfl, HA, HJ3, HB⟩ := hcut
  cases kq with
  | zero => exact absurd HA.out (by simp [dict_take_string_fn42.j0])
  | succ kj3 =>
   have H := HA.out
   clear HA
   simp only [dict_take_string_fn42.j0] at H
   by_cases c6 : x25_3 = true
   ·subst c6
    have H1 : (some (([] : List ByteArray), ([] : List Int), 1)) = some (r1, r2, r3) := by rw [if_pos rfl] at H; exact H
    clear H
    have H := H1
    clear H1
    simp only [Option.some.injEq, Prod.mk.injEq] at H
    obtain ⟨rfl, rfl, rfl⟩ := H
    go_wp2
    go_ret3
    exact ⟨_, _, er, nl, nl, bh HB.out⟩
   ·replace c6 := Bool.eq_false_iff.mpr c6
    subst c6
    have H1 : (if a1 = 0 then (if a0.toList = ([] : List UInt8) then (some (([] : List ByteArray), ([] : List Int), 0)) else (some (([] : List ByteArray), ([] : List Int), 20))) else ((vint_Take.f kj3 a0).bind fun bt472 => (if bt472.2.2 = 0 then (if bt472.1 < 1 then (dict_take_string_fn42.j1 kj3 a0 a1 bt472.1 bt472.2.1 true) else (dict_take_string_fn42.j1 kj3 a0 a1 bt472.1 bt472.2.1 (decide (bt472.1 > a1)))) else (dict_take_string_fn42.j1 kj3 a0 a1 bt472.1 bt472.2.1 true)))) = some (r1, r2, r3) := by rw [if_neg (show ¬ (false = true) by decide)] at H; exact H
    clear H
    have H := H1
    clear H1
    by_cases c7 : a1 = 0
    ·rw [if_pos c7] at H
     have c7b0 : (a1 == 0) = true := beq_iff_eq.mpr c7
     have c7b1 : (a1 != 0) = false := bne_eq_false_iff_eq.mpr c7
     clear c7
     by_cases c8 : a0.toList = ([] : List UInt8)
     ·rw [if_pos c8] at H
      have c8b0 : (a0.toList == ([] : List UInt8)) = true := beq_iff_eq.mpr c8
      have c8b1 : (a0.toList != ([] : List UInt8)) = false := bne_eq_false_iff_eq.mpr c8
      clear c8
      simp only [Option.some.injEq, Prod.mk.injEq] at H
      obtain ⟨rfl, rfl, rfl⟩ := H
      go_wp2
      go_ret3
      exact ⟨_, _, er, nl, nl, bh HB.out⟩
     ·rw [if_neg c8] at H
      have c8b0 : (a0.toList == ([] : List UInt8)) = false := beq_eq_false_iff_ne.mpr c8
      have c8b1 : (a0.toList != ([] : List UInt8)) = true := bne_iff_ne.mpr c8
      simp only [Option.some.injEq, Prod.mk.injEq] at H
      obtain ⟨rfl, rfl, rfl⟩ := H
      go_wp2
      go_ret3
      exact ⟨_, _, er, nl, nl, bh HB.out⟩
    ·rw [if_neg c7] at H
     have c7b0 : (a1 == 0) = false := beq_eq_false_iff_ne.mpr c7
     have c7b1 : (a1 != 0) = true := bne_iff_ne.mpr c7
     replace H := Option.bind_eq_some_iff.mp H
     obtain ⟨⟨t472, t473, t474⟩, A90, H⟩ := H
     replace H : (if t474 = 0 then (if t472 < 1 then (dict_take_string_fn42.j1 kj3 a0 a1 t472 t473 true) else (dict_take_string_fn42.j1 kj3 a0 a1 t472 t473 (decide (t472 > a1)))) else (dict_take_string_fn42.j1 kj3 a0 a1 t472 t473 true)) = some (r1, r2, r3) := H
     have A9 := Aside0.mk A90
     clear A90
     have HC10 := Aside0.mk H
     clear H
     go_upto_region 8 with (first | ((with_reducible refine gate_callee (f := 35) rfl ?_); refine goesL_ (some 32) rfl rfl Try.func35 (by kernel_rfl) rfl #[.string a0] rfl (by (try simp only [List.map_toArray, List.map_cons, List.map_nil]); first | done | rfl) ?_; (with_reducible refine (vint_Take.calls kj3 a0 t472 t473 t474 _ A9.out).mono ?_); rintro e w11 ⟨rfl, hb⟩; refine ⟨_, rfl, ?_⟩; replace HB := bsa HB hb; (try clear hb)))
     (try simp only [Act.put, List.setIfInBounds_toArray, List.set_cons_zero, List.set_cons_succ])
     go_cut [46] (fun v46 wc => ∃ (kq : Nat) (x46_9 : Bool), v46 = .bool x46_9 ∧ Aside0 (dict_take_string_fn42.j1 kq a0 a1 t472 t473 x46_9 = some (r1, r2, r3)) ∧ Aside0 (kq ≤ kj3) ∧ Aside0 (Below w.heap.size w wc))
     case first =>
      have H := HC10.out
      clear HC10
      by_cases c12 : t474 = 0
      ·rw [if_pos c12] at H
       have c12b0 : (t474 == 0) = true := beq_iff_eq.mpr c12
       have c12b1 : (t474 != 0) = false := bne_eq_false_iff_eq.mpr c12
       clear c12
       (first | rw [c12b0] | (simp only [i64_w, i32_w]; rw [c12b0]) | rw [c12b1] | skip)
       by_cases c13 : t472 < 1
       ·rw [if_pos c13] at H
        have c13b0 : decide (t472 < 1) = true := decide_eq_true c13
        clear c13
        have H' := Aside0.mk H
        clear H
        go_wp2
        go_meet
        case rel => exact ⟨_, (true), (by first | rfl | (simp; done) | (simp [*]; done)), H', ⟨by have := HJ3.out; first | omega | exact Nat.le_refl _⟩, ⟨bh HB.out⟩⟩
       ·rw [if_neg c13] at H
        have c13b0 : decide (t472 < 1) = false := decide_eq_false c13
        clear c13
        have H' := Aside0.mk H
        clear H
        go_wp2
        go_meet
        case rel => exact ⟨_, (decide (t472 > a1)), (by first | rfl | (simp; done) | (simp [*]; done)), H', ⟨by have := HJ3.out; first | omega | exact Nat.le_refl _⟩, ⟨bh HB.out⟩⟩
      ·rw [if_neg c12] at H
       have c12b0 : (t474 == 0) = false := beq_eq_false_iff_ne.mpr c12
       have c12b1 : (t474 != 0) = true := bne_iff_ne.mpr c12
       (first | rw [c12b0] | (simp only [i64_w, i32_w]; rw [c12b0]) | rw [c12b1] | skip)
       have H' := Aside0.mk H
       clear H
       go_wp2
       go_meet
       case rel => exact ⟨_, (true), (by first | rfl | (simp; done) | (simp [*]; done)), H', ⟨by have := HJ3.out; first | omega | exact Nat.le_refl _⟩, ⟨bh HB.out⟩⟩
     case rest =>
      clear HC10
      try clear c5
      try clear c5b0
      try clear c6
      try clear c7
      try clear c7b0
      try clear c7b1
      try clear c8
      try clear c8b0
      try clear c8b1
      try clear c12
      try clear c12b0
      try clear c12b1
      try clear c13
      try clear c13b0
      obtain ⟨kq, x46_9, rfl, HA, HJ9, HB⟩ := hcut
      cases kq with
      | zero => exact absurd HA.out (by simp [dict_take_string_fn42.j1])
      | succ kj9 =>
       have H := HA.out
       clear HA
       simp only [dict_take_string_fn42.j1] at H
       by_cases c14 : x46_9 = true
       ·subst c14
        have H1 : (some (([] : List ByteArray), ([] : List Int), 20)) = some (r1, r2, r3) := by rw [if_pos rfl] at H; exact H
        clear H
        have H := H1
        clear H1
        simp only [Option.some.injEq, Prod.mk.injEq] at H
        obtain ⟨rfl, rfl, rfl⟩ := H
        go_wp2
        go_ret3
        exact ⟨_, _, er, nl, nl, bh HB.out⟩
       ·replace c14 := Bool.eq_false_iff.mpr c14
        subst c14
        have H1 : (dict_take_string_fn42.l0 kj9 a0 a1 t472 t473 ([] : List ByteArray) t472 0) = some (r1, r2, r3) := by rw [if_neg (show ¬ (false = true) by decide)] at H; exact H
        clear H
        have H := H1
        clear H1
        have H' := Aside0.mk H
        clear H
        go_wp2
        go_loopg [10, 12, 48] kj9 (fun kq v10 v12 v48 w' => ∃ (x10_3 : Int) (x12_3 : List ByteArray) (x48_3 : Int), v10 = .int .i64 x10_3 ∧ v48 = .int .i64 x48_3 ∧ Aside0 (dict_take_string_fn42.l0 kq a0 a1 t472 x10_3 x12_3 t472 x48_3 = some (r1, r2, r3)) ∧ Aside0 (kq ≤ kj9) ∧ Aside0 (Kd.R Kd.string 9 w' w.heap.size (fun _ => True) v12 x12_3) ∧ Aside0 (Below w.heap.size w w'))
        case atStart => exact ⟨(t473), (([] : List ByteArray)), (0), (by first | rfl | (simp; done) | (simp [*]; done)), (by first | rfl | (simp; done) | (simp [*]; done)), H', ⟨Nat.le_refl _⟩, ⟨nl⟩, ⟨bh HB.out⟩⟩
        case round =>
         clear H'
         try clear c5
         try clear c5b0
         try clear c6
         try clear c7
         try clear c7b0
         try clear c7b1
         try clear c8
         try clear c8b0
         try clear c8b1
         try clear c12
         try clear c12b0
         try clear c12b1
         try clear c13
         try clear c13b0
         try clear c14
         obtain ⟨x10_3, x12_3, x48_3, rfl, rfl, HA, HK3, HO_12, HB⟩ := hrel
         cases gk with
         | zero => exact absurd HA.out (by simp [dict_take_string_fn42.l0])
         | succ k3 =>
          have H := HA.out
          clear HA
          simp only [dict_take_string_fn42.l0] at H
          by_cases c15 : x48_3 < t472
          ·rw [if_pos c15] at H
           have c15b0 : decide (x48_3 < t472) = true := decide_eq_true c15
           clear c15
           by_cases c16 : 0 ≤ x10_3
           ·rw [if_pos c16] at H
            have c16b0 := eq_true c16
            have c16b1 : decide (0 ≤ x10_3) = true := decide_eq_true c16
            clear c16
            by_cases c17 : x10_3 ≤ (a0.size : Int)
            ·rw [if_pos c17] at H
             have c17b0 := eq_true c17
             have c17b1 : decide (x10_3 ≤ (a0.size : Int)) = true := decide_eq_true c17
             clear c17
             replace H := Option.bind_eq_some_iff.mp H
             obtain ⟨⟨t475, t476⟩, A180, H⟩ := H
             replace H : (if t476 = 0 then (some (([] : List ByteArray), ([] : List Int), 20)) else (if x48_3 > 0 then (if 0 ≤ (wrap64 (x48_3 - 1)) then (if (wrap64 (x48_3 - 1)) < (x12_3.length : Int) then (if ((Op.bytesLess ((rdOf ByteArray.empty x12_3 (wrap64 (x48_3 - 1))).toList) t475.toList) = true) then (if x12_3.length < 8796093022208 then (dict_take_string_fn42.l0 k3 a0 a1 t472 (wrap64 (x10_3 + t476)) (x12_3 ++ [t475]) t472 (wrap64 (x48_3 + 1))) else (none)) else (some (([] : List ByteArray), ([] : List Int), 20))) else (none)) else (none)) else (if x12_3.length < 8796093022208 then (dict_take_string_fn42.l0 k3 a0 a1 t472 (wrap64 (x10_3 + t476)) (x12_3 ++ [t475]) t472 (wrap64 (x48_3 + 1))) else (none)))) = some (r1, r2, r3) := H
             have A18 := Aside0.mk A180
             clear A180
             by_cases c19 : t476 = 0
             ·rw [if_pos c19] at H
              have c19b0 : (t476 == 0) = true := beq_iff_eq.mpr c19
              have c19b1 : (t476 != 0) = false := bne_eq_false_iff_eq.mpr c19
              clear c19
              simp only [Option.some.injEq, Prod.mk.injEq] at H
              obtain ⟨rfl, rfl, rfl⟩ := H
              go_wp2_with (first | ((with_reducible refine gate_list ?_); refine gate_value rfl ?_; refine goesV_ (some 56) rfl rfl Try.func42 (by kernel_rfl) rfl #[.string (a0.extract (x10_3 : Int).toNat a0.size)] rfl (by first | rfl | simp) (by (try simp only [List.map_toArray, List.map_cons, List.map_nil]); first | done | rfl | (simp only [List.length_drop, List.length_take]; rfl) | (simp only [ByteArray.size_extract, Nat.min_self]; rfl)) ?_; (with_reducible refine (dict_Places_1.calls (a0.extract (x10_3 : Int).toNat a0.size) t475 t476 _ A18.out).mono ?_); rintro e w' ⟨rfl, ⟨nd, rfl⟩⟩; refine ⟨_, rfl, ?_⟩))
              go_ret3
              exact ⟨_, _, er, nl, nl, bh HB.out⟩
             ·rw [if_neg c19] at H
              have c19b0 : (t476 == 0) = false := beq_eq_false_iff_ne.mpr c19
              have c19b1 : (t476 != 0) = true := bne_iff_ne.mpr c19
              by_cases c20 : x48_3 > 0
              ·rw [if_pos c20] at H
               have c20b0 : decide (0 < x48_3) = true := decide_eq_true c20
               clear c20
               obtain ⟨ji21, hji21⟩ : ∃ j_ : Int, (wrap64 (x48_3 - 1)) = j_ := ⟨_, rfl⟩
               replace H : (if 0 ≤ (ji21) then (if (ji21) < (x12_3.length : Int) then (if ((Op.bytesLess ((rdOf ByteArray.empty x12_3 (ji21)).toList) t475.toList) = true) then (if x12_3.length < 8796093022208 then (dict_take_string_fn42.l0 k3 a0 a1 t472 (wrap64 (x10_3 + t476)) (x12_3 ++ [t475]) t472 (wrap64 (x48_3 + 1))) else (none)) else (some (([] : List ByteArray), ([] : List Int), 20))) else (none)) else (none)) = some (r1, r2, r3) := by first | (rw [hji21] at H; exact H) | (simp only [hji21] at H ⊢; exact H)
               (try rw [hji21] at A18)
               have hji21w : (IntKind.i64.wrap (x48_3 - 1)) = ji21 := (i64_w _).trans hji21
               by_cases c22 : 0 ≤ (ji21)
               ·rw [if_pos c22] at H
                have c22b0 : decide (0 ≤ (ji21)) = true := decide_eq_true c22
                clear c22
                by_cases c23 : (ji21) < (x12_3.length : Int)
                ·rw [if_pos c23] at H
                 have c23b0 : decide ((ji21) < (x12_3.length : Int)) = true := decide_eq_true c23
                 clear c23
                 by_cases c24 : ((Op.bytesLess ((rdOf ByteArray.empty x12_3 (ji21)).toList) t475.toList) = true)
                 ·rw [if_pos c24] at H
                  have c24b0 : (Op.bytesLess ((rdOf ByteArray.empty x12_3 (ji21)).toList) t475.toList) = true := c24
                  clear c24
                  by_cases c25 : x12_3.length < 8796093022208
                  ·rw [if_pos c25] at H
                   have LMc25 := Aside0.mk c25
                   clear c25
                   obtain ⟨y478, hy478⟩ : ∃ y_ : List ByteArray, y_ = (x12_3 ++ [t475]) := ⟨_, rfl⟩
                   replace H : (dict_take_string_fn42.l0 k3 a0 a1 t472 (wrap64 (x10_3 + t476)) y478 t472 (wrap64 (x48_3 + 1))) = some (r1, r2, r3) := by first | (rw [hy478]; with_reducible exact H) | (have H2_ := (Option.bind_some _ _).symm.trans H; rw [hy478]; with_reducible exact H2_) | (have H2_ := (Option.bind_some _ _).symm.trans H; with_reducible exact H2_) | with_reducible exact H | (rw [hy478]; exact H) | exact H
                   have Ny478 := Aside0.mk hy478
                   clear hy478
                   have H' := Aside0.mk H
                   clear H
                   go_wp2_with (first | ((with_reducible refine gate_list ?_); refine gate_value rfl ?_; refine goesV_ (some 56) rfl rfl Try.func42 (by kernel_rfl) rfl #[.string (a0.extract (x10_3 : Int).toNat a0.size)] rfl (by first | rfl | simp) (by (try simp only [List.map_toArray, List.map_cons, List.map_nil]); first | done | rfl | (simp only [List.length_drop, List.length_take]; rfl) | (simp only [ByteArray.size_extract, Nat.min_self]; rfl)) ?_; (with_reducible refine (dict_Places_1.calls (a0.extract (x10_3 : Int).toNat a0.size) t475 t476 _ A18.out).mono ?_); rintro e w' ⟨rfl, ⟨nd, rfl⟩⟩; refine ⟨_, rfl, ?_⟩; obtain ⟨Ao26, co26, eo26⟩ := Kd.R_slice HO_12.out; subst eo26; have p477 : 0 ≤ ((ji21) : Int) := of_decide_eq_true (by assumption); have q477 : (ji21) < (x12_3.length : Int) := of_decide_eq_true (by assumption); obtain ⟨ad477, e477, hx477_0⟩ := Kd.at_string (Kd.R_reads' HO_12.out).2.2 (ji21) p477 q477; cases e477; replace p477 := eq_true p477; replace q477 := eq_true q477) | ((with_reducible refine gate_builtin (b := .append) (xs := #[.tmp 74, .tmp 76]) rfl ?_); at_builtin; refine Kd.R_append Kd.string (w0 := w) w.heap.size rfl (.tmp 74) (.tmp 76) 22 9 (.string ⟨#[]⟩) 16 rfl Try.underlying22 info9 rfl (by decide) (by omega) (.slice (some ad477) x12_3.length co26) x12_3 t475 [.string t475] (fun _ => True) (fun _ => False) rfl rfl ?aP (fun _ hk => hk.elim) ?aF ?aO ?aB ?aS ?aL ?_; (case aP => exact rfl); (case aB => exact (bh HB.out)); (case aF => exact (fun _ _ => trivial)); (case aO => exact (rx HO_12.out)); (case aS => exact (below_size (bh HB.out))); (case aL => have := LMc25.out; omega); intro v479 w27 ho hb hg hat; rw [← Ny478.out] at ho; have n0_ := Aside0.mk (hb); have n1_ := Aside0.mk (ho); clear HB HO_12; have HB := n0_; have HO480 := n1_; clear n0_ n1_; clear ho hb hg hat))
                   go_roundg k3
                   case measure => have := HJ3.out; have := HJ9.out; have := HK3.out; omega
                   case rel => exact ⟨(wrap64 (x10_3 + t476)), (y478), (wrap64 (x48_3 + 1)), (by first | rfl | (simp; done) | (simp [*]; done)), (by first | rfl | (simp; done) | (simp [*]; done)), (by first | exact H' | (simp only [hji21]; exact H')), ⟨by have := HJ3.out; have := HJ9.out; have := HK3.out; omega⟩, ⟨by (with_reducible repeat (first | apply Kd.R_alloc | apply Kd.R_drewN | apply Kd.R_drew)); exact HO480.out⟩, ⟨bh HB.out⟩⟩
                  ·rw [if_neg c25] at H
                   exact absurd H (by simp)
                 ·rw [if_neg c24] at H
                  have c24b0 : (Op.bytesLess ((rdOf ByteArray.empty x12_3 (ji21)).toList) t475.toList) = false := by simpa using c24
                  clear c24
                  simp only [Option.some.injEq, Prod.mk.injEq] at H
                  obtain ⟨rfl, rfl, rfl⟩ := H
                  go_wp2_with (first | ((with_reducible refine gate_list ?_); refine gate_value rfl ?_; refine goesV_ (some 56) rfl rfl Try.func42 (by kernel_rfl) rfl #[.string (a0.extract (x10_3 : Int).toNat a0.size)] rfl (by first | rfl | simp) (by (try simp only [List.map_toArray, List.map_cons, List.map_nil]); first | done | rfl | (simp only [List.length_drop, List.length_take]; rfl) | (simp only [ByteArray.size_extract, Nat.min_self]; rfl)) ?_; (with_reducible refine (dict_Places_1.calls (a0.extract (x10_3 : Int).toNat a0.size) t475 t476 _ A18.out).mono ?_); rintro e w' ⟨rfl, ⟨nd, rfl⟩⟩; refine ⟨_, rfl, ?_⟩; obtain ⟨Ao28, co28, eo28⟩ := Kd.R_slice HO_12.out; subst eo28; have p477 : 0 ≤ ((ji21) : Int) := of_decide_eq_true (by assumption); have q477 : (ji21) < (x12_3.length : Int) := of_decide_eq_true (by assumption); obtain ⟨ad477, e477, hx477_0⟩ := Kd.at_string (Kd.R_reads' HO_12.out).2.2 (ji21) p477 q477; cases e477; replace p477 := eq_true p477; replace q477 := eq_true q477))
                  go_ret3
                  exact ⟨_, _, by first | rfl | (simp [errW_none, errW_some] <;> rfl) | (simp only [← hji21]; first | rfl | (simp [errW_none, errW_some] <;> rfl)) | (simp [*, errW_none, errW_some] <;> rfl), nl, nl, bh HB.out⟩
                ·rw [if_neg c23] at H
                 exact absurd H (by simp)
               ·rw [if_neg c22] at H
                exact absurd H (by simp)
              ·rw [if_neg c20] at H
               have c20b0 : decide (0 < x48_3) = false := decide_eq_false c20
               clear c20
               by_cases c29 : x12_3.length < 8796093022208
               ·rw [if_pos c29] at H
                have LMc29 := Aside0.mk c29
                clear c29
                obtain ⟨y481, hy481⟩ : ∃ y_ : List ByteArray, y_ = (x12_3 ++ [t475]) := ⟨_, rfl⟩
                replace H : (dict_take_string_fn42.l0 k3 a0 a1 t472 (wrap64 (x10_3 + t476)) y481 t472 (wrap64 (x48_3 + 1))) = some (r1, r2, r3) := by first | (rw [hy481]; with_reducible exact H) | (have H2_ := (Option.bind_some _ _).symm.trans H; rw [hy481]; with_reducible exact H2_) | (have H2_ := (Option.bind_some _ _).symm.trans H; with_reducible exact H2_) | with_reducible exact H | (rw [hy481]; exact H) | exact H
                have Ny481 := Aside0.mk hy481
                clear hy481
                have H' := Aside0.mk H
                clear H
                go_wp2_with (first | ((with_reducible refine gate_list ?_); refine gate_value rfl ?_; refine goesV_ (some 56) rfl rfl Try.func42 (by kernel_rfl) rfl #[.string (a0.extract (x10_3 : Int).toNat a0.size)] rfl (by first | rfl | simp) (by (try simp only [List.map_toArray, List.map_cons, List.map_nil]); first | done | rfl | (simp only [List.length_drop, List.length_take]; rfl) | (simp only [ByteArray.size_extract, Nat.min_self]; rfl)) ?_; (with_reducible refine (dict_Places_1.calls (a0.extract (x10_3 : Int).toNat a0.size) t475 t476 _ A18.out).mono ?_); rintro e w' ⟨rfl, ⟨nd, rfl⟩⟩; refine ⟨_, rfl, ?_⟩) | ((with_reducible refine gate_builtin (b := .append) (xs := #[.tmp 74, .tmp 76]) rfl ?_); at_builtin; refine Kd.R_append Kd.string (w0 := w) w.heap.size rfl (.tmp 74) (.tmp 76) 22 9 (.string ⟨#[]⟩) 16 rfl Try.underlying22 info9 rfl (by decide) (by omega) u12 x12_3 t475 [.string t475] (fun _ => True) (fun _ => False) rfl rfl ?aP (fun _ hk => hk.elim) ?aF ?aO ?aB ?aS ?aL ?_; (case aP => exact rfl); (case aB => exact (bh HB.out)); (case aF => exact (fun _ _ => trivial)); (case aO => exact (rx HO_12.out)); (case aS => exact (below_size (bh HB.out))); (case aL => have := LMc29.out; omega); intro v482 w30 ho hb hg hat; rw [← Ny481.out] at ho; have n0_ := Aside0.mk (hb); have n1_ := Aside0.mk (ho); clear HB HO_12; have HB := n0_; have HO483 := n1_; clear n0_ n1_; clear ho hb hg hat))
                go_roundg k3
                case measure => have := HJ3.out; have := HJ9.out; have := HK3.out; omega
                case rel => exact ⟨(wrap64 (x10_3 + t476)), (y481), (wrap64 (x48_3 + 1)), (by first | rfl | (simp; done) | (simp [*]; done)), (by first | rfl | (simp; done) | (simp [*]; done)), H', ⟨by have := HJ3.out; have := HJ9.out; have := HK3.out; omega⟩, ⟨by (with_reducible repeat (first | apply Kd.R_alloc | apply Kd.R_drewN | apply Kd.R_drew)); exact HO483.out⟩, ⟨bh HB.out⟩⟩
               ·rw [if_neg c29] at H
                exact absurd H (by simp)
            ·rw [if_neg c17] at H
             exact absurd H (by simp)
           ·rw [if_neg c16] at H
            exact absurd H (by simp)
          ·rw [if_neg c15] at H
           have c15b0 : decide (x48_3 < t472) = false := decide_eq_false c15
           clear c15
           by_cases c31 : 0 ≤ x10_3
           ·rw [if_pos c31] at H
            have c31b0 := eq_true c31
            have c31b1 : decide (0 ≤ x10_3) = true := decide_eq_true c31
            clear c31
            by_cases c32 : x10_3 ≤ (a0.size : Int)
            ·rw [if_pos c32] at H
             have c32b0 := eq_true c32
             have c32b1 : decide (x10_3 ≤ (a0.size : Int)) = true := decide_eq_true c32
             clear c32
             obtain ⟨y484, hy484⟩ : ∃ y_ : List Int, y_ = (([wrap64 (t472 - 1)] : List Int)) := ⟨_, rfl⟩
             replace H : ((pack_Width.f k3 y484).bind fun t487 => ((pack_Take.f k3 (a0.extract (x10_3 : Int).toNat a0.size) a1 t487).bind fun bt488 => (if bt488.2 = 0 then (if 0 ≤ t472 then (if (t472 : Int).toNat ≤ 281474976710656 then (dict_take_string_fn42.l1 k3 t472 x12_3 bt488.1 (List.replicate (t472 : Int).toNat false) bt488.1 (bt488.1.length : Int) 0) else (none)) else (none)) else (some (([] : List ByteArray), ([] : List Int), 20))))) = some (r1, r2, r3) := by first | (rw [hy484]; with_reducible exact H) | (have H2_ := (Option.bind_some _ _).symm.trans H; rw [hy484]; with_reducible exact H2_) | (have H2_ := (Option.bind_some _ _).symm.trans H; with_reducible exact H2_) | with_reducible exact H | (rw [hy484]; exact H) | exact H
             have Ny484 := Aside0.mk hy484
             clear hy484
             replace H := Option.bind_eq_some_iff.mp H
             obtain ⟨t487, A330, H⟩ := H
             replace H : ((pack_Take.f k3 (a0.extract (x10_3 : Int).toNat a0.size) a1 t487).bind fun bt488 => (if bt488.2 = 0 then (if 0 ≤ t472 then (if (t472 : Int).toNat ≤ 281474976710656 then (dict_take_string_fn42.l1 k3 t472 x12_3 bt488.1 (List.replicate (t472 : Int).toNat false) bt488.1 (bt488.1.length : Int) 0) else (none)) else (none)) else (some (([] : List ByteArray), ([] : List Int), 20)))) = some (r1, r2, r3) := H
             have A33 := Aside0.mk A330
             clear A330
             replace H := Option.bind_eq_some_iff.mp H
             obtain ⟨⟨t488, t489⟩, A340, H⟩ := H
             replace H : (if t489 = 0 then (if 0 ≤ t472 then (if (t472 : Int).toNat ≤ 281474976710656 then (dict_take_string_fn42.l1 k3 t472 x12_3 t488 (List.replicate (t472 : Int).toNat false) t488 (t488.length : Int) 0) else (none)) else (none)) else (some (([] : List ByteArray), ([] : List Int), 20))) = some (r1, r2, r3) := H
             have A34 := Aside0.mk A340
             clear A340
             by_cases c35 : t489 = 0
             ·rw [if_pos c35] at H
              have c35b0 : (t489 == 0) = true := beq_iff_eq.mpr c35
              have c35b1 : (t489 != 0) = false := bne_eq_false_iff_eq.mpr c35
              clear c35
              by_cases c36 : 0 ≤ t472
              ·rw [if_pos c36] at H
               have c36b0 := eq_true c36
               have c36b1 : decide (0 ≤ t472) = true := decide_eq_true c36
               clear c36
               by_cases c37 : (t472 : Int).toNat ≤ 281474976710656
               ·rw [if_pos c37] at H
                have c37b0 := eq_true c37
                have c37b1 : decide ((t472 : Int).toNat ≤ 281474976710656) = true := decide_eq_true c37
                clear c37
                obtain ⟨y492, hy492⟩ : ∃ y_ : List Bool, y_ = (List.replicate (t472 : Int).toNat false) := ⟨_, rfl⟩
                replace H : (dict_take_string_fn42.l1 k3 t472 x12_3 t488 y492 t488 (t488.length : Int) 0) = some (r1, r2, r3) := by first | (rw [hy492]; with_reducible exact H) | (have H2_ := (Option.bind_some _ _).symm.trans H; rw [hy492]; with_reducible exact H2_) | (have H2_ := (Option.bind_some _ _).symm.trans H; with_reducible exact H2_) | with_reducible exact H | (rw [hy492]; exact H) | exact H
                have Ny492 := Aside0.mk hy492
                clear hy492
                have H' := Aside0.mk H
                clear H
                try go_wp2
                replace HO_12 := Aside0.mk (Kd.R_drew HO_12.out)
                replace HB := Aside0.mk (below_drew1 HB.out)
                refine start_ (n := 14) (S := fun w' => True) (ds := []) #[false, false, false, false, false, false, false, false, false, false, false, false, false, false] (by kernel_rfl) rfl rfl trivial (fun hHeld => ?_); refine with_tabW dict_take_string_fn42.tab20 dict_take_string_fn42.bits20 (fun HT_ HW_ => ?_)
                generalize wr.drew = w38 at HO_12 HB hHeld ⊢
                refine pure_ (i := 0) (N := some 83) (v := ?_) (a' := ?_) #[true, false, false, false, false, false, false, false, false, false, false, false, false, false] rfl rfl (any_of HT_.out (by kernel_rfl)) (fun _ _ _ h => h) (Or.inl ⟨by rfl, ?_⟩) ?_ ?_
                rotate_left
                ·intro w'
                 go_simp
                 with_reducible rfl
                rotate_left
                ·simp only [Act.put, List.setIfInBounds_toArray, List.set_cons_zero, List.set_cons_succ, i64_w, i32_w]
                 rfl
                refine pure_ (i := 1) (N := some 84) (v := ?_) (a' := ?_) #[true, true, false, false, false, false, false, false, false, false, false, false, false, false] rfl rfl (any_of HT_.out (by kernel_rfl)) (fun _ _ _ h => h) (Or.inl ⟨by rfl, ?_⟩) ?_ ?_
                rotate_left
                ·intro w'
                 go_simp
                 with_reducible rfl
                rotate_left
                ·simp only [Act.put, List.setIfInBounds_toArray, List.set_cons_zero, List.set_cons_succ, i64_w, i32_w]
                 rfl
                refine pure_ (i := 2) (N := some 85) (v := ?_) (a' := ?_) #[true, true, true, false, false, false, false, false, false, false, false, false, false, false] rfl rfl (any_of HT_.out (by kernel_rfl)) (fun _ _ _ h => h) (Or.inl ⟨by rfl, ?_⟩) ?_ ?_
                rotate_left
                ·intro w'
                 go_simp
                 with_reducible rfl
                rotate_left
                ·simp only [Act.put, List.setIfInBounds_toArray, List.set_cons_zero, List.set_cons_succ, i64_w, i32_w]
                 rfl
                refine pure_ (i := 3) (N := some 86) (v := ?_) (a' := ?_) #[true, true, true, true, false, false, false, false, false, false, false, false, false, false] rfl rfl (any_of HT_.out (by kernel_rfl)) (fun _ _ _ h => h) (Or.inl ⟨by rfl, ?_⟩) ?_ ?_
                rotate_left
                ·intro w'
                 go_simp
                 with_reducible rfl
                rotate_left
                ·simp only [Act.put, List.setIfInBounds_toArray, List.set_cons_zero, List.set_cons_succ, i64_w, i32_w]
                 rfl
                refine pure_ (i := 4) (N := some 87) (v := ?_) (a' := ?_) #[true, true, true, true, true, false, false, false, false, false, false, false, false, false] rfl rfl (any_of HT_.out (by kernel_rfl)) (fun _ _ _ h => h) (Or.inl ⟨by rfl, ?_⟩) ?_ ?_
                rotate_left
                ·intro w'
                 go_simp
                 with_reducible rfl
                rotate_left
                ·simp only [Act.put, List.setIfInBounds_toArray, List.set_cons_zero, List.set_cons_succ, i64_w, i32_w]
                 rfl
                refine pure_ (i := 5) (N := some 88) (v := ?_) (a' := ?_) #[true, true, true, true, true, true, false, false, false, false, false, false, false, false] rfl rfl (any_of HT_.out (by kernel_rfl)) (fun _ _ _ h => h) (Or.inl ⟨by rfl, ?_⟩) ?_ ?_
                rotate_left
                ·intro w'
                 go_simp
                 with_reducible rfl
                rotate_left
                ·simp only [Act.put, List.setIfInBounds_toArray, List.set_cons_zero, List.set_cons_succ, i64_w, i32_w]
                 rfl
                refine one_ (i := 6) (N := some 89) #[true, true, true, true, true, true, true, false, false, false, false, false, false, false] rfl rfl (one_of HT_.out (by kernel_rfl)) (by decide) (fun K hK => ?_)
                refine Kd.R_lit_step (Kd.int .i64) _ 3 ?hg (N := 89) ?hd (xs := ([wrap64 (t472 - 1)] : List Int)) (inner := [.int .i64 (wrap64 (t472 - 1))]) (ok := fun _ => True) (okp := fun _ => True) ?hr ?hp (fun _ hk => hk) trivial (Below.refl _ _) (Nat.le_refl _) (by simp) ?_; (case hd => rfl); (case hg => rfl); (case hr => first | (go_simp; done) | (go_simp; rfl)); (case hp => exact (Reps.one (show Kd.M (Kd.int .i64) _ _ _ (wrap64 (t472 - 1)) [.int .i64 (wrap64 (t472 - 1))] from rfl) (Reps.none _ _)))
                intro v485 w39 ho40 hb hg_ hnew_
                clear hg_ hnew_
                (first | rw [← Ny484.out] at ho40 | (simp only [Int.reduceToNat] at ho40; rw [← Ny484.out] at ho40))
                replace HO_12 := rba HO_12 hb
                have HO486 := Aside0.mk (Kd.R_lower ho40 (below_size (bh HB.out)))
                replace HB := bsa HB hb
                clear hb ho40
                obtain ⟨Ao41, co41, eo41⟩ := Kd.R_slice HO486.out
                (first | subst eo41 | (injection eo41 with f1_ f2_ f3_; have f4_ := f1_.symm; have f5_ := f3_.symm; clear f1_ f2_ f3_; subst f4_; subst f5_))
                refine hK.out _ _ trivial (fun hHeld => ?_)
                clear hK K
                refine norm_ (a' := ?_) ?_ ?_
                rotate_left
                ·show Act.put _ (some 89) _ = _
                 simp only [Act.put, List.setIfInBounds_toArray, List.set_cons_zero, List.set_cons_succ, i64_w, i32_w]
                 rfl
                refine one_ (i := 7) (N := some 90) #[true, true, true, true, true, true, true, true, false, false, false, false, false, false] rfl rfl (one_of HT_.out (by kernel_rfl)) (by decide) (fun K hK => ?_)
                refine goes_ Try.func51 (by kernel_rfl) rfl #[.slice Ao41 y484.length co41] (by rfl) rfl rfl (by (try simp only [List.map_toArray, List.map_cons, List.map_nil]); first | done | rfl) ?_
                with_reducible refine (pack_Width.calls k3 _ _ y484 t487 _ ?side1 ?side2 A33.out).mono ?_
                (case side1 => exact cx (Kd.R_reads' HO486.out).2.2)
                (case side2 => exact (Kd.R_reads' HO486.out).2.1)
                rintro e w' ⟨rfl, ⟨nd, rfl⟩⟩
                refine ⟨_, rfl, ?_⟩
                refine hK.out _ _ trivial (fun hHeld => ?_)
                clear hK K
                refine norm_ (a' := ?_) ?_ ?_
                rotate_left
                ·show Act.put _ (some 90) _ = _
                 simp only [Act.put, List.setIfInBounds_toArray, List.set_cons_zero, List.set_cons_succ, i64_w, i32_w]
                 rfl
                refine one_ (i := 8) (N := some 91) #[true, true, true, true, true, true, true, true, true, false, false, false, false, false] rfl rfl (one_of HT_.out (by kernel_rfl)) (by decide) (fun K hK => ?_)
                refine goes_ Try.func59 (by kernel_rfl) rfl #[.string (a0.extract (x10_3 : Int).toNat a0.size), .int .i64 a1, .int .i64 t487] (by rfl) rfl rfl (by (try simp only [List.map_toArray, List.map_cons, List.map_nil]); first | done | rfl | (simp only [List.length_drop, List.length_take]; rfl) | (simp only [ByteArray.size_extract, Nat.min_self]; rfl)) ?_
                with_reducible refine (pack_Take.calls k3 (a0.extract (x10_3 : Int).toNat a0.size) a1 t487 t488 t489 _ A34.out).mono ?_
                rintro e w42 ⟨v490, rfl, ho0, hb⟩
                refine ⟨_, rfl, ?_⟩
                replace HO_12 := rba HO_12 hb
                have HO491 := Aside0.mk (Kd.R_lower (Kd.R_new' ho0 (Kd.R_lt (rx HO486.out))) (below_size (bh HB.out)))
                replace HO486 := Aside0.mk (Kd.R_elder' (rx HO486.out) (Kd.R_base ho0) hb)
                replace HB := bsa HB hb
                (try clear hb)
                (try clear hb2)
                (try clear hk)
                (try clear hi)
                (try clear ho0)
                refine hK.out _ _ trivial (fun hHeld => ?_)
                clear hK K
                refine norm_ (a' := ?_) ?_ ?_
                rotate_left
                ·show Act.put _ (some 91) _ = _
                 simp only [Act.put, List.setIfInBounds_toArray, List.set_cons_zero, List.set_cons_succ, i64_w, i32_w]
                 rfl
                refine pure_ (i := 9) (N := some 82) (v := ?_) (a' := ?_) #[true, true, true, true, true, true, true, true, true, true, false, false, false, false] rfl rfl (any_of HT_.out (by kernel_rfl)) (fun _ _ _ h => h) (Or.inl ⟨by rfl, ?_⟩) ?_ ?_
                rotate_left
                ·intro w'
                 go_simp
                 with_reducible rfl
                rotate_left
                ·simp only [Act.put, List.setIfInBounds_toArray, List.set_cons_zero, List.set_cons_succ, i64_w, i32_w]
                 rfl
                refine pure_ (i := 10) (N := some 92) (v := ?_) (a' := ?_) #[true, true, true, true, true, true, true, true, true, true, true, false, false, false] rfl rfl (any_of HT_.out (by kernel_rfl)) (fun _ _ _ h => h) (Or.inl ⟨by rfl, ?_⟩) ?_ ?_
                rotate_left
                ·intro w'
                 go_simp
                 with_reducible rfl
                rotate_left
                ·simp only [Act.put, List.setIfInBounds_toArray, List.set_cons_zero, List.set_cons_succ, i64_w, i32_w]
                 rfl
                refine pure_ (i := 11) (N := some 93) (v := ?_) (a' := ?_) #[true, true, true, true, true, true, true, true, true, true, true, true, false, false] rfl rfl (any_of HT_.out (by kernel_rfl)) (fun _ _ _ h => h) (Or.inl ⟨by rfl, ?_⟩) ?_ ?_
                rotate_left
                ·intro w'
                 go_simp
                 with_reducible rfl
                rotate_left
                ·simp only [Act.put, List.setIfInBounds_toArray, List.set_cons_zero, List.set_cons_succ, i64_w, i32_w]
                 rfl
                refine pure_ (i := 12) (N := some 16) (v := ?_) (a' := ?_) #[true, true, true, true, true, true, true, true, true, true, true, true, true, false] rfl rfl (any_of HT_.out (by kernel_rfl)) (fun _ _ _ h => h) (Or.inl ⟨by rfl, ?_⟩) ?_ ?_
                rotate_left
                ·intro w'
                 go_simp
                 with_reducible rfl
                rotate_left
                ·simp only [Act.put, List.setIfInBounds_toArray, List.set_cons_zero, List.set_cons_succ, i64_w, i32_w]
                 rfl
                refine pure_ (i := 13) (N := some 11) (v := ?_) (a' := ?_) #[true, true, true, true, true, true, true, true, true, true, true, true, true, true] rfl rfl (any_of HT_.out (by kernel_rfl)) (fun _ _ _ h => h) (Or.inl ⟨by rfl, ?_⟩) ?_ ?_
                rotate_left
                ·intro w'
                 go_simp
                 with_reducible rfl
                rotate_left
                ·simp only [Act.put, List.setIfInBounds_toArray, List.set_cons_zero, List.set_cons_succ, i64_w, i32_w]
                 rfl
                refine done_ (done_of HT_.out (by kernel_rfl)) ?_
                try go_wp2_with (first | ((with_reducible refine gate_dst (N := 97) rfl ?_); refine Kd.R_make Kd.bool _ 4 rfl (N := 97) rfl 28 _ _ rfl t472 rfl rfl Try.underlying28 (.bool false) 1 info4 rfl (by decide) (by omega) false (ok := fun _ => True) (okp := fun _ => True) rfl (fun _ hk => hk) trivial (of_decide_eq_true (by assumption)) (Nat.le_trans (Nat.mul_le_mul_right _ (of_decide_eq_true (by assumption) : t472.toNat ≤ 281474976710656)) (by omega)) (Below.refl _ _) (Nat.le_refl _) ?_; intro v493 w43 ho44 hb hg_ hnew_; clear hg_ hnew_; (first | rw [← Ny492.out] at ho44 | (simp only [Int.reduceToNat] at ho44; rw [← Ny492.out] at ho44)); replace HO_12 := rba HO_12 hb; replace HO486 := rba HO486 hb; replace HO491 := rba HO491 hb; have HO494 := Aside0.mk (Kd.R_lower ho44 (below_size (bh HB.out))); replace HB := bsa HB hb; clear hb ho44; obtain ⟨Ao45, co45, eo45⟩ := Kd.R_slice HO491.out; subst eo45))
                go_loopg [100] k3 (fun kq v100 w' => ∃ (x17_4 : List Bool) (x100_4 : Int), v100 = .int .i64 x100_4 ∧ Aside0 (dict_take_string_fn42.l1 kq t472 x12_3 t488 x17_4 t488 (t488.length : Int) x100_4 = some (r1, r2, r3)) ∧ Aside0 (kq ≤ k3) ∧ Aside0 (Kd.R Kd.string 9 w' w.heap.size (fun _ => True) u12 x12_3) ∧ Aside0 (Kd.R (Kd.int .i64) 3 w' w.heap.size (fun _ => True) (.slice Ao45 t488.length co45) t488) ∧ Aside0 (Kd.R Kd.bool 4 w' w.heap.size (fun _ => True) v493 x17_4) ∧ Aside0 (Kd.R (Kd.int .i64) 3 w' w.heap.size (fun _ => True) (.slice Ao45 t488.length co45) t488) ∧ Aside0 (Below w.heap.size w w'))
                case atStart => exact ⟨(y492), (0), (by first | rfl | (simp; done) | (simp [*]; done)), H', ⟨Nat.le_refl _⟩, ⟨by (with_reducible repeat (first | apply Kd.R_alloc | apply Kd.R_drewN | apply Kd.R_drew)); exact HO_12.out⟩, ⟨by (with_reducible repeat (first | apply Kd.R_alloc | apply Kd.R_drewN | apply Kd.R_drew)); exact Kd.R_mono HO491.out (fun _ hk => trivial)⟩, ⟨by (with_reducible repeat (first | apply Kd.R_alloc | apply Kd.R_drewN | apply Kd.R_drew)); exact HO494.out⟩, ⟨by (with_reducible repeat (first | apply Kd.R_alloc | apply Kd.R_drewN | apply Kd.R_drew)); exact Kd.R_mono HO491.out (fun _ hk => trivial)⟩, ⟨bh HB.out⟩⟩
                case round =>
                 clear H'
                 try clear c5
                 try clear c5b0
                 try clear c6
                 try clear c7
                 try clear c7b0
                 try clear c7b1
                 try clear c8
                 try clear c8b0
                 try clear c8b1
                 try clear c12
                 try clear c12b0
                 try clear c12b1
                 try clear c13
                 try clear c13b0
                 try clear c14
                 try clear c15
                 try clear c15b0
                 try clear c16
                 try clear c16b0
                 try clear c16b1
                 try clear c17
                 try clear c17b0
                 try clear c17b1
                 try clear c19
                 try clear c19b0
                 try clear c19b1
                 try clear c20
                 try clear c20b0
                 try clear c22
                 try clear c22b0
                 try clear c23
                 try clear c23b0
                 try clear c24
                 try clear c24b0
                 try clear c25
                 try clear c29
                 try clear c31
                 try clear c31b0
                 try clear c31b1
                 try clear c32
                 try clear c32b0
                 try clear c32b1
                 try clear c35
                 try clear c35b0
                 try clear c35b1
                 try clear c36
                 try clear c36b0
                 try clear c36b1
                 try clear c37
                 try clear c37b0
                 try clear c37b1
                 try clear hx477_0
                 try clear p477
                 try clear q477
                 obtain ⟨x17_4, x100_4, rfl, HA, HK4, HO_12, HO_16, HO_17, HO_98, HB⟩ := hrel
                 cases gk with
                 | zero => exact absurd HA.out (by simp [dict_take_string_fn42.l1])
                 | succ k4 =>
                  have H := HA.out
                  clear HA
                  simp only [dict_take_string_fn42.l1] at H
                  by_cases c46 : x100_4 < (t488.length : Int)
                  ·rw [if_pos c46] at H
                   have c46b0 : decide (x100_4 < (t488.length : Int)) = true := decide_eq_true c46
                   clear c46
                   by_cases c47 : 0 ≤ x100_4
                   ·rw [if_pos c47] at H
                    have c47b0 : decide (0 ≤ x100_4) = true := decide_eq_true c47
                    clear c47
                    by_cases c48 : x100_4 < (t488.length : Int)
                    ·rw [if_pos c48] at H
                     have c48b0 : decide (x100_4 < (t488.length : Int)) = true := decide_eq_true c48
                     clear c48
                     by_cases c49 : (rd t488 x100_4) < 0
                     ·rw [if_pos c49] at H
                      have c49b0 : decide ((rd t488 x100_4) < 0) = true := decide_eq_true c49
                      clear c49
                      simp only [Option.some.injEq, Prod.mk.injEq] at H
                      obtain ⟨rfl, rfl, rfl⟩ := H
                      have p495 : 0 ≤ (x100_4 : Int) := of_decide_eq_true (by assumption)
                      have q495 : x100_4 < (t488.length : Int) := of_decide_eq_true (by assumption)
                      obtain ⟨ad495, e495, hx495_0⟩ := Kd.at_int (Kd.R_reads' HO_98.out).2.2 x100_4 p495 q495
                      cases e495
                      replace p495 := eq_true p495
                      replace q495 := eq_true q495
                      go_wp2
                      go_ret3
                      exact ⟨_, _, er, nl, nl, bh HB.out⟩
                     ·rw [if_neg c49] at H
                      have c49b0 : decide ((rd t488 x100_4) < 0) = false := decide_eq_false c49
                      clear c49
                      by_cases c50 : (rd t488 x100_4) ≥ t472
                      ·rw [if_pos c50] at H
                       have c50b0 : decide (t472 ≤ (rd t488 x100_4)) = true := decide_eq_true c50
                       clear c50
                       simp only [Option.some.injEq, Prod.mk.injEq] at H
                       obtain ⟨rfl, rfl, rfl⟩ := H
                       have p495 : 0 ≤ (x100_4 : Int) := of_decide_eq_true (by assumption)
                       have q495 : x100_4 < (t488.length : Int) := of_decide_eq_true (by assumption)
                       obtain ⟨ad495, e495, hx495_0⟩ := Kd.at_int (Kd.R_reads' HO_98.out).2.2 x100_4 p495 q495
                       cases e495
                       replace p495 := eq_true p495
                       replace q495 := eq_true q495
                       go_wp2
                       go_ret3
                       exact ⟨_, _, er, nl, nl, bh HB.out⟩
                      ·rw [if_neg c50] at H
                       have c50b0 : decide (t472 ≤ (rd t488 x100_4)) = false := decide_eq_false c50
                       clear c50
                       by_cases c51 : 0 ≤ (rd t488 x100_4)
                       ·rw [if_pos c51] at H
                        have c51b0 : decide (0 ≤ (rd t488 x100_4)) = true := decide_eq_true c51
                        clear c51
                        by_cases c52 : (rd t488 x100_4) < (x17_4.length : Int)
                        ·rw [if_pos c52] at H
                         have c52b0 : decide ((rd t488 x100_4) < (x17_4.length : Int)) = true := decide_eq_true c52
                         clear c52
                         obtain ⟨y496, hy496⟩ : ∃ y_ : List Bool, y_ = (x17_4.set ((rd t488 x100_4) : Int).toNat true) := ⟨_, rfl⟩
                         replace H : (dict_take_string_fn42.l1 k4 t472 x12_3 t488 y496 t488 (t488.length : Int) (wrap64 (x100_4 + 1))) = some (r1, r2, r3) := by first | (rw [hy496]; with_reducible exact H) | (have H2_ := (Option.bind_some _ _).symm.trans H; rw [hy496]; with_reducible exact H2_) | (have H2_ := (Option.bind_some _ _).symm.trans H; with_reducible exact H2_) | with_reducible exact H | (rw [hy496]; exact H) | exact H
                         have Ny496 := Aside0.mk hy496
                         clear hy496
                         have H' := Aside0.mk H
                         clear H
                         have p495 : 0 ≤ (x100_4 : Int) := of_decide_eq_true (by assumption)
                         have q495 : x100_4 < (t488.length : Int) := of_decide_eq_true (by assumption)
                         obtain ⟨ad495, e495, hx495_0⟩ := Kd.at_int (Kd.R_reads' HO_98.out).2.2 x100_4 p495 q495
                         cases e495
                         replace p495 := eq_true p495
                         replace q495 := eq_true q495
                         have p53 : 0 ≤ ((rd t488 x100_4) : Int) := of_decide_eq_true (by assumption)
                         have q53 : ((rd t488 x100_4) : Int) < ((x17_4.length : Int) : Int) := of_decide_eq_true (by assumption)
                         obtain ⟨go53, co53, eo53, gb53, gl53, cl53, HG53⟩ := Kd.R_form HO_17.out (by omega)
                         (first | cases eo53 | (injection eo53 with ea_ en_ ec_; (first | subst ea_ | (injection ea_ with ea_; subst ea_)); subst ec_; clear en_))
                         have GB53 := Aside0.mk gb53
                         have GG53 := Aside0.mk HG53
                         clear gb53 gl53 HG53
                         obtain ⟨hx53_0, hf53_0⟩ := Kd.R_celln false HO_17.out ((rd t488 x100_4) : Int) p53 q53
                         replace p53 := eq_true p53
                         replace q53 := eq_true q53
                         have HP54 := Kd.R_putg HO_17.out ((rd t488 x100_4) : Int) true
                         go_wp2_with (first | ((with_reducible refine gate_store (t := 4) (p := 113) rfl ?_); refine store_event (t := 4) (p := 113) (v := ?vo_w55) (w1 := (wr.setCell ⟨go53, ((rd t488 x100_4) : Int).toNat, none⟩ (.bool true))) ?hg ?ho ?hn ?hr ?_; (case ho => rfl); (case hg => rfl); (case hn => rfl); (case hr => first | (go_simp; done) | (go_simp; rfl)); intro w55 hw; have hg : wr.grownBy w55 (some go53) := (by rw [hw]; exact HP54.2); have hp_ : Kd.R Kd.bool 4 w55 w.heap.size (fun _ => True) (.slice (some ⟨go53, 0, none⟩) x17_4.length co53) y496 := (by rw [hw, Ny496.out]; exact HP54.1); clear HP54; replace HO_12 := Aside0.mk (Kd.R_over' (v := (.slice (some ⟨go53, 0, none⟩) x17_4.length co53)) (rx HO_12.out) (Kd.R_typed HO_17.out) (by decide) hg); replace HO_16 := Aside0.mk (Kd.R_over' (v := (.slice (some ⟨go53, 0, none⟩) x17_4.length co53)) (rx HO_16.out) (Kd.R_typed HO_17.out) (by decide) hg); replace HO_98 := Aside0.mk (Kd.R_over' (v := (.slice (some ⟨go53, 0, none⟩) x17_4.length co53)) (rx HO_98.out) (Kd.R_typed HO_17.out) (by decide) hg); replace HO_17 := Aside0.mk (hp_); replace HB := Aside0.mk ((by rw [hw]; exact below_set (HB.out) GB53.out : Below w.heap.size w w55)); clear hg hw hp_))
                         go_roundg k4
                         case measure => have := HJ3.out; have := HJ9.out; have := HK3.out; have := HK4.out; omega
                         case rel => exact ⟨(y496), (wrap64 (x100_4 + 1)), (by first | rfl | (simp; done) | (simp [*]; done)), H', ⟨by have := HJ3.out; have := HJ9.out; have := HK3.out; have := HK4.out; omega⟩, ⟨by (with_reducible repeat (first | apply Kd.R_alloc | apply Kd.R_drewN | apply Kd.R_drew)); exact HO_12.out⟩, ⟨by (with_reducible repeat (first | apply Kd.R_alloc | apply Kd.R_drewN | apply Kd.R_drew)); exact HO_16.out⟩, ⟨by (with_reducible repeat (first | apply Kd.R_alloc | apply Kd.R_drewN | apply Kd.R_drew)); exact HO_17.out⟩, ⟨by (with_reducible repeat (first | apply Kd.R_alloc | apply Kd.R_drewN | apply Kd.R_drew)); exact HO_98.out⟩, ⟨bh HB.out⟩⟩
                        ·rw [if_neg c52] at H
                         exact absurd H (by simp)
                       ·rw [if_neg c51] at H
                        exact absurd H (by simp)
                    ·rw [if_neg c48] at H
                     exact absurd H (by simp)
                   ·rw [if_neg c47] at H
                    exact absurd H (by simp)
                  ·rw [if_neg c46] at H
                   have c46b0 : decide (x100_4 < (t488.length : Int)) = false := decide_eq_false c46
                   clear c46
                   replace H := Option.bind_eq_some_iff.mp H
                   obtain ⟨t497, A560, H⟩ := H
                   replace H : (if t497 = true then (some (([] : List ByteArray), ([] : List Int), 20)) else (some (x12_3, t488, 0))) = some (r1, r2, r3) := H
                   have A56 := Aside0.mk A560
                   clear A560
                   by_cases c57 : t497 = true
                   ·subst c57
                    have H1 : (some (([] : List ByteArray), ([] : List Int), 20)) = some (r1, r2, r3) := by rw [if_pos rfl] at H; exact H
                    clear H
                    have H := H1
                    clear H1
                    simp only [Option.some.injEq, Prod.mk.injEq] at H
                    obtain ⟨rfl, rfl, rfl⟩ := H
                    obtain ⟨Ao58, co58, eo58⟩ := Kd.R_slice HO_17.out
                    subst eo58
                    go_wp2_with (first | ((with_reducible refine gate_callee (f := 60) rfl ?_); refine goesL_ (some 116) rfl rfl Try.func60 (by kernel_rfl) rfl #[.slice Ao58 x17_4.length co58, .bool false] rfl (by (try simp only [List.map_toArray, List.map_cons, List.map_nil]); first | done | rfl) ?_; (with_reducible refine (slices_Contains_bool_bool.calls k4 _ _ x17_4 false true _ ?side1 ?side2 A56.out).mono ?_); (case side1 => exact cx (Kd.R_reads' HO_17.out).2.2); (case side2 => exact (Kd.R_reads' HO_17.out).2.1); rintro e w' ⟨rfl, ⟨nd, rfl⟩⟩; refine ⟨_, rfl, ?_⟩))
                    go_ret3
                    exact ⟨_, _, er, nl, nl, bh HB.out⟩
                   ·replace c57 := Bool.eq_false_iff.mpr c57
                    subst c57
                    have H1 : (some (x12_3, t488, 0)) = some (r1, r2, r3) := by rw [if_neg (show ¬ (false = true) by decide)] at H; exact H
                    clear H
                    have H := H1
                    clear H1
                    simp only [Option.some.injEq, Prod.mk.injEq] at H
                    obtain ⟨rfl, rfl, rfl⟩ := H
                    obtain ⟨Ao59, co59, eo59⟩ := Kd.R_slice HO_17.out
                    subst eo59
                    go_wp2_with (first | ((with_reducible refine gate_callee (f := 60) rfl ?_); refine goesL_ (some 116) rfl rfl Try.func60 (by kernel_rfl) rfl #[.slice Ao59 x17_4.length co59, .bool false] rfl (by (try simp only [List.map_toArray, List.map_cons, List.map_nil]); first | done | rfl) ?_; (with_reducible refine (slices_Contains_bool_bool.calls k4 _ _ x17_4 false false _ ?side1 ?side2 A56.out).mono ?_); (case side1 => exact cx (Kd.R_reads' HO_17.out).2.2); (case side2 => exact (Kd.R_reads' HO_17.out).2.1); rintro e w' ⟨rfl, ⟨nd, rfl⟩⟩; refine ⟨_, rfl, ?_⟩))
                    go_ret3
                    exact ⟨_, _, er, by (with_reducible repeat (first | apply Kd.R_alloc | apply Kd.R_drewN | apply Kd.R_drew)); exact HO_12.out, by (with_reducible repeat (first | apply Kd.R_alloc | apply Kd.R_drewN | apply Kd.R_drew)); exact HO_16.out, bh HB.out⟩
               ·rw [if_neg c37] at H
                exact absurd H (by simp)
              ·rw [if_neg c36] at H
               exact absurd H (by simp)
             ·rw [if_neg c35] at H
              have c35b0 : (t489 == 0) = false := beq_eq_false_iff_ne.mpr c35
              have c35b1 : (t489 != 0) = true := bne_iff_ne.mpr c35
              simp only [Option.some.injEq, Prod.mk.injEq] at H
              obtain ⟨rfl, rfl, rfl⟩ := H
              try go_wp2
              replace HO_12 := Aside0.mk (Kd.R_drew HO_12.out)
              replace HB := Aside0.mk (below_drew1 HB.out)
              refine start_ (n := 14) (S := fun w' => True) (ds := []) #[false, false, false, false, false, false, false, false, false, false, false, false, false, false] (by kernel_rfl) rfl rfl trivial (fun hHeld => ?_); refine with_tabW dict_take_string_fn42.tab20 dict_take_string_fn42.bits20 (fun HT_ HW_ => ?_)
              generalize wr.drew = w60 at HO_12 HB hHeld ⊢
              refine pure_ (i := 0) (N := some 83) (v := ?_) (a' := ?_) #[true, false, false, false, false, false, false, false, false, false, false, false, false, false] rfl rfl (any_of HT_.out (by kernel_rfl)) (fun _ _ _ h => h) (Or.inl ⟨by rfl, ?_⟩) ?_ ?_
              rotate_left
              ·intro w'
               go_simp
               with_reducible rfl
              rotate_left
              ·simp only [Act.put, List.setIfInBounds_toArray, List.set_cons_zero, List.set_cons_succ, i64_w, i32_w]
               rfl
              refine pure_ (i := 1) (N := some 84) (v := ?_) (a' := ?_) #[true, true, false, false, false, false, false, false, false, false, false, false, false, false] rfl rfl (any_of HT_.out (by kernel_rfl)) (fun _ _ _ h => h) (Or.inl ⟨by rfl, ?_⟩) ?_ ?_
              rotate_left
              ·intro w'
               go_simp
               with_reducible rfl
              rotate_left
              ·simp only [Act.put, List.setIfInBounds_toArray, List.set_cons_zero, List.set_cons_succ, i64_w, i32_w]
               rfl
              refine pure_ (i := 2) (N := some 85) (v := ?_) (a' := ?_) #[true, true, true, false, false, false, false, false, false, false, false, false, false, false] rfl rfl (any_of HT_.out (by kernel_rfl)) (fun _ _ _ h => h) (Or.inl ⟨by rfl, ?_⟩) ?_ ?_
              rotate_left
              ·intro w'
               go_simp
               with_reducible rfl
              rotate_left
              ·simp only [Act.put, List.setIfInBounds_toArray, List.set_cons_zero, List.set_cons_succ, i64_w, i32_w]
               rfl
              refine pure_ (i := 3) (N := some 86) (v := ?_) (a' := ?_) #[true, true, true, true, false, false, false, false, false, false, false, false, false, false] rfl rfl (any_of HT_.out (by kernel_rfl)) (fun _ _ _ h => h) (Or.inl ⟨by rfl, ?_⟩) ?_ ?_
              rotate_left
              ·intro w'
               go_simp
               with_reducible rfl
              rotate_left
              ·simp only [Act.put, List.setIfInBounds_toArray, List.set_cons_zero, List.set_cons_succ, i64_w, i32_w]
               rfl
              refine pure_ (i := 4) (N := some 87) (v := ?_) (a' := ?_) #[true, true, true, true, true, false, false, false, false, false, false, false, false, false] rfl rfl (any_of HT_.out (by kernel_rfl)) (fun _ _ _ h => h) (Or.inl ⟨by rfl, ?_⟩) ?_ ?_
              rotate_left
              ·intro w'
               go_simp
               with_reducible rfl
              rotate_left
              ·simp only [Act.put, List.setIfInBounds_toArray, List.set_cons_zero, List.set_cons_succ, i64_w, i32_w]
               rfl
              refine pure_ (i := 5) (N := some 88) (v := ?_) (a' := ?_) #[true, true, true, true, true, true, false, false, false, false, false, false, false, false] rfl rfl (any_of HT_.out (by kernel_rfl)) (fun _ _ _ h => h) (Or.inl ⟨by rfl, ?_⟩) ?_ ?_
              rotate_left
              ·intro w'
               go_simp
               with_reducible rfl
              rotate_left
              ·simp only [Act.put, List.setIfInBounds_toArray, List.set_cons_zero, List.set_cons_succ, i64_w, i32_w]
               rfl
              refine one_ (i := 6) (N := some 89) #[true, true, true, true, true, true, true, false, false, false, false, false, false, false] rfl rfl (one_of HT_.out (by kernel_rfl)) (by decide) (fun K hK => ?_)
              refine Kd.R_lit_step (Kd.int .i64) _ 3 ?hg (N := 89) ?hd (xs := ([wrap64 (t472 - 1)] : List Int)) (inner := [.int .i64 (wrap64 (t472 - 1))]) (ok := fun _ => True) (okp := fun _ => True) ?hr ?hp (fun _ hk => hk) trivial (Below.refl _ _) (Nat.le_refl _) (by simp) ?_; (case hd => rfl); (case hg => rfl); (case hr => first | (go_simp; done) | (go_simp; rfl)); (case hp => exact (Reps.one (show Kd.M (Kd.int .i64) _ _ _ (wrap64 (t472 - 1)) [.int .i64 (wrap64 (t472 - 1))] from rfl) (Reps.none _ _)))
              intro v485 w61 ho62 hb hg_ hnew_
              clear hg_ hnew_
              (first | rw [← Ny484.out] at ho62 | (simp only [Int.reduceToNat] at ho62; rw [← Ny484.out] at ho62))
              replace HO_12 := rba HO_12 hb
              have HO486 := Aside0.mk (Kd.R_lower ho62 (below_size (bh HB.out)))
              replace HB := bsa HB hb
              clear hb ho62
              obtain ⟨Ao63, co63, eo63⟩ := Kd.R_slice HO486.out
              (first | subst eo63 | (injection eo63 with f1_ f2_ f3_; have f4_ := f1_.symm; have f5_ := f3_.symm; clear f1_ f2_ f3_; subst f4_; subst f5_))
              refine hK.out _ _ trivial (fun hHeld => ?_)
              clear hK K
              refine norm_ (a' := ?_) ?_ ?_
              rotate_left
              ·show Act.put _ (some 89) _ = _
               simp only [Act.put, List.setIfInBounds_toArray, List.set_cons_zero, List.set_cons_succ, i64_w, i32_w]
               rfl
              refine one_ (i := 7) (N := some 90) #[true, true, true, true, true, true, true, true, false, false, false, false, false, false] rfl rfl (one_of HT_.out (by kernel_rfl)) (by decide) (fun K hK => ?_)
              refine goes_ Try.func51 (by kernel_rfl) rfl #[.slice Ao63 y484.length co63] (by rfl) rfl rfl (by (try simp only [List.map_toArray, List.map_cons, List.map_nil]); first | done | rfl) ?_
              with_reducible refine (pack_Width.calls k3 _ _ y484 t487 _ ?side1 ?side2 A33.out).mono ?_
              (case side1 => exact cx (Kd.R_reads' HO486.out).2.2)
              (case side2 => exact (Kd.R_reads' HO486.out).2.1)
              rintro e w' ⟨rfl, ⟨nd, rfl⟩⟩
              refine ⟨_, rfl, ?_⟩
              refine hK.out _ _ trivial (fun hHeld => ?_)
              clear hK K
              refine norm_ (a' := ?_) ?_ ?_
              rotate_left
              ·show Act.put _ (some 90) _ = _
               simp only [Act.put, List.setIfInBounds_toArray, List.set_cons_zero, List.set_cons_succ, i64_w, i32_w]
               rfl
              refine one_ (i := 8) (N := some 91) #[true, true, true, true, true, true, true, true, true, false, false, false, false, false] rfl rfl (one_of HT_.out (by kernel_rfl)) (by decide) (fun K hK => ?_)
              refine goes_ Try.func59 (by kernel_rfl) rfl #[.string (a0.extract (x10_3 : Int).toNat a0.size), .int .i64 a1, .int .i64 t487] (by rfl) rfl rfl (by (try simp only [List.map_toArray, List.map_cons, List.map_nil]); first | done | rfl | (simp only [List.length_drop, List.length_take]; rfl) | (simp only [ByteArray.size_extract, Nat.min_self]; rfl)) ?_
              with_reducible refine (pack_Take.calls k3 (a0.extract (x10_3 : Int).toNat a0.size) a1 t487 t488 t489 _ A34.out).mono ?_
              rintro e w64 ⟨v490, rfl, ho0, hb⟩
              refine ⟨_, rfl, ?_⟩
              replace HO_12 := rba HO_12 hb
              have HO491 := Aside0.mk (Kd.R_lower (Kd.R_new' ho0 (Kd.R_lt (rx HO486.out))) (below_size (bh HB.out)))
              replace HO486 := Aside0.mk (Kd.R_elder' (rx HO486.out) (Kd.R_base ho0) hb)
              replace HB := bsa HB hb
              (try clear hb)
              (try clear hb2)
              (try clear hk)
              (try clear hi)
              (try clear ho0)
              refine hK.out _ _ trivial (fun hHeld => ?_)
              clear hK K
              refine norm_ (a' := ?_) ?_ ?_
              rotate_left
              ·show Act.put _ (some 91) _ = _
               simp only [Act.put, List.setIfInBounds_toArray, List.set_cons_zero, List.set_cons_succ, i64_w, i32_w]
               rfl
              refine pure_ (i := 9) (N := some 82) (v := ?_) (a' := ?_) #[true, true, true, true, true, true, true, true, true, true, false, false, false, false] rfl rfl (any_of HT_.out (by kernel_rfl)) (fun _ _ _ h => h) (Or.inl ⟨by rfl, ?_⟩) ?_ ?_
              rotate_left
              ·intro w'
               go_simp
               with_reducible rfl
              rotate_left
              ·simp only [Act.put, List.setIfInBounds_toArray, List.set_cons_zero, List.set_cons_succ, i64_w, i32_w]
               rfl
              refine pure_ (i := 10) (N := some 92) (v := ?_) (a' := ?_) #[true, true, true, true, true, true, true, true, true, true, true, false, false, false] rfl rfl (any_of HT_.out (by kernel_rfl)) (fun _ _ _ h => h) (Or.inl ⟨by rfl, ?_⟩) ?_ ?_
              rotate_left
              ·intro w'
               go_simp
               with_reducible rfl
              rotate_left
              ·simp only [Act.put, List.setIfInBounds_toArray, List.set_cons_zero, List.set_cons_succ, i64_w, i32_w]
               rfl
              refine pure_ (i := 11) (N := some 93) (v := ?_) (a' := ?_) #[true, true, true, true, true, true, true, true, true, true, true, true, false, false] rfl rfl (any_of HT_.out (by kernel_rfl)) (fun _ _ _ h => h) (Or.inl ⟨by rfl, ?_⟩) ?_ ?_
              rotate_left
              ·intro w'
               go_simp
               with_reducible rfl
              rotate_left
              ·simp only [Act.put, List.setIfInBounds_toArray, List.set_cons_zero, List.set_cons_succ, i64_w, i32_w]
               rfl
              refine pure_ (i := 12) (N := some 16) (v := ?_) (a' := ?_) #[true, true, true, true, true, true, true, true, true, true, true, true, true, false] rfl rfl (any_of HT_.out (by kernel_rfl)) (fun _ _ _ h => h) (Or.inl ⟨by rfl, ?_⟩) ?_ ?_
              rotate_left
              ·intro w'
               go_simp
               with_reducible rfl
              rotate_left
              ·simp only [Act.put, List.setIfInBounds_toArray, List.set_cons_zero, List.set_cons_succ, i64_w, i32_w]
               rfl
              refine pure_ (i := 13) (N := some 11) (v := ?_) (a' := ?_) #[true, true, true, true, true, true, true, true, true, true, true, true, true, true] rfl rfl (any_of HT_.out (by kernel_rfl)) (fun _ _ _ h => h) (Or.inl ⟨by rfl, ?_⟩) ?_ ?_
              rotate_left
              ·intro w'
               go_simp
               with_reducible rfl
              rotate_left
              ·simp only [Act.put, List.setIfInBounds_toArray, List.set_cons_zero, List.set_cons_succ, i64_w, i32_w]
               rfl
              refine done_ (done_of HT_.out (by kernel_rfl)) ?_
              try go_wp2
              go_ret3
              exact ⟨_, _, er, nl, nl, bh HB.out⟩
            ·rw [if_neg c32] at H
             exact absurd H (by simp)
           ·rw [if_neg c31] at H
            exact absurd H (by simp)
end Go.Proofs.Ytfohecpfenegkaa.Print
end
section
namespace Go.Proofs.Ytfohecpfenegkaa.Print
open Go.RowKit Go.Proofs.YtfohecpfenegkaaW.PrintWords Go.Proofs.YtfohecpfenegkaaW.PrintLast Go.Proofs.YtfohecpfenegkaaW.PrintMore
attribute [local go_sem] max2_int min2_int max_two min_two max_three min_three max_four min_four   -- for this text's walks alone
set_option linter.unusedVariables false
set_option linter.unusedSimpArgs false
/-! ### dict_Places: function 20 -/
def dict_Places.f (k : Nat) (a0 : ByteArray) (a1 : Int) : Option (List ByteArray × List Int × Int) := (dict_take_string_fn42.f k a0 a1).bind fun bt498 => (some (bt498.1, bt498.2.1, bt498.2.2))
set_option maxHeartbeats 8000000 in
set_option maxRecDepth 100000 in
theorem dict_Places.calls (k : Nat) (a0 : ByteArray) (a1 : Int) (r1 : List ByteArray) (r2 : List Int) (r3 : Int) (w : World) (h : dict_Places.f k a0 a1 = some (r1, r2, r3)) :
  Calls Try.prog 20 #[.string a0, .int .i64 a1] w fun e w' => ∃ v0_ v1_ : Value, e = .returned (.tuple #[v0_, v1_, .int .i64 r3]) ∧ Kd.R Kd.string 9 w' w.heap.size (fun _ => True) v0_ r1 ∧ Kd.R (Kd.int .i64) 3 w' w.heap.size (fun _ => True) v1_ r2 ∧ Below w.heap.size w w' := by
 have HB := Aside0.mk (Below.refl w.heap.size w)
 have H : ((dict_take_string_fn42.f k a0 a1).bind fun bt498 => (some (bt498.1, bt498.2.1, bt498.2.2))) = some (r1, r2, r3) := h
 clear h
 replace H := Option.bind_eq_some_iff.mp H
 obtain ⟨⟨t498, t501, t504⟩, A30, H⟩ := H
 replace H : (some (t498, t501, t504)) = some (r1, r2, r3) := H
 have A3 := Aside0.mk A30
 clear A30
 simp only [Option.some.injEq, Prod.mk.injEq] at H
 obtain ⟨rfl, rfl, rfl⟩ := H
 go_enter Try.func20, Try.ntmps20
 go_wp2_with (first | ((with_reducible refine gate_callee (f := 41) rfl ?_); refine goesL_ (some 9) rfl rfl Try.func41 (by kernel_rfl) rfl #[.string a0, .int .i64 a1, .func (.func 42) #[] #[]] rfl (by (try simp only [List.map_toArray, List.map_cons, List.map_nil]); first | done | rfl) ?_; (with_reducible refine (dict_take_string_fn42.calls k a0 a1  t498 t501 t504 _ A3.out).mono ?_); rintro e w4 ⟨v499, v502, rfl, ho0, ho1, hb⟩; refine ⟨_, rfl, ?_⟩; have HO500 := Aside0.mk (Kd.R_lower ho0 (below_size (bh HB.out))); have HO503 := Aside0.mk (Kd.R_lower ho1 (below_size (bh HB.out))); replace HB := bsa HB hb; (try clear hb); (try clear ho0); (try clear ho1)))
 go_ret3
 exact ⟨_, _, er, by (with_reducible repeat (first | apply Kd.R_alloc | apply Kd.R_drewN | apply Kd.R_drew)); exact HO500.out, by (with_reducible repeat (first | apply Kd.R_alloc | apply Kd.R_drewN | apply Kd.R_drew)); exact HO503.out, bh HB.out⟩
/-! ### dict_flat_string: function 40 -/
def dict_flat_string.l0 : Nat → List ByteArray → List ByteArray → List Int → Int → Int → Option (List ByteArray)
 | 0, _, _, _, _, _ => none
 | k + 1, x0, x5, x8, x9, x10 => if x10 < x9 then (if 0 ≤ x10 then (if x10 < (x8.length : Int) then (if 0 ≤ (rd x8 x10) then (if (rd x8 x10) < (x0.length : Int) then (if x5.length < 8796093022208 then (dict_flat_string.l0 k x0 (x5 ++ [rdOf ByteArray.empty x0 (rd x8 x10)]) x8 x9 (wrap64 (x10 + 1))) else (none)) else (none)) else (none)) else (none)) else (none)) else (some x5)
def dict_flat_string.f (k : Nat) (l0 : List ByteArray) (l1 : List Int) : Option (List ByteArray) := dict_flat_string.l0 k l0 ([] : List ByteArray) l1 (l1.length : Int) 0
theorem dict_flat_string.l0_succ (k : Nat) (x0 : List ByteArray) (x5 : List ByteArray) (x8 : List Int) (x9 : Int) (x10 : Int) : dict_flat_string.l0 (k + 1) x0 x5 x8 x9 x10 = (if x10 < x9 then (if 0 ≤ x10 then (if x10 < (x8.length : Int) then (if 0 ≤ (rd x8 x10) then (if (rd x8 x10) < (x0.length : Int) then (if x5.length < 8796093022208 then (dict_flat_string.l0 k x0 (x5 ++ [rdOf ByteArray.empty x0 (rd x8 x10)]) x8 x9 (wrap64 (x10 + 1))) else (none)) else (none)) else (none)) else (none)) else (none)) else (some x5)) := by
 simp only [dict_flat_string.l0]
set_option maxHeartbeats 8000000 in
set_option maxRecDepth 100000 in
theorem dict_flat_string.calls (k : Nat) (A0 : Option Addr) (c0 : Nat) (l0 : List ByteArray) (A1 : Option Addr) (c1 : Nat) (l1 : List Int) (r : List ByteArray) (w : World) (hr0 : Kd.C Kd.string w A0 l0.length l0) (hc0 : l0.length ≤ c0) (hr1 : Kd.C (Kd.int .i64) w A1 l1.length l1) (hc1 : l1.length ≤ c1) (h : dict_flat_string.f k l0 l1 = some r) :
  Calls Try.prog 40 #[.slice A0 l0.length c0, .slice A1 l1.length c1] w fun e w' => ∃ v0_ : Value, e = .returned (v0_) ∧ Kd.R Kd.string 9 w' w.heap.size (fun _ => True) v0_ r ∧ Below w.heap.size w w' := by
 have HR0 := Aside0.mk hr0
 have HC0 := Aside0.mk hc0
 clear hr0 hc0
 have HR1 := Aside0.mk hr1
 have HC1 := Aside0.mk hc1
 clear hr1 hc1
 have HB := Aside0.mk (Below.refl w.heap.size w)
 have H : (dict_flat_string.l0 k l0 ([] : List ByteArray) l1 (l1.length : Int) 0) = some r := h
 clear h
 have H' := Aside0.mk H
 clear H
 go_enter Try.func40, Try.ntmps40
 go_wp2
 go_loopg [5, 10] k (fun kq v5 v10 w' => ∃ (x5_1 : List ByteArray) (x10_1 : Int), v10 = .int .i64 x10_1 ∧ Aside0 (dict_flat_string.l0 kq l0 x5_1 l1 (l1.length : Int) x10_1 = some r) ∧ Aside0 (kq ≤ k) ∧ Aside0 (Kd.R Kd.string 9 w' w.heap.size (fun _ => True) v5 x5_1) ∧ Aside0 (Below w.heap.size w w'))
 case atStart => exact ⟨(([] : List ByteArray)), (0), (by first | rfl | (simp; done) | (simp [*]; done)), H', ⟨Nat.le_refl _⟩, ⟨nl⟩, ⟨bh HB.out⟩⟩
 case round =>
  clear H'
  try clear c1
  obtain ⟨x5_1, x10_1, rfl, HA, HK1, HO_5, HB⟩ := hrel
  cases gk with
  | zero => exact absurd HA.out (by simp [dict_flat_string.l0])
  | succ k1 =>
   have H := HA.out
   clear HA
   simp only [dict_flat_string.l0] at H
   by_cases c3 : x10_1 < (l1.length : Int)
   ·rw [if_pos c3] at H
    have c3b0 : decide (x10_1 < (l1.length : Int)) = true := decide_eq_true c3
    clear c3
    by_cases c4 : 0 ≤ x10_1
    ·rw [if_pos c4] at H
     have c4b0 : decide (0 ≤ x10_1) = true := decide_eq_true c4
     clear c4
     by_cases c5 : x10_1 < (l1.length : Int)
     ·rw [if_pos c5] at H
      have c5b0 : decide (x10_1 < (l1.length : Int)) = true := decide_eq_true c5
      clear c5
      by_cases c6 : 0 ≤ (rd l1 x10_1)
      ·rw [if_pos c6] at H
       have c6b0 : decide (0 ≤ (rd l1 x10_1)) = true := decide_eq_true c6
       clear c6
       by_cases c7 : (rd l1 x10_1) < (l0.length : Int)
       ·rw [if_pos c7] at H
        have c7b0 : decide ((rd l1 x10_1) < (l0.length : Int)) = true := decide_eq_true c7
        clear c7
        by_cases c8 : x5_1.length < 8796093022208
        ·rw [if_pos c8] at H
         have LMc8 := Aside0.mk c8
         clear c8
         obtain ⟨y507, hy507⟩ : ∃ y_ : List ByteArray, y_ = (x5_1 ++ [rdOf ByteArray.empty l0 (rd l1 x10_1)]) := ⟨_, rfl⟩
         replace H : (dict_flat_string.l0 k1 l0 y507 l1 (l1.length : Int) (wrap64 (x10_1 + 1))) = some r := by first | (rw [hy507]; with_reducible exact H) | (have H2_ := (Option.bind_some _ _).symm.trans H; rw [hy507]; with_reducible exact H2_) | (have H2_ := (Option.bind_some _ _).symm.trans H; with_reducible exact H2_) | with_reducible exact H | (rw [hy507]; exact H) | exact H
         have Ny507 := Aside0.mk hy507
         clear hy507
         have H' := Aside0.mk H
         clear H
         have p505 : 0 ≤ (x10_1 : Int) := of_decide_eq_true (by assumption)
         have q505 : x10_1 < (l1.length : Int) := of_decide_eq_true (by assumption)
         obtain ⟨ad505, e505, hx505_0⟩ := Kd.at_int HR1.out x10_1 p505 q505
         cases e505
         replace hx505_0 := (HB.out.cell (World.block_lt_of_cell? w _ hx505_0)).trans hx505_0
         replace p505 := eq_true p505
         replace q505 := eq_true q505
         have p506 : 0 ≤ ((rd l1 x10_1) : Int) := of_decide_eq_true (by assumption)
         have q506 : (rd l1 x10_1) < (l0.length : Int) := of_decide_eq_true (by assumption)
         obtain ⟨ad506, e506, hx506_0⟩ := Kd.at_string HR0.out (rd l1 x10_1) p506 q506
         cases e506
         replace hx506_0 := (HB.out.cell (World.block_lt_of_cell? w _ hx506_0)).trans hx506_0
         replace p506 := eq_true p506
         replace q506 := eq_true q506
         go_wp2_with (first | ((with_reducible refine gate_builtin (b := .append) (xs := #[.tmp 14, .tmp 19]) rfl ?_); at_builtin; refine Kd.R_append Kd.string (w0 := w) w.heap.size rfl (.tmp 14) (.tmp 19) 22 9 (.string ⟨#[]⟩) 16 rfl Try.underlying22 info9 rfl (by decide) (by omega) u5 x5_1 (rdOf ByteArray.empty l0 (rd l1 x10_1)) [.string (rdOf ByteArray.empty l0 (rd l1 x10_1))] (fun _ => True) (fun _ => False) rfl rfl ?aP (fun _ hk => hk.elim) ?aF ?aO ?aB ?aS ?aL ?_; (case aP => exact rfl); (case aB => exact (bh HB.out)); (case aF => exact (fun _ _ => trivial)); (case aO => exact (rx HO_5.out)); (case aS => exact (below_size (bh HB.out))); (case aL => have := LMc8.out; omega); intro v508 w9 ho hb hg hat; rw [← Ny507.out] at ho; have n0_ := Aside0.mk (hb); have n1_ := Aside0.mk (ho); clear HB HO_5; have HB := n0_; have HO509 := n1_; clear n0_ n1_; clear ho hb hg hat))
         go_roundg k1
         case measure => have := HK1.out; omega
         case rel => exact ⟨(y507), (wrap64 (x10_1 + 1)), (by first | rfl | (simp; done) | (simp [*]; done)), H', ⟨by have := HK1.out; omega⟩, ⟨by (with_reducible repeat (first | apply Kd.R_alloc | apply Kd.R_drewN | apply Kd.R_drew)); exact HO509.out⟩, ⟨bh HB.out⟩⟩
        ·rw [if_neg c8] at H
         exact absurd H (by simp)
       ·rw [if_neg c7] at H
        exact absurd H (by simp)
      ·rw [if_neg c6] at H
       exact absurd H (by simp)
     ·rw [if_neg c5] at H
      exact absurd H (by simp)
    ·rw [if_neg c4] at H
     exact absurd H (by simp)
   ·rw [if_neg c3] at H
    have c3b0 : decide (x10_1 < (l1.length : Int)) = false := decide_eq_false c3
    clear c3
    obtain rfl := Option.some.inj H
    go_wp2
    go_ret
    exact ⟨_, er, by (with_reducible repeat (first | apply Kd.R_alloc | apply Kd.R_drewN | apply Kd.R_drew)); exact HO_5.out, bh HB.out⟩
/-! ### dict_TakeTexts: function 19 -/
def dict_TakeTexts.f (k : Nat) (a0 : ByteArray) (a1 : Int) : Option (List ByteArray × Int) := (dict_Places.f k a0 a1).bind fun bt510 => (if bt510.2.2 = 0 then ((dict_flat_string.f k bt510.1 bt510.2.1).bind fun t517 => (some (t517, 0))) else (some (([] : List ByteArray), bt510.2.2)))
set_option maxHeartbeats 8000000 in
set_option maxRecDepth 100000 in
theorem dict_TakeTexts.calls (k : Nat) (a0 : ByteArray) (a1 : Int) (r1 : List ByteArray) (r2 : Int) (w : World) (h : dict_TakeTexts.f k a0 a1 = some (r1, r2)) :
  Calls Try.prog 19 #[.string a0, .int .i64 a1] w fun e w' => ∃ v0_ : Value, e = .returned (.tuple #[v0_, .int .i64 r2]) ∧ Kd.R Kd.string 9 w' w.heap.size (fun _ => True) v0_ r1 ∧ Below w.heap.size w w' := by
 have HB := Aside0.mk (Below.refl w.heap.size w)
 have H : ((dict_Places.f k a0 a1).bind fun bt510 => (if bt510.2.2 = 0 then ((dict_flat_string.f k bt510.1 bt510.2.1).bind fun t517 => (some (t517, 0))) else (some (([] : List ByteArray), bt510.2.2)))) = some (r1, r2) := h
 clear h
 replace H := Option.bind_eq_some_iff.mp H
 obtain ⟨⟨t510, t511, t512⟩, A30, H⟩ := H
 replace H : (if t512 = 0 then ((dict_flat_string.f k t510 t511).bind fun t517 => (some (t517, 0))) else (some (([] : List ByteArray), t512))) = some (r1, r2) := H
 have A3 := Aside0.mk A30
 clear A30
 by_cases c4 : t512 = 0
 ·rw [if_pos c4] at H
  have c4b0 : (t512 == 0) = true := beq_iff_eq.mpr c4
  have c4b1 : (t512 != 0) = false := bne_eq_false_iff_eq.mpr c4
  clear c4
  replace H := Option.bind_eq_some_iff.mp H
  obtain ⟨t517, A50, H⟩ := H
  replace H : (some (t517, 0)) = some (r1, r2) := H
  have A5 := Aside0.mk A50
  clear A50
  simp only [Option.some.injEq, Prod.mk.injEq] at H
  obtain ⟨rfl, rfl⟩ := H
  go_enter Try.func19, Try.ntmps19
  go_wp2_with (first | ((with_reducible refine gate_callee (f := 20) rfl ?_); refine goesL_ (some 12) rfl rfl Try.func20 (by kernel_rfl) rfl #[.string a0, .int .i64 a1] rfl (by (try simp only [List.map_toArray, List.map_cons, List.map_nil]); first | done | rfl) ?_; (with_reducible refine (dict_Places.calls k a0 a1 t510 t511 t512 _ A3.out).mono ?_); rintro e w6 ⟨v513, v515, rfl, ho0, ho1, hb⟩; refine ⟨_, rfl, ?_⟩; have HO514 := Aside0.mk (Kd.R_lower ho0 (below_size (bh HB.out))); have HO516 := Aside0.mk (Kd.R_lower ho1 (below_size (bh HB.out))); replace HB := bsa HB hb; (try clear hb); (try clear ho0); (try clear ho1); obtain ⟨Ao7, co7, eo7⟩ := Kd.R_slice HO514.out; subst eo7; obtain ⟨Ao8, co8, eo8⟩ := Kd.R_slice HO516.out; subst eo8) | ((with_reducible refine gate_callee (f := 40) rfl ?_); refine goesL_ (some 21) rfl rfl Try.func40 (by kernel_rfl) rfl #[.slice Ao7 t510.length co7, .slice Ao8 t511.length co8] rfl (by (try simp only [List.map_toArray, List.map_cons, List.map_nil]); first | done | rfl) ?_; (with_reducible refine (dict_flat_string.calls k _ _ t510 _ _ t511 t517 _ ?side1 ?side2 ?side3 ?side4 A5.out).mono ?_); (case side1 => exact cx (Kd.R_reads' HO514.out).2.2); (case side2 => exact (Kd.R_reads' HO514.out).2.1); (case side3 => exact cx (Kd.R_reads' HO516.out).2.2); (case side4 => exact (Kd.R_reads' HO516.out).2.1); rintro e w9 ⟨v518, rfl, ho0, hb⟩; refine ⟨_, rfl, ?_⟩; replace HO516 := rba HO516 hb; have HO519 := Aside0.mk (Kd.R_lower (Kd.R_new' ho0 (Kd.R_lt (rx HO514.out))) (below_size (bh HB.out))); replace HO514 := Aside0.mk (Kd.R_elder' (rx HO514.out) (Kd.R_base ho0) hb); replace HB := bsa HB hb; (try clear hb); (try clear ho0)))
  go_ret2
  exact ⟨_, er, by (with_reducible repeat (first | apply Kd.R_alloc | apply Kd.R_drewN | apply Kd.R_drew)); exact Kd.R_mono HO519.out (fun _ hk => trivial), bh HB.out⟩
 ·rw [if_neg c4] at H
  have c4b0 : (t512 == 0) = false := beq_eq_false_iff_ne.mpr c4
  have c4b1 : (t512 != 0) = true := bne_iff_ne.mpr c4
  simp only [Option.some.injEq, Prod.mk.injEq] at H
  obtain ⟨rfl, rfl⟩ := H
  go_enter Try.func19, Try.ntmps19
  go_wp2_with (first | ((with_reducible refine gate_callee (f := 20) rfl ?_); refine goesL_ (some 12) rfl rfl Try.func20 (by kernel_rfl) rfl #[.string a0, .int .i64 a1] rfl (by (try simp only [List.map_toArray, List.map_cons, List.map_nil]); first | done | rfl) ?_; (with_reducible refine (dict_Places.calls k a0 a1 t510 t511 t512 _ A3.out).mono ?_); rintro e w10 ⟨v513, v515, rfl, ho0, ho1, hb⟩; refine ⟨_, rfl, ?_⟩; have HO514 := Aside0.mk (Kd.R_lower ho0 (below_size (bh HB.out))); have HO516 := Aside0.mk (Kd.R_lower ho1 (below_size (bh HB.out))); replace HB := bsa HB hb; (try clear hb); (try clear ho0); (try clear ho1)))
  go_ret2
  exact ⟨_, er, nl, bh HB.out⟩
/-! ### peristylelaw11_DictTexts: function 5 -/
def peristylelaw11_DictTexts.j0 : Nat → List ByteArray → List ByteArray → List Int → ByteArray → Int → Bool → Option (Bool)
 | 0, _, _, _, _, _, _ => none
 | k + 1, x0, x3, x4, x7, x8, x59 => if x59 = true then (some false) else ((dict_TakeTexts.f k x7 (x0.length : Int)).bind fun bt540 => ((dict_Places.f k x7 (x0.length : Int)).bind fun bt544 => (if x8 = 0 then (if bt540.2 = 0 then (if bt544.2.2 = 0 then ((peristyleref07_Same.f k bt540.1 x0).bind fun t551 => (if t551 = true then ((peristyleref07_Same.f k bt544.1 x3).bind fun t552 => (if t552 = true then ((peristyleref01_Same.f k bt544.2.1 x4).bind fun t553 => (if t553 = true then ((peristylelaw11_awake.f k).bind fun t554 => (some t554)) else (none))) else (none))) else (none))) else (none)) else (none)) else ((peristylelaw11_awake.f k).bind fun t555 => (some t555)))))
def peristylelaw11_DictTexts.f (k : Nat) (l0 : List ByteArray) : Option (Bool) := (peristyleref07_Few.f k l0 60).bind fun t520 => (if t520 = true then ((dict_Of_string.f k l0).bind fun bt522 => ((peristyleref11_Texts.f k l0).bind fun bt528 => ((dict_PutTexts.f k l0).bind fun bt534 => ((peristyleref11_PutTexts.f k l0).bind fun bt536 => ((peristyleref07_Same.f k bt522.1 bt528.1).bind fun t538 => (if t538 = true then ((peristyleref01_Same.f k bt522.2 bt528.2).bind fun t539 => (if t539 = true then (if bt534.1.toList = bt536.1.toList then (peristylelaw11_DictTexts.j0 k l0 bt522.1 bt522.2 bt534.1 bt534.2 (bt534.2 != bt536.2)) else (peristylelaw11_DictTexts.j0 k l0 bt522.1 bt522.2 bt534.1 bt534.2 true)) else (peristylelaw11_DictTexts.j0 k l0 bt522.1 bt522.2 bt534.1 bt534.2 true))) else (peristylelaw11_DictTexts.j0 k l0 bt522.1 bt522.2 bt534.1 bt534.2 true))))))) else ((peristylelaw11_awake.f k).bind fun t521 => (some t521)))
theorem peristylelaw11_DictTexts.j0_succ (k : Nat) (x0 : List ByteArray) (x3 : List ByteArray) (x4 : List Int) (x7 : ByteArray) (x8 : Int) (x59 : Bool) : peristylelaw11_DictTexts.j0 (k + 1) x0 x3 x4 x7 x8 x59 = (if x59 = true then (some false) else ((dict_TakeTexts.f k x7 (x0.length : Int)).bind fun bt540 => ((dict_Places.f k x7 (x0.length : Int)).bind fun bt544 => (if x8 = 0 then (if bt540.2 = 0 then (if bt544.2.2 = 0 then ((peristyleref07_Same.f k bt540.1 x0).bind fun t551 => (if t551 = true then ((peristyleref07_Same.f k bt544.1 x3).bind fun t552 => (if t552 = true then ((peristyleref01_Same.f k bt544.2.1 x4).bind fun t553 => (if t553 = true then ((peristylelaw11_awake.f k).bind fun t554 => (some t554)) else (none))) else (none))) else (none))) else (none)) else (none)) else ((peristylelaw11_awake.f k).bind fun t555 => (some t555)))))) := by
 simp only [peristylelaw11_DictTexts.j0]
set_option maxHeartbeats 8000000 in
set_option maxRecDepth 100000 in
theorem peristylelaw11_DictTexts.calls (k : Nat) (A0 : Option Addr) (c0 : Nat) (l0 : List ByteArray) (r : Bool) (w : World) (hr0 : Kd.C Kd.string w A0 l0.length l0) (hc0 : l0.length ≤ c0) (h : peristylelaw11_DictTexts.f k l0 = some r) :
  Calls Try.prog 5 #[.slice A0 l0.length c0] w fun e w' => e = .returned (.bool r) ∧ Below w.heap.size w w' := by
 have HR0 := Aside0.mk hr0
 have HC0 := Aside0.mk hc0
 clear hr0 hc0
 have HB := Aside0.mk (Below.refl w.heap.size w)
 have H : ((peristyleref07_Few.f k l0 60).bind fun t520 => (if t520 = true then ((dict_Of_string.f k l0).bind fun bt522 => ((peristyleref11_Texts.f k l0).bind fun bt528 => ((dict_PutTexts.f k l0).bind fun bt534 => ((peristyleref11_PutTexts.f k l0).bind fun bt536 => ((peristyleref07_Same.f k bt522.1 bt528.1).bind fun t538 => (if t538 = true then ((peristyleref01_Same.f k bt522.2 bt528.2).bind fun t539 => (if t539 = true then (if bt534.1.toList = bt536.1.toList then (peristylelaw11_DictTexts.j0 k l0 bt522.1 bt522.2 bt534.1 bt534.2 (bt534.2 != bt536.2)) else (peristylelaw11_DictTexts.j0 k l0 bt522.1 bt522.2 bt534.1 bt534.2 true)) else (peristylelaw11_DictTexts.j0 k l0 bt522.1 bt522.2 bt534.1 bt534.2 true))) else (peristylelaw11_DictTexts.j0 k l0 bt522.1 bt522.2 bt534.1 bt534.2 true))))))) else ((peristylelaw11_awake.f k).bind fun t521 => (some t521)))) = some r := h
 clear h
 replace H := Option.bind_eq_some_iff.mp H
 obtain ⟨t520, A20, H⟩ := H
 replace H : (if t520 = true then ((dict_Of_string.f k l0).bind fun bt522 => ((peristyleref11_Texts.f k l0).bind fun bt528 => ((dict_PutTexts.f k l0).bind fun bt534 => ((peristyleref11_PutTexts.f k l0).bind fun bt536 => ((peristyleref07_Same.f k bt522.1 bt528.1).bind fun t538 => (if t538 = true then ((peristyleref01_Same.f k bt522.2 bt528.2).bind fun t539 => (if t539 = true then (if bt534.1.toList = bt536.1.toList then (peristylelaw11_DictTexts.j0 k l0 bt522.1 bt522.2 bt534.1 bt534.2 (bt534.2 != bt536.2)) else (peristylelaw11_DictTexts.j0 k l0 bt522.1 bt522.2 bt534.1 bt534.2 true)) else (peristylelaw11_DictTexts.j0 k l0 bt522.1 bt522.2 bt534.1 bt534.2 true))) else (peristylelaw11_DictTexts.j0 k l0 bt522.1 bt522.2 bt534.1 bt534.2 true))))))) else ((peristylelaw11_awake.f k).bind fun t521 => (some t521))) = some r := H
 have A2 := Aside0.mk A20
 clear A20
 by_cases c3 : t520 = true
 ·subst c3
  have H1 : ((dict_Of_string.f k l0).bind fun bt522 => ((peristyleref11_Texts.f k l0).bind fun bt528 => ((dict_PutTexts.f k l0).bind fun bt534 => ((peristyleref11_PutTexts.f k l0).bind fun bt536 => ((peristyleref07_Same.f k bt522.1 bt528.1).bind fun t538 => (if t538 = true then ((peristyleref01_Same.f k bt522.2 bt528.2).bind fun t539 => (if t539 = true then (if bt534.1.toList = bt536.1.toList then (peristylelaw11_DictTexts.j0 k l0 bt522.1 bt522.2 bt534.1 bt534.2 (bt534.2 != bt536.2)) else (peristylelaw11_DictTexts.j0 k l0 bt522.1 bt522.2 bt534.1 bt534.2 true)) else (peristylelaw11_DictTexts.j0 k l0 bt522.1 bt522.2 bt534.1 bt534.2 true))) else (peristylelaw11_DictTexts.j0 k l0 bt522.1 bt522.2 bt534.1 bt534.2 true))))))) = some r := by rw [if_pos rfl] at H; exact H
  clear H
  have H := H1
  clear H1
  replace H := Option.bind_eq_some_iff.mp H
  obtain ⟨⟨t522, t523⟩, A40, H⟩ := H
  replace H : ((peristyleref11_Texts.f k l0).bind fun bt528 => ((dict_PutTexts.f k l0).bind fun bt534 => ((peristyleref11_PutTexts.f k l0).bind fun bt536 => ((peristyleref07_Same.f k t522 bt528.1).bind fun t538 => (if t538 = true then ((peristyleref01_Same.f k t523 bt528.2).bind fun t539 => (if t539 = true then (if bt534.1.toList = bt536.1.toList then (peristylelaw11_DictTexts.j0 k l0 t522 t523 bt534.1 bt534.2 (bt534.2 != bt536.2)) else (peristylelaw11_DictTexts.j0 k l0 t522 t523 bt534.1 bt534.2 true)) else (peristylelaw11_DictTexts.j0 k l0 t522 t523 bt534.1 bt534.2 true))) else (peristylelaw11_DictTexts.j0 k l0 t522 t523 bt534.1 bt534.2 true)))))) = some r := H
  have A4 := Aside0.mk A40
  clear A40
  replace H := Option.bind_eq_some_iff.mp H
  obtain ⟨⟨t528, t529⟩, A50, H⟩ := H
  replace H : ((dict_PutTexts.f k l0).bind fun bt534 => ((peristyleref11_PutTexts.f k l0).bind fun bt536 => ((peristyleref07_Same.f k t522 t528).bind fun t538 => (if t538 = true then ((peristyleref01_Same.f k t523 t529).bind fun t539 => (if t539 = true then (if bt534.1.toList = bt536.1.toList then (peristylelaw11_DictTexts.j0 k l0 t522 t523 bt534.1 bt534.2 (bt534.2 != bt536.2)) else (peristylelaw11_DictTexts.j0 k l0 t522 t523 bt534.1 bt534.2 true)) else (peristylelaw11_DictTexts.j0 k l0 t522 t523 bt534.1 bt534.2 true))) else (peristylelaw11_DictTexts.j0 k l0 t522 t523 bt534.1 bt534.2 true))))) = some r := H
  have A5 := Aside0.mk A50
  clear A50
  replace H := Option.bind_eq_some_iff.mp H
  obtain ⟨⟨t534, t535⟩, A60, H⟩ := H
  replace H : ((peristyleref11_PutTexts.f k l0).bind fun bt536 => ((peristyleref07_Same.f k t522 t528).bind fun t538 => (if t538 = true then ((peristyleref01_Same.f k t523 t529).bind fun t539 => (if t539 = true then (if t534.toList = bt536.1.toList then (peristylelaw11_DictTexts.j0 k l0 t522 t523 t534 t535 (t535 != bt536.2)) else (peristylelaw11_DictTexts.j0 k l0 t522 t523 t534 t535 true)) else (peristylelaw11_DictTexts.j0 k l0 t522 t523 t534 t535 true))) else (peristylelaw11_DictTexts.j0 k l0 t522 t523 t534 t535 true)))) = some r := H
  have A6 := Aside0.mk A60
  clear A60
  replace H := Option.bind_eq_some_iff.mp H
  obtain ⟨⟨t536, t537⟩, A70, H⟩ := H
  replace H : ((peristyleref07_Same.f k t522 t528).bind fun t538 => (if t538 = true then ((peristyleref01_Same.f k t523 t529).bind fun t539 => (if t539 = true then (if t534.toList = t536.toList then (peristylelaw11_DictTexts.j0 k l0 t522 t523 t534 t535 (t535 != t537)) else (peristylelaw11_DictTexts.j0 k l0 t522 t523 t534 t535 true)) else (peristylelaw11_DictTexts.j0 k l0 t522 t523 t534 t535 true))) else (peristylelaw11_DictTexts.j0 k l0 t522 t523 t534 t535 true))) = some r := H
  have A7 := Aside0.mk A70
  clear A70
  have HC8 := Aside0.mk H
  clear H
  go_enter Try.func5, Try.ntmps5
  go_upto_region 7 with (first | ((with_reducible refine gate_callee (f := 6) rfl ?_); refine goesL_ (some 17) rfl rfl Try.func6 (by kernel_rfl) rfl #[.slice A0 l0.length c0, .int .i64 60] rfl (by (try simp only [List.map_toArray, List.map_cons, List.map_nil]); first | done | rfl) ?_; (with_reducible refine (peristyleref07_Few.calls k _ _ l0 60 true _ ?side1 ?side2 A2.out).mono ?_); (case side1 => exact cx HR0.out); (case side2 => exact HC0.out); rintro e w' ⟨rfl, ⟨nd, rfl⟩⟩; refine ⟨_, rfl, ?_⟩) | ((with_reducible refine gate_callee (f := 8) rfl ?_); refine goesL_ (some 22) rfl rfl Try.func8 (by kernel_rfl) rfl #[.slice A0 l0.length c0] rfl (by (try simp only [List.map_toArray, List.map_cons, List.map_nil]); first | done | rfl) ?_; (with_reducible refine (dict_Of_string.calls k _ _ l0 t522 t523 _ ?side1 ?side2 A4.out).mono ?_); (case side1 => exact cx HR0.out); (case side2 => exact HC0.out); rintro e w9 ⟨v524, v526, rfl, ho0, ho1, hb⟩; refine ⟨_, rfl, ?_⟩; have HO525 := Aside0.mk (Kd.R_lower ho0 (below_size (bh HB.out))); have HO527 := Aside0.mk (Kd.R_lower ho1 (below_size (bh HB.out))); replace HB := bsa HB hb; (try clear hb); (try clear ho0); (try clear ho1)) | ((with_reducible refine gate_callee (f := 15) rfl ?_); refine goesL_ (some 27) rfl rfl Try.func15 (by kernel_rfl) rfl #[.slice A0 l0.length c0] rfl (by (try simp only [List.map_toArray, List.map_cons, List.map_nil]); first | done | rfl) ?_; (with_reducible refine (peristyleref11_Texts.calls k _ _ l0 t528 t529 _ ?side1 ?side2 A5.out).mono ?_); (case side1 => exact cx (Kd.C_below HR0.out HB.out)); (case side2 => exact HC0.out); rintro e w10 ⟨v530, v532, rfl, ho0, ho1, hb⟩; refine ⟨_, rfl, ?_⟩; have HO531 := Aside0.mk (Kd.R_lower (Kd.R_new' ho0 (Kd.R_lt (rx HO525.out))) (below_size (bh HB.out))); replace HO525 := Aside0.mk (Kd.R_elder' (rx HO525.out) (Kd.R_base ho0) hb); have HO533 := Aside0.mk (Kd.R_lower (Kd.R_new' ho1 (Kd.R_lt (rx HO527.out))) (below_size (bh HB.out))); replace HO527 := Aside0.mk (Kd.R_elder' (rx HO527.out) (Kd.R_base ho1) hb); replace HB := bsa HB hb; (try clear hb); (try clear ho0); (try clear ho1)) | ((with_reducible refine gate_callee (f := 16) rfl ?_); refine goesL_ (some 32) rfl rfl Try.func16 (by kernel_rfl) rfl #[.slice A0 l0.length c0] rfl (by (try simp only [List.map_toArray, List.map_cons, List.map_nil]); first | done | rfl) ?_; (with_reducible refine (dict_PutTexts.calls k _ _ l0 t534 t535 _ ?side1 ?side2 A6.out).mono ?_); (case side1 => exact cx (Kd.C_below HR0.out HB.out)); (case side2 => exact HC0.out); rintro e w11 ⟨rfl, hb⟩; refine ⟨_, rfl, ?_⟩; replace HO525 := rba HO525 hb; replace HO527 := rba HO527 hb; replace HO531 := rba HO531 hb; replace HO533 := rba HO533 hb; replace HB := bsa HB hb; (try clear hb)) | ((with_reducible refine gate_callee (f := 17) rfl ?_); refine goesL_ (some 37) rfl rfl Try.func17 (by kernel_rfl) rfl #[.slice A0 l0.length c0] rfl (by (try simp only [List.map_toArray, List.map_cons, List.map_nil]); first | done | rfl) ?_; (with_reducible refine (peristyleref11_PutTexts.calls k _ _ l0 t536 t537 _ ?side1 ?side2 A7.out).mono ?_); (case side1 => exact cx (Kd.C_below HR0.out HB.out)); (case side2 => exact HC0.out); rintro e w12 ⟨rfl, hb⟩; refine ⟨_, rfl, ?_⟩; replace HO525 := rba HO525 hb; replace HO527 := rba HO527 hb; replace HO531 := rba HO531 hb; replace HO533 := rba HO533 hb; replace HB := bsa HB hb; (try clear hb)))
  (try simp only [Act.put, List.setIfInBounds_toArray, List.set_cons_zero, List.set_cons_succ])
  go_cut [59] (fun v59 wc => ∃ (kq : Nat) (x59_7 : Bool), v59 = .bool x59_7 ∧ Aside0 (peristylelaw11_DictTexts.j0 kq l0 t522 t523 t534 t535 x59_7 = some r) ∧ Aside0 (kq ≤ k) ∧ Aside0 (Kd.R Kd.string 9 wc w.heap.size (fun _ => True) v524 t522) ∧ Aside0 (Kd.R (Kd.int .i64) 3 wc w.heap.size (fun _ => True) v526 t523) ∧ Aside0 (Below w.heap.size w wc))
  case first =>
   have H := HC8.out
   clear HC8
   replace H := Option.bind_eq_some_iff.mp H
   obtain ⟨t538, A130, H⟩ := H
   replace H : (if t538 = true then ((peristyleref01_Same.f k t523 t529).bind fun t539 => (if t539 = true then (if t534.toList = t536.toList then (peristylelaw11_DictTexts.j0 k l0 t522 t523 t534 t535 (t535 != t537)) else (peristylelaw11_DictTexts.j0 k l0 t522 t523 t534 t535 true)) else (peristylelaw11_DictTexts.j0 k l0 t522 t523 t534 t535 true))) else (peristylelaw11_DictTexts.j0 k l0 t522 t523 t534 t535 true)) = some r := H
   have A13 := Aside0.mk A130
   clear A130
   by_cases c14 : t538 = true
   ·subst c14
    have H1 : ((peristyleref01_Same.f k t523 t529).bind fun t539 => (if t539 = true then (if t534.toList = t536.toList then (peristylelaw11_DictTexts.j0 k l0 t522 t523 t534 t535 (t535 != t537)) else (peristylelaw11_DictTexts.j0 k l0 t522 t523 t534 t535 true)) else (peristylelaw11_DictTexts.j0 k l0 t522 t523 t534 t535 true))) = some r := by rw [if_pos rfl] at H; exact H
    clear H
    have H := H1
    clear H1
    replace H := Option.bind_eq_some_iff.mp H
    obtain ⟨t539, A150, H⟩ := H
    replace H : (if t539 = true then (if t534.toList = t536.toList then (peristylelaw11_DictTexts.j0 k l0 t522 t523 t534 t535 (t535 != t537)) else (peristylelaw11_DictTexts.j0 k l0 t522 t523 t534 t535 true)) else (peristylelaw11_DictTexts.j0 k l0 t522 t523 t534 t535 true)) = some r := H
    have A15 := Aside0.mk A150
    clear A150
    by_cases c16 : t539 = true
    ·subst c16
     have H1 : (if t534.toList = t536.toList then (peristylelaw11_DictTexts.j0 k l0 t522 t523 t534 t535 (t535 != t537)) else (peristylelaw11_DictTexts.j0 k l0 t522 t523 t534 t535 true)) = some r := by rw [if_pos rfl] at H; exact H
     clear H
     have H := H1
     clear H1
     by_cases c17 : t534.toList = t536.toList
     ·rw [if_pos c17] at H
      have c17b0 : (t534.toList == t536.toList) = true := beq_iff_eq.mpr c17
      have c17b1 : (t534.toList != t536.toList) = false := bne_eq_false_iff_eq.mpr c17
      clear c17
      (first | rw [c17b0] | (simp only [i64_w, i32_w]; rw [c17b0]) | rw [c17b1] | skip)
      have H' := Aside0.mk H
      clear H
      obtain ⟨Ao18, co18, eo18⟩ := Kd.R_slice HO525.out
      subst eo18
      obtain ⟨Ao19, co19, eo19⟩ := Kd.R_slice HO531.out
      subst eo19
      go_wp2_with (first | ((with_reducible refine gate_callee (f := 18) rfl ?_); refine goesL_ (some 42) rfl rfl Try.func18 (by kernel_rfl) rfl #[.slice Ao18 t522.length co18, .slice Ao19 t528.length co19] rfl (by (try simp only [List.map_toArray, List.map_cons, List.map_nil]); first | done | rfl) ?_; (with_reducible refine (peristyleref07_Same.calls k _ _ t522 _ _ t528 true _ ?side1 ?side2 ?side3 ?side4 A13.out).mono ?_); (case side1 => exact cx (Kd.R_reads' HO525.out).2.2); (case side2 => exact (Kd.R_reads' HO525.out).2.1); (case side3 => exact cx (Kd.R_reads' HO531.out).2.2); (case side4 => exact (Kd.R_reads' HO531.out).2.1); rintro e w' ⟨rfl, ⟨nd, rfl⟩⟩; refine ⟨_, rfl, ?_⟩; obtain ⟨Ao20, co20, eo20⟩ := Kd.R_slice HO527.out; subst eo20; obtain ⟨Ao21, co21, eo21⟩ := Kd.R_slice HO533.out; subst eo21) | (go_at_call 14; (with_reducible refine (peristyleref01_Same.calls k _ _ t523 _ _ t529 true _ ?side1 ?side2 ?side3 ?side4 A15.out).mono ?_); (case side1 => exact cx (Kd.R_reads' HO527.out).2.2); (case side2 => exact (Kd.R_reads' HO527.out).2.1); (case side3 => exact cx (Kd.R_reads' HO533.out).2.2); (case side4 => exact (Kd.R_reads' HO533.out).2.1); rintro e w' ⟨rfl, ⟨nd, rfl⟩⟩; (try clear A15)))
      go_meet
      case rel => exact ⟨_, ((t535 != t537)), (by first | rfl | (simp; done) | (simp [*]; done)), H', ⟨by first | omega | exact Nat.le_refl _⟩, ⟨by (with_reducible repeat (first | apply Kd.R_alloc | apply Kd.R_drewN | apply Kd.R_drew)); exact Kd.R_mono HO525.out (fun _ hk => trivial)⟩, ⟨by (with_reducible repeat (first | apply Kd.R_alloc | apply Kd.R_drewN | apply Kd.R_drew)); exact Kd.R_mono HO527.out (fun _ hk => trivial)⟩, ⟨bh HB.out⟩⟩
     ·rw [if_neg c17] at H
      have c17b0 : (t534.toList == t536.toList) = false := beq_eq_false_iff_ne.mpr c17
      have c17b1 : (t534.toList != t536.toList) = true := bne_iff_ne.mpr c17
      (first | rw [c17b0] | (simp only [i64_w, i32_w]; rw [c17b0]) | rw [c17b1] | skip)
      have H' := Aside0.mk H
      clear H
      obtain ⟨Ao22, co22, eo22⟩ := Kd.R_slice HO525.out
      subst eo22
      obtain ⟨Ao23, co23, eo23⟩ := Kd.R_slice HO531.out
      subst eo23
      go_wp2_with (first | ((with_reducible refine gate_callee (f := 18) rfl ?_); refine goesL_ (some 42) rfl rfl Try.func18 (by kernel_rfl) rfl #[.slice Ao22 t522.length co22, .slice Ao23 t528.length co23] rfl (by (try simp only [List.map_toArray, List.map_cons, List.map_nil]); first | done | rfl) ?_; (with_reducible refine (peristyleref07_Same.calls k _ _ t522 _ _ t528 true _ ?side1 ?side2 ?side3 ?side4 A13.out).mono ?_); (case side1 => exact cx (Kd.R_reads' HO525.out).2.2); (case side2 => exact (Kd.R_reads' HO525.out).2.1); (case side3 => exact cx (Kd.R_reads' HO531.out).2.2); (case side4 => exact (Kd.R_reads' HO531.out).2.1); rintro e w' ⟨rfl, ⟨nd, rfl⟩⟩; refine ⟨_, rfl, ?_⟩; obtain ⟨Ao24, co24, eo24⟩ := Kd.R_slice HO527.out; subst eo24; obtain ⟨Ao25, co25, eo25⟩ := Kd.R_slice HO533.out; subst eo25) | (go_at_call 14; (with_reducible refine (peristyleref01_Same.calls k _ _ t523 _ _ t529 true _ ?side1 ?side2 ?side3 ?side4 A15.out).mono ?_); (case side1 => exact cx (Kd.R_reads' HO527.out).2.2); (case side2 => exact (Kd.R_reads' HO527.out).2.1); (case side3 => exact cx (Kd.R_reads' HO533.out).2.2); (case side4 => exact (Kd.R_reads' HO533.out).2.1); rintro e w' ⟨rfl, ⟨nd, rfl⟩⟩; (try clear A15)))
      go_meet
      case rel => exact ⟨_, (true), (by first | rfl | (simp; done) | (simp [*]; done)), H', ⟨by first | omega | exact Nat.le_refl _⟩, ⟨by (with_reducible repeat (first | apply Kd.R_alloc | apply Kd.R_drewN | apply Kd.R_drew)); exact Kd.R_mono HO525.out (fun _ hk => trivial)⟩, ⟨by (with_reducible repeat (first | apply Kd.R_alloc | apply Kd.R_drewN | apply Kd.R_drew)); exact Kd.R_mono HO527.out (fun _ hk => trivial)⟩, ⟨bh HB.out⟩⟩
    ·replace c16 := Bool.eq_false_iff.mpr c16
     subst c16
     have H1 : (peristylelaw11_DictTexts.j0 k l0 t522 t523 t534 t535 true) = some r := by rw [if_neg (show ¬ (false = true) by decide)] at H; exact H
     clear H
     have H := H1
     clear H1
     have H' := Aside0.mk H
     clear H
     obtain ⟨Ao26, co26, eo26⟩ := Kd.R_slice HO525.out
     subst eo26
     obtain ⟨Ao27, co27, eo27⟩ := Kd.R_slice HO531.out
     subst eo27
     go_wp2_with (first | ((with_reducible refine gate_callee (f := 18) rfl ?_); refine goesL_ (some 42) rfl rfl Try.func18 (by kernel_rfl) rfl #[.slice Ao26 t522.length co26, .slice Ao27 t528.length co27] rfl (by (try simp only [List.map_toArray, List.map_cons, List.map_nil]); first | done | rfl) ?_; (with_reducible refine (peristyleref07_Same.calls k _ _ t522 _ _ t528 true _ ?side1 ?side2 ?side3 ?side4 A13.out).mono ?_); (case side1 => exact cx (Kd.R_reads' HO525.out).2.2); (case side2 => exact (Kd.R_reads' HO525.out).2.1); (case side3 => exact cx (Kd.R_reads' HO531.out).2.2); (case side4 => exact (Kd.R_reads' HO531.out).2.1); rintro e w' ⟨rfl, ⟨nd, rfl⟩⟩; refine ⟨_, rfl, ?_⟩; obtain ⟨Ao28, co28, eo28⟩ := Kd.R_slice HO527.out; subst eo28; obtain ⟨Ao29, co29, eo29⟩ := Kd.R_slice HO533.out; subst eo29) | (go_at_call 14; (with_reducible refine (peristyleref01_Same.calls k _ _ t523 _ _ t529 false _ ?side1 ?side2 ?side3 ?side4 A15.out).mono ?_); (case side1 => exact cx (Kd.R_reads' HO527.out).2.2); (case side2 => exact (Kd.R_reads' HO527.out).2.1); (case side3 => exact cx (Kd.R_reads' HO533.out).2.2); (case side4 => exact (Kd.R_reads' HO533.out).2.1); rintro e w' ⟨rfl, ⟨nd, rfl⟩⟩; (try clear A15)))
     go_meet
     case rel => exact ⟨_, (true), (by first | rfl | (simp; done) | (simp [*]; done)), H', ⟨by first | omega | exact Nat.le_refl _⟩, ⟨by (with_reducible repeat (first | apply Kd.R_alloc | apply Kd.R_drewN | apply Kd.R_drew)); exact Kd.R_mono HO525.out (fun _ hk => trivial)⟩, ⟨by (with_reducible repeat (first | apply Kd.R_alloc | apply Kd.R_drewN | apply Kd.R_drew)); exact Kd.R_mono HO527.out (fun _ hk => trivial)⟩, ⟨bh HB.out⟩⟩
   ·replace c14 := Bool.eq_false_iff.mpr c14
    subst c14
    have H1 : (peristylelaw11_DictTexts.j0 k l0 t522 t523 t534 t535 true) = some r := by rw [if_neg (show ¬ (false = true) by decide)] at H; exact H
    clear H
    have H := H1
    clear H1
    have H' := Aside0.mk H
    clear H
    obtain ⟨Ao30, co30, eo30⟩ := Kd.R_slice HO525.out
    subst eo30
    obtain ⟨Ao31, co31, eo31⟩ := Kd.R_slice HO531.out
    subst eo31
    go_wp2_with (first | ((with_reducible refine gate_callee (f := 18) rfl ?_); refine goesL_ (some 42) rfl rfl Try.func18 (by kernel_rfl) rfl #[.slice Ao30 t522.length co30, .slice Ao31 t528.length co31] rfl (by (try simp only [List.map_toArray, List.map_cons, List.map_nil]); first | done | rfl) ?_; (with_reducible refine (peristyleref07_Same.calls k _ _ t522 _ _ t528 false _ ?side1 ?side2 ?side3 ?side4 A13.out).mono ?_); (case side1 => exact cx (Kd.R_reads' HO525.out).2.2); (case side2 => exact (Kd.R_reads' HO525.out).2.1); (case side3 => exact cx (Kd.R_reads' HO531.out).2.2); (case side4 => exact (Kd.R_reads' HO531.out).2.1); rintro e w' ⟨rfl, ⟨nd, rfl⟩⟩; refine ⟨_, rfl, ?_⟩))
    go_meet
    case rel => exact ⟨_, (true), (by first | rfl | (simp; done) | (simp [*]; done)), H', ⟨by first | omega | exact Nat.le_refl _⟩, ⟨by (with_reducible repeat (first | apply Kd.R_alloc | apply Kd.R_drewN | apply Kd.R_drew)); exact Kd.R_mono HO525.out (fun _ hk => trivial)⟩, ⟨by (with_reducible repeat (first | apply Kd.R_alloc | apply Kd.R_drewN | apply Kd.R_drew)); exact Kd.R_mono HO527.out (fun _ hk => trivial)⟩, ⟨bh HB.out⟩⟩
  case rest =>
   clear HC8
   try clear c3
   try clear c14
   try clear c16
   try clear c17
   try clear c17b0
   try clear c17b1
   obtain ⟨kq, x59_7, rfl, HA, HJ7, HO_3, HO_4, HB⟩ := hcut
   cases kq with
   | zero => exact absurd HA.out (by simp [peristylelaw11_DictTexts.j0])
   | succ kj7 =>
    have H := HA.out
    clear HA
    simp only [peristylelaw11_DictTexts.j0] at H
    by_cases c32 : x59_7 = true
    ·subst c32
     have H1 : (some false) = some r := by rw [if_pos rfl] at H; exact H
     clear H
     have H := H1
     clear H1
     obtain rfl := Option.some.inj H
     go_wp2
     go_ret
     exact ⟨er, bh HB.out⟩
    ·replace c32 := Bool.eq_false_iff.mpr c32
     subst c32
     have H1 : ((dict_TakeTexts.f kj7 t534 (l0.length : Int)).bind fun bt540 => ((dict_Places.f kj7 t534 (l0.length : Int)).bind fun bt544 => (if t535 = 0 then (if bt540.2 = 0 then (if bt544.2.2 = 0 then ((peristyleref07_Same.f kj7 bt540.1 l0).bind fun t551 => (if t551 = true then ((peristyleref07_Same.f kj7 bt544.1 t522).bind fun t552 => (if t552 = true then ((peristyleref01_Same.f kj7 bt544.2.1 t523).bind fun t553 => (if t553 = true then ((peristylelaw11_awake.f kj7).bind fun t554 => (some t554)) else (none))) else (none))) else (none))) else (none)) else (none)) else ((peristylelaw11_awake.f kj7).bind fun t555 => (some t555))))) = some r := by rw [if_neg (show ¬ (false = true) by decide)] at H; exact H
     clear H
     have H := H1
     clear H1
     replace H := Option.bind_eq_some_iff.mp H
     obtain ⟨⟨t540, t541⟩, A330, H⟩ := H
     replace H : ((dict_Places.f kj7 t534 (l0.length : Int)).bind fun bt544 => (if t535 = 0 then (if t541 = 0 then (if bt544.2.2 = 0 then ((peristyleref07_Same.f kj7 t540 l0).bind fun t551 => (if t551 = true then ((peristyleref07_Same.f kj7 bt544.1 t522).bind fun t552 => (if t552 = true then ((peristyleref01_Same.f kj7 bt544.2.1 t523).bind fun t553 => (if t553 = true then ((peristylelaw11_awake.f kj7).bind fun t554 => (some t554)) else (none))) else (none))) else (none))) else (none)) else (none)) else ((peristylelaw11_awake.f kj7).bind fun t555 => (some t555)))) = some r := H
     have A33 := Aside0.mk A330
     clear A330
     replace H := Option.bind_eq_some_iff.mp H
     obtain ⟨⟨t544, t545, t546⟩, A340, H⟩ := H
     replace H : (if t535 = 0 then (if t541 = 0 then (if t546 = 0 then ((peristyleref07_Same.f kj7 t540 l0).bind fun t551 => (if t551 = true then ((peristyleref07_Same.f kj7 t544 t522).bind fun t552 => (if t552 = true then ((peristyleref01_Same.f kj7 t545 t523).bind fun t553 => (if t553 = true then ((peristylelaw11_awake.f kj7).bind fun t554 => (some t554)) else (none))) else (none))) else (none))) else (none)) else (none)) else ((peristylelaw11_awake.f kj7).bind fun t555 => (some t555))) = some r := H
     have A34 := Aside0.mk A340
     clear A340
     by_cases c35 : t535 = 0
     ·rw [if_pos c35] at H
      have c35b0 : (t535 == 0) = true := beq_iff_eq.mpr c35
      have c35b1 : (t535 != 0) = false := bne_eq_false_iff_eq.mpr c35
      clear c35
      by_cases c36 : t541 = 0
      ·rw [if_pos c36] at H
       have c36b0 : (t541 == 0) = true := beq_iff_eq.mpr c36
       have c36b1 : (t541 != 0) = false := bne_eq_false_iff_eq.mpr c36
       clear c36
       by_cases c37 : t546 = 0
       ·rw [if_pos c37] at H
        have c37b0 : (t546 == 0) = true := beq_iff_eq.mpr c37
        have c37b1 : (t546 != 0) = false := bne_eq_false_iff_eq.mpr c37
        clear c37
        replace H := Option.bind_eq_some_iff.mp H
        obtain ⟨t551, A380, H⟩ := H
        replace H : (if t551 = true then ((peristyleref07_Same.f kj7 t544 t522).bind fun t552 => (if t552 = true then ((peristyleref01_Same.f kj7 t545 t523).bind fun t553 => (if t553 = true then ((peristylelaw11_awake.f kj7).bind fun t554 => (some t554)) else (none))) else (none))) else (none)) = some r := H
        have A38 := Aside0.mk A380
        clear A380
        by_cases c39 : t551 = true
        ·subst c39
         have H1 : ((peristyleref07_Same.f kj7 t544 t522).bind fun t552 => (if t552 = true then ((peristyleref01_Same.f kj7 t545 t523).bind fun t553 => (if t553 = true then ((peristylelaw11_awake.f kj7).bind fun t554 => (some t554)) else (none))) else (none))) = some r := by rw [if_pos rfl] at H; exact H
         clear H
         have H := H1
         clear H1
         replace H := Option.bind_eq_some_iff.mp H
         obtain ⟨t552, A400, H⟩ := H
         replace H : (if t552 = true then ((peristyleref01_Same.f kj7 t545 t523).bind fun t553 => (if t553 = true then ((peristylelaw11_awake.f kj7).bind fun t554 => (some t554)) else (none))) else (none)) = some r := H
         have A40 := Aside0.mk A400
         clear A400
         by_cases c41 : t552 = true
         ·subst c41
          have H1 : ((peristyleref01_Same.f kj7 t545 t523).bind fun t553 => (if t553 = true then ((peristylelaw11_awake.f kj7).bind fun t554 => (some t554)) else (none))) = some r := by rw [if_pos rfl] at H; exact H
          clear H
          have H := H1
          clear H1
          replace H := Option.bind_eq_some_iff.mp H
          obtain ⟨t553, A420, H⟩ := H
          replace H : (if t553 = true then ((peristylelaw11_awake.f kj7).bind fun t554 => (some t554)) else (none)) = some r := H
          have A42 := Aside0.mk A420
          clear A420
          by_cases c43 : t553 = true
          ·subst c43
           have H1 : ((peristylelaw11_awake.f kj7).bind fun t554 => (some t554)) = some r := by rw [if_pos rfl] at H; exact H
           clear H
           have H := H1
           clear H1
           replace H := Option.bind_eq_some_iff.mp H
           obtain ⟨t554, A440, H⟩ := H
           replace H : (some t554) = some r := H
           have A44 := Aside0.mk A440
           clear A440
           obtain rfl := Option.some.inj H
           go_wp2_with (first | ((with_reducible refine gate_callee (f := 19) rfl ?_); refine goesL_ (some 64) rfl rfl Try.func19 (by kernel_rfl) rfl #[.string t534, .int .i64 (l0.length : Int)] rfl (by (try simp only [List.map_toArray, List.map_cons, List.map_nil]); first | done | rfl) ?_; (with_reducible refine (dict_TakeTexts.calls kj7 t534 (l0.length : Int) t540 t541 _ A33.out).mono ?_); rintro e w45 ⟨v542, rfl, ho0, hb⟩; refine ⟨_, rfl, ?_⟩; replace HO_4 := rba HO_4 hb; have HO543 := Aside0.mk (Kd.R_lower (Kd.R_new' ho0 (Kd.R_lt (rx HO_3.out))) (below_size (bh HB.out))); replace HO_3 := Aside0.mk (Kd.R_elder' (rx HO_3.out) (Kd.R_base ho0) hb); replace HB := bsa HB hb; (try clear hb); (try clear ho0)) | ((with_reducible refine gate_callee (f := 20) rfl ?_); refine goesL_ (some 71) rfl rfl Try.func20 (by kernel_rfl) rfl #[.string t534, .int .i64 (l0.length : Int)] rfl (by (try simp only [List.map_toArray, List.map_cons, List.map_nil]); first | done | rfl) ?_; (with_reducible refine (dict_Places.calls kj7 t534 (l0.length : Int) t544 t545 t546 _ A34.out).mono ?_); rintro e w46 ⟨v547, v549, rfl, ho0, ho1, hb⟩; refine ⟨_, rfl, ?_⟩; have HO548 := Aside0.mk (Kd.R_lower (Kd.R_new' (Kd.R_new' ho0 (Kd.R_lt (rx HO_3.out))) (Kd.R_lt (rx HO543.out))) (below_size (bh HB.out))); replace HO_3 := Aside0.mk (Kd.R_elder' (rx HO_3.out) (Kd.R_base ho0) hb); replace HO543 := Aside0.mk (Kd.R_elder' (rx HO543.out) (Kd.R_base ho0) hb); have HO550 := Aside0.mk (Kd.R_lower (Kd.R_new' ho1 (Kd.R_lt (rx HO_4.out))) (below_size (bh HB.out))); replace HO_4 := Aside0.mk (Kd.R_elder' (rx HO_4.out) (Kd.R_base ho1) hb); replace HB := bsa HB hb; (try clear hb); (try clear ho0); (try clear ho1); obtain ⟨Ao47, co47, eo47⟩ := Kd.R_slice HO543.out; subst eo47) | (go_at_call 18; (with_reducible refine (peristyleref07_Same.calls kj7 _ _ t540 _ _ l0 true _ ?side1 ?side2 ?side3 ?side4 A38.out).mono ?_); (case side1 => exact cx (Kd.R_reads' HO543.out).2.2); (case side2 => exact (Kd.R_reads' HO543.out).2.1); (case side3 => exact cx (Kd.C_below HR0.out HB.out)); (case side4 => exact HC0.out); rintro e w' ⟨rfl, ⟨nd, rfl⟩⟩; (try clear A38); obtain ⟨Ao48, co48, eo48⟩ := Kd.R_slice HO548.out; subst eo48; obtain ⟨Ao49, co49, eo49⟩ := Kd.R_slice HO_3.out; subst eo49) | (go_at_call 18; (with_reducible refine (peristyleref07_Same.calls kj7 _ _ t544 _ _ t522 true _ ?side1 ?side2 ?side3 ?side4 A40.out).mono ?_); (case side1 => exact cx (Kd.R_reads' HO548.out).2.2); (case side2 => exact (Kd.R_reads' HO548.out).2.1); (case side3 => exact cx (Kd.R_reads' HO_3.out).2.2); (case side4 => exact (Kd.R_reads' HO_3.out).2.1); rintro e w' ⟨rfl, ⟨nd, rfl⟩⟩; (try clear A40); obtain ⟨Ao50, co50, eo50⟩ := Kd.R_slice HO550.out; subst eo50; obtain ⟨Ao51, co51, eo51⟩ := Kd.R_slice HO_4.out; subst eo51) | (go_at_call 14; (with_reducible refine (peristyleref01_Same.calls kj7 _ _ t545 _ _ t523 true _ ?side1 ?side2 ?side3 ?side4 A42.out).mono ?_); (case side1 => exact cx (Kd.R_reads' HO550.out).2.2); (case side2 => exact (Kd.R_reads' HO550.out).2.1); (case side3 => exact cx (Kd.R_reads' HO_4.out).2.2); (case side4 => exact (Kd.R_reads' HO_4.out).2.1); rintro e w' ⟨rfl, ⟨nd, rfl⟩⟩; (try clear A42)) | (go_at_call 7; (with_reducible refine (peristylelaw11_awake.calls kj7  t554 _ A44.out).mono ?_); rintro e w52 ⟨rfl, hb⟩; replace HO_3 := rba HO_3 hb; replace HO_4 := rba HO_4 hb; replace HO543 := rba HO543 hb; replace HO548 := rba HO548 hb; replace HO550 := rba HO550 hb; replace HB := bsa HB hb; (try clear hb); (try clear A44)))
           go_ret
           exact ⟨er, bh HB.out⟩
          ·replace c43 := Bool.eq_false_iff.mpr c43
           subst c43
           have H1 : (none) = some r := by rw [if_neg (show ¬ (false = true) by decide)] at H; exact H
           clear H
           have H := H1
           clear H1
           exact absurd H (by simp)
         ·replace c41 := Bool.eq_false_iff.mpr c41
          subst c41
          have H1 : (none) = some r := by rw [if_neg (show ¬ (false = true) by decide)] at H; exact H
          clear H
          have H := H1
          clear H1
          exact absurd H (by simp)
        ·replace c39 := Bool.eq_false_iff.mpr c39
         subst c39
         have H1 : (none) = some r := by rw [if_neg (show ¬ (false = true) by decide)] at H; exact H
         clear H
         have H := H1
         clear H1
         exact absurd H (by simp)
       ·rw [if_neg c37] at H
        exact absurd H (by simp)
      ·rw [if_neg c36] at H
       exact absurd H (by simp)
     ·rw [if_neg c35] at H
      have c35b0 : (t535 == 0) = false := beq_eq_false_iff_ne.mpr c35
      have c35b1 : (t535 != 0) = true := bne_iff_ne.mpr c35
      replace H := Option.bind_eq_some_iff.mp H
      obtain ⟨t555, A530, H⟩ := H
      replace H : (some t555) = some r := H
      have A53 := Aside0.mk A530
      clear A530
      obtain rfl := Option.some.inj H
      go_wp2_with (first | ((with_reducible refine gate_callee (f := 19) rfl ?_); refine goesL_ (some 64) rfl rfl Try.func19 (by kernel_rfl) rfl #[.string t534, .int .i64 (l0.length : Int)] rfl (by (try simp only [List.map_toArray, List.map_cons, List.map_nil]); first | done | rfl) ?_; (with_reducible refine (dict_TakeTexts.calls kj7 t534 (l0.length : Int) t540 t541 _ A33.out).mono ?_); rintro e w54 ⟨v542, rfl, ho0, hb⟩; refine ⟨_, rfl, ?_⟩; replace HO_4 := rba HO_4 hb; have HO543 := Aside0.mk (Kd.R_lower (Kd.R_new' ho0 (Kd.R_lt (rx HO_3.out))) (below_size (bh HB.out))); replace HO_3 := Aside0.mk (Kd.R_elder' (rx HO_3.out) (Kd.R_base ho0) hb); replace HB := bsa HB hb; (try clear hb); (try clear ho0)) | ((with_reducible refine gate_callee (f := 20) rfl ?_); refine goesL_ (some 71) rfl rfl Try.func20 (by kernel_rfl) rfl #[.string t534, .int .i64 (l0.length : Int)] rfl (by (try simp only [List.map_toArray, List.map_cons, List.map_nil]); first | done | rfl) ?_; (with_reducible refine (dict_Places.calls kj7 t534 (l0.length : Int) t544 t545 t546 _ A34.out).mono ?_); rintro e w55 ⟨v547, v549, rfl, ho0, ho1, hb⟩; refine ⟨_, rfl, ?_⟩; have HO548 := Aside0.mk (Kd.R_lower (Kd.R_new' (Kd.R_new' ho0 (Kd.R_lt (rx HO_3.out))) (Kd.R_lt (rx HO543.out))) (below_size (bh HB.out))); replace HO_3 := Aside0.mk (Kd.R_elder' (rx HO_3.out) (Kd.R_base ho0) hb); replace HO543 := Aside0.mk (Kd.R_elder' (rx HO543.out) (Kd.R_base ho0) hb); have HO550 := Aside0.mk (Kd.R_lower (Kd.R_new' ho1 (Kd.R_lt (rx HO_4.out))) (below_size (bh HB.out))); replace HO_4 := Aside0.mk (Kd.R_elder' (rx HO_4.out) (Kd.R_base ho1) hb); replace HB := bsa HB hb; (try clear hb); (try clear ho0); (try clear ho1)) | (go_at_call 7; (with_reducible refine (peristylelaw11_awake.calls kj7  t555 _ A53.out).mono ?_); rintro e w56 ⟨rfl, hb⟩; replace HO_3 := rba HO_3 hb; replace HO_4 := rba HO_4 hb; replace HO543 := rba HO543 hb; replace HO548 := rba HO548 hb; replace HO550 := rba HO550 hb; replace HB := bsa HB hb; (try clear hb); (try clear A53)))
      go_ret
      exact ⟨er, bh HB.out⟩
 ·replace c3 := Bool.eq_false_iff.mpr c3
  subst c3
  have H1 : ((peristylelaw11_awake.f k).bind fun t521 => (some t521)) = some r := by rw [if_neg (show ¬ (false = true) by decide)] at H; exact H
  clear H
  have H := H1
  clear H1
  replace H := Option.bind_eq_some_iff.mp H
  obtain ⟨t521, A570, H⟩ := H
  replace H : (some t521) = some r := H
  have A57 := Aside0.mk A570
  clear A570
  obtain rfl := Option.some.inj H
  go_enter Try.func5, Try.ntmps5
  go_wp2_with (first | ((with_reducible refine gate_callee (f := 6) rfl ?_); refine goesL_ (some 17) rfl rfl Try.func6 (by kernel_rfl) rfl #[.slice A0 l0.length c0, .int .i64 60] rfl (by (try simp only [List.map_toArray, List.map_cons, List.map_nil]); first | done | rfl) ?_; (with_reducible refine (peristyleref07_Few.calls k _ _ l0 60 false _ ?side1 ?side2 A2.out).mono ?_); (case side1 => exact cx HR0.out); (case side2 => exact HC0.out); rintro e w' ⟨rfl, ⟨nd, rfl⟩⟩; refine ⟨_, rfl, ?_⟩) | ((with_reducible refine gate_callee (f := 7) rfl ?_); refine goesL_ (some 19) rfl rfl Try.func7 (by kernel_rfl) rfl #[] rfl (by (try simp only [List.map_toArray, List.map_cons, List.map_nil]); first | done | rfl) ?_; (with_reducible refine (peristylelaw11_awake.calls k  t521 _ A57.out).mono ?_); rintro e w58 ⟨rfl, hb⟩; refine ⟨_, rfl, ?_⟩; replace HB := bsa HB hb; (try clear hb)))
  go_ret
  exact ⟨er, bh HB.out⟩
def peristylelaw11_DictTexts.Pure : Prop := ∀ (l0 : List ByteArray), (fun l : List ByteArray => l.length ≤ maxLen ∧ l.length * 16 ≤ 140737488351232 ∧ ∀ x ∈ l, (fun s : ByteArray => s.size ≤ 140737488351232) x) l0 → ∃ k, peristylelaw11_DictTexts.f k l0 = some true
theorem peristylelaw11_DictTexts.walk (P : peristylelaw11_DictTexts.Pure) (A0 : Option Addr) (c0 : Nat) (l0 : List ByteArray) (w : World) (hr0 : Kd.C Kd.string w A0 l0.length l0) (hc0 : l0.length ≤ c0) (w0 : (fun l : List ByteArray => l.length ≤ maxLen ∧ l.length * 16 ≤ 140737488351232 ∧ ∀ x ∈ l, (fun s : ByteArray => s.size ≤ 140737488351232) x) l0) :
  Calls Try.prog 5 #[.slice A0 l0.length c0] w fun e w' => e = .returned (.bool true) ∧ Below w.heap.size w w' := by
 obtain ⟨k, h⟩ := P l0 w0
 refine (peristylelaw11_DictTexts.calls k _ _ l0 true w hr0 hc0 h).mono ?_
 rintro e w' ⟨rfl, hd⟩
 exact ⟨rfl, hd⟩
end Go.Proofs.Ytfohecpfenegkaa.Print
end
