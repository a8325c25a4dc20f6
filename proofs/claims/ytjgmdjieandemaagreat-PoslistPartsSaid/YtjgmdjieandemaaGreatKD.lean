-- Functions and laws: texts of the session's own and of the kit's print program, joined; what nothing names is left out.
import Derived.Test.YtjgmdjieandemaaGreatKA
import Derived.Test.YtjgmdjieandemaaGreatKW
import Derived.Test.YtjgmdjieandemaaGreatKB
import Derived.Test.YtjgmdjieandemaaGreatKR
import Derived.Test.YtjgmdjieandemaaGreatKC
section
namespace Go.Proofs.YtjgmdjieandemaaGreat.Print
open Go.RowKit Go.Proofs.YtjgmdjieandemaaGreatW.PrintWords Go.Proofs.YtjgmdjieandemaaGreatW.PrintLast Go.Proofs.YtjgmdjieandemaaGreatW.PrintMore
attribute [local go_sem] max2_int min2_int max_two min_two max_three min_three max_four min_four   -- for this text's walks alone
set_option linter.unusedVariables false
set_option linter.unusedSimpArgs false
/-! ### peristyleref01_Same: function 40 -/
def peristyleref01_Same.l0 : Nat → List Int → List Int → Int → Option (Bool)
 | 0, _, _, _ => none
 | k + 1, x0, x1, x5 => if x5 < (x0.length : Int) then (if 0 ≤ x5 then (if x5 < (x1.length : Int) then (if (rd x0 x5) = (rd x1 x5) then (peristyleref01_Same.l0 k x0 x1 (wrap64 (x5 + 1))) else (some false)) else (none)) else (none)) else (some true)
def peristyleref01_Same.f (k : Nat) (l0 : List Int) (l1 : List Int) : Option (Bool) := if (l0.length : Int) = (l1.length : Int) then (peristyleref01_Same.l0 k l0 l1 0) else (some false)
theorem peristyleref01_Same.l0_succ (k) (a0) (a1) (a2) : type_of% (@peristyleref01_Same.l0.eq_2 a0 a1 a2 k) := peristyleref01_Same.l0.eq_2 a0 a1 a2 k
set_option maxHeartbeats 8000000 in
set_option maxRecDepth 100000 in
theorem peristyleref01_Same.calls (k : Nat) (A0 : Option Addr) (c0 : Nat) (l0 : List Int) (A1 : Option Addr) (c1 : Nat) (l1 : List Int) (r : Bool) (w : World) (hr0 : Kd.C (Kd.int .i64) w A0 l0.length l0) (hc0 : l0.length ≤ c0) (hr1 : Kd.C (Kd.int .i64) w A1 l1.length l1) (hc1 : l1.length ≤ c1) (h : peristyleref01_Same.f k l0 l1 = some r) :
  Calls Tryz.prog 40 #[.slice A0 l0.length c0, .slice A1 l1.length c1] w fun e w' => e = .returned (.bool r) ∧ Drawn0 w w' := by
 have HR0 := Aside0.mk hr0
 have HC0 := Aside0.mk hc0
 clear hr0 hc0
 have HR1 := Aside0.mk hr1
 have HC1 := Aside0.mk hc1
 clear hr1 hc1
 have H := h
 clear h
 unfold peristyleref01_Same.f at H
 replace H := ife H
 rcases H with ⟨c3, c3b0, c3b1, H⟩ | ⟨c3, c3b0, c3b1, H⟩
 ·have c3b2 : (l0.length == l1.length) = true := by (simp at c3 ⊢; omega)
  clear c3
  have H' := Aside0.mk H
  clear H
  go_enter Tryz.func40, Tryz.ntmps40
  go_wp2
  repeat (go_quiet (fail))
  go_loopg [5] k (fun kq v5 w' => ∃ (x5_1 : Int), v5 = .int .i64 x5_1 ∧ Aside0 (peristyleref01_Same.l0 kq l0 l1 x5_1 = some r) ∧ Aside0 (kq ≤ k) ∧ Drawn0 w w')
  case atStart => exact ⟨(0), (by rfl), H', ⟨Nat.le_refl _⟩, by repeat (exact Drawn0.refl _)⟩
  case round =>
   clear H' c3b0 c3b1 c3b2
   obtain ⟨x5_1, rfl, HA, HK1, ⟨m1, rfl⟩⟩ := hrel
   cases gk with
   | zero => exact absurd HA.out (by simp [peristyleref01_Same.l0])
   | succ k1 =>
    have H := HA.out
    clear HA
    simp only [peristyleref01_Same.l0] at H
    replace H := ifd H
    rcases H with ⟨-, c4b0, H⟩ | ⟨-, c4b0, H⟩
    ·replace H := ifn H
     obtain ⟨-, c5b0, H⟩ := H
     replace H := ifn H
     obtain ⟨-, c6b0, H⟩ := H
     replace H := ife H
     rcases H with ⟨-, c7b0, c7b1, H⟩ | ⟨c7, c7b0, c7b1, H⟩
     ·have H' := Aside0.mk H
      clear H
      have p397 : 0 ≤ (x5_1 : Int) := ad
      have q397 : x5_1 < (l0.length : Int) := ad
      obtain ⟨ad397, e397, hx397_0⟩ := Kd.at_int HR0.out x5_1 p397 q397
      cases e397
      replace p397 := eq_true p397
      replace q397 := eq_true q397
      have p398 : 0 ≤ (x5_1 : Int) := ad
      have q398 : x5_1 < (l1.length : Int) := ad
      obtain ⟨ad398, e398, hx398_0⟩ := Kd.at_int HR1.out x5_1 p398 q398
      cases e398
      replace p398 := eq_true p398
      replace q398 := eq_true q398
      go_wp2
      repeat (go_quiet (fail); go_wp2)
      go_roundg k1
      case measure => have := HK1.out; omega
      case rel => exact ⟨(wrap64 (x5_1 + 1)), (by rfl), H', ⟨by have := HK1.out; omega⟩, by repeat (first | exact Drawn0.refl _ | apply Drawn0.step)⟩
     ·obtain rfl := Option.some.inj H
      have p397 : 0 ≤ (x5_1 : Int) := ad
      have q397 : x5_1 < (l0.length : Int) := ad
      obtain ⟨ad397, e397, hx397_0⟩ := Kd.at_int HR0.out x5_1 p397 q397
      cases e397
      replace p397 := eq_true p397
      replace q397 := eq_true q397
      have p398 : 0 ≤ (x5_1 : Int) := ad
      have q398 : x5_1 < (l1.length : Int) := ad
      obtain ⟨ad398, e398, hx398_0⟩ := Kd.at_int HR1.out x5_1 p398 q398
      cases e398
      replace p398 := eq_true p398
      replace q398 := eq_true q398
      go_wp2
      repeat (go_quiet (fail); go_wp2)
      go_ret
      exact ⟨by rfl, by repeat (first | exact Drawn0.refl _ | apply Drawn0.step)⟩
    ·obtain rfl := Option.some.inj H
     go_wp2
     repeat (go_quiet (fail))
     go_ret
     exact ⟨by rfl, by repeat (first | exact Drawn0.refl _ | apply Drawn0.step)⟩
 ·have c3b2 : (l0.length == l1.length) = false := by (simp at c3 ⊢; omega)
  obtain rfl := Option.some.inj H
  go_enter Tryz.func40, Tryz.ntmps40
  go_wp2
  repeat (go_quiet (fail))
  go_ret
  exact ⟨by rfl, by repeat (exact Drawn0.refl _)⟩
/-! ### poslist_List_Less_1: function 61 (a contract of the session's own) -/
def poslist_List_Less_1.f (k : Nat) (a0_0 : Int) (l0_1 : List (S64)) (l0_2 : List Int) (l0_3 : List Int) (a1 : Int) : Option Bool := (poslist_List_Has.f k a0_0 l0_1 l0_2 l0_3 a1).bind fun t => some (!t)
set_option maxHeartbeats 8000000 in
set_option maxRecDepth 100000 in
theorem poslist_List_Less_1.calls (k : Nat) (a0_0 : Int) (A0_1 : Option Addr) (c0_1 : Nat) (l0_1 : List (S64)) (A0_2 : Option Addr) (c0_2 : Nat) (l0_2 : List Int) (A0_3 : Option Addr) (c0_3 : Nat) (l0_3 : List Int) (a1 : Int) (t : Bool) (g : Nat) (w : World) (hg : w.heap[g]? = some (.cells #[.int .i64 a0_0, .slice A0_1 l0_1.length c0_1, .slice A0_2 l0_2.length c0_2, .slice A0_3 l0_3.length c0_3] 27 (0, 0))) (hr0_1 : Kd.C k64 w A0_1 l0_1.length l0_1) (hc0_1 : l0_1.length ≤ c0_1) (hr0_2 : Kd.C (Kd.int .i64) w A0_2 l0_2.length l0_2) (hc0_2 : l0_2.length ≤ c0_2) (hr0_3 : Kd.C (Kd.int .i64) w A0_3 l0_3.length l0_3) (hc0_3 : l0_3.length ≤ c0_3) (h : poslist_List_Has.f k a0_0 l0_1 l0_2 l0_3 a1 = some t) :
    Calls Tryz.prog 61 #[.int .i64 a1, .pointer (some ⟨g, 0, none⟩)] w fun e w' => e = .returned (.bool (!t)) ∧ Below w.heap.size w w' := by
 have hu27 := Tryz.underlying27
 have HR0_1 := Aside0.mk hr0_1
 have HC0_1 := Aside0.mk hc0_1
 clear hr0_1 hc0_1
 have HR0_2 := Aside0.mk hr0_2
 have HC0_2 := Aside0.mk hc0_2
 clear hr0_2 hc0_2
 have HR0_3 := Aside0.mk hr0_3
 have HC0_3 := Aside0.mk hc0_3
 clear hr0_3 hc0_3
 have HB := Aside0.mk (Below.refl w.heap.size w)
 have H1 := Aside0.mk h
 clear h
 have c0 : w.cell? ⟨g, 0, none⟩ = some (.int .i64 a0_0) := (blk_cell hg 0).trans rfl
 have c1 : w.cell? ⟨g, 1, none⟩ = some (.slice A0_1 l0_1.length c0_1) := (blk_cell hg 1).trans rfl
 have c2 : w.cell? ⟨g, 2, none⟩ = some (.slice A0_2 l0_2.length c0_2) := (blk_cell hg 2).trans rfl
 have c3 : w.cell? ⟨g, 3, none⟩ = some (.slice A0_3 l0_3.length c0_3) := (blk_cell hg 3).trans rfl
 go_enter Tryz.func61, Tryz.ntmps61
 go_wp2_with ((go_at_call 34; (with_reducible refine (poslist_List_Has.calls k _ _ _ _ _ _ _ _ _ _ a1 t _ ?a1 ?b1 ?a2 ?b2 ?a3 ?b3 H1.out).mono ?_); (case a1 => exact (Kd.C_below HR0_1.out HB.out)); (case b1 => exact HC0_1.out); (case a2 => exact (Kd.C_below HR0_2.out HB.out)); (case b2 => exact HC0_2.out); (case a3 => exact (Kd.C_below HR0_3.out HB.out)); (case b3 => exact HC0_3.out); rintro e w2 ⟨rfl, hb⟩; have n0_ := Aside0.mk (below_step HB.out hb); clear HB; have HB := n0_; clear n0_ hb))
 go_ret
 exact ⟨rfl, HB.out⟩
/-! ### words_Less_1: function 91 -/
def words_Less_1.f (a0 : Int) (a1 : Int) : Option (Int) := some (Go.bits .andNot .i64 a0 a1)
set_option maxHeartbeats 8000000 in
set_option maxRecDepth 100000 in
theorem words_Less_1.calls (a0 : Int) (a1 : Int) (r : Int) (w : World) (h : words_Less_1.f a0 a1 = some r) :
  Calls Tryz.prog 91 #[.int .i64 a0, .int .i64 a1] w fun e w' => e = .returned (.int .i64 r) ∧ Drawn0 w w' := by
 have H := h
 clear h
 unfold words_Less_1.f at H
 obtain rfl := Option.some.inj H
 go_enter Tryz.func91, Tryz.ntmps91
 go_wp2
 go_ret
 exact ⟨by rfl, by repeat (exact Drawn0.refl _)⟩
/-! ### words_both_fn91: function 85 -/
mutual
def words_both_fn91.j0 : Nat → List Int → List Int → Bool → Option (List Int × Int)
 | 0, _, _, _ => none
 | k + 1, x0, x1, x18 => if x18 = true then (some (([] : List Int), 1)) else (if 0 ≤ (mx (x0.length : Int) (x1.length : Int)) then (if (mx (x0.length : Int) (x1.length : Int) : Int).toNat ≤ 35184372088832 then ((some (List.replicate (mx (x0.length : Int) (x1.length : Int) : Int).toNat 0 : List Int)).bind fun y401 => (words_both_fn91.l0 k x0 x1 y401 (y401.length : Int) 0)) else (none)) else (none))
def words_both_fn91.l0 : Nat → List Int → List Int → List Int → Int → Int → Option (List Int × Int)
 | 0, _, _, _, _, _ => none
 | k + 1, x0, x1, x9, x26, x27 => if x27 < x26 then ((words_both_1.f x0 x27).bind fun t404 => ((words_both_1.f x1 x27).bind fun t405 => ((words_Less_1.f t404 t405).bind fun t406 => (if 0 ≤ x27 then (if x27 < (x9.length : Int) then (words_both_fn91.l0 k x0 x1 (x9.set (x27 : Int).toNat t406) x26 (wrap64 (x27 + 1))) else (none)) else (none))))) else ((words_trimmed.f k x9).bind fun t408 => (some (t408, 0)))
end
def words_both_fn91.f (k : Nat) (l0 : List Int) (l1 : List Int)  : Option (List Int × Int) := (words_May.f l0).bind fun t399 => (if t399 = true then ((words_May.f l1).bind fun t400 => (words_both_fn91.j0 k l0 l1 (!t400))) else (words_both_fn91.j0 k l0 l1 true))
theorem words_both_fn91.j0_succ (k) (a0) (a1) (a2) : type_of% (@words_both_fn91.j0.eq_2 a0 a1 a2 k) := words_both_fn91.j0.eq_2 a0 a1 a2 k
theorem words_both_fn91.l0_succ (k) (a0) (a1) (a2) (a3) (a4) : type_of% (@words_both_fn91.l0.eq_2 a0 a1 a2 a3 a4 k) := words_both_fn91.l0.eq_2 a0 a1 a2 a3 a4 k
set_option maxHeartbeats 8000000 in
set_option maxRecDepth 100000 in
theorem words_both_fn91.calls (k : Nat) (A0 : Option Addr) (c0 : Nat) (l0 : List Int) (A1 : Option Addr) (c1 : Nat) (l1 : List Int)  (r1 : List Int) (r2 : Int) (w : World) (hr0 : Kd.C (Kd.int .i64) w A0 l0.length l0) (hc0 : l0.length ≤ c0) (hr1 : Kd.C (Kd.int .i64) w A1 l1.length l1) (hc1 : l1.length ≤ c1) (h : words_both_fn91.f k l0 l1 = some (r1, r2)) :
  Calls Tryz.prog 85 #[.slice A0 l0.length c0, .slice A1 l1.length c1, .func (.func 91) #[] #[]] w fun e w' => ∃ v0_ : Value, e = .returned (.tuple #[v0_, .int .i64 r2]) ∧ Kd.V (Kd.int .i64) 3 w' w.heap.size (fun k_ => (w.heap.size ≤ k_)) v0_ r1 ∧ Below w.heap.size w w' := by
 have HR0 := Aside0.mk hr0
 have HC0 := Aside0.mk hc0
 clear hr0 hc0
 have HR1 := Aside0.mk hr1
 have HC1 := Aside0.mk hc1
 clear hr1 hc1
 have HB := Aside0.mk (Below.refl w.heap.size w)
 have H := h
 clear h
 unfold words_both_fn91.f at H
 have HC4 := Aside0.mk H
 clear H
 go_enter Tryz.func85, Tryz.ntmps85
 go_upto_region 1 with (fail)
 go_cut [18] (fun v18 wc => ∃ (kq : Nat) (x18_3 : Bool), v18 = .bool x18_3 ∧ Aside0 (words_both_fn91.j0 kq l0 l1 x18_3 = some (r1, r2)) ∧ Aside0 (kq ≤ k) ∧ Aside0 (Below w.heap.size w wc))
 case first =>
  have H := HC4.out
  clear HC4
  replace H := bd H
  obtain ⟨t399, A5, H⟩ := H
  replace H := ifb H
  rcases H with ⟨rfl, H⟩ | ⟨rfl, H⟩
  ·replace H := bd H
   obtain ⟨t400, A7, H⟩ := H
   have H' := Aside0.mk H
   clear H
   go_wp2_with (first | ((with_reducible refine gate_callee (f := 80) rfl ?_); refine gL 12 Tryz.func80 #[.slice A0 l0.length c0] ?_; (with_reducible refine (words_May.calls _ _ l0 true _ ?side1 ?side2 A5.out).mono ?_); (case side1 => exact cx (Kd.C_below HR0.out HB.out)); (case side2 => exact HC0.out); rintro e w' ⟨rfl, ⟨nd, rfl⟩⟩; refine ⟨_, rfl, ?_⟩) | (go_at_call 80; (with_reducible refine (words_May.calls _ _ l1 t400 _ ?side1 ?side2 A7.out).mono ?_); (case side1 => repeat (exact (Kd.C_below HR1.out (bh HB.out)))); (case side2 => exact HC1.out); rintro e w' ⟨rfl, ⟨nd, rfl⟩⟩; clear A7))
   go_meet
   case rel => exact ⟨_, (!t400), (by rfl), H', ⟨by omega⟩, ⟨bh HB.out⟩⟩
  ·have H' := Aside0.mk H
   clear H
   go_wp2_with (((with_reducible refine gate_callee (f := 80) rfl ?_); refine gL 12 Tryz.func80 #[.slice A0 l0.length c0] ?_; (with_reducible refine (words_May.calls _ _ l0 false _ ?side1 ?side2 A5.out).mono ?_); (case side1 => exact cx (Kd.C_below HR0.out HB.out)); (case side2 => exact HC0.out); rintro e w' ⟨rfl, ⟨nd, rfl⟩⟩; refine ⟨_, rfl, ?_⟩))
   go_meet
   case rel => exact ⟨_, (true), (by rfl), H', ⟨by omega⟩, ⟨bh HB.out⟩⟩
 case rest =>
  clear HC4
  obtain ⟨kq, x18_3, rfl, HA, HJ3, HB⟩ := hcut
  cases kq with
  | zero => exact absurd HA.out (by simp [words_both_fn91.j0])
  | succ kj3 =>
   have H := HA.out
   clear HA
   simp only [words_both_fn91.j0] at H
   replace H := ifb H
   rcases H with ⟨rfl, H⟩ | ⟨rfl, H⟩
   ·simp only [Option.some.injEq, Prod.mk.injEq] at H
    obtain ⟨rfl, rfl⟩ := H
    go_wp2
    go_ret2
    exact ⟨_, er, Kd.V_nil _ _ _ _ _, bh HB.out⟩
   ·obtain ⟨ji9, hji9⟩ : ∃ j_ : Int, (mx (l0.length : Int) (l1.length : Int)) = j_ := ⟨_, rfl⟩
    replace H : (if 0 ≤ (ji9) then (if (ji9 : Int).toNat ≤ 35184372088832 then ((some (List.replicate (ji9 : Int).toNat 0 : List Int)).bind fun y401 => (words_both_fn91.l0 kj3 l0 l1 y401 (y401.length : Int) 0)) else (none)) else (none)) = some (r1, r2) := by (rw [hji9] at H; exact H)
    have hji9_ : (if (l0.length : Int) < (l1.length : Int) then (l1.length : Int) else (l0.length : Int)) = ji9 := hji9
    have hji9n_ := hji9_
    (simp only [Int.ofNat_lt] at hji9n_)
    replace H := ifn H
    obtain ⟨c10, -, H⟩ := H
    have c10b0 := eq_true c10
    have c10b1 : decide (0 ≤ (ji9)) = true := decide_eq_true c10
    clear c10
    replace H := ifn H
    obtain ⟨c11, -, H⟩ := H
    have c11b0 := eq_true c11
    have c11b1 : decide ((ji9 : Int).toNat ≤ 35184372088832) = true := decide_eq_true c11
    clear c11
    obtain ⟨y401, hy401⟩ : ∃ y_ : List Int, y_ = (List.replicate (ji9 : Int).toNat 0) := ⟨_, rfl⟩
    replace H : (words_both_fn91.l0 kj3 l0 l1 y401 (y401.length : Int) 0) = some (r1, r2) := by (have H2_ := (Option.bind_some _ _).symm.trans H; rw [hy401]; with_reducible exact H2_)
    have Ny401 := Aside0.mk hy401
    clear hy401
    have H' := Aside0.mk H
    clear H
    go_wp2_with (((with_reducible refine gate_dst (N := 24) rfl ?_); refine Kd.R_make (Kd.int .i64) _ 3 rfl (N := 24) rfl 25 _ _ rfl ji9 (by rfl) (by rfl) Tryz.underlying25 (.int .i64 0) 8 info3 rfl (by decide) (by omega) 0 (ok := fun _ => True) (okp := fun _ => True) rfl (fun _ hk => hk) trivial (of_decide_eq_true (by assumption)) (Nat.le_trans (Nat.mul_le_mul_right _ (of_decide_eq_true (by assumption) : ji9.toNat ≤ 35184372088832)) (by omega)) (Below.refl _ _) (Nat.le_refl _) ?_; intro v402 w12 ho13 hb hg_ hnew_; clear hg_ hnew_; (rw [← Ny401.out] at ho13); have HO403 := Aside0.mk (Kd.R_lower (Kd.R_newM (M := fun k_ => (w.heap.size ≤ k_)) ho13 (below_size (bh HB.out)) (fun k_ h_ => h_)) (below_size (bh HB.out))); replace HB := bsa HB hb; clear hb ho13; obtain ⟨Ao14, co14, eo14⟩ := Kd.R_slice HO403.out; subst eo14))
    go_loopg [27] kj3 (fun kq v27 w' => ∃ (x9_2 : List Int) (x27_2 : Int), v27 = .int .i64 x27_2 ∧ Aside0 (words_both_fn91.l0 kq l0 l1 x9_2 (y401.length : Int) x27_2 = some (r1, r2)) ∧ Aside0 (kq ≤ kj3) ∧ Aside0 (Kd.R (Kd.int .i64) 3 w' w.heap.size (fun k_ => (w.heap.size ≤ k_)) (.slice Ao14 y401.length co14) x9_2) ∧ Aside0 (Below w.heap.size w w'))
    case atStart => exact ⟨(y401), (0), (by rfl), H', ⟨Nat.le_refl _⟩, ⟨by exact Kd.R_mono HO403.out (fun _ hk => hk.1)⟩, ⟨bh HB.out⟩⟩
    case round =>
     clear H' c10b0 c10b1 c11b0 c11b1
     obtain ⟨x9_2, x27_2, rfl, HA, HK2, HO_9, HB⟩ := hrel
     have hl9_2 := (Kd.R_reads' HO_9.out).1
     rw [hl9_2] at HO_9
     (simp only [hl9_2])
     cases gk with
     | zero => exact absurd HA.out (by simp [words_both_fn91.l0])
     | succ k2 =>
      have H := HA.out
      clear HA
      simp only [words_both_fn91.l0] at H
      replace H := ifd H
      rcases H with ⟨c15, c15b0, H⟩ | ⟨c15, c15b0, H⟩
      ·((have c15b0l := c15b0; simp only [hl9_2] at c15b0l))
       clear c15
       replace H := bd H
       obtain ⟨t404, A16, H⟩ := H
       replace H := bd H
       obtain ⟨t405, A17, H⟩ := H
       replace H := bd H
       obtain ⟨t406, A18, H⟩ := H
       replace H := ifn H
       obtain ⟨-, c19b0, H⟩ := H
       replace H := ifn H
       obtain ⟨-, c20b0, H⟩ := H
       obtain ⟨y407, hy407⟩ : ∃ y_ : List Int, y_ = (x9_2.set (x27_2 : Int).toNat t406) := ⟨_, rfl⟩
       replace H : (words_both_fn91.l0 k2 l0 l1 y407 (y401.length : Int) (wrap64 (x27_2 + 1))) = some (r1, r2) := by (rw [hy407]; with_reducible exact H)
       have Ny407 := Aside0.mk hy407
       clear hy407
       have H' := Aside0.mk H
       clear H
       go_wp2_with (first | ((with_reducible refine gate_list ?_); refine gate_value rfl ?_; refine goesV_ (some 36) rfl rfl Tryz.func108 (by kernel_rfl) rfl #[.slice A0 l0.length c0, .int .i64 x27_2] rfl (by rfl) (by (simp only [List.map_toArray, List.map_cons, List.map_nil]); rfl) ?_; (with_reducible refine (words_both_1.calls _ _ l0 x27_2 t404 _ ?side1 ?side2 A16.out).mono ?_); (case side1 => exact cx (Kd.C_below HR0.out HB.out)); (case side2 => exact HC0.out); rintro e w' ⟨rfl, ⟨nd, rfl⟩⟩; refine ⟨_, rfl, ?_⟩; ((rw [drewN_self wr]; generalize hq_ : World.drewN wr _ = wr; have n0_ : Aside0 (Kd.R (Kd.int .i64) 3 wr w.heap.size (fun k_ => (w.heap.size ≤ k_)) (.slice Ao14 x9_2.length co14) x9_2) := ⟨by rw [← hq_]; exact (rx HO_9.out)⟩; have n1_ : Aside0 (Below w.heap.size w wr) := ⟨by rw [← hq_]; exact (bh HB.out)⟩; clear HO_9 HB hq_; have HO_9 := n0_; have HB := n1_; clear n0_ n1_))) | ((with_reducible refine gate_list ?_); refine gate_value rfl ?_; refine goesV_ (some 40) rfl rfl Tryz.func108 (by kernel_rfl) rfl #[.slice A1 l1.length c1, .int .i64 x27_2] rfl (by rfl) (by (simp only [List.map_toArray, List.map_cons, List.map_nil]); rfl) ?_; (with_reducible refine (words_both_1.calls _ _ l1 x27_2 t405 _ ?side1 ?side2 A17.out).mono ?_); (case side1 => exact cx (Kd.C_below HR1.out HB.out)); (case side2 => exact HC1.out); rintro e w' ⟨rfl, ⟨nd, rfl⟩⟩; refine ⟨_, rfl, ?_⟩; ((rw [drewN_self wr]; generalize hq_ : World.drewN wr _ = wr; have n0_ : Aside0 (Kd.R (Kd.int .i64) 3 wr w.heap.size (fun k_ => (w.heap.size ≤ k_)) (.slice Ao14 x9_2.length co14) x9_2) := ⟨by rw [← hq_]; exact (rx HO_9.out)⟩; have n1_ : Aside0 (Below w.heap.size w wr) := ⟨by rw [← hq_]; exact (bh HB.out)⟩; clear HO_9 HB hq_; have HO_9 := n0_; have HB := n1_; clear n0_ n1_))) | ((with_reducible refine gate_list ?_); refine gate_value rfl ?_; refine goesV_ (some 41) rfl rfl Tryz.func91 (by kernel_rfl) rfl #[.int .i64 t404, .int .i64 t405] rfl (by rfl) (by (simp only [List.map_toArray, List.map_cons, List.map_nil]); rfl) ?_; (with_reducible refine (words_Less_1.calls t404 t405 t406 _ A18.out).mono ?_); rintro e w' ⟨rfl, ⟨nd, rfl⟩⟩; refine ⟨_, rfl, ?_⟩; ((rw [drewN_self wr]; generalize hq_ : World.drewN wr _ = wr; have n0_ : Aside0 (Kd.R (Kd.int .i64) 3 wr w.heap.size (fun k_ => (w.heap.size ≤ k_)) (.slice Ao14 x9_2.length co14) x9_2) := ⟨by rw [← hq_]; exact (rx HO_9.out)⟩; have n1_ : Aside0 (Below w.heap.size w wr) := ⟨by rw [← hq_]; exact (bh HB.out)⟩; clear HO_9 HB hq_; have HO_9 := n0_; have HB := n1_; clear n0_ n1_)); have p21 : 0 ≤ (x27_2 : Int) := ad; have q21 : (x27_2 : Int) < ((x9_2.length : Int) : Int) := ad; obtain ⟨go21, co21, eo21, gb21, gl21, cl21, HG21⟩ := Kd.R_form HO_9.out (by omega); (cases eo21); have GB21 := Aside0.mk gb21; have GG21 := Aside0.mk HG21; clear gb21 gl21 HG21; obtain ⟨hx21_0, hf21_0⟩ := Kd.R_celln 0 HO_9.out (x27_2 : Int) p21 q21; replace p21 := eq_true p21; replace q21 := eq_true q21; obtain ⟨hy22_, hz22_⟩ := Kd.R_celln 0 HO_9.out (x27_2 : Int) (of_decide_eq_true (by assumption)) (of_decide_eq_true (by assumption)); have HP22 := Kd.R_putg HO_9.out (x27_2 : Int) t406) | ((with_reducible refine gate_store (t := 3) (p := 42) rfl ?_); refine stE 3 42 (wr.setCell ⟨go21, (x27_2 : Int).toNat, none⟩ (.int .i64 t406)) ?_; intro w23 hw; have hg : wr.grownBy w23 (some go21) := (by rw [hw]; exact HP22.2); have hp_ : Kd.R (Kd.int .i64) 3 w23 w.heap.size (fun k_ => (w.heap.size ≤ k_)) (.slice (some ⟨go21, 0, none⟩) x9_2.length co14) y407 := (by rw [hw, Ny407.out]; exact HP22.1); clear HP22; replace HO_9 := Aside0.mk (hp_); replace HB := Aside0.mk ((by rw [hw]; exact below_set (HB.out) GB21.out : Below w.heap.size w w23)); clear hg hw hp_))
       (simp only [← hl9_2])
       go_roundg k2
       case measure => have := HJ3.out; have := HK2.out; omega
       case rel => exact ⟨(y407), (wrap64 (x27_2 + 1)), (by rfl), (by exact H'), ⟨by have := HJ3.out; have := HK2.out; omega⟩, ⟨by (simp only [hl9_2]); exact HO_9.out⟩, ⟨bh HB.out⟩⟩
      ·((have c15b0l := c15b0; simp only [hl9_2] at c15b0l))
       clear c15
       replace H := bd H
       obtain ⟨t408, A24, H⟩ := H
       simp only [Option.some.injEq, Prod.mk.injEq] at H
       obtain ⟨rfl, rfl⟩ := H
       go_wp2_with (((with_reducible refine gate_callee (f := 109) rfl ?_); refine gL 45 Tryz.func109 #[.slice Ao14 x9_2.length co14] ?_; (with_reducible refine (words_trimmed.calls k2 (fun k_ => some k_ = (.slice Ao14 x9_2.length co14 : Value).ownBlock) _ _ x9_2 t408 _ ?side1 A24.out).mono ?_); (case side1 => exact Kd.R_V (Kd.R_tight rfl (HO_9.out))); rintro e w25 ⟨v409, rfl, ho0, hb⟩; refine ⟨_, rfl, ?_⟩; have HO410 := Aside0.mk (Kd.V_lower (Kd.V_mono (ok' := fun k_ => (w.heap.size ≤ k_)) ho0 (fun k_ hk_ => Or.elim hk_ (fun hs_ => ((HO_9.out).1 k_ hs_.symm)) (fun hn_ => (Nat.le_trans (below_size (bh HB.out)) hn_)))) (below_size (bh HB.out))); replace HO_9 := rba HO_9 hb; replace HB := bsa HB hb; clear hb ho0))
       go_ret2
       exact ⟨_, by rfl, by exact HO410.out, bh HB.out⟩
/-! ### words_Less: function 62 -/
def words_Less.f (k : Nat) (l0 : List Int) (l1 : List Int) : Option (List Int × Int) := (words_both_fn91.f k l0 l1).bind fun bt411 => (some (bt411.1, bt411.2))
set_option maxHeartbeats 8000000 in
set_option maxRecDepth 100000 in
theorem words_Less.calls (k : Nat) (A0 : Option Addr) (c0 : Nat) (l0 : List Int) (A1 : Option Addr) (c1 : Nat) (l1 : List Int) (r1 : List Int) (r2 : Int) (w : World) (hr0 : Kd.C (Kd.int .i64) w A0 l0.length l0) (hc0 : l0.length ≤ c0) (hr1 : Kd.C (Kd.int .i64) w A1 l1.length l1) (hc1 : l1.length ≤ c1) (h : words_Less.f k l0 l1 = some (r1, r2)) :
  Calls Tryz.prog 62 #[.slice A0 l0.length c0, .slice A1 l1.length c1] w fun e w' => ∃ v0_ : Value, e = .returned (.tuple #[v0_, .int .i64 r2]) ∧ Kd.V (Kd.int .i64) 3 w' w.heap.size (fun k_ => (w.heap.size ≤ k_)) v0_ r1 ∧ Below w.heap.size w w' := by
 have HR0 := Aside0.mk hr0
 have HC0 := Aside0.mk hc0
 clear hr0 hc0
 have HR1 := Aside0.mk hr1
 have HC1 := Aside0.mk hc1
 clear hr1 hc1
 have HB := Aside0.mk (Below.refl w.heap.size w)
 have H := h
 clear h
 unfold words_Less.f at H
 replace H := bd H
 obtain ⟨⟨t411, t414⟩, A3, H⟩ := H
 dsimp only at H
 simp only [Option.some.injEq, Prod.mk.injEq] at H
 obtain ⟨rfl, rfl⟩ := H
 go_enter Tryz.func62, Tryz.ntmps62
 go_wp2_with (((with_reducible refine gate_callee (f := 85) rfl ?_); refine gL 8 Tryz.func85 #[.slice A0 l0.length c0, .slice A1 l1.length c1, .func (.func 91) #[] #[]] ?_; (with_reducible refine (words_both_fn91.calls k _ _ l0 _ _ l1  t411 t414 _ ?side1 ?side2 ?side3 ?side4 A3.out).mono ?_); (case side1 => exact cx HR0.out); (case side2 => exact HC0.out); (case side3 => exact cx HR1.out); (case side4 => exact HC1.out); rintro e w4 ⟨v412, rfl, ho0, hb⟩; refine ⟨_, rfl, ?_⟩; have HO413 := Aside0.mk (Kd.V_lower (Kd.V_mono (ok' := fun k_ => (w.heap.size ≤ k_)) ho0 (fun k_ hk_ => (Nat.le_trans (below_size (bh HB.out)) hk_))) (below_size (bh HB.out))); replace HB := bsa HB hb; clear hb ho0))
 go_ret2
 exact ⟨_, er, by exact HO413.out, bh HB.out⟩
/-! ### span_Less_1: function 92 -/
def span_Less_1.f (a0_0 : Int) (a0_1 : Int) (a0_2 : Bool) (a0_3 : Bool) : Option (Bool) := if a0_2 = true then (some (!a0_3)) else (some false)
set_option maxHeartbeats 8000000 in
set_option maxRecDepth 100000 in
theorem span_Less_1.calls (a0_0 : Int) (a0_1 : Int) (a0_2 : Bool) (a0_3 : Bool) (r : Bool) (w : World) (h : span_Less_1.f a0_0 a0_1 a0_2 a0_3 = some r) :
  Calls Tryz.prog 92 #[.agg #[.int .i64 a0_0, .int .i64 a0_1, .bool a0_2, .bool a0_3]] w fun e w' => e = .returned (.bool r) ∧ Below w.heap.size w w' := by
 have hu98 := Tryz.underlying98
 have HB := Aside0.mk (Below.refl w.heap.size w)
 have H := h
 clear h
 unfold span_Less_1.f at H
 replace H := ifb H
 rcases H with ⟨rfl, H⟩ | ⟨rfl, H⟩
 ·obtain rfl := Option.some.inj H
  go_enter Tryz.func92, Tryz.ntmps92
  go_wp2_with (((with_reducible refine gate_dst (N := 1) rfl ?_); refine boxE HB 1 98 #[.int .i64 a0_0, .int .i64 a0_1, .bool true, .bool a0_3] ?_; clear HB; intro gb415 w3 BK415 GW415 hg hb HB; have GE415 := GW415; clear hb hg; obtain ⟨hcz4_0, hcz4_1, hcz4_2, hcz4_3, hfz4_0, hfz4_1, hfz4_2, hfz4_3⟩ := b4 BK415))
  go_ret
  exact ⟨er, bh HB.out⟩
 ·obtain rfl := Option.some.inj H
  go_enter Tryz.func92, Tryz.ntmps92
  go_wp2_with (((with_reducible refine gate_dst (N := 1) rfl ?_); refine boxE HB 1 98 #[.int .i64 a0_0, .int .i64 a0_1, .bool false, .bool a0_3] ?_; clear HB; intro gb415 w5 BK415 GW415 hg hb HB; have GE415 := GW415; clear hb hg; obtain ⟨hcz6_0, hcz6_1, hcz6_2, hcz6_3, hfz6_0, hfz6_1, hfz6_2, hfz6_3⟩ := b4 BK415))
  go_ret
  exact ⟨er, bh HB.out⟩
/-! ### span_both_fn92: function 87 (a contract of the session's own) -/
section
attribute [local go_sem] Oper.semAt_some
def span_both_fn92.go : List S98 → List S64 → Option (List S64)
  | [], o => some o
  | x :: xs, o => (span_Less_1.f x.f0.f0 x.f0.f1 x.f1 x.f2).bind fun t => if t = true then ((span_adds.f o x.f0.f0 x.f0.f1).bind fun o2 => span_both_fn92.go xs o2) else span_both_fn92.go xs o
def span_both_fn92.f (k : Nat) (l0 l1 : List S64) : Option (List S64 × Int) := (span_May.f k l0).bind fun a => if a = true then ((span_May.f k l1).bind fun b => if b = true then ((span_parts_1.f k l0 l1).bind fun xs => (span_both_fn92.go xs []).bind fun o => some (o, 0)) else some (([] : List S64), 1)) else some (([] : List S64), 1)
theorem span_both_fn92.go_snoc : ∀ (pre : List S98) (x : S98) (o : List S64), span_both_fn92.go (pre ++ [x]) o = (span_both_fn92.go pre o).bind fun o1 => (span_Less_1.f x.f0.f0 x.f0.f1 x.f1 x.f2).bind fun t => if t = true then span_adds.f o1 x.f0.f0 x.f0.f1 else some o1 := by
 intro pre
 induction pre with
 | nil =>
   intro x o
   simp only [List.nil_append, span_both_fn92.go, Option.bind_some]
   congr 1; funext t; split
   ·cases span_adds.f o x.f0.f0 x.f0.f1 <;> rfl
   ·rfl
 | cons y ys ih =>
   intro x o
   simp only [List.cons_append, span_both_fn92.go]
   rw [Option.bind_assoc]
   congr 1; funext t; split
   ·rw [Option.bind_assoc]; congr 1; funext o2; exact ih x o2
   ·exact ih x o
theorem span_both_fn92.go_pre : ∀ (pre rest : List S98) (o r : List S64), span_both_fn92.go (pre ++ rest) o = some r → ∃ o1, span_both_fn92.go pre o = some o1 := by
 intro pre
 induction pre with
 | nil => intro rest o r h; exact ⟨o, rfl⟩
 | cons y ys ih =>
   intro rest o r h
   simp only [List.cons_append, span_both_fn92.go] at h ⊢
   obtain ⟨t, ht, h⟩ := Option.bind_eq_some_iff.mp h
   rw [ht]; simp only [Option.bind_some]
   split at h
   ·rename_i hq
    obtain ⟨o2, ho, h⟩ := Option.bind_eq_some_iff.mp h
    rw [if_pos hq, ho]; exact ih rest o2 r h
   ·rename_i hq
    rw [if_neg hq]; exact ih rest o r h
theorem span_both_fn92.mono : ∀ a0 a1 k, LeO (span_both_fn92.f k a0 a1) (span_both_fn92.f (k + 1) a0 a1) := by
 intro a0 a1 k
 unfold span_both_fn92.f
 repeat' first | (with_reducible exact span_May.mono _ _) | (with_reducible exact span_parts_1.mono _ _ _) | (with_reducible exact LeO.refl _) | (with_reducible refine LeO.ite ?_ ?_) | (with_reducible refine LeO.bind ?_ (fun _ => ?_))
set_option maxHeartbeats 4000000 in
set_option maxRecDepth 100000 in
theorem span_both_fn92.calls (k : Nat) (A0 : Option Addr) (c0 : Nat) (l0 : List (S64)) (A1 : Option Addr) (c1 : Nat) (l1 : List (S64)) (r1 : List S64) (r2 : Int) (w : World) (hr0 : Kd.C k64 w A0 l0.length l0) (hc0 : l0.length ≤ c0) (hr1 : Kd.C k64 w A1 l1.length l1) (hc1 : l1.length ≤ c1) (h : span_both_fn92.f k l0 l1 = some (r1, r2)) :
    Calls Tryz.prog 87 #[.slice A0 l0.length c0, .slice A1 l1.length c1, .func (.func 92) #[] #[]] w fun e w' => ∃ v0_ : Value, e = .returned (.tuple #[v0_, .int .i64 r2]) ∧ Kd.R k64 64 w' w.heap.size (fun _ => True) v0_ r1 ∧ Below w.heap.size w w' := by
 have hmf : ∀ (fn : Fn) (first cap : Array Value) (w : World), (Instr.makeFunc fn first cap).run Tryz.prog w = .ok (.func fn first cap) w := fun _ _ _ _ => rfl
 have hu55 := Tryz.underlying98
 have hu43 := Tryz.underlying64
 have hu24 := Tryz.underlying22
 have HR0 := Aside0.mk hr0
 have HC0 := Aside0.mk hc0
 clear hr0 hc0
 have HR1 := Aside0.mk hr1
 have HC1 := Aside0.mk hc1
 clear hr1 hc1
 have HB := Aside0.mk (Below.refl w.heap.size w)
 have H := h
 clear h
 unfold span_both_fn92.f at H
 obtain ⟨a, A1_, H⟩ := Option.bind_eq_some_iff.mp H
 refine (callsIn_wide (n := 4)).1 ?_
 refine callsIn_of_wp_marks Tryz.func87 rfl trivial ?_ rfl
 simp only [Tryz.ntmps87, List.size_toArray, List.length_cons, List.length_nil, Nat.reduceAdd, Nat.reduceSub, Array.replicate_succ, Array.replicate_zero, List.push_toArray, List.append_toArray, List.nil_append, List.cons_append]
 refine wpIn_wide.2 ?_
 cases a with
 | false =>
   simp only [Bool.false_eq_true, if_false, Option.some.injEq, Prod.mk.injEq] at H
   obtain ⟨rfl, rfl⟩ := H
   have H1 := Aside0.mk A1_
   clear A1_
   go_wp2_with (first | ((with_reducible refine gate_dst (N := 5) rfl ?_); refine box_event ?hg (N := 5) ?hd (cs := #[.func (.func 92) #[] #[]]) (t := 99) ?hr ?_; (case hd => rfl); (case hg => rfl); (case hr => (go_simp; done)); intro gi hg w3 hbox hb; have n0_ := Aside0.mk (below_step HB.out hb); have n1_ := Aside0.mk hbox; have n2_ := Aside0.mk ((by rw [hg]; exact Nat.le_refl _) : w.heap.size ≤ gi); clear HB; have HB := n0_; have BKi := n1_; have GEi := n2_; clear n0_ n1_ n2_ hb hbox hg) | ((with_reducible refine gate_callee (f := 41) rfl ?_); refine gL 11 Tryz.func41 #[.slice A0 l0.length c0] ?_; (with_reducible refine (span_May.calls _ _ _ l0 false _ ?side1 ?side2 H1.out).mono ?_); (case side1 => exact (Kd.C_below HR0.out HB.out)); (case side2 => exact HC0.out); rintro e w4 ⟨rfl, hb⟩; refine ⟨_, rfl, ?_⟩; have n0_ := Aside0.mk (below_step HB.out hb); have n1_ := Aside0.mk (blk_below BKi.out hb); clear HB BKi hb; have HB := n0_; have BKi := n1_; clear n0_ n1_))
   exact ⟨_, results_list (rs := [.tmp 6, .tmp 7]) rfl (by simp) (.tmp (.tmp .nil)), _, rfl, Kd.R_nil _ _ _ _ _, HB.out⟩
 | true =>
   rw [if_pos rfl] at H
   obtain ⟨b, A2_, H⟩ := Option.bind_eq_some_iff.mp H
   cases b with
   | false =>
     simp only [Bool.false_eq_true, if_false, Option.some.injEq, Prod.mk.injEq] at H
     obtain ⟨rfl, rfl⟩ := H
     have H1 := Aside0.mk A1_
     have H2 := Aside0.mk A2_
     clear A1_ A2_
     go_wp2_with (first | ((with_reducible refine gate_dst (N := 5) rfl ?_); refine box_event ?hg (N := 5) ?hd (cs := #[.func (.func 92) #[] #[]]) (t := 99) ?hr ?_; (case hd => rfl); (case hg => rfl); (case hr => (go_simp; done)); intro gi hg w3 hbox hb; have n0_ := Aside0.mk (below_step HB.out hb); have n1_ := Aside0.mk hbox; have n2_ := Aside0.mk ((by rw [hg]; exact Nat.le_refl _) : w.heap.size ≤ gi); clear HB; have HB := n0_; have BKi := n1_; have GEi := n2_; clear n0_ n1_ n2_ hb hbox hg) | ((with_reducible refine gate_callee (f := 41) rfl ?_); refine gL 11 Tryz.func41 #[.slice A0 l0.length c0] ?_; (with_reducible refine (span_May.calls _ _ _ l0 true _ ?side1 ?side2 H1.out).mono ?_); (case side1 => exact (Kd.C_below HR0.out HB.out)); (case side2 => exact HC0.out); rintro e w4 ⟨rfl, hb⟩; refine ⟨_, rfl, ?_⟩; have n0_ := Aside0.mk (below_step HB.out hb); have n1_ := Aside0.mk (blk_below BKi.out hb); clear HB BKi hb; have HB := n0_; have BKi := n1_; clear n0_ n1_) | (go_at_call 41; (with_reducible refine (span_May.calls _ _ _ l1 false _ ?side1 ?side2 H2.out).mono ?_); (case side1 => exact (Kd.C_below HR1.out HB.out)); (case side2 => exact HC1.out); rintro e w5 ⟨rfl, hb⟩; have n0_ := Aside0.mk (below_step HB.out hb); have n1_ := Aside0.mk (blk_below BKi.out hb); clear HB BKi hb; have HB := n0_; have BKi := n1_; clear n0_ n1_))
     exact ⟨_, results_list (rs := [.tmp 6, .tmp 7]) rfl (by simp) (.tmp (.tmp .nil)), _, rfl, Kd.R_nil _ _ _ _ _, HB.out⟩
   | true =>
     rw [if_pos rfl] at H
     obtain ⟨xs, A3_, H⟩ := Option.bind_eq_some_iff.mp H
     obtain ⟨o, A4_, H⟩ := Option.bind_eq_some_iff.mp H
     simp only [Option.some.injEq, Prod.mk.injEq] at H
     obtain ⟨rfl, rfl⟩ := H
     have H1 := Aside0.mk A1_
     have H2 := Aside0.mk A2_
     have H3 := Aside0.mk A3_
     have H4 := Aside0.mk A4_
     clear A1_ A2_ A3_ A4_
     go_wp2_with (first | ((with_reducible refine gate_dst (N := 5) rfl ?_); refine box_event ?hg (N := 5) ?hd (cs := #[.func (.func 92) #[] #[]]) (t := 99) ?hr ?_; (case hd => rfl); (case hg => rfl); (case hr => (go_simp; done)); intro gi hg w3 hbox hb; have n0_ := Aside0.mk (below_step HB.out hb); have n1_ := Aside0.mk hbox; have n2_ := Aside0.mk ((by rw [hg]; exact Nat.le_refl _) : w.heap.size ≤ gi); clear HB; have HB := n0_; have BKi := n1_; have GEi := n2_; clear n0_ n1_ n2_ hb hbox hg) | ((with_reducible refine gate_callee (f := 41) rfl ?_); refine gL 11 Tryz.func41 #[.slice A0 l0.length c0] ?_; (with_reducible refine (span_May.calls _ _ _ l0 true _ ?side1 ?side2 H1.out).mono ?_); (case side1 => exact (Kd.C_below HR0.out HB.out)); (case side2 => exact HC0.out); rintro e w4 ⟨rfl, hb⟩; refine ⟨_, rfl, ?_⟩; have n0_ := Aside0.mk (below_step HB.out hb); have n1_ := Aside0.mk (blk_below BKi.out hb); clear HB BKi hb; have HB := n0_; have BKi := n1_; clear n0_ n1_) | (go_at_call 41; (with_reducible refine (span_May.calls _ _ _ l1 true _ ?side1 ?side2 H2.out).mono ?_); (case side1 => exact (Kd.C_below HR1.out HB.out)); (case side2 => exact HC1.out); rintro e w5 ⟨rfl, hb⟩; have n0_ := Aside0.mk (below_step HB.out hb); have n1_ := Aside0.mk (blk_below BKi.out hb); clear HB BKi hb; have HB := n0_; have BKi := n1_; clear n0_ n1_) | ((with_reducible refine gate_dst (N := 8) rfl ?_); refine box_event ?hg (N := 8) ?hd (cs := #[.slice none 0 0]) (t := 22) ?hr ?_; (case hd => rfl); (case hg => rfl); (case hr => (go_simp; done)); intro go_ hg w6 hbox hb; have n0_ := Aside0.mk (below_step HB.out hb); have n1_ := Aside0.mk (blk_below BKi.out hb); have n2_ := Aside0.mk hbox; have n3_ := Aside0.mk ((by rw [hg]; exact below_size HB.out) : w.heap.size ≤ go_); have n4_ := Aside0.mk ((by rw [hg]; exact Nat.ne_of_lt (blk_lt BKi.out)) : gi ≠ go_); clear HB BKi; have HB := n0_; have BKi := n1_; have BKo := n2_; have GEo := n3_; have NBio := n4_; clear n0_ n1_ n2_ n3_ n4_ hb hbox hg) | ((with_reducible refine gate_dst (N := 2) rfl ?_); refine box_event ?hg (N := 2) ?hd (cs := #[.slice A0 l0.length c0]) (t := 22) ?hr ?_; (case hd => rfl); (case hg => rfl); (case hr => (go_simp; done)); intro ga hg w7 hbox hb; have n0_ := Aside0.mk (below_step HB.out hb); have n1_ := Aside0.mk (blk_below BKi.out hb); have n2_ := Aside0.mk (blk_below BKo.out hb); have n3_ := Aside0.mk hbox; have n4_ := Aside0.mk ((by rw [hg]; exact below_size HB.out) : w.heap.size ≤ ga); have n5_ := Aside0.mk ((by rw [hg]; exact Nat.ne_of_lt (blk_lt BKi.out)) : gi ≠ ga); have n6_ := Aside0.mk ((by rw [hg]; exact Nat.ne_of_lt (blk_lt BKo.out)) : go_ ≠ ga); clear HB BKi BKo; have HB := n0_; have BKi := n1_; have BKo := n2_; have BKa := n3_; have GEa := n4_; have NBia := n5_; have NBoa := n6_; clear n0_ n1_ n2_ n3_ n4_ n5_ n6_ hb hbox hg) | ((with_reducible refine gate_dst (N := 3) rfl ?_); refine box_event ?hg (N := 3) ?hd (cs := #[.slice A1 l1.length c1]) (t := 22) ?hr ?_; (case hd => rfl); (case hg => rfl); (case hr => (go_simp; done)); intro gb hg w8 hbox hb; have n0_ := Aside0.mk (below_step HB.out hb); have n1_ := Aside0.mk (blk_below BKi.out hb); have n2_ := Aside0.mk (blk_below BKo.out hb); have n3_ := Aside0.mk (blk_below BKa.out hb); have n4_ := Aside0.mk hbox; have n5_ := Aside0.mk ((by rw [hg]; exact below_size HB.out) : w.heap.size ≤ gb); have n6_ := Aside0.mk ((by rw [hg]; exact Nat.ne_of_lt (blk_lt BKi.out)) : gi ≠ gb); have n7_ := Aside0.mk ((by rw [hg]; exact Nat.ne_of_lt (blk_lt BKo.out)) : go_ ≠ gb); have n8_ := Aside0.mk ((by rw [hg]; exact Nat.ne_of_lt (blk_lt BKa.out)) : ga ≠ gb); clear HB BKi BKo BKa; have HB := n0_; have BKi := n1_; have BKo := n2_; have BKa := n3_; have BKb := n4_; have GEb := n5_; have NBib := n6_; have NBob := n7_; have NBab := n8_; clear n0_ n1_ n2_ n3_ n4_ n5_ n6_ n7_ n8_ hb hbox hg) | go_in)
     have HC0' := HC0
     have HC1' := HC1
     refine (wpIn_wide (n := 4)).1 ?_
     refine XR.wp_range (α := S98) (w0 := w) (by decide) (gf := 127) (lb := #[.pointer (some ⟨ga, 0, none⟩), .pointer (some ⟨gb, 0, none⟩)]) rfl (enters_of Tryz.func127 (by kernel_rfl) rfl)
       (span_parts_1.iter k A0 c0 l0 A1 c1 l1 xs w w8 ga gb HR0.out HC0'.out HR1.out HC1'.out HB.out BKa.out BKb.out GEa.out GEb.out NBab.out H3.out)
       (by rintro k_ (rfl | rfl); exact blk_lt BKa.out; exact blk_lt BKb.out) (fun _ => rfl)
       (fun G_ pre X => ∃ (o1 : List S64) (v : Value), span_both_fn92.go pre [] = some o1 ∧ X.heap[go_]? = some (.cells #[v] 22 (0, 0)) ∧ Kd.R k64 64 X w.heap.size (fun k_ => w.heap.size ≤ k_ ∧ (k_ ≠ gi ∧ k_ ≠ go_ ∧ k_ ≠ ga ∧ k_ ≠ gb ∧ k_ ≠ w8.heap.size ∧ k_ ≠ w8.heap.size + 1 ∧ ¬ G_ k_)) v o1 ∧ X.heap[gi]? = some (.cells #[.func (.func 92) #[] #[]] 99 (0, 0)) ∧ Below w.heap.size w X)
       (fun _ _ _ => False)
       ?hI ?hIG (fun _ _ _ _ h _ => h) ?hIB ?hIp (fun _ _ _ _ _ h _ _ _ => h) ?h0
       (fun Y x a' Z => a' = { tmps := #[.slice A0 l0.length c0, .slice A1 l1.length c1, .func (.func 92) #[] #[], undef, undef, .pointer (some ⟨gi, 0, none⟩), .slice none 0 0, .int .i64 0, .pointer (some ⟨go_, 0, none⟩), .pointer (some ⟨Y.heap.size, 0, none⟩), .slice A0 l0.length c0, .bool true, .bool false, .bool false, .slice A1 l1.length c1, .bool true, .bool false, .bool false, .slice A0 l0.length c0, .slice A1 l1.length c1, .func (.func 127) #[] #[.pointer (some ⟨ga, 0, none⟩), .pointer (some ⟨gb, 0, none⟩)], .agg #[.int .i64 x.f0.f0, .int .i64 x.f0.f1, .bool x.f1, .bool x.f2], undef, undef, undef, undef, undef, undef, undef, undef], defers := [] } ∧ Z.heap[Y.heap.size]? = some (.cells #[.int .i64 x.f0.f0, .int .i64 x.f0.f1, .bool x.f1, .bool x.f2] 98 (0, 0)))
       ?hAx ?assign ?body ?done ?stop
     case hI =>
       rintro G_ pre X Y ⟨o1, v, hg, ho, hr, hi, hb⟩ hXY
       exact ⟨o1, v, hg, blk_below ho hXY, Kd.R_below hr hXY, blk_below hi hXY, below_step hb hXY⟩
     case hIG =>
       rintro G_ G2_ pre X ⟨o1, v, hg, ho, hr, hi, hb⟩ hG
       refine ⟨o1, v, hg, ho, Kd.R_mono (Kd.R_tight rfl hr) (fun k_ hk => ?_), hi, hb⟩
       have hq := hr.1 k_ hk.symm
       have hlt := Kd.R_lt hr k_ hk.symm
       exact ⟨hq.1, hq.2.1, hq.2.2.1, hq.2.2.2.1, hq.2.2.2.2.1, hq.2.2.2.2.2.1, hq.2.2.2.2.2.2.1, fun h2 => (hG k_ h2).elim hq.2.2.2.2.2.2.2 (fun z => by omega)⟩
     case hIB =>
       rintro G_ pre X ⟨o1, v, hg, ho, hr, hi, hb⟩
       exact hb
     case hIp =>
       rintro G_ pre X l o2 ⟨o1, v, hg, ho, hr, hi, hb⟩ hl hl2 hlt
       have hio : l ≠ gi := by have := blk_lt BKi.out; omega
       have hoo : l ≠ go_ := by have := blk_lt BKo.out; omega
       refine ⟨o1, v, hg, (World.putObj_heap_other (Ne.symm hoo)).trans ho, ?_, (World.putObj_heap_other (Ne.symm hio)).trans hi, XR.below_putObj hb (by have := HB.out.size; omega) hlt o2⟩
       exact Kd.R_step hr (fun k_ hk _ => World.putObj_heap_other (by have h5 := hk.2.2.2.2.2.1; have h6 := hk.2.2.2.2.2.2.1; omega))
     case h0 => exact ⟨[], _, rfl, BKo.out, Kd.R_nil _ _ _ _ _, BKi.out, HB.out⟩
     case hAx =>
       rintro Y x a' Z l o2 ⟨rfl, hz⟩ hl hl2 hlt
       exact ⟨rfl, (World.putObj_heap_other (by omega)).trans hz⟩
     case assign =>
       intro G_ pre x Y hI hsz
       gi_wp2
       exact ⟨(Below.refl _ Y).alloc (Nat.le_refl _) _, trivial, World.alloc_heap_new Y _⟩
     case body =>
       rintro G_ pre x rest Y Z a' hx hGY ⟨o1, v, hg, ho, hr, hi, hb⟩ hsX hYZ ⟨rfl, hz⟩
       have hsY : Y.heap.size < Z.heap.size := blk_lt hz
       have hlgo : go_ < w8.heap.size := blk_lt BKo.out
       have hsn := span_both_fn92.go_snoc pre x []
       rw [hg] at hsn
       simp only [Option.bind_some] at hsn
       obtain ⟨o2, ho2⟩ := span_both_fn92.go_pre (pre ++ [x]) rest [] _ (by have h4 := H4.out; rw [hx] at h4; simpa using h4)
       rw [ho2] at hsn
       obtain ⟨t, ht, hs⟩ := Option.bind_eq_some_iff.mp hsn.symm
       have c1 : Z.cell? ⟨gi, 0, none⟩ = some (.func (.func 92) #[] #[]) := (blk_cell hi 0).trans rfl
       have c2 : Z.cell? ⟨Y.heap.size, 0, none⟩ = some (.int .i64 x.f0.f0) := (blk_cell hz 0).trans rfl
       have c3 : Z.cell? ⟨Y.heap.size, 1, none⟩ = some (.int .i64 x.f0.f1) := (blk_cell hz 1).trans rfl
       have c4 : Z.cell? ⟨Y.heap.size, 2, none⟩ = some (.bool x.f1) := (blk_cell hz 2).trans rfl
       have c5 : Z.cell? ⟨Y.heap.size, 3, none⟩ = some (.bool x.f2) := (blk_cell hz 3).trans rfl
       cases t with
       | false =>
         simp only [Bool.false_eq_true, if_false, Option.some.injEq] at hs
         subst hs
         gi_wp2_with (refine ⟨trivial, ?_⟩; gi_at_call 92; refine (CallsIn.inRound (w8.heap.size + 1) (callsIn_wide.2 (span_Less_1.calls _ _ _ _ false Z ht))).mono ?_; rintro e w9 ⟨rfl, hb9⟩)
         exact ⟨⟨_, v, ho2, blk_below ho hb9, Kd.R_below hr hb9, blk_below hi hb9, below_step hb hb9⟩, hb9.size, fun k_ hk _ => hb9.block k_ hk⟩
       | true =>
         simp only [if_true] at hs
         gi_wp2_with (first | (refine ⟨trivial, ?_⟩; gi_at_call 92; refine (CallsIn.inRound (w8.heap.size + 1) (callsIn_wide.2 (span_Less_1.calls _ _ _ _ true Z ht))).mono ?_; rintro e w9 ⟨rfl, hb9⟩; have d2 : w9.cell? ⟨Y.heap.size, 0, none⟩ = some (.int .i64 x.f0.f0) := (blk_cell (blk_below hz hb9) 0).trans rfl; have d3 : w9.cell? ⟨Y.heap.size, 1, none⟩ = some (.int .i64 x.f0.f1) := (blk_cell (blk_below hz hb9) 1).trans rfl; have d6 : w9.cell? ⟨go_, 0, none⟩ = some v := (blk_cell (blk_below ho hb9) 0).trans rfl) | (refine ⟨trivial, ?_⟩; gi_at_call 79; refine (CallsIn.inRound (w8.heap.size + 1) (callsIn_wide.2 (span_adds.calls (fun k_ => some k_ = v.ownBlock) v o1 x.f0.f0 x.f0.f1 o2 w w9 (below_step hb hb9) (Kd.R_tight rfl (Kd.R_below hr hb9)) hs))).mono ?_; rintro e w10 ⟨v0, rfl, hr10, hb10, hk10⟩; have hne : ∀ k_, some k_ = v.ownBlock → k_ ≠ gi ∧ k_ ≠ go_ ∧ k_ ≠ ga ∧ k_ ≠ gb ∧ k_ ≠ w8.heap.size ∧ k_ ≠ w8.heap.size + 1 ∧ ¬ G_ k_ := fun k_ e_ => (hr.1 k_ e_.symm).2; have hlt9 : Z.heap.size ≤ w9.heap.size := hb9.size; have ho10 := (hk10.2 go_ (blk_lt (blk_below ho hb9)) (fun e_ => (hne _ e_).2.1 rfl)).trans (blk_below ho hb9); have hi10 := (hk10.2 gi (blk_lt (blk_below hi hb9)) (fun e_ => (hne _ e_).1 rfl)).trans (blk_below hi hb9); obtain ⟨Av, cv, rfl⟩ := Kd.R_slice hr10; have e6 : w10.cell? ⟨go_, 0, none⟩ = some v := (blk_cell ho10 0).trans rfl; have e7 := blk_frozen ho10 0))
         have hlgi : gi < w8.heap.size := blk_lt BKi.out
         have hlga : ga < w8.heap.size := blk_lt BKa.out
         have hlgb : gb < w8.heap.size := blk_lt BKb.out
         have hgb : Below w.heap.size w (w10.setCell ⟨go_, 0, none⟩ (.slice Av o2.length cv)) := hb10.setCell (p := ⟨go_, 0, none⟩) GEo.out _
         have hrow : Kd.R k64 64 (w10.setCell ⟨go_, 0, none⟩ (.slice Av o2.length cv)) w.heap.size (fun k_ => w.heap.size ≤ k_ ∧ (k_ ≠ gi ∧ k_ ≠ go_ ∧ k_ ≠ ga ∧ k_ ≠ gb ∧ k_ ≠ w8.heap.size ∧ k_ ≠ w8.heap.size + 1 ∧ ¬ G_ k_)) (.slice Av o2.length cv) o2 := by
           have hr11 : Kd.R k64 64 w10 w.heap.size (fun k_ => w.heap.size ≤ k_ ∧ (k_ ≠ gi ∧ k_ ≠ go_ ∧ k_ ≠ ga ∧ k_ ≠ gb ∧ k_ ≠ w8.heap.size ∧ k_ ≠ w8.heap.size + 1 ∧ ¬ G_ k_)) (.slice Av o2.length cv) o2 := by
             refine Kd.R_mono hr10 (fun k_ hk => ?_)
             rcases hk with hk | hk
             ·exact hr.1 k_ hk.symm
             ·have := HB.out.size; have := below_size hb; refine ⟨by omega, by omega, by omega, by omega, by omega, by omega, by omega, fun h2 => by have := hGY k_ h2; omega⟩
           exact Kd.R_step hr11 (fun k_ hk _ => Below.heap_setCell _ _ _ k_ (by exact hk.2.2.1))
         refine ⟨⟨o2, _, ho2, blk_put ho10 0 _ rfl, hrow, blk_far hi10 (by exact NBio.out) _, hgb⟩, ?_, ?_⟩
         ·have := hk10.1; simp; omega
         ·intro k_ hk hkeep
          have hkgo : k_ ≠ go_ := by
            rcases hkeep with (rfl | rfl) | hh | hh | hh
            ·exact Ne.symm NBoa.out
            ·exact Ne.symm NBob.out
            ·have := hGY k_ hh; omega
            ·omega
            ·omega
          have hkv : ¬ some k_ = v.ownBlock := by
            intro e_
            have hq := hne _ e_
            rcases hkeep with (rfl | rfl) | hh | hh | hh
            ·exact hq.2.2.1 rfl
            ·exact hq.2.2.2.1 rfl
            ·exact hq.2.2.2.2.2.2 hh
            ·exact hq.2.2.2.2.1 hh
            ·exact hq.2.2.2.2.2.1 hh
          rw [Below.heap_setCell _ _ _ k_ hkgo, hk10.2 k_ (by omega) hkv, hb9.block k_ hk]
     case done =>
       rintro G_ W ⟨o1, v, hg, ho, hr, hi, hb⟩ hK
       obtain rfl : o1 = o := by have h4 := H4.out; rw [hg] at h4; exact Option.some.inj h4
       have cv1 : W.cell? ⟨go_, 0, none⟩ = some v := (blk_cell ho 0).trans rfl
       go_wp2
       refine ⟨by simp, .inl ⟨_, _, rfl, run_takeDeferred hK, ?_⟩⟩
       exact ⟨_, results_list (rs := [.tmp 6, .tmp 7]) rfl (by simp) (.tmp (.tmp .nil)), v, rfl, Kd.R_mono (Kd.R_step hr (fun k_ hk _ => World.putObj_heap_other (by have h5 := hk.2.2.2.2.2.1; have h6 := hk.2.2.2.2.2.2.1; omega))) (fun _ _ => trivial), XR.below_putObj hb (by have := HB.out.size; omega) (Array.getElem?_eq_some_iff.1 hK).1 _⟩
     case stop =>
       rintro c pre W _ h _
       exact h.elim
end
/-! ### span_Less: function 63 -/
def span_Less.f (k : Nat) (l0 : List (S64)) (l1 : List (S64)) : Option ((List (S64)) × Int) := (span_both_fn92.f k l0 l1).bind fun bt416 => (some (bt416.1, bt416.2))
theorem span_Less.mono : ∀ a0 a1 k, LeO (span_Less.f k a0 a1) (span_Less.f (k + 1) a0 a1) := by
 intro a0 a1 k
 unfold span_Less.f
 repeat' first | (with_reducible exact span_both_fn92.mono _ _ _) | (with_reducible exact LeO.refl _) | (with_reducible refine LeO.bind ?_ (fun _ => ?_))
set_option maxHeartbeats 8000000 in
set_option maxRecDepth 100000 in
theorem span_Less.calls (k : Nat) (A0 : Option Addr) (c0 : Nat) (l0 : List (S64)) (A1 : Option Addr) (c1 : Nat) (l1 : List (S64)) (r1 : List (S64)) (r2 : Int) (w : World) (hr0 : Kd.C k64 w A0 l0.length l0) (hc0 : l0.length ≤ c0) (hr1 : Kd.C k64 w A1 l1.length l1) (hc1 : l1.length ≤ c1) (h : span_Less.f k l0 l1 = some (r1, r2)) :
  Calls Tryz.prog 63 #[.slice A0 l0.length c0, .slice A1 l1.length c1] w fun e w' => ∃ v0_ : Value, e = .returned (.tuple #[v0_, .int .i64 r2]) ∧ Kd.R k64 64 w' w.heap.size (fun _ => True) v0_ r1 ∧ Below w.heap.size w w' := by
 have HR0 := Aside0.mk hr0
 have HC0 := Aside0.mk hc0
 clear hr0 hc0
 have HR1 := Aside0.mk hr1
 have HC1 := Aside0.mk hc1
 clear hr1 hc1
 have HB := Aside0.mk (Below.refl w.heap.size w)
 have H := h
 clear h
 unfold span_Less.f at H
 replace H := bd H
 obtain ⟨⟨t416, t419⟩, A3, H⟩ := H
 dsimp only at H
 simp only [Option.some.injEq, Prod.mk.injEq] at H
 obtain ⟨rfl, rfl⟩ := H
 go_enter Tryz.func63, Tryz.ntmps63
 go_wp2_with (((with_reducible refine gate_callee (f := 87) rfl ?_); refine gL 8 Tryz.func87 #[.slice A0 l0.length c0, .slice A1 l1.length c1, .func (.func 92) #[] #[]] ?_; (with_reducible refine (span_both_fn92.calls k _ _ l0 _ _ l1  t416 t419 _ ?side1 ?side2 ?side3 ?side4 A3.out).mono ?_); (case side1 => exact cx HR0.out); (case side2 => exact HC0.out); (case side3 => exact cx HR1.out); (case side4 => exact HC1.out); rintro e w4 ⟨v417, rfl, ho0, hb⟩; refine ⟨_, rfl, ?_⟩; have HO418 := Aside0.mk (Kd.R_lower ho0 (below_size (bh HB.out))); replace HB := bsa HB hb; clear hb ho0))
 go_ret2
 exact ⟨_, er, by exact HO418.out, bh HB.out⟩
end Go.Proofs.YtjgmdjieandemaaGreat.Print
end
section
namespace Go.Proofs.YtjgmdjieandemaaGreat.Print
open Go.RowKit Go.Proofs.YtjgmdjieandemaaGreatW.PrintWords Go.Proofs.YtjgmdjieandemaaGreatW.PrintLast Go.Proofs.YtjgmdjieandemaaGreatW.PrintMore
attribute [local go_sem] max2_int min2_int max_two min_two max_three min_three max_four min_four   -- for this text's walks alone
set_option linter.unusedVariables false
set_option linter.unusedSimpArgs false
/-! ### poslist_List_together_fn62_fn63: function 55 -/
def poslist_List_together_fn62_fn63.j0 : Nat → Bool → Int → List (S64) → List Int → List Int → Int → List (S64) → List Int → List Int → Option (Int × (List (S64)) × List Int × List Int)
 | 0, _, _, _, _, _, _, _, _, _ => none
 | k + 1, x22, x421000, x421001, x421002, x421003, x422000, x422001, x422002, x422003 => if x22 = true then ((poslist_List_bits.f k x421000 x421001 x421002 x421003).bind fun t423 => ((poslist_List_bits.f k x422000 x422001 x422002 x422003).bind fun t426 => ((words_Less.f k t423 t426).bind fun bt429 => ((words_Spans.f k bt429.1).bind fun bt433 => ((poslist_best.f k bt433.1).bind fun bt437 => (some (bt437.1, bt437.2.1, bt437.2.2.1, bt437.2.2.2))))))) else ((poslist_List_Spans.f k x421000 x421001 x421002 x421003).bind fun t447 => ((poslist_List_Spans.f k x422000 x422001 x422002 x422003).bind fun t450 => ((span_Less.f k t447 t450).bind fun bt453 => ((poslist_best.f k bt453.1).bind fun bt457 => (some (bt457.1, bt457.2.1, bt457.2.2.1, bt457.2.2.2))))))
def poslist_List_together_fn62_fn63.f (k : Nat) (a0_0 : Int) (l0_1 : List (S64)) (l0_2 : List Int) (l0_3 : List Int) (a1_0 : Int) (l1_1 : List (S64)) (l1_2 : List Int) (l1_3 : List Int)   : Option (Int × (List (S64)) × List Int × List Int) := if a0_0 = 2 then (poslist_List_together_fn62_fn63.j0 k true a0_0 l0_1 l0_2 l0_3 a1_0 l1_1 l1_2 l1_3) else (poslist_List_together_fn62_fn63.j0 k (a1_0 == 2) a0_0 l0_1 l0_2 l0_3 a1_0 l1_1 l1_2 l1_3)
theorem poslist_List_together_fn62_fn63.j0_succ (k) (a0) (a1) (a2) (a3) (a4) (a5) (a6) (a7) (a8) : type_of% (@poslist_List_together_fn62_fn63.j0.eq_2 a0 a1 a2 a3 a4 a5 a6 a7 a8 k) := poslist_List_together_fn62_fn63.j0.eq_2 a0 a1 a2 a3 a4 a5 a6 a7 a8 k
def poslist_List_together_fn62_fn63.T2 : Bool × List (List Nat × List Nat) := (true, [([], []), ([], []), ([1], [1]), ([], []), ([3, 2], [3]), ([0, 2, 4, 4], [0, 2, 4]), ([5], [5]), ([6], [6]), ([6], [6]), ([7, 5, 0, 1, 2, 3, 4, 5, 6, 7], [7]), ([8, 9, 0, 1, 2, 3, 4, 5, 6, 7, 8, 9], [8])])
def poslist_List_together_fn62_fn63.B2 : List Nat := [0, 0, 2, 0, 14, 31, 63, 127, 127, 255, 1023]
theorem poslist_List_together_fn62_fn63.tab2 : rtab .any (opsOf Tryz.f55 2) = poslist_List_together_fn62_fn63.T2 := by kernel_rfl
theorem poslist_List_together_fn62_fn63.bits2 : waitsOk poslist_List_together_fn62_fn63.T2.2 poslist_List_together_fn62_fn63.B2 = true := by kernel_rfl
def poslist_List_together_fn62_fn63.T5 : Bool × List (List Nat × List Nat) := (true, [([], []), ([], []), ([1], [1]), ([], []), ([3, 2], [3]), ([0, 2, 4, 4], [0, 2, 4]), ([5], [5]), ([6], [6]), ([6], [6]), ([7, 5, 0, 1, 2, 3, 4, 5, 6, 7], [7]), ([8, 9, 0, 1, 2, 3, 4, 5, 6, 7, 8, 9], [8])])
def poslist_List_together_fn62_fn63.B5 : List Nat := [0, 0, 2, 0, 14, 31, 63, 127, 127, 255, 1023]
theorem poslist_List_together_fn62_fn63.tab5 : rtab .any (opsOf Tryz.f55 5) = poslist_List_together_fn62_fn63.T5 := by kernel_rfl
theorem poslist_List_together_fn62_fn63.bits5 : waitsOk poslist_List_together_fn62_fn63.T5.2 poslist_List_together_fn62_fn63.B5 = true := by kernel_rfl
set_option maxHeartbeats 8000000 in
set_option maxRecDepth 100000 in
theorem poslist_List_together_fn62_fn63.calls (k : Nat) (a0_0 : Int) (A0_1 : Option Addr) (c0_1 : Nat) (l0_1 : List (S64)) (A0_2 : Option Addr) (c0_2 : Nat) (l0_2 : List Int) (A0_3 : Option Addr) (c0_3 : Nat) (l0_3 : List Int) (a1_0 : Int) (A1_1 : Option Addr) (c1_1 : Nat) (l1_1 : List (S64)) (A1_2 : Option Addr) (c1_2 : Nat) (l1_2 : List Int) (A1_3 : Option Addr) (c1_3 : Nat) (l1_3 : List Int)   (r1 : Int) (r2 : List (S64)) (r3 : List Int) (r4 : List Int) (w : World) (hr0_1 : Kd.C k64 w A0_1 l0_1.length l0_1) (hc0_1 : l0_1.length ≤ c0_1) (hr0_2 : Kd.C (Kd.int .i64) w A0_2 l0_2.length l0_2) (hc0_2 : l0_2.length ≤ c0_2) (hr0_3 : Kd.C (Kd.int .i64) w A0_3 l0_3.length l0_3) (hc0_3 : l0_3.length ≤ c0_3) (hr1_1 : Kd.C k64 w A1_1 l1_1.length l1_1) (hc1_1 : l1_1.length ≤ c1_1) (hr1_2 : Kd.C (Kd.int .i64) w A1_2 l1_2.length l1_2) (hc1_2 : l1_2.length ≤ c1_2) (hr1_3 : Kd.C (Kd.int .i64) w A1_3 l1_3.length l1_3) (hc1_3 : l1_3.length ≤ c1_3) (h : poslist_List_together_fn62_fn63.f k a0_0 l0_1 l0_2 l0_3 a1_0 l1_1 l1_2 l1_3 = some (r1, r2, r3, r4)) :
  Calls Tryz.prog 55 #[.agg #[.int .i64 a0_0, .slice A0_1 l0_1.length c0_1, .slice A0_2 l0_2.length c0_2, .slice A0_3 l0_3.length c0_3], .agg #[.int .i64 a1_0, .slice A1_1 l1_1.length c1_1, .slice A1_2 l1_2.length c1_2, .slice A1_3 l1_3.length c1_3], .func (.func 62) #[] #[], .func (.func 63) #[] #[]] w fun e w' => ∃ v1_ v2_ v3_ : Value, e = .returned (.agg #[.int .i64 r1, v1_, v2_, v3_]) ∧ Kd.R k64 64 w' w.heap.size (fun _ => True) v1_ r2 ∧ Kd.R (Kd.int .i64) 3 w' w.heap.size (fun k_ => some k_ ≠ (v3_ : Value).ownBlock) v2_ r3 ∧ Kd.R (Kd.int .i64) 3 w' w.heap.size (fun k_ => some k_ ≠ (v2_ : Value).ownBlock) v3_ r4 ∧ Below w.heap.size w w' := by
 have hu27 := Tryz.underlying27
 have HR0_1 := Aside0.mk hr0_1
 have HC0_1 := Aside0.mk hc0_1
 clear hr0_1 hc0_1
 have HR0_2 := Aside0.mk hr0_2
 have HC0_2 := Aside0.mk hc0_2
 clear hr0_2 hc0_2
 have HR0_3 := Aside0.mk hr0_3
 have HC0_3 := Aside0.mk hc0_3
 clear hr0_3 hc0_3
 have HR1_1 := Aside0.mk hr1_1
 have HC1_1 := Aside0.mk hc1_1
 clear hr1_1 hc1_1
 have HR1_2 := Aside0.mk hr1_2
 have HC1_2 := Aside0.mk hc1_2
 clear hr1_2 hc1_2
 have HR1_3 := Aside0.mk hr1_3
 have HC1_3 := Aside0.mk hc1_3
 clear hr1_3 hc1_3
 have HB := Aside0.mk (Below.refl w.heap.size w)
 have H := h
 clear h
 unfold poslist_List_together_fn62_fn63.f at H
 have HC5 := Aside0.mk H
 clear H
 go_enter Tryz.func55, Tryz.ntmps55
 go_upto_region 1 with (first | ((with_reducible refine gate_dst (N := 4) rfl ?_); refine boxE HB 4 27 #[.int .i64 a0_0, .slice A0_1 l0_1.length c0_1, .slice A0_2 l0_2.length c0_2, .slice A0_3 l0_3.length c0_3] ?_; clear HB; intro gb420 w6 BK420 GW420 hg hb HB; have GE420 := GW420; clear hb hg) | ((with_reducible refine gate_dst (N := 5) rfl ?_); refine boxE HB 5 27 #[.int .i64 a1_0, .slice A1_1 l1_1.length c1_1, .slice A1_2 l1_2.length c1_2, .slice A1_3 l1_3.length c1_3] ?_; clear HB; intro gb421 w7 BK421 GW421 hg hb HB; have GE421 := GW421; have NB420_421 := bna BK420 hg; have NB421_420 := bma BK420 hg; replace BK420 := bba BK420 hb; clear hb hg) | ((with_reducible refine gate_dst (N := 8) rfl ?_); refine boxE HB 8 27 #[.int .i64 0, .slice none 0 0, .slice none 0 0, .slice none 0 0] ?_; clear HB; intro gb422 w8 BK422 GW422 hg hb HB; have GE422 := GW422; have NB420_422 := bna BK420 hg; have NB422_420 := bma BK420 hg; replace BK420 := bba BK420 hb; have NB421_422 := bna BK421 hg; have NB422_421 := bma BK421 hg; replace BK421 := bba BK421 hb; clear hb hg))
 (simp only [Act.put, List.setIfInBounds_toArray, List.set_cons_zero, List.set_cons_succ])
 go_cut [22] (fun v22 wc => ∃ (kq : Nat) (x22_4 : Bool), v22 = .bool x22_4 ∧ Aside0 (poslist_List_together_fn62_fn63.j0 kq x22_4 a0_0 l0_1 l0_2 l0_3 a1_0 l1_1 l1_2 l1_3 = some (r1, r2, r3, r4)) ∧ Aside0 (kq ≤ k) ∧ Aside0 (wc.heap[gb420]? = some (.cells #[.int .i64 a0_0, (.slice A0_1 l0_1.length c0_1), (.slice A0_2 l0_2.length c0_2), (.slice A0_3 l0_3.length c0_3)] 27 (0, 0))) ∧ Aside0 (wc.heap[gb421]? = some (.cells #[.int .i64 a1_0, (.slice A1_1 l1_1.length c1_1), (.slice A1_2 l1_2.length c1_2), (.slice A1_3 l1_3.length c1_3)] 27 (0, 0))) ∧ Aside0 (wc.heap[gb422]? = some (.cells #[.int .i64 0, (.slice none 0 0), (.slice none 0 0), (.slice none 0 0)] 27 (0, 0))) ∧ Aside0 (Below w.heap.size w wc))
 case first =>
  have H := HC5.out
  clear HC5
  replace H := ife H
  rcases H with ⟨-, c9b0, c9b1, H⟩ | ⟨c9, c9b0, c9b1, H⟩
  ·(skip)
   have H' := Aside0.mk H
   clear H
   have hnb10 := NB420_421.out
   have hnc10 := NB421_420.out
   have hnb11 := NB420_422.out
   have hnc11 := NB422_420.out
   obtain ⟨hcz12_0, hcz12_1, hcz12_2, hcz12_3, hfz12_0, hfz12_1, hfz12_2, hfz12_3⟩ := b4 BK420
   go_wp2
   go_meet
   case rel => exact ⟨_, (true), (by rfl), H', ⟨by omega⟩, ⟨bx BK420.out⟩, ⟨bx BK421.out⟩, ⟨bx BK422.out⟩, ⟨bh HB.out⟩⟩
  ·(skip)
   have H' := Aside0.mk H
   clear H
   have hnb13 := NB420_421.out
   have hnc13 := NB421_420.out
   have hnb14 := NB420_422.out
   have hnc14 := NB422_420.out
   obtain ⟨hcz15_0, hcz15_1, hcz15_2, hcz15_3, hfz15_0, hfz15_1, hfz15_2, hfz15_3⟩ := b4 BK420
   have hnb16 := NB421_422.out
   have hnc16 := NB422_421.out
   obtain ⟨hcz17_0, hcz17_1, hcz17_2, hcz17_3, hfz17_0, hfz17_1, hfz17_2, hfz17_3⟩ := b4 BK421
   go_wp2
   go_meet
   case rel => exact ⟨_, ((a1_0 == 2)), (by rfl), H', ⟨by omega⟩, ⟨bx BK420.out⟩, ⟨bx BK421.out⟩, ⟨bx BK422.out⟩, ⟨bh HB.out⟩⟩
 case rest =>
  clear HC5
  obtain ⟨kq, x22_4, rfl, HA, HJ4, BK420, BK421, BK422, HB⟩ := hcut
  cases kq with
  | zero => exact absurd HA.out (by simp [poslist_List_together_fn62_fn63.j0])
  | succ kj4 =>
   have H := HA.out
   clear HA
   simp only [poslist_List_together_fn62_fn63.j0] at H
   replace H := ifb H
   rcases H with ⟨rfl, H⟩ | ⟨rfl, H⟩
   ·replace H := bd H
    obtain ⟨t423, A19, H⟩ := H
    replace H := bd H
    obtain ⟨t426, A20, H⟩ := H
    replace H := bd H
    obtain ⟨⟨t429, t432⟩, A21, H⟩ := H
    dsimp only at H
    replace H := bd H
    obtain ⟨⟨t433, t434⟩, A22, H⟩ := H
    dsimp only at H
    replace H := bd H
    obtain ⟨⟨t437, t438, t441, t444⟩, A23, H⟩ := H
    dsimp only at H
    simp only [Option.some.injEq, Prod.mk.injEq] at H
    obtain ⟨rfl, rfl, rfl, rfl⟩ := H
    go_wp2
    replace BK420 := Aside0.mk (blk_drew BK420.out)
    replace BK421 := Aside0.mk (blk_drew BK421.out)
    replace BK422 := Aside0.mk (blk_drew BK422.out)
    replace HB := Aside0.mk (below_drew1 HB.out)
    refine start_ (n := 11) (S := fun w' => w'.cell? ⟨gb420, 0, none⟩ = some (.int .i64 a0_0) ∧ w'.cell? ⟨gb420, 1, none⟩ = some (.slice A0_1 l0_1.length c0_1) ∧ w'.cell? ⟨gb420, 2, none⟩ = some (.slice A0_2 l0_2.length c0_2) ∧ w'.cell? ⟨gb420, 3, none⟩ = some (.slice A0_3 l0_3.length c0_3) ∧ w'.cell? ⟨gb421, 0, none⟩ = some (.int .i64 a1_0) ∧ w'.cell? ⟨gb421, 1, none⟩ = some (.slice A1_1 l1_1.length c1_1) ∧ w'.cell? ⟨gb421, 2, none⟩ = some (.slice A1_2 l1_2.length c1_2) ∧ w'.cell? ⟨gb421, 3, none⟩ = some (.slice A1_3 l1_3.length c1_3)) (ds := []) #[false, false, false, false, false, false, false, false, false, false, false] (by kernel_rfl) rfl rfl ⟨(blk_cell BK420.out 0).trans rfl, (blk_cell BK420.out 1).trans rfl, (blk_cell BK420.out 2).trans rfl, (blk_cell BK420.out 3).trans rfl, (blk_cell BK421.out 0).trans rfl, (blk_cell BK421.out 1).trans rfl, (blk_cell BK421.out 2).trans rfl, (blk_cell BK421.out 3).trans rfl⟩ (fun hHeld => ?_); refine with_tabW poslist_List_together_fn62_fn63.tab2 poslist_List_together_fn62_fn63.bits2 (fun HT_ HW_ => ?_)
    generalize wc.drew = w24 at BK420 BK421 BK422 HB hHeld ⊢
    refine puA HT_ 0 24 (bv 11 1) ?_
    refine taA HT_ HW_ hHeld 1 25 (bv 11 3) ?_
    refine taA HT_ HW_ hHeld 3 27 (bv 11 11) ?_
    refine one_ (i := 2) (N := some 26) #[true, true, true, true, false, false, false, false, false, false, false] rfl rfl (one_of HT_.out (by kernel_rfl)) (by decide) (fun K hK => ?_)
    refine goes_ Tryz.func84 (by kernel_rfl) rfl #[.agg #[.int .i64 a0_0, .slice A0_1 l0_1.length c0_1, .slice A0_2 l0_2.length c0_2, .slice A0_3 l0_3.length c0_3]] (by rfl) rfl rfl (by (simp only [List.map_toArray, List.map_cons, List.map_nil]); rfl) ?_
    with_reducible refine (poslist_List_bits.calls kj4 a0_0 _ _ l0_1 (fun k_ => k_ < w.heap.size) _ _ l0_2 _ _ l0_3 t423 _ ?side1 ?side2 ?side3 ?side4 ?side5 A19.out).mono ?_
    (case side1 => exact cx (Kd.C_below HR0_1.out HB.out))
    (case side2 => exact HC0_1.out)
    (case side3 => exact Kd.V_mk HC0_2.out (Kd.F_below (Kd.C_F (Kd.heap_int .i64) HR0_2.out) (bh HB.out)))
    (case side4 => exact cx (Kd.C_below HR0_3.out HB.out))
    (case side5 => exact HC0_3.out)
    rintro e w25 ⟨v424, rfl, ho0, hb⟩
    refine ⟨_, rfl, ?_⟩
    have HO425 := Aside0.mk (Kd.V_lower (Kd.V_mono (ok' := fun k_ => k_ ≠ gb420 ∧ k_ ≠ gb421 ∧ k_ ≠ gb422) ho0 (fun k_ hk_ => ⟨Or.elim hk_ (fun hs_ => fun e_ => Nat.not_le.2 hs_ (by rw [e_]; exact GW420.out)) (fun hn_ => (Kd.freshB (g := gb420) (o := .cells #[.int .i64 a0_0, .slice A0_1 l0_1.length c0_1, .slice A0_2 l0_2.length c0_2, .slice A0_3 l0_3.length c0_3] 27 (0, 0)) (bx BK420.out) k_ hn_)), Or.elim hk_ (fun hs_ => fun e_ => Nat.not_le.2 hs_ (by rw [e_]; exact GW421.out)) (fun hn_ => (Kd.freshB (g := gb421) (o := .cells #[.int .i64 a1_0, .slice A1_1 l1_1.length c1_1, .slice A1_2 l1_2.length c1_2, .slice A1_3 l1_3.length c1_3] 27 (0, 0)) (bx BK421.out) k_ hn_)), Or.elim hk_ (fun hs_ => fun e_ => Nat.not_le.2 hs_ (by rw [e_]; exact GW422.out)) (fun hn_ => (Kd.freshB (g := gb422) (o := .cells #[.int .i64 0, .slice none 0 0, .slice none 0 0, .slice none 0 0] 27 (0, 0)) (bx BK422.out) k_ hn_))⟩)) (below_size (bh HB.out)))
    replace BK420 := bba BK420 hb
    replace BK421 := bba BK421 hb
    replace BK422 := bba BK422 hb
    replace HB := bsa HB hb
    clear hb ho0
    refine hK.out _ _ ⟨(blk_cell BK420.out 0).trans rfl, (blk_cell BK420.out 1).trans rfl, (blk_cell BK420.out 2).trans rfl, (blk_cell BK420.out 3).trans rfl, (blk_cell BK421.out 0).trans rfl, (blk_cell BK421.out 1).trans rfl, (blk_cell BK421.out 2).trans rfl, (blk_cell BK421.out 3).trans rfl⟩ (fun hHeld => ?_)
    clear hK K
    refine norm_ (a' := ?_) ?_ ?_
    rotate_left
    ·show Act.put _ (some 26) _ = _
     simp only [Act.put, List.setIfInBounds_toArray, List.set_cons_zero, List.set_cons_succ, i64_w, i32_w]
     rfl
    refine one_ (i := 4) (N := some 28) #[true, true, true, true, true, false, false, false, false, false, false] rfl rfl (one_of HT_.out (by kernel_rfl)) (by decide) (fun K hK => ?_)
    refine goes_ Tryz.func84 (by kernel_rfl) rfl #[.agg #[.int .i64 a1_0, .slice A1_1 l1_1.length c1_1, .slice A1_2 l1_2.length c1_2, .slice A1_3 l1_3.length c1_3]] (by rfl) rfl rfl (by (simp only [List.map_toArray, List.map_cons, List.map_nil]); rfl) ?_
    with_reducible refine (poslist_List_bits.calls kj4 a1_0 _ _ l1_1 (fun k_ => k_ < w.heap.size) _ _ l1_2 _ _ l1_3 t426 _ ?side1 ?side2 ?side3 ?side4 ?side5 A20.out).mono ?_
    (case side1 => exact cx (Kd.C_below HR1_1.out HB.out))
    (case side2 => exact HC1_1.out)
    (case side3 => exact Kd.V_mk HC1_2.out (Kd.F_below (Kd.C_F (Kd.heap_int .i64) HR1_2.out) (bh HB.out)))
    (case side4 => exact cx (Kd.C_below HR1_3.out HB.out))
    (case side5 => exact HC1_3.out)
    rintro e w26 ⟨v427, rfl, ho0, hb⟩
    refine ⟨_, rfl, ?_⟩
    replace HO425 := Aside0.mk (Kd.V_below (by exact HO425.out) hb)
    have HO428 := Aside0.mk (Kd.V_lower (Kd.V_mono (ok' := fun k_ => k_ ≠ gb420 ∧ k_ ≠ gb421 ∧ k_ ≠ gb422) ho0 (fun k_ hk_ => ⟨Or.elim hk_ (fun hs_ => fun e_ => Nat.not_le.2 hs_ (by rw [e_]; exact GW420.out)) (fun hn_ => (Kd.freshB (g := gb420) (o := .cells #[.int .i64 a0_0, .slice A0_1 l0_1.length c0_1, .slice A0_2 l0_2.length c0_2, .slice A0_3 l0_3.length c0_3] 27 (0, 0)) (bx BK420.out) k_ hn_)), Or.elim hk_ (fun hs_ => fun e_ => Nat.not_le.2 hs_ (by rw [e_]; exact GW421.out)) (fun hn_ => (Kd.freshB (g := gb421) (o := .cells #[.int .i64 a1_0, .slice A1_1 l1_1.length c1_1, .slice A1_2 l1_2.length c1_2, .slice A1_3 l1_3.length c1_3] 27 (0, 0)) (bx BK421.out) k_ hn_)), Or.elim hk_ (fun hs_ => fun e_ => Nat.not_le.2 hs_ (by rw [e_]; exact GW422.out)) (fun hn_ => (Kd.freshB (g := gb422) (o := .cells #[.int .i64 0, .slice none 0 0, .slice none 0 0, .slice none 0 0] 27 (0, 0)) (bx BK422.out) k_ hn_))⟩)) (below_size (bh HB.out)))
    replace BK420 := bba BK420 hb
    replace BK421 := bba BK421 hb
    replace BK422 := bba BK422 hb
    replace HB := bsa HB hb
    clear hb ho0
    obtain ⟨Ao27, co27, eo27⟩ := Kd.V_slice HO425.out
    (subst eo27)
    obtain ⟨Ao28, co28, eo28⟩ := Kd.V_slice HO428.out
    (subst eo28)
    refine hK.out _ _ ⟨(blk_cell BK420.out 0).trans rfl, (blk_cell BK420.out 1).trans rfl, (blk_cell BK420.out 2).trans rfl, (blk_cell BK420.out 3).trans rfl, (blk_cell BK421.out 0).trans rfl, (blk_cell BK421.out 1).trans rfl, (blk_cell BK421.out 2).trans rfl, (blk_cell BK421.out 3).trans rfl⟩ (fun hHeld => ?_)
    clear hK K
    refine norm_ (a' := ?_) ?_ ?_
    rotate_left
    ·show Act.put _ (some 28) _ = _
     simp only [Act.put, List.setIfInBounds_toArray, List.set_cons_zero, List.set_cons_succ, i64_w, i32_w]
     rfl
    refine one_ (i := 5) (N := some 29) #[true, true, true, true, true, true, false, false, false, false, false] rfl rfl (one_of HT_.out (by kernel_rfl)) (by decide) (fun K hK => ?_)
    (refine goesW_ Tryz.func62 (by kernel_rfl) rfl #[.slice Ao27 t423.length co27, .slice Ao28 t426.length co28] (by rfl) rfl rfl rfl (by (simp only [List.map_toArray, List.map_cons, List.map_nil]); rfl) ?_)
    with_reducible refine (words_Less.calls kj4 _ _ t423 _ _ t426 t429 t432 _ ?side1 ?side2 ?side3 ?side4 A21.out).mono ?_
    (case side1 => exact cx (Kd.V_reads' HO425.out).2.2)
    (case side2 => exact (Kd.V_reads' HO425.out).2.1)
    (case side3 => exact cx (Kd.V_reads' HO428.out).2.2)
    (case side4 => exact (Kd.V_reads' HO428.out).2.1)
    rintro e w29 ⟨v430, rfl, ho0, hb⟩
    refine ⟨_, rfl, ?_⟩
    replace HO425 := Aside0.mk (Kd.V_below (by exact HO425.out) hb)
    replace HO428 := Aside0.mk (Kd.V_below (by exact HO428.out) hb)
    have HO431 := Aside0.mk (Kd.V_lower (Kd.V_mono (ok' := fun k_ => k_ ≠ gb420 ∧ k_ ≠ gb421 ∧ k_ ≠ gb422) ho0 (fun k_ hk_ => ⟨(Kd.freshB (g := gb420) (o := .cells #[.int .i64 a0_0, .slice A0_1 l0_1.length c0_1, .slice A0_2 l0_2.length c0_2, .slice A0_3 l0_3.length c0_3] 27 (0, 0)) (bx BK420.out) k_ hk_), (Kd.freshB (g := gb421) (o := .cells #[.int .i64 a1_0, .slice A1_1 l1_1.length c1_1, .slice A1_2 l1_2.length c1_2, .slice A1_3 l1_3.length c1_3] 27 (0, 0)) (bx BK421.out) k_ hk_), (Kd.freshB (g := gb422) (o := .cells #[.int .i64 0, .slice none 0 0, .slice none 0 0, .slice none 0 0] 27 (0, 0)) (bx BK422.out) k_ hk_)⟩)) (below_size (bh HB.out)))
    replace BK420 := bba BK420 hb
    replace BK421 := bba BK421 hb
    replace BK422 := bba BK422 hb
    replace HB := bsa HB hb
    clear hb ho0
    refine hK.out _ _ ⟨(blk_cell BK420.out 0).trans rfl, (blk_cell BK420.out 1).trans rfl, (blk_cell BK420.out 2).trans rfl, (blk_cell BK420.out 3).trans rfl, (blk_cell BK421.out 0).trans rfl, (blk_cell BK421.out 1).trans rfl, (blk_cell BK421.out 2).trans rfl, (blk_cell BK421.out 3).trans rfl⟩ (fun hHeld => ?_)
    clear hK K
    refine norm_ (a' := ?_) ?_ ?_
    rotate_left
    ·show Act.put _ (some 29) _ = _
     simp only [Act.put, List.setIfInBounds_toArray, List.set_cons_zero, List.set_cons_succ, i64_w, i32_w]
     rfl
    refine puA HT_ 6 23 (bv 11 127) ?_
    refine puA HT_ 7 30 (bv 11 255) ?_
    refine puA HT_ 8 31 (bv 11 511) ?_
    refine puA HT_ 9 9 (bv 11 1023) ?_
    refine puA HT_ 10 10 (bv 11 2047) ?_
    refine done_ (done_of HT_.out (by kernel_rfl)) ?_
    obtain ⟨Ao30, co30, eo30⟩ := Kd.V_slice HO431.out
    subst eo30
    go_wp2_with (first | ((with_reducible refine gate_callee (f := 53) rfl ?_); refine gL 34 Tryz.func53 #[.slice Ao30 t429.length co30] ?_; (with_reducible refine (words_Spans.calls kj4 _ _ t429 t433 t434 _ ?side1 ?side2 A22.out).mono ?_); (case side1 => exact cx (Kd.V_reads' HO431.out).2.2); (case side2 => exact (Kd.V_reads' HO431.out).2.1); rintro e w31 ⟨v435, rfl, ho0, hb⟩; refine ⟨_, rfl, ?_⟩; replace HO425 := Aside0.mk (Kd.V_elder' (by exact HO425.out) (Kd.R_base ho0) hb); replace HO428 := Aside0.mk (Kd.V_elder' (by exact HO428.out) (Kd.R_base ho0) hb); replace HO431 := Aside0.mk (Kd.V_elder' (by exact HO431.out) (Kd.R_base ho0) hb); have HO436 := Aside0.mk (Kd.R_lower ho0 (below_size (bh HB.out))); replace BK420 := bba BK420 hb; replace BK421 := bba BK421 hb; replace BK422 := bba BK422 hb; replace HB := bsa HB hb; clear hb ho0; obtain ⟨Ao32, co32, eo32⟩ := Kd.R_slice HO436.out; subst eo32) | ((with_reducible refine gate_callee (f := 64) rfl ?_); refine gL 38 Tryz.func64 #[.slice Ao32 t433.length co32] ?_; (with_reducible refine (poslist_best.calls kj4 _ _ t433 t437 t438 t441 t444 _ ?side1 ?side2 A23.out).mono ?_); (case side1 => exact cx (Kd.R_reads' HO436.out).2.2); (case side2 => exact (Kd.R_reads' HO436.out).2.1); rintro e w33 ⟨v439, v442, v445, rfl, ho0, ho1, ho2, hb⟩; refine ⟨_, rfl, ?_⟩; replace HO425 := Aside0.mk (Kd.V_mono (Kd.V_told (Kd.V_told (Kd.V_told (Kd.V_old (by exact HO425.out) hb) (Kd.R_base ho0)) (Kd.R_base ho1)) (Kd.R_base ho2)) (fun _ h_ => h_.1)); replace HO428 := Aside0.mk (Kd.V_mono (Kd.V_told (Kd.V_told (Kd.V_told (Kd.V_old (by exact HO428.out) hb) (Kd.R_base ho0)) (Kd.R_base ho1)) (Kd.R_base ho2)) (fun _ h_ => h_.1)); replace HO431 := Aside0.mk (Kd.V_mono (Kd.V_told (Kd.V_told (Kd.V_told (Kd.V_old (by exact HO431.out) hb) (Kd.R_base ho0)) (Kd.R_base ho1)) (Kd.R_base ho2)) (fun _ h_ => h_.1)); have HO440 := Aside0.mk (Kd.R_lower (Kd.R_new' ho0 (Kd.R_lt (rx HO436.out))) (below_size (bh HB.out))); replace HO436 := Aside0.mk (Kd.R_elder' (rx HO436.out) (Kd.R_base ho0) hb); have HO443 := Aside0.mk (Kd.R_lower ho1 (below_size (bh HB.out))); have HO446 := Aside0.mk (Kd.R_lower ho2 (below_size (bh HB.out))); replace BK420 := bba BK420 hb; replace BK421 := bba BK421 hb; replace BK422 := bba BK422 hb; replace HB := bsa HB hb; clear hb ho0 ho1 ho2; have hnb34 := NB422_420.out; have hnc34 := NB420_422.out; have hnb35 := NB422_421.out; have hnc35 := NB421_422.out; obtain ⟨hcz36_0, hcz36_1, hcz36_2, hcz36_3, hfz36_0, hfz36_1, hfz36_2, hfz36_3⟩ := b4 BK422; obtain ⟨Ao37, co37, eo37⟩ := Kd.R_slice HO440.out; subst eo37; obtain ⟨Ao38, co38, eo38⟩ := Kd.R_slice HO443.out; subst eo38; obtain ⟨Ao39, co39, eo39⟩ := Kd.R_slice HO446.out; subst eo39) | ((with_reducible refine gate_store (t := 27) (p := 8) rfl ?_); refine stE 27 8 ((((w33.setCell ⟨gb422, 0, none⟩ (.int .i64 t437)).setCell ⟨gb422, 1, none⟩ (.slice Ao37 t438.length co37)).setCell ⟨gb422, 2, none⟩ (.slice Ao38 t441.length co38)).setCell ⟨gb422, 3, none⟩ (.slice Ao39 t444.length co39)) ?_; intro w40 hw; have n0_ : Aside0 (Kd.V (Kd.int .i64) 3 w40 w.heap.size (fun k_ => some k_ ≠ (.slice Ao32 t433.length co32 : Value).ownBlock ∧ some k_ ≠ (.slice Ao37 t438.length co37 : Value).ownBlock ∧ some k_ ≠ (.slice Ao38 t441.length co38 : Value).ownBlock ∧ some k_ ≠ (.slice Ao39 t444.length co39 : Value).ownBlock ∧ k_ ≠ gb420 ∧ k_ ≠ gb421 ∧ k_ ≠ gb422) (.slice Ao27 t423.length co27) t423) := ⟨(by rw [hw]; exact (by exact Kd.V_mono (Kd.V_far (p := ⟨gb422, 3, none⟩) (Kd.V_far (p := ⟨gb422, 2, none⟩) (Kd.V_far (p := ⟨gb422, 1, none⟩) (Kd.V_far (p := ⟨gb422, 0, none⟩) (Kd.V_mono HO425.out (fun k_ hk => (⟨hk, hk.1.1.1.1.2.2⟩ : _ ∧ k_ ≠ gb422))) (fun _ hk => hk.2) (.int .i64 t437)) (fun _ hk => hk.2) (.slice Ao37 t438.length co37)) (fun _ hk => hk.2) (.slice Ao38 t441.length co38)) (fun _ hk => hk.2) (.slice Ao39 t444.length co39)) (fun _ hk => ⟨hk.1.1.1.1.2, ⟨hk.1.1.1.2, ⟨hk.1.1.2, ⟨hk.1.2, ⟨hk.1.1.1.1.1.1, ⟨hk.1.1.1.1.1.2.1, hk.1.1.1.1.1.2.2⟩⟩⟩⟩⟩⟩)))⟩; have n1_ : Aside0 (Kd.V (Kd.int .i64) 3 w40 w.heap.size (fun k_ => some k_ ≠ (.slice Ao32 t433.length co32 : Value).ownBlock ∧ some k_ ≠ (.slice Ao37 t438.length co37 : Value).ownBlock ∧ some k_ ≠ (.slice Ao38 t441.length co38 : Value).ownBlock ∧ some k_ ≠ (.slice Ao39 t444.length co39 : Value).ownBlock ∧ k_ ≠ gb420 ∧ k_ ≠ gb421 ∧ k_ ≠ gb422) (.slice Ao28 t426.length co28) t426) := ⟨(by rw [hw]; exact (by exact Kd.V_mono (Kd.V_far (p := ⟨gb422, 3, none⟩) (Kd.V_far (p := ⟨gb422, 2, none⟩) (Kd.V_far (p := ⟨gb422, 1, none⟩) (Kd.V_far (p := ⟨gb422, 0, none⟩) (Kd.V_mono HO428.out (fun k_ hk => (⟨hk, hk.1.1.1.1.2.2⟩ : _ ∧ k_ ≠ gb422))) (fun _ hk => hk.2) (.int .i64 t437)) (fun _ hk => hk.2) (.slice Ao37 t438.length co37)) (fun _ hk => hk.2) (.slice Ao38 t441.length co38)) (fun _ hk => hk.2) (.slice Ao39 t444.length co39)) (fun _ hk => ⟨hk.1.1.1.1.2, ⟨hk.1.1.1.2, ⟨hk.1.1.2, ⟨hk.1.2, ⟨hk.1.1.1.1.1.1, ⟨hk.1.1.1.1.1.2.1, hk.1.1.1.1.1.2.2⟩⟩⟩⟩⟩⟩)))⟩; have n2_ : Aside0 (Kd.V (Kd.int .i64) 3 w40 w.heap.size (fun k_ => some k_ ≠ (.slice Ao32 t433.length co32 : Value).ownBlock ∧ some k_ ≠ (.slice Ao37 t438.length co37 : Value).ownBlock ∧ some k_ ≠ (.slice Ao38 t441.length co38 : Value).ownBlock ∧ some k_ ≠ (.slice Ao39 t444.length co39 : Value).ownBlock ∧ k_ ≠ gb420 ∧ k_ ≠ gb421 ∧ k_ ≠ gb422) (.slice Ao30 t429.length co30) t429) := ⟨(by rw [hw]; exact (by exact Kd.V_mono (Kd.V_far (p := ⟨gb422, 3, none⟩) (Kd.V_far (p := ⟨gb422, 2, none⟩) (Kd.V_far (p := ⟨gb422, 1, none⟩) (Kd.V_far (p := ⟨gb422, 0, none⟩) (Kd.V_mono HO431.out (fun k_ hk => (⟨hk, hk.1.1.1.1.2.2⟩ : _ ∧ k_ ≠ gb422))) (fun _ hk => hk.2) (.int .i64 t437)) (fun _ hk => hk.2) (.slice Ao37 t438.length co37)) (fun _ hk => hk.2) (.slice Ao38 t441.length co38)) (fun _ hk => hk.2) (.slice Ao39 t444.length co39)) (fun _ hk => ⟨hk.1.1.1.1.2, ⟨hk.1.1.1.2, ⟨hk.1.1.2, ⟨hk.1.2, ⟨hk.1.1.1.1.1.1, ⟨hk.1.1.1.1.1.2.1, hk.1.1.1.1.1.2.2⟩⟩⟩⟩⟩⟩)))⟩; have n3_ := rsm (fun k_ => some k_ ≠ (.slice Ao37 t438.length co37 : Value).ownBlock) HO436 hw (fun _ hk => hk.2); have n4_ := rsm (fun k_ => some k_ ≠ (.slice Ao32 t433.length co32 : Value).ownBlock) HO440 hw (fun _ hk => hk.2); have n5_ := rst HO443 hw; have n6_ := rst HO446 hw; have n7_ : Aside0 (w40.heap[gb420]? = some (.cells #[.int .i64 a0_0, .slice A0_1 l0_1.length c0_1, .slice A0_2 l0_2.length c0_2, .slice A0_3 l0_3.length c0_3] 27 (0, 0))) := ⟨(by rw [hw]; exact (bx BK420.out))⟩; have n8_ : Aside0 (w40.heap[gb421]? = some (.cells #[.int .i64 a1_0, .slice A1_1 l1_1.length c1_1, .slice A1_2 l1_2.length c1_2, .slice A1_3 l1_3.length c1_3] 27 (0, 0))) := ⟨(by rw [hw]; exact (bx BK421.out))⟩; have n9_ := sps #[.int .i64 t437, .slice Ao37 t438.length co37, .slice Ao38 t441.length co38, .slice Ao39 t444.length co39] BK422 hw (.p (.p (.p (.p .nil)))); have n10_ := bhw HB hw; clear hw HO425 HO428 HO431 HO436 HO440 HO443 HO446 BK420 BK421 BK422 HB; have HO425 := n0_; have HO428 := n1_; have HO431 := n2_; have HO436 := n3_; have HO440 := n4_; have HO443 := n5_; have HO446 := n6_; have BK420 := n7_; have BK421 := n8_; have BK422 := n9_; have HB := n10_; clear n0_ n1_ n2_ n3_ n4_ n5_ n6_ n7_ n8_ n9_ n10_))
    refine bodyPost_ret (results_cell_row rfl _ _ gb422 27 #[.int .i64 t437, .slice Ao37 t438.length co37, .slice Ao38 t441.length co38, .slice Ao39 t444.length co39] (0, 0) _ rfl (bx BK422.out) Tryz.underlying27 rfl (by kernel_rfl)) rfl ?_
    exact ⟨_, _, _, er, by exact Kd.R_mono HO440.out (fun _ hk => trivial), by exact HO443.out, by exact HO446.out, bh HB.out⟩
   ·replace H := bd H
    obtain ⟨t447, A41, H⟩ := H
    replace H := bd H
    obtain ⟨t450, A42, H⟩ := H
    replace H := bd H
    obtain ⟨⟨t453, t454⟩, A43, H⟩ := H
    dsimp only at H
    replace H := bd H
    obtain ⟨⟨t457, t458, t461, t464⟩, A44, H⟩ := H
    dsimp only at H
    simp only [Option.some.injEq, Prod.mk.injEq] at H
    obtain ⟨rfl, rfl, rfl, rfl⟩ := H
    go_wp2
    replace BK420 := Aside0.mk (blk_drew BK420.out)
    replace BK421 := Aside0.mk (blk_drew BK421.out)
    replace BK422 := Aside0.mk (blk_drew BK422.out)
    replace HB := Aside0.mk (below_drew1 HB.out)
    refine start_ (n := 11) (S := fun w' => w'.cell? ⟨gb420, 0, none⟩ = some (.int .i64 a0_0) ∧ w'.cell? ⟨gb420, 1, none⟩ = some (.slice A0_1 l0_1.length c0_1) ∧ w'.cell? ⟨gb420, 2, none⟩ = some (.slice A0_2 l0_2.length c0_2) ∧ w'.cell? ⟨gb420, 3, none⟩ = some (.slice A0_3 l0_3.length c0_3) ∧ w'.cell? ⟨gb421, 0, none⟩ = some (.int .i64 a1_0) ∧ w'.cell? ⟨gb421, 1, none⟩ = some (.slice A1_1 l1_1.length c1_1) ∧ w'.cell? ⟨gb421, 2, none⟩ = some (.slice A1_2 l1_2.length c1_2) ∧ w'.cell? ⟨gb421, 3, none⟩ = some (.slice A1_3 l1_3.length c1_3)) (ds := []) #[false, false, false, false, false, false, false, false, false, false, false] (by kernel_rfl) rfl rfl ⟨(blk_cell BK420.out 0).trans rfl, (blk_cell BK420.out 1).trans rfl, (blk_cell BK420.out 2).trans rfl, (blk_cell BK420.out 3).trans rfl, (blk_cell BK421.out 0).trans rfl, (blk_cell BK421.out 1).trans rfl, (blk_cell BK421.out 2).trans rfl, (blk_cell BK421.out 3).trans rfl⟩ (fun hHeld => ?_); refine with_tabW poslist_List_together_fn62_fn63.tab5 poslist_List_together_fn62_fn63.bits5 (fun HT_ HW_ => ?_)
    generalize wc.drew = w45 at BK420 BK421 BK422 HB hHeld ⊢
    refine puA HT_ 0 40 (bv 11 1) ?_
    refine taA HT_ HW_ hHeld 1 41 (bv 11 3) ?_
    refine taA HT_ HW_ hHeld 3 43 (bv 11 11) ?_
    refine one_ (i := 2) (N := some 42) #[true, true, true, true, false, false, false, false, false, false, false] rfl rfl (one_of HT_.out (by kernel_rfl)) (by decide) (fun K hK => ?_)
    refine goes_ Tryz.func20 (by kernel_rfl) rfl #[.agg #[.int .i64 a0_0, .slice A0_1 l0_1.length c0_1, .slice A0_2 l0_2.length c0_2, .slice A0_3 l0_3.length c0_3]] (by rfl) rfl rfl (by (simp only [List.map_toArray, List.map_cons, List.map_nil]); rfl) ?_
    with_reducible refine (poslist_List_Spans.calls kj4 a0_0 _ _ l0_1 _ _ l0_2 _ _ l0_3 t447 _ ?side1 ?side2 ?side3 ?side4 ?side5 ?side6 A41.out).mono ?_
    (case side1 => exact cx (Kd.C_below HR0_1.out HB.out))
    (case side2 => exact HC0_1.out)
    (case side3 => exact cx (Kd.C_below HR0_2.out HB.out))
    (case side4 => exact HC0_2.out)
    (case side5 => exact cx (Kd.C_below HR0_3.out HB.out))
    (case side6 => exact HC0_3.out)
    rintro e w46 ⟨v448, rfl, ho0, hb⟩
    refine ⟨_, rfl, ?_⟩
    have HO449 := Aside0.mk (Kd.R_lower ho0 (below_size (bh HB.out)))
    replace BK420 := bba BK420 hb
    replace BK421 := bba BK421 hb
    replace BK422 := bba BK422 hb
    replace HB := bsa HB hb
    clear hb ho0
    refine hK.out _ _ ⟨(blk_cell BK420.out 0).trans rfl, (blk_cell BK420.out 1).trans rfl, (blk_cell BK420.out 2).trans rfl, (blk_cell BK420.out 3).trans rfl, (blk_cell BK421.out 0).trans rfl, (blk_cell BK421.out 1).trans rfl, (blk_cell BK421.out 2).trans rfl, (blk_cell BK421.out 3).trans rfl⟩ (fun hHeld => ?_)
    clear hK K
    refine norm_ (a' := ?_) ?_ ?_
    rotate_left
    ·show Act.put _ (some 42) _ = _
     simp only [Act.put, List.setIfInBounds_toArray, List.set_cons_zero, List.set_cons_succ, i64_w, i32_w]
     rfl
    refine one_ (i := 4) (N := some 44) #[true, true, true, true, true, false, false, false, false, false, false] rfl rfl (one_of HT_.out (by kernel_rfl)) (by decide) (fun K hK => ?_)
    refine goes_ Tryz.func20 (by kernel_rfl) rfl #[.agg #[.int .i64 a1_0, .slice A1_1 l1_1.length c1_1, .slice A1_2 l1_2.length c1_2, .slice A1_3 l1_3.length c1_3]] (by rfl) rfl rfl (by (simp only [List.map_toArray, List.map_cons, List.map_nil]); rfl) ?_
    with_reducible refine (poslist_List_Spans.calls kj4 a1_0 _ _ l1_1 _ _ l1_2 _ _ l1_3 t450 _ ?side1 ?side2 ?side3 ?side4 ?side5 ?side6 A42.out).mono ?_
    (case side1 => exact cx (Kd.C_below HR1_1.out HB.out))
    (case side2 => exact HC1_1.out)
    (case side3 => exact cx (Kd.C_below HR1_2.out HB.out))
    (case side4 => exact HC1_2.out)
    (case side5 => exact cx (Kd.C_below HR1_3.out HB.out))
    (case side6 => exact HC1_3.out)
    rintro e w47 ⟨v451, rfl, ho0, hb⟩
    refine ⟨_, rfl, ?_⟩
    have HO452 := Aside0.mk (Kd.R_lower (Kd.R_new' ho0 (Kd.R_lt (rx HO449.out))) (below_size (bh HB.out)))
    replace HO449 := Aside0.mk (Kd.R_elder' (rx HO449.out) (Kd.R_base ho0) hb)
    replace BK420 := bba BK420 hb
    replace BK421 := bba BK421 hb
    replace BK422 := bba BK422 hb
    replace HB := bsa HB hb
    clear hb ho0
    obtain ⟨Ao48, co48, eo48⟩ := Kd.R_slice HO449.out
    (subst eo48)
    obtain ⟨Ao49, co49, eo49⟩ := Kd.R_slice HO452.out
    (subst eo49)
    refine hK.out _ _ ⟨(blk_cell BK420.out 0).trans rfl, (blk_cell BK420.out 1).trans rfl, (blk_cell BK420.out 2).trans rfl, (blk_cell BK420.out 3).trans rfl, (blk_cell BK421.out 0).trans rfl, (blk_cell BK421.out 1).trans rfl, (blk_cell BK421.out 2).trans rfl, (blk_cell BK421.out 3).trans rfl⟩ (fun hHeld => ?_)
    clear hK K
    refine norm_ (a' := ?_) ?_ ?_
    rotate_left
    ·show Act.put _ (some 44) _ = _
     simp only [Act.put, List.setIfInBounds_toArray, List.set_cons_zero, List.set_cons_succ, i64_w, i32_w]
     rfl
    refine one_ (i := 5) (N := some 45) #[true, true, true, true, true, true, false, false, false, false, false] rfl rfl (one_of HT_.out (by kernel_rfl)) (by decide) (fun K hK => ?_)
    (refine goesW_ Tryz.func63 (by kernel_rfl) rfl #[.slice Ao48 t447.length co48, .slice Ao49 t450.length co49] (by rfl) rfl rfl rfl (by (simp only [List.map_toArray, List.map_cons, List.map_nil]); rfl) ?_)
    with_reducible refine (span_Less.calls kj4 _ _ t447 _ _ t450 t453 t454 _ ?side1 ?side2 ?side3 ?side4 A43.out).mono ?_
    (case side1 => exact cx (Kd.R_reads' HO449.out).2.2)
    (case side2 => exact (Kd.R_reads' HO449.out).2.1)
    (case side3 => exact cx (Kd.R_reads' HO452.out).2.2)
    (case side4 => exact (Kd.R_reads' HO452.out).2.1)
    rintro e w50 ⟨v455, rfl, ho0, hb⟩
    refine ⟨_, rfl, ?_⟩
    have HO456 := Aside0.mk (Kd.R_lower (Kd.R_new' (Kd.R_new' ho0 (Kd.R_lt (rx HO449.out))) (Kd.R_lt (rx HO452.out))) (below_size (bh HB.out)))
    replace HO449 := Aside0.mk (Kd.R_elder' (rx HO449.out) (Kd.R_base ho0) hb)
    replace HO452 := Aside0.mk (Kd.R_elder' (rx HO452.out) (Kd.R_base ho0) hb)
    replace BK420 := bba BK420 hb
    replace BK421 := bba BK421 hb
    replace BK422 := bba BK422 hb
    replace HB := bsa HB hb
    clear hb ho0
    refine hK.out _ _ ⟨(blk_cell BK420.out 0).trans rfl, (blk_cell BK420.out 1).trans rfl, (blk_cell BK420.out 2).trans rfl, (blk_cell BK420.out 3).trans rfl, (blk_cell BK421.out 0).trans rfl, (blk_cell BK421.out 1).trans rfl, (blk_cell BK421.out 2).trans rfl, (blk_cell BK421.out 3).trans rfl⟩ (fun hHeld => ?_)
    clear hK K
    refine norm_ (a' := ?_) ?_ ?_
    rotate_left
    ·show Act.put _ (some 45) _ = _
     simp only [Act.put, List.setIfInBounds_toArray, List.set_cons_zero, List.set_cons_succ, i64_w, i32_w]
     rfl
    refine puA HT_ 6 39 (bv 11 127) ?_
    refine puA HT_ 7 46 (bv 11 255) ?_
    refine puA HT_ 8 47 (bv 11 511) ?_
    refine puA HT_ 9 13 (bv 11 1023) ?_
    refine puA HT_ 10 14 (bv 11 2047) ?_
    refine done_ (done_of HT_.out (by kernel_rfl)) ?_
    obtain ⟨Ao51, co51, eo51⟩ := Kd.R_slice HO456.out
    subst eo51
    go_wp2_with (first | ((with_reducible refine gate_callee (f := 64) rfl ?_); refine gL 49 Tryz.func64 #[.slice Ao51 t453.length co51] ?_; (with_reducible refine (poslist_best.calls kj4 _ _ t453 t457 t458 t461 t464 _ ?side1 ?side2 A44.out).mono ?_); (case side1 => exact cx (Kd.R_reads' HO456.out).2.2); (case side2 => exact (Kd.R_reads' HO456.out).2.1); rintro e w52 ⟨v459, v462, v465, rfl, ho0, ho1, ho2, hb⟩; refine ⟨_, rfl, ?_⟩; have HO460 := Aside0.mk (Kd.R_lower (Kd.R_new' (Kd.R_new' (Kd.R_new' ho0 (Kd.R_lt (rx HO449.out))) (Kd.R_lt (rx HO452.out))) (Kd.R_lt (rx HO456.out))) (below_size (bh HB.out))); replace HO449 := Aside0.mk (Kd.R_elder' (rx HO449.out) (Kd.R_base ho0) hb); replace HO452 := Aside0.mk (Kd.R_elder' (rx HO452.out) (Kd.R_base ho0) hb); replace HO456 := Aside0.mk (Kd.R_elder' (rx HO456.out) (Kd.R_base ho0) hb); have HO463 := Aside0.mk (Kd.R_lower ho1 (below_size (bh HB.out))); have HO466 := Aside0.mk (Kd.R_lower ho2 (below_size (bh HB.out))); replace BK420 := bba BK420 hb; replace BK421 := bba BK421 hb; replace BK422 := bba BK422 hb; replace HB := bsa HB hb; clear hb ho0 ho1 ho2; have hnb53 := NB422_420.out; have hnc53 := NB420_422.out; have hnb54 := NB422_421.out; have hnc54 := NB421_422.out; obtain ⟨hcz55_0, hcz55_1, hcz55_2, hcz55_3, hfz55_0, hfz55_1, hfz55_2, hfz55_3⟩ := b4 BK422; obtain ⟨Ao56, co56, eo56⟩ := Kd.R_slice HO460.out; subst eo56; obtain ⟨Ao57, co57, eo57⟩ := Kd.R_slice HO463.out; subst eo57; obtain ⟨Ao58, co58, eo58⟩ := Kd.R_slice HO466.out; subst eo58) | ((with_reducible refine gate_store (t := 27) (p := 8) rfl ?_); refine stE 27 8 ((((w52.setCell ⟨gb422, 0, none⟩ (.int .i64 t457)).setCell ⟨gb422, 1, none⟩ (.slice Ao56 t458.length co56)).setCell ⟨gb422, 2, none⟩ (.slice Ao57 t461.length co57)).setCell ⟨gb422, 3, none⟩ (.slice Ao58 t464.length co58)) ?_; intro w59 hw; have n0_ := rsm (fun k_ => some k_ ≠ (.slice Ao49 t450.length co49 : Value).ownBlock ∧ some k_ ≠ (.slice Ao51 t453.length co51 : Value).ownBlock ∧ some k_ ≠ (.slice Ao56 t458.length co56 : Value).ownBlock) HO449 hw (fun _ hk => ⟨hk.1.1.2, ⟨hk.1.2, hk.2⟩⟩); have n1_ := rsm (fun k_ => some k_ ≠ (.slice Ao48 t447.length co48 : Value).ownBlock ∧ some k_ ≠ (.slice Ao51 t453.length co51 : Value).ownBlock ∧ some k_ ≠ (.slice Ao56 t458.length co56 : Value).ownBlock) HO452 hw (fun _ hk => ⟨hk.1.1.2, ⟨hk.1.2, hk.2⟩⟩); have n2_ := rsm (fun k_ => some k_ ≠ (.slice Ao48 t447.length co48 : Value).ownBlock ∧ some k_ ≠ (.slice Ao49 t450.length co49 : Value).ownBlock ∧ some k_ ≠ (.slice Ao56 t458.length co56 : Value).ownBlock) HO456 hw (fun _ hk => ⟨hk.1.1.2, ⟨hk.1.2, hk.2⟩⟩); have n3_ := rsm (fun k_ => some k_ ≠ (.slice Ao48 t447.length co48 : Value).ownBlock ∧ some k_ ≠ (.slice Ao49 t450.length co49 : Value).ownBlock ∧ some k_ ≠ (.slice Ao51 t453.length co51 : Value).ownBlock) HO460 hw (fun _ hk => ⟨hk.1.1.2, ⟨hk.1.2, hk.2⟩⟩); have n4_ := rst HO463 hw; have n5_ := rst HO466 hw; have n6_ : Aside0 (w59.heap[gb420]? = some (.cells #[.int .i64 a0_0, .slice A0_1 l0_1.length c0_1, .slice A0_2 l0_2.length c0_2, .slice A0_3 l0_3.length c0_3] 27 (0, 0))) := ⟨(by rw [hw]; exact (bx BK420.out))⟩; have n7_ : Aside0 (w59.heap[gb421]? = some (.cells #[.int .i64 a1_0, .slice A1_1 l1_1.length c1_1, .slice A1_2 l1_2.length c1_2, .slice A1_3 l1_3.length c1_3] 27 (0, 0))) := ⟨(by rw [hw]; exact (bx BK421.out))⟩; have n8_ := sps #[.int .i64 t457, .slice Ao56 t458.length co56, .slice Ao57 t461.length co57, .slice Ao58 t464.length co58] BK422 hw (.p (.p (.p (.p .nil)))); have n9_ := bhw HB hw; clear hw HO449 HO452 HO456 HO460 HO463 HO466 BK420 BK421 BK422 HB; have HO449 := n0_; have HO452 := n1_; have HO456 := n2_; have HO460 := n3_; have HO463 := n4_; have HO466 := n5_; have BK420 := n6_; have BK421 := n7_; have BK422 := n8_; have HB := n9_; clear n0_ n1_ n2_ n3_ n4_ n5_ n6_ n7_ n8_ n9_))
    refine bodyPost_ret (results_cell_row rfl _ _ gb422 27 #[.int .i64 t457, .slice Ao56 t458.length co56, .slice Ao57 t461.length co57, .slice Ao58 t464.length co58] (0, 0) _ rfl (bx BK422.out) Tryz.underlying27 rfl (by kernel_rfl)) rfl ?_
    exact ⟨_, _, _, er, by exact Kd.R_mono HO460.out (fun _ hk => trivial), by exact HO463.out, by exact HO466.out, bh HB.out⟩
/-! ### poslist_List_Less: function 25 (a contract of the session's own) -/
def poslist_List_Less.f (k : Nat) (a0_0 : Int) (l0_1 : List (S64)) (l0_2 : List Int) (l0_3 : List Int) (a1_0 : Int) (l1_1 : List (S64)) (l1_2 : List Int) (l1_3 : List Int) : Option (Int × (List (S64)) × List Int × List Int) := if a0_0 = 3 then poslist_List_kept.f (fun x => (poslist_List_Has.f k a1_0 l1_1 l1_2 l1_3 x).bind fun t => some (!t)) k a0_0 l0_1 l0_2 l0_3 else poslist_List_together_fn62_fn63.f k a0_0 l0_1 l0_2 l0_3 a1_0 l1_1 l1_2 l1_3
set_option maxHeartbeats 8000000 in
set_option maxRecDepth 100000 in
theorem poslist_List_Less.calls (k : Nat) (a0_0 : Int) (A0_1 : Option Addr) (c0_1 : Nat) (l0_1 : List (S64)) (A0_2 : Option Addr) (c0_2 : Nat) (l0_2 : List Int) (A0_3 : Option Addr) (c0_3 : Nat) (l0_3 : List Int) (a1_0 : Int) (A1_1 : Option Addr) (c1_1 : Nat) (l1_1 : List (S64)) (A1_2 : Option Addr) (c1_2 : Nat) (l1_2 : List Int) (A1_3 : Option Addr) (c1_3 : Nat) (l1_3 : List Int) (r1 : Int) (r2 : List (S64)) (r3 : List Int) (r4 : List Int) (w : World) (hr0_1 : Kd.C k64 w A0_1 l0_1.length l0_1) (hc0_1 : l0_1.length ≤ c0_1) (hr0_2 : Kd.C (Kd.int .i64) w A0_2 l0_2.length l0_2) (hc0_2 : l0_2.length ≤ c0_2) (hr0_3 : Kd.C (Kd.int .i64) w A0_3 l0_3.length l0_3) (hc0_3 : l0_3.length ≤ c0_3) (hr1_1 : Kd.C k64 w A1_1 l1_1.length l1_1) (hc1_1 : l1_1.length ≤ c1_1) (hr1_2 : Kd.C (Kd.int .i64) w A1_2 l1_2.length l1_2) (hc1_2 : l1_2.length ≤ c1_2) (hr1_3 : Kd.C (Kd.int .i64) w A1_3 l1_3.length l1_3) (hc1_3 : l1_3.length ≤ c1_3) (h : poslist_List_Less.f k a0_0 l0_1 l0_2 l0_3 a1_0 l1_1 l1_2 l1_3 = some (r1, r2, r3, r4)) :
    Calls Tryz.prog 25 #[.agg #[.int .i64 a0_0, .slice A0_1 l0_1.length c0_1, .slice A0_2 l0_2.length c0_2, .slice A0_3 l0_3.length c0_3], .agg #[.int .i64 a1_0, .slice A1_1 l1_1.length c1_1, .slice A1_2 l1_2.length c1_2, .slice A1_3 l1_3.length c1_3]] w fun e w' => ∃ v1_ v2_ v3_ : Value, e = .returned (.agg #[.int .i64 r1, v1_, v2_, v3_]) ∧ Kd.R k64 64 w' w.heap.size (fun _ => True) v1_ r2 ∧ Kd.R (Kd.int .i64) 3 w' w.heap.size (fun k_ => some k_ ≠ (v3_ : Value).ownBlock) v2_ r3 ∧ Kd.R (Kd.int .i64) 3 w' w.heap.size (fun k_ => some k_ ≠ (v2_ : Value).ownBlock) v3_ r4 ∧ Below w.heap.size w w' := by
 have hmf : ∀ (fn : Fn) (first cap : Array Value) (w : World), (Instr.makeFunc fn first cap).run Tryz.prog w = .ok (.func fn first cap) w := fun _ _ _ _ => rfl
 have hu27 := Tryz.underlying27
 have HR0_1 := Aside0.mk hr0_1
 have HC0_1 := Aside0.mk hc0_1
 clear hr0_1 hc0_1
 have HR0_2 := Aside0.mk hr0_2
 have HC0_2 := Aside0.mk hc0_2
 clear hr0_2 hc0_2
 have HR0_3 := Aside0.mk hr0_3
 have HC0_3 := Aside0.mk hc0_3
 clear hr0_3 hc0_3
 have HR1_1 := Aside0.mk hr1_1
 have HC1_1 := Aside0.mk hc1_1
 clear hr1_1 hc1_1
 have HR1_2 := Aside0.mk hr1_2
 have HC1_2 := Aside0.mk hc1_2
 clear hr1_2 hc1_2
 have HR1_3 := Aside0.mk hr1_3
 have HC1_3 := Aside0.mk hc1_3
 clear hr1_3 hc1_3
 have HB := Aside0.mk (Below.refl w.heap.size w)
 have H := h
 clear h
 unfold poslist_List_Less.f at H
 by_cases c2 : a0_0 = 3
 ·rw [if_pos c2] at H
  have c2b0 : (a0_0 == 3) = true := beq_iff_eq.mpr c2
  clear c2
  have H1 := Aside0.mk H
  clear H
  have HEN := Aside0.mk (show ∀ args W, (callFunc 61 args).run Tryz.prog W = .ok (.enter 61 args) W from enters_of Tryz.func61 (by kernel_rfl) rfl)
  go_enter Tryz.func25, Tryz.ntmps25
  go_wp2_with (first | ((with_reducible refine gate_dst (N := 2) rfl ?_); refine box_event ?hg (N := 2) ?hd (cs := #[.int .i64 a0_0, .slice A0_1 l0_1.length c0_1, .slice A0_2 l0_2.length c0_2, .slice A0_3 l0_3.length c0_3]) (t := 27) ?hr ?_; (case hd => rfl); (case hg => rfl); (case hr => (go_simp; done)); intro g2 hg w2 hbox hb; have n0_ := Aside0.mk (below_step HB.out hb); have n1_ := Aside0.mk (hbox); have n2_ := Aside0.mk ((by rw [hg]; exact below_size HB.out : w.heap.size ≤ g2)); clear HB; have HB := n0_; have BK2 := n1_; have GE2 := n2_; clear n0_ n1_ n2_ hb hbox hg) | ((with_reducible refine gate_dst (N := 3) rfl ?_); refine box_event ?hg (N := 3) ?hd (cs := #[.int .i64 a1_0, .slice A1_1 l1_1.length c1_1, .slice A1_2 l1_2.length c1_2, .slice A1_3 l1_3.length c1_3]) (t := 27) ?hr ?_; (case hd => rfl); (case hg => rfl); (case hr => (go_simp; done)); intro g3 hg w3 hbox hb; have n0_ := Aside0.mk (below_step HB.out hb); have n1_ := Aside0.mk (blk_below BK2.out hb); have n2_ := Aside0.mk (hbox); have n3_ := Aside0.mk ((by rw [hg]; exact below_size HB.out : w.heap.size ≤ g3)); have n4_ := Aside0.mk ((by rw [hg]; exact Nat.ne_of_lt (blk_lt BK2.out) : g2 ≠ g3)); have n5_ := Aside0.mk ((by rw [hg]; exact (Nat.ne_of_lt (blk_lt BK2.out)).symm : g3 ≠ g2)); clear HB BK2; have HB := n0_; have BK2 := n1_; have BK3 := n2_; have GE3 := n3_; have NB23 := n4_; have NB32 := n5_; clear n0_ n1_ n2_ n3_ n4_ n5_ hb hbox hg) | ((with_reducible refine gate_dst (N := 4) rfl ?_); refine box_event ?hg (N := 4) ?hd (cs := #[.int .i64 0, .slice none 0 0, .slice none 0 0, .slice none 0 0]) (t := 27) ?hr ?_; (case hd => rfl); (case hg => rfl); (case hr => (go_simp; done)); intro g4 hg w4 hbox hb; have n0_ := Aside0.mk (below_step HB.out hb); have n1_ := Aside0.mk (blk_below BK2.out hb); have n2_ := Aside0.mk (blk_below BK3.out hb); have n3_ := Aside0.mk (hbox); have n4_ := Aside0.mk ((by rw [hg]; exact below_size HB.out : w.heap.size ≤ g4)); have n5_ := Aside0.mk ((by rw [hg]; exact Nat.ne_of_lt (blk_lt BK2.out) : g2 ≠ g4)); have n6_ := Aside0.mk ((by rw [hg]; exact (Nat.ne_of_lt (blk_lt BK2.out)).symm : g4 ≠ g2)); have n7_ := Aside0.mk ((by rw [hg]; exact Nat.ne_of_lt (blk_lt BK3.out) : g3 ≠ g4)); have n8_ := Aside0.mk ((by rw [hg]; exact (Nat.ne_of_lt (blk_lt BK3.out)).symm : g4 ≠ g3)); clear HB BK2 BK3; have HB := n0_; have BK2 := n1_; have BK3 := n2_; have BK4 := n3_; have GE4 := n4_; have NB24 := n5_; have NB42 := n6_; have NB34 := n7_; have NB43 := n8_; clear n0_ n1_ n2_ n3_ n4_ n5_ n6_ n7_ n8_ hb hbox hg; obtain ⟨hc20, hc21, hc22, hc23, hf20, hf21, hf22, hf23⟩ := b4 BK2; obtain ⟨hc30, hc31, hc32, hc33, hf30, hf31, hf32, hf33⟩ := b4 BK3) | (go_at_call 54; (with_reducible refine (poslist_List_kept.calls 61 #[] #[.pointer (some ⟨g3, 0, none⟩)] (fun x => (poslist_List_Has.f k a1_0 l1_1 l1_2 l1_3 x).bind fun t => some (!t)) k a0_0 A0_1 c0_1 l0_1 A0_2 c0_2 l0_2 A0_3 c0_3 l0_3 r1 r2 r3 r4 _ ?a1 ?b1 ?a2 ?b2 ?a3 ?b3 HEN.out ?his H1.out).mono ?_); (case a1 => exact (Kd.C_below HR0_1.out HB.out)); (case b1 => exact HC0_1.out); (case a2 => exact (Kd.C_below HR0_2.out HB.out)); (case b2 => exact HC0_2.out); (case a3 => exact (Kd.C_below HR0_3.out HB.out)); (case b3 => exact HC0_3.out); (case his => intro X at_ t_ hX hp; obtain ⟨t1, ht1, ht2⟩ := Option.bind_eq_some_iff.mp hp; obtain rfl := Option.some.inj ht2; exact calls_of_args (by simp) (poslist_List_Less_1.calls k a1_0 A1_1 c1_1 l1_1 A1_2 c1_2 l1_2 A1_3 c1_3 l1_3 at_ t1 g3 X (blk_below BK3.out hX) (Kd.C_below (Kd.C_below HR1_1.out HB.out) hX) HC1_1.out (Kd.C_below (Kd.C_below HR1_2.out HB.out) hX) HC1_2.out (Kd.C_below (Kd.C_below HR1_3.out HB.out) hX) HC1_3.out ht1)); have hlt4 := blk_lt BK4.out; have HB0 := HB; rintro e w6 ⟨v1, v2, v3, rfl, hv1, hv2, hv3, hb⟩; have n0_ := Aside0.mk (below_step HB.out hb); have n1_ := Aside0.mk (blk_below BK2.out hb); have n2_ := Aside0.mk (blk_below BK3.out hb); have n3_ := Aside0.mk (blk_below BK4.out hb); clear HB BK2 BK3 BK4; have HB := n0_; have BK2 := n1_; have BK3 := n2_; have BK4 := n3_; clear n0_ n1_ n2_ n3_ hb; obtain ⟨Av1, cv1, rfl⟩ := Kd.R_slice hv1; obtain ⟨Av2, cv2, rfl⟩ := Kd.R_slice hv2; obtain ⟨Av3, cv3, rfl⟩ := Kd.R_slice hv3; obtain ⟨hc40, hc41, hc42, hc43, hf40, hf41, hf42, hf43⟩ := b4 BK4))
  refine bodyPost_ret (results_cell_row rfl _ _ g4 27 #[.int .i64 r1, .slice Av1 r2.length cv1, .slice Av2 r3.length cv2, .slice Av3 r4.length cv3] (0, 0) _ rfl (by refine blk_put (cs := #[.int .i64 r1, .slice Av1 r2.length cv1, .slice Av2 r3.length cv2, .slice none 0 0]) ?_ 3 _ rfl; refine blk_put (cs := #[.int .i64 r1, .slice Av1 r2.length cv1, .slice none 0 0, .slice none 0 0]) ?_ 2 _ rfl; refine blk_put (cs := #[.int .i64 r1, .slice none 0 0, .slice none 0 0, .slice none 0 0]) ?_ 1 _ rfl; refine blk_put (cs := #[.int .i64 0, .slice none 0 0, .slice none 0 0, .slice none 0 0]) ?_ 0 _ rfl; exact BK4.out) Tryz.underlying27 rfl (by kernel_rfl)) rfl ?_
  have hw_ := below_size HB0.out
  exact ⟨_, _, _, rfl, Kd.R_lower (XR.R_far (XR.R_far (XR.R_far (XR.R_far hv1 hlt4) hlt4) hlt4) hlt4) hw_, Kd.R_lower (XR.R_far (XR.R_far (XR.R_far (XR.R_far hv2 hlt4) hlt4) hlt4) hlt4) hw_, Kd.R_lower (XR.R_far (XR.R_far (XR.R_far (XR.R_far hv3 hlt4) hlt4) hlt4) hlt4) hw_, bh HB.out⟩
 rw [if_neg c2] at H
 have c2b0 : (a0_0 == 3) = false := beq_eq_false_iff_ne.mpr c2
 clear c2
 have H1 := Aside0.mk H
 clear H
 go_enter Tryz.func25, Tryz.ntmps25
 go_wp2_with (first | ((with_reducible refine gate_dst (N := 2) rfl ?_); refine box_event ?hg (N := 2) ?hd (cs := #[.int .i64 a0_0, .slice A0_1 l0_1.length c0_1, .slice A0_2 l0_2.length c0_2, .slice A0_3 l0_3.length c0_3]) (t := 27) ?hr ?_; (case hd => rfl); (case hg => rfl); (case hr => (go_simp; done)); intro g2 hg w2 hbox hb; have n0_ := Aside0.mk (below_step HB.out hb); have n1_ := Aside0.mk (hbox); have n2_ := Aside0.mk ((by rw [hg]; exact below_size HB.out : w.heap.size ≤ g2)); clear HB; have HB := n0_; have BK2 := n1_; have GE2 := n2_; clear n0_ n1_ n2_ hb hbox hg) | ((with_reducible refine gate_dst (N := 3) rfl ?_); refine box_event ?hg (N := 3) ?hd (cs := #[.int .i64 a1_0, .slice A1_1 l1_1.length c1_1, .slice A1_2 l1_2.length c1_2, .slice A1_3 l1_3.length c1_3]) (t := 27) ?hr ?_; (case hd => rfl); (case hg => rfl); (case hr => (go_simp; done)); intro g3 hg w3 hbox hb; have n0_ := Aside0.mk (below_step HB.out hb); have n1_ := Aside0.mk (blk_below BK2.out hb); have n2_ := Aside0.mk (hbox); have n3_ := Aside0.mk ((by rw [hg]; exact below_size HB.out : w.heap.size ≤ g3)); have n4_ := Aside0.mk ((by rw [hg]; exact Nat.ne_of_lt (blk_lt BK2.out) : g2 ≠ g3)); have n5_ := Aside0.mk ((by rw [hg]; exact (Nat.ne_of_lt (blk_lt BK2.out)).symm : g3 ≠ g2)); clear HB BK2; have HB := n0_; have BK2 := n1_; have BK3 := n2_; have GE3 := n3_; have NB23 := n4_; have NB32 := n5_; clear n0_ n1_ n2_ n3_ n4_ n5_ hb hbox hg) | ((with_reducible refine gate_dst (N := 4) rfl ?_); refine box_event ?hg (N := 4) ?hd (cs := #[.int .i64 0, .slice none 0 0, .slice none 0 0, .slice none 0 0]) (t := 27) ?hr ?_; (case hd => rfl); (case hg => rfl); (case hr => (go_simp; done)); intro g4 hg w4 hbox hb; have n0_ := Aside0.mk (below_step HB.out hb); have n1_ := Aside0.mk (blk_below BK2.out hb); have n2_ := Aside0.mk (blk_below BK3.out hb); have n3_ := Aside0.mk (hbox); have n4_ := Aside0.mk ((by rw [hg]; exact below_size HB.out : w.heap.size ≤ g4)); have n5_ := Aside0.mk ((by rw [hg]; exact Nat.ne_of_lt (blk_lt BK2.out) : g2 ≠ g4)); have n6_ := Aside0.mk ((by rw [hg]; exact (Nat.ne_of_lt (blk_lt BK2.out)).symm : g4 ≠ g2)); have n7_ := Aside0.mk ((by rw [hg]; exact Nat.ne_of_lt (blk_lt BK3.out) : g3 ≠ g4)); have n8_ := Aside0.mk ((by rw [hg]; exact (Nat.ne_of_lt (blk_lt BK3.out)).symm : g4 ≠ g3)); clear HB BK2 BK3; have HB := n0_; have BK2 := n1_; have BK3 := n2_; have BK4 := n3_; have GE4 := n4_; have NB24 := n5_; have NB42 := n6_; have NB34 := n7_; have NB43 := n8_; clear n0_ n1_ n2_ n3_ n4_ n5_ n6_ n7_ n8_ hb hbox hg; obtain ⟨hc20, hc21, hc22, hc23, hf20, hf21, hf22, hf23⟩ := b4 BK2; obtain ⟨hc30, hc31, hc32, hc33, hf30, hf31, hf32, hf33⟩ := b4 BK3) | (go_at_call 55; (with_reducible refine (poslist_List_together_fn62_fn63.calls k a0_0 A0_1 c0_1 l0_1 A0_2 c0_2 l0_2 A0_3 c0_3 l0_3 a1_0 A1_1 c1_1 l1_1 A1_2 c1_2 l1_2 A1_3 c1_3 l1_3 r1 r2 r3 r4 _ ?a01 ?b01 ?a02 ?b02 ?a03 ?b03 ?a11 ?b11 ?a12 ?b12 ?a13 ?b13 H1.out).mono ?_); (case a01 => exact (Kd.C_below HR0_1.out HB.out)); (case b01 => exact HC0_1.out); (case a02 => exact (Kd.C_below HR0_2.out HB.out)); (case b02 => exact HC0_2.out); (case a03 => exact (Kd.C_below HR0_3.out HB.out)); (case b03 => exact HC0_3.out); (case a11 => exact (Kd.C_below HR1_1.out HB.out)); (case b11 => exact HC1_1.out); (case a12 => exact (Kd.C_below HR1_2.out HB.out)); (case b12 => exact HC1_2.out); (case a13 => exact (Kd.C_below HR1_3.out HB.out)); (case b13 => exact HC1_3.out); have hlt4 := blk_lt BK4.out; have HB0 := HB; rintro e w6 ⟨v1, v2, v3, rfl, hv1, hv2, hv3, hb⟩; have n0_ := Aside0.mk (below_step HB.out hb); have n1_ := Aside0.mk (blk_below BK2.out hb); have n2_ := Aside0.mk (blk_below BK3.out hb); have n3_ := Aside0.mk (blk_below BK4.out hb); clear HB BK2 BK3 BK4; have HB := n0_; have BK2 := n1_; have BK3 := n2_; have BK4 := n3_; clear n0_ n1_ n2_ n3_ hb; obtain ⟨Av1, cv1, rfl⟩ := Kd.R_slice hv1; obtain ⟨Av2, cv2, rfl⟩ := Kd.R_slice hv2; obtain ⟨Av3, cv3, rfl⟩ := Kd.R_slice hv3; obtain ⟨hc40, hc41, hc42, hc43, hf40, hf41, hf42, hf43⟩ := b4 BK4))
 refine bodyPost_ret (results_cell_row rfl _ _ g4 27 #[.int .i64 r1, .slice Av1 r2.length cv1, .slice Av2 r3.length cv2, .slice Av3 r4.length cv3] (0, 0) _ rfl (by refine blk_put (cs := #[.int .i64 r1, .slice Av1 r2.length cv1, .slice Av2 r3.length cv2, .slice none 0 0]) ?_ 3 _ rfl; refine blk_put (cs := #[.int .i64 r1, .slice Av1 r2.length cv1, .slice none 0 0, .slice none 0 0]) ?_ 2 _ rfl; refine blk_put (cs := #[.int .i64 r1, .slice none 0 0, .slice none 0 0, .slice none 0 0]) ?_ 1 _ rfl; refine blk_put (cs := #[.int .i64 0, .slice none 0 0, .slice none 0 0, .slice none 0 0]) ?_ 0 _ rfl; exact BK4.out) Tryz.underlying27 rfl (by kernel_rfl)) rfl ?_
 have hw_ := below_size HB0.out
 exact ⟨_, _, _, rfl, Kd.R_lower (XR.R_far (XR.R_far (XR.R_far (XR.R_far hv1 hlt4) hlt4) hlt4) hlt4) hw_, Kd.R_lower (XR.R_far (XR.R_far (XR.R_far (XR.R_far hv2 hlt4) hlt4) hlt4) hlt4) hw_, Kd.R_lower (XR.R_far (XR.R_far (XR.R_far (XR.R_far hv3 hlt4) hlt4) hlt4) hlt4) hw_, bh HB.out⟩
/-! ### poslist_List_Count: function 19 -/
def poslist_List_Count.f (k : Nat) (a0_0 : Int) (l0_1 : List (S64)) (l0_2 : List Int) (l0_3 : List Int) : Option (Int) := if a0_0 = 2 then ((words_Count.f k l0_2).bind fun t468 => (some t468)) else (if a0_0 = 3 then (some (l0_3.length : Int)) else ((span_Count.f k l0_1).bind fun t469 => (some t469)))
theorem poslist_List_Count.mono : ∀ a0 a1 a2 a3 k, LeO (poslist_List_Count.f k a0 a1 a2 a3) (poslist_List_Count.f (k + 1) a0 a1 a2 a3) := by
 intro a0 a1 a2 a3 k
 unfold poslist_List_Count.f
 repeat' first | (with_reducible exact span_Count.mono _ _) | (with_reducible exact words_Count.mono _ _) | (with_reducible exact LeO.refl _) | (with_reducible refine LeO.ite ?_ ?_) | (with_reducible refine LeO.bind ?_ (fun _ => ?_))
set_option maxHeartbeats 8000000 in
set_option maxRecDepth 100000 in
theorem poslist_List_Count.calls (k : Nat) (a0_0 : Int) (A0_1 : Option Addr) (c0_1 : Nat) (l0_1 : List (S64)) (A0_2 : Option Addr) (c0_2 : Nat) (l0_2 : List Int) (A0_3 : Option Addr) (c0_3 : Nat) (l0_3 : List Int) (r : Int) (w : World) (hr0_1 : Kd.C k64 w A0_1 l0_1.length l0_1) (hc0_1 : l0_1.length ≤ c0_1) (hr0_2 : Kd.C (Kd.int .i64) w A0_2 l0_2.length l0_2) (hc0_2 : l0_2.length ≤ c0_2) (hr0_3 : Kd.C (Kd.int .i64) w A0_3 l0_3.length l0_3) (hc0_3 : l0_3.length ≤ c0_3) (h : poslist_List_Count.f k a0_0 l0_1 l0_2 l0_3 = some r) :
  Calls Tryz.prog 19 #[.agg #[.int .i64 a0_0, .slice A0_1 l0_1.length c0_1, .slice A0_2 l0_2.length c0_2, .slice A0_3 l0_3.length c0_3]] w fun e w' => e = .returned (.int .i64 r) ∧ Below w.heap.size w w' := by
 have hu27 := Tryz.underlying27
 have HR0_1 := Aside0.mk hr0_1
 have HC0_1 := Aside0.mk hc0_1
 clear hr0_1 hc0_1
 have HR0_2 := Aside0.mk hr0_2
 have HC0_2 := Aside0.mk hc0_2
 clear hr0_2 hc0_2
 have HR0_3 := Aside0.mk hr0_3
 have HC0_3 := Aside0.mk hc0_3
 clear hr0_3 hc0_3
 have HB := Aside0.mk (Below.refl w.heap.size w)
 have H := h
 clear h
 unfold poslist_List_Count.f at H
 replace H := ife H
 rcases H with ⟨-, c2b0, c2b1, H⟩ | ⟨c2, c2b0, c2b1, H⟩
 ·replace H := bd H
  obtain ⟨t468, A3, H⟩ := H
  obtain rfl := Option.some.inj H
  go_enter Tryz.func19, Tryz.ntmps19
  go_wp2_with (first | ((with_reducible refine gate_dst (N := 1) rfl ?_); refine boxE HB 1 27 #[.int .i64 a0_0, .slice A0_1 l0_1.length c0_1, .slice A0_2 l0_2.length c0_2, .slice A0_3 l0_3.length c0_3] ?_; clear HB; intro gb467 w4 BK467 GW467 hg hb HB; have GE467 := GW467; clear hb hg; obtain ⟨hcz5_0, hcz5_1, hcz5_2, hcz5_3, hfz5_0, hfz5_1, hfz5_2, hfz5_3⟩ := b4 BK467) | ((with_reducible refine gate_callee (f := 51) rfl ?_); refine gL 9 Tryz.func51 #[.slice A0_2 l0_2.length c0_2] ?_; (with_reducible refine (words_Count.calls k _ _ l0_2 t468 _ ?side1 ?side2 A3.out).mono ?_); (case side1 => exact cx (Kd.C_below HR0_2.out HB.out)); (case side2 => exact HC0_2.out); rintro e w' ⟨rfl, ⟨nd, rfl⟩⟩; refine ⟨_, rfl, ?_⟩))
  go_ret
  exact ⟨er, bh HB.out⟩
 ·replace H := ife H
  rcases H with ⟨-, c6b0, c6b1, H⟩ | ⟨c6, c6b0, c6b1, H⟩
  ·obtain rfl := Option.some.inj H
   go_enter Tryz.func19, Tryz.ntmps19
   go_wp2_with (((with_reducible refine gate_dst (N := 1) rfl ?_); refine boxE HB 1 27 #[.int .i64 a0_0, .slice A0_1 l0_1.length c0_1, .slice A0_2 l0_2.length c0_2, .slice A0_3 l0_3.length c0_3] ?_; clear HB; intro gb467 w7 BK467 GW467 hg hb HB; have GE467 := GW467; clear hb hg; obtain ⟨hcz8_0, hcz8_1, hcz8_2, hcz8_3, hfz8_0, hfz8_1, hfz8_2, hfz8_3⟩ := b4 BK467))
   go_ret
   exact ⟨er, bh HB.out⟩
  ·replace H := bd H
   obtain ⟨t469, A9, H⟩ := H
   obtain rfl := Option.some.inj H
   go_enter Tryz.func19, Tryz.ntmps19
   go_wp2_with (first | ((with_reducible refine gate_dst (N := 1) rfl ?_); refine boxE HB 1 27 #[.int .i64 a0_0, .slice A0_1 l0_1.length c0_1, .slice A0_2 l0_2.length c0_2, .slice A0_3 l0_3.length c0_3] ?_; clear HB; intro gb467 w10 BK467 GW467 hg hb HB; have GE467 := GW467; clear hb hg; obtain ⟨hcz11_0, hcz11_1, hcz11_2, hcz11_3, hfz11_0, hfz11_1, hfz11_2, hfz11_3⟩ := b4 BK467) | ((with_reducible refine gate_callee (f := 52) rfl ?_); refine gL 17 Tryz.func52 #[.slice A0_1 l0_1.length c0_1] ?_; (with_reducible refine (span_Count.calls k _ _ l0_1 t469 _ ?side1 ?side2 A9.out).mono ?_); (case side1 => exact cx (Kd.C_below HR0_1.out HB.out)); (case side2 => exact HC0_1.out); rintro e w12 ⟨rfl, hb⟩; refine ⟨_, rfl, ?_⟩; replace BK467 := bba BK467 hb; replace HB := bsa HB hb; clear hb))
   go_ret
   exact ⟨er, bh HB.out⟩
/-! ### poslist_List_Cost: function 14 (a contract of the session's own) -/
def poslist_List_Cost.f (k : Nat) (a0_0 : Int) (l0_1 : List (S64)) (l0_2 : List Int) (l0_3 : List Int) (a1 : Int) : Option Int := if a1 < 1 ∨ 3 < a1 then some 0 else (poslist_List_Spans.f k a0_0 l0_1 l0_2 l0_3).bind fun s => (poslist_costs.f k s).bind fun c => some (if a1 = 1 then c.2.1 else if a1 = 2 then c.2.2.1 else c.2.2.2)
set_option maxHeartbeats 8000000 in
set_option maxRecDepth 100000 in
theorem poslist_List_Cost.calls (k : Nat) (a0_0 : Int) (A0_1 : Option Addr) (c0_1 : Nat) (l0_1 : List (S64)) (A0_2 : Option Addr) (c0_2 : Nat) (l0_2 : List Int) (A0_3 : Option Addr) (c0_3 : Nat) (l0_3 : List Int) (a1 : Int) (r : Int) (w : World) (hr0_1 : Kd.C k64 w A0_1 l0_1.length l0_1) (hc0_1 : l0_1.length ≤ c0_1) (hr0_2 : Kd.C (Kd.int .i64) w A0_2 l0_2.length l0_2) (hc0_2 : l0_2.length ≤ c0_2) (hr0_3 : Kd.C (Kd.int .i64) w A0_3 l0_3.length l0_3) (hc0_3 : l0_3.length ≤ c0_3) (h : poslist_List_Cost.f k a0_0 l0_1 l0_2 l0_3 a1 = some r) :
    Calls Tryz.prog 14 #[.agg #[.int .i64 a0_0, .slice A0_1 l0_1.length c0_1, .slice A0_2 l0_2.length c0_2, .slice A0_3 l0_3.length c0_3], .int .i64 a1] w fun e w' => e = .returned (.int .i64 r) ∧ Below w.heap.size w w' := by
 have hu27 := Tryz.underlying27
 have hu67 := Tryz.underlying67
 have HR0_1 := Aside0.mk hr0_1
 have HC0_1 := Aside0.mk hc0_1
 clear hr0_1 hc0_1
 have HR0_2 := Aside0.mk hr0_2
 have HC0_2 := Aside0.mk hc0_2
 clear hr0_2 hc0_2
 have HR0_3 := Aside0.mk hr0_3
 have HC0_3 := Aside0.mk hc0_3
 clear hr0_3 hc0_3
 have HB := Aside0.mk (Below.refl w.heap.size w)
 have H := h
 clear h
 unfold poslist_List_Cost.f at H
 by_cases q1 : a1 < 1
 ·rw [if_pos (.inl q1)] at H
  obtain rfl := Option.some.inj H
  have qb : decide (a1 < 1) = true := decide_eq_true q1
  go_enter Tryz.func14, Tryz.ntmps14
  go_wp2_with (((with_reducible refine gate_dst (N := 2) rfl ?_); refine box_event ?hg (N := 2) ?hd (cs := #[.int .i64 a0_0, .slice A0_1 l0_1.length c0_1, .slice A0_2 l0_2.length c0_2, .slice A0_3 l0_3.length c0_3]) (t := 27) ?hr ?_; (case hd => rfl); (case hg => rfl); (case hr => (go_simp; done)); intro g2 hg w2 hbox hb; have n0_ := Aside0.mk (below_step HB.out hb); have n1_ := Aside0.mk (hbox); have n2_ := Aside0.mk ((by rw [hg]; exact below_size HB.out : w.heap.size ≤ g2)); clear HB; have HB := n0_; have BK2 := n1_; have GE2 := n2_; clear n0_ n1_ n2_ hb hbox hg))
  go_ret
  exact ⟨rfl, HB.out⟩
 ·have qb : decide (a1 < 1) = false := decide_eq_false q1
  by_cases q2 : 3 < a1
  ·rw [if_pos (.inr q2)] at H
   obtain rfl := Option.some.inj H
   have qc : decide (3 < a1) = true := decide_eq_true q2
   have qd : decide (a1 > 3) = true := decide_eq_true q2
   go_enter Tryz.func14, Tryz.ntmps14
   go_wp2_with (((with_reducible refine gate_dst (N := 2) rfl ?_); refine box_event ?hg (N := 2) ?hd (cs := #[.int .i64 a0_0, .slice A0_1 l0_1.length c0_1, .slice A0_2 l0_2.length c0_2, .slice A0_3 l0_3.length c0_3]) (t := 27) ?hr ?_; (case hd => rfl); (case hg => rfl); (case hr => (go_simp; done)); intro g2 hg w2 hbox hb; have n0_ := Aside0.mk (below_step HB.out hb); have n1_ := Aside0.mk (hbox); have n2_ := Aside0.mk ((by rw [hg]; exact below_size HB.out : w.heap.size ≤ g2)); clear HB; have HB := n0_; have BK2 := n1_; have GE2 := n2_; clear n0_ n1_ n2_ hb hbox hg))
   go_ret
   exact ⟨rfl, HB.out⟩
  ·have qc : decide (3 < a1) = false := decide_eq_false q2
   have qd : decide (a1 > 3) = false := decide_eq_false q2
   rw [if_neg (by omega)] at H
   obtain ⟨s, A1_, H⟩ := Option.bind_eq_some_iff.mp H
   obtain ⟨⟨z0, z1, z2, z3⟩, A2_, H⟩ := Option.bind_eq_some_iff.mp H
   have H1 := Aside0.mk A1_
   have H2 := Aside0.mk A2_
   clear A1_ A2_
   have i3 : (Tryz.prog.info? 3).map (fun i => i.size) = some 1 := by kernel_rfl
   obtain ⟨i, hi, hs⟩ := Option.map_eq_some_iff.mp i3
   have hix1 : ∀ w : World, (Instr.index 67 (.agg #[.int .i64 z0, .int .i64 z1, .int .i64 z2, .int .i64 z3]) (.int .i64 1)).run Tryz.prog w = .ok (.int .i64 z1) w := by
     intro w; simp [Instr.index, go_sem, hu67, Tryz.underlying3, Go.sizeOf, typeInfo, hi, hs, part, isAgg]
   have hix2 : ∀ w : World, (Instr.index 67 (.agg #[.int .i64 z0, .int .i64 z1, .int .i64 z2, .int .i64 z3]) (.int .i64 2)).run Tryz.prog w = .ok (.int .i64 z2) w := by
     intro w; simp [Instr.index, go_sem, hu67, Tryz.underlying3, Go.sizeOf, typeInfo, hi, hs, part, isAgg]
   have hix3 : ∀ w : World, (Instr.index 67 (.agg #[.int .i64 z0, .int .i64 z1, .int .i64 z2, .int .i64 z3]) (.int .i64 3)).run Tryz.prog w = .ok (.int .i64 z3) w := by
     intro w; simp [Instr.index, go_sem, hu67, Tryz.underlying3, Go.sizeOf, typeInfo, hi, hs, part, isAgg]
   clear i3 hi hs
   have h3 : a1 = 1 ∨ a1 = 2 ∨ a1 = 3 := by omega
   have H' := Option.some.inj H
   clear H
   dsimp only at H'
   rcases h3 with rfl | rfl | rfl
   all_goals
     simp at H'
     subst H'
     clear qb qc qd q1 q2
     go_enter Tryz.func14, Tryz.ntmps14
     go_wp2_with (first | ((with_reducible refine gate_dst (N := 2) rfl ?_); refine box_event ?hg (N := 2) ?hd (cs := #[.int .i64 a0_0, .slice A0_1 l0_1.length c0_1, .slice A0_2 l0_2.length c0_2, .slice A0_3 l0_3.length c0_3]) (t := 27) ?hr ?_; (case hd => rfl); (case hg => rfl); (case hr => (go_simp; done)); intro g2 hg w2 hbox hb; have n0_ := Aside0.mk (below_step HB.out hb); have n1_ := Aside0.mk (hbox); have n2_ := Aside0.mk ((by rw [hg]; exact below_size HB.out : w.heap.size ≤ g2)); clear HB; have HB := n0_; have BK2 := n1_; have GE2 := n2_; clear n0_ n1_ n2_ hb hbox hg; obtain ⟨hc20, hc21, hc22, hc23, hf20, hf21, hf22, hf23⟩ := b4 BK2) | (go_at_call 20; (with_reducible refine (poslist_List_Spans.calls k _ _ _ _ _ _ _ _ _ _ s _ ?a1 ?b1 ?a2 ?b2 ?a3 ?b3 H1.out).mono ?_); (case a1 => exact (Kd.C_below HR0_1.out HB.out)); (case b1 => exact HC0_1.out); (case a2 => exact (Kd.C_below HR0_2.out HB.out)); (case b2 => exact HC0_2.out); (case a3 => exact (Kd.C_below HR0_3.out HB.out)); (case b3 => exact HC0_3.out); rintro e w3 ⟨v1, rfl, hv1, hb⟩; have n0_ := Aside0.mk (below_step HB.out hb); have n1_ := Aside0.mk (blk_below BK2.out hb); clear HB BK2; have HB := n0_; have BK2 := n1_; clear n0_ n1_ hb; obtain ⟨Av1, cv1, rfl⟩ := Kd.R_slice hv1) | (go_at_call 46; (with_reducible refine (poslist_costs.calls k _ _ s _ _ _ _ _ ?side1 ?side2 H2.out).mono ?_); (case side1 => exact (Kd.R_reads' hv1).2.2); (case side2 => exact (Kd.R_reads' hv1).2.1); rintro e w4 ⟨rfl, hb⟩; have n0_ := Aside0.mk (below_step HB.out hb); have n1_ := Aside0.mk (blk_below BK2.out hb); clear HB BK2; have HB := n0_; have BK2 := n1_; clear n0_ n1_ hb))
     go_ret
     exact ⟨rfl, HB.out⟩
end Go.Proofs.YtjgmdjieandemaaGreat.Print
end
section
namespace Go.Proofs.YtjgmdjieandemaaGreat.Print
open Go.RowKit Go.Proofs.YtjgmdjieandemaaGreatW.PrintWords Go.Proofs.YtjgmdjieandemaaGreatW.PrintLast Go.Proofs.YtjgmdjieandemaaGreatW.PrintMore
attribute [local go_sem] max2_int min2_int max_two min_two max_three min_three max_four min_four   -- for this text's walks alone
set_option linter.unusedVariables false
set_option linter.unusedSimpArgs false
/-! ### peristylelaw16_awake: function 9 -/
def peristylelaw16_awake.f (k : Nat)  : Option (Bool) := (poslist_From.f k (([5, 3, 4, 3] : List Int))).bind fun bt473 => ((poslist_All.f k 100).bind fun bt485 => ((poslist_List_And.f k bt485.1 bt485.2.1 bt485.2.2.1 bt485.2.2.2.1 bt473.1 bt473.2.1 bt473.2.2.1 bt473.2.2.2.1).bind fun bt497 => ((poslist_List_Pick.f k bt497.1 bt497.2.1 bt497.2.2.1 bt497.2.2.2 1).bind fun bt507 => (if bt473.2.2.2.2 = 0 then ((poslist_List_Form.f bt473.1 bt473.2.1 bt473.2.2.1 bt473.2.2.2.1).bind fun t509 => (if t509 = 3 then ((peristylelaw16_listed.f k bt473.1 bt473.2.1 bt473.2.2.1 bt473.2.2.2.1).bind fun t510 => ((peristyleref01_Same.f k t510 (([3, 4, 5] : List Int))).bind fun t516 => (if t516 = true then (if bt485.2.2.2.2 = 0 then ((poslist_List_Form.f bt485.1 bt485.2.1 bt485.2.2.1 bt485.2.2.2.1).bind fun t517 => (if t517 = 1 then (if bt507.1 = 4 then (if bt507.2 = 0 then ((poslist_List_Less.f k bt485.1 bt485.2.1 bt485.2.2.1 bt485.2.2.2.1 bt473.1 bt473.2.1 bt473.2.2.1 bt473.2.2.2.1).bind fun bt518 => ((poslist_List_Count.f k bt518.1 bt518.2.1 bt518.2.2.1 bt518.2.2.2).bind fun t528 => (if t528 = 97 then ((poslist_List_Cost.f k bt473.1 bt473.2.1 bt473.2.2.1 bt473.2.2.2.1 2).bind fun t529 => (some (t529 == 8))) else (none)))) else (none)) else (none)) else (none))) else (none)) else (none)))) else (none))) else (none)))))
set_option maxHeartbeats 8000000 in
set_option maxRecDepth 100000 in
theorem peristylelaw16_awake.calls (k : Nat)  (r : Bool) (w : World) (h : peristylelaw16_awake.f k  = some r) :
  Calls Tryz.prog 9 #[] w fun e w' => e = .returned (.bool r) ∧ Below w.heap.size w w' := by
 have hu27 := Tryz.underlying27
 have HB := Aside0.mk (Below.refl w.heap.size w)
 have H := h
 clear h
 unfold peristylelaw16_awake.f at H
 obtain ⟨y470, hy470⟩ : ∃ y_ : List Int, y_ = (([5, 3, 4, 3] : List Int)) := ⟨_, rfl⟩
 replace H : ((poslist_From.f k y470).bind fun bt473 => ((poslist_All.f k 100).bind fun bt485 => ((poslist_List_And.f k bt485.1 bt485.2.1 bt485.2.2.1 bt485.2.2.2.1 bt473.1 bt473.2.1 bt473.2.2.1 bt473.2.2.2.1).bind fun bt497 => ((poslist_List_Pick.f k bt497.1 bt497.2.1 bt497.2.2.1 bt497.2.2.2 1).bind fun bt507 => (if bt473.2.2.2.2 = 0 then ((poslist_List_Form.f bt473.1 bt473.2.1 bt473.2.2.1 bt473.2.2.2.1).bind fun t509 => (if t509 = 3 then ((peristylelaw16_listed.f k bt473.1 bt473.2.1 bt473.2.2.1 bt473.2.2.2.1).bind fun t510 => ((peristyleref01_Same.f k t510 (([3, 4, 5] : List Int))).bind fun t516 => (if t516 = true then (if bt485.2.2.2.2 = 0 then ((poslist_List_Form.f bt485.1 bt485.2.1 bt485.2.2.1 bt485.2.2.2.1).bind fun t517 => (if t517 = 1 then (if bt507.1 = 4 then (if bt507.2 = 0 then ((poslist_List_Less.f k bt485.1 bt485.2.1 bt485.2.2.1 bt485.2.2.2.1 bt473.1 bt473.2.1 bt473.2.2.1 bt473.2.2.2.1).bind fun bt518 => ((poslist_List_Count.f k bt518.1 bt518.2.1 bt518.2.2.1 bt518.2.2.2).bind fun t528 => (if t528 = 97 then ((poslist_List_Cost.f k bt473.1 bt473.2.1 bt473.2.2.1 bt473.2.2.2.1 2).bind fun t529 => (some (t529 == 8))) else (none)))) else (none)) else (none)) else (none))) else (none)) else (none)))) else (none))) else (none)))))) = some r := by (rw [hy470]; with_reducible exact H)
 have Ny470 := Aside0.mk hy470
 clear hy470
 replace H := bd H
 obtain ⟨⟨t473, t474, t477, t480, t483⟩, A1, H⟩ := H
 dsimp only at H
 replace H := bd H
 obtain ⟨⟨t485, t486, t489, t492, t495⟩, A2, H⟩ := H
 dsimp only at H
 replace H := bd H
 obtain ⟨⟨t497, t498, t501, t504⟩, A3, H⟩ := H
 dsimp only at H
 replace H := bd H
 obtain ⟨⟨t507, t508⟩, A4, H⟩ := H
 dsimp only at H
 replace H := ife H
 rcases H with ⟨-, c5b0, c5b1, H⟩ | ⟨-, -, -, ⟨⟩⟩
 replace H := bd H
 obtain ⟨t509, A6, H⟩ := H
 replace H := ife H
 rcases H with ⟨-, c7b0, c7b1, H⟩ | ⟨-, -, -, ⟨⟩⟩
 replace H := bd H
 obtain ⟨t510, A8, H⟩ := H
 obtain ⟨y513, hy513⟩ : ∃ y_ : List Int, y_ = (([3, 4, 5] : List Int)) := ⟨_, rfl⟩
 replace H : ((peristyleref01_Same.f k t510 y513).bind fun t516 => (if t516 = true then (if t495 = 0 then ((poslist_List_Form.f t485 t486 t489 t492).bind fun t517 => (if t517 = 1 then (if t507 = 4 then (if t508 = 0 then ((poslist_List_Less.f k t485 t486 t489 t492 t473 t474 t477 t480).bind fun bt518 => ((poslist_List_Count.f k bt518.1 bt518.2.1 bt518.2.2.1 bt518.2.2.2).bind fun t528 => (if t528 = 97 then ((poslist_List_Cost.f k t473 t474 t477 t480 2).bind fun t529 => (some (t529 == 8))) else (none)))) else (none)) else (none)) else (none))) else (none)) else (none))) = some r := by (rw [hy513]; with_reducible exact H)
 have Ny513 := Aside0.mk hy513
 clear hy513
 replace H := bd H
 obtain ⟨t516, A9, H⟩ := H
 replace H := ifb H
 rcases H with ⟨rfl, H⟩ | ⟨-, ⟨⟩⟩
 replace H := ife H
 rcases H with ⟨-, c11b0, c11b1, H⟩ | ⟨-, -, -, ⟨⟩⟩
 replace H := bd H
 obtain ⟨t517, A12, H⟩ := H
 replace H := ife H
 rcases H with ⟨-, c13b0, c13b1, H⟩ | ⟨-, -, -, ⟨⟩⟩
 replace H := ife H
 rcases H with ⟨-, c14b0, c14b1, H⟩ | ⟨-, -, -, ⟨⟩⟩
 replace H := ife H
 rcases H with ⟨-, c15b0, c15b1, H⟩ | ⟨-, -, -, ⟨⟩⟩
 replace H := bd H
 obtain ⟨⟨t518, t519, t522, t525⟩, A16, H⟩ := H
 dsimp only at H
 replace H := bd H
 obtain ⟨t528, A17, H⟩ := H
 replace H := ife H
 rcases H with ⟨-, c18b0, c18b1, H⟩ | ⟨-, -, -, ⟨⟩⟩
 replace H := bd H
 obtain ⟨t529, A19, H⟩ := H
 obtain rfl := Option.some.inj H
 go_enter Tryz.func9, Tryz.ntmps9
 go_wp2_with (first | ((with_reducible refine gate_dst (N := 8) rfl ?_); ((refine gate_guard (by rfl) ?_; dsimp only)); refine Kd.R_lit (Kd.int .i64) _ 3 ?hg (N := 8) ?hd (xs := ([5, 3, 4, 3] : List Int)) (inner := [.int .i64 5, .int .i64 3, .int .i64 4, .int .i64 3]) (ok := fun _ => True) (okp := fun _ => True) ?hr ?hp (fun _ hk => hk) trivial (Below.refl _ _) (Nat.le_refl _) (by simp) ?_; (case hd => rfl); (case hg => rfl); (case hr => (go_simp; done)); (case hp => exact (Reps.one (show Kd.M (Kd.int .i64) _ _ _ 5 [.int .i64 5] from rfl) (Reps.one (show Kd.M (Kd.int .i64) _ _ _ 3 [.int .i64 3] from rfl) (Reps.one (show Kd.M (Kd.int .i64) _ _ _ 4 [.int .i64 4] from rfl) (Reps.one (show Kd.M (Kd.int .i64) _ _ _ 3 [.int .i64 3] from rfl) (Reps.none _ _)))))); intro v471 w20 ho21 hb hg_ hnew_; clear hg_ hnew_; (rw [← Ny470.out] at ho21); have HO472 := Aside0.mk (Kd.R_lower ho21 (below_size (bh HB.out))); replace HB := bsa HB hb; clear hb ho21; obtain ⟨Ao22, co22, eo22⟩ := Kd.R_slice HO472.out; subst eo22) | ((with_reducible refine gate_callee (f := 16) rfl ?_); refine gL 9 Tryz.func16 #[.slice Ao22 y470.length co22] ?_; (with_reducible refine (poslist_From.calls k _ _ y470 t473 t474 t477 t480 t483 _ ?side1 ?side2 A1.out).mono ?_); (case side1 => exact cx (Kd.R_reads' HO472.out).2.2); (case side2 => exact (Kd.R_reads' HO472.out).2.1); rintro e w23 ⟨v475, v478, v481, rfl, ho0, ho1, ho2, hb⟩; refine ⟨_, rfl, ?_⟩; have HO476 := Aside0.mk (Kd.R_lower ho0 (below_size (bh HB.out))); have HO479 := Aside0.mk (Kd.R_lower (Kd.R_new' ho1 (Kd.R_lt (rx HO472.out))) (below_size (bh HB.out))); have HO482 := Aside0.mk (Kd.R_lower (Kd.R_new' ho2 (Kd.R_lt (rx HO472.out))) (below_size (bh HB.out))); replace HO472 := Aside0.mk (Kd.R_mono (Kd.R_told (Kd.R_told (Kd.R_old (rx HO472.out) hb) (Kd.R_base ho1)) (Kd.R_base ho2)) (fun _ h_ => h_.1)); replace HB := bsa HB hb; clear hb ho0 ho1 ho2) | ((with_reducible refine gate_dst (N := 1) rfl ?_); ((refine gate_guard (by rfl) ?_; dsimp only)); refine box_event ?hg (N := 1) ?hd (cs := #[.int .i64 0, .slice none 0 0, .slice none 0 0, .slice none 0 0]) (t := 27) ?hr ?_; (case hd => rfl); (case hg => rfl); (case hr => (go_simp; done)); intro gb484 hg w24 hbox hb; replace HO472 := rba HO472 hb; replace HO476 := rba HO476 hb; replace HO479 := rba HO479 hb; replace HO482 := rba HO482 hb; have BK484 := Aside0.mk (hbox); have GW484 := bza HB hg; have GE484 := bza HB hg; replace HB := bsa HB hb; clear hb hbox hg; obtain ⟨hcz25_0, hcz25_1, hcz25_2, hcz25_3, hfz25_0, hfz25_1, hfz25_2, hfz25_3⟩ := b4 BK484; obtain ⟨Ao26, co26, eo26⟩ := Kd.R_slice HO476.out; subst eo26; obtain ⟨Ao27, co27, eo27⟩ := Kd.R_slice HO479.out; subst eo27; obtain ⟨Ao28, co28, eo28⟩ := Kd.R_slice HO482.out; subst eo28) | ((with_reducible refine gate_store (t := 27) (p := 1) rfl ?_); refine stE 27 1 ((((w24.setCell ⟨gb484, 0, none⟩ (.int .i64 t473)).setCell ⟨gb484, 1, none⟩ (.slice Ao26 t474.length co26)).setCell ⟨gb484, 2, none⟩ (.slice Ao27 t477.length co27)).setCell ⟨gb484, 3, none⟩ (.slice Ao28 t480.length co28)) ?_; intro w29 hw; replace HO472 := rsm (fun k_ => some k_ ≠ (.slice Ao27 t477.length co27 : Value).ownBlock ∧ some k_ ≠ (.slice Ao28 t480.length co28 : Value).ownBlock) HO472 hw (fun _ hk => ⟨hk.1.2, hk.2⟩); replace HO476 := rsm (fun _ => True) HO476 hw (fun _ hk => trivial); replace HO479 := rsm (fun k_ => some k_ ≠ (.slice Ao22 y470.length co22 : Value).ownBlock ∧ some k_ ≠ (.slice Ao28 t480.length co28 : Value).ownBlock) HO479 hw (fun _ hk => ⟨hk.2, hk.1⟩); replace HO482 := rsm (fun k_ => some k_ ≠ (.slice Ao22 y470.length co22 : Value).ownBlock ∧ some k_ ≠ (.slice Ao27 t477.length co27 : Value).ownBlock) HO482 hw (fun _ hk => ⟨hk.2, hk.1⟩); replace BK484 := sps #[.int .i64 t473, .slice Ao26 t474.length co26, .slice Ao27 t477.length co27, .slice Ao28 t480.length co28] BK484 hw (.p (.p (.p (.p .nil)))); replace HB := bhw HB hw; clear hw) | ((with_reducible refine gate_callee (f := 18) rfl ?_); refine gL 13 Tryz.func18 #[.int .i64 100] ?_; (with_reducible refine (poslist_All.calls k 100 t485 t486 t489 t492 t495 _ A2.out).mono ?_); rintro e w30 ⟨v487, v490, v493, rfl, ho0, ho1, ho2, hb⟩; refine ⟨_, rfl, ?_⟩; have HO488 := Aside0.mk (Kd.R_lower (Kd.R_new' ho0 (Kd.R_lt (rx HO476.out))) (below_size (bh HB.out))); replace HO476 := Aside0.mk (Kd.R_elder' (rx HO476.out) (Kd.R_base ho0) hb); have HO491 := Aside0.mk (Kd.R_lower (Kd.R_new' (Kd.R_new' (Kd.R_new' ho1 (Kd.R_lt (rx HO472.out))) (Kd.R_lt (rx HO479.out))) (Kd.R_lt (rx HO482.out))) (below_size (bh HB.out))); have HO494 := Aside0.mk (Kd.R_lower (Kd.R_new' (Kd.R_new' (Kd.R_new' ho2 (Kd.R_lt (rx HO472.out))) (Kd.R_lt (rx HO479.out))) (Kd.R_lt (rx HO482.out))) (below_size (bh HB.out))); replace HO472 := Aside0.mk (Kd.R_mono (Kd.R_told (Kd.R_told (Kd.R_old (rx HO472.out) hb) (Kd.R_base ho1)) (Kd.R_base ho2)) (fun _ h_ => h_.1)); replace HO479 := Aside0.mk (Kd.R_mono (Kd.R_told (Kd.R_told (Kd.R_old (rx HO479.out) hb) (Kd.R_base ho1)) (Kd.R_base ho2)) (fun _ h_ => h_.1)); replace HO482 := Aside0.mk (Kd.R_mono (Kd.R_told (Kd.R_told (Kd.R_old (rx HO482.out) hb) (Kd.R_base ho1)) (Kd.R_base ho2)) (fun _ h_ => h_.1)); replace BK484 := bba BK484 hb; replace HB := bsa HB hb; clear hb ho0 ho1 ho2) | ((with_reducible refine gate_dst (N := 3) rfl ?_); ((refine gate_guard (by rfl) ?_; dsimp only)); refine box_event ?hg (N := 3) ?hd (cs := #[.int .i64 0, .slice none 0 0, .slice none 0 0, .slice none 0 0]) (t := 27) ?hr ?_; (case hd => rfl); (case hg => rfl); (case hr => (go_simp; done)); intro gb496 hg w31 hbox hb; replace HO472 := rba HO472 hb; replace HO476 := rba HO476 hb; replace HO479 := rba HO479 hb; replace HO482 := rba HO482 hb; replace HO488 := rba HO488 hb; replace HO491 := rba HO491 hb; replace HO494 := rba HO494 hb; have BK496 := Aside0.mk (hbox); have GW496 := bza HB hg; have GE496 := bza HB hg; replace HB := bsa HB hb; obtain ⟨NB484_496, NB496_484⟩ := bnm BK484 hg; replace BK484 := bba BK484 hb; clear hb hbox hg; have hnb32 := NB496_484.out; have hnc32 := NB484_496.out; obtain ⟨hcz33_0, hcz33_1, hcz33_2, hcz33_3, hfz33_0, hfz33_1, hfz33_2, hfz33_3⟩ := b4 BK496; obtain ⟨Ao34, co34, eo34⟩ := Kd.R_slice HO488.out; subst eo34; obtain ⟨Ao35, co35, eo35⟩ := Kd.R_slice HO491.out; subst eo35; obtain ⟨Ao36, co36, eo36⟩ := Kd.R_slice HO494.out; subst eo36) | ((with_reducible refine gate_store (t := 27) (p := 3) rfl ?_); refine stE 27 3 ((((w31.setCell ⟨gb496, 0, none⟩ (.int .i64 t485)).setCell ⟨gb496, 1, none⟩ (.slice Ao34 t486.length co34)).setCell ⟨gb496, 2, none⟩ (.slice Ao35 t489.length co35)).setCell ⟨gb496, 3, none⟩ (.slice Ao36 t492.length co36)) ?_; intro w37 hw; have n0_ := rsm (fun k_ => some k_ ≠ (.slice Ao27 t477.length co27 : Value).ownBlock ∧ some k_ ≠ (.slice Ao28 t480.length co28 : Value).ownBlock ∧ some k_ ≠ (.slice Ao35 t489.length co35 : Value).ownBlock ∧ some k_ ≠ (.slice Ao36 t492.length co36 : Value).ownBlock) HO472 hw (fun _ hk => ⟨hk.1.1.1, ⟨hk.1.1.2, ⟨hk.1.2, hk.2⟩⟩⟩); have n1_ := rsm (fun k_ => some k_ ≠ (.slice Ao34 t486.length co34 : Value).ownBlock) HO476 hw (fun _ hk => hk.2); have n2_ := rsm (fun k_ => some k_ ≠ (.slice Ao22 y470.length co22 : Value).ownBlock ∧ some k_ ≠ (.slice Ao28 t480.length co28 : Value).ownBlock ∧ some k_ ≠ (.slice Ao35 t489.length co35 : Value).ownBlock ∧ some k_ ≠ (.slice Ao36 t492.length co36 : Value).ownBlock) HO479 hw (fun _ hk => ⟨hk.1.1.1, ⟨hk.1.1.2, ⟨hk.1.2, hk.2⟩⟩⟩); have n3_ := rsm (fun k_ => some k_ ≠ (.slice Ao22 y470.length co22 : Value).ownBlock ∧ some k_ ≠ (.slice Ao27 t477.length co27 : Value).ownBlock ∧ some k_ ≠ (.slice Ao35 t489.length co35 : Value).ownBlock ∧ some k_ ≠ (.slice Ao36 t492.length co36 : Value).ownBlock) HO482 hw (fun _ hk => ⟨hk.1.1.1, ⟨hk.1.1.2, ⟨hk.1.2, hk.2⟩⟩⟩); have n4_ := rsm (fun k_ => some k_ ≠ (.slice Ao26 t474.length co26 : Value).ownBlock) HO488 hw (fun _ hk => hk.2); have n5_ := rsm (fun k_ => some k_ ≠ (.slice Ao22 y470.length co22 : Value).ownBlock ∧ some k_ ≠ (.slice Ao27 t477.length co27 : Value).ownBlock ∧ some k_ ≠ (.slice Ao28 t480.length co28 : Value).ownBlock ∧ some k_ ≠ (.slice Ao36 t492.length co36 : Value).ownBlock) HO491 hw (fun _ hk => ⟨hk.1.1.2, ⟨hk.1.2, ⟨hk.2, hk.1.1.1⟩⟩⟩); have n6_ := rsm (fun k_ => some k_ ≠ (.slice Ao22 y470.length co22 : Value).ownBlock ∧ some k_ ≠ (.slice Ao27 t477.length co27 : Value).ownBlock ∧ some k_ ≠ (.slice Ao28 t480.length co28 : Value).ownBlock ∧ some k_ ≠ (.slice Ao35 t489.length co35 : Value).ownBlock) HO494 hw (fun _ hk => ⟨hk.1.1.2, ⟨hk.1.2, ⟨hk.2, hk.1.1.1⟩⟩⟩); have n7_ : Aside0 (w37.heap[gb484]? = some (.cells #[.int .i64 t473, .slice Ao26 t474.length co26, .slice Ao27 t477.length co27, .slice Ao28 t480.length co28] 27 (0, 0))) := ⟨(by rw [hw]; exact (bx BK484.out))⟩; have n8_ := sps #[.int .i64 t485, .slice Ao34 t486.length co34, .slice Ao35 t489.length co35, .slice Ao36 t492.length co36] BK496 hw (.p (.p (.p (.p .nil)))); have n9_ := bhw HB hw; clear hw HO472 HO476 HO479 HO482 HO488 HO491 HO494 BK484 BK496 HB; have HO472 := n0_; have HO476 := n1_; have HO479 := n2_; have HO482 := n3_; have HO488 := n4_; have HO491 := n5_; have HO494 := n6_; have BK484 := n7_; have BK496 := n8_; have HB := n9_; clear n0_ n1_ n2_ n3_ n4_ n5_ n6_ n7_ n8_ n9_; obtain ⟨hcz38_0, hcz38_1, hcz38_2, hcz38_3, hfz38_0, hfz38_1, hfz38_2, hfz38_3⟩ := b4 BK496; obtain ⟨hcz39_0, hcz39_1, hcz39_2, hcz39_3, hfz39_0, hfz39_1, hfz39_2, hfz39_3⟩ := b4 BK484) | ((with_reducible refine gate_callee (f := 22) rfl ?_); refine gL 19 Tryz.func22 #[.agg #[.int .i64 t485, .slice Ao34 t486.length co34, .slice Ao35 t489.length co35, .slice Ao36 t492.length co36], .agg #[.int .i64 t473, .slice Ao26 t474.length co26, .slice Ao27 t477.length co27, .slice Ao28 t480.length co28]] ?_; (with_reducible refine (poslist_List_And.calls k t485 _ _ t486 _ _ t489 _ _ t492 t473 _ _ t474 _ _ t477 _ _ t480 t497 t498 t501 t504 _ ?side1 ?side2 ?side3 ?side4 ?side5 ?side6 ?side7 ?side8 ?side9 ?side10 ?side11 ?side12 A3.out).mono ?_); (case side1 => exact cx (Kd.R_reads' HO488.out).2.2); (case side2 => exact (Kd.R_reads' HO488.out).2.1); (case side3 => exact cx (Kd.R_reads' HO491.out).2.2); (case side4 => exact (Kd.R_reads' HO491.out).2.1); (case side5 => exact cx (Kd.R_reads' HO494.out).2.2); (case side6 => exact (Kd.R_reads' HO494.out).2.1); (case side7 => exact cx (Kd.R_reads' HO476.out).2.2); (case side8 => exact (Kd.R_reads' HO476.out).2.1); (case side9 => exact cx (Kd.R_reads' HO479.out).2.2); (case side10 => exact (Kd.R_reads' HO479.out).2.1); (case side11 => exact cx (Kd.R_reads' HO482.out).2.2); (case side12 => exact (Kd.R_reads' HO482.out).2.1); rintro e w40 ⟨v499, v502, v505, rfl, ho0, ho1, ho2, hb⟩; refine ⟨_, rfl, ?_⟩; have HO500 := Aside0.mk (Kd.R_lower (Kd.R_new' (Kd.R_new' ho0 (Kd.R_lt (rx HO476.out))) (Kd.R_lt (rx HO488.out))) (below_size (bh HB.out))); replace HO476 := Aside0.mk (Kd.R_elder' (rx HO476.out) (Kd.R_base ho0) hb); replace HO488 := Aside0.mk (Kd.R_elder' (rx HO488.out) (Kd.R_base ho0) hb); have HO503 := Aside0.mk (Kd.R_lower (Kd.R_new' (Kd.R_new' (Kd.R_new' (Kd.R_new' (Kd.R_new' ho1 (Kd.R_lt (rx HO472.out))) (Kd.R_lt (rx HO479.out))) (Kd.R_lt (rx HO482.out))) (Kd.R_lt (rx HO491.out))) (Kd.R_lt (rx HO494.out))) (below_size (bh HB.out))); have HO506 := Aside0.mk (Kd.R_lower (Kd.R_new' (Kd.R_new' (Kd.R_new' (Kd.R_new' (Kd.R_new' ho2 (Kd.R_lt (rx HO472.out))) (Kd.R_lt (rx HO479.out))) (Kd.R_lt (rx HO482.out))) (Kd.R_lt (rx HO491.out))) (Kd.R_lt (rx HO494.out))) (below_size (bh HB.out))); replace HO472 := Aside0.mk (Kd.R_mono (Kd.R_told (Kd.R_told (Kd.R_old (rx HO472.out) hb) (Kd.R_base ho1)) (Kd.R_base ho2)) (fun _ h_ => h_.1)); replace HO479 := Aside0.mk (Kd.R_mono (Kd.R_told (Kd.R_told (Kd.R_old (rx HO479.out) hb) (Kd.R_base ho1)) (Kd.R_base ho2)) (fun _ h_ => h_.1)); replace HO482 := Aside0.mk (Kd.R_mono (Kd.R_told (Kd.R_told (Kd.R_old (rx HO482.out) hb) (Kd.R_base ho1)) (Kd.R_base ho2)) (fun _ h_ => h_.1)); replace HO491 := Aside0.mk (Kd.R_mono (Kd.R_told (Kd.R_told (Kd.R_old (rx HO491.out) hb) (Kd.R_base ho1)) (Kd.R_base ho2)) (fun _ h_ => h_.1)); replace HO494 := Aside0.mk (Kd.R_mono (Kd.R_told (Kd.R_told (Kd.R_old (rx HO494.out) hb) (Kd.R_base ho1)) (Kd.R_base ho2)) (fun _ h_ => h_.1)); replace BK484 := bba BK484 hb; replace BK496 := bba BK496 hb; replace HB := bsa HB hb; clear hb ho0 ho1 ho2; obtain ⟨Ao41, co41, eo41⟩ := Kd.R_slice HO500.out; subst eo41; obtain ⟨Ao42, co42, eo42⟩ := Kd.R_slice HO503.out; subst eo42; obtain ⟨Ao43, co43, eo43⟩ := Kd.R_slice HO506.out; subst eo43) | ((with_reducible refine gate_callee (f := 31) rfl ?_); refine gL 20 Tryz.func31 #[.agg #[.int .i64 t497, .slice Ao41 t498.length co41, .slice Ao42 t501.length co42, .slice Ao43 t504.length co43], .int .i64 1] ?_; (with_reducible refine (poslist_List_Pick.calls k t497 _ _ t498 _ _ t501 _ _ t504 1 t507 t508 _ ?side1 ?side2 ?side3 ?side4 ?side5 ?side6 A4.out).mono ?_); (case side1 => exact cx (Kd.R_reads' HO500.out).2.2); (case side2 => exact (Kd.R_reads' HO500.out).2.1); (case side3 => exact cx (Kd.R_reads' HO503.out).2.2); (case side4 => exact (Kd.R_reads' HO503.out).2.1); (case side5 => exact cx (Kd.R_reads' HO506.out).2.2); (case side6 => exact (Kd.R_reads' HO506.out).2.1); rintro e w44 ⟨rfl, hb⟩; refine ⟨_, rfl, ?_⟩; replace HO472 := rba HO472 hb; replace HO476 := rba HO476 hb; replace HO479 := rba HO479 hb; replace HO482 := rba HO482 hb; replace HO488 := rba HO488 hb; replace HO491 := rba HO491 hb; replace HO494 := rba HO494 hb; replace HO500 := rba HO500 hb; replace HO503 := rba HO503 hb; replace HO506 := rba HO506 hb; replace BK484 := bba BK484 hb; replace BK496 := bba BK496 hb; replace HB := bsa HB hb; clear hb; obtain ⟨hcz45_0, hcz45_1, hcz45_2, hcz45_3, hfz45_0, hfz45_1, hfz45_2, hfz45_3⟩ := b4 BK484) | (go_at_call 28; (with_reducible refine (poslist_List_Form.calls t473 _ _ t474 _ _ t477 _ _ t480 t509 _ ?side1 ?side2 ?side3 ?side4 ?side5 ?side6 A6.out).mono ?_); (case side1 => exact cx (Kd.R_reads' HO476.out).2.2); (case side2 => exact (Kd.R_reads' HO476.out).2.1); (case side3 => exact cx (Kd.R_reads' HO479.out).2.2); (case side4 => exact (Kd.R_reads' HO479.out).2.1); (case side5 => exact cx (Kd.R_reads' HO482.out).2.2); (case side6 => exact (Kd.R_reads' HO482.out).2.1); rintro e w46 ⟨rfl, hb⟩; replace HO472 := rba HO472 hb; replace HO476 := rba HO476 hb; replace HO479 := rba HO479 hb; replace HO482 := rba HO482 hb; replace HO488 := rba HO488 hb; replace HO491 := rba HO491 hb; replace HO494 := rba HO494 hb; replace HO500 := rba HO500 hb; replace HO503 := rba HO503 hb; replace HO506 := rba HO506 hb; replace BK484 := bba BK484 hb; replace BK496 := bba BK496 hb; replace HB := bsa HB hb; clear hb A6; obtain ⟨hcz47_0, hcz47_1, hcz47_2, hcz47_3, hfz47_0, hfz47_1, hfz47_2, hfz47_3⟩ := b4 BK484) | (go_at_call 29; (with_reducible refine (peristylelaw16_listed.calls k t473 _ _ t474 _ _ t477 _ _ t480 t510 _ ?side1 ?side2 ?side3 ?side4 ?side5 ?side6 A8.out).mono ?_); (case side1 => exact cx (Kd.R_reads' HO476.out).2.2); (case side2 => exact (Kd.R_reads' HO476.out).2.1); (case side3 => exact cx (Kd.R_reads' HO479.out).2.2); (case side4 => exact (Kd.R_reads' HO479.out).2.1); (case side5 => exact cx (Kd.R_reads' HO482.out).2.2); (case side6 => exact (Kd.R_reads' HO482.out).2.1); rintro e w48 ⟨v511, rfl, ho0, hb⟩; replace HO476 := rba HO476 hb; replace HO488 := rba HO488 hb; replace HO500 := rba HO500 hb; have HO512 := Aside0.mk (Kd.R_lower (Kd.R_new' (Kd.R_new' (Kd.R_new' (Kd.R_new' (Kd.R_new' (Kd.R_new' (Kd.R_new' ho0 (Kd.R_lt (rx HO472.out))) (Kd.R_lt (rx HO479.out))) (Kd.R_lt (rx HO482.out))) (Kd.R_lt (rx HO491.out))) (Kd.R_lt (rx HO494.out))) (Kd.R_lt (rx HO503.out))) (Kd.R_lt (rx HO506.out))) (below_size (bh HB.out))); replace HO472 := Aside0.mk (Kd.R_elder' (rx HO472.out) (Kd.R_base ho0) hb); replace HO479 := Aside0.mk (Kd.R_elder' (rx HO479.out) (Kd.R_base ho0) hb); replace HO482 := Aside0.mk (Kd.R_elder' (rx HO482.out) (Kd.R_base ho0) hb); replace HO491 := Aside0.mk (Kd.R_elder' (rx HO491.out) (Kd.R_base ho0) hb); replace HO494 := Aside0.mk (Kd.R_elder' (rx HO494.out) (Kd.R_base ho0) hb); replace HO503 := Aside0.mk (Kd.R_elder' (rx HO503.out) (Kd.R_base ho0) hb); replace HO506 := Aside0.mk (Kd.R_elder' (rx HO506.out) (Kd.R_base ho0) hb); replace BK484 := bba BK484 hb; replace BK496 := bba BK496 hb; replace HB := bsa HB hb; clear hb ho0 A8) | ((with_reducible refine gate_dst (N := 33) rfl ?_); ((refine gate_guard (by rfl) ?_; dsimp only)); refine Kd.R_lit (Kd.int .i64) _ 3 ?hg (N := 33) ?hd (xs := ([3, 4, 5] : List Int)) (inner := [.int .i64 3, .int .i64 4, .int .i64 5]) (ok := fun _ => True) (okp := fun _ => True) ?hr ?hp (fun _ hk => hk) trivial (Below.refl _ _) (Nat.le_refl _) (by simp) ?_; (case hd => rfl); (case hg => rfl); (case hr => (go_simp; done)); (case hp => exact (Reps.one (show Kd.M (Kd.int .i64) _ _ _ 3 [.int .i64 3] from rfl) (Reps.one (show Kd.M (Kd.int .i64) _ _ _ 4 [.int .i64 4] from rfl) (Reps.one (show Kd.M (Kd.int .i64) _ _ _ 5 [.int .i64 5] from rfl) (Reps.none _ _))))); intro v514 w49 ho50 hb hg_ hnew_; clear hg_ hnew_; (rw [← Ny513.out] at ho50); replace HO476 := rba HO476 hb; replace HO488 := rba HO488 hb; replace HO500 := rba HO500 hb; have HO515 := Aside0.mk (Kd.R_lower (Kd.R_new' (Kd.R_new' (Kd.R_new' (Kd.R_new' (Kd.R_new' (Kd.R_new' (Kd.R_new' (Kd.R_new' ho50 (Kd.R_lt (rx HO472.out))) (Kd.R_lt (rx HO479.out))) (Kd.R_lt (rx HO482.out))) (Kd.R_lt (rx HO491.out))) (Kd.R_lt (rx HO494.out))) (Kd.R_lt (rx HO503.out))) (Kd.R_lt (rx HO506.out))) (Kd.R_lt (rx HO512.out))) (below_size (bh HB.out))); replace HO472 := Aside0.mk (Kd.R_elder' (rx HO472.out) (Kd.R_base ho50) hb); replace HO479 := Aside0.mk (Kd.R_elder' (rx HO479.out) (Kd.R_base ho50) hb); replace HO482 := Aside0.mk (Kd.R_elder' (rx HO482.out) (Kd.R_base ho50) hb); replace HO491 := Aside0.mk (Kd.R_elder' (rx HO491.out) (Kd.R_base ho50) hb); replace HO494 := Aside0.mk (Kd.R_elder' (rx HO494.out) (Kd.R_base ho50) hb); replace HO503 := Aside0.mk (Kd.R_elder' (rx HO503.out) (Kd.R_base ho50) hb); replace HO506 := Aside0.mk (Kd.R_elder' (rx HO506.out) (Kd.R_base ho50) hb); replace HO512 := Aside0.mk (Kd.R_elder' (rx HO512.out) (Kd.R_base ho50) hb); replace BK484 := bba BK484 hb; replace BK496 := bba BK496 hb; replace HB := bsa HB hb; clear hb ho50; obtain ⟨Ao51, co51, eo51⟩ := Kd.R_slice HO512.out; subst eo51; obtain ⟨Ao52, co52, eo52⟩ := Kd.R_slice HO515.out; subst eo52) | (go_at_call 40; (with_reducible refine (peristyleref01_Same.calls k _ _ t510 _ _ y513 true _ ?side1 ?side2 ?side3 ?side4 A9.out).mono ?_); (case side1 => exact cx (Kd.R_reads' HO512.out).2.2); (case side2 => exact (Kd.R_reads' HO512.out).2.1); (case side3 => exact cx (Kd.R_reads' HO515.out).2.2); (case side4 => exact (Kd.R_reads' HO515.out).2.1); rintro e w' ⟨rfl, ⟨nd, rfl⟩⟩; clear A9; obtain ⟨hcz53_0, hcz53_1, hcz53_2, hcz53_3, hfz53_0, hfz53_1, hfz53_2, hfz53_3⟩ := b4 BK496) | (go_at_call 28; (with_reducible refine (poslist_List_Form.calls t485 _ _ t486 _ _ t489 _ _ t492 t517 _ ?side1 ?side2 ?side3 ?side4 ?side5 ?side6 A12.out).mono ?_); (case side1 => exact cx (Kd.R_reads' HO488.out).2.2); (case side2 => exact (Kd.R_reads' HO488.out).2.1); (case side3 => exact cx (Kd.R_reads' HO491.out).2.2); (case side4 => exact (Kd.R_reads' HO491.out).2.1); (case side5 => exact cx (Kd.R_reads' HO494.out).2.2); (case side6 => exact (Kd.R_reads' HO494.out).2.1); rintro e w54 ⟨rfl, hb⟩; replace HO472 := rba HO472 hb; replace HO476 := rba HO476 hb; replace HO479 := rba HO479 hb; replace HO482 := rba HO482 hb; replace HO488 := rba HO488 hb; replace HO491 := rba HO491 hb; replace HO494 := rba HO494 hb; replace HO500 := rba HO500 hb; replace HO503 := rba HO503 hb; replace HO506 := rba HO506 hb; replace HO512 := rba HO512 hb; replace HO515 := rba HO515 hb; replace BK484 := bba BK484 hb; replace BK496 := bba BK496 hb; replace HB := bsa HB hb; clear hb A12; obtain ⟨hcz55_0, hcz55_1, hcz55_2, hcz55_3, hfz55_0, hfz55_1, hfz55_2, hfz55_3⟩ := b4 BK496; obtain ⟨hcz56_0, hcz56_1, hcz56_2, hcz56_3, hfz56_0, hfz56_1, hfz56_2, hfz56_3⟩ := b4 BK484) | (go_at_call 25; (with_reducible refine (poslist_List_Less.calls k t485 _ _ t486 _ _ t489 _ _ t492 t473 _ _ t474 _ _ t477 _ _ t480 t518 t519 t522 t525 _ ?side1 ?side2 ?side3 ?side4 ?side5 ?side6 ?side7 ?side8 ?side9 ?side10 ?side11 ?side12 A16.out).mono ?_); (case side1 => exact cx (Kd.R_reads' HO488.out).2.2); (case side2 => exact (Kd.R_reads' HO488.out).2.1); (case side3 => exact cx (Kd.R_reads' HO491.out).2.2); (case side4 => exact (Kd.R_reads' HO491.out).2.1); (case side5 => exact cx (Kd.R_reads' HO494.out).2.2); (case side6 => exact (Kd.R_reads' HO494.out).2.1); (case side7 => exact cx (Kd.R_reads' HO476.out).2.2); (case side8 => exact (Kd.R_reads' HO476.out).2.1); (case side9 => exact cx (Kd.R_reads' HO479.out).2.2); (case side10 => exact (Kd.R_reads' HO479.out).2.1); (case side11 => exact cx (Kd.R_reads' HO482.out).2.2); (case side12 => exact (Kd.R_reads' HO482.out).2.1); rintro e w57 ⟨v520, v523, v526, rfl, ho0, ho1, ho2, hb⟩; have HO521 := Aside0.mk (Kd.R_lower (Kd.R_new' (Kd.R_new' (Kd.R_new' ho0 (Kd.R_lt (rx HO476.out))) (Kd.R_lt (rx HO488.out))) (Kd.R_lt (rx HO500.out))) (below_size (bh HB.out))); replace HO476 := Aside0.mk (Kd.R_elder' (rx HO476.out) (Kd.R_base ho0) hb); replace HO488 := Aside0.mk (Kd.R_elder' (rx HO488.out) (Kd.R_base ho0) hb); replace HO500 := Aside0.mk (Kd.R_elder' (rx HO500.out) (Kd.R_base ho0) hb); have HO524 := Aside0.mk (Kd.R_lower (Kd.R_new' (Kd.R_new' (Kd.R_new' (Kd.R_new' (Kd.R_new' (Kd.R_new' (Kd.R_new' (Kd.R_new' (Kd.R_new' ho1 (Kd.R_lt (rx HO472.out))) (Kd.R_lt (rx HO479.out))) (Kd.R_lt (rx HO482.out))) (Kd.R_lt (rx HO491.out))) (Kd.R_lt (rx HO494.out))) (Kd.R_lt (rx HO503.out))) (Kd.R_lt (rx HO506.out))) (Kd.R_lt (rx HO512.out))) (Kd.R_lt (rx HO515.out))) (below_size (bh HB.out))); have HO527 := Aside0.mk (Kd.R_lower (Kd.R_new' (Kd.R_new' (Kd.R_new' (Kd.R_new' (Kd.R_new' (Kd.R_new' (Kd.R_new' (Kd.R_new' (Kd.R_new' ho2 (Kd.R_lt (rx HO472.out))) (Kd.R_lt (rx HO479.out))) (Kd.R_lt (rx HO482.out))) (Kd.R_lt (rx HO491.out))) (Kd.R_lt (rx HO494.out))) (Kd.R_lt (rx HO503.out))) (Kd.R_lt (rx HO506.out))) (Kd.R_lt (rx HO512.out))) (Kd.R_lt (rx HO515.out))) (below_size (bh HB.out))); replace HO472 := Aside0.mk (Kd.R_mono (Kd.R_told (Kd.R_told (Kd.R_old (rx HO472.out) hb) (Kd.R_base ho1)) (Kd.R_base ho2)) (fun _ h_ => h_.1)); replace HO479 := Aside0.mk (Kd.R_mono (Kd.R_told (Kd.R_told (Kd.R_old (rx HO479.out) hb) (Kd.R_base ho1)) (Kd.R_base ho2)) (fun _ h_ => h_.1)); replace HO482 := Aside0.mk (Kd.R_mono (Kd.R_told (Kd.R_told (Kd.R_old (rx HO482.out) hb) (Kd.R_base ho1)) (Kd.R_base ho2)) (fun _ h_ => h_.1)); replace HO491 := Aside0.mk (Kd.R_mono (Kd.R_told (Kd.R_told (Kd.R_old (rx HO491.out) hb) (Kd.R_base ho1)) (Kd.R_base ho2)) (fun _ h_ => h_.1)); replace HO494 := Aside0.mk (Kd.R_mono (Kd.R_told (Kd.R_told (Kd.R_old (rx HO494.out) hb) (Kd.R_base ho1)) (Kd.R_base ho2)) (fun _ h_ => h_.1)); replace HO503 := Aside0.mk (Kd.R_mono (Kd.R_told (Kd.R_told (Kd.R_old (rx HO503.out) hb) (Kd.R_base ho1)) (Kd.R_base ho2)) (fun _ h_ => h_.1)); replace HO506 := Aside0.mk (Kd.R_mono (Kd.R_told (Kd.R_told (Kd.R_old (rx HO506.out) hb) (Kd.R_base ho1)) (Kd.R_base ho2)) (fun _ h_ => h_.1)); replace HO512 := Aside0.mk (Kd.R_mono (Kd.R_told (Kd.R_told (Kd.R_old (rx HO512.out) hb) (Kd.R_base ho1)) (Kd.R_base ho2)) (fun _ h_ => h_.1)); replace HO515 := Aside0.mk (Kd.R_mono (Kd.R_told (Kd.R_told (Kd.R_old (rx HO515.out) hb) (Kd.R_base ho1)) (Kd.R_base ho2)) (fun _ h_ => h_.1)); replace BK484 := bba BK484 hb; replace BK496 := bba BK496 hb; replace HB := bsa HB hb; clear hb ho0 ho1 ho2 A16; obtain ⟨Ao58, co58, eo58⟩ := Kd.R_slice HO521.out; subst eo58; obtain ⟨Ao59, co59, eo59⟩ := Kd.R_slice HO524.out; subst eo59; obtain ⟨Ao60, co60, eo60⟩ := Kd.R_slice HO527.out; subst eo60) | (go_at_call 19; (with_reducible refine (poslist_List_Count.calls k t518 _ _ t519 _ _ t522 _ _ t525 t528 _ ?side1 ?side2 ?side3 ?side4 ?side5 ?side6 A17.out).mono ?_); (case side1 => exact cx (Kd.R_reads' HO521.out).2.2); (case side2 => exact (Kd.R_reads' HO521.out).2.1); (case side3 => exact cx (Kd.R_reads' HO524.out).2.2); (case side4 => exact (Kd.R_reads' HO524.out).2.1); (case side5 => exact cx (Kd.R_reads' HO527.out).2.2); (case side6 => exact (Kd.R_reads' HO527.out).2.1); rintro e w61 ⟨rfl, hb⟩; replace HO472 := rba HO472 hb; replace HO476 := rba HO476 hb; replace HO479 := rba HO479 hb; replace HO482 := rba HO482 hb; replace HO488 := rba HO488 hb; replace HO491 := rba HO491 hb; replace HO494 := rba HO494 hb; replace HO500 := rba HO500 hb; replace HO503 := rba HO503 hb; replace HO506 := rba HO506 hb; replace HO512 := rba HO512 hb; replace HO515 := rba HO515 hb; replace HO521 := rba HO521 hb; replace HO524 := rba HO524 hb; replace HO527 := rba HO527 hb; replace BK484 := bba BK484 hb; replace BK496 := bba BK496 hb; replace HB := bsa HB hb; clear hb A17; obtain ⟨hcz62_0, hcz62_1, hcz62_2, hcz62_3, hfz62_0, hfz62_1, hfz62_2, hfz62_3⟩ := b4 BK484) | (go_at_call 14; (with_reducible refine (poslist_List_Cost.calls k t473 _ _ t474 _ _ t477 _ _ t480 2 t529 _ ?side1 ?side2 ?side3 ?side4 ?side5 ?side6 A19.out).mono ?_); (case side1 => exact cx (Kd.R_reads' HO476.out).2.2); (case side2 => exact (Kd.R_reads' HO476.out).2.1); (case side3 => exact cx (Kd.R_reads' HO479.out).2.2); (case side4 => exact (Kd.R_reads' HO479.out).2.1); (case side5 => exact cx (Kd.R_reads' HO482.out).2.2); (case side6 => exact (Kd.R_reads' HO482.out).2.1); rintro e w63 ⟨rfl, hb⟩; replace HO472 := rba HO472 hb; replace HO476 := rba HO476 hb; replace HO479 := rba HO479 hb; replace HO482 := rba HO482 hb; replace HO488 := rba HO488 hb; replace HO491 := rba HO491 hb; replace HO494 := rba HO494 hb; replace HO500 := rba HO500 hb; replace HO503 := rba HO503 hb; replace HO506 := rba HO506 hb; replace HO512 := rba HO512 hb; replace HO515 := rba HO515 hb; replace HO521 := rba HO521 hb; replace HO524 := rba HO524 hb; replace HO527 := rba HO527 hb; replace BK484 := bba BK484 hb; replace BK496 := bba BK496 hb; replace HB := bsa HB hb; clear hb A19))
 go_ret
 exact ⟨er, bh HB.out⟩
/-! ### poslist_List_Slice: function 26 -/
def poslist_List_Slice.j0 : Nat → Int → Int → Int → Bool → Int → List (S64) → List Int → List Int → Option (Int × (List (S64)) × List Int × List Int)
 | 0, _, _, _, _, _, _, _, _ => none
 | k + 1, x1, x2, x7, x24, x531000, x531001, x531002, x531003 => if x24 = true then (some (0, ([] : List (S64)), ([] : List Int), ([] : List Int))) else ((poslist_List_Pick.f k x531000 x531001 x531002 x531003 x1).bind fun bt533 => ((poslist_List_Pick.f k x531000 x531001 x531002 x531003 (wrap64 ((wrap64 (x1 + (mn x2 (wrap64 (x7 - x1))))) - 1))).bind fun bt535 => ((poslist_List_Spans.f k x531000 x531001 x531002 x531003).bind fun t537 => ((span_And.f k t537 (([(⟨bt533.1, wrap64 (bt535.1 + 1)⟩ : S64)] : List (S64)))).bind fun bt543 => ((poslist_best.f k bt543.1).bind fun bt547 => (some (bt547.1, bt547.2.1, bt547.2.2.1, bt547.2.2.2)))))))
def poslist_List_Slice.f (k : Nat) (a0_0 : Int) (l0_1 : List (S64)) (l0_2 : List Int) (l0_3 : List Int) (a1 : Int) (a2 : Int) : Option (Int × (List (S64)) × List Int × List Int) := (poslist_List_Count.f k a0_0 l0_1 l0_2 l0_3).bind fun t532 => (if a2 < 1 then (poslist_List_Slice.j0 k (mx a1 0) a2 t532 true a0_0 l0_1 l0_2 l0_3) else (poslist_List_Slice.j0 k (mx a1 0) a2 t532 (decide ((mx a1 0) ≥ t532)) a0_0 l0_1 l0_2 l0_3))
theorem poslist_List_Slice.j0_succ (k) (a0) (a1) (a2) (a3) (a4) (a5) (a6) (a7) : type_of% (@poslist_List_Slice.j0.eq_2 a0 a1 a2 a3 a4 a5 a6 a7 k) := poslist_List_Slice.j0.eq_2 a0 a1 a2 a3 a4 a5 a6 a7 k
set_option maxHeartbeats 8000000 in
set_option maxRecDepth 100000 in
theorem poslist_List_Slice.calls (k : Nat) (a0_0 : Int) (A0_1 : Option Addr) (c0_1 : Nat) (l0_1 : List (S64)) (A0_2 : Option Addr) (c0_2 : Nat) (l0_2 : List Int) (A0_3 : Option Addr) (c0_3 : Nat) (l0_3 : List Int) (a1 : Int) (a2 : Int) (r1 : Int) (r2 : List (S64)) (r3 : List Int) (r4 : List Int) (w : World) (hr0_1 : Kd.C k64 w A0_1 l0_1.length l0_1) (hc0_1 : l0_1.length ≤ c0_1) (hr0_2 : Kd.C (Kd.int .i64) w A0_2 l0_2.length l0_2) (hc0_2 : l0_2.length ≤ c0_2) (hr0_3 : Kd.C (Kd.int .i64) w A0_3 l0_3.length l0_3) (hc0_3 : l0_3.length ≤ c0_3) (h : poslist_List_Slice.f k a0_0 l0_1 l0_2 l0_3 a1 a2 = some (r1, r2, r3, r4)) :
  Calls Tryz.prog 26 #[.agg #[.int .i64 a0_0, .slice A0_1 l0_1.length c0_1, .slice A0_2 l0_2.length c0_2, .slice A0_3 l0_3.length c0_3], .int .i64 a1, .int .i64 a2] w fun e w' => ∃ v1_ v2_ v3_ : Value, e = .returned (.agg #[.int .i64 r1, v1_, v2_, v3_]) ∧ Kd.R k64 64 w' w.heap.size (fun _ => True) v1_ r2 ∧ Kd.R (Kd.int .i64) 3 w' w.heap.size (fun k_ => some k_ ≠ (v3_ : Value).ownBlock) v2_ r3 ∧ Kd.R (Kd.int .i64) 3 w' w.heap.size (fun k_ => some k_ ≠ (v2_ : Value).ownBlock) v3_ r4 ∧ Below w.heap.size w w' := by
 have hu27 := Tryz.underlying27
 have hu64 := Tryz.underlying64
 have HR0_1 := Aside0.mk hr0_1
 have HC0_1 := Aside0.mk hc0_1
 clear hr0_1 hc0_1
 have HR0_2 := Aside0.mk hr0_2
 have HC0_2 := Aside0.mk hc0_2
 clear hr0_2 hc0_2
 have HR0_3 := Aside0.mk hr0_3
 have HC0_3 := Aside0.mk hc0_3
 clear hr0_3 hc0_3
 have HB := Aside0.mk (Below.refl w.heap.size w)
 have H := h
 clear h
 unfold poslist_List_Slice.f at H
 obtain ⟨ji4, hji4⟩ : ∃ j_ : Int, (mx a1 0) = j_ := ⟨_, rfl⟩
 replace H : ((poslist_List_Count.f k a0_0 l0_1 l0_2 l0_3).bind fun t532 => (if a2 < 1 then (poslist_List_Slice.j0 k ji4 a2 t532 true a0_0 l0_1 l0_2 l0_3) else (poslist_List_Slice.j0 k ji4 a2 t532 (decide ((ji4) ≥ t532)) a0_0 l0_1 l0_2 l0_3))) = some (r1, r2, r3, r4) := by (rw [hji4] at H; exact H)
 ((have hji4l : 0 ≤ ji4 := by (rw [← hji4]; unfold mx; (repeat' split) <;> omega)))
 ((have hji4m : 0 ≤ ji4 := by omega))
 have hji4_ : (if a1 < 0 then 0 else a1) = ji4 := hji4
 replace H := bd H
 obtain ⟨t532, A5, H⟩ := H
 have HC6 := Aside0.mk H
 clear H
 go_enter Tryz.func26, Tryz.ntmps26
 go_upto_region 3 with (first | ((with_reducible refine gate_dst (N := 3) rfl ?_); refine boxE HB 3 27 #[.int .i64 a0_0, .slice A0_1 l0_1.length c0_1, .slice A0_2 l0_2.length c0_2, .slice A0_3 l0_3.length c0_3] ?_; clear HB; intro gb530 w7 BK530 GW530 hg hb HB; have GE530 := GW530; clear hb hg) | ((with_reducible refine gate_dst (N := 6) rfl ?_); refine boxE HB 6 27 #[.int .i64 0, .slice none 0 0, .slice none 0 0, .slice none 0 0] ?_; clear HB; intro gb531 w8 BK531 GW531 hg hb HB; have GE531 := GW531; have NB530_531 := bna BK530 hg; have NB531_530 := bma BK530 hg; replace BK530 := bba BK530 hb; clear hb hg; have hnb9 := NB530_531.out; have hnc9 := NB531_530.out; obtain ⟨hcz10_0, hcz10_1, hcz10_2, hcz10_3, hfz10_0, hfz10_1, hfz10_2, hfz10_3⟩ := b4 BK530) | ((with_reducible refine gate_callee (f := 19) rfl ?_); refine gL 17 Tryz.func19 #[.agg #[.int .i64 a0_0, .slice A0_1 l0_1.length c0_1, .slice A0_2 l0_2.length c0_2, .slice A0_3 l0_3.length c0_3]] ?_; (with_reducible refine (poslist_List_Count.calls k a0_0 _ _ l0_1 _ _ l0_2 _ _ l0_3 t532 _ ?side1 ?side2 ?side3 ?side4 ?side5 ?side6 A5.out).mono ?_); (case side1 => exact cx (Kd.C_below HR0_1.out HB.out)); (case side2 => exact HC0_1.out); (case side3 => exact cx (Kd.C_below HR0_2.out HB.out)); (case side4 => exact HC0_2.out); (case side5 => exact cx (Kd.C_below HR0_3.out HB.out)); (case side6 => exact HC0_3.out); rintro e w11 ⟨rfl, hb⟩; refine ⟨_, rfl, ?_⟩; replace BK530 := bba BK530 hb; replace BK531 := bba BK531 hb; replace HB := bsa HB hb; clear hb))
 go_cut [24] (fun v24 wc => ∃ (kq : Nat) (x24_5 : Bool), v24 = .bool x24_5 ∧ Aside0 (poslist_List_Slice.j0 kq ji4 a2 t532 x24_5 a0_0 l0_1 l0_2 l0_3 = some (r1, r2, r3, r4)) ∧ Aside0 (kq ≤ k) ∧ Aside0 (wc.heap[gb530]? = some (.cells #[.int .i64 a0_0, (.slice A0_1 l0_1.length c0_1), (.slice A0_2 l0_2.length c0_2), (.slice A0_3 l0_3.length c0_3)] 27 (0, 0))) ∧ Aside0 (wc.heap[gb531]? = some (.cells #[.int .i64 0, (.slice none 0 0), (.slice none 0 0), (.slice none 0 0)] 27 (0, 0))) ∧ Aside0 (Below w.heap.size w wc))
 case first =>
  have H := HC6.out
  clear HC6
  replace H := ifd H
  rcases H with ⟨-, c12b0, H⟩ | ⟨-, c12b0, H⟩
  ·(skip)
   have H' := Aside0.mk H
   clear H
   go_wp2
   go_meet
   case rel => exact ⟨_, (true), (by rfl), (by exact H'), ⟨by omega⟩, ⟨bx BK530.out⟩, ⟨bx BK531.out⟩, ⟨bh HB.out⟩⟩
  ·(skip)
   have H' := Aside0.mk H
   clear H
   go_wp2
   go_meet
   case rel => exact ⟨_, (decide ((ji4) ≥ t532)), (by rfl), (by exact H'), ⟨by omega⟩, ⟨bx BK530.out⟩, ⟨bx BK531.out⟩, ⟨bh HB.out⟩⟩
 case rest =>
  clear HC6 hcz10_0 hcz10_1 hcz10_2 hcz10_3 hfz10_0 hfz10_1 hfz10_2 hfz10_3
  obtain ⟨kq, x24_5, rfl, HA, HJ5, BK530, BK531, HB⟩ := hcut
  cases kq with
  | zero => exact absurd HA.out (by simp [poslist_List_Slice.j0])
  | succ kj5 =>
   have H := HA.out
   clear HA
   simp only [poslist_List_Slice.j0] at H
   replace H := ifb H
   rcases H with ⟨rfl, H⟩ | ⟨rfl, H⟩
   ·simp only [Option.some.injEq, Prod.mk.injEq] at H
    obtain ⟨rfl, rfl, rfl, rfl⟩ := H
    have hnb14 := NB531_530.out
    have hnc14 := NB530_531.out
    obtain ⟨hcz15_0, hcz15_1, hcz15_2, hcz15_3, hfz15_0, hfz15_1, hfz15_2, hfz15_3⟩ := b4 BK531
    go_wp2_with (((with_reducible refine gate_store (t := 27) (p := 6) rfl ?_); refine stE 27 6 ((((wc.setCell ⟨gb531, 0, none⟩ (.int .i64 0)).setCell ⟨gb531, 1, none⟩ (.slice none 0 0)).setCell ⟨gb531, 2, none⟩ (.slice none 0 0)).setCell ⟨gb531, 3, none⟩ (.slice none 0 0)) ?_; intro w16 hw; have n0_ : Aside0 (w16.heap[gb530]? = some (.cells #[.int .i64 a0_0, .slice A0_1 l0_1.length c0_1, .slice A0_2 l0_2.length c0_2, .slice A0_3 l0_3.length c0_3] 27 (0, 0))) := ⟨(by rw [hw]; exact (bx BK530.out))⟩; have n1_ := sps #[.int .i64 0, .slice none 0 0, .slice none 0 0, .slice none 0 0] BK531 hw (.p (.p (.p (.p .nil)))); have n2_ := bhw HB hw; clear hw BK530 BK531 HB; have BK530 := n0_; have BK531 := n1_; have HB := n2_; clear n0_ n1_ n2_))
    refine bodyPost_ret (results_cell_row rfl _ _ gb531 27 #[.int .i64 0, .slice none 0 0, .slice none 0 0, .slice none 0 0] (0, 0) _ rfl (bx BK531.out) Tryz.underlying27 rfl (by kernel_rfl)) rfl ?_
    exact ⟨_, _, _, by rfl, nl, nl, nl, bh HB.out⟩
   ·obtain ⟨ji17, hji17⟩ : ∃ j_ : Int, (mn a2 (wrap64 (t532 - ji4))) = j_ := ⟨_, rfl⟩
    replace H : ((poslist_List_Pick.f kj5 a0_0 l0_1 l0_2 l0_3 ji4).bind fun bt533 => ((poslist_List_Pick.f kj5 a0_0 l0_1 l0_2 l0_3 (wrap64 ((wrap64 (ji4 + (ji17))) - 1))).bind fun bt535 => ((poslist_List_Spans.f kj5 a0_0 l0_1 l0_2 l0_3).bind fun t537 => ((span_And.f kj5 t537 (([(⟨bt533.1, wrap64 (bt535.1 + 1)⟩ : S64)] : List (S64)))).bind fun bt543 => ((poslist_best.f kj5 bt543.1).bind fun bt547 => (some (bt547.1, bt547.2.1, bt547.2.2.1, bt547.2.2.2))))))) = some (r1, r2, r3, r4) := by (rw [hji17] at H; exact H)
    have hji17_ : (if (wrap64 (t532 - ji4)) < a2 then (wrap64 (t532 - ji4)) else a2) = ji17 := hji17
    replace H := bd H
    obtain ⟨⟨t533, t534⟩, A18, H⟩ := H
    dsimp only at H
    replace H := bd H
    obtain ⟨⟨t535, t536⟩, A19, H⟩ := H
    dsimp only at H
    replace H := bd H
    obtain ⟨t537, A20, H⟩ := H
    obtain ⟨y540, hy540⟩ : ∃ y_ : List (S64), y_ = (([(⟨t533, wrap64 (t535 + 1)⟩ : S64)] : List (S64))) := ⟨_, rfl⟩
    replace H : ((span_And.f kj5 t537 y540).bind fun bt543 => ((poslist_best.f kj5 bt543.1).bind fun bt547 => (some (bt547.1, bt547.2.1, bt547.2.2.1, bt547.2.2.2)))) = some (r1, r2, r3, r4) := by (rw [hy540]; with_reducible exact H)
    have Ny540 := Aside0.mk hy540
    clear hy540
    replace H := bd H
    obtain ⟨⟨t543, t544⟩, A21, H⟩ := H
    dsimp only at H
    replace H := bd H
    obtain ⟨⟨t547, t548, t551, t554⟩, A22, H⟩ := H
    dsimp only at H
    simp only [Option.some.injEq, Prod.mk.injEq] at H
    obtain ⟨rfl, rfl, rfl, rfl⟩ := H
    have hnb23 := NB530_531.out
    have hnc23 := NB531_530.out
    obtain ⟨hcz24_0, hcz24_1, hcz24_2, hcz24_3, hfz24_0, hfz24_1, hfz24_2, hfz24_3⟩ := b4 BK530
    go_wp2_with (first | ((with_reducible refine gate_callee (f := 31) rfl ?_); refine gL 34 Tryz.func31 #[.agg #[.int .i64 a0_0, .slice A0_1 l0_1.length c0_1, .slice A0_2 l0_2.length c0_2, .slice A0_3 l0_3.length c0_3], .int .i64 ji4] ?_; (with_reducible refine (poslist_List_Pick.calls kj5 a0_0 _ _ l0_1 _ _ l0_2 _ _ l0_3 ji4 t533 t534 _ ?side1 ?side2 ?side3 ?side4 ?side5 ?side6 A18.out).mono ?_); (case side1 => exact cx (Kd.C_below HR0_1.out HB.out)); (case side2 => exact HC0_1.out); (case side3 => exact cx (Kd.C_below HR0_2.out HB.out)); (case side4 => exact HC0_2.out); (case side5 => exact cx (Kd.C_below HR0_3.out HB.out)); (case side6 => exact HC0_3.out); rintro e w25 ⟨rfl, hb⟩; refine ⟨_, rfl, ?_⟩; replace BK530 := bba BK530 hb; replace BK531 := bba BK531 hb; replace HB := bsa HB hb; clear hb; obtain ⟨hcz26_0, hcz26_1, hcz26_2, hcz26_3, hfz26_0, hfz26_1, hfz26_2, hfz26_3⟩ := b4 BK530) | ((with_reducible refine gate_callee (f := 31) rfl ?_); refine gL 43 Tryz.func31 #[.agg #[.int .i64 a0_0, .slice A0_1 l0_1.length c0_1, .slice A0_2 l0_2.length c0_2, .slice A0_3 l0_3.length c0_3], .int .i64 (wrap64 ((wrap64 (ji4 + (ji17))) - 1))] ?_; (with_reducible refine (poslist_List_Pick.calls kj5 a0_0 _ _ l0_1 _ _ l0_2 _ _ l0_3 (wrap64 ((wrap64 (ji4 + (ji17))) - 1)) t535 t536 _ ?side1 ?side2 ?side3 ?side4 ?side5 ?side6 A19.out).mono ?_); (case side1 => exact cx (Kd.C_below HR0_1.out HB.out)); (case side2 => exact HC0_1.out); (case side3 => exact cx (Kd.C_below HR0_2.out HB.out)); (case side4 => exact HC0_2.out); (case side5 => exact cx (Kd.C_below HR0_3.out HB.out)); (case side6 => exact HC0_3.out); rintro e w27 ⟨rfl, hb⟩; refine ⟨_, rfl, ?_⟩; replace BK530 := bba BK530 hb; replace BK531 := bba BK531 hb; replace HB := bsa HB hb; clear hb; obtain ⟨hcz28_0, hcz28_1, hcz28_2, hcz28_3, hfz28_0, hfz28_1, hfz28_2, hfz28_3⟩ := b4 BK530) | ((with_reducible refine gate_callee (f := 20) rfl ?_); refine gL 48 Tryz.func20 #[.agg #[.int .i64 a0_0, .slice A0_1 l0_1.length c0_1, .slice A0_2 l0_2.length c0_2, .slice A0_3 l0_3.length c0_3]] ?_; (with_reducible refine (poslist_List_Spans.calls kj5 a0_0 _ _ l0_1 _ _ l0_2 _ _ l0_3 t537 _ ?side1 ?side2 ?side3 ?side4 ?side5 ?side6 A20.out).mono ?_); (case side1 => exact cx (Kd.C_below HR0_1.out HB.out)); (case side2 => exact HC0_1.out); (case side3 => exact cx (Kd.C_below HR0_2.out HB.out)); (case side4 => exact HC0_2.out); (case side5 => exact cx (Kd.C_below HR0_3.out HB.out)); (case side6 => exact HC0_3.out); rintro e w29 ⟨v538, rfl, ho0, hb⟩; refine ⟨_, rfl, ?_⟩; have HO539 := Aside0.mk (Kd.R_lower ho0 (below_size (bh HB.out))); replace BK530 := bba BK530 hb; replace BK531 := bba BK531 hb; replace HB := bsa HB hb; clear hb ho0) | ((with_reducible refine gate_dst (N := 53) rfl ?_); refine Kd.R_lit k64 _ 64 ?hg (N := 53) ?hd (xs := ([(⟨t533, wrap64 (t535 + 1)⟩ : S64)] : List (S64))) (inner := [.int .i64 t533, .int .i64 (wrap64 (t535 + 1))]) (ok := fun _ => True) (okp := fun _ => True) ?hr ?hp (fun _ hk => hk) trivial (Below.refl _ _) (Nat.le_refl _) (by simp) ?_; (case hd => rfl); (case hg => rfl); (case hr => (go_simp; done)); (case hp => exact (Reps.c2 (show Kd.M k64 _ _ _ (⟨t533, wrap64 (t535 + 1)⟩ : S64) [.int .i64 t533, .int .i64 (wrap64 (t535 + 1))] from (k64_mkM _ _ _ (⟨t533, wrap64 (t535 + 1)⟩ : S64) )) (Reps.none _ _))); intro v541 w30 ho31 hb hg_ hnew_; clear hg_ hnew_; (rw [← Ny540.out] at ho31); have HO542 := Aside0.mk (Kd.R_lower (Kd.R_new' ho31 (Kd.R_lt (rx HO539.out))) (below_size (bh HB.out))); replace HO539 := Aside0.mk (Kd.R_elder' (rx HO539.out) (Kd.R_base ho31) hb); replace BK530 := bba BK530 hb; replace BK531 := bba BK531 hb; replace HB := bsa HB hb; clear hb ho31; obtain ⟨Ao32, co32, eo32⟩ := Kd.R_slice HO539.out; subst eo32; obtain ⟨Ao33, co33, eo33⟩ := Kd.R_slice HO542.out; subst eo33) | ((with_reducible refine gate_callee (f := 57) rfl ?_); refine gL 54 Tryz.func57 #[.slice Ao32 t537.length co32, .slice Ao33 y540.length co33] ?_; (with_reducible refine (span_And.calls kj5 _ _ t537 _ _ y540 t543 t544 _ ?side1 ?side2 ?side3 ?side4 A21.out).mono ?_); (case side1 => exact cx (Kd.R_reads' HO539.out).2.2); (case side2 => exact (Kd.R_reads' HO539.out).2.1); (case side3 => exact cx (Kd.R_reads' HO542.out).2.2); (case side4 => exact (Kd.R_reads' HO542.out).2.1); rintro e w34 ⟨v545, rfl, ho0, hb⟩; refine ⟨_, rfl, ?_⟩; have HO546 := Aside0.mk (Kd.R_lower (Kd.R_new' (Kd.R_new' ho0 (Kd.R_lt (rx HO539.out))) (Kd.R_lt (rx HO542.out))) (below_size (bh HB.out))); replace HO539 := Aside0.mk (Kd.R_elder' (rx HO539.out) (Kd.R_base ho0) hb); replace HO542 := Aside0.mk (Kd.R_elder' (rx HO542.out) (Kd.R_base ho0) hb); replace BK530 := bba BK530 hb; replace BK531 := bba BK531 hb; replace HB := bsa HB hb; clear hb ho0; obtain ⟨Ao35, co35, eo35⟩ := Kd.R_slice HO546.out; subst eo35) | ((with_reducible refine gate_callee (f := 64) rfl ?_); refine gL 58 Tryz.func64 #[.slice Ao35 t543.length co35] ?_; (with_reducible refine (poslist_best.calls kj5 _ _ t543 t547 t548 t551 t554 _ ?side1 ?side2 A22.out).mono ?_); (case side1 => exact cx (Kd.R_reads' HO546.out).2.2); (case side2 => exact (Kd.R_reads' HO546.out).2.1); rintro e w36 ⟨v549, v552, v555, rfl, ho0, ho1, ho2, hb⟩; refine ⟨_, rfl, ?_⟩; have HO550 := Aside0.mk (Kd.R_lower (Kd.R_new' (Kd.R_new' (Kd.R_new' ho0 (Kd.R_lt (rx HO539.out))) (Kd.R_lt (rx HO542.out))) (Kd.R_lt (rx HO546.out))) (below_size (bh HB.out))); replace HO539 := Aside0.mk (Kd.R_elder' (rx HO539.out) (Kd.R_base ho0) hb); replace HO542 := Aside0.mk (Kd.R_elder' (rx HO542.out) (Kd.R_base ho0) hb); replace HO546 := Aside0.mk (Kd.R_elder' (rx HO546.out) (Kd.R_base ho0) hb); have HO553 := Aside0.mk (Kd.R_lower ho1 (below_size (bh HB.out))); have HO556 := Aside0.mk (Kd.R_lower ho2 (below_size (bh HB.out))); replace BK530 := bba BK530 hb; replace BK531 := bba BK531 hb; replace HB := bsa HB hb; clear hb ho0 ho1 ho2; obtain ⟨hcz37_0, hcz37_1, hcz37_2, hcz37_3, hfz37_0, hfz37_1, hfz37_2, hfz37_3⟩ := b4 BK531; obtain ⟨Ao38, co38, eo38⟩ := Kd.R_slice HO550.out; subst eo38; obtain ⟨Ao39, co39, eo39⟩ := Kd.R_slice HO553.out; subst eo39; obtain ⟨Ao40, co40, eo40⟩ := Kd.R_slice HO556.out; subst eo40) | ((with_reducible refine gate_store (t := 27) (p := 6) rfl ?_); refine stE 27 6 ((((w36.setCell ⟨gb531, 0, none⟩ (.int .i64 t547)).setCell ⟨gb531, 1, none⟩ (.slice Ao38 t548.length co38)).setCell ⟨gb531, 2, none⟩ (.slice Ao39 t551.length co39)).setCell ⟨gb531, 3, none⟩ (.slice Ao40 t554.length co40)) ?_; intro w41 hw; have n0_ := rsm (fun k_ => some k_ ≠ (.slice Ao33 y540.length co33 : Value).ownBlock ∧ some k_ ≠ (.slice Ao35 t543.length co35 : Value).ownBlock ∧ some k_ ≠ (.slice Ao38 t548.length co38 : Value).ownBlock) HO539 hw (fun _ hk => ⟨hk.1.1.2, ⟨hk.1.2, hk.2⟩⟩); have n1_ := rsm (fun k_ => some k_ ≠ (.slice Ao32 t537.length co32 : Value).ownBlock ∧ some k_ ≠ (.slice Ao35 t543.length co35 : Value).ownBlock ∧ some k_ ≠ (.slice Ao38 t548.length co38 : Value).ownBlock) HO542 hw (fun _ hk => ⟨hk.1.1.2, ⟨hk.1.2, hk.2⟩⟩); have n2_ := rsm (fun k_ => some k_ ≠ (.slice Ao32 t537.length co32 : Value).ownBlock ∧ some k_ ≠ (.slice Ao33 y540.length co33 : Value).ownBlock ∧ some k_ ≠ (.slice Ao38 t548.length co38 : Value).ownBlock) HO546 hw (fun _ hk => ⟨hk.1.1.2, ⟨hk.1.2, hk.2⟩⟩); have n3_ := rsm (fun k_ => some k_ ≠ (.slice Ao32 t537.length co32 : Value).ownBlock ∧ some k_ ≠ (.slice Ao33 y540.length co33 : Value).ownBlock ∧ some k_ ≠ (.slice Ao35 t543.length co35 : Value).ownBlock) HO550 hw (fun _ hk => ⟨hk.1.1.2, ⟨hk.1.2, hk.2⟩⟩); have n4_ := rst HO553 hw; have n5_ := rst HO556 hw; have n6_ : Aside0 (w41.heap[gb530]? = some (.cells #[.int .i64 a0_0, .slice A0_1 l0_1.length c0_1, .slice A0_2 l0_2.length c0_2, .slice A0_3 l0_3.length c0_3] 27 (0, 0))) := ⟨(by rw [hw]; exact (bx BK530.out))⟩; have n7_ := sps #[.int .i64 t547, .slice Ao38 t548.length co38, .slice Ao39 t551.length co39, .slice Ao40 t554.length co40] BK531 hw (.p (.p (.p (.p .nil)))); have n8_ := bhw HB hw; clear hw HO539 HO542 HO546 HO550 HO553 HO556 BK530 BK531 HB; have HO539 := n0_; have HO542 := n1_; have HO546 := n2_; have HO550 := n3_; have HO553 := n4_; have HO556 := n5_; have BK530 := n6_; have BK531 := n7_; have HB := n8_; clear n0_ n1_ n2_ n3_ n4_ n5_ n6_ n7_ n8_))
    refine bodyPost_ret (results_cell_row rfl _ _ gb531 27 #[.int .i64 t547, .slice Ao38 t548.length co38, .slice Ao39 t551.length co39, .slice Ao40 t554.length co40] (0, 0) _ rfl (bx BK531.out) Tryz.underlying27 rfl (by kernel_rfl)) rfl ?_
    exact ⟨_, _, _, by rfl, by exact Kd.R_mono HO550.out (fun _ hk => trivial), by exact HO553.out, by exact HO556.out, bh HB.out⟩
/-! ### words_Or_1: function 89 -/
def words_Or_1.f (a0 : Int) (a1 : Int) : Option (Int) := some (Go.bits .or .i64 a0 a1)
set_option maxHeartbeats 8000000 in
set_option maxRecDepth 100000 in
theorem words_Or_1.calls (a0 : Int) (a1 : Int) (r : Int) (w : World) (h : words_Or_1.f a0 a1 = some r) :
  Calls Tryz.prog 89 #[.int .i64 a0, .int .i64 a1] w fun e w' => e = .returned (.int .i64 r) ∧ Drawn0 w w' := by
 have H := h
 clear h
 unfold words_Or_1.f at H
 obtain rfl := Option.some.inj H
 go_enter Tryz.func89, Tryz.ntmps89
 go_wp2
 go_ret
 exact ⟨by rfl, by repeat (exact Drawn0.refl _)⟩
/-! ### words_both_fn89: function 85 -/
mutual
def words_both_fn89.j0 : Nat → List Int → List Int → Bool → Option (List Int × Int)
 | 0, _, _, _ => none
 | k + 1, x0, x1, x18 => if x18 = true then (some (([] : List Int), 1)) else (if 0 ≤ (mx (x0.length : Int) (x1.length : Int)) then (if (mx (x0.length : Int) (x1.length : Int) : Int).toNat ≤ 35184372088832 then ((some (List.replicate (mx (x0.length : Int) (x1.length : Int) : Int).toNat 0 : List Int)).bind fun y559 => (words_both_fn89.l0 k x0 x1 y559 (y559.length : Int) 0)) else (none)) else (none))
def words_both_fn89.l0 : Nat → List Int → List Int → List Int → Int → Int → Option (List Int × Int)
 | 0, _, _, _, _, _ => none
 | k + 1, x0, x1, x9, x26, x27 => if x27 < x26 then ((words_both_1.f x0 x27).bind fun t562 => ((words_both_1.f x1 x27).bind fun t563 => ((words_Or_1.f t562 t563).bind fun t564 => (if 0 ≤ x27 then (if x27 < (x9.length : Int) then (words_both_fn89.l0 k x0 x1 (x9.set (x27 : Int).toNat t564) x26 (wrap64 (x27 + 1))) else (none)) else (none))))) else ((words_trimmed.f k x9).bind fun t566 => (some (t566, 0)))
end
def words_both_fn89.f (k : Nat) (l0 : List Int) (l1 : List Int)  : Option (List Int × Int) := (words_May.f l0).bind fun t557 => (if t557 = true then ((words_May.f l1).bind fun t558 => (words_both_fn89.j0 k l0 l1 (!t558))) else (words_both_fn89.j0 k l0 l1 true))
theorem words_both_fn89.j0_succ (k) (a0) (a1) (a2) : type_of% (@words_both_fn89.j0.eq_2 a0 a1 a2 k) := words_both_fn89.j0.eq_2 a0 a1 a2 k
theorem words_both_fn89.l0_succ (k) (a0) (a1) (a2) (a3) (a4) : type_of% (@words_both_fn89.l0.eq_2 a0 a1 a2 a3 a4 k) := words_both_fn89.l0.eq_2 a0 a1 a2 a3 a4 k
set_option maxHeartbeats 8000000 in
set_option maxRecDepth 100000 in
theorem words_both_fn89.calls (k : Nat) (A0 : Option Addr) (c0 : Nat) (l0 : List Int) (A1 : Option Addr) (c1 : Nat) (l1 : List Int)  (r1 : List Int) (r2 : Int) (w : World) (hr0 : Kd.C (Kd.int .i64) w A0 l0.length l0) (hc0 : l0.length ≤ c0) (hr1 : Kd.C (Kd.int .i64) w A1 l1.length l1) (hc1 : l1.length ≤ c1) (h : words_both_fn89.f k l0 l1 = some (r1, r2)) :
  Calls Tryz.prog 85 #[.slice A0 l0.length c0, .slice A1 l1.length c1, .func (.func 89) #[] #[]] w fun e w' => ∃ v0_ : Value, e = .returned (.tuple #[v0_, .int .i64 r2]) ∧ Kd.V (Kd.int .i64) 3 w' w.heap.size (fun k_ => (w.heap.size ≤ k_)) v0_ r1 ∧ Below w.heap.size w w' := by
 have HR0 := Aside0.mk hr0
 have HC0 := Aside0.mk hc0
 clear hr0 hc0
 have HR1 := Aside0.mk hr1
 have HC1 := Aside0.mk hc1
 clear hr1 hc1
 have HB := Aside0.mk (Below.refl w.heap.size w)
 have H := h
 clear h
 unfold words_both_fn89.f at H
 have HC4 := Aside0.mk H
 clear H
 go_enter Tryz.func85, Tryz.ntmps85
 go_upto_region 1 with (fail)
 go_cut [18] (fun v18 wc => ∃ (kq : Nat) (x18_3 : Bool), v18 = .bool x18_3 ∧ Aside0 (words_both_fn89.j0 kq l0 l1 x18_3 = some (r1, r2)) ∧ Aside0 (kq ≤ k) ∧ Aside0 (Below w.heap.size w wc))
 case first =>
  have H := HC4.out
  clear HC4
  replace H := bd H
  obtain ⟨t557, A5, H⟩ := H
  replace H := ifb H
  rcases H with ⟨rfl, H⟩ | ⟨rfl, H⟩
  ·replace H := bd H
   obtain ⟨t558, A7, H⟩ := H
   have H' := Aside0.mk H
   clear H
   go_wp2_with (first | ((with_reducible refine gate_callee (f := 80) rfl ?_); refine gL 12 Tryz.func80 #[.slice A0 l0.length c0] ?_; (with_reducible refine (words_May.calls _ _ l0 true _ ?side1 ?side2 A5.out).mono ?_); (case side1 => exact cx (Kd.C_below HR0.out HB.out)); (case side2 => exact HC0.out); rintro e w' ⟨rfl, ⟨nd, rfl⟩⟩; refine ⟨_, rfl, ?_⟩) | (go_at_call 80; (with_reducible refine (words_May.calls _ _ l1 t558 _ ?side1 ?side2 A7.out).mono ?_); (case side1 => repeat (exact (Kd.C_below HR1.out (bh HB.out)))); (case side2 => exact HC1.out); rintro e w' ⟨rfl, ⟨nd, rfl⟩⟩; clear A7))
   go_meet
   case rel => exact ⟨_, (!t558), (by rfl), H', ⟨by omega⟩, ⟨bh HB.out⟩⟩
  ·have H' := Aside0.mk H
   clear H
   go_wp2_with (((with_reducible refine gate_callee (f := 80) rfl ?_); refine gL 12 Tryz.func80 #[.slice A0 l0.length c0] ?_; (with_reducible refine (words_May.calls _ _ l0 false _ ?side1 ?side2 A5.out).mono ?_); (case side1 => exact cx (Kd.C_below HR0.out HB.out)); (case side2 => exact HC0.out); rintro e w' ⟨rfl, ⟨nd, rfl⟩⟩; refine ⟨_, rfl, ?_⟩))
   go_meet
   case rel => exact ⟨_, (true), (by rfl), H', ⟨by omega⟩, ⟨bh HB.out⟩⟩
 case rest =>
  clear HC4
  obtain ⟨kq, x18_3, rfl, HA, HJ3, HB⟩ := hcut
  cases kq with
  | zero => exact absurd HA.out (by simp [words_both_fn89.j0])
  | succ kj3 =>
   have H := HA.out
   clear HA
   simp only [words_both_fn89.j0] at H
   replace H := ifb H
   rcases H with ⟨rfl, H⟩ | ⟨rfl, H⟩
   ·simp only [Option.some.injEq, Prod.mk.injEq] at H
    obtain ⟨rfl, rfl⟩ := H
    go_wp2
    go_ret2
    exact ⟨_, er, Kd.V_nil _ _ _ _ _, bh HB.out⟩
   ·obtain ⟨ji9, hji9⟩ : ∃ j_ : Int, (mx (l0.length : Int) (l1.length : Int)) = j_ := ⟨_, rfl⟩
    replace H : (if 0 ≤ (ji9) then (if (ji9 : Int).toNat ≤ 35184372088832 then ((some (List.replicate (ji9 : Int).toNat 0 : List Int)).bind fun y559 => (words_both_fn89.l0 kj3 l0 l1 y559 (y559.length : Int) 0)) else (none)) else (none)) = some (r1, r2) := by (rw [hji9] at H; exact H)
    have hji9_ : (if (l0.length : Int) < (l1.length : Int) then (l1.length : Int) else (l0.length : Int)) = ji9 := hji9
    have hji9n_ := hji9_
    (simp only [Int.ofNat_lt] at hji9n_)
    replace H := ifn H
    obtain ⟨c10, -, H⟩ := H
    have c10b0 := eq_true c10
    have c10b1 : decide (0 ≤ (ji9)) = true := decide_eq_true c10
    clear c10
    replace H := ifn H
    obtain ⟨c11, -, H⟩ := H
    have c11b0 := eq_true c11
    have c11b1 : decide ((ji9 : Int).toNat ≤ 35184372088832) = true := decide_eq_true c11
    clear c11
    obtain ⟨y559, hy559⟩ : ∃ y_ : List Int, y_ = (List.replicate (ji9 : Int).toNat 0) := ⟨_, rfl⟩
    replace H : (words_both_fn89.l0 kj3 l0 l1 y559 (y559.length : Int) 0) = some (r1, r2) := by (have H2_ := (Option.bind_some _ _).symm.trans H; rw [hy559]; with_reducible exact H2_)
    have Ny559 := Aside0.mk hy559
    clear hy559
    have H' := Aside0.mk H
    clear H
    go_wp2_with (((with_reducible refine gate_dst (N := 24) rfl ?_); refine Kd.R_make (Kd.int .i64) _ 3 rfl (N := 24) rfl 25 _ _ rfl ji9 (by rfl) (by rfl) Tryz.underlying25 (.int .i64 0) 8 info3 rfl (by decide) (by omega) 0 (ok := fun _ => True) (okp := fun _ => True) rfl (fun _ hk => hk) trivial (of_decide_eq_true (by assumption)) (Nat.le_trans (Nat.mul_le_mul_right _ (of_decide_eq_true (by assumption) : ji9.toNat ≤ 35184372088832)) (by omega)) (Below.refl _ _) (Nat.le_refl _) ?_; intro v560 w12 ho13 hb hg_ hnew_; clear hg_ hnew_; (rw [← Ny559.out] at ho13); have HO561 := Aside0.mk (Kd.R_lower (Kd.R_newM (M := fun k_ => (w.heap.size ≤ k_)) ho13 (below_size (bh HB.out)) (fun k_ h_ => h_)) (below_size (bh HB.out))); replace HB := bsa HB hb; clear hb ho13; obtain ⟨Ao14, co14, eo14⟩ := Kd.R_slice HO561.out; subst eo14))
    go_loopg [27] kj3 (fun kq v27 w' => ∃ (x9_2 : List Int) (x27_2 : Int), v27 = .int .i64 x27_2 ∧ Aside0 (words_both_fn89.l0 kq l0 l1 x9_2 (y559.length : Int) x27_2 = some (r1, r2)) ∧ Aside0 (kq ≤ kj3) ∧ Aside0 (Kd.R (Kd.int .i64) 3 w' w.heap.size (fun k_ => (w.heap.size ≤ k_)) (.slice Ao14 y559.length co14) x9_2) ∧ Aside0 (Below w.heap.size w w'))
    case atStart => exact ⟨(y559), (0), (by rfl), H', ⟨Nat.le_refl _⟩, ⟨by exact Kd.R_mono HO561.out (fun _ hk => hk.1)⟩, ⟨bh HB.out⟩⟩
    case round =>
     clear H' c10b0 c10b1 c11b0 c11b1
     obtain ⟨x9_2, x27_2, rfl, HA, HK2, HO_9, HB⟩ := hrel
     have hl9_2 := (Kd.R_reads' HO_9.out).1
     rw [hl9_2] at HO_9
     (simp only [hl9_2])
     cases gk with
     | zero => exact absurd HA.out (by simp [words_both_fn89.l0])
     | succ k2 =>
      have H := HA.out
      clear HA
      simp only [words_both_fn89.l0] at H
      replace H := ifd H
      rcases H with ⟨c15, c15b0, H⟩ | ⟨c15, c15b0, H⟩
      ·((have c15b0l := c15b0; simp only [hl9_2] at c15b0l))
       clear c15
       replace H := bd H
       obtain ⟨t562, A16, H⟩ := H
       replace H := bd H
       obtain ⟨t563, A17, H⟩ := H
       replace H := bd H
       obtain ⟨t564, A18, H⟩ := H
       replace H := ifn H
       obtain ⟨-, c19b0, H⟩ := H
       replace H := ifn H
       obtain ⟨-, c20b0, H⟩ := H
       obtain ⟨y565, hy565⟩ : ∃ y_ : List Int, y_ = (x9_2.set (x27_2 : Int).toNat t564) := ⟨_, rfl⟩
       replace H : (words_both_fn89.l0 k2 l0 l1 y565 (y559.length : Int) (wrap64 (x27_2 + 1))) = some (r1, r2) := by (rw [hy565]; with_reducible exact H)
       have Ny565 := Aside0.mk hy565
       clear hy565
       have H' := Aside0.mk H
       clear H
       go_wp2_with (first | ((with_reducible refine gate_list ?_); refine gate_value rfl ?_; refine goesV_ (some 36) rfl rfl Tryz.func108 (by kernel_rfl) rfl #[.slice A0 l0.length c0, .int .i64 x27_2] rfl (by rfl) (by (simp only [List.map_toArray, List.map_cons, List.map_nil]); rfl) ?_; (with_reducible refine (words_both_1.calls _ _ l0 x27_2 t562 _ ?side1 ?side2 A16.out).mono ?_); (case side1 => exact cx (Kd.C_below HR0.out HB.out)); (case side2 => exact HC0.out); rintro e w' ⟨rfl, ⟨nd, rfl⟩⟩; refine ⟨_, rfl, ?_⟩; ((rw [drewN_self wr]; generalize hq_ : World.drewN wr _ = wr; have n0_ : Aside0 (Kd.R (Kd.int .i64) 3 wr w.heap.size (fun k_ => (w.heap.size ≤ k_)) (.slice Ao14 x9_2.length co14) x9_2) := ⟨by rw [← hq_]; exact (rx HO_9.out)⟩; have n1_ : Aside0 (Below w.heap.size w wr) := ⟨by rw [← hq_]; exact (bh HB.out)⟩; clear HO_9 HB hq_; have HO_9 := n0_; have HB := n1_; clear n0_ n1_))) | ((with_reducible refine gate_list ?_); refine gate_value rfl ?_; refine goesV_ (some 40) rfl rfl Tryz.func108 (by kernel_rfl) rfl #[.slice A1 l1.length c1, .int .i64 x27_2] rfl (by rfl) (by (simp only [List.map_toArray, List.map_cons, List.map_nil]); rfl) ?_; (with_reducible refine (words_both_1.calls _ _ l1 x27_2 t563 _ ?side1 ?side2 A17.out).mono ?_); (case side1 => exact cx (Kd.C_below HR1.out HB.out)); (case side2 => exact HC1.out); rintro e w' ⟨rfl, ⟨nd, rfl⟩⟩; refine ⟨_, rfl, ?_⟩; ((rw [drewN_self wr]; generalize hq_ : World.drewN wr _ = wr; have n0_ : Aside0 (Kd.R (Kd.int .i64) 3 wr w.heap.size (fun k_ => (w.heap.size ≤ k_)) (.slice Ao14 x9_2.length co14) x9_2) := ⟨by rw [← hq_]; exact (rx HO_9.out)⟩; have n1_ : Aside0 (Below w.heap.size w wr) := ⟨by rw [← hq_]; exact (bh HB.out)⟩; clear HO_9 HB hq_; have HO_9 := n0_; have HB := n1_; clear n0_ n1_))) | ((with_reducible refine gate_list ?_); refine gate_value rfl ?_; refine goesV_ (some 41) rfl rfl Tryz.func89 (by kernel_rfl) rfl #[.int .i64 t562, .int .i64 t563] rfl (by rfl) (by (simp only [List.map_toArray, List.map_cons, List.map_nil]); rfl) ?_; (with_reducible refine (words_Or_1.calls t562 t563 t564 _ A18.out).mono ?_); rintro e w' ⟨rfl, ⟨nd, rfl⟩⟩; refine ⟨_, rfl, ?_⟩; ((rw [drewN_self wr]; generalize hq_ : World.drewN wr _ = wr; have n0_ : Aside0 (Kd.R (Kd.int .i64) 3 wr w.heap.size (fun k_ => (w.heap.size ≤ k_)) (.slice Ao14 x9_2.length co14) x9_2) := ⟨by rw [← hq_]; exact (rx HO_9.out)⟩; have n1_ : Aside0 (Below w.heap.size w wr) := ⟨by rw [← hq_]; exact (bh HB.out)⟩; clear HO_9 HB hq_; have HO_9 := n0_; have HB := n1_; clear n0_ n1_)); have p21 : 0 ≤ (x27_2 : Int) := ad; have q21 : (x27_2 : Int) < ((x9_2.length : Int) : Int) := ad; obtain ⟨go21, co21, eo21, gb21, gl21, cl21, HG21⟩ := Kd.R_form HO_9.out (by omega); (cases eo21); have GB21 := Aside0.mk gb21; have GG21 := Aside0.mk HG21; clear gb21 gl21 HG21; obtain ⟨hx21_0, hf21_0⟩ := Kd.R_celln 0 HO_9.out (x27_2 : Int) p21 q21; replace p21 := eq_true p21; replace q21 := eq_true q21; obtain ⟨hy22_, hz22_⟩ := Kd.R_celln 0 HO_9.out (x27_2 : Int) (of_decide_eq_true (by assumption)) (of_decide_eq_true (by assumption)); have HP22 := Kd.R_putg HO_9.out (x27_2 : Int) t564) | ((with_reducible refine gate_store (t := 3) (p := 42) rfl ?_); refine stE 3 42 (wr.setCell ⟨go21, (x27_2 : Int).toNat, none⟩ (.int .i64 t564)) ?_; intro w23 hw; have hg : wr.grownBy w23 (some go21) := (by rw [hw]; exact HP22.2); have hp_ : Kd.R (Kd.int .i64) 3 w23 w.heap.size (fun k_ => (w.heap.size ≤ k_)) (.slice (some ⟨go21, 0, none⟩) x9_2.length co14) y565 := (by rw [hw, Ny565.out]; exact HP22.1); clear HP22; replace HO_9 := Aside0.mk (hp_); replace HB := Aside0.mk ((by rw [hw]; exact below_set (HB.out) GB21.out : Below w.heap.size w w23)); clear hg hw hp_))
       (simp only [← hl9_2])
       go_roundg k2
       case measure => have := HJ3.out; have := HK2.out; omega
       case rel => exact ⟨(y565), (wrap64 (x27_2 + 1)), (by rfl), (by exact H'), ⟨by have := HJ3.out; have := HK2.out; omega⟩, ⟨by (simp only [hl9_2]); exact HO_9.out⟩, ⟨bh HB.out⟩⟩
      ·((have c15b0l := c15b0; simp only [hl9_2] at c15b0l))
       clear c15
       replace H := bd H
       obtain ⟨t566, A24, H⟩ := H
       simp only [Option.some.injEq, Prod.mk.injEq] at H
       obtain ⟨rfl, rfl⟩ := H
       go_wp2_with (((with_reducible refine gate_callee (f := 109) rfl ?_); refine gL 45 Tryz.func109 #[.slice Ao14 x9_2.length co14] ?_; (with_reducible refine (words_trimmed.calls k2 (fun k_ => some k_ = (.slice Ao14 x9_2.length co14 : Value).ownBlock) _ _ x9_2 t566 _ ?side1 A24.out).mono ?_); (case side1 => exact Kd.R_V (Kd.R_tight rfl (HO_9.out))); rintro e w25 ⟨v567, rfl, ho0, hb⟩; refine ⟨_, rfl, ?_⟩; have HO568 := Aside0.mk (Kd.V_lower (Kd.V_mono (ok' := fun k_ => (w.heap.size ≤ k_)) ho0 (fun k_ hk_ => Or.elim hk_ (fun hs_ => ((HO_9.out).1 k_ hs_.symm)) (fun hn_ => (Nat.le_trans (below_size (bh HB.out)) hn_)))) (below_size (bh HB.out))); replace HO_9 := rba HO_9 hb; replace HB := bsa HB hb; clear hb ho0))
       go_ret2
       exact ⟨_, by rfl, by exact HO568.out, bh HB.out⟩
/-! ### words_Or: function 59 -/
def words_Or.f (k : Nat) (l0 : List Int) (l1 : List Int) : Option (List Int × Int) := (words_both_fn89.f k l0 l1).bind fun bt569 => (some (bt569.1, bt569.2))
set_option maxHeartbeats 8000000 in
set_option maxRecDepth 100000 in
theorem words_Or.calls (k : Nat) (A0 : Option Addr) (c0 : Nat) (l0 : List Int) (A1 : Option Addr) (c1 : Nat) (l1 : List Int) (r1 : List Int) (r2 : Int) (w : World) (hr0 : Kd.C (Kd.int .i64) w A0 l0.length l0) (hc0 : l0.length ≤ c0) (hr1 : Kd.C (Kd.int .i64) w A1 l1.length l1) (hc1 : l1.length ≤ c1) (h : words_Or.f k l0 l1 = some (r1, r2)) :
  Calls Tryz.prog 59 #[.slice A0 l0.length c0, .slice A1 l1.length c1] w fun e w' => ∃ v0_ : Value, e = .returned (.tuple #[v0_, .int .i64 r2]) ∧ Kd.V (Kd.int .i64) 3 w' w.heap.size (fun k_ => (w.heap.size ≤ k_)) v0_ r1 ∧ Below w.heap.size w w' := by
 have HR0 := Aside0.mk hr0
 have HC0 := Aside0.mk hc0
 clear hr0 hc0
 have HR1 := Aside0.mk hr1
 have HC1 := Aside0.mk hc1
 clear hr1 hc1
 have HB := Aside0.mk (Below.refl w.heap.size w)
 have H := h
 clear h
 unfold words_Or.f at H
 replace H := bd H
 obtain ⟨⟨t569, t572⟩, A3, H⟩ := H
 dsimp only at H
 simp only [Option.some.injEq, Prod.mk.injEq] at H
 obtain ⟨rfl, rfl⟩ := H
 go_enter Tryz.func59, Tryz.ntmps59
 go_wp2_with (((with_reducible refine gate_callee (f := 85) rfl ?_); refine gL 8 Tryz.func85 #[.slice A0 l0.length c0, .slice A1 l1.length c1, .func (.func 89) #[] #[]] ?_; (with_reducible refine (words_both_fn89.calls k _ _ l0 _ _ l1  t569 t572 _ ?side1 ?side2 ?side3 ?side4 A3.out).mono ?_); (case side1 => exact cx HR0.out); (case side2 => exact HC0.out); (case side3 => exact cx HR1.out); (case side4 => exact HC1.out); rintro e w4 ⟨v570, rfl, ho0, hb⟩; refine ⟨_, rfl, ?_⟩; have HO571 := Aside0.mk (Kd.V_lower (Kd.V_mono (ok' := fun k_ => (w.heap.size ≤ k_)) ho0 (fun k_ hk_ => (Nat.le_trans (below_size (bh HB.out)) hk_))) (below_size (bh HB.out))); replace HB := bsa HB hb; clear hb ho0))
 go_ret2
 exact ⟨_, er, by exact HO571.out, bh HB.out⟩
/-! ### span_Or_1: function 90 -/
def span_Or_1.f (a0_0 : Int) (a0_1 : Int) (a0_2 : Bool) (a0_3 : Bool) : Option (Bool) := if a0_2 = true then (some true) else (some a0_3)
set_option maxHeartbeats 8000000 in
set_option maxRecDepth 100000 in
theorem span_Or_1.calls (a0_0 : Int) (a0_1 : Int) (a0_2 : Bool) (a0_3 : Bool) (r : Bool) (w : World) (h : span_Or_1.f a0_0 a0_1 a0_2 a0_3 = some r) :
  Calls Tryz.prog 90 #[.agg #[.int .i64 a0_0, .int .i64 a0_1, .bool a0_2, .bool a0_3]] w fun e w' => e = .returned (.bool r) ∧ Below w.heap.size w w' := by
 have hu98 := Tryz.underlying98
 have HB := Aside0.mk (Below.refl w.heap.size w)
 have H := h
 clear h
 unfold span_Or_1.f at H
 replace H := ifb H
 rcases H with ⟨rfl, H⟩ | ⟨rfl, H⟩
 ·obtain rfl := Option.some.inj H
  go_enter Tryz.func90, Tryz.ntmps90
  go_wp2_with (((with_reducible refine gate_dst (N := 1) rfl ?_); refine boxE HB 1 98 #[.int .i64 a0_0, .int .i64 a0_1, .bool true, .bool a0_3] ?_; clear HB; intro gb573 w3 BK573 GW573 hg hb HB; have GE573 := GW573; clear hb hg; obtain ⟨hcz4_0, hcz4_1, hcz4_2, hcz4_3, hfz4_0, hfz4_1, hfz4_2, hfz4_3⟩ := b4 BK573))
  go_ret
  exact ⟨er, bh HB.out⟩
 ·obtain rfl := Option.some.inj H
  go_enter Tryz.func90, Tryz.ntmps90
  go_wp2_with (((with_reducible refine gate_dst (N := 1) rfl ?_); refine boxE HB 1 98 #[.int .i64 a0_0, .int .i64 a0_1, .bool false, .bool a0_3] ?_; clear HB; intro gb573 w5 BK573 GW573 hg hb HB; have GE573 := GW573; clear hb hg; obtain ⟨hcz6_0, hcz6_1, hcz6_2, hcz6_3, hfz6_0, hfz6_1, hfz6_2, hfz6_3⟩ := b4 BK573))
  go_ret
  exact ⟨er, bh HB.out⟩
end Go.Proofs.YtjgmdjieandemaaGreat.Print
end
section
namespace Go.Proofs.YtjgmdjieandemaaGreat.Print
open Go.RowKit Go.Proofs.YtjgmdjieandemaaGreatW.PrintWords Go.Proofs.YtjgmdjieandemaaGreatW.PrintLast Go.Proofs.YtjgmdjieandemaaGreatW.PrintMore
attribute [local go_sem] max2_int min2_int max_two min_two max_three min_three max_four min_four   -- for this text's walks alone
set_option linter.unusedVariables false
set_option linter.unusedSimpArgs false
theorem eqA64 (d : Nat) (w : World) (x0 y0 : Int) (x1 y1 : Int) :
    (Op.equalIn (d + 2) 64 (.agg #[.int .i64 x0, .int .i64 x1]) (.agg #[.int .i64 y0, .int .i64 y1])).run Tryz.prog w = .ok (x0 == y0 && (x1 == y1)) w := by
 refine eqA_of Tryz.underlying64 (by kernel_rfl) ?_
 refine eqf_cons (by rfl) (by go_simp; rfl) (by go_simp; rfl) (by go_simp) ?_
 exact eqf_last (by rfl) (by go_simp; rfl) (by go_simp; rfl) (by go_simp)
end Go.Proofs.YtjgmdjieandemaaGreat.Print
end
