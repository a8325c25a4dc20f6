-- Functions and laws: texts of the session's own and of the kit's print program, joined; what nothing names is left out.
import Derived.Test.YtfohecpfenegkaaGreatKA
import Derived.Test.YtfohecpfenegkaaGreatKW
import Derived.Test.YtfohecpfenegkaaGreatKB
import Derived.Sort.Walk0
section
namespace Go.Proofs.YtfohecpfenegkaaGreat.Print
open Go.RowKit Go.Proofs.YtfohecpfenegkaaGreatW.PrintWords Go.Proofs.YtfohecpfenegkaaGreatW.PrintLast Go.Proofs.YtfohecpfenegkaaGreatW.PrintMore
attribute [local go_sem] max2_int min2_int max_two min_two max_three min_three max_four min_four   -- for this text's walks alone
set_option linter.unusedVariables false
set_option linter.unusedSimpArgs false
/-! ### peristyleref11_TakeInts: function 6 -/
mutual
def peristyleref11_TakeInts.j0 : Nat → ByteArray → Int → Bool → Option (List Int × Int)
 | 0, _, _, _ => none
 | k + 1, x0, x1, x25 => if x25 = true then (some (([] : List Int), 1)) else (if x1 = 0 then (peristyleref11_TakeInts.j1 k x0 x1 (x0.toList == ([] : List UInt8))) else (peristyleref11_TakeInts.j1 k x0 x1 false))
def peristyleref11_TakeInts.j1 : Nat → ByteArray → Int → Bool → Option (List Int × Int)
 | 0, _, _, _ => none
 | k + 1, x0, x1, x31 => if x31 = true then (some (([] : List Int), 0)) else ((peristyleref11_head.f k x0 x1).bind fun bt336 => (if bt336.2.2 = true then (peristyleref11_TakeInts.l0 k x0 x1 bt336.1 bt336.2.1 ([] : List Int) 0) else (some (([] : List Int), 20))))
def peristyleref11_TakeInts.l0 : Nat → ByteArray → Int → Int → Int → List Int → Int → Option (List Int × Int)
 | 0, _, _, _, _, _, _ => none
 | k + 1, x0, x1, x6, x7, x9, x10 => if x10 < x6 then (if 0 ≤ x7 then (if x7 ≤ (x0.size : Int) then ((peristyleref02_Take.f k (x0.extract (x7 : Int).toNat x0.size)).bind fun bt339 => (if bt339.2.2 = 0 then (if x9.length < 17592186044416 then (peristyleref11_TakeInts.l0 k x0 x1 x6 (wrap64 (x7 + bt339.2.1)) (x9 ++ [bt339.1]) (wrap64 (x10 + 1))) else (none)) else (some (([] : List Int), 20)))) else (none)) else (none)) else (if 0 ≤ x7 then (if x7 ≤ (x0.size : Int) then ((peristyleref11_width.f k x6).bind fun t345 => ((peristyleref08_Take.f k (x0.extract (x7 : Int).toNat x0.size) x1 t345).bind fun bt346 => (if bt346.2 = 0 then (peristyleref11_TakeInts.l1 k x0 x9 bt346.1 ([] : List Int) 0) else (some (([] : List Int), 20))))) else (none)) else (none))
def peristyleref11_TakeInts.l1 : Nat → ByteArray → List Int → List Int → List Int → Int → Option (List Int × Int)
 | 0, _, _, _, _, _ => none
 | k + 1, x0, x9, x14, x16, x17 => if x17 < (x14.length : Int) then (if 0 ≤ x17 then (if (rd x14 x17) < 0 then (some (([] : List Int), 20)) else (if (rd x14 x17) ≥ (x9.length : Int) then (some (([] : List Int), 20)) else (if 0 ≤ (rd x14 x17) then (if (rd x14 x17) < (x9.length : Int) then (if x16.length < 17592186044416 then (peristyleref11_TakeInts.l1 k x0 x9 x14 (x16 ++ [rd x9 (rd x14 x17)]) (wrap64 (x17 + 1))) else (none)) else (none)) else (none)))) else (none)) else ((peristyleref11_PutInts.f k x16).bind fun bt357 => (if bt357.1.toList = x0.toList then (some (x16, 0)) else (some (([] : List Int), 20))))
end
def peristyleref11_TakeInts.f (k : Nat) (a0 : ByteArray) (a1 : Int) : Option (List Int × Int) := if a1 < 0 then (peristyleref11_TakeInts.j0 k a0 a1 true) else (peristyleref11_TakeInts.j0 k a0 a1 (decide (a1 > 65536)))
theorem peristyleref11_TakeInts.j0_succ (k) (a0) (a1) (a2) : type_of% (@peristyleref11_TakeInts.j0.eq_2 a0 a1 a2 k) := peristyleref11_TakeInts.j0.eq_2 a0 a1 a2 k
theorem peristyleref11_TakeInts.j1_succ (k) (a0) (a1) (a2) : type_of% (@peristyleref11_TakeInts.j1.eq_2 a0 a1 a2 k) := peristyleref11_TakeInts.j1.eq_2 a0 a1 a2 k
theorem peristyleref11_TakeInts.l0_succ (k) (a0) (a1) (a2) (a3) (a4) (a5) : type_of% (@peristyleref11_TakeInts.l0.eq_2 a0 a1 a2 a3 a4 a5 k) := peristyleref11_TakeInts.l0.eq_2 a0 a1 a2 a3 a4 a5 k
theorem peristyleref11_TakeInts.l1_succ (k) (a0) (a1) (a2) (a3) (a4) : type_of% (@peristyleref11_TakeInts.l1.eq_2 a0 a1 a2 a3 a4 k) := peristyleref11_TakeInts.l1.eq_2 a0 a1 a2 a3 a4 k
def peristyleref11_TakeInts.T17 : Bool × List (List Nat × List Nat) := (true, [([], []), ([], []), ([0, 1], [0, 1]), ([], []), ([], []), ([4], [4]), ([2, 3, 5, 5], [2, 3, 5]), ([6], [6]), ([7], [7]), ([7], [7]), ([8, 6, 0, 1, 2, 3, 4, 5, 6, 7, 8], [8]), ([9, 10, 0, 1, 2, 3, 4, 5, 6, 7, 8, 9, 10], [9])])
def peristyleref11_TakeInts.B17 : List Nat := [0, 0, 3, 0, 0, 16, 63, 127, 255, 255, 511, 2047]
theorem peristyleref11_TakeInts.tab17 : rtab .any (opsOf Tryz.f6 17) = peristyleref11_TakeInts.T17 := by kernel_rfl
theorem peristyleref11_TakeInts.bits17 : waitsOk peristyleref11_TakeInts.T17.2 peristyleref11_TakeInts.B17 = true := by kernel_rfl
set_option maxHeartbeats 8000000 in
set_option maxRecDepth 100000 in
theorem peristyleref11_TakeInts.calls (k : Nat) (a0 : ByteArray) (a1 : Int) (r1 : List Int) (r2 : Int) (w : World) (h : peristyleref11_TakeInts.f k a0 a1 = some (r1, r2)) :
  Calls Tryz.prog 6 #[.string a0, .int .i64 a1] w fun e w' => ∃ v0_ : Value, e = .returned (.tuple #[v0_, .int .i64 r2]) ∧ Kd.R (Kd.int .i64) 3 w' w.heap.size (fun _ => True) v0_ r1 ∧ Below w.heap.size w w' := by
 have HB := Aside0.mk (Below.refl w.heap.size w)
 have H := h
 clear h
 unfold peristyleref11_TakeInts.f at H
 have HC3 := Aside0.mk H
 clear H
 go_enter Tryz.func6, Tryz.ntmps6
 go_upto_region 1 with (fail)
 go_cut [25] (fun v25 wc => ∃ (kq : Nat) (x25_2 : Bool), v25 = .bool x25_2 ∧ Aside0 (peristyleref11_TakeInts.j0 kq a0 a1 x25_2 = some (r1, r2)) ∧ Aside0 (kq ≤ k) ∧ Aside0 (Below w.heap.size w wc))
 case first =>
  have H := HC3.out
  clear HC3
  replace H := ifd H
  rcases H with ⟨-, c4b0, H⟩ | ⟨-, c4b0, H⟩
  ·(skip)
   have H' := Aside0.mk H
   clear H
   go_wp2
   go_meet
   case rel => exact ⟨_, (true), (by rfl), H', ⟨by omega⟩, ⟨bh HB.out⟩⟩
  ·(skip)
   have H' := Aside0.mk H
   clear H
   go_wp2
   go_meet
   case rel => exact ⟨_, (decide (a1 > 65536)), (by rfl), H', ⟨by omega⟩, ⟨bh HB.out⟩⟩
 case rest =>
  clear HC3
  obtain ⟨kq, x25_2, rfl, HA, HJ2, HB⟩ := hcut
  cases kq with
  | zero => exact absurd HA.out (by simp [peristyleref11_TakeInts.j0])
  | succ kj2 =>
   have H := HA.out
   clear HA
   simp only [peristyleref11_TakeInts.j0] at H
   replace H := ifb H
   rcases H with ⟨rfl, H⟩ | ⟨rfl, H⟩
   ·simp only [Option.some.injEq, Prod.mk.injEq] at H
    obtain ⟨rfl, rfl⟩ := H
    go_wp2
    go_ret2
    exact ⟨_, er, nl, bh HB.out⟩
   ·have HC6 := Aside0.mk H
    clear H
    go_upto_region 3 with (fail)
    go_cut [31] (fun v31 wc => ∃ (kq : Nat) (x31_5 : Bool), v31 = .bool x31_5 ∧ Aside0 (peristyleref11_TakeInts.j1 kq a0 a1 x31_5 = some (r1, r2)) ∧ Aside0 (kq ≤ kj2) ∧ Aside0 (Below w.heap.size w wc))
    case first =>
     have H := HC6.out
     clear HC6
     replace H := ife H
     rcases H with ⟨-, c7b0, c7b1, H⟩ | ⟨c7, c7b0, c7b1, H⟩
     ·(skip)
      have H' := Aside0.mk H
      clear H
      go_wp2
      go_meet
      case rel => exact ⟨_, ((a0.toList == ([] : List UInt8))), (by (simp; done)), H', ⟨by have := HJ2.out; omega⟩, ⟨bh HB.out⟩⟩
     ·(skip)
      have H' := Aside0.mk H
      clear H
      go_wp2
      go_meet
      case rel => exact ⟨_, (false), (by rfl), H', ⟨by have := HJ2.out; omega⟩, ⟨bh HB.out⟩⟩
    case rest =>
     clear HC6
     obtain ⟨kq, x31_5, rfl, HA, HJ5, HB⟩ := hcut
     cases kq with
     | zero => exact absurd HA.out (by simp [peristyleref11_TakeInts.j1])
     | succ kj5 =>
      have H := HA.out
      clear HA
      simp only [peristyleref11_TakeInts.j1] at H
      replace H := ifb H
      rcases H with ⟨rfl, H⟩ | ⟨rfl, H⟩
      ·simp only [Option.some.injEq, Prod.mk.injEq] at H
       obtain ⟨rfl, rfl⟩ := H
       go_wp2
       go_ret2
       exact ⟨_, er, nl, bh HB.out⟩
      ·replace H := bd H
       obtain ⟨⟨t336, t337, t338⟩, A9, H⟩ := H
       dsimp only at H
       replace H := ifb H
       rcases H with ⟨rfl, H⟩ | ⟨rfl, H⟩
       ·have H' := Aside0.mk H
        clear H
        go_wp2_with (((with_reducible refine gate_callee (f := 20) rfl ?_); refine gL 35 Tryz.func20 #[.string a0, .int .i64 a1] ?_; (with_reducible refine (peristyleref11_head.calls kj5 a0 a1 t336 t337 true _ A9.out).mono ?_); rintro e w11 ⟨rfl, hb⟩; refine ⟨_, rfl, ?_⟩; replace HB := bsa HB hb; clear hb))
        go_loopg [7, 9, 10] kj5 (fun kq v7 v9 v10 w' => ∃ (x7_3 : Int) (x9_3 : List Int) (x10_3 : Int), v7 = .int .i64 x7_3 ∧ v10 = .int .i64 x10_3 ∧ Aside0 (peristyleref11_TakeInts.l0 kq a0 a1 t336 x7_3 x9_3 x10_3 = some (r1, r2)) ∧ Aside0 (kq ≤ kj5) ∧ Aside0 (Kd.R (Kd.int .i64) 3 w' w.heap.size (fun _ => True) v9 x9_3) ∧ Aside0 (Below w.heap.size w w'))
        case atStart => exact ⟨(t337), (([] : List Int)), (0), (by rfl), (by rfl), H', ⟨Nat.le_refl _⟩, ⟨nl⟩, ⟨bh HB.out⟩⟩
        case round =>
         clear H'
         obtain ⟨x7_3, x9_3, x10_3, rfl, rfl, HA, HK3, HO_9, HB⟩ := hrel
         cases gk with
         | zero => exact absurd HA.out (by simp [peristyleref11_TakeInts.l0])
         | succ k3 =>
          have H := HA.out
          clear HA
          simp only [peristyleref11_TakeInts.l0] at H
          replace H := ifd H
          rcases H with ⟨-, c12b0, H⟩ | ⟨-, c12b0, H⟩
          ·replace H := ifn H
           obtain ⟨c13, -, H⟩ := H
           have c13b0 := eq_true c13
           have c13b1 : decide (0 ≤ x7_3) = true := decide_eq_true c13
           clear c13
           replace H := ifn H
           obtain ⟨c14, -, H⟩ := H
           have c14b0 := eq_true c14
           have c14b1 : decide (x7_3 ≤ (a0.size : Int)) = true := decide_eq_true c14
           clear c14
           replace H := bd H
           obtain ⟨⟨t339, t340, t341⟩, A15, H⟩ := H
           dsimp only at H
           replace H := ife H
           rcases H with ⟨-, c16b0, c16b1, H⟩ | ⟨c16, c16b0, c16b1, H⟩
           ·replace H := ifn H
            obtain ⟨c17, -, H⟩ := H
            have LMc17 := Aside0.mk c17
            clear c17
            obtain ⟨y342, hy342⟩ : ∃ y_ : List Int, y_ = (x9_3 ++ [t339]) := ⟨_, rfl⟩
            replace H : (peristyleref11_TakeInts.l0 k3 a0 a1 t336 (wrap64 (x7_3 + t340)) y342 (wrap64 (x10_3 + 1))) = some (r1, r2) := by (rw [hy342]; with_reducible exact H)
            have Ny342 := Aside0.mk hy342
            clear hy342
            have H' := Aside0.mk H
            clear H
            go_wp2_with (first | ((with_reducible refine gate_callee (f := 21) rfl ?_); refine gL 50 Tryz.func21 #[.string (a0.extract (x7_3 : Int).toNat a0.size)] ?_; (with_reducible refine (peristyleref02_Take.calls k3 (a0.extract (x7_3 : Int).toNat a0.size) t339 t340 t341 _ A15.out).mono ?_); rintro e w18 ⟨rfl, hb⟩; refine ⟨_, rfl, ?_⟩; replace HO_9 := rba HO_9 hb; replace HB := bsa HB hb; clear hb) | ((with_reducible refine gate_builtin (b := .append) (xs := #[.tmp 56, .tmp 58]) rfl ?_); ((refine gate_guard (by rfl) ?_; dsimp only)); at_builtin; refine Kd.R_append (Kd.int .i64) (w0 := w) w.heap.size rfl (.tmp 56) (.tmp 58) 23 3 (.int .i64 0) 8 rfl Tryz.underlying23 info3 rfl (by decide) (by omega) u9 x9_3 t339 [.int .i64 t339] (fun _ => True) (fun _ => False) rfl rfl ?aP (fun _ hk => hk.elim) ?aF ?aO ?aB ?aS ?aL ?_; (case aP => exact rfl); (case aB => exact (bh HB.out)); (case aF => exact (fun _ _ => trivial)); (case aO => exact (rx HO_9.out)); (case aS => exact (below_size (bh HB.out))); (case aL => have := LMc17.out; omega); intro v343 w19 ho hb hg hat; rw [← Ny342.out] at ho; have n0_ := Aside0.mk (hb); have n1_ := Aside0.mk (ho); clear HB HO_9; have HB := n0_; have HO344 := n1_; clear n0_ n1_ ho hb hg hat))
            go_roundg k3
            case measure => have := HJ2.out; have := HJ5.out; have := HK3.out; omega
            case rel => exact ⟨(wrap64 (x7_3 + t340)), (y342), (wrap64 (x10_3 + 1)), (by rfl), (by rfl), H', ⟨by have := HJ2.out; have := HJ5.out; have := HK3.out; omega⟩, ⟨by exact HO344.out⟩, ⟨bh HB.out⟩⟩
           ·simp only [Option.some.injEq, Prod.mk.injEq] at H
            obtain ⟨rfl, rfl⟩ := H
            go_wp2_with (((with_reducible refine gate_callee (f := 21) rfl ?_); refine gL 50 Tryz.func21 #[.string (a0.extract (x7_3 : Int).toNat a0.size)] ?_; (with_reducible refine (peristyleref02_Take.calls k3 (a0.extract (x7_3 : Int).toNat a0.size) t339 t340 t341 _ A15.out).mono ?_); rintro e w20 ⟨rfl, hb⟩; refine ⟨_, rfl, ?_⟩; replace HO_9 := rba HO_9 hb; replace HB := bsa HB hb; clear hb))
            go_ret2
            exact ⟨_, er, nl, bh HB.out⟩
          ·replace H := ifn H
           obtain ⟨c21, -, H⟩ := H
           have c21b0 := eq_true c21
           have c21b1 : decide (0 ≤ x7_3) = true := decide_eq_true c21
           clear c21
           replace H := ifn H
           obtain ⟨c22, -, H⟩ := H
           have c22b0 := eq_true c22
           have c22b1 : decide (x7_3 ≤ (a0.size : Int)) = true := decide_eq_true c22
           clear c22
           replace H := bd H
           obtain ⟨t345, A23, H⟩ := H
           replace H := bd H
           obtain ⟨⟨t346, t347⟩, A24, H⟩ := H
           dsimp only at H
           replace H := ife H
           rcases H with ⟨-, c25b0, c25b1, H⟩ | ⟨c25, c25b0, c25b1, H⟩
           ·have H' := Aside0.mk H
            clear H
            go_wp2
            replace HO_9 := Aside0.mk (Kd.R_drew HO_9.out)
            replace HB := Aside0.mk (below_drew1 HB.out)
            refine start_ (n := 12) (S := fun w' => True) (ds := []) #[false, false, false, false, false, false, false, false, false, false, false, false] (by kernel_rfl) rfl rfl trivial (fun hHeld => ?_); refine with_tabW peristyleref11_TakeInts.tab17 peristyleref11_TakeInts.bits17 (fun HT_ HW_ => ?_)
            generalize wr.drew = w26 at HO_9 HB hHeld ⊢
            refine puA HT_ 0 64 (bv 12 1) ?_
            refine puA HT_ 1 65 (bv 12 3) ?_
            refine puA HT_ 2 66 (bv 12 7) ?_
            refine puA HT_ 3 67 (bv 12 15) ?_
            refine puA HT_ 4 68 (bv 12 31) ?_
            refine one_ (i := 5) (N := some 69) #[true, true, true, true, true, true, false, false, false, false, false, false] rfl rfl (one_of HT_.out (by kernel_rfl)) (by decide) (fun K hK => ?_)
            refine goes_ Tryz.func23 (by kernel_rfl) rfl #[.int .i64 t336] (by rfl) rfl rfl (by (simp only [List.map_toArray, List.map_cons, List.map_nil]); rfl) ?_
            with_reducible refine (peristyleref11_width.calls k3 t336 t345 _ A23.out).mono ?_
            rintro e w27 ⟨rfl, hb⟩
            refine ⟨_, rfl, ?_⟩
            replace HO_9 := rba HO_9 hb
            replace HB := bsa HB hb
            clear hb
            refine hK.out _ _ trivial (fun hHeld => ?_)
            clear hK K
            refine norm_ (a' := ?_) ?_ ?_
            rotate_left
            ·show Act.put _ (some 69) _ = _
             simp only [Act.put, List.setIfInBounds_toArray, List.set_cons_zero, List.set_cons_succ, i64_w, i32_w]
             rfl
            refine one_ (i := 6) (N := some 70) #[true, true, true, true, true, true, true, false, false, false, false, false] rfl rfl (one_of HT_.out (by kernel_rfl)) (by decide) (fun K hK => ?_)
            refine goes_ Tryz.func22 (by kernel_rfl) rfl #[.string (a0.extract (x7_3 : Int).toNat a0.size), .int .i64 a1, .int .i64 t345] (by rfl) rfl rfl (by (simp only [List.map_toArray, List.map_cons, List.map_nil]); rfl) ?_
            with_reducible refine (peristyleref08_Take.calls k3 (a0.extract (x7_3 : Int).toNat a0.size) a1 t345 t346 t347 _ A24.out).mono ?_
            rintro e w28 ⟨v348, rfl, ho0, hb⟩
            refine ⟨_, rfl, ?_⟩
            have HO349 := Aside0.mk (Kd.R_lower (Kd.R_new' ho0 (Kd.R_lt (rx HO_9.out))) (below_size (bh HB.out)))
            replace HO_9 := Aside0.mk (Kd.R_elder' (rx HO_9.out) (Kd.R_base ho0) hb)
            replace HB := bsa HB hb
            clear hb ho0
            refine hK.out _ _ trivial (fun hHeld => ?_)
            clear hK K
            refine norm_ (a' := ?_) ?_ ?_
            rotate_left
            ·show Act.put _ (some 70) _ = _
             simp only [Act.put, List.setIfInBounds_toArray, List.set_cons_zero, List.set_cons_succ, i64_w, i32_w]
             rfl
            refine puA HT_ 7 63 (bv 12 255) ?_
            refine puA HT_ 8 71 (bv 12 511) ?_
            refine puA HT_ 9 72 (bv 12 1023) ?_
            refine puA HT_ 10 14 (bv 12 2047) ?_
            refine puA HT_ 11 15 (bv 12 4095) ?_
            refine done_ (done_of HT_.out (by kernel_rfl)) ?_
            go_wp2
            go_loopg [16, 17] k3 (fun kq v16 v17 w' => ∃ (x16_4 : List Int) (x17_4 : Int), v17 = .int .i64 x17_4 ∧ Aside0 (peristyleref11_TakeInts.l1 kq a0 x9_3 t346 x16_4 x17_4 = some (r1, r2)) ∧ Aside0 (kq ≤ k3) ∧ Aside0 (Kd.R (Kd.int .i64) 3 w' w.heap.size (fun k_ => some k_ ≠ (v348 : Value).ownBlock ∧ some k_ ≠ (v16 : Value).ownBlock) u9 x9_3) ∧ Aside0 (Kd.R (Kd.int .i64) 3 w' w.heap.size (fun k_ => some k_ ≠ (u9 : Value).ownBlock ∧ some k_ ≠ (v16 : Value).ownBlock) v348 t346) ∧ Aside0 (Kd.R (Kd.int .i64) 3 w' w.heap.size (fun k_ => some k_ ≠ (u9 : Value).ownBlock ∧ some k_ ≠ (v348 : Value).ownBlock) v16 x16_4) ∧ Aside0 (Below w.heap.size w w'))
            case atStart => exact ⟨(([] : List Int)), (0), (by rfl), H', ⟨Nat.le_refl _⟩, ⟨by exact Kd.R_mono HO_9.out (fun _ hk => ⟨hk.2, (by simp [Value.ownBlock])⟩)⟩, ⟨by exact Kd.R_mono HO349.out (fun _ hk => ⟨hk.2, (by simp [Value.ownBlock])⟩)⟩, ⟨nl⟩, ⟨bh HB.out⟩⟩
            case round =>
             clear H' c12b0 c21b0 c21b1 c22b0 c22b1 c25b0 c25b1
             obtain ⟨x16_4, x17_4, rfl, HA, HK4, HO_9, HO_14, HO_16, HB⟩ := hrel
             cases gk with
             | zero => exact absurd HA.out (by simp [peristyleref11_TakeInts.l1])
             | succ k4 =>
              have H := HA.out
              clear HA
              simp only [peristyleref11_TakeInts.l1] at H
              replace H := ifd H
              rcases H with ⟨-, c29b0, H⟩ | ⟨-, c29b0, H⟩
              ·replace H := ifn H
               obtain ⟨-, c30b0, H⟩ := H
               replace H := ifd H
               rcases H with ⟨-, c31b0, H⟩ | ⟨-, c31b0, H⟩
               ·simp only [Option.some.injEq, Prod.mk.injEq] at H
                obtain ⟨rfl, rfl⟩ := H
                obtain ⟨Ao32, co32, eo32⟩ := Kd.R_slice HO_14.out
                subst eo32
                have p350 : 0 ≤ (x17_4 : Int) := ad
                have q350 : x17_4 < (t346.length : Int) := ad
                obtain ⟨ad350, e350, hx350_0⟩ := Kd.at_int (Kd.R_reads' HO_14.out).2.2 x17_4 p350 q350
                cases e350
                replace p350 := eq_true p350
                replace q350 := eq_true q350
                go_wp2
                go_ret2
                exact ⟨_, er, nl, bh HB.out⟩
               ·replace H := ifd H
                rcases H with ⟨-, c33b0, H⟩ | ⟨-, c33b0, H⟩
                ·simp only [Option.some.injEq, Prod.mk.injEq] at H
                 obtain ⟨rfl, rfl⟩ := H
                 obtain ⟨Ao34, co34, eo34⟩ := Kd.R_slice HO_14.out
                 subst eo34
                 have p350 : 0 ≤ (x17_4 : Int) := ad
                 have q350 : x17_4 < (t346.length : Int) := ad
                 obtain ⟨ad350, e350, hx350_0⟩ := Kd.at_int (Kd.R_reads' HO_14.out).2.2 x17_4 p350 q350
                 cases e350
                 replace p350 := eq_true p350
                 replace q350 := eq_true q350
                 have p351 : 0 ≤ (x17_4 : Int) := ad
                 have q351 : x17_4 < (t346.length : Int) := ad
                 obtain ⟨ad351, e351, hx351_0⟩ := Kd.at_int (Kd.R_reads' HO_14.out).2.2 x17_4 p351 q351
                 obtain rfl : ad350 = ad351 := (by injection e351)
                 replace p351 := eq_true p351
                 replace q351 := eq_true q351
                 obtain ⟨Ao35, co35, eo35⟩ := Kd.R_slice HO_9.out
                 subst eo35
                 go_wp2
                 go_ret2
                 exact ⟨_, er, nl, bh HB.out⟩
                ·replace H := ifn H
                 obtain ⟨-, c36b0, H⟩ := H
                 replace H := ifn H
                 obtain ⟨-, c37b0, H⟩ := H
                 replace H := ifn H
                 obtain ⟨c38, -, H⟩ := H
                 have LMc38 := Aside0.mk c38
                 clear c38
                 obtain ⟨y354, hy354⟩ : ∃ y_ : List Int, y_ = (x16_4 ++ [rd x9_3 (rd t346 x17_4)]) := ⟨_, rfl⟩
                 replace H : (peristyleref11_TakeInts.l1 k4 a0 x9_3 t346 y354 (wrap64 (x17_4 + 1))) = some (r1, r2) := by (rw [hy354]; with_reducible exact H)
                 have Ny354 := Aside0.mk hy354
                 clear hy354
                 have H' := Aside0.mk H
                 clear H
                 obtain ⟨Ao39, co39, eo39⟩ := Kd.R_slice HO_14.out
                 subst eo39
                 have p350 : 0 ≤ (x17_4 : Int) := ad
                 have q350 : x17_4 < (t346.length : Int) := ad
                 obtain ⟨ad350, e350, hx350_0⟩ := Kd.at_int (Kd.R_reads' HO_14.out).2.2 x17_4 p350 q350
                 cases e350
                 replace p350 := eq_true p350
                 replace q350 := eq_true q350
                 have p351 : 0 ≤ (x17_4 : Int) := ad
                 have q351 : x17_4 < (t346.length : Int) := ad
                 obtain ⟨ad351, e351, hx351_0⟩ := Kd.at_int (Kd.R_reads' HO_14.out).2.2 x17_4 p351 q351
                 obtain rfl : ad350 = ad351 := (by injection e351)
                 replace p351 := eq_true p351
                 replace q351 := eq_true q351
                 obtain ⟨Ao40, co40, eo40⟩ := Kd.R_slice HO_9.out
                 subst eo40
                 have p352 : 0 ≤ (x17_4 : Int) := ad
                 have q352 : x17_4 < (t346.length : Int) := ad
                 obtain ⟨ad352, e352, hx352_0⟩ := Kd.at_int (Kd.R_reads' HO_14.out).2.2 x17_4 p352 q352
                 obtain rfl : ad350 = ad352 := (by injection e352)
                 replace p352 := eq_true p352
                 replace q352 := eq_true q352
                 have p353 : 0 ≤ ((rd t346 x17_4) : Int) := ad
                 have q353 : (rd t346 x17_4) < (x9_3.length : Int) := ad
                 obtain ⟨ad353, e353, hx353_0⟩ := Kd.at_int (Kd.R_reads' HO_9.out).2.2 (rd t346 x17_4) p353 q353
                 cases e353
                 replace p353 := eq_true p353
                 replace q353 := eq_true q353
                 go_wp2_with (((with_reducible refine gate_builtin (b := .append) (xs := #[.tmp 95, .tmp 103]) rfl ?_); ((refine gate_guard (by rfl) ?_; dsimp only)); at_builtin; refine Kd.R_append (Kd.int .i64) (w0 := w) w.heap.size rfl (.tmp 95) (.tmp 103) 23 3 (.int .i64 0) 8 rfl Tryz.underlying23 info3 rfl (by decide) (by omega) u16 x16_4 (rd x9_3 (rd t346 x17_4)) [.int .i64 (rd x9_3 (rd t346 x17_4))] (fun k_ => some k_ ≠ (.slice (some ad353) x9_3.length co40 : Value).ownBlock ∧ some k_ ≠ (.slice (some ad350) t346.length co39 : Value).ownBlock) (fun _ => False) rfl rfl ?aP (fun _ hk => hk.elim) ?aF ?aO ?aB ?aS ?aL ?_; (case aP => exact rfl); (case aB => exact (bh HB.out)); (case aF => exact (fun k_ hk => ⟨Kd.fresh' (Kd.R_lt (rx HO_9.out)) k_ hk, Kd.fresh' (Kd.R_lt (rx HO_14.out)) k_ hk⟩)); (case aO => exact (rx HO_16.out)); (case aS => exact (below_size (bh HB.out))); (case aL => have := LMc38.out; omega); intro v355 w41 ho hb hg hat; rw [← Ny354.out] at ho; have n0_ := Aside0.mk (Kd.R_after (ok := (fun k_ => some k_ ≠ (.slice (some ad350) t346.length co39 : Value).ownBlock)) (rx HO_9.out) hg hat); have n1_ := Aside0.mk (Kd.R_after (ok := (fun k_ => some k_ ≠ (.slice (some ad353) x9_3.length co40 : Value).ownBlock)) (rx HO_14.out) hg hat); have n2_ := Aside0.mk (hb); have n3_ := Aside0.mk (ho); clear HO_9 HO_14 HB HO_16; have HO_9 := n0_; have HO_14 := n1_; have HB := n2_; have HO356 := n3_; clear n0_ n1_ n2_ n3_ ho hb hg hat))
                 go_roundg k4
                 case measure => have := HJ2.out; have := HJ5.out; have := HK3.out; have := HK4.out; omega
                 case rel => exact ⟨(y354), (wrap64 (x17_4 + 1)), (by rfl), H', ⟨by have := HJ2.out; have := HJ5.out; have := HK3.out; have := HK4.out; omega⟩, ⟨by exact HO_9.out⟩, ⟨by exact HO_14.out⟩, ⟨by exact HO356.out⟩, ⟨bh HB.out⟩⟩
              ·replace H := bd H
               obtain ⟨⟨t357, t358⟩, A42, H⟩ := H
               dsimp only at H
               replace H := ife H
               rcases H with ⟨-, c43b0, c43b1, H⟩ | ⟨c43, c43b0, c43b1, H⟩
               ·simp only [Option.some.injEq, Prod.mk.injEq] at H
                obtain ⟨rfl, rfl⟩ := H
                obtain ⟨Ao44, co44, eo44⟩ := Kd.R_slice HO_14.out
                subst eo44
                obtain ⟨Ao45, co45, eo45⟩ := Kd.R_slice HO_16.out
                subst eo45
                go_wp2_with (((with_reducible refine gate_callee (f := 24) rfl ?_); refine gL 107 Tryz.func24 #[.slice Ao45 x16_4.length co45] ?_; (with_reducible refine (peristyleref11_PutInts.calls k4 _ _ x16_4 t357 t358 _ ?side1 ?side2 A42.out).mono ?_); (case side1 => exact cx (Kd.R_reads' HO_16.out).2.2); (case side2 => exact (Kd.R_reads' HO_16.out).2.1); rintro e w46 ⟨rfl, hb⟩; refine ⟨_, rfl, ?_⟩; replace HO_9 := rba HO_9 hb; replace HO_14 := rba HO_14 hb; replace HO_16 := rba HO_16 hb; replace HB := bsa HB hb; clear hb))
                go_ret2
                exact ⟨_, er, by exact Kd.R_mono HO_16.out (fun _ hk => trivial), bh HB.out⟩
               ·simp only [Option.some.injEq, Prod.mk.injEq] at H
                obtain ⟨rfl, rfl⟩ := H
                obtain ⟨Ao47, co47, eo47⟩ := Kd.R_slice HO_14.out
                subst eo47
                obtain ⟨Ao48, co48, eo48⟩ := Kd.R_slice HO_16.out
                subst eo48
                go_wp2_with (((with_reducible refine gate_callee (f := 24) rfl ?_); refine gL 107 Tryz.func24 #[.slice Ao48 x16_4.length co48] ?_; (with_reducible refine (peristyleref11_PutInts.calls k4 _ _ x16_4 t357 t358 _ ?side1 ?side2 A42.out).mono ?_); (case side1 => exact cx (Kd.R_reads' HO_16.out).2.2); (case side2 => exact (Kd.R_reads' HO_16.out).2.1); rintro e w49 ⟨rfl, hb⟩; refine ⟨_, rfl, ?_⟩; replace HO_9 := rba HO_9 hb; replace HO_14 := rba HO_14 hb; replace HO_16 := rba HO_16 hb; replace HB := bsa HB hb; clear hb))
                go_ret2
                exact ⟨_, er, nl, bh HB.out⟩
           ·simp only [Option.some.injEq, Prod.mk.injEq] at H
            obtain ⟨rfl, rfl⟩ := H
            go_wp2
            replace HO_9 := Aside0.mk (Kd.R_drew HO_9.out)
            replace HB := Aside0.mk (below_drew1 HB.out)
            refine start_ (n := 12) (S := fun w' => True) (ds := []) #[false, false, false, false, false, false, false, false, false, false, false, false] (by kernel_rfl) rfl rfl trivial (fun hHeld => ?_); refine with_tabW peristyleref11_TakeInts.tab17 peristyleref11_TakeInts.bits17 (fun HT_ HW_ => ?_)
            generalize wr.drew = w50 at HO_9 HB hHeld ⊢
            refine puA HT_ 0 64 (bv 12 1) ?_
            refine puA HT_ 1 65 (bv 12 3) ?_
            refine puA HT_ 2 66 (bv 12 7) ?_
            refine puA HT_ 3 67 (bv 12 15) ?_
            refine puA HT_ 4 68 (bv 12 31) ?_
            refine one_ (i := 5) (N := some 69) #[true, true, true, true, true, true, false, false, false, false, false, false] rfl rfl (one_of HT_.out (by kernel_rfl)) (by decide) (fun K hK => ?_)
            refine goes_ Tryz.func23 (by kernel_rfl) rfl #[.int .i64 t336] (by rfl) rfl rfl (by (simp only [List.map_toArray, List.map_cons, List.map_nil]); rfl) ?_
            with_reducible refine (peristyleref11_width.calls k3 t336 t345 _ A23.out).mono ?_
            rintro e w51 ⟨rfl, hb⟩
            refine ⟨_, rfl, ?_⟩
            replace HO_9 := rba HO_9 hb
            replace HB := bsa HB hb
            clear hb
            refine hK.out _ _ trivial (fun hHeld => ?_)
            clear hK K
            refine norm_ (a' := ?_) ?_ ?_
            rotate_left
            ·show Act.put _ (some 69) _ = _
             simp only [Act.put, List.setIfInBounds_toArray, List.set_cons_zero, List.set_cons_succ, i64_w, i32_w]
             rfl
            refine one_ (i := 6) (N := some 70) #[true, true, true, true, true, true, true, false, false, false, false, false] rfl rfl (one_of HT_.out (by kernel_rfl)) (by decide) (fun K hK => ?_)
            refine goes_ Tryz.func22 (by kernel_rfl) rfl #[.string (a0.extract (x7_3 : Int).toNat a0.size), .int .i64 a1, .int .i64 t345] (by rfl) rfl rfl (by (simp only [List.map_toArray, List.map_cons, List.map_nil]); rfl) ?_
            with_reducible refine (peristyleref08_Take.calls k3 (a0.extract (x7_3 : Int).toNat a0.size) a1 t345 t346 t347 _ A24.out).mono ?_
            rintro e w52 ⟨v348, rfl, ho0, hb⟩
            refine ⟨_, rfl, ?_⟩
            have HO349 := Aside0.mk (Kd.R_lower (Kd.R_new' ho0 (Kd.R_lt (rx HO_9.out))) (below_size (bh HB.out)))
            replace HO_9 := Aside0.mk (Kd.R_elder' (rx HO_9.out) (Kd.R_base ho0) hb)
            replace HB := bsa HB hb
            clear hb ho0
            refine hK.out _ _ trivial (fun hHeld => ?_)
            clear hK K
            refine norm_ (a' := ?_) ?_ ?_
            rotate_left
            ·show Act.put _ (some 70) _ = _
             simp only [Act.put, List.setIfInBounds_toArray, List.set_cons_zero, List.set_cons_succ, i64_w, i32_w]
             rfl
            refine puA HT_ 7 63 (bv 12 255) ?_
            refine puA HT_ 8 71 (bv 12 511) ?_
            refine puA HT_ 9 72 (bv 12 1023) ?_
            refine puA HT_ 10 14 (bv 12 2047) ?_
            refine puA HT_ 11 15 (bv 12 4095) ?_
            refine done_ (done_of HT_.out (by kernel_rfl)) ?_
            go_wp2
            go_ret2
            exact ⟨_, er, nl, bh HB.out⟩
       ·simp only [Option.some.injEq, Prod.mk.injEq] at H
        obtain ⟨rfl, rfl⟩ := H
        go_wp2_with (((with_reducible refine gate_callee (f := 20) rfl ?_); refine gL 35 Tryz.func20 #[.string a0, .int .i64 a1] ?_; (with_reducible refine (peristyleref11_head.calls kj5 a0 a1 t336 t337 false _ A9.out).mono ?_); rintro e w53 ⟨rfl, hb⟩; refine ⟨_, rfl, ?_⟩; replace HB := bsa HB hb; clear hb))
        go_ret2
        exact ⟨_, er, nl, bh HB.out⟩
end Go.Proofs.YtfohecpfenegkaaGreat.Print
end
section
namespace Go.Proofs.YtfohecpfenegkaaGreat.Print
open Go.RowKit Go.Proofs.YtfohecpfenegkaaGreatW.PrintWords Go.Proofs.YtfohecpfenegkaaGreatW.PrintLast Go.Proofs.YtfohecpfenegkaaGreatW.PrintMore
attribute [local go_sem] max2_int min2_int max_two min_two max_three min_three max_four min_four   -- for this text's walks alone
set_option linter.unusedVariables false
set_option linter.unusedSimpArgs false
/-! ### dict_Places_1: function 29 -/
def dict_Places_1.f (a0 : ByteArray) : Option (ByteArray × Int) := if a0.toList = ([] : List UInt8) then (some ((⟨#[]⟩ : ByteArray), 0)) else (if 0 < (a0.size : Int) then (if (wrap64 (bt a0 0)) > 32 then (some ((⟨#[]⟩ : ByteArray), 0)) else (if (wrap64 (bt a0 0)) ≥ (a0.size : Int) then (some ((⟨#[]⟩ : ByteArray), 0)) else (if 1 ≤ (wrap64 (1 + (wrap64 (bt a0 0)))) then (if (wrap64 (1 + (wrap64 (bt a0 0)))) ≤ (a0.size : Int) then (some (a0.extract 1 ((wrap64 (1 + (wrap64 (bt a0 0)))) : Int).toNat, wrap64 (1 + (wrap64 (bt a0 0))))) else (none)) else (none)))) else (none))
set_option maxHeartbeats 8000000 in
set_option maxRecDepth 100000 in
theorem dict_Places_1.calls (a0 : ByteArray) (r1 : ByteArray) (r2 : Int) (w : World) (h : dict_Places_1.f a0 = some (r1, r2)) :
  Calls Tryz.prog 29 #[.string a0] w fun e w' => e = .returned (.tuple #[.string r1, .int .i64 r2]) ∧ Drawn0 w w' := by
 have H := h
 clear h
 unfold dict_Places_1.f at H
 replace H := ife H
 rcases H with ⟨-, c2b0, c2b1, H⟩ | ⟨c2, c2b0, c2b1, H⟩
 ·simp only [Option.some.injEq, Prod.mk.injEq] at H
  obtain ⟨rfl, rfl⟩ := H
  go_enter Tryz.func29, Tryz.ntmps29
  go_wp2
  go_ret2
  exact ⟨by rfl, by repeat (exact Drawn0.refl _)⟩
 ·replace H := ifn H
  obtain ⟨c3, c3b0, H⟩ := H
  have c3b1 : decide (0 < a0.size) = true := decide_eq_true (by omega)
  clear c3
  replace H := ifd H
  rcases H with ⟨-, c5b0, H⟩ | ⟨-, c5b0, H⟩
  ·simp only [Option.some.injEq, Prod.mk.injEq] at H
   obtain ⟨rfl, rfl⟩ := H
   have p4 : 0 ≤ (0 : Int) := (by omega)
   have q4 : 0 < a0.size := (by have : (0 : Int) < (a0.size : Int) := of_decide_eq_true (by assumption); omega)
   have hx4 : ∀ h : 0 < a0.size, ((a0[0]'h).toNat : Int) = bt a0 0 := bt_at a0 0
   clear p4
   have qi4 : (0 < (a0.size : Int)) = True := eq_true (of_decide_eq_true (by assumption))
   replace q4 := eq_true q4
   go_enter Tryz.func29, Tryz.ntmps29
   go_wp2
   go_ret2
   exact ⟨by rfl, by repeat (exact Drawn0.refl _)⟩
  ·replace H := ifd H
   rcases H with ⟨-, c6b0, H⟩ | ⟨-, c6b0, H⟩
   ·simp only [Option.some.injEq, Prod.mk.injEq] at H
    obtain ⟨rfl, rfl⟩ := H
    have p4 : 0 ≤ (0 : Int) := (by omega)
    have q4 : 0 < a0.size := (by have : (0 : Int) < (a0.size : Int) := of_decide_eq_true (by assumption); omega)
    have hx4 : ∀ h : 0 < a0.size, ((a0[0]'h).toNat : Int) = bt a0 0 := bt_at a0 0
    clear p4
    have qi4 : (0 < (a0.size : Int)) = True := eq_true (of_decide_eq_true (by assumption))
    replace q4 := eq_true q4
    go_enter Tryz.func29, Tryz.ntmps29
    go_wp2
    go_ret2
    exact ⟨by rfl, by repeat (exact Drawn0.refl _)⟩
   ·replace H := ifn H
    obtain ⟨c7, -, H⟩ := H
    have c7b0 := eq_true c7
    have c7b1 : decide (1 ≤ (wrap64 (1 + (wrap64 (bt a0 0))))) = true := decide_eq_true c7
    replace H := ifn H
    obtain ⟨c8, -, H⟩ := H
    have c8b0 := eq_true c8
    have c8b1 : decide ((wrap64 (1 + (wrap64 (bt a0 0)))) ≤ (a0.size : Int)) = true := decide_eq_true c8
    simp only [Option.some.injEq, Prod.mk.injEq] at H
    obtain ⟨rfl, rfl⟩ := H
    have p4 : 0 ≤ (0 : Int) := (by omega)
    have q4 : 0 < a0.size := (by have : (0 : Int) < (a0.size : Int) := of_decide_eq_true (by assumption); omega)
    have hx4 : ∀ h : 0 < a0.size, ((a0[0]'h).toNat : Int) = bt a0 0 := bt_at a0 0
    clear p4
    have qi4 : (0 < (a0.size : Int)) = True := eq_true (of_decide_eq_true (by assumption))
    replace q4 := eq_true q4
    go_enter Tryz.func29, Tryz.ntmps29
    go_wp2
    go_ret2
    exact ⟨by rfl, by repeat (exact Drawn0.refl _)⟩
end Go.Proofs.YtfohecpfenegkaaGreat.Print
end
section
namespace Go.Proofs.YtfohecpfenegkaaGreat.Print
open Go.RowKit Go.Proofs.YtfohecpfenegkaaGreatW.PrintWords Go.Proofs.YtfohecpfenegkaaGreatW.PrintLast Go.Proofs.YtfohecpfenegkaaGreatW.PrintMore
attribute [local go_sem] max2_int min2_int max_two min_two max_three min_three max_four min_four   -- for this text's walks alone
set_option linter.unusedVariables false
set_option linter.unusedSimpArgs false
/-! ### dict_take_string_fn29: function 28 -/
mutual
def dict_take_string_fn29.j0 : Nat → ByteArray → Int → Bool → Option (List ByteArray × List Int × Int)
 | 0, _, _, _ => none
 | k + 1, x0, x1, x25 => if x25 = true then (some (([] : List ByteArray), ([] : List Int), 1)) else (if x1 = 0 then (if x0.toList = ([] : List UInt8) then (some (([] : List ByteArray), ([] : List Int), 0)) else (some (([] : List ByteArray), ([] : List Int), 20))) else ((vint_Take.f k x0).bind fun bt359 => (if bt359.2.2 = 0 then (if bt359.1 < 1 then (dict_take_string_fn29.j1 k x0 x1 bt359.1 bt359.2.1 true) else (dict_take_string_fn29.j1 k x0 x1 bt359.1 bt359.2.1 (decide (bt359.1 > x1)))) else (dict_take_string_fn29.j1 k x0 x1 bt359.1 bt359.2.1 true))))
def dict_take_string_fn29.j1 : Nat → ByteArray → Int → Int → Int → Bool → Option (List ByteArray × List Int × Int)
 | 0, _, _, _, _, _ => none
 | k + 1, x0, x1, x9, x10, x46 => if x46 = true then (some (([] : List ByteArray), ([] : List Int), 20)) else (dict_take_string_fn29.l0 k x0 x1 x9 x10 ([] : List ByteArray) x9 0)
def dict_take_string_fn29.l0 : Nat → ByteArray → Int → Int → Int → List ByteArray → Int → Int → Option (List ByteArray × List Int × Int)
 | 0, _, _, _, _, _, _, _ => none
 | k + 1, x0, x1, x9, x10, x12, x47, x48 => if x48 < x47 then (if 0 ≤ x10 then (if x10 ≤ (x0.size : Int) then ((dict_Places_1.f (x0.extract (x10 : Int).toNat x0.size)).bind fun bt362 => (if bt362.2 = 0 then (some (([] : List ByteArray), ([] : List Int), 20)) else (if x48 > 0 then (if 0 ≤ (wrap64 (x48 - 1)) then (if (wrap64 (x48 - 1)) < (x12.length : Int) then (if ((Op.bytesLess ((rdOf ByteArray.empty x12 (wrap64 (x48 - 1))).toList) bt362.1.toList) = true) then (if x12.length < 8796093022208 then (dict_take_string_fn29.l0 k x0 x1 x9 (wrap64 (x10 + bt362.2)) (x12 ++ [bt362.1]) x47 (wrap64 (x48 + 1))) else (none)) else (some (([] : List ByteArray), ([] : List Int), 20))) else (none)) else (none)) else (if x12.length < 8796093022208 then (dict_take_string_fn29.l0 k x0 x1 x9 (wrap64 (x10 + bt362.2)) (x12 ++ [bt362.1]) x47 (wrap64 (x48 + 1))) else (none))))) else (none)) else (none)) else (if 0 ≤ x10 then (if x10 ≤ (x0.size : Int) then ((pack_Width.f k (([wrap64 (x9 - 1)] : List Int))).bind fun t374 => ((pack_Take.f k (x0.extract (x10 : Int).toNat x0.size) x1 t374).bind fun bt375 => (if bt375.2 = 0 then (if 0 ≤ x9 then (if (x9 : Int).toNat ≤ 281474976710656 then (dict_take_string_fn29.l1 k x9 x12 bt375.1 (List.replicate (x9 : Int).toNat false) bt375.1 (bt375.1.length : Int) 0) else (none)) else (none)) else (some (([] : List ByteArray), ([] : List Int), 20))))) else (none)) else (none))
def dict_take_string_fn29.l1 : Nat → Int → List ByteArray → List Int → List Bool → List Int → Int → Int → Option (List ByteArray × List Int × Int)
 | 0, _, _, _, _, _, _, _ => none
 | k + 1, x9, x12, x16, x17, x98, x99, x100 => if x100 < x99 then (if 0 ≤ x100 then (if x100 < (x98.length : Int) then (if (rd x98 x100) < 0 then (some (([] : List ByteArray), ([] : List Int), 20)) else (if (rd x98 x100) ≥ x9 then (some (([] : List ByteArray), ([] : List Int), 20)) else (if 0 ≤ (rd x98 x100) then (if (rd x98 x100) < (x17.length : Int) then (dict_take_string_fn29.l1 k x9 x12 x16 (x17.set ((rd x98 x100) : Int).toNat true) x98 x99 (wrap64 (x100 + 1))) else (none)) else (none)))) else (none)) else (none)) else ((slices_Contains_bool_bool.f k x17 false).bind fun t384 => (if t384 = true then (some (([] : List ByteArray), ([] : List Int), 20)) else (some (x12, x16, 0))))
end
def dict_take_string_fn29.f (k : Nat) (a0 : ByteArray) (a1 : Int)  : Option (List ByteArray × List Int × Int) := if a1 < 0 then (dict_take_string_fn29.j0 k a0 a1 true) else (dict_take_string_fn29.j0 k a0 a1 (decide (a1 > 65536)))
theorem dict_take_string_fn29.j0_succ (k) (a0) (a1) (a2) : type_of% (@dict_take_string_fn29.j0.eq_2 a0 a1 a2 k) := dict_take_string_fn29.j0.eq_2 a0 a1 a2 k
theorem dict_take_string_fn29.j1_succ (k) (a0) (a1) (a2) (a3) (a4) : type_of% (@dict_take_string_fn29.j1.eq_2 a0 a1 a2 a3 a4 k) := dict_take_string_fn29.j1.eq_2 a0 a1 a2 a3 a4 k
theorem dict_take_string_fn29.l0_succ (k) (a0) (a1) (a2) (a3) (a4) (a5) (a6) : type_of% (@dict_take_string_fn29.l0.eq_2 a0 a1 a2 a3 a4 a5 a6 k) := dict_take_string_fn29.l0.eq_2 a0 a1 a2 a3 a4 a5 a6 k
theorem dict_take_string_fn29.l1_succ (k) (a0) (a1) (a2) (a3) (a4) (a5) (a6) : type_of% (@dict_take_string_fn29.l1.eq_2 a0 a1 a2 a3 a4 a5 a6 k) := dict_take_string_fn29.l1.eq_2 a0 a1 a2 a3 a4 a5 a6 k
def dict_take_string_fn29.T20 : Bool × List (List Nat × List Nat) := (true, [([], []), ([], []), ([0, 1], [0, 1]), ([], []), ([], []), ([4], [4]), ([5], [5]), ([6], [6]), ([2, 3, 7, 7], [2, 3, 7]), ([8], [8]), ([9], [9]), ([9], [9]), ([10, 8, 0, 1, 2, 3, 4, 5, 6, 7, 8, 9, 10], [10]), ([11, 12, 0, 1, 2, 3, 4, 5, 6, 7, 8, 9, 10, 11, 12], [11])])
def dict_take_string_fn29.B20 : List Nat := [0, 0, 3, 0, 0, 16, 48, 112, 255, 511, 1023, 1023, 2047, 8191]
theorem dict_take_string_fn29.tab20 : rtab .any (opsOf Tryz.f28 20) = dict_take_string_fn29.T20 := by kernel_rfl
theorem dict_take_string_fn29.bits20 : waitsOk dict_take_string_fn29.T20.2 dict_take_string_fn29.B20 = true := by kernel_rfl
set_option maxHeartbeats 8000000 in
set_option maxRecDepth 100000 in
theorem dict_take_string_fn29.calls (k : Nat) (a0 : ByteArray) (a1 : Int)  (r1 : List ByteArray) (r2 : List Int) (r3 : Int) (w : World) (h : dict_take_string_fn29.f k a0 a1 = some (r1, r2, r3)) :
  Calls Tryz.prog 28 #[.string a0, .int .i64 a1, .func (.func 29) #[] #[]] w fun e w' => ∃ v0_ v1_ : Value, e = .returned (.tuple #[v0_, v1_, .int .i64 r3]) ∧ Kd.R Kd.string 9 w' w.heap.size (fun _ => True) v0_ r1 ∧ Kd.R (Kd.int .i64) 3 w' w.heap.size (fun _ => True) v1_ r2 ∧ Below w.heap.size w w' := by
 have hsq : ∀ (a b : ByteArray), binOp BinOp.leq 9 (.string a) (.string b) = (pure (.bool (!(Op.bytesLess b.toList a.toList))) : Sem Value) := by
  intro a b
  have e : (Op.bytesLess a.toList b.toList || a.toList == b.toList) = !(Op.bytesLess b.toList a.toList) := by
   rw [Go.Proofs.bytesLess_eq, Go.Proofs.bytesLess_eq, Bool.eq_iff_iff]
   simp only [Bool.or_eq_true, decide_eq_true_eq, beq_iff_eq, Bool.not_eq_true', decide_eq_false_iff_not]
   constructor
   ·rintro (h | h) h2
    ·exact List.lt_irrefl _ (List.lt_trans h h2)
    ·rw [h] at h2; exact List.lt_irrefl _ h2
   ·intro h
    by_cases c : a.toList < b.toList
    ·exact .inl c
    ·exact .inr (List.le_antisymm (List.not_lt.1 h) (List.not_lt.1 c))
  simp only [binOp, Op.stringOp, e]
 have HB := Aside0.mk (Below.refl w.heap.size w)
 have H := h
 clear h
 unfold dict_take_string_fn29.f at H
 have HC4 := Aside0.mk H
 clear H
 go_enter Tryz.func28, Tryz.ntmps28
 go_upto_region 1 with (fail)
 go_cut [25] (fun v25 wc => ∃ (kq : Nat) (x25_3 : Bool), v25 = .bool x25_3 ∧ Aside0 (dict_take_string_fn29.j0 kq a0 a1 x25_3 = some (r1, r2, r3)) ∧ Aside0 (kq ≤ k) ∧ Aside0 (Below w.heap.size w wc))
 case first =>
  have H := HC4.out
  clear HC4
  replace H := ifd H
  rcases H with ⟨-, c5b0, H⟩ | ⟨-, c5b0, H⟩
  ·(skip)
   have H' := Aside0.mk H
   clear H
   go_wp2
   go_meet
   case rel => exact ⟨_, (true), (by rfl), H', ⟨by omega⟩, ⟨bh HB.out⟩⟩
  ·(skip)
   have H' := Aside0.mk H
   clear H
   go_wp2
   go_meet
   case rel => exact ⟨_, (decide (a1 > 65536)), (by rfl), H', ⟨by omega⟩, ⟨bh HB.out⟩⟩
 case rest =>
  clear HC4
  obtain ⟨kq, x25_3, rfl, HA, HJ3, HB⟩ := hcut
  cases kq with
  | zero => exact absurd HA.out (by simp [dict_take_string_fn29.j0])
  | succ kj3 =>
   have H := HA.out
   clear HA
   simp only [dict_take_string_fn29.j0] at H
   replace H := ifb H
   rcases H with ⟨rfl, H⟩ | ⟨rfl, H⟩
   ·simp only [Option.some.injEq, Prod.mk.injEq] at H
    obtain ⟨rfl, rfl, rfl⟩ := H
    go_wp2
    go_ret3
    exact ⟨_, _, er, nl, nl, bh HB.out⟩
   ·replace H := ife H
    rcases H with ⟨-, c7b0, c7b1, H⟩ | ⟨c7, c7b0, c7b1, H⟩
    ·replace H := ife H
     rcases H with ⟨-, c8b0, c8b1, H⟩ | ⟨c8, c8b0, c8b1, H⟩
     ·simp only [Option.some.injEq, Prod.mk.injEq] at H
      obtain ⟨rfl, rfl, rfl⟩ := H
      go_wp2
      go_ret3
      exact ⟨_, _, er, nl, nl, bh HB.out⟩
     ·simp only [Option.some.injEq, Prod.mk.injEq] at H
      obtain ⟨rfl, rfl, rfl⟩ := H
      go_wp2
      go_ret3
      exact ⟨_, _, er, nl, nl, bh HB.out⟩
    ·replace H := bd H
     obtain ⟨⟨t359, t360, t361⟩, A9, H⟩ := H
     dsimp only at H
     have HC10 := Aside0.mk H
     clear H
     go_upto_region 8 with (((with_reducible refine gate_callee (f := 18) rfl ?_); refine gL 32 Tryz.func18 #[.string a0] ?_; (with_reducible refine (vint_Take.calls kj3 a0 t359 t360 t361 _ A9.out).mono ?_); rintro e w11 ⟨rfl, hb⟩; refine ⟨_, rfl, ?_⟩; replace HB := bsa HB hb; clear hb))
     go_cut [46] (fun v46 wc => ∃ (kq : Nat) (x46_9 : Bool), v46 = .bool x46_9 ∧ Aside0 (dict_take_string_fn29.j1 kq a0 a1 t359 t360 x46_9 = some (r1, r2, r3)) ∧ Aside0 (kq ≤ kj3) ∧ Aside0 (Below w.heap.size w wc))
     case first =>
      have H := HC10.out
      clear HC10
      replace H := ife H
      rcases H with ⟨-, c12b0, c12b1, H⟩ | ⟨c12, c12b0, c12b1, H⟩
      ·(skip)
       replace H := ifd H
       rcases H with ⟨-, c13b0, H⟩ | ⟨-, c13b0, H⟩
       ·have H' := Aside0.mk H
        clear H
        go_wp2
        go_meet
        case rel => exact ⟨_, (true), (by rfl), H', ⟨by have := HJ3.out; omega⟩, ⟨bh HB.out⟩⟩
       ·have H' := Aside0.mk H
        clear H
        go_wp2
        go_meet
        case rel => exact ⟨_, (decide (t359 > a1)), (by rfl), H', ⟨by have := HJ3.out; omega⟩, ⟨bh HB.out⟩⟩
      ·(skip)
       have H' := Aside0.mk H
       clear H
       go_wp2
       go_meet
       case rel => exact ⟨_, (true), (by rfl), H', ⟨by have := HJ3.out; omega⟩, ⟨bh HB.out⟩⟩
     case rest =>
      clear HC10 c7 c7b0 c7b1
      obtain ⟨kq, x46_9, rfl, HA, HJ9, HB⟩ := hcut
      cases kq with
      | zero => exact absurd HA.out (by simp [dict_take_string_fn29.j1])
      | succ kj9 =>
       have H := HA.out
       clear HA
       simp only [dict_take_string_fn29.j1] at H
       replace H := ifb H
       rcases H with ⟨rfl, H⟩ | ⟨rfl, H⟩
       ·simp only [Option.some.injEq, Prod.mk.injEq] at H
        obtain ⟨rfl, rfl, rfl⟩ := H
        go_wp2
        go_ret3
        exact ⟨_, _, er, nl, nl, bh HB.out⟩
       ·have H' := Aside0.mk H
        clear H
        go_wp2
        go_loopg [10, 12, 48] kj9 (fun kq v10 v12 v48 w' => ∃ (x10_3 : Int) (x12_3 : List ByteArray) (x48_3 : Int), v10 = .int .i64 x10_3 ∧ v48 = .int .i64 x48_3 ∧ Aside0 (dict_take_string_fn29.l0 kq a0 a1 t359 x10_3 x12_3 t359 x48_3 = some (r1, r2, r3)) ∧ Aside0 (kq ≤ kj9) ∧ Aside0 (Kd.R Kd.string 9 w' w.heap.size (fun _ => True) v12 x12_3) ∧ Aside0 (Below w.heap.size w w'))
        case atStart => exact ⟨(t360), (([] : List ByteArray)), (0), (by rfl), (by rfl), H', ⟨Nat.le_refl _⟩, ⟨nl⟩, ⟨bh HB.out⟩⟩
        case round =>
         clear H'
         obtain ⟨x10_3, x12_3, x48_3, rfl, rfl, HA, HK3, HO_12, HB⟩ := hrel
         cases gk with
         | zero => exact absurd HA.out (by simp [dict_take_string_fn29.l0])
         | succ k3 =>
          have H := HA.out
          clear HA
          simp only [dict_take_string_fn29.l0] at H
          replace H := ifd H
          rcases H with ⟨-, c15b0, H⟩ | ⟨-, c15b0, H⟩
          ·replace H := ifn H
           obtain ⟨c16, -, H⟩ := H
           have c16b0 := eq_true c16
           have c16b1 : decide (0 ≤ x10_3) = true := decide_eq_true c16
           clear c16
           replace H := ifn H
           obtain ⟨c17, -, H⟩ := H
           have c17b0 := eq_true c17
           have c17b1 : decide (x10_3 ≤ (a0.size : Int)) = true := decide_eq_true c17
           clear c17
           replace H := bd H
           obtain ⟨⟨t362, t363⟩, A18, H⟩ := H
           dsimp only at H
           replace H := ife H
           rcases H with ⟨-, c19b0, c19b1, H⟩ | ⟨c19, c19b0, c19b1, H⟩
           ·simp only [Option.some.injEq, Prod.mk.injEq] at H
            obtain ⟨rfl, rfl, rfl⟩ := H
            go_wp2_with (((with_reducible refine gate_list ?_); refine gate_value rfl ?_; refine goesV_ (some 56) rfl rfl Tryz.func29 (by kernel_rfl) rfl #[.string (a0.extract (x10_3 : Int).toNat a0.size)] rfl (by rfl) (by (simp only [List.map_toArray, List.map_cons, List.map_nil]); rfl) ?_; (with_reducible refine (dict_Places_1.calls (a0.extract (x10_3 : Int).toNat a0.size) t362 t363 _ A18.out).mono ?_); rintro e w' ⟨rfl, ⟨nd, rfl⟩⟩; refine ⟨_, rfl, ?_⟩))
            go_ret3
            exact ⟨_, _, er, nl, nl, bh HB.out⟩
           ·replace H := ifd H
            rcases H with ⟨-, c20b0, H⟩ | ⟨-, c20b0, H⟩
            ·obtain ⟨ji21, hji21⟩ : ∃ j_ : Int, (wrap64 (x48_3 - 1)) = j_ := ⟨_, rfl⟩
             replace H : (if 0 ≤ (ji21) then (if (ji21) < (x12_3.length : Int) then (if ((Op.bytesLess ((rdOf ByteArray.empty x12_3 (ji21)).toList) t362.toList) = true) then (if x12_3.length < 8796093022208 then (dict_take_string_fn29.l0 k3 a0 a1 t359 (wrap64 (x10_3 + t363)) (x12_3 ++ [t362]) t359 (wrap64 (x48_3 + 1))) else (none)) else (some (([] : List ByteArray), ([] : List Int), 20))) else (none)) else (none)) = some (r1, r2, r3) := by (rw [hji21] at H; exact H)
             have hji21w : (IntKind.i64.wrap (x48_3 - 1)) = ji21 := (i64_w _).trans hji21
             replace H := ifn H
             obtain ⟨-, c22b0, H⟩ := H
             replace H := ifn H
             obtain ⟨-, c23b0, H⟩ := H
             replace H := ifd H
             rcases H with ⟨c24, -, H⟩ | ⟨c24, -, H⟩
             ·have c24b0 : (Op.bytesLess ((rdOf ByteArray.empty x12_3 (ji21)).toList) t362.toList) = true := c24
              clear c24
              replace H := ifn H
              obtain ⟨c25, -, H⟩ := H
              have LMc25 := Aside0.mk c25
              clear c25
              obtain ⟨y365, hy365⟩ : ∃ y_ : List ByteArray, y_ = (x12_3 ++ [t362]) := ⟨_, rfl⟩
              replace H : (dict_take_string_fn29.l0 k3 a0 a1 t359 (wrap64 (x10_3 + t363)) y365 t359 (wrap64 (x48_3 + 1))) = some (r1, r2, r3) := by (rw [hy365]; with_reducible exact H)
              have Ny365 := Aside0.mk hy365
              clear hy365
              have H' := Aside0.mk H
              clear H
              go_wp2_with (first | ((with_reducible refine gate_list ?_); refine gate_value rfl ?_; refine goesV_ (some 56) rfl rfl Tryz.func29 (by kernel_rfl) rfl #[.string (a0.extract (x10_3 : Int).toNat a0.size)] rfl (by rfl) (by (simp only [List.map_toArray, List.map_cons, List.map_nil]); rfl) ?_; (with_reducible refine (dict_Places_1.calls (a0.extract (x10_3 : Int).toNat a0.size) t362 t363 _ A18.out).mono ?_); rintro e w' ⟨rfl, ⟨nd, rfl⟩⟩; refine ⟨_, rfl, ?_⟩; obtain ⟨Ao26, co26, eo26⟩ := Kd.R_slice HO_12.out; subst eo26; have p364 : 0 ≤ ((ji21) : Int) := ad; have q364 : (ji21) < (x12_3.length : Int) := ad; obtain ⟨ad364, e364, hx364_0⟩ := Kd.at_string (Kd.R_reads' HO_12.out).2.2 (ji21) p364 q364; cases e364; replace p364 := eq_true p364; replace q364 := eq_true q364) | ((with_reducible refine gate_builtin (b := .append) (xs := #[.tmp 74, .tmp 76]) rfl ?_); at_builtin; refine Kd.R_append Kd.string (w0 := w) w.heap.size rfl (.tmp 74) (.tmp 76) 27 9 (.string ⟨#[]⟩) 16 rfl Tryz.underlying27 info9 rfl (by decide) (by omega) (.slice (some ad364) x12_3.length co26) x12_3 t362 [.string t362] (fun _ => True) (fun _ => False) rfl rfl ?aP (fun _ hk => hk.elim) ?aF ?aO ?aB ?aS ?aL ?_; (case aP => exact rfl); (case aB => exact (bh HB.out)); (case aF => exact (fun _ _ => trivial)); (case aO => exact (rx HO_12.out)); (case aS => exact (below_size (bh HB.out))); (case aL => have := LMc25.out; omega); intro v366 w27 ho hb hg hat; rw [← Ny365.out] at ho; have n0_ := Aside0.mk (hb); have n1_ := Aside0.mk (ho); clear HB HO_12; have HB := n0_; have HO367 := n1_; clear n0_ n1_ ho hb hg hat))
              go_roundg k3
              case measure => have := HJ3.out; have := HJ9.out; have := HK3.out; omega
              case rel => exact ⟨(wrap64 (x10_3 + t363)), (y365), (wrap64 (x48_3 + 1)), (by rfl), (by rfl), (by exact H'), ⟨by have := HJ3.out; have := HJ9.out; have := HK3.out; omega⟩, ⟨by exact HO367.out⟩, ⟨bh HB.out⟩⟩
             ·have c24b0 : (Op.bytesLess ((rdOf ByteArray.empty x12_3 (ji21)).toList) t362.toList) = false := by simpa using c24
              clear c24
              simp only [Option.some.injEq, Prod.mk.injEq] at H
              obtain ⟨rfl, rfl, rfl⟩ := H
              go_wp2_with (((with_reducible refine gate_list ?_); refine gate_value rfl ?_; refine goesV_ (some 56) rfl rfl Tryz.func29 (by kernel_rfl) rfl #[.string (a0.extract (x10_3 : Int).toNat a0.size)] rfl (by rfl) (by (simp only [List.map_toArray, List.map_cons, List.map_nil]); rfl) ?_; (with_reducible refine (dict_Places_1.calls (a0.extract (x10_3 : Int).toNat a0.size) t362 t363 _ A18.out).mono ?_); rintro e w' ⟨rfl, ⟨nd, rfl⟩⟩; refine ⟨_, rfl, ?_⟩; obtain ⟨Ao28, co28, eo28⟩ := Kd.R_slice HO_12.out; subst eo28; have p364 : 0 ≤ ((ji21) : Int) := ad; have q364 : (ji21) < (x12_3.length : Int) := ad; obtain ⟨ad364, e364, hx364_0⟩ := Kd.at_string (Kd.R_reads' HO_12.out).2.2 (ji21) p364 q364; cases e364; replace p364 := eq_true p364; replace q364 := eq_true q364))
              go_ret3
              exact ⟨_, _, by rfl, nl, nl, bh HB.out⟩
            ·replace H := ifn H
             obtain ⟨c29, -, H⟩ := H
             have LMc29 := Aside0.mk c29
             clear c29
             obtain ⟨y368, hy368⟩ : ∃ y_ : List ByteArray, y_ = (x12_3 ++ [t362]) := ⟨_, rfl⟩
             replace H : (dict_take_string_fn29.l0 k3 a0 a1 t359 (wrap64 (x10_3 + t363)) y368 t359 (wrap64 (x48_3 + 1))) = some (r1, r2, r3) := by (rw [hy368]; with_reducible exact H)
             have Ny368 := Aside0.mk hy368
             clear hy368
             have H' := Aside0.mk H
             clear H
             go_wp2_with (first | ((with_reducible refine gate_list ?_); refine gate_value rfl ?_; refine goesV_ (some 56) rfl rfl Tryz.func29 (by kernel_rfl) rfl #[.string (a0.extract (x10_3 : Int).toNat a0.size)] rfl (by rfl) (by (simp only [List.map_toArray, List.map_cons, List.map_nil]); rfl) ?_; (with_reducible refine (dict_Places_1.calls (a0.extract (x10_3 : Int).toNat a0.size) t362 t363 _ A18.out).mono ?_); rintro e w' ⟨rfl, ⟨nd, rfl⟩⟩; refine ⟨_, rfl, ?_⟩) | ((with_reducible refine gate_builtin (b := .append) (xs := #[.tmp 74, .tmp 76]) rfl ?_); at_builtin; refine Kd.R_append Kd.string (w0 := w) w.heap.size rfl (.tmp 74) (.tmp 76) 27 9 (.string ⟨#[]⟩) 16 rfl Tryz.underlying27 info9 rfl (by decide) (by omega) u12 x12_3 t362 [.string t362] (fun _ => True) (fun _ => False) rfl rfl ?aP (fun _ hk => hk.elim) ?aF ?aO ?aB ?aS ?aL ?_; (case aP => exact rfl); (case aB => exact (bh HB.out)); (case aF => exact (fun _ _ => trivial)); (case aO => exact (rx HO_12.out)); (case aS => exact (below_size (bh HB.out))); (case aL => have := LMc29.out; omega); intro v369 w30 ho hb hg hat; rw [← Ny368.out] at ho; have n0_ := Aside0.mk (hb); have n1_ := Aside0.mk (ho); clear HB HO_12; have HB := n0_; have HO370 := n1_; clear n0_ n1_ ho hb hg hat))
             go_roundg k3
             case measure => have := HJ3.out; have := HJ9.out; have := HK3.out; omega
             case rel => exact ⟨(wrap64 (x10_3 + t363)), (y368), (wrap64 (x48_3 + 1)), (by rfl), (by rfl), H', ⟨by have := HJ3.out; have := HJ9.out; have := HK3.out; omega⟩, ⟨by exact HO370.out⟩, ⟨bh HB.out⟩⟩
          ·replace H := ifn H
           obtain ⟨c31, -, H⟩ := H
           have c31b0 := eq_true c31
           have c31b1 : decide (0 ≤ x10_3) = true := decide_eq_true c31
           clear c31
           replace H := ifn H
           obtain ⟨c32, -, H⟩ := H
           have c32b0 := eq_true c32
           have c32b1 : decide (x10_3 ≤ (a0.size : Int)) = true := decide_eq_true c32
           clear c32
           obtain ⟨y371, hy371⟩ : ∃ y_ : List Int, y_ = (([wrap64 (t359 - 1)] : List Int)) := ⟨_, rfl⟩
           replace H : ((pack_Width.f k3 y371).bind fun t374 => ((pack_Take.f k3 (a0.extract (x10_3 : Int).toNat a0.size) a1 t374).bind fun bt375 => (if bt375.2 = 0 then (if 0 ≤ t359 then (if (t359 : Int).toNat ≤ 281474976710656 then (dict_take_string_fn29.l1 k3 t359 x12_3 bt375.1 (List.replicate (t359 : Int).toNat false) bt375.1 (bt375.1.length : Int) 0) else (none)) else (none)) else (some (([] : List ByteArray), ([] : List Int), 20))))) = some (r1, r2, r3) := by (rw [hy371]; with_reducible exact H)
           have Ny371 := Aside0.mk hy371
           clear hy371
           replace H := bd H
           obtain ⟨t374, A33, H⟩ := H
           replace H := bd H
           obtain ⟨⟨t375, t376⟩, A34, H⟩ := H
           dsimp only at H
           replace H := ife H
           rcases H with ⟨-, c35b0, c35b1, H⟩ | ⟨c35, c35b0, c35b1, H⟩
           ·replace H := ifn H
            obtain ⟨c36, -, H⟩ := H
            have c36b0 := eq_true c36
            have c36b1 : decide (0 ≤ t359) = true := decide_eq_true c36
            clear c36
            replace H := ifn H
            obtain ⟨c37, -, H⟩ := H
            have c37b0 := eq_true c37
            have c37b1 : decide ((t359 : Int).toNat ≤ 281474976710656) = true := decide_eq_true c37
            clear c37
            obtain ⟨y379, hy379⟩ : ∃ y_ : List Bool, y_ = (List.replicate (t359 : Int).toNat false) := ⟨_, rfl⟩
            replace H : (dict_take_string_fn29.l1 k3 t359 x12_3 t375 y379 t375 (t375.length : Int) 0) = some (r1, r2, r3) := by (rw [hy379]; with_reducible exact H)
            have Ny379 := Aside0.mk hy379
            clear hy379
            have H' := Aside0.mk H
            clear H
            go_wp2
            replace HO_12 := Aside0.mk (Kd.R_drew HO_12.out)
            replace HB := Aside0.mk (below_drew1 HB.out)
            refine start_ (n := 14) (S := fun w' => True) (ds := []) #[false, false, false, false, false, false, false, false, false, false, false, false, false, false] (by kernel_rfl) rfl rfl trivial (fun hHeld => ?_); refine with_tabW dict_take_string_fn29.tab20 dict_take_string_fn29.bits20 (fun HT_ HW_ => ?_)
            generalize wr.drew = w38 at HO_12 HB hHeld ⊢
            refine puA HT_ 0 83 (bv 14 1) ?_
            refine puA HT_ 1 84 (bv 14 3) ?_
            refine puA HT_ 2 85 (bv 14 7) ?_
            refine puA HT_ 3 86 (bv 14 15) ?_
            refine puA HT_ 4 87 (bv 14 31) ?_
            refine puA HT_ 5 88 (bv 14 63) ?_
            refine one_ (i := 6) (N := some 89) #[true, true, true, true, true, true, true, false, false, false, false, false, false, false] rfl rfl (one_of HT_.out (by kernel_rfl)) (by decide) (fun K hK => ?_)
            refine Kd.R_lit_step (Kd.int .i64) _ 3 ?hg (N := 89) ?hd (xs := ([wrap64 (t359 - 1)] : List Int)) (inner := [.int .i64 (wrap64 (t359 - 1))]) (ok := fun _ => True) (okp := fun _ => True) ?hr ?hp (fun _ hk => hk) trivial (Below.refl _ _) (Nat.le_refl _) (by simp) ?_; (case hd => rfl); (case hg => rfl); (case hr => (go_simp; done)); (case hp => exact (Reps.one (show Kd.M (Kd.int .i64) _ _ _ (wrap64 (t359 - 1)) [.int .i64 (wrap64 (t359 - 1))] from rfl) (Reps.none _ _)))
            intro v372 w39 ho40 hb hg_ hnew_
            clear hg_ hnew_
            (rw [← Ny371.out] at ho40)
            replace HO_12 := rba HO_12 hb
            have HO373 := Aside0.mk (Kd.R_lower ho40 (below_size (bh HB.out)))
            replace HB := bsa HB hb
            clear hb ho40
            obtain ⟨Ao41, co41, eo41⟩ := Kd.R_slice HO373.out
            (subst eo41)
            refine hK.out _ _ trivial (fun hHeld => ?_)
            clear hK K
            refine norm_ (a' := ?_) ?_ ?_
            rotate_left
            ·show Act.put _ (some 89) _ = _
             simp only [Act.put, List.setIfInBounds_toArray, List.set_cons_zero, List.set_cons_succ, i64_w, i32_w]
             rfl
            refine one_ (i := 7) (N := some 90) #[true, true, true, true, true, true, true, true, false, false, false, false, false, false] rfl rfl (one_of HT_.out (by kernel_rfl)) (by decide) (fun K hK => ?_)
            refine goes_ Tryz.func40 (by kernel_rfl) rfl #[.slice Ao41 y371.length co41] (by rfl) rfl rfl (by (simp only [List.map_toArray, List.map_cons, List.map_nil]); rfl) ?_
            with_reducible refine (pack_Width.calls k3 _ _ y371 t374 _ ?side1 ?side2 A33.out).mono ?_
            (case side1 => exact cx (Kd.R_reads' HO373.out).2.2)
            (case side2 => exact (Kd.R_reads' HO373.out).2.1)
            rintro e w' ⟨rfl, ⟨nd, rfl⟩⟩
            refine ⟨_, rfl, ?_⟩
            refine hK.out _ _ trivial (fun hHeld => ?_)
            clear hK K
            refine norm_ (a' := ?_) ?_ ?_
            rotate_left
            ·show Act.put _ (some 90) _ = _
             simp only [Act.put, List.setIfInBounds_toArray, List.set_cons_zero, List.set_cons_succ, i64_w, i32_w]
             rfl
            refine one_ (i := 8) (N := some 91) #[true, true, true, true, true, true, true, true, true, false, false, false, false, false] rfl rfl (one_of HT_.out (by kernel_rfl)) (by decide) (fun K hK => ?_)
            refine goes_ Tryz.func39 (by kernel_rfl) rfl #[.string (a0.extract (x10_3 : Int).toNat a0.size), .int .i64 a1, .int .i64 t374] (by rfl) rfl rfl (by (simp only [List.map_toArray, List.map_cons, List.map_nil]); rfl) ?_
            with_reducible refine (pack_Take.calls k3 (a0.extract (x10_3 : Int).toNat a0.size) a1 t374 t375 t376 _ A34.out).mono ?_
            rintro e w42 ⟨v377, rfl, ho0, hb⟩
            refine ⟨_, rfl, ?_⟩
            replace HO_12 := rba HO_12 hb
            have HO378 := Aside0.mk (Kd.R_lower (Kd.R_new' ho0 (Kd.R_lt (rx HO373.out))) (below_size (bh HB.out)))
            replace HO373 := Aside0.mk (Kd.R_elder' (rx HO373.out) (Kd.R_base ho0) hb)
            replace HB := bsa HB hb
            clear hb ho0
            refine hK.out _ _ trivial (fun hHeld => ?_)
            clear hK K
            refine norm_ (a' := ?_) ?_ ?_
            rotate_left
            ·show Act.put _ (some 91) _ = _
             simp only [Act.put, List.setIfInBounds_toArray, List.set_cons_zero, List.set_cons_succ, i64_w, i32_w]
             rfl
            refine puA HT_ 9 82 (bv 14 1023) ?_
            refine puA HT_ 10 92 (bv 14 2047) ?_
            refine puA HT_ 11 93 (bv 14 4095) ?_
            refine puA HT_ 12 16 (bv 14 8191) ?_
            refine puA HT_ 13 11 (bv 14 16383) ?_
            refine done_ (done_of HT_.out (by kernel_rfl)) ?_
            go_wp2_with (((with_reducible refine gate_dst (N := 97) rfl ?_); refine Kd.R_make Kd.bool _ 4 rfl (N := 97) rfl 63 _ _ rfl t359 rfl rfl Tryz.underlying63 (.bool false) 1 info4 rfl (by decide) (by omega) false (ok := fun _ => True) (okp := fun _ => True) rfl (fun _ hk => hk) trivial (of_decide_eq_true (by assumption)) (Nat.le_trans (Nat.mul_le_mul_right _ (of_decide_eq_true (by assumption) : t359.toNat ≤ 281474976710656)) (by omega)) (Below.refl _ _) (Nat.le_refl _) ?_; intro v380 w43 ho44 hb hg_ hnew_; clear hg_ hnew_; (rw [← Ny379.out] at ho44); replace HO_12 := rba HO_12 hb; replace HO373 := rba HO373 hb; replace HO378 := rba HO378 hb; have HO381 := Aside0.mk (Kd.R_lower ho44 (below_size (bh HB.out))); replace HB := bsa HB hb; clear hb ho44; obtain ⟨Ao45, co45, eo45⟩ := Kd.R_slice HO378.out; subst eo45))
            go_loopg [100] k3 (fun kq v100 w' => ∃ (x17_4 : List Bool) (x100_4 : Int), v100 = .int .i64 x100_4 ∧ Aside0 (dict_take_string_fn29.l1 kq t359 x12_3 t375 x17_4 t375 (t375.length : Int) x100_4 = some (r1, r2, r3)) ∧ Aside0 (kq ≤ k3) ∧ Aside0 (Kd.R Kd.string 9 w' w.heap.size (fun _ => True) u12 x12_3) ∧ Aside0 (Kd.R (Kd.int .i64) 3 w' w.heap.size (fun _ => True) (.slice Ao45 t375.length co45) t375) ∧ Aside0 (Kd.R Kd.bool 4 w' w.heap.size (fun _ => True) v380 x17_4) ∧ Aside0 (Kd.R (Kd.int .i64) 3 w' w.heap.size (fun _ => True) (.slice Ao45 t375.length co45) t375) ∧ Aside0 (Below w.heap.size w w'))
            case atStart => exact ⟨(y379), (0), (by rfl), H', ⟨Nat.le_refl _⟩, ⟨by exact HO_12.out⟩, ⟨by exact Kd.R_mono HO378.out (fun _ hk => trivial)⟩, ⟨by exact HO381.out⟩, ⟨by exact Kd.R_mono HO378.out (fun _ hk => trivial)⟩, ⟨bh HB.out⟩⟩
            case round =>
             clear H' c15b0 c31b0 c31b1 c32b0 c32b1 c35b0 c35b1 c36b0 c36b1 c37b0 c37b1
             obtain ⟨x17_4, x100_4, rfl, HA, HK4, HO_12, HO_16, HO_17, HO_98, HB⟩ := hrel
             cases gk with
             | zero => exact absurd HA.out (by simp [dict_take_string_fn29.l1])
             | succ k4 =>
              have H := HA.out
              clear HA
              simp only [dict_take_string_fn29.l1] at H
              replace H := ifd H
              rcases H with ⟨-, c46b0, H⟩ | ⟨-, c46b0, H⟩
              ·replace H := ifn H
               obtain ⟨-, c47b0, H⟩ := H
               replace H := ifn H
               obtain ⟨-, c48b0, H⟩ := H
               replace H := ifd H
               rcases H with ⟨-, c49b0, H⟩ | ⟨-, c49b0, H⟩
               ·simp only [Option.some.injEq, Prod.mk.injEq] at H
                obtain ⟨rfl, rfl, rfl⟩ := H
                have p382 : 0 ≤ (x100_4 : Int) := ad
                have q382 : x100_4 < (t375.length : Int) := ad
                obtain ⟨ad382, e382, hx382_0⟩ := Kd.at_int (Kd.R_reads' HO_98.out).2.2 x100_4 p382 q382
                cases e382
                replace p382 := eq_true p382
                replace q382 := eq_true q382
                go_wp2
                go_ret3
                exact ⟨_, _, er, nl, nl, bh HB.out⟩
               ·replace H := ifd H
                rcases H with ⟨-, c50b0, H⟩ | ⟨-, c50b0, H⟩
                ·simp only [Option.some.injEq, Prod.mk.injEq] at H
                 obtain ⟨rfl, rfl, rfl⟩ := H
                 have p382 : 0 ≤ (x100_4 : Int) := ad
                 have q382 : x100_4 < (t375.length : Int) := ad
                 obtain ⟨ad382, e382, hx382_0⟩ := Kd.at_int (Kd.R_reads' HO_98.out).2.2 x100_4 p382 q382
                 cases e382
                 replace p382 := eq_true p382
                 replace q382 := eq_true q382
                 go_wp2
                 go_ret3
                 exact ⟨_, _, er, nl, nl, bh HB.out⟩
                ·replace H := ifn H
                 obtain ⟨-, c51b0, H⟩ := H
                 replace H := ifn H
                 obtain ⟨-, c52b0, H⟩ := H
                 obtain ⟨y383, hy383⟩ : ∃ y_ : List Bool, y_ = (x17_4.set ((rd t375 x100_4) : Int).toNat true) := ⟨_, rfl⟩
                 replace H : (dict_take_string_fn29.l1 k4 t359 x12_3 t375 y383 t375 (t375.length : Int) (wrap64 (x100_4 + 1))) = some (r1, r2, r3) := by (rw [hy383]; with_reducible exact H)
                 have Ny383 := Aside0.mk hy383
                 clear hy383
                 have H' := Aside0.mk H
                 clear H
                 have p382 : 0 ≤ (x100_4 : Int) := ad
                 have q382 : x100_4 < (t375.length : Int) := ad
                 obtain ⟨ad382, e382, hx382_0⟩ := Kd.at_int (Kd.R_reads' HO_98.out).2.2 x100_4 p382 q382
                 cases e382
                 replace p382 := eq_true p382
                 replace q382 := eq_true q382
                 have p53 : 0 ≤ ((rd t375 x100_4) : Int) := ad
                 have q53 : ((rd t375 x100_4) : Int) < ((x17_4.length : Int) : Int) := ad
                 obtain ⟨go53, co53, eo53, gb53, gl53, cl53, HG53⟩ := Kd.R_form HO_17.out (by omega)
                 (cases eo53)
                 have GB53 := Aside0.mk gb53
                 have GG53 := Aside0.mk HG53
                 clear gb53 gl53 HG53
                 obtain ⟨hx53_0, hf53_0⟩ := Kd.R_celln false HO_17.out ((rd t375 x100_4) : Int) p53 q53
                 replace p53 := eq_true p53
                 replace q53 := eq_true q53
                 have HP54 := Kd.R_putg HO_17.out ((rd t375 x100_4) : Int) true
                 go_wp2_with (((with_reducible refine gate_store (t := 4) (p := 113) rfl ?_); refine stE 4 113 (wr.setCell ⟨go53, ((rd t375 x100_4) : Int).toNat, none⟩ (.bool true)) ?_; intro w55 hw; have hg : wr.grownBy w55 (some go53) := (by rw [hw]; exact HP54.2); have hp_ : Kd.R Kd.bool 4 w55 w.heap.size (fun _ => True) (.slice (some ⟨go53, 0, none⟩) x17_4.length co53) y383 := (by rw [hw, Ny383.out]; exact HP54.1); clear HP54; replace HO_12 := Aside0.mk (Kd.R_over' (v := (.slice (some ⟨go53, 0, none⟩) x17_4.length co53)) (rx HO_12.out) (Kd.R_typed HO_17.out) (by decide) hg); replace HO_16 := Aside0.mk (Kd.R_over' (v := (.slice (some ⟨go53, 0, none⟩) x17_4.length co53)) (rx HO_16.out) (Kd.R_typed HO_17.out) (by decide) hg); replace HO_98 := Aside0.mk (Kd.R_over' (v := (.slice (some ⟨go53, 0, none⟩) x17_4.length co53)) (rx HO_98.out) (Kd.R_typed HO_17.out) (by decide) hg); replace HO_17 := Aside0.mk (hp_); replace HB := Aside0.mk ((by rw [hw]; exact below_set (HB.out) GB53.out : Below w.heap.size w w55)); clear hg hw hp_))
                 go_roundg k4
                 case measure => have := HJ3.out; have := HJ9.out; have := HK3.out; have := HK4.out; omega
                 case rel => exact ⟨(y383), (wrap64 (x100_4 + 1)), (by rfl), H', ⟨by have := HJ3.out; have := HJ9.out; have := HK3.out; have := HK4.out; omega⟩, ⟨by exact HO_12.out⟩, ⟨by exact HO_16.out⟩, ⟨by exact HO_17.out⟩, ⟨by exact HO_98.out⟩, ⟨bh HB.out⟩⟩
              ·replace H := bd H
               obtain ⟨t384, A56, H⟩ := H
               replace H := ifb H
               rcases H with ⟨rfl, H⟩ | ⟨rfl, H⟩
               ·simp only [Option.some.injEq, Prod.mk.injEq] at H
                obtain ⟨rfl, rfl, rfl⟩ := H
                obtain ⟨Ao58, co58, eo58⟩ := Kd.R_slice HO_17.out
                subst eo58
                go_wp2_with (((with_reducible refine gate_callee (f := 41) rfl ?_); refine gL 116 Tryz.func41 #[.slice Ao58 x17_4.length co58, .bool false] ?_; (with_reducible refine (slices_Contains_bool_bool.calls k4 _ _ x17_4 false true _ ?side1 ?side2 A56.out).mono ?_); (case side1 => exact cx (Kd.R_reads' HO_17.out).2.2); (case side2 => exact (Kd.R_reads' HO_17.out).2.1); rintro e w' ⟨rfl, ⟨nd, rfl⟩⟩; refine ⟨_, rfl, ?_⟩))
                go_ret3
                exact ⟨_, _, er, nl, nl, bh HB.out⟩
               ·simp only [Option.some.injEq, Prod.mk.injEq] at H
                obtain ⟨rfl, rfl, rfl⟩ := H
                obtain ⟨Ao59, co59, eo59⟩ := Kd.R_slice HO_17.out
                subst eo59
                go_wp2_with (((with_reducible refine gate_callee (f := 41) rfl ?_); refine gL 116 Tryz.func41 #[.slice Ao59 x17_4.length co59, .bool false] ?_; (with_reducible refine (slices_Contains_bool_bool.calls k4 _ _ x17_4 false false _ ?side1 ?side2 A56.out).mono ?_); (case side1 => exact cx (Kd.R_reads' HO_17.out).2.2); (case side2 => exact (Kd.R_reads' HO_17.out).2.1); rintro e w' ⟨rfl, ⟨nd, rfl⟩⟩; refine ⟨_, rfl, ?_⟩))
                go_ret3
                exact ⟨_, _, er, by (with_reducible repeat (apply Kd.R_drewN)); exact HO_12.out, by (with_reducible repeat (apply Kd.R_drewN)); exact HO_16.out, bh HB.out⟩
           ·simp only [Option.some.injEq, Prod.mk.injEq] at H
            obtain ⟨rfl, rfl, rfl⟩ := H
            go_wp2
            replace HO_12 := Aside0.mk (Kd.R_drew HO_12.out)
            replace HB := Aside0.mk (below_drew1 HB.out)
            refine start_ (n := 14) (S := fun w' => True) (ds := []) #[false, false, false, false, false, false, false, false, false, false, false, false, false, false] (by kernel_rfl) rfl rfl trivial (fun hHeld => ?_); refine with_tabW dict_take_string_fn29.tab20 dict_take_string_fn29.bits20 (fun HT_ HW_ => ?_)
            generalize wr.drew = w60 at HO_12 HB hHeld ⊢
            refine puA HT_ 0 83 (bv 14 1) ?_
            refine puA HT_ 1 84 (bv 14 3) ?_
            refine puA HT_ 2 85 (bv 14 7) ?_
            refine puA HT_ 3 86 (bv 14 15) ?_
            refine puA HT_ 4 87 (bv 14 31) ?_
            refine puA HT_ 5 88 (bv 14 63) ?_
            refine one_ (i := 6) (N := some 89) #[true, true, true, true, true, true, true, false, false, false, false, false, false, false] rfl rfl (one_of HT_.out (by kernel_rfl)) (by decide) (fun K hK => ?_)
            refine Kd.R_lit_step (Kd.int .i64) _ 3 ?hg (N := 89) ?hd (xs := ([wrap64 (t359 - 1)] : List Int)) (inner := [.int .i64 (wrap64 (t359 - 1))]) (ok := fun _ => True) (okp := fun _ => True) ?hr ?hp (fun _ hk => hk) trivial (Below.refl _ _) (Nat.le_refl _) (by simp) ?_; (case hd => rfl); (case hg => rfl); (case hr => (go_simp; done)); (case hp => exact (Reps.one (show Kd.M (Kd.int .i64) _ _ _ (wrap64 (t359 - 1)) [.int .i64 (wrap64 (t359 - 1))] from rfl) (Reps.none _ _)))
            intro v372 w61 ho62 hb hg_ hnew_
            clear hg_ hnew_
            (rw [← Ny371.out] at ho62)
            replace HO_12 := rba HO_12 hb
            have HO373 := Aside0.mk (Kd.R_lower ho62 (below_size (bh HB.out)))
            replace HB := bsa HB hb
            clear hb ho62
            obtain ⟨Ao63, co63, eo63⟩ := Kd.R_slice HO373.out
            (subst eo63)
            refine hK.out _ _ trivial (fun hHeld => ?_)
            clear hK K
            refine norm_ (a' := ?_) ?_ ?_
            rotate_left
            ·show Act.put _ (some 89) _ = _
             simp only [Act.put, List.setIfInBounds_toArray, List.set_cons_zero, List.set_cons_succ, i64_w, i32_w]
             rfl
            refine one_ (i := 7) (N := some 90) #[true, true, true, true, true, true, true, true, false, false, false, false, false, false] rfl rfl (one_of HT_.out (by kernel_rfl)) (by decide) (fun K hK => ?_)
            refine goes_ Tryz.func40 (by kernel_rfl) rfl #[.slice Ao63 y371.length co63] (by rfl) rfl rfl (by (simp only [List.map_toArray, List.map_cons, List.map_nil]); rfl) ?_
            with_reducible refine (pack_Width.calls k3 _ _ y371 t374 _ ?side1 ?side2 A33.out).mono ?_
            (case side1 => exact cx (Kd.R_reads' HO373.out).2.2)
            (case side2 => exact (Kd.R_reads' HO373.out).2.1)
            rintro e w' ⟨rfl, ⟨nd, rfl⟩⟩
            refine ⟨_, rfl, ?_⟩
            refine hK.out _ _ trivial (fun hHeld => ?_)
            clear hK K
            refine norm_ (a' := ?_) ?_ ?_
            rotate_left
            ·show Act.put _ (some 90) _ = _
             simp only [Act.put, List.setIfInBounds_toArray, List.set_cons_zero, List.set_cons_succ, i64_w, i32_w]
             rfl
            refine one_ (i := 8) (N := some 91) #[true, true, true, true, true, true, true, true, true, false, false, false, false, false] rfl rfl (one_of HT_.out (by kernel_rfl)) (by decide) (fun K hK => ?_)
            refine goes_ Tryz.func39 (by kernel_rfl) rfl #[.string (a0.extract (x10_3 : Int).toNat a0.size), .int .i64 a1, .int .i64 t374] (by rfl) rfl rfl (by (simp only [List.map_toArray, List.map_cons, List.map_nil]); rfl) ?_
            with_reducible refine (pack_Take.calls k3 (a0.extract (x10_3 : Int).toNat a0.size) a1 t374 t375 t376 _ A34.out).mono ?_
            rintro e w64 ⟨v377, rfl, ho0, hb⟩
            refine ⟨_, rfl, ?_⟩
            replace HO_12 := rba HO_12 hb
            have HO378 := Aside0.mk (Kd.R_lower (Kd.R_new' ho0 (Kd.R_lt (rx HO373.out))) (below_size (bh HB.out)))
            replace HO373 := Aside0.mk (Kd.R_elder' (rx HO373.out) (Kd.R_base ho0) hb)
            replace HB := bsa HB hb
            clear hb ho0
            refine hK.out _ _ trivial (fun hHeld => ?_)
            clear hK K
            refine norm_ (a' := ?_) ?_ ?_
            rotate_left
            ·show Act.put _ (some 91) _ = _
             simp only [Act.put, List.setIfInBounds_toArray, List.set_cons_zero, List.set_cons_succ, i64_w, i32_w]
             rfl
            refine puA HT_ 9 82 (bv 14 1023) ?_
            refine puA HT_ 10 92 (bv 14 2047) ?_
            refine puA HT_ 11 93 (bv 14 4095) ?_
            refine puA HT_ 12 16 (bv 14 8191) ?_
            refine puA HT_ 13 11 (bv 14 16383) ?_
            refine done_ (done_of HT_.out (by kernel_rfl)) ?_
            go_wp2
            go_ret3
            exact ⟨_, _, er, nl, nl, bh HB.out⟩
end Go.Proofs.YtfohecpfenegkaaGreat.Print
end
section
namespace Go.Proofs.YtfohecpfenegkaaGreat.Print
open Go.RowKit Go.Proofs.YtfohecpfenegkaaGreatW.PrintWords Go.Proofs.YtfohecpfenegkaaGreatW.PrintLast Go.Proofs.YtfohecpfenegkaaGreatW.PrintMore
attribute [local go_sem] max2_int min2_int max_two min_two max_three min_three max_four min_four   -- for this text's walks alone
set_option linter.unusedVariables false
set_option linter.unusedSimpArgs false
/-! ### dict_Places: function 9 -/
def dict_Places.f (k : Nat) (a0 : ByteArray) (a1 : Int) : Option (List ByteArray × List Int × Int) := (dict_take_string_fn29.f k a0 a1).bind fun bt385 => (some (bt385.1, bt385.2.1, bt385.2.2))
set_option maxHeartbeats 8000000 in
set_option maxRecDepth 100000 in
theorem dict_Places.calls (k : Nat) (a0 : ByteArray) (a1 : Int) (r1 : List ByteArray) (r2 : List Int) (r3 : Int) (w : World) (h : dict_Places.f k a0 a1 = some (r1, r2, r3)) :
  Calls Tryz.prog 9 #[.string a0, .int .i64 a1] w fun e w' => ∃ v0_ v1_ : Value, e = .returned (.tuple #[v0_, v1_, .int .i64 r3]) ∧ Kd.R Kd.string 9 w' w.heap.size (fun _ => True) v0_ r1 ∧ Kd.R (Kd.int .i64) 3 w' w.heap.size (fun _ => True) v1_ r2 ∧ Below w.heap.size w w' := by
 have HB := Aside0.mk (Below.refl w.heap.size w)
 have H := h
 clear h
 unfold dict_Places.f at H
 replace H := bd H
 obtain ⟨⟨t385, t388, t391⟩, A3, H⟩ := H
 dsimp only at H
 simp only [Option.some.injEq, Prod.mk.injEq] at H
 obtain ⟨rfl, rfl, rfl⟩ := H
 go_enter Tryz.func9, Tryz.ntmps9
 go_wp2_with (((with_reducible refine gate_callee (f := 28) rfl ?_); refine gL 9 Tryz.func28 #[.string a0, .int .i64 a1, .func (.func 29) #[] #[]] ?_; (with_reducible refine (dict_take_string_fn29.calls k a0 a1  t385 t388 t391 _ A3.out).mono ?_); rintro e w4 ⟨v386, v389, rfl, ho0, ho1, hb⟩; refine ⟨_, rfl, ?_⟩; have HO387 := Aside0.mk (Kd.R_lower ho0 (below_size (bh HB.out))); have HO390 := Aside0.mk (Kd.R_lower ho1 (below_size (bh HB.out))); replace HB := bsa HB hb; clear hb ho0 ho1))
 go_ret3
 exact ⟨_, _, er, by exact HO387.out, by exact HO390.out, bh HB.out⟩
/-! ### dict_flat_string: function 25 -/
def dict_flat_string.l0 : Nat → List ByteArray → List ByteArray → List Int → Int → Int → Option (List ByteArray)
 | 0, _, _, _, _, _ => none
 | k + 1, x0, x5, x8, x9, x10 => if x10 < x9 then (if 0 ≤ x10 then (if x10 < (x8.length : Int) then (if 0 ≤ (rd x8 x10) then (if (rd x8 x10) < (x0.length : Int) then (if x5.length < 8796093022208 then (dict_flat_string.l0 k x0 (x5 ++ [rdOf ByteArray.empty x0 (rd x8 x10)]) x8 x9 (wrap64 (x10 + 1))) else (none)) else (none)) else (none)) else (none)) else (none)) else (some x5)
def dict_flat_string.f (k : Nat) (l0 : List ByteArray) (l1 : List Int) : Option (List ByteArray) := dict_flat_string.l0 k l0 ([] : List ByteArray) l1 (l1.length : Int) 0
theorem dict_flat_string.l0_succ (k) (a0) (a1) (a2) (a3) (a4) : type_of% (@dict_flat_string.l0.eq_2 a0 a1 a2 a3 a4 k) := dict_flat_string.l0.eq_2 a0 a1 a2 a3 a4 k
set_option maxHeartbeats 8000000 in
set_option maxRecDepth 100000 in
theorem dict_flat_string.calls (k : Nat) (A0 : Option Addr) (c0 : Nat) (l0 : List ByteArray) (A1 : Option Addr) (c1 : Nat) (l1 : List Int) (r : List ByteArray) (w : World) (hr0 : Kd.C Kd.string w A0 l0.length l0) (hc0 : l0.length ≤ c0) (hr1 : Kd.C (Kd.int .i64) w A1 l1.length l1) (hc1 : l1.length ≤ c1) (h : dict_flat_string.f k l0 l1 = some r) :
  Calls Tryz.prog 25 #[.slice A0 l0.length c0, .slice A1 l1.length c1] w fun e w' => ∃ v0_ : Value, e = .returned (v0_) ∧ Kd.R Kd.string 9 w' w.heap.size (fun _ => True) v0_ r ∧ Below w.heap.size w w' := by
 have HR0 := Aside0.mk hr0
 have HC0 := Aside0.mk hc0
 clear hr0 hc0
 have HR1 := Aside0.mk hr1
 have HC1 := Aside0.mk hc1
 clear hr1 hc1
 have HB := Aside0.mk (Below.refl w.heap.size w)
 have H := h
 clear h
 unfold dict_flat_string.f at H
 have H' := Aside0.mk H
 clear H
 go_enter Tryz.func25, Tryz.ntmps25
 go_wp2
 go_loopg [5, 10] k (fun kq v5 v10 w' => ∃ (x5_1 : List ByteArray) (x10_1 : Int), v10 = .int .i64 x10_1 ∧ Aside0 (dict_flat_string.l0 kq l0 x5_1 l1 (l1.length : Int) x10_1 = some r) ∧ Aside0 (kq ≤ k) ∧ Aside0 (Kd.R Kd.string 9 w' w.heap.size (fun _ => True) v5 x5_1) ∧ Aside0 (Below w.heap.size w w'))
 case atStart => exact ⟨(([] : List ByteArray)), (0), (by rfl), H', ⟨Nat.le_refl _⟩, ⟨nl⟩, ⟨bh HB.out⟩⟩
 case round =>
  clear H'
  obtain ⟨x5_1, x10_1, rfl, HA, HK1, HO_5, HB⟩ := hrel
  cases gk with
  | zero => exact absurd HA.out (by simp [dict_flat_string.l0])
  | succ k1 =>
   have H := HA.out
   clear HA
   simp only [dict_flat_string.l0] at H
   replace H := ifd H
   rcases H with ⟨-, c3b0, H⟩ | ⟨-, c3b0, H⟩
   ·replace H := ifn H
    obtain ⟨-, c4b0, H⟩ := H
    replace H := ifn H
    obtain ⟨-, c5b0, H⟩ := H
    replace H := ifn H
    obtain ⟨-, c6b0, H⟩ := H
    replace H := ifn H
    obtain ⟨-, c7b0, H⟩ := H
    replace H := ifn H
    obtain ⟨c8, -, H⟩ := H
    have LMc8 := Aside0.mk c8
    clear c8
    obtain ⟨y394, hy394⟩ : ∃ y_ : List ByteArray, y_ = (x5_1 ++ [rdOf ByteArray.empty l0 (rd l1 x10_1)]) := ⟨_, rfl⟩
    replace H : (dict_flat_string.l0 k1 l0 y394 l1 (l1.length : Int) (wrap64 (x10_1 + 1))) = some r := by (rw [hy394]; with_reducible exact H)
    have Ny394 := Aside0.mk hy394
    clear hy394
    have H' := Aside0.mk H
    clear H
    have p392 : 0 ≤ (x10_1 : Int) := ad
    have q392 : x10_1 < (l1.length : Int) := ad
    obtain ⟨ad392, e392, hx392_0⟩ := Kd.at_int HR1.out x10_1 p392 q392
    cases e392
    replace hx392_0 := cb HB.out.cell hx392_0
    replace p392 := eq_true p392
    replace q392 := eq_true q392
    have p393 : 0 ≤ ((rd l1 x10_1) : Int) := ad
    have q393 : (rd l1 x10_1) < (l0.length : Int) := ad
    obtain ⟨ad393, e393, hx393_0⟩ := Kd.at_string HR0.out (rd l1 x10_1) p393 q393
    cases e393
    replace hx393_0 := cb HB.out.cell hx393_0
    replace p393 := eq_true p393
    replace q393 := eq_true q393
    go_wp2_with (((with_reducible refine gate_builtin (b := .append) (xs := #[.tmp 14, .tmp 19]) rfl ?_); at_builtin; refine Kd.R_append Kd.string (w0 := w) w.heap.size rfl (.tmp 14) (.tmp 19) 27 9 (.string ⟨#[]⟩) 16 rfl Tryz.underlying27 info9 rfl (by decide) (by omega) u5 x5_1 (rdOf ByteArray.empty l0 (rd l1 x10_1)) [.string (rdOf ByteArray.empty l0 (rd l1 x10_1))] (fun _ => True) (fun _ => False) rfl rfl ?aP (fun _ hk => hk.elim) ?aF ?aO ?aB ?aS ?aL ?_; (case aP => exact rfl); (case aB => exact (bh HB.out)); (case aF => exact (fun _ _ => trivial)); (case aO => exact (rx HO_5.out)); (case aS => exact (below_size (bh HB.out))); (case aL => have := LMc8.out; omega); intro v395 w9 ho hb hg hat; rw [← Ny394.out] at ho; have n0_ := Aside0.mk (hb); have n1_ := Aside0.mk (ho); clear HB HO_5; have HB := n0_; have HO396 := n1_; clear n0_ n1_ ho hb hg hat))
    go_roundg k1
    case measure => have := HK1.out; omega
    case rel => exact ⟨(y394), (wrap64 (x10_1 + 1)), (by rfl), H', ⟨by have := HK1.out; omega⟩, ⟨by exact HO396.out⟩, ⟨bh HB.out⟩⟩
   ·obtain rfl := Option.some.inj H
    go_wp2
    go_ret
    exact ⟨_, er, by exact HO_5.out, bh HB.out⟩
/-! ### dict_TakeTexts: function 7 -/
def dict_TakeTexts.f (k : Nat) (a0 : ByteArray) (a1 : Int) : Option (List ByteArray × Int) := (dict_Places.f k a0 a1).bind fun bt397 => (if bt397.2.2 = 0 then ((dict_flat_string.f k bt397.1 bt397.2.1).bind fun t404 => (some (t404, 0))) else (some (([] : List ByteArray), bt397.2.2)))
set_option maxHeartbeats 8000000 in
set_option maxRecDepth 100000 in
theorem dict_TakeTexts.calls (k : Nat) (a0 : ByteArray) (a1 : Int) (r1 : List ByteArray) (r2 : Int) (w : World) (h : dict_TakeTexts.f k a0 a1 = some (r1, r2)) :
  Calls Tryz.prog 7 #[.string a0, .int .i64 a1] w fun e w' => ∃ v0_ : Value, e = .returned (.tuple #[v0_, .int .i64 r2]) ∧ Kd.R Kd.string 9 w' w.heap.size (fun _ => True) v0_ r1 ∧ Below w.heap.size w w' := by
 have HB := Aside0.mk (Below.refl w.heap.size w)
 have H := h
 clear h
 unfold dict_TakeTexts.f at H
 replace H := bd H
 obtain ⟨⟨t397, t398, t399⟩, A3, H⟩ := H
 dsimp only at H
 replace H := ife H
 rcases H with ⟨-, c4b0, c4b1, H⟩ | ⟨c4, c4b0, c4b1, H⟩
 ·replace H := bd H
  obtain ⟨t404, A5, H⟩ := H
  simp only [Option.some.injEq, Prod.mk.injEq] at H
  obtain ⟨rfl, rfl⟩ := H
  go_enter Tryz.func7, Tryz.ntmps7
  go_wp2_with (first | ((with_reducible refine gate_callee (f := 9) rfl ?_); refine gL 12 Tryz.func9 #[.string a0, .int .i64 a1] ?_; (with_reducible refine (dict_Places.calls k a0 a1 t397 t398 t399 _ A3.out).mono ?_); rintro e w6 ⟨v400, v402, rfl, ho0, ho1, hb⟩; refine ⟨_, rfl, ?_⟩; have HO401 := Aside0.mk (Kd.R_lower ho0 (below_size (bh HB.out))); have HO403 := Aside0.mk (Kd.R_lower ho1 (below_size (bh HB.out))); replace HB := bsa HB hb; clear hb ho0 ho1; obtain ⟨Ao7, co7, eo7⟩ := Kd.R_slice HO401.out; subst eo7; obtain ⟨Ao8, co8, eo8⟩ := Kd.R_slice HO403.out; subst eo8) | ((with_reducible refine gate_callee (f := 25) rfl ?_); refine gL 21 Tryz.func25 #[.slice Ao7 t397.length co7, .slice Ao8 t398.length co8] ?_; (with_reducible refine (dict_flat_string.calls k _ _ t397 _ _ t398 t404 _ ?side1 ?side2 ?side3 ?side4 A5.out).mono ?_); (case side1 => exact cx (Kd.R_reads' HO401.out).2.2); (case side2 => exact (Kd.R_reads' HO401.out).2.1); (case side3 => exact cx (Kd.R_reads' HO403.out).2.2); (case side4 => exact (Kd.R_reads' HO403.out).2.1); rintro e w9 ⟨v405, rfl, ho0, hb⟩; refine ⟨_, rfl, ?_⟩; replace HO403 := rba HO403 hb; have HO406 := Aside0.mk (Kd.R_lower (Kd.R_new' ho0 (Kd.R_lt (rx HO401.out))) (below_size (bh HB.out))); replace HO401 := Aside0.mk (Kd.R_elder' (rx HO401.out) (Kd.R_base ho0) hb); replace HB := bsa HB hb; clear hb ho0))
  go_ret2
  exact ⟨_, er, by exact Kd.R_mono HO406.out (fun _ hk => trivial), bh HB.out⟩
 ·simp only [Option.some.injEq, Prod.mk.injEq] at H
  obtain ⟨rfl, rfl⟩ := H
  go_enter Tryz.func7, Tryz.ntmps7
  go_wp2_with (((with_reducible refine gate_callee (f := 9) rfl ?_); refine gL 12 Tryz.func9 #[.string a0, .int .i64 a1] ?_; (with_reducible refine (dict_Places.calls k a0 a1 t397 t398 t399 _ A3.out).mono ?_); rintro e w10 ⟨v400, v402, rfl, ho0, ho1, hb⟩; refine ⟨_, rfl, ?_⟩; have HO401 := Aside0.mk (Kd.R_lower ho0 (below_size (bh HB.out))); have HO403 := Aside0.mk (Kd.R_lower ho1 (below_size (bh HB.out))); replace HB := bsa HB hb; clear hb ho0 ho1))
  go_ret2
  exact ⟨_, er, nl, bh HB.out⟩
/-! ### peristyleref11_texts: function 26 -/
def peristyleref11_texts.l0 : Nat → ByteArray → Int → List ByteArray → Int → Int → Option (List ByteArray × Int × Bool)
 | 0, _, _, _, _, _ => none
 | k + 1, x0, x1, x7, x8, x9 => if x9 < x1 then (if x8 ≥ (x0.size : Int) then (some (([] : List ByteArray), 0, false)) else (if 0 ≤ x8 then (if x8 < (x0.size : Int) then (if (bt x0 x8) > 32 then (some (([] : List ByteArray), 0, false)) else (if (wrap64 ((wrap64 ((x0.size : Int) - x8)) - 1)) < (wrap64 (bt x0 x8)) then (some (([] : List ByteArray), 0, false)) else (if 0 ≤ (wrap64 (x8 + 1)) then (if (wrap64 (x8 + 1)) ≤ (wrap64 ((wrap64 (x8 + 1)) + (wrap64 (bt x0 x8)))) then (if (wrap64 ((wrap64 (x8 + 1)) + (wrap64 (bt x0 x8)))) ≤ (x0.size : Int) then (if x7.length < 8796093022208 then (peristyleref11_texts.l0 k x0 x1 (x7 ++ [x0.extract ((wrap64 (x8 + 1)) : Int).toNat ((wrap64 ((wrap64 (x8 + 1)) + (wrap64 (bt x0 x8)))) : Int).toNat]) (wrap64 ((wrap64 (x8 + 1)) + (wrap64 (bt x0 x8)))) (wrap64 (x9 + 1))) else (none)) else (none)) else (none)) else (none)))) else (none)) else (none))) else (some (x7, x8, true))
def peristyleref11_texts.f (k : Nat) (a0 : ByteArray) (a1 : Int) : Option (List ByteArray × Int × Bool) := peristyleref11_texts.l0 k a0 a1 ([] : List ByteArray) 0 0
theorem peristyleref11_texts.l0_succ (k) (a0) (a1) (a2) (a3) (a4) : type_of% (@peristyleref11_texts.l0.eq_2 a0 a1 a2 a3 a4 k) := peristyleref11_texts.l0.eq_2 a0 a1 a2 a3 a4 k
set_option maxHeartbeats 8000000 in
set_option maxRecDepth 100000 in
theorem peristyleref11_texts.calls (k : Nat) (a0 : ByteArray) (a1 : Int) (r1 : List ByteArray) (r2 : Int) (r3 : Bool) (w : World) (h : peristyleref11_texts.f k a0 a1 = some (r1, r2, r3)) :
  Calls Tryz.prog 26 #[.string a0, .int .i64 a1] w fun e w' => ∃ v0_ : Value, e = .returned (.tuple #[v0_, .int .i64 r2, .bool r3]) ∧ Kd.R Kd.string 9 w' w.heap.size (fun _ => True) v0_ r1 ∧ Below w.heap.size w w' := by
 have HB := Aside0.mk (Below.refl w.heap.size w)
 have H := h
 clear h
 unfold peristyleref11_texts.f at H
 have H' := Aside0.mk H
 clear H
 go_enter Tryz.func26, Tryz.ntmps26
 go_wp2
 go_loopg [7, 8, 9] k (fun kq v7 v8 v9 w' => ∃ (x7_1 : List ByteArray) (x8_1 : Int) (x9_1 : Int), v8 = .int .i64 x8_1 ∧ v9 = .int .i64 x9_1 ∧ Aside0 (peristyleref11_texts.l0 kq a0 a1 x7_1 x8_1 x9_1 = some (r1, r2, r3)) ∧ Aside0 (kq ≤ k) ∧ Aside0 (Kd.R Kd.string 9 w' w.heap.size (fun _ => True) v7 x7_1) ∧ Aside0 (Below w.heap.size w w'))
 case atStart => exact ⟨(([] : List ByteArray)), (0), (0), (by rfl), (by rfl), H', ⟨Nat.le_refl _⟩, ⟨nl⟩, ⟨bh HB.out⟩⟩
 case round =>
  clear H'
  obtain ⟨x7_1, x8_1, x9_1, rfl, rfl, HA, HK1, HO_7, HB⟩ := hrel
  cases gk with
  | zero => exact absurd HA.out (by simp [peristyleref11_texts.l0])
  | succ k1 =>
   have H := HA.out
   clear HA
   simp only [peristyleref11_texts.l0] at H
   replace H := ifd H
   rcases H with ⟨-, c3b0, H⟩ | ⟨-, c3b0, H⟩
   ·replace H := ifd H
    rcases H with ⟨-, c4b0, H⟩ | ⟨-, c4b0, H⟩
    ·simp only [Option.some.injEq, Prod.mk.injEq] at H
     obtain ⟨rfl, rfl, rfl⟩ := H
     go_wp2
     go_ret3
     exact ⟨_, er, nl, bh HB.out⟩
    ·replace H := ifn H
     obtain ⟨-, c5b0, H⟩ := H
     replace H := ifn H
     obtain ⟨-, c6b0, H⟩ := H
     replace H := ifd H
     rcases H with ⟨-, c8b0, H⟩ | ⟨-, c8b0, H⟩
     ·simp only [Option.some.injEq, Prod.mk.injEq] at H
      obtain ⟨rfl, rfl, rfl⟩ := H
      have p7 : 0 ≤ (x8_1 : Int) := ad
      have q7 : x8_1 < (a0.size : Int) := ad
      have hx7 := bt_at a0 x8_1
      replace p7 := eq_true p7
      replace q7 := eq_true q7
      go_wp2
      go_ret3
      exact ⟨_, er, nl, bh HB.out⟩
     ·replace H := ifd H
      rcases H with ⟨-, c10b0, H⟩ | ⟨-, c10b0, H⟩
      ·simp only [Option.some.injEq, Prod.mk.injEq] at H
       obtain ⟨rfl, rfl, rfl⟩ := H
       have p7 : 0 ≤ (x8_1 : Int) := ad
       have q7 : x8_1 < (a0.size : Int) := ad
       have hx7 := bt_at a0 x8_1
       replace p7 := eq_true p7
       replace q7 := eq_true q7
       have p9 : 0 ≤ (x8_1 : Int) := ad
       have q9 : x8_1 < (a0.size : Int) := ad
       have hx9 := bt_at a0 x8_1
       replace p9 := eq_true p9
       replace q9 := eq_true q9
       go_wp2
       go_ret3
       exact ⟨_, er, nl, bh HB.out⟩
      ·obtain ⟨ji12, hji12⟩ : ∃ j_ : Int, (wrap64 (x8_1 + 1)) = j_ := ⟨_, rfl⟩
       replace H : (if 0 ≤ (ji12) then (if (ji12) ≤ (wrap64 ((ji12) + (wrap64 (bt a0 x8_1)))) then (if (wrap64 ((ji12) + (wrap64 (bt a0 x8_1)))) ≤ (a0.size : Int) then (if x7_1.length < 8796093022208 then (peristyleref11_texts.l0 k1 a0 a1 (x7_1 ++ [a0.extract ((ji12) : Int).toNat ((wrap64 ((ji12) + (wrap64 (bt a0 x8_1)))) : Int).toNat]) (wrap64 ((ji12) + (wrap64 (bt a0 x8_1)))) (wrap64 (x9_1 + 1))) else (none)) else (none)) else (none)) else (none)) = some (r1, r2, r3) := by (rw [hji12] at H; exact H)
       have hji12w : (IntKind.i64.wrap (x8_1 + 1)) = ji12 := (i64_w _).trans hji12
       replace H := ifn H
       obtain ⟨c13, -, H⟩ := H
       have c13b0 := eq_true c13
       have c13b1 : decide (0 ≤ (ji12)) = true := decide_eq_true c13
       clear c13
       replace H := ifn H
       obtain ⟨c14, -, H⟩ := H
       have c14b0 := eq_true c14
       have c14b1 : decide ((ji12) ≤ (wrap64 ((ji12) + (wrap64 (bt a0 x8_1))))) = true := decide_eq_true c14
       replace H := ifn H
       obtain ⟨c15, -, H⟩ := H
       have c15b0 := eq_true c15
       have c15b1 : decide ((wrap64 ((ji12) + (wrap64 (bt a0 x8_1)))) ≤ (a0.size : Int)) = true := decide_eq_true c15
       replace H := ifn H
       obtain ⟨c16, -, H⟩ := H
       have LMc16 := Aside0.mk c16
       clear c16
       obtain ⟨y407, hy407⟩ : ∃ y_ : List ByteArray, y_ = (x7_1 ++ [a0.extract ((ji12) : Int).toNat ((wrap64 ((ji12) + (wrap64 (bt a0 x8_1)))) : Int).toNat]) := ⟨_, rfl⟩
       replace H : (peristyleref11_texts.l0 k1 a0 a1 y407 (wrap64 ((ji12) + (wrap64 (bt a0 x8_1)))) (wrap64 (x9_1 + 1))) = some (r1, r2, r3) := by (rw [hy407]; with_reducible exact H)
       have Ny407 := Aside0.mk hy407
       clear hy407
       have H' := Aside0.mk H
       clear H
       have p7 : 0 ≤ (x8_1 : Int) := ad
       have q7 : x8_1 < (a0.size : Int) := ad
       have hx7 := bt_at a0 x8_1
       replace p7 := eq_true p7
       replace q7 := eq_true q7
       have p9 : 0 ≤ (x8_1 : Int) := ad
       have q9 : x8_1 < (a0.size : Int) := ad
       have hx9 := bt_at a0 x8_1
       replace p9 := eq_true p9
       replace q9 := eq_true q9
       have p11 : 0 ≤ (x8_1 : Int) := ad
       have q11 : x8_1 < (a0.size : Int) := ad
       have hx11 := bt_at a0 x8_1
       replace p11 := eq_true p11
       replace q11 := eq_true q11
       go_wp2_with (((with_reducible refine gate_builtin (b := .append) (xs := #[.tmp 45, .tmp 51]) rfl ?_); ((refine gate_guard (by rfl) ?_; dsimp only)); at_builtin; refine Kd.R_append Kd.string (w0 := w) w.heap.size rfl (.tmp 45) (.tmp 51) 27 9 (.string ⟨#[]⟩) 16 rfl Tryz.underlying27 info9 rfl (by decide) (by omega) u7 x7_1 (a0.extract ((ji12) : Int).toNat ((wrap64 ((ji12) + (wrap64 (bt a0 x8_1)))) : Int).toNat) [.string (a0.extract ((ji12) : Int).toNat ((wrap64 ((ji12) + (wrap64 (bt a0 x8_1)))) : Int).toNat)] (fun _ => True) (fun _ => False) rfl rfl ?aP (fun _ hk => hk.elim) ?aF ?aO ?aB ?aS ?aL ?_; (case aP => exact rfl); (case aB => exact (bh HB.out)); (case aF => exact (fun _ _ => trivial)); (case aO => exact (rx HO_7.out)); (case aS => exact (below_size (bh HB.out))); (case aL => have := LMc16.out; omega); intro v408 w17 ho hb hg hat; rw [← Ny407.out] at ho; have n0_ := Aside0.mk (hb); have n1_ := Aside0.mk (ho); clear HB HO_7; have HB := n0_; have HO409 := n1_; clear n0_ n1_ ho hb hg hat))
       go_roundg k1
       case measure => have := HK1.out; omega
       case rel => exact ⟨(y407), (wrap64 ((ji12) + (wrap64 (bt a0 x8_1)))), (wrap64 (x9_1 + 1)), (by rfl), (by rfl), (by exact H'), ⟨by have := HK1.out; omega⟩, ⟨by exact HO409.out⟩, ⟨bh HB.out⟩⟩
   ·simp only [Option.some.injEq, Prod.mk.injEq] at H
    obtain ⟨rfl, rfl, rfl⟩ := H
    go_wp2
    go_ret3
    exact ⟨_, er, by exact HO_7.out, bh HB.out⟩
end Go.Proofs.YtfohecpfenegkaaGreat.Print
end
section
namespace Go.Proofs.YtfohecpfenegkaaGreat.Print
open Go.RowKit Go.Proofs.YtfohecpfenegkaaGreatW.PrintWords Go.Proofs.YtfohecpfenegkaaGreatW.PrintLast Go.Proofs.YtfohecpfenegkaaGreatW.PrintMore
attribute [local go_sem] max2_int min2_int max_two min_two max_three min_three max_four min_four   -- for this text's walks alone
set_option linter.unusedVariables false
set_option linter.unusedSimpArgs false
/-! ### peristyleref11_Texts: function 30 -/
mutual
def peristyleref11_Texts.l0 : Nat → List ByteArray → List ByteArray → Int → Option (List ByteArray × List Int)
 | 0, _, _, _ => none
 | k + 1, x0, x4, x6 => if x6 < (x0.length : Int) then (peristyleref11_Texts.l1 k x0 x4 x6 0) else (peristyleref11_Texts.l2 k x0 x4 ([] : List Int) 0)
def peristyleref11_Texts.l1 : Nat → List ByteArray → List ByteArray → Int → Int → Option (List ByteArray × List Int)
 | 0, _, _, _, _ => none
 | k + 1, x0, x4, x6, x7 => if x7 < (x4.length : Int) then (if 0 ≤ x7 then (if 0 ≤ x6 then (if x6 < (x0.length : Int) then (if (Op.bytesLess ((rdOf ByteArray.empty x4 x7).toList) ((rdOf ByteArray.empty x0 x6).toList)) = true then (peristyleref11_Texts.l1 k x0 x4 x6 (wrap64 (x7 + 1))) else (if (rdOf ByteArray.empty x4 x7).toList = (rdOf ByteArray.empty x0 x6).toList then (peristyleref11_Texts.l0 k x0 x4 (wrap64 (x6 + 1))) else (if x7 ≤ (x4.length : Int) then ((some (x4.take (x7 : Int).toNat : List ByteArray)).bind fun y414 => (if ([] : List ByteArray).length + y414.length < 8796093022208 then ((some (([] : List ByteArray) ++ y414 : List ByteArray)).bind fun y418 => (if y418.length < 8796093022208 then ((some (y418 ++ [rdOf ByteArray.empty x0 x6] : List ByteArray)).bind fun y422 => ((some (x4.drop (x7 : Int).toNat : List ByteArray)).bind fun y425 => (if y422.length + y425.length < 8796093022208 then (peristyleref11_Texts.l0 k x0 (y422 ++ y425) (wrap64 (x6 + 1))) else (none)))) else (none))) else (none))) else (none)))) else (none)) else (none)) else (none)) else (if 0 ≤ x7 then (if x7 ≤ (x4.length : Int) then ((some (x4.take (x7 : Int).toNat : List ByteArray)).bind fun y432 => (if ([] : List ByteArray).length + y432.length < 8796093022208 then ((some (([] : List ByteArray) ++ y432 : List ByteArray)).bind fun y436 => (if 0 ≤ x6 then (if x6 < (x0.length : Int) then (if y436.length < 8796093022208 then ((some (y436 ++ [rdOf ByteArray.empty x0 x6] : List ByteArray)).bind fun y440 => ((some (x4.drop (x7 : Int).toNat : List ByteArray)).bind fun y443 => (if y440.length + y443.length < 8796093022208 then (peristyleref11_Texts.l0 k x0 (y440 ++ y443) (wrap64 (x6 + 1))) else (none)))) else (none)) else (none)) else (none))) else (none))) else (none)) else (none))
def peristyleref11_Texts.l2 : Nat → List ByteArray → List ByteArray → List Int → Int → Option (List ByteArray × List Int)
 | 0, _, _, _, _ => none
 | k + 1, x0, x4, x5, x9 => if x9 < (x0.length : Int) then (peristyleref11_Texts.l3 k x0 x4 x5 x9 0) else (some (x4, x5))
def peristyleref11_Texts.l3 : Nat → List ByteArray → List ByteArray → List Int → Int → Int → Option (List ByteArray × List Int)
 | 0, _, _, _, _, _ => none
 | k + 1, x0, x4, x5, x9, x10 => if 0 ≤ x10 then (if x10 < (x4.length : Int) then (if 0 ≤ x9 then (if x9 < (x0.length : Int) then (if (rdOf ByteArray.empty x4 x10).toList = (rdOf ByteArray.empty x0 x9).toList then (if x5.length < 17592186044416 then (peristyleref11_Texts.l2 k x0 x4 (x5 ++ [x10]) (wrap64 (x9 + 1))) else (none)) else (peristyleref11_Texts.l3 k x0 x4 x5 x9 (wrap64 (x10 + 1)))) else (none)) else (none)) else (none)) else (none)
end
def peristyleref11_Texts.f (k : Nat) (l0 : List ByteArray) : Option (List ByteArray × List Int) := peristyleref11_Texts.l0 k l0 ([] : List ByteArray) 0
theorem peristyleref11_Texts.l0_succ (k) (a0) (a1) (a2) : type_of% (@peristyleref11_Texts.l0.eq_2 a0 a1 a2 k) := peristyleref11_Texts.l0.eq_2 a0 a1 a2 k
theorem peristyleref11_Texts.l1_succ (k) (a0) (a1) (a2) (a3) : type_of% (@peristyleref11_Texts.l1.eq_2 a0 a1 a2 a3 k) := peristyleref11_Texts.l1.eq_2 a0 a1 a2 a3 k
theorem peristyleref11_Texts.l2_succ (k) (a0) (a1) (a2) (a3) : type_of% (@peristyleref11_Texts.l2.eq_2 a0 a1 a2 a3 k) := peristyleref11_Texts.l2.eq_2 a0 a1 a2 a3 k
theorem peristyleref11_Texts.l3_succ (k) (a0) (a1) (a2) (a3) (a4) : type_of% (@peristyleref11_Texts.l3.eq_2 a0 a1 a2 a3 a4 k) := peristyleref11_Texts.l3.eq_2 a0 a1 a2 a3 a4 k
set_option maxHeartbeats 8000000 in
set_option maxRecDepth 100000 in
theorem peristyleref11_Texts.calls (k : Nat) (A0 : Option Addr) (c0 : Nat) (l0 : List ByteArray) (r1 : List ByteArray) (r2 : List Int) (w : World) (hr0 : Kd.C Kd.string w A0 l0.length l0) (hc0 : l0.length ≤ c0) (h : peristyleref11_Texts.f k l0 = some (r1, r2)) :
  Calls Tryz.prog 30 #[.slice A0 l0.length c0] w fun e w' => ∃ v0_ v1_ : Value, e = .returned (.tuple #[v0_, v1_]) ∧ Kd.R Kd.string 9 w' w.heap.size (fun _ => True) v0_ r1 ∧ Kd.R (Kd.int .i64) 3 w' w.heap.size (fun _ => True) v1_ r2 ∧ Below w.heap.size w w' := by
 have HR0 := Aside0.mk hr0
 have HC0 := Aside0.mk hc0
 clear hr0 hc0
 have HB := Aside0.mk (Below.refl w.heap.size w)
 have H := h
 clear h
 unfold peristyleref11_Texts.f at H
 have H' := Aside0.mk H
 clear H
 go_enter Tryz.func30, Tryz.ntmps30
 go_wp2
 repeat (go_quiet (fail))
 go_loopg [4, 6] k (fun kq v4 v6 w' => ∃ (x4_1 : List ByteArray) (x6_1 : Int), v6 = .int .i64 x6_1 ∧ Aside0 (peristyleref11_Texts.l0 kq l0 x4_1 x6_1 = some (r1, r2)) ∧ Aside0 (kq ≤ k) ∧ Aside0 (Kd.R Kd.string 9 w' w.heap.size (fun _ => True) v4 x4_1) ∧ Aside0 (Below w.heap.size w w'))
 case atStart => exact ⟨(([] : List ByteArray)), (0), (by rfl), H', ⟨Nat.le_refl _⟩, ⟨nl⟩, ⟨bh HB.out⟩⟩
 case round =>
  clear H'
  obtain ⟨x4_1, x6_1, rfl, HA, HK1, HO_4, HB⟩ := hrel
  cases gk with
  | zero => exact absurd HA.out (by simp [peristyleref11_Texts.l0])
  | succ k1 =>
   have H := HA.out
   clear HA
   simp only [peristyleref11_Texts.l0] at H
   replace H := ifd H
   rcases H with ⟨-, c2b0, H⟩ | ⟨-, c2b0, H⟩
   ·have H' := Aside0.mk H
    clear H
    go_wp2
    repeat (go_quiet (fail))
    go_loopg [7] k1 (fun kq v7 w' => ∃ (x7_2 : Int), v7 = .int .i64 x7_2 ∧ Aside0 (peristyleref11_Texts.l1 kq l0 x4_1 x6_1 x7_2 = some (r1, r2)) ∧ Aside0 (kq ≤ k1) ∧ Aside0 (Kd.R Kd.string 9 w' w.heap.size (fun _ => True) u4 x4_1) ∧ Aside0 (Below w.heap.size w w'))
    case atStart => exact ⟨(0), (by rfl), H', ⟨Nat.le_refl _⟩, ⟨by exact HO_4.out⟩, ⟨bh HB.out⟩⟩
    case round =>
     clear H' c2b0
     obtain ⟨x7_2, rfl, HA, HK2, HO_4, HB⟩ := hrel
     cases gk with
     | zero => exact absurd HA.out (by simp [peristyleref11_Texts.l1])
     | succ k2 =>
      have H := HA.out
      clear HA
      simp only [peristyleref11_Texts.l1] at H
      replace H := ifd H
      rcases H with ⟨-, c3b0, H⟩ | ⟨-, c3b0, H⟩
      ·replace H := ifn H
       obtain ⟨-, c4b0, H⟩ := H
       replace H := ifn H
       obtain ⟨-, c5b0, H⟩ := H
       replace H := ifn H
       obtain ⟨-, c6b0, H⟩ := H
       replace H := ifd H
       rcases H with ⟨c7, -, H⟩ | ⟨c7, -, H⟩
       ·have c7b0 : (Op.bytesLess ((rdOf ByteArray.empty x4_1 x7_2).toList) ((rdOf ByteArray.empty l0 x6_1).toList)) = true := c7
        clear c7
        have H' := Aside0.mk H
        clear H
        obtain ⟨Ao8, co8, eo8⟩ := Kd.R_slice HO_4.out
        subst eo8
        have p410 : 0 ≤ (x7_2 : Int) := ad
        have q410 : x7_2 < (x4_1.length : Int) := ad
        obtain ⟨ad410, e410, hx410_0⟩ := Kd.at_string (Kd.R_reads' HO_4.out).2.2 x7_2 p410 q410
        cases e410
        replace p410 := eq_true p410
        replace q410 := eq_true q410
        have p411 : 0 ≤ (x6_1 : Int) := ad
        have q411 : x6_1 < (l0.length : Int) := ad
        obtain ⟨ad411, e411, hx411_0⟩ := Kd.at_string HR0.out x6_1 p411 q411
        cases e411
        replace hx411_0 := cb HB.out.cell hx411_0
        replace p411 := eq_true p411
        replace q411 := eq_true q411
        go_wp2
        repeat (go_quiet (fail); go_wp2)
        go_roundg k2
        case measure => have := HK1.out; have := HK2.out; omega
        case rel => exact ⟨(wrap64 (x7_2 + 1)), (by rfl), H', ⟨by have := HK1.out; have := HK2.out; omega⟩, ⟨by (with_reducible repeat (apply Kd.R_drewN)); exact HO_4.out⟩, ⟨bh HB.out⟩⟩
       ·have c7b0 : (Op.bytesLess ((rdOf ByteArray.empty x4_1 x7_2).toList) ((rdOf ByteArray.empty l0 x6_1).toList)) = false := by simpa using c7
        clear c7
        replace H := ife H
        rcases H with ⟨-, c9b0, c9b1, H⟩ | ⟨c9, c9b0, c9b1, H⟩
        ·have H' := Aside0.mk H
         clear H
         obtain ⟨Ao10, co10, eo10⟩ := Kd.R_slice HO_4.out
         subst eo10
         have p410 : 0 ≤ (x7_2 : Int) := ad
         have q410 : x7_2 < (x4_1.length : Int) := ad
         obtain ⟨ad410, e410, hx410_0⟩ := Kd.at_string (Kd.R_reads' HO_4.out).2.2 x7_2 p410 q410
         cases e410
         replace p410 := eq_true p410
         replace q410 := eq_true q410
         have p411 : 0 ≤ (x6_1 : Int) := ad
         have q411 : x6_1 < (l0.length : Int) := ad
         obtain ⟨ad411, e411, hx411_0⟩ := Kd.at_string HR0.out x6_1 p411 q411
         cases e411
         replace hx411_0 := cb HB.out.cell hx411_0
         replace p411 := eq_true p411
         replace q411 := eq_true q411
         have p412 : 0 ≤ (x7_2 : Int) := ad
         have q412 : x7_2 < (x4_1.length : Int) := ad
         obtain ⟨ad412, e412, hx412_0⟩ := Kd.at_string (Kd.R_reads' HO_4.out).2.2 x7_2 p412 q412
         obtain rfl : ad410 = ad412 := (by injection e412)
         replace p412 := eq_true p412
         replace q412 := eq_true q412
         have p413 : 0 ≤ (x6_1 : Int) := ad
         have q413 : x6_1 < (l0.length : Int) := ad
         obtain ⟨ad413, e413, hx413_0⟩ := Kd.at_string HR0.out x6_1 p413 q413
         obtain rfl : ad411 = ad413 := (by injection e413)
         replace hx413_0 := cb HB.out.cell hx413_0
         replace p413 := eq_true p413
         replace q413 := eq_true q413
         go_wp2
         repeat (go_quiet (fail); go_wp2)
         go_roundg k2
         case measure => have := HK1.out; have := HK2.out; omega
         case rel => exact ⟨(x4_1), (wrap64 (x6_1 + 1)), (by rfl), H', ⟨by have := HK1.out; have := HK2.out; omega⟩, ⟨by (with_reducible repeat (apply Kd.R_drewN)); exact HO_4.out⟩, ⟨bh HB.out⟩⟩
        ·have c11b0 := eq_true (of_decide_eq_true (by assumption) : 0 ≤ x7_2)
         replace H := ifn H
         obtain ⟨c12, -, H⟩ := H
         have c12b0 := eq_true c12
         have c12b1 : decide (x7_2 ≤ (x4_1.length : Int)) = true := decide_eq_true c12
         clear c12
         obtain ⟨y414, hy414⟩ : ∃ y_ : List ByteArray, y_ = (x4_1.take (x7_2 : Int).toNat) := ⟨_, rfl⟩
         replace H : (if ([] : List ByteArray).length + y414.length < 8796093022208 then ((some (([] : List ByteArray) ++ y414 : List ByteArray)).bind fun y418 => (if y418.length < 8796093022208 then ((some (y418 ++ [rdOf ByteArray.empty l0 x6_1] : List ByteArray)).bind fun y422 => ((some (x4_1.drop (x7_2 : Int).toNat : List ByteArray)).bind fun y425 => (if y422.length + y425.length < 8796093022208 then (peristyleref11_Texts.l0 k2 l0 (y422 ++ y425) (wrap64 (x6_1 + 1))) else (none)))) else (none))) else (none)) = some (r1, r2) := by (have H2_ := (Option.bind_some _ _).symm.trans H; rw [hy414]; with_reducible exact H2_)
         have Ny414 := Aside0.mk hy414
         clear hy414
         replace H := ifn H
         obtain ⟨c13, -, H⟩ := H
         have LMc13 := Aside0.mk c13
         clear c13
         obtain ⟨y418, hy418⟩ : ∃ y_ : List ByteArray, y_ = (([] : List ByteArray) ++ y414) := ⟨_, rfl⟩
         replace H : (if y418.length < 8796093022208 then ((some (y418 ++ [rdOf ByteArray.empty l0 x6_1] : List ByteArray)).bind fun y422 => ((some (x4_1.drop (x7_2 : Int).toNat : List ByteArray)).bind fun y425 => (if y422.length + y425.length < 8796093022208 then (peristyleref11_Texts.l0 k2 l0 (y422 ++ y425) (wrap64 (x6_1 + 1))) else (none)))) else (none)) = some (r1, r2) := by (have H2_ := (Option.bind_some _ _).symm.trans H; rw [hy418]; with_reducible exact H2_)
         have Ny418 := Aside0.mk hy418
         clear hy418
         replace H := ifn H
         obtain ⟨c14, -, H⟩ := H
         have LMc14 := Aside0.mk c14
         clear c14
         obtain ⟨y422, hy422⟩ : ∃ y_ : List ByteArray, y_ = (y418 ++ [rdOf ByteArray.empty l0 x6_1]) := ⟨_, rfl⟩
         replace H : ((some (x4_1.drop (x7_2 : Int).toNat : List ByteArray)).bind fun y425 => (if y422.length + y425.length < 8796093022208 then (peristyleref11_Texts.l0 k2 l0 (y422 ++ y425) (wrap64 (x6_1 + 1))) else (none))) = some (r1, r2) := by (have H2_ := (Option.bind_some _ _).symm.trans H; rw [hy422]; with_reducible exact H2_)
         have Ny422 := Aside0.mk hy422
         clear hy422
         have c15b0 := eq_true (of_decide_eq_true (by assumption) : 0 ≤ x7_2)
         have c16b0 := eq_true (of_decide_eq_true (by assumption) : x7_2 ≤ (x4_1.length : Int))
         obtain ⟨y425, hy425⟩ : ∃ y_ : List ByteArray, y_ = (x4_1.drop (x7_2 : Int).toNat) := ⟨_, rfl⟩
         replace H : (if y422.length + y425.length < 8796093022208 then (peristyleref11_Texts.l0 k2 l0 (y422 ++ y425) (wrap64 (x6_1 + 1))) else (none)) = some (r1, r2) := by (have H2_ := (Option.bind_some _ _).symm.trans H; rw [hy425]; with_reducible exact H2_)
         have Ny425 := Aside0.mk hy425
         clear hy425
         replace H := ifn H
         obtain ⟨c17, -, H⟩ := H
         have LMc17 := Aside0.mk c17
         clear c17
         obtain ⟨y429, hy429⟩ : ∃ y_ : List ByteArray, y_ = (y422 ++ y425) := ⟨_, rfl⟩
         replace H : (peristyleref11_Texts.l0 k2 l0 y429 (wrap64 (x6_1 + 1))) = some (r1, r2) := by (rw [hy429]; with_reducible exact H)
         have Ny429 := Aside0.mk hy429
         clear hy429
         have H' := Aside0.mk H
         clear H
         obtain ⟨Ao18, co18, eo18⟩ := Kd.R_slice HO_4.out
         subst eo18
         have p410 : 0 ≤ (x7_2 : Int) := ad
         have q410 : x7_2 < (x4_1.length : Int) := ad
         obtain ⟨ad410, e410, hx410_0⟩ := Kd.at_string (Kd.R_reads' HO_4.out).2.2 x7_2 p410 q410
         cases e410
         replace p410 := eq_true p410
         replace q410 := eq_true q410
         have p411 : 0 ≤ (x6_1 : Int) := ad
         have q411 : x6_1 < (l0.length : Int) := ad
         obtain ⟨ad411, e411, hx411_0⟩ := Kd.at_string HR0.out x6_1 p411 q411
         cases e411
         replace hx411_0 := cb HB.out.cell hx411_0
         replace p411 := eq_true p411
         replace q411 := eq_true q411
         have p412 : 0 ≤ (x7_2 : Int) := ad
         have q412 : x7_2 < (x4_1.length : Int) := ad
         obtain ⟨ad412, e412, hx412_0⟩ := Kd.at_string (Kd.R_reads' HO_4.out).2.2 x7_2 p412 q412
         obtain rfl : ad410 = ad412 := (by injection e412)
         replace p412 := eq_true p412
         replace q412 := eq_true q412
         have p413 : 0 ≤ (x6_1 : Int) := ad
         have q413 : x6_1 < (l0.length : Int) := ad
         obtain ⟨ad413, e413, hx413_0⟩ := Kd.at_string HR0.out x6_1 p413 q413
         obtain rfl : ad411 = ad413 := (by injection e413)
         replace hx413_0 := cb HB.out.cell hx413_0
         replace p413 := eq_true p413
         replace q413 := eq_true q413
         have q19 : (x7_2 : Int) ≤ ((x4_1.length : Int) : Int) := ad
         obtain ⟨i019, hi019, _, hsz19, _⟩ := info_parts info9
         have hroom19 : x4_1.length ≤ co18 := (Kd.R_reads' HO_4.out).2.1
         have hC19 : Kd.C Kd.string _ (some ad410) x4_1.length x4_1 := (Kd.R_reads' HO_4.out).2.2
         have hcut19 := cut_to (P := Tryz.prog) 27 9 .i64 Tryz.underlying27 hi019 (some ad410) x4_1.length co18 x7_2 (of_decide_eq_true (by assumption)) q19 hroom19
         have hr19 := Kd.C_take (m := (x7_2 : Int).toNat) hC19 (by omega)
         have hy19 : y414.length = (x7_2 : Int).toNat := (by rw [Ny414.out, List.length_take]; omega)
         rw [← Ny414.out] at hr19
         rw [← hy19] at hcut19
         have HR417 := Aside0.mk hr19
         have HC417 := Aside0.mk (show y414.length ≤ co18 from by omega)
         clear hr19 hC19 hroom19 hi019 hsz19
         have KY19 := Aside0.mk hy19
         clear hy19
         have KL19 := Aside0.mk (show (x7_2 : Int).toNat ≤ x4_1.length from by omega)
         replace q19 := eq_true q19
         go_wp2_with (fail)
         repeat (go_quiet (fail); go_wp2_with (first | ((with_reducible refine gate_builtin (b := .append) (xs := #[.tmp 49, .tmp 52]) rfl ?_); at_builtin; refine Kd.R_append_rows Kd.string (w0 := w) w.heap.size rfl (.tmp 49) (.tmp 52) 27 9 (.string ⟨#[]⟩) 16 rfl Tryz.underlying27 info9 rfl (by decide) (by omega) (.slice none 0 0) ([] : List ByteArray) y414 _ _ _ (fun k_ => some k_ ≠ (.slice (some ad410) x4_1.length co18 : Value).ownBlock) (fun _ => False) rfl rfl ?aO ?aR (fun _ _ h => h) (fun _ h => h.elim) ?aF ?aB ?aS ?aL ?_; (case aR => repeat (exact (by repeat (exact HR417.out)))); (case aB => exact (bh HB.out)); (case aF => exact (fun k_ hk => Kd.fresh' (Kd.R_lt (rx HO_4.out)) k_ hk)); (case aO => exact ((Kd.R_nil _ _ _ _ (fun k_ => some k_ ≠ (.slice (some ad410) x4_1.length co18 : Value).ownBlock)))); (case aS => exact (below_size (bh HB.out))); (case aL => have := LMc13.out; omega); intro v419 w20 ho hb hg hat; rw [← Ny418.out] at ho; replace HB := Aside0.mk (hb); replace HR417 := Aside0.mk ((show Kd.C Kd.string w20 (some ad410) y414.length y414 from by rw [Ny414.out]; exact Kd.C_take (m := (x7_2 : Int).toNat) ((Kd.R_reads' (Kd.R_after (Kd.R_apart_nil (rx HO_4.out)) hg hat)).2.2) KL19.out)); replace HO_4 := Aside0.mk (Kd.R_after (Kd.R_apart_nil (rx HO_4.out)) hg hat); have HO420 := Aside0.mk (ho); clear ho hb hg hat; have p421 : 0 ≤ (x6_1 : Int) := ad; have q421 : x6_1 < (l0.length : Int) := ad; obtain ⟨ad421, e421, hx421_0⟩ := Kd.at_string HR0.out x6_1 p421 q421; obtain rfl : ad411 = ad421 := (by injection e421); replace hx421_0 := cb HB.out.cell hx421_0; replace p421 := eq_true p421; replace q421 := eq_true q421) | ((with_reducible refine gate_builtin (b := .append) (xs := #[.tmp 54, .tmp 59]) rfl ?_); at_builtin; refine Kd.R_append Kd.string (w0 := w) w.heap.size rfl (.tmp 54) (.tmp 59) 27 9 (.string ⟨#[]⟩) 16 rfl Tryz.underlying27 info9 rfl (by decide) (by omega) v419 y418 (rdOf ByteArray.empty l0 x6_1) [.string (rdOf ByteArray.empty l0 x6_1)] (fun k_ => some k_ ≠ (.slice (some ad410) x4_1.length co18 : Value).ownBlock) (fun _ => False) rfl rfl ?aP (fun _ hk => hk.elim) ?aF ?aO ?aB ?aS ?aL ?_; (case aP => exact rfl); (case aB => exact (bh HB.out)); (case aF => exact (fun k_ hk => Kd.fresh' (Kd.R_lt (rx HO_4.out)) k_ hk)); (case aO => exact (rx HO420.out)); (case aS => exact (below_size (bh HB.out))); (case aL => have := LMc14.out; omega); intro v423 w21 ho hb hg hat; rw [← Ny422.out] at ho; have n0_ := Aside0.mk (Kd.R_after (ok := (fun _ => True)) (rx HO_4.out) hg hat); have n1_ := Aside0.mk (hb); have n2_ := Aside0.mk ((show Kd.C Kd.string w21 (some ad410) y414.length y414 from by rw [Ny414.out]; exact Kd.C_take (m := (x7_2 : Int).toNat) ((Kd.R_reads' (Kd.R_after (ok := (fun _ => True)) (rx HO_4.out) hg hat)).2.2) KL19.out)); have n3_ := Aside0.mk (ho); clear HO_4 HB HR417 HO420; have HO_4 := n0_; have HB := n1_; have HR417 := n2_; have HO424 := n3_; clear n0_ n1_ n2_ n3_ ho hb hg hat; have q22 : (x7_2 : Int) ≤ ((x4_1.length : Int) : Int) := ad; obtain ⟨i022, hi022, _, hsz22, _⟩ := info_parts info9; have hroom22 : x4_1.length ≤ co18 := (Kd.R_reads' HO_4.out).2.1; have hC22 : Kd.C Kd.string _ (some ad410) x4_1.length x4_1 := (Kd.R_reads' HO_4.out).2.2; have q022 : (0 : Int) ≤ (x7_2 : Int) := ad; have hcut22 := cut_from (P := Tryz.prog) 27 9 .i64 Tryz.underlying27 hi022 1 hsz22 (some ad410) x4_1.length co18 x7_2 q022 q22; have hr22 := Kd.C_drop (m := (x7_2 : Int).toNat) (c := co18) hC22 (by omega) hroom22; obtain ⟨A22, hA22⟩ : ∃ A1, A1 = (if co18 = (x7_2 : Int).toNat then (some ad410) else ((some ad410) : Option Addr).map (·.add ((x7_2 : Int).toNat * 1))) := ⟨_, rfl⟩; obtain ⟨c22, hc22⟩ : ∃ c1, c1 = co18 - (x7_2 : Int).toNat := ⟨_, rfl⟩; have hy22 : y425.length = x4_1.length - (x7_2 : Int).toNat := (by rw [Ny425.out, List.length_drop] <;> omega); rw [show (x4_1).drop (x7_2 : Int).toNat = y425 from Ny425.out.symm] at hr22; replace hr22 : Kd.C Kd.string _ A22 y425.length y425 := (by rw [hA22]; exact hr22); rw [← hy22, ← hA22, ← hc22] at hcut22; have HR428 := Aside0.mk hr22; have HC428 := Aside0.mk (show y425.length ≤ c22 from by rw [hy22, hc22]; exact Nat.sub_le_sub_right hroom22 _); clear hr22 hC22 hroom22 hi022 hsz22 hc22; have KY22 := Aside0.mk hy22; have KA22 := Aside0.mk hA22; clear hy22 hA22; have KL22 := Aside0.mk (show (x7_2 : Int).toNat ≤ x4_1.length from by omega); replace q22 := eq_true q22) | ((with_reducible refine gate_builtin (b := .append) (xs := #[.tmp 61, .tmp 64]) rfl ?_); at_builtin; refine Kd.R_append_rows Kd.string (w0 := w) w.heap.size rfl (.tmp 61) (.tmp 64) 27 9 (.string ⟨#[]⟩) 16 rfl Tryz.underlying27 info9 rfl (by decide) (by omega) v423 y422 y425 _ _ _ (fun k_ => some k_ ≠ (.slice (some ad410) x4_1.length co18 : Value).ownBlock) (fun _ => False) rfl rfl ?aO ?aR (fun _ _ h => h) (fun _ h => h.elim) ?aF ?aB ?aS ?aL ?_; (case aR => repeat (exact (by repeat (exact HR428.out)))); (case aB => exact (bh HB.out)); (case aF => exact (fun k_ hk => Kd.fresh' (Kd.R_lt (rx HO_4.out)) k_ hk)); (case aO => exact (rx HO424.out)); (case aS => exact (below_size (bh HB.out))); (case aL => have := LMc17.out; omega); intro v430 w23 ho hb hg hat; rw [← Ny429.out] at ho; have n0_ := Aside0.mk (Kd.R_after (ok := (fun _ => True)) (rx HO_4.out) hg hat); have n1_ := Aside0.mk (hb); have n2_ := Aside0.mk ((show Kd.C Kd.string w23 (some ad410) y414.length y414 from by rw [Ny414.out]; exact Kd.C_take (m := (x7_2 : Int).toNat) ((Kd.R_reads' (Kd.R_after (ok := (fun _ => True)) (rx HO_4.out) hg hat)).2.2) KL19.out)); have n3_ := Aside0.mk ((show Kd.C Kd.string w23 A22 y425.length y425 from by rw [Ny425.out, KA22.out]; exact Kd.C_drop (m := (x7_2 : Int).toNat) (c := co18) ((Kd.R_reads' (Kd.R_after (ok := (fun _ => True)) (rx HO_4.out) hg hat)).2.2) KL22.out ((Kd.R_reads' (Kd.R_after (ok := (fun _ => True)) (rx HO_4.out) hg hat)).2.1))); have n4_ := Aside0.mk (ho); clear HO_4 HB HR417 HR428 HO424; have HO_4 := n0_; have HB := n1_; have HR417 := n2_; have HR428 := n3_; have HO431 := n4_; clear n0_ n1_ n2_ n3_ n4_ ho hb hg hat)))
         go_roundg k2
         case measure => have := HK1.out; have := HK2.out; omega
         case rel => exact ⟨(y429), (wrap64 (x6_1 + 1)), (by rfl), H', ⟨by have := HK1.out; have := HK2.out; omega⟩, ⟨by exact Kd.R_mono HO431.out (fun _ hk => trivial)⟩, ⟨bh HB.out⟩⟩
      ·replace H := ifn H
       obtain ⟨c24, -, H⟩ := H
       have c24b0 := eq_true c24
       have c24b1 : decide (0 ≤ x7_2) = true := decide_eq_true c24
       clear c24
       replace H := ifn H
       obtain ⟨c25, -, H⟩ := H
       have c25b0 := eq_true c25
       have c25b1 : decide (x7_2 ≤ (x4_1.length : Int)) = true := decide_eq_true c25
       clear c25
       obtain ⟨y432, hy432⟩ : ∃ y_ : List ByteArray, y_ = (x4_1.take (x7_2 : Int).toNat) := ⟨_, rfl⟩
       replace H : (if ([] : List ByteArray).length + y432.length < 8796093022208 then ((some (([] : List ByteArray) ++ y432 : List ByteArray)).bind fun y436 => (if 0 ≤ x6_1 then (if x6_1 < (l0.length : Int) then (if y436.length < 8796093022208 then ((some (y436 ++ [rdOf ByteArray.empty l0 x6_1] : List ByteArray)).bind fun y440 => ((some (x4_1.drop (x7_2 : Int).toNat : List ByteArray)).bind fun y443 => (if y440.length + y443.length < 8796093022208 then (peristyleref11_Texts.l0 k2 l0 (y440 ++ y443) (wrap64 (x6_1 + 1))) else (none)))) else (none)) else (none)) else (none))) else (none)) = some (r1, r2) := by (have H2_ := (Option.bind_some _ _).symm.trans H; rw [hy432]; with_reducible exact H2_)
       have Ny432 := Aside0.mk hy432
       clear hy432
       replace H := ifn H
       obtain ⟨c26, -, H⟩ := H
       have LMc26 := Aside0.mk c26
       clear c26
       obtain ⟨y436, hy436⟩ : ∃ y_ : List ByteArray, y_ = (([] : List ByteArray) ++ y432) := ⟨_, rfl⟩
       replace H : (if 0 ≤ x6_1 then (if x6_1 < (l0.length : Int) then (if y436.length < 8796093022208 then ((some (y436 ++ [rdOf ByteArray.empty l0 x6_1] : List ByteArray)).bind fun y440 => ((some (x4_1.drop (x7_2 : Int).toNat : List ByteArray)).bind fun y443 => (if y440.length + y443.length < 8796093022208 then (peristyleref11_Texts.l0 k2 l0 (y440 ++ y443) (wrap64 (x6_1 + 1))) else (none)))) else (none)) else (none)) else (none)) = some (r1, r2) := by (have H2_ := (Option.bind_some _ _).symm.trans H; rw [hy436]; with_reducible exact H2_)
       have Ny436 := Aside0.mk hy436
       clear hy436
       replace H := ifn H
       obtain ⟨-, c27b0, H⟩ := H
       replace H := ifn H
       obtain ⟨-, c28b0, H⟩ := H
       replace H := ifn H
       obtain ⟨c29, -, H⟩ := H
       have LMc29 := Aside0.mk c29
       clear c29
       obtain ⟨y440, hy440⟩ : ∃ y_ : List ByteArray, y_ = (y436 ++ [rdOf ByteArray.empty l0 x6_1]) := ⟨_, rfl⟩
       replace H : ((some (x4_1.drop (x7_2 : Int).toNat : List ByteArray)).bind fun y443 => (if y440.length + y443.length < 8796093022208 then (peristyleref11_Texts.l0 k2 l0 (y440 ++ y443) (wrap64 (x6_1 + 1))) else (none))) = some (r1, r2) := by (have H2_ := (Option.bind_some _ _).symm.trans H; rw [hy440]; with_reducible exact H2_)
       have Ny440 := Aside0.mk hy440
       clear hy440
       have c30b0 := eq_true (of_decide_eq_true (by assumption) : 0 ≤ x7_2)
       have c31b0 := eq_true (of_decide_eq_true (by assumption) : x7_2 ≤ (x4_1.length : Int))
       obtain ⟨y443, hy443⟩ : ∃ y_ : List ByteArray, y_ = (x4_1.drop (x7_2 : Int).toNat) := ⟨_, rfl⟩
       replace H : (if y440.length + y443.length < 8796093022208 then (peristyleref11_Texts.l0 k2 l0 (y440 ++ y443) (wrap64 (x6_1 + 1))) else (none)) = some (r1, r2) := by (have H2_ := (Option.bind_some _ _).symm.trans H; rw [hy443]; with_reducible exact H2_)
       have Ny443 := Aside0.mk hy443
       clear hy443
       replace H := ifn H
       obtain ⟨c32, -, H⟩ := H
       have LMc32 := Aside0.mk c32
       clear c32
       obtain ⟨y447, hy447⟩ : ∃ y_ : List ByteArray, y_ = (y440 ++ y443) := ⟨_, rfl⟩
       replace H : (peristyleref11_Texts.l0 k2 l0 y447 (wrap64 (x6_1 + 1))) = some (r1, r2) := by (rw [hy447]; with_reducible exact H)
       have Ny447 := Aside0.mk hy447
       clear hy447
       have H' := Aside0.mk H
       clear H
       obtain ⟨Ao33, co33, eo33⟩ := Kd.R_slice HO_4.out
       subst eo33
       have q34 : (x7_2 : Int) ≤ ((x4_1.length : Int) : Int) := ad
       obtain ⟨i034, hi034, _, hsz34, _⟩ := info_parts info9
       have hroom34 : x4_1.length ≤ co33 := (Kd.R_reads' HO_4.out).2.1
       have hC34 : Kd.C Kd.string _ Ao33 x4_1.length x4_1 := (Kd.R_reads' HO_4.out).2.2
       have hcut34 := cut_to (P := Tryz.prog) 27 9 .i64 Tryz.underlying27 hi034 Ao33 x4_1.length co33 x7_2 (of_decide_eq_true (by assumption)) q34 hroom34
       have hr34 := Kd.C_take (m := (x7_2 : Int).toNat) hC34 (by omega)
       have hy34 : y432.length = (x7_2 : Int).toNat := (by rw [Ny432.out, List.length_take]; omega)
       rw [← Ny432.out] at hr34
       rw [← hy34] at hcut34
       have HR435 := Aside0.mk hr34
       have HC435 := Aside0.mk (show y432.length ≤ co33 from by omega)
       clear hr34 hC34 hroom34 hi034 hsz34
       have KY34 := Aside0.mk hy34
       clear hy34
       have KL34 := Aside0.mk (show (x7_2 : Int).toNat ≤ x4_1.length from by omega)
       replace q34 := eq_true q34
       go_wp2_with (fail)
       repeat (go_quiet (fail); go_wp2_with (first | ((with_reducible refine gate_builtin (b := .append) (xs := #[.tmp 49, .tmp 52]) rfl ?_); at_builtin; refine Kd.R_append_rows Kd.string (w0 := w) w.heap.size rfl (.tmp 49) (.tmp 52) 27 9 (.string ⟨#[]⟩) 16 rfl Tryz.underlying27 info9 rfl (by decide) (by omega) (.slice none 0 0) ([] : List ByteArray) y432 _ _ _ (fun k_ => some k_ ≠ (.slice Ao33 x4_1.length co33 : Value).ownBlock) (fun _ => False) rfl rfl ?aO ?aR (fun _ _ h => h) (fun _ h => h.elim) ?aF ?aB ?aS ?aL ?_; (case aR => repeat (exact (by repeat (exact HR435.out)))); (case aB => exact (bh HB.out)); (case aF => exact (fun k_ hk => Kd.fresh' (Kd.R_lt (rx HO_4.out)) k_ hk)); (case aO => exact ((Kd.R_nil _ _ _ _ (fun k_ => some k_ ≠ (.slice Ao33 x4_1.length co33 : Value).ownBlock)))); (case aS => exact (below_size (bh HB.out))); (case aL => have := LMc26.out; omega); intro v437 w35 ho hb hg hat; rw [← Ny436.out] at ho; replace HB := Aside0.mk (hb); replace HR435 := Aside0.mk ((show Kd.C Kd.string w35 Ao33 y432.length y432 from by rw [Ny432.out]; exact Kd.C_take (m := (x7_2 : Int).toNat) ((Kd.R_reads' (Kd.R_after (Kd.R_apart_nil (rx HO_4.out)) hg hat)).2.2) KL34.out)); replace HO_4 := Aside0.mk (Kd.R_after (Kd.R_apart_nil (rx HO_4.out)) hg hat); have HO438 := Aside0.mk (ho); clear ho hb hg hat; have p439 : 0 ≤ (x6_1 : Int) := ad; have q439 : x6_1 < (l0.length : Int) := ad; obtain ⟨ad439, e439, hx439_0⟩ := Kd.at_string HR0.out x6_1 p439 q439; cases e439; replace hx439_0 := cb HB.out.cell hx439_0; replace p439 := eq_true p439; replace q439 := eq_true q439) | ((with_reducible refine gate_builtin (b := .append) (xs := #[.tmp 54, .tmp 59]) rfl ?_); at_builtin; refine Kd.R_append Kd.string (w0 := w) w.heap.size rfl (.tmp 54) (.tmp 59) 27 9 (.string ⟨#[]⟩) 16 rfl Tryz.underlying27 info9 rfl (by decide) (by omega) v437 y436 (rdOf ByteArray.empty l0 x6_1) [.string (rdOf ByteArray.empty l0 x6_1)] (fun k_ => some k_ ≠ (.slice Ao33 x4_1.length co33 : Value).ownBlock) (fun _ => False) rfl rfl ?aP (fun _ hk => hk.elim) ?aF ?aO ?aB ?aS ?aL ?_; (case aP => exact rfl); (case aB => exact (bh HB.out)); (case aF => exact (fun k_ hk => Kd.fresh' (Kd.R_lt (rx HO_4.out)) k_ hk)); (case aO => exact (rx HO438.out)); (case aS => exact (below_size (bh HB.out))); (case aL => have := LMc29.out; omega); intro v441 w36 ho hb hg hat; rw [← Ny440.out] at ho; have n0_ := Aside0.mk (Kd.R_after (ok := (fun _ => True)) (rx HO_4.out) hg hat); have n1_ := Aside0.mk (hb); have n2_ := Aside0.mk ((show Kd.C Kd.string w36 Ao33 y432.length y432 from by rw [Ny432.out]; exact Kd.C_take (m := (x7_2 : Int).toNat) ((Kd.R_reads' (Kd.R_after (ok := (fun _ => True)) (rx HO_4.out) hg hat)).2.2) KL34.out)); have n3_ := Aside0.mk (ho); clear HO_4 HB HR435 HO438; have HO_4 := n0_; have HB := n1_; have HR435 := n2_; have HO442 := n3_; clear n0_ n1_ n2_ n3_ ho hb hg hat; have q37 : (x7_2 : Int) ≤ ((x4_1.length : Int) : Int) := ad; obtain ⟨i037, hi037, _, hsz37, _⟩ := info_parts info9; have hroom37 : x4_1.length ≤ co33 := (Kd.R_reads' HO_4.out).2.1; have hC37 : Kd.C Kd.string _ Ao33 x4_1.length x4_1 := (Kd.R_reads' HO_4.out).2.2; have q037 : (0 : Int) ≤ (x7_2 : Int) := ad; have hcut37 := cut_from (P := Tryz.prog) 27 9 .i64 Tryz.underlying27 hi037 1 hsz37 Ao33 x4_1.length co33 x7_2 q037 q37; have hr37 := Kd.C_drop (m := (x7_2 : Int).toNat) (c := co33) hC37 (by omega) hroom37; obtain ⟨A37, hA37⟩ : ∃ A1, A1 = (if co33 = (x7_2 : Int).toNat then Ao33 else (Ao33 : Option Addr).map (·.add ((x7_2 : Int).toNat * 1))) := ⟨_, rfl⟩; obtain ⟨c37, hc37⟩ : ∃ c1, c1 = co33 - (x7_2 : Int).toNat := ⟨_, rfl⟩; have hy37 : y443.length = x4_1.length - (x7_2 : Int).toNat := (by rw [Ny443.out, List.length_drop] <;> omega); rw [show (x4_1).drop (x7_2 : Int).toNat = y443 from Ny443.out.symm] at hr37; replace hr37 : Kd.C Kd.string _ A37 y443.length y443 := (by rw [hA37]; exact hr37); rw [← hy37, ← hA37, ← hc37] at hcut37; have HR446 := Aside0.mk hr37; have HC446 := Aside0.mk (show y443.length ≤ c37 from by rw [hy37, hc37]; exact Nat.sub_le_sub_right hroom37 _); clear hr37 hC37 hroom37 hi037 hsz37 hc37; have KY37 := Aside0.mk hy37; have KA37 := Aside0.mk hA37; clear hy37 hA37; have KL37 := Aside0.mk (show (x7_2 : Int).toNat ≤ x4_1.length from by omega); replace q37 := eq_true q37) | ((with_reducible refine gate_builtin (b := .append) (xs := #[.tmp 61, .tmp 64]) rfl ?_); at_builtin; refine Kd.R_append_rows Kd.string (w0 := w) w.heap.size rfl (.tmp 61) (.tmp 64) 27 9 (.string ⟨#[]⟩) 16 rfl Tryz.underlying27 info9 rfl (by decide) (by omega) v441 y440 y443 _ _ _ (fun k_ => some k_ ≠ (.slice Ao33 x4_1.length co33 : Value).ownBlock) (fun _ => False) rfl rfl ?aO ?aR (fun _ _ h => h) (fun _ h => h.elim) ?aF ?aB ?aS ?aL ?_; (case aR => repeat (exact (by repeat (exact HR446.out)))); (case aB => exact (bh HB.out)); (case aF => exact (fun k_ hk => Kd.fresh' (Kd.R_lt (rx HO_4.out)) k_ hk)); (case aO => exact (rx HO442.out)); (case aS => exact (below_size (bh HB.out))); (case aL => have := LMc32.out; omega); intro v448 w38 ho hb hg hat; rw [← Ny447.out] at ho; have n0_ := Aside0.mk (Kd.R_after (ok := (fun _ => True)) (rx HO_4.out) hg hat); have n1_ := Aside0.mk (hb); have n2_ := Aside0.mk ((show Kd.C Kd.string w38 Ao33 y432.length y432 from by rw [Ny432.out]; exact Kd.C_take (m := (x7_2 : Int).toNat) ((Kd.R_reads' (Kd.R_after (ok := (fun _ => True)) (rx HO_4.out) hg hat)).2.2) KL34.out)); have n3_ := Aside0.mk ((show Kd.C Kd.string w38 A37 y443.length y443 from by rw [Ny443.out, KA37.out]; exact Kd.C_drop (m := (x7_2 : Int).toNat) (c := co33) ((Kd.R_reads' (Kd.R_after (ok := (fun _ => True)) (rx HO_4.out) hg hat)).2.2) KL37.out ((Kd.R_reads' (Kd.R_after (ok := (fun _ => True)) (rx HO_4.out) hg hat)).2.1))); have n4_ := Aside0.mk (ho); clear HO_4 HB HR435 HR446 HO442; have HO_4 := n0_; have HB := n1_; have HR435 := n2_; have HR446 := n3_; have HO449 := n4_; clear n0_ n1_ n2_ n3_ n4_ ho hb hg hat)))
       go_roundg k2
       case measure => have := HK1.out; have := HK2.out; omega
       case rel => exact ⟨(y447), (wrap64 (x6_1 + 1)), (by rfl), H', ⟨by have := HK1.out; have := HK2.out; omega⟩, ⟨by exact Kd.R_mono HO449.out (fun _ hk => trivial)⟩, ⟨bh HB.out⟩⟩
   ·have H' := Aside0.mk H
    clear H
    go_wp2
    repeat (go_quiet (fail))
    go_loopg [5, 9] k1 (fun kq v5 v9 w' => ∃ (x5_2 : List Int) (x9_2 : Int), v9 = .int .i64 x9_2 ∧ Aside0 (peristyleref11_Texts.l2 kq l0 x4_1 x5_2 x9_2 = some (r1, r2)) ∧ Aside0 (kq ≤ k1) ∧ Aside0 (Kd.R Kd.string 9 w' w.heap.size (fun _ => True) u4 x4_1) ∧ Aside0 (Kd.R (Kd.int .i64) 3 w' w.heap.size (fun _ => True) v5 x5_2) ∧ Aside0 (Below w.heap.size w w'))
    case atStart => exact ⟨(([] : List Int)), (0), (by rfl), H', ⟨Nat.le_refl _⟩, ⟨by exact HO_4.out⟩, ⟨nl⟩, ⟨bh HB.out⟩⟩
    case round =>
     clear H' c2b0
     obtain ⟨x5_2, x9_2, rfl, HA, HK2, HO_4, HO_5, HB⟩ := hrel
     cases gk with
     | zero => exact absurd HA.out (by simp [peristyleref11_Texts.l2])
     | succ k2 =>
      have H := HA.out
      clear HA
      simp only [peristyleref11_Texts.l2] at H
      replace H := ifd H
      rcases H with ⟨-, c39b0, H⟩ | ⟨-, c39b0, H⟩
      ·have H' := Aside0.mk H
       clear H
       go_wp2
       repeat (go_quiet (fail))
       go_loopg [10] k2 (fun kq v10 w' => ∃ (x10_3 : Int), v10 = .int .i64 x10_3 ∧ Aside0 (peristyleref11_Texts.l3 kq l0 x4_1 x5_2 x9_2 x10_3 = some (r1, r2)) ∧ Aside0 (kq ≤ k2) ∧ Aside0 (Kd.R Kd.string 9 w' w.heap.size (fun _ => True) u4 x4_1) ∧ Aside0 (Kd.R (Kd.int .i64) 3 w' w.heap.size (fun _ => True) u5 x5_2) ∧ Aside0 (Below w.heap.size w w'))
       case atStart => exact ⟨(0), (by rfl), H', ⟨Nat.le_refl _⟩, ⟨by exact HO_4.out⟩, ⟨by exact HO_5.out⟩, ⟨bh HB.out⟩⟩
       case round =>
        clear H' c39b0
        obtain ⟨x10_3, rfl, HA, HK3, HO_4, HO_5, HB⟩ := hrel
        cases gk with
        | zero => exact absurd HA.out (by simp [peristyleref11_Texts.l3])
        | succ k3 =>
         have H := HA.out
         clear HA
         simp only [peristyleref11_Texts.l3] at H
         replace H := ifn H
         obtain ⟨-, c40b0, H⟩ := H
         replace H := ifn H
         obtain ⟨-, c41b0, H⟩ := H
         replace H := ifn H
         obtain ⟨-, c42b0, H⟩ := H
         replace H := ifn H
         obtain ⟨-, c43b0, H⟩ := H
         replace H := ife H
         rcases H with ⟨-, c44b0, c44b1, H⟩ | ⟨c44, c44b0, c44b1, H⟩
         ·replace H := ifn H
          obtain ⟨c45, -, H⟩ := H
          have LMc45 := Aside0.mk c45
          clear c45
          obtain ⟨y452, hy452⟩ : ∃ y_ : List Int, y_ = (x5_2 ++ [x10_3]) := ⟨_, rfl⟩
          replace H : (peristyleref11_Texts.l2 k3 l0 x4_1 y452 (wrap64 (x9_2 + 1))) = some (r1, r2) := by (rw [hy452]; with_reducible exact H)
          have Ny452 := Aside0.mk hy452
          clear hy452
          have H' := Aside0.mk H
          clear H
          obtain ⟨Ao46, co46, eo46⟩ := Kd.R_slice HO_4.out
          subst eo46
          have p450 : 0 ≤ (x10_3 : Int) := ad
          have q450 : x10_3 < (x4_1.length : Int) := ad
          obtain ⟨ad450, e450, hx450_0⟩ := Kd.at_string (Kd.R_reads' HO_4.out).2.2 x10_3 p450 q450
          cases e450
          replace p450 := eq_true p450
          replace q450 := eq_true q450
          have p451 : 0 ≤ (x9_2 : Int) := ad
          have q451 : x9_2 < (l0.length : Int) := ad
          obtain ⟨ad451, e451, hx451_0⟩ := Kd.at_string HR0.out x9_2 p451 q451
          cases e451
          replace hx451_0 := cb HB.out.cell hx451_0
          replace p451 := eq_true p451
          replace q451 := eq_true q451
          go_wp2_with (fail)
          repeat (go_quiet (fail); go_wp2_with (((with_reducible refine gate_builtin (b := .append) (xs := #[.tmp 83, .tmp 85]) rfl ?_); at_builtin; refine Kd.R_append (Kd.int .i64) (w0 := w) w.heap.size rfl (.tmp 83) (.tmp 85) 23 3 (.int .i64 0) 8 rfl Tryz.underlying23 info3 rfl (by decide) (by omega) u5 x5_2 x10_3 [.int .i64 x10_3] (fun _ => True) (fun _ => False) rfl rfl ?aP (fun _ hk => hk.elim) ?aF ?aO ?aB ?aS ?aL ?_; (case aP => exact rfl); (case aB => exact (bh HB.out)); (case aF => exact (fun _ _ => trivial)); (case aO => exact (rx HO_5.out)); (case aS => exact (below_size (bh HB.out))); (case aL => have := LMc45.out; omega); intro v453 w47 ho hb hg hat; rw [← Ny452.out] at ho; have n0_ := Aside0.mk (Kd.R_over' (rx HO_4.out) (Kd.R_typed (rx HO_5.out)) (by decide) hg); have n1_ := Aside0.mk (hb); have n2_ := Aside0.mk (ho); clear HO_4 HB HO_5; have HO_4 := n0_; have HB := n1_; have HO454 := n2_; clear n0_ n1_ n2_ ho hb hg hat)))
          go_roundg k3
          case measure => have := HK1.out; have := HK2.out; have := HK3.out; omega
          case rel => exact ⟨(y452), (wrap64 (x9_2 + 1)), (by rfl), H', ⟨by have := HK1.out; have := HK2.out; have := HK3.out; omega⟩, ⟨by exact HO_4.out⟩, ⟨by exact HO454.out⟩, ⟨bh HB.out⟩⟩
         ·have H' := Aside0.mk H
          clear H
          obtain ⟨Ao48, co48, eo48⟩ := Kd.R_slice HO_4.out
          subst eo48
          have p450 : 0 ≤ (x10_3 : Int) := ad
          have q450 : x10_3 < (x4_1.length : Int) := ad
          obtain ⟨ad450, e450, hx450_0⟩ := Kd.at_string (Kd.R_reads' HO_4.out).2.2 x10_3 p450 q450
          cases e450
          replace p450 := eq_true p450
          replace q450 := eq_true q450
          have p451 : 0 ≤ (x9_2 : Int) := ad
          have q451 : x9_2 < (l0.length : Int) := ad
          obtain ⟨ad451, e451, hx451_0⟩ := Kd.at_string HR0.out x9_2 p451 q451
          cases e451
          replace hx451_0 := cb HB.out.cell hx451_0
          replace p451 := eq_true p451
          replace q451 := eq_true q451
          go_wp2
          repeat (go_quiet (fail); go_wp2)
          go_roundg k3
          case measure => have := HK1.out; have := HK2.out; have := HK3.out; omega
          case rel => exact ⟨(wrap64 (x10_3 + 1)), (by rfl), H', ⟨by have := HK1.out; have := HK2.out; have := HK3.out; omega⟩, ⟨by (with_reducible repeat (apply Kd.R_drewN)); exact HO_4.out⟩, ⟨by (with_reducible repeat (apply Kd.R_drewN)); exact HO_5.out⟩, ⟨bh HB.out⟩⟩
      ·simp only [Option.some.injEq, Prod.mk.injEq] at H
       obtain ⟨rfl, rfl⟩ := H
       go_wp2
       repeat (go_quiet (fail))
       go_ret2
       exact ⟨_, _, er, by exact HO_4.out, by exact HO_5.out, bh HB.out⟩
end Go.Proofs.YtfohecpfenegkaaGreat.Print
end
section
namespace Go.Proofs.YtfohecpfenegkaaGreat.Print
open Go.RowKit Go.Proofs.YtfohecpfenegkaaGreatW.PrintWords Go.Proofs.YtfohecpfenegkaaGreatW.PrintLast Go.Proofs.YtfohecpfenegkaaGreatW.PrintMore
attribute [local go_sem] max2_int min2_int max_two min_two max_three min_three max_four min_four   -- for this text's walks alone
set_option linter.unusedVariables false
set_option linter.unusedSimpArgs false
/-! ### peristyleref07_PutTexts: function 53 -/
def peristyleref07_PutTexts.l0 : Nat → List ByteArray → List Int → Int → Option (ByteArray × Int)
 | 0, _, _, _ => none
 | k + 1, x0, x4, x5 => if x5 < (x0.length : Int) then (if 0 ≤ x5 then (if ((rdOf ByteArray.empty x0 x5).size : Int) > 32 then (some ((⟨#[]⟩ : ByteArray), 1)) else (if x4.length < 140737488355328 then ((some (x4 ++ [(((rdOf ByteArray.empty x0 x5).size : Int)) % 256] : List Int)).bind fun y457 => (if y457.length + (rdOf ByteArray.empty x0 x5).size < 140737488355328 then (peristyleref07_PutTexts.l0 k x0 (y457 ++ bytesOf (rdOf ByteArray.empty x0 x5)) (wrap64 (x5 + 1))) else (none))) else (none))) else (none)) else (some (strOfNums x4, 0))
def peristyleref07_PutTexts.f (k : Nat) (l0 : List ByteArray) : Option (ByteArray × Int) := peristyleref07_PutTexts.l0 k l0 ([] : List Int) 0
theorem peristyleref07_PutTexts.l0_succ (k) (a0) (a1) (a2) : type_of% (@peristyleref07_PutTexts.l0.eq_2 a0 a1 a2 k) := peristyleref07_PutTexts.l0.eq_2 a0 a1 a2 k
set_option maxHeartbeats 8000000 in
set_option maxRecDepth 100000 in
theorem peristyleref07_PutTexts.calls (k : Nat) (A0 : Option Addr) (c0 : Nat) (l0 : List ByteArray) (r1 : ByteArray) (r2 : Int) (w : World) (hr0 : Kd.C Kd.string w A0 l0.length l0) (hc0 : l0.length ≤ c0) (h : peristyleref07_PutTexts.f k l0 = some (r1, r2)) :
  Calls Tryz.prog 53 #[.slice A0 l0.length c0] w fun e w' => e = .returned (.tuple #[.string r1, .int .i64 r2]) ∧ Below w.heap.size w w' := by
 have HR0 := Aside0.mk hr0
 have HC0 := Aside0.mk hc0
 clear hr0 hc0
 have HB := Aside0.mk (Below.refl w.heap.size w)
 have H := h
 clear h
 unfold peristyleref07_PutTexts.f at H
 have H' := Aside0.mk H
 clear H
 go_enter Tryz.func53, Tryz.ntmps53
 go_wp2
 go_loopg [4, 5] k (fun kq v4 v5 w' => ∃ (x4_1 : List Int) (x5_1 : Int), v5 = .int .i64 x5_1 ∧ Aside0 (peristyleref07_PutTexts.l0 kq l0 x4_1 x5_1 = some (r1, r2)) ∧ Aside0 (kq ≤ k) ∧ Aside0 (Kd.R (Kd.int .u8) 5 w' w.heap.size (fun _ => True) v4 x4_1) ∧ Aside0 (Below w.heap.size w w'))
 case atStart => exact ⟨(([] : List Int)), (0), (by rfl), H', ⟨Nat.le_refl _⟩, ⟨nl⟩, ⟨bh HB.out⟩⟩
 case round =>
  clear H'
  obtain ⟨x4_1, x5_1, rfl, HA, HK1, HO_4, HB⟩ := hrel
  cases gk with
  | zero => exact absurd HA.out (by simp [peristyleref07_PutTexts.l0])
  | succ k1 =>
   have H := HA.out
   clear HA
   simp only [peristyleref07_PutTexts.l0] at H
   replace H := ifd H
   rcases H with ⟨-, c2b0, H⟩ | ⟨-, c2b0, H⟩
   ·replace H := ifn H
    obtain ⟨-, c3b0, H⟩ := H
    replace H := ifd H
    rcases H with ⟨c4, c4b0, H⟩ | ⟨c4, c4b0, H⟩
    ·have c4b1 : decide (32 < (rdOf ByteArray.empty l0 x5_1).size) = true := decide_eq_true (by omega)
     clear c4
     simp only [Option.some.injEq, Prod.mk.injEq] at H
     obtain ⟨rfl, rfl⟩ := H
     have p455 : 0 ≤ (x5_1 : Int) := ad
     have q455 : x5_1 < (l0.length : Int) := ad
     obtain ⟨ad455, e455, hx455_0⟩ := Kd.at_string HR0.out x5_1 p455 q455
     cases e455
     replace hx455_0 := cb HB.out.cell hx455_0
     replace p455 := eq_true p455
     replace q455 := eq_true q455
     go_wp2
     go_ret2
     exact ⟨er, bh HB.out⟩
    ·have c4b1 : decide (32 < (rdOf ByteArray.empty l0 x5_1).size) = false := decide_eq_false (by omega)
     clear c4
     replace H := ifn H
     obtain ⟨c5, -, H⟩ := H
     have LMc5 := Aside0.mk c5
     clear c5
     obtain ⟨y457, hy457⟩ : ∃ y_ : List Int, y_ = (x4_1 ++ [(((rdOf ByteArray.empty l0 x5_1).size : Int)) % 256]) := ⟨_, rfl⟩
     replace H : (if y457.length + (rdOf ByteArray.empty l0 x5_1).size < 140737488355328 then (peristyleref07_PutTexts.l0 k1 l0 (y457 ++ bytesOf (rdOf ByteArray.empty l0 x5_1)) (wrap64 (x5_1 + 1))) else (none)) = some (r1, r2) := by (have H2_ := (Option.bind_some _ _).symm.trans H; rw [hy457]; with_reducible exact H2_)
     have Ny457 := Aside0.mk hy457
     clear hy457
     replace H := ifn H
     obtain ⟨c6, -, H⟩ := H
     have LMc6 := Aside0.mk c6
     clear c6
     obtain ⟨y461, hy461⟩ : ∃ y_ : List Int, y_ = (y457 ++ bytesOf (rdOf ByteArray.empty l0 x5_1)) := ⟨_, rfl⟩
     replace H : (peristyleref07_PutTexts.l0 k1 l0 y461 (wrap64 (x5_1 + 1))) = some (r1, r2) := by (rw [hy461]; with_reducible exact H)
     have Ny461 := Aside0.mk hy461
     clear hy461
     have H' := Aside0.mk H
     clear H
     have p455 : 0 ≤ (x5_1 : Int) := ad
     have q455 : x5_1 < (l0.length : Int) := ad
     obtain ⟨ad455, e455, hx455_0⟩ := Kd.at_string HR0.out x5_1 p455 q455
     cases e455
     replace hx455_0 := cb HB.out.cell hx455_0
     replace p455 := eq_true p455
     replace q455 := eq_true q455
     have p456 : 0 ≤ (x5_1 : Int) := ad
     have q456 : x5_1 < (l0.length : Int) := ad
     obtain ⟨ad456, e456, hx456_0⟩ := Kd.at_string HR0.out x5_1 p456 q456
     obtain rfl : ad455 = ad456 := (by injection e456)
     replace hx456_0 := cb HB.out.cell hx456_0
     replace p456 := eq_true p456
     replace q456 := eq_true q456
     go_wp2_with (first | ((with_reducible refine gate_builtin (b := .append) (xs := #[.tmp 18, .tmp 25]) rfl ?_); at_builtin; refine Kd.R_append (Kd.int .u8) (w0 := w) w.heap.size rfl (.tmp 18) (.tmp 25) 76 5 (.int .u8 0) 1 rfl Tryz.underlying76 info5 rfl (by decide) (by omega) u4 x4_1 ((((rdOf ByteArray.empty l0 x5_1).size : Int)) % 256) [.int .u8 ((((rdOf ByteArray.empty l0 x5_1).size : Int)) % 256)] (fun _ => True) (fun _ => False) rfl rfl ?aP (fun _ hk => hk.elim) ?aF ?aO ?aB ?aS ?aL ?_; (case aP => exact rfl); (case aB => exact (bh HB.out)); (case aF => exact (fun _ _ => trivial)); (case aO => exact (rx HO_4.out)); (case aS => exact (below_size (bh HB.out))); (case aL => have := LMc5.out; omega); intro v458 w7 ho hb hg hat; rw [← Ny457.out] at ho; have n0_ := Aside0.mk (hb); have n1_ := Aside0.mk (ho); clear HB HO_4; have HB := n0_; have HO459 := n1_; clear n0_ n1_ ho hb hg hat; have p460 : 0 ≤ (x5_1 : Int) := ad; have q460 : x5_1 < (l0.length : Int) := ad; obtain ⟨ad460, e460, hx460_0⟩ := Kd.at_string HR0.out x5_1 p460 q460; obtain rfl : ad455 = ad460 := (by injection e460); replace hx460_0 := cb HB.out.cell hx460_0; replace p460 := eq_true p460; replace q460 := eq_true q460) | (at_builtin; refine print_append_str (w0 := w) w.heap.size rfl (.tmp 27) _ 76 9 5 rfl Tryz.underlying76 Tryz.underlying9 info5 v458 y457 (rdOf ByteArray.empty l0 x5_1) rfl rfl ?aO ?aB ?aS ?aL ?_; (case aB => exact (bh HB.out)); (case aO => exact (Kd.own_of_R (rx HO459.out))); (case aS => exact (below_size (bh HB.out))); (case aL => have := LMc6.out; omega); intro v462 w8 ho0 hb hg; have ho := Kd.R_of_own (h1 := fun _ => rfl) (ok := fun _ => True) ho0 (fun _ _ => trivial); clear ho0; have hat := True.intro; rw [← Ny461.out] at ho; change Kd.R (Kd.int .u8) 5 w8 w.heap.size (fun _ => True) v462 y461 at ho; have n0_ := Aside0.mk (hb); have n1_ := Aside0.mk (ho); clear HB HO459; have HB := n0_; have HO463 := n1_; clear n0_ n1_ ho hb hg hat))
     go_roundg k1
     case measure => have := HK1.out; omega
     case rel => exact ⟨(y461), (wrap64 (x5_1 + 1)), (by rfl), H', ⟨by have := HK1.out; omega⟩, ⟨by exact HO463.out⟩, ⟨bh HB.out⟩⟩
   ·simp only [Option.some.injEq, Prod.mk.injEq] at H
    obtain ⟨rfl, rfl⟩ := H
    have hcv9 := own_string (P := Tryz.prog) Tryz.underlying76 Tryz.underlying5 Tryz.underlying9 (Kd.own_of_R HO_4.out)
    go_wp2
    go_ret2
    exact ⟨er, bh HB.out⟩
/-! ### peristyleref11_PutTexts: function 27 -/
def peristyleref11_PutTexts.f (k : Nat) (l0 : List ByteArray) : Option (ByteArray × Int) := if (l0.length : Int) > 65536 then (some ((⟨#[]⟩ : ByteArray), 1)) else (if (l0.length : Int) = 0 then (some ((⟨#[]⟩ : ByteArray), 0)) else ((peristyleref11_Texts.f k l0).bind fun bt464 => ((peristyleref07_PutTexts.f k bt464.1).bind fun bt470 => (if bt470.2 = 0 then ((peristyleref02_Put.f k (bt464.1.length : Int)).bind fun t472 => (if t472.size + bt470.1.size ≤ 9223372036854775807 then ((peristyleref11_packed.f k bt464.2).bind fun t473 => (if (t472 ++ bt470.1).size + t473.size ≤ 9223372036854775807 then (some ((t472 ++ bt470.1) ++ t473, 0)) else (none))) else (none))) else (some ((⟨#[]⟩ : ByteArray), bt470.2))))))
set_option maxHeartbeats 8000000 in
set_option maxRecDepth 100000 in
theorem peristyleref11_PutTexts.calls (k : Nat) (A0 : Option Addr) (c0 : Nat) (l0 : List ByteArray) (r1 : ByteArray) (r2 : Int) (w : World) (hr0 : Kd.C Kd.string w A0 l0.length l0) (hc0 : l0.length ≤ c0) (h : peristyleref11_PutTexts.f k l0 = some (r1, r2)) :
  Calls Tryz.prog 27 #[.slice A0 l0.length c0] w fun e w' => e = .returned (.tuple #[.string r1, .int .i64 r2]) ∧ Below w.heap.size w w' := by
 have HR0 := Aside0.mk hr0
 have HC0 := Aside0.mk hc0
 clear hr0 hc0
 have HB := Aside0.mk (Below.refl w.heap.size w)
 have H := h
 clear h
 unfold peristyleref11_PutTexts.f at H
 replace H := ifd H
 rcases H with ⟨c2, c2b0, H⟩ | ⟨c2, c2b0, H⟩
 ·have c2b1 : decide (65536 < l0.length) = true := decide_eq_true (by omega)
  clear c2
  simp only [Option.some.injEq, Prod.mk.injEq] at H
  obtain ⟨rfl, rfl⟩ := H
  go_enter Tryz.func27, Tryz.ntmps27
  go_wp2
  go_ret2
  exact ⟨er, bh HB.out⟩
 ·have c2b1 : decide (65536 < l0.length) = false := decide_eq_false (by omega)
  clear c2
  replace H := ife H
  rcases H with ⟨-, c3b0, c3b1, H⟩ | ⟨c3, c3b0, c3b1, H⟩
  ·simp only [Option.some.injEq, Prod.mk.injEq] at H
   obtain ⟨rfl, rfl⟩ := H
   go_enter Tryz.func27, Tryz.ntmps27
   go_wp2
   go_ret2
   exact ⟨er, bh HB.out⟩
  ·have c3b2 : ¬ (l0 = []) := fun h_ => c3 (by rw [h_]; rfl)
   replace H := bd H
   obtain ⟨⟨t464, t465⟩, A4, H⟩ := H
   dsimp only at H
   replace H := bd H
   obtain ⟨⟨t470, t471⟩, A5, H⟩ := H
   dsimp only at H
   replace H := ife H
   rcases H with ⟨-, c6b0, c6b1, H⟩ | ⟨c6, c6b0, c6b1, H⟩
   ·replace H := bd H
    obtain ⟨t472, A7, H⟩ := H
    replace H := ifn H
    obtain ⟨c8, -, H⟩ := H
    have c8b0 := eq_true c8
    have c8b1 : decide (t472.size + t470.size ≤ 9223372036854775807) = true := decide_eq_true c8
    have c8b2 : (9223372036854775807 < t472.size + t470.size) = False := eq_false (Nat.not_lt.2 c8)
    replace H := bd H
    obtain ⟨t473, A9, H⟩ := H
    replace H := ifn H
    obtain ⟨c10, -, H⟩ := H
    have c10b0 := eq_true c10
    have c10b1 : decide ((t472 ++ t470).size + t473.size ≤ 9223372036854775807) = true := decide_eq_true c10
    ((have c10b1s := c10b1; simp only [ByteArray.size_append] at c10b1s))
    have c10b2 : (9223372036854775807 < (t472 ++ t470).size + t473.size) = False := eq_false (Nat.not_lt.2 c10)
    ((have c10b2s := c10b2; simp only [ByteArray.size_append] at c10b2s))
    simp only [Option.some.injEq, Prod.mk.injEq] at H
    obtain ⟨rfl, rfl⟩ := H
    go_enter Tryz.func27, Tryz.ntmps27
    go_wp2_with (first | ((with_reducible refine gate_callee (f := 30) rfl ?_); refine gL 16 Tryz.func30 #[.slice A0 l0.length c0] ?_; (with_reducible refine (peristyleref11_Texts.calls k _ _ l0 t464 t465 _ ?side1 ?side2 A4.out).mono ?_); (case side1 => exact cx HR0.out); (case side2 => exact HC0.out); rintro e w11 ⟨v466, v468, rfl, ho0, ho1, hb⟩; refine ⟨_, rfl, ?_⟩; have HO467 := Aside0.mk (Kd.R_lower ho0 (below_size (bh HB.out))); have HO469 := Aside0.mk (Kd.R_lower ho1 (below_size (bh HB.out))); replace HB := bsa HB hb; clear hb ho0 ho1; obtain ⟨Ao12, co12, eo12⟩ := Kd.R_slice HO467.out; subst eo12) | ((with_reducible refine gate_callee (f := 53) rfl ?_); refine gL 21 Tryz.func53 #[.slice Ao12 t464.length co12] ?_; (with_reducible refine (peristyleref07_PutTexts.calls k _ _ t464 t470 t471 _ ?side1 ?side2 A5.out).mono ?_); (case side1 => exact cx (Kd.R_reads' HO467.out).2.2); (case side2 => exact (Kd.R_reads' HO467.out).2.1); rintro e w13 ⟨rfl, hb⟩; refine ⟨_, rfl, ?_⟩; replace HO467 := rba HO467 hb; replace HO469 := rba HO469 hb; replace HB := bsa HB hb; clear hb) | ((with_reducible refine gate_callee (f := 46) rfl ?_); refine gL 29 Tryz.func46 #[.int .i64 (t464.length : Int)] ?_; (with_reducible refine (peristyleref02_Put.calls k (t464.length : Int) t472 _ A7.out).mono ?_); rintro e w14 ⟨rfl, hb⟩; refine ⟨_, rfl, ?_⟩; replace HO467 := rba HO467 hb; replace HO469 := rba HO469 hb; replace HB := bsa HB hb; clear hb; obtain ⟨Ao15, co15, eo15⟩ := Kd.R_slice HO469.out; subst eo15) | ((with_reducible refine gate_callee (f := 52) rfl ?_); refine gL 33 Tryz.func52 #[.slice Ao15 t465.length co15] ?_; (with_reducible refine (peristyleref11_packed.calls k _ _ t465 t473 _ ?side1 ?side2 A9.out).mono ?_); (case side1 => exact cx (Kd.R_reads' HO469.out).2.2); (case side2 => exact (Kd.R_reads' HO469.out).2.1); rintro e w16 ⟨rfl, hb⟩; refine ⟨_, rfl, ?_⟩; replace HO467 := rba HO467 hb; replace HO469 := rba HO469 hb; replace HB := bsa HB hb; clear hb))
    go_ret2
    exact ⟨er, bh HB.out⟩
   ·simp only [Option.some.injEq, Prod.mk.injEq] at H
    obtain ⟨rfl, rfl⟩ := H
    go_enter Tryz.func27, Tryz.ntmps27
    go_wp2_with (first | ((with_reducible refine gate_callee (f := 30) rfl ?_); refine gL 16 Tryz.func30 #[.slice A0 l0.length c0] ?_; (with_reducible refine (peristyleref11_Texts.calls k _ _ l0 t464 t465 _ ?side1 ?side2 A4.out).mono ?_); (case side1 => exact cx HR0.out); (case side2 => exact HC0.out); rintro e w17 ⟨v466, v468, rfl, ho0, ho1, hb⟩; refine ⟨_, rfl, ?_⟩; have HO467 := Aside0.mk (Kd.R_lower ho0 (below_size (bh HB.out))); have HO469 := Aside0.mk (Kd.R_lower ho1 (below_size (bh HB.out))); replace HB := bsa HB hb; clear hb ho0 ho1; obtain ⟨Ao18, co18, eo18⟩ := Kd.R_slice HO467.out; subst eo18) | ((with_reducible refine gate_callee (f := 53) rfl ?_); refine gL 21 Tryz.func53 #[.slice Ao18 t464.length co18] ?_; (with_reducible refine (peristyleref07_PutTexts.calls k _ _ t464 t470 t471 _ ?side1 ?side2 A5.out).mono ?_); (case side1 => exact cx (Kd.R_reads' HO467.out).2.2); (case side2 => exact (Kd.R_reads' HO467.out).2.1); rintro e w19 ⟨rfl, hb⟩; refine ⟨_, rfl, ?_⟩; replace HO467 := rba HO467 hb; replace HO469 := rba HO469 hb; replace HB := bsa HB hb; clear hb))
    go_ret2
    exact ⟨er, bh HB.out⟩
end Go.Proofs.YtfohecpfenegkaaGreat.Print
end
section
namespace Go.Proofs.YtfohecpfenegkaaGreat.Print
open Go.RowKit Go.Proofs.YtfohecpfenegkaaGreatW.PrintWords Go.Proofs.YtfohecpfenegkaaGreatW.PrintLast Go.Proofs.YtfohecpfenegkaaGreatW.PrintMore
attribute [local go_sem] max2_int min2_int max_two min_two max_three min_three max_four min_four   -- for this text's walks alone
set_option linter.unusedVariables false
set_option linter.unusedSimpArgs false
/-! ### peristyleref11_TakeTexts: function 8 -/
mutual
def peristyleref11_TakeTexts.j0 : Nat → ByteArray → Int → Bool → Option (List ByteArray × Int)
 | 0, _, _, _ => none
 | k + 1, x0, x1, x23 => if x23 = true then (some (([] : List ByteArray), 1)) else (if x1 = 0 then (peristyleref11_TakeTexts.j1 k x0 x1 (x0.toList == ([] : List UInt8))) else (peristyleref11_TakeTexts.j1 k x0 x1 false))
def peristyleref11_TakeTexts.j1 : Nat → ByteArray → Int → Bool → Option (List ByteArray × Int)
 | 0, _, _, _ => none
 | k + 1, x0, x1, x29 => if x29 = true then (some (([] : List ByteArray), 0)) else ((peristyleref11_head.f k x0 x1).bind fun bt474 => (if bt474.2.2 = true then (if 0 ≤ bt474.2.1 then (if bt474.2.1 ≤ (x0.size : Int) then ((peristyleref11_texts.f k (x0.extract (bt474.2.1 : Int).toNat x0.size) bt474.1).bind fun bt477 => (if bt477.2.2 = true then (if 0 ≤ (wrap64 (bt474.2.1 + bt477.2.1)) then (if (wrap64 (bt474.2.1 + bt477.2.1)) ≤ (x0.size : Int) then ((peristyleref11_width.f k bt474.1).bind fun t482 => ((peristyleref08_Take.f k (x0.extract ((wrap64 (bt474.2.1 + bt477.2.1)) : Int).toNat x0.size) x1 t482).bind fun bt483 => (if bt483.2 = 0 then (peristyleref11_TakeTexts.l0 k x0 bt477.1 bt483.1 ([] : List ByteArray) 0) else (some (([] : List ByteArray), 20))))) else (none)) else (none)) else (some (([] : List ByteArray), 20)))) else (none)) else (none)) else (some (([] : List ByteArray), 20))))
def peristyleref11_TakeTexts.l0 : Nat → ByteArray → List ByteArray → List Int → List ByteArray → Int → Option (List ByteArray × Int)
 | 0, _, _, _, _, _ => none
 | k + 1, x0, x9, x12, x14, x15 => if x15 < (x12.length : Int) then (if 0 ≤ x15 then (if (rd x12 x15) < 0 then (some (([] : List ByteArray), 20)) else (if (rd x12 x15) ≥ (x9.length : Int) then (some (([] : List ByteArray), 20)) else (if 0 ≤ (rd x12 x15) then (if (rd x12 x15) < (x9.length : Int) then (if x14.length < 8796093022208 then (peristyleref11_TakeTexts.l0 k x0 x9 x12 (x14 ++ [rdOf ByteArray.empty x9 (rd x12 x15)]) (wrap64 (x15 + 1))) else (none)) else (none)) else (none)))) else (none)) else ((peristyleref11_PutTexts.f k x14).bind fun bt494 => (if bt494.1.toList = x0.toList then (some (x14, 0)) else (some (([] : List ByteArray), 20))))
end
def peristyleref11_TakeTexts.f (k : Nat) (a0 : ByteArray) (a1 : Int) : Option (List ByteArray × Int) := if a1 < 0 then (peristyleref11_TakeTexts.j0 k a0 a1 true) else (peristyleref11_TakeTexts.j0 k a0 a1 (decide (a1 > 65536)))
theorem peristyleref11_TakeTexts.j0_succ (k) (a0) (a1) (a2) : type_of% (@peristyleref11_TakeTexts.j0.eq_2 a0 a1 a2 k) := peristyleref11_TakeTexts.j0.eq_2 a0 a1 a2 k
theorem peristyleref11_TakeTexts.j1_succ (k) (a0) (a1) (a2) : type_of% (@peristyleref11_TakeTexts.j1.eq_2 a0 a1 a2 k) := peristyleref11_TakeTexts.j1.eq_2 a0 a1 a2 k
theorem peristyleref11_TakeTexts.l0_succ (k) (a0) (a1) (a2) (a3) (a4) : type_of% (@peristyleref11_TakeTexts.l0.eq_2 a0 a1 a2 a3 a4 k) := peristyleref11_TakeTexts.l0.eq_2 a0 a1 a2 a3 a4 k
def peristyleref11_TakeTexts.T11 : Bool × List (List Nat × List Nat) := (true, [([], []), ([], []), ([], []), ([1, 2], [1, 2]), ([0, 3], [0, 3]), ([], []), ([], []), ([6], [6]), ([4, 5, 7, 7], [4, 5, 7]), ([8], [8]), ([9], [9]), ([9], [9]), ([10, 8, 0, 1, 2, 3, 4, 5, 6, 7, 8, 9, 10], [10]), ([11, 12, 0, 1, 2, 3, 4, 5, 6, 7, 8, 9, 10, 11, 12], [11])])
def peristyleref11_TakeTexts.B11 : List Nat := [0, 0, 0, 6, 15, 0, 0, 64, 255, 511, 1023, 1023, 2047, 8191]
theorem peristyleref11_TakeTexts.tab11 : rtab .any (opsOf Tryz.f8 11) = peristyleref11_TakeTexts.T11 := by kernel_rfl
theorem peristyleref11_TakeTexts.bits11 : waitsOk peristyleref11_TakeTexts.T11.2 peristyleref11_TakeTexts.B11 = true := by kernel_rfl
set_option maxHeartbeats 8000000 in
set_option maxRecDepth 100000 in
theorem peristyleref11_TakeTexts.calls (k : Nat) (a0 : ByteArray) (a1 : Int) (r1 : List ByteArray) (r2 : Int) (w : World) (h : peristyleref11_TakeTexts.f k a0 a1 = some (r1, r2)) :
  Calls Tryz.prog 8 #[.string a0, .int .i64 a1] w fun e w' => ∃ v0_ : Value, e = .returned (.tuple #[v0_, .int .i64 r2]) ∧ Kd.R Kd.string 9 w' w.heap.size (fun _ => True) v0_ r1 ∧ Below w.heap.size w w' := by
 have HB := Aside0.mk (Below.refl w.heap.size w)
 have H := h
 clear h
 unfold peristyleref11_TakeTexts.f at H
 have HC3 := Aside0.mk H
 clear H
 go_enter Tryz.func8, Tryz.ntmps8
 go_upto_region 1 with (fail)
 go_cut [23] (fun v23 wc => ∃ (kq : Nat) (x23_2 : Bool), v23 = .bool x23_2 ∧ Aside0 (peristyleref11_TakeTexts.j0 kq a0 a1 x23_2 = some (r1, r2)) ∧ Aside0 (kq ≤ k) ∧ Aside0 (Below w.heap.size w wc))
 case first =>
  have H := HC3.out
  clear HC3
  replace H := ifd H
  rcases H with ⟨-, c4b0, H⟩ | ⟨-, c4b0, H⟩
  ·(skip)
   have H' := Aside0.mk H
   clear H
   go_wp2
   go_meet
   case rel => exact ⟨_, (true), (by rfl), H', ⟨by omega⟩, ⟨bh HB.out⟩⟩
  ·(skip)
   have H' := Aside0.mk H
   clear H
   go_wp2
   go_meet
   case rel => exact ⟨_, (decide (a1 > 65536)), (by rfl), H', ⟨by omega⟩, ⟨bh HB.out⟩⟩
 case rest =>
  clear HC3
  obtain ⟨kq, x23_2, rfl, HA, HJ2, HB⟩ := hcut
  cases kq with
  | zero => exact absurd HA.out (by simp [peristyleref11_TakeTexts.j0])
  | succ kj2 =>
   have H := HA.out
   clear HA
   simp only [peristyleref11_TakeTexts.j0] at H
   replace H := ifb H
   rcases H with ⟨rfl, H⟩ | ⟨rfl, H⟩
   ·simp only [Option.some.injEq, Prod.mk.injEq] at H
    obtain ⟨rfl, rfl⟩ := H
    go_wp2
    go_ret2
    exact ⟨_, er, nl, bh HB.out⟩
   ·have HC6 := Aside0.mk H
    clear H
    go_upto_region 3 with (fail)
    go_cut [29] (fun v29 wc => ∃ (kq : Nat) (x29_5 : Bool), v29 = .bool x29_5 ∧ Aside0 (peristyleref11_TakeTexts.j1 kq a0 a1 x29_5 = some (r1, r2)) ∧ Aside0 (kq ≤ kj2) ∧ Aside0 (Below w.heap.size w wc))
    case first =>
     have H := HC6.out
     clear HC6
     replace H := ife H
     rcases H with ⟨-, c7b0, c7b1, H⟩ | ⟨c7, c7b0, c7b1, H⟩
     ·(skip)
      have H' := Aside0.mk H
      clear H
      go_wp2
      go_meet
      case rel => exact ⟨_, ((a0.toList == ([] : List UInt8))), (by (simp; done)), H', ⟨by have := HJ2.out; omega⟩, ⟨bh HB.out⟩⟩
     ·(skip)
      have H' := Aside0.mk H
      clear H
      go_wp2
      go_meet
      case rel => exact ⟨_, (false), (by rfl), H', ⟨by have := HJ2.out; omega⟩, ⟨bh HB.out⟩⟩
    case rest =>
     clear HC6
     obtain ⟨kq, x29_5, rfl, HA, HJ5, HB⟩ := hcut
     cases kq with
     | zero => exact absurd HA.out (by simp [peristyleref11_TakeTexts.j1])
     | succ kj5 =>
      have H := HA.out
      clear HA
      simp only [peristyleref11_TakeTexts.j1] at H
      replace H := ifb H
      rcases H with ⟨rfl, H⟩ | ⟨rfl, H⟩
      ·simp only [Option.some.injEq, Prod.mk.injEq] at H
       obtain ⟨rfl, rfl⟩ := H
       go_wp2
       go_ret2
       exact ⟨_, er, nl, bh HB.out⟩
      ·replace H := bd H
       obtain ⟨⟨t474, t475, t476⟩, A9, H⟩ := H
       dsimp only at H
       replace H := ifb H
       rcases H with ⟨rfl, H⟩ | ⟨rfl, H⟩
       ·replace H := ifn H
        obtain ⟨c11, -, H⟩ := H
        have c11b0 := eq_true c11
        have c11b1 : decide (0 ≤ t475) = true := decide_eq_true c11
        clear c11
        replace H := ifn H
        obtain ⟨c12, -, H⟩ := H
        have c12b0 := eq_true c12
        have c12b1 : decide (t475 ≤ (a0.size : Int)) = true := decide_eq_true c12
        clear c12
        replace H := bd H
        obtain ⟨⟨t477, t478, t479⟩, A13, H⟩ := H
        dsimp only at H
        replace H := ifb H
        rcases H with ⟨rfl, H⟩ | ⟨rfl, H⟩
        ·obtain ⟨ji15, hji15⟩ : ∃ j_ : Int, (wrap64 (t475 + t478)) = j_ := ⟨_, rfl⟩
         replace H : (if 0 ≤ (ji15) then (if (ji15) ≤ (a0.size : Int) then ((peristyleref11_width.f kj5 t474).bind fun t482 => ((peristyleref08_Take.f kj5 (a0.extract ((ji15) : Int).toNat a0.size) a1 t482).bind fun bt483 => (if bt483.2 = 0 then (peristyleref11_TakeTexts.l0 kj5 a0 t477 bt483.1 ([] : List ByteArray) 0) else (some (([] : List ByteArray), 20))))) else (none)) else (none)) = some (r1, r2) := by (rw [hji15] at H; exact H)
         have hji15w : (IntKind.i64.wrap (t475 + t478)) = ji15 := (i64_w _).trans hji15
         replace H := ifn H
         obtain ⟨c16, -, H⟩ := H
         have c16b0 := eq_true c16
         have c16b1 : decide (0 ≤ (ji15)) = true := decide_eq_true c16
         clear c16
         replace H := ifn H
         obtain ⟨c17, -, H⟩ := H
         have c17b0 := eq_true c17
         have c17b1 : decide ((ji15) ≤ (a0.size : Int)) = true := decide_eq_true c17
         clear c17
         replace H := bd H
         obtain ⟨t482, A18, H⟩ := H
         replace H := bd H
         obtain ⟨⟨t483, t484⟩, A19, H⟩ := H
         dsimp only at H
         replace H := ife H
         rcases H with ⟨-, c20b0, c20b1, H⟩ | ⟨c20, c20b0, c20b1, H⟩
         ·have H' := Aside0.mk H
          clear H
          go_wp2_with (first | ((with_reducible refine gate_callee (f := 20) rfl ?_); refine gL 33 Tryz.func20 #[.string a0, .int .i64 a1] ?_; (with_reducible refine (peristyleref11_head.calls kj5 a0 a1 t474 t475 true _ A9.out).mono ?_); rintro e w21 ⟨rfl, hb⟩; refine ⟨_, rfl, ?_⟩; replace HB := bsa HB hb; clear hb) | ((with_reducible refine gate_callee (f := 26) rfl ?_); refine gL 44 Tryz.func26 #[.string (a0.extract (t475 : Int).toNat a0.size), .int .i64 t474] ?_; (with_reducible refine (peristyleref11_texts.calls kj5 (a0.extract (t475 : Int).toNat a0.size) t474 t477 t478 true _ A13.out).mono ?_); rintro e w22 ⟨v480, rfl, ho0, hb⟩; refine ⟨_, rfl, ?_⟩; have HO481 := Aside0.mk (Kd.R_lower ho0 (below_size (bh HB.out))); replace HB := bsa HB hb; clear hb ho0))
          replace HO481 := Aside0.mk (Kd.R_drew HO481.out)
          replace HB := Aside0.mk (below_drew1 HB.out)
          refine start_ (n := 14) (S := fun w' => True) (ds := []) #[false, false, false, false, false, false, false, false, false, false, false, false, false, false] (by kernel_rfl) rfl rfl trivial (fun hHeld => ?_); refine with_tabW peristyleref11_TakeTexts.tab11 peristyleref11_TakeTexts.bits11 (fun HT_ HW_ => ?_)
          generalize w22.drew = w23 at HO481 HB hHeld ⊢
          refine puA HT_ 0 51 (bv 14 1) ?_
          refine puA HT_ 1 52 (bv 14 3) ?_
          refine puA HT_ 2 53 (bv 14 7) ?_
          refine puA HT_ 3 54 (bv 14 15) ?_
          refine puA HT_ 4 55 (bv 14 31) ?_
          refine puA HT_ 5 56 (bv 14 63) ?_
          refine puA HT_ 6 57 (bv 14 127) ?_
          refine one_ (i := 7) (N := some 58) #[true, true, true, true, true, true, true, true, false, false, false, false, false, false] rfl rfl (one_of HT_.out (by kernel_rfl)) (by decide) (fun K hK => ?_)
          refine goes_ Tryz.func23 (by kernel_rfl) rfl #[.int .i64 t474] (by rfl) rfl rfl (by (simp only [List.map_toArray, List.map_cons, List.map_nil]); rfl) ?_
          with_reducible refine (peristyleref11_width.calls kj5 t474 t482 _ A18.out).mono ?_
          rintro e w24 ⟨rfl, hb⟩
          refine ⟨_, rfl, ?_⟩
          replace HO481 := rba HO481 hb
          replace HB := bsa HB hb
          clear hb
          refine hK.out _ _ trivial (fun hHeld => ?_)
          clear hK K
          refine norm_ (a' := ?_) ?_ ?_
          rotate_left
          ·show Act.put _ (some 58) _ = _
           simp only [Act.put, List.setIfInBounds_toArray, List.set_cons_zero, List.set_cons_succ, i64_w, i32_w]
           rfl
          refine one_ (i := 8) (N := some 59) #[true, true, true, true, true, true, true, true, true, false, false, false, false, false] rfl rfl (one_of HT_.out (by kernel_rfl)) (by decide) (fun K hK => ?_)
          refine goes_ Tryz.func22 (by kernel_rfl) rfl #[.string (a0.extract ((ji15) : Int).toNat a0.size), .int .i64 a1, .int .i64 t482] (by rfl) rfl rfl (by (simp only [List.map_toArray, List.map_cons, List.map_nil]); rfl) ?_
          with_reducible refine (peristyleref08_Take.calls kj5 (a0.extract ((ji15) : Int).toNat a0.size) a1 t482 t483 t484 _ A19.out).mono ?_
          rintro e w25 ⟨v485, rfl, ho0, hb⟩
          refine ⟨_, rfl, ?_⟩
          replace HO481 := rba HO481 hb
          have HO486 := Aside0.mk (Kd.R_lower ho0 (below_size (bh HB.out)))
          replace HB := bsa HB hb
          clear hb ho0
          refine hK.out _ _ trivial (fun hHeld => ?_)
          clear hK K
          refine norm_ (a' := ?_) ?_ ?_
          rotate_left
          ·show Act.put _ (some 59) _ = _
           simp only [Act.put, List.setIfInBounds_toArray, List.set_cons_zero, List.set_cons_succ, i64_w, i32_w]
           rfl
          refine puA HT_ 9 50 (bv 14 1023) ?_
          refine puA HT_ 10 60 (bv 14 2047) ?_
          refine puA HT_ 11 61 (bv 14 4095) ?_
          refine puA HT_ 12 12 (bv 14 8191) ?_
          refine puA HT_ 13 13 (bv 14 16383) ?_
          refine done_ (done_of HT_.out (by kernel_rfl)) ?_
          go_wp2
          go_loopg [14, 15] kj5 (fun kq v14 v15 w' => ∃ (x14_3 : List ByteArray) (x15_3 : Int), v15 = .int .i64 x15_3 ∧ Aside0 (peristyleref11_TakeTexts.l0 kq a0 t477 t483 x14_3 x15_3 = some (r1, r2)) ∧ Aside0 (kq ≤ kj5) ∧ Aside0 (Kd.R Kd.string 9 w' w.heap.size (fun k_ => some k_ ≠ (v14 : Value).ownBlock) v480 t477) ∧ Aside0 (Kd.R (Kd.int .i64) 3 w' w.heap.size (fun _ => True) v485 t483) ∧ Aside0 (Kd.R Kd.string 9 w' w.heap.size (fun k_ => some k_ ≠ (v480 : Value).ownBlock) v14 x14_3) ∧ Aside0 (Below w.heap.size w w'))
          case atStart => exact ⟨(([] : List ByteArray)), (0), (by rfl), H', ⟨Nat.le_refl _⟩, ⟨by exact Kd.R_mono HO481.out (fun _ hk => (by simp [Value.ownBlock]))⟩, ⟨by exact HO486.out⟩, ⟨nl⟩, ⟨bh HB.out⟩⟩
          case round =>
           clear H' c11b0 c11b1 c12b0 c12b1 c16b0 c16b1 c17b0 c17b1 c20b0 c20b1
           obtain ⟨x14_3, x15_3, rfl, HA, HK3, HO_9, HO_12, HO_14, HB⟩ := hrel
           cases gk with
           | zero => exact absurd HA.out (by simp [peristyleref11_TakeTexts.l0])
           | succ k3 =>
            have H := HA.out
            clear HA
            simp only [peristyleref11_TakeTexts.l0] at H
            replace H := ifd H
            rcases H with ⟨-, c26b0, H⟩ | ⟨-, c26b0, H⟩
            ·replace H := ifn H
             obtain ⟨-, c27b0, H⟩ := H
             replace H := ifd H
             rcases H with ⟨-, c28b0, H⟩ | ⟨-, c28b0, H⟩
             ·simp only [Option.some.injEq, Prod.mk.injEq] at H
              obtain ⟨rfl, rfl⟩ := H
              obtain ⟨Ao29, co29, eo29⟩ := Kd.R_slice HO_12.out
              subst eo29
              have p487 : 0 ≤ (x15_3 : Int) := ad
              have q487 : x15_3 < (t483.length : Int) := ad
              obtain ⟨ad487, e487, hx487_0⟩ := Kd.at_int (Kd.R_reads' HO_12.out).2.2 x15_3 p487 q487
              cases e487
              replace p487 := eq_true p487
              replace q487 := eq_true q487
              go_wp2
              go_ret2
              exact ⟨_, by rfl, nl, bh HB.out⟩
             ·replace H := ifd H
              rcases H with ⟨-, c30b0, H⟩ | ⟨-, c30b0, H⟩
              ·simp only [Option.some.injEq, Prod.mk.injEq] at H
               obtain ⟨rfl, rfl⟩ := H
               obtain ⟨Ao31, co31, eo31⟩ := Kd.R_slice HO_12.out
               subst eo31
               have p487 : 0 ≤ (x15_3 : Int) := ad
               have q487 : x15_3 < (t483.length : Int) := ad
               obtain ⟨ad487, e487, hx487_0⟩ := Kd.at_int (Kd.R_reads' HO_12.out).2.2 x15_3 p487 q487
               cases e487
               replace p487 := eq_true p487
               replace q487 := eq_true q487
               have p488 : 0 ≤ (x15_3 : Int) := ad
               have q488 : x15_3 < (t483.length : Int) := ad
               obtain ⟨ad488, e488, hx488_0⟩ := Kd.at_int (Kd.R_reads' HO_12.out).2.2 x15_3 p488 q488
               obtain rfl : ad487 = ad488 := (by injection e488)
               replace p488 := eq_true p488
               replace q488 := eq_true q488
               obtain ⟨Ao32, co32, eo32⟩ := Kd.R_slice HO_9.out
               subst eo32
               go_wp2
               go_ret2
               exact ⟨_, by rfl, nl, bh HB.out⟩
              ·replace H := ifn H
               obtain ⟨-, c33b0, H⟩ := H
               replace H := ifn H
               obtain ⟨-, c34b0, H⟩ := H
               replace H := ifn H
               obtain ⟨c35, -, H⟩ := H
               have LMc35 := Aside0.mk c35
               clear c35
               obtain ⟨y491, hy491⟩ : ∃ y_ : List ByteArray, y_ = (x14_3 ++ [rdOf ByteArray.empty t477 (rd t483 x15_3)]) := ⟨_, rfl⟩
               replace H : (peristyleref11_TakeTexts.l0 k3 a0 t477 t483 y491 (wrap64 (x15_3 + 1))) = some (r1, r2) := by (rw [hy491]; with_reducible exact H)
               have Ny491 := Aside0.mk hy491
               clear hy491
               have H' := Aside0.mk H
               clear H
               obtain ⟨Ao36, co36, eo36⟩ := Kd.R_slice HO_12.out
               subst eo36
               have p487 : 0 ≤ (x15_3 : Int) := ad
               have q487 : x15_3 < (t483.length : Int) := ad
               obtain ⟨ad487, e487, hx487_0⟩ := Kd.at_int (Kd.R_reads' HO_12.out).2.2 x15_3 p487 q487
               cases e487
               replace p487 := eq_true p487
               replace q487 := eq_true q487
               have p488 : 0 ≤ (x15_3 : Int) := ad
               have q488 : x15_3 < (t483.length : Int) := ad
               obtain ⟨ad488, e488, hx488_0⟩ := Kd.at_int (Kd.R_reads' HO_12.out).2.2 x15_3 p488 q488
               obtain rfl : ad487 = ad488 := (by injection e488)
               replace p488 := eq_true p488
               replace q488 := eq_true q488
               obtain ⟨Ao37, co37, eo37⟩ := Kd.R_slice HO_9.out
               subst eo37
               have p489 : 0 ≤ (x15_3 : Int) := ad
               have q489 : x15_3 < (t483.length : Int) := ad
               obtain ⟨ad489, e489, hx489_0⟩ := Kd.at_int (Kd.R_reads' HO_12.out).2.2 x15_3 p489 q489
               obtain rfl : ad487 = ad489 := (by injection e489)
               replace p489 := eq_true p489
               replace q489 := eq_true q489
               have p490 : 0 ≤ ((rd t483 x15_3) : Int) := ad
               have q490 : (rd t483 x15_3) < (t477.length : Int) := ad
               obtain ⟨ad490, e490, hx490_0⟩ := Kd.at_string (Kd.R_reads' HO_9.out).2.2 (rd t483 x15_3) p490 q490
               cases e490
               replace p490 := eq_true p490
               replace q490 := eq_true q490
               go_wp2_with (((with_reducible refine gate_builtin (b := .append) (xs := #[.tmp 84, .tmp 92]) rfl ?_); ((refine gate_guard (by rfl) ?_; dsimp only)); at_builtin; refine Kd.R_append Kd.string (w0 := w) w.heap.size rfl (.tmp 84) (.tmp 92) 27 9 (.string ⟨#[]⟩) 16 rfl Tryz.underlying27 info9 rfl (by decide) (by omega) u14 x14_3 (rdOf ByteArray.empty t477 (rd t483 x15_3)) [.string (rdOf ByteArray.empty t477 (rd t483 x15_3))] (fun k_ => some k_ ≠ (.slice (some ad490) t477.length co37 : Value).ownBlock) (fun _ => False) rfl rfl ?aP (fun _ hk => hk.elim) ?aF ?aO ?aB ?aS ?aL ?_; (case aP => exact rfl); (case aB => exact (bh HB.out)); (case aF => exact (fun k_ hk => Kd.fresh' (Kd.R_lt (rx HO_9.out)) k_ hk)); (case aO => exact (rx HO_14.out)); (case aS => exact (below_size (bh HB.out))); (case aL => have := LMc35.out; omega); intro v492 w38 ho hb hg hat; rw [← Ny491.out] at ho; have n0_ := Aside0.mk (Kd.R_after (ok := (fun _ => True)) (by exact Kd.R_mono HO_9.out (fun _ hk => ⟨trivial, hk⟩)) hg hat); have n1_ := Aside0.mk (Kd.R_over' (rx HO_12.out) (Kd.R_typed (rx HO_14.out)) (by decide) hg); have n2_ := Aside0.mk (hb); have n3_ := Aside0.mk (ho); clear HO_9 HO_12 HB HO_14; have HO_9 := n0_; have HO_12 := n1_; have HB := n2_; have HO493 := n3_; clear n0_ n1_ n2_ n3_ ho hb hg hat))
               go_roundg k3
               case measure => have := HJ2.out; have := HJ5.out; have := HK3.out; omega
               case rel => exact ⟨(y491), (wrap64 (x15_3 + 1)), (by rfl), (by exact H'), ⟨by have := HJ2.out; have := HJ5.out; have := HK3.out; omega⟩, ⟨by exact Kd.R_mono HO_9.out (fun _ hk => hk.2)⟩, ⟨by exact HO_12.out⟩, ⟨by exact HO493.out⟩, ⟨bh HB.out⟩⟩
            ·replace H := bd H
             obtain ⟨⟨t494, t495⟩, A39, H⟩ := H
             dsimp only at H
             replace H := ife H
             rcases H with ⟨-, c40b0, c40b1, H⟩ | ⟨c40, c40b0, c40b1, H⟩
             ·simp only [Option.some.injEq, Prod.mk.injEq] at H
              obtain ⟨rfl, rfl⟩ := H
              obtain ⟨Ao41, co41, eo41⟩ := Kd.R_slice HO_12.out
              subst eo41
              obtain ⟨Ao42, co42, eo42⟩ := Kd.R_slice HO_14.out
              subst eo42
              go_wp2_with (((with_reducible refine gate_callee (f := 27) rfl ?_); refine gL 96 Tryz.func27 #[.slice Ao42 x14_3.length co42] ?_; (with_reducible refine (peristyleref11_PutTexts.calls k3 _ _ x14_3 t494 t495 _ ?side1 ?side2 A39.out).mono ?_); (case side1 => exact cx (Kd.R_reads' HO_14.out).2.2); (case side2 => exact (Kd.R_reads' HO_14.out).2.1); rintro e w43 ⟨rfl, hb⟩; refine ⟨_, rfl, ?_⟩; replace HO_9 := rba HO_9 hb; replace HO_12 := rba HO_12 hb; replace HO_14 := rba HO_14 hb; replace HB := bsa HB hb; clear hb))
              go_ret2
              exact ⟨_, by rfl, by exact Kd.R_mono HO_14.out (fun _ hk => trivial), bh HB.out⟩
             ·simp only [Option.some.injEq, Prod.mk.injEq] at H
              obtain ⟨rfl, rfl⟩ := H
              obtain ⟨Ao44, co44, eo44⟩ := Kd.R_slice HO_12.out
              subst eo44
              obtain ⟨Ao45, co45, eo45⟩ := Kd.R_slice HO_14.out
              subst eo45
              go_wp2_with (((with_reducible refine gate_callee (f := 27) rfl ?_); refine gL 96 Tryz.func27 #[.slice Ao45 x14_3.length co45] ?_; (with_reducible refine (peristyleref11_PutTexts.calls k3 _ _ x14_3 t494 t495 _ ?side1 ?side2 A39.out).mono ?_); (case side1 => exact cx (Kd.R_reads' HO_14.out).2.2); (case side2 => exact (Kd.R_reads' HO_14.out).2.1); rintro e w46 ⟨rfl, hb⟩; refine ⟨_, rfl, ?_⟩; replace HO_9 := rba HO_9 hb; replace HO_12 := rba HO_12 hb; replace HO_14 := rba HO_14 hb; replace HB := bsa HB hb; clear hb))
              go_ret2
              exact ⟨_, by rfl, nl, bh HB.out⟩
         ·simp only [Option.some.injEq, Prod.mk.injEq] at H
          obtain ⟨rfl, rfl⟩ := H
          go_wp2_with (first | ((with_reducible refine gate_callee (f := 20) rfl ?_); refine gL 33 Tryz.func20 #[.string a0, .int .i64 a1] ?_; (with_reducible refine (peristyleref11_head.calls kj5 a0 a1 t474 t475 true _ A9.out).mono ?_); rintro e w47 ⟨rfl, hb⟩; refine ⟨_, rfl, ?_⟩; replace HB := bsa HB hb; clear hb) | ((with_reducible refine gate_callee (f := 26) rfl ?_); refine gL 44 Tryz.func26 #[.string (a0.extract (t475 : Int).toNat a0.size), .int .i64 t474] ?_; (with_reducible refine (peristyleref11_texts.calls kj5 (a0.extract (t475 : Int).toNat a0.size) t474 t477 t478 true _ A13.out).mono ?_); rintro e w48 ⟨v480, rfl, ho0, hb⟩; refine ⟨_, rfl, ?_⟩; have HO481 := Aside0.mk (Kd.R_lower ho0 (below_size (bh HB.out))); replace HB := bsa HB hb; clear hb ho0))
          replace HO481 := Aside0.mk (Kd.R_drew HO481.out)
          replace HB := Aside0.mk (below_drew1 HB.out)
          refine start_ (n := 14) (S := fun w' => True) (ds := []) #[false, false, false, false, false, false, false, false, false, false, false, false, false, false] (by kernel_rfl) rfl rfl trivial (fun hHeld => ?_); refine with_tabW peristyleref11_TakeTexts.tab11 peristyleref11_TakeTexts.bits11 (fun HT_ HW_ => ?_)
          generalize w48.drew = w49 at HO481 HB hHeld ⊢
          refine puA HT_ 0 51 (bv 14 1) ?_
          refine puA HT_ 1 52 (bv 14 3) ?_
          refine puA HT_ 2 53 (bv 14 7) ?_
          refine puA HT_ 3 54 (bv 14 15) ?_
          refine puA HT_ 4 55 (bv 14 31) ?_
          refine puA HT_ 5 56 (bv 14 63) ?_
          refine puA HT_ 6 57 (bv 14 127) ?_
          refine one_ (i := 7) (N := some 58) #[true, true, true, true, true, true, true, true, false, false, false, false, false, false] rfl rfl (one_of HT_.out (by kernel_rfl)) (by decide) (fun K hK => ?_)
          refine goes_ Tryz.func23 (by kernel_rfl) rfl #[.int .i64 t474] (by rfl) rfl rfl (by (simp only [List.map_toArray, List.map_cons, List.map_nil]); rfl) ?_
          with_reducible refine (peristyleref11_width.calls kj5 t474 t482 _ A18.out).mono ?_
          rintro e w50 ⟨rfl, hb⟩
          refine ⟨_, rfl, ?_⟩
          replace HO481 := rba HO481 hb
          replace HB := bsa HB hb
          clear hb
          refine hK.out _ _ trivial (fun hHeld => ?_)
          clear hK K
          refine norm_ (a' := ?_) ?_ ?_
          rotate_left
          ·show Act.put _ (some 58) _ = _
           simp only [Act.put, List.setIfInBounds_toArray, List.set_cons_zero, List.set_cons_succ, i64_w, i32_w]
           rfl
          refine one_ (i := 8) (N := some 59) #[true, true, true, true, true, true, true, true, true, false, false, false, false, false] rfl rfl (one_of HT_.out (by kernel_rfl)) (by decide) (fun K hK => ?_)
          refine goes_ Tryz.func22 (by kernel_rfl) rfl #[.string (a0.extract ((ji15) : Int).toNat a0.size), .int .i64 a1, .int .i64 t482] (by rfl) rfl rfl (by (simp only [List.map_toArray, List.map_cons, List.map_nil]); rfl) ?_
          with_reducible refine (peristyleref08_Take.calls kj5 (a0.extract ((ji15) : Int).toNat a0.size) a1 t482 t483 t484 _ A19.out).mono ?_
          rintro e w51 ⟨v485, rfl, ho0, hb⟩
          refine ⟨_, rfl, ?_⟩
          replace HO481 := rba HO481 hb
          have HO486 := Aside0.mk (Kd.R_lower ho0 (below_size (bh HB.out)))
          replace HB := bsa HB hb
          clear hb ho0
          refine hK.out _ _ trivial (fun hHeld => ?_)
          clear hK K
          refine norm_ (a' := ?_) ?_ ?_
          rotate_left
          ·show Act.put _ (some 59) _ = _
           simp only [Act.put, List.setIfInBounds_toArray, List.set_cons_zero, List.set_cons_succ, i64_w, i32_w]
           rfl
          refine puA HT_ 9 50 (bv 14 1023) ?_
          refine puA HT_ 10 60 (bv 14 2047) ?_
          refine puA HT_ 11 61 (bv 14 4095) ?_
          refine puA HT_ 12 12 (bv 14 8191) ?_
          refine puA HT_ 13 13 (bv 14 16383) ?_
          refine done_ (done_of HT_.out (by kernel_rfl)) ?_
          go_wp2
          go_ret2
          exact ⟨_, by rfl, nl, bh HB.out⟩
        ·simp only [Option.some.injEq, Prod.mk.injEq] at H
         obtain ⟨rfl, rfl⟩ := H
         go_wp2_with (first | ((with_reducible refine gate_callee (f := 20) rfl ?_); refine gL 33 Tryz.func20 #[.string a0, .int .i64 a1] ?_; (with_reducible refine (peristyleref11_head.calls kj5 a0 a1 t474 t475 true _ A9.out).mono ?_); rintro e w52 ⟨rfl, hb⟩; refine ⟨_, rfl, ?_⟩; replace HB := bsa HB hb; clear hb) | ((with_reducible refine gate_callee (f := 26) rfl ?_); refine gL 44 Tryz.func26 #[.string (a0.extract (t475 : Int).toNat a0.size), .int .i64 t474] ?_; (with_reducible refine (peristyleref11_texts.calls kj5 (a0.extract (t475 : Int).toNat a0.size) t474 t477 t478 false _ A13.out).mono ?_); rintro e w53 ⟨v480, rfl, ho0, hb⟩; refine ⟨_, rfl, ?_⟩; have HO481 := Aside0.mk (Kd.R_lower ho0 (below_size (bh HB.out))); replace HB := bsa HB hb; clear hb ho0))
         go_ret2
         exact ⟨_, er, nl, bh HB.out⟩
       ·simp only [Option.some.injEq, Prod.mk.injEq] at H
        obtain ⟨rfl, rfl⟩ := H
        go_wp2_with (((with_reducible refine gate_callee (f := 20) rfl ?_); refine gL 33 Tryz.func20 #[.string a0, .int .i64 a1] ?_; (with_reducible refine (peristyleref11_head.calls kj5 a0 a1 t474 t475 false _ A9.out).mono ?_); rintro e w54 ⟨rfl, hb⟩; refine ⟨_, rfl, ?_⟩; replace HB := bsa HB hb; clear hb))
        go_ret2
        exact ⟨_, er, nl, bh HB.out⟩
end Go.Proofs.YtfohecpfenegkaaGreat.Print
end
