-- Written by the session's own xprint (over the kit's print program): functions, contracts.
import Derived.Test.YtconnhmlpolmnaaPrint0
namespace Go.Proofs.Ytconnhmlpolmnaa.Print
open Go.RowKit Go.Proofs.YtconnhmlpolmnaaW.PrintWords Go.Proofs.YtconnhmlpolmnaaW.PrintLast Go.Proofs.YtconnhmlpolmnaaW.PrintMore
attribute [local go_sem] max2_int min2_int max_two min_two max_three min_three max_four min_four   -- for this text's walks alone
set_option linter.unusedVariables false
set_option linter.unusedSimpArgs false

/-! ### bits_Width: function 9 -/
def bits_Width.l0 : Nat → Int → Int → Int → Option (Int)
  | 0, _, _, _ => none
  | k + 1, x3, x4, x5 => if x5 > 0 then (if 0 ≤ x5 then (if (shr .u64 x3 x5) > 0 then (bits_Width.l0 k (shr .u64 x3 x5) (wrap64 (x4 + x5)) (wrap64 (Int.tdiv x5 2))) else (bits_Width.l0 k x3 x4 (wrap64 (Int.tdiv x5 2)))) else (none)) else (some (wrap64 (x4 + (wrap64 (x3)))))
def bits_Width.f (k : Nat) (a0 : Int) : Option (Int) := bits_Width.l0 k (IntKind.u64.wrap (a0)) 0 32
theorem bits_Width.l0_succ (k : Nat) (x3 : Int) (x4 : Int) (x5 : Int) : bits_Width.l0 (k + 1) x3 x4 x5 = (if x5 > 0 then (if 0 ≤ x5 then (if (shr .u64 x3 x5) > 0 then (bits_Width.l0 k (shr .u64 x3 x5) (wrap64 (x4 + x5)) (wrap64 (Int.tdiv x5 2))) else (bits_Width.l0 k x3 x4 (wrap64 (Int.tdiv x5 2)))) else (none)) else (some (wrap64 (x4 + (wrap64 (x3)))))) := by
  simp only [bits_Width.l0]
theorem bits_Width.mono_l : ∀ k, (∀ y0 y1 y2, LeO (bits_Width.l0 k y0 y1 y2) (bits_Width.l0 (k + 1) y0 y1 y2))
  | 0 => fun _ _ _ r h => by simp [bits_Width.l0] at h
  | k + 1 => by
    have ih0 := bits_Width.mono_l k
    · intro y0 y1 y2
      unfold bits_Width.l0
      repeat' first
      | (with_reducible exact ih0 _ _ _)
      | (with_reducible exact LeO.refl _)
      | (with_reducible exact LeO.none _)
      | (with_reducible refine LeO.ite ?_ ?_)
      | (with_reducible refine LeO.bind ?_ (fun _ => ?_))
      | exact ih0 _ _ _
      | exact LeO.none _
      | refine LeO.ite ?_ ?_
      | refine LeO.bind ?_ (fun _ => ?_)
theorem bits_Width.mono : ∀ a0 k, LeO (bits_Width.f k a0) (bits_Width.f (k + 1) a0) := by
  intro a0 k
  have ih0 := bits_Width.mono_l k
  unfold bits_Width.f
  repeat' first
      | (with_reducible exact ih0 _ _ _)
      | (with_reducible exact LeO.refl _)
      | (with_reducible exact LeO.none _)
      | (with_reducible refine LeO.ite ?_ ?_)
      | (with_reducible refine LeO.bind ?_ (fun _ => ?_))
      | exact ih0 _ _ _
      | exact LeO.none _
      | refine LeO.ite ?_ ?_
      | refine LeO.bind ?_ (fun _ => ?_)
set_option maxHeartbeats 8000000 in
set_option maxRecDepth 100000 in
theorem bits_Width.calls (k : Nat) (a0 : Int) (r : Int) (w : World) (h : bits_Width.f k a0 = some r) :
    Calls Try.prog 9 #[.int .i64 a0] w fun e w' => e = .returned (.int .i64 r) ∧ Drawn0 w w' := by
  have H : (bits_Width.l0 k (IntKind.u64.wrap (a0)) 0 32) = some r := h
  clear h
  have H' := Aside0.mk H
  clear H
  go_enter Try.func9, Try.ntmps9
  go_wp2
  go_loopg [3, 4, 5] k (fun kq v3 v4 v5 w' => ∃ (x3_1 : Int) (x4_1 : Int) (x5_1 : Int), v3 = .int .u64 x3_1 ∧ v4 = .int .i64 x4_1 ∧ v5 = .int .i64 x5_1 ∧ Aside0 (bits_Width.l0 kq x3_1 x4_1 x5_1 = some r) ∧ Aside0 (kq ≤ k) ∧ Drawn0 w w')
  case atStart => exact ⟨(IntKind.u64.wrap (a0)), (0), (32), (by first | rfl | (simp; done) | (simp [*]; done)), (by first | rfl | (simp; done) | (simp [*]; done)), (by first | rfl | (simp; done) | (simp [*]; done)), H', ⟨Nat.le_refl _⟩, by repeat (first | exact Drawn0.refl _ | apply Drawn0.step)⟩
  case round =>
    clear H'
    obtain ⟨x3_1, x4_1, x5_1, rfl, rfl, rfl, HA, HK1, ⟨m1, rfl⟩⟩ := hrel
    cases gk with
    | zero => exact absurd HA.out (by simp [bits_Width.l0])
    | succ k1 =>
      have H := HA.out
      clear HA
      simp only [bits_Width.l0] at H
      by_cases c2 : x5_1 > 0
      · rw [if_pos c2] at H
        have c2b0 : decide (0 < x5_1) = true := decide_eq_true c2
        clear c2
        by_cases c3 : 0 ≤ x5_1
        · rw [if_pos c3] at H
          have c3b0 := eq_true c3
          have c3b1 : decide (0 ≤ x5_1) = true := decide_eq_true c3
          clear c3
          obtain ⟨ji4, hji4⟩ : ∃ j_ : Int, (shr .u64 x3_1 x5_1) = j_ := ⟨_, rfl⟩
          replace H : (if (ji4) > 0 then (bits_Width.l0 k1 ji4 (wrap64 (x4_1 + x5_1)) (wrap64 (Int.tdiv x5_1 2))) else (bits_Width.l0 k1 x3_1 x4_1 (wrap64 (Int.tdiv x5_1 2)))) = some r := by first | (rw [hji4] at H; exact H) | (simp only [hji4] at H ⊢; exact H)
          have hji4_ : (x3_1 / 2 ^ min x5_1.toNat 64) = ji4 := hji4
          have hji4z : x5_1 ≤ 64 → (x3_1 / 2 ^ x5_1.toNat) = ji4 := shr_small hji4
          by_cases c5 : (ji4) > 0
          · rw [if_pos c5] at H
            have c5b0 : decide (0 < (ji4)) = true := decide_eq_true c5
            clear c5
            have c6b0 := eq_true (of_decide_eq_true (by first | (with_reducible assumption) | assumption) : 0 ≤ x5_1)
            have H' := Aside0.mk H
            clear H
            go_wp2
            go_roundg k1
            case measure => have := HK1.out; omega
            case rel => exact ⟨(ji4), (wrap64 (x4_1 + x5_1)), (wrap64 (Int.tdiv x5_1 2)), (by first | rfl | (simp; done) | (simp only [← hji4] <;> (first | rfl | simp)) | (simp [*]; done)), (by first | rfl | (simp; done) | (simp [*]; done)), (by first | rfl | (simp; done) | (simp [*]; done)), H', ⟨by have := HK1.out; omega⟩, by repeat (first | exact Drawn0.refl _ | apply Drawn0.step)⟩
          · rw [if_neg c5] at H
            have c5b0 : decide (0 < (ji4)) = false := decide_eq_false c5
            clear c5
            have H' := Aside0.mk H
            clear H
            go_wp2
            go_roundg k1
            case measure => have := HK1.out; omega
            case rel => exact ⟨(x3_1), (x4_1), (wrap64 (Int.tdiv x5_1 2)), (by first | rfl | (simp; done) | (simp [*]; done)), (by first | rfl | (simp; done) | (simp [*]; done)), (by first | rfl | (simp; done) | (simp [*]; done)), H', ⟨by have := HK1.out; omega⟩, by repeat (first | exact Drawn0.refl _ | apply Drawn0.step)⟩
        · rw [if_neg c3] at H
          exact absurd H (by simp)
      · rw [if_neg c2] at H
        have c2b0 : decide (0 < x5_1) = false := decide_eq_false c2
        clear c2
        obtain rfl := Option.some.inj H
        go_wp2
        go_ret
        exact ⟨by first | rfl | (unfold wrap64; rfl) | (simp; done) | (simp [*]; done), by repeat (first | exact Drawn0.refl _ | apply Drawn0.step)⟩

/-! ### peristyleref01_Of: function 28 (a contract of the session's own) -/
theorem peristyleref01_Of.zero : (Try.prog.info? 34).map (fun i => (i.zero, i.size)) = some (some (.agg (arrB zB)), 64) := by kernel_rfl
theorem peristyleref01_Of.size : (Try.prog.info? 34).map (·.size) = some 64 := by kernel_rfl
theorem peristyleref01_Of.elem : (Try.prog.info? 4).isSome = true := by kernel_rfl
set_option maxHeartbeats 800000 in
theorem peristyleref01_Of.calls (a0 : Int) (w : World) :
    Calls Try.prog 28 #[.int .i64 a0] w fun e w' => e = .returned (.agg (arrB (bitsOf a0))) ∧ Below w.heap.size w w' := by
  go_enter Try.func28, Try.ntmps28
  go_wp2_with (first | ((with_reducible refine gate_dst (N := 2) rfl ?_); refine arr_alloc (w0 := w) w.heap.size rfl 34 rfl _ 64 peristyleref01_Of.zero (Below.refl _ _) (Nat.le_refl _) ?_; intro g0 w1 hg0 hb0 hs0 HB1 hbs1 hgr1) | ((with_reducible refine gate_dst (N := 5) rfl ?_); refine arr_build rfl 34 rfl _ 64 4 64 peristyleref01_Of.zero Try.underlying34 peristyleref01_Of.elem ?_) | ((with_reducible refine gate_dst (N := 3) rfl ?_); refine arr_alloc (w0 := w) w.heap.size rfl 34 rfl _ 64 peristyleref01_Of.zero HB1 hbs1 ?_; intro g1 w2 hg1 hb1 hs1 HB2 hbs2 hgr2) | ((with_reducible refine gate_store (t := 34) (p := 3) rfl ?_); refine arr_store (w0 := w) w.heap.size rfl 34 _ _ rfl g1 _ _ rfl rfl hg1 peristyleref01_Of.size rfl (arrB_one _) HB2 hb1 ?_; intro w3 hg2 HB3 hbs3 hgr3))
  have hne : g0 ≠ g1 := by have := blk_lt hg0; omega
  have hg02 := blk_grown (blk_grown hg0 hgr2 (by simp)) hgr3 (by simpa using hne)
  have A1 := Aside0.mk hg02
  have A2 := Aside0.mk hg2
  have A3 := Aside0.mk HB3
  have A4 := Aside0.mk hne
  have HG0 := Aside0.mk hb0
  clear hg0 hb0 hs0 HB1 hbs1 hgr1 hg1 hs1 HB2 hbs2 hgr2 hg2 HB3 hbs3 hgr3 hg02 hne
  go_loopw [4] (fun v4 wr => ∃ k : Nat, k ≤ 64 ∧ v4 = .int .i64 k ∧ Aside0 (wr.heap[g1]? = some (.cells (arrB (fillTo (bitAt a0) zB k)) 34 (0, 0))) ∧ Aside0 (wr.heap[g0]? = some (.cells (arrB zB) 34 (0, 0))) ∧ Aside0 (Below w.heap.size w wr)) (fun v4 _ => 64 - (intOf v4).toNat)
  case atStart => exact ⟨0, by omega, rfl, ⟨by rw [fillTo_zero]; exact A2.out⟩, ⟨A1.out⟩, ⟨A3.out⟩⟩
  case round =>
    obtain ⟨k, hk, rfl, B2, B1, B3⟩ := hrel
    by_cases hlt : k < 64
    · have hc2 : wr.cell? ⟨g1, k, none⟩ = some (.bool (bAt (fillTo (bitAt a0) zB k) k)) := arrB_cell B2.out k (by rw [fillTo_length _ _ _ hk]; exact hlt)
      have hf : wr.frozen? ⟨g1, k, none⟩ = false := blk_frozen B2.out k
      generalize bAt (fillTo (bitAt a0) zB k) k = old at hc2
      have hk0 : (0 : Int) ≤ (k : Int) := by omega
      have hk1 : (k : Int) < 64 := by omega
      go_wp2
      go_roundw
      case rel =>
        have hset := arrB_put B2.out k (bitAt a0 k)
        rw [fillTo_set _ zB k hlt] at hset
        exact ⟨k + 1, by omega, by go_num, ⟨hset⟩, ⟨blk_far B1.out (fun e => A4.out e) _⟩, ⟨B3.out.setCell hb1 _⟩⟩
      case measure => simp [intOf]; omega
    · have hk64 : ¬ (k : Int) < 64 := by omega
      obtain rfl : k = 64 := by omega
      clear hk64
      have hfin : fillTo (bitAt a0) zB 64 = bitsOf a0 := fillTo_all _ zB
      have B4 : Aside0 (wr.heap[g1]? = some (.cells (arrB (bitsOf a0)) 34 (0, 0))) := ⟨by rw [← hfin]; exact B2.out⟩
      have HL := Aside0.mk (bitsOf_length a0)
      have hg0b : w.heap.size ≤ g0 := HG0.out
      clear B2 hfin hlt
      go_wp2_with (first | ((with_reducible refine gate_dst (N := 17) rfl ?_); refine wpList_load_row rfl 34 _ rfl g1 rfl 34 _ (0, 0) _ B4.out Try.underlying34 rfl (by rw [arrB_size, HL.out]; exact peristyleref01_Of.size) ?_) | ((with_reducible refine gate_store (t := 34) (p := 2) rfl ?_); refine arr_store (w0 := w) w.heap.size rfl 34 _ _ rfl g0 _ _ rfl rfl B1.out (by rw [arrB_size, HL.out]; exact peristyleref01_Of.size) (by rw [arrB_size, arrB_size, HL.out]; rfl) (arrB_one _) B3.out hg0b ?_; intro w5 hg5 HB5 hbs5 hgr5))
      refine bodyPost_ret (results_cell_row rfl _ _ g0 34 (arrB (bitsOf a0)) (0, 0) _ rfl hg5 Try.underlying34 rfl (by rw [arrB_size, HL.out]; exact peristyleref01_Of.size)) rfl ⟨rfl, HB5⟩

/-! ### peristyleref01_Width: function 10 (a contract of the session's own) -/
def peristyleref01_Width.f (a0 : Int) : Option (Int) := some (topTo (bitsOf a0) 64)
set_option maxHeartbeats 1600000 in
theorem peristyleref01_Width.calls0 (a0 : Int) (w : World) :
    Calls Try.prog 10 #[.int .i64 a0] w fun e w' => e = .returned (.int .i64 (topTo (bitsOf a0) 64)) ∧ Below w.heap.size w w' := by
  go_enter Try.func10, Try.ntmps10
  go_wp2_with (first | (go_at_call 28; refine (peristyleref01_Of.calls _ _).mono ?_; rintro e w1 ⟨rfl, HB1⟩) | ((with_reducible refine gate_dst (N := 3) rfl ?_); refine arr_alloc (w0 := w) w.heap.size rfl 34 rfl _ 64 peristyleref01_Of.zero HB1 HB1.size ?_; intro g0 w2 hg0 hb0 hs0 HB2 hbs2 hgr2) | ((with_reducible refine gate_store (t := 34) (p := 3) rfl ?_); refine arr_store (w0 := w) w.heap.size rfl 34 _ _ rfl g0 _ _ rfl rfl hg0 (by rw [arrB_size, bitsOf_length]; exact peristyleref01_Of.size) (by rw [arrB_size, arrB_size, bitsOf_length]; rfl) (arrB_one _) HB2 hb0 ?_; intro w3 hg3 HB3 hbs3 hgr3))
  have A1 := Aside0.mk hg3
  have A2 := Aside0.mk HB3
  clear hg0 hs0 HB1 HB2 hbs2 hgr2 hg3 HB3 hbs3 hgr3
  go_loop [4] (fun v4 => (∃ k : Nat, k ≤ 63 ∧ v4 = .int .i64 k ∧ Aside0 (topTo (bitsOf a0) 64 = topTo (bitsOf a0) (k + 1))) ∨ (v4 = .int .i64 (-1) ∧ Aside0 (topTo (bitsOf a0) 64 = 0))) (fun v4 => (intOf v4 + 1).toNat)
  case atStart => exact .inl ⟨63, by omega, rfl, ⟨rfl⟩⟩
  case round =>
    rcases hrel with ⟨k, hk, rfl, HT⟩ | ⟨rfl, HT⟩
    · have hc2 : w3.cell? ⟨g0, k, none⟩ = some (.bool (bAt (bitsOf a0) k)) := arrB_cell A1.out k (by rw [bitsOf_length]; omega)
      have hk0 : (0 : Int) ≤ (k : Int) := by omega
      have hk1 : (k : Int) < 64 := by omega
      have HS : Aside0 (topTo (bitsOf a0) (k + 1) = if bAt (bitsOf a0) k = true then (k : Int) + 1 else topTo (bitsOf a0) k) := ⟨rfl⟩
      generalize bAt (bitsOf a0) k = b at hc2 HS
      cases b
      · rcases k with _ | k
        · simp only [Int.natCast_zero] at hk0 hk1 hc2
          go_wp2
          go_round
          case rel => exact .inr ⟨by go_num, ⟨by rw [HT.out, HS.out]; simp [topTo]⟩⟩
          case measure => simp [intOf]
        · go_wp2
          go_round
          case rel => exact .inl ⟨k, by omega, by go_num, ⟨by rw [HT.out, HS.out]; simp⟩⟩
          case measure => simp [intOf]; omega
      · go_wp2
        go_ret
        exact ⟨by rw [HT.out, HS.out]; simp, A2.out⟩
    · go_wp2
      go_ret
      exact ⟨by rw [HT.out]; rfl, A2.out⟩
theorem peristyleref01_Width.calls (a0 : Int) (r : Int) (w : World) (h : peristyleref01_Width.f a0 = some r) :
    Calls Try.prog 10 #[.int .i64 a0] w fun e w' => e = .returned (.int .i64 r) ∧ Below w.heap.size w w' := by
  obtain rfl := Option.some.inj h
  exact peristyleref01_Width.calls0 a0 w

/-! ### bits_half: function 29 -/
mutual
def bits_half.j0 : Nat → Int → Int → Bool → Option (Int)
  | 0, _, _, _ => none
  | k + 1, x3, x5, x8 => if x8 = true then (some (wrap64 ((wrap64 ((wrap64 (x3 + 1)) + 1)) + 1))) else (if x5 = 3 then (bits_half.j1 k x3 x5 (x5 == 3)) else (if x5 = 5 then (bits_half.j1 k x3 x5 (x5 == 5)) else (if x5 = 6 then (bits_half.j1 k x3 x5 (x5 == 6)) else (if x5 = 9 then (bits_half.j1 k x3 x5 (x5 == 9)) else (if x5 = 10 then (bits_half.j1 k x3 x5 (x5 == 10)) else (bits_half.j1 k x3 x5 (x5 == 12)))))))
def bits_half.j1 : Nat → Int → Int → Bool → Option (Int)
  | 0, _, _, _ => none
  | k + 1, x3, x5, x13 => if x13 = true then (some (wrap64 ((wrap64 (x3 + 1)) + 1))) else (if x5 = 1 then (some (wrap64 (x3 + 1))) else (if x5 = 2 then (some (wrap64 (x3 + 1))) else (if x5 = 4 then (some (wrap64 (x3 + 1))) else (if x5 = 8 then (some (wrap64 (x3 + 1))) else (some x3)))))
end
def bits_half.f (k : Nat) (a0 : Int) : Option (Int) := if (Go.bits .and .u64 a0 15) = 15 then (some ((((0 + 1) + 1) + 1) + 1)) else (if (Go.bits .and .u64 a0 15) = 7 then (bits_half.j0 k 0 (Go.bits .and .u64 a0 15) ((Go.bits .and .u64 a0 15) == 7)) else (if (Go.bits .and .u64 a0 15) = 11 then (bits_half.j0 k 0 (Go.bits .and .u64 a0 15) ((Go.bits .and .u64 a0 15) == 11)) else (if (Go.bits .and .u64 a0 15) = 13 then (bits_half.j0 k 0 (Go.bits .and .u64 a0 15) ((Go.bits .and .u64 a0 15) == 13)) else (bits_half.j0 k 0 (Go.bits .and .u64 a0 15) ((Go.bits .and .u64 a0 15) == 14)))))
theorem bits_half.j0_succ (k : Nat) (x3 : Int) (x5 : Int) (x8 : Bool) : bits_half.j0 (k + 1) x3 x5 x8 = (if x8 = true then (some (wrap64 ((wrap64 ((wrap64 (x3 + 1)) + 1)) + 1))) else (if x5 = 3 then (bits_half.j1 k x3 x5 (x5 == 3)) else (if x5 = 5 then (bits_half.j1 k x3 x5 (x5 == 5)) else (if x5 = 6 then (bits_half.j1 k x3 x5 (x5 == 6)) else (if x5 = 9 then (bits_half.j1 k x3 x5 (x5 == 9)) else (if x5 = 10 then (bits_half.j1 k x3 x5 (x5 == 10)) else (bits_half.j1 k x3 x5 (x5 == 12)))))))) := by
  simp only [bits_half.j0]
theorem bits_half.j1_succ (k : Nat) (x3 : Int) (x5 : Int) (x13 : Bool) : bits_half.j1 (k + 1) x3 x5 x13 = (if x13 = true then (some (wrap64 ((wrap64 (x3 + 1)) + 1))) else (if x5 = 1 then (some (wrap64 (x3 + 1))) else (if x5 = 2 then (some (wrap64 (x3 + 1))) else (if x5 = 4 then (some (wrap64 (x3 + 1))) else (if x5 = 8 then (some (wrap64 (x3 + 1))) else (some x3)))))) := by
  simp only [bits_half.j1]
theorem bits_half.mono_l : ∀ k, (∀ y0 y1 y2, LeO (bits_half.j0 k y0 y1 y2) (bits_half.j0 (k + 1) y0 y1 y2)) ∧ (∀ y0 y1 y2, LeO (bits_half.j1 k y0 y1 y2) (bits_half.j1 (k + 1) y0 y1 y2))
  | 0 => ⟨fun _ _ _ r h => by simp [bits_half.j0] at h, fun _ _ _ r h => by simp [bits_half.j1] at h⟩
  | k + 1 => by
    obtain ⟨ih0, ih1⟩ := bits_half.mono_l k
    refine ⟨?_, ?_⟩
    · intro y0 y1 y2
      unfold bits_half.j0
      repeat' first
      | (with_reducible exact ih0 _ _ _)
      | (with_reducible exact ih1 _ _ _)
      | (with_reducible exact LeO.refl _)
      | (with_reducible exact LeO.none _)
      | (with_reducible refine LeO.ite ?_ ?_)
      | (with_reducible refine LeO.bind ?_ (fun _ => ?_))
      | exact ih0 _ _ _
      | exact ih1 _ _ _
      | exact LeO.none _
      | refine LeO.ite ?_ ?_
      | refine LeO.bind ?_ (fun _ => ?_)
    · intro y0 y1 y2
      unfold bits_half.j1
      repeat' first
      | (with_reducible exact ih0 _ _ _)
      | (with_reducible exact ih1 _ _ _)
      | (with_reducible exact LeO.refl _)
      | (with_reducible exact LeO.none _)
      | (with_reducible refine LeO.ite ?_ ?_)
      | (with_reducible refine LeO.bind ?_ (fun _ => ?_))
      | exact ih0 _ _ _
      | exact ih1 _ _ _
      | exact LeO.none _
      | refine LeO.ite ?_ ?_
      | refine LeO.bind ?_ (fun _ => ?_)
theorem bits_half.mono : ∀ a0 k, LeO (bits_half.f k a0) (bits_half.f (k + 1) a0) := by
  intro a0 k
  obtain ⟨ih0, ih1⟩ := bits_half.mono_l k
  unfold bits_half.f
  repeat' first
      | (with_reducible exact ih0 _ _ _)
      | (with_reducible exact ih1 _ _ _)
      | (with_reducible exact LeO.refl _)
      | (with_reducible exact LeO.none _)
      | (with_reducible refine LeO.ite ?_ ?_)
      | (with_reducible refine LeO.bind ?_ (fun _ => ?_))
      | exact ih0 _ _ _
      | exact ih1 _ _ _
      | exact LeO.none _
      | refine LeO.ite ?_ ?_
      | refine LeO.bind ?_ (fun _ => ?_)
set_option maxHeartbeats 8000000 in
set_option maxRecDepth 100000 in
theorem bits_half.calls (k : Nat) (a0 : Int) (r : Int) (w : World) (h : bits_half.f k a0 = some r) :
    Calls Try.prog 29 #[.int .u64 a0] w fun e w' => e = .returned (.int .i64 r) ∧ Drawn0 w w' := by
  have H : (if (Go.bits .and .u64 a0 15) = 15 then (some ((((0 + 1) + 1) + 1) + 1)) else (if (Go.bits .and .u64 a0 15) = 7 then (bits_half.j0 k 0 (Go.bits .and .u64 a0 15) ((Go.bits .and .u64 a0 15) == 7)) else (if (Go.bits .and .u64 a0 15) = 11 then (bits_half.j0 k 0 (Go.bits .and .u64 a0 15) ((Go.bits .and .u64 a0 15) == 11)) else (if (Go.bits .and .u64 a0 15) = 13 then (bits_half.j0 k 0 (Go.bits .and .u64 a0 15) ((Go.bits .and .u64 a0 15) == 13)) else (bits_half.j0 k 0 (Go.bits .and .u64 a0 15) ((Go.bits .and .u64 a0 15) == 14)))))) = some r := h
  clear h
  by_cases c2 : (Go.bits .and .u64 a0 15) = 15
  · rw [if_pos c2] at H
    have c2b0 : ((Go.bits .and .u64 a0 15) == 15) = true := beq_iff_eq.mpr c2
    have c2b1 : ((Go.bits .and .u64 a0 15) != 15) = false := bne_eq_false_iff_eq.mpr c2
    clear c2
    obtain rfl := Option.some.inj H
    go_enter Try.func29, Try.ntmps29
    go_wp2
    go_ret
    exact ⟨by first | rfl | (unfold wrap64; rfl) | (simp; done) | (simp [*]; done), by repeat (first | exact Drawn0.refl _ | apply Drawn0.step)⟩
  · rw [if_neg c2] at H
    have c2b0 : ((Go.bits .and .u64 a0 15) == 15) = false := beq_eq_false_iff_ne.mpr c2
    have c2b1 : ((Go.bits .and .u64 a0 15) != 15) = true := bne_iff_ne.mpr c2
    have HC3 := Aside0.mk H
    clear H
    go_enter Try.func29, Try.ntmps29
    go_upto_if 8 with (fail)
    go_cut [8] (fun v8 wc => ∃ (kq : Nat) (x8_2 : Bool), v8 = .bool x8_2 ∧ Aside0 (bits_half.j0 kq 0 (Go.bits .and .u64 a0 15) x8_2 = some r) ∧ Aside0 (kq ≤ k) ∧ Drawn0 w wc)
    case first =>
      have H := HC3.out
      clear HC3
      by_cases c4 : (Go.bits .and .u64 a0 15) = 7
      · rw [if_pos c4] at H
        have c4b0 : ((Go.bits .and .u64 a0 15) == 7) = true := beq_iff_eq.mpr c4
        have c4b1 : ((Go.bits .and .u64 a0 15) != 7) = false := bne_eq_false_iff_eq.mpr c4
        clear c4
        (first | rw [c4b0] | (simp only [i64_w, i32_w]; rw [c4b0]) | skip)
        have H' := Aside0.mk H
        clear H
        go_wp2
        go_meet
        case rel => exact ⟨_, (((Go.bits .and .u64 a0 15) == 7)), (by first | rfl | (simp; done) | (simp [*]; done)), H', ⟨by first | omega | exact Nat.le_refl _⟩, by repeat (first | exact Drawn0.refl _ | apply Drawn0.step)⟩
      · rw [if_neg c4] at H
        have c4b0 : ((Go.bits .and .u64 a0 15) == 7) = false := beq_eq_false_iff_ne.mpr c4
        have c4b1 : ((Go.bits .and .u64 a0 15) != 7) = true := bne_iff_ne.mpr c4
        (first | rw [c4b0] | (simp only [i64_w, i32_w]; rw [c4b0]) | skip)
        by_cases c5 : (Go.bits .and .u64 a0 15) = 11
        · rw [if_pos c5] at H
          have c5b0 : ((Go.bits .and .u64 a0 15) == 11) = true := beq_iff_eq.mpr c5
          have c5b1 : ((Go.bits .and .u64 a0 15) != 11) = false := bne_eq_false_iff_eq.mpr c5
          clear c5
          have H' := Aside0.mk H
          clear H
          go_wp2
          go_meet
          case rel => exact ⟨_, (((Go.bits .and .u64 a0 15) == 11)), (by first | rfl | (simp; done) | (simp [*]; done)), H', ⟨by first | omega | exact Nat.le_refl _⟩, by repeat (first | exact Drawn0.refl _ | apply Drawn0.step)⟩
        · rw [if_neg c5] at H
          have c5b0 : ((Go.bits .and .u64 a0 15) == 11) = false := beq_eq_false_iff_ne.mpr c5
          have c5b1 : ((Go.bits .and .u64 a0 15) != 11) = true := bne_iff_ne.mpr c5
          by_cases c6 : (Go.bits .and .u64 a0 15) = 13
          · rw [if_pos c6] at H
            have c6b0 : ((Go.bits .and .u64 a0 15) == 13) = true := beq_iff_eq.mpr c6
            have c6b1 : ((Go.bits .and .u64 a0 15) != 13) = false := bne_eq_false_iff_eq.mpr c6
            clear c6
            have H' := Aside0.mk H
            clear H
            go_wp2
            go_meet
            case rel => exact ⟨_, (((Go.bits .and .u64 a0 15) == 13)), (by first | rfl | (simp; done) | (simp [*]; done)), H', ⟨by first | omega | exact Nat.le_refl _⟩, by repeat (first | exact Drawn0.refl _ | apply Drawn0.step)⟩
          · rw [if_neg c6] at H
            have c6b0 : ((Go.bits .and .u64 a0 15) == 13) = false := beq_eq_false_iff_ne.mpr c6
            have c6b1 : ((Go.bits .and .u64 a0 15) != 13) = true := bne_iff_ne.mpr c6
            have H' := Aside0.mk H
            clear H
            go_wp2
            go_meet
            case rel => exact ⟨_, (((Go.bits .and .u64 a0 15) == 14)), (by first | rfl | (simp; done) | (simp [*]; done)), H', ⟨by first | omega | exact Nat.le_refl _⟩, by repeat (first | exact Drawn0.refl _ | apply Drawn0.step)⟩
    case rest =>
      clear HC3
      try clear c2
      try clear c2b0
      try clear c2b1
      try clear p2
      try clear c4
      try clear c4b0
      try clear c4b1
      try clear c5
      try clear c5b0
      try clear c5b1
      try clear c6
      try clear c6b0
      try clear c6b1
      try clear p6
      obtain ⟨kq, x8_2, rfl, HA, HJ2, ⟨mc2, rfl⟩⟩ := hcut
      cases kq with
      | zero => exact absurd HA.out (by simp [bits_half.j0])
      | succ kj2 =>
        have H := HA.out
        clear HA
        simp only [bits_half.j0] at H
        by_cases c7 : x8_2 = true
        · subst c7
          have H1 : (some (wrap64 ((wrap64 ((wrap64 (0 + 1)) + 1)) + 1))) = some r := by rw [if_pos rfl] at H; exact H
          clear H
          have H := H1
          clear H1
          obtain rfl := Option.some.inj H
          go_wp2
          go_ret
          exact ⟨by first | rfl | (unfold wrap64; rfl) | (simp; done) | (simp [*]; done), by repeat (first | exact Drawn0.refl _ | apply Drawn0.step)⟩
        · replace c7 := Bool.eq_false_iff.mpr c7
          subst c7
          have H1 : (if (Go.bits .and .u64 a0 15) = 3 then (bits_half.j1 kj2 0 (Go.bits .and .u64 a0 15) ((Go.bits .and .u64 a0 15) == 3)) else (if (Go.bits .and .u64 a0 15) = 5 then (bits_half.j1 kj2 0 (Go.bits .and .u64 a0 15) ((Go.bits .and .u64 a0 15) == 5)) else (if (Go.bits .and .u64 a0 15) = 6 then (bits_half.j1 kj2 0 (Go.bits .and .u64 a0 15) ((Go.bits .and .u64 a0 15) == 6)) else (if (Go.bits .and .u64 a0 15) = 9 then (bits_half.j1 kj2 0 (Go.bits .and .u64 a0 15) ((Go.bits .and .u64 a0 15) == 9)) else (if (Go.bits .and .u64 a0 15) = 10 then (bits_half.j1 kj2 0 (Go.bits .and .u64 a0 15) ((Go.bits .and .u64 a0 15) == 10)) else (bits_half.j1 kj2 0 (Go.bits .and .u64 a0 15) ((Go.bits .and .u64 a0 15) == 12))))))) = some r := by rw [if_neg (show ¬ (false = true) by decide)] at H; exact H
          clear H
          have H := H1
          clear H1
          have HC8 := Aside0.mk H
          clear H
          go_upto_if 13 with (fail)
          go_cut [13] (fun v13 wc => ∃ (kq : Nat) (x13_7 : Bool), v13 = .bool x13_7 ∧ Aside0 (bits_half.j1 kq 0 (Go.bits .and .u64 a0 15) x13_7 = some r) ∧ Aside0 (kq ≤ kj2) ∧ Drawn0 w wc)
          case first =>
            have H := HC8.out
            clear HC8
            by_cases c9 : (Go.bits .and .u64 a0 15) = 3
            · rw [if_pos c9] at H
              have c9b0 : ((Go.bits .and .u64 a0 15) == 3) = true := beq_iff_eq.mpr c9
              have c9b1 : ((Go.bits .and .u64 a0 15) != 3) = false := bne_eq_false_iff_eq.mpr c9
              clear c9
              (first | rw [c9b0] | (simp only [i64_w, i32_w]; rw [c9b0]) | skip)
              have H' := Aside0.mk H
              clear H
              go_wp2
              go_meet
              case rel => exact ⟨_, (((Go.bits .and .u64 a0 15) == 3)), (by first | rfl | (simp; done) | (simp [*]; done)), H', ⟨by have := HJ2.out; first | omega | exact Nat.le_refl _⟩, by repeat (first | exact Drawn0.refl _ | apply Drawn0.step)⟩
            · rw [if_neg c9] at H
              have c9b0 : ((Go.bits .and .u64 a0 15) == 3) = false := beq_eq_false_iff_ne.mpr c9
              have c9b1 : ((Go.bits .and .u64 a0 15) != 3) = true := bne_iff_ne.mpr c9
              (first | rw [c9b0] | (simp only [i64_w, i32_w]; rw [c9b0]) | skip)
              by_cases c10 : (Go.bits .and .u64 a0 15) = 5
              · rw [if_pos c10] at H
                have c10b0 : ((Go.bits .and .u64 a0 15) == 5) = true := beq_iff_eq.mpr c10
                have c10b1 : ((Go.bits .and .u64 a0 15) != 5) = false := bne_eq_false_iff_eq.mpr c10
                clear c10
                have H' := Aside0.mk H
                clear H
                go_wp2
                go_meet
                case rel => exact ⟨_, (((Go.bits .and .u64 a0 15) == 5)), (by first | rfl | (simp; done) | (simp [*]; done)), H', ⟨by have := HJ2.out; first | omega | exact Nat.le_refl _⟩, by repeat (first | exact Drawn0.refl _ | apply Drawn0.step)⟩
              · rw [if_neg c10] at H
                have c10b0 : ((Go.bits .and .u64 a0 15) == 5) = false := beq_eq_false_iff_ne.mpr c10
                have c10b1 : ((Go.bits .and .u64 a0 15) != 5) = true := bne_iff_ne.mpr c10
                by_cases c11 : (Go.bits .and .u64 a0 15) = 6
                · rw [if_pos c11] at H
                  have c11b0 : ((Go.bits .and .u64 a0 15) == 6) = true := beq_iff_eq.mpr c11
                  have c11b1 : ((Go.bits .and .u64 a0 15) != 6) = false := bne_eq_false_iff_eq.mpr c11
                  clear c11
                  have H' := Aside0.mk H
                  clear H
                  go_wp2
                  go_meet
                  case rel => exact ⟨_, (((Go.bits .and .u64 a0 15) == 6)), (by first | rfl | (simp; done) | (simp [*]; done)), H', ⟨by have := HJ2.out; first | omega | exact Nat.le_refl _⟩, by repeat (first | exact Drawn0.refl _ | apply Drawn0.step)⟩
                · rw [if_neg c11] at H
                  have c11b0 : ((Go.bits .and .u64 a0 15) == 6) = false := beq_eq_false_iff_ne.mpr c11
                  have c11b1 : ((Go.bits .and .u64 a0 15) != 6) = true := bne_iff_ne.mpr c11
                  by_cases c12 : (Go.bits .and .u64 a0 15) = 9
                  · rw [if_pos c12] at H
                    have c12b0 : ((Go.bits .and .u64 a0 15) == 9) = true := beq_iff_eq.mpr c12
                    have c12b1 : ((Go.bits .and .u64 a0 15) != 9) = false := bne_eq_false_iff_eq.mpr c12
                    clear c12
                    have H' := Aside0.mk H
                    clear H
                    go_wp2
                    go_meet
                    case rel => exact ⟨_, (((Go.bits .and .u64 a0 15) == 9)), (by first | rfl | (simp; done) | (simp [*]; done)), H', ⟨by have := HJ2.out; first | omega | exact Nat.le_refl _⟩, by repeat (first | exact Drawn0.refl _ | apply Drawn0.step)⟩
                  · rw [if_neg c12] at H
                    have c12b0 : ((Go.bits .and .u64 a0 15) == 9) = false := beq_eq_false_iff_ne.mpr c12
                    have c12b1 : ((Go.bits .and .u64 a0 15) != 9) = true := bne_iff_ne.mpr c12
                    by_cases c13 : (Go.bits .and .u64 a0 15) = 10
                    · rw [if_pos c13] at H
                      have c13b0 : ((Go.bits .and .u64 a0 15) == 10) = true := beq_iff_eq.mpr c13
                      have c13b1 : ((Go.bits .and .u64 a0 15) != 10) = false := bne_eq_false_iff_eq.mpr c13
                      clear c13
                      have H' := Aside0.mk H
                      clear H
                      go_wp2
                      go_meet
                      case rel => exact ⟨_, (((Go.bits .and .u64 a0 15) == 10)), (by first | rfl | (simp; done) | (simp [*]; done)), H', ⟨by have := HJ2.out; first | omega | exact Nat.le_refl _⟩, by repeat (first | exact Drawn0.refl _ | apply Drawn0.step)⟩
                    · rw [if_neg c13] at H
                      have c13b0 : ((Go.bits .and .u64 a0 15) == 10) = false := beq_eq_false_iff_ne.mpr c13
                      have c13b1 : ((Go.bits .and .u64 a0 15) != 10) = true := bne_iff_ne.mpr c13
                      have H' := Aside0.mk H
                      clear H
                      go_wp2
                      go_meet
                      case rel => exact ⟨_, (((Go.bits .and .u64 a0 15) == 12)), (by first | rfl | (simp; done) | (simp [*]; done)), H', ⟨by have := HJ2.out; first | omega | exact Nat.le_refl _⟩, by repeat (first | exact Drawn0.refl _ | apply Drawn0.step)⟩
          case rest =>
            clear HC8
            try clear c1
            try clear c2
            try clear c2b0
            try clear c2b1
            try clear p2
            try clear c4
            try clear c4b0
            try clear c4b1
            try clear c5
            try clear c5b0
            try clear c5b1
            try clear c6
            try clear c6b0
            try clear c6b1
            try clear p6
            try clear c7
            try clear c9
            try clear c9b0
            try clear c9b1
            try clear c10
            try clear c10b0
            try clear c10b1
            try clear c11
            try clear c11b0
            try clear c11b1
            try clear c12
            try clear c12b0
            try clear c12b1
            try clear c13
            try clear c13b0
            try clear c13b1
            try clear p2
            try clear p6
            obtain ⟨kq, x13_7, rfl, HA, HJ7, ⟨mc7, rfl⟩⟩ := hcut
            cases kq with
            | zero => exact absurd HA.out (by simp [bits_half.j1])
            | succ kj7 =>
              have H := HA.out
              clear HA
              simp only [bits_half.j1] at H
              by_cases c14 : x13_7 = true
              · subst c14
                have H1 : (some (wrap64 ((wrap64 (0 + 1)) + 1))) = some r := by rw [if_pos rfl] at H; exact H
                clear H
                have H := H1
                clear H1
                obtain rfl := Option.some.inj H
                go_wp2
                go_ret
                exact ⟨by first | rfl | (unfold wrap64; rfl) | (simp; done) | (simp [*]; done), by repeat (first | exact Drawn0.refl _ | apply Drawn0.step)⟩
              · replace c14 := Bool.eq_false_iff.mpr c14
                subst c14
                have H1 : (if (Go.bits .and .u64 a0 15) = 1 then (some (wrap64 (0 + 1))) else (if (Go.bits .and .u64 a0 15) = 2 then (some (wrap64 (0 + 1))) else (if (Go.bits .and .u64 a0 15) = 4 then (some (wrap64 (0 + 1))) else (if (Go.bits .and .u64 a0 15) = 8 then (some (wrap64 (0 + 1))) else (some 0))))) = some r := by rw [if_neg (show ¬ (false = true) by decide)] at H; exact H
                clear H
                have H := H1
                clear H1
                by_cases c15 : (Go.bits .and .u64 a0 15) = 1
                · rw [if_pos c15] at H
                  have c15b0 : ((Go.bits .and .u64 a0 15) == 1) = true := beq_iff_eq.mpr c15
                  have c15b1 : ((Go.bits .and .u64 a0 15) != 1) = false := bne_eq_false_iff_eq.mpr c15
                  clear c15
                  obtain rfl := Option.some.inj H
                  go_wp2
                  go_ret
                  exact ⟨by first | rfl | (unfold wrap64; rfl) | (simp; done) | (simp [*]; done), by repeat (first | exact Drawn0.refl _ | apply Drawn0.step)⟩
                · rw [if_neg c15] at H
                  have c15b0 : ((Go.bits .and .u64 a0 15) == 1) = false := beq_eq_false_iff_ne.mpr c15
                  have c15b1 : ((Go.bits .and .u64 a0 15) != 1) = true := bne_iff_ne.mpr c15
                  by_cases c16 : (Go.bits .and .u64 a0 15) = 2
                  · rw [if_pos c16] at H
                    have c16b0 : ((Go.bits .and .u64 a0 15) == 2) = true := beq_iff_eq.mpr c16
                    have c16b1 : ((Go.bits .and .u64 a0 15) != 2) = false := bne_eq_false_iff_eq.mpr c16
                    clear c16
                    obtain rfl := Option.some.inj H
                    go_wp2
                    go_ret
                    exact ⟨by first | rfl | (unfold wrap64; rfl) | (simp; done) | (simp [*]; done), by repeat (first | exact Drawn0.refl _ | apply Drawn0.step)⟩
                  · rw [if_neg c16] at H
                    have c16b0 : ((Go.bits .and .u64 a0 15) == 2) = false := beq_eq_false_iff_ne.mpr c16
                    have c16b1 : ((Go.bits .and .u64 a0 15) != 2) = true := bne_iff_ne.mpr c16
                    by_cases c17 : (Go.bits .and .u64 a0 15) = 4
                    · rw [if_pos c17] at H
                      have c17b0 : ((Go.bits .and .u64 a0 15) == 4) = true := beq_iff_eq.mpr c17
                      have c17b1 : ((Go.bits .and .u64 a0 15) != 4) = false := bne_eq_false_iff_eq.mpr c17
                      clear c17
                      obtain rfl := Option.some.inj H
                      go_wp2
                      go_ret
                      exact ⟨by first | rfl | (unfold wrap64; rfl) | (simp; done) | (simp [*]; done), by repeat (first | exact Drawn0.refl _ | apply Drawn0.step)⟩
                    · rw [if_neg c17] at H
                      have c17b0 : ((Go.bits .and .u64 a0 15) == 4) = false := beq_eq_false_iff_ne.mpr c17
                      have c17b1 : ((Go.bits .and .u64 a0 15) != 4) = true := bne_iff_ne.mpr c17
                      by_cases c18 : (Go.bits .and .u64 a0 15) = 8
                      · rw [if_pos c18] at H
                        have c18b0 : ((Go.bits .and .u64 a0 15) == 8) = true := beq_iff_eq.mpr c18
                        have c18b1 : ((Go.bits .and .u64 a0 15) != 8) = false := bne_eq_false_iff_eq.mpr c18
                        clear c18
                        obtain rfl := Option.some.inj H
                        go_wp2
                        go_ret
                        exact ⟨by first | rfl | (unfold wrap64; rfl) | (simp; done) | (simp [*]; done), by repeat (first | exact Drawn0.refl _ | apply Drawn0.step)⟩
                      · rw [if_neg c18] at H
                        have c18b0 : ((Go.bits .and .u64 a0 15) == 8) = false := beq_eq_false_iff_ne.mpr c18
                        have c18b1 : ((Go.bits .and .u64 a0 15) != 8) = true := bne_iff_ne.mpr c18
                        obtain rfl := Option.some.inj H
                        go_wp2
                        go_ret
                        exact ⟨by first | rfl | (unfold wrap64; rfl) | (simp; done) | (simp [*]; done), by repeat (first | exact Drawn0.refl _ | apply Drawn0.step)⟩

/-! ### bits_Ones: function 11 -/
def bits_Ones.l0 : Nat → Int → Int → Int → Option (Int)
  | 0, _, _, _ => none
  | k + 1, x0, x3, x5 => if x5 < 16 then (if 0 ≤ (wrap64 (4 * x5)) then ((bits_half.f k (shr .u64 (IntKind.u64.wrap (x0)) (wrap64 (4 * x5)))).bind fun t101 => (bits_Ones.l0 k x0 (wrap64 (x3 + t101)) (wrap64 (x5 + 1)))) else (none)) else (some x3)
def bits_Ones.f (k : Nat) (a0 : Int) : Option (Int) := bits_Ones.l0 k a0 0 0
theorem bits_Ones.l0_succ (k : Nat) (x0 : Int) (x3 : Int) (x5 : Int) : bits_Ones.l0 (k + 1) x0 x3 x5 = (if x5 < 16 then (if 0 ≤ (wrap64 (4 * x5)) then ((bits_half.f k (shr .u64 (IntKind.u64.wrap (x0)) (wrap64 (4 * x5)))).bind fun t101 => (bits_Ones.l0 k x0 (wrap64 (x3 + t101)) (wrap64 (x5 + 1)))) else (none)) else (some x3)) := by
  simp only [bits_Ones.l0]
theorem bits_Ones.mono_l : ∀ k, (∀ y0 y1 y2, LeO (bits_Ones.l0 k y0 y1 y2) (bits_Ones.l0 (k + 1) y0 y1 y2))
  | 0 => fun _ _ _ r h => by simp [bits_Ones.l0] at h
  | k + 1 => by
    have ih0 := bits_Ones.mono_l k
    · intro y0 y1 y2
      unfold bits_Ones.l0
      repeat' first
      | (with_reducible exact ih0 _ _ _)
      | (with_reducible exact bits_half.mono _ _)
      | (with_reducible exact LeO.refl _)
      | (with_reducible exact LeO.none _)
      | (with_reducible refine LeO.ite ?_ ?_)
      | (with_reducible refine LeO.bind ?_ (fun _ => ?_))
      | exact ih0 _ _ _
      | exact bits_half.mono _ _
      | exact LeO.none _
      | refine LeO.ite ?_ ?_
      | refine LeO.bind ?_ (fun _ => ?_)
theorem bits_Ones.mono : ∀ a0 k, LeO (bits_Ones.f k a0) (bits_Ones.f (k + 1) a0) := by
  intro a0 k
  have ih0 := bits_Ones.mono_l k
  unfold bits_Ones.f
  repeat' first
      | (with_reducible exact ih0 _ _ _)
      | (with_reducible exact bits_half.mono _ _)
      | (with_reducible exact LeO.refl _)
      | (with_reducible exact LeO.none _)
      | (with_reducible refine LeO.ite ?_ ?_)
      | (with_reducible refine LeO.bind ?_ (fun _ => ?_))
      | exact ih0 _ _ _
      | exact bits_half.mono _ _
      | exact LeO.none _
      | refine LeO.ite ?_ ?_
      | refine LeO.bind ?_ (fun _ => ?_)
set_option maxHeartbeats 8000000 in
set_option maxRecDepth 100000 in
theorem bits_Ones.calls (k : Nat) (a0 : Int) (r : Int) (w : World) (h : bits_Ones.f k a0 = some r) :
    Calls Try.prog 11 #[.int .i64 a0] w fun e w' => e = .returned (.int .i64 r) ∧ Drawn0 w w' := by
  have H : (bits_Ones.l0 k a0 0 0) = some r := h
  clear h
  have H' := Aside0.mk H
  clear H
  go_enter Try.func11, Try.ntmps11
  go_wp2
  go_loopg [3, 5] k (fun kq v3 v5 w' => ∃ (x3_1 : Int) (x5_1 : Int), v3 = .int .i64 x3_1 ∧ v5 = .int .i64 x5_1 ∧ Aside0 (bits_Ones.l0 kq a0 x3_1 x5_1 = some r) ∧ Aside0 (kq ≤ k) ∧ Drawn0 w w')
  case atStart => exact ⟨(0), (0), (by first | rfl | (simp; done) | (simp [*]; done)), (by first | rfl | (simp; done) | (simp [*]; done)), H', ⟨Nat.le_refl _⟩, by repeat (first | exact Drawn0.refl _ | apply Drawn0.step)⟩
  case round =>
    clear H'
    try clear c1
    obtain ⟨x3_1, x5_1, rfl, rfl, HA, HK1, ⟨m1, rfl⟩⟩ := hrel
    cases gk with
    | zero => exact absurd HA.out (by simp [bits_Ones.l0])
    | succ k1 =>
      have H := HA.out
      clear HA
      simp only [bits_Ones.l0] at H
      by_cases c2 : x5_1 < 16
      · rw [if_pos c2] at H
        have c2b0 : decide (x5_1 < 16) = true := decide_eq_true c2
        clear c2
        obtain ⟨ji3, hji3⟩ : ∃ j_ : Int, (wrap64 (4 * x5_1)) = j_ := ⟨_, rfl⟩
        replace H : (if 0 ≤ (ji3) then ((bits_half.f k1 (shr .u64 (IntKind.u64.wrap (a0)) (ji3))).bind fun t101 => (bits_Ones.l0 k1 a0 (wrap64 (x3_1 + t101)) (wrap64 (x5_1 + 1)))) else (none)) = some r := by first | (rw [hji3] at H; exact H) | (simp only [hji3] at H ⊢; exact H)
        have hji3w : (IntKind.i64.wrap (4 * x5_1)) = ji3 := (i64_w _).trans hji3
        by_cases c4 : 0 ≤ (ji3)
        · rw [if_pos c4] at H
          have c4b0 := eq_true c4
          have c4b1 : decide (0 ≤ (ji3)) = true := decide_eq_true c4
          clear c4
          obtain ⟨ji5, hji5⟩ : ∃ j_ : Int, (shr .u64 (IntKind.u64.wrap (a0)) (ji3)) = j_ := ⟨_, rfl⟩
          replace H : ((bits_half.f k1 (ji5)).bind fun t101 => (bits_Ones.l0 k1 a0 (wrap64 (x3_1 + t101)) (wrap64 (x5_1 + 1)))) = some r := by first | (rw [hji5] at H; exact H) | (simp only [hji5] at H ⊢; exact H)
          have hji5_ : ((IntKind.u64.wrap (a0)) / 2 ^ min (ji3).toNat 64) = ji5 := hji5
          have hji5z : (ji3) ≤ 64 → ((IntKind.u64.wrap (a0)) / 2 ^ (ji3).toNat) = ji5 := shr_small hji5
          replace H := Option.bind_eq_some_iff.mp H
          obtain ⟨t101, A60, H⟩ := H
          replace H : (bits_Ones.l0 k1 a0 (wrap64 (x3_1 + t101)) (wrap64 (x5_1 + 1))) = some r := H
          have A6 := Aside0.mk A60
          clear A60
          have H' := Aside0.mk H
          clear H
          go_wp2_with (first | ((with_reducible refine gate_callee (f := 29) rfl ?_); refine goesL_ (some 14) rfl rfl Try.func29 (by kernel_rfl) rfl #[.int .u64 ji5] rfl (by (try simp only [List.map_toArray, List.map_cons, List.map_nil]); first | done | (simp only [hji5]; rfl) | rfl | (simp only [List.length_drop, List.length_take]; rfl)) ?_; (with_reducible refine (bits_half.calls k1 ji5 t101 _ A6.out).mono ?_); rintro e w' ⟨rfl, ⟨nd, rfl⟩⟩; refine ⟨_, rfl, ?_⟩))
          go_roundg k1
          case measure => have := HK1.out; omega
          case rel => exact ⟨(wrap64 (x3_1 + t101)), (wrap64 (x5_1 + 1)), (by first | rfl | (simp; done) | (simp [*]; done)), (by first | rfl | (simp; done) | (simp [*]; done)), H', ⟨by have := HK1.out; omega⟩, by repeat (first | exact Drawn0.refl _ | apply Drawn0.step)⟩
        · rw [if_neg c4] at H
          exact absurd H (by simp)
      · rw [if_neg c2] at H
        have c2b0 : decide (x5_1 < 16) = false := decide_eq_false c2
        clear c2
        obtain rfl := Option.some.inj H
        go_wp2
        go_ret
        exact ⟨by first | rfl | (unfold wrap64; rfl) | (simp; done) | (simp [*]; done), by repeat (first | exact Drawn0.refl _ | apply Drawn0.step)⟩

/-! ### peristyleref01_Ones: function 12 (a contract of the session's own) -/
def peristyleref01_Ones.f (a0 : Int) : Option (Int) := some (onesTo (bitsOf a0) 64)
set_option maxHeartbeats 1600000 in
theorem peristyleref01_Ones.calls0 (a0 : Int) (w : World) :
    Calls Try.prog 12 #[.int .i64 a0] w fun e w' => e = .returned (.int .i64 (onesTo (bitsOf a0) 64)) ∧ Below w.heap.size w w' := by
  go_enter Try.func12, Try.ntmps12
  go_wp2_with (first | (go_at_call 28; refine (peristyleref01_Of.calls _ _).mono ?_; rintro e w1 ⟨rfl, HB1⟩) | ((with_reducible refine gate_dst (N := 3) rfl ?_); refine arr_alloc (w0 := w) w.heap.size rfl 34 rfl _ 64 peristyleref01_Of.zero HB1 HB1.size ?_; intro g0 w2 hg0 hb0 hs0 HB2 hbs2 hgr2) | ((with_reducible refine gate_store (t := 34) (p := 3) rfl ?_); refine arr_store (w0 := w) w.heap.size rfl 34 _ _ rfl g0 _ _ rfl rfl hg0 (by rw [arrB_size, bitsOf_length]; exact peristyleref01_Of.size) (by rw [arrB_size, arrB_size, bitsOf_length]; rfl) (arrB_one _) HB2 hb0 ?_; intro w3 hg3 HB3 hbs3 hgr3))
  have A1 := Aside0.mk hg3
  have A2 := Aside0.mk HB3
  clear hg0 hs0 HB1 HB2 hbs2 hgr2 hg3 HB3 hbs3 hgr3
  go_loop [4, 5] (fun v4 v5 => ∃ k : Nat, k ≤ 64 ∧ v5 = .int .i64 k ∧ v4 = .int .i64 (onesTo (bitsOf a0) k)) (fun _ v5 => 64 - (intOf v5).toNat)
  case atStart => exact ⟨0, by omega, rfl, rfl⟩
  case round =>
    obtain ⟨k, hk, rfl, rfl⟩ := hrel
    by_cases hlt : k < 64
    · have hc2 : w3.cell? ⟨g0, k, none⟩ = some (.bool (bAt (bitsOf a0) k)) := arrB_cell A1.out k (by rw [bitsOf_length]; omega)
      have hk0 : (0 : Int) ≤ (k : Int) := by omega
      have hk1 : (k : Int) < 64 := by omega
      have hn := onesTo_le (bitsOf a0) k
      have HS : Aside0 (onesTo (bitsOf a0) (k + 1) = if bAt (bitsOf a0) k = true then onesTo (bitsOf a0) k + 1 else onesTo (bitsOf a0) k) := ⟨rfl⟩
      generalize onesTo (bitsOf a0) k = acc at HS hn ⊢
      obtain ⟨hn0, hn1⟩ := hn
      generalize bAt (bitsOf a0) k = b at hc2 HS
      cases b
      all_goals
        go_wp2
        go_round
        case rel => exact ⟨k + 1, by omega, by go_num, by rw [HS.out]; simp⟩
        case measure => simp [intOf]; omega
    · have hk64 : ¬ (k : Int) < 64 := by omega
      obtain rfl : k = 64 := by omega
      clear hk64
      go_wp2
      go_ret
      exact ⟨rfl, A2.out⟩
theorem peristyleref01_Ones.calls (a0 : Int) (r : Int) (w : World) (h : peristyleref01_Ones.f a0 = some r) :
    Calls Try.prog 12 #[.int .i64 a0] w fun e w' => e = .returned (.int .i64 r) ∧ Below w.heap.size w w' := by
  obtain rfl := Option.some.inj h
  exact peristyleref01_Ones.calls0 a0 w

/-! ### bits_Next: function 13 -/
def bits_Next.f (k : Nat) (a0 : Int) (a1 : Int) : Option (Int) := if (mx a1 0) ≥ 64 then (some (-1)) else (if (shl .u64 (shr .u64 (IntKind.u64.wrap (a0)) (mx a1 0)) (mx a1 0)) = 0 then (some (-1)) else ((bits_Width.f k (wrap64 (Go.bits .and .u64 (shl .u64 (shr .u64 (IntKind.u64.wrap (a0)) (mx a1 0)) (mx a1 0)) (IntKind.u64.wrap (-(shl .u64 (shr .u64 (IntKind.u64.wrap (a0)) (mx a1 0)) (mx a1 0))))))).bind fun t102 => (some (wrap64 (t102 - 1)))))
theorem bits_Next.mono : ∀ a0 a1 k, LeO (bits_Next.f k a0 a1) (bits_Next.f (k + 1) a0 a1) := by
  intro a0 a1 k
  unfold bits_Next.f
  repeat' first
      | (with_reducible exact bits_Width.mono _ _)
      | (with_reducible exact LeO.refl _)
      | (with_reducible exact LeO.none _)
      | (with_reducible refine LeO.ite ?_ ?_)
      | (with_reducible refine LeO.bind ?_ (fun _ => ?_))
      | exact bits_Width.mono _ _
      | exact LeO.none _
      | refine LeO.ite ?_ ?_
      | refine LeO.bind ?_ (fun _ => ?_)
set_option maxHeartbeats 8000000 in
set_option maxRecDepth 100000 in
theorem bits_Next.calls (k : Nat) (a0 : Int) (a1 : Int) (r : Int) (w : World) (h : bits_Next.f k a0 a1 = some r) :
    Calls Try.prog 13 #[.int .i64 a0, .int .i64 a1] w fun e w' => e = .returned (.int .i64 r) ∧ Below w.heap.size w w' := by
  have HB := Aside0.mk (Below.refl w.heap.size w)
  have H : (if (mx a1 0) ≥ 64 then (some (-1)) else (if (shl .u64 (shr .u64 (IntKind.u64.wrap (a0)) (mx a1 0)) (mx a1 0)) = 0 then (some (-1)) else ((bits_Width.f k (wrap64 (Go.bits .and .u64 (shl .u64 (shr .u64 (IntKind.u64.wrap (a0)) (mx a1 0)) (mx a1 0)) (IntKind.u64.wrap (-(shl .u64 (shr .u64 (IntKind.u64.wrap (a0)) (mx a1 0)) (mx a1 0))))))).bind fun t102 => (some (wrap64 (t102 - 1)))))) = some r := h
  clear h
  obtain ⟨ji3, hji3⟩ : ∃ j_ : Int, (mx a1 0) = j_ := ⟨_, rfl⟩
  replace H : (if (ji3) ≥ 64 then (some (-1)) else (if (shl .u64 (shr .u64 (IntKind.u64.wrap (a0)) (ji3)) (ji3)) = 0 then (some (-1)) else ((bits_Width.f k (wrap64 (Go.bits .and .u64 (shl .u64 (shr .u64 (IntKind.u64.wrap (a0)) (ji3)) (ji3)) (IntKind.u64.wrap (-(shl .u64 (shr .u64 (IntKind.u64.wrap (a0)) (ji3)) (ji3))))))).bind fun t102 => (some (wrap64 (t102 - 1)))))) = some r := by first | (rw [hji3] at H; exact H) | (simp only [hji3] at H ⊢; exact H)
  (try (have hji3l : 0 ≤ ji3 := by (rw [← hji3]; unfold mx; (repeat' split) <;> omega)))
  (try (have hji3m : 0 ≤ ji3 := by omega))
  have hji3_ : (if a1 < 0 then 0 else a1) = ji3 := hji3
  by_cases c4 : (ji3) ≥ 64
  · rw [if_pos c4] at H
    have c4b0 : decide (64 ≤ (ji3)) = true := decide_eq_true c4
    clear c4
    obtain rfl := Option.some.inj H
    go_enter Try.func13, Try.ntmps13
    go_wp2
    go_ret
    exact ⟨by first | rfl | (simp [errW_none, errW_some] <;> rfl) | (simp only [← hji3]; first | rfl | (simp [errW_none, errW_some] <;> rfl)) | (simp [*, errW_none, errW_some] <;> rfl), by repeat (first | (with_reducible first | exact HB.out | apply below_alloc | apply pw_below_drewN | apply below_drew1) | exact HB.out)⟩
  · rw [if_neg c4] at H
    have c4b0 : decide (64 ≤ (ji3)) = false := decide_eq_false c4
    clear c4
    obtain ⟨ji5, hji5⟩ : ∃ j_ : Int, (shr .u64 (IntKind.u64.wrap (a0)) (ji3)) = j_ := ⟨_, rfl⟩
    replace H : (if (shl .u64 (ji5) (ji3)) = 0 then (some (-1)) else ((bits_Width.f k (wrap64 (Go.bits .and .u64 (shl .u64 (ji5) (ji3)) (IntKind.u64.wrap (-(shl .u64 (ji5) (ji3))))))).bind fun t102 => (some (wrap64 (t102 - 1))))) = some r := by first | (rw [hji5] at H; exact H) | (simp only [hji5] at H ⊢; exact H)
    have hji5_ : ((IntKind.u64.wrap (a0)) / 2 ^ min (ji3).toNat 64) = ji5 := hji5
    have hji5z : (ji3) ≤ 64 → ((IntKind.u64.wrap (a0)) / 2 ^ (ji3).toNat) = ji5 := shr_small hji5
    obtain ⟨ji6, hji6⟩ : ∃ j_ : Int, (shl .u64 (ji5) (ji3)) = j_ := ⟨_, rfl⟩
    replace H : (if (ji6) = 0 then (some (-1)) else ((bits_Width.f k (wrap64 (Go.bits .and .u64 (ji6) (IntKind.u64.wrap (-(ji6)))))).bind fun t102 => (some (wrap64 (t102 - 1))))) = some r := by first | (rw [hji6] at H; exact H) | (simp only [hji6] at H ⊢; exact H)
    have hji6_ : (IntKind.u64.wrap ((ji5) * 2 ^ min (ji3).toNat 64)) = ji6 := hji6
    have hji6z : (ji3) ≤ 64 → (IntKind.u64.wrap ((ji5) * 2 ^ (ji3).toNat)) = ji6 := shl_small hji6
    by_cases c7 : (ji6) = 0
    · rw [if_pos c7] at H
      have c7b0 : ((ji6) == 0) = true := beq_iff_eq.mpr c7
      have c7b1 : ((ji6) != 0) = false := bne_eq_false_iff_eq.mpr c7
      clear c7
      obtain rfl := Option.some.inj H
      go_enter Try.func13, Try.ntmps13
      go_wp2
      go_ret
      exact ⟨by first | rfl | (simp [errW_none, errW_some] <;> rfl) | (simp only [← hji3, ← hji5, ← hji6]; first | rfl | (simp [errW_none, errW_some] <;> rfl)) | (simp [*, errW_none, errW_some] <;> rfl), by repeat (first | (with_reducible first | exact HB.out | apply below_alloc | apply pw_below_drewN | apply below_drew1) | exact HB.out)⟩
    · rw [if_neg c7] at H
      have c7b0 : ((ji6) == 0) = false := beq_eq_false_iff_ne.mpr c7
      have c7b1 : ((ji6) != 0) = true := bne_iff_ne.mpr c7
      replace H := Option.bind_eq_some_iff.mp H
      obtain ⟨t102, A80, H⟩ := H
      replace H : (some (wrap64 (t102 - 1))) = some r := H
      have A8 := Aside0.mk A80
      clear A80
      obtain rfl := Option.some.inj H
      go_enter Try.func13, Try.ntmps13
      go_wp2_with (first | ((with_reducible refine gate_callee (f := 9) rfl ?_); refine goesL_ (some 23) rfl rfl Try.func9 (by kernel_rfl) rfl #[.int .i64 (wrap64 (Go.bits .and .u64 (ji6) (IntKind.u64.wrap (-(ji6)))))] rfl (by (try simp only [List.map_toArray, List.map_cons, List.map_nil]); first | done | (simp only [hji6]; rfl) | rfl | (simp only [List.length_drop, List.length_take]; rfl)) ?_; (with_reducible refine (bits_Width.calls k (wrap64 (Go.bits .and .u64 (ji6) (IntKind.u64.wrap (-(ji6))))) t102 _ A8.out).mono ?_); rintro e w' ⟨rfl, ⟨nd, rfl⟩⟩; refine ⟨_, rfl, ?_⟩))
      go_ret
      exact ⟨by first | rfl | (simp [errW_none, errW_some] <;> rfl) | (simp only [← hji3, ← hji5, ← hji6]; first | rfl | (simp [errW_none, errW_some] <;> rfl)) | (simp [*, errW_none, errW_some] <;> rfl), by repeat (first | (with_reducible first | exact HB.out | apply below_alloc | apply pw_below_drewN | apply below_drew1) | exact HB.out)⟩

/-! ### peristyleref01_Next: function 14 (a contract of the session's own) -/
def peristyleref01_Next.f (a0 a1 : Int) : Option (Int) := some (nextIn (bitsOf a0) a1 64)
set_option maxHeartbeats 1600000 in
theorem peristyleref01_Next.calls0 (a0 a1 : Int) (w : World) :
    Calls Try.prog 14 #[.int .i64 a0, .int .i64 a1] w fun e w' => e = .returned (.int .i64 (nextIn (bitsOf a0) a1 64)) ∧ Below w.heap.size w w' := by
  go_enter Try.func14, Try.ntmps14
  go_wp2_with (first | (go_at_call 28; refine (peristyleref01_Of.calls _ _).mono ?_; rintro e w1 ⟨rfl, HB1⟩) | ((with_reducible refine gate_dst (N := 5) rfl ?_); refine arr_alloc (w0 := w) w.heap.size rfl 34 rfl _ 64 peristyleref01_Of.zero HB1 HB1.size ?_; intro g0 w2 hg0 hb0 hs0 HB2 hbs2 hgr2) | ((with_reducible refine gate_store (t := 34) (p := 5) rfl ?_); refine arr_store (w0 := w) w.heap.size rfl 34 _ _ rfl g0 _ _ rfl rfl hg0 (by rw [arrB_size, bitsOf_length]; exact peristyleref01_Of.size) (by rw [arrB_size, arrB_size, bitsOf_length]; rfl) (arrB_one _) HB2 hb0 ?_; intro w3 hg3 HB3 hbs3 hgr3))
  have A1 := Aside0.mk hg3
  have A2 := Aside0.mk HB3
  clear hg0 hs0 HB1 HB2 hbs2 hgr2 hg3 HB3 hbs3 hgr3
  go_loop [6] (fun v6 => ∃ d : Nat, d ≤ 64 ∧ v6 = .int .i64 ((64 - d : Nat) : Int) ∧ Aside0 (nextIn (bitsOf a0) a1 64 = nextIn (bitsOf a0) a1 d)) (fun v6 => 64 - (intOf v6).toNat)
  case atStart => exact ⟨64, by omega, rfl, ⟨rfl⟩⟩
  case round =>
    obtain ⟨d, hd, rfl, HT⟩ := hrel
    rcases d with _ | d
    · go_wp2
      go_ret
      exact ⟨by rw [HT.out]; rfl, A2.out⟩
    · have HS : Aside0 (nextIn (bitsOf a0) a1 (d + 1) = if bAt (bitsOf a0) (63 - d) = true ∧ a1 ≤ ((63 - d : Nat) : Int) then ((63 - d : Nat) : Int) else nextIn (bitsOf a0) a1 d) := ⟨rfl⟩
      have HN : Aside0 (∀ k : Nat, 63 - d = k → 64 - d = k + 1) := ⟨by omega⟩
      rw [show 64 - (d + 1) = 63 - d by omega]
      have hk : 63 - d ≤ 63 := by omega
      generalize 63 - d = k at HS HN hk ⊢
      have hc2 : w3.cell? ⟨g0, k, none⟩ = some (.bool (bAt (bitsOf a0) k)) := arrB_cell A1.out k (by rw [bitsOf_length]; omega)
      have hk0 : (0 : Int) ≤ (k : Int) := by omega
      have hk1 : (k : Int) < 64 := by omega
      generalize bAt (bitsOf a0) k = b at hc2 HS
      cases b
      · go_wp2
        go_round
        case rel => exact ⟨d, by omega, by rw [HN.out k rfl]; go_num, ⟨by rw [HT.out, HS.out]; simp⟩⟩
        case measure => simp [intOf]; omega
      · by_cases ha : a1 ≤ (k : Int)
        · go_wp2
          go_ret
          exact ⟨by rw [HT.out, HS.out]; simp [ha], A2.out⟩
        · go_wp2
          go_round
          case rel => exact ⟨d, by omega, by rw [HN.out k rfl]; go_num, ⟨by rw [HT.out, HS.out]; simp [ha]⟩⟩
          case measure => simp [intOf]; omega
theorem peristyleref01_Next.calls (a0 a1 : Int) (r : Int) (w : World) (h : peristyleref01_Next.f a0 a1 = some r) :
    Calls Try.prog 14 #[.int .i64 a0, .int .i64 a1] w fun e w' => e = .returned (.int .i64 r) ∧ Below w.heap.size w w' := by
  obtain rfl := Option.some.inj h
  exact peristyleref01_Next.calls0 a0 a1 w

/-! ### bits_Mask: function 15 -/
def bits_Mask.f (a0 : Int) : Option (Int) := if a0 ≤ 0 then (some 0) else (if a0 ≥ 64 then (some (-1)) else (if 0 ≤ a0 then (some (wrap64 (IntKind.u64.wrap ((shl .u64 1 a0) - 1)))) else (none)))
set_option maxHeartbeats 8000000 in
set_option maxRecDepth 100000 in
theorem bits_Mask.calls (a0 : Int) (r : Int) (w : World) (h : bits_Mask.f a0 = some r) :
    Calls Try.prog 15 #[.int .i64 a0] w fun e w' => e = .returned (.int .i64 r) ∧ Drawn0 w w' := by
  have H : (if a0 ≤ 0 then (some 0) else (if a0 ≥ 64 then (some (-1)) else (if 0 ≤ a0 then (some (wrap64 (IntKind.u64.wrap ((shl .u64 1 a0) - 1)))) else (none)))) = some r := h
  clear h
  by_cases c2 : a0 ≤ 0
  · rw [if_pos c2] at H
    have c2b0 : decide (a0 ≤ 0) = true := decide_eq_true c2
    clear c2
    obtain rfl := Option.some.inj H
    go_enter Try.func15, Try.ntmps15
    go_wp2
    go_ret
    exact ⟨by first | rfl | (unfold wrap64; rfl) | (simp; done) | (simp [*]; done), by repeat (first | exact Drawn0.refl _ | apply Drawn0.step)⟩
  · rw [if_neg c2] at H
    have c2b0 : decide (a0 ≤ 0) = false := decide_eq_false c2
    clear c2
    by_cases c3 : a0 ≥ 64
    · rw [if_pos c3] at H
      have c3b0 : decide (64 ≤ a0) = true := decide_eq_true c3
      clear c3
      obtain rfl := Option.some.inj H
      go_enter Try.func15, Try.ntmps15
      go_wp2
      go_ret
      exact ⟨by first | rfl | (unfold wrap64; rfl) | (simp; done) | (simp [*]; done), by repeat (first | exact Drawn0.refl _ | apply Drawn0.step)⟩
    · rw [if_neg c3] at H
      have c3b0 : decide (64 ≤ a0) = false := decide_eq_false c3
      clear c3
      by_cases c4 : 0 ≤ a0
      · rw [if_pos c4] at H
        have c4b0 := eq_true c4
        have c4b1 : decide (0 ≤ a0) = true := decide_eq_true c4
        clear c4
        obtain ⟨ji5, hji5⟩ : ∃ j_ : Int, (shl .u64 1 a0) = j_ := ⟨_, rfl⟩
        replace H : (some (wrap64 (IntKind.u64.wrap ((ji5) - 1)))) = some r := by first | (rw [hji5] at H; exact H) | (simp only [hji5] at H ⊢; exact H)
        have hji5_ : (IntKind.u64.wrap (1 * 2 ^ min a0.toNat 64)) = ji5 := hji5
        have hji5z : a0 ≤ 64 → (IntKind.u64.wrap (1 * 2 ^ a0.toNat)) = ji5 := shl_small hji5
        have hji5u : (IntKind.u64.wrap (2 ^ min a0.toNat 64)) = ji5 := by have h_ := hji5_; rw [Int.one_mul] at h_; exact h_
        have hji5v : a0 ≤ 64 → (IntKind.u64.wrap (2 ^ a0.toNat)) = ji5 := fun hle_ => by have h_ := hji5z hle_; rw [Int.one_mul] at h_; exact h_
        obtain rfl := Option.some.inj H
        go_enter Try.func15, Try.ntmps15
        go_wp2
        go_ret
        exact ⟨by first | rfl | (unfold wrap64; rfl) | (simp; done) | (simp only [← hji5] <;> (first | rfl | simp)) | (simp [*]; done), by repeat (first | exact Drawn0.refl _ | apply Drawn0.step)⟩
      · rw [if_neg c4] at H
        exact absurd H (by simp)

/-! ### peristyleref01_Word: function 30 (a contract of the session's own) -/
set_option maxHeartbeats 800000 in
theorem peristyleref01_Word.calls (l : List Bool) (hl : l.length = 64) (w : World) :
    Calls Try.prog 30 #[.agg (arrB l)] w fun e w' => e = .returned (.int .i64 (wordTo l 64)) ∧ Below w.heap.size w w' := by
  have HL := Aside0.mk hl
  clear hl
  go_enter Try.func30, Try.ntmps30
  go_wp2_with (first | ((with_reducible refine gate_dst (N := 1) rfl ?_); refine arr_box (w0 := w) w.heap.size rfl 34 _ rfl _ rfl (Below.refl _ _) (Nat.le_refl _) ?_; intro g0 w1 hg0 hb0 hs0 HB1 hbs1 hgr1))
  have A1 := Aside0.mk hg0
  have A2 := Aside0.mk HB1
  clear hg0 hs0 HB1 hbs1 hgr1
  go_loop [3, 4] (fun v3 v4 => ∃ k : Nat, k ≤ 64 ∧ v4 = .int .i64 k ∧ v3 = .int .i64 (wordTo l k)) (fun _ v4 => 64 - (intOf v4).toNat)
  case atStart => exact ⟨0, by omega, rfl, rfl⟩
  case round =>
    obtain ⟨k, hk, rfl, rfl⟩ := hrel
    by_cases hlt : k < 64
    · have hc2 : w1.cell? ⟨g0, k, none⟩ = some (.bool (bAt l k)) := arrB_cell A1.out k (by rw [HL.out]; exact hlt)
      have hk0 : (0 : Int) ≤ (k : Int) := by omega
      have hk1 : (k : Int) < 64 := by omega
      have HS : Aside0 (wordTo l (k + 1) = if bAt l k = true then Go.bits .or .i64 (wordTo l k) (wrap64 (2 ^ k)) else wordTo l k) := ⟨rfl⟩
      generalize wordTo l k = acc at HS ⊢
      generalize bAt l k = b at hc2 HS
      cases b
      all_goals
        go_wp2
        go_round
        case rel => exact ⟨k + 1, by omega, by go_num, by rw [HS.out]; simp⟩
        case measure => simp [intOf]; omega
    · have hk64 : ¬ (k : Int) < 64 := by omega
      obtain rfl : k = 64 := by omega
      clear hk64
      go_wp2
      go_ret
      exact ⟨rfl, A2.out⟩


end Go.Proofs.Ytconnhmlpolmnaa.Print
