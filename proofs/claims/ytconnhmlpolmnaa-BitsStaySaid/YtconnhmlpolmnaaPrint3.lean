-- Written by the session's own xprint (over the kit's print program): functions, contracts.
import Derived.Test.YtconnhmlpolmnaaPrint0
import Derived.Test.YtconnhmlpolmnaaPrint1
namespace Go.Proofs.Ytconnhmlpolmnaa.Print
open Go.RowKit Go.Proofs.YtconnhmlpolmnaaW.PrintWords Go.Proofs.YtconnhmlpolmnaaW.PrintLast Go.Proofs.YtconnhmlpolmnaaW.PrintMore
attribute [local go_sem] max2_int min2_int max_two min_two max_three min_three max_four min_four   -- for this text's walks alone
set_option linter.unusedVariables false
set_option linter.unusedSimpArgs false

/-! ### peristyleref01_With: function 25 (a contract of the session's own) -/
def peristyleref01_With.f (a0 a1 a2 a3 : Int) : Option (Int) := some (wordTo (putTo (bitsOf a0) (bitsOf a3) a1.toNat (fieldN a1 a2)) 64)
set_option maxHeartbeats 1600000 in
theorem peristyleref01_With.calls0 (a0 a1 a2 a3 : Int) (w : World) :
    Calls Try.prog 25 #[.int .i64 a0, .int .i64 a1, .int .i64 a2, .int .i64 a3] w fun e w' => e = .returned (.int .i64 (wordTo (putTo (bitsOf a0) (bitsOf a3) a1.toNat (fieldN a1 a2)) 64)) ∧ Below w.heap.size w w' := by
  go_enter Try.func25, Try.ntmps25
  go_wp2_with fail
  refine (peristyleref01_Of.calls a0 _).mono ?_
  rintro e w1 ⟨rfl, HB1⟩
  go_wp2_with fail
  refine (peristyleref01_Of.calls a3 _).mono ?_
  rintro e w2 ⟨rfl, HB2a⟩
  have HB2 := below_step HB1 HB2a
  go_wp2_with (first | ((with_reducible refine gate_dst (N := 9) rfl ?_); refine arr_alloc (w0 := w) w.heap.size rfl 34 rfl _ 64 peristyleref01_Of.zero HB2 HB2.size ?_; intro g0 w3 hg0 hb0 hs0 HB3 hbs3 hgr3) | ((with_reducible refine gate_dst (N := 10) rfl ?_); refine arr_alloc (w0 := w) w.heap.size rfl 34 rfl _ 64 peristyleref01_Of.zero HB3 hbs3 ?_; intro g1 w4 hg1 hb1 hs1 HB4 hbs4 hgr4) | ((with_reducible refine gate_store (t := 34) (p := 9) rfl ?_); refine arr_store (w0 := w) w.heap.size rfl 34 _ _ rfl g0 _ _ rfl rfl (blk_grown hg0 hgr4 (by simp)) (by rw [arrB_size, bitsOf_length]; exact peristyleref01_Of.size) (by rw [arrB_size, arrB_size, bitsOf_length]; rfl) (arrB_one _) HB4 hb0 ?_; intro w5 hg5 HB5 hbs5 hgr5) | ((with_reducible refine gate_store (t := 34) (p := 10) rfl ?_); have hne : g0 ≠ g1 := (by have := blk_lt hg0; omega); have hg15 := blk_grown hg1 hgr5 (by simpa using hne.symm); refine arr_store (w0 := w) w.heap.size rfl 34 _ _ rfl g1 _ _ rfl rfl hg15 (by rw [arrB_size, bitsOf_length]; exact peristyleref01_Of.size) (by rw [arrB_size, arrB_size, bitsOf_length]; rfl) (arrB_one _) HB5 hb1 ?_; intro w6 hg6 HB6 hbs6 hgr6; have hg06 := blk_grown hg5 hgr6 (by simpa using hne)))
  have A1 := Aside0.mk hg06
  have A2 := Aside0.mk hg6
  have A3 := Aside0.mk HB6
  have A4 := Aside0.mk hne
  clear HB1 HB2a HB2 hg0 hs0 HB3 hbs3 hgr3 hg1 hs1 HB4 hbs4 hgr4 hg5 HB5 hbs5 hgr5 hg15 hg6 HB6 hbs6 hgr6 hg06 hne
  go_loopw [11] (fun v11 wr => ∃ k : Nat, Aside0 (k ≤ fieldN a1 a2) ∧ v11 = .int .i64 k ∧ Aside0 (wr.heap[g0]? = some (.cells (arrB (putTo (bitsOf a0) (bitsOf a3) a1.toNat k)) 34 (0, 0))) ∧ Aside0 (wr.heap[g1]? = some (.cells (arrB (bitsOf a3)) 34 (0, 0))) ∧ Aside0 (Below w.heap.size w wr)) (fun v11 _ => 64 - (intOf v11).toNat)
  case atStart => exact ⟨0, ⟨Nat.zero_le _⟩, rfl, A1, A2, A3⟩
  case round =>
    clear A1 A2 A3
    obtain ⟨k, HK, rfl, C1, C2, C3⟩ := hrel
    have HL : Aside0 ((putTo (bitsOf a0) (bitsOf a3) a1.toNat k).length = 64) := ⟨by rw [putTo_length, bitsOf_length]⟩
    have hk0 : (0 : Int) ≤ (k : Int) := by omega
    by_cases hlt : k < fieldN a1 a2
    · obtain ⟨h0, h1, h2, h3, h4⟩ := fieldN_in hlt
      obtain ⟨p, rfl⟩ := Int.eq_ofNat_of_zero_le h0
      have HLT := Aside0.mk hlt
      clear hlt
      have co : wr.cell? ⟨g0, p + k, none⟩ = some (.bool (bAt (putTo (bitsOf a0) (bitsOf a3) (p : Int).toNat k) (p + k))) := arrB_cell C1.out (p + k) (by rw [HL.out]; omega)
      have fo : wr.frozen? ⟨g0, p + k, none⟩ = false := blk_frozen C1.out (p + k)
      have cb : wr.cell? ⟨g1, k, none⟩ = some (.bool (bAt (bitsOf a3) k)) := arrB_cell C2.out k (by rw [bitsOf_length]; omega)
      generalize bAt (putTo (bitsOf a0) (bitsOf a3) (p : Int).toNat k) (p + k) = old at co
      go_wp2
      go_roundw
      case rel => exact ⟨k + 1, ⟨HLT.out⟩, by go_num, ⟨arrB_put C1.out (p + k) (bAt (bitsOf a3) k)⟩, ⟨blk_far C2.out (fun e => A4.out e.symm) _⟩, ⟨C3.out.setCell hb0 _⟩⟩
      case measure => simp [intOf]; omega
    · have hkn : k = fieldN a1 a2 := by have := HK.out; omega
      have HX := Aside0.mk (fieldN_out hkn)
      have HF : Aside0 (wordTo (putTo (bitsOf a0) (bitsOf a3) a1.toNat k) 64 = wordTo (putTo (bitsOf a0) (bitsOf a3) a1.toNat (fieldN a1 a2)) 64) := ⟨by rw [← hkn]⟩
      clear hlt HK hkn
      rcases HX.out with hx | hx | hx | ⟨hx0, hx1, hx⟩
      all_goals
        clear HX
        by_cases h64 : (k : Int) < 64
      all_goals (try by_cases hw : (k : Int) < a2)
      all_goals (try by_cases hp : 0 ≤ a1)
      all_goals first | (exfalso; omega; done) | skip
      all_goals
        go_wp2_with (first | ((with_reducible refine gate_dst (N := 46) rfl ?_); refine wpList_load_row rfl 34 _ rfl g0 rfl 34 _ (0, 0) _ C1.out Try.underlying34 rfl (by rw [arrB_size, HL.out]; exact peristyleref01_Of.size) ?_) | (go_at_call 30; refine (peristyleref01_Word.calls _ HL.out _).mono ?_; rintro e w9 ⟨rfl, HB9⟩))
        go_ret
        exact ⟨by rw [← HF.out]; rfl, below_step C3.out HB9⟩
theorem peristyleref01_With.calls (a0 a1 a2 a3 : Int) (r : Int) (w : World) (h : peristyleref01_With.f a0 a1 a2 a3 = some r) :
    Calls Try.prog 25 #[.int .i64 a0, .int .i64 a1, .int .i64 a2, .int .i64 a3] w fun e w' => e = .returned (.int .i64 r) ∧ Below w.heap.size w w' := by
  obtain rfl := Option.some.inj h
  exact peristyleref01_With.calls0 a0 a1 a2 a3 w

end Go.Proofs.Ytconnhmlpolmnaa.Print
