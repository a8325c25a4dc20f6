/- ExtentFor: how many blocks any number of bytes needs. -/
import Derived.Test.YtdchljjhajbehaaFC
namespace Go.Proofs.Ytdchljjhajbehaa.Ex
open Go.RowKit Go.Proofs.Ytdchljjhajbehaa.Print Go.Proofs.YtdchljjhajbehaaW.PrintWords Go.Proofs.YtdchljjhajbehaaW.PrintLast Go.Proofs.YtdchljjhajbehaaW.PrintMore Go.Proofs.Ytdchljjhajbehaa.Holes
set_option linter.unusedVariables false
set_option linter.unusedSimpArgs false
/-- so many blocks do so many bytes need -/
def forS (a : Int) : Int := if a < 1 then 0 else (a - 1) / 128 + 1
theorem forS_eq (a : Int) (h : -9223372036854775808 ≤ a ∧ a ≤ 9223372036854775807) : extent_For.f a = some (forS a) := by
  unfold extent_For.f forS
  by_cases h1 : a < 1
  · rw [if_pos h1, if_pos h1]
  · rw [if_neg h1, if_neg h1]
    have e1 : wrap64 (a - 1) = a - 1 := by unfold wrap64; omega
    have e2 : Int.tdiv (a - 1) 128 = (a - 1) / 128 := Int.tdiv_eq_ediv_of_nonneg (by omega)
    have e3 : wrap64 ((a - 1) / 128) = (a - 1) / 128 := by unfold wrap64; omega
    have e4 : wrap64 ((a - 1) / 128 + 1) = (a - 1) / 128 + 1 := by unfold wrap64; omega
    rw [e1, e2, e3, e4]
set_option maxHeartbeats 4000000 in
set_option maxRecDepth 100000 in
theorem ExtentFor_walk (a : Int) (w : World) (w0 : (Lit.int .i64 a).wf = true) : Calls Try.prog 4 #[.int .i64 a] w fun e w' => e = .returned (.bool true) ∧ Below w.heap.size w w' := by
  have hr : -9223372036854775808 ≤ a ∧ a ≤ 9223372036854775807 := by have := Go.Proofs.YtdchljjhajbehaaW.PrintWords.InI.of_wf w0; unfold Go.Proofs.YtdchljjhajbehaaW.PrintWords.InI at this; omega
  have HF := Aside0.mk (extent_For.calls a (forS a) w (forS_eq a hr))
  by_cases h1 : a < 1
  · have e : forS a = 0 := by unfold forS; rw [if_pos h1]
    rw [e] at HF
    clear hr
    go_enter Try.func4, Try.ntmps4
    go_wp2_with (first | (go_at_call 14; refine HF.out.mono ?_; rintro e w1 ⟨rfl, hb⟩; have HB := Aside0.mk hb.below; clear hb) | (go_at_call 13; refine (awake_calls _).mono ?_; rintro e w2 ⟨rfl, hb⟩; have HB2 := Aside0.mk (below_then HB.out HB.out.size hb); clear hb))
    go_ret
    exact ⟨rfl, HB2.out⟩
  · have e : forS a = (a - 1) / 128 + 1 := by unfold forS; rw [if_neg h1]
    obtain ⟨r, hre⟩ : ∃ r, r = forS a := ⟨_, rfl⟩
    rw [← hre] at e HF
    have d1 : decide (1 ≤ r) = true := decide_eq_true (by omega)
    have e1 : IntKind.i64.wrap (r - 1) = r - 1 := by rw [IntKind.wrap_i64]; omega
    have d2 : decide (r - 1 < 72057594037927936) = true := decide_eq_true (by omega)
    have e2 : IntKind.i64.wrap ((r - 1) * 128) = (r - 1) * 128 := by rw [IntKind.wrap_i64]; omega
    have d3 : decide ((r - 1) * 128 < a) = true := decide_eq_true (by omega)
    have e3 : IntKind.i64.wrap (a - (r - 1) * 128) = a - (r - 1) * 128 := by rw [IntKind.wrap_i64]; omega
    have d4 : decide (a - (r - 1) * 128 ≤ 128) = true := decide_eq_true (by omega)
    clear hr e hre
    go_enter Try.func4, Try.ntmps4
    go_wp2_with (first | (go_at_call 14; refine HF.out.mono ?_; rintro e w1 ⟨rfl, hb⟩; have HB := Aside0.mk hb.below; clear hb) | (go_at_call 13; refine (awake_calls _).mono ?_; rintro e w2 ⟨rfl, hb⟩; have HB2 := Aside0.mk (below_then HB.out HB.out.size hb); clear hb))
    go_ret
    exact ⟨rfl, HB2.out⟩
end Go.Proofs.Ytdchljjhajbehaa.Ex
