-- Written by the session's own xprint (over the kit's print program): functions, contracts.
import Derived.Test.YtconnhmlpolmnaaRows
import Derived.Test.YtconnhmlpolmnaaPrint5
import Derived.Test.YtconnhmlpolmnaaPureBitsStay
import Derived.Test.YtconnhmlpolmnaaXO
import Derived.WalkKit
import Derived.ProofKit
import Derived.OpenShut
import Derived.ShutString
import Derived.ChangeOld
import Derived.Below
import Derived.SizedLaws
namespace Go.Proofs.Ytconnhmlpolmnaa.bitsStay
open Go.ChangeShapes Go.WideShapes Go.ChangeAt Go.RowKit
open Go.ChangeMaps (open_string shut_string)
open Go.Proofs.YtconnhmlpolmnaaW.PrintWords Go.Proofs.Ytconnhmlpolmnaa.Print
set_option linter.unusedVariables false
theorem own : ownKnob Try.prog.godebug = none := by kernel_rfl
theorem laidOut : laidOutB Try.prog = true := by kernel_rfl
abbrev xu3 := Try.underlying3
abbrev xu27 := Try.underlying27
set_option maxRecDepth 100000 in
theorem lifted (os : Os) (started : os.Started) (H : Type) (enc : TypeId × Value → H) :
    ReturnsInHanded {} Try.checked os 6 .any (Rows.bitsStaySpec.pre6 enc Try.prog Try.f6 Rows.bitsStayRow.domain false) (Rows.bitsStaySpec.post enc Try.prog Try.f6 false true false false) := by
  refine returnsInHanded_of_change_sized (C := Try.checked) own started (by kernel_rfl) Try.func6
    (ChangeSpec.witness6 (enc := enc) (C := Try.checked) false ⟨#[], #[.int .i64 0, .agg #[.int .i64 0, .int .i64 0], .int .i64 0], []⟩ 8 (by kernel_rfl) (by kernel_rfl) (by kernel_rfl) (by kernel_rfl)) ?_
  intro W base args ds gs before hval0 hW hcnd hsz0 _
  have hsz : (DataW.weightsEach Try.prog (Try.f6.params.toList ++ Rows.bitsStaySpec.plain.varTypes Try.prog) (ds ++ gs)).all (· ≤ reachBytes) = true := hsz0
  have hval : ∀ (j : Nat) t v, Try.f6.params[j]? = some t → args[j]? = some v → Value.okWide Try.prog W .any base t v := hval0
  have hW' := hW
  obtain ⟨p, q, hA0, hV, rfl, hfz, hnd⟩ := hW
  have hA : DataW.TrodAll enc Try.prog W 0 (fun _ => true) true Try.f6.params.toList args.toList ds p := hA0
  rw [Try.params6] at hA hval hsz
  obtain ⟨v0, vs0, d0, ds0, p0, q0, hargs, rfl, rfl, h0, r0⟩ := trodAll_cons hA
  obtain ⟨v1, vs1, d1, ds1, p1, q1, rfl, rfl, rfl, h1, r1⟩ := trodAll_cons r0
  obtain ⟨v2, vs2, d2, ds2, p2, q2, rfl, rfl, rfl, h2, r2⟩ := trodAll_cons r1
  obtain ⟨rfl, rfl, rfl⟩ := trodAll_nil r2
  obtain rfl : args = #[v0, v1, v2] := by cases args; simp_all
  obtain ⟨rfl, rfl⟩ := trodVars_none hV
  obtain ⟨a0, rfl, rfl, rfl, w0⟩ := open_int Try.underlying3 (hval 0 3 v0 rfl rfl) h0
  have k1 := h1
  have lt1 : ∀ x ∈ p1, x.block < W.heap.size := by obtain ⟨m, hm⟩ := k1; exact DataW.trod_lt m _ _ _ hm
  obtain ⟨⟨a1_0, a1_1⟩, K1, ⟨w1_0, w1_1⟩⟩ := (XO.Opens.array xu27 (fs' := [(0, 3), (1, 3)]) (by kernel_rfl) (by kernel_rfl) (XO.OpensF.cons (by kernel_rfl) (by kernel_rfl) (XO.Opens.int xu3) (XO.OpensF.one (by kernel_rfl) (XO.Opens.int xu3)))).arg h1 hsz (j := 1) rfl rfl
  obtain ⟨cs1, rfl, _⟩ := XO.okWide_array xu27 (hval 1 27 v1 rfl rfl)
  have he1 : cs1 = #[.int .i64 a1_0, .int .i64 a1_1] := by
    have K_ : _ := K1
    have he_ : ∃ xs : List Value, cs1.toList = xs := ⟨_, rfl⟩
    change (_ : Kd _).K W _ cs1.toList at K_
    obtain ⟨xs_, hx_⟩ := he_
    rw [hx_] at K_
    obtain ⟨_, _, rfl, rfl, rfl⟩ := K_
    exact by cases cs1; simpa using hx_
  subst he1
  obtain ⟨a2, rfl, rfl, rfl, w2⟩ := open_int Try.underlying3 (hval 2 3 v2 rfl rfl) h2
  clear hA0 hval0 hsz0 hsz
  refine (Print.peristylelaw01_BitsStay.walk Pure.BitsStay a0 a1_0 a1_1 a2 W w0 w1_0 w1_1 w2).mono fun e W' ⟨he, bel⟩ => ?_
  subst he
  exact ⟨_, rfl, _, _, _, [], _, [], hW', trodAll_mk1 (shut_bool Try.underlying4 _), (trodAll_cons_mk (shut_int Try.underlying3 w0) (trodAll_cons_mk (Below.trod laidOut (by kernel_rfl) (of_decide_eq_true (by kernel_rfl)) k1 bel lt1) (trodAll_cons_mk (shut_int Try.underlying3 w2) trodAll_mk0))), rfl, bel.frame _, fun h => by cases h⟩
theorem over : Rows.bitsStayRow.holds Try.pinned (OpenSpec.ofChange Rows.bitsStaySpec) :=
  OpenClaim.holds_of_wide 6 Try.f6 rfl rfl rfl rfl rfl rfl rfl ⟨rfl, rfl, rfl, rfl, rfl⟩ rfl rfl rfl rfl rfl (by kernel_rfl) Try.func6 (by kernel_rfl)
    (of_decide_eq_true (by kernel_rfl)) (by unfold Func.isWrapper; first | (rw [if_pos (by decide +kernel)]; kernel_rfl) | (rw [if_neg (by decide +kernel)]; exact ⟨rfl, rfl⟩))
    (fun os started H enc _ => lifted os started H enc)
theorem proved : Rows.BitsStaySaid := over
#print axioms proved
end Go.Proofs.Ytconnhmlpolmnaa.bitsStay
namespace Go.Proofs.Ytconnhmlpolmnaa
/-- The row, under a short name, for the claim. -/
theorem bitsStay_holds : Rows.BitsStaySaid := bitsStay.proved
end Go.Proofs.Ytconnhmlpolmnaa
