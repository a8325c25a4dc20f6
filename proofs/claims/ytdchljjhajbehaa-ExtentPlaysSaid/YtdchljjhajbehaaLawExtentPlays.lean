-- Written by the session's own xprint (over the kit's print program): functions, contracts.
import Derived.Test.YtdchljjhajbehaaRows
import Derived.Test.YtdchljjhajbehaaFJ
import Derived.Test.YtdchljjhajbehaaXO
import Derived.WalkKit
import Derived.ProofKit
import Derived.OpenShut
import Derived.ShutString
import Derived.ChangeOld
import Derived.Below
import Derived.SizedLaws
namespace Go.Proofs.Ytdchljjhajbehaa.extentPlays
open Go.ChangeShapes Go.WideShapes Go.ChangeAt Go.RowKit
open Go.ChangeMaps (open_string shut_string)
open Go.Proofs.YtdchljjhajbehaaW.PrintWords Go.Proofs.Ytdchljjhajbehaa.Print
set_option linter.unusedVariables false
theorem own : ownKnob Try.prog.godebug = none := by kernel_rfl
theorem laidOut : laidOutB Try.prog = true := by kernel_rfl
abbrev xu3 := Try.underlying3
abbrev xu31 := Try.underlying31
abbrev xu46 := Try.underlying46
abbrev xu40 := Try.underlying40
set_option maxRecDepth 100000 in
theorem lifted (os : Os) (started : os.Started) (H : Type) (enc : TypeId × Value → H) :
    ReturnsInHanded {} Try.checked os 5 .any (Rows.extentPlaysSpec.pre6 enc Try.prog Try.f5 Rows.extentPlaysRow.domain false) (Rows.extentPlaysSpec.post enc Try.prog Try.f5 false true false false) := by
  refine returnsInHanded_of_change_sized (C := Try.checked) own started (by kernel_rfl) Try.func5
    (ChangeSpec.witness6 (enc := enc) (C := Try.checked) false ⟨#[], #[.int .i64 0, .slice none 0 0], []⟩ 8 (by kernel_rfl) (by kernel_rfl) (by kernel_rfl) (by kernel_rfl)) ?_
  intro W base args ds gs before hval0 hW hcnd hsz0 _
  have hsz : (DataW.weightsEach Try.prog (Try.f5.params.toList ++ Rows.extentPlaysSpec.plain.varTypes Try.prog) (ds ++ gs)).all (· ≤ reachBytes) = true := hsz0
  have hval : ∀ (j : Nat) t v, Try.f5.params[j]? = some t → args[j]? = some v → Value.okWide Try.prog W .any base t v := hval0
  have hW' := hW
  obtain ⟨p, q, hA0, hV, rfl, hfz, hnd⟩ := hW
  have hA : DataW.TrodAll enc Try.prog W 0 (fun _ => true) true Try.f5.params.toList args.toList ds p := hA0
  rw [Try.params5] at hA hval hsz
  obtain ⟨v0, vs0, d0, ds0, p0, q0, hargs, rfl, rfl, h0, r0⟩ := trodAll_cons hA
  obtain ⟨v1, vs1, d1, ds1, p1, q1, rfl, rfl, rfl, h1, r1⟩ := trodAll_cons r0
  obtain ⟨rfl, rfl, rfl⟩ := trodAll_nil r1
  obtain rfl : args = #[v0, v1] := by cases args; simp_all
  obtain ⟨rfl, rfl⟩ := trodVars_none hV
  obtain ⟨a0, rfl, rfl, rfl, w0⟩ := open_int Try.underlying3 (hval 0 3 v0 rfl rfl) h0
  have k1 := h1
  have lt1 : ∀ x ∈ p1, x.block < W.heap.size := by obtain ⟨m, hm⟩ := k1; exact DataW.trod_lt m _ _ _ hm
  obtain ⟨A1, c1, l1, rfl, hc1, hr1, w1⟩ := (XO.Opens.slice xu40 24 (by kernel_rfl) (by kernel_rfl) (XO.Opens.iso (f := fun x : S46 => (x.f0, x.f1)) (wf' := (fun x : S46 => (fun z : Int => (Lit.int .i64 z).wf = true) x.f0 ∧ (fun x : S31 => (fun z : Int => (Lit.int .i64 z).wf = true) x.f0 ∧ (fun z : Int => (Lit.int .i64 z).wf = true) x.f1) x.f1)) (fun (p : (Int) × (S31)) => (⟨p.1, p.2⟩ : S46)) (fun _ => rfl) (fun _ h => h) (XO.Opens.struct xu46 (fs' := [(0, 3), (1, 31)]) (by kernel_rfl) (by kernel_rfl) (XO.OpensF.cons (by kernel_rfl) (by kernel_rfl) (XO.Opens.int xu3) (XO.OpensF.one (by kernel_rfl) (XO.Opens.iso (f := fun x : S31 => (x.f0, x.f1)) (wf' := (fun x : S31 => (fun z : Int => (Lit.int .i64 z).wf = true) x.f0 ∧ (fun z : Int => (Lit.int .i64 z).wf = true) x.f1)) (fun (p : (Int) × (Int)) => (⟨p.1, p.2⟩ : S31)) (fun _ => rfl) (fun _ h => h) (XO.Opens.struct xu31 (fs' := [(0, 3), (1, 3)]) (by kernel_rfl) (by kernel_rfl) (XO.OpensF.cons (by kernel_rfl) (by kernel_rfl) (XO.Opens.int xu3) (XO.OpensF.one (by kernel_rfl) (XO.Opens.int xu3)))))))))).argSlice xu40 (hval 1 40 v1 rfl rfl) h1 hsz (j := 1) rfl rfl
  clear hA0 hval0 hsz0 hsz
  refine (Ex.ExtentPlays_walk a0 A1 c1 l1 W w0 hr1 hc1 w1).mono fun e W' ⟨he, bel⟩ => ?_
  subst he
  exact ⟨_, rfl, _, _, _, [], _, [], hW', trodAll_mk1 (shut_bool Try.underlying4 _), (trodAll_cons_mk (shut_int Try.underlying3 w0) (trodAll_cons_mk (Below.trod laidOut (by kernel_rfl) (of_decide_eq_true (by kernel_rfl)) k1 bel lt1) trodAll_mk0)), rfl, bel.frame _, fun h => by cases h⟩
theorem over : Rows.extentPlaysRow.holds Try.pinned (OpenSpec.ofChange Rows.extentPlaysSpec) :=
  OpenClaim.holds_of_wide 5 Try.f5 rfl rfl rfl rfl rfl rfl rfl ⟨rfl, rfl, rfl, rfl, rfl⟩ rfl rfl rfl rfl rfl (by kernel_rfl) Try.func5 (by kernel_rfl)
    (of_decide_eq_true (by kernel_rfl)) (by unfold Func.isWrapper; first | (rw [if_pos (by decide +kernel)]; kernel_rfl) | (rw [if_neg (by decide +kernel)]; exact ⟨rfl, rfl⟩))
    (fun os started H enc _ => lifted os started H enc)
theorem proved : Rows.ExtentPlaysSaid := over
#print axioms proved
end Go.Proofs.Ytdchljjhajbehaa.extentPlays
namespace Go.Proofs.Ytdchljjhajbehaa
/-- The row, under a short name, for the claim. -/
theorem extentPlays_holds : Rows.ExtentPlaysSaid := extentPlays.proved
end Go.Proofs.Ytdchljjhajbehaa
