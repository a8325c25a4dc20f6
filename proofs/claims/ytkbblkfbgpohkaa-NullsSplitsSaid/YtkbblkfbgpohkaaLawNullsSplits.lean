-- Written by the session's own xprint (over the kit's print program): functions, contracts.
import Derived.Test.YtkbblkfbgpohkaaRows
import Derived.Test.YtkbblkfbgpohkaaPrint8
import Derived.Test.YtkbblkfbgpohkaaPureNullsSplits
import Derived.Test.YtkbblkfbgpohkaaXO
import Derived.WalkKit
import Derived.ProofKit
import Derived.OpenShut
import Derived.ShutString
import Derived.ChangeOld
import Derived.Below
import Derived.SizedLaws
namespace Go.Proofs.Ytkbblkfbgpohkaa.nullsSplits
open Go.ChangeShapes Go.WideShapes Go.ChangeAt Go.RowKit
open Go.ChangeMaps (open_string shut_string)
open Go.Proofs.YtkbblkfbgpohkaaW.PrintWords Go.Proofs.Ytkbblkfbgpohkaa.Print
set_option linter.unusedVariables false
theorem own : ownKnob Try.prog.godebug = none := by kernel_rfl
theorem laidOut : laidOutB Try.prog = true := by kernel_rfl
abbrev xu3 := Try.underlying3
abbrev xu9 := Try.underlying9
abbrev xu32 := Try.underlying32
abbrev xu22 := Try.underlying22
set_option maxRecDepth 100000 in
theorem lifted (os : Os) (started : os.Started) (H : Type) (enc : TypeId × Value → H) :
    ReturnsInHanded {} Try.checked os 3 .any (Rows.nullsSplitsSpec.pre6 enc Try.prog Try.f3 Rows.nullsSplitsRow.domain false) (Rows.nullsSplitsSpec.post enc Try.prog Try.f3 false true false false) := by
  refine returnsInHanded_of_change_sized (C := Try.checked) own started (by kernel_rfl) Try.func3
    (ChangeSpec.witness6 (enc := enc) (C := Try.checked) false ⟨#[], #[.slice none 0 0], []⟩ 8 (by kernel_rfl) (by kernel_rfl) (by kernel_rfl) (by kernel_rfl)) ?_
  intro W base args ds gs before hval0 hW hcnd hsz0 _
  have hsz : (DataW.weightsEach Try.prog (Try.f3.params.toList ++ Rows.nullsSplitsSpec.plain.varTypes Try.prog) (ds ++ gs)).all (· ≤ reachBytes) = true := hsz0
  have hval : ∀ (j : Nat) t v, Try.f3.params[j]? = some t → args[j]? = some v → Value.okWide Try.prog W .any base t v := hval0
  have hW' := hW
  obtain ⟨p, q, hA0, hV, rfl, hfz, hnd⟩ := hW
  have hA : DataW.TrodAll enc Try.prog W 0 (fun _ => true) true Try.f3.params.toList args.toList ds p := hA0
  rw [Try.params3] at hA hval hsz
  obtain ⟨v0, vs0, d0, ds0, p0, q0, hargs, rfl, rfl, h0, r0⟩ := trodAll_cons hA
  obtain ⟨rfl, rfl, rfl⟩ := trodAll_nil r0
  obtain rfl : args = #[v0] := by cases args; simp_all
  obtain ⟨rfl, rfl⟩ := trodVars_none hV
  have k0 := h0
  have lt0 : ∀ x ∈ p0, x.block < W.heap.size := by obtain ⟨m, hm⟩ := k0; exact DataW.trod_lt m _ _ _ hm
  obtain ⟨A0, c0, l0, rfl, hc0, hr0, w0⟩ := (XO.Opens.slice xu22 32 (by kernel_rfl) (by kernel_rfl) (XO.Opens.iso (f := fun x : S32 => (x.f0, x.f1, x.f2)) (wf' := (fun x : S32 => (fun z : Int => (Lit.int .i64 z).wf = true) x.f0 ∧ (fun z : Int => (Lit.int .i64 z).wf = true) x.f1 ∧ (fun s : ByteArray => s.size ≤ 140737488351232) x.f2)) (fun (p : (Int) × (Int) × (ByteArray)) => (⟨p.1, p.2.1, p.2.2⟩ : S32)) (fun _ => rfl) (fun _ h => h) (XO.Opens.struct xu32 (fs' := [(0, 3), (1, 3), (2, 9)]) (by kernel_rfl) (by kernel_rfl) (XO.OpensF.cons (by kernel_rfl) (by kernel_rfl) (XO.Opens.int xu3) (XO.OpensF.cons (by kernel_rfl) (by kernel_rfl) (XO.Opens.int xu3) (XO.OpensF.one (by kernel_rfl) (XO.Opens.string xu9))))))).argSlice xu22 (hval 0 22 v0 rfl rfl) h0 hsz (j := 0) rfl rfl
  clear hA0 hval0 hsz0 hsz
  refine (Print.peristylelaw12_NullsSplits.walk Pure.NullsSplits A0 c0 l0 W hr0 hc0 w0).mono fun e W' ⟨he, bel⟩ => ?_
  subst he
  exact ⟨_, rfl, _, _, _, [], _, [], hW', trodAll_mk1 (shut_bool Try.underlying4 _), (trodAll_cons_mk (Below.trod laidOut (by kernel_rfl) (of_decide_eq_true (by kernel_rfl)) k0 bel lt0) trodAll_mk0), rfl, bel.frame _, fun h => by cases h⟩
theorem over : Rows.nullsSplitsRow.holds Try.pinned (OpenSpec.ofChange Rows.nullsSplitsSpec) :=
  OpenClaim.holds_of_wide 3 Try.f3 rfl rfl rfl rfl rfl rfl rfl ⟨rfl, rfl, rfl, rfl, rfl⟩ rfl rfl rfl rfl rfl (by kernel_rfl) Try.func3 (by kernel_rfl)
    (of_decide_eq_true (by kernel_rfl)) (by unfold Func.isWrapper; first | (rw [if_pos (by decide +kernel)]; kernel_rfl) | (rw [if_neg (by decide +kernel)]; exact ⟨rfl, rfl⟩))
    (fun os started H enc _ => lifted os started H enc)
theorem proved : Rows.NullsSplitsSaid := over
#print axioms proved
end Go.Proofs.Ytkbblkfbgpohkaa.nullsSplits
namespace Go.Proofs.Ytkbblkfbgpohkaa
/-- The row, under a short name, for the claim. -/
theorem nullsSplits_holds : Rows.NullsSplitsSaid := nullsSplits.proved
end Go.Proofs.Ytkbblkfbgpohkaa
