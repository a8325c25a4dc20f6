-- Written by the session's own xprint (over the kit's print program): functions, contracts.
import Derived.Test.YtkbblkfbgpohkaaRows
import Derived.Test.YtkbblkfbgpohkaaPrint10
import Derived.Test.YtkbblkfbgpohkaaPureNullsJoins
import Derived.Test.YtkbblkfbgpohkaaXO
import Derived.WalkKit
import Derived.ProofKit
import Derived.OpenShut
import Derived.ShutString
import Derived.ChangeOld
import Derived.Below
import Derived.SizedLaws
namespace Go.Proofs.Ytkbblkfbgpohkaa.nullsJoins
open Go.ChangeShapes Go.WideShapes Go.ChangeAt Go.RowKit
open Go.ChangeMaps (open_string shut_string)
open Go.Proofs.YtkbblkfbgpohkaaW.PrintWords Go.Proofs.Ytkbblkfbgpohkaa.Print
set_option linter.unusedVariables false
theorem own : ownKnob Try.prog.godebug = none := by kernel_rfl
theorem laidOut : laidOutB Try.prog = true := by kernel_rfl
abbrev xu9 := Try.underlying9
abbrev xu3 := Try.underlying3
abbrev xu32 := Try.underlying32
abbrev xu22 := Try.underlying22
set_option maxRecDepth 100000 in
theorem lifted (os : Os) (started : os.Started) (H : Type) (enc : TypeId × Value → H) :
    ReturnsInHanded {} Try.checked os 4 .any (Rows.nullsJoinsSpec.pre6 enc Try.prog Try.f4 Rows.nullsJoinsRow.domain false) (Rows.nullsJoinsSpec.post enc Try.prog Try.f4 false true false false) := by
  refine returnsInHanded_of_change_sized (C := Try.checked) own started (by kernel_rfl) Try.func4
    (ChangeSpec.witness6 (enc := enc) (C := Try.checked) false ⟨#[], #[.string ByteArray.empty, .int .i64 0, .slice none 0 0], []⟩ 8 (by kernel_rfl) (by kernel_rfl) (by kernel_rfl) (by kernel_rfl)) ?_
  intro W base args ds gs before hval0 hW hcnd hsz0 _
  have hsz : (DataW.weightsEach Try.prog (Try.f4.params.toList ++ Rows.nullsJoinsSpec.plain.varTypes Try.prog) (ds ++ gs)).all (· ≤ reachBytes) = true := hsz0
  have hval : ∀ (j : Nat) t v, Try.f4.params[j]? = some t → args[j]? = some v → Value.okWide Try.prog W .any base t v := hval0
  have hW' := hW
  obtain ⟨p, q, hA0, hV, rfl, hfz, hnd⟩ := hW
  have hA : DataW.TrodAll enc Try.prog W 0 (fun _ => true) true Try.f4.params.toList args.toList ds p := hA0
  rw [Try.params4] at hA hval hsz
  obtain ⟨v0, vs0, d0, ds0, p0, q0, hargs, rfl, rfl, h0, r0⟩ := trodAll_cons hA
  obtain ⟨v1, vs1, d1, ds1, p1, q1, rfl, rfl, rfl, h1, r1⟩ := trodAll_cons r0
  obtain ⟨v2, vs2, d2, ds2, p2, q2, rfl, rfl, rfl, h2, r2⟩ := trodAll_cons r1
  obtain ⟨rfl, rfl, rfl⟩ := trodAll_nil r2
  obtain rfl : args = #[v0, v1, v2] := by cases args; simp_all
  obtain ⟨rfl, rfl⟩ := trodVars_none hV
  obtain ⟨a0, rfl, rfl, rfl, y0⟩ := open_string Try.underlying9 (hval 0 9 v0 rfl rfl) h0
  have w0 : a0.size ≤ 140737488351232 := by
    have z := sized_string hsz (j := 0) (t := 9) rfl rfl
    rw [Array.length_toList] at z
    exact z
  obtain ⟨a1, rfl, rfl, rfl, w1⟩ := open_int Try.underlying3 (hval 1 3 v1 rfl rfl) h1
  have k2 := h2
  have lt2 : ∀ x ∈ p2, x.block < W.heap.size := by obtain ⟨m, hm⟩ := k2; exact DataW.trod_lt m _ _ _ hm
  obtain ⟨A2, c2, l2, rfl, hc2, hr2, w2⟩ := (XO.Opens.slice xu22 32 (by kernel_rfl) (by kernel_rfl) (XO.Opens.iso (f := fun x : S32 => (x.f0, x.f1, x.f2)) (wf' := (fun x : S32 => (fun z : Int => (Lit.int .i64 z).wf = true) x.f0 ∧ (fun z : Int => (Lit.int .i64 z).wf = true) x.f1 ∧ (fun s : ByteArray => s.size ≤ 140737488351232) x.f2)) (fun (p : (Int) × (Int) × (ByteArray)) => (⟨p.1, p.2.1, p.2.2⟩ : S32)) (fun _ => rfl) (fun _ h => h) (XO.Opens.struct xu32 (fs' := [(0, 3), (1, 3), (2, 9)]) (by kernel_rfl) (by kernel_rfl) (XO.OpensF.cons (by kernel_rfl) (by kernel_rfl) (XO.Opens.int xu3) (XO.OpensF.cons (by kernel_rfl) (by kernel_rfl) (XO.Opens.int xu3) (XO.OpensF.one (by kernel_rfl) (XO.Opens.string xu9))))))).argSlice xu22 (hval 2 22 v2 rfl rfl) h2 hsz (j := 2) rfl rfl
  clear hA0 hval0 hsz0 hsz
  refine (Print.peristylelaw12_NullsJoins.walk Pure.NullsJoins a0 a1 A2 c2 l2 W w0 w1 hr2 hc2 w2).mono fun e W' ⟨he, bel⟩ => ?_
  subst he
  exact ⟨_, rfl, _, _, _, [], _, [], hW', trodAll_mk1 (shut_bool Try.underlying4 _), (trodAll_cons_mk (shut_string Try.underlying9 y0) (trodAll_cons_mk (shut_int Try.underlying3 w1) (trodAll_cons_mk (Below.trod laidOut (by kernel_rfl) (of_decide_eq_true (by kernel_rfl)) k2 bel lt2) trodAll_mk0))), rfl, bel.frame _, fun h => by cases h⟩
theorem over : Rows.nullsJoinsRow.holds Try.pinned (OpenSpec.ofChange Rows.nullsJoinsSpec) :=
  OpenClaim.holds_of_wide 4 Try.f4 rfl rfl rfl rfl rfl rfl rfl ⟨rfl, rfl, rfl, rfl, rfl⟩ rfl rfl rfl rfl rfl (by kernel_rfl) Try.func4 (by kernel_rfl)
    (of_decide_eq_true (by kernel_rfl)) (by unfold Func.isWrapper; first | (rw [if_pos (by decide +kernel)]; kernel_rfl) | (rw [if_neg (by decide +kernel)]; exact ⟨rfl, rfl⟩))
    (fun os started H enc _ => lifted os started H enc)
theorem proved : Rows.NullsJoinsSaid := over
#print axioms proved
end Go.Proofs.Ytkbblkfbgpohkaa.nullsJoins
namespace Go.Proofs.Ytkbblkfbgpohkaa
/-- The row, under a short name, for the claim. -/
theorem nullsJoins_holds : Rows.NullsJoinsSaid := nullsJoins.proved
end Go.Proofs.Ytkbblkfbgpohkaa
