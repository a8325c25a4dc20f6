/- EpochVisible: what is seen in an epoch, of few births and marks, is what the document says; or both say why not. No condition. -/
import Derived.Test.YtdgphlkbmplbpaaGreatRows
import Derived.Test.YtdgphlkbmplbpaaGreatKE
import Derived.Test.YtdgphlkbmplbpaaGreatKPA
import Derived.Test.YtdgphlkbmplbpaaGreatKO
import Derived.WalkKit
import Derived.ProofKit
import Derived.OpenShut
import Derived.ShutString
import Derived.ChangeOld
import Derived.Below
import Derived.SizedLaws
namespace Go.Proofs.YtdgphlkbmplbpaaGreat.epochVisible
open Go.ChangeShapes Go.WideShapes Go.ChangeAt Go.RowKit
open Go.ChangeMaps (open_string shut_string)
open Go.Proofs.YtdgphlkbmplbpaaGreatW.PrintWords Go.Proofs.YtdgphlkbmplbpaaGreat.Print
set_option linter.unusedVariables false
theorem own : ownKnob Tryz.prog.godebug = none := by kernel_rfl
theorem laidOut : laidOutB Tryz.prog = true := by kernel_rfl
abbrev xu3 := Tryz.underlying3
abbrev xu66 := Tryz.underlying66
abbrev xu22 := Tryz.underlying22
abbrev xu68 := Tryz.underlying68
abbrev xu23 := Tryz.underlying23
set_option maxRecDepth 100000 in
theorem lifted (os : Os) (started : os.Started) (H : Type) (enc : TypeId × Value → H) :
    ReturnsInHanded {} Tryz.checked os 3 .any (Rows.epochVisibleSpec.pre6 enc Tryz.prog Tryz.f3 Rows.epochVisibleRow.domain false) (Rows.epochVisibleSpec.post enc Tryz.prog Tryz.f3 false true false false) := by
  refine returnsInHanded_of_change_sized (C := Tryz.checked) own started (by kernel_rfl) Tryz.func3
    (ChangeSpec.witness6 (enc := enc) (C := Tryz.checked) false ⟨#[], #[.slice none 0 0, .slice none 0 0, .int .i64 0], []⟩ 8 (by kernel_rfl) (by kernel_rfl) (by kernel_rfl) (by kernel_rfl)) ?_
  intro W base args ds gs before hval0 hW hcnd hsz0 _
  have hsz : (DataW.weightsEach Tryz.prog (Tryz.f3.params.toList ++ Rows.epochVisibleSpec.plain.varTypes Tryz.prog) (ds ++ gs)).all (· ≤ reachBytes) = true := hsz0
  have hval : ∀ (j : Nat) t v, Tryz.f3.params[j]? = some t → args[j]? = some v → Value.okWide Tryz.prog W .any base t v := hval0
  have hW' := hW
  obtain ⟨p, q, hA0, hV, rfl, hfz, hnd⟩ := hW
  have hA : DataW.TrodAll enc Tryz.prog W 0 (fun _ => true) true Tryz.f3.params.toList args.toList ds p := hA0
  rw [Tryz.params3] at hA hval hsz
  obtain ⟨v0, vs0, d0, ds0, p0, q0, hargs, rfl, rfl, h0, r0⟩ := trodAll_cons hA
  obtain ⟨v1, vs1, d1, ds1, p1, q1, rfl, rfl, rfl, h1, r1⟩ := trodAll_cons r0
  obtain ⟨v2, vs2, d2, ds2, p2, q2, rfl, rfl, rfl, h2, r2⟩ := trodAll_cons r1
  obtain ⟨rfl, rfl, rfl⟩ := trodAll_nil r2
  obtain rfl : args = #[v0, v1, v2] := by cases args; simp_all
  obtain ⟨rfl, rfl⟩ := trodVars_none hV
  have k0 := h0
  have lt0 : ∀ x ∈ p0, x.block < W.heap.size := by obtain ⟨m, hm⟩ := k0; exact DataW.trod_lt m _ _ _ hm
  obtain ⟨A0, c0, l0, rfl, hc0, hr0, w0⟩ := (XO.Opens.slice xu22 24 (by kernel_rfl) (by kernel_rfl) (XO.Opens.iso (f := fun x : S66 => (x.f0, x.f1, x.f2)) (wf' := (fun x : S66 => (fun z : Int => (Lit.int .i64 z).wf = true) x.f0 ∧ (fun z : Int => (Lit.int .i64 z).wf = true) x.f1 ∧ (fun z : Int => (Lit.int .i64 z).wf = true) x.f2)) (fun (p : (Int) × (Int) × (Int)) => (⟨p.1, p.2.1, p.2.2⟩ : S66)) (fun _ => rfl) (fun _ h => h) (XO.Opens.struct xu66 (fs' := [(0, 3), (1, 3), (2, 3)]) (by kernel_rfl) (by kernel_rfl) (XO.OpensF.cons (by kernel_rfl) (by kernel_rfl) (XO.Opens.int xu3) (XO.OpensF.cons (by kernel_rfl) (by kernel_rfl) (XO.Opens.int xu3) (XO.OpensF.one (by kernel_rfl) (XO.Opens.int xu3))))))).argSlice xu22 (hval 0 22 v0 rfl rfl) h0 hsz (j := 0) rfl rfl
  have k1 := h1
  have lt1 : ∀ x ∈ p1, x.block < W.heap.size := by obtain ⟨m, hm⟩ := k1; exact DataW.trod_lt m _ _ _ hm
  obtain ⟨A1, c1, l1, rfl, hc1, hr1, w1⟩ := (XO.Opens.slice xu23 16 (by kernel_rfl) (by kernel_rfl) (XO.Opens.iso (f := fun x : S68 => (x.f0, x.f1)) (wf' := (fun x : S68 => (fun z : Int => (Lit.int .i64 z).wf = true) x.f0 ∧ (fun z : Int => (Lit.int .i64 z).wf = true) x.f1)) (fun (p : (Int) × (Int)) => (⟨p.1, p.2⟩ : S68)) (fun _ => rfl) (fun _ h => h) (XO.Opens.struct xu68 (fs' := [(0, 3), (1, 3)]) (by kernel_rfl) (by kernel_rfl) (XO.OpensF.cons (by kernel_rfl) (by kernel_rfl) (XO.Opens.int xu3) (XO.OpensF.one (by kernel_rfl) (XO.Opens.int xu3)))))).argSlice xu23 (hval 1 23 v1 rfl rfl) h1 hsz (j := 1) rfl rfl
  obtain ⟨a2, rfl, rfl, rfl, w2⟩ := open_int Tryz.underlying3 (hval 2 3 v2 rfl rfl) h2
  clear hA0 hval0 hsz0 hsz
  refine (Print.peristylelaw21_EpochVisible.walk Pure.EpochVisible A0 c0 l0 A1 c1 l1 a2 W hr0 hc0 w0 hr1 hc1 w1 w2).mono fun e W' ⟨he, bel⟩ => ?_
  subst he
  exact ⟨_, rfl, _, _, _, [], _, [], hW', trodAll_mk1 (shut_bool Tryz.underlying4 _), (trodAll_cons_mk (Below.trod laidOut (by kernel_rfl) (of_decide_eq_true (by kernel_rfl)) k0 bel lt0) (trodAll_cons_mk (Below.trod laidOut (by kernel_rfl) (of_decide_eq_true (by kernel_rfl)) k1 bel lt1) (trodAll_cons_mk (shut_int Tryz.underlying3 w2) trodAll_mk0))), rfl, bel.frame _, fun h => by cases h⟩
theorem over : Rows.epochVisibleRow.holds Tryz.pinned (OpenSpec.ofChange Rows.epochVisibleSpec) :=
  OpenClaim.holds_of_wide 3 Tryz.f3 rfl rfl rfl rfl rfl rfl rfl ⟨rfl, rfl, rfl, rfl, rfl⟩ rfl rfl rfl rfl rfl (by kernel_rfl) Tryz.func3 (by kernel_rfl)
    (of_decide_eq_true (by kernel_rfl)) (by unfold Func.isWrapper; first | (rw [if_pos (by decide +kernel)]; kernel_rfl) | (rw [if_neg (by decide +kernel)]; exact ⟨rfl, rfl⟩))
    (fun os started H enc _ => lifted os started H enc)
theorem proved : Rows.EpochVisibleSaid := over
#print axioms proved
end Go.Proofs.YtdgphlkbmplbpaaGreat.epochVisible
namespace Go.Proofs.YtdgphlkbmplbpaaGreat
/-- The row, under a short name, for the claim. -/
theorem epochVisible_holds : Rows.EpochVisibleSaid := epochVisible.proved
end Go.Proofs.YtdgphlkbmplbpaaGreat
