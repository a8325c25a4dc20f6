/- EpochBytes: any marks as bytes, and the marks of any bytes; what is put is taken as it was. No condition. -/
import Derived.Test.YtdgphlkbmplbpaaGreatRows
import Derived.Test.YtdgphlkbmplbpaaGreatVE
import Derived.Test.YtdgphlkbmplbpaaGreatVPA
import Derived.Test.YtdgphlkbmplbpaaGreatVO
import Derived.WalkKit
import Derived.ProofKit
import Derived.OpenShut
import Derived.ShutString
import Derived.ChangeOld
import Derived.Below
import Derived.SizedLaws
namespace Go.Proofs.YtdgphlkbmplbpaaGreat.epochBytes
open Go.ChangeShapes Go.WideShapes Go.ChangeAt Go.RowKit
open Go.ChangeMaps (open_string shut_string)
open Go.Proofs.YtdgphlkbmplbpaaGreatW.PrintWords Go.Proofs.YtdgphlkbmplbpaaGreat.Print
set_option linter.unusedVariables false
theorem own : ownKnob Tryz.prog.godebug = none := by kernel_rfl
theorem laidOut : laidOutB Tryz.prog = true := by kernel_rfl
abbrev xu3 := Tryz.underlying3
abbrev xu68 := Tryz.underlying68
abbrev xu23 := Tryz.underlying23
abbrev xu9 := Tryz.underlying9
set_option maxRecDepth 100000 in
theorem lifted (os : Os) (started : os.Started) (H : Type) (enc : TypeId × Value → H) :
    ReturnsInHanded {} Tryz.checked os 5 .any (Rows.epochBytesSpec.pre6 enc Tryz.prog Tryz.f5 Rows.epochBytesRow.domain false) (Rows.epochBytesSpec.post enc Tryz.prog Tryz.f5 false true false false) := by
  refine returnsInHanded_of_change_sized (C := Tryz.checked) own started (by kernel_rfl) Tryz.func5
    (ChangeSpec.witness6 (enc := enc) (C := Tryz.checked) false ⟨#[], #[.slice none 0 0, .string ByteArray.empty], []⟩ 8 (by kernel_rfl) (by kernel_rfl) (by kernel_rfl) (by kernel_rfl)) ?_
  intro W base args ds gs before hval0 hW hcnd hsz0 _
  have hsz : (DataW.weightsEach Tryz.prog (Tryz.f5.params.toList ++ Rows.epochBytesSpec.plain.varTypes Tryz.prog) (ds ++ gs)).all (· ≤ reachBytes) = true := hsz0
  have hval : ∀ (j : Nat) t v, Tryz.f5.params[j]? = some t → args[j]? = some v → Value.okWide Tryz.prog W .any base t v := hval0
  have hW' := hW
  obtain ⟨p, q, hA0, hV, rfl, hfz, hnd⟩ := hW
  have hA : DataW.TrodAll enc Tryz.prog W 0 (fun _ => true) true Tryz.f5.params.toList args.toList ds p := hA0
  rw [Tryz.params5] at hA hval hsz
  obtain ⟨v0, vs0, d0, ds0, p0, q0, hargs, rfl, rfl, h0, r0⟩ := trodAll_cons hA
  obtain ⟨v1, vs1, d1, ds1, p1, q1, rfl, rfl, rfl, h1, r1⟩ := trodAll_cons r0
  obtain ⟨rfl, rfl, rfl⟩ := trodAll_nil r1
  obtain rfl : args = #[v0, v1] := by cases args; simp_all
  obtain ⟨rfl, rfl⟩ := trodVars_none hV
  have k0 := h0
  have lt0 : ∀ x ∈ p0, x.block < W.heap.size := by obtain ⟨m, hm⟩ := k0; exact DataW.trod_lt m _ _ _ hm
  obtain ⟨A0, c0, l0, rfl, hc0, hr0, w0⟩ := (XO.Opens.slice xu23 16 (by kernel_rfl) (by kernel_rfl) (XO.Opens.iso (f := fun x : S68 => (x.f0, x.f1)) (wf' := (fun x : S68 => (fun z : Int => (Lit.int .i64 z).wf = true) x.f0 ∧ (fun z : Int => (Lit.int .i64 z).wf = true) x.f1)) (fun (p : (Int) × (Int)) => (⟨p.1, p.2⟩ : S68)) (fun _ => rfl) (fun _ h => h) (XO.Opens.struct xu68 (fs' := [(0, 3), (1, 3)]) (by kernel_rfl) (by kernel_rfl) (XO.OpensF.cons (by kernel_rfl) (by kernel_rfl) (XO.Opens.int xu3) (XO.OpensF.one (by kernel_rfl) (XO.Opens.int xu3)))))).argSlice xu23 (hval 0 23 v0 rfl rfl) h0 hsz (j := 0) rfl rfl
  obtain ⟨a1, rfl, rfl, rfl, y1⟩ := open_string Tryz.underlying9 (hval 1 9 v1 rfl rfl) h1
  have w1 : a1.size ≤ 140737488351232 := by
    have z := sized_string hsz (j := 1) (t := 9) rfl rfl
    rw [Array.length_toList] at z
    exact z
  clear hA0 hval0 hsz0 hsz
  refine (Print.peristylelaw21_EpochBytes.walk Pure.EpochBytes A0 c0 l0 a1 W hr0 hc0 w0 w1).mono fun e W' ⟨he, bel⟩ => ?_
  subst he
  exact ⟨_, rfl, _, _, _, [], _, [], hW', trodAll_mk1 (shut_bool Tryz.underlying4 _), (trodAll_cons_mk (Below.trod laidOut (by kernel_rfl) (of_decide_eq_true (by kernel_rfl)) k0 bel lt0) (trodAll_cons_mk (shut_string Tryz.underlying9 y1) trodAll_mk0)), rfl, bel.frame _, fun h => by cases h⟩
theorem over : Rows.epochBytesRow.holds Tryz.pinned (OpenSpec.ofChange Rows.epochBytesSpec) :=
  OpenClaim.holds_of_wide 5 Tryz.f5 rfl rfl rfl rfl rfl rfl rfl ⟨rfl, rfl, rfl, rfl, rfl⟩ rfl rfl rfl rfl rfl (by kernel_rfl) Tryz.func5 (by kernel_rfl)
    (of_decide_eq_true (by kernel_rfl)) (by unfold Func.isWrapper; first | (rw [if_pos (by decide +kernel)]; kernel_rfl) | (rw [if_neg (by decide +kernel)]; exact ⟨rfl, rfl⟩))
    (fun os started H enc _ => lifted os started H enc)
theorem proved : Rows.EpochBytesSaid := over
#print axioms proved
end Go.Proofs.YtdgphlkbmplbpaaGreat.epochBytes
namespace Go.Proofs.YtdgphlkbmplbpaaGreat
/-- The row, under a short name, for the claim. -/
theorem epochBytes_holds : Rows.EpochBytesSaid := epochBytes.proved
end Go.Proofs.YtdgphlkbmplbpaaGreat
