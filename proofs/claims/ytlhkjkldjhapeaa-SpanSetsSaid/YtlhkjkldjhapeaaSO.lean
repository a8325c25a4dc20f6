-- The document's places of spans: one behind the other, how many are below one, whether one is there.
import Derived.Test.YtlhkjkldjhapeaaPrint0
import Derived.Test.YtlhkjkldjhapeaaPrint6
import Derived.Test.YtlhkjkldjhapeaaSU
set_option linter.unusedVariables false
set_option linter.unusedSimpArgs false
namespace Go.Proofs.Ytlhkjkldjhapeaa.Print
open Go.RowKit Go.Proofs.YtlhkjkldjhapeaaW.PrintWords Go.Proofs.YtlhkjkldjhapeaaW.PrintMore
def placesR (q : List S43) : List Int := mems (memS q) (topS q).toNat
theorem ref14_same_loop (q : List S43) (hl : q.length ≤ 4398046511104) : ∀ (d i : Nat), i + d = q.length → Ev (fun k => peristyleref14_Same.l0 k q q (i : Int)) true
  | 0, i, h => Ev.step (fun k => peristyleref14_Same.l0_succ k _ _ _) (Ev.no (by omega) (Ev.now _))
  | d + 1, i, h => by
    have e : wrap64 ((i : Int) + 1) = ((i + 1 : Nat) : Int) := by unfold wrap64; omega
    refine Ev.step (fun k => peristyleref14_Same.l0_succ k _ _ _) (Ev.yes (by omega) (Ev.yes (by omega) (Ev.yes (by omega) (Ev.no (by simp) ?_))))
    rw [e]
    exact ref14_same_loop q hl d (i + 1) (by omega)
theorem ref14_Same_self (q : List S43) (hl : q.length ≤ 4398046511104) : Ev (fun k => peristyleref14_Same.f k q q) true := by
  unfold peristyleref14_Same.f
  exact Ev.yes rfl (ref14_same_loop q hl q.length 0 (by omega))
end Go.Proofs.Ytlhkjkldjhapeaa.Print
