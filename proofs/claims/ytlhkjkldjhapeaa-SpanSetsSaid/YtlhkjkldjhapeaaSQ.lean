-- Words of few bits as bytes: the document's bytes, and the words of bytes.
import Derived.Test.YtlhkjkldjhapeaaPrint0
import Derived.Test.YtlhkjkldjhapeaaSP
set_option linter.unusedVariables false
set_option linter.unusedSimpArgs false
namespace Go.Proofs.Ytlhkjkldjhapeaa.Print
open Go.RowKit Go.Proofs.YtlhkjkldjhapeaaW.PrintWords Go.Proofs.YtlhkjkldjhapeaaW.PrintMore
theorem and_7 (x : Int) : Go.bits .and .i64 x 7 = x % 8 := by
  simp only [Go.bits]
  have h : (BitVec.ofInt IntKind.i64.bits x &&& BitVec.ofInt IntKind.i64.bits 7).toNat = (x % 8).toNat := by
    rw [BitVec.toNat_and]
    have h7 : (BitVec.ofInt IntKind.i64.bits 7).toNat = 2 ^ 3 - 1 := by decide
    rw [h7, Nat.and_two_pow_sub_one_eq_mod]
    simp only [BitVec.toNat_ofInt, IntKind.bits]
    omega
  rw [h, IntKind.wrap_i64]
  omega
/-! ### the words of bytes -/
end Go.Proofs.Ytlhkjkldjhapeaa.Print
