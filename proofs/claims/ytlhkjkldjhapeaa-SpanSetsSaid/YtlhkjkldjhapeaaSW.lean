-- Sets of places as words: what the program's functions and the document's of layer 15 tell.
import Derived.Test.YtlhkjkldjhapeaaPrint0
import Derived.Test.YtlhkjkldjhapeaaSG
import Derived.Test.YtlhkjkldjhapeaaSB
import Derived.Test.YtlhkjkldjhapeaaSD
import Derived.Test.YtlhkjkldjhapeaaSQ
import Derived.Test.YtlhkjkldjhapeaaSX
set_option linter.unusedVariables false
set_option linter.unusedSimpArgs false
namespace Go.Proofs.Ytlhkjkldjhapeaa.Print
open Go.RowKit Go.Proofs.YtlhkjkldjhapeaaW.PrintWords Go.Proofs.YtlhkjkldjhapeaaW.PrintMore
theorem rd_ge (l : List Int) (i : Nat) (h : l.length ≤ i) : rd l (i : Int) = 0 := by
  unfold rd; rw [Int.toNat_natCast, List.getD_eq_getElem?_getD, List.getElem?_eq_none h]; rfl
/-- is a place in words? -/
def memW (l : List Int) (n : Nat) : Bool := bit (rd l ((n / 64 : Nat) : Int)) (n % 64)
def wordsTo (p : Nat → Bool) (N : Nat) : List Int := (List.range N).map (fun i => wordP (fun t => p (64 * i + t)))
def mayW (l : List Int) : Bool := decide (l.length ≤ 1024 ∧ (l.length = 0 ∨ rd l ((l.length - 1 : Nat) : Int) ≠ 0))
def trimN (l : List Int) : Nat → Nat
  | 0 => 0
  | n + 1 => if rd l (n : Int) = 0 then trimN l n else n + 1
def trimW (l : List Int) : List Int := l.take (trimN l l.length)
def topN (l : List S43) : Nat := ((topS l + 63) / 64).toNat
noncomputable def ofR (l : List S43) : List Int × Int := if mayB l (-1) = true then (wordsTo (memS l) (topN l), 0) else ([], 1)
/-! ### two sets -/
noncomputable def bothR (f : Int → Int → Int) (a b : List Int) : List Int × Int := if mayW a = true ∧ mayW b = true then (trimW ((List.range (max a.length b.length)).map (fun (i : Nat) => f (rd a (i : Int)) (rd b (i : Int)))), 0) else ([], 1)
end Go.Proofs.Ytlhkjkldjhapeaa.Print
