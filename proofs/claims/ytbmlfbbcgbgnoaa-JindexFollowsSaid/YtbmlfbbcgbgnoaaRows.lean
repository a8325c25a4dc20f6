/-
  No cell of these rows narrows 'for every input' (looked for: loops, veiled, ifaces, maps, wideKeys, modest, calm, conditions, laid).
  DERIVED. THE GIVEN ROWS OF THIS SEAT. 4 by the template 'for every input the law returns true; each argument reads behind the call as it read before'; 0 by the template 'total and deterministic' (their statements: YtbmlfbbcgbgnoaaTotals.lean).
  GIVEN WITH THE SEED: the statements are not yours to turn. If you find one false, say at which input.
  Laid BY PROGRAM, IN A SANDBOX (cutbox-rows.mjs): the forced cells as the released guide's own fill.sh prints them over the translation b9968359f6708b71… (all of the seat's roots in one cut). By AI agents, Wed Nov 11 2026. No macro, syntax, notation, axiom, sorry.
-/
import Derived.Test.YtbmlfbbcgbgnoaaChecked
import GoSem.Claim
import GoSem.ClaimJoined
import GoSem.ClaimMapViews
import Derived.JoinedTies
import Derived.KernelRfl
namespace Go.Proofs.Ytbmlfbbcgbgnoaa
/- THE CELL 'sum', in the pinned program and in every row, IS THE sha256 OF THE DUMP (.gsa) THAT YtbmlfbbcgbgnoaaProg.lean LOADS. Nothing in Lean hashes anything: it is a label: what it is worth is what the hold of that sum in a sandbox is worth. -/
noncomputable def Try.pinned : Pinned := { name := "ytbmlfbbcgbgnoaa", sum := "b9968359f6708b71b67f3aafe1c92a16484a8ae997dfc4bfa4ea240231ea9acd", checked := Try.checked }
namespace Rows
def none {H : Type} : Left H := { results := [], args := [] }

/-- 'peristylelaw26.JindexTurns': WHATEVER THE INPUT: true; the input reads as it did. -/
def jindexTurnsSpec : ChangeSpec := { name := "jindexTurns", fn := fun _ => fun
  | [d1, d2] => { results := [.lit (.bool true)], args := [d1, d2] }
  | _ => none }
def jindexTurnsRow : OpenClaim := { program := "ytbmlfbbcgbgnoaa", sum := "b9968359f6708b71b67f3aafe1c92a16484a8ae997dfc4bfa4ea240231ea9acd", func := "peristyle/peristylelaw26.JindexTurns", spec := "jindexTurns", apart := false }
def JindexTurnsSaid : Prop := jindexTurnsRow.holds Try.pinned (OpenSpec.ofChange jindexTurnsSpec)

/-- ITS FALSE NEIGHBOUR: 'it returns false'. Refute it at one input. -/
def jindexTurnsWrong : ChangeSpec := { name := "jindexTurns", fn := fun _ => fun
  | [d1, d2] => { results := [.lit (.bool false)], args := [d1, d2] }
  | _ => none }
def JindexTurnsWrongFalsely : Prop := jindexTurnsRow.holds Try.pinned (OpenSpec.ofChange jindexTurnsWrong)

/-- 'peristylelaw26.JindexBytes': WHATEVER THE INPUT: true; the input reads as it did. -/
def jindexBytesSpec : ChangeSpec := { name := "jindexBytes", fn := fun _ => fun
  | [d1, d2, d3] => { results := [.lit (.bool true)], args := [d1, d2, d3] }
  | _ => none }
def jindexBytesRow : OpenClaim := { program := "ytbmlfbbcgbgnoaa", sum := "b9968359f6708b71b67f3aafe1c92a16484a8ae997dfc4bfa4ea240231ea9acd", func := "peristyle/peristylelaw26.JindexBytes", spec := "jindexBytes", apart := false }
def JindexBytesSaid : Prop := jindexBytesRow.holds Try.pinned (OpenSpec.ofChange jindexBytesSpec)

/-- ITS FALSE NEIGHBOUR: 'it returns false'. Refute it at one input. -/
def jindexBytesWrong : ChangeSpec := { name := "jindexBytes", fn := fun _ => fun
  | [d1, d2, d3] => { results := [.lit (.bool false)], args := [d1, d2, d3] }
  | _ => none }
def JindexBytesWrongFalsely : Prop := jindexBytesRow.holds Try.pinned (OpenSpec.ofChange jindexBytesWrong)

/-- 'peristylelaw26.JindexMoves': WHATEVER THE INPUT: true; the input reads as it did. -/
def jindexMovesSpec : ChangeSpec := { name := "jindexMoves", fn := fun _ => fun
  | [d1, d2, d3] => { results := [.lit (.bool true)], args := [d1, d2, d3] }
  | _ => none }
def jindexMovesRow : OpenClaim := { program := "ytbmlfbbcgbgnoaa", sum := "b9968359f6708b71b67f3aafe1c92a16484a8ae997dfc4bfa4ea240231ea9acd", func := "peristyle/peristylelaw26.JindexMoves", spec := "jindexMoves", inPlace := ["internal/abi.NoEscape"], unfollowed := true, recurses := true, apart := false }
def JindexMovesSaid : Prop := jindexMovesRow.holds Try.pinned (OpenSpec.ofChange jindexMovesSpec)

/-- ITS FALSE NEIGHBOUR: 'it returns false'. Refute it at one input. -/
def jindexMovesWrong : ChangeSpec := { name := "jindexMoves", fn := fun _ => fun
  | [d1, d2, d3] => { results := [.lit (.bool false)], args := [d1, d2, d3] }
  | _ => none }
def JindexMovesWrongFalsely : Prop := jindexMovesRow.holds Try.pinned (OpenSpec.ofChange jindexMovesWrong)

/-- 'peristylelaw26.JindexFollows': WHATEVER THE INPUT: true; the input reads as it did. -/
def jindexFollowsSpec : ChangeSpec := { name := "jindexFollows", fn := fun _ => fun
  | [d1, d2] => { results := [.lit (.bool true)], args := [d1, d2] }
  | _ => none }
def jindexFollowsRow : OpenClaim := { program := "ytbmlfbbcgbgnoaa", sum := "b9968359f6708b71b67f3aafe1c92a16484a8ae997dfc4bfa4ea240231ea9acd", func := "peristyle/peristylelaw26.JindexFollows", spec := "jindexFollows", unfollowed := true, recurses := true, apart := false }
def JindexFollowsSaid : Prop := jindexFollowsRow.holds Try.pinned (OpenSpec.ofChange jindexFollowsSpec)

/-- ITS FALSE NEIGHBOUR: 'it returns false'. Refute it at one input. -/
def jindexFollowsWrong : ChangeSpec := { name := "jindexFollows", fn := fun _ => fun
  | [d1, d2] => { results := [.lit (.bool false)], args := [d1, d2] }
  | _ => none }
def JindexFollowsWrongFalsely : Prop := jindexFollowsRow.holds Try.pinned (OpenSpec.ofChange jindexFollowsWrong)

/- THE SECOND FORM. 'bulk': how many values and letters a reading holds, each counted each time it is reached (what is shared counts as often as it is met; a slice's spare places count too). A statement '..UptoSaid' is the law's where the arguments, and the package variables that the reading takes, are together of bulk at most 1048576: NARROWER than '..Said'. Prove '..Said' where nothing that the law and all that it calls make is longer than what came in: it says more and counts as full. Else prove '..UptoSaid'. A law counts once. -/
mutual
def uptoBulk {H : Type} : DataW H → Nat
  | .lit (.string bytes) => bytes.length + 1
  | .lit _ => 1
  | .nil => 1
  | .ptr d => uptoBulk d + 1
  | .slice elems spare => uptoBulkAll elems + uptoBulkAll spare + 1
  | .agg parts => uptoBulkAll parts + 1
  | .iface _ d => uptoBulk d + 1
  | .map entries => uptoBulkEntries entries + 1
  | .held _ => 1
def uptoBulkAll {H : Type} : List (DataW H) → Nat
  | [] => 0
  | d :: r => uptoBulk d + uptoBulkAll r
def uptoBulkEntries {H : Type} : List (Lit × DataW H) → Nat
  | [] => 0
  | x :: r => uptoBulkEntry x + uptoBulkEntries r
def uptoBulkEntry {H : Type} : Lit × DataW H → Nat
  | (.string bytes, d) => bytes.length + uptoBulk d + 1
  | (_, d) => uptoBulk d + 1
 end
def uptoSmall : (H : Type) → List (DataW H) → Bool := fun _ ds => decide (uptoBulkAll ds ≤ 1048576)
def OpenSpec.upto (s : _root_.Go.ChangeSpec) : _root_.Go.OpenSpec := { _root_.Go.OpenSpec.ofChange s with cond := some uptoSmall }

/-- 'peristylelaw26.JindexTurns', WHERE WHAT IT READS IS OF BULK AT MOST 1048576: true; the input reads as it did. -/
def jindexTurnsUptoRow : OpenClaim := { program := "ytbmlfbbcgbgnoaa", sum := "b9968359f6708b71b67f3aafe1c92a16484a8ae997dfc4bfa4ea240231ea9acd", func := "peristyle/peristylelaw26.JindexTurns", spec := "jindexTurns", apart := false, narrowed := true }
def JindexTurnsUptoSaid : Prop := jindexTurnsUptoRow.holds Try.pinned (OpenSpec.upto jindexTurnsSpec)

/-- 'peristylelaw26.JindexBytes', WHERE WHAT IT READS IS OF BULK AT MOST 1048576: true; the input reads as it did. -/
def jindexBytesUptoRow : OpenClaim := { program := "ytbmlfbbcgbgnoaa", sum := "b9968359f6708b71b67f3aafe1c92a16484a8ae997dfc4bfa4ea240231ea9acd", func := "peristyle/peristylelaw26.JindexBytes", spec := "jindexBytes", apart := false, narrowed := true }
def JindexBytesUptoSaid : Prop := jindexBytesUptoRow.holds Try.pinned (OpenSpec.upto jindexBytesSpec)

/-- 'peristylelaw26.JindexMoves', WHERE WHAT IT READS IS OF BULK AT MOST 1048576: true; the input reads as it did. -/
def jindexMovesUptoRow : OpenClaim := { program := "ytbmlfbbcgbgnoaa", sum := "b9968359f6708b71b67f3aafe1c92a16484a8ae997dfc4bfa4ea240231ea9acd", func := "peristyle/peristylelaw26.JindexMoves", spec := "jindexMoves", inPlace := ["internal/abi.NoEscape"], unfollowed := true, recurses := true, apart := false, narrowed := true }
def JindexMovesUptoSaid : Prop := jindexMovesUptoRow.holds Try.pinned (OpenSpec.upto jindexMovesSpec)

/-- 'peristylelaw26.JindexFollows', WHERE WHAT IT READS IS OF BULK AT MOST 1048576: true; the input reads as it did. -/
def jindexFollowsUptoRow : OpenClaim := { program := "ytbmlfbbcgbgnoaa", sum := "b9968359f6708b71b67f3aafe1c92a16484a8ae997dfc4bfa4ea240231ea9acd", func := "peristyle/peristylelaw26.JindexFollows", spec := "jindexFollows", unfollowed := true, recurses := true, apart := false, narrowed := true }
def JindexFollowsUptoSaid : Prop := jindexFollowsUptoRow.holds Try.pinned (OpenSpec.upto jindexFollowsSpec)

end Rows
end Go.Proofs.Ytbmlfbbcgbgnoaa
