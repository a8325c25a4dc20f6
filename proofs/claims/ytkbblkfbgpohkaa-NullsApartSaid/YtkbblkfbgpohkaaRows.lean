/-
  No cell of these rows narrows 'for every input' (looked for: loops, veiled, ifaces, maps, wideKeys, modest, calm, conditions, laid).
  DERIVED. THE GIVEN ROWS OF THIS SEAT. 3 by the template 'for every input the law returns true; each argument reads behind the call as it read before'; 0 by the template 'total and deterministic' (their statements: YtkbblkfbgpohkaaTotals.lean).
  GIVEN WITH THE SEED: the statements are not yours to turn. If you find one false, say at which input.
  Laid BY PROGRAM, IN A SANDBOX (cutbox-rows.mjs): the forced cells as the released guide's own fill.sh prints them over the translation d2c1f62bde8f5bed… (all of the seat's roots in one cut). By AI agents, Wed Nov 11 2026. No macro, syntax, notation, axiom, sorry.
-/
import Derived.Test.YtkbblkfbgpohkaaChecked
import GoSem.Claim
import GoSem.ClaimJoined
import GoSem.ClaimMapViews
import Derived.JoinedTies
import Derived.KernelRfl
namespace Go.Proofs.Ytkbblkfbgpohkaa
/- THE CELL 'sum', in the pinned program and in every row, IS THE sha256 OF THE DUMP (.gsa) THAT YtkbblkfbgpohkaaProg.lean LOADS. Nothing in Lean hashes anything: it is a label: what it is worth is what the hold of that sum in a sandbox is worth. -/
noncomputable def Try.pinned : Pinned := { name := "ytkbblkfbgpohkaa", sum := "d2c1f62bde8f5bed6d4f090534ae1e1c696de112dba150883c62358b5c5c2a9e", checked := Try.checked }
namespace Rows
def none {H : Type} : Left H := { results := [], args := [] }

/-- 'peristylelaw12.NullsSplits': WHATEVER THE INPUT: true; the input reads as it did. -/
def nullsSplitsSpec : ChangeSpec := { name := "nullsSplits", fn := fun _ => fun
  | [d] => { results := [.lit (.bool true)], args := [d] }
  | _ => none }
def nullsSplitsRow : OpenClaim := { program := "ytkbblkfbgpohkaa", sum := "d2c1f62bde8f5bed6d4f090534ae1e1c696de112dba150883c62358b5c5c2a9e", func := "peristyle/peristylelaw12.NullsSplits", spec := "nullsSplits", unfollowed := true, recurses := true, apart := false }
def NullsSplitsSaid : Prop := nullsSplitsRow.holds Try.pinned (OpenSpec.ofChange nullsSplitsSpec)

/-- ITS FALSE NEIGHBOUR: 'it returns false'. Refute it at one input. -/
def nullsSplitsWrong : ChangeSpec := { name := "nullsSplits", fn := fun _ => fun
  | [d] => { results := [.lit (.bool false)], args := [d] }
  | _ => none }
def NullsSplitsWrongFalsely : Prop := nullsSplitsRow.holds Try.pinned (OpenSpec.ofChange nullsSplitsWrong)

/-- 'peristylelaw12.NullsJoins': WHATEVER THE INPUT: true; the input reads as it did. -/
def nullsJoinsSpec : ChangeSpec := { name := "nullsJoins", fn := fun _ => fun
  | [d1, d2, d3] => { results := [.lit (.bool true)], args := [d1, d2, d3] }
  | _ => none }
def nullsJoinsRow : OpenClaim := { program := "ytkbblkfbgpohkaa", sum := "d2c1f62bde8f5bed6d4f090534ae1e1c696de112dba150883c62358b5c5c2a9e", func := "peristyle/peristylelaw12.NullsJoins", spec := "nullsJoins", unfollowed := true, recurses := true, apart := false }
def NullsJoinsSaid : Prop := nullsJoinsRow.holds Try.pinned (OpenSpec.ofChange nullsJoinsSpec)

/-- ITS FALSE NEIGHBOUR: 'it returns false'. Refute it at one input. -/
def nullsJoinsWrong : ChangeSpec := { name := "nullsJoins", fn := fun _ => fun
  | [d1, d2, d3] => { results := [.lit (.bool false)], args := [d1, d2, d3] }
  | _ => none }
def NullsJoinsWrongFalsely : Prop := nullsJoinsRow.holds Try.pinned (OpenSpec.ofChange nullsJoinsWrong)

/-- 'peristylelaw12.NullsApart': WHATEVER THE INPUT: true; the input reads as it did. -/
def nullsApartSpec : ChangeSpec := { name := "nullsApart", fn := fun _ => fun
  | [d1, d2] => { results := [.lit (.bool true)], args := [d1, d2] }
  | _ => none }
def nullsApartRow : OpenClaim := { program := "ytkbblkfbgpohkaa", sum := "d2c1f62bde8f5bed6d4f090534ae1e1c696de112dba150883c62358b5c5c2a9e", func := "peristyle/peristylelaw12.NullsApart", spec := "nullsApart", unfollowed := true, recurses := true, apart := false }
def NullsApartSaid : Prop := nullsApartRow.holds Try.pinned (OpenSpec.ofChange nullsApartSpec)

/-- ITS FALSE NEIGHBOUR: 'it returns false'. Refute it at one input. -/
def nullsApartWrong : ChangeSpec := { name := "nullsApart", fn := fun _ => fun
  | [d1, d2] => { results := [.lit (.bool false)], args := [d1, d2] }
  | _ => none }
def NullsApartWrongFalsely : Prop := nullsApartRow.holds Try.pinned (OpenSpec.ofChange nullsApartWrong)

/- THE SECOND FORM. 'bulk': how many values and letters a reading holds, each counted each time it is reached (what is shared counts as often as it is met; a slice's spare places count too). A statement '..UptoSaid' is the law's where the arguments, and the package variables that the reading takes, are together of bulk at most 1048576: NARROWER than '..Said'. Prove '..Said' where nothing that the law and all that it calls make is longer than what came in: it says more and counts as full. Else prove '..UptoSaid'. A law counts once. -/
mutual
def uptoBulk {H : Type} : DataW H → Nat
  | .lit (.string bytes) => bytes.length + 1
  | .lit _ => 1
  | .nil => 1
  | .ptr d => uptoBulk d + 1
  | .slice elems spare => uptoBulkAll elems + uptoBulkAll spare + 1
  | .agg parts => uptoBulkAll parts + 1
  | .iface _ d => uptoBulk d + 1
  | .map entries => uptoBulkEntries entries + 1
  | .held _ => 1
def uptoBulkAll {H : Type} : List (DataW H) → Nat
  | [] => 0
  | d :: r => uptoBulk d + uptoBulkAll r
def uptoBulkEntries {H : Type} : List (Lit × DataW H) → Nat
  | [] => 0
  | x :: r => uptoBulkEntry x + uptoBulkEntries r
def uptoBulkEntry {H : Type} : Lit × DataW H → Nat
  | (.string bytes, d) => bytes.length + uptoBulk d + 1
  | (_, d) => uptoBulk d + 1
 end
def uptoSmall : (H : Type) → List (DataW H) → Bool := fun _ ds => decide (uptoBulkAll ds ≤ 1048576)
def OpenSpec.upto (s : _root_.Go.ChangeSpec) : _root_.Go.OpenSpec := { _root_.Go.OpenSpec.ofChange s with cond := some uptoSmall }

/-- 'peristylelaw12.NullsSplits', WHERE WHAT IT READS IS OF BULK AT MOST 1048576: true; the input reads as it did. -/
def nullsSplitsUptoRow : OpenClaim := { program := "ytkbblkfbgpohkaa", sum := "d2c1f62bde8f5bed6d4f090534ae1e1c696de112dba150883c62358b5c5c2a9e", func := "peristyle/peristylelaw12.NullsSplits", spec := "nullsSplits", unfollowed := true, recurses := true, apart := false, narrowed := true }
def NullsSplitsUptoSaid : Prop := nullsSplitsUptoRow.holds Try.pinned (OpenSpec.upto nullsSplitsSpec)

/-- 'peristylelaw12.NullsJoins', WHERE WHAT IT READS IS OF BULK AT MOST 1048576: true; the input reads as it did. -/
def nullsJoinsUptoRow : OpenClaim := { program := "ytkbblkfbgpohkaa", sum := "d2c1f62bde8f5bed6d4f090534ae1e1c696de112dba150883c62358b5c5c2a9e", func := "peristyle/peristylelaw12.NullsJoins", spec := "nullsJoins", unfollowed := true, recurses := true, apart := false, narrowed := true }
def NullsJoinsUptoSaid : Prop := nullsJoinsUptoRow.holds Try.pinned (OpenSpec.upto nullsJoinsSpec)

/-- 'peristylelaw12.NullsApart', WHERE WHAT IT READS IS OF BULK AT MOST 1048576: true; the input reads as it did. -/
def nullsApartUptoRow : OpenClaim := { program := "ytkbblkfbgpohkaa", sum := "d2c1f62bde8f5bed6d4f090534ae1e1c696de112dba150883c62358b5c5c2a9e", func := "peristyle/peristylelaw12.NullsApart", spec := "nullsApart", unfollowed := true, recurses := true, apart := false, narrowed := true }
def NullsApartUptoSaid : Prop := nullsApartUptoRow.holds Try.pinned (OpenSpec.upto nullsApartSpec)

end Rows
end Go.Proofs.Ytkbblkfbgpohkaa
