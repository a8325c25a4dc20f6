/-
  No cell of these rows narrows 'for every input' (looked for: loops, veiled, ifaces, maps, wideKeys, modest, calm, conditions, laid).
  DERIVED. THE GIVEN ROWS OF THIS SEAT. 4 by the template 'for every input the law returns true; each argument reads behind the call as it read before'; 0 by the template 'total and deterministic' (their statements: YtdgphlkbmplbpaaGreatTotals.lean).
  GIVEN WITH THE SEED: the statements are not yours to turn. If you find one false, say at which input.
  Laid BY PROGRAM, IN A SANDBOX (cutbox-rows.mjs): the forced cells as the released guide's own fill.sh prints them over the translation 4790e124125cda1c… (all of the seat's roots in one cut). By AI agents, Wed Nov 11 2026. No macro, syntax, notation, axiom, sorry.
-/
import Derived.Test.YtdgphlkbmplbpaaGreatChecked
import GoSem.Claim
import GoSem.ClaimJoined
import GoSem.ClaimMapViews
import Derived.JoinedTies
import Derived.KernelRfl
namespace Go.Proofs.YtdgphlkbmplbpaaGreat
/- THE CELL 'sum', in the pinned program and in every row, IS THE sha256 OF THE DUMP (.gsa) THAT YtdgphlkbmplbpaaGreatProg.lean LOADS. Nothing in Lean hashes anything: it is a label: what it is worth is what the hold of that sum in a sandbox is worth. -/
noncomputable def Tryz.pinned : Pinned := { name := "ytdgphlkbmplbpaagreat", sum := "4790e124125cda1cfa2ce94b6301cd3b62f70b7592950bec284d3260fd518e2d", checked := Tryz.checked }
namespace Rows
def none {H : Type} : Left H := { results := [], args := [] }

/-- 'peristylelaw21.EpochVisible': WHATEVER THE INPUT: true; the input reads as it did. -/
def epochVisibleSpec : ChangeSpec := { name := "epochVisible", fn := fun _ => fun
  | [d1, d2, d3] => { results := [.lit (.bool true)], args := [d1, d2, d3] }
  | _ => none }
def epochVisibleRow : OpenClaim := { program := "ytdgphlkbmplbpaagreat", sum := "4790e124125cda1cfa2ce94b6301cd3b62f70b7592950bec284d3260fd518e2d", func := "peristyle/peristylelaw21.EpochVisible", spec := "epochVisible", inPlace := ["internal/abi.NoEscape"], unfollowed := true, recurses := true, apart := false }
def EpochVisibleSaid : Prop := epochVisibleRow.holds Tryz.pinned (OpenSpec.ofChange epochVisibleSpec)

/-- ITS FALSE NEIGHBOUR: 'it returns false'. Refute it at one input. -/
def epochVisibleWrong : ChangeSpec := { name := "epochVisible", fn := fun _ => fun
  | [d1, d2, d3] => { results := [.lit (.bool false)], args := [d1, d2, d3] }
  | _ => none }
def EpochVisibleWrongFalsely : Prop := epochVisibleRow.holds Tryz.pinned (OpenSpec.ofChange epochVisibleWrong)

/-- 'peristylelaw21.EpochClocks': WHATEVER THE INPUT: true; the input reads as it did. -/
def epochClocksSpec : ChangeSpec := { name := "epochClocks", fn := fun _ => fun
  | [d1, d2, d3] => { results := [.lit (.bool true)], args := [d1, d2, d3] }
  | _ => none }
def epochClocksRow : OpenClaim := { program := "ytdgphlkbmplbpaagreat", sum := "4790e124125cda1cfa2ce94b6301cd3b62f70b7592950bec284d3260fd518e2d", func := "peristyle/peristylelaw21.EpochClocks", spec := "epochClocks", inPlace := ["internal/abi.NoEscape"], unfollowed := true, recurses := true, apart := false }
def EpochClocksSaid : Prop := epochClocksRow.holds Tryz.pinned (OpenSpec.ofChange epochClocksSpec)

/-- ITS FALSE NEIGHBOUR: 'it returns false'. Refute it at one input. -/
def epochClocksWrong : ChangeSpec := { name := "epochClocks", fn := fun _ => fun
  | [d1, d2, d3] => { results := [.lit (.bool false)], args := [d1, d2, d3] }
  | _ => none }
def EpochClocksWrongFalsely : Prop := epochClocksRow.holds Tryz.pinned (OpenSpec.ofChange epochClocksWrong)

/-- 'peristylelaw21.EpochBytes': WHATEVER THE INPUT: true; the input reads as it did. -/
def epochBytesSpec : ChangeSpec := { name := "epochBytes", fn := fun _ => fun
  | [d1, d2] => { results := [.lit (.bool true)], args := [d1, d2] }
  | _ => none }
def epochBytesRow : OpenClaim := { program := "ytdgphlkbmplbpaagreat", sum := "4790e124125cda1cfa2ce94b6301cd3b62f70b7592950bec284d3260fd518e2d", func := "peristyle/peristylelaw21.EpochBytes", spec := "epochBytes", inPlace := ["internal/abi.NoEscape"], unfollowed := true, recurses := true, apart := false }
def EpochBytesSaid : Prop := epochBytesRow.holds Tryz.pinned (OpenSpec.ofChange epochBytesSpec)

/-- ITS FALSE NEIGHBOUR: 'it returns false'. Refute it at one input. -/
def epochBytesWrong : ChangeSpec := { name := "epochBytes", fn := fun _ => fun
  | [d1, d2] => { results := [.lit (.bool false)], args := [d1, d2] }
  | _ => none }
def EpochBytesWrongFalsely : Prop := epochBytesRow.holds Tryz.pinned (OpenSpec.ofChange epochBytesWrong)

/-- 'peristylelaw21.EpochStays': WHATEVER THE INPUT: true; the input reads as it did. -/
def epochStaysSpec : ChangeSpec := { name := "epochStays", fn := fun _ => fun
  | [d1, d2] => { results := [.lit (.bool true)], args := [d1, d2] }
  | _ => none }
def epochStaysRow : OpenClaim := { program := "ytdgphlkbmplbpaagreat", sum := "4790e124125cda1cfa2ce94b6301cd3b62f70b7592950bec284d3260fd518e2d", func := "peristyle/peristylelaw21.EpochStays", spec := "epochStays", inPlace := ["internal/abi.NoEscape", "slices.overlaps[peristyle/api.Mark]"], unfollowed := true, recurses := true, apart := false }
def EpochStaysSaid : Prop := epochStaysRow.holds Tryz.pinned (OpenSpec.ofChange epochStaysSpec)

/-- ITS FALSE NEIGHBOUR: 'it returns false'. Refute it at one input. -/
def epochStaysWrong : ChangeSpec := { name := "epochStays", fn := fun _ => fun
  | [d1, d2] => { results := [.lit (.bool false)], args := [d1, d2] }
  | _ => none }
def EpochStaysWrongFalsely : Prop := epochStaysRow.holds Tryz.pinned (OpenSpec.ofChange epochStaysWrong)

/- THE SECOND FORM. 'bulk': how many values and letters a reading holds, each counted each time it is reached (what is shared counts as often as it is met; a slice's spare places count too). A statement '..UptoSaid' is the law's where the arguments, and the package variables that the reading takes, are together of bulk at most 1048576: NARROWER than '..Said'. Prove '..Said' where nothing that the law and all that it calls make is longer than what came in: it says more and counts as full. Else prove '..UptoSaid'. A law counts once. -/
mutual
def uptoBulk {H : Type} : DataW H → Nat
  | .lit (.string bytes) => bytes.length + 1
  | .lit _ => 1
  | .nil => 1
  | .ptr d => uptoBulk d + 1
  | .slice elems spare => uptoBulkAll elems + uptoBulkAll spare + 1
  | .agg parts => uptoBulkAll parts + 1
  | .iface _ d => uptoBulk d + 1
  | .map entries => uptoBulkEntries entries + 1
  | .held _ => 1
def uptoBulkAll {H : Type} : List (DataW H) → Nat
  | [] => 0
  | d :: r => uptoBulk d + uptoBulkAll r
def uptoBulkEntries {H : Type} : List (Lit × DataW H) → Nat
  | [] => 0
  | x :: r => uptoBulkEntry x + uptoBulkEntries r
def uptoBulkEntry {H : Type} : Lit × DataW H → Nat
  | (.string bytes, d) => bytes.length + uptoBulk d + 1
  | (_, d) => uptoBulk d + 1
 end
def uptoSmall : (H : Type) → List (DataW H) → Bool := fun _ ds => decide (uptoBulkAll ds ≤ 1048576)
def OpenSpec.upto (s : _root_.Go.ChangeSpec) : _root_.Go.OpenSpec := { _root_.Go.OpenSpec.ofChange s with cond := some uptoSmall }

/-- 'peristylelaw21.EpochVisible', WHERE WHAT IT READS IS OF BULK AT MOST 1048576: true; the input reads as it did. -/
def epochVisibleUptoRow : OpenClaim := { program := "ytdgphlkbmplbpaagreat", sum := "4790e124125cda1cfa2ce94b6301cd3b62f70b7592950bec284d3260fd518e2d", func := "peristyle/peristylelaw21.EpochVisible", spec := "epochVisible", inPlace := ["internal/abi.NoEscape"], unfollowed := true, recurses := true, apart := false, narrowed := true }
def EpochVisibleUptoSaid : Prop := epochVisibleUptoRow.holds Tryz.pinned (OpenSpec.upto epochVisibleSpec)

/-- 'peristylelaw21.EpochClocks', WHERE WHAT IT READS IS OF BULK AT MOST 1048576: true; the input reads as it did. -/
def epochClocksUptoRow : OpenClaim := { program := "ytdgphlkbmplbpaagreat", sum := "4790e124125cda1cfa2ce94b6301cd3b62f70b7592950bec284d3260fd518e2d", func := "peristyle/peristylelaw21.EpochClocks", spec := "epochClocks", inPlace := ["internal/abi.NoEscape"], unfollowed := true, recurses := true, apart := false, narrowed := true }
def EpochClocksUptoSaid : Prop := epochClocksUptoRow.holds Tryz.pinned (OpenSpec.upto epochClocksSpec)

/-- 'peristylelaw21.EpochBytes', WHERE WHAT IT READS IS OF BULK AT MOST 1048576: true; the input reads as it did. -/
def epochBytesUptoRow : OpenClaim := { program := "ytdgphlkbmplbpaagreat", sum := "4790e124125cda1cfa2ce94b6301cd3b62f70b7592950bec284d3260fd518e2d", func := "peristyle/peristylelaw21.EpochBytes", spec := "epochBytes", inPlace := ["internal/abi.NoEscape"], unfollowed := true, recurses := true, apart := false, narrowed := true }
def EpochBytesUptoSaid : Prop := epochBytesUptoRow.holds Tryz.pinned (OpenSpec.upto epochBytesSpec)

/-- 'peristylelaw21.EpochStays', WHERE WHAT IT READS IS OF BULK AT MOST 1048576: true; the input reads as it did. -/
def epochStaysUptoRow : OpenClaim := { program := "ytdgphlkbmplbpaagreat", sum := "4790e124125cda1cfa2ce94b6301cd3b62f70b7592950bec284d3260fd518e2d", func := "peristyle/peristylelaw21.EpochStays", spec := "epochStays", inPlace := ["internal/abi.NoEscape", "slices.overlaps[peristyle/api.Mark]"], unfollowed := true, recurses := true, apart := false, narrowed := true }
def EpochStaysUptoSaid : Prop := epochStaysUptoRow.holds Tryz.pinned (OpenSpec.upto epochStaysSpec)

end Rows
end Go.Proofs.YtdgphlkbmplbpaaGreat
