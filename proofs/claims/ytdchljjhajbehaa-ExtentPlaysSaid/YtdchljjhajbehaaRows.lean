/-
  No cell of these rows narrows 'for every input' (looked for: loops, veiled, ifaces, maps, wideKeys, modest, calm, conditions, laid).
  DERIVED. THE GIVEN ROWS OF THIS SEAT. 5 by the template 'for every input the law returns true; each argument reads behind the call as it read before'; 0 by the template 'total and deterministic' (their statements: YtdchljjhajbehaaTotals.lean).
  GIVEN WITH THE SEED: the statements are not yours to turn. If you find one false, say at which input.
  Laid BY PROGRAM, IN A SANDBOX (cutbox-rows.mjs): the forced cells as the released guide's own fill.sh prints them over the translation 3735a72f52ed170f… (all of the seat's roots in one cut). By AI agents, Wed Nov 11 2026. No macro, syntax, notation, axiom, sorry.
-/
import Derived.Test.YtdchljjhajbehaaChecked
import GoSem.Claim
import GoSem.ClaimJoined
import GoSem.ClaimMapViews
import Derived.JoinedTies
import Derived.KernelRfl
namespace Go.Proofs.Ytdchljjhajbehaa
/- THE CELL 'sum', in the pinned program and in every row, IS THE sha256 OF THE DUMP (.gsa) THAT YtdchljjhajbehaaProg.lean LOADS. Nothing in Lean hashes anything: it is a label: what it is worth is what the hold of that sum in a sandbox is worth. -/
noncomputable def Try.pinned : Pinned := { name := "ytdchljjhajbehaa", sum := "3735a72f52ed170fbc13365f60e551152cf007aae3a3eed0421e44ad642ba9cf", checked := Try.checked }
namespace Rows
def none {H : Type} : Left H := { results := [], args := [] }

/-- 'peristylelaw05.ExtentOnce': WHATEVER THE INPUT: true; the input reads as it did. -/
def extentOnceSpec : ChangeSpec := { name := "extentOnce", fn := fun _ => fun
  | [d] => { results := [.lit (.bool true)], args := [d] }
  | _ => none }
def extentOnceRow : OpenClaim := { program := "ytdchljjhajbehaa", sum := "3735a72f52ed170fbc13365f60e551152cf007aae3a3eed0421e44ad642ba9cf", func := "peristyle/peristylelaw05.ExtentOnce", spec := "extentOnce", inPlace := ["slices.overlaps[peristyle/api.Extent]"], unfollowed := true, recurses := true, apart := false }
def ExtentOnceSaid : Prop := extentOnceRow.holds Try.pinned (OpenSpec.ofChange extentOnceSpec)

/-- ITS FALSE NEIGHBOUR: 'it returns false'. Refute it at one input. -/
def extentOnceWrong : ChangeSpec := { name := "extentOnce", fn := fun _ => fun
  | [d] => { results := [.lit (.bool false)], args := [d] }
  | _ => none }
def ExtentOnceWrongFalsely : Prop := extentOnceRow.holds Try.pinned (OpenSpec.ofChange extentOnceWrong)

/-- 'peristylelaw05.ExtentFor': WHATEVER THE INPUT: true; the input reads as it did. -/
def extentForSpec : ChangeSpec := { name := "extentFor", fn := fun _ => fun
  | [d] => { results := [.lit (.bool true)], args := [d] }
  | _ => none }
def extentForRow : OpenClaim := { program := "ytdchljjhajbehaa", sum := "3735a72f52ed170fbc13365f60e551152cf007aae3a3eed0421e44ad642ba9cf", func := "peristyle/peristylelaw05.ExtentFor", spec := "extentFor", inPlace := ["slices.overlaps[peristyle/api.Extent]"], unfollowed := true, recurses := true, apart := false }
def ExtentForSaid : Prop := extentForRow.holds Try.pinned (OpenSpec.ofChange extentForSpec)

/-- ITS FALSE NEIGHBOUR: 'it returns false'. Refute it at one input. -/
def extentForWrong : ChangeSpec := { name := "extentFor", fn := fun _ => fun
  | [d] => { results := [.lit (.bool false)], args := [d] }
  | _ => none }
def ExtentForWrongFalsely : Prop := extentForRow.holds Try.pinned (OpenSpec.ofChange extentForWrong)

/-- 'peristylelaw05.ExtentPlays': WHATEVER THE INPUT: true; the input reads as it did. -/
def extentPlaysSpec : ChangeSpec := { name := "extentPlays", fn := fun _ => fun
  | [d1, d2] => { results := [.lit (.bool true)], args := [d1, d2] }
  | _ => none }
def extentPlaysRow : OpenClaim := { program := "ytdchljjhajbehaa", sum := "3735a72f52ed170fbc13365f60e551152cf007aae3a3eed0421e44ad642ba9cf", func := "peristyle/peristylelaw05.ExtentPlays", spec := "extentPlays", inPlace := ["slices.overlaps[peristyle/api.Extent]"], unfollowed := true, recurses := true, apart := false }
def ExtentPlaysSaid : Prop := extentPlaysRow.holds Try.pinned (OpenSpec.ofChange extentPlaysSpec)

/-- ITS FALSE NEIGHBOUR: 'it returns false'. Refute it at one input. -/
def extentPlaysWrong : ChangeSpec := { name := "extentPlays", fn := fun _ => fun
  | [d1, d2] => { results := [.lit (.bool false)], args := [d1, d2] }
  | _ => none }
def ExtentPlaysWrongFalsely : Prop := extentPlaysRow.holds Try.pinned (OpenSpec.ofChange extentPlaysWrong)

/-- 'peristylelaw05.ExtentCopies': WHATEVER THE INPUT: true; the input reads as it did. -/
def extentCopiesSpec : ChangeSpec := { name := "extentCopies", fn := fun _ => fun
  | [d1, d2] => { results := [.lit (.bool true)], args := [d1, d2] }
  | _ => none }
def extentCopiesRow : OpenClaim := { program := "ytdchljjhajbehaa", sum := "3735a72f52ed170fbc13365f60e551152cf007aae3a3eed0421e44ad642ba9cf", func := "peristyle/peristylelaw05.ExtentCopies", spec := "extentCopies", inPlace := ["slices.overlaps[peristyle/api.Extent]"], unfollowed := true, recurses := true, apart := false }
def ExtentCopiesSaid : Prop := extentCopiesRow.holds Try.pinned (OpenSpec.ofChange extentCopiesSpec)

/-- ITS FALSE NEIGHBOUR: 'it returns false'. Refute it at one input. -/
def extentCopiesWrong : ChangeSpec := { name := "extentCopies", fn := fun _ => fun
  | [d1, d2] => { results := [.lit (.bool false)], args := [d1, d2] }
  | _ => none }
def ExtentCopiesWrongFalsely : Prop := extentCopiesRow.holds Try.pinned (OpenSpec.ofChange extentCopiesWrong)

/-- 'peristylelaw05.ExtentNobody': WHATEVER THE INPUT: true; the input reads as it did. -/
def extentNobodySpec : ChangeSpec := { name := "extentNobody", fn := fun _ => fun
  | [d] => { results := [.lit (.bool true)], args := [d] }
  | _ => none }
def extentNobodyRow : OpenClaim := { program := "ytdchljjhajbehaa", sum := "3735a72f52ed170fbc13365f60e551152cf007aae3a3eed0421e44ad642ba9cf", func := "peristyle/peristylelaw05.ExtentNobody", spec := "extentNobody", inPlace := ["slices.overlaps[peristyle/api.Extent]"], unfollowed := true, recurses := true, apart := false }
def ExtentNobodySaid : Prop := extentNobodyRow.holds Try.pinned (OpenSpec.ofChange extentNobodySpec)

/-- ITS FALSE NEIGHBOUR: 'it returns false'. Refute it at one input. -/
def extentNobodyWrong : ChangeSpec := { name := "extentNobody", fn := fun _ => fun
  | [d] => { results := [.lit (.bool false)], args := [d] }
  | _ => none }
def ExtentNobodyWrongFalsely : Prop := extentNobodyRow.holds Try.pinned (OpenSpec.ofChange extentNobodyWrong)

/- THE SECOND FORM. 'bulk': how many values and letters a reading holds, each counted each time it is reached (what is shared counts as often as it is met; a slice's spare places count too). A statement '..UptoSaid' is the law's where the arguments, and the package variables that the reading takes, are together of bulk at most 1048576: NARROWER than '..Said'. Prove '..Said' where nothing that the law and all that it calls make is longer than what came in: it says more and counts as full. Else prove '..UptoSaid'. A law counts once. -/
mutual
def uptoBulk {H : Type} : DataW H → Nat
  | .lit (.string bytes) => bytes.length + 1
  | .lit _ => 1
  | .nil => 1
  | .ptr d => uptoBulk d + 1
  | .slice elems spare => uptoBulkAll elems + uptoBulkAll spare + 1
  | .agg parts => uptoBulkAll parts + 1
  | .iface _ d => uptoBulk d + 1
  | .map entries => uptoBulkEntries entries + 1
  | .held _ => 1
def uptoBulkAll {H : Type} : List (DataW H) → Nat
  | [] => 0
  | d :: r => uptoBulk d + uptoBulkAll r
def uptoBulkEntries {H : Type} : List (Lit × DataW H) → Nat
  | [] => 0
  | x :: r => uptoBulkEntry x + uptoBulkEntries r
def uptoBulkEntry {H : Type} : Lit × DataW H → Nat
  | (.string bytes, d) => bytes.length + uptoBulk d + 1
  | (_, d) => uptoBulk d + 1
 end
def uptoSmall : (H : Type) → List (DataW H) → Bool := fun _ ds => decide (uptoBulkAll ds ≤ 1048576)
def OpenSpec.upto (s : _root_.Go.ChangeSpec) : _root_.Go.OpenSpec := { _root_.Go.OpenSpec.ofChange s with cond := some uptoSmall }

/-- 'peristylelaw05.ExtentOnce', WHERE WHAT IT READS IS OF BULK AT MOST 1048576: true; the input reads as it did. -/
def extentOnceUptoRow : OpenClaim := { program := "ytdchljjhajbehaa", sum := "3735a72f52ed170fbc13365f60e551152cf007aae3a3eed0421e44ad642ba9cf", func := "peristyle/peristylelaw05.ExtentOnce", spec := "extentOnce", inPlace := ["slices.overlaps[peristyle/api.Extent]"], unfollowed := true, recurses := true, apart := false, narrowed := true }
def ExtentOnceUptoSaid : Prop := extentOnceUptoRow.holds Try.pinned (OpenSpec.upto extentOnceSpec)

/-- 'peristylelaw05.ExtentFor', WHERE WHAT IT READS IS OF BULK AT MOST 1048576: true; the input reads as it did. -/
def extentForUptoRow : OpenClaim := { program := "ytdchljjhajbehaa", sum := "3735a72f52ed170fbc13365f60e551152cf007aae3a3eed0421e44ad642ba9cf", func := "peristyle/peristylelaw05.ExtentFor", spec := "extentFor", inPlace := ["slices.overlaps[peristyle/api.Extent]"], unfollowed := true, recurses := true, apart := false, narrowed := true }
def ExtentForUptoSaid : Prop := extentForUptoRow.holds Try.pinned (OpenSpec.upto extentForSpec)

/-- 'peristylelaw05.ExtentPlays', WHERE WHAT IT READS IS OF BULK AT MOST 1048576: true; the input reads as it did. -/
def extentPlaysUptoRow : OpenClaim := { program := "ytdchljjhajbehaa", sum := "3735a72f52ed170fbc13365f60e551152cf007aae3a3eed0421e44ad642ba9cf", func := "peristyle/peristylelaw05.ExtentPlays", spec := "extentPlays", inPlace := ["slices.overlaps[peristyle/api.Extent]"], unfollowed := true, recurses := true, apart := false, narrowed := true }
def ExtentPlaysUptoSaid : Prop := extentPlaysUptoRow.holds Try.pinned (OpenSpec.upto extentPlaysSpec)

/-- 'peristylelaw05.ExtentCopies', WHERE WHAT IT READS IS OF BULK AT MOST 1048576: true; the input reads as it did. -/
def extentCopiesUptoRow : OpenClaim := { program := "ytdchljjhajbehaa", sum := "3735a72f52ed170fbc13365f60e551152cf007aae3a3eed0421e44ad642ba9cf", func := "peristyle/peristylelaw05.ExtentCopies", spec := "extentCopies", inPlace := ["slices.overlaps[peristyle/api.Extent]"], unfollowed := true, recurses := true, apart := false, narrowed := true }
def ExtentCopiesUptoSaid : Prop := extentCopiesUptoRow.holds Try.pinned (OpenSpec.upto extentCopiesSpec)

/-- 'peristylelaw05.ExtentNobody', WHERE WHAT IT READS IS OF BULK AT MOST 1048576: true; the input reads as it did. -/
def extentNobodyUptoRow : OpenClaim := { program := "ytdchljjhajbehaa", sum := "3735a72f52ed170fbc13365f60e551152cf007aae3a3eed0421e44ad642ba9cf", func := "peristyle/peristylelaw05.ExtentNobody", spec := "extentNobody", inPlace := ["slices.overlaps[peristyle/api.Extent]"], unfollowed := true, recurses := true, apart := false, narrowed := true }
def ExtentNobodyUptoSaid : Prop := extentNobodyUptoRow.holds Try.pinned (OpenSpec.upto extentNobodySpec)

end Rows
end Go.Proofs.Ytdchljjhajbehaa
