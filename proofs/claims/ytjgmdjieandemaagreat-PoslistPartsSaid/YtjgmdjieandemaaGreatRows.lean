/-
  No cell of these rows narrows 'for every input' (looked for: loops, veiled, ifaces, maps, wideKeys, modest, calm, conditions, laid).
  DERIVED. THE GIVEN ROWS OF THIS SEAT. 5 by the template 'for every input the law returns true; each argument reads behind the call as it read before'; 0 by the template 'total and deterministic' (their statements: YtjgmdjieandemaaGreatTotals.lean).
  GIVEN WITH THE SEED: the statements are not yours to turn. If you find one false, say at which input.
  Laid BY PROGRAM, IN A SANDBOX (cutbox-rows.mjs): the forced cells as the released guide's own fill.sh prints them over the translation 7e499a64bb204950… (all of the seat's roots in one cut). By AI agents, Wed Nov 11 2026. No macro, syntax, notation, axiom, sorry.
-/
import Derived.Test.YtjgmdjieandemaaGreatChecked
import GoSem.Claim
import GoSem.ClaimJoined
import GoSem.ClaimMapViews
import Derived.JoinedTies
import Derived.KernelRfl
namespace Go.Proofs.YtjgmdjieandemaaGreat
/- THE CELL 'sum', in the pinned program and in every row, IS THE sha256 OF THE DUMP (.gsa) THAT YtjgmdjieandemaaGreatProg.lean LOADS. Nothing in Lean hashes anything: it is a label: what it is worth is what the hold of that sum in a sandbox is worth. -/
noncomputable def Tryz.pinned : Pinned := { name := "ytjgmdjieandemaagreat", sum := "7e499a64bb204950db63a757f002d8e178852b7c82a63ea69b1241547b1a6ca4", checked := Tryz.checked }
namespace Rows
def none {H : Type} : Left H := { results := [], args := [] }

/-- 'peristylelaw16.PoslistOf': WHATEVER THE INPUT: true; the input reads as it did. -/
def poslistOfSpec : ChangeSpec := { name := "poslistOf", fn := fun _ => fun
  | [d1, d2] => { results := [.lit (.bool true)], args := [d1, d2] }
  | _ => none }
def poslistOfRow : OpenClaim := { program := "ytjgmdjieandemaagreat", sum := "7e499a64bb204950db63a757f002d8e178852b7c82a63ea69b1241547b1a6ca4", func := "peristyle/peristylelaw16.PoslistOf", spec := "poslistOf", unfollowed := true, recurses := true, apart := false }
def PoslistOfSaid : Prop := poslistOfRow.holds Tryz.pinned (OpenSpec.ofChange poslistOfSpec)

/-- ITS FALSE NEIGHBOUR: 'it returns false'. Refute it at one input. -/
def poslistOfWrong : ChangeSpec := { name := "poslistOf", fn := fun _ => fun
  | [d1, d2] => { results := [.lit (.bool false)], args := [d1, d2] }
  | _ => none }
def PoslistOfWrongFalsely : Prop := poslistOfRow.holds Tryz.pinned (OpenSpec.ofChange poslistOfWrong)

/-- 'peristylelaw16.PoslistFrom': WHATEVER THE INPUT: true; the input reads as it did. -/
def poslistFromSpec : ChangeSpec := { name := "poslistFrom", fn := fun _ => fun
  | [d1, d2] => { results := [.lit (.bool true)], args := [d1, d2] }
  | _ => none }
def poslistFromRow : OpenClaim := { program := "ytjgmdjieandemaagreat", sum := "7e499a64bb204950db63a757f002d8e178852b7c82a63ea69b1241547b1a6ca4", func := "peristyle/peristylelaw16.PoslistFrom", spec := "poslistFrom", unfollowed := true, recurses := true, apart := false }
def PoslistFromSaid : Prop := poslistFromRow.holds Tryz.pinned (OpenSpec.ofChange poslistFromSpec)

/-- ITS FALSE NEIGHBOUR: 'it returns false'. Refute it at one input. -/
def poslistFromWrong : ChangeSpec := { name := "poslistFrom", fn := fun _ => fun
  | [d1, d2] => { results := [.lit (.bool false)], args := [d1, d2] }
  | _ => none }
def PoslistFromWrongFalsely : Prop := poslistFromRow.holds Tryz.pinned (OpenSpec.ofChange poslistFromWrong)

/-- 'peristylelaw16.PoslistBoth': WHATEVER THE INPUT: true; the input reads as it did. -/
def poslistBothSpec : ChangeSpec := { name := "poslistBoth", fn := fun _ => fun
  | [d1, d2, d3] => { results := [.lit (.bool true)], args := [d1, d2, d3] }
  | _ => none }
def poslistBothRow : OpenClaim := { program := "ytjgmdjieandemaagreat", sum := "7e499a64bb204950db63a757f002d8e178852b7c82a63ea69b1241547b1a6ca4", func := "peristyle/peristylelaw16.PoslistBoth", spec := "poslistBoth", unfollowed := true, recurses := true, apart := false }
def PoslistBothSaid : Prop := poslistBothRow.holds Tryz.pinned (OpenSpec.ofChange poslistBothSpec)

/-- ITS FALSE NEIGHBOUR: 'it returns false'. Refute it at one input. -/
def poslistBothWrong : ChangeSpec := { name := "poslistBoth", fn := fun _ => fun
  | [d1, d2, d3] => { results := [.lit (.bool false)], args := [d1, d2, d3] }
  | _ => none }
def PoslistBothWrongFalsely : Prop := poslistBothRow.holds Tryz.pinned (OpenSpec.ofChange poslistBothWrong)

/-- 'peristylelaw16.PoslistParts': WHATEVER THE INPUT: true; the input reads as it did. -/
def poslistPartsSpec : ChangeSpec := { name := "poslistParts", fn := fun _ => fun
  | [d1, d2, d3] => { results := [.lit (.bool true)], args := [d1, d2, d3] }
  | _ => none }
def poslistPartsRow : OpenClaim := { program := "ytjgmdjieandemaagreat", sum := "7e499a64bb204950db63a757f002d8e178852b7c82a63ea69b1241547b1a6ca4", func := "peristyle/peristylelaw16.PoslistParts", spec := "poslistParts", unfollowed := true, recurses := true, apart := false }
def PoslistPartsSaid : Prop := poslistPartsRow.holds Tryz.pinned (OpenSpec.ofChange poslistPartsSpec)

/-- ITS FALSE NEIGHBOUR: 'it returns false'. Refute it at one input. -/
def poslistPartsWrong : ChangeSpec := { name := "poslistParts", fn := fun _ => fun
  | [d1, d2, d3] => { results := [.lit (.bool false)], args := [d1, d2, d3] }
  | _ => none }
def PoslistPartsWrongFalsely : Prop := poslistPartsRow.holds Tryz.pinned (OpenSpec.ofChange poslistPartsWrong)

/-- 'peristylelaw16.PoslistTells': WHATEVER THE INPUT: true; the input reads as it did. -/
def poslistTellsSpec : ChangeSpec := { name := "poslistTells", fn := fun _ => fun
  | [d1, d2, d3] => { results := [.lit (.bool true)], args := [d1, d2, d3] }
  | _ => none }
def poslistTellsRow : OpenClaim := { program := "ytjgmdjieandemaagreat", sum := "7e499a64bb204950db63a757f002d8e178852b7c82a63ea69b1241547b1a6ca4", func := "peristyle/peristylelaw16.PoslistTells", spec := "poslistTells", unfollowed := true, recurses := true, apart := false }
def PoslistTellsSaid : Prop := poslistTellsRow.holds Tryz.pinned (OpenSpec.ofChange poslistTellsSpec)

/-- ITS FALSE NEIGHBOUR: 'it returns false'. Refute it at one input. -/
def poslistTellsWrong : ChangeSpec := { name := "poslistTells", fn := fun _ => fun
  | [d1, d2, d3] => { results := [.lit (.bool false)], args := [d1, d2, d3] }
  | _ => none }
def PoslistTellsWrongFalsely : Prop := poslistTellsRow.holds Tryz.pinned (OpenSpec.ofChange poslistTellsWrong)

/- THE SECOND FORM. 'bulk': how many values and letters a reading holds, each counted each time it is reached (what is shared counts as often as it is met; a slice's spare places count too). A statement '..UptoSaid' is the law's where the arguments, and the package variables that the reading takes, are together of bulk at most 1048576: NARROWER than '..Said'. Prove '..Said' where nothing that the law and all that it calls make is longer than what came in: it says more and counts as full. Else prove '..UptoSaid'. A law counts once. -/
mutual
def uptoBulk {H : Type} : DataW H → Nat
  | .lit (.string bytes) => bytes.length + 1
  | .lit _ => 1
  | .nil => 1
  | .ptr d => uptoBulk d + 1
  | .slice elems spare => uptoBulkAll elems + uptoBulkAll spare + 1
  | .agg parts => uptoBulkAll parts + 1
  | .iface _ d => uptoBulk d + 1
  | .map entries => uptoBulkEntries entries + 1
  | .held _ => 1
def uptoBulkAll {H : Type} : List (DataW H) → Nat
  | [] => 0
  | d :: r => uptoBulk d + uptoBulkAll r
def uptoBulkEntries {H : Type} : List (Lit × DataW H) → Nat
  | [] => 0
  | x :: r => uptoBulkEntry x + uptoBulkEntries r
def uptoBulkEntry {H : Type} : Lit × DataW H → Nat
  | (.string bytes, d) => bytes.length + uptoBulk d + 1
  | (_, d) => uptoBulk d + 1
 end
def uptoSmall : (H : Type) → List (DataW H) → Bool := fun _ ds => decide (uptoBulkAll ds ≤ 1048576)
def OpenSpec.upto (s : _root_.Go.ChangeSpec) : _root_.Go.OpenSpec := { _root_.Go.OpenSpec.ofChange s with cond := some uptoSmall }

/-- 'peristylelaw16.PoslistOf', WHERE WHAT IT READS IS OF BULK AT MOST 1048576: true; the input reads as it did. -/
def poslistOfUptoRow : OpenClaim := { program := "ytjgmdjieandemaagreat", sum := "7e499a64bb204950db63a757f002d8e178852b7c82a63ea69b1241547b1a6ca4", func := "peristyle/peristylelaw16.PoslistOf", spec := "poslistOf", unfollowed := true, recurses := true, apart := false, narrowed := true }
def PoslistOfUptoSaid : Prop := poslistOfUptoRow.holds Tryz.pinned (OpenSpec.upto poslistOfSpec)

/-- 'peristylelaw16.PoslistFrom', WHERE WHAT IT READS IS OF BULK AT MOST 1048576: true; the input reads as it did. -/
def poslistFromUptoRow : OpenClaim := { program := "ytjgmdjieandemaagreat", sum := "7e499a64bb204950db63a757f002d8e178852b7c82a63ea69b1241547b1a6ca4", func := "peristyle/peristylelaw16.PoslistFrom", spec := "poslistFrom", unfollowed := true, recurses := true, apart := false, narrowed := true }
def PoslistFromUptoSaid : Prop := poslistFromUptoRow.holds Tryz.pinned (OpenSpec.upto poslistFromSpec)

/-- 'peristylelaw16.PoslistBoth', WHERE WHAT IT READS IS OF BULK AT MOST 1048576: true; the input reads as it did. -/
def poslistBothUptoRow : OpenClaim := { program := "ytjgmdjieandemaagreat", sum := "7e499a64bb204950db63a757f002d8e178852b7c82a63ea69b1241547b1a6ca4", func := "peristyle/peristylelaw16.PoslistBoth", spec := "poslistBoth", unfollowed := true, recurses := true, apart := false, narrowed := true }
def PoslistBothUptoSaid : Prop := poslistBothUptoRow.holds Tryz.pinned (OpenSpec.upto poslistBothSpec)

/-- 'peristylelaw16.PoslistParts', WHERE WHAT IT READS IS OF BULK AT MOST 1048576: true; the input reads as it did. -/
def poslistPartsUptoRow : OpenClaim := { program := "ytjgmdjieandemaagreat", sum := "7e499a64bb204950db63a757f002d8e178852b7c82a63ea69b1241547b1a6ca4", func := "peristyle/peristylelaw16.PoslistParts", spec := "poslistParts", unfollowed := true, recurses := true, apart := false, narrowed := true }
def PoslistPartsUptoSaid : Prop := poslistPartsUptoRow.holds Tryz.pinned (OpenSpec.upto poslistPartsSpec)

/-- 'peristylelaw16.PoslistTells', WHERE WHAT IT READS IS OF BULK AT MOST 1048576: true; the input reads as it did. -/
def poslistTellsUptoRow : OpenClaim := { program := "ytjgmdjieandemaagreat", sum := "7e499a64bb204950db63a757f002d8e178852b7c82a63ea69b1241547b1a6ca4", func := "peristyle/peristylelaw16.PoslistTells", spec := "poslistTells", unfollowed := true, recurses := true, apart := false, narrowed := true }
def PoslistTellsUptoSaid : Prop := poslistTellsUptoRow.holds Tryz.pinned (OpenSpec.upto poslistTellsSpec)

end Rows
end Go.Proofs.YtjgmdjieandemaaGreat
