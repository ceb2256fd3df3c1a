/-
  No cell of these rows narrows 'for every input' (looked for: loops, veiled, ifaces, maps, wideKeys, modest, calm, conditions, laid).
  DERIVED. THE GIVEN ROWS OF THIS SEAT. 6 by the template 'for every input the law returns true; each argument reads behind the call as it read before'; 0 by the template 'total and deterministic' (their statements: YthehmkpcddafnaaTotals.lean).
  GIVEN WITH THE SEED: the statements are not yours to turn. If you find one false, say at which input.
  Laid BY PROGRAM, IN A SANDBOX (cutbox-rows.mjs): the forced cells as the released guide's own fill.sh prints them over the translation 27adbcc213bd219a… (all of the seat's roots in one cut). By AI agents, Wed Nov 11 2026. No macro, syntax, notation, axiom, sorry.
-/
import Derived.Test.YthehmkpcddafnaaChecked
import GoSem.Claim
import GoSem.ClaimJoined
import GoSem.ClaimMapViews
import Derived.JoinedTies
import Derived.KernelRfl
namespace Go.Proofs.Ythehmkpcddafnaa
/- THE CELL 'sum', in the pinned program and in every row, IS THE sha256 OF THE DUMP (.gsa) THAT YthehmkpcddafnaaProg.lean LOADS. Nothing in Lean hashes anything: it is a label: what it is worth is what the hold of that sum in a sandbox is worth. -/
noncomputable def Try.pinned : Pinned := { name := "ythehmkpcddafnaa", sum := "27adbcc213bd219a541d95f095b7f72baaf383b2d45e05480af5acc41b7bb108", checked := Try.checked }
namespace Rows
def none {H : Type} : Left H := { results := [], args := [] }

/-- 'cracknellaw04.ShapeShows': WHATEVER THE INPUT: true; the input reads as it did. -/
def shapeShowsSpec : ChangeSpec := { name := "shapeShows", fn := fun _ => fun
  | [d1, d2] => { results := [.lit (.bool true)], args := [d1, d2] }
  | _ => none }
def shapeShowsRow : OpenClaim := { program := "ythehmkpcddafnaa", sum := "27adbcc213bd219a541d95f095b7f72baaf383b2d45e05480af5acc41b7bb108", func := "cracknel/cracknellaw04.ShapeShows", spec := "shapeShows", unfollowed := true, recurses := true, apart := false }
def ShapeShowsSaid : Prop := shapeShowsRow.holds Try.pinned (OpenSpec.ofChange shapeShowsSpec)

/-- ITS FALSE NEIGHBOUR: 'it returns false'. Refute it at one input. -/
def shapeShowsWrong : ChangeSpec := { name := "shapeShows", fn := fun _ => fun
  | [d1, d2] => { results := [.lit (.bool false)], args := [d1, d2] }
  | _ => none }
def ShapeShowsWrongFalsely : Prop := shapeShowsRow.holds Try.pinned (OpenSpec.ofChange shapeShowsWrong)

/-- 'cracknellaw04.ShapeNests': WHATEVER THE INPUT: true; the input reads as it did. -/
def shapeNestsSpec : ChangeSpec := { name := "shapeNests", fn := fun _ => fun
  | [d1, d2] => { results := [.lit (.bool true)], args := [d1, d2] }
  | _ => none }
def shapeNestsRow : OpenClaim := { program := "ythehmkpcddafnaa", sum := "27adbcc213bd219a541d95f095b7f72baaf383b2d45e05480af5acc41b7bb108", func := "cracknel/cracknellaw04.ShapeNests", spec := "shapeNests", unfollowed := true, recurses := true, apart := false }
def ShapeNestsSaid : Prop := shapeNestsRow.holds Try.pinned (OpenSpec.ofChange shapeNestsSpec)

/-- ITS FALSE NEIGHBOUR: 'it returns false'. Refute it at one input. -/
def shapeNestsWrong : ChangeSpec := { name := "shapeNests", fn := fun _ => fun
  | [d1, d2] => { results := [.lit (.bool false)], args := [d1, d2] }
  | _ => none }
def ShapeNestsWrongFalsely : Prop := shapeNestsRow.holds Try.pinned (OpenSpec.ofChange shapeNestsWrong)

/-- 'cracknellaw04.ShapeNested': WHATEVER THE INPUT: true; the input reads as it did. -/
def shapeNestedSpec : ChangeSpec := { name := "shapeNested", fn := fun _ => fun
  | [d1, d2, d3] => { results := [.lit (.bool true)], args := [d1, d2, d3] }
  | _ => none }
def shapeNestedRow : OpenClaim := { program := "ythehmkpcddafnaa", sum := "27adbcc213bd219a541d95f095b7f72baaf383b2d45e05480af5acc41b7bb108", func := "cracknel/cracknellaw04.ShapeNested", spec := "shapeNested", unfollowed := true, recurses := true, apart := false }
def ShapeNestedSaid : Prop := shapeNestedRow.holds Try.pinned (OpenSpec.ofChange shapeNestedSpec)

/-- ITS FALSE NEIGHBOUR: 'it returns false'. Refute it at one input. -/
def shapeNestedWrong : ChangeSpec := { name := "shapeNested", fn := fun _ => fun
  | [d1, d2, d3] => { results := [.lit (.bool false)], args := [d1, d2, d3] }
  | _ => none }
def ShapeNestedWrongFalsely : Prop := shapeNestedRow.holds Try.pinned (OpenSpec.ofChange shapeNestedWrong)

/-- 'cracknellaw04.ShapeLattices': WHATEVER THE INPUT: true; the input reads as it did. -/
def shapeLatticesSpec : ChangeSpec := { name := "shapeLattices", fn := fun _ => fun
  | [d] => { results := [.lit (.bool true)], args := [d] }
  | _ => none }
def shapeLatticesRow : OpenClaim := { program := "ythehmkpcddafnaa", sum := "27adbcc213bd219a541d95f095b7f72baaf383b2d45e05480af5acc41b7bb108", func := "cracknel/cracknellaw04.ShapeLattices", spec := "shapeLattices", unfollowed := true, recurses := true, apart := false }
def ShapeLatticesSaid : Prop := shapeLatticesRow.holds Try.pinned (OpenSpec.ofChange shapeLatticesSpec)

/-- ITS FALSE NEIGHBOUR: 'it returns false'. Refute it at one input. -/
def shapeLatticesWrong : ChangeSpec := { name := "shapeLattices", fn := fun _ => fun
  | [d] => { results := [.lit (.bool false)], args := [d] }
  | _ => none }
def ShapeLatticesWrongFalsely : Prop := shapeLatticesRow.holds Try.pinned (OpenSpec.ofChange shapeLatticesWrong)

/-- 'cracknellaw04.ShapeParts': WHATEVER THE INPUT: true; the input reads as it did. -/
def shapePartsSpec : ChangeSpec := { name := "shapeParts", fn := fun _ => fun
  | [d1, d2] => { results := [.lit (.bool true)], args := [d1, d2] }
  | _ => none }
def shapePartsRow : OpenClaim := { program := "ythehmkpcddafnaa", sum := "27adbcc213bd219a541d95f095b7f72baaf383b2d45e05480af5acc41b7bb108", func := "cracknel/cracknellaw04.ShapeParts", spec := "shapeParts", unfollowed := true, recurses := true, apart := false }
def ShapePartsSaid : Prop := shapePartsRow.holds Try.pinned (OpenSpec.ofChange shapePartsSpec)

/-- ITS FALSE NEIGHBOUR: 'it returns false'. Refute it at one input. -/
def shapePartsWrong : ChangeSpec := { name := "shapeParts", fn := fun _ => fun
  | [d1, d2] => { results := [.lit (.bool false)], args := [d1, d2] }
  | _ => none }
def ShapePartsWrongFalsely : Prop := shapePartsRow.holds Try.pinned (OpenSpec.ofChange shapePartsWrong)

/-- 'crackneltop.TopPlaced': WHATEVER THE INPUT: true; the input reads as it did. -/
def topPlacedSpec : ChangeSpec := { name := "topPlaced", fn := fun _ => fun
  | [d1, d2] => { results := [.lit (.bool true)], args := [d1, d2] }
  | _ => none }
def topPlacedRow : OpenClaim := { program := "ythehmkpcddafnaa", sum := "27adbcc213bd219a541d95f095b7f72baaf383b2d45e05480af5acc41b7bb108", func := "cracknel/crackneltop.TopPlaced", spec := "topPlaced", unfollowed := true, recurses := true, apart := false }
def TopPlacedSaid : Prop := topPlacedRow.holds Try.pinned (OpenSpec.ofChange topPlacedSpec)

/-- ITS FALSE NEIGHBOUR: 'it returns false'. Refute it at one input. -/
def topPlacedWrong : ChangeSpec := { name := "topPlaced", fn := fun _ => fun
  | [d1, d2] => { results := [.lit (.bool false)], args := [d1, d2] }
  | _ => none }
def TopPlacedWrongFalsely : Prop := topPlacedRow.holds Try.pinned (OpenSpec.ofChange topPlacedWrong)

/- THE SECOND FORM. 'bulk': how many values and letters a reading holds, each counted each time it is reached (what is shared counts as often as it is met; a slice's spare places count too). A statement '..UptoSaid' is the law's where the arguments, and the package variables that the reading takes, are together of bulk at most 1048576: NARROWER than '..Said'. Prove '..Said' where nothing that the law and all that it calls make is longer than what came in: it says more and counts as full. Else prove '..UptoSaid'. A law counts once. -/
mutual
def uptoBulk {H : Type} : DataW H → Nat
  | .lit (.string bytes) => bytes.length + 1
  | .lit _ => 1
  | .nil => 1
  | .ptr d => uptoBulk d + 1
  | .slice elems spare => uptoBulkAll elems + uptoBulkAll spare + 1
  | .agg parts => uptoBulkAll parts + 1
  | .iface _ d => uptoBulk d + 1
  | .map entries => uptoBulkEntries entries + 1
  | .held _ => 1
def uptoBulkAll {H : Type} : List (DataW H) → Nat
  | [] => 0
  | d :: r => uptoBulk d + uptoBulkAll r
def uptoBulkEntries {H : Type} : List (Lit × DataW H) → Nat
  | [] => 0
  | x :: r => uptoBulkEntry x + uptoBulkEntries r
def uptoBulkEntry {H : Type} : Lit × DataW H → Nat
  | (.string bytes, d) => bytes.length + uptoBulk d + 1
  | (_, d) => uptoBulk d + 1
 end
def uptoSmall : (H : Type) → List (DataW H) → Bool := fun _ ds => decide (uptoBulkAll ds ≤ 1048576)
def OpenSpec.upto (s : _root_.Go.ChangeSpec) : _root_.Go.OpenSpec := { _root_.Go.OpenSpec.ofChange s with cond := some uptoSmall }

/-- 'cracknellaw04.ShapeShows', WHERE WHAT IT READS IS OF BULK AT MOST 1048576: true; the input reads as it did. -/
def shapeShowsUptoRow : OpenClaim := { program := "ythehmkpcddafnaa", sum := "27adbcc213bd219a541d95f095b7f72baaf383b2d45e05480af5acc41b7bb108", func := "cracknel/cracknellaw04.ShapeShows", spec := "shapeShows", unfollowed := true, recurses := true, apart := false, narrowed := true }
def ShapeShowsUptoSaid : Prop := shapeShowsUptoRow.holds Try.pinned (OpenSpec.upto shapeShowsSpec)

/-- 'cracknellaw04.ShapeNests', WHERE WHAT IT READS IS OF BULK AT MOST 1048576: true; the input reads as it did. -/
def shapeNestsUptoRow : OpenClaim := { program := "ythehmkpcddafnaa", sum := "27adbcc213bd219a541d95f095b7f72baaf383b2d45e05480af5acc41b7bb108", func := "cracknel/cracknellaw04.ShapeNests", spec := "shapeNests", unfollowed := true, recurses := true, apart := false, narrowed := true }
def ShapeNestsUptoSaid : Prop := shapeNestsUptoRow.holds Try.pinned (OpenSpec.upto shapeNestsSpec)

/-- 'cracknellaw04.ShapeNested', WHERE WHAT IT READS IS OF BULK AT MOST 1048576: true; the input reads as it did. -/
def shapeNestedUptoRow : OpenClaim := { program := "ythehmkpcddafnaa", sum := "27adbcc213bd219a541d95f095b7f72baaf383b2d45e05480af5acc41b7bb108", func := "cracknel/cracknellaw04.ShapeNested", spec := "shapeNested", unfollowed := true, recurses := true, apart := false, narrowed := true }
def ShapeNestedUptoSaid : Prop := shapeNestedUptoRow.holds Try.pinned (OpenSpec.upto shapeNestedSpec)

/-- 'cracknellaw04.ShapeLattices', WHERE WHAT IT READS IS OF BULK AT MOST 1048576: true; the input reads as it did. -/
def shapeLatticesUptoRow : OpenClaim := { program := "ythehmkpcddafnaa", sum := "27adbcc213bd219a541d95f095b7f72baaf383b2d45e05480af5acc41b7bb108", func := "cracknel/cracknellaw04.ShapeLattices", spec := "shapeLattices", unfollowed := true, recurses := true, apart := false, narrowed := true }
def ShapeLatticesUptoSaid : Prop := shapeLatticesUptoRow.holds Try.pinned (OpenSpec.upto shapeLatticesSpec)

/-- 'cracknellaw04.ShapeParts', WHERE WHAT IT READS IS OF BULK AT MOST 1048576: true; the input reads as it did. -/
def shapePartsUptoRow : OpenClaim := { program := "ythehmkpcddafnaa", sum := "27adbcc213bd219a541d95f095b7f72baaf383b2d45e05480af5acc41b7bb108", func := "cracknel/cracknellaw04.ShapeParts", spec := "shapeParts", unfollowed := true, recurses := true, apart := false, narrowed := true }
def ShapePartsUptoSaid : Prop := shapePartsUptoRow.holds Try.pinned (OpenSpec.upto shapePartsSpec)

/-- 'crackneltop.TopPlaced', WHERE WHAT IT READS IS OF BULK AT MOST 1048576: true; the input reads as it did. -/
def topPlacedUptoRow : OpenClaim := { program := "ythehmkpcddafnaa", sum := "27adbcc213bd219a541d95f095b7f72baaf383b2d45e05480af5acc41b7bb108", func := "cracknel/crackneltop.TopPlaced", spec := "topPlaced", unfollowed := true, recurses := true, apart := false, narrowed := true }
def TopPlacedUptoSaid : Prop := topPlacedUptoRow.holds Try.pinned (OpenSpec.upto topPlacedSpec)

end Rows
end Go.Proofs.Ythehmkpcddafnaa
