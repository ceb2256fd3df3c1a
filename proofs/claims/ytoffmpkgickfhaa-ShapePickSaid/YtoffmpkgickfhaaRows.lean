/-
  No cell of these rows narrows 'for every input' (looked for: loops, veiled, ifaces, maps, wideKeys, modest, calm, conditions, laid).
  DERIVED. THE GIVEN ROWS OF THIS SEAT. 12 by the template 'for every input the law returns true; each argument reads behind the call as it read before'; 0 by the template 'total and deterministic' (their statements: YtoffmpkgickfhaaTotals.lean).
  GIVEN WITH THE SEED: the statements are not yours to turn. If you find one false, say at which input.
  Laid BY PROGRAM, IN A SANDBOX (cutbox-rows.mjs): the forced cells as the released guide's own fill.sh prints them over the translation bfdb20646badd48c… (all of the seat's roots in one cut). By AI agents, Wed Nov 11 2026. No macro, syntax, notation, axiom, sorry.
-/
import Derived.Test.YtoffmpkgickfhaaChecked
import GoSem.Claim
import GoSem.ClaimJoined
import GoSem.ClaimMapViews
import Derived.JoinedTies
import Derived.KernelRfl
namespace Go.Proofs.Ytoffmpkgickfhaa
/- THE CELL 'sum', in the pinned program and in every row, IS THE sha256 OF THE DUMP (.gsa) THAT YtoffmpkgickfhaaProg.lean LOADS. Nothing in Lean hashes anything: it is a label: what it is worth is what the hold of that sum in a sandbox is worth. -/
noncomputable def Try.pinned : Pinned := { name := "ytoffmpkgickfhaa", sum := "bfdb20646badd48ced53934582c20e14b60dadd5d4e0a29530e4487ae4625f84", checked := Try.checked }
namespace Rows
def none {H : Type} : Left H := { results := [], args := [] }

/-- 'cracknellaw04.ShapeHulls': WHATEVER THE INPUT: true; the input reads as it did. -/
def shapeHullsSpec : ChangeSpec := { name := "shapeHulls", fn := fun _ => fun
  | [d] => { results := [.lit (.bool true)], args := [d] }
  | _ => none }
def shapeHullsRow : OpenClaim := { program := "ytoffmpkgickfhaa", sum := "bfdb20646badd48ced53934582c20e14b60dadd5d4e0a29530e4487ae4625f84", func := "cracknel/cracknellaw04.ShapeHulls", spec := "shapeHulls", unfollowed := true, recurses := true, apart := false }
def ShapeHullsSaid : Prop := shapeHullsRow.holds Try.pinned (OpenSpec.ofChange shapeHullsSpec)

/-- ITS FALSE NEIGHBOUR: 'it returns false'. Refute it at one input. -/
def shapeHullsWrong : ChangeSpec := { name := "shapeHulls", fn := fun _ => fun
  | [d] => { results := [.lit (.bool false)], args := [d] }
  | _ => none }
def ShapeHullsWrongFalsely : Prop := shapeHullsRow.holds Try.pinned (OpenSpec.ofChange shapeHullsWrong)

/-- 'cracknellaw04.ShapePick': WHATEVER THE INPUT: true; the input reads as it did. -/
def shapePickSpec : ChangeSpec := { name := "shapePick", fn := fun _ => fun
  | [d1, d2] => { results := [.lit (.bool true)], args := [d1, d2] }
  | _ => none }
def shapePickRow : OpenClaim := { program := "ytoffmpkgickfhaa", sum := "bfdb20646badd48ced53934582c20e14b60dadd5d4e0a29530e4487ae4625f84", func := "cracknel/cracknellaw04.ShapePick", spec := "shapePick", unfollowed := true, recurses := true, apart := false }
def ShapePickSaid : Prop := shapePickRow.holds Try.pinned (OpenSpec.ofChange shapePickSpec)

/-- ITS FALSE NEIGHBOUR: 'it returns false'. Refute it at one input. -/
def shapePickWrong : ChangeSpec := { name := "shapePick", fn := fun _ => fun
  | [d1, d2] => { results := [.lit (.bool false)], args := [d1, d2] }
  | _ => none }
def ShapePickWrongFalsely : Prop := shapePickRow.holds Try.pinned (OpenSpec.ofChange shapePickWrong)

/-- 'cracknellaw04.ShapeAreas': WHATEVER THE INPUT: true; the input reads as it did. -/
def shapeAreasSpec : ChangeSpec := { name := "shapeAreas", fn := fun _ => fun
  | [d] => { results := [.lit (.bool true)], args := [d] }
  | _ => none }
def shapeAreasRow : OpenClaim := { program := "ytoffmpkgickfhaa", sum := "bfdb20646badd48ced53934582c20e14b60dadd5d4e0a29530e4487ae4625f84", func := "cracknel/cracknellaw04.ShapeAreas", spec := "shapeAreas", unfollowed := true, recurses := true, apart := false }
def ShapeAreasSaid : Prop := shapeAreasRow.holds Try.pinned (OpenSpec.ofChange shapeAreasSpec)

/-- ITS FALSE NEIGHBOUR: 'it returns false'. Refute it at one input. -/
def shapeAreasWrong : ChangeSpec := { name := "shapeAreas", fn := fun _ => fun
  | [d] => { results := [.lit (.bool false)], args := [d] }
  | _ => none }
def ShapeAreasWrongFalsely : Prop := shapeAreasRow.holds Try.pinned (OpenSpec.ofChange shapeAreasWrong)

/-- 'cracknellaw04.ShapeWheres': WHATEVER THE INPUT: true; the input reads as it did. -/
def shapeWheresSpec : ChangeSpec := { name := "shapeWheres", fn := fun _ => fun
  | [d1, d2] => { results := [.lit (.bool true)], args := [d1, d2] }
  | _ => none }
def shapeWheresRow : OpenClaim := { program := "ytoffmpkgickfhaa", sum := "bfdb20646badd48ced53934582c20e14b60dadd5d4e0a29530e4487ae4625f84", func := "cracknel/cracknellaw04.ShapeWheres", spec := "shapeWheres", unfollowed := true, recurses := true, apart := false }
def ShapeWheresSaid : Prop := shapeWheresRow.holds Try.pinned (OpenSpec.ofChange shapeWheresSpec)

/-- ITS FALSE NEIGHBOUR: 'it returns false'. Refute it at one input. -/
def shapeWheresWrong : ChangeSpec := { name := "shapeWheres", fn := fun _ => fun
  | [d1, d2] => { results := [.lit (.bool false)], args := [d1, d2] }
  | _ => none }
def ShapeWheresWrongFalsely : Prop := shapeWheresRow.holds Try.pinned (OpenSpec.ofChange shapeWheresWrong)

/-- 'cracknellaw04.ShapeAparts': WHATEVER THE INPUT: true; the input reads as it did. -/
def shapeApartsSpec : ChangeSpec := { name := "shapeAparts", fn := fun _ => fun
  | [d1, d2, d3] => { results := [.lit (.bool true)], args := [d1, d2, d3] }
  | _ => none }
def shapeApartsRow : OpenClaim := { program := "ytoffmpkgickfhaa", sum := "bfdb20646badd48ced53934582c20e14b60dadd5d4e0a29530e4487ae4625f84", func := "cracknel/cracknellaw04.ShapeAparts", spec := "shapeAparts", unfollowed := true, recurses := true, apart := false }
def ShapeApartsSaid : Prop := shapeApartsRow.holds Try.pinned (OpenSpec.ofChange shapeApartsSpec)

/-- ITS FALSE NEIGHBOUR: 'it returns false'. Refute it at one input. -/
def shapeApartsWrong : ChangeSpec := { name := "shapeAparts", fn := fun _ => fun
  | [d1, d2, d3] => { results := [.lit (.bool false)], args := [d1, d2, d3] }
  | _ => none }
def ShapeApartsWrongFalsely : Prop := shapeApartsRow.holds Try.pinned (OpenSpec.ofChange shapeApartsWrong)

/-- 'cracknellaw04.ShapeHulled': WHATEVER THE INPUT: true; the input reads as it did. -/
def shapeHulledSpec : ChangeSpec := { name := "shapeHulled", fn := fun _ => fun
  | [d1, d2] => { results := [.lit (.bool true)], args := [d1, d2] }
  | _ => none }
def shapeHulledRow : OpenClaim := { program := "ytoffmpkgickfhaa", sum := "bfdb20646badd48ced53934582c20e14b60dadd5d4e0a29530e4487ae4625f84", func := "cracknel/cracknellaw04.ShapeHulled", spec := "shapeHulled", unfollowed := true, recurses := true, apart := false }
def ShapeHulledSaid : Prop := shapeHulledRow.holds Try.pinned (OpenSpec.ofChange shapeHulledSpec)

/-- ITS FALSE NEIGHBOUR: 'it returns false'. Refute it at one input. -/
def shapeHulledWrong : ChangeSpec := { name := "shapeHulled", fn := fun _ => fun
  | [d1, d2] => { results := [.lit (.bool false)], args := [d1, d2] }
  | _ => none }
def ShapeHulledWrongFalsely : Prop := shapeHulledRow.holds Try.pinned (OpenSpec.ofChange shapeHulledWrong)

/-- 'cracknellaw04.ShapeBrunn': WHATEVER THE INPUT: true; the input reads as it did. -/
def shapeBrunnSpec : ChangeSpec := { name := "shapeBrunn", fn := fun _ => fun
  | [d1, d2] => { results := [.lit (.bool true)], args := [d1, d2] }
  | _ => none }
def shapeBrunnRow : OpenClaim := { program := "ytoffmpkgickfhaa", sum := "bfdb20646badd48ced53934582c20e14b60dadd5d4e0a29530e4487ae4625f84", func := "cracknel/cracknellaw04.ShapeBrunn", spec := "shapeBrunn", unfollowed := true, recurses := true, apart := false }
def ShapeBrunnSaid : Prop := shapeBrunnRow.holds Try.pinned (OpenSpec.ofChange shapeBrunnSpec)

/-- ITS FALSE NEIGHBOUR: 'it returns false'. Refute it at one input. -/
def shapeBrunnWrong : ChangeSpec := { name := "shapeBrunn", fn := fun _ => fun
  | [d1, d2] => { results := [.lit (.bool false)], args := [d1, d2] }
  | _ => none }
def ShapeBrunnWrongFalsely : Prop := shapeBrunnRow.holds Try.pinned (OpenSpec.ofChange shapeBrunnWrong)

/-- 'cracknellaw04.ShapeSums': WHATEVER THE INPUT: true; the input reads as it did. -/
def shapeSumsSpec : ChangeSpec := { name := "shapeSums", fn := fun _ => fun
  | [d1, d2] => { results := [.lit (.bool true)], args := [d1, d2] }
  | _ => none }
def shapeSumsRow : OpenClaim := { program := "ytoffmpkgickfhaa", sum := "bfdb20646badd48ced53934582c20e14b60dadd5d4e0a29530e4487ae4625f84", func := "cracknel/cracknellaw04.ShapeSums", spec := "shapeSums", unfollowed := true, recurses := true, apart := false }
def ShapeSumsSaid : Prop := shapeSumsRow.holds Try.pinned (OpenSpec.ofChange shapeSumsSpec)

/-- ITS FALSE NEIGHBOUR: 'it returns false'. Refute it at one input. -/
def shapeSumsWrong : ChangeSpec := { name := "shapeSums", fn := fun _ => fun
  | [d1, d2] => { results := [.lit (.bool false)], args := [d1, d2] }
  | _ => none }
def ShapeSumsWrongFalsely : Prop := shapeSumsRow.holds Try.pinned (OpenSpec.ofChange shapeSumsWrong)

/-- 'cracknellaw04.ShapeMinkowski': WHATEVER THE INPUT: true; the input reads as it did. -/
def shapeMinkowskiSpec : ChangeSpec := { name := "shapeMinkowski", fn := fun _ => fun
  | [d1, d2, d3] => { results := [.lit (.bool true)], args := [d1, d2, d3] }
  | _ => none }
def shapeMinkowskiRow : OpenClaim := { program := "ytoffmpkgickfhaa", sum := "bfdb20646badd48ced53934582c20e14b60dadd5d4e0a29530e4487ae4625f84", func := "cracknel/cracknellaw04.ShapeMinkowski", spec := "shapeMinkowski", unfollowed := true, recurses := true, apart := false }
def ShapeMinkowskiSaid : Prop := shapeMinkowskiRow.holds Try.pinned (OpenSpec.ofChange shapeMinkowskiSpec)

/-- ITS FALSE NEIGHBOUR: 'it returns false'. Refute it at one input. -/
def shapeMinkowskiWrong : ChangeSpec := { name := "shapeMinkowski", fn := fun _ => fun
  | [d1, d2, d3] => { results := [.lit (.bool false)], args := [d1, d2, d3] }
  | _ => none }
def ShapeMinkowskiWrongFalsely : Prop := shapeMinkowskiRow.holds Try.pinned (OpenSpec.ofChange shapeMinkowskiWrong)

/-- 'cracknellaw04.ShapeShows': WHATEVER THE INPUT: true; the input reads as it did. -/
def shapeShowsSpec : ChangeSpec := { name := "shapeShows", fn := fun _ => fun
  | [d1, d2] => { results := [.lit (.bool true)], args := [d1, d2] }
  | _ => none }
def shapeShowsRow : OpenClaim := { program := "ytoffmpkgickfhaa", sum := "bfdb20646badd48ced53934582c20e14b60dadd5d4e0a29530e4487ae4625f84", func := "cracknel/cracknellaw04.ShapeShows", spec := "shapeShows", unfollowed := true, recurses := true, apart := false }
def ShapeShowsSaid : Prop := shapeShowsRow.holds Try.pinned (OpenSpec.ofChange shapeShowsSpec)

/-- ITS FALSE NEIGHBOUR: 'it returns false'. Refute it at one input. -/
def shapeShowsWrong : ChangeSpec := { name := "shapeShows", fn := fun _ => fun
  | [d1, d2] => { results := [.lit (.bool false)], args := [d1, d2] }
  | _ => none }
def ShapeShowsWrongFalsely : Prop := shapeShowsRow.holds Try.pinned (OpenSpec.ofChange shapeShowsWrong)

/-- 'cracknellaw04.ShapeNested': WHATEVER THE INPUT: true; the input reads as it did. -/
def shapeNestedSpec : ChangeSpec := { name := "shapeNested", fn := fun _ => fun
  | [d1, d2, d3] => { results := [.lit (.bool true)], args := [d1, d2, d3] }
  | _ => none }
def shapeNestedRow : OpenClaim := { program := "ytoffmpkgickfhaa", sum := "bfdb20646badd48ced53934582c20e14b60dadd5d4e0a29530e4487ae4625f84", func := "cracknel/cracknellaw04.ShapeNested", spec := "shapeNested", unfollowed := true, recurses := true, apart := false }
def ShapeNestedSaid : Prop := shapeNestedRow.holds Try.pinned (OpenSpec.ofChange shapeNestedSpec)

/-- ITS FALSE NEIGHBOUR: 'it returns false'. Refute it at one input. -/
def shapeNestedWrong : ChangeSpec := { name := "shapeNested", fn := fun _ => fun
  | [d1, d2, d3] => { results := [.lit (.bool false)], args := [d1, d2, d3] }
  | _ => none }
def ShapeNestedWrongFalsely : Prop := shapeNestedRow.holds Try.pinned (OpenSpec.ofChange shapeNestedWrong)

/-- 'cracknellaw04.ShapeNoFit': WHATEVER THE INPUT: true; the input reads as it did. -/
def shapeNoFitSpec : ChangeSpec := { name := "shapeNoFit", fn := fun _ => fun
  | [d1, d2, d3] => { results := [.lit (.bool true)], args := [d1, d2, d3] }
  | _ => none }
def shapeNoFitRow : OpenClaim := { program := "ytoffmpkgickfhaa", sum := "bfdb20646badd48ced53934582c20e14b60dadd5d4e0a29530e4487ae4625f84", func := "cracknel/cracknellaw04.ShapeNoFit", spec := "shapeNoFit", unfollowed := true, recurses := true, apart := false }
def ShapeNoFitSaid : Prop := shapeNoFitRow.holds Try.pinned (OpenSpec.ofChange shapeNoFitSpec)

/-- ITS FALSE NEIGHBOUR: 'it returns false'. Refute it at one input. -/
def shapeNoFitWrong : ChangeSpec := { name := "shapeNoFit", fn := fun _ => fun
  | [d1, d2, d3] => { results := [.lit (.bool false)], args := [d1, d2, d3] }
  | _ => none }
def ShapeNoFitWrongFalsely : Prop := shapeNoFitRow.holds Try.pinned (OpenSpec.ofChange shapeNoFitWrong)

/- THE SECOND FORM. 'bulk': how many values and letters a reading holds, each counted each time it is reached (what is shared counts as often as it is met; a slice's spare places count too). A statement '..UptoSaid' is the law's where the arguments, and the package variables that the reading takes, are together of bulk at most 1048576: NARROWER than '..Said'. Prove '..Said' where nothing that the law and all that it calls make is longer than what came in: it says more and counts as full. Else prove '..UptoSaid'. A law counts once. -/
mutual
def uptoBulk {H : Type} : DataW H → Nat
  | .lit (.string bytes) => bytes.length + 1
  | .lit _ => 1
  | .nil => 1
  | .ptr d => uptoBulk d + 1
  | .slice elems spare => uptoBulkAll elems + uptoBulkAll spare + 1
  | .agg parts => uptoBulkAll parts + 1
  | .iface _ d => uptoBulk d + 1
  | .map entries => uptoBulkEntries entries + 1
  | .held _ => 1
def uptoBulkAll {H : Type} : List (DataW H) → Nat
  | [] => 0
  | d :: r => uptoBulk d + uptoBulkAll r
def uptoBulkEntries {H : Type} : List (Lit × DataW H) → Nat
  | [] => 0
  | x :: r => uptoBulkEntry x + uptoBulkEntries r
def uptoBulkEntry {H : Type} : Lit × DataW H → Nat
  | (.string bytes, d) => bytes.length + uptoBulk d + 1
  | (_, d) => uptoBulk d + 1
 end
def uptoSmall : (H : Type) → List (DataW H) → Bool := fun _ ds => decide (uptoBulkAll ds ≤ 1048576)
def OpenSpec.upto (s : _root_.Go.ChangeSpec) : _root_.Go.OpenSpec := { _root_.Go.OpenSpec.ofChange s with cond := some uptoSmall }

/-- 'cracknellaw04.ShapeHulls', WHERE WHAT IT READS IS OF BULK AT MOST 1048576: true; the input reads as it did. -/
def shapeHullsUptoRow : OpenClaim := { program := "ytoffmpkgickfhaa", sum := "bfdb20646badd48ced53934582c20e14b60dadd5d4e0a29530e4487ae4625f84", func := "cracknel/cracknellaw04.ShapeHulls", spec := "shapeHulls", unfollowed := true, recurses := true, apart := false, narrowed := true }
def ShapeHullsUptoSaid : Prop := shapeHullsUptoRow.holds Try.pinned (OpenSpec.upto shapeHullsSpec)

/-- 'cracknellaw04.ShapePick', WHERE WHAT IT READS IS OF BULK AT MOST 1048576: true; the input reads as it did. -/
def shapePickUptoRow : OpenClaim := { program := "ytoffmpkgickfhaa", sum := "bfdb20646badd48ced53934582c20e14b60dadd5d4e0a29530e4487ae4625f84", func := "cracknel/cracknellaw04.ShapePick", spec := "shapePick", unfollowed := true, recurses := true, apart := false, narrowed := true }
def ShapePickUptoSaid : Prop := shapePickUptoRow.holds Try.pinned (OpenSpec.upto shapePickSpec)

/-- 'cracknellaw04.ShapeAreas', WHERE WHAT IT READS IS OF BULK AT MOST 1048576: true; the input reads as it did. -/
def shapeAreasUptoRow : OpenClaim := { program := "ytoffmpkgickfhaa", sum := "bfdb20646badd48ced53934582c20e14b60dadd5d4e0a29530e4487ae4625f84", func := "cracknel/cracknellaw04.ShapeAreas", spec := "shapeAreas", unfollowed := true, recurses := true, apart := false, narrowed := true }
def ShapeAreasUptoSaid : Prop := shapeAreasUptoRow.holds Try.pinned (OpenSpec.upto shapeAreasSpec)

/-- 'cracknellaw04.ShapeWheres', WHERE WHAT IT READS IS OF BULK AT MOST 1048576: true; the input reads as it did. -/
def shapeWheresUptoRow : OpenClaim := { program := "ytoffmpkgickfhaa", sum := "bfdb20646badd48ced53934582c20e14b60dadd5d4e0a29530e4487ae4625f84", func := "cracknel/cracknellaw04.ShapeWheres", spec := "shapeWheres", unfollowed := true, recurses := true, apart := false, narrowed := true }
def ShapeWheresUptoSaid : Prop := shapeWheresUptoRow.holds Try.pinned (OpenSpec.upto shapeWheresSpec)

/-- 'cracknellaw04.ShapeAparts', WHERE WHAT IT READS IS OF BULK AT MOST 1048576: true; the input reads as it did. -/
def shapeApartsUptoRow : OpenClaim := { program := "ytoffmpkgickfhaa", sum := "bfdb20646badd48ced53934582c20e14b60dadd5d4e0a29530e4487ae4625f84", func := "cracknel/cracknellaw04.ShapeAparts", spec := "shapeAparts", unfollowed := true, recurses := true, apart := false, narrowed := true }
def ShapeApartsUptoSaid : Prop := shapeApartsUptoRow.holds Try.pinned (OpenSpec.upto shapeApartsSpec)

/-- 'cracknellaw04.ShapeHulled', WHERE WHAT IT READS IS OF BULK AT MOST 1048576: true; the input reads as it did. -/
def shapeHulledUptoRow : OpenClaim := { program := "ytoffmpkgickfhaa", sum := "bfdb20646badd48ced53934582c20e14b60dadd5d4e0a29530e4487ae4625f84", func := "cracknel/cracknellaw04.ShapeHulled", spec := "shapeHulled", unfollowed := true, recurses := true, apart := false, narrowed := true }
def ShapeHulledUptoSaid : Prop := shapeHulledUptoRow.holds Try.pinned (OpenSpec.upto shapeHulledSpec)

/-- 'cracknellaw04.ShapeBrunn', WHERE WHAT IT READS IS OF BULK AT MOST 1048576: true; the input reads as it did. -/
def shapeBrunnUptoRow : OpenClaim := { program := "ytoffmpkgickfhaa", sum := "bfdb20646badd48ced53934582c20e14b60dadd5d4e0a29530e4487ae4625f84", func := "cracknel/cracknellaw04.ShapeBrunn", spec := "shapeBrunn", unfollowed := true, recurses := true, apart := false, narrowed := true }
def ShapeBrunnUptoSaid : Prop := shapeBrunnUptoRow.holds Try.pinned (OpenSpec.upto shapeBrunnSpec)

/-- 'cracknellaw04.ShapeSums', WHERE WHAT IT READS IS OF BULK AT MOST 1048576: true; the input reads as it did. -/
def shapeSumsUptoRow : OpenClaim := { program := "ytoffmpkgickfhaa", sum := "bfdb20646badd48ced53934582c20e14b60dadd5d4e0a29530e4487ae4625f84", func := "cracknel/cracknellaw04.ShapeSums", spec := "shapeSums", unfollowed := true, recurses := true, apart := false, narrowed := true }
def ShapeSumsUptoSaid : Prop := shapeSumsUptoRow.holds Try.pinned (OpenSpec.upto shapeSumsSpec)

/-- 'cracknellaw04.ShapeMinkowski', WHERE WHAT IT READS IS OF BULK AT MOST 1048576: true; the input reads as it did. -/
def shapeMinkowskiUptoRow : OpenClaim := { program := "ytoffmpkgickfhaa", sum := "bfdb20646badd48ced53934582c20e14b60dadd5d4e0a29530e4487ae4625f84", func := "cracknel/cracknellaw04.ShapeMinkowski", spec := "shapeMinkowski", unfollowed := true, recurses := true, apart := false, narrowed := true }
def ShapeMinkowskiUptoSaid : Prop := shapeMinkowskiUptoRow.holds Try.pinned (OpenSpec.upto shapeMinkowskiSpec)

/-- 'cracknellaw04.ShapeShows', WHERE WHAT IT READS IS OF BULK AT MOST 1048576: true; the input reads as it did. -/
def shapeShowsUptoRow : OpenClaim := { program := "ytoffmpkgickfhaa", sum := "bfdb20646badd48ced53934582c20e14b60dadd5d4e0a29530e4487ae4625f84", func := "cracknel/cracknellaw04.ShapeShows", spec := "shapeShows", unfollowed := true, recurses := true, apart := false, narrowed := true }
def ShapeShowsUptoSaid : Prop := shapeShowsUptoRow.holds Try.pinned (OpenSpec.upto shapeShowsSpec)

/-- 'cracknellaw04.ShapeNested', WHERE WHAT IT READS IS OF BULK AT MOST 1048576: true; the input reads as it did. -/
def shapeNestedUptoRow : OpenClaim := { program := "ytoffmpkgickfhaa", sum := "bfdb20646badd48ced53934582c20e14b60dadd5d4e0a29530e4487ae4625f84", func := "cracknel/cracknellaw04.ShapeNested", spec := "shapeNested", unfollowed := true, recurses := true, apart := false, narrowed := true }
def ShapeNestedUptoSaid : Prop := shapeNestedUptoRow.holds Try.pinned (OpenSpec.upto shapeNestedSpec)

/-- 'cracknellaw04.ShapeNoFit', WHERE WHAT IT READS IS OF BULK AT MOST 1048576: true; the input reads as it did. -/
def shapeNoFitUptoRow : OpenClaim := { program := "ytoffmpkgickfhaa", sum := "bfdb20646badd48ced53934582c20e14b60dadd5d4e0a29530e4487ae4625f84", func := "cracknel/cracknellaw04.ShapeNoFit", spec := "shapeNoFit", unfollowed := true, recurses := true, apart := false, narrowed := true }
def ShapeNoFitUptoSaid : Prop := shapeNoFitUptoRow.holds Try.pinned (OpenSpec.upto shapeNoFitSpec)

end Rows
end Go.Proofs.Ytoffmpkgickfhaa
