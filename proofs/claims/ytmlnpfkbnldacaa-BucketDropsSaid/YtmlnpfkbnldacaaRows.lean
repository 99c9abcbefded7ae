/-
  No cell of these rows narrows 'for every input' (looked for: loops, veiled, ifaces, maps, wideKeys, modest, calm, conditions, laid).
  DERIVED. THE GIVEN ROWS OF THIS SEAT. 12 by the template 'for every input the law returns true; each argument reads behind the call as it read before'; 0 by the template 'total and deterministic' (their statements: YtmlnpfkbnldacaaTotals.lean).
  GIVEN WITH THE SEED: the statements are not yours to turn. If you find one false, say at which input.
  Laid BY PROGRAM, IN A SANDBOX (cutbox-rows.mjs): the forced cells as the released guide's own fill.sh prints them over the translation ee93279cbfc06d11… (all of the seat's roots in one cut). By AI agents, Wed Nov 11 2026. No macro, syntax, notation, axiom, sorry.
-/
import Derived.Test.YtmlnpfkbnldacaaChecked
import GoSem.Claim
import GoSem.ClaimJoined
import GoSem.ClaimMapViews
import Derived.JoinedTies
import Derived.KernelRfl
namespace Go.Proofs.Ytmlnpfkbnldacaa
/- THE CELL 'sum', in the pinned program and in every row, IS THE sha256 OF THE DUMP (.gsa) THAT YtmlnpfkbnldacaaProg.lean LOADS. Nothing in Lean hashes anything: it is a label: what it is worth is what the hold of that sum in a sandbox is worth. -/
noncomputable def Try.pinned : Pinned := { name := "ytmlnpfkbnldacaa", sum := "ee93279cbfc06d1196fdbf76c9d46c456c90b59dfb097f737ddabf8eb4a187cd", checked := Try.checked }
namespace Rows
def none {H : Type} : Left H := { results := [], args := [] }

/-- 'overspilllaw41.BucketGoes': WHATEVER THE INPUT: true; the input reads as it did. -/
def bucketGoesSpec : ChangeSpec := { name := "bucketGoes", fn := fun _ => fun
  | [d1, d2, d3] => { results := [.lit (.bool true)], args := [d1, d2, d3] }
  | _ => none }
def bucketGoesRow : OpenClaim := { program := "ytmlnpfkbnldacaa", sum := "ee93279cbfc06d1196fdbf76c9d46c456c90b59dfb097f737ddabf8eb4a187cd", func := "overspill/overspilllaw41.BucketGoes", spec := "bucketGoes", apart := false }
def BucketGoesSaid : Prop := bucketGoesRow.holds Try.pinned (OpenSpec.ofChange bucketGoesSpec)

/-- ITS FALSE NEIGHBOUR: 'it returns false'. Refute it at one input. -/
def bucketGoesWrong : ChangeSpec := { name := "bucketGoes", fn := fun _ => fun
  | [d1, d2, d3] => { results := [.lit (.bool false)], args := [d1, d2, d3] }
  | _ => none }
def BucketGoesWrongFalsely : Prop := bucketGoesRow.holds Try.pinned (OpenSpec.ofChange bucketGoesWrong)

/-- 'overspilllaw12.ScaleValues': WHATEVER THE INPUT: true; the input reads as it did. -/
def scaleValuesSpec : ChangeSpec := { name := "scaleValues", fn := fun _ => fun
  | [d1, d2] => { results := [.lit (.bool true)], args := [d1, d2] }
  | _ => none }
def scaleValuesRow : OpenClaim := { program := "ytmlnpfkbnldacaa", sum := "ee93279cbfc06d1196fdbf76c9d46c456c90b59dfb097f737ddabf8eb4a187cd", func := "overspill/overspilllaw12.ScaleValues", spec := "scaleValues", apart := false }
def ScaleValuesSaid : Prop := scaleValuesRow.holds Try.pinned (OpenSpec.ofChange scaleValuesSpec)

/-- ITS FALSE NEIGHBOUR: 'it returns false'. Refute it at one input. -/
def scaleValuesWrong : ChangeSpec := { name := "scaleValues", fn := fun _ => fun
  | [d1, d2] => { results := [.lit (.bool false)], args := [d1, d2] }
  | _ => none }
def ScaleValuesWrongFalsely : Prop := scaleValuesRow.holds Try.pinned (OpenSpec.ofChange scaleValuesWrong)

/-- 'overspilllaw12.ScaleRises': WHATEVER THE INPUT: true; the input reads as it did. -/
def scaleRisesSpec : ChangeSpec := { name := "scaleRises", fn := fun _ => fun
  | [d1, d2, d3] => { results := [.lit (.bool true)], args := [d1, d2, d3] }
  | _ => none }
def scaleRisesRow : OpenClaim := { program := "ytmlnpfkbnldacaa", sum := "ee93279cbfc06d1196fdbf76c9d46c456c90b59dfb097f737ddabf8eb4a187cd", func := "overspill/overspilllaw12.ScaleRises", spec := "scaleRises", apart := false }
def ScaleRisesSaid : Prop := scaleRisesRow.holds Try.pinned (OpenSpec.ofChange scaleRisesSpec)

/-- ITS FALSE NEIGHBOUR: 'it returns false'. Refute it at one input. -/
def scaleRisesWrong : ChangeSpec := { name := "scaleRises", fn := fun _ => fun
  | [d1, d2, d3] => { results := [.lit (.bool false)], args := [d1, d2, d3] }
  | _ => none }
def ScaleRisesWrongFalsely : Prop := scaleRisesRow.holds Try.pinned (OpenSpec.ofChange scaleRisesWrong)

/-- 'overspilllaw13.CoarseLevels': WHATEVER THE INPUT: true; the input reads as it did. -/
def coarseLevelsSpec : ChangeSpec := { name := "coarseLevels", fn := fun _ => fun
  | [d1, d2] => { results := [.lit (.bool true)], args := [d1, d2] }
  | _ => none }
def coarseLevelsRow : OpenClaim := { program := "ytmlnpfkbnldacaa", sum := "ee93279cbfc06d1196fdbf76c9d46c456c90b59dfb097f737ddabf8eb4a187cd", func := "overspill/overspilllaw13.CoarseLevels", spec := "coarseLevels", apart := false }
def CoarseLevelsSaid : Prop := coarseLevelsRow.holds Try.pinned (OpenSpec.ofChange coarseLevelsSpec)

/-- ITS FALSE NEIGHBOUR: 'it returns false'. Refute it at one input. -/
def coarseLevelsWrong : ChangeSpec := { name := "coarseLevels", fn := fun _ => fun
  | [d1, d2] => { results := [.lit (.bool false)], args := [d1, d2] }
  | _ => none }
def CoarseLevelsWrongFalsely : Prop := coarseLevelsRow.holds Try.pinned (OpenSpec.ofChange coarseLevelsWrong)

/-- 'overspilllaw16.FormatsSizes': WHATEVER THE INPUT: true; the input reads as it did. -/
def formatsSizesSpec : ChangeSpec := { name := "formatsSizes", fn := fun _ => fun
  | [d1, d2] => { results := [.lit (.bool true)], args := [d1, d2] }
  | _ => none }
def formatsSizesRow : OpenClaim := { program := "ytmlnpfkbnldacaa", sum := "ee93279cbfc06d1196fdbf76c9d46c456c90b59dfb097f737ddabf8eb4a187cd", func := "overspill/overspilllaw16.FormatsSizes", spec := "formatsSizes", apart := false }
def FormatsSizesSaid : Prop := formatsSizesRow.holds Try.pinned (OpenSpec.ofChange formatsSizesSpec)

/-- ITS FALSE NEIGHBOUR: 'it returns false'. Refute it at one input. -/
def formatsSizesWrong : ChangeSpec := { name := "formatsSizes", fn := fun _ => fun
  | [d1, d2] => { results := [.lit (.bool false)], args := [d1, d2] }
  | _ => none }
def FormatsSizesWrongFalsely : Prop := formatsSizesRow.holds Try.pinned (OpenSpec.ofChange formatsSizesWrong)

/-- 'overspilllaw12.ScaleBlocks': WHATEVER THE INPUT: true; the input reads as it did. -/
def scaleBlocksSpec : ChangeSpec := { name := "scaleBlocks", fn := fun _ => fun
  | [d1, d2, d3] => { results := [.lit (.bool true)], args := [d1, d2, d3] }
  | _ => none }
def scaleBlocksRow : OpenClaim := { program := "ytmlnpfkbnldacaa", sum := "ee93279cbfc06d1196fdbf76c9d46c456c90b59dfb097f737ddabf8eb4a187cd", func := "overspill/overspilllaw12.ScaleBlocks", spec := "scaleBlocks", apart := false }
def ScaleBlocksSaid : Prop := scaleBlocksRow.holds Try.pinned (OpenSpec.ofChange scaleBlocksSpec)

/-- ITS FALSE NEIGHBOUR: 'it returns false'. Refute it at one input. -/
def scaleBlocksWrong : ChangeSpec := { name := "scaleBlocks", fn := fun _ => fun
  | [d1, d2, d3] => { results := [.lit (.bool false)], args := [d1, d2, d3] }
  | _ => none }
def ScaleBlocksWrongFalsely : Prop := scaleBlocksRow.holds Try.pinned (OpenSpec.ofChange scaleBlocksWrong)

/-- 'overspilllaw16.FormatsRows': WHATEVER THE INPUT: true; the input reads as it did. -/
def formatsRowsSpec : ChangeSpec := { name := "formatsRows", fn := fun _ => fun
  | [d] => { results := [.lit (.bool true)], args := [d] }
  | _ => none }
def formatsRowsRow : OpenClaim := { program := "ytmlnpfkbnldacaa", sum := "ee93279cbfc06d1196fdbf76c9d46c456c90b59dfb097f737ddabf8eb4a187cd", func := "overspill/overspilllaw16.FormatsRows", spec := "formatsRows", apart := false }
def FormatsRowsSaid : Prop := formatsRowsRow.holds Try.pinned (OpenSpec.ofChange formatsRowsSpec)

/-- ITS FALSE NEIGHBOUR: 'it returns false'. Refute it at one input. -/
def formatsRowsWrong : ChangeSpec := { name := "formatsRows", fn := fun _ => fun
  | [d] => { results := [.lit (.bool false)], args := [d] }
  | _ => none }
def FormatsRowsWrongFalsely : Prop := formatsRowsRow.holds Try.pinned (OpenSpec.ofChange formatsRowsWrong)

/-- 'overspilllaw13.CoarseBlocks': WHATEVER THE INPUT: true; the input reads as it did. -/
def coarseBlocksSpec : ChangeSpec := { name := "coarseBlocks", fn := fun _ => fun
  | [d1, d2, d3] => { results := [.lit (.bool true)], args := [d1, d2, d3] }
  | _ => none }
def coarseBlocksRow : OpenClaim := { program := "ytmlnpfkbnldacaa", sum := "ee93279cbfc06d1196fdbf76c9d46c456c90b59dfb097f737ddabf8eb4a187cd", func := "overspill/overspilllaw13.CoarseBlocks", spec := "coarseBlocks", unfollowed := true, recurses := true, apart := false }
def CoarseBlocksSaid : Prop := coarseBlocksRow.holds Try.pinned (OpenSpec.ofChange coarseBlocksSpec)

/-- ITS FALSE NEIGHBOUR: 'it returns false'. Refute it at one input. -/
def coarseBlocksWrong : ChangeSpec := { name := "coarseBlocks", fn := fun _ => fun
  | [d1, d2, d3] => { results := [.lit (.bool false)], args := [d1, d2, d3] }
  | _ => none }
def CoarseBlocksWrongFalsely : Prop := coarseBlocksRow.holds Try.pinned (OpenSpec.ofChange coarseBlocksWrong)

/-- 'overspilllaw13.CoarseBack': WHATEVER THE INPUT: true; the input reads as it did. -/
def coarseBackSpec : ChangeSpec := { name := "coarseBack", fn := fun _ => fun
  | [d1, d2, d3] => { results := [.lit (.bool true)], args := [d1, d2, d3] }
  | _ => none }
def coarseBackRow : OpenClaim := { program := "ytmlnpfkbnldacaa", sum := "ee93279cbfc06d1196fdbf76c9d46c456c90b59dfb097f737ddabf8eb4a187cd", func := "overspill/overspilllaw13.CoarseBack", spec := "coarseBack", apart := false }
def CoarseBackSaid : Prop := coarseBackRow.holds Try.pinned (OpenSpec.ofChange coarseBackSpec)

/-- ITS FALSE NEIGHBOUR: 'it returns false'. Refute it at one input. -/
def coarseBackWrong : ChangeSpec := { name := "coarseBack", fn := fun _ => fun
  | [d1, d2, d3] => { results := [.lit (.bool false)], args := [d1, d2, d3] }
  | _ => none }
def CoarseBackWrongFalsely : Prop := coarseBackRow.holds Try.pinned (OpenSpec.ofChange coarseBackWrong)

/-- 'overspilllaw18.MotionMay': WHATEVER THE INPUT: true; the input reads as it did. -/
def motionMaySpec : ChangeSpec := { name := "motionMay", fn := fun _ => fun
  | [d1, d2, d3] => { results := [.lit (.bool true)], args := [d1, d2, d3] }
  | _ => none }
def motionMayRow : OpenClaim := { program := "ytmlnpfkbnldacaa", sum := "ee93279cbfc06d1196fdbf76c9d46c456c90b59dfb097f737ddabf8eb4a187cd", func := "overspill/overspilllaw18.MotionMay", spec := "motionMay", recurses := true, apart := false }
def MotionMaySaid : Prop := motionMayRow.holds Try.pinned (OpenSpec.ofChange motionMaySpec)

/-- ITS FALSE NEIGHBOUR: 'it returns false'. Refute it at one input. -/
def motionMayWrong : ChangeSpec := { name := "motionMay", fn := fun _ => fun
  | [d1, d2, d3] => { results := [.lit (.bool false)], args := [d1, d2, d3] }
  | _ => none }
def MotionMayWrongFalsely : Prop := motionMayRow.holds Try.pinned (OpenSpec.ofChange motionMayWrong)

/-- 'overspilllaw41.BucketChecks': WHATEVER THE INPUT: true; the input reads as it did. -/
def bucketChecksSpec : ChangeSpec := { name := "bucketChecks", fn := fun _ => fun
  | [d1, d2] => { results := [.lit (.bool true)], args := [d1, d2] }
  | _ => none }
def bucketChecksRow : OpenClaim := { program := "ytmlnpfkbnldacaa", sum := "ee93279cbfc06d1196fdbf76c9d46c456c90b59dfb097f737ddabf8eb4a187cd", func := "overspill/overspilllaw41.BucketChecks", spec := "bucketChecks", apart := false }
def BucketChecksSaid : Prop := bucketChecksRow.holds Try.pinned (OpenSpec.ofChange bucketChecksSpec)

/-- ITS FALSE NEIGHBOUR: 'it returns false'. Refute it at one input. -/
def bucketChecksWrong : ChangeSpec := { name := "bucketChecks", fn := fun _ => fun
  | [d1, d2] => { results := [.lit (.bool false)], args := [d1, d2] }
  | _ => none }
def BucketChecksWrongFalsely : Prop := bucketChecksRow.holds Try.pinned (OpenSpec.ofChange bucketChecksWrong)

/-- 'overspilllaw41.BucketDrops': WHATEVER THE INPUT: true; the input reads as it did. -/
def bucketDropsSpec : ChangeSpec := { name := "bucketDrops", fn := fun _ => fun
  | [d1, d2] => { results := [.lit (.bool true)], args := [d1, d2] }
  | _ => none }
def bucketDropsRow : OpenClaim := { program := "ytmlnpfkbnldacaa", sum := "ee93279cbfc06d1196fdbf76c9d46c456c90b59dfb097f737ddabf8eb4a187cd", func := "overspill/overspilllaw41.BucketDrops", spec := "bucketDrops", apart := false }
def BucketDropsSaid : Prop := bucketDropsRow.holds Try.pinned (OpenSpec.ofChange bucketDropsSpec)

/-- ITS FALSE NEIGHBOUR: 'it returns false'. Refute it at one input. -/
def bucketDropsWrong : ChangeSpec := { name := "bucketDrops", fn := fun _ => fun
  | [d1, d2] => { results := [.lit (.bool false)], args := [d1, d2] }
  | _ => none }
def BucketDropsWrongFalsely : Prop := bucketDropsRow.holds Try.pinned (OpenSpec.ofChange bucketDropsWrong)

/- THE SECOND FORM. 'bulk': how many values and letters a reading holds, each counted each time it is reached (what is shared counts as often as it is met; a slice's spare places count too). A statement '..UptoSaid' is the law's where the arguments, and the package variables that the reading takes, are together of bulk at most 1048576: NARROWER than '..Said'. Prove '..Said' where nothing that the law and all that it calls make is longer than what came in: it says more and counts as full. Else prove '..UptoSaid'. A law counts once. -/
mutual
def uptoBulk {H : Type} : DataW H → Nat
  | .lit (.string bytes) => bytes.length + 1
  | .lit _ => 1
  | .nil => 1
  | .ptr d => uptoBulk d + 1
  | .slice elems spare => uptoBulkAll elems + uptoBulkAll spare + 1
  | .agg parts => uptoBulkAll parts + 1
  | .iface _ d => uptoBulk d + 1
  | .map entries => uptoBulkEntries entries + 1
  | .held _ => 1
def uptoBulkAll {H : Type} : List (DataW H) → Nat
  | [] => 0
  | d :: r => uptoBulk d + uptoBulkAll r
def uptoBulkEntries {H : Type} : List (Lit × DataW H) → Nat
  | [] => 0
  | x :: r => uptoBulkEntry x + uptoBulkEntries r
def uptoBulkEntry {H : Type} : Lit × DataW H → Nat
  | (.string bytes, d) => bytes.length + uptoBulk d + 1
  | (_, d) => uptoBulk d + 1
 end
def uptoSmall : (H : Type) → List (DataW H) → Bool := fun _ ds => decide (uptoBulkAll ds ≤ 1048576)
def OpenSpec.upto (s : _root_.Go.ChangeSpec) : _root_.Go.OpenSpec := { _root_.Go.OpenSpec.ofChange s with cond := some uptoSmall }

/-- 'overspilllaw41.BucketGoes', WHERE WHAT IT READS IS OF BULK AT MOST 1048576: true; the input reads as it did. -/
def bucketGoesUptoRow : OpenClaim := { program := "ytmlnpfkbnldacaa", sum := "ee93279cbfc06d1196fdbf76c9d46c456c90b59dfb097f737ddabf8eb4a187cd", func := "overspill/overspilllaw41.BucketGoes", spec := "bucketGoes", apart := false, narrowed := true }
def BucketGoesUptoSaid : Prop := bucketGoesUptoRow.holds Try.pinned (OpenSpec.upto bucketGoesSpec)

/-- 'overspilllaw12.ScaleValues', WHERE WHAT IT READS IS OF BULK AT MOST 1048576: true; the input reads as it did. -/
def scaleValuesUptoRow : OpenClaim := { program := "ytmlnpfkbnldacaa", sum := "ee93279cbfc06d1196fdbf76c9d46c456c90b59dfb097f737ddabf8eb4a187cd", func := "overspill/overspilllaw12.ScaleValues", spec := "scaleValues", apart := false, narrowed := true }
def ScaleValuesUptoSaid : Prop := scaleValuesUptoRow.holds Try.pinned (OpenSpec.upto scaleValuesSpec)

/-- 'overspilllaw12.ScaleRises', WHERE WHAT IT READS IS OF BULK AT MOST 1048576: true; the input reads as it did. -/
def scaleRisesUptoRow : OpenClaim := { program := "ytmlnpfkbnldacaa", sum := "ee93279cbfc06d1196fdbf76c9d46c456c90b59dfb097f737ddabf8eb4a187cd", func := "overspill/overspilllaw12.ScaleRises", spec := "scaleRises", apart := false, narrowed := true }
def ScaleRisesUptoSaid : Prop := scaleRisesUptoRow.holds Try.pinned (OpenSpec.upto scaleRisesSpec)

/-- 'overspilllaw13.CoarseLevels', WHERE WHAT IT READS IS OF BULK AT MOST 1048576: true; the input reads as it did. -/
def coarseLevelsUptoRow : OpenClaim := { program := "ytmlnpfkbnldacaa", sum := "ee93279cbfc06d1196fdbf76c9d46c456c90b59dfb097f737ddabf8eb4a187cd", func := "overspill/overspilllaw13.CoarseLevels", spec := "coarseLevels", apart := false, narrowed := true }
def CoarseLevelsUptoSaid : Prop := coarseLevelsUptoRow.holds Try.pinned (OpenSpec.upto coarseLevelsSpec)

/-- 'overspilllaw16.FormatsSizes', WHERE WHAT IT READS IS OF BULK AT MOST 1048576: true; the input reads as it did. -/
def formatsSizesUptoRow : OpenClaim := { program := "ytmlnpfkbnldacaa", sum := "ee93279cbfc06d1196fdbf76c9d46c456c90b59dfb097f737ddabf8eb4a187cd", func := "overspill/overspilllaw16.FormatsSizes", spec := "formatsSizes", apart := false, narrowed := true }
def FormatsSizesUptoSaid : Prop := formatsSizesUptoRow.holds Try.pinned (OpenSpec.upto formatsSizesSpec)

/-- 'overspilllaw12.ScaleBlocks', WHERE WHAT IT READS IS OF BULK AT MOST 1048576: true; the input reads as it did. -/
def scaleBlocksUptoRow : OpenClaim := { program := "ytmlnpfkbnldacaa", sum := "ee93279cbfc06d1196fdbf76c9d46c456c90b59dfb097f737ddabf8eb4a187cd", func := "overspill/overspilllaw12.ScaleBlocks", spec := "scaleBlocks", apart := false, narrowed := true }
def ScaleBlocksUptoSaid : Prop := scaleBlocksUptoRow.holds Try.pinned (OpenSpec.upto scaleBlocksSpec)

/-- 'overspilllaw16.FormatsRows', WHERE WHAT IT READS IS OF BULK AT MOST 1048576: true; the input reads as it did. -/
def formatsRowsUptoRow : OpenClaim := { program := "ytmlnpfkbnldacaa", sum := "ee93279cbfc06d1196fdbf76c9d46c456c90b59dfb097f737ddabf8eb4a187cd", func := "overspill/overspilllaw16.FormatsRows", spec := "formatsRows", apart := false, narrowed := true }
def FormatsRowsUptoSaid : Prop := formatsRowsUptoRow.holds Try.pinned (OpenSpec.upto formatsRowsSpec)

/-- 'overspilllaw13.CoarseBlocks', WHERE WHAT IT READS IS OF BULK AT MOST 1048576: true; the input reads as it did. -/
def coarseBlocksUptoRow : OpenClaim := { program := "ytmlnpfkbnldacaa", sum := "ee93279cbfc06d1196fdbf76c9d46c456c90b59dfb097f737ddabf8eb4a187cd", func := "overspill/overspilllaw13.CoarseBlocks", spec := "coarseBlocks", unfollowed := true, recurses := true, apart := false, narrowed := true }
def CoarseBlocksUptoSaid : Prop := coarseBlocksUptoRow.holds Try.pinned (OpenSpec.upto coarseBlocksSpec)

/-- 'overspilllaw13.CoarseBack', WHERE WHAT IT READS IS OF BULK AT MOST 1048576: true; the input reads as it did. -/
def coarseBackUptoRow : OpenClaim := { program := "ytmlnpfkbnldacaa", sum := "ee93279cbfc06d1196fdbf76c9d46c456c90b59dfb097f737ddabf8eb4a187cd", func := "overspill/overspilllaw13.CoarseBack", spec := "coarseBack", apart := false, narrowed := true }
def CoarseBackUptoSaid : Prop := coarseBackUptoRow.holds Try.pinned (OpenSpec.upto coarseBackSpec)

/-- 'overspilllaw18.MotionMay', WHERE WHAT IT READS IS OF BULK AT MOST 1048576: true; the input reads as it did. -/
def motionMayUptoRow : OpenClaim := { program := "ytmlnpfkbnldacaa", sum := "ee93279cbfc06d1196fdbf76c9d46c456c90b59dfb097f737ddabf8eb4a187cd", func := "overspill/overspilllaw18.MotionMay", spec := "motionMay", recurses := true, apart := false, narrowed := true }
def MotionMayUptoSaid : Prop := motionMayUptoRow.holds Try.pinned (OpenSpec.upto motionMaySpec)

/-- 'overspilllaw41.BucketChecks', WHERE WHAT IT READS IS OF BULK AT MOST 1048576: true; the input reads as it did. -/
def bucketChecksUptoRow : OpenClaim := { program := "ytmlnpfkbnldacaa", sum := "ee93279cbfc06d1196fdbf76c9d46c456c90b59dfb097f737ddabf8eb4a187cd", func := "overspill/overspilllaw41.BucketChecks", spec := "bucketChecks", apart := false, narrowed := true }
def BucketChecksUptoSaid : Prop := bucketChecksUptoRow.holds Try.pinned (OpenSpec.upto bucketChecksSpec)

/-- 'overspilllaw41.BucketDrops', WHERE WHAT IT READS IS OF BULK AT MOST 1048576: true; the input reads as it did. -/
def bucketDropsUptoRow : OpenClaim := { program := "ytmlnpfkbnldacaa", sum := "ee93279cbfc06d1196fdbf76c9d46c456c90b59dfb097f737ddabf8eb4a187cd", func := "overspill/overspilllaw41.BucketDrops", spec := "bucketDrops", apart := false, narrowed := true }
def BucketDropsUptoSaid : Prop := bucketDropsUptoRow.holds Try.pinned (OpenSpec.upto bucketDropsSpec)

end Rows
end Go.Proofs.Ytmlnpfkbnldacaa
