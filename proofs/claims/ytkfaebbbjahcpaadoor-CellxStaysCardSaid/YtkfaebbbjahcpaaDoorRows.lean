/-
  NARROWER THAN 'FOR EVERY INPUT', by the rows' own cells (each row's printed sentence says how): FeedBlocks: laid · FeedLess: laid · PatternCells: laid · PatternMay: laid · ResidueOf: laid · ResidueLevels: laid · FeedCells: laid · RebuildCells: laid · RebuildSkips: laid · CellxStays: laid.
  DERIVED. THE GIVEN ROWS OF THIS SEAT. 10 by the template 'for every input the law returns true; each argument reads behind the call as it read before'; 0 by the template 'total and deterministic' (their statements: YtkfaebbbjahcpaaDoorTotals.lean).
  GIVEN WITH THE SEED: the statements are not yours to turn. If you find one false, say at which input.
  Laid BY PROGRAM, IN A SANDBOX (cutbox-rows.mjs): the forced cells as the released guide's own fill.sh prints them over the translation 14f751cdf0a5df81… (all of the seat's roots in one cut). By AI agents, Wed Nov 11 2026. No macro, syntax, notation, axiom, sorry.
-/
import Derived.Test.YtkfaebbbjahcpaaDoorChecked
import GoSem.Claim
import GoSem.ClaimJoined
import GoSem.ClaimMapViews
import Derived.JoinedTies
import Derived.KernelRfl
namespace Go.Proofs.YtkfaebbbjahcpaaDoor
/- THE CELL 'sum', in the pinned program and in every row, IS THE sha256 OF THE DUMP (.gsa) THAT YtkfaebbbjahcpaaDoorProg.lean LOADS. Nothing in Lean hashes anything: it is a label: what it is worth is what the hold of that sum in a sandbox is worth. -/
noncomputable def Tryd.pinned : Pinned := { name := "ytkfaebbbjahcpaadoor", sum := "14f751cdf0a5df812ee355f980e868e15bbfed252b73893914312a805886d56a", checked := Tryd.checked }
namespace Rows
def none {H : Type} : Left H := { results := [], args := [] }

/- WHAT THE LISTED PACKAGE-LEVEL VARIABLES READ AS WHEN THE CALL BEGINS. Each datum BY PROGRAM (the guide's laid-datum.mjs) off the statement by which the dump's own 'gosem.cut.vars' lays the variable. In a bare row this is a premise. The card (YtkfaebbbjahcpaaDoorCards.lean) ties it to the program's text. -/
def laid_overspill_dct_weights {H : Type} : DataW H := .agg [.agg [.lit (.int .i64 64), .lit (.int .i64 64), .lit (.int .i64 64), .lit (.int .i64 64), .lit (.int .i64 64), .lit (.int .i64 64), .lit (.int .i64 64), .lit (.int .i64 64)], .agg [.lit (.int .i64 89), .lit (.int .i64 75), .lit (.int .i64 50), .lit (.int .i64 18), .lit (.int .i64 (-18)), .lit (.int .i64 (-50)), .lit (.int .i64 (-75)), .lit (.int .i64 (-89))], .agg [.lit (.int .i64 83), .lit (.int .i64 36), .lit (.int .i64 (-36)), .lit (.int .i64 (-83)), .lit (.int .i64 (-83)), .lit (.int .i64 (-36)), .lit (.int .i64 36), .lit (.int .i64 83)], .agg [.lit (.int .i64 75), .lit (.int .i64 (-18)), .lit (.int .i64 (-89)), .lit (.int .i64 (-50)), .lit (.int .i64 50), .lit (.int .i64 89), .lit (.int .i64 18), .lit (.int .i64 (-75))], .agg [.lit (.int .i64 64), .lit (.int .i64 (-64)), .lit (.int .i64 (-64)), .lit (.int .i64 64), .lit (.int .i64 64), .lit (.int .i64 (-64)), .lit (.int .i64 (-64)), .lit (.int .i64 64)], .agg [.lit (.int .i64 50), .lit (.int .i64 (-89)), .lit (.int .i64 18), .lit (.int .i64 75), .lit (.int .i64 (-75)), .lit (.int .i64 (-18)), .lit (.int .i64 89), .lit (.int .i64 (-50))], .agg [.lit (.int .i64 36), .lit (.int .i64 (-83)), .lit (.int .i64 83), .lit (.int .i64 (-36)), .lit (.int .i64 (-36)), .lit (.int .i64 83), .lit (.int .i64 (-83)), .lit (.int .i64 36)], .agg [.lit (.int .i64 18), .lit (.int .i64 (-50)), .lit (.int .i64 75), .lit (.int .i64 (-89)), .lit (.int .i64 89), .lit (.int .i64 (-75)), .lit (.int .i64 50), .lit (.int .i64 (-18))]]
def laid_overspill_scan_places {H : Type} : DataW H := .agg [.lit (.int .i64 0), .lit (.int .i64 1), .lit (.int .i64 8), .lit (.int .i64 16), .lit (.int .i64 9), .lit (.int .i64 2), .lit (.int .i64 3), .lit (.int .i64 10), .lit (.int .i64 17), .lit (.int .i64 24), .lit (.int .i64 32), .lit (.int .i64 25), .lit (.int .i64 18), .lit (.int .i64 11), .lit (.int .i64 4), .lit (.int .i64 5), .lit (.int .i64 12), .lit (.int .i64 19), .lit (.int .i64 26), .lit (.int .i64 33), .lit (.int .i64 40), .lit (.int .i64 48), .lit (.int .i64 41), .lit (.int .i64 34), .lit (.int .i64 27), .lit (.int .i64 20), .lit (.int .i64 13), .lit (.int .i64 6), .lit (.int .i64 7), .lit (.int .i64 14), .lit (.int .i64 21), .lit (.int .i64 28), .lit (.int .i64 35), .lit (.int .i64 42), .lit (.int .i64 49), .lit (.int .i64 56), .lit (.int .i64 57), .lit (.int .i64 50), .lit (.int .i64 43), .lit (.int .i64 36), .lit (.int .i64 29), .lit (.int .i64 22), .lit (.int .i64 15), .lit (.int .i64 23), .lit (.int .i64 30), .lit (.int .i64 37), .lit (.int .i64 44), .lit (.int .i64 51), .lit (.int .i64 58), .lit (.int .i64 59), .lit (.int .i64 52), .lit (.int .i64 45), .lit (.int .i64 38), .lit (.int .i64 31), .lit (.int .i64 39), .lit (.int .i64 46), .lit (.int .i64 53), .lit (.int .i64 60), .lit (.int .i64 61), .lit (.int .i64 54), .lit (.int .i64 47), .lit (.int .i64 55), .lit (.int .i64 62), .lit (.int .i64 63)]
def laid_overspill_tcoef_codes {H : Type} : DataW H := .agg [.lit (.int .i64 2), .lit (.int .i64 15), .lit (.int .i64 21), .lit (.int .i64 23), .lit (.int .i64 31), .lit (.int .i64 37), .lit (.int .i64 36), .lit (.int .i64 33), .lit (.int .i64 32), .lit (.int .i64 7), .lit (.int .i64 6), .lit (.int .i64 32), .lit (.int .i64 6), .lit (.int .i64 20), .lit (.int .i64 30), .lit (.int .i64 15), .lit (.int .i64 33), .lit (.int .i64 80), .lit (.int .i64 14), .lit (.int .i64 29), .lit (.int .i64 14), .lit (.int .i64 81), .lit (.int .i64 13), .lit (.int .i64 35), .lit (.int .i64 13), .lit (.int .i64 12), .lit (.int .i64 34), .lit (.int .i64 82), .lit (.int .i64 11), .lit (.int .i64 12), .lit (.int .i64 83), .lit (.int .i64 19), .lit (.int .i64 11), .lit (.int .i64 84), .lit (.int .i64 18), .lit (.int .i64 10), .lit (.int .i64 17), .lit (.int .i64 9), .lit (.int .i64 16), .lit (.int .i64 8), .lit (.int .i64 22), .lit (.int .i64 85), .lit (.int .i64 21), .lit (.int .i64 20), .lit (.int .i64 28), .lit (.int .i64 27), .lit (.int .i64 33), .lit (.int .i64 32), .lit (.int .i64 31), .lit (.int .i64 30), .lit (.int .i64 29), .lit (.int .i64 28), .lit (.int .i64 27), .lit (.int .i64 26), .lit (.int .i64 34), .lit (.int .i64 35), .lit (.int .i64 86), .lit (.int .i64 87), .lit (.int .i64 7), .lit (.int .i64 25), .lit (.int .i64 5), .lit (.int .i64 15), .lit (.int .i64 4), .lit (.int .i64 14), .lit (.int .i64 13), .lit (.int .i64 12), .lit (.int .i64 19), .lit (.int .i64 18), .lit (.int .i64 17), .lit (.int .i64 16), .lit (.int .i64 26), .lit (.int .i64 25), .lit (.int .i64 24), .lit (.int .i64 23), .lit (.int .i64 22), .lit (.int .i64 21), .lit (.int .i64 20), .lit (.int .i64 19), .lit (.int .i64 24), .lit (.int .i64 23), .lit (.int .i64 22), .lit (.int .i64 21), .lit (.int .i64 20), .lit (.int .i64 19), .lit (.int .i64 18), .lit (.int .i64 17), .lit (.int .i64 7), .lit (.int .i64 6), .lit (.int .i64 5), .lit (.int .i64 4), .lit (.int .i64 36), .lit (.int .i64 37), .lit (.int .i64 38), .lit (.int .i64 39), .lit (.int .i64 88), .lit (.int .i64 89), .lit (.int .i64 90), .lit (.int .i64 91), .lit (.int .i64 92), .lit (.int .i64 93), .lit (.int .i64 94), .lit (.int .i64 95)]
def laid_overspill_tcoef_lengths {H : Type} : DataW H := .agg [.lit (.int .i64 2), .lit (.int .i64 4), .lit (.int .i64 6), .lit (.int .i64 7), .lit (.int .i64 8), .lit (.int .i64 9), .lit (.int .i64 9), .lit (.int .i64 10), .lit (.int .i64 10), .lit (.int .i64 11), .lit (.int .i64 11), .lit (.int .i64 11), .lit (.int .i64 3), .lit (.int .i64 6), .lit (.int .i64 8), .lit (.int .i64 10), .lit (.int .i64 11), .lit (.int .i64 12), .lit (.int .i64 4), .lit (.int .i64 8), .lit (.int .i64 10), .lit (.int .i64 12), .lit (.int .i64 5), .lit (.int .i64 9), .lit (.int .i64 10), .lit (.int .i64 5), .lit (.int .i64 9), .lit (.int .i64 12), .lit (.int .i64 5), .lit (.int .i64 10), .lit (.int .i64 12), .lit (.int .i64 6), .lit (.int .i64 10), .lit (.int .i64 12), .lit (.int .i64 6), .lit (.int .i64 10), .lit (.int .i64 6), .lit (.int .i64 10), .lit (.int .i64 6), .lit (.int .i64 10), .lit (.int .i64 7), .lit (.int .i64 12), .lit (.int .i64 7), .lit (.int .i64 7), .lit (.int .i64 8), .lit (.int .i64 8), .lit (.int .i64 9), .lit (.int .i64 9), .lit (.int .i64 9), .lit (.int .i64 9), .lit (.int .i64 9), .lit (.int .i64 9), .lit (.int .i64 9), .lit (.int .i64 9), .lit (.int .i64 11), .lit (.int .i64 11), .lit (.int .i64 12), .lit (.int .i64 12), .lit (.int .i64 4), .lit (.int .i64 9), .lit (.int .i64 11), .lit (.int .i64 6), .lit (.int .i64 11), .lit (.int .i64 6), .lit (.int .i64 6), .lit (.int .i64 6), .lit (.int .i64 7), .lit (.int .i64 7), .lit (.int .i64 7), .lit (.int .i64 7), .lit (.int .i64 8), .lit (.int .i64 8), .lit (.int .i64 8), .lit (.int .i64 8), .lit (.int .i64 8), .lit (.int .i64 8), .lit (.int .i64 8), .lit (.int .i64 8), .lit (.int .i64 9), .lit (.int .i64 9), .lit (.int .i64 9), .lit (.int .i64 9), .lit (.int .i64 9), .lit (.int .i64 9), .lit (.int .i64 9), .lit (.int .i64 9), .lit (.int .i64 10), .lit (.int .i64 10), .lit (.int .i64 10), .lit (.int .i64 10), .lit (.int .i64 11), .lit (.int .i64 11), .lit (.int .i64 11), .lit (.int .i64 11), .lit (.int .i64 12), .lit (.int .i64 12), .lit (.int .i64 12), .lit (.int .i64 12), .lit (.int .i64 12), .lit (.int .i64 12), .lit (.int .i64 12), .lit (.int .i64 12)]

/-- 'overspilllaw35.FeedBlocks': WHATEVER THE INPUT: true; the input reads as it did. -/
def feedBlocksSpec : ChangeSpec := { name := "feedBlocks", fn := fun _ => fun
  | [d] => { results := [.lit (.bool true)], args := [d] }
  | _ => none }
def feedBlocksRow : OpenClaim := { program := "ytkfaebbbjahcpaadoor", sum := "14f751cdf0a5df812ee355f980e868e15bbfed252b73893914312a805886d56a", func := "overspill/overspilllaw35.FeedBlocks", spec := "feedBlocks", unfollowed := true, recurses := true, named := ["overspill/dct.weights"], apart := false, laid := [("overspill/dct.weights", laid_overspill_dct_weights)] }
def FeedBlocksSaid : Prop := feedBlocksRow.holds Tryd.pinned (OpenSpec.ofChange feedBlocksSpec)

/-- ITS FALSE NEIGHBOUR: 'it returns false'. Refute it at one input. -/
def feedBlocksWrong : ChangeSpec := { name := "feedBlocks", fn := fun _ => fun
  | [d] => { results := [.lit (.bool false)], args := [d] }
  | _ => none }
def FeedBlocksWrongFalsely : Prop := feedBlocksRow.holds Tryd.pinned (OpenSpec.ofChange feedBlocksWrong)

/-- 'overspilllaw35.FeedLess': WHATEVER THE INPUT: true; the input reads as it did. -/
def feedLessSpec : ChangeSpec := { name := "feedLess", fn := fun _ => fun
  | [d1, d2, d3] => { results := [.lit (.bool true)], args := [d1, d2, d3] }
  | _ => none }
def feedLessRow : OpenClaim := { program := "ytkfaebbbjahcpaadoor", sum := "14f751cdf0a5df812ee355f980e868e15bbfed252b73893914312a805886d56a", func := "overspill/overspilllaw35.FeedLess", spec := "feedLess", unfollowed := true, recurses := true, named := ["overspill/dct.weights"], apart := false, laid := [("overspill/dct.weights", laid_overspill_dct_weights)] }
def FeedLessSaid : Prop := feedLessRow.holds Tryd.pinned (OpenSpec.ofChange feedLessSpec)

/-- ITS FALSE NEIGHBOUR: 'it returns false'. Refute it at one input. -/
def feedLessWrong : ChangeSpec := { name := "feedLess", fn := fun _ => fun
  | [d1, d2, d3] => { results := [.lit (.bool false)], args := [d1, d2, d3] }
  | _ => none }
def FeedLessWrongFalsely : Prop := feedLessRow.holds Tryd.pinned (OpenSpec.ofChange feedLessWrong)

/-- 'overspilllaw36.PatternCells': WHATEVER THE INPUT: true; the input reads as it did. -/
def patternCellsSpec : ChangeSpec := { name := "patternCells", fn := fun _ => fun
  | [d1, d2, d3] => { results := [.lit (.bool true)], args := [d1, d2, d3] }
  | _ => none }
def patternCellsRow : OpenClaim := { program := "ytkfaebbbjahcpaadoor", sum := "14f751cdf0a5df812ee355f980e868e15bbfed252b73893914312a805886d56a", func := "overspill/overspilllaw36.PatternCells", spec := "patternCells", named := ["overspill/tcoef.codes", "overspill/tcoef.lengths", "overspill/scan.places"], apart := false, laid := [("overspill/scan.places", laid_overspill_scan_places), ("overspill/tcoef.codes", laid_overspill_tcoef_codes), ("overspill/tcoef.lengths", laid_overspill_tcoef_lengths)] }
def PatternCellsSaid : Prop := patternCellsRow.holds Tryd.pinned (OpenSpec.ofChange patternCellsSpec)

/-- ITS FALSE NEIGHBOUR: 'it returns false'. Refute it at one input. -/
def patternCellsWrong : ChangeSpec := { name := "patternCells", fn := fun _ => fun
  | [d1, d2, d3] => { results := [.lit (.bool false)], args := [d1, d2, d3] }
  | _ => none }
def PatternCellsWrongFalsely : Prop := patternCellsRow.holds Tryd.pinned (OpenSpec.ofChange patternCellsWrong)

/-- 'overspilllaw36.PatternMay': WHATEVER THE INPUT: true; the input reads as it did. -/
def patternMaySpec : ChangeSpec := { name := "patternMay", fn := fun _ => fun
  | [d1, d2, d3] => { results := [.lit (.bool true)], args := [d1, d2, d3] }
  | _ => none }
def patternMayRow : OpenClaim := { program := "ytkfaebbbjahcpaadoor", sum := "14f751cdf0a5df812ee355f980e868e15bbfed252b73893914312a805886d56a", func := "overspill/overspilllaw36.PatternMay", spec := "patternMay", unfollowed := true, recurses := true, named := ["overspill/tcoef.codes", "overspill/tcoef.lengths", "overspill/scan.places"], apart := false, laid := [("overspill/scan.places", laid_overspill_scan_places), ("overspill/tcoef.codes", laid_overspill_tcoef_codes), ("overspill/tcoef.lengths", laid_overspill_tcoef_lengths)] }
def PatternMaySaid : Prop := patternMayRow.holds Tryd.pinned (OpenSpec.ofChange patternMaySpec)

/-- ITS FALSE NEIGHBOUR: 'it returns false'. Refute it at one input. -/
def patternMayWrong : ChangeSpec := { name := "patternMay", fn := fun _ => fun
  | [d1, d2, d3] => { results := [.lit (.bool false)], args := [d1, d2, d3] }
  | _ => none }
def PatternMayWrongFalsely : Prop := patternMayRow.holds Tryd.pinned (OpenSpec.ofChange patternMayWrong)

/-- 'overspilllaw29.ResidueOf': WHATEVER THE INPUT: true; the input reads as it did. -/
def residueOfSpec : ChangeSpec := { name := "residueOf", fn := fun _ => fun
  | [d1, d2] => { results := [.lit (.bool true)], args := [d1, d2] }
  | _ => none }
def residueOfRow : OpenClaim := { program := "ytkfaebbbjahcpaadoor", sum := "14f751cdf0a5df812ee355f980e868e15bbfed252b73893914312a805886d56a", func := "overspill/overspilllaw29.ResidueOf", spec := "residueOf", unfollowed := true, recurses := true, named := ["overspill/scan.places", "overspill/tcoef.codes", "overspill/tcoef.lengths", "overspill/dct.weights"], apart := false, laid := [("overspill/scan.places", laid_overspill_scan_places), ("overspill/tcoef.codes", laid_overspill_tcoef_codes), ("overspill/tcoef.lengths", laid_overspill_tcoef_lengths), ("overspill/dct.weights", laid_overspill_dct_weights)] }
def ResidueOfSaid : Prop := residueOfRow.holds Tryd.pinned (OpenSpec.ofChange residueOfSpec)

/-- ITS FALSE NEIGHBOUR: 'it returns false'. Refute it at one input. -/
def residueOfWrong : ChangeSpec := { name := "residueOf", fn := fun _ => fun
  | [d1, d2] => { results := [.lit (.bool false)], args := [d1, d2] }
  | _ => none }
def ResidueOfWrongFalsely : Prop := residueOfRow.holds Tryd.pinned (OpenSpec.ofChange residueOfWrong)

/-- 'overspilllaw29.ResidueLevels': WHATEVER THE INPUT: true; the input reads as it did. -/
def residueLevelsSpec : ChangeSpec := { name := "residueLevels", fn := fun _ => fun
  | [d1, d2] => { results := [.lit (.bool true)], args := [d1, d2] }
  | _ => none }
def residueLevelsRow : OpenClaim := { program := "ytkfaebbbjahcpaadoor", sum := "14f751cdf0a5df812ee355f980e868e15bbfed252b73893914312a805886d56a", func := "overspill/overspilllaw29.ResidueLevels", spec := "residueLevels", unfollowed := true, recurses := true, named := ["overspill/scan.places", "overspill/tcoef.codes", "overspill/tcoef.lengths", "overspill/dct.weights"], apart := false, laid := [("overspill/scan.places", laid_overspill_scan_places), ("overspill/tcoef.codes", laid_overspill_tcoef_codes), ("overspill/tcoef.lengths", laid_overspill_tcoef_lengths), ("overspill/dct.weights", laid_overspill_dct_weights)] }
def ResidueLevelsSaid : Prop := residueLevelsRow.holds Tryd.pinned (OpenSpec.ofChange residueLevelsSpec)

/-- ITS FALSE NEIGHBOUR: 'it returns false'. Refute it at one input. -/
def residueLevelsWrong : ChangeSpec := { name := "residueLevels", fn := fun _ => fun
  | [d1, d2] => { results := [.lit (.bool false)], args := [d1, d2] }
  | _ => none }
def ResidueLevelsWrongFalsely : Prop := residueLevelsRow.holds Tryd.pinned (OpenSpec.ofChange residueLevelsWrong)

/-- 'overspilllaw35.FeedCells': WHATEVER THE INPUT: true; the input reads as it did. -/
def feedCellsSpec : ChangeSpec := { name := "feedCells", fn := fun _ => fun
  | [d1, d2, d3] => { results := [.lit (.bool true)], args := [d1, d2, d3] }
  | _ => none }
def feedCellsRow : OpenClaim := { program := "ytkfaebbbjahcpaadoor", sum := "14f751cdf0a5df812ee355f980e868e15bbfed252b73893914312a805886d56a", func := "overspill/overspilllaw35.FeedCells", spec := "feedCells", unfollowed := true, recurses := true, named := ["overspill/dct.weights", "overspill/scan.places", "overspill/tcoef.codes", "overspill/tcoef.lengths"], apart := false, laid := [("overspill/scan.places", laid_overspill_scan_places), ("overspill/tcoef.codes", laid_overspill_tcoef_codes), ("overspill/tcoef.lengths", laid_overspill_tcoef_lengths), ("overspill/dct.weights", laid_overspill_dct_weights)] }
def FeedCellsSaid : Prop := feedCellsRow.holds Tryd.pinned (OpenSpec.ofChange feedCellsSpec)

/-- ITS FALSE NEIGHBOUR: 'it returns false'. Refute it at one input. -/
def feedCellsWrong : ChangeSpec := { name := "feedCells", fn := fun _ => fun
  | [d1, d2, d3] => { results := [.lit (.bool false)], args := [d1, d2, d3] }
  | _ => none }
def FeedCellsWrongFalsely : Prop := feedCellsRow.holds Tryd.pinned (OpenSpec.ofChange feedCellsWrong)

/-- 'overspilllaw31.RebuildCells': WHATEVER THE INPUT: true; the input reads as it did. -/
def rebuildCellsSpec : ChangeSpec := { name := "rebuildCells", fn := fun _ => fun
  | [d1, d2, d3] => { results := [.lit (.bool true)], args := [d1, d2, d3] }
  | _ => none }
def rebuildCellsRow : OpenClaim := { program := "ytkfaebbbjahcpaadoor", sum := "14f751cdf0a5df812ee355f980e868e15bbfed252b73893914312a805886d56a", func := "overspill/overspilllaw31.RebuildCells", spec := "rebuildCells", unfollowed := true, recurses := true, named := ["overspill/scan.places", "overspill/dct.weights", "overspill/tcoef.codes", "overspill/tcoef.lengths"], apart := false, laid := [("overspill/scan.places", laid_overspill_scan_places), ("overspill/tcoef.codes", laid_overspill_tcoef_codes), ("overspill/tcoef.lengths", laid_overspill_tcoef_lengths), ("overspill/dct.weights", laid_overspill_dct_weights)] }
def RebuildCellsSaid : Prop := rebuildCellsRow.holds Tryd.pinned (OpenSpec.ofChange rebuildCellsSpec)

/-- ITS FALSE NEIGHBOUR: 'it returns false'. Refute it at one input. -/
def rebuildCellsWrong : ChangeSpec := { name := "rebuildCells", fn := fun _ => fun
  | [d1, d2, d3] => { results := [.lit (.bool false)], args := [d1, d2, d3] }
  | _ => none }
def RebuildCellsWrongFalsely : Prop := rebuildCellsRow.holds Tryd.pinned (OpenSpec.ofChange rebuildCellsWrong)

/-- 'overspilllaw31.RebuildSkips': WHATEVER THE INPUT: true; the input reads as it did. -/
def rebuildSkipsSpec : ChangeSpec := { name := "rebuildSkips", fn := fun _ => fun
  | [d1, d2, d3] => { results := [.lit (.bool true)], args := [d1, d2, d3] }
  | _ => none }
def rebuildSkipsRow : OpenClaim := { program := "ytkfaebbbjahcpaadoor", sum := "14f751cdf0a5df812ee355f980e868e15bbfed252b73893914312a805886d56a", func := "overspill/overspilllaw31.RebuildSkips", spec := "rebuildSkips", unfollowed := true, recurses := true, named := ["overspill/scan.places", "overspill/dct.weights", "overspill/tcoef.codes", "overspill/tcoef.lengths"], apart := false, laid := [("overspill/scan.places", laid_overspill_scan_places), ("overspill/tcoef.codes", laid_overspill_tcoef_codes), ("overspill/tcoef.lengths", laid_overspill_tcoef_lengths), ("overspill/dct.weights", laid_overspill_dct_weights)] }
def RebuildSkipsSaid : Prop := rebuildSkipsRow.holds Tryd.pinned (OpenSpec.ofChange rebuildSkipsSpec)

/-- ITS FALSE NEIGHBOUR: 'it returns false'. Refute it at one input. -/
def rebuildSkipsWrong : ChangeSpec := { name := "rebuildSkips", fn := fun _ => fun
  | [d1, d2, d3] => { results := [.lit (.bool false)], args := [d1, d2, d3] }
  | _ => none }
def RebuildSkipsWrongFalsely : Prop := rebuildSkipsRow.holds Tryd.pinned (OpenSpec.ofChange rebuildSkipsWrong)

/-- 'overspilllaw38.CellxStays': WHATEVER THE INPUT: true; the input reads as it did. -/
def cellxStaysSpec : ChangeSpec := { name := "cellxStays", fn := fun _ => fun
  | [d1, d2, d3] => { results := [.lit (.bool true)], args := [d1, d2, d3] }
  | _ => none }
def cellxStaysRow : OpenClaim := { program := "ytkfaebbbjahcpaadoor", sum := "14f751cdf0a5df812ee355f980e868e15bbfed252b73893914312a805886d56a", func := "overspill/overspilllaw38.CellxStays", spec := "cellxStays", inPlace := ["internal/bytealg.MakeNoZero"], unfollowed := true, recurses := true, named := ["overspill/scan.places", "overspill/tcoef.codes", "overspill/tcoef.lengths", "overspill/dct.weights"], apart := false, laid := [("overspill/scan.places", laid_overspill_scan_places), ("overspill/tcoef.codes", laid_overspill_tcoef_codes), ("overspill/tcoef.lengths", laid_overspill_tcoef_lengths), ("overspill/dct.weights", laid_overspill_dct_weights)] }
def CellxStaysSaid : Prop := cellxStaysRow.holds Tryd.pinned (OpenSpec.ofChange cellxStaysSpec)

/-- ITS FALSE NEIGHBOUR: 'it returns false'. Refute it at one input. -/
def cellxStaysWrong : ChangeSpec := { name := "cellxStays", fn := fun _ => fun
  | [d1, d2, d3] => { results := [.lit (.bool false)], args := [d1, d2, d3] }
  | _ => none }
def CellxStaysWrongFalsely : Prop := cellxStaysRow.holds Tryd.pinned (OpenSpec.ofChange cellxStaysWrong)

/- THE SECOND FORM. 'bulk': how many values and letters a reading holds, each counted each time it is reached (what is shared counts as often as it is met; a slice's spare places count too). A statement '..UptoSaid' is the law's where the arguments, and the package variables that the reading takes, are together of bulk at most 1048576: NARROWER than '..Said'. Prove '..Said' where nothing that the law and all that it calls make is longer than what came in: it says more and counts as full. Else prove '..UptoSaid'. A law counts once. -/
mutual
def uptoBulk {H : Type} : DataW H → Nat
  | .lit (.string bytes) => bytes.length + 1
  | .lit _ => 1
  | .nil => 1
  | .ptr d => uptoBulk d + 1
  | .slice elems spare => uptoBulkAll elems + uptoBulkAll spare + 1
  | .agg parts => uptoBulkAll parts + 1
  | .iface _ d => uptoBulk d + 1
  | .map entries => uptoBulkEntries entries + 1
  | .held _ => 1
def uptoBulkAll {H : Type} : List (DataW H) → Nat
  | [] => 0
  | d :: r => uptoBulk d + uptoBulkAll r
def uptoBulkEntries {H : Type} : List (Lit × DataW H) → Nat
  | [] => 0
  | x :: r => uptoBulkEntry x + uptoBulkEntries r
def uptoBulkEntry {H : Type} : Lit × DataW H → Nat
  | (.string bytes, d) => bytes.length + uptoBulk d + 1
  | (_, d) => uptoBulk d + 1
 end
def uptoSmall : (H : Type) → List (DataW H) → Bool := fun _ ds => decide (uptoBulkAll ds ≤ 1048576)
def OpenSpec.upto (s : _root_.Go.ChangeSpec) : _root_.Go.OpenSpec := { _root_.Go.OpenSpec.ofChange s with cond := some uptoSmall }

/-- 'overspilllaw35.FeedBlocks', WHERE WHAT IT READS IS OF BULK AT MOST 1048576: true; the input reads as it did. -/
def feedBlocksUptoRow : OpenClaim := { program := "ytkfaebbbjahcpaadoor", sum := "14f751cdf0a5df812ee355f980e868e15bbfed252b73893914312a805886d56a", func := "overspill/overspilllaw35.FeedBlocks", spec := "feedBlocks", unfollowed := true, recurses := true, named := ["overspill/dct.weights"], apart := false, laid := [("overspill/dct.weights", laid_overspill_dct_weights)], narrowed := true }
def FeedBlocksUptoSaid : Prop := feedBlocksUptoRow.holds Tryd.pinned (OpenSpec.upto feedBlocksSpec)

/-- 'overspilllaw35.FeedLess', WHERE WHAT IT READS IS OF BULK AT MOST 1048576: true; the input reads as it did. -/
def feedLessUptoRow : OpenClaim := { program := "ytkfaebbbjahcpaadoor", sum := "14f751cdf0a5df812ee355f980e868e15bbfed252b73893914312a805886d56a", func := "overspill/overspilllaw35.FeedLess", spec := "feedLess", unfollowed := true, recurses := true, named := ["overspill/dct.weights"], apart := false, laid := [("overspill/dct.weights", laid_overspill_dct_weights)], narrowed := true }
def FeedLessUptoSaid : Prop := feedLessUptoRow.holds Tryd.pinned (OpenSpec.upto feedLessSpec)

/-- 'overspilllaw36.PatternCells', WHERE WHAT IT READS IS OF BULK AT MOST 1048576: true; the input reads as it did. -/
def patternCellsUptoRow : OpenClaim := { program := "ytkfaebbbjahcpaadoor", sum := "14f751cdf0a5df812ee355f980e868e15bbfed252b73893914312a805886d56a", func := "overspill/overspilllaw36.PatternCells", spec := "patternCells", named := ["overspill/tcoef.codes", "overspill/tcoef.lengths", "overspill/scan.places"], apart := false, laid := [("overspill/scan.places", laid_overspill_scan_places), ("overspill/tcoef.codes", laid_overspill_tcoef_codes), ("overspill/tcoef.lengths", laid_overspill_tcoef_lengths)], narrowed := true }
def PatternCellsUptoSaid : Prop := patternCellsUptoRow.holds Tryd.pinned (OpenSpec.upto patternCellsSpec)

/-- 'overspilllaw36.PatternMay', WHERE WHAT IT READS IS OF BULK AT MOST 1048576: true; the input reads as it did. -/
def patternMayUptoRow : OpenClaim := { program := "ytkfaebbbjahcpaadoor", sum := "14f751cdf0a5df812ee355f980e868e15bbfed252b73893914312a805886d56a", func := "overspill/overspilllaw36.PatternMay", spec := "patternMay", unfollowed := true, recurses := true, named := ["overspill/tcoef.codes", "overspill/tcoef.lengths", "overspill/scan.places"], apart := false, laid := [("overspill/scan.places", laid_overspill_scan_places), ("overspill/tcoef.codes", laid_overspill_tcoef_codes), ("overspill/tcoef.lengths", laid_overspill_tcoef_lengths)], narrowed := true }
def PatternMayUptoSaid : Prop := patternMayUptoRow.holds Tryd.pinned (OpenSpec.upto patternMaySpec)

/-- 'overspilllaw29.ResidueOf', WHERE WHAT IT READS IS OF BULK AT MOST 1048576: true; the input reads as it did. -/
def residueOfUptoRow : OpenClaim := { program := "ytkfaebbbjahcpaadoor", sum := "14f751cdf0a5df812ee355f980e868e15bbfed252b73893914312a805886d56a", func := "overspill/overspilllaw29.ResidueOf", spec := "residueOf", unfollowed := true, recurses := true, named := ["overspill/scan.places", "overspill/tcoef.codes", "overspill/tcoef.lengths", "overspill/dct.weights"], apart := false, laid := [("overspill/scan.places", laid_overspill_scan_places), ("overspill/tcoef.codes", laid_overspill_tcoef_codes), ("overspill/tcoef.lengths", laid_overspill_tcoef_lengths), ("overspill/dct.weights", laid_overspill_dct_weights)], narrowed := true }
def ResidueOfUptoSaid : Prop := residueOfUptoRow.holds Tryd.pinned (OpenSpec.upto residueOfSpec)

/-- 'overspilllaw29.ResidueLevels', WHERE WHAT IT READS IS OF BULK AT MOST 1048576: true; the input reads as it did. -/
def residueLevelsUptoRow : OpenClaim := { program := "ytkfaebbbjahcpaadoor", sum := "14f751cdf0a5df812ee355f980e868e15bbfed252b73893914312a805886d56a", func := "overspill/overspilllaw29.ResidueLevels", spec := "residueLevels", unfollowed := true, recurses := true, named := ["overspill/scan.places", "overspill/tcoef.codes", "overspill/tcoef.lengths", "overspill/dct.weights"], apart := false, laid := [("overspill/scan.places", laid_overspill_scan_places), ("overspill/tcoef.codes", laid_overspill_tcoef_codes), ("overspill/tcoef.lengths", laid_overspill_tcoef_lengths), ("overspill/dct.weights", laid_overspill_dct_weights)], narrowed := true }
def ResidueLevelsUptoSaid : Prop := residueLevelsUptoRow.holds Tryd.pinned (OpenSpec.upto residueLevelsSpec)

/-- 'overspilllaw35.FeedCells', WHERE WHAT IT READS IS OF BULK AT MOST 1048576: true; the input reads as it did. -/
def feedCellsUptoRow : OpenClaim := { program := "ytkfaebbbjahcpaadoor", sum := "14f751cdf0a5df812ee355f980e868e15bbfed252b73893914312a805886d56a", func := "overspill/overspilllaw35.FeedCells", spec := "feedCells", unfollowed := true, recurses := true, named := ["overspill/dct.weights", "overspill/scan.places", "overspill/tcoef.codes", "overspill/tcoef.lengths"], apart := false, laid := [("overspill/scan.places", laid_overspill_scan_places), ("overspill/tcoef.codes", laid_overspill_tcoef_codes), ("overspill/tcoef.lengths", laid_overspill_tcoef_lengths), ("overspill/dct.weights", laid_overspill_dct_weights)], narrowed := true }
def FeedCellsUptoSaid : Prop := feedCellsUptoRow.holds Tryd.pinned (OpenSpec.upto feedCellsSpec)

/-- 'overspilllaw31.RebuildCells', WHERE WHAT IT READS IS OF BULK AT MOST 1048576: true; the input reads as it did. -/
def rebuildCellsUptoRow : OpenClaim := { program := "ytkfaebbbjahcpaadoor", sum := "14f751cdf0a5df812ee355f980e868e15bbfed252b73893914312a805886d56a", func := "overspill/overspilllaw31.RebuildCells", spec := "rebuildCells", unfollowed := true, recurses := true, named := ["overspill/scan.places", "overspill/dct.weights", "overspill/tcoef.codes", "overspill/tcoef.lengths"], apart := false, laid := [("overspill/scan.places", laid_overspill_scan_places), ("overspill/tcoef.codes", laid_overspill_tcoef_codes), ("overspill/tcoef.lengths", laid_overspill_tcoef_lengths), ("overspill/dct.weights", laid_overspill_dct_weights)], narrowed := true }
def RebuildCellsUptoSaid : Prop := rebuildCellsUptoRow.holds Tryd.pinned (OpenSpec.upto rebuildCellsSpec)

/-- 'overspilllaw31.RebuildSkips', WHERE WHAT IT READS IS OF BULK AT MOST 1048576: true; the input reads as it did. -/
def rebuildSkipsUptoRow : OpenClaim := { program := "ytkfaebbbjahcpaadoor", sum := "14f751cdf0a5df812ee355f980e868e15bbfed252b73893914312a805886d56a", func := "overspill/overspilllaw31.RebuildSkips", spec := "rebuildSkips", unfollowed := true, recurses := true, named := ["overspill/scan.places", "overspill/dct.weights", "overspill/tcoef.codes", "overspill/tcoef.lengths"], apart := false, laid := [("overspill/scan.places", laid_overspill_scan_places), ("overspill/tcoef.codes", laid_overspill_tcoef_codes), ("overspill/tcoef.lengths", laid_overspill_tcoef_lengths), ("overspill/dct.weights", laid_overspill_dct_weights)], narrowed := true }
def RebuildSkipsUptoSaid : Prop := rebuildSkipsUptoRow.holds Tryd.pinned (OpenSpec.upto rebuildSkipsSpec)

/-- 'overspilllaw38.CellxStays', WHERE WHAT IT READS IS OF BULK AT MOST 1048576: true; the input reads as it did. -/
def cellxStaysUptoRow : OpenClaim := { program := "ytkfaebbbjahcpaadoor", sum := "14f751cdf0a5df812ee355f980e868e15bbfed252b73893914312a805886d56a", func := "overspill/overspilllaw38.CellxStays", spec := "cellxStays", inPlace := ["internal/bytealg.MakeNoZero"], unfollowed := true, recurses := true, named := ["overspill/scan.places", "overspill/tcoef.codes", "overspill/tcoef.lengths", "overspill/dct.weights"], apart := false, laid := [("overspill/scan.places", laid_overspill_scan_places), ("overspill/tcoef.codes", laid_overspill_tcoef_codes), ("overspill/tcoef.lengths", laid_overspill_tcoef_lengths), ("overspill/dct.weights", laid_overspill_dct_weights)], narrowed := true }
def CellxStaysUptoSaid : Prop := cellxStaysUptoRow.holds Tryd.pinned (OpenSpec.upto cellxStaysSpec)

end Rows
end Go.Proofs.YtkfaebbbjahcpaaDoor
