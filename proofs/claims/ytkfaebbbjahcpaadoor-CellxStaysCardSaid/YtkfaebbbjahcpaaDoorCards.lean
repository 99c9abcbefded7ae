/-
  DERIVED. GIVEN WITH THE SEED: THE CARDS: each row of YtkfaebbbjahcpaaDoorRows.lean that lists a variable, with what it lists TIED to the program's text (the seventh form; the later family's looks); each row that meets fmt, with fmt's text TOLD by the authors' own Lean function (tested against real Go, not proved from fmt's source: count such statements apart). THE CARD IS WHAT COUNTS. Prove the row's statement (the work); the ties are given (YtkfaebbbjahcpaaDoorTie.lean); close each card by the builder's one call (the guide's Derived/Test/ToyasCard.lean, 'card_holds'). Laid BY PROGRAM, IN A SANDBOX (cutbox-door.mjs). By AI agents, Wed Nov 11 2026. No macro, syntax, notation, axiom, sorry.
-/
import Derived.Test.YtkfaebbbjahcpaaDoorRows
import GoSem.ClaimSeven
namespace Go.Proofs.YtkfaebbbjahcpaaDoor
namespace Rows

/-- THE TIED CARD OF 'overspilllaw35.FeedBlocks'. -/
def feedBlocksCard : Claim7 := { stood := { row := feedBlocksRow, standIns := [], harness := (true, "e121e9352fe41a6bdaebb28eec19fa64ea8717a555beaeaa82537b453861b01d"), looks := false }, kinds := [], alts := [], laidByText := true, laidKinds := [.data], laidTests := true, laidLooks := .later }
def FeedBlocksCardSaid : Prop := Claim7.holds Tryd.pinned (.plain (OpenSpec.ofChange feedBlocksSpec)) feedBlocksCard

/-- THE TIED CARD OF 'overspilllaw35.FeedLess'. -/
def feedLessCard : Claim7 := { stood := { row := feedLessRow, standIns := [], harness := (true, "e121e9352fe41a6bdaebb28eec19fa64ea8717a555beaeaa82537b453861b01d"), looks := false }, kinds := [], alts := [], laidByText := true, laidKinds := [.data], laidTests := true, laidLooks := .later }
def FeedLessCardSaid : Prop := Claim7.holds Tryd.pinned (.plain (OpenSpec.ofChange feedLessSpec)) feedLessCard

/-- THE TIED CARD OF 'overspilllaw36.PatternCells'. -/
def patternCellsCard : Claim7 := { stood := { row := patternCellsRow, standIns := [], harness := (true, "e121e9352fe41a6bdaebb28eec19fa64ea8717a555beaeaa82537b453861b01d"), looks := false }, kinds := [], alts := [], laidByText := true, laidKinds := [.data, .data, .data], laidTests := true, laidLooks := .later }
def PatternCellsCardSaid : Prop := Claim7.holds Tryd.pinned (.plain (OpenSpec.ofChange patternCellsSpec)) patternCellsCard

/-- THE TIED CARD OF 'overspilllaw36.PatternMay'. -/
def patternMayCard : Claim7 := { stood := { row := patternMayRow, standIns := [], harness := (true, "e121e9352fe41a6bdaebb28eec19fa64ea8717a555beaeaa82537b453861b01d"), looks := false }, kinds := [], alts := [], laidByText := true, laidKinds := [.data, .data, .data], laidTests := true, laidLooks := .later }
def PatternMayCardSaid : Prop := Claim7.holds Tryd.pinned (.plain (OpenSpec.ofChange patternMaySpec)) patternMayCard

/-- THE TIED CARD OF 'overspilllaw29.ResidueOf'. -/
def residueOfCard : Claim7 := { stood := { row := residueOfRow, standIns := [], harness := (true, "e121e9352fe41a6bdaebb28eec19fa64ea8717a555beaeaa82537b453861b01d"), looks := false }, kinds := [], alts := [], laidByText := true, laidKinds := [.data, .data, .data, .data], laidTests := true, laidLooks := .later }
def ResidueOfCardSaid : Prop := Claim7.holds Tryd.pinned (.plain (OpenSpec.ofChange residueOfSpec)) residueOfCard

/-- THE TIED CARD OF 'overspilllaw29.ResidueLevels'. -/
def residueLevelsCard : Claim7 := { stood := { row := residueLevelsRow, standIns := [], harness := (true, "e121e9352fe41a6bdaebb28eec19fa64ea8717a555beaeaa82537b453861b01d"), looks := false }, kinds := [], alts := [], laidByText := true, laidKinds := [.data, .data, .data, .data], laidTests := true, laidLooks := .later }
def ResidueLevelsCardSaid : Prop := Claim7.holds Tryd.pinned (.plain (OpenSpec.ofChange residueLevelsSpec)) residueLevelsCard

/-- THE TIED CARD OF 'overspilllaw35.FeedCells'. -/
def feedCellsCard : Claim7 := { stood := { row := feedCellsRow, standIns := [], harness := (true, "e121e9352fe41a6bdaebb28eec19fa64ea8717a555beaeaa82537b453861b01d"), looks := false }, kinds := [], alts := [], laidByText := true, laidKinds := [.data, .data, .data, .data], laidTests := true, laidLooks := .later }
def FeedCellsCardSaid : Prop := Claim7.holds Tryd.pinned (.plain (OpenSpec.ofChange feedCellsSpec)) feedCellsCard

/-- THE TIED CARD OF 'overspilllaw31.RebuildCells'. -/
def rebuildCellsCard : Claim7 := { stood := { row := rebuildCellsRow, standIns := [], harness := (true, "e121e9352fe41a6bdaebb28eec19fa64ea8717a555beaeaa82537b453861b01d"), looks := false }, kinds := [], alts := [], laidByText := true, laidKinds := [.data, .data, .data, .data], laidTests := true, laidLooks := .later }
def RebuildCellsCardSaid : Prop := Claim7.holds Tryd.pinned (.plain (OpenSpec.ofChange rebuildCellsSpec)) rebuildCellsCard

/-- THE TIED CARD OF 'overspilllaw31.RebuildSkips'. -/
def rebuildSkipsCard : Claim7 := { stood := { row := rebuildSkipsRow, standIns := [], harness := (true, "e121e9352fe41a6bdaebb28eec19fa64ea8717a555beaeaa82537b453861b01d"), looks := false }, kinds := [], alts := [], laidByText := true, laidKinds := [.data, .data, .data, .data], laidTests := true, laidLooks := .later }
def RebuildSkipsCardSaid : Prop := Claim7.holds Tryd.pinned (.plain (OpenSpec.ofChange rebuildSkipsSpec)) rebuildSkipsCard

/-- THE TIED CARD OF 'overspilllaw38.CellxStays'. -/
def cellxStaysCard : Claim7 := { stood := { row := cellxStaysRow, standIns := [], harness := (true, "e121e9352fe41a6bdaebb28eec19fa64ea8717a555beaeaa82537b453861b01d"), looks := false }, kinds := [], alts := [], laidByText := true, laidKinds := [.data, .data, .data, .data], laidTests := true, laidLooks := .later }
def CellxStaysCardSaid : Prop := Claim7.holds Tryd.pinned (.plain (OpenSpec.ofChange cellxStaysSpec)) cellxStaysCard

/-- THE SECOND FORM's CARD OF 'overspilllaw35.FeedBlocks'. -/
def feedBlocksUptoCard : Claim7 := { stood := { row := feedBlocksUptoRow, standIns := [], harness := (true, "e121e9352fe41a6bdaebb28eec19fa64ea8717a555beaeaa82537b453861b01d"), looks := false }, kinds := [], alts := [], laidByText := true, laidKinds := [.data], laidTests := true, laidLooks := .later }
def FeedBlocksUptoCardSaid : Prop := Claim7.holds Tryd.pinned (.plain (OpenSpec.upto feedBlocksSpec)) feedBlocksUptoCard

/-- THE SECOND FORM's CARD OF 'overspilllaw35.FeedLess'. -/
def feedLessUptoCard : Claim7 := { stood := { row := feedLessUptoRow, standIns := [], harness := (true, "e121e9352fe41a6bdaebb28eec19fa64ea8717a555beaeaa82537b453861b01d"), looks := false }, kinds := [], alts := [], laidByText := true, laidKinds := [.data], laidTests := true, laidLooks := .later }
def FeedLessUptoCardSaid : Prop := Claim7.holds Tryd.pinned (.plain (OpenSpec.upto feedLessSpec)) feedLessUptoCard

/-- THE SECOND FORM's CARD OF 'overspilllaw36.PatternCells'. -/
def patternCellsUptoCard : Claim7 := { stood := { row := patternCellsUptoRow, standIns := [], harness := (true, "e121e9352fe41a6bdaebb28eec19fa64ea8717a555beaeaa82537b453861b01d"), looks := false }, kinds := [], alts := [], laidByText := true, laidKinds := [.data, .data, .data], laidTests := true, laidLooks := .later }
def PatternCellsUptoCardSaid : Prop := Claim7.holds Tryd.pinned (.plain (OpenSpec.upto patternCellsSpec)) patternCellsUptoCard

/-- THE SECOND FORM's CARD OF 'overspilllaw36.PatternMay'. -/
def patternMayUptoCard : Claim7 := { stood := { row := patternMayUptoRow, standIns := [], harness := (true, "e121e9352fe41a6bdaebb28eec19fa64ea8717a555beaeaa82537b453861b01d"), looks := false }, kinds := [], alts := [], laidByText := true, laidKinds := [.data, .data, .data], laidTests := true, laidLooks := .later }
def PatternMayUptoCardSaid : Prop := Claim7.holds Tryd.pinned (.plain (OpenSpec.upto patternMaySpec)) patternMayUptoCard

/-- THE SECOND FORM's CARD OF 'overspilllaw29.ResidueOf'. -/
def residueOfUptoCard : Claim7 := { stood := { row := residueOfUptoRow, standIns := [], harness := (true, "e121e9352fe41a6bdaebb28eec19fa64ea8717a555beaeaa82537b453861b01d"), looks := false }, kinds := [], alts := [], laidByText := true, laidKinds := [.data, .data, .data, .data], laidTests := true, laidLooks := .later }
def ResidueOfUptoCardSaid : Prop := Claim7.holds Tryd.pinned (.plain (OpenSpec.upto residueOfSpec)) residueOfUptoCard

/-- THE SECOND FORM's CARD OF 'overspilllaw29.ResidueLevels'. -/
def residueLevelsUptoCard : Claim7 := { stood := { row := residueLevelsUptoRow, standIns := [], harness := (true, "e121e9352fe41a6bdaebb28eec19fa64ea8717a555beaeaa82537b453861b01d"), looks := false }, kinds := [], alts := [], laidByText := true, laidKinds := [.data, .data, .data, .data], laidTests := true, laidLooks := .later }
def ResidueLevelsUptoCardSaid : Prop := Claim7.holds Tryd.pinned (.plain (OpenSpec.upto residueLevelsSpec)) residueLevelsUptoCard

/-- THE SECOND FORM's CARD OF 'overspilllaw35.FeedCells'. -/
def feedCellsUptoCard : Claim7 := { stood := { row := feedCellsUptoRow, standIns := [], harness := (true, "e121e9352fe41a6bdaebb28eec19fa64ea8717a555beaeaa82537b453861b01d"), looks := false }, kinds := [], alts := [], laidByText := true, laidKinds := [.data, .data, .data, .data], laidTests := true, laidLooks := .later }
def FeedCellsUptoCardSaid : Prop := Claim7.holds Tryd.pinned (.plain (OpenSpec.upto feedCellsSpec)) feedCellsUptoCard

/-- THE SECOND FORM's CARD OF 'overspilllaw31.RebuildCells'. -/
def rebuildCellsUptoCard : Claim7 := { stood := { row := rebuildCellsUptoRow, standIns := [], harness := (true, "e121e9352fe41a6bdaebb28eec19fa64ea8717a555beaeaa82537b453861b01d"), looks := false }, kinds := [], alts := [], laidByText := true, laidKinds := [.data, .data, .data, .data], laidTests := true, laidLooks := .later }
def RebuildCellsUptoCardSaid : Prop := Claim7.holds Tryd.pinned (.plain (OpenSpec.upto rebuildCellsSpec)) rebuildCellsUptoCard

/-- THE SECOND FORM's CARD OF 'overspilllaw31.RebuildSkips'. -/
def rebuildSkipsUptoCard : Claim7 := { stood := { row := rebuildSkipsUptoRow, standIns := [], harness := (true, "e121e9352fe41a6bdaebb28eec19fa64ea8717a555beaeaa82537b453861b01d"), looks := false }, kinds := [], alts := [], laidByText := true, laidKinds := [.data, .data, .data, .data], laidTests := true, laidLooks := .later }
def RebuildSkipsUptoCardSaid : Prop := Claim7.holds Tryd.pinned (.plain (OpenSpec.upto rebuildSkipsSpec)) rebuildSkipsUptoCard

/-- THE SECOND FORM's CARD OF 'overspilllaw38.CellxStays'. -/
def cellxStaysUptoCard : Claim7 := { stood := { row := cellxStaysUptoRow, standIns := [], harness := (true, "e121e9352fe41a6bdaebb28eec19fa64ea8717a555beaeaa82537b453861b01d"), looks := false }, kinds := [], alts := [], laidByText := true, laidKinds := [.data, .data, .data, .data], laidTests := true, laidLooks := .later }
def CellxStaysUptoCardSaid : Prop := Claim7.holds Tryd.pinned (.plain (OpenSpec.upto cellxStaysSpec)) cellxStaysUptoCard
end Rows
end Go.Proofs.YtkfaebbbjahcpaaDoor
