/-
  DERIVED. GIVEN WITH THE SEED: THE PROGRAM's TIES (one call each: nine closed facts by the kernel) AND EACH ROW's TIE, after the 31st guide's Derived/Test/Toyas{Tie, Card}.lean. No idea stands in it: it is a product of the set-up. Laid BY PROGRAM, IN A SANDBOX (cutbox-door.mjs). By AI agents, Wed Nov 11 2026. No macro, syntax, notation, axiom, sorry.
-/
import Derived.Test.YtkfaebbbjahcpaaDoorRows
import Derived.LaidByTextLater
import Derived.SevenTiedAt
import Derived.LaidSub
import Derived.LaidOnce
namespace Go.Proofs.YtkfaebbbjahcpaaDoor
open Go
set_option maxRecDepth 100000
theorem seatTie1 : Tryd.prog.laidByTextLater [("overspill/dct.weights", Rows.laid_overspill_dct_weights)] [.data] true :=
  Program.laidByTextLater_by_one 37 8 103 (by kernel_rfl) (by kernel_rfl) (by kernel_rfl) (by kernel_rfl) (by kernel_rfl) (by kernel_rfl) (fun _ _ => by kernel_rfl)
theorem seatTie2 : Tryd.prog.laidByTextLater [("overspill/scan.places", Rows.laid_overspill_scan_places), ("overspill/tcoef.codes", Rows.laid_overspill_tcoef_codes), ("overspill/tcoef.lengths", Rows.laid_overspill_tcoef_lengths)] [.data, .data, .data] true :=
  Program.laidByTextLater_by_one 37 8 103 (by kernel_rfl) (by kernel_rfl) (by kernel_rfl) (by kernel_rfl) (by kernel_rfl) (by kernel_rfl) (fun _ _ => by kernel_rfl)
theorem seatTie3 : Tryd.prog.laidByTextLater [("overspill/scan.places", Rows.laid_overspill_scan_places), ("overspill/tcoef.codes", Rows.laid_overspill_tcoef_codes), ("overspill/tcoef.lengths", Rows.laid_overspill_tcoef_lengths), ("overspill/dct.weights", Rows.laid_overspill_dct_weights)] [.data, .data, .data, .data] true :=
  Program.laidByTextLater_by_one 37 8 103 (by kernel_rfl) (by kernel_rfl) (by kernel_rfl) (by kernel_rfl) (by kernel_rfl) (by kernel_rfl) (fun _ _ => by kernel_rfl)
theorem noOwnUnsafe : Tryd.pinned.checked.prog.headLifts.contains "ownunsafe" = false := by kernel_rfl
theorem tie : Tryd.prog.laidByTextLater [("overspill/dct.weights", Rows.laid_overspill_dct_weights)] [.data] true :=
  Program.laidByTextLater.sub seatTie1 ["overspill/dct.weights"] (by kernel_rfl) (by kernel_rfl)
theorem feedBlocks_row_tie : Rows.feedBlocksRow.laidByTextAt .later Tryd.pinned [.data] true :=
  OpenClaim.laidByTextAt_later rfl rfl tie noOwnUnsafe
theorem feedLess_row_tie : Rows.feedLessRow.laidByTextAt .later Tryd.pinned [.data] true :=
  OpenClaim.laidByTextAt_later rfl rfl tie noOwnUnsafe
theorem tie2 : Tryd.prog.laidByTextLater [("overspill/scan.places", Rows.laid_overspill_scan_places), ("overspill/tcoef.codes", Rows.laid_overspill_tcoef_codes), ("overspill/tcoef.lengths", Rows.laid_overspill_tcoef_lengths)] [.data, .data, .data] true :=
  Program.laidByTextLater.sub seatTie2 ["overspill/scan.places", "overspill/tcoef.codes", "overspill/tcoef.lengths"] (by kernel_rfl) (by kernel_rfl)
theorem patternCells_row_tie : Rows.patternCellsRow.laidByTextAt .later Tryd.pinned [.data, .data, .data] true :=
  OpenClaim.laidByTextAt_later rfl rfl tie2 noOwnUnsafe
theorem patternMay_row_tie : Rows.patternMayRow.laidByTextAt .later Tryd.pinned [.data, .data, .data] true :=
  OpenClaim.laidByTextAt_later rfl rfl tie2 noOwnUnsafe
theorem tie3 : Tryd.prog.laidByTextLater [("overspill/scan.places", Rows.laid_overspill_scan_places), ("overspill/tcoef.codes", Rows.laid_overspill_tcoef_codes), ("overspill/tcoef.lengths", Rows.laid_overspill_tcoef_lengths), ("overspill/dct.weights", Rows.laid_overspill_dct_weights)] [.data, .data, .data, .data] true :=
  Program.laidByTextLater.sub seatTie3 ["overspill/scan.places", "overspill/tcoef.codes", "overspill/tcoef.lengths", "overspill/dct.weights"] (by kernel_rfl) (by kernel_rfl)
theorem residueOf_row_tie : Rows.residueOfRow.laidByTextAt .later Tryd.pinned [.data, .data, .data, .data] true :=
  OpenClaim.laidByTextAt_later rfl rfl tie3 noOwnUnsafe
theorem residueLevels_row_tie : Rows.residueLevelsRow.laidByTextAt .later Tryd.pinned [.data, .data, .data, .data] true :=
  OpenClaim.laidByTextAt_later rfl rfl tie3 noOwnUnsafe
theorem feedCells_row_tie : Rows.feedCellsRow.laidByTextAt .later Tryd.pinned [.data, .data, .data, .data] true :=
  OpenClaim.laidByTextAt_later rfl rfl tie3 noOwnUnsafe
theorem rebuildCells_row_tie : Rows.rebuildCellsRow.laidByTextAt .later Tryd.pinned [.data, .data, .data, .data] true :=
  OpenClaim.laidByTextAt_later rfl rfl tie3 noOwnUnsafe
theorem rebuildSkips_row_tie : Rows.rebuildSkipsRow.laidByTextAt .later Tryd.pinned [.data, .data, .data, .data] true :=
  OpenClaim.laidByTextAt_later rfl rfl tie3 noOwnUnsafe
theorem cellxStays_row_tie : Rows.cellxStaysRow.laidByTextAt .later Tryd.pinned [.data, .data, .data, .data] true :=
  OpenClaim.laidByTextAt_later rfl rfl tie3 noOwnUnsafe
theorem feedBlocksUpto_row_tie : Rows.feedBlocksUptoRow.laidByTextAt .later Tryd.pinned [.data] true :=
  OpenClaim.laidByTextAt_later rfl rfl tie noOwnUnsafe
theorem feedLessUpto_row_tie : Rows.feedLessUptoRow.laidByTextAt .later Tryd.pinned [.data] true :=
  OpenClaim.laidByTextAt_later rfl rfl tie noOwnUnsafe
theorem patternCellsUpto_row_tie : Rows.patternCellsUptoRow.laidByTextAt .later Tryd.pinned [.data, .data, .data] true :=
  OpenClaim.laidByTextAt_later rfl rfl tie2 noOwnUnsafe
theorem patternMayUpto_row_tie : Rows.patternMayUptoRow.laidByTextAt .later Tryd.pinned [.data, .data, .data] true :=
  OpenClaim.laidByTextAt_later rfl rfl tie2 noOwnUnsafe
theorem residueOfUpto_row_tie : Rows.residueOfUptoRow.laidByTextAt .later Tryd.pinned [.data, .data, .data, .data] true :=
  OpenClaim.laidByTextAt_later rfl rfl tie3 noOwnUnsafe
theorem residueLevelsUpto_row_tie : Rows.residueLevelsUptoRow.laidByTextAt .later Tryd.pinned [.data, .data, .data, .data] true :=
  OpenClaim.laidByTextAt_later rfl rfl tie3 noOwnUnsafe
theorem feedCellsUpto_row_tie : Rows.feedCellsUptoRow.laidByTextAt .later Tryd.pinned [.data, .data, .data, .data] true :=
  OpenClaim.laidByTextAt_later rfl rfl tie3 noOwnUnsafe
theorem rebuildCellsUpto_row_tie : Rows.rebuildCellsUptoRow.laidByTextAt .later Tryd.pinned [.data, .data, .data, .data] true :=
  OpenClaim.laidByTextAt_later rfl rfl tie3 noOwnUnsafe
theorem rebuildSkipsUpto_row_tie : Rows.rebuildSkipsUptoRow.laidByTextAt .later Tryd.pinned [.data, .data, .data, .data] true :=
  OpenClaim.laidByTextAt_later rfl rfl tie3 noOwnUnsafe
theorem cellxStaysUpto_row_tie : Rows.cellxStaysUptoRow.laidByTextAt .later Tryd.pinned [.data, .data, .data, .data] true :=
  OpenClaim.laidByTextAt_later rfl rfl tie3 noOwnUnsafe
end Go.Proofs.YtkfaebbbjahcpaaDoor
