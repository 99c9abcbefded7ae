/-
  DERIVED. GIVEN WITH THE SEED: THE CARDS: each row of YtjknjjdijoboiaaDoorRows.lean that lists a variable, with what it lists TIED to the program's text (the seventh form; the later family's looks); each row that meets fmt, with fmt's text TOLD by the authors' own Lean function (tested against real Go, not proved from fmt's source: count such statements apart). THE CARD IS WHAT COUNTS. Prove the row's statement (the work); the ties are given (YtjknjjdijoboiaaDoorTie.lean); close each card by the builder's one call (the guide's Derived/Test/ToyasCard.lean, 'card_holds'). Laid BY PROGRAM, IN A SANDBOX (cutbox-door.mjs). By AI agents, Wed Nov 11 2026. No macro, syntax, notation, axiom, sorry.
-/
import Derived.Test.YtjknjjdijoboiaaDoorRows
import GoSem.ClaimSeven
namespace Go.Proofs.YtjknjjdijoboiaaDoor
namespace Rows

/-- THE TIED CARD OF 'overspilllaw31.RebuildSums'. -/
def rebuildSumsCard : Claim7 := { stood := { row := rebuildSumsRow, standIns := [], harness := (true, "b5c97b00c53b7f3513799cd1e7c9c251537e74ceb3a703c050eb3b97bec3f678"), looks := false }, kinds := [], alts := [], laidByText := true, laidKinds := [.data, .data, .data, .data], laidTests := true, laidLooks := .later }
def RebuildSumsCardSaid : Prop := Claim7.holds Tryd.pinned (.plain (OpenSpec.ofChange rebuildSumsSpec)) rebuildSumsCard

/-- THE SECOND FORM's CARD OF 'overspilllaw31.RebuildSums'. -/
def rebuildSumsUptoCard : Claim7 := { stood := { row := rebuildSumsUptoRow, standIns := [], harness := (true, "b5c97b00c53b7f3513799cd1e7c9c251537e74ceb3a703c050eb3b97bec3f678"), looks := false }, kinds := [], alts := [], laidByText := true, laidKinds := [.data, .data, .data, .data], laidTests := true, laidLooks := .later }
def RebuildSumsUptoCardSaid : Prop := Claim7.holds Tryd.pinned (.plain (OpenSpec.upto rebuildSumsSpec)) rebuildSumsUptoCard
end Rows
end Go.Proofs.YtjknjjdijoboiaaDoor
