/-
  DERIVED. GIVEN WITH THE SEED: THE CARDS: each row of YtnpokkaalcfbfaaGreatDoorRows.lean that lists a variable, with what it lists TIED to the program's text (the seventh form; the later family's looks); each row that meets fmt, with fmt's text TOLD by the authors' own Lean function (tested against real Go, not proved from fmt's source: count such statements apart). THE CARD IS WHAT COUNTS. Prove the row's statement (the work); the ties are given (YtnpokkaalcfbfaaGreatDoorTie.lean); close each card by the builder's one call (the guide's Derived/Test/ToyasCard.lean, 'card_holds'). Laid BY PROGRAM, IN A SANDBOX (cutbox-door.mjs). By AI agents, Wed Nov 11 2026. No macro, syntax, notation, axiom, sorry.
-/
import Derived.Test.YtnpokkaalcfbfaaGreatDoorRows
import GoSem.ClaimSeven
namespace Go.Proofs.YtnpokkaalcfbfaaGreatDoor
namespace Rows

/-- THE TIED CARD OF 'overspilllaw38.CellxMakes'. -/
def cellxMakesCard : Claim7 := { stood := { row := cellxMakesRow, standIns := [], harness := (true, "d33f57330c83cfa101366d5b56636db899b090b4183d715bdda683d2b59aa52e"), looks := false }, kinds := [], alts := [], laidByText := true, laidKinds := [.data, .data, .data, .data], laidTests := true, laidLooks := .later }
def CellxMakesCardSaid : Prop := Claim7.holds Tryz.pinned (.plain (OpenSpec.ofChange cellxMakesSpec)) cellxMakesCard

/-- THE SECOND FORM's CARD OF 'overspilllaw38.CellxMakes'. -/
def cellxMakesUptoCard : Claim7 := { stood := { row := cellxMakesUptoRow, standIns := [], harness := (true, "d33f57330c83cfa101366d5b56636db899b090b4183d715bdda683d2b59aa52e"), looks := false }, kinds := [], alts := [], laidByText := true, laidKinds := [.data, .data, .data, .data], laidTests := true, laidLooks := .later }
def CellxMakesUptoCardSaid : Prop := Claim7.holds Tryz.pinned (.plain (OpenSpec.upto cellxMakesSpec)) cellxMakesUptoCard
end Rows
end Go.Proofs.YtnpokkaalcfbfaaGreatDoor
