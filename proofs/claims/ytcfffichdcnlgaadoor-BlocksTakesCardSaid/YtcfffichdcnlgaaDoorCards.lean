/-
  DERIVED. GIVEN WITH THE SEED: THE CARDS: each row of YtcfffichdcnlgaaDoorRows.lean that lists a variable, with what it lists TIED to the program's text (the seventh form; the later family's looks); each row that meets fmt, with fmt's text TOLD by the authors' own Lean function (tested against real Go, not proved from fmt's source: count such statements apart). THE CARD IS WHAT COUNTS. Prove the row's statement (the work); the ties are given (YtcfffichdcnlgaaDoorTie.lean); close each card by the builder's one call (the guide's Derived/Test/ToyasCard.lean, 'card_holds'). Laid BY PROGRAM, IN A SANDBOX (cutbox-door.mjs). By AI agents, Wed Nov 11 2026. No macro, syntax, notation, axiom, sorry.
-/
import Derived.Test.YtcfffichdcnlgaaDoorRows
import GoSem.ClaimSeven
namespace Go.Proofs.YtcfffichdcnlgaaDoor
namespace Rows

/-- THE TIED CARD OF 'overspilllaw09.TcoefTakes'. -/
def tcoefTakesCard : Claim7 := { stood := { row := tcoefTakesRow, standIns := [], harness := (true, "d878dbd483a2fceadd0c27019cd98aef64a31643a1d77e8e214d67bfb787c10b"), looks := false }, kinds := [], alts := [], laidByText := true, laidKinds := [.data, .data], laidTests := true, laidLooks := .later }
def TcoefTakesCardSaid : Prop := Claim7.holds Tryd.pinned (.plain (OpenSpec.ofChange tcoefTakesSpec)) tcoefTakesCard

/-- THE TIED CARD OF 'overspilllaw15.BlocksTakes'. -/
def blocksTakesCard : Claim7 := { stood := { row := blocksTakesRow, standIns := [], harness := (true, "d878dbd483a2fceadd0c27019cd98aef64a31643a1d77e8e214d67bfb787c10b"), looks := false }, kinds := [], alts := [], laidByText := true, laidKinds := [.data, .data], laidTests := true, laidLooks := .later }
def BlocksTakesCardSaid : Prop := Claim7.holds Tryd.pinned (.plain (OpenSpec.ofChange blocksTakesSpec)) blocksTakesCard

/-- THE SECOND FORM's CARD OF 'overspilllaw09.TcoefTakes'. -/
def tcoefTakesUptoCard : Claim7 := { stood := { row := tcoefTakesUptoRow, standIns := [], harness := (true, "d878dbd483a2fceadd0c27019cd98aef64a31643a1d77e8e214d67bfb787c10b"), looks := false }, kinds := [], alts := [], laidByText := true, laidKinds := [.data, .data], laidTests := true, laidLooks := .later }
def TcoefTakesUptoCardSaid : Prop := Claim7.holds Tryd.pinned (.plain (OpenSpec.upto tcoefTakesSpec)) tcoefTakesUptoCard

/-- THE SECOND FORM's CARD OF 'overspilllaw15.BlocksTakes'. -/
def blocksTakesUptoCard : Claim7 := { stood := { row := blocksTakesUptoRow, standIns := [], harness := (true, "d878dbd483a2fceadd0c27019cd98aef64a31643a1d77e8e214d67bfb787c10b"), looks := false }, kinds := [], alts := [], laidByText := true, laidKinds := [.data, .data], laidTests := true, laidLooks := .later }
def BlocksTakesUptoCardSaid : Prop := Claim7.holds Tryd.pinned (.plain (OpenSpec.upto blocksTakesSpec)) blocksTakesUptoCard
end Rows
end Go.Proofs.YtcfffichdcnlgaaDoor
