/-
  DERIVED. GIVEN WITH THE SEED: THE CARDS: each row of YtbcgkdigfkapcaaDoorRows.lean that lists a variable, with what it lists TIED to the program's text (the seventh form; the later family's looks); each row that meets fmt, with fmt's text TOLD by the authors' own Lean function (tested against real Go, not proved from fmt's source: count such statements apart). THE CARD IS WHAT COUNTS. Prove the row's statement (the work); the ties are given (YtbcgkdigfkapcaaDoorTie.lean); close each card by the builder's one call (the guide's Derived/Test/ToyasCard.lean, 'card_holds'). Laid BY PROGRAM, IN A SANDBOX (cutbox-door.mjs). By AI agents, Wed Nov 11 2026. No macro, syntax, notation, axiom, sorry.
-/
import Derived.Test.YtbcgkdigfkapcaaDoorRows
import GoSem.ClaimSeven
namespace Go.Proofs.YtbcgkdigfkapcaaDoor
namespace Rows

/-- THE TIED CARD OF 'overspilllaw09.TcoefRows'. -/
def tcoefRowsCard : Claim7 := { stood := { row := tcoefRowsRow, standIns := [], harness := (true, "a1fae3e20b1c2a9a51a7655770b8f7b16119b147c4c6782fa84cebe8e66dff24"), looks := false }, kinds := [], alts := [], laidByText := true, laidKinds := [.data, .data], laidTests := true, laidLooks := .later }
def TcoefRowsCardSaid : Prop := Claim7.holds Tryd.pinned (.plain (OpenSpec.ofChange tcoefRowsSpec)) tcoefRowsCard

/-- THE TIED CARD OF 'overspilllaw09.TcoefTakes'. -/
def tcoefTakesCard : Claim7 := { stood := { row := tcoefTakesRow, standIns := [], harness := (true, "a1fae3e20b1c2a9a51a7655770b8f7b16119b147c4c6782fa84cebe8e66dff24"), looks := false }, kinds := [], alts := [], laidByText := true, laidKinds := [.data, .data], laidTests := true, laidLooks := .later }
def TcoefTakesCardSaid : Prop := Claim7.holds Tryd.pinned (.plain (OpenSpec.ofChange tcoefTakesSpec)) tcoefTakesCard

/-- THE TIED CARD OF 'overspilllaw09.TcoefBack'. -/
def tcoefBackCard : Claim7 := { stood := { row := tcoefBackRow, standIns := [], harness := (true, "a1fae3e20b1c2a9a51a7655770b8f7b16119b147c4c6782fa84cebe8e66dff24"), looks := false }, kinds := [], alts := [], laidByText := true, laidKinds := [.data, .data], laidTests := true, laidLooks := .later }
def TcoefBackCardSaid : Prop := Claim7.holds Tryd.pinned (.plain (OpenSpec.ofChange tcoefBackSpec)) tcoefBackCard

/-- THE TIED CARD OF 'overspilllaw15.BlocksPuts'. -/
def blocksPutsCard : Claim7 := { stood := { row := blocksPutsRow, standIns := [], harness := (true, "a1fae3e20b1c2a9a51a7655770b8f7b16119b147c4c6782fa84cebe8e66dff24"), looks := false }, kinds := [], alts := [], laidByText := true, laidKinds := [.data, .data], laidTests := true, laidLooks := .later }
def BlocksPutsCardSaid : Prop := Claim7.holds Tryd.pinned (.plain (OpenSpec.ofChange blocksPutsSpec)) blocksPutsCard

/-- THE TIED CARD OF 'overspilllaw15.BlocksTakes'. -/
def blocksTakesCard : Claim7 := { stood := { row := blocksTakesRow, standIns := [], harness := (true, "a1fae3e20b1c2a9a51a7655770b8f7b16119b147c4c6782fa84cebe8e66dff24"), looks := false }, kinds := [], alts := [], laidByText := true, laidKinds := [.data, .data], laidTests := true, laidLooks := .later }
def BlocksTakesCardSaid : Prop := Claim7.holds Tryd.pinned (.plain (OpenSpec.ofChange blocksTakesSpec)) blocksTakesCard

/-- THE TIED CARD OF 'overspilllaw15.BlocksBack'. -/
def blocksBackCard : Claim7 := { stood := { row := blocksBackRow, standIns := [], harness := (true, "a1fae3e20b1c2a9a51a7655770b8f7b16119b147c4c6782fa84cebe8e66dff24"), looks := false }, kinds := [], alts := [], laidByText := true, laidKinds := [.data, .data], laidTests := true, laidLooks := .later }
def BlocksBackCardSaid : Prop := Claim7.holds Tryd.pinned (.plain (OpenSpec.ofChange blocksBackSpec)) blocksBackCard

/-- THE SECOND FORM's CARD OF 'overspilllaw09.TcoefRows'. -/
def tcoefRowsUptoCard : Claim7 := { stood := { row := tcoefRowsUptoRow, standIns := [], harness := (true, "a1fae3e20b1c2a9a51a7655770b8f7b16119b147c4c6782fa84cebe8e66dff24"), looks := false }, kinds := [], alts := [], laidByText := true, laidKinds := [.data, .data], laidTests := true, laidLooks := .later }
def TcoefRowsUptoCardSaid : Prop := Claim7.holds Tryd.pinned (.plain (OpenSpec.upto tcoefRowsSpec)) tcoefRowsUptoCard

/-- THE SECOND FORM's CARD OF 'overspilllaw09.TcoefTakes'. -/
def tcoefTakesUptoCard : Claim7 := { stood := { row := tcoefTakesUptoRow, standIns := [], harness := (true, "a1fae3e20b1c2a9a51a7655770b8f7b16119b147c4c6782fa84cebe8e66dff24"), looks := false }, kinds := [], alts := [], laidByText := true, laidKinds := [.data, .data], laidTests := true, laidLooks := .later }
def TcoefTakesUptoCardSaid : Prop := Claim7.holds Tryd.pinned (.plain (OpenSpec.upto tcoefTakesSpec)) tcoefTakesUptoCard

/-- THE SECOND FORM's CARD OF 'overspilllaw09.TcoefBack'. -/
def tcoefBackUptoCard : Claim7 := { stood := { row := tcoefBackUptoRow, standIns := [], harness := (true, "a1fae3e20b1c2a9a51a7655770b8f7b16119b147c4c6782fa84cebe8e66dff24"), looks := false }, kinds := [], alts := [], laidByText := true, laidKinds := [.data, .data], laidTests := true, laidLooks := .later }
def TcoefBackUptoCardSaid : Prop := Claim7.holds Tryd.pinned (.plain (OpenSpec.upto tcoefBackSpec)) tcoefBackUptoCard

/-- THE SECOND FORM's CARD OF 'overspilllaw15.BlocksPuts'. -/
def blocksPutsUptoCard : Claim7 := { stood := { row := blocksPutsUptoRow, standIns := [], harness := (true, "a1fae3e20b1c2a9a51a7655770b8f7b16119b147c4c6782fa84cebe8e66dff24"), looks := false }, kinds := [], alts := [], laidByText := true, laidKinds := [.data, .data], laidTests := true, laidLooks := .later }
def BlocksPutsUptoCardSaid : Prop := Claim7.holds Tryd.pinned (.plain (OpenSpec.upto blocksPutsSpec)) blocksPutsUptoCard

/-- THE SECOND FORM's CARD OF 'overspilllaw15.BlocksTakes'. -/
def blocksTakesUptoCard : Claim7 := { stood := { row := blocksTakesUptoRow, standIns := [], harness := (true, "a1fae3e20b1c2a9a51a7655770b8f7b16119b147c4c6782fa84cebe8e66dff24"), looks := false }, kinds := [], alts := [], laidByText := true, laidKinds := [.data, .data], laidTests := true, laidLooks := .later }
def BlocksTakesUptoCardSaid : Prop := Claim7.holds Tryd.pinned (.plain (OpenSpec.upto blocksTakesSpec)) blocksTakesUptoCard

/-- THE SECOND FORM's CARD OF 'overspilllaw15.BlocksBack'. -/
def blocksBackUptoCard : Claim7 := { stood := { row := blocksBackUptoRow, standIns := [], harness := (true, "a1fae3e20b1c2a9a51a7655770b8f7b16119b147c4c6782fa84cebe8e66dff24"), looks := false }, kinds := [], alts := [], laidByText := true, laidKinds := [.data, .data], laidTests := true, laidLooks := .later }
def BlocksBackUptoCardSaid : Prop := Claim7.holds Tryd.pinned (.plain (OpenSpec.upto blocksBackSpec)) blocksBackUptoCard
end Rows
end Go.Proofs.YtbcgkdigfkapcaaDoor
