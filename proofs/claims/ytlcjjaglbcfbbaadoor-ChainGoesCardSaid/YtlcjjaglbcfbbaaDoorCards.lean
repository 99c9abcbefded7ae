/-
  DERIVED. GIVEN WITH THE SEED: THE CARDS: each row of YtlcjjaglbcfbbaaDoorRows.lean that lists a variable, with what it lists TIED to the program's text (the seventh form; the later family's looks); each row that meets fmt, with fmt's text TOLD by the authors' own Lean function (tested against real Go, not proved from fmt's source: count such statements apart). THE CARD IS WHAT COUNTS. Prove the row's statement (the work); the ties are given (YtlcjjaglbcfbbaaDoorTie.lean); close each card by the builder's one call (the guide's Derived/Test/ToyasCard.lean, 'card_holds'). Laid BY PROGRAM, IN A SANDBOX (cutbox-door.mjs). By AI agents, Wed Nov 11 2026. No macro, syntax, notation, axiom, sorry.
-/
import Derived.Test.YtlcjjaglbcfbbaaDoorRows
import GoSem.ClaimSeven
namespace Go.Proofs.YtlcjjaglbcfbbaaDoor
namespace Rows

/-- THE TIED CARD OF 'overspilllaw25.SoundChecks'. -/
def soundChecksCard : Claim7 := { stood := { row := soundChecksRow, standIns := [], harness := (true, "1d1a4da515cab90300a0ecdb0d06de635f6efba2d528d4365763e977bf5763da"), looks := false }, kinds := [], alts := [], laidByText := true, laidKinds := [.data, .data], laidTests := true, laidLooks := .later }
def SoundChecksCardSaid : Prop := Claim7.holds Tryd.pinned (.plain (OpenSpec.ofChange soundChecksSpec)) soundChecksCard

/-- THE TIED CARD OF 'overspilllaw25.SoundSame'. -/
def soundSameCard : Claim7 := { stood := { row := soundSameRow, standIns := [], harness := (true, "1d1a4da515cab90300a0ecdb0d06de635f6efba2d528d4365763e977bf5763da"), looks := false }, kinds := [], alts := [], laidByText := true, laidKinds := [.data, .data], laidTests := true, laidLooks := .later }
def SoundSameCardSaid : Prop := Claim7.holds Tryd.pinned (.plain (OpenSpec.ofChange soundSameSpec)) soundSameCard

/-- THE TIED CARD OF 'overspilllaw30.QuantsOf'. -/
def quantsOfCard : Claim7 := { stood := { row := quantsOfRow, standIns := [], harness := (true, "1d1a4da515cab90300a0ecdb0d06de635f6efba2d528d4365763e977bf5763da"), looks := false }, kinds := [], alts := [], laidByText := true, laidKinds := [.data, .data], laidTests := true, laidLooks := .later }
def QuantsOfCardSaid : Prop := Claim7.holds Tryd.pinned (.plain (OpenSpec.ofChange quantsOfSpec)) quantsOfCard

/-- THE TIED CARD OF 'overspilllaw30.QuantsGo'. -/
def quantsGoCard : Claim7 := { stood := { row := quantsGoRow, standIns := [], harness := (true, "1d1a4da515cab90300a0ecdb0d06de635f6efba2d528d4365763e977bf5763da"), looks := false }, kinds := [], alts := [], laidByText := true, laidKinds := [.data, .data], laidTests := true, laidLooks := .later }
def QuantsGoCardSaid : Prop := Claim7.holds Tryd.pinned (.plain (OpenSpec.ofChange quantsGoSpec)) quantsGoCard

/-- THE TIED CARD OF 'overspilllaw37.ChainOf'. -/
def chainOfCard : Claim7 := { stood := { row := chainOfRow, standIns := [], harness := (true, "1d1a4da515cab90300a0ecdb0d06de635f6efba2d528d4365763e977bf5763da"), looks := false }, kinds := [], alts := [], laidByText := true, laidKinds := [.data, .data], laidTests := true, laidLooks := .later }
def ChainOfCardSaid : Prop := Claim7.holds Tryd.pinned (.plain (OpenSpec.ofChange chainOfSpec)) chainOfCard

/-- THE TIED CARD OF 'overspilllaw37.ChainGoes'. -/
def chainGoesCard : Claim7 := { stood := { row := chainGoesRow, standIns := [], harness := (true, "1d1a4da515cab90300a0ecdb0d06de635f6efba2d528d4365763e977bf5763da"), looks := false }, kinds := [], alts := [], laidByText := true, laidKinds := [.data, .data], laidTests := true, laidLooks := .later }
def ChainGoesCardSaid : Prop := Claim7.holds Tryd.pinned (.plain (OpenSpec.ofChange chainGoesSpec)) chainGoesCard

/-- THE SECOND FORM's CARD OF 'overspilllaw25.SoundChecks'. -/
def soundChecksUptoCard : Claim7 := { stood := { row := soundChecksUptoRow, standIns := [], harness := (true, "1d1a4da515cab90300a0ecdb0d06de635f6efba2d528d4365763e977bf5763da"), looks := false }, kinds := [], alts := [], laidByText := true, laidKinds := [.data, .data], laidTests := true, laidLooks := .later }
def SoundChecksUptoCardSaid : Prop := Claim7.holds Tryd.pinned (.plain (OpenSpec.upto soundChecksSpec)) soundChecksUptoCard

/-- THE SECOND FORM's CARD OF 'overspilllaw25.SoundSame'. -/
def soundSameUptoCard : Claim7 := { stood := { row := soundSameUptoRow, standIns := [], harness := (true, "1d1a4da515cab90300a0ecdb0d06de635f6efba2d528d4365763e977bf5763da"), looks := false }, kinds := [], alts := [], laidByText := true, laidKinds := [.data, .data], laidTests := true, laidLooks := .later }
def SoundSameUptoCardSaid : Prop := Claim7.holds Tryd.pinned (.plain (OpenSpec.upto soundSameSpec)) soundSameUptoCard

/-- THE SECOND FORM's CARD OF 'overspilllaw30.QuantsOf'. -/
def quantsOfUptoCard : Claim7 := { stood := { row := quantsOfUptoRow, standIns := [], harness := (true, "1d1a4da515cab90300a0ecdb0d06de635f6efba2d528d4365763e977bf5763da"), looks := false }, kinds := [], alts := [], laidByText := true, laidKinds := [.data, .data], laidTests := true, laidLooks := .later }
def QuantsOfUptoCardSaid : Prop := Claim7.holds Tryd.pinned (.plain (OpenSpec.upto quantsOfSpec)) quantsOfUptoCard

/-- THE SECOND FORM's CARD OF 'overspilllaw30.QuantsGo'. -/
def quantsGoUptoCard : Claim7 := { stood := { row := quantsGoUptoRow, standIns := [], harness := (true, "1d1a4da515cab90300a0ecdb0d06de635f6efba2d528d4365763e977bf5763da"), looks := false }, kinds := [], alts := [], laidByText := true, laidKinds := [.data, .data], laidTests := true, laidLooks := .later }
def QuantsGoUptoCardSaid : Prop := Claim7.holds Tryd.pinned (.plain (OpenSpec.upto quantsGoSpec)) quantsGoUptoCard

/-- THE SECOND FORM's CARD OF 'overspilllaw37.ChainOf'. -/
def chainOfUptoCard : Claim7 := { stood := { row := chainOfUptoRow, standIns := [], harness := (true, "1d1a4da515cab90300a0ecdb0d06de635f6efba2d528d4365763e977bf5763da"), looks := false }, kinds := [], alts := [], laidByText := true, laidKinds := [.data, .data], laidTests := true, laidLooks := .later }
def ChainOfUptoCardSaid : Prop := Claim7.holds Tryd.pinned (.plain (OpenSpec.upto chainOfSpec)) chainOfUptoCard

/-- THE SECOND FORM's CARD OF 'overspilllaw37.ChainGoes'. -/
def chainGoesUptoCard : Claim7 := { stood := { row := chainGoesUptoRow, standIns := [], harness := (true, "1d1a4da515cab90300a0ecdb0d06de635f6efba2d528d4365763e977bf5763da"), looks := false }, kinds := [], alts := [], laidByText := true, laidKinds := [.data, .data], laidTests := true, laidLooks := .later }
def ChainGoesUptoCardSaid : Prop := Claim7.holds Tryd.pinned (.plain (OpenSpec.upto chainGoesSpec)) chainGoesUptoCard
end Rows
end Go.Proofs.YtlcjjaglbcfbbaaDoor
