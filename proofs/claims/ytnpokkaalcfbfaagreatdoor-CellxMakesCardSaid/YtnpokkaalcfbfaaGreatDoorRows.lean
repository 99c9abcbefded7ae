/-
  NARROWER THAN 'FOR EVERY INPUT', by the rows' own cells (each row's printed sentence says how): CellxMakes: laid.
  DERIVED. THE GIVEN ROWS OF THIS SEAT. 1 by the template 'for every input the law returns true; each argument reads behind the call as it read before'; 0 by the template 'total and deterministic' (their statements: YtnpokkaalcfbfaaGreatDoorTotals.lean).
  GIVEN WITH THE SEED: the statements are not yours to turn. If you find one false, say at which input.
  Laid BY PROGRAM, IN A SANDBOX (cutbox-rows.mjs): the forced cells as the released guide's own fill.sh prints them over the translation 24f29566bccd5bbb… (all of the seat's roots in one cut). By AI agents, Wed Nov 11 2026. No macro, syntax, notation, axiom, sorry.
-/
import Derived.Test.YtnpokkaalcfbfaaGreatDoorChecked
import GoSem.Claim
import GoSem.ClaimJoined
import GoSem.ClaimMapViews
import Derived.JoinedTies
import Derived.KernelRfl
namespace Go.Proofs.YtnpokkaalcfbfaaGreatDoor
/- THE CELL 'sum', in the pinned program and in every row, IS THE sha256 OF THE DUMP (.gsa) THAT YtnpokkaalcfbfaaGreatDoorProg.lean LOADS. Nothing in Lean hashes anything: it is a label: what it is worth is what the hold of that sum in a sandbox is worth. -/
noncomputable def Tryz.pinned : Pinned := { name := "ytnpokkaalcfbfaagreatdoor", sum := "24f29566bccd5bbb32244cab1e0061c19a86dbbe0745646a495f0d72fa7e4a02", checked := Tryz.checked }
namespace Rows
def none {H : Type} : Left H := { results := [], args := [] }

/- WHAT THE LISTED PACKAGE-LEVEL VARIABLES READ AS WHEN THE CALL BEGINS. Each datum BY PROGRAM (the guide's laid-datum.mjs) off the statement by which the dump's own 'gosem.cut.vars' lays the variable. In a bare row this is a premise. The card (YtnpokkaalcfbfaaGreatDoorCards.lean) ties it to the program's text. -/
def laid_overspill_scan_places {H : Type} : DataW H := .agg [.lit (.int .i64 0), .lit (.int .i64 1), .lit (.int .i64 8), .lit (.int .i64 16), .lit (.int .i64 9), .lit (.int .i64 2), .lit (.int .i64 3), .lit (.int .i64 10), .lit (.int .i64 17), .lit (.int .i64 24), .lit (.int .i64 32), .lit (.int .i64 25), .lit (.int .i64 18), .lit (.int .i64 11), .lit (.int .i64 4), .lit (.int .i64 5), .lit (.int .i64 12), .lit (.int .i64 19), .lit (.int .i64 26), .lit (.int .i64 33), .lit (.int .i64 40), .lit (.int .i64 48), .lit (.int .i64 41), .lit (.int .i64 34), .lit (.int .i64 27), .lit (.int .i64 20), .lit (.int .i64 13), .lit (.int .i64 6), .lit (.int .i64 7), .lit (.int .i64 14), .lit (.int .i64 21), .lit (.int .i64 28), .lit (.int .i64 35), .lit (.int .i64 42), .lit (.int .i64 49), .lit (.int .i64 56), .lit (.int .i64 57), .lit (.int .i64 50), .lit (.int .i64 43), .lit (.int .i64 36), .lit (.int .i64 29), .lit (.int .i64 22), .lit (.int .i64 15), .lit (.int .i64 23), .lit (.int .i64 30), .lit (.int .i64 37), .lit (.int .i64 44), .lit (.int .i64 51), .lit (.int .i64 58), .lit (.int .i64 59), .lit (.int .i64 52), .lit (.int .i64 45), .lit (.int .i64 38), .lit (.int .i64 31), .lit (.int .i64 39), .lit (.int .i64 46), .lit (.int .i64 53), .lit (.int .i64 60), .lit (.int .i64 61), .lit (.int .i64 54), .lit (.int .i64 47), .lit (.int .i64 55), .lit (.int .i64 62), .lit (.int .i64 63)]
def laid_overspill_tcoef_codes {H : Type} : DataW H := .agg [.lit (.int .i64 2), .lit (.int .i64 15), .lit (.int .i64 21), .lit (.int .i64 23), .lit (.int .i64 31), .lit (.int .i64 37), .lit (.int .i64 36), .lit (.int .i64 33), .lit (.int .i64 32), .lit (.int .i64 7), .lit (.int .i64 6), .lit (.int .i64 32), .lit (.int .i64 6), .lit (.int .i64 20), .lit (.int .i64 30), .lit (.int .i64 15), .lit (.int .i64 33), .lit (.int .i64 80), .lit (.int .i64 14), .lit (.int .i64 29), .lit (.int .i64 14), .lit (.int .i64 81), .lit (.int .i64 13), .lit (.int .i64 35), .lit (.int .i64 13), .lit (.int .i64 12), .lit (.int .i64 34), .lit (.int .i64 82), .lit (.int .i64 11), .lit (.int .i64 12), .lit (.int .i64 83), .lit (.int .i64 19), .lit (.int .i64 11), .lit (.int .i64 84), .lit (.int .i64 18), .lit (.int .i64 10), .lit (.int .i64 17), .lit (.int .i64 9), .lit (.int .i64 16), .lit (.int .i64 8), .lit (.int .i64 22), .lit (.int .i64 85), .lit (.int .i64 21), .lit (.int .i64 20), .lit (.int .i64 28), .lit (.int .i64 27), .lit (.int .i64 33), .lit (.int .i64 32), .lit (.int .i64 31), .lit (.int .i64 30), .lit (.int .i64 29), .lit (.int .i64 28), .lit (.int .i64 27), .lit (.int .i64 26), .lit (.int .i64 34), .lit (.int .i64 35), .lit (.int .i64 86), .lit (.int .i64 87), .lit (.int .i64 7), .lit (.int .i64 25), .lit (.int .i64 5), .lit (.int .i64 15), .lit (.int .i64 4), .lit (.int .i64 14), .lit (.int .i64 13), .lit (.int .i64 12), .lit (.int .i64 19), .lit (.int .i64 18), .lit (.int .i64 17), .lit (.int .i64 16), .lit (.int .i64 26), .lit (.int .i64 25), .lit (.int .i64 24), .lit (.int .i64 23), .lit (.int .i64 22), .lit (.int .i64 21), .lit (.int .i64 20), .lit (.int .i64 19), .lit (.int .i64 24), .lit (.int .i64 23), .lit (.int .i64 22), .lit (.int .i64 21), .lit (.int .i64 20), .lit (.int .i64 19), .lit (.int .i64 18), .lit (.int .i64 17), .lit (.int .i64 7), .lit (.int .i64 6), .lit (.int .i64 5), .lit (.int .i64 4), .lit (.int .i64 36), .lit (.int .i64 37), .lit (.int .i64 38), .lit (.int .i64 39), .lit (.int .i64 88), .lit (.int .i64 89), .lit (.int .i64 90), .lit (.int .i64 91), .lit (.int .i64 92), .lit (.int .i64 93), .lit (.int .i64 94), .lit (.int .i64 95)]
def laid_overspill_tcoef_lengths {H : Type} : DataW H := .agg [.lit (.int .i64 2), .lit (.int .i64 4), .lit (.int .i64 6), .lit (.int .i64 7), .lit (.int .i64 8), .lit (.int .i64 9), .lit (.int .i64 9), .lit (.int .i64 10), .lit (.int .i64 10), .lit (.int .i64 11), .lit (.int .i64 11), .lit (.int .i64 11), .lit (.int .i64 3), .lit (.int .i64 6), .lit (.int .i64 8), .lit (.int .i64 10), .lit (.int .i64 11), .lit (.int .i64 12), .lit (.int .i64 4), .lit (.int .i64 8), .lit (.int .i64 10), .lit (.int .i64 12), .lit (.int .i64 5), .lit (.int .i64 9), .lit (.int .i64 10), .lit (.int .i64 5), .lit (.int .i64 9), .lit (.int .i64 12), .lit (.int .i64 5), .lit (.int .i64 10), .lit (.int .i64 12), .lit (.int .i64 6), .lit (.int .i64 10), .lit (.int .i64 12), .lit (.int .i64 6), .lit (.int .i64 10), .lit (.int .i64 6), .lit (.int .i64 10), .lit (.int .i64 6), .lit (.int .i64 10), .lit (.int .i64 7), .lit (.int .i64 12), .lit (.int .i64 7), .lit (.int .i64 7), .lit (.int .i64 8), .lit (.int .i64 8), .lit (.int .i64 9), .lit (.int .i64 9), .lit (.int .i64 9), .lit (.int .i64 9), .lit (.int .i64 9), .lit (.int .i64 9), .lit (.int .i64 9), .lit (.int .i64 9), .lit (.int .i64 11), .lit (.int .i64 11), .lit (.int .i64 12), .lit (.int .i64 12), .lit (.int .i64 4), .lit (.int .i64 9), .lit (.int .i64 11), .lit (.int .i64 6), .lit (.int .i64 11), .lit (.int .i64 6), .lit (.int .i64 6), .lit (.int .i64 6), .lit (.int .i64 7), .lit (.int .i64 7), .lit (.int .i64 7), .lit (.int .i64 7), .lit (.int .i64 8), .lit (.int .i64 8), .lit (.int .i64 8), .lit (.int .i64 8), .lit (.int .i64 8), .lit (.int .i64 8), .lit (.int .i64 8), .lit (.int .i64 8), .lit (.int .i64 9), .lit (.int .i64 9), .lit (.int .i64 9), .lit (.int .i64 9), .lit (.int .i64 9), .lit (.int .i64 9), .lit (.int .i64 9), .lit (.int .i64 9), .lit (.int .i64 10), .lit (.int .i64 10), .lit (.int .i64 10), .lit (.int .i64 10), .lit (.int .i64 11), .lit (.int .i64 11), .lit (.int .i64 11), .lit (.int .i64 11), .lit (.int .i64 12), .lit (.int .i64 12), .lit (.int .i64 12), .lit (.int .i64 12), .lit (.int .i64 12), .lit (.int .i64 12), .lit (.int .i64 12), .lit (.int .i64 12)]
def laid_overspill_dct_weights {H : Type} : DataW H := .agg [.agg [.lit (.int .i64 64), .lit (.int .i64 64), .lit (.int .i64 64), .lit (.int .i64 64), .lit (.int .i64 64), .lit (.int .i64 64), .lit (.int .i64 64), .lit (.int .i64 64)], .agg [.lit (.int .i64 89), .lit (.int .i64 75), .lit (.int .i64 50), .lit (.int .i64 18), .lit (.int .i64 (-18)), .lit (.int .i64 (-50)), .lit (.int .i64 (-75)), .lit (.int .i64 (-89))], .agg [.lit (.int .i64 83), .lit (.int .i64 36), .lit (.int .i64 (-36)), .lit (.int .i64 (-83)), .lit (.int .i64 (-83)), .lit (.int .i64 (-36)), .lit (.int .i64 36), .lit (.int .i64 83)], .agg [.lit (.int .i64 75), .lit (.int .i64 (-18)), .lit (.int .i64 (-89)), .lit (.int .i64 (-50)), .lit (.int .i64 50), .lit (.int .i64 89), .lit (.int .i64 18), .lit (.int .i64 (-75))], .agg [.lit (.int .i64 64), .lit (.int .i64 (-64)), .lit (.int .i64 (-64)), .lit (.int .i64 64), .lit (.int .i64 64), .lit (.int .i64 (-64)), .lit (.int .i64 (-64)), .lit (.int .i64 64)], .agg [.lit (.int .i64 50), .lit (.int .i64 (-89)), .lit (.int .i64 18), .lit (.int .i64 75), .lit (.int .i64 (-75)), .lit (.int .i64 (-18)), .lit (.int .i64 89), .lit (.int .i64 (-50))], .agg [.lit (.int .i64 36), .lit (.int .i64 (-83)), .lit (.int .i64 83), .lit (.int .i64 (-36)), .lit (.int .i64 (-36)), .lit (.int .i64 83), .lit (.int .i64 (-83)), .lit (.int .i64 36)], .agg [.lit (.int .i64 18), .lit (.int .i64 (-50)), .lit (.int .i64 75), .lit (.int .i64 (-89)), .lit (.int .i64 89), .lit (.int .i64 (-75)), .lit (.int .i64 50), .lit (.int .i64 (-18))]]

/-- 'overspilllaw38.CellxMakes': WHATEVER THE INPUT: true; the input reads as it did. -/
def cellxMakesSpec : ChangeSpec := { name := "cellxMakes", fn := fun _ => fun
  | [d1, d2, d3] => { results := [.lit (.bool true)], args := [d1, d2, d3] }
  | _ => none }
def cellxMakesRow : OpenClaim := { program := "ytnpokkaalcfbfaagreatdoor", sum := "24f29566bccd5bbb32244cab1e0061c19a86dbbe0745646a495f0d72fa7e4a02", func := "overspill/overspilllaw38.CellxMakes", spec := "cellxMakes", inPlace := ["internal/bytealg.MakeNoZero"], unfollowed := true, recurses := true, named := ["overspill/scan.places", "overspill/tcoef.codes", "overspill/tcoef.lengths", "overspill/dct.weights"], apart := false, laid := [("overspill/scan.places", laid_overspill_scan_places), ("overspill/tcoef.codes", laid_overspill_tcoef_codes), ("overspill/tcoef.lengths", laid_overspill_tcoef_lengths), ("overspill/dct.weights", laid_overspill_dct_weights)] }
def CellxMakesSaid : Prop := cellxMakesRow.holds Tryz.pinned (OpenSpec.ofChange cellxMakesSpec)

/-- ITS FALSE NEIGHBOUR: 'it returns false'. Refute it at one input. -/
def cellxMakesWrong : ChangeSpec := { name := "cellxMakes", fn := fun _ => fun
  | [d1, d2, d3] => { results := [.lit (.bool false)], args := [d1, d2, d3] }
  | _ => none }
def CellxMakesWrongFalsely : Prop := cellxMakesRow.holds Tryz.pinned (OpenSpec.ofChange cellxMakesWrong)

/- THE SECOND FORM. 'bulk': how many values and letters a reading holds, each counted each time it is reached (what is shared counts as often as it is met; a slice's spare places count too). A statement '..UptoSaid' is the law's where the arguments, and the package variables that the reading takes, are together of bulk at most 1048576: NARROWER than '..Said'. Prove '..Said' where nothing that the law and all that it calls make is longer than what came in: it says more and counts as full. Else prove '..UptoSaid'. A law counts once. -/
mutual
def uptoBulk {H : Type} : DataW H → Nat
  | .lit (.string bytes) => bytes.length + 1
  | .lit _ => 1
  | .nil => 1
  | .ptr d => uptoBulk d + 1
  | .slice elems spare => uptoBulkAll elems + uptoBulkAll spare + 1
  | .agg parts => uptoBulkAll parts + 1
  | .iface _ d => uptoBulk d + 1
  | .map entries => uptoBulkEntries entries + 1
  | .held _ => 1
def uptoBulkAll {H : Type} : List (DataW H) → Nat
  | [] => 0
  | d :: r => uptoBulk d + uptoBulkAll r
def uptoBulkEntries {H : Type} : List (Lit × DataW H) → Nat
  | [] => 0
  | x :: r => uptoBulkEntry x + uptoBulkEntries r
def uptoBulkEntry {H : Type} : Lit × DataW H → Nat
  | (.string bytes, d) => bytes.length + uptoBulk d + 1
  | (_, d) => uptoBulk d + 1
 end
def uptoSmall : (H : Type) → List (DataW H) → Bool := fun _ ds => decide (uptoBulkAll ds ≤ 1048576)
def OpenSpec.upto (s : _root_.Go.ChangeSpec) : _root_.Go.OpenSpec := { _root_.Go.OpenSpec.ofChange s with cond := some uptoSmall }

/-- 'overspilllaw38.CellxMakes', WHERE WHAT IT READS IS OF BULK AT MOST 1048576: true; the input reads as it did. -/
def cellxMakesUptoRow : OpenClaim := { program := "ytnpokkaalcfbfaagreatdoor", sum := "24f29566bccd5bbb32244cab1e0061c19a86dbbe0745646a495f0d72fa7e4a02", func := "overspill/overspilllaw38.CellxMakes", spec := "cellxMakes", inPlace := ["internal/bytealg.MakeNoZero"], unfollowed := true, recurses := true, named := ["overspill/scan.places", "overspill/tcoef.codes", "overspill/tcoef.lengths", "overspill/dct.weights"], apart := false, laid := [("overspill/scan.places", laid_overspill_scan_places), ("overspill/tcoef.codes", laid_overspill_tcoef_codes), ("overspill/tcoef.lengths", laid_overspill_tcoef_lengths), ("overspill/dct.weights", laid_overspill_dct_weights)], narrowed := true }
def CellxMakesUptoSaid : Prop := cellxMakesUptoRow.holds Tryz.pinned (OpenSpec.upto cellxMakesSpec)

end Rows
end Go.Proofs.YtnpokkaalcfbfaaGreatDoor
