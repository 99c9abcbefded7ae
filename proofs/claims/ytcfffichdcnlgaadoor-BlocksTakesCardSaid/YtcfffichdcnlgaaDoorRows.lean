/-
  NARROWER THAN 'FOR EVERY INPUT', by the rows' own cells (each row's printed sentence says how): TcoefTakes: laid · BlocksTakes: laid.
  DERIVED. THE GIVEN ROWS OF THIS SEAT. 2 by the template 'for every input the law returns true; each argument reads behind the call as it read before'; 0 by the template 'total and deterministic' (their statements: YtcfffichdcnlgaaDoorTotals.lean).
  GIVEN WITH THE SEED: the statements are not yours to turn. If you find one false, say at which input.
  Laid BY PROGRAM, IN A SANDBOX (cutbox-rows.mjs): the forced cells as the released guide's own fill.sh prints them over the translation 408f099ee7367afe… (all of the seat's roots in one cut). By AI agents, Wed Nov 11 2026. No macro, syntax, notation, axiom, sorry.
-/
import Derived.Test.YtcfffichdcnlgaaDoorChecked
import GoSem.Claim
import GoSem.ClaimJoined
import GoSem.ClaimMapViews
import Derived.JoinedTies
import Derived.KernelRfl
namespace Go.Proofs.YtcfffichdcnlgaaDoor
/- THE CELL 'sum', in the pinned program and in every row, IS THE sha256 OF THE DUMP (.gsa) THAT YtcfffichdcnlgaaDoorProg.lean LOADS. Nothing in Lean hashes anything: it is a label: what it is worth is what the hold of that sum in a sandbox is worth. -/
noncomputable def Tryd.pinned : Pinned := { name := "ytcfffichdcnlgaadoor", sum := "408f099ee7367afe0cf32da84d0a78efc6c0bf9d9877f5ad19fb7ed2bfbfd01c", checked := Tryd.checked }
namespace Rows
def none {H : Type} : Left H := { results := [], args := [] }

/- WHAT THE LISTED PACKAGE-LEVEL VARIABLES READ AS WHEN THE CALL BEGINS. Each datum BY PROGRAM (the guide's laid-datum.mjs) off the statement by which the dump's own 'gosem.cut.vars' lays the variable. In a bare row this is a premise. The card (YtcfffichdcnlgaaDoorCards.lean) ties it to the program's text. -/
def laid_overspill_tcoef_codes {H : Type} : DataW H := .agg [.lit (.int .i64 2), .lit (.int .i64 15), .lit (.int .i64 21), .lit (.int .i64 23), .lit (.int .i64 31), .lit (.int .i64 37), .lit (.int .i64 36), .lit (.int .i64 33), .lit (.int .i64 32), .lit (.int .i64 7), .lit (.int .i64 6), .lit (.int .i64 32), .lit (.int .i64 6), .lit (.int .i64 20), .lit (.int .i64 30), .lit (.int .i64 15), .lit (.int .i64 33), .lit (.int .i64 80), .lit (.int .i64 14), .lit (.int .i64 29), .lit (.int .i64 14), .lit (.int .i64 81), .lit (.int .i64 13), .lit (.int .i64 35), .lit (.int .i64 13), .lit (.int .i64 12), .lit (.int .i64 34), .lit (.int .i64 82), .lit (.int .i64 11), .lit (.int .i64 12), .lit (.int .i64 83), .lit (.int .i64 19), .lit (.int .i64 11), .lit (.int .i64 84), .lit (.int .i64 18), .lit (.int .i64 10), .lit (.int .i64 17), .lit (.int .i64 9), .lit (.int .i64 16), .lit (.int .i64 8), .lit (.int .i64 22), .lit (.int .i64 85), .lit (.int .i64 21), .lit (.int .i64 20), .lit (.int .i64 28), .lit (.int .i64 27), .lit (.int .i64 33), .lit (.int .i64 32), .lit (.int .i64 31), .lit (.int .i64 30), .lit (.int .i64 29), .lit (.int .i64 28), .lit (.int .i64 27), .lit (.int .i64 26), .lit (.int .i64 34), .lit (.int .i64 35), .lit (.int .i64 86), .lit (.int .i64 87), .lit (.int .i64 7), .lit (.int .i64 25), .lit (.int .i64 5), .lit (.int .i64 15), .lit (.int .i64 4), .lit (.int .i64 14), .lit (.int .i64 13), .lit (.int .i64 12), .lit (.int .i64 19), .lit (.int .i64 18), .lit (.int .i64 17), .lit (.int .i64 16), .lit (.int .i64 26), .lit (.int .i64 25), .lit (.int .i64 24), .lit (.int .i64 23), .lit (.int .i64 22), .lit (.int .i64 21), .lit (.int .i64 20), .lit (.int .i64 19), .lit (.int .i64 24), .lit (.int .i64 23), .lit (.int .i64 22), .lit (.int .i64 21), .lit (.int .i64 20), .lit (.int .i64 19), .lit (.int .i64 18), .lit (.int .i64 17), .lit (.int .i64 7), .lit (.int .i64 6), .lit (.int .i64 5), .lit (.int .i64 4), .lit (.int .i64 36), .lit (.int .i64 37), .lit (.int .i64 38), .lit (.int .i64 39), .lit (.int .i64 88), .lit (.int .i64 89), .lit (.int .i64 90), .lit (.int .i64 91), .lit (.int .i64 92), .lit (.int .i64 93), .lit (.int .i64 94), .lit (.int .i64 95)]
def laid_overspill_tcoef_lengths {H : Type} : DataW H := .agg [.lit (.int .i64 2), .lit (.int .i64 4), .lit (.int .i64 6), .lit (.int .i64 7), .lit (.int .i64 8), .lit (.int .i64 9), .lit (.int .i64 9), .lit (.int .i64 10), .lit (.int .i64 10), .lit (.int .i64 11), .lit (.int .i64 11), .lit (.int .i64 11), .lit (.int .i64 3), .lit (.int .i64 6), .lit (.int .i64 8), .lit (.int .i64 10), .lit (.int .i64 11), .lit (.int .i64 12), .lit (.int .i64 4), .lit (.int .i64 8), .lit (.int .i64 10), .lit (.int .i64 12), .lit (.int .i64 5), .lit (.int .i64 9), .lit (.int .i64 10), .lit (.int .i64 5), .lit (.int .i64 9), .lit (.int .i64 12), .lit (.int .i64 5), .lit (.int .i64 10), .lit (.int .i64 12), .lit (.int .i64 6), .lit (.int .i64 10), .lit (.int .i64 12), .lit (.int .i64 6), .lit (.int .i64 10), .lit (.int .i64 6), .lit (.int .i64 10), .lit (.int .i64 6), .lit (.int .i64 10), .lit (.int .i64 7), .lit (.int .i64 12), .lit (.int .i64 7), .lit (.int .i64 7), .lit (.int .i64 8), .lit (.int .i64 8), .lit (.int .i64 9), .lit (.int .i64 9), .lit (.int .i64 9), .lit (.int .i64 9), .lit (.int .i64 9), .lit (.int .i64 9), .lit (.int .i64 9), .lit (.int .i64 9), .lit (.int .i64 11), .lit (.int .i64 11), .lit (.int .i64 12), .lit (.int .i64 12), .lit (.int .i64 4), .lit (.int .i64 9), .lit (.int .i64 11), .lit (.int .i64 6), .lit (.int .i64 11), .lit (.int .i64 6), .lit (.int .i64 6), .lit (.int .i64 6), .lit (.int .i64 7), .lit (.int .i64 7), .lit (.int .i64 7), .lit (.int .i64 7), .lit (.int .i64 8), .lit (.int .i64 8), .lit (.int .i64 8), .lit (.int .i64 8), .lit (.int .i64 8), .lit (.int .i64 8), .lit (.int .i64 8), .lit (.int .i64 8), .lit (.int .i64 9), .lit (.int .i64 9), .lit (.int .i64 9), .lit (.int .i64 9), .lit (.int .i64 9), .lit (.int .i64 9), .lit (.int .i64 9), .lit (.int .i64 9), .lit (.int .i64 10), .lit (.int .i64 10), .lit (.int .i64 10), .lit (.int .i64 10), .lit (.int .i64 11), .lit (.int .i64 11), .lit (.int .i64 11), .lit (.int .i64 11), .lit (.int .i64 12), .lit (.int .i64 12), .lit (.int .i64 12), .lit (.int .i64 12), .lit (.int .i64 12), .lit (.int .i64 12), .lit (.int .i64 12), .lit (.int .i64 12)]

/-- 'overspilllaw09.TcoefTakes': WHATEVER THE INPUT: true; the input reads as it did. -/
def tcoefTakesSpec : ChangeSpec := { name := "tcoefTakes", fn := fun _ => fun
  | [d1, d2] => { results := [.lit (.bool true)], args := [d1, d2] }
  | _ => none }
def tcoefTakesRow : OpenClaim := { program := "ytcfffichdcnlgaadoor", sum := "408f099ee7367afe0cf32da84d0a78efc6c0bf9d9877f5ad19fb7ed2bfbfd01c", func := "overspill/overspilllaw09.TcoefTakes", spec := "tcoefTakes", named := ["overspill/tcoef.codes", "overspill/tcoef.lengths"], apart := false, laid := [("overspill/tcoef.codes", laid_overspill_tcoef_codes), ("overspill/tcoef.lengths", laid_overspill_tcoef_lengths)] }
def TcoefTakesSaid : Prop := tcoefTakesRow.holds Tryd.pinned (OpenSpec.ofChange tcoefTakesSpec)

/-- ITS FALSE NEIGHBOUR: 'it returns false'. Refute it at one input. -/
def tcoefTakesWrong : ChangeSpec := { name := "tcoefTakes", fn := fun _ => fun
  | [d1, d2] => { results := [.lit (.bool false)], args := [d1, d2] }
  | _ => none }
def TcoefTakesWrongFalsely : Prop := tcoefTakesRow.holds Tryd.pinned (OpenSpec.ofChange tcoefTakesWrong)

/-- 'overspilllaw15.BlocksTakes': WHATEVER THE INPUT: true; the input reads as it did. -/
def blocksTakesSpec : ChangeSpec := { name := "blocksTakes", fn := fun _ => fun
  | [d1, d2, d3] => { results := [.lit (.bool true)], args := [d1, d2, d3] }
  | _ => none }
def blocksTakesRow : OpenClaim := { program := "ytcfffichdcnlgaadoor", sum := "408f099ee7367afe0cf32da84d0a78efc6c0bf9d9877f5ad19fb7ed2bfbfd01c", func := "overspill/overspilllaw15.BlocksTakes", spec := "blocksTakes", named := ["overspill/tcoef.codes", "overspill/tcoef.lengths"], apart := false, laid := [("overspill/tcoef.codes", laid_overspill_tcoef_codes), ("overspill/tcoef.lengths", laid_overspill_tcoef_lengths)] }
def BlocksTakesSaid : Prop := blocksTakesRow.holds Tryd.pinned (OpenSpec.ofChange blocksTakesSpec)

/-- ITS FALSE NEIGHBOUR: 'it returns false'. Refute it at one input. -/
def blocksTakesWrong : ChangeSpec := { name := "blocksTakes", fn := fun _ => fun
  | [d1, d2, d3] => { results := [.lit (.bool false)], args := [d1, d2, d3] }
  | _ => none }
def BlocksTakesWrongFalsely : Prop := blocksTakesRow.holds Tryd.pinned (OpenSpec.ofChange blocksTakesWrong)

/- THE SECOND FORM. 'bulk': how many values and letters a reading holds, each counted each time it is reached (what is shared counts as often as it is met; a slice's spare places count too). A statement '..UptoSaid' is the law's where the arguments, and the package variables that the reading takes, are together of bulk at most 1048576: NARROWER than '..Said'. Prove '..Said' where nothing that the law and all that it calls make is longer than what came in: it says more and counts as full. Else prove '..UptoSaid'. A law counts once. -/
mutual
def uptoBulk {H : Type} : DataW H → Nat
  | .lit (.string bytes) => bytes.length + 1
  | .lit _ => 1
  | .nil => 1
  | .ptr d => uptoBulk d + 1
  | .slice elems spare => uptoBulkAll elems + uptoBulkAll spare + 1
  | .agg parts => uptoBulkAll parts + 1
  | .iface _ d => uptoBulk d + 1
  | .map entries => uptoBulkEntries entries + 1
  | .held _ => 1
def uptoBulkAll {H : Type} : List (DataW H) → Nat
  | [] => 0
  | d :: r => uptoBulk d + uptoBulkAll r
def uptoBulkEntries {H : Type} : List (Lit × DataW H) → Nat
  | [] => 0
  | x :: r => uptoBulkEntry x + uptoBulkEntries r
def uptoBulkEntry {H : Type} : Lit × DataW H → Nat
  | (.string bytes, d) => bytes.length + uptoBulk d + 1
  | (_, d) => uptoBulk d + 1
 end
def uptoSmall : (H : Type) → List (DataW H) → Bool := fun _ ds => decide (uptoBulkAll ds ≤ 1048576)
def OpenSpec.upto (s : _root_.Go.ChangeSpec) : _root_.Go.OpenSpec := { _root_.Go.OpenSpec.ofChange s with cond := some uptoSmall }

/-- 'overspilllaw09.TcoefTakes', WHERE WHAT IT READS IS OF BULK AT MOST 1048576: true; the input reads as it did. -/
def tcoefTakesUptoRow : OpenClaim := { program := "ytcfffichdcnlgaadoor", sum := "408f099ee7367afe0cf32da84d0a78efc6c0bf9d9877f5ad19fb7ed2bfbfd01c", func := "overspill/overspilllaw09.TcoefTakes", spec := "tcoefTakes", named := ["overspill/tcoef.codes", "overspill/tcoef.lengths"], apart := false, laid := [("overspill/tcoef.codes", laid_overspill_tcoef_codes), ("overspill/tcoef.lengths", laid_overspill_tcoef_lengths)], narrowed := true }
def TcoefTakesUptoSaid : Prop := tcoefTakesUptoRow.holds Tryd.pinned (OpenSpec.upto tcoefTakesSpec)

/-- 'overspilllaw15.BlocksTakes', WHERE WHAT IT READS IS OF BULK AT MOST 1048576: true; the input reads as it did. -/
def blocksTakesUptoRow : OpenClaim := { program := "ytcfffichdcnlgaadoor", sum := "408f099ee7367afe0cf32da84d0a78efc6c0bf9d9877f5ad19fb7ed2bfbfd01c", func := "overspill/overspilllaw15.BlocksTakes", spec := "blocksTakes", named := ["overspill/tcoef.codes", "overspill/tcoef.lengths"], apart := false, laid := [("overspill/tcoef.codes", laid_overspill_tcoef_codes), ("overspill/tcoef.lengths", laid_overspill_tcoef_lengths)], narrowed := true }
def BlocksTakesUptoSaid : Prop := blocksTakesUptoRow.holds Tryd.pinned (OpenSpec.upto blocksTakesSpec)

end Rows
end Go.Proofs.YtcfffichdcnlgaaDoor
