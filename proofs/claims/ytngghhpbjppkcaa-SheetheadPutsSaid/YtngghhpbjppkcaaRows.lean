/-
  No cell of these rows narrows 'for every input' (looked for: loops, veiled, ifaces, maps, wideKeys, modest, calm, conditions, laid).
  DERIVED. THE GIVEN ROWS OF THIS SEAT. 2 by the template 'for every input the law returns true; each argument reads behind the call as it read before'; 0 by the template 'total and deterministic' (their statements: YtngghhpbjppkcaaTotals.lean).
  GIVEN WITH THE SEED: the statements are not yours to turn. If you find one false, say at which input.
  Laid BY PROGRAM, IN A SANDBOX (cutbox-rows.mjs): the forced cells as the released guide's own fill.sh prints them over the translation 30546c1da1cec921… (all of the seat's roots in one cut). By AI agents, Wed Nov 11 2026. No macro, syntax, notation, axiom, sorry.
-/
import Derived.Test.YtngghhpbjppkcaaChecked
import GoSem.Claim
import GoSem.ClaimJoined
import GoSem.ClaimMapViews
import Derived.JoinedTies
import Derived.KernelRfl
namespace Go.Proofs.Ytngghhpbjppkcaa
/- THE CELL 'sum', in the pinned program and in every row, IS THE sha256 OF THE DUMP (.gsa) THAT YtngghhpbjppkcaaProg.lean LOADS. Nothing in Lean hashes anything: it is a label: what it is worth is what the hold of that sum in a sandbox is worth. -/
noncomputable def Try.pinned : Pinned := { name := "ytngghhpbjppkcaa", sum := "30546c1da1cec9211f57aaf861b5c308fe64bb3c04bec0e2cf340d38c5972e5f", checked := Try.checked }
namespace Rows
def none {H : Type} : Left H := { results := [], args := [] }

/-- 'overspilllaw24.SheetheadTakes': WHATEVER THE INPUT: true; the input reads as it did. -/
def sheetheadTakesSpec : ChangeSpec := { name := "sheetheadTakes", fn := fun _ => fun
  | [d1, d2] => { results := [.lit (.bool true)], args := [d1, d2] }
  | _ => none }
def sheetheadTakesRow : OpenClaim := { program := "ytngghhpbjppkcaa", sum := "30546c1da1cec9211f57aaf861b5c308fe64bb3c04bec0e2cf340d38c5972e5f", func := "overspill/overspilllaw24.SheetheadTakes", spec := "sheetheadTakes", unfollowed := true, recurses := true, apart := false }
def SheetheadTakesSaid : Prop := sheetheadTakesRow.holds Try.pinned (OpenSpec.ofChange sheetheadTakesSpec)

/-- ITS FALSE NEIGHBOUR: 'it returns false'. Refute it at one input. -/
def sheetheadTakesWrong : ChangeSpec := { name := "sheetheadTakes", fn := fun _ => fun
  | [d1, d2] => { results := [.lit (.bool false)], args := [d1, d2] }
  | _ => none }
def SheetheadTakesWrongFalsely : Prop := sheetheadTakesRow.holds Try.pinned (OpenSpec.ofChange sheetheadTakesWrong)

/-- 'overspilllaw24.SheetheadPuts': WHATEVER THE INPUT: true; the input reads as it did. -/
def sheetheadPutsSpec : ChangeSpec := { name := "sheetheadPuts", fn := fun _ => fun
  | [d1, d2] => { results := [.lit (.bool true)], args := [d1, d2] }
  | _ => none }
def sheetheadPutsRow : OpenClaim := { program := "ytngghhpbjppkcaa", sum := "30546c1da1cec9211f57aaf861b5c308fe64bb3c04bec0e2cf340d38c5972e5f", func := "overspill/overspilllaw24.SheetheadPuts", spec := "sheetheadPuts", unfollowed := true, recurses := true, apart := false }
def SheetheadPutsSaid : Prop := sheetheadPutsRow.holds Try.pinned (OpenSpec.ofChange sheetheadPutsSpec)

/-- ITS FALSE NEIGHBOUR: 'it returns false'. Refute it at one input. -/
def sheetheadPutsWrong : ChangeSpec := { name := "sheetheadPuts", fn := fun _ => fun
  | [d1, d2] => { results := [.lit (.bool false)], args := [d1, d2] }
  | _ => none }
def SheetheadPutsWrongFalsely : Prop := sheetheadPutsRow.holds Try.pinned (OpenSpec.ofChange sheetheadPutsWrong)

/- THE SECOND FORM. 'bulk': how many values and letters a reading holds, each counted each time it is reached (what is shared counts as often as it is met; a slice's spare places count too). A statement '..UptoSaid' is the law's where the arguments, and the package variables that the reading takes, are together of bulk at most 1048576: NARROWER than '..Said'. Prove '..Said' where nothing that the law and all that it calls make is longer than what came in: it says more and counts as full. Else prove '..UptoSaid'. A law counts once. -/
mutual
def uptoBulk {H : Type} : DataW H → Nat
  | .lit (.string bytes) => bytes.length + 1
  | .lit _ => 1
  | .nil => 1
  | .ptr d => uptoBulk d + 1
  | .slice elems spare => uptoBulkAll elems + uptoBulkAll spare + 1
  | .agg parts => uptoBulkAll parts + 1
  | .iface _ d => uptoBulk d + 1
  | .map entries => uptoBulkEntries entries + 1
  | .held _ => 1
def uptoBulkAll {H : Type} : List (DataW H) → Nat
  | [] => 0
  | d :: r => uptoBulk d + uptoBulkAll r
def uptoBulkEntries {H : Type} : List (Lit × DataW H) → Nat
  | [] => 0
  | x :: r => uptoBulkEntry x + uptoBulkEntries r
def uptoBulkEntry {H : Type} : Lit × DataW H → Nat
  | (.string bytes, d) => bytes.length + uptoBulk d + 1
  | (_, d) => uptoBulk d + 1
 end
def uptoSmall : (H : Type) → List (DataW H) → Bool := fun _ ds => decide (uptoBulkAll ds ≤ 1048576)
def OpenSpec.upto (s : _root_.Go.ChangeSpec) : _root_.Go.OpenSpec := { _root_.Go.OpenSpec.ofChange s with cond := some uptoSmall }

/-- 'overspilllaw24.SheetheadTakes', WHERE WHAT IT READS IS OF BULK AT MOST 1048576: true; the input reads as it did. -/
def sheetheadTakesUptoRow : OpenClaim := { program := "ytngghhpbjppkcaa", sum := "30546c1da1cec9211f57aaf861b5c308fe64bb3c04bec0e2cf340d38c5972e5f", func := "overspill/overspilllaw24.SheetheadTakes", spec := "sheetheadTakes", unfollowed := true, recurses := true, apart := false, narrowed := true }
def SheetheadTakesUptoSaid : Prop := sheetheadTakesUptoRow.holds Try.pinned (OpenSpec.upto sheetheadTakesSpec)

/-- 'overspilllaw24.SheetheadPuts', WHERE WHAT IT READS IS OF BULK AT MOST 1048576: true; the input reads as it did. -/
def sheetheadPutsUptoRow : OpenClaim := { program := "ytngghhpbjppkcaa", sum := "30546c1da1cec9211f57aaf861b5c308fe64bb3c04bec0e2cf340d38c5972e5f", func := "overspill/overspilllaw24.SheetheadPuts", spec := "sheetheadPuts", unfollowed := true, recurses := true, apart := false, narrowed := true }
def SheetheadPutsUptoSaid : Prop := sheetheadPutsUptoRow.holds Try.pinned (OpenSpec.upto sheetheadPutsSpec)

end Rows
end Go.Proofs.Ytngghhpbjppkcaa
