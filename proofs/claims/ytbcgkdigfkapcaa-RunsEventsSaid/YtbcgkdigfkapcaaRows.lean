/-
  No cell of these rows narrows 'for every input' (looked for: loops, veiled, ifaces, maps, wideKeys, modest, calm, conditions, laid).
  DERIVED. THE GIVEN ROWS OF THIS SEAT. 5 by the template 'for every input the law returns true; each argument reads behind the call as it read before'; 0 by the template 'total and deterministic' (their statements: YtbcgkdigfkapcaaTotals.lean).
  GIVEN WITH THE SEED: the statements are not yours to turn. If you find one false, say at which input.
  Laid BY PROGRAM, IN A SANDBOX (cutbox-rows.mjs): the forced cells as the released guide's own fill.sh prints them over the translation aedc0cf32dcae7ae… (all of the seat's roots in one cut). By AI agents, Wed Nov 11 2026. No macro, syntax, notation, axiom, sorry.
-/
import Derived.Test.YtbcgkdigfkapcaaChecked
import GoSem.Claim
import GoSem.ClaimJoined
import GoSem.ClaimMapViews
import Derived.JoinedTies
import Derived.KernelRfl
namespace Go.Proofs.Ytbcgkdigfkapcaa
/- THE CELL 'sum', in the pinned program and in every row, IS THE sha256 OF THE DUMP (.gsa) THAT YtbcgkdigfkapcaaProg.lean LOADS. Nothing in Lean hashes anything: it is a label: what it is worth is what the hold of that sum in a sandbox is worth. -/
noncomputable def Try.pinned : Pinned := { name := "ytbcgkdigfkapcaa", sum := "aedc0cf32dcae7aeb626bc2f10816a1c81b967dbb99fe6ae57d6afaf8b6d7ee9", checked := Try.checked }
namespace Rows
def none {H : Type} : Left H := { results := [], args := [] }

/-- 'overspilllaw10.RunsEvents': WHATEVER THE INPUT: true; the input reads as it did. -/
def runsEventsSpec : ChangeSpec := { name := "runsEvents", fn := fun _ => fun
  | [d1, d2] => { results := [.lit (.bool true)], args := [d1, d2] }
  | _ => none }
def runsEventsRow : OpenClaim := { program := "ytbcgkdigfkapcaa", sum := "aedc0cf32dcae7aeb626bc2f10816a1c81b967dbb99fe6ae57d6afaf8b6d7ee9", func := "overspill/overspilllaw10.RunsEvents", spec := "runsEvents", apart := false }
def RunsEventsSaid : Prop := runsEventsRow.holds Try.pinned (OpenSpec.ofChange runsEventsSpec)

/-- ITS FALSE NEIGHBOUR: 'it returns false'. Refute it at one input. -/
def runsEventsWrong : ChangeSpec := { name := "runsEvents", fn := fun _ => fun
  | [d1, d2] => { results := [.lit (.bool false)], args := [d1, d2] }
  | _ => none }
def RunsEventsWrongFalsely : Prop := runsEventsRow.holds Try.pinned (OpenSpec.ofChange runsEventsWrong)

/-- 'overspilllaw10.RunsLevels': WHATEVER THE INPUT: true; the input reads as it did. -/
def runsLevelsSpec : ChangeSpec := { name := "runsLevels", fn := fun _ => fun
  | [d1, d2] => { results := [.lit (.bool true)], args := [d1, d2] }
  | _ => none }
def runsLevelsRow : OpenClaim := { program := "ytbcgkdigfkapcaa", sum := "aedc0cf32dcae7aeb626bc2f10816a1c81b967dbb99fe6ae57d6afaf8b6d7ee9", func := "overspill/overspilllaw10.RunsLevels", spec := "runsLevels", apart := false }
def RunsLevelsSaid : Prop := runsLevelsRow.holds Try.pinned (OpenSpec.ofChange runsLevelsSpec)

/-- ITS FALSE NEIGHBOUR: 'it returns false'. Refute it at one input. -/
def runsLevelsWrong : ChangeSpec := { name := "runsLevels", fn := fun _ => fun
  | [d1, d2] => { results := [.lit (.bool false)], args := [d1, d2] }
  | _ => none }
def RunsLevelsWrongFalsely : Prop := runsLevelsRow.holds Try.pinned (OpenSpec.ofChange runsLevelsWrong)

/-- 'overspilllaw10.RunsBack': WHATEVER THE INPUT: true; the input reads as it did. -/
def runsBackSpec : ChangeSpec := { name := "runsBack", fn := fun _ => fun
  | [d1, d2, d3] => { results := [.lit (.bool true)], args := [d1, d2, d3] }
  | _ => none }
def runsBackRow : OpenClaim := { program := "ytbcgkdigfkapcaa", sum := "aedc0cf32dcae7aeb626bc2f10816a1c81b967dbb99fe6ae57d6afaf8b6d7ee9", func := "overspill/overspilllaw10.RunsBack", spec := "runsBack", apart := false }
def RunsBackSaid : Prop := runsBackRow.holds Try.pinned (OpenSpec.ofChange runsBackSpec)

/-- ITS FALSE NEIGHBOUR: 'it returns false'. Refute it at one input. -/
def runsBackWrong : ChangeSpec := { name := "runsBack", fn := fun _ => fun
  | [d1, d2, d3] => { results := [.lit (.bool false)], args := [d1, d2, d3] }
  | _ => none }
def RunsBackWrongFalsely : Prop := runsBackRow.holds Try.pinned (OpenSpec.ofChange runsBackWrong)

/-- 'overspilllaw24.SheetheadTakes': WHATEVER THE INPUT: true; the input reads as it did. -/
def sheetheadTakesSpec : ChangeSpec := { name := "sheetheadTakes", fn := fun _ => fun
  | [d1, d2] => { results := [.lit (.bool true)], args := [d1, d2] }
  | _ => none }
def sheetheadTakesRow : OpenClaim := { program := "ytbcgkdigfkapcaa", sum := "aedc0cf32dcae7aeb626bc2f10816a1c81b967dbb99fe6ae57d6afaf8b6d7ee9", func := "overspill/overspilllaw24.SheetheadTakes", spec := "sheetheadTakes", unfollowed := true, recurses := true, apart := false }
def SheetheadTakesSaid : Prop := sheetheadTakesRow.holds Try.pinned (OpenSpec.ofChange sheetheadTakesSpec)

/-- ITS FALSE NEIGHBOUR: 'it returns false'. Refute it at one input. -/
def sheetheadTakesWrong : ChangeSpec := { name := "sheetheadTakes", fn := fun _ => fun
  | [d1, d2] => { results := [.lit (.bool false)], args := [d1, d2] }
  | _ => none }
def SheetheadTakesWrongFalsely : Prop := sheetheadTakesRow.holds Try.pinned (OpenSpec.ofChange sheetheadTakesWrong)

/-- 'overspilllaw24.SheetheadPuts': WHATEVER THE INPUT: true; the input reads as it did. -/
def sheetheadPutsSpec : ChangeSpec := { name := "sheetheadPuts", fn := fun _ => fun
  | [d1, d2] => { results := [.lit (.bool true)], args := [d1, d2] }
  | _ => none }
def sheetheadPutsRow : OpenClaim := { program := "ytbcgkdigfkapcaa", sum := "aedc0cf32dcae7aeb626bc2f10816a1c81b967dbb99fe6ae57d6afaf8b6d7ee9", func := "overspill/overspilllaw24.SheetheadPuts", spec := "sheetheadPuts", unfollowed := true, recurses := true, apart := false }
def SheetheadPutsSaid : Prop := sheetheadPutsRow.holds Try.pinned (OpenSpec.ofChange sheetheadPutsSpec)

/-- ITS FALSE NEIGHBOUR: 'it returns false'. Refute it at one input. -/
def sheetheadPutsWrong : ChangeSpec := { name := "sheetheadPuts", fn := fun _ => fun
  | [d1, d2] => { results := [.lit (.bool false)], args := [d1, d2] }
  | _ => none }
def SheetheadPutsWrongFalsely : Prop := sheetheadPutsRow.holds Try.pinned (OpenSpec.ofChange sheetheadPutsWrong)

/- THE SECOND FORM. 'bulk': how many values and letters a reading holds, each counted each time it is reached (what is shared counts as often as it is met; a slice's spare places count too). A statement '..UptoSaid' is the law's where the arguments, and the package variables that the reading takes, are together of bulk at most 1048576: NARROWER than '..Said'. Prove '..Said' where nothing that the law and all that it calls make is longer than what came in: it says more and counts as full. Else prove '..UptoSaid'. A law counts once. -/
mutual
def uptoBulk {H : Type} : DataW H → Nat
  | .lit (.string bytes) => bytes.length + 1
  | .lit _ => 1
  | .nil => 1
  | .ptr d => uptoBulk d + 1
  | .slice elems spare => uptoBulkAll elems + uptoBulkAll spare + 1
  | .agg parts => uptoBulkAll parts + 1
  | .iface _ d => uptoBulk d + 1
  | .map entries => uptoBulkEntries entries + 1
  | .held _ => 1
def uptoBulkAll {H : Type} : List (DataW H) → Nat
  | [] => 0
  | d :: r => uptoBulk d + uptoBulkAll r
def uptoBulkEntries {H : Type} : List (Lit × DataW H) → Nat
  | [] => 0
  | x :: r => uptoBulkEntry x + uptoBulkEntries r
def uptoBulkEntry {H : Type} : Lit × DataW H → Nat
  | (.string bytes, d) => bytes.length + uptoBulk d + 1
  | (_, d) => uptoBulk d + 1
 end
def uptoSmall : (H : Type) → List (DataW H) → Bool := fun _ ds => decide (uptoBulkAll ds ≤ 1048576)
def OpenSpec.upto (s : _root_.Go.ChangeSpec) : _root_.Go.OpenSpec := { _root_.Go.OpenSpec.ofChange s with cond := some uptoSmall }

/-- 'overspilllaw10.RunsEvents', WHERE WHAT IT READS IS OF BULK AT MOST 1048576: true; the input reads as it did. -/
def runsEventsUptoRow : OpenClaim := { program := "ytbcgkdigfkapcaa", sum := "aedc0cf32dcae7aeb626bc2f10816a1c81b967dbb99fe6ae57d6afaf8b6d7ee9", func := "overspill/overspilllaw10.RunsEvents", spec := "runsEvents", apart := false, narrowed := true }
def RunsEventsUptoSaid : Prop := runsEventsUptoRow.holds Try.pinned (OpenSpec.upto runsEventsSpec)

/-- 'overspilllaw10.RunsLevels', WHERE WHAT IT READS IS OF BULK AT MOST 1048576: true; the input reads as it did. -/
def runsLevelsUptoRow : OpenClaim := { program := "ytbcgkdigfkapcaa", sum := "aedc0cf32dcae7aeb626bc2f10816a1c81b967dbb99fe6ae57d6afaf8b6d7ee9", func := "overspill/overspilllaw10.RunsLevels", spec := "runsLevels", apart := false, narrowed := true }
def RunsLevelsUptoSaid : Prop := runsLevelsUptoRow.holds Try.pinned (OpenSpec.upto runsLevelsSpec)

/-- 'overspilllaw10.RunsBack', WHERE WHAT IT READS IS OF BULK AT MOST 1048576: true; the input reads as it did. -/
def runsBackUptoRow : OpenClaim := { program := "ytbcgkdigfkapcaa", sum := "aedc0cf32dcae7aeb626bc2f10816a1c81b967dbb99fe6ae57d6afaf8b6d7ee9", func := "overspill/overspilllaw10.RunsBack", spec := "runsBack", apart := false, narrowed := true }
def RunsBackUptoSaid : Prop := runsBackUptoRow.holds Try.pinned (OpenSpec.upto runsBackSpec)

/-- 'overspilllaw24.SheetheadTakes', WHERE WHAT IT READS IS OF BULK AT MOST 1048576: true; the input reads as it did. -/
def sheetheadTakesUptoRow : OpenClaim := { program := "ytbcgkdigfkapcaa", sum := "aedc0cf32dcae7aeb626bc2f10816a1c81b967dbb99fe6ae57d6afaf8b6d7ee9", func := "overspill/overspilllaw24.SheetheadTakes", spec := "sheetheadTakes", unfollowed := true, recurses := true, apart := false, narrowed := true }
def SheetheadTakesUptoSaid : Prop := sheetheadTakesUptoRow.holds Try.pinned (OpenSpec.upto sheetheadTakesSpec)

/-- 'overspilllaw24.SheetheadPuts', WHERE WHAT IT READS IS OF BULK AT MOST 1048576: true; the input reads as it did. -/
def sheetheadPutsUptoRow : OpenClaim := { program := "ytbcgkdigfkapcaa", sum := "aedc0cf32dcae7aeb626bc2f10816a1c81b967dbb99fe6ae57d6afaf8b6d7ee9", func := "overspill/overspilllaw24.SheetheadPuts", spec := "sheetheadPuts", unfollowed := true, recurses := true, apart := false, narrowed := true }
def SheetheadPutsUptoSaid : Prop := sheetheadPutsUptoRow.holds Try.pinned (OpenSpec.upto sheetheadPutsSpec)

end Rows
end Go.Proofs.Ytbcgkdigfkapcaa
