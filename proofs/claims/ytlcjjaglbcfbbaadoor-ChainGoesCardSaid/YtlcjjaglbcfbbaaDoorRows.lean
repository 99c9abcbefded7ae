/-
  NARROWER THAN 'FOR EVERY INPUT', by the rows' own cells (each row's printed sentence says how): SoundChecks: laid · SoundSame: laid · QuantsOf: laid · QuantsGo: laid · ChainOf: laid · ChainGoes: laid.
  DERIVED. THE GIVEN ROWS OF THIS SEAT. 6 by the template 'for every input the law returns true; each argument reads behind the call as it read before'; 0 by the template 'total and deterministic' (their statements: YtlcjjaglbcfbbaaDoorTotals.lean).
  GIVEN WITH THE SEED: the statements are not yours to turn. If you find one false, say at which input.
  Laid BY PROGRAM, IN A SANDBOX (cutbox-rows.mjs): the forced cells as the released guide's own fill.sh prints them over the translation 026767e7eea1a640… (all of the seat's roots in one cut). By AI agents, Wed Nov 11 2026. No macro, syntax, notation, axiom, sorry.
-/
import Derived.Test.YtlcjjaglbcfbbaaDoorChecked
import GoSem.Claim
import GoSem.ClaimJoined
import GoSem.ClaimMapViews
import Derived.JoinedTies
import Derived.KernelRfl
namespace Go.Proofs.YtlcjjaglbcfbbaaDoor
/- THE CELL 'sum', in the pinned program and in every row, IS THE sha256 OF THE DUMP (.gsa) THAT YtlcjjaglbcfbbaaDoorProg.lean LOADS. Nothing in Lean hashes anything: it is a label: what it is worth is what the hold of that sum in a sandbox is worth. -/
noncomputable def Tryd.pinned : Pinned := { name := "ytlcjjaglbcfbbaadoor", sum := "026767e7eea1a640bbdb96924ee344226d58b5c452b456cdefc0c0232c7c4a0c", checked := Tryd.checked }
namespace Rows
def none {H : Type} : Left H := { results := [], args := [] }

/- WHAT THE LISTED PACKAGE-LEVEL VARIABLES READ AS WHEN THE CALL BEGINS. Each datum BY PROGRAM (the guide's laid-datum.mjs) off the statement by which the dump's own 'gosem.cut.vars' lays the variable. In a bare row this is a premise. The card (YtlcjjaglbcfbbaaDoorCards.lean) ties it to the program's text. -/
def laid_overspill_tcoef_codes {H : Type} : DataW H := .agg [.lit (.int .i64 2), .lit (.int .i64 15), .lit (.int .i64 21), .lit (.int .i64 23), .lit (.int .i64 31), .lit (.int .i64 37), .lit (.int .i64 36), .lit (.int .i64 33), .lit (.int .i64 32), .lit (.int .i64 7), .lit (.int .i64 6), .lit (.int .i64 32), .lit (.int .i64 6), .lit (.int .i64 20), .lit (.int .i64 30), .lit (.int .i64 15), .lit (.int .i64 33), .lit (.int .i64 80), .lit (.int .i64 14), .lit (.int .i64 29), .lit (.int .i64 14), .lit (.int .i64 81), .lit (.int .i64 13), .lit (.int .i64 35), .lit (.int .i64 13), .lit (.int .i64 12), .lit (.int .i64 34), .lit (.int .i64 82), .lit (.int .i64 11), .lit (.int .i64 12), .lit (.int .i64 83), .lit (.int .i64 19), .lit (.int .i64 11), .lit (.int .i64 84), .lit (.int .i64 18), .lit (.int .i64 10), .lit (.int .i64 17), .lit (.int .i64 9), .lit (.int .i64 16), .lit (.int .i64 8), .lit (.int .i64 22), .lit (.int .i64 85), .lit (.int .i64 21), .lit (.int .i64 20), .lit (.int .i64 28), .lit (.int .i64 27), .lit (.int .i64 33), .lit (.int .i64 32), .lit (.int .i64 31), .lit (.int .i64 30), .lit (.int .i64 29), .lit (.int .i64 28), .lit (.int .i64 27), .lit (.int .i64 26), .lit (.int .i64 34), .lit (.int .i64 35), .lit (.int .i64 86), .lit (.int .i64 87), .lit (.int .i64 7), .lit (.int .i64 25), .lit (.int .i64 5), .lit (.int .i64 15), .lit (.int .i64 4), .lit (.int .i64 14), .lit (.int .i64 13), .lit (.int .i64 12), .lit (.int .i64 19), .lit (.int .i64 18), .lit (.int .i64 17), .lit (.int .i64 16), .lit (.int .i64 26), .lit (.int .i64 25), .lit (.int .i64 24), .lit (.int .i64 23), .lit (.int .i64 22), .lit (.int .i64 21), .lit (.int .i64 20), .lit (.int .i64 19), .lit (.int .i64 24), .lit (.int .i64 23), .lit (.int .i64 22), .lit (.int .i64 21), .lit (.int .i64 20), .lit (.int .i64 19), .lit (.int .i64 18), .lit (.int .i64 17), .lit (.int .i64 7), .lit (.int .i64 6), .lit (.int .i64 5), .lit (.int .i64 4), .lit (.int .i64 36), .lit (.int .i64 37), .lit (.int .i64 38), .lit (.int .i64 39), .lit (.int .i64 88), .lit (.int .i64 89), .lit (.int .i64 90), .lit (.int .i64 91), .lit (.int .i64 92), .lit (.int .i64 93), .lit (.int .i64 94), .lit (.int .i64 95)]
def laid_overspill_tcoef_lengths {H : Type} : DataW H := .agg [.lit (.int .i64 2), .lit (.int .i64 4), .lit (.int .i64 6), .lit (.int .i64 7), .lit (.int .i64 8), .lit (.int .i64 9), .lit (.int .i64 9), .lit (.int .i64 10), .lit (.int .i64 10), .lit (.int .i64 11), .lit (.int .i64 11), .lit (.int .i64 11), .lit (.int .i64 3), .lit (.int .i64 6), .lit (.int .i64 8), .lit (.int .i64 10), .lit (.int .i64 11), .lit (.int .i64 12), .lit (.int .i64 4), .lit (.int .i64 8), .lit (.int .i64 10), .lit (.int .i64 12), .lit (.int .i64 5), .lit (.int .i64 9), .lit (.int .i64 10), .lit (.int .i64 5), .lit (.int .i64 9), .lit (.int .i64 12), .lit (.int .i64 5), .lit (.int .i64 10), .lit (.int .i64 12), .lit (.int .i64 6), .lit (.int .i64 10), .lit (.int .i64 12), .lit (.int .i64 6), .lit (.int .i64 10), .lit (.int .i64 6), .lit (.int .i64 10), .lit (.int .i64 6), .lit (.int .i64 10), .lit (.int .i64 7), .lit (.int .i64 12), .lit (.int .i64 7), .lit (.int .i64 7), .lit (.int .i64 8), .lit (.int .i64 8), .lit (.int .i64 9), .lit (.int .i64 9), .lit (.int .i64 9), .lit (.int .i64 9), .lit (.int .i64 9), .lit (.int .i64 9), .lit (.int .i64 9), .lit (.int .i64 9), .lit (.int .i64 11), .lit (.int .i64 11), .lit (.int .i64 12), .lit (.int .i64 12), .lit (.int .i64 4), .lit (.int .i64 9), .lit (.int .i64 11), .lit (.int .i64 6), .lit (.int .i64 11), .lit (.int .i64 6), .lit (.int .i64 6), .lit (.int .i64 6), .lit (.int .i64 7), .lit (.int .i64 7), .lit (.int .i64 7), .lit (.int .i64 7), .lit (.int .i64 8), .lit (.int .i64 8), .lit (.int .i64 8), .lit (.int .i64 8), .lit (.int .i64 8), .lit (.int .i64 8), .lit (.int .i64 8), .lit (.int .i64 8), .lit (.int .i64 9), .lit (.int .i64 9), .lit (.int .i64 9), .lit (.int .i64 9), .lit (.int .i64 9), .lit (.int .i64 9), .lit (.int .i64 9), .lit (.int .i64 9), .lit (.int .i64 10), .lit (.int .i64 10), .lit (.int .i64 10), .lit (.int .i64 10), .lit (.int .i64 11), .lit (.int .i64 11), .lit (.int .i64 11), .lit (.int .i64 11), .lit (.int .i64 12), .lit (.int .i64 12), .lit (.int .i64 12), .lit (.int .i64 12), .lit (.int .i64 12), .lit (.int .i64 12), .lit (.int .i64 12), .lit (.int .i64 12)]

/-- 'overspilllaw25.SoundChecks': WHATEVER THE INPUT: true; the input reads as it did. -/
def soundChecksSpec : ChangeSpec := { name := "soundChecks", fn := fun _ => fun
  | [d] => { results := [.lit (.bool true)], args := [d] }
  | _ => none }
def soundChecksRow : OpenClaim := { program := "ytlcjjaglbcfbbaadoor", sum := "026767e7eea1a640bbdb96924ee344226d58b5c452b456cdefc0c0232c7c4a0c", func := "overspill/overspilllaw25.SoundChecks", spec := "soundChecks", unfollowed := true, recurses := true, named := ["overspill/tcoef.codes", "overspill/tcoef.lengths"], apart := false, laid := [("overspill/tcoef.codes", laid_overspill_tcoef_codes), ("overspill/tcoef.lengths", laid_overspill_tcoef_lengths)] }
def SoundChecksSaid : Prop := soundChecksRow.holds Tryd.pinned (OpenSpec.ofChange soundChecksSpec)

/-- ITS FALSE NEIGHBOUR: 'it returns false'. Refute it at one input. -/
def soundChecksWrong : ChangeSpec := { name := "soundChecks", fn := fun _ => fun
  | [d] => { results := [.lit (.bool false)], args := [d] }
  | _ => none }
def SoundChecksWrongFalsely : Prop := soundChecksRow.holds Tryd.pinned (OpenSpec.ofChange soundChecksWrong)

/-- 'overspilllaw25.SoundSame': WHATEVER THE INPUT: true; the input reads as it did. -/
def soundSameSpec : ChangeSpec := { name := "soundSame", fn := fun _ => fun
  | [d1, d2] => { results := [.lit (.bool true)], args := [d1, d2] }
  | _ => none }
def soundSameRow : OpenClaim := { program := "ytlcjjaglbcfbbaadoor", sum := "026767e7eea1a640bbdb96924ee344226d58b5c452b456cdefc0c0232c7c4a0c", func := "overspill/overspilllaw25.SoundSame", spec := "soundSame", unfollowed := true, recurses := true, named := ["overspill/tcoef.codes", "overspill/tcoef.lengths"], apart := false, laid := [("overspill/tcoef.codes", laid_overspill_tcoef_codes), ("overspill/tcoef.lengths", laid_overspill_tcoef_lengths)] }
def SoundSameSaid : Prop := soundSameRow.holds Tryd.pinned (OpenSpec.ofChange soundSameSpec)

/-- ITS FALSE NEIGHBOUR: 'it returns false'. Refute it at one input. -/
def soundSameWrong : ChangeSpec := { name := "soundSame", fn := fun _ => fun
  | [d1, d2] => { results := [.lit (.bool false)], args := [d1, d2] }
  | _ => none }
def SoundSameWrongFalsely : Prop := soundSameRow.holds Tryd.pinned (OpenSpec.ofChange soundSameWrong)

/-- 'overspilllaw30.QuantsOf': WHATEVER THE INPUT: true; the input reads as it did. -/
def quantsOfSpec : ChangeSpec := { name := "quantsOf", fn := fun _ => fun
  | [d] => { results := [.lit (.bool true)], args := [d] }
  | _ => none }
def quantsOfRow : OpenClaim := { program := "ytlcjjaglbcfbbaadoor", sum := "026767e7eea1a640bbdb96924ee344226d58b5c452b456cdefc0c0232c7c4a0c", func := "overspill/overspilllaw30.QuantsOf", spec := "quantsOf", unfollowed := true, recurses := true, named := ["overspill/tcoef.codes", "overspill/tcoef.lengths"], apart := false, laid := [("overspill/tcoef.codes", laid_overspill_tcoef_codes), ("overspill/tcoef.lengths", laid_overspill_tcoef_lengths)] }
def QuantsOfSaid : Prop := quantsOfRow.holds Tryd.pinned (OpenSpec.ofChange quantsOfSpec)

/-- ITS FALSE NEIGHBOUR: 'it returns false'. Refute it at one input. -/
def quantsOfWrong : ChangeSpec := { name := "quantsOf", fn := fun _ => fun
  | [d] => { results := [.lit (.bool false)], args := [d] }
  | _ => none }
def QuantsOfWrongFalsely : Prop := quantsOfRow.holds Tryd.pinned (OpenSpec.ofChange quantsOfWrong)

/-- 'overspilllaw30.QuantsGo': WHATEVER THE INPUT: true; the input reads as it did. -/
def quantsGoSpec : ChangeSpec := { name := "quantsGo", fn := fun _ => fun
  | [d] => { results := [.lit (.bool true)], args := [d] }
  | _ => none }
def quantsGoRow : OpenClaim := { program := "ytlcjjaglbcfbbaadoor", sum := "026767e7eea1a640bbdb96924ee344226d58b5c452b456cdefc0c0232c7c4a0c", func := "overspill/overspilllaw30.QuantsGo", spec := "quantsGo", unfollowed := true, recurses := true, named := ["overspill/tcoef.codes", "overspill/tcoef.lengths"], apart := false, laid := [("overspill/tcoef.codes", laid_overspill_tcoef_codes), ("overspill/tcoef.lengths", laid_overspill_tcoef_lengths)] }
def QuantsGoSaid : Prop := quantsGoRow.holds Tryd.pinned (OpenSpec.ofChange quantsGoSpec)

/-- ITS FALSE NEIGHBOUR: 'it returns false'. Refute it at one input. -/
def quantsGoWrong : ChangeSpec := { name := "quantsGo", fn := fun _ => fun
  | [d] => { results := [.lit (.bool false)], args := [d] }
  | _ => none }
def QuantsGoWrongFalsely : Prop := quantsGoRow.holds Tryd.pinned (OpenSpec.ofChange quantsGoWrong)

/-- 'overspilllaw37.ChainOf': WHATEVER THE INPUT: true; the input reads as it did. -/
def chainOfSpec : ChangeSpec := { name := "chainOf", fn := fun _ => fun
  | [d1, d2] => { results := [.lit (.bool true)], args := [d1, d2] }
  | _ => none }
def chainOfRow : OpenClaim := { program := "ytlcjjaglbcfbbaadoor", sum := "026767e7eea1a640bbdb96924ee344226d58b5c452b456cdefc0c0232c7c4a0c", func := "overspill/overspilllaw37.ChainOf", spec := "chainOf", unfollowed := true, recurses := true, named := ["overspill/tcoef.codes", "overspill/tcoef.lengths"], apart := false, laid := [("overspill/tcoef.codes", laid_overspill_tcoef_codes), ("overspill/tcoef.lengths", laid_overspill_tcoef_lengths)] }
def ChainOfSaid : Prop := chainOfRow.holds Tryd.pinned (OpenSpec.ofChange chainOfSpec)

/-- ITS FALSE NEIGHBOUR: 'it returns false'. Refute it at one input. -/
def chainOfWrong : ChangeSpec := { name := "chainOf", fn := fun _ => fun
  | [d1, d2] => { results := [.lit (.bool false)], args := [d1, d2] }
  | _ => none }
def ChainOfWrongFalsely : Prop := chainOfRow.holds Tryd.pinned (OpenSpec.ofChange chainOfWrong)

/-- 'overspilllaw37.ChainGoes': WHATEVER THE INPUT: true; the input reads as it did. -/
def chainGoesSpec : ChangeSpec := { name := "chainGoes", fn := fun _ => fun
  | [d1, d2] => { results := [.lit (.bool true)], args := [d1, d2] }
  | _ => none }
def chainGoesRow : OpenClaim := { program := "ytlcjjaglbcfbbaadoor", sum := "026767e7eea1a640bbdb96924ee344226d58b5c452b456cdefc0c0232c7c4a0c", func := "overspill/overspilllaw37.ChainGoes", spec := "chainGoes", unfollowed := true, recurses := true, named := ["overspill/tcoef.codes", "overspill/tcoef.lengths"], apart := false, laid := [("overspill/tcoef.codes", laid_overspill_tcoef_codes), ("overspill/tcoef.lengths", laid_overspill_tcoef_lengths)] }
def ChainGoesSaid : Prop := chainGoesRow.holds Tryd.pinned (OpenSpec.ofChange chainGoesSpec)

/-- ITS FALSE NEIGHBOUR: 'it returns false'. Refute it at one input. -/
def chainGoesWrong : ChangeSpec := { name := "chainGoes", fn := fun _ => fun
  | [d1, d2] => { results := [.lit (.bool false)], args := [d1, d2] }
  | _ => none }
def ChainGoesWrongFalsely : Prop := chainGoesRow.holds Tryd.pinned (OpenSpec.ofChange chainGoesWrong)

/- THE SECOND FORM. 'bulk': how many values and letters a reading holds, each counted each time it is reached (what is shared counts as often as it is met; a slice's spare places count too). A statement '..UptoSaid' is the law's where the arguments, and the package variables that the reading takes, are together of bulk at most 1048576: NARROWER than '..Said'. Prove '..Said' where nothing that the law and all that it calls make is longer than what came in: it says more and counts as full. Else prove '..UptoSaid'. A law counts once. -/
mutual
def uptoBulk {H : Type} : DataW H → Nat
  | .lit (.string bytes) => bytes.length + 1
  | .lit _ => 1
  | .nil => 1
  | .ptr d => uptoBulk d + 1
  | .slice elems spare => uptoBulkAll elems + uptoBulkAll spare + 1
  | .agg parts => uptoBulkAll parts + 1
  | .iface _ d => uptoBulk d + 1
  | .map entries => uptoBulkEntries entries + 1
  | .held _ => 1
def uptoBulkAll {H : Type} : List (DataW H) → Nat
  | [] => 0
  | d :: r => uptoBulk d + uptoBulkAll r
def uptoBulkEntries {H : Type} : List (Lit × DataW H) → Nat
  | [] => 0
  | x :: r => uptoBulkEntry x + uptoBulkEntries r
def uptoBulkEntry {H : Type} : Lit × DataW H → Nat
  | (.string bytes, d) => bytes.length + uptoBulk d + 1
  | (_, d) => uptoBulk d + 1
 end
def uptoSmall : (H : Type) → List (DataW H) → Bool := fun _ ds => decide (uptoBulkAll ds ≤ 1048576)
def OpenSpec.upto (s : _root_.Go.ChangeSpec) : _root_.Go.OpenSpec := { _root_.Go.OpenSpec.ofChange s with cond := some uptoSmall }

/-- 'overspilllaw25.SoundChecks', WHERE WHAT IT READS IS OF BULK AT MOST 1048576: true; the input reads as it did. -/
def soundChecksUptoRow : OpenClaim := { program := "ytlcjjaglbcfbbaadoor", sum := "026767e7eea1a640bbdb96924ee344226d58b5c452b456cdefc0c0232c7c4a0c", func := "overspill/overspilllaw25.SoundChecks", spec := "soundChecks", unfollowed := true, recurses := true, named := ["overspill/tcoef.codes", "overspill/tcoef.lengths"], apart := false, laid := [("overspill/tcoef.codes", laid_overspill_tcoef_codes), ("overspill/tcoef.lengths", laid_overspill_tcoef_lengths)], narrowed := true }
def SoundChecksUptoSaid : Prop := soundChecksUptoRow.holds Tryd.pinned (OpenSpec.upto soundChecksSpec)

/-- 'overspilllaw25.SoundSame', WHERE WHAT IT READS IS OF BULK AT MOST 1048576: true; the input reads as it did. -/
def soundSameUptoRow : OpenClaim := { program := "ytlcjjaglbcfbbaadoor", sum := "026767e7eea1a640bbdb96924ee344226d58b5c452b456cdefc0c0232c7c4a0c", func := "overspill/overspilllaw25.SoundSame", spec := "soundSame", unfollowed := true, recurses := true, named := ["overspill/tcoef.codes", "overspill/tcoef.lengths"], apart := false, laid := [("overspill/tcoef.codes", laid_overspill_tcoef_codes), ("overspill/tcoef.lengths", laid_overspill_tcoef_lengths)], narrowed := true }
def SoundSameUptoSaid : Prop := soundSameUptoRow.holds Tryd.pinned (OpenSpec.upto soundSameSpec)

/-- 'overspilllaw30.QuantsOf', WHERE WHAT IT READS IS OF BULK AT MOST 1048576: true; the input reads as it did. -/
def quantsOfUptoRow : OpenClaim := { program := "ytlcjjaglbcfbbaadoor", sum := "026767e7eea1a640bbdb96924ee344226d58b5c452b456cdefc0c0232c7c4a0c", func := "overspill/overspilllaw30.QuantsOf", spec := "quantsOf", unfollowed := true, recurses := true, named := ["overspill/tcoef.codes", "overspill/tcoef.lengths"], apart := false, laid := [("overspill/tcoef.codes", laid_overspill_tcoef_codes), ("overspill/tcoef.lengths", laid_overspill_tcoef_lengths)], narrowed := true }
def QuantsOfUptoSaid : Prop := quantsOfUptoRow.holds Tryd.pinned (OpenSpec.upto quantsOfSpec)

/-- 'overspilllaw30.QuantsGo', WHERE WHAT IT READS IS OF BULK AT MOST 1048576: true; the input reads as it did. -/
def quantsGoUptoRow : OpenClaim := { program := "ytlcjjaglbcfbbaadoor", sum := "026767e7eea1a640bbdb96924ee344226d58b5c452b456cdefc0c0232c7c4a0c", func := "overspill/overspilllaw30.QuantsGo", spec := "quantsGo", unfollowed := true, recurses := true, named := ["overspill/tcoef.codes", "overspill/tcoef.lengths"], apart := false, laid := [("overspill/tcoef.codes", laid_overspill_tcoef_codes), ("overspill/tcoef.lengths", laid_overspill_tcoef_lengths)], narrowed := true }
def QuantsGoUptoSaid : Prop := quantsGoUptoRow.holds Tryd.pinned (OpenSpec.upto quantsGoSpec)

/-- 'overspilllaw37.ChainOf', WHERE WHAT IT READS IS OF BULK AT MOST 1048576: true; the input reads as it did. -/
def chainOfUptoRow : OpenClaim := { program := "ytlcjjaglbcfbbaadoor", sum := "026767e7eea1a640bbdb96924ee344226d58b5c452b456cdefc0c0232c7c4a0c", func := "overspill/overspilllaw37.ChainOf", spec := "chainOf", unfollowed := true, recurses := true, named := ["overspill/tcoef.codes", "overspill/tcoef.lengths"], apart := false, laid := [("overspill/tcoef.codes", laid_overspill_tcoef_codes), ("overspill/tcoef.lengths", laid_overspill_tcoef_lengths)], narrowed := true }
def ChainOfUptoSaid : Prop := chainOfUptoRow.holds Tryd.pinned (OpenSpec.upto chainOfSpec)

/-- 'overspilllaw37.ChainGoes', WHERE WHAT IT READS IS OF BULK AT MOST 1048576: true; the input reads as it did. -/
def chainGoesUptoRow : OpenClaim := { program := "ytlcjjaglbcfbbaadoor", sum := "026767e7eea1a640bbdb96924ee344226d58b5c452b456cdefc0c0232c7c4a0c", func := "overspill/overspilllaw37.ChainGoes", spec := "chainGoes", unfollowed := true, recurses := true, named := ["overspill/tcoef.codes", "overspill/tcoef.lengths"], apart := false, laid := [("overspill/tcoef.codes", laid_overspill_tcoef_codes), ("overspill/tcoef.lengths", laid_overspill_tcoef_lengths)], narrowed := true }
def ChainGoesUptoSaid : Prop := chainGoesUptoRow.holds Tryd.pinned (OpenSpec.upto chainGoesSpec)

end Rows
end Go.Proofs.YtlcjjaglbcfbbaaDoor
