/-
  No cell of these rows narrows 'for every input' (looked for: loops, veiled, ifaces, maps, wideKeys, modest, calm, conditions, laid).
  DERIVED. THE GIVEN ROWS OF THIS SEAT. 11 by the template 'for every input the law returns true; each argument reads behind the call as it read before'; 0 by the template 'total and deterministic' (their statements: YtgbeiogbppaogaaTotals.lean).
  GIVEN WITH THE SEED: the statements are not yours to turn. If you find one false, say at which input.
  Laid BY PROGRAM, IN A SANDBOX (cutbox-rows.mjs): the forced cells as the released guide's own fill.sh prints them over the translation c1dc5a7044442de3… (all of the seat's roots in one cut). By AI agents, Wed Nov 11 2026. No macro, syntax, notation, axiom, sorry.
-/
import Derived.Test.YtgbeiogbppaogaaChecked
import GoSem.Claim
import GoSem.ClaimJoined
import GoSem.ClaimMapViews
import Derived.JoinedTies
import Derived.KernelRfl
namespace Go.Proofs.Ytgbeiogbppaogaa
/- THE CELL 'sum', in the pinned program and in every row, IS THE sha256 OF THE DUMP (.gsa) THAT YtgbeiogbppaogaaProg.lean LOADS. Nothing in Lean hashes anything: it is a label: what it is worth is what the hold of that sum in a sandbox is worth. -/
noncomputable def Try.pinned : Pinned := { name := "ytgbeiogbppaogaa", sum := "c1dc5a7044442de3537f3ffe6536017673e6b02ee342745e591a52dcce30e98f", checked := Try.checked }
namespace Rows
def none {H : Type} : Left H := { results := [], args := [] }

/-- 'overspilllaw03.InbitsReads': WHATEVER THE INPUT: true; the input reads as it did. -/
def inbitsReadsSpec : ChangeSpec := { name := "inbitsReads", fn := fun _ => fun
  | [d1, d2] => { results := [.lit (.bool true)], args := [d1, d2] }
  | _ => none }
def inbitsReadsRow : OpenClaim := { program := "ytgbeiogbppaogaa", sum := "c1dc5a7044442de3537f3ffe6536017673e6b02ee342745e591a52dcce30e98f", func := "overspill/overspilllaw03.InbitsReads", spec := "inbitsReads", apart := false }
def InbitsReadsSaid : Prop := inbitsReadsRow.holds Try.pinned (OpenSpec.ofChange inbitsReadsSpec)

/-- ITS FALSE NEIGHBOUR: 'it returns false'. Refute it at one input. -/
def inbitsReadsWrong : ChangeSpec := { name := "inbitsReads", fn := fun _ => fun
  | [d1, d2] => { results := [.lit (.bool false)], args := [d1, d2] }
  | _ => none }
def InbitsReadsWrongFalsely : Prop := inbitsReadsRow.holds Try.pinned (OpenSpec.ofChange inbitsReadsWrong)

/-- 'overspilllaw03.InbitsNone': WHATEVER THE INPUT: true; the input reads as it did. -/
def inbitsNoneSpec : ChangeSpec := { name := "inbitsNone", fn := fun _ => fun
  | [d] => { results := [.lit (.bool true)], args := [d] }
  | _ => none }
def inbitsNoneRow : OpenClaim := { program := "ytgbeiogbppaogaa", sum := "c1dc5a7044442de3537f3ffe6536017673e6b02ee342745e591a52dcce30e98f", func := "overspill/overspilllaw03.InbitsNone", spec := "inbitsNone", apart := false }
def InbitsNoneSaid : Prop := inbitsNoneRow.holds Try.pinned (OpenSpec.ofChange inbitsNoneSpec)

/-- ITS FALSE NEIGHBOUR: 'it returns false'. Refute it at one input. -/
def inbitsNoneWrong : ChangeSpec := { name := "inbitsNone", fn := fun _ => fun
  | [d] => { results := [.lit (.bool false)], args := [d] }
  | _ => none }
def InbitsNoneWrongFalsely : Prop := inbitsNoneRow.holds Try.pinned (OpenSpec.ofChange inbitsNoneWrong)

/-- 'overspilllaw02.OutbitsRows': WHATEVER THE INPUT: true; the input reads as it did. -/
def outbitsRowsSpec : ChangeSpec := { name := "outbitsRows", fn := fun _ => fun
  | [d1, d2, d3] => { results := [.lit (.bool true)], args := [d1, d2, d3] }
  | _ => none }
def outbitsRowsRow : OpenClaim := { program := "ytgbeiogbppaogaa", sum := "c1dc5a7044442de3537f3ffe6536017673e6b02ee342745e591a52dcce30e98f", func := "overspill/overspilllaw02.OutbitsRows", spec := "outbitsRows", apart := false }
def OutbitsRowsSaid : Prop := outbitsRowsRow.holds Try.pinned (OpenSpec.ofChange outbitsRowsSpec)

/-- ITS FALSE NEIGHBOUR: 'it returns false'. Refute it at one input. -/
def outbitsRowsWrong : ChangeSpec := { name := "outbitsRows", fn := fun _ => fun
  | [d1, d2, d3] => { results := [.lit (.bool false)], args := [d1, d2, d3] }
  | _ => none }
def OutbitsRowsWrongFalsely : Prop := outbitsRowsRow.holds Try.pinned (OpenSpec.ofChange outbitsRowsWrong)

/-- 'overspilllaw02.OutbitsBack': WHATEVER THE INPUT: true; the input reads as it did. -/
def outbitsBackSpec : ChangeSpec := { name := "outbitsBack", fn := fun _ => fun
  | [d] => { results := [.lit (.bool true)], args := [d] }
  | _ => none }
def outbitsBackRow : OpenClaim := { program := "ytgbeiogbppaogaa", sum := "c1dc5a7044442de3537f3ffe6536017673e6b02ee342745e591a52dcce30e98f", func := "overspill/overspilllaw02.OutbitsBack", spec := "outbitsBack", apart := false }
def OutbitsBackSaid : Prop := outbitsBackRow.holds Try.pinned (OpenSpec.ofChange outbitsBackSpec)

/-- ITS FALSE NEIGHBOUR: 'it returns false'. Refute it at one input. -/
def outbitsBackWrong : ChangeSpec := { name := "outbitsBack", fn := fun _ => fun
  | [d] => { results := [.lit (.bool false)], args := [d] }
  | _ => none }
def OutbitsBackWrongFalsely : Prop := outbitsBackRow.holds Try.pinned (OpenSpec.ofChange outbitsBackWrong)

/-- 'overspilllaw03.InbitsBack': WHATEVER THE INPUT: true; the input reads as it did. -/
def inbitsBackSpec : ChangeSpec := { name := "inbitsBack", fn := fun _ => fun
  | [d] => { results := [.lit (.bool true)], args := [d] }
  | _ => none }
def inbitsBackRow : OpenClaim := { program := "ytgbeiogbppaogaa", sum := "c1dc5a7044442de3537f3ffe6536017673e6b02ee342745e591a52dcce30e98f", func := "overspill/overspilllaw03.InbitsBack", spec := "inbitsBack", apart := false }
def InbitsBackSaid : Prop := inbitsBackRow.holds Try.pinned (OpenSpec.ofChange inbitsBackSpec)

/-- ITS FALSE NEIGHBOUR: 'it returns false'. Refute it at one input. -/
def inbitsBackWrong : ChangeSpec := { name := "inbitsBack", fn := fun _ => fun
  | [d] => { results := [.lit (.bool false)], args := [d] }
  | _ => none }
def InbitsBackWrongFalsely : Prop := inbitsBackRow.holds Try.pinned (OpenSpec.ofChange inbitsBackWrong)

/-- 'overspilllaw04.MarksFinds': WHATEVER THE INPUT: true; the input reads as it did. -/
def marksFindsSpec : ChangeSpec := { name := "marksFinds", fn := fun _ => fun
  | [d1, d2] => { results := [.lit (.bool true)], args := [d1, d2] }
  | _ => none }
def marksFindsRow : OpenClaim := { program := "ytgbeiogbppaogaa", sum := "c1dc5a7044442de3537f3ffe6536017673e6b02ee342745e591a52dcce30e98f", func := "overspill/overspilllaw04.MarksFinds", spec := "marksFinds", apart := false }
def MarksFindsSaid : Prop := marksFindsRow.holds Try.pinned (OpenSpec.ofChange marksFindsSpec)

/-- ITS FALSE NEIGHBOUR: 'it returns false'. Refute it at one input. -/
def marksFindsWrong : ChangeSpec := { name := "marksFinds", fn := fun _ => fun
  | [d1, d2] => { results := [.lit (.bool false)], args := [d1, d2] }
  | _ => none }
def MarksFindsWrongFalsely : Prop := marksFindsRow.holds Try.pinned (OpenSpec.ofChange marksFindsWrong)

/-- 'overspilllaw02.OutbitsWrites': WHATEVER THE INPUT: true; the input reads as it did. -/
def outbitsWritesSpec : ChangeSpec := { name := "outbitsWrites", fn := fun _ => fun
  | [d] => { results := [.lit (.bool true)], args := [d] }
  | _ => none }
def outbitsWritesRow : OpenClaim := { program := "ytgbeiogbppaogaa", sum := "c1dc5a7044442de3537f3ffe6536017673e6b02ee342745e591a52dcce30e98f", func := "overspill/overspilllaw02.OutbitsWrites", spec := "outbitsWrites", apart := false }
def OutbitsWritesSaid : Prop := outbitsWritesRow.holds Try.pinned (OpenSpec.ofChange outbitsWritesSpec)

/-- ITS FALSE NEIGHBOUR: 'it returns false'. Refute it at one input. -/
def outbitsWritesWrong : ChangeSpec := { name := "outbitsWrites", fn := fun _ => fun
  | [d] => { results := [.lit (.bool false)], args := [d] }
  | _ => none }
def OutbitsWritesWrongFalsely : Prop := outbitsWritesRow.holds Try.pinned (OpenSpec.ofChange outbitsWritesWrong)

/-- 'overspilllaw04.MarksAt': WHATEVER THE INPUT: true; the input reads as it did. -/
def marksAtSpec : ChangeSpec := { name := "marksAt", fn := fun _ => fun
  | [d1, d2] => { results := [.lit (.bool true)], args := [d1, d2] }
  | _ => none }
def marksAtRow : OpenClaim := { program := "ytgbeiogbppaogaa", sum := "c1dc5a7044442de3537f3ffe6536017673e6b02ee342745e591a52dcce30e98f", func := "overspill/overspilllaw04.MarksAt", spec := "marksAt", apart := false }
def MarksAtSaid : Prop := marksAtRow.holds Try.pinned (OpenSpec.ofChange marksAtSpec)

/-- ITS FALSE NEIGHBOUR: 'it returns false'. Refute it at one input. -/
def marksAtWrong : ChangeSpec := { name := "marksAt", fn := fun _ => fun
  | [d1, d2] => { results := [.lit (.bool false)], args := [d1, d2] }
  | _ => none }
def MarksAtWrongFalsely : Prop := marksAtRow.holds Try.pinned (OpenSpec.ofChange marksAtWrong)

/-- 'overspilllaw04.MarksBack': WHATEVER THE INPUT: true; the input reads as it did. -/
def marksBackSpec : ChangeSpec := { name := "marksBack", fn := fun _ => fun
  | [d1, d2] => { results := [.lit (.bool true)], args := [d1, d2] }
  | _ => none }
def marksBackRow : OpenClaim := { program := "ytgbeiogbppaogaa", sum := "c1dc5a7044442de3537f3ffe6536017673e6b02ee342745e591a52dcce30e98f", func := "overspill/overspilllaw04.MarksBack", spec := "marksBack", apart := false }
def MarksBackSaid : Prop := marksBackRow.holds Try.pinned (OpenSpec.ofChange marksBackSpec)

/-- ITS FALSE NEIGHBOUR: 'it returns false'. Refute it at one input. -/
def marksBackWrong : ChangeSpec := { name := "marksBack", fn := fun _ => fun
  | [d1, d2] => { results := [.lit (.bool false)], args := [d1, d2] }
  | _ => none }
def MarksBackWrongFalsely : Prop := marksBackRow.holds Try.pinned (OpenSpec.ofChange marksBackWrong)

/-- 'overspilllaw23.RowheadTakes': WHATEVER THE INPUT: true; the input reads as it did. -/
def rowheadTakesSpec : ChangeSpec := { name := "rowheadTakes", fn := fun _ => fun
  | [d1, d2, d3] => { results := [.lit (.bool true)], args := [d1, d2, d3] }
  | _ => none }
def rowheadTakesRow : OpenClaim := { program := "ytgbeiogbppaogaa", sum := "c1dc5a7044442de3537f3ffe6536017673e6b02ee342745e591a52dcce30e98f", func := "overspill/overspilllaw23.RowheadTakes", spec := "rowheadTakes", apart := false }
def RowheadTakesSaid : Prop := rowheadTakesRow.holds Try.pinned (OpenSpec.ofChange rowheadTakesSpec)

/-- ITS FALSE NEIGHBOUR: 'it returns false'. Refute it at one input. -/
def rowheadTakesWrong : ChangeSpec := { name := "rowheadTakes", fn := fun _ => fun
  | [d1, d2, d3] => { results := [.lit (.bool false)], args := [d1, d2, d3] }
  | _ => none }
def RowheadTakesWrongFalsely : Prop := rowheadTakesRow.holds Try.pinned (OpenSpec.ofChange rowheadTakesWrong)

/-- 'overspilllaw23.RowheadPuts': WHATEVER THE INPUT: true; the input reads as it did. -/
def rowheadPutsSpec : ChangeSpec := { name := "rowheadPuts", fn := fun _ => fun
  | [d1, d2, d3] => { results := [.lit (.bool true)], args := [d1, d2, d3] }
  | _ => none }
def rowheadPutsRow : OpenClaim := { program := "ytgbeiogbppaogaa", sum := "c1dc5a7044442de3537f3ffe6536017673e6b02ee342745e591a52dcce30e98f", func := "overspill/overspilllaw23.RowheadPuts", spec := "rowheadPuts", apart := false }
def RowheadPutsSaid : Prop := rowheadPutsRow.holds Try.pinned (OpenSpec.ofChange rowheadPutsSpec)

/-- ITS FALSE NEIGHBOUR: 'it returns false'. Refute it at one input. -/
def rowheadPutsWrong : ChangeSpec := { name := "rowheadPuts", fn := fun _ => fun
  | [d1, d2, d3] => { results := [.lit (.bool false)], args := [d1, d2, d3] }
  | _ => none }
def RowheadPutsWrongFalsely : Prop := rowheadPutsRow.holds Try.pinned (OpenSpec.ofChange rowheadPutsWrong)

/- THE SECOND FORM. 'bulk': how many values and letters a reading holds, each counted each time it is reached (what is shared counts as often as it is met; a slice's spare places count too). A statement '..UptoSaid' is the law's where the arguments, and the package variables that the reading takes, are together of bulk at most 1048576: NARROWER than '..Said'. Prove '..Said' where nothing that the law and all that it calls make is longer than what came in: it says more and counts as full. Else prove '..UptoSaid'. A law counts once. -/
mutual
def uptoBulk {H : Type} : DataW H → Nat
  | .lit (.string bytes) => bytes.length + 1
  | .lit _ => 1
  | .nil => 1
  | .ptr d => uptoBulk d + 1
  | .slice elems spare => uptoBulkAll elems + uptoBulkAll spare + 1
  | .agg parts => uptoBulkAll parts + 1
  | .iface _ d => uptoBulk d + 1
  | .map entries => uptoBulkEntries entries + 1
  | .held _ => 1
def uptoBulkAll {H : Type} : List (DataW H) → Nat
  | [] => 0
  | d :: r => uptoBulk d + uptoBulkAll r
def uptoBulkEntries {H : Type} : List (Lit × DataW H) → Nat
  | [] => 0
  | x :: r => uptoBulkEntry x + uptoBulkEntries r
def uptoBulkEntry {H : Type} : Lit × DataW H → Nat
  | (.string bytes, d) => bytes.length + uptoBulk d + 1
  | (_, d) => uptoBulk d + 1
 end
def uptoSmall : (H : Type) → List (DataW H) → Bool := fun _ ds => decide (uptoBulkAll ds ≤ 1048576)
def OpenSpec.upto (s : _root_.Go.ChangeSpec) : _root_.Go.OpenSpec := { _root_.Go.OpenSpec.ofChange s with cond := some uptoSmall }

/-- 'overspilllaw03.InbitsReads', WHERE WHAT IT READS IS OF BULK AT MOST 1048576: true; the input reads as it did. -/
def inbitsReadsUptoRow : OpenClaim := { program := "ytgbeiogbppaogaa", sum := "c1dc5a7044442de3537f3ffe6536017673e6b02ee342745e591a52dcce30e98f", func := "overspill/overspilllaw03.InbitsReads", spec := "inbitsReads", apart := false, narrowed := true }
def InbitsReadsUptoSaid : Prop := inbitsReadsUptoRow.holds Try.pinned (OpenSpec.upto inbitsReadsSpec)

/-- 'overspilllaw03.InbitsNone', WHERE WHAT IT READS IS OF BULK AT MOST 1048576: true; the input reads as it did. -/
def inbitsNoneUptoRow : OpenClaim := { program := "ytgbeiogbppaogaa", sum := "c1dc5a7044442de3537f3ffe6536017673e6b02ee342745e591a52dcce30e98f", func := "overspill/overspilllaw03.InbitsNone", spec := "inbitsNone", apart := false, narrowed := true }
def InbitsNoneUptoSaid : Prop := inbitsNoneUptoRow.holds Try.pinned (OpenSpec.upto inbitsNoneSpec)

/-- 'overspilllaw02.OutbitsRows', WHERE WHAT IT READS IS OF BULK AT MOST 1048576: true; the input reads as it did. -/
def outbitsRowsUptoRow : OpenClaim := { program := "ytgbeiogbppaogaa", sum := "c1dc5a7044442de3537f3ffe6536017673e6b02ee342745e591a52dcce30e98f", func := "overspill/overspilllaw02.OutbitsRows", spec := "outbitsRows", apart := false, narrowed := true }
def OutbitsRowsUptoSaid : Prop := outbitsRowsUptoRow.holds Try.pinned (OpenSpec.upto outbitsRowsSpec)

/-- 'overspilllaw02.OutbitsBack', WHERE WHAT IT READS IS OF BULK AT MOST 1048576: true; the input reads as it did. -/
def outbitsBackUptoRow : OpenClaim := { program := "ytgbeiogbppaogaa", sum := "c1dc5a7044442de3537f3ffe6536017673e6b02ee342745e591a52dcce30e98f", func := "overspill/overspilllaw02.OutbitsBack", spec := "outbitsBack", apart := false, narrowed := true }
def OutbitsBackUptoSaid : Prop := outbitsBackUptoRow.holds Try.pinned (OpenSpec.upto outbitsBackSpec)

/-- 'overspilllaw03.InbitsBack', WHERE WHAT IT READS IS OF BULK AT MOST 1048576: true; the input reads as it did. -/
def inbitsBackUptoRow : OpenClaim := { program := "ytgbeiogbppaogaa", sum := "c1dc5a7044442de3537f3ffe6536017673e6b02ee342745e591a52dcce30e98f", func := "overspill/overspilllaw03.InbitsBack", spec := "inbitsBack", apart := false, narrowed := true }
def InbitsBackUptoSaid : Prop := inbitsBackUptoRow.holds Try.pinned (OpenSpec.upto inbitsBackSpec)

/-- 'overspilllaw04.MarksFinds', WHERE WHAT IT READS IS OF BULK AT MOST 1048576: true; the input reads as it did. -/
def marksFindsUptoRow : OpenClaim := { program := "ytgbeiogbppaogaa", sum := "c1dc5a7044442de3537f3ffe6536017673e6b02ee342745e591a52dcce30e98f", func := "overspill/overspilllaw04.MarksFinds", spec := "marksFinds", apart := false, narrowed := true }
def MarksFindsUptoSaid : Prop := marksFindsUptoRow.holds Try.pinned (OpenSpec.upto marksFindsSpec)

/-- 'overspilllaw02.OutbitsWrites', WHERE WHAT IT READS IS OF BULK AT MOST 1048576: true; the input reads as it did. -/
def outbitsWritesUptoRow : OpenClaim := { program := "ytgbeiogbppaogaa", sum := "c1dc5a7044442de3537f3ffe6536017673e6b02ee342745e591a52dcce30e98f", func := "overspill/overspilllaw02.OutbitsWrites", spec := "outbitsWrites", apart := false, narrowed := true }
def OutbitsWritesUptoSaid : Prop := outbitsWritesUptoRow.holds Try.pinned (OpenSpec.upto outbitsWritesSpec)

/-- 'overspilllaw04.MarksAt', WHERE WHAT IT READS IS OF BULK AT MOST 1048576: true; the input reads as it did. -/
def marksAtUptoRow : OpenClaim := { program := "ytgbeiogbppaogaa", sum := "c1dc5a7044442de3537f3ffe6536017673e6b02ee342745e591a52dcce30e98f", func := "overspill/overspilllaw04.MarksAt", spec := "marksAt", apart := false, narrowed := true }
def MarksAtUptoSaid : Prop := marksAtUptoRow.holds Try.pinned (OpenSpec.upto marksAtSpec)

/-- 'overspilllaw04.MarksBack', WHERE WHAT IT READS IS OF BULK AT MOST 1048576: true; the input reads as it did. -/
def marksBackUptoRow : OpenClaim := { program := "ytgbeiogbppaogaa", sum := "c1dc5a7044442de3537f3ffe6536017673e6b02ee342745e591a52dcce30e98f", func := "overspill/overspilllaw04.MarksBack", spec := "marksBack", apart := false, narrowed := true }
def MarksBackUptoSaid : Prop := marksBackUptoRow.holds Try.pinned (OpenSpec.upto marksBackSpec)

/-- 'overspilllaw23.RowheadTakes', WHERE WHAT IT READS IS OF BULK AT MOST 1048576: true; the input reads as it did. -/
def rowheadTakesUptoRow : OpenClaim := { program := "ytgbeiogbppaogaa", sum := "c1dc5a7044442de3537f3ffe6536017673e6b02ee342745e591a52dcce30e98f", func := "overspill/overspilllaw23.RowheadTakes", spec := "rowheadTakes", apart := false, narrowed := true }
def RowheadTakesUptoSaid : Prop := rowheadTakesUptoRow.holds Try.pinned (OpenSpec.upto rowheadTakesSpec)

/-- 'overspilllaw23.RowheadPuts', WHERE WHAT IT READS IS OF BULK AT MOST 1048576: true; the input reads as it did. -/
def rowheadPutsUptoRow : OpenClaim := { program := "ytgbeiogbppaogaa", sum := "c1dc5a7044442de3537f3ffe6536017673e6b02ee342745e591a52dcce30e98f", func := "overspill/overspilllaw23.RowheadPuts", spec := "rowheadPuts", apart := false, narrowed := true }
def RowheadPutsUptoSaid : Prop := rowheadPutsUptoRow.holds Try.pinned (OpenSpec.upto rowheadPutsSpec)

end Rows
end Go.Proofs.Ytgbeiogbppaogaa
