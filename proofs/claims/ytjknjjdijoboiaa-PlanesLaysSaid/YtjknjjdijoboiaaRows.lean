/-
  No cell of these rows narrows 'for every input' (looked for: loops, veiled, ifaces, maps, wideKeys, modest, calm, conditions, laid).
  DERIVED. THE GIVEN ROWS OF THIS SEAT. 9 by the template 'for every input the law returns true; each argument reads behind the call as it read before'; 0 by the template 'total and deterministic' (their statements: YtjknjjdijoboiaaTotals.lean).
  GIVEN WITH THE SEED: the statements are not yours to turn. If you find one false, say at which input.
  Laid BY PROGRAM, IN A SANDBOX (cutbox-rows.mjs): the forced cells as the released guide's own fill.sh prints them over the translation 246e915101fe94e1… (all of the seat's roots in one cut). By AI agents, Wed Nov 11 2026. No macro, syntax, notation, axiom, sorry.
-/
import Derived.Test.YtjknjjdijoboiaaChecked
import GoSem.Claim
import GoSem.ClaimJoined
import GoSem.ClaimMapViews
import Derived.JoinedTies
import Derived.KernelRfl
namespace Go.Proofs.Ytjknjjdijoboiaa
/- THE CELL 'sum', in the pinned program and in every row, IS THE sha256 OF THE DUMP (.gsa) THAT YtjknjjdijoboiaaProg.lean LOADS. Nothing in Lean hashes anything: it is a label: what it is worth is what the hold of that sum in a sandbox is worth. -/
noncomputable def Try.pinned : Pinned := { name := "ytjknjjdijoboiaa", sum := "246e915101fe94e12e22ca000ad0dfeff73f32cbc14db8af25ac9540ebff884f", checked := Try.checked }
namespace Rows
def none {H : Type} : Left H := { results := [], args := [] }

/-- 'overspilllaw18.MotionPredicts': WHATEVER THE INPUT: true; the input reads as it did. -/
def motionPredictsSpec : ChangeSpec := { name := "motionPredicts", fn := fun _ => fun
  | [d1, d2, d3] => { results := [.lit (.bool true)], args := [d1, d2, d3] }
  | _ => none }
def motionPredictsRow : OpenClaim := { program := "ytjknjjdijoboiaa", sum := "246e915101fe94e12e22ca000ad0dfeff73f32cbc14db8af25ac9540ebff884f", func := "overspill/overspilllaw18.MotionPredicts", spec := "motionPredicts", unfollowed := true, recurses := true, apart := false }
def MotionPredictsSaid : Prop := motionPredictsRow.holds Try.pinned (OpenSpec.ofChange motionPredictsSpec)

/-- ITS FALSE NEIGHBOUR: 'it returns false'. Refute it at one input. -/
def motionPredictsWrong : ChangeSpec := { name := "motionPredicts", fn := fun _ => fun
  | [d1, d2, d3] => { results := [.lit (.bool false)], args := [d1, d2, d3] }
  | _ => none }
def MotionPredictsWrongFalsely : Prop := motionPredictsRow.holds Try.pinned (OpenSpec.ofChange motionPredictsWrong)

/-- 'overspilllaw17.PlanesNew': WHATEVER THE INPUT: true; the input reads as it did. -/
def planesNewSpec : ChangeSpec := { name := "planesNew", fn := fun _ => fun
  | [d1, d2, d3] => { results := [.lit (.bool true)], args := [d1, d2, d3] }
  | _ => none }
def planesNewRow : OpenClaim := { program := "ytjknjjdijoboiaa", sum := "246e915101fe94e12e22ca000ad0dfeff73f32cbc14db8af25ac9540ebff884f", func := "overspill/overspilllaw17.PlanesNew", spec := "planesNew", inPlace := ["internal/bytealg.MakeNoZero"], apart := false }
def PlanesNewSaid : Prop := planesNewRow.holds Try.pinned (OpenSpec.ofChange planesNewSpec)

/-- ITS FALSE NEIGHBOUR: 'it returns false'. Refute it at one input. -/
def planesNewWrong : ChangeSpec := { name := "planesNew", fn := fun _ => fun
  | [d1, d2, d3] => { results := [.lit (.bool false)], args := [d1, d2, d3] }
  | _ => none }
def PlanesNewWrongFalsely : Prop := planesNewRow.holds Try.pinned (OpenSpec.ofChange planesNewWrong)

/-- 'overspilllaw17.PlanesCuts': WHATEVER THE INPUT: true; the input reads as it did. -/
def planesCutsSpec : ChangeSpec := { name := "planesCuts", fn := fun _ => fun
  | [d1, d2] => { results := [.lit (.bool true)], args := [d1, d2] }
  | _ => none }
def planesCutsRow : OpenClaim := { program := "ytjknjjdijoboiaa", sum := "246e915101fe94e12e22ca000ad0dfeff73f32cbc14db8af25ac9540ebff884f", func := "overspill/overspilllaw17.PlanesCuts", spec := "planesCuts", inPlace := ["internal/bytealg.MakeNoZero"], apart := false }
def PlanesCutsSaid : Prop := planesCutsRow.holds Try.pinned (OpenSpec.ofChange planesCutsSpec)

/-- ITS FALSE NEIGHBOUR: 'it returns false'. Refute it at one input. -/
def planesCutsWrong : ChangeSpec := { name := "planesCuts", fn := fun _ => fun
  | [d1, d2] => { results := [.lit (.bool false)], args := [d1, d2] }
  | _ => none }
def PlanesCutsWrongFalsely : Prop := planesCutsRow.holds Try.pinned (OpenSpec.ofChange planesCutsWrong)

/-- 'overspilllaw17.PlanesLays': WHATEVER THE INPUT: true; the input reads as it did. -/
def planesLaysSpec : ChangeSpec := { name := "planesLays", fn := fun _ => fun
  | [d1, d2] => { results := [.lit (.bool true)], args := [d1, d2] }
  | _ => none }
def planesLaysRow : OpenClaim := { program := "ytjknjjdijoboiaa", sum := "246e915101fe94e12e22ca000ad0dfeff73f32cbc14db8af25ac9540ebff884f", func := "overspill/overspilllaw17.PlanesLays", spec := "planesLays", inPlace := ["internal/bytealg.MakeNoZero"], apart := false }
def PlanesLaysSaid : Prop := planesLaysRow.holds Try.pinned (OpenSpec.ofChange planesLaysSpec)

/-- ITS FALSE NEIGHBOUR: 'it returns false'. Refute it at one input. -/
def planesLaysWrong : ChangeSpec := { name := "planesLays", fn := fun _ => fun
  | [d1, d2] => { results := [.lit (.bool false)], args := [d1, d2] }
  | _ => none }
def PlanesLaysWrongFalsely : Prop := planesLaysRow.holds Try.pinned (OpenSpec.ofChange planesLaysWrong)

/-- 'overspilllaw34.StoresBack': WHATEVER THE INPUT: true; the input reads as it did. -/
def storesBackSpec : ChangeSpec := { name := "storesBack", fn := fun _ => fun
  | [d1, d2] => { results := [.lit (.bool true)], args := [d1, d2] }
  | _ => none }
def storesBackRow : OpenClaim := { program := "ytjknjjdijoboiaa", sum := "246e915101fe94e12e22ca000ad0dfeff73f32cbc14db8af25ac9540ebff884f", func := "overspill/overspilllaw34.StoresBack", spec := "storesBack", inPlace := ["internal/bytealg.MakeNoZero"], apart := false }
def StoresBackSaid : Prop := storesBackRow.holds Try.pinned (OpenSpec.ofChange storesBackSpec)

/-- ITS FALSE NEIGHBOUR: 'it returns false'. Refute it at one input. -/
def storesBackWrong : ChangeSpec := { name := "storesBack", fn := fun _ => fun
  | [d1, d2] => { results := [.lit (.bool false)], args := [d1, d2] }
  | _ => none }
def StoresBackWrongFalsely : Prop := storesBackRow.holds Try.pinned (OpenSpec.ofChange storesBackWrong)

/-- 'overspilllaw17.PlanesBack': WHATEVER THE INPUT: true; the input reads as it did. -/
def planesBackSpec : ChangeSpec := { name := "planesBack", fn := fun _ => fun
  | [d1, d2] => { results := [.lit (.bool true)], args := [d1, d2] }
  | _ => none }
def planesBackRow : OpenClaim := { program := "ytjknjjdijoboiaa", sum := "246e915101fe94e12e22ca000ad0dfeff73f32cbc14db8af25ac9540ebff884f", func := "overspill/overspilllaw17.PlanesBack", spec := "planesBack", inPlace := ["internal/bytealg.MakeNoZero"], apart := false }
def PlanesBackSaid : Prop := planesBackRow.holds Try.pinned (OpenSpec.ofChange planesBackSpec)

/-- ITS FALSE NEIGHBOUR: 'it returns false'. Refute it at one input. -/
def planesBackWrong : ChangeSpec := { name := "planesBack", fn := fun _ => fun
  | [d1, d2] => { results := [.lit (.bool false)], args := [d1, d2] }
  | _ => none }
def PlanesBackWrongFalsely : Prop := planesBackRow.holds Try.pinned (OpenSpec.ofChange planesBackWrong)

/-- 'overspilllaw34.StoresDiffs': WHATEVER THE INPUT: true; the input reads as it did. -/
def storesDiffsSpec : ChangeSpec := { name := "storesDiffs", fn := fun _ => fun
  | [d1, d2, d3] => { results := [.lit (.bool true)], args := [d1, d2, d3] }
  | _ => none }
def storesDiffsRow : OpenClaim := { program := "ytjknjjdijoboiaa", sum := "246e915101fe94e12e22ca000ad0dfeff73f32cbc14db8af25ac9540ebff884f", func := "overspill/overspilllaw34.StoresDiffs", spec := "storesDiffs", inPlace := ["internal/bytealg.MakeNoZero"], apart := false }
def StoresDiffsSaid : Prop := storesDiffsRow.holds Try.pinned (OpenSpec.ofChange storesDiffsSpec)

/-- ITS FALSE NEIGHBOUR: 'it returns false'. Refute it at one input. -/
def storesDiffsWrong : ChangeSpec := { name := "storesDiffs", fn := fun _ => fun
  | [d1, d2, d3] => { results := [.lit (.bool false)], args := [d1, d2, d3] }
  | _ => none }
def StoresDiffsWrongFalsely : Prop := storesDiffsRow.holds Try.pinned (OpenSpec.ofChange storesDiffsWrong)

/-- 'overspilllaw18.MotionStill': WHATEVER THE INPUT: true; the input reads as it did. -/
def motionStillSpec : ChangeSpec := { name := "motionStill", fn := fun _ => fun
  | [d1, d2, d3] => { results := [.lit (.bool true)], args := [d1, d2, d3] }
  | _ => none }
def motionStillRow : OpenClaim := { program := "ytjknjjdijoboiaa", sum := "246e915101fe94e12e22ca000ad0dfeff73f32cbc14db8af25ac9540ebff884f", func := "overspill/overspilllaw18.MotionStill", spec := "motionStill", inPlace := ["internal/bytealg.MakeNoZero"], unfollowed := true, recurses := true, apart := false }
def MotionStillSaid : Prop := motionStillRow.holds Try.pinned (OpenSpec.ofChange motionStillSpec)

/-- ITS FALSE NEIGHBOUR: 'it returns false'. Refute it at one input. -/
def motionStillWrong : ChangeSpec := { name := "motionStill", fn := fun _ => fun
  | [d1, d2, d3] => { results := [.lit (.bool false)], args := [d1, d2, d3] }
  | _ => none }
def MotionStillWrongFalsely : Prop := motionStillRow.holds Try.pinned (OpenSpec.ofChange motionStillWrong)

/-- 'overspilllaw34.StoresDrifts': WHATEVER THE INPUT: true; the input reads as it did. -/
def storesDriftsSpec : ChangeSpec := { name := "storesDrifts", fn := fun _ => fun
  | [d1, d2, d3] => { results := [.lit (.bool true)], args := [d1, d2, d3] }
  | _ => none }
def storesDriftsRow : OpenClaim := { program := "ytjknjjdijoboiaa", sum := "246e915101fe94e12e22ca000ad0dfeff73f32cbc14db8af25ac9540ebff884f", func := "overspill/overspilllaw34.StoresDrifts", spec := "storesDrifts", inPlace := ["internal/bytealg.MakeNoZero"], unfollowed := true, recurses := true, apart := false }
def StoresDriftsSaid : Prop := storesDriftsRow.holds Try.pinned (OpenSpec.ofChange storesDriftsSpec)

/-- ITS FALSE NEIGHBOUR: 'it returns false'. Refute it at one input. -/
def storesDriftsWrong : ChangeSpec := { name := "storesDrifts", fn := fun _ => fun
  | [d1, d2, d3] => { results := [.lit (.bool false)], args := [d1, d2, d3] }
  | _ => none }
def StoresDriftsWrongFalsely : Prop := storesDriftsRow.holds Try.pinned (OpenSpec.ofChange storesDriftsWrong)

/- THE SECOND FORM. 'bulk': how many values and letters a reading holds, each counted each time it is reached (what is shared counts as often as it is met; a slice's spare places count too). A statement '..UptoSaid' is the law's where the arguments, and the package variables that the reading takes, are together of bulk at most 1048576: NARROWER than '..Said'. Prove '..Said' where nothing that the law and all that it calls make is longer than what came in: it says more and counts as full. Else prove '..UptoSaid'. A law counts once. -/
mutual
def uptoBulk {H : Type} : DataW H → Nat
  | .lit (.string bytes) => bytes.length + 1
  | .lit _ => 1
  | .nil => 1
  | .ptr d => uptoBulk d + 1
  | .slice elems spare => uptoBulkAll elems + uptoBulkAll spare + 1
  | .agg parts => uptoBulkAll parts + 1
  | .iface _ d => uptoBulk d + 1
  | .map entries => uptoBulkEntries entries + 1
  | .held _ => 1
def uptoBulkAll {H : Type} : List (DataW H) → Nat
  | [] => 0
  | d :: r => uptoBulk d + uptoBulkAll r
def uptoBulkEntries {H : Type} : List (Lit × DataW H) → Nat
  | [] => 0
  | x :: r => uptoBulkEntry x + uptoBulkEntries r
def uptoBulkEntry {H : Type} : Lit × DataW H → Nat
  | (.string bytes, d) => bytes.length + uptoBulk d + 1
  | (_, d) => uptoBulk d + 1
 end
def uptoSmall : (H : Type) → List (DataW H) → Bool := fun _ ds => decide (uptoBulkAll ds ≤ 1048576)
def OpenSpec.upto (s : _root_.Go.ChangeSpec) : _root_.Go.OpenSpec := { _root_.Go.OpenSpec.ofChange s with cond := some uptoSmall }

/-- 'overspilllaw18.MotionPredicts', WHERE WHAT IT READS IS OF BULK AT MOST 1048576: true; the input reads as it did. -/
def motionPredictsUptoRow : OpenClaim := { program := "ytjknjjdijoboiaa", sum := "246e915101fe94e12e22ca000ad0dfeff73f32cbc14db8af25ac9540ebff884f", func := "overspill/overspilllaw18.MotionPredicts", spec := "motionPredicts", unfollowed := true, recurses := true, apart := false, narrowed := true }
def MotionPredictsUptoSaid : Prop := motionPredictsUptoRow.holds Try.pinned (OpenSpec.upto motionPredictsSpec)

/-- 'overspilllaw17.PlanesNew', WHERE WHAT IT READS IS OF BULK AT MOST 1048576: true; the input reads as it did. -/
def planesNewUptoRow : OpenClaim := { program := "ytjknjjdijoboiaa", sum := "246e915101fe94e12e22ca000ad0dfeff73f32cbc14db8af25ac9540ebff884f", func := "overspill/overspilllaw17.PlanesNew", spec := "planesNew", inPlace := ["internal/bytealg.MakeNoZero"], apart := false, narrowed := true }
def PlanesNewUptoSaid : Prop := planesNewUptoRow.holds Try.pinned (OpenSpec.upto planesNewSpec)

/-- 'overspilllaw17.PlanesCuts', WHERE WHAT IT READS IS OF BULK AT MOST 1048576: true; the input reads as it did. -/
def planesCutsUptoRow : OpenClaim := { program := "ytjknjjdijoboiaa", sum := "246e915101fe94e12e22ca000ad0dfeff73f32cbc14db8af25ac9540ebff884f", func := "overspill/overspilllaw17.PlanesCuts", spec := "planesCuts", inPlace := ["internal/bytealg.MakeNoZero"], apart := false, narrowed := true }
def PlanesCutsUptoSaid : Prop := planesCutsUptoRow.holds Try.pinned (OpenSpec.upto planesCutsSpec)

/-- 'overspilllaw17.PlanesLays', WHERE WHAT IT READS IS OF BULK AT MOST 1048576: true; the input reads as it did. -/
def planesLaysUptoRow : OpenClaim := { program := "ytjknjjdijoboiaa", sum := "246e915101fe94e12e22ca000ad0dfeff73f32cbc14db8af25ac9540ebff884f", func := "overspill/overspilllaw17.PlanesLays", spec := "planesLays", inPlace := ["internal/bytealg.MakeNoZero"], apart := false, narrowed := true }
def PlanesLaysUptoSaid : Prop := planesLaysUptoRow.holds Try.pinned (OpenSpec.upto planesLaysSpec)

/-- 'overspilllaw34.StoresBack', WHERE WHAT IT READS IS OF BULK AT MOST 1048576: true; the input reads as it did. -/
def storesBackUptoRow : OpenClaim := { program := "ytjknjjdijoboiaa", sum := "246e915101fe94e12e22ca000ad0dfeff73f32cbc14db8af25ac9540ebff884f", func := "overspill/overspilllaw34.StoresBack", spec := "storesBack", inPlace := ["internal/bytealg.MakeNoZero"], apart := false, narrowed := true }
def StoresBackUptoSaid : Prop := storesBackUptoRow.holds Try.pinned (OpenSpec.upto storesBackSpec)

/-- 'overspilllaw17.PlanesBack', WHERE WHAT IT READS IS OF BULK AT MOST 1048576: true; the input reads as it did. -/
def planesBackUptoRow : OpenClaim := { program := "ytjknjjdijoboiaa", sum := "246e915101fe94e12e22ca000ad0dfeff73f32cbc14db8af25ac9540ebff884f", func := "overspill/overspilllaw17.PlanesBack", spec := "planesBack", inPlace := ["internal/bytealg.MakeNoZero"], apart := false, narrowed := true }
def PlanesBackUptoSaid : Prop := planesBackUptoRow.holds Try.pinned (OpenSpec.upto planesBackSpec)

/-- 'overspilllaw34.StoresDiffs', WHERE WHAT IT READS IS OF BULK AT MOST 1048576: true; the input reads as it did. -/
def storesDiffsUptoRow : OpenClaim := { program := "ytjknjjdijoboiaa", sum := "246e915101fe94e12e22ca000ad0dfeff73f32cbc14db8af25ac9540ebff884f", func := "overspill/overspilllaw34.StoresDiffs", spec := "storesDiffs", inPlace := ["internal/bytealg.MakeNoZero"], apart := false, narrowed := true }
def StoresDiffsUptoSaid : Prop := storesDiffsUptoRow.holds Try.pinned (OpenSpec.upto storesDiffsSpec)

/-- 'overspilllaw18.MotionStill', WHERE WHAT IT READS IS OF BULK AT MOST 1048576: true; the input reads as it did. -/
def motionStillUptoRow : OpenClaim := { program := "ytjknjjdijoboiaa", sum := "246e915101fe94e12e22ca000ad0dfeff73f32cbc14db8af25ac9540ebff884f", func := "overspill/overspilllaw18.MotionStill", spec := "motionStill", inPlace := ["internal/bytealg.MakeNoZero"], unfollowed := true, recurses := true, apart := false, narrowed := true }
def MotionStillUptoSaid : Prop := motionStillUptoRow.holds Try.pinned (OpenSpec.upto motionStillSpec)

/-- 'overspilllaw34.StoresDrifts', WHERE WHAT IT READS IS OF BULK AT MOST 1048576: true; the input reads as it did. -/
def storesDriftsUptoRow : OpenClaim := { program := "ytjknjjdijoboiaa", sum := "246e915101fe94e12e22ca000ad0dfeff73f32cbc14db8af25ac9540ebff884f", func := "overspill/overspilllaw34.StoresDrifts", spec := "storesDrifts", inPlace := ["internal/bytealg.MakeNoZero"], unfollowed := true, recurses := true, apart := false, narrowed := true }
def StoresDriftsUptoSaid : Prop := storesDriftsUptoRow.holds Try.pinned (OpenSpec.upto storesDriftsSpec)

end Rows
end Go.Proofs.Ytjknjjdijoboiaa
