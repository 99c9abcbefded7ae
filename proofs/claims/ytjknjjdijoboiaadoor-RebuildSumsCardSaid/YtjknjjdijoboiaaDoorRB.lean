/- What the printed models answer: plain laws. -/
import Derived.Test.YtjknjjdijoboiaaDoorR2
set_option linter.unusedVariables false
set_option linter.unusedSimpArgs false
namespace Go.Proofs.YtjknjjdijoboiaaDoor
open Go.X

theorem inS {i : Nat} (h : i < 4294967296) : inK .i64 ((i : Int) + 1) := in64 (by omega) (by omega)
abbrev Ev := Bool × (Int × Int)
abbrev Evs := List (List Ev)
theorem in5 {i : Nat} (h : i < 6) : (0 : Int) ≤ (i : Int) ∧ (i : Int) < 6 ∧ ((i : Int)).toNat < 6 := ⟨by omega, by omega, by omega⟩
end Go.Proofs.YtjknjjdijoboiaaDoor
