/- What all laws of this seat ask of the program. -/
import Derived.Test.YtmlnpfkbnldacaaProg
import Derived.Test.YtmlnpfkbnldacaaX25
import Derived.WalkKit
import Derived.ProofKit
namespace Go.Proofs.Ytmlnpfkbnldacaa.LawK
open Go.ChangeShapes Go.WideShapes
open Go.X
theorem own : ownKnob Try.prog.godebug = none := by kernel_rfl
theorem kids : Kids Try.prog (· < Try.prog.types.size) := kids_rows (by kernel_rfl) (by kernel_rfl)
theorem full : ∀ t e, t < Try.prog.types.size → Try.prog.underlying t = some (.slice e) → 0 < Try.prog.cellsOf e := slices_full_of _ (by kernel_rfl)
end Go.Proofs.Ytmlnpfkbnldacaa.LawK
