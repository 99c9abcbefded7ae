/- The program's types. -/
import Derived.Test.YtbcgkdigfkapcaaProg
import Derived.Test.YtbcgkdigfkapcaaL3
set_option linter.unusedVariables false
set_option linter.unusedSimpArgs false
namespace Go.Proofs.Ytbcgkdigfkapcaa
open Go.X

def tt : TT := [(3, ⟨.int .i64, 1, 8, true, .c (.int .i64 0)⟩),
  (4, ⟨.bool, 1, 1, true, .c (.bool false)⟩),
  (22, ⟨.arr 64 3 1, 64, 512, true, .agg [.ints 64 .i64 (List.replicate 64 0)]⟩),
  (23, ⟨.sl 63 3 24, 1, 24, false, .c (.val (.slice none 0 0))⟩),
  (24, ⟨.int .i64, 1, 8, true, .c (.int .i64 0)⟩),
  (63, ⟨.strct [(4, 0, 1), (3, 1, 1), (3, 2, 1)], 3, 24, true, .agg [.cs [.bool false, .int .i64 0, .int .i64 0]]⟩)]
theorem tt_ok : TtOk Try.prog tt := ttB_ok (by kernel_rfl)
theorem mixed : Try.prog.follows .mixedOrders = true := by kernel_rfl
abbrev gt0 : GT := []
abbrev md0 : Md := ⟨false, false⟩
abbrev mdT : Md := ⟨false, true⟩
abbrev mdW : Md := ⟨true, false⟩

end Go.Proofs.Ytbcgkdigfkapcaa
