/- The program's types. -/
import Derived.Test.YtkfaebbbjahcpaaDoorProg
import Derived.Test.YtkfaebbbjahcpaaDoorL9
set_option linter.unusedVariables false
set_option linter.unusedSimpArgs false
namespace Go.Proofs.YtkfaebbbjahcpaaDoor
open Go.X

def tt : TT := [(2, ⟨.int .i64, 1, 8, true, .c (.int .i64 0)⟩),
  (3, ⟨.int .i64, 1, 8, true, .c (.int .i64 0)⟩),
  (4, ⟨.bool, 1, 1, true, .c (.bool false)⟩),
  (5, ⟨.int .u8, 1, 1, true, .c (.int .u8 0)⟩),
  (22, ⟨.arr 64 3 1, 64, 512, true, .agg [.ints 64 .i64 (List.replicate 64 0)]⟩),
  (24, ⟨.strct [(22, 0, 64), (22, 64, 64), (3, 128, 1), (3, 129, 1), (4, 130, 1)], 131, 1048, true, .agg [.ints 64 .i64 (List.replicate 64 0), .ints 64 .i64 (List.replicate 64 0), .cs [.int .i64 0, .int .i64 0, .bool false]]⟩),
  (26, ⟨.strct [(22, 0, 64), (22, 64, 64), (3, 128, 1), (3, 129, 1), (4, 130, 1)], 131, 1048, true, .agg [.ints 64 .i64 (List.replicate 64 0), .ints 64 .i64 (List.replicate 64 0), .cs [.int .i64 0, .int .i64 0, .bool false]]⟩),
  (30, ⟨.arr 2 5 1, 2, 2, true, .agg [.ints 2 .u8 (List.replicate 2 0)]⟩),
  (114, ⟨.arr 4 3 1, 4, 32, true, .agg [.ints 4 .i64 (List.replicate 4 0)]⟩),
  (129, ⟨.arr 64 3 1, 64, 512, true, .agg [.ints 64 .i64 (List.replicate 64 0)]⟩),
  (133, ⟨.arr 8 3 1, 8, 64, true, .agg [.ints 8 .i64 (List.replicate 8 0)]⟩),
  (134, ⟨.arr 8 133 8, 64, 512, true, .agg [.ints 64 .i64 (List.replicate 64 0)]⟩),
  (160, ⟨.int .u64, 1, 8, true, .c (.int .u64 0)⟩),
  (171, ⟨.arr 8 114 4, 32, 256, true, .agg [.ints 32 .i64 (List.replicate 32 0)]⟩)]
theorem tt_ok : TtOk Tryd.prog tt := ttB_ok (by kernel_rfl)
theorem mixed : Tryd.prog.follows .mixedOrders = true := by kernel_rfl
def weightsL : List Int := [64, 64, 64, 64, 64, 64, 64, 64, 89, 75, 50, 18, -18, -50, -75, -89, 83, 36, -36, -83, -83, -36, 36, 83, 75, -18, -89, -50, 50, 89, 18, -75, 64, -64, -64, 64, 64, -64, -64, 64, 50, -89, 18, 75, -75, -18, 89, -50, 36, -83, 83, -36, -36, 83, -83, 36, 18, -50, 75, -89, 89, -75, 50, -18]
abbrev gt0 : GT := [(0, .flat [.ints 64 .i64 weightsL])]
abbrev md0 : Md := ⟨false, false⟩
abbrev mdT : Md := ⟨false, true⟩
abbrev mdW : Md := ⟨true, false⟩

end Go.Proofs.YtkfaebbbjahcpaaDoor
