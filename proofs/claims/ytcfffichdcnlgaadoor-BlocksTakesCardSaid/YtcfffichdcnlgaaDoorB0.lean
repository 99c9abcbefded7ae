/- The program's types. -/
import Derived.Test.YtcfffichdcnlgaaDoorProg
import Derived.Test.YtcfffichdcnlgaaDoorU3
set_option linter.unusedVariables false
set_option linter.unusedSimpArgs false
namespace Go.Proofs.YtcfffichdcnlgaaDoor
open Go.X

def tt : TT := [(1, ⟨.other, 1, 8, false, .c (.val .nilFunc)⟩),
  (2, ⟨.int .i64, 1, 8, true, .c (.int .i64 0)⟩),
  (3, ⟨.int .i64, 1, 8, true, .c (.int .i64 0)⟩),
  (4, ⟨.bool, 1, 1, true, .c (.bool false)⟩),
  (5, ⟨.int .u8, 1, 1, true, .c (.int .u8 0)⟩),
  (9, ⟨.str, 1, 16, true, .c (.str ⟨#[]⟩)⟩),
  (21, ⟨.int .i32, 1, 4, true, .c (.int .i32 0)⟩),
  (22, ⟨.ptr 45, 1, 8, true, .c (.val (.pointer none))⟩),
  (24, ⟨.int .i64, 1, 8, true, .c (.int .i64 0)⟩),
  (27, ⟨.strct [(4, 0, 1), (3, 1, 1), (3, 2, 1)], 3, 24, true, .agg [.cs [.bool false, .int .i64 0, .int .i64 0]]⟩),
  (28, ⟨.strct [(4, 0, 1), (3, 1, 1), (3, 2, 1)], 3, 24, true, .agg [.cs [.bool false, .int .i64 0, .int .i64 0]]⟩),
  (36, ⟨.arr 2 4 1, 2, 2, true, .agg [.cs [.bool false, .bool false]]⟩),
  (37, ⟨.sl 28 3 24, 1, 24, false, .c (.val (.slice none 0 0))⟩),
  (41, ⟨.other, 1, 8, false, .c (.val .nilFunc)⟩),
  (45, ⟨.strct [(9, 0, 1), (3, 1, 1)], 2, 24, true, .agg [.cs [.str ⟨#[]⟩, .int .i64 0]]⟩),
  (48, ⟨.sl 9 1 16, 1, 24, false, .c (.val (.slice none 0 0))⟩),
  (56, ⟨.sl 5 1 1, 1, 24, false, .c (.val (.slice none 0 0))⟩),
  (58, ⟨.ptr 81, 1, 8, true, .c (.val (.pointer none))⟩),
  (70, ⟨.arr 102 3 1, 102, 816, true, .agg [.ints 102 .i64 (List.replicate 102 0)]⟩),
  (73, ⟨.int .u64, 1, 8, true, .c (.int .u64 0)⟩),
  (81, ⟨.strct [(56, 0, 1), (3, 1, 1)], 2, 32, false, .agg [.cs [.val (.slice none 0 0), .int .i64 0]]⟩),
  (87, ⟨.arr 64 3 1, 64, 512, true, .agg [.ints 64 .i64 (List.replicate 64 0)]⟩)]
theorem tt_ok : TtOk Tryd.prog tt := ttB_ok (by kernel_rfl)
theorem mixed : Tryd.prog.follows .mixedOrders = true := by kernel_rfl
def codesL : List Int := [2, 15, 21, 23, 31, 37, 36, 33, 32, 7, 6, 32, 6, 20, 30, 15, 33, 80, 14, 29, 14, 81, 13, 35, 13, 12, 34, 82, 11, 12, 83, 19, 11, 84, 18, 10, 17, 9, 16, 8, 22, 85, 21, 20, 28, 27, 33, 32, 31, 30, 29, 28, 27, 26, 34, 35, 86, 87, 7, 25, 5, 15, 4, 14, 13, 12, 19, 18, 17, 16, 26, 25, 24, 23, 22, 21, 20, 19, 24, 23, 22, 21, 20, 19, 18, 17, 7, 6, 5, 4, 36, 37, 38, 39, 88, 89, 90, 91, 92, 93, 94, 95]
def lensL : List Int := [2, 4, 6, 7, 8, 9, 9, 10, 10, 11, 11, 11, 3, 6, 8, 10, 11, 12, 4, 8, 10, 12, 5, 9, 10, 5, 9, 12, 5, 10, 12, 6, 10, 12, 6, 10, 6, 10, 6, 10, 7, 12, 7, 7, 8, 8, 9, 9, 9, 9, 9, 9, 9, 9, 11, 11, 12, 12, 4, 9, 11, 6, 11, 6, 6, 6, 7, 7, 7, 7, 8, 8, 8, 8, 8, 8, 8, 8, 9, 9, 9, 9, 9, 9, 9, 9, 10, 10, 10, 10, 11, 11, 11, 11, 12, 12, 12, 12, 12, 12, 12, 12]
abbrev gt0 : GT := [(0, .flat [.ints 102 .i64 codesL]), (1, .flat [.ints 102 .i64 lensL])]
abbrev md0 : Md := ⟨false, false⟩
abbrev mdT : Md := ⟨false, true⟩
abbrev mdW : Md := ⟨true, false⟩

end Go.Proofs.YtcfffichdcnlgaaDoor
