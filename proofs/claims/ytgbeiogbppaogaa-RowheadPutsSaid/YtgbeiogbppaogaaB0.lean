/- The program's types. -/
import Derived.Test.YtgbeiogbppaogaaProg
import Derived.Test.YtgbeiogbppaogaaL3
set_option linter.unusedVariables false
set_option linter.unusedSimpArgs false
namespace Go.Proofs.Ytgbeiogbppaogaa
open Go.X

def tt : TT := [(2, ⟨.int .i64, 1, 8, true, .c (.int .i64 0)⟩),
  (3, ⟨.int .i64, 1, 8, true, .c (.int .i64 0)⟩),
  (4, ⟨.bool, 1, 1, true, .c (.bool false)⟩),
  (5, ⟨.int .u8, 1, 1, true, .c (.int .u8 0)⟩),
  (9, ⟨.str, 1, 16, true, .c (.str ⟨#[]⟩)⟩),
  (21, ⟨.int .i32, 1, 4, true, .c (.int .i32 0)⟩),
  (22, ⟨.sl 29 2 16, 1, 24, false, .c (.val (.slice none 0 0))⟩),
  (24, ⟨.ptr 41, 1, 8, true, .c (.val (.pointer none))⟩),
  (27, ⟨.int .i64, 1, 8, true, .c (.int .i64 0)⟩),
  (28, ⟨.strct [(3, 0, 1), (3, 1, 1)], 2, 16, true, .agg [.cs [.int .i64 0, .int .i64 0]]⟩),
  (29, ⟨.strct [(3, 0, 1), (3, 1, 1)], 2, 16, true, .agg [.cs [.int .i64 0, .int .i64 0]]⟩),
  (40, ⟨.strct [(9, 0, 1), (3, 1, 1)], 2, 24, true, .agg [.cs [.str ⟨#[]⟩, .int .i64 0]]⟩),
  (41, ⟨.strct [(9, 0, 1), (3, 1, 1)], 2, 24, true, .agg [.cs [.str ⟨#[]⟩, .int .i64 0]]⟩),
  (51, ⟨.sl 55 2 16, 1, 24, false, .c (.val (.slice none 0 0))⟩),
  (52, ⟨.ptr 63, 1, 8, true, .c (.val (.pointer none))⟩),
  (55, ⟨.arr 2 3 1, 2, 16, true, .agg [.cs [.int .i64 0, .int .i64 0]]⟩),
  (60, ⟨.sl 65 4 40, 1, 24, false, .c (.val (.slice none 0 0))⟩),
  (61, ⟨.sl 5 1 1, 1, 24, false, .c (.val (.slice none 0 0))⟩),
  (62, ⟨.strct [(61, 0, 1), (3, 1, 1)], 2, 32, false, .agg [.cs [.val (.slice none 0 0), .int .i64 0]]⟩),
  (63, ⟨.strct [(61, 0, 1), (3, 1, 1)], 2, 32, false, .agg [.cs [.val (.slice none 0 0), .int .i64 0]]⟩),
  (64, ⟨.strct [(3, 0, 1), (3, 1, 1), (3, 2, 1), (9, 3, 1)], 4, 40, true, .agg [.cs [.int .i64 0, .int .i64 0, .int .i64 0, .str ⟨#[]⟩]]⟩),
  (65, ⟨.strct [(3, 0, 1), (3, 1, 1), (3, 2, 1), (9, 3, 1)], 4, 40, true, .agg [.cs [.int .i64 0, .int .i64 0, .int .i64 0, .str ⟨#[]⟩]]⟩),
  (82, ⟨.int .u64, 1, 8, true, .c (.int .u64 0)⟩)]
theorem tt_ok : TtOk Try.prog tt := ttB_ok (by kernel_rfl)
theorem mixed : Try.prog.follows .mixedOrders = true := by kernel_rfl
abbrev gt0 : GT := []
abbrev md0 : Md := ⟨false, false⟩
abbrev mdT : Md := ⟨false, true⟩
abbrev mdW : Md := ⟨true, false⟩

end Go.Proofs.Ytgbeiogbppaogaa
