/- The program's types. -/
import Derived.Test.YtjknjjdijoboiaaProg
import Derived.Test.YtjknjjdijoboiaaV3
set_option linter.unusedVariables false
set_option linter.unusedSimpArgs false
namespace Go.Proofs.Ytjknjjdijoboiaa
open Go.X

def tt : TT := [(1, ⟨.other, 1, 8, false, .c (.val .nilFunc)⟩),
  (2, ⟨.int .i64, 1, 8, true, .c (.int .i64 0)⟩),
  (3, ⟨.int .i64, 1, 8, true, .c (.int .i64 0)⟩),
  (4, ⟨.bool, 1, 1, true, .c (.bool false)⟩),
  (5, ⟨.int .u8, 1, 1, true, .c (.int .u8 0)⟩),
  (6, ⟨.int .u8, 1, 1, true, .c (.int .u8 0)⟩),
  (7, ⟨.strct [(2, 0, 1), (3, 1, 1), (4, 2, 1), (6, 3, 1)], 4, 24, true, .agg [.cs [.int .i64 0, .int .i64 0, .bool false, .int .u8 0]]⟩),
  (9, ⟨.str, 1, 16, true, .c (.str ⟨#[]⟩)⟩),
  (22, ⟨.sl 5 1 1, 1, 24, false, .c (.val (.slice none 0 0))⟩),
  (23, ⟨.arr 3 22 1, 3, 72, false, .agg [.fzs 3 (.int .u8) (List.replicate 3 [])]⟩),
  (25, ⟨.strct [(3, 0, 1), (23, 1, 3)], 4, 80, false, .agg [.cs [.int .i64 0], .fzs 3 (.int .u8) (List.replicate 3 [])]⟩),
  (29, ⟨.arr 64 3 1, 64, 512, true, .agg [.ints 64 .i64 (List.replicate 64 0)]⟩),
  (31, ⟨.arr 6 29 64, 384, 3072, true, .agg [.ints 384 .i64 (List.replicate 384 0)]⟩),
  (32, ⟨.int .i64, 1, 8, true, .c (.int .i64 0)⟩),
  (47, ⟨.sl 58 2 32, 1, 24, false, .c (.val (.slice none 0 0))⟩),
  (48, ⟨.ptr 53, 1, 8, true, .c (.val (.pointer none))⟩),
  (51, ⟨.strct [(3, 0, 1), (23, 1, 3)], 4, 80, false, .agg [.cs [.int .i64 0], .fzs 3 (.int .u8) (List.replicate 3 [])]⟩),
  (53, ⟨.strct [(51, 0, 4)], 4, 80, false, .agg [.cs [.int .i64 0], .fzs 3 (.int .u8) (List.replicate 3 [])]⟩),
  (56, ⟨.sl 3 1 8, 1, 24, false, .c (.val (.slice none 0 0))⟩),
  (58, ⟨.strct [(3, 0, 1), (56, 1, 1)], 2, 32, false, .agg [.cs [.int .i64 0, .val (.slice none 0 0)]]⟩),
  (90, ⟨.arr 4 3 1, 4, 32, true, .agg [.ints 4 .i64 (List.replicate 4 0)]⟩),
  (104, ⟨.sl 90 4 32, 1, 24, false, .c (.val (.slice none 0 0))⟩),
  (105, ⟨.int .u64, 1, 8, true, .c (.int .u64 0)⟩),
  (109, ⟨.int .u32, 1, 4, true, .c (.int .u32 0)⟩),
  (112, ⟨.int .u64, 1, 8, true, .c (.int .u64 0)⟩)]
theorem tt_ok : TtOk Try.prog tt := ttB_ok (by kernel_rfl)
theorem mixed : Try.prog.follows .mixedOrders = true := by kernel_rfl
def ttC : TT := [(1, ⟨.other, 1, 8, false, .c (.val .nilFunc)⟩),
  (2, ⟨.int .i64, 1, 8, true, .c (.int .i64 0)⟩),
  (3, ⟨.int .i64, 1, 8, true, .c (.int .i64 0)⟩),
  (4, ⟨.bool, 1, 1, true, .c (.bool false)⟩),
  (5, ⟨.int .u8, 1, 1, true, .c (.int .u8 0)⟩),
  (6, ⟨.int .u8, 1, 1, true, .c (.int .u8 0)⟩),
  (7, ⟨.strct [(2, 0, 1), (3, 1, 1), (4, 2, 1), (6, 3, 1)], 4, 24, true, .agg [.cs [.int .i64 0, .int .i64 0, .bool false, .int .u8 0]]⟩),
  (9, ⟨.str, 1, 16, true, .c (.str ⟨#[]⟩)⟩),
  (22, ⟨.sl 5 1 1, 1, 24, false, .c (.val (.slice none 0 0))⟩),
  (23, ⟨.arr 3 22 1, 3, 72, false, .agg [.cs [.val (.slice none 0 0), .val (.slice none 0 0), .val (.slice none 0 0)]]⟩),
  (25, ⟨.strct [(3, 0, 1), (23, 1, 3)], 4, 80, false, .agg [.cs [.int .i64 0, .val (.slice none 0 0), .val (.slice none 0 0), .val (.slice none 0 0)]]⟩),
  (29, ⟨.arr 64 3 1, 64, 512, true, .agg [.ints 64 .i64 (List.replicate 64 0)]⟩),
  (31, ⟨.arr 6 29 64, 384, 3072, true, .agg [.ints 384 .i64 (List.replicate 384 0)]⟩),
  (32, ⟨.int .i64, 1, 8, true, .c (.int .i64 0)⟩),
  (47, ⟨.sl 58 2 32, 1, 24, false, .c (.val (.slice none 0 0))⟩),
  (48, ⟨.ptr 53, 1, 8, true, .c (.val (.pointer none))⟩),
  (51, ⟨.strct [(3, 0, 1), (23, 1, 3)], 4, 80, false, .agg [.cs [.int .i64 0, .val (.slice none 0 0), .val (.slice none 0 0), .val (.slice none 0 0)]]⟩),
  (53, ⟨.strct [(51, 0, 4)], 4, 80, false, .agg [.cs [.int .i64 0, .val (.slice none 0 0), .val (.slice none 0 0), .val (.slice none 0 0)]]⟩),
  (56, ⟨.sl 3 1 8, 1, 24, false, .c (.val (.slice none 0 0))⟩),
  (58, ⟨.strct [(3, 0, 1), (56, 1, 1)], 2, 32, false, .agg [.cs [.int .i64 0, .val (.slice none 0 0)]]⟩),
  (90, ⟨.arr 4 3 1, 4, 32, true, .agg [.ints 4 .i64 (List.replicate 4 0)]⟩),
  (104, ⟨.sl 90 4 32, 1, 24, false, .c (.val (.slice none 0 0))⟩),
  (105, ⟨.int .u64, 1, 8, true, .c (.int .u64 0)⟩),
  (109, ⟨.int .u32, 1, 4, true, .c (.int .u32 0)⟩),
  (112, ⟨.int .u64, 1, 8, true, .c (.int .u64 0)⟩)]
theorem ttC_ok : TtOk Try.prog ttC := ttB_ok (by kernel_rfl)
abbrev gt0 : GT := []
abbrev md0 : Md := ⟨false, false⟩
abbrev mdT : Md := ⟨false, true⟩
abbrev mdW : Md := ⟨true, false⟩

end Go.Proofs.Ytjknjjdijoboiaa
