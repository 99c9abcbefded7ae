/- The program's types. -/
import Derived.Test.YtngghhpbjppkcaaProg
import Derived.Test.YtngghhpbjppkcaaK3
set_option linter.unusedVariables false
set_option linter.unusedSimpArgs false
namespace Go.Proofs.Ytngghhpbjppkcaa
open Go.X

def tt : TT := [(1, ⟨.other, 1, 8, false, .c (.val .nilFunc)⟩),
  (2, ⟨.int .i64, 1, 8, true, .c (.int .i64 0)⟩),
  (3, ⟨.int .i64, 1, 8, true, .c (.int .i64 0)⟩),
  (4, ⟨.bool, 1, 1, true, .c (.bool false)⟩),
  (5, ⟨.int .u8, 1, 1, true, .c (.int .u8 0)⟩),
  (6, ⟨.int .u8, 1, 1, true, .c (.int .u8 0)⟩),
  (7, ⟨.strct [(2, 0, 1), (3, 1, 1), (4, 2, 1), (6, 3, 1)], 4, 24, true, .agg [.cs [.int .i64 0, .int .i64 0, .bool false, .int .u8 0]]⟩),
  (8, ⟨.strct [(2, 0, 1), (3, 1, 1), (4, 2, 1), (6, 3, 1)], 4, 24, true, .agg [.cs [.int .i64 0, .int .i64 0, .bool false, .int .u8 0]]⟩),
  (9, ⟨.str, 1, 16, true, .c (.str ⟨#[]⟩)⟩),
  (21, ⟨.int .i32, 1, 4, true, .c (.int .i32 0)⟩),
  (22, ⟨.ptr 49, 1, 8, true, .c (.val (.pointer none))⟩),
  (24, ⟨.int .i64, 1, 8, true, .c (.int .i64 0)⟩),
  (25, ⟨.other, 1, 8, false, .c (.val .nilFunc)⟩),
  (27, ⟨.sl 3 1 8, 1, 24, false, .c (.val (.slice none 0 0))⟩),
  (28, ⟨.sl 91 4 48, 1, 24, false, .c (.val (.slice none 0 0))⟩),
  (30, ⟨.strct [(3, 0, 1), (3, 1, 1), (3, 2, 1), (4, 3, 1), (3, 4, 1), (27, 5, 1), (28, 6, 1), (3, 7, 1)], 8, 96, false, .agg [.cs [.int .i64 0, .int .i64 0, .int .i64 0, .bool false, .int .i64 0, .val (.slice none 0 0), .val (.slice none 0 0), .int .i64 0]]⟩),
  (40, ⟨.ptr 57, 1, 8, true, .c (.val (.pointer none))⟩),
  (49, ⟨.strct [(9, 0, 1), (3, 1, 1)], 2, 24, true, .agg [.cs [.str ⟨#[]⟩, .int .i64 0]]⟩),
  (54, ⟨.sl 5 1 1, 1, 24, false, .c (.val (.slice none 0 0))⟩),
  (57, ⟨.strct [(54, 0, 1), (3, 1, 1)], 2, 32, false, .agg [.cs [.val (.slice none 0 0), .int .i64 0]]⟩),
  (69, ⟨.arr 4 3 1, 4, 32, true, .agg [.ints 4 .i64 (List.replicate 4 0)]⟩),
  (71, ⟨.int .u64, 1, 8, true, .c (.int .u64 0)⟩),
  (74, ⟨.sl 69 4 32, 1, 24, false, .c (.val (.slice none 0 0))⟩),
  (89, ⟨.sl 98 18 240, 1, 24, false, .c (.val (.slice none 0 0))⟩),
  (91, ⟨.strct [(4, 0, 1), (3, 1, 1), (3, 2, 1), (89, 3, 1)], 4, 48, false, .agg [.cs [.bool false, .int .i64 0, .int .i64 0, .val (.slice none 0 0)]]⟩),
  (93, ⟨.arr 2 3 1, 2, 16, true, .agg [.ints 2 .i64 (List.replicate 2 0)]⟩),
  (94, ⟨.arr 6 3 1, 6, 48, true, .agg [.ints 6 .i64 (List.replicate 6 0)]⟩),
  (95, ⟨.sl 100 3 24, 1, 24, false, .c (.val (.slice none 0 0))⟩),
  (96, ⟨.arr 6 95 1, 6, 144, false, .agg [.fzs 6 (.pair .bool (.pair (.int .i64) (.int .i64))) (List.replicate 6 [])]⟩),
  (98, ⟨.strct [(3, 0, 1), (4, 1, 1), (3, 2, 1), (3, 3, 1), (93, 4, 2), (94, 6, 6), (96, 12, 6)], 18, 240, false, .agg [.cs [.int .i64 0, .bool false, .int .i64 0, .int .i64 0], .ints 2 .i64 (List.replicate 2 0), .ints 6 .i64 (List.replicate 6 0), .fzs 6 (.pair .bool (.pair (.int .i64) (.int .i64))) (List.replicate 6 [])]⟩),
  (100, ⟨.strct [(4, 0, 1), (3, 1, 1), (3, 2, 1)], 3, 24, true, .agg [.cs [.bool false, .int .i64 0, .int .i64 0]]⟩)]
theorem tt_ok : TtOk Try.prog tt := ttB_ok (by kernel_rfl)
theorem mixed : Try.prog.follows .mixedOrders = true := by kernel_rfl
abbrev gt0 : GT := []
abbrev md0 : Md := ⟨false, false⟩
abbrev mdT : Md := ⟨false, true⟩
abbrev mdW : Md := ⟨true, false⟩
abbrev Zs1 : Sh := .pair .bool (.pair (.int .i64) (.pair (.int .i64) (.sl (.pair (.int .i64) (.pair .bool (.pair (.int .i64) (.pair (.int .i64) (.pair (.arr 2 .i64) (.pair (.arr 6 .i64) (.arrS 6 (.pair .bool (.pair (.int .i64) (.int .i64)))))))))))))
abbrev Zt1 : Type := List (Bool × (Int × (Int × (List (Int × (Bool × (Int × (Int × ((List Int) × ((List Int) × (List (List (Bool × (Int × Int))))))))))))))
abbrev Zt2 : Type := Int × Int × Int × Bool × Int × (List Int) × Int × Int × ByteArray × Int
abbrev Zt3 : Type := Int × Int × ByteArray × Int
abbrev Zt4 : Type := Nat × Int × ByteArray × Int × Nat × (List Int)
abbrev Zt5 : Type := Nat × Int × Nat × (List Int)
abbrev Zt6 : Type := Int × Nat × Nat × (List Int)
abbrev Zt7 : Type := Int × ByteArray × Int

end Go.Proofs.Ytngghhpbjppkcaa
