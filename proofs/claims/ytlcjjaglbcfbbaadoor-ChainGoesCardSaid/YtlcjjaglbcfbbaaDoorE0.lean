/- The program's types. -/
import Derived.Test.YtlcjjaglbcfbbaaDoorProg
import Derived.Test.YtlcjjaglbcfbbaaDoorEL3
set_option linter.unusedVariables false
set_option linter.unusedSimpArgs false
namespace Go.Proofs.YtlcjjaglbcfbbaaDoor
open Go.X

def tt : TT := [(1, ⟨.other, 1, 8, false, .c (.val .nilFunc)⟩),
 (2, ⟨.int .i64, 1, 8, true, .c (.int .i64 0)⟩),
 (3, ⟨.int .i64, 1, 8, true, .c (.int .i64 0)⟩),
 (4, ⟨.bool, 1, 1, true, .c (.bool false)⟩),
 (5, ⟨.int .u8, 1, 1, true, .c (.int .u8 0)⟩),
 (6, ⟨.int .u8, 1, 1, true, .c (.int .u8 0)⟩),
 (7, ⟨.strct [(2, 0, 1), (3, 1, 1), (4, 2, 1), (6, 3, 1)], 4, 24, true, .agg [.cs [.int .i64 0, .int .i64 0, .bool false, .int .u8 0]]⟩),
 (9, ⟨.str, 1, 16, true, .c (.str ⟨#[]⟩)⟩),
 (21, ⟨.int .i32, 1, 4, true, .c (.int .i32 0)⟩),
 (22, ⟨.sl 3 1 8, 1, 24, false, .c (.val (.slice none 0 0))⟩),
 (23, ⟨.sl 49 4 48, 1, 24, false, .c (.val (.slice none 0 0))⟩),
 (25, ⟨.strct [(3, 0, 1), (3, 1, 1), (3, 2, 1), (4, 3, 1), (3, 4, 1), (22, 5, 1), (23, 6, 1), (3, 7, 1)], 8, 96, false, .agg [.cs [.int .i64 0, .int .i64 0, .int .i64 0, .bool false, .int .i64 0, .val (.slice none 0 0), .val (.slice none 0 0), .int .i64 0]]⟩),
 (28, ⟨.int .i64, 1, 8, true, .c (.int .i64 0)⟩),
 (31, ⟨.sl 42 18 240, 1, 24, false, .c (.val (.slice none 0 0))⟩),
 (37, ⟨.arr 2 3 1, 2, 16, true, .agg [.ints 2 .i64 (List.replicate 2 0)]⟩),
 (38, ⟨.arr 6 3 1, 6, 48, true, .agg [.ints 6 .i64 (List.replicate 6 0)]⟩),
 (39, ⟨.sl 75 3 24, 1, 24, false, .c (.val (.slice none 0 0))⟩),
 (40, ⟨.arr 6 39 1, 6, 144, false, .agg [.fzs 6 (.pair .bool (.pair (.int .i64) (.int .i64))) (List.replicate 6 [])]⟩),
 (42, ⟨.strct [(3, 0, 1), (4, 1, 1), (3, 2, 1), (3, 3, 1), (37, 4, 2), (38, 6, 6), (40, 12, 6)], 18, 240, false, .agg [.cs [.int .i64 0, .bool false, .int .i64 0, .int .i64 0], .ints 2 .i64 (List.replicate 2 0), .ints 6 .i64 (List.replicate 6 0), .fzs 6 (.pair .bool (.pair (.int .i64) (.int .i64))) (List.replicate 6 [])]⟩),
 (49, ⟨.strct [(4, 0, 1), (3, 1, 1), (3, 2, 1), (31, 3, 1)], 4, 48, false, .agg [.cs [.bool false, .int .i64 0, .int .i64 0, .val (.slice none 0 0)]]⟩),
 (51, ⟨.strct [(3, 0, 1), (22, 1, 1), (22, 2, 1), (22, 3, 1)], 4, 80, false, .agg [.cs [.int .i64 0, .val (.slice none 0 0), .val (.slice none 0 0), .val (.slice none 0 0)]]⟩),
 (56, ⟨.strct [(3, 0, 1), (22, 1, 1), (22, 2, 1), (22, 3, 1)], 4, 80, false, .agg [.cs [.int .i64 0, .val (.slice none 0 0), .val (.slice none 0 0), .val (.slice none 0 0)]]⟩),
 (63, ⟨.ptr 88, 1, 8, true, .c (.val (.pointer none))⟩),
 (66, ⟨.other, 1, 8, false, .c (.val .nilFunc)⟩),
 (67, ⟨.strct [(3, 0, 1), (3, 1, 1), (3, 2, 1), (4, 3, 1), (3, 4, 1), (22, 5, 1), (23, 6, 1), (3, 7, 1)], 8, 96, false, .agg [.cs [.int .i64 0, .int .i64 0, .int .i64 0, .bool false, .int .i64 0, .val (.slice none 0 0), .val (.slice none 0 0), .int .i64 0]]⟩),
 (75, ⟨.strct [(4, 0, 1), (3, 1, 1), (3, 2, 1)], 3, 24, true, .agg [.cs [.bool false, .int .i64 0, .int .i64 0]]⟩),
 (79, ⟨.other, 1, 8, false, .c (.val .nilFunc)⟩),
 (86, ⟨.sl 5 1 1, 1, 24, false, .c (.val (.slice none 0 0))⟩),
 (88, ⟨.strct [(86, 0, 1), (3, 1, 1)], 2, 32, false, .agg [.cs [.val (.slice none 0 0), .int .i64 0]]⟩),
 (99, ⟨.int .u64, 1, 8, true, .c (.int .u64 0)⟩),
 (109, ⟨.arr 64 3 1, 64, 512, true, .agg [.ints 64 .i64 (List.replicate 64 0)]⟩),
 (119, ⟨.arr 102 3 1, 102, 816, true, .agg [.ints 102 .i64 (List.replicate 102 0)]⟩)]
theorem tt_ok : TtOk Tryd.prog tt := ttB_ok (by kernel_rfl)
theorem mixed : Tryd.prog.follows .mixedOrders = true := by kernel_rfl
def codesL : List Int := [2, 15, 21, 23, 31, 37, 36, 33, 32, 7, 6, 32, 6, 20, 30, 15, 33, 80, 14, 29, 14, 81, 13, 35, 13, 12, 34, 82, 11, 12, 83, 19, 11, 84, 18, 10, 17, 9, 16, 8, 22, 85, 21, 20, 28, 27, 33, 32, 31, 30, 29, 28, 27, 26, 34, 35, 86, 87, 7, 25, 5, 15, 4, 14, 13, 12, 19, 18, 17, 16, 26, 25, 24, 23, 22, 21, 20, 19, 24, 23, 22, 21, 20, 19, 18, 17, 7, 6, 5, 4, 36, 37, 38, 39, 88, 89, 90, 91, 92, 93, 94, 95]
def lensL : List Int := [2, 4, 6, 7, 8, 9, 9, 10, 10, 11, 11, 11, 3, 6, 8, 10, 11, 12, 4, 8, 10, 12, 5, 9, 10, 5, 9, 12, 5, 10, 12, 6, 10, 12, 6, 10, 6, 10, 6, 10, 7, 12, 7, 7, 8, 8, 9, 9, 9, 9, 9, 9, 9, 9, 11, 11, 12, 12, 4, 9, 11, 6, 11, 6, 6, 6, 7, 7, 7, 7, 8, 8, 8, 8, 8, 8, 8, 8, 9, 9, 9, 9, 9, 9, 9, 9, 10, 10, 10, 10, 11, 11, 11, 11, 12, 12, 12, 12, 12, 12, 12, 12]
abbrev gt0 : GT := [(0, .flat [.ints 102 .i64 codesL]), (1, .flat [.ints 102 .i64 lensL])]
abbrev md0 : Md := ⟨false, false⟩
abbrev mdT : Md := ⟨false, true⟩
abbrev mdW : Md := ⟨true, false⟩
abbrev Zs1 : Sh := .pair .bool (.pair (.int .i64) (.pair (.int .i64) (.sl (.pair (.int .i64) (.pair .bool (.pair (.int .i64) (.pair (.int .i64) (.pair (.arr 2 .i64) (.pair (.arr 6 .i64) (.arrS 6 (.pair .bool (.pair (.int .i64) (.int .i64)))))))))))))
abbrev Zs2 : Sh := .pair (.int .i64) (.pair .bool (.pair (.int .i64) (.pair (.int .i64) (.pair (.arr 2 .i64) (.pair (.arr 6 .i64) (.arrS 6 (.pair .bool (.pair (.int .i64) (.int .i64)))))))))
abbrev Zs3 : Sh := .pair .bool (.pair (.int .i64) (.int .i64))
abbrev Zt1 : Type := List (Bool × (Int × (Int × (List (Int × (Bool × (Int × (Int × ((List Int) × ((List Int) × (List (List (Bool × (Int × Int))))))))))))))
abbrev Zt2 : Type := Int × (Bool × (Int × (Int × ((List Int) × ((List Int) × (List (List (Bool × (Int × Int)))))))))
abbrev Zt3 : Type := Nat × Int × (List (Int × (Bool × (Int × (Int × ((List Int) × ((List Int) × (List (List (Bool × (Int × Int)))))))))))
abbrev Zt4 : Type := (List Int) × Int × Int × Nat × Nat × Nat × Nat × (List Int) × Nat × (List Int) × Nat × (List Int)
abbrev Zt5 : Type := Int × Int × Nat × Nat × (List Int)
abbrev Zt6 : Type := Bool × (Int × (Int × (List (Int × (Bool × (Int × (Int × ((List Int) × ((List Int) × (List (List (Bool × (Int × Int)))))))))))))
abbrev Zt7 : Type := List (Int × (Bool × (Int × (Int × ((List Int) × ((List Int) × (List (List (Bool × (Int × Int))))))))))
abbrev Zt8 : Type := List (List (Bool × (Int × Int)))
abbrev Zt9 : Type := Nat × Nat × (List Int)
abbrev Zt10 : Type := List (Bool × (Int × Int))
abbrev Zt11 : Type := Int × Nat × Nat × Nat × Nat × (List Int) × Nat × (List Int) × Nat × (List Int)
abbrev Zt12 : Type := Nat × Int × Bool × (List (Int × (Bool × (Int × (Int × ((List Int) × ((List Int) × (List (List (Bool × (Int × Int)))))))))))
abbrev Zt13 : Type := Int × (List Int) × (List Int) × (List Int) × Int
abbrev Zt14 : Type := Nat × (List (Int × (Bool × (Int × (Int × ((List Int) × ((List Int) × (List (List (Bool × (Int × Int)))))))))))
abbrev Zt15 : Type := Nat × Int × Int × Nat × (List Int)
abbrev Zt16 : Type := Int × Int × Nat × Nat × Nat × (List Int) × Nat × (List Int)
abbrev Zt17 : Type := Nat × Int × Nat × (List Int)
abbrev Zd1 : (Int × (Bool × (Int × (Int × ((List Int) × ((List Int) × (List (List (Bool × (Int × Int)))))))))) := ((0 : Int), (false, ((0 : Int), ((0 : Int), ((List.replicate 2 (0 : Int)), ((List.replicate 6 (0 : Int)), (List.replicate 6 [])))))))
abbrev Zd2 : (Bool × (Int × (Int × ((List Int) × ((List Int) × (List (List (Bool × (Int × Int))))))))) := (false, ((0 : Int), ((0 : Int), ((List.replicate 2 (0 : Int)), ((List.replicate 6 (0 : Int)), (List.replicate 6 []))))))
abbrev Zd3 : (Int × (Int × ((List Int) × ((List Int) × (List (List (Bool × (Int × Int)))))))) := ((0 : Int), ((0 : Int), ((List.replicate 2 (0 : Int)), ((List.replicate 6 (0 : Int)), (List.replicate 6 [])))))
abbrev Zd4 : (Int × ((List Int) × ((List Int) × (List (List (Bool × (Int × Int))))))) := ((0 : Int), ((List.replicate 2 (0 : Int)), ((List.replicate 6 (0 : Int)), (List.replicate 6 []))))
abbrev Zd5 : ((List Int) × ((List Int) × (List (List (Bool × (Int × Int)))))) := ((List.replicate 2 (0 : Int)), ((List.replicate 6 (0 : Int)), (List.replicate 6 [])))
abbrev Zd6 : ((List Int) × (List (List (Bool × (Int × Int))))) := ((List.replicate 6 (0 : Int)), (List.replicate 6 []))
abbrev Zd7 : (Bool × (Int × (Int × (List (Int × (Bool × (Int × (Int × ((List Int) × ((List Int) × (List (List (Bool × (Int × Int)))))))))))))) := (false, ((0 : Int), ((0 : Int), [])))
abbrev Zd8 : (Bool × (Int × Int)) := (false, ((0 : Int), (0 : Int)))
abbrev Zd9 : (Int × (Int × (List (Int × (Bool × (Int × (Int × ((List Int) × ((List Int) × (List (List (Bool × (Int × Int))))))))))))) := ((0 : Int), ((0 : Int), []))
abbrev Zd10 : (Int × Int) := ((0 : Int), (0 : Int))

end Go.Proofs.YtlcjjaglbcfbbaaDoor
