/- The program's types. -/
import Derived.Test.YtnpokkaalcfbfaaGreatDoorProg
import Derived.Test.YtnpokkaalcfbfaaGreatDoorZL3
set_option linter.unusedVariables false
set_option linter.unusedSimpArgs false
namespace Go.Proofs.YtnpokkaalcfbfaaGreatDoor
open Go.X
def tt:TT:=[(1,⟨.other,1,8,false,.c (.val .nilFunc)⟩),
 (2,⟨.int .i64,1,8,true,.c (.int .i64 0)⟩),
 (3,⟨.int .i64,1,8,true,.c (.int .i64 0)⟩),
 (4,⟨.bool,1,1,true,.c (.bool false)⟩),
 (5,⟨.int .u8,1,1,true,.c (.int .u8 0)⟩),
 (6,⟨.int .u8,1,1,true,.c (.int .u8 0)⟩),
 (7,⟨.strct [(2,0,1),(3,1,1),(4,2,1),(6,3,1)],4,24,true,.agg [.cs [.int .i64 0,.int .i64 0,.bool false,.int .u8 0]]⟩),
 (9,⟨.str,1,16,true,.c (.str ⟨#[]⟩)⟩),
 (21,⟨.int .i32,1,4,true,.c (.int .i32 0)⟩),
 (22,⟨.sl 5 1 1,1,24,false,.c (.val (.slice none 0 0))⟩),
 (23,⟨.arr 3 22 1,3,72,false,.agg [.fzs 3 (.int .u8) (List.replicate 3 [])]⟩),
 (25,⟨.strct [(3,0,1),(23,1,3)],4,80,false,.agg [.cs [.int .i64 0],.fzs 3 (.int .u8) (List.replicate 3 [])]⟩),
 (26,⟨.sl 3 1 8,1,24,false,.c (.val (.slice none 0 0))⟩),
 (27,⟨.arr 3 26 1,3,72,false,.agg [.fzs 3 (.int .i64) (List.replicate 3 [])]⟩),
 (29,⟨.strct [(3,0,1),(27,1,3)],4,80,false,.agg [.cs [.int .i64 0],.fzs 3 (.int .i64) (List.replicate 3 [])]⟩),
 (30,⟨.arr 2 3 1,2,16,true,.agg [.ints 2 .i64 (List.replicate 2 0)]⟩),
 (31,⟨.arr 6 3 1,6,48,true,.agg [.ints 6 .i64 (List.replicate 6 0)]⟩),
 (32,⟨.sl 61 3 24,1,24,false,.c (.val (.slice none 0 0))⟩),
 (33,⟨.arr 6 32 1,6,144,false,.agg [.fzs 6 (.pair .bool (.pair (.int .i64) (.int .i64))) (List.replicate 6 [])]⟩),
 (35,⟨.strct [(3,0,1),(4,1,1),(3,2,1),(3,3,1),(30,4,2),(31,6,6),(33,12,6)],18,240,false,.agg [.cs [.int .i64 0,.bool false,.int .i64 0,.int .i64 0],.ints 2 .i64 (List.replicate 2 0),.ints 6 .i64 (List.replicate 6 0),.fzs 6 (.pair .bool (.pair (.int .i64) (.int .i64))) (List.replicate 6 [])]⟩),
 (37,⟨.strct [(35,0,18),(3,18,1),(3,19,1),(3,20,1),(3,21,1)],22,272,false,.agg [.cs [.int .i64 0,.bool false,.int .i64 0,.int .i64 0],.ints 2 .i64 (List.replicate 2 0),.ints 6 .i64 (List.replicate 6 0),.fzs 6 (.pair .bool (.pair (.int .i64) (.int .i64))) (List.replicate 6 []),.cs [.int .i64 0,.int .i64 0,.int .i64 0,.int .i64 0]]⟩),
 (40,⟨.int .i64,1,8,true,.c (.int .i64 0)⟩),
 (44,⟨.strct [(35,0,18),(3,18,1),(3,19,1),(3,20,1)],21,264,false,.agg [.cs [.int .i64 0,.bool false,.int .i64 0,.int .i64 0],.ints 2 .i64 (List.replicate 2 0),.ints 6 .i64 (List.replicate 6 0),.fzs 6 (.pair .bool (.pair (.int .i64) (.int .i64))) (List.replicate 6 []),.cs [.int .i64 0,.int .i64 0,.int .i64 0]]⟩),
 (54,⟨.arr 3 3 1,3,24,true,.agg [.ints 3 .i64 (List.replicate 3 0)]⟩),
 (61,⟨.strct [(4,0,1),(3,1,1),(3,2,1)],3,24,true,.agg [.cs [.bool false,.int .i64 0,.int .i64 0]]⟩),
 (62,⟨.arr 64 3 1,64,512,true,.agg [.ints 64 .i64 (List.replicate 64 0)]⟩),
 (64,⟨.arr 6 62 64,384,3072,true,.agg [.ints 384 .i64 (List.replicate 384 0)]⟩),
 (73,⟨.arr 4 3 1,4,32,true,.agg [.ints 4 .i64 (List.replicate 4 0)]⟩),
 (75,⟨.other,1,8,false,.c (.val .nilFunc)⟩),
 (89,⟨.other,1,8,false,.c (.val .nilFunc)⟩),
 (91,⟨.strct [(35,0,18),(3,18,1)],19,248,false,.agg [.cs [.int .i64 0,.bool false,.int .i64 0,.int .i64 0],.ints 2 .i64 (List.replicate 2 0),.ints 6 .i64 (List.replicate 6 0),.fzs 6 (.pair .bool (.pair (.int .i64) (.int .i64))) (List.replicate 6 []),.cs [.int .i64 0]]⟩),
 (96,⟨.strct [(62,0,64),(62,64,64),(3,128,1),(3,129,1),(4,130,1)],131,1048,true,.agg [.ints 64 .i64 (List.replicate 64 0),.ints 64 .i64 (List.replicate 64 0),.cs [.int .i64 0,.int .i64 0,.bool false]]⟩),
 (103,⟨.sl 9 1 16,1,24,false,.c (.val (.slice none 0 0))⟩),
 (107,⟨.sl 73 4 32,1,24,false,.c (.val (.slice none 0 0))⟩),
 (115,⟨.int .u64,1,8,true,.c (.int .u64 0)⟩),
 (128,⟨.ptr 154,1,8,true,.c (.val (.pointer none))⟩),
 (139,⟨.int .u32,1,4,true,.c (.int .u32 0)⟩),
 (142,⟨.int .u64,1,8,true,.c (.int .u64 0)⟩),
 (146,⟨.arr 64 3 1,64,512,true,.agg [.ints 64 .i64 (List.replicate 64 0)]⟩),
 (154,⟨.strct [(22,0,1),(3,1,1)],2,32,false,.agg [.cs [.val (.slice none 0 0),.int .i64 0]]⟩),
 (155,⟨.arr 8 3 1,8,64,true,.agg [.ints 8 .i64 (List.replicate 8 0)]⟩),
 (156,⟨.arr 8 155 8,64,512,true,.agg [.ints 64 .i64 (List.replicate 64 0)]⟩),
 (164,⟨.arr 102 3 1,102,816,true,.agg [.ints 102 .i64 (List.replicate 102 0)]⟩),
 (168,⟨.arr 8 73 4,32,256,true,.agg [.ints 32 .i64 (List.replicate 32 0)]⟩)]
theorem tt_ok:TtOk Tryz.prog tt:=ttB_ok (by kernel_rfl)
theorem mixed:Tryz.prog.follows .mixedOrders=true:=by kernel_rfl
def ttC:TT:=[(1,⟨.other,1,8,false,.c (.val .nilFunc)⟩),
 (2,⟨.int .i64,1,8,true,.c (.int .i64 0)⟩),
 (3,⟨.int .i64,1,8,true,.c (.int .i64 0)⟩),
 (4,⟨.bool,1,1,true,.c (.bool false)⟩),
 (5,⟨.int .u8,1,1,true,.c (.int .u8 0)⟩),
 (6,⟨.int .u8,1,1,true,.c (.int .u8 0)⟩),
 (7,⟨.strct [(2,0,1),(3,1,1),(4,2,1),(6,3,1)],4,24,true,.agg [.cs [.int .i64 0,.int .i64 0,.bool false,.int .u8 0]]⟩),
 (9,⟨.str,1,16,true,.c (.str ⟨#[]⟩)⟩),
 (21,⟨.int .i32,1,4,true,.c (.int .i32 0)⟩),
 (22,⟨.sl 5 1 1,1,24,false,.c (.val (.slice none 0 0))⟩),
 (23,⟨.arr 3 22 1,3,72,false,.agg [.cs [.val (.slice none 0 0),.val (.slice none 0 0),.val (.slice none 0 0)]]⟩),
 (25,⟨.strct [(3,0,1),(23,1,3)],4,80,false,.agg [.cs [.int .i64 0,.val (.slice none 0 0),.val (.slice none 0 0),.val (.slice none 0 0)]]⟩),
 (26,⟨.sl 3 1 8,1,24,false,.c (.val (.slice none 0 0))⟩),
 (27,⟨.arr 3 26 1,3,72,false,.agg [.cs [.val (.slice none 0 0),.val (.slice none 0 0),.val (.slice none 0 0)]]⟩),
 (29,⟨.strct [(3,0,1),(27,1,3)],4,80,false,.agg [.cs [.int .i64 0,.val (.slice none 0 0),.val (.slice none 0 0),.val (.slice none 0 0)]]⟩),
 (30,⟨.arr 2 3 1,2,16,true,.agg [.ints 2 .i64 (List.replicate 2 0)]⟩),
 (31,⟨.arr 6 3 1,6,48,true,.agg [.ints 6 .i64 (List.replicate 6 0)]⟩),
 (32,⟨.sl 61 3 24,1,24,false,.c (.val (.slice none 0 0))⟩),
 (33,⟨.arr 6 32 1,6,144,false,.agg [.cs [.val (.slice none 0 0),.val (.slice none 0 0),.val (.slice none 0 0),.val (.slice none 0 0),.val (.slice none 0 0),.val (.slice none 0 0)]]⟩),
 (35,⟨.strct [(3,0,1),(4,1,1),(3,2,1),(3,3,1),(30,4,2),(31,6,6),(33,12,6)],18,240,false,.agg [.cs [.int .i64 0,.bool false,.int .i64 0,.int .i64 0],.ints 2 .i64 (List.replicate 2 0),.ints 6 .i64 (List.replicate 6 0),.cs [.val (.slice none 0 0),.val (.slice none 0 0),.val (.slice none 0 0),.val (.slice none 0 0),.val (.slice none 0 0),.val (.slice none 0 0)]]⟩),
 (37,⟨.strct [(35,0,18),(3,18,1),(3,19,1),(3,20,1),(3,21,1)],22,272,false,.agg [.cs [.int .i64 0,.bool false,.int .i64 0,.int .i64 0],.ints 2 .i64 (List.replicate 2 0),.ints 6 .i64 (List.replicate 6 0),.cs [.val (.slice none 0 0),.val (.slice none 0 0),.val (.slice none 0 0),.val (.slice none 0 0),.val (.slice none 0 0),.val (.slice none 0 0),.int .i64 0,.int .i64 0,.int .i64 0,.int .i64 0]]⟩),
 (40,⟨.int .i64,1,8,true,.c (.int .i64 0)⟩),
 (44,⟨.strct [(35,0,18),(3,18,1),(3,19,1),(3,20,1)],21,264,false,.agg [.cs [.int .i64 0,.bool false,.int .i64 0,.int .i64 0],.ints 2 .i64 (List.replicate 2 0),.ints 6 .i64 (List.replicate 6 0),.cs [.val (.slice none 0 0),.val (.slice none 0 0),.val (.slice none 0 0),.val (.slice none 0 0),.val (.slice none 0 0),.val (.slice none 0 0),.int .i64 0,.int .i64 0,.int .i64 0]]⟩),
 (54,⟨.arr 3 3 1,3,24,true,.agg [.ints 3 .i64 (List.replicate 3 0)]⟩),
 (61,⟨.strct [(4,0,1),(3,1,1),(3,2,1)],3,24,true,.agg [.cs [.bool false,.int .i64 0,.int .i64 0]]⟩),
 (62,⟨.arr 64 3 1,64,512,true,.agg [.ints 64 .i64 (List.replicate 64 0)]⟩),
 (64,⟨.arr 6 62 64,384,3072,true,.agg [.ints 384 .i64 (List.replicate 384 0)]⟩),
 (73,⟨.arr 4 3 1,4,32,true,.agg [.ints 4 .i64 (List.replicate 4 0)]⟩),
 (75,⟨.other,1,8,false,.c (.val .nilFunc)⟩),
 (89,⟨.other,1,8,false,.c (.val .nilFunc)⟩),
 (91,⟨.strct [(35,0,18),(3,18,1)],19,248,false,.agg [.cs [.int .i64 0,.bool false,.int .i64 0,.int .i64 0],.ints 2 .i64 (List.replicate 2 0),.ints 6 .i64 (List.replicate 6 0),.cs [.val (.slice none 0 0),.val (.slice none 0 0),.val (.slice none 0 0),.val (.slice none 0 0),.val (.slice none 0 0),.val (.slice none 0 0),.int .i64 0]]⟩),
 (96,⟨.strct [(62,0,64),(62,64,64),(3,128,1),(3,129,1),(4,130,1)],131,1048,true,.agg [.ints 64 .i64 (List.replicate 64 0),.ints 64 .i64 (List.replicate 64 0),.cs [.int .i64 0,.int .i64 0,.bool false]]⟩),
 (103,⟨.sl 9 1 16,1,24,false,.c (.val (.slice none 0 0))⟩),
 (107,⟨.sl 73 4 32,1,24,false,.c (.val (.slice none 0 0))⟩),
 (115,⟨.int .u64,1,8,true,.c (.int .u64 0)⟩),
 (128,⟨.ptr 154,1,8,true,.c (.val (.pointer none))⟩),
 (139,⟨.int .u32,1,4,true,.c (.int .u32 0)⟩),
 (142,⟨.int .u64,1,8,true,.c (.int .u64 0)⟩),
 (146,⟨.arr 64 3 1,64,512,true,.agg [.ints 64 .i64 (List.replicate 64 0)]⟩),
 (154,⟨.strct [(22,0,1),(3,1,1)],2,32,false,.agg [.cs [.val (.slice none 0 0),.int .i64 0]]⟩),
 (155,⟨.arr 8 3 1,8,64,true,.agg [.ints 8 .i64 (List.replicate 8 0)]⟩),
 (156,⟨.arr 8 155 8,64,512,true,.agg [.ints 64 .i64 (List.replicate 64 0)]⟩),
 (164,⟨.arr 102 3 1,102,816,true,.agg [.ints 102 .i64 (List.replicate 102 0)]⟩),
 (168,⟨.arr 8 73 4,32,256,true,.agg [.ints 32 .i64 (List.replicate 32 0)]⟩)]
theorem ttC_ok:TtOk Tryz.prog ttC:=ttB_ok (by kernel_rfl)
def placesL:List Int:=[0,1,8,16,9,2,3,10,17,24,32,25,18,11,4,5,12,19,26,33,40,48,41,34,27,20,13,6,7,14,21,28,35,42,49,56,57,50,43,36,29,22,15,23,30,37,44,51,58,59,52,45,38,31,39,46,53,60,61,54,47,55,62,63]
def codesL:List Int:=[2,15,21,23,31,37,36,33,32,7,6,32,6,20,30,15,33,80,14,29,14,81,13,35,13,12,34,82,11,12,83,19,11,84,18,10,17,9,16,8,22,85,21,20,28,27,33,32,31,30,29,28,27,26,34,35,86,87,7,25,5,15,4,14,13,12,19,18,17,16,26,25,24,23,22,21,20,19,24,23,22,21,20,19,18,17,7,6,5,4,36,37,38,39,88,89,90,91,92,93,94,95]
def lensL:List Int:=[2,4,6,7,8,9,9,10,10,11,11,11,3,6,8,10,11,12,4,8,10,12,5,9,10,5,9,12,5,10,12,6,10,12,6,10,6,10,6,10,7,12,7,7,8,8,9,9,9,9,9,9,9,9,11,11,12,12,4,9,11,6,11,6,6,6,7,7,7,7,8,8,8,8,8,8,8,8,9,9,9,9,9,9,9,9,10,10,10,10,11,11,11,11,12,12,12,12,12,12,12,12]
def weightsL:List Int:=[64,64,64,64,64,64,64,64,89,75,50,18, -18, -50, -75, -89,83,36, -36, -83, -83, -36,36,83,75, -18, -89, -50,50,89,18, -75,64, -64, -64,64,64, -64, -64,64,50, -89,18,75, -75, -18,89, -50,36, -83,83, -36, -36,83, -83,36,18, -50,75, -89,89, -75,50, -18]
abbrev gt0:GT:=[(1,.flat [.ints 64 .i64 placesL]),(3,.flat [.ints 102 .i64 codesL]),(4,.flat [.ints 102 .i64 lensL]),(2,.flat [.ints 64 .i64 weightsL])]
abbrev md0:Md:=⟨false,false⟩
abbrev mdT:Md:=⟨false,true⟩
abbrev mdW:Md:=⟨true,false⟩
abbrev Zs1:Sh:=.pair .bool (.pair (.int .i64) (.int .i64))
abbrev Zt1:Type:=List (List (Bool×(Int×Int)))
abbrev Zt2:Type:=Int×Nat×Nat×Nat×Int×Nat×(List Int)×Nat×(List Int)×Nat×(List Int)
abbrev Zt3:Type:=List (Bool×(Int×Int))
abbrev Zt4:Type:=Int×Bool×(List Int)
abbrev Zt5:Type:=Int×Bool×Int×Int×(List Int)×(List Int)×(List (List (Bool×(Int×Int))))×Int
abbrev Zt6:Type:=Int×Nat×Nat×Nat×Nat×(List Int)×Nat×(List Int)×Nat×(List Int)
abbrev Zt7:Type:=Nat×Nat×(List Int)
abbrev Zt8:Type:=Int×Int×(List Int)
abbrev Zt9:Type:=Nat×Int×Int×(List (Bool×(Int×Int)))
abbrev Zt10:Type:=Int×(List (List (Bool×(Int×Int))))
abbrev Zt11:Type:=Nat×(List (Bool×(Int×Int)))
abbrev Zt12:Type:=Int×(List (List Int))×Int
abbrev Zt13:Type:=Int×Int×Bool×(List Int)
abbrev Zt14:Type:=Int×(List (List Int))
abbrev Zd1:(Bool×(Int×Int)):=(false,((0:Int),(0:Int)))
abbrev Zd2:(Int×Int):=((0:Int),(0:Int))
end Go.Proofs.YtnpokkaalcfbfaaGreatDoor
