/- Models of functions, and that the program does what they tell. -/
import Derived.Test.YtlcjjaglbcfbbaaDoorS1
set_option linter.unusedVariables false
set_option linter.unusedSimpArgs false
namespace Go.Proofs.YtlcjjaglbcfbbaaDoor
open Go.X

def law25_lives (N : Nat) : Option Bool :=
 let x1 := ([((0 : Int), (false, ((3 : Int), ((0 : Int), ((List.replicate 2 0), ((((((((List.replicate 6 0).set 0 9).set 1 9).set 2 9).set 3 9).set 4 9).set 5 9), (List.replicate 6 []))))))), ((0 : Int), (false, ((3 : Int), ((0 : Int), ((List.replicate 2 0), ((((((((List.replicate 6 0).set 0 9).set 1 9).set 2 9).set 3 9).set 4 9).set 5 9), (List.replicate 6 [])))))))] : List Zt2)
 if 2 = x1.length then
  if 2 = x1.length then
   if 2 = ([((0 : Int), (false, ((0 : Int), ((0 : Int), ((((List.replicate 2 0).set 0 (-1)).set 1 0), ((List.replicate 6 0), (List.replicate 6 []))))))), ((0 : Int), (false, ((3 : Int), ((0 : Int), ((List.replicate 2 0), ((((((((List.replicate 6 0).set 0 9).set 1 9).set 2 9).set 3 9).set 4 9).set 5 9), (List.replicate 6 [])))))))] : List Zt2).length then
    if 2 = ([((0 : Int), (false, ((3 : Int), ((0 : Int), ((List.replicate 2 0), ((((((((List.replicate 6 0).set 0 9).set 1 9).set 2 9).set 3 9).set 4 9).set 5 9), (List.replicate 6 []))))))), ((0 : Int), (false, ((3 : Int), ((0 : Int), ((List.replicate 2 0), ((((((((List.replicate 6 0).set 0 9).set 1 9).set 2 9).set 3 9).set 4 9).set 5 9), (List.replicate 6 [])))))))] : List Zt2).length then
     let c1 := (sound_Check N 0 0 6 false 5 [(false, ((0 : Int), ((0 : Int), x1))), (false, ((0 : Int), ((0 : Int), x1)))] 0)
     let c2 := (sound_Check N 0 0 6 true 5 ([(false, ((0 : Int), ((0 : Int), ([((0 : Int), (false, ((0 : Int), ((0 : Int), ((((List.replicate 2 0).set 0 (-1)).set 1 0), ((List.replicate 6 0), (List.replicate 6 []))))))), ((0 : Int), (false, ((3 : Int), ((0 : Int), ((List.replicate 2 0), ((((((((List.replicate 6 0).set 0 9).set 1 9).set 2 9).set 3 9).set 4 9).set 5 9), (List.replicate 6 [])))))))] : List Zt2)))), (false, ((0 : Int), ((0 : Int), ([((0 : Int), (false, ((3 : Int), ((0 : Int), ((List.replicate 2 0), ((((((((List.replicate 6 0).set 0 9).set 1 9).set 2 9).set 3 9).set 4 9).set 5 9), (List.replicate 6 []))))))), ((0 : Int), (false, ((3 : Int), ((0 : Int), ((List.replicate 2 0), ((((((((List.replicate 6 0).set 0 9).set 1 9).set 2 9).set 3 9).set 4 9).set 5 9), (List.replicate 6 [])))))))] : List Zt2))))] : List Zt7) 0)
     let c3 := (sound_Check_v1 N 0 0 0 false 0 0)
     let c4 := (sound_Cells N 0 0 6 false 5 [(false, ((0 : Int), ((0 : Int), x1))), (false, ((0 : Int), ((0 : Int), x1)))] 0)
     let x2 := (bif (bif (bif (decide ((c1.getD default) = 0)) then (decide ((c2.getD default) = 8)) else false) then (decide ((c3.getD default) = 12)) else false) then (decide (((c4.getD default).length : Int) = 4)) else false)
     if c1.isSome = true ∧ ((decide ((c1.getD default) = 0)) = true → c2.isSome = true) ∧ ((bif (decide ((c1.getD default) = 0)) then (decide ((c2.getD default) = 8)) else false) = true → c3.isSome = true) ∧ ((bif (bif (decide ((c1.getD default) = 0)) then (decide ((c2.getD default) = 8)) else false) then (decide ((c3.getD default) = 12)) else false) = true → c4.isSome = true) then
      some x2
     else none
    else none
   else none
  else none
 else none
def sp_law25_lives (N : Nat) : X.Spec := fun args lk => match args with
 | [] => some ⟨(law25_lives N).isSome = true, .v (.c (.bool ((law25_lives N).getD default))), [], []⟩
 | _ => none
set_option maxRecDepth 100000 in
set_option maxHeartbeats 1000000 in
theorem ok_law25_lives (N : Nat) : FnOK Tryd.prog gt0 10 (sp_law25_lives N) := by
 refine fnOK_handed Tryd.func10 rfl (by kernel_rfl) tt_ok (ktCons (ok_sound_Cells N) (ktCons (FnOK.or (ok_sound_Check N) (ok_sound_Check_v1 N)) (ktNil))) ?_
 intro args lk r h hp
 unfold sp_law25_lives at h
 split at h
 ·
  cases h
  obtain ⟨x, hx⟩ := Option.isSome_iff_exists.1 hp
  simp only [hx, Option.getD_some]
  refine hand0 rfl rfl (fun w0 M ε0 hX => ?_)
  refine rCount (fun hε => ?_)
  have hT : law25_lives N = some x := hx; clear hx hp; unfold law25_lives at hT
  refine zA hX ?_
  refine zA hX ?_
  refine rSeq (zReg md0 hX rfl rfl rfl ?_)
  refine rLstQ 1 Zs2 [((0 : Int), (false, ((3 : Int), ((0 : Int), ((List.replicate 2 0), ((((((((List.replicate 6 0).set 0 9).set 1 9).set 2 9).set 3 9).set 4 9).set 5 9), (List.replicate 6 []))))))), ((0 : Int), (false, ((3 : Int), ((0 : Int), ((List.replicate 2 0), ((((((((List.replicate 6 0).set 0 9).set 1 9).set 2 9).set 3 9).set 4 9).set 5 9), (List.replicate 6 [])))))))] rfl rfl rfl ?_
  refine rLstQ 2 Zs2 [((0 : Int), (false, ((3 : Int), ((0 : Int), ((List.replicate 2 0), ((((((((List.replicate 6 0).set 0 9).set 1 9).set 2 9).set 3 9).set 4 9).set 5 9), (List.replicate 6 []))))))), ((0 : Int), (false, ((3 : Int), ((0 : Int), ((List.replicate 2 0), ((((((((List.replicate 6 0).set 0 9).set 1 9).set 2 9).set 3 9).set 4 9).set 5 9), (List.replicate 6 [])))))))] rfl rfl rfl ?_
  refine rThen ?_
  let x1 := ([((0 : Int), (false, ((3 : Int), ((0 : Int), ((List.replicate 2 0), ((((((((List.replicate 6 0).set 0 9).set 1 9).set 2 9).set 3 9).set 4 9).set 5 9), (List.replicate 6 []))))))), ((0 : Int), (false, ((3 : Int), ((0 : Int), ((List.replicate 2 0), ((((((((List.replicate 6 0).set 0 9).set 1 9).set 2 9).set 3 9).set 4 9).set 5 9), (List.replicate 6 [])))))))] : List Zt2)
  refine zA hX ?_
  refine rSeq (zReg md0 hX rfl rfl rfl ?_)
  refine rLstQ 5 Zs2 [((0 : Int), (false, ((0 : Int), ((0 : Int), ((((List.replicate 2 0).set 0 (-1)).set 1 0), ((List.replicate 6 0), (List.replicate 6 []))))))), ((0 : Int), (false, ((3 : Int), ((0 : Int), ((List.replicate 2 0), ((((((((List.replicate 6 0).set 0 9).set 1 9).set 2 9).set 3 9).set 4 9).set 5 9), (List.replicate 6 [])))))))] rfl rfl rfl ?_
  refine rLstQ 6 Zs2 [((0 : Int), (false, ((3 : Int), ((0 : Int), ((List.replicate 2 0), ((((((((List.replicate 6 0).set 0 9).set 1 9).set 2 9).set 3 9).set 4 9).set 5 9), (List.replicate 6 []))))))), ((0 : Int), (false, ((3 : Int), ((0 : Int), ((List.replicate 2 0), ((((((((List.replicate 6 0).set 0 9).set 1 9).set 2 9).set 3 9).set 4 9).set 5 9), (List.replicate 6 [])))))))] rfl rfl rfl ?_
  refine rThen ?_
  replace hT := sIf hT; obtain ⟨f1, hT⟩ := hT
  refine rSeq (rFreeze 1 Zs2 x1 [(0, .v (.c (.bool false))), (3, .v (.c (.ptr 4 0 0 0 0 0))), (4, .v (.c (.ptr 8 0 0 0 0 0)))] [(2, .mem true 42 (some 18) (.lst Zs2 x1)), (3, .mem true 49 (some 4) (.rows 2 4 (Go.X.rowAt [[.cs [.bool false, .int .i64 0, .int .i64 0, .fz Zs2 x1]], [.cs [.bool false, .int .i64 0, .int .i64 0, .sl 2 0 2 18]]]))), (4, .mem true 25 none (.flat [.cs [.int .i64 0, .int .i64 0, .int .i64 6, .bool false, .int .i64 5, .val (.slice none 0 0), .sl 3 0 2 4, .int .i64 0]])), (5, .mem true 42 (some 18) (.lst Zs2 ([((0 : Int), (false, ((0 : Int), ((0 : Int), ((((List.replicate 2 0).set 0 (-1)).set 1 0), ((List.replicate 6 0), (List.replicate 6 []))))))), ((0 : Int), (false, ((3 : Int), ((0 : Int), ((List.replicate 2 0), ((((((((List.replicate 6 0).set 0 9).set 1 9).set 2 9).set 3 9).set 4 9).set 5 9), (List.replicate 6 [])))))))] : List Zt2))), (6, .mem true 42 (some 18) (.lst Zs2 ([((0 : Int), (false, ((3 : Int), ((0 : Int), ((List.replicate 2 0), ((((((((List.replicate 6 0).set 0 9).set 1 9).set 2 9).set 3 9).set 4 9).set 5 9), (List.replicate 6 []))))))), ((0 : Int), (false, ((3 : Int), ((0 : Int), ((List.replicate 2 0), ((((((((List.replicate 6 0).set 0 9).set 1 9).set 2 9).set 3 9).set 4 9).set 5 9), (List.replicate 6 [])))))))] : List Zt2))), (7, .mem true 49 (some 4) (.rows 2 4 (Go.X.rowAt [[.cs [.bool false, .int .i64 0, .int .i64 0, .sl 5 0 2 18]], [.cs [.bool false, .int .i64 0, .int .i64 0, .sl 6 0 2 18]]]))), (8, .mem true 25 none (.flat [.cs [.int .i64 0, .int .i64 0, .int .i64 6, .bool true, .int .i64 5, .val (.slice none 0 0), .sl 7 0 2 4, .int .i64 0]]))] rfl rfl zF zF ?_)
  replace hT := sIf hT; obtain ⟨f1, hT⟩ := hT
  refine rFreeze 2 Zs2 x1 [(0, .v (.c (.bool false))), (3, .v (.c (.ptr 4 0 0 0 0 0))), (4, .v (.c (.ptr 8 0 0 0 0 0)))] [(3, .mem true 49 (some 4) (.rows 2 4 (Go.X.rowAt [[.cs [.bool false, .int .i64 0, .int .i64 0, .fz Zs2 x1]], [.cs [.bool false, .int .i64 0, .int .i64 0, .fz Zs2 x1]]]))), (4, .mem true 25 none (.flat [.cs [.int .i64 0, .int .i64 0, .int .i64 6, .bool false, .int .i64 5, .val (.slice none 0 0), .sl 3 0 2 4, .int .i64 0]])), (5, .mem true 42 (some 18) (.lst Zs2 ([((0 : Int), (false, ((0 : Int), ((0 : Int), ((((List.replicate 2 0).set 0 (-1)).set 1 0), ((List.replicate 6 0), (List.replicate 6 []))))))), ((0 : Int), (false, ((3 : Int), ((0 : Int), ((List.replicate 2 0), ((((((((List.replicate 6 0).set 0 9).set 1 9).set 2 9).set 3 9).set 4 9).set 5 9), (List.replicate 6 [])))))))] : List Zt2))), (6, .mem true 42 (some 18) (.lst Zs2 ([((0 : Int), (false, ((3 : Int), ((0 : Int), ((List.replicate 2 0), ((((((((List.replicate 6 0).set 0 9).set 1 9).set 2 9).set 3 9).set 4 9).set 5 9), (List.replicate 6 []))))))), ((0 : Int), (false, ((3 : Int), ((0 : Int), ((List.replicate 2 0), ((((((((List.replicate 6 0).set 0 9).set 1 9).set 2 9).set 3 9).set 4 9).set 5 9), (List.replicate 6 [])))))))] : List Zt2))), (7, .mem true 49 (some 4) (.rows 2 4 (Go.X.rowAt [[.cs [.bool false, .int .i64 0, .int .i64 0, .sl 5 0 2 18]], [.cs [.bool false, .int .i64 0, .int .i64 0, .sl 6 0 2 18]]]))), (8, .mem true 25 none (.flat [.cs [.int .i64 0, .int .i64 0, .int .i64 6, .bool true, .int .i64 5, .val (.slice none 0 0), .sl 7 0 2 4, .int .i64 0]]))] rfl rfl zF zF ?_
  refine rFreeze 3 Zs1 [(false, ((0 : Int), ((0 : Int), x1))), (false, ((0 : Int), ((0 : Int), x1)))] [(0, .v (.c (.bool false))), (3, .v (.c (.ptr 4 0 0 0 0 0))), (4, .v (.c (.ptr 8 0 0 0 0 0)))] [(4, .mem true 25 none (.flat [.cs [.int .i64 0, .int .i64 0, .int .i64 6, .bool false, .int .i64 5, .val (.slice none 0 0), .fz Zs1 [(false, ((0 : Int), ((0 : Int), x1))), (false, ((0 : Int), ((0 : Int), x1)))], .int .i64 0]])), (5, .mem true 42 (some 18) (.lst Zs2 ([((0 : Int), (false, ((0 : Int), ((0 : Int), ((((List.replicate 2 0).set 0 (-1)).set 1 0), ((List.replicate 6 0), (List.replicate 6 []))))))), ((0 : Int), (false, ((3 : Int), ((0 : Int), ((List.replicate 2 0), ((((((((List.replicate 6 0).set 0 9).set 1 9).set 2 9).set 3 9).set 4 9).set 5 9), (List.replicate 6 [])))))))] : List Zt2))), (6, .mem true 42 (some 18) (.lst Zs2 ([((0 : Int), (false, ((3 : Int), ((0 : Int), ((List.replicate 2 0), ((((((((List.replicate 6 0).set 0 9).set 1 9).set 2 9).set 3 9).set 4 9).set 5 9), (List.replicate 6 []))))))), ((0 : Int), (false, ((3 : Int), ((0 : Int), ((List.replicate 2 0), ((((((((List.replicate 6 0).set 0 9).set 1 9).set 2 9).set 3 9).set 4 9).set 5 9), (List.replicate 6 [])))))))] : List Zt2))), (7, .mem true 49 (some 4) (.rows 2 4 (Go.X.rowAt [[.cs [.bool false, .int .i64 0, .int .i64 0, .sl 5 0 2 18]], [.cs [.bool false, .int .i64 0, .int .i64 0, .sl 6 0 2 18]]]))), (8, .mem true 25 none (.flat [.cs [.int .i64 0, .int .i64 0, .int .i64 6, .bool true, .int .i64 5, .val (.slice none 0 0), .sl 7 0 2 4, .int .i64 0]]))] rfl rfl zF zF ?_
  replace hT := sIf hT; obtain ⟨f1, hT⟩ := hT
  refine rFreeze 5 Zs2 ([((0 : Int), (false, ((0 : Int), ((0 : Int), ((((List.replicate 2 0).set 0 (-1)).set 1 0), ((List.replicate 6 0), (List.replicate 6 []))))))), ((0 : Int), (false, ((3 : Int), ((0 : Int), ((List.replicate 2 0), ((((((((List.replicate 6 0).set 0 9).set 1 9).set 2 9).set 3 9).set 4 9).set 5 9), (List.replicate 6 [])))))))] : List Zt2) [(0, .v (.c (.bool false))), (3, .v (.c (.ptr 4 0 0 0 0 0))), (4, .v (.c (.ptr 8 0 0 0 0 0)))] [(4, .mem true 25 none (.flat [.cs [.int .i64 0, .int .i64 0, .int .i64 6, .bool false, .int .i64 5, .val (.slice none 0 0), .fz Zs1 [(false, ((0 : Int), ((0 : Int), x1))), (false, ((0 : Int), ((0 : Int), x1)))], .int .i64 0]])), (6, .mem true 42 (some 18) (.lst Zs2 ([((0 : Int), (false, ((3 : Int), ((0 : Int), ((List.replicate 2 0), ((((((((List.replicate 6 0).set 0 9).set 1 9).set 2 9).set 3 9).set 4 9).set 5 9), (List.replicate 6 []))))))), ((0 : Int), (false, ((3 : Int), ((0 : Int), ((List.replicate 2 0), ((((((((List.replicate 6 0).set 0 9).set 1 9).set 2 9).set 3 9).set 4 9).set 5 9), (List.replicate 6 [])))))))] : List Zt2))), (7, .mem true 49 (some 4) (.rows 2 4 (Go.X.rowAt [[.cs [.bool false, .int .i64 0, .int .i64 0, .fz Zs2 ([((0 : Int), (false, ((0 : Int), ((0 : Int), ((((List.replicate 2 0).set 0 (-1)).set 1 0), ((List.replicate 6 0), (List.replicate 6 []))))))), ((0 : Int), (false, ((3 : Int), ((0 : Int), ((List.replicate 2 0), ((((((((List.replicate 6 0).set 0 9).set 1 9).set 2 9).set 3 9).set 4 9).set 5 9), (List.replicate 6 [])))))))] : List Zt2)]], [.cs [.bool false, .int .i64 0, .int .i64 0, .sl 6 0 2 18]]]))), (8, .mem true 25 none (.flat [.cs [.int .i64 0, .int .i64 0, .int .i64 6, .bool true, .int .i64 5, .val (.slice none 0 0), .sl 7 0 2 4, .int .i64 0]]))] rfl rfl zF zF ?_
  replace hT := sIf hT; obtain ⟨f1, hT⟩ := hT
  refine rFreeze 6 Zs2 ([((0 : Int), (false, ((3 : Int), ((0 : Int), ((List.replicate 2 0), ((((((((List.replicate 6 0).set 0 9).set 1 9).set 2 9).set 3 9).set 4 9).set 5 9), (List.replicate 6 []))))))), ((0 : Int), (false, ((3 : Int), ((0 : Int), ((List.replicate 2 0), ((((((((List.replicate 6 0).set 0 9).set 1 9).set 2 9).set 3 9).set 4 9).set 5 9), (List.replicate 6 [])))))))] : List Zt2) [(0, .v (.c (.bool false))), (3, .v (.c (.ptr 4 0 0 0 0 0))), (4, .v (.c (.ptr 8 0 0 0 0 0)))] [(4, .mem true 25 none (.flat [.cs [.int .i64 0, .int .i64 0, .int .i64 6, .bool false, .int .i64 5, .val (.slice none 0 0), .fz Zs1 [(false, ((0 : Int), ((0 : Int), x1))), (false, ((0 : Int), ((0 : Int), x1)))], .int .i64 0]])), (7, .mem true 49 (some 4) (.rows 2 4 (Go.X.rowAt [[.cs [.bool false, .int .i64 0, .int .i64 0, .fz Zs2 ([((0 : Int), (false, ((0 : Int), ((0 : Int), ((((List.replicate 2 0).set 0 (-1)).set 1 0), ((List.replicate 6 0), (List.replicate 6 []))))))), ((0 : Int), (false, ((3 : Int), ((0 : Int), ((List.replicate 2 0), ((((((((List.replicate 6 0).set 0 9).set 1 9).set 2 9).set 3 9).set 4 9).set 5 9), (List.replicate 6 [])))))))] : List Zt2)]], [.cs [.bool false, .int .i64 0, .int .i64 0, .fz Zs2 ([((0 : Int), (false, ((3 : Int), ((0 : Int), ((List.replicate 2 0), ((((((((List.replicate 6 0).set 0 9).set 1 9).set 2 9).set 3 9).set 4 9).set 5 9), (List.replicate 6 []))))))), ((0 : Int), (false, ((3 : Int), ((0 : Int), ((List.replicate 2 0), ((((((((List.replicate 6 0).set 0 9).set 1 9).set 2 9).set 3 9).set 4 9).set 5 9), (List.replicate 6 [])))))))] : List Zt2)]]]))), (8, .mem true 25 none (.flat [.cs [.int .i64 0, .int .i64 0, .int .i64 6, .bool true, .int .i64 5, .val (.slice none 0 0), .sl 7 0 2 4, .int .i64 0]]))] rfl rfl zF zF ?_
  refine rFreeze 7 Zs1 ([(false, ((0 : Int), ((0 : Int), ([((0 : Int), (false, ((0 : Int), ((0 : Int), ((((List.replicate 2 0).set 0 (-1)).set 1 0), ((List.replicate 6 0), (List.replicate 6 []))))))), ((0 : Int), (false, ((3 : Int), ((0 : Int), ((List.replicate 2 0), ((((((((List.replicate 6 0).set 0 9).set 1 9).set 2 9).set 3 9).set 4 9).set 5 9), (List.replicate 6 [])))))))] : List Zt2)))), (false, ((0 : Int), ((0 : Int), ([((0 : Int), (false, ((3 : Int), ((0 : Int), ((List.replicate 2 0), ((((((((List.replicate 6 0).set 0 9).set 1 9).set 2 9).set 3 9).set 4 9).set 5 9), (List.replicate 6 []))))))), ((0 : Int), (false, ((3 : Int), ((0 : Int), ((List.replicate 2 0), ((((((((List.replicate 6 0).set 0 9).set 1 9).set 2 9).set 3 9).set 4 9).set 5 9), (List.replicate 6 [])))))))] : List Zt2))))] : List Zt7) [(0, .v (.c (.bool false))), (3, .v (.c (.ptr 4 0 0 0 0 0))), (4, .v (.c (.ptr 8 0 0 0 0 0)))] [(4, .mem true 25 none (.flat [.cs [.int .i64 0, .int .i64 0, .int .i64 6, .bool false, .int .i64 5, .val (.slice none 0 0), .fz Zs1 [(false, ((0 : Int), ((0 : Int), x1))), (false, ((0 : Int), ((0 : Int), x1)))], .int .i64 0]])), (8, .mem true 25 none (.flat [.cs [.int .i64 0, .int .i64 0, .int .i64 6, .bool true, .int .i64 5, .val (.slice none 0 0), .fz Zs1 ([(false, ((0 : Int), ((0 : Int), ([((0 : Int), (false, ((0 : Int), ((0 : Int), ((((List.replicate 2 0).set 0 (-1)).set 1 0), ((List.replicate 6 0), (List.replicate 6 []))))))), ((0 : Int), (false, ((3 : Int), ((0 : Int), ((List.replicate 2 0), ((((((((List.replicate 6 0).set 0 9).set 1 9).set 2 9).set 3 9).set 4 9).set 5 9), (List.replicate 6 [])))))))] : List Zt2)))), (false, ((0 : Int), ((0 : Int), ([((0 : Int), (false, ((3 : Int), ((0 : Int), ((List.replicate 2 0), ((((((((List.replicate 6 0).set 0 9).set 1 9).set 2 9).set 3 9).set 4 9).set 5 9), (List.replicate 6 []))))))), ((0 : Int), (false, ((3 : Int), ((0 : Int), ((List.replicate 2 0), ((((((((List.replicate 6 0).set 0 9).set 1 9).set 2 9).set 3 9).set 4 9).set 5 9), (List.replicate 6 [])))))))] : List Zt2))))] : List Zt7), .int .i64 0]]))] rfl rfl zF zF ?_
  let c1 := (sound_Check N 0 0 6 false 5 [(false, ((0 : Int), ((0 : Int), x1))), (false, ((0 : Int), ((0 : Int), x1)))] 0)
  let c2 := (sound_Check N 0 0 6 true 5 ([(false, ((0 : Int), ((0 : Int), ([((0 : Int), (false, ((0 : Int), ((0 : Int), ((((List.replicate 2 0).set 0 (-1)).set 1 0), ((List.replicate 6 0), (List.replicate 6 []))))))), ((0 : Int), (false, ((3 : Int), ((0 : Int), ((List.replicate 2 0), ((((((((List.replicate 6 0).set 0 9).set 1 9).set 2 9).set 3 9).set 4 9).set 5 9), (List.replicate 6 [])))))))] : List Zt2)))), (false, ((0 : Int), ((0 : Int), ([((0 : Int), (false, ((3 : Int), ((0 : Int), ((List.replicate 2 0), ((((((((List.replicate 6 0).set 0 9).set 1 9).set 2 9).set 3 9).set 4 9).set 5 9), (List.replicate 6 []))))))), ((0 : Int), (false, ((3 : Int), ((0 : Int), ((List.replicate 2 0), ((((((((List.replicate 6 0).set 0 9).set 1 9).set 2 9).set 3 9).set 4 9).set 5 9), (List.replicate 6 [])))))))] : List Zt2))))] : List Zt7) 0)
  let c3 := (sound_Check_v1 N 0 0 0 false 0 0)
  let c4 := (sound_Cells N 0 0 6 false 5 [(false, ((0 : Int), ((0 : Int), x1))), (false, ((0 : Int), ((0 : Int), x1)))] 0)
  let x2 := (bif (bif (bif (decide ((c1.getD default) = 0)) then (decide ((c2.getD default) = 8)) else false) then (decide ((c3.getD default) = 12)) else false) then (decide (((c4.getD default).length : Int) = 4)) else false)
  replace hT := sIf hT; obtain ⟨⟨o1, o2, o3, o4⟩, hT⟩ := hT
  refine rRegC md0 hX rfl rfl rfl zO ?_
  refine rThen (rRet ?_)
  have hy := Option.some.inj hT; subst hy
  exact zEnd0 hX rfl
 ·
  cases h
def sound_Cells_v2_b2 (N : Nat) (a7 : Zt1) (s2 : Zt4) (s3 : Zt4) : Option (Zt4 ⊕ Zt9) :=
 let x1 := (decide (s3.2.1 < ((a7.getD (s2.2.1).toNat Zd7).2.2.2.length : Int)))
 bif x1 then
  let x3 := ((a7.getD (s2.2.1).toNat Zd7).2.2.2.getD (s3.2.1).toNat Zd1).1
  let x4 := ((a7.getD (s2.2.1).toNat Zd7).2.2.2.getD (s3.2.1).toNat Zd1).2.1
  let x5 := ((a7.getD (s2.2.1).toNat Zd7).2.2.2.getD (s3.2.1).toNat Zd1).2.2.1
  let x6 := ((a7.getD (s2.2.1).toNat Zd7).2.2.2.getD (s3.2.1).toNat Zd1).2.2.2.1
  let x7 : (List Int) := ((a7.getD (s2.2.1).toNat Zd7).2.2.2.getD (s3.2.1).toNat Zd1).2.2.2.2.1
  let x8 : (List Int) := ((a7.getD (s2.2.1).toNat Zd7).2.2.2.getD (s3.2.1).toNat Zd1).2.2.2.2.2.1
  let x9 := ((a7.getD (s2.2.1).toNat Zd7).2.2.2.getD (s3.2.1).toNat Zd1).2.2.2.2.2.2
  if (0 : Int) ≤ s3.2.1 ∧ s3.2.1 < ((a7.getD (s2.2.1).toNat Zd7).2.2.2.length : Int) then
   let c1 := (sound_own N x3 x4 x5 x6 x7 x8 x9)
   if c1.isSome = true ∧ s3.2.2.length = s3.1 ∧ (s3.1 + 1) * 240 ≤ 140737488355328 ∧ s3.1 + 1 ≤ 9223372036854775807 then
    if inK .i64 (s3.2.1 + 1) then
     some (.inl ((s3.1 + 1), (s3.2.1 + 1), (s3.2.2 ++ [(c1.getD default)])))
    else none
   else none
  else none
 else
  some (.inr (s3.1, s3.2.1, x1, s3.2.2))
def sound_Cells_v2_b1 (N : Nat) (a7 : Zt1) (s2 : Zt4) : Option (Zt4 ⊕ Zt8) :=
 bif (decide (s2.2.1 < (a7.length : Int))) then
  if (0 : Int) ≤ s2.2.1 ∧ s2.2.1 < (a7.length : Int) then
   (iter (sound_Cells_v2_b2 N a7 s2) N (s2.1, 0, s2.2.2)).bind fun v2 =>
    if inK .i64 (s2.2.1 + 1) then
     some (.inl (v2.1, (s2.2.1 + 1), v2.2.2.2))
    else none
  else none
 else
  some (.inr (s2.1, s2.2.2))
def sound_Cells_v2 (N : Nat) (a1 : Int) (a2 : Int) (a3 : Int) (a4 : Bool) (a5 : Int) (a6 : (List Int)) (a7 : Zt1) (a8 : Int) : Option Zt3 :=
 (iter (sound_Cells_v2_b1 N a7) N (0, 0, [])).bind fun v1 =>
  if v1.1 = v1.2.length then
   some v1.2
  else none
def sp_sound_Cells_v2 (N : Nat) : X.Spec := fun args lk => match args with
 | [.v (.agg [.cs [.int .i64 a1, .int .i64 a2, .int .i64 a3, .bool a4, .int .i64 a5, .fz (.int .i64) a6, .fz (.pair .bool (.pair (.int .i64) (.pair (.int .i64) (.sl (.pair (.int .i64) (.pair .bool (.pair (.int .i64) (.pair (.int .i64) (.pair (.arr 2 .i64) (.pair (.arr 6 .i64) (.arrS 6 (.pair .bool (.pair (.int .i64) (.int .i64)))))))))))))) a7, .int .i64 a8]])] => some ⟨(sound_Cells_v2 N a1 a2 a3 a4 a5 a6 a7 a8).isSome = true, .v (.c (.fz Zs2 ((sound_Cells_v2 N a1 a2 a3 a4 a5 a6 a7 a8).getD default))), [], []⟩
 | _ => none
set_option maxRecDepth 100000 in
set_option maxHeartbeats 1000000 in
theorem ok_sound_Cells_v2 (N : Nat) : FnOK Tryd.prog gt0 13 (sp_sound_Cells_v2 N) := by
 refine fnOK_handed Tryd.func13 rfl (by kernel_rfl) tt_ok (ktCons (ok_sound_own N) (ktNil)) ?_
 intro args lk r h hp
 unfold sp_sound_Cells_v2 at h
 split at h
 ·
  rename_i a1 a2 a3 a4 a5 a6 a7 a8
  change (List Int) at a6
  change Zt1 at a7
  cases h
  obtain ⟨x, hx⟩ := Option.isSome_iff_exists.1 hp
  simp only [hx, Option.getD_some]
  refine hand0 rfl rfl (fun w0 M ε0 hX => ?_)
  refine rCount (fun hε => ?_)
  have hT : sound_Cells_v2 N a1 a2 a3 a4 a5 a6 a7 a8 = some x := hx; clear hx hp; unfold sound_Cells_v2 at hT
  refine zA hX ?_
  refine zA hX ?_
  refine rSeq (zA hX ?_)
  refine rBlock (rNil 42 18 (.lst Zs2 []) [(2, .v (.c (.val (.slice none 0 0)))), (3, .v (.c (.sl 1 0 0 18))), (9, .v (.c (.fz Zs1 a7))), (10, .v (.c (.int .i64 (a7.length : Int)))), (11, .v (.c (.int .i64 0)))] [] (nil_lst _) zF zF ?_)
  replace hT := sBind hT; obtain ⟨w1, hl, hT⟩ := hT
  refine rJoinA (fun v1 => v1 = w1) (fun v1 => ⟨[(2, .v (.c (.val (.slice none 0 0)))), (3, .v (.c (.sl 1 0 v1.1 18)))], [(1, .mem true 42 (some 18) (.lst Zs2 v1.2))], 2⟩) (.exit 0) (fun v1 hv => ?_) (fun hxs20 => ?_)
  ·
   subst hv; clear hl
   refine rInHit (rThen (zA hX ?_))
   refine rRet ?_
   replace hT := sIf hT; obtain ⟨p1, hT⟩ := hT
   refine rFreezeQ 1 Zs2 v1.2 [(2, .v (.c (.fz Zs2 v1.2)))] [] rfl rfl zF zF ?_
   have hy := Option.some.inj hT; subst hy
   exact zEnd0 hX rfl
  refine rLoopM (sound_Cells_v2_b1 N a7) (fun s2 => ⟨[(2, .v (.c (.val (.slice none 0 0)))), (3, .v (.c (.sl 1 0 s2.1 18))), (9, .v (.c (.fz Zs1 a7))), (10, .v (.c (.int .i64 (a7.length : Int)))), (11, .v (.c (.int .i64 s2.2.1)))], [(1, .mem true 42 (some 18) (.lst Zs2 s2.2.2))], 2⟩) hl (To.mk' [] 0 hε rfl zL zL) (fun s2 zs2 NNs2 hz hnexts2 houts2 => ?_)
  clear hl hT
  have hT := hz; clear hz
  refine zA hX ?_
  refine rSeq ?_
  refine zCond rfl rfl (fun hc => ?_) (fun hc => ?_)
  ·
   replace hT := sT hc hT
   refine rSkip (rThen (rSeq (rBlock ?_)))
   replace hT := sIf hT; obtain ⟨⟨o1, o2⟩, hT⟩ := hT
   refine zA hX ?_
   refine zA hX ?_
   refine rBlock ?_
   replace hT := sBind hT; obtain ⟨w2, hl, hT⟩ := hT
   refine rJoinA (fun v2 => v2 = w2) (fun v2 => ⟨[(2, .v (.c (.val (.slice none 0 0)))), (3, .v (.c (.sl 1 0 v2.1 18))), (5, .v (.c (.ptr 2 0 0 0 0 0))), (9, .v (.c (.fz Zs1 a7))), (10, .v (.c (.int .i64 (a7.length : Int)))), (11, .v (.c (.int .i64 s2.2.1))), (12, .v (.c (.bool (decide (s2.2.1 < (a7.length : Int)))))), (13, .v (.c (.fp Zs1 (a7.getD (s2.2.1).toNat Zd7) 0 0 0))), (14, .v (.agg [.cs [.bool (a7.getD (s2.2.1).toNat Zd7).1, .int .i64 (a7.getD (s2.2.1).toNat Zd7).2.1, .int .i64 (a7.getD (s2.2.1).toNat Zd7).2.2.1, .fz Zs2 (a7.getD (s2.2.1).toNat Zd7).2.2.2]])), (15, .v (.c (.ptr 2 0 0 3 0 0))), (16, .v (.c (.fz Zs2 (a7.getD (s2.2.1).toNat Zd7).2.2.2))), (17, .v (.c (.int .i64 ((a7.getD (s2.2.1).toNat Zd7).2.2.2.length : Int)))), (18, .v (.c (.int .i64 v2.2.1))), (19, .v (.c (.bool v2.2.2.1)))], [(1, .mem true 42 (some 18) (.lst Zs2 v2.2.2.2)), (2, .mem true 49 none (.flat [.cs [.bool (a7.getD (s2.2.1).toNat Zd7).1, .int .i64 (a7.getD (s2.2.1).toNat Zd7).2.1, .int .i64 (a7.getD (s2.2.1).toNat Zd7).2.2.1, .fz Zs2 (a7.getD (s2.2.1).toNat Zd7).2.2.2]]))], 3⟩) (.exit 2) (fun v2 hv => ?_) (fun hxs30 => ?_)
   ·
    subst hv; clear hl
    refine rInHit (rInNormal (rThen ?_))
    replace hT := sIf hT; obtain ⟨o1, hT⟩ := hT
    refine zReg md0 hX rfl rfl rfl ?_
    exact hnexts2 _ (Option.some.inj hT).symm _ (To.mk' [] 0 hε rfl zL zL)
   refine rLoopM (sound_Cells_v2_b2 N a7 s2) (fun s3 => ⟨[(2, .v (.c (.val (.slice none 0 0)))), (3, .v (.c (.sl 1 0 s3.1 18))), (5, .v (.c (.ptr 2 0 0 0 0 0))), (9, .v (.c (.fz Zs1 a7))), (10, .v (.c (.int .i64 (a7.length : Int)))), (11, .v (.c (.int .i64 s2.2.1))), (12, .v (.c (.bool (decide (s2.2.1 < (a7.length : Int)))))), (13, .v (.c (.fp Zs1 (a7.getD (s2.2.1).toNat Zd7) 0 0 0))), (14, .v (.agg [.cs [.bool (a7.getD (s2.2.1).toNat Zd7).1, .int .i64 (a7.getD (s2.2.1).toNat Zd7).2.1, .int .i64 (a7.getD (s2.2.1).toNat Zd7).2.2.1, .fz Zs2 (a7.getD (s2.2.1).toNat Zd7).2.2.2]])), (15, .v (.c (.ptr 2 0 0 3 0 0))), (16, .v (.c (.fz Zs2 (a7.getD (s2.2.1).toNat Zd7).2.2.2))), (17, .v (.c (.int .i64 ((a7.getD (s2.2.1).toNat Zd7).2.2.2.length : Int)))), (18, .v (.c (.int .i64 s3.2.1)))], [(1, .mem true 42 (some 18) (.lst Zs2 s3.2.2)), (2, .mem true 49 none (.flat [.cs [.bool (a7.getD (s2.2.1).toNat Zd7).1, .int .i64 (a7.getD (s2.2.1).toNat Zd7).2.1, .int .i64 (a7.getD (s2.2.1).toNat Zd7).2.2.1, .fz Zs2 (a7.getD (s2.2.1).toNat Zd7).2.2.2]]))], 3⟩) hl (To.mk' [] 0 hε rfl zL zL) (fun s3 zs3 NNs3 hz hnexts3 houts3 => ?_)
   clear hl hT
   have hT := hz; clear hz
   let x1 := (decide (s3.2.1 < ((a7.getD (s2.2.1).toNat Zd7).2.2.2.length : Int)))
   refine zA hX ?_
   refine rSeq ?_
   refine zCond rfl rfl (fun hc => ?_) (fun hc => ?_)
   ·
    replace hT := sT hc hT
    refine rSkip (rThen (rSeq (rBlock ?_)))
    let x3 := ((a7.getD (s2.2.1).toNat Zd7).2.2.2.getD (s3.2.1).toNat Zd1).1
    let x4 := ((a7.getD (s2.2.1).toNat Zd7).2.2.2.getD (s3.2.1).toNat Zd1).2.1
    let x5 := ((a7.getD (s2.2.1).toNat Zd7).2.2.2.getD (s3.2.1).toNat Zd1).2.2.1
    let x6 := ((a7.getD (s2.2.1).toNat Zd7).2.2.2.getD (s3.2.1).toNat Zd1).2.2.2.1
    let x7 : (List Int) := ((a7.getD (s2.2.1).toNat Zd7).2.2.2.getD (s3.2.1).toNat Zd1).2.2.2.2.1
    let x8 : (List Int) := ((a7.getD (s2.2.1).toNat Zd7).2.2.2.getD (s3.2.1).toNat Zd1).2.2.2.2.2.1
    let x9 := ((a7.getD (s2.2.1).toNat Zd7).2.2.2.getD (s3.2.1).toNat Zd1).2.2.2.2.2.2
    replace hT := sIf hT; obtain ⟨⟨o1, o2⟩, hT⟩ := hT
    refine zA hX ?_
    let c1 := (sound_own N x3 x4 x5 x6 x7 x8 x9)
    replace hT := sIf hT; obtain ⟨⟨o1, o2, o3, o4⟩, hT⟩ := hT
    refine zReg md0 hX rfl rfl rfl ?_
    refine rLstQ 4 Zs2 [(c1.getD default)] rfl rfl rfl ?_
    refine rInNormal (rThen ?_)
    replace hT := sIf hT; obtain ⟨o1, hT⟩ := hT
    refine zReg md0 hX rfl rfl rfl ?_
    exact hnexts3 _ (Option.some.inj hT).symm _ (To.mk' [0, 5, 2] 0 hε rfl zL zL)
   ·
    replace hT := sF hc hT
    refine rExit (rThenExit (rThenExit ?_))
    exact zTo [] 0 hε (hxs30 _ (houts3 _ (Option.some.inj hT).symm))
  ·
   replace hT := sF hc hT
   refine rExit (rThenExit (rThenExit ?_))
   exact zTo [] 0 hε (hxs20 _ (houts2 _ (Option.some.inj hT).symm))
 ·
  cases h
def ref25_Cells_b1 (N : Nat) (a7 : Zt1) (s2 : Zt4) : Option (Zt4 ⊕ Zt8) :=
 bif (decide (s2.2.1 < (a7.length : Int))) then
  if (0 : Int) ≤ s2.2.1 ∧ s2.2.1 < (a7.length : Int) ∧ s2.2.2.length = s2.1 ∧ (s2.1 + (a7.getD (s2.2.1).toNat Zd7).2.2.2.length) * 240 ≤ 140737488355328 ∧ s2.1 + (a7.getD (s2.2.1).toNat Zd7).2.2.2.length ≤ 9223372036854775807 then
   if inK .i64 (s2.2.1 + 1) then
    some (.inl ((s2.1 + (a7.getD (s2.2.1).toNat Zd7).2.2.2.length), (s2.2.1 + 1), (s2.2.2 ++ (a7.getD (s2.2.1).toNat Zd7).2.2.2)))
   else none
  else none
 else
  some (.inr (s2.1, s2.2.2))
def ref25_Cells (N : Nat) (a1 : Int) (a2 : Int) (a3 : Int) (a4 : Bool) (a5 : Int) (a6 : (List Int)) (a7 : Zt1) (a8 : Int) : Option Zt3 :=
 (iter (ref25_Cells_b1 N a7) N (0, 0, [])).bind fun v1 =>
  if v1.1 = v1.2.length then
   some v1.2
  else none
def sp_ref25_Cells (N : Nat) : X.Spec := fun args lk => match args with
 | [.v (.agg [.cs [.int .i64 a1, .int .i64 a2, .int .i64 a3, .bool a4, .int .i64 a5, .fz (.int .i64) a6, .fz (.pair .bool (.pair (.int .i64) (.pair (.int .i64) (.sl (.pair (.int .i64) (.pair .bool (.pair (.int .i64) (.pair (.int .i64) (.pair (.arr 2 .i64) (.pair (.arr 6 .i64) (.arrS 6 (.pair .bool (.pair (.int .i64) (.int .i64)))))))))))))) a7, .int .i64 a8]])] => some ⟨(ref25_Cells N a1 a2 a3 a4 a5 a6 a7 a8).isSome = true, .v (.c (.fz Zs2 ((ref25_Cells N a1 a2 a3 a4 a5 a6 a7 a8).getD default))), [], []⟩
 | _ => none
set_option maxRecDepth 100000 in
set_option maxHeartbeats 1000000 in
theorem ok_ref25_Cells (N : Nat) : FnOK Tryd.prog gt0 14 (sp_ref25_Cells N) := by
 refine fnOK_handed Tryd.func14 rfl (by kernel_rfl) tt_ok (ktNil) ?_
 intro args lk r h hp
 unfold sp_ref25_Cells at h
 split at h
 ·
  rename_i a1 a2 a3 a4 a5 a6 a7 a8
  change (List Int) at a6
  change Zt1 at a7
  cases h
  obtain ⟨x, hx⟩ := Option.isSome_iff_exists.1 hp
  simp only [hx, Option.getD_some]
  refine hand0 rfl rfl (fun w0 M ε0 hX => ?_)
  refine rCount (fun hε => ?_)
  have hT : ref25_Cells N a1 a2 a3 a4 a5 a6 a7 a8 = some x := hx; clear hx hp; unfold ref25_Cells at hT
  refine zA hX ?_
  refine zA hX ?_
  refine rSeq (zA hX ?_)
  refine rBlock (rNil 42 18 (.lst Zs2 []) [(1, .v (.c (.ptr 0 0 0 0 0 0))), (2, .v (.c (.val (.slice none 0 0)))), (3, .v (.c (.sl 1 0 0 18))), (4, .v (.c (.int .i64 0)))] [(0, .mem true 25 none (.flat [.cs [.int .i64 a1, .int .i64 a2, .int .i64 a3, .bool a4, .int .i64 a5, .fz (.int .i64) a6, .fz Zs1 a7, .int .i64 a8]]))] (nil_lst _) zF zF ?_)
  replace hT := sBind hT; obtain ⟨w1, hl, hT⟩ := hT
  refine rJoinA (fun v1 => v1 = w1) (fun v1 => ⟨[(2, .v (.c (.val (.slice none 0 0)))), (3, .v (.c (.sl 1 0 v1.1 18)))], [(1, .mem true 42 (some 18) (.lst Zs2 v1.2))], 2⟩) (.exit 0) (fun v1 hv => ?_) (fun hxs20 => ?_)
  ·
   subst hv; clear hl
   refine rInHit (rThen (zA hX ?_))
   refine rRet ?_
   replace hT := sIf hT; obtain ⟨p1, hT⟩ := hT
   refine rFreezeQ 1 Zs2 v1.2 [(2, .v (.c (.fz Zs2 v1.2)))] [] rfl rfl zF zF ?_
   have hy := Option.some.inj hT; subst hy
   exact zEnd0 hX rfl
  refine rLoopM (ref25_Cells_b1 N a7) (fun s2 => ⟨[(1, .v (.c (.ptr 0 0 0 0 0 0))), (2, .v (.c (.val (.slice none 0 0)))), (3, .v (.c (.sl 1 0 s2.1 18))), (4, .v (.c (.int .i64 s2.2.1)))], [(0, .mem true 25 none (.flat [.cs [.int .i64 a1, .int .i64 a2, .int .i64 a3, .bool a4, .int .i64 a5, .fz (.int .i64) a6, .fz Zs1 a7, .int .i64 a8]])), (1, .mem true 42 (some 18) (.lst Zs2 s2.2.2))], 2⟩) hl (To.mk' [] 0 hε rfl zL zL) (fun s2 zs2 NNs2 hz hnexts2 houts2 => ?_)
  clear hl hT
  have hT := hz; clear hz
  refine rSeq (zA hX ?_)
  refine zCond rfl rfl (fun hc => ?_) (fun hc => ?_)
  ·
   replace hT := sT hc hT
   refine rSkip (rThen (rSeq (rBlock ?_)))
   replace hT := sIf hT; obtain ⟨⟨o1, o2, o3, o4, o5⟩, hT⟩ := hT
   refine zReg md0 hX rfl rfl rfl ?_
   refine rInNormal (rThen ?_)
   replace hT := sIf hT; obtain ⟨o1, hT⟩ := hT
   refine zReg md0 hX rfl rfl rfl ?_
   exact hnexts2 _ (Option.some.inj hT).symm _ (To.mk' [0, 2] 0 hε rfl zL zL)
  ·
   replace hT := sF hc hT
   refine rExit (rThenExit (rThenExit ?_))
   exact zTo [] 0 hε (hxs20 _ (houts2 _ (Option.some.inj hT).symm))
 ·
  cases h
def sound_Vectors_b1 (N : Nat) (c1 : (Option Zt3)) (s2 : (Nat × Int × (List (List Int)))) : Option ((Nat × Int × (List (List Int))) ⊕ (Nat × (List (List Int)))) :=
 bif (decide (s2.2.1 < ((c1.getD default).length : Int))) then
  let x6 : (List Int) := ((c1.getD default).getD (s2.2.1).toNat Zd1).2.2.2.2.1
  if (0 : Int) ≤ s2.2.1 ∧ s2.2.1 < ((c1.getD default).length : Int) then
   if s2.2.2.length = s2.1 ∧ (s2.1 + 1) * 16 ≤ 140737488355328 ∧ s2.1 + 1 ≤ 9223372036854775807 then
    if inK .i64 (s2.2.1 + 1) then
     some (.inl ((s2.1 + 1), (s2.2.1 + 1), (s2.2.2 ++ [x6])))
    else none
   else none
  else none
 else
  some (.inr (s2.1, s2.2.2))
def sound_Vectors (N : Nat) (a1 : Int) (a2 : Int) (a3 : Int) (a4 : Bool) (a5 : Int) (a6 : (List Int)) (a7 : Zt1) (a8 : Int) : Option (List (List Int)) :=
 let c1 := (sound_Cells_v2 N a1 a2 a3 a4 a5 a6 a7 a8)
 if c1.isSome = true then
  (iter (sound_Vectors_b1 N c1) N (0, 0, [])).bind fun v1 =>
   if v1.1 = v1.2.length then
    some v1.2
   else none
 else none
def sp_sound_Vectors (N : Nat) : X.Spec := fun args lk => match args with
 | [.v (.agg [.cs [.int .i64 a1, .int .i64 a2, .int .i64 a3, .bool a4, .int .i64 a5, .fz (.int .i64) a6, .fz (.pair .bool (.pair (.int .i64) (.pair (.int .i64) (.sl (.pair (.int .i64) (.pair .bool (.pair (.int .i64) (.pair (.int .i64) (.pair (.arr 2 .i64) (.pair (.arr 6 .i64) (.arrS 6 (.pair .bool (.pair (.int .i64) (.int .i64)))))))))))))) a7, .int .i64 a8]])] => some ⟨(sound_Vectors N a1 a2 a3 a4 a5 a6 a7 a8).isSome = true, .v (.c (.fz (.arr 2 .i64) ((sound_Vectors N a1 a2 a3 a4 a5 a6 a7 a8).getD default))), [], []⟩
 | _ => none
set_option maxRecDepth 100000 in
set_option maxHeartbeats 1000000 in
theorem ok_sound_Vectors (N : Nat) : FnOK Tryd.prog gt0 15 (sp_sound_Vectors N) := by
 refine fnOK_handed Tryd.func15 rfl (by kernel_rfl) tt_ok (ktCons (ok_sound_Cells_v2 N) (ktNil)) ?_
 intro args lk r h hp
 unfold sp_sound_Vectors at h
 split at h
 ·
  rename_i a1 a2 a3 a4 a5 a6 a7 a8
  change (List Int) at a6
  change Zt1 at a7
  cases h
  obtain ⟨x, hx⟩ := Option.isSome_iff_exists.1 hp
  simp only [hx, Option.getD_some]
  refine hand0 rfl rfl (fun w0 M ε0 hX => ?_)
  refine rCount (fun hε => ?_)
  have hT : sound_Vectors N a1 a2 a3 a4 a5 a6 a7 a8 = some x := hx; clear hx hp; unfold sound_Vectors at hT
  refine zA hX ?_
  refine zA hX ?_
  refine rSeq ?_
  let c1 := (sound_Cells_v2 N a1 a2 a3 a4 a5 a6 a7 a8)
  replace hT := sIf hT; obtain ⟨o1, hT⟩ := hT
  refine zA hX ?_
  refine rBlock (rNil 37 2 (.lst (.arr 2 .i64) []) [(2, .v (.c (.val (.slice none 0 0)))), (3, .v (.c (.sl 1 0 0 2))), (7, .v (.c (.fz Zs2 (c1.getD default)))), (8, .v (.c (.int .i64 ((c1.getD default).length : Int)))), (9, .v (.c (.int .i64 0)))] [] (nil_lst _) zF zF ?_)
  replace hT := sBind hT; obtain ⟨w1, hl, hT⟩ := hT
  refine rJoinA (fun v1 => v1 = w1) (fun v1 => ⟨[(2, .v (.c (.val (.slice none 0 0)))), (3, .v (.c (.sl 1 0 v1.1 2)))], [(1, .mem true 37 (some 2) (.lst (.arr 2 .i64) v1.2))], 2⟩) (.exit 0) (fun v1 hv => ?_) (fun hxs20 => ?_)
  ·
   subst hv; clear hl
   refine rInHit (rThen (zA hX ?_))
   refine rRet ?_
   replace hT := sIf hT; obtain ⟨p1, hT⟩ := hT
   refine rFreezeQ 1 (.arr 2 .i64) v1.2 [(2, .v (.c (.fz (.arr 2 .i64) v1.2)))] [] rfl rfl zF zF ?_
   have hy := Option.some.inj hT; subst hy
   exact zEnd0 hX rfl
  refine rLoopM (sound_Vectors_b1 N c1) (fun s2 => ⟨[(2, .v (.c (.val (.slice none 0 0)))), (3, .v (.c (.sl 1 0 s2.1 2))), (7, .v (.c (.fz Zs2 (c1.getD default)))), (8, .v (.c (.int .i64 ((c1.getD default).length : Int)))), (9, .v (.c (.int .i64 s2.2.1)))], [(1, .mem true 37 (some 2) (.lst (.arr 2 .i64) s2.2.2))], 2⟩) hl (To.mk' [] 0 hε rfl zL zL) (fun s2 zs2 NNs2 hz hnexts2 houts2 => ?_)
  clear hl hT
  have hT := hz; clear hz
  refine zA hX ?_
  refine rSeq ?_
  refine zCond rfl rfl (fun hc => ?_) (fun hc => ?_)
  ·
   replace hT := sT hc hT
   refine rSkip (rThen (rSeq (rBlock ?_)))
   let x6 : (List Int) := ((c1.getD default).getD (s2.2.1).toNat Zd1).2.2.2.2.1
   replace hT := sIf hT; obtain ⟨⟨o1, o2⟩, hT⟩ := hT
   refine zA hX ?_
   replace hT := sIf hT; obtain ⟨⟨o1, o2, o3⟩, hT⟩ := hT
   refine zReg md0 hX rfl rfl rfl ?_
   refine rLstQ 3 (.arr 2 .i64) [x6] rfl rfl rfl ?_
   refine rInNormal (rThen ?_)
   replace hT := sIf hT; obtain ⟨o1, hT⟩ := hT
   refine zReg md0 hX rfl rfl rfl ?_
   exact hnexts2 _ (Option.some.inj hT).symm _ (To.mk' [0, 4] 0 hε rfl zL zL)
  ·
   replace hT := sF hc hT
   refine rExit (rThenExit (rThenExit ?_))
   exact zTo [] 0 hε (hxs20 _ (houts2 _ (Option.some.inj hT).symm))
 ·
  cases h
def sheethead_may_v2_b1 (N : Nat) (a6 : (List Int)) (s1 : (Bool × Int)) : Option ((Bool × Int) ⊕ Bool) :=
 bif (decide (s1.2 < (a6.length : Int))) then
  if (0 : Int) ≤ s1.2 ∧ s1.2 < (a6.length : Int) then
   let x7 := (bif (bif s1.1 then (decide ((0 : Int) ≤ (a6.getD (s1.2).toNat 0))) else false) then (decide ((a6.getD (s1.2).toNat 0) ≤ 255)) else false)
   if inK .i64 (s1.2 + 1) then
    some (.inl (x7, (s1.2 + 1)))
   else none
  else none
 else
  some (.inr s1.1)
def sheethead_may_v2 (N : Nat) (a1 : Int) (a2 : Int) (a3 : Int) (a4 : Bool) (a5 : Int) (a6 : (List Int)) (a7 : Zt1) (a8 : Int) : Option Bool :=
 let c1 := (formats_Size N a3)
 if c1.isSome = true then
  let x1 := (bif (bif (bif (bif (bif (bif (bif (c1.getD default).2.2 then (decide ((0 : Int) ≤ a1)) else false) then (decide (a1 ≤ 255)) else false) then (decide ((0 : Int) ≤ a2)) else false) then (decide (a2 ≤ 7)) else false) then (decide ((1 : Int) ≤ a5)) else false) then (decide (a5 ≤ 31)) else false) then (decide ((a6.length : Int) ≤ 8)) else false)
  (iter (sheethead_may_v2_b1 N a6) N (x1, 0)).bind fun v1 =>
   some v1
 else none
def sp_sheethead_may_v2 (N : Nat) : X.Spec := fun args lk => match args with
 | [.v (.agg [.cs [.int .i64 a1, .int .i64 a2, .int .i64 a3, .bool a4, .int .i64 a5, .fz (.int .i64) a6, .fz (.pair .bool (.pair (.int .i64) (.pair (.int .i64) (.sl (.pair (.int .i64) (.pair .bool (.pair (.int .i64) (.pair (.int .i64) (.pair (.arr 2 .i64) (.pair (.arr 6 .i64) (.arrS 6 (.pair .bool (.pair (.int .i64) (.int .i64)))))))))))))) a7, .int .i64 a8]])] => some ⟨(sheethead_may_v2 N a1 a2 a3 a4 a5 a6 a7 a8).isSome = true, .v (.c (.bool ((sheethead_may_v2 N a1 a2 a3 a4 a5 a6 a7 a8).getD default))), [], []⟩
 | _ => none
set_option maxRecDepth 100000 in
set_option maxHeartbeats 1000000 in
theorem ok_sheethead_may_v2 (N : Nat) : FnOK Tryd.prog gt0 65 (sp_sheethead_may_v2 N) := by
 refine fnOK_handed Tryd.func65 rfl (by kernel_rfl) tt_ok (ktCons (ok_formats_Size N) (ktNil)) ?_
 intro args lk r h hp
 unfold sp_sheethead_may_v2 at h
 split at h
 ·
  rename_i a1 a2 a3 a4 a5 a6 a7 a8
  change (List Int) at a6
  change Zt1 at a7
  cases h
  obtain ⟨x, hx⟩ := Option.isSome_iff_exists.1 hp
  simp only [hx, Option.getD_some]
  refine hand0 rfl rfl (fun w0 M ε0 hX => ?_)
  refine rCount (fun hε => ?_)
  have hT : sheethead_may_v2 N a1 a2 a3 a4 a5 a6 a7 a8 = some x := hx; clear hx hp; unfold sheethead_may_v2 at hT
  refine zA hX ?_
  let c1 := (formats_Size N a3)
  replace hT := sIf hT; obtain ⟨o1, hT⟩ := hT
  refine zA hX ?_
  let x1 := (bif (bif (bif (bif (bif (bif (bif (c1.getD default).2.2 then (decide ((0 : Int) ≤ a1)) else false) then (decide (a1 ≤ 255)) else false) then (decide ((0 : Int) ≤ a2)) else false) then (decide (a2 ≤ 7)) else false) then (decide ((1 : Int) ≤ a5)) else false) then (decide (a5 ≤ 31)) else false) then (decide ((a6.length : Int) ≤ 8)) else false)
  refine zA hX ?_
  refine rSeq (zA hX ?_)
  refine rBlock ?_
  replace hT := sBind hT; obtain ⟨w1, hl, hT⟩ := hT
  refine rJoinA (fun v1 => v1 = w1) (fun v1 => ⟨[(2, .v (.c (.bool false))), (5, .v (.c (.bool v1)))], [], 1⟩) (.exit 0) (fun v1 hv => ?_) (fun hxs10 => ?_)
  ·
   subst hv; clear hl
   refine rInHit (rThen (zA hX ?_))
   refine rRet ?_
   have hy := Option.some.inj hT; subst hy
   exact zEnd0 hX rfl
  refine rLoopM (sheethead_may_v2_b1 N a6) (fun s1 => ⟨[(2, .v (.c (.bool false))), (5, .v (.c (.bool s1.1))), (53, .v (.c (.fz (.int .i64) a6))), (54, .v (.c (.int .i64 (a6.length : Int)))), (55, .v (.c (.int .i64 s1.2)))], [], 1⟩) hl (To.mk' [] 0 hε rfl zL zL) (fun s1 zs1 NNs1 hz hnexts1 houts1 => ?_)
  clear hl hT
  have hT := hz; clear hz
  refine zA hX ?_
  refine rSeq ?_
  refine zCond rfl rfl (fun hc => ?_) (fun hc => ?_)
  ·
   replace hT := sT hc hT
   refine rSkip (rThen (rSeq (rBlock ?_)))
   replace hT := sIf hT; obtain ⟨⟨o1, o2⟩, hT⟩ := hT
   refine zA hX ?_
   let x7 := (bif (bif s1.1 then (decide ((0 : Int) ≤ (a6.getD (s1.2).toNat 0))) else false) then (decide ((a6.getD (s1.2).toNat 0) ≤ 255)) else false)
   refine zReg md0 hX rfl rfl rfl ?_
   refine rInNormal (rThen ?_)
   replace hT := sIf hT; obtain ⟨o1, hT⟩ := hT
   refine zReg md0 hX rfl rfl rfl ?_
   exact hnexts1 _ (Option.some.inj hT).symm _ (To.mk' [] 0 hε rfl zL zL)
  ·
   replace hT := sF hc hT
   refine rExit (rThenExit (rThenExit ?_))
   exact zTo [] 0 hε (hxs10 _ (houts1 _ (Option.some.inj hT).symm))
 ·
  cases h
def sheethead_Put_v2_b1 (N : Nat) (a6 : (List Int)) (s1 : (Int × (List Bool))) : Option ((Int × (List Bool)) ⊕ (List Bool)) :=
 bif (decide (s1.1 < (a6.length : Int))) then
  if (0 : Int) ≤ s1.1 ∧ s1.1 < (a6.length : Int) then
   let c12 := (overspill_outbits_Writer_Put N (orI (256 : Int) (a6.getD (s1.1).toNat 0)) 9 s1.2)
   if (0 : Int) ≤ (a6.getD (s1.1).toNat 0) ∧ c12.isSome = true then
    if inK .i64 (s1.1 + 1) then
     some (.inl ((s1.1 + 1), (c12.getD default).2))
    else none
   else none
  else none
 else
  some (.inr s1.2)
def sheethead_Put_v2 (N : Nat) (a1 : Int) (a2 : Int) (a3 : Int) (a4 : Bool) (a5 : Int) (a6 : (List Int)) (a7 : Zt1) (a8 : Int) (a9 : (List Bool)) : Option (Int × (List Bool)) :=
 let c1 := (sheethead_may_v2 N a1 a2 a3 a4 a5 a6 a7 a8)
 if c1.isSome = true then
  bif (!(c1.getD default)) then
   some (12, a9)
  else
   let c2 := (marks_Put N 0 a9)
   if c2.isSome = true then
    let c3 := (overspill_outbits_Writer_Put N a1 8 (c2.getD default).2)
    if c3.isSome = true then
     let c4 := (overspill_outbits_Writer_Put N 2 2 (c3.getD default).2)
     if c4.isSome = true then
      let c5 := (overspill_outbits_Writer_Put N a2 3 (c4.getD default).2)
      if c5.isSome = true then
       let c6 := (overspill_outbits_Writer_Put N a3 3 (c5.getD default).2)
       if c6.isSome = true then
        let c7 := (overspill_outbits_Writer_Put N (bif a4 then (1 : Int) else 0) 1 (c6.getD default).2)
        if c7.isSome = true then
         let c8 := (overspill_outbits_Writer_Put N 0 4 (c7.getD default).2)
         if c8.isSome = true then
          let c9 := (overspill_outbits_Writer_Put N a5 5 (c8.getD default).2)
          if c9.isSome = true then
           let c10 := (overspill_outbits_Writer_Put N 0 1 (c9.getD default).2)
           if c10.isSome = true then
            (iter (sheethead_Put_v2_b1 N a6) N (0, (c10.getD default).2)).bind fun v1 =>
             let c11 := (overspill_outbits_Writer_Put N 0 1 v1)
             if c11.isSome = true then
              some ((c11.getD default).1, (c11.getD default).2)
             else none
           else none
          else none
         else none
        else none
       else none
      else none
     else none
    else none
   else none
 else none
def sp_sheethead_Put_v2 (N : Nat) : X.Spec := fun args lk => match args with
 | [.v (.c (.ptr i0 0 0 0 0 0)), .v (.agg [.cs [.int .i64 a1, .int .i64 a2, .int .i64 a3, .bool a4, .int .i64 a5, .fz (.int .i64) a6, .fz (.pair .bool (.pair (.int .i64) (.pair (.int .i64) (.sl (.pair (.int .i64) (.pair .bool (.pair (.int .i64) (.pair (.int .i64) (.pair (.arr 2 .i64) (.pair (.arr 6 .i64) (.arrS 6 (.pair .bool (.pair (.int .i64) (.int .i64)))))))))))))) a7, .int .i64 a8]])] => (match lk i0 with
  | some (.obj 5 a9) => some ⟨(sheethead_Put_v2 N a1 a2 a3 a4 a5 a6 a7 a8 a9).isSome = true, .v (.c (.int .i64 ((sheethead_Put_v2 N a1 a2 a3 a4 a5 a6 a7 a8 a9).getD default).1)), [], [(i0, .obj 5 ((sheethead_Put_v2 N a1 a2 a3 a4 a5 a6 a7 a8 a9).getD default).2)]⟩
  | _ => none)
 | _ => none
set_option maxRecDepth 100000 in
set_option maxHeartbeats 1000000 in
theorem ok_sheethead_Put_v2 (N : Nat) : FnOK Tryd.prog gt0 35 (sp_sheethead_Put_v2 N) := by
 refine fnOK_handed Tryd.func35 rfl (by kernel_rfl) tt_ok (ktCons (ok_overspill_outbits_Writer_Put N) (ktCons (ok_marks_Put N) (ktCons (ok_sheethead_may_v2 N) (ktNil)))) ?_
 intro args lk r h hp
 unfold sp_sheethead_Put_v2 at h
 split at h
 ·
  rename_i i0 a1 a2 a3 a4 a5 a6 a7 a8
  split at h
  ·
   rename_i a9 hl0
   change (List Int) at a6
   change Zt1 at a7
   cases h
   obtain ⟨x, hx⟩ := Option.isSome_iff_exists.1 hp
   simp only [hx, Option.getD_some]
   refine handL [i0] 1 [(0, .obj 5 a9)] [.v (.c (.ptr 0 0 0 0 0 0)), .v (.agg [.cs [.int .i64 a1, .int .i64 a2, .int .i64 a3, .bool a4, .int .i64 a5, .fz (.int .i64) a6, .fz Zs1 a7, .int .i64 a8]])] rfl rfl rfl ⟨isSome_of hl0, trivial⟩ ⟨⟨rfl, zT, _, hl0, .inl rfl⟩, trivial⟩ rfl (fun w0 M ε0 hX => ?_)
   refine rCount (fun hε => ?_)
   have hT : sheethead_Put_v2 N a1 a2 a3 a4 a5 a6 a7 a8 a9 = some x := hx; clear hx hp; unfold sheethead_Put_v2 at hT
   refine zA hX ?_
   refine rSeq (rBlock (zA hX ?_))
   refine rCondF rfl rfl zP rfl ?_
   let c1 := (sheethead_may_v2 N a1 a2 a3 a4 a5 a6 a7 a8)
   replace hT := sIf hT; obtain ⟨o1, hT⟩ := hT
   refine zA hX ?_
   refine zCond rfl rfl (fun hc => ?_) (fun hc => ?_)
   ·
    replace hT := sT hc hT
    refine zA hX ?_
    refine rRet (rInRet (rThenRet ?_))
    have hy := Option.some.inj hT; subst hy
    exact rEndA [] [] [(0, .obj 5 a9)] (.v (.c (.int .i64 12))) hX rfl zZ zL rfl rfl rfl zT rfl rfl zT rfl rfl
   ·
    replace hT := sF hc hT
    refine rSkip (rInNormal (rThen (zA hX ?_)))
    refine rSeq (zA hX ?_)
    refine rJoin ⟨[(0, .v (.c (.ptr 0 0 0 0 0 0))), (3, .v (.c (.ptr 1 0 0 0 0 0))), (4, .v (.c (.int .i64 0))), (5, .v (.c (.int .i64 (bif a4 then (1 : Int) else 0))))], [(0, .obj 5 a9), (1, .mem true 25 none (.flat [.cs [.int .i64 a1, .int .i64 a2, .int .i64 a3, .bool a4, .int .i64 a5, .fz (.int .i64) a6, .fz Zs1 a7, .int .i64 a8]]))], 2⟩ ?_ (fun hj => ?_)
    ·
     refine rThen ?_
     let c2 := (marks_Put N 0 a9)
     replace hT := sIf hT; obtain ⟨o1, hT⟩ := hT
     refine zA hX ?_
     let c3 := (overspill_outbits_Writer_Put N a1 8 (c2.getD default).2)
     replace hT := sIf hT; obtain ⟨o1, hT⟩ := hT
     refine zA hX ?_
     let c4 := (overspill_outbits_Writer_Put N 2 2 (c3.getD default).2)
     replace hT := sIf hT; obtain ⟨o1, hT⟩ := hT
     refine zA hX ?_
     let c5 := (overspill_outbits_Writer_Put N a2 3 (c4.getD default).2)
     replace hT := sIf hT; obtain ⟨o1, hT⟩ := hT
     refine zA hX ?_
     let c6 := (overspill_outbits_Writer_Put N a3 3 (c5.getD default).2)
     replace hT := sIf hT; obtain ⟨o1, hT⟩ := hT
     refine zA hX ?_
     let c7 := (overspill_outbits_Writer_Put N (bif a4 then (1 : Int) else 0) 1 (c6.getD default).2)
     replace hT := sIf hT; obtain ⟨o1, hT⟩ := hT
     refine zA hX ?_
     let c8 := (overspill_outbits_Writer_Put N 0 4 (c7.getD default).2)
     replace hT := sIf hT; obtain ⟨o1, hT⟩ := hT
     refine zA hX ?_
     let c9 := (overspill_outbits_Writer_Put N a5 5 (c8.getD default).2)
     replace hT := sIf hT; obtain ⟨o1, hT⟩ := hT
     refine zA hX ?_
     let c10 := (overspill_outbits_Writer_Put N 0 1 (c9.getD default).2)
     replace hT := sIf hT; obtain ⟨o1, hT⟩ := hT
     refine zA hX ?_
     refine rSeq (zA hX ?_)
     refine rBlock ?_
     replace hT := sBind hT; obtain ⟨w1, hl, hT⟩ := hT
     refine rJoinA (fun v1 => v1 = w1) (fun v1 => ⟨[(0, .v (.c (.ptr 0 0 0 0 0 0))), (4, .v (.c (.int .i64 0)))], [(0, .obj 5 v1)], 2⟩) (.exit 1) (fun v1 hv => ?_) (fun hxs10 => ?_)
     ·
      subst hv; clear hl
      refine rInHit (rThen ?_)
      let c11 := (overspill_outbits_Writer_Put N 0 1 v1)
      replace hT := sIf hT; obtain ⟨o1, hT⟩ := hT
      refine zA hX ?_
      refine rRet ?_
      have hy := Option.some.inj hT; subst hy
      exact rEndA [] [] [(0, .obj 5 (c11.getD default).2)] (.v (.c (.int .i64 (c11.getD default).1))) hX rfl zZ zL rfl rfl rfl zT rfl rfl zT rfl rfl
     refine rLoopM (sheethead_Put_v2_b1 N a6) (fun s1 => ⟨[(0, .v (.c (.ptr 0 0 0 0 0 0))), (4, .v (.c (.int .i64 0))), (45, .v (.c (.fz (.int .i64) a6))), (46, .v (.c (.int .i64 (a6.length : Int)))), (47, .v (.c (.int .i64 s1.1)))], [(0, .obj 5 s1.2)], 2⟩) hl (To.mk' [] 1 hε rfl zL zL) (fun s1 zs1 NNs1 hz hnexts1 houts1 => ?_)
     clear hl hT
     have hT := hz; clear hz
     refine zA hX ?_
     refine rSeq ?_
     refine zCond rfl rfl (fun hc => ?_) (fun hc => ?_)
     ·
      replace hT := sT hc hT
      refine rSkip (rThen (rSeq (rBlock ?_)))
      replace hT := sIf hT; obtain ⟨⟨o1, o2⟩, hT⟩ := hT
      refine zA hX ?_
      let c12 := (overspill_outbits_Writer_Put N (orI (256 : Int) (a6.getD (s1.1).toNat 0)) 9 s1.2)
      replace hT := sIf hT; obtain ⟨⟨o1, o2⟩, hT⟩ := hT
      refine zReg md0 hX rfl rfl rfl ?_
      refine rInNormal (rThen ?_)
      replace hT := sIf hT; obtain ⟨o1, hT⟩ := hT
      refine zReg md0 hX rfl rfl rfl ?_
      exact hnexts1 _ (Option.some.inj hT).symm _ (To.mk' [] 1 hε rfl zL zL)
     ·
      replace hT := sF hc hT
      refine rExit (rThenExit (rThenExit ?_))
      exact zTo [] 1 hε (hxs10 _ (houts1 _ (Option.some.inj hT).symm))
    ·
     clear hT
     refine zCond rfl rfl (fun hc => ?_) (fun hc => ?_)
     ·
      refine zReg md0 hX rfl rfl rfl ?_
      exact rTo (To.mk' [] 1 hε rfl zJ zJ) hj
     ·
      refine rSkip ?_
      exact rTo (To.mk' [] 1 hε rfl zJ zJ) hj
  ·
   cases h
 ·
  cases h
def overspill_sound_sheet_row_v1_b1 (N : Nat) (a4 : Bool) (a7 : Zt1) (a9 : Int) (s1 : Int) : Option (Int ⊕ (Unit ⊕ Unit)) :=
 let x13 := (decide (s1 < ((a7.getD (a9).toNat Zd7).2.2.2.length : Int)))
 bif x13 then
  let x15 := ((a7.getD (a9).toNat Zd7).2.2.2.getD (s1).toNat Zd1).1
  let x16 := ((a7.getD (a9).toNat Zd7).2.2.2.getD (s1).toNat Zd1).2.1
  let x17 := ((a7.getD (a9).toNat Zd7).2.2.2.getD (s1).toNat Zd1).2.2.1
  let x18 := ((a7.getD (a9).toNat Zd7).2.2.2.getD (s1).toNat Zd1).2.2.2.1
  let x19 : (List Int) := ((a7.getD (a9).toNat Zd7).2.2.2.getD (s1).toNat Zd1).2.2.2.2.1
  let x20 : (List Int) := ((a7.getD (a9).toNat Zd7).2.2.2.getD (s1).toNat Zd1).2.2.2.2.2.1
  let x21 := ((a7.getD (a9).toNat Zd7).2.2.2.getD (s1).toNat Zd1).2.2.2.2.2.2
  if (0 : Int) ≤ s1 ∧ s1 < ((a7.getD (a9).toNat Zd7).2.2.2.length : Int) then
   let c3 := (cellout_Right N a4 x15 x16 x17 x18 x19 x20 x21)
   if c3.isSome = true then
    bif (!(c3.getD default)) then
     some (.inr (Sum.inl ()))
    else
     if inK .i64 (s1 + 1) then
      some (.inl (s1 + 1))
     else none
   else none
  else none
 else
  some (.inr (Sum.inr ()))
def overspill_sound_sheet_row_v1 (N : Nat) (a1 : Int) (a2 : Int) (a3 : Int) (a4 : Bool) (a5 : Int) (a6 : (List Int)) (a7 : Zt1) (a8 : Int) (a9 : Int) : Option Bool :=
 let c1 := (formats_Cells N a3)
 if c1.isSome = true then
  let c2 := (formats_Rows N a3)
  if c2.isSome = true then
   if (0 : Int) ≤ a9 ∧ a9 < (a7.length : Int) then
    let x1 := (decide (((a7.getD (a9).toNat Zd7).2.2.2.length : Int) ≠ ((c1.getD default).1 * (c2.getD default).2)))
    if inK .i64 ((c1.getD default).1 * (c2.getD default).2) then
     bif x1 then
      some false
     else
      let x4 := (bif (!(a7.getD (a9).toNat Zd7).1) then (bif (decide ((a7.getD (a9).toNat Zd7).2.1 ≠ 0)) then true else (decide ((a7.getD (a9).toNat Zd7).2.2.1 ≠ 0))) else false)
      if ((!(a7.getD (a9).toNat Zd7).1) = true → ((decide ((a7.getD (a9).toNat Zd7).2.1 ≠ 0)) = false → ((!(a7.getD (a9).toNat Zd7).1) && (!(decide ((a7.getD (a9).toNat Zd7).2.1 ≠ 0)))) = true)) then
       bif x4 then
        some false
       else
        let x12 := (bif (a7.getD (a9).toNat Zd7).1 then (bif (bif (bif (bif (decide (a9 = 0)) then true else (decide ((a7.getD (a9).toNat Zd7).2.1 < 0))) then true else (decide ((3 : Int) < (a7.getD (a9).toNat Zd7).2.1))) then true else (decide ((a7.getD (a9).toNat Zd7).2.2.1 < 1))) then true else (decide ((31 : Int) < (a7.getD (a9).toNat Zd7).2.2.1))) else false)
        if ((a7.getD (a9).toNat Zd7).1 = true → ((decide (a9 = 0)) = false → ((a7.getD (a9).toNat Zd7).1 && (!(decide (a9 = 0)))) = true)) ∧ ((a7.getD (a9).toNat Zd7).1 = true → ((bif (decide (a9 = 0)) then true else (decide ((a7.getD (a9).toNat Zd7).2.1 < 0))) = false → ((a7.getD (a9).toNat Zd7).1 && (!(bif (decide (a9 = 0)) then true else (decide ((a7.getD (a9).toNat Zd7).2.1 < 0))))) = true)) ∧ ((a7.getD (a9).toNat Zd7).1 = true → ((bif (bif (decide (a9 = 0)) then true else (decide ((a7.getD (a9).toNat Zd7).2.1 < 0))) then true else (decide ((3 : Int) < (a7.getD (a9).toNat Zd7).2.1))) = false → ((a7.getD (a9).toNat Zd7).1 && (!(bif (bif (decide (a9 = 0)) then true else (decide ((a7.getD (a9).toNat Zd7).2.1 < 0))) then true else (decide ((3 : Int) < (a7.getD (a9).toNat Zd7).2.1))))) = true)) ∧ ((a7.getD (a9).toNat Zd7).1 = true → ((bif (bif (bif (decide (a9 = 0)) then true else (decide ((a7.getD (a9).toNat Zd7).2.1 < 0))) then true else (decide ((3 : Int) < (a7.getD (a9).toNat Zd7).2.1))) then true else (decide ((a7.getD (a9).toNat Zd7).2.2.1 < 1))) = false → ((a7.getD (a9).toNat Zd7).1 && (!(bif (bif (bif (decide (a9 = 0)) then true else (decide ((a7.getD (a9).toNat Zd7).2.1 < 0))) then true else (decide ((3 : Int) < (a7.getD (a9).toNat Zd7).2.1))) then true else (decide ((a7.getD (a9).toNat Zd7).2.2.1 < 1))))) = true)) then
         bif x12 then
          some false
         else
          (iter (overspill_sound_sheet_row_v1_b1 N a4 a7 a9) N 0).bind fun w1 =>
           (Sum.elim (fun v1 =>
            some false
           )
            (fun v2 =>
             some true
            )
           ) w1
        else none
      else none
    else none
   else none
  else none
 else none
def sp_overspill_sound_sheet_row_v1 (N : Nat) : X.Spec := fun args lk => match args with
 | [.v (.agg [.cs [.int .i64 a1, .int .i64 a2, .int .i64 a3, .bool a4, .int .i64 a5, .fz (.int .i64) a6, .fz (.pair .bool (.pair (.int .i64) (.pair (.int .i64) (.sl (.pair (.int .i64) (.pair .bool (.pair (.int .i64) (.pair (.int .i64) (.pair (.arr 2 .i64) (.pair (.arr 6 .i64) (.arrS 6 (.pair .bool (.pair (.int .i64) (.int .i64)))))))))))))) a7, .int .i64 a8]]), .v (.c (.int .i64 a9))] => some ⟨(overspill_sound_sheet_row_v1 N a1 a2 a3 a4 a5 a6 a7 a8 a9).isSome = true, .v (.c (.bool ((overspill_sound_sheet_row_v1 N a1 a2 a3 a4 a5 a6 a7 a8 a9).getD default))), [], []⟩
 | _ => none
set_option maxRecDepth 100000 in
set_option maxHeartbeats 1000000 in
theorem ok_overspill_sound_sheet_row_v1 (N : Nat) : FnOK Tryd.prog gt0 38 (sp_overspill_sound_sheet_row_v1 N) := by
 refine fnOK_handed Tryd.func38 rfl (by kernel_rfl) tt_ok (ktCons (ok_cellout_Right N) (ktCons (ok_formats_Rows N) (ktCons (ok_formats_Cells N) (ktNil)))) ?_
 intro args lk r h hp
 unfold sp_overspill_sound_sheet_row_v1 at h
 split at h
 ·
  rename_i a1 a2 a3 a4 a5 a6 a7 a8 a9
  change (List Int) at a6
  change Zt1 at a7
  cases h
  obtain ⟨x, hx⟩ := Option.isSome_iff_exists.1 hp
  simp only [hx, Option.getD_some]
  refine hand0 rfl rfl (fun w0 M ε0 hX => ?_)
  refine rCount (fun hε => ?_)
  have hT : overspill_sound_sheet_row_v1 N a1 a2 a3 a4 a5 a6 a7 a8 a9 = some x := hx; clear hx hp; unfold overspill_sound_sheet_row_v1 at hT
  refine zA hX ?_
  let c1 := (formats_Cells N a3)
  replace hT := sIf hT; obtain ⟨o1, hT⟩ := hT
  refine zA hX ?_
  let c2 := (formats_Rows N a3)
  replace hT := sIf hT; obtain ⟨o1, hT⟩ := hT
  refine zA hX ?_
  replace hT := sIf hT; obtain ⟨⟨o1, o2⟩, hT⟩ := hT
  refine zA hX ?_
  refine rSeq (rBlock ?_)
  let x1 := (decide (((a7.getD (a9).toNat Zd7).2.2.2.length : Int) ≠ ((c1.getD default).1 * (c2.getD default).2)))
  replace hT := sIf hT; obtain ⟨o1, hT⟩ := hT
  refine zA hX ?_
  refine zCond rfl rfl (fun hc => ?_) (fun hc => ?_)
  ·
   replace hT := sT hc hT
   refine zA hX ?_
   refine rRet (rInRet (rThenRet ?_))
   have hy := Option.some.inj hT; subst hy
   exact zEnd0 hX rfl
  ·
   replace hT := sF hc hT
   let x4 := (bif (!(a7.getD (a9).toNat Zd7).1) then (bif (decide ((a7.getD (a9).toNat Zd7).2.1 ≠ 0)) then true else (decide ((a7.getD (a9).toNat Zd7).2.2.1 ≠ 0))) else false)
   replace hT := sIf hT; obtain ⟨o1, hT⟩ := hT
   refine rSeq (rRegC md0 hX rfl rfl rfl zO ?_)
   refine rThen ?_
   refine zCond rfl rfl (fun hc => ?_) (fun hc => ?_)
   ·
    replace hT := sT hc hT
    refine zA hX ?_
    refine rRet (rInRet (rThenRet ?_))
    have hy := Option.some.inj hT; subst hy
    exact zEnd0 hX rfl
   ·
    replace hT := sF hc hT
    let x12 := (bif (a7.getD (a9).toNat Zd7).1 then (bif (bif (bif (bif (decide (a9 = 0)) then true else (decide ((a7.getD (a9).toNat Zd7).2.1 < 0))) then true else (decide ((3 : Int) < (a7.getD (a9).toNat Zd7).2.1))) then true else (decide ((a7.getD (a9).toNat Zd7).2.2.1 < 1))) then true else (decide ((31 : Int) < (a7.getD (a9).toNat Zd7).2.2.1))) else false)
    replace hT := sIf hT; obtain ⟨⟨o1, o2, o3, o4⟩, hT⟩ := hT
    refine rSeq (rRegC md0 hX rfl rfl rfl zO ?_)
    refine rThen ?_
    refine zCond rfl rfl (fun hc => ?_) (fun hc => ?_)
    ·
     replace hT := sT hc hT
     refine zA hX ?_
     refine rRet (rInRet (rThenRet ?_))
     have hy := Option.some.inj hT; subst hy
     exact zEnd0 hX rfl
    ·
     replace hT := sF hc hT
     refine rSkip (rInNormal (rThen (rSeq (zA hX ?_))))
     refine rBlock ?_
     replace hT := sBind hT; obtain ⟨w1, hl, hT⟩ := hT
     refine rJoinA (fun v1 => (Sum.inl v1) = w1) (fun v1 => ⟨[(4, .v (.c (.bool false)))], [], 2⟩) .ret (fun v1 hv => ?_) (fun hxs10 => ?_)
     ·
      subst hv; clear hl; replace hT := (sElimL hT)
      refine rInRet (rThenRet ?_)
      have hy := Option.some.inj hT; subst hy
      exact zEnd0 hX rfl
     refine rJoinA (fun v2 => (Sum.inr v2) = w1) (fun v2 => ⟨[(4, .v (.c (.bool false)))], [], 2⟩) (.exit 1) (fun v2 hv => ?_) (fun hxs11 => ?_)
     ·
      subst hv; clear hl; replace hT := (sElimR hT)
      refine rInHit (rThen (zA hX ?_))
      refine rRet ?_
      have hy := Option.some.inj hT; subst hy
      exact zEnd0 hX rfl
     refine rLoopM (overspill_sound_sheet_row_v1_b1 N a4 a7 a9) (fun s1 => ⟨[(2, .v (.c (.ptr 0 0 0 0 0 0))), (4, .v (.c (.bool false))), (79, .v (.c (.fz Zs2 (a7.getD (a9).toNat Zd7).2.2.2))), (80, .v (.c (.int .i64 ((a7.getD (a9).toNat Zd7).2.2.2.length : Int)))), (81, .v (.c (.int .i64 s1)))], [(0, .mem true 67 none (.flat [.cs [.int .i64 a1, .int .i64 a2, .int .i64 a3, .bool a4, .int .i64 a5, .fz (.int .i64) a6, .fz Zs1 a7, .int .i64 a8]]))], 2⟩) hl (To.mk' [] 0 hε rfl zL zL) (fun s1 zs1 NNs1 hz hnexts1 houts1 => ?_)
     clear hl hT
     have hT := hz; clear hz
     let x13 := (decide (s1 < ((a7.getD (a9).toNat Zd7).2.2.2.length : Int)))
     refine zA hX ?_
     refine rSeq ?_
     refine zCond rfl rfl (fun hc => ?_) (fun hc => ?_)
     ·
      replace hT := sT hc hT
      refine rSkip (rThen (rSeq (rBlock ?_)))
      let x15 := ((a7.getD (a9).toNat Zd7).2.2.2.getD (s1).toNat Zd1).1
      let x16 := ((a7.getD (a9).toNat Zd7).2.2.2.getD (s1).toNat Zd1).2.1
      let x17 := ((a7.getD (a9).toNat Zd7).2.2.2.getD (s1).toNat Zd1).2.2.1
      let x18 := ((a7.getD (a9).toNat Zd7).2.2.2.getD (s1).toNat Zd1).2.2.2.1
      let x19 : (List Int) := ((a7.getD (a9).toNat Zd7).2.2.2.getD (s1).toNat Zd1).2.2.2.2.1
      let x20 : (List Int) := ((a7.getD (a9).toNat Zd7).2.2.2.getD (s1).toNat Zd1).2.2.2.2.2.1
      let x21 := ((a7.getD (a9).toNat Zd7).2.2.2.getD (s1).toNat Zd1).2.2.2.2.2.2
      replace hT := sIf hT; obtain ⟨⟨o1, o2⟩, hT⟩ := hT
      refine zA hX ?_
      let c3 := (cellout_Right N a4 x15 x16 x17 x18 x19 x20 x21)
      replace hT := sIf hT; obtain ⟨o1, hT⟩ := hT
      refine zA hX ?_
      refine zCond rfl rfl (fun hc => ?_) (fun hc => ?_)
      ·
       replace hT := sT hc hT
       refine zA hX ?_
       refine rRet (rInRet (rThenRet (rThenRet ?_)))
       exact zTo [] 0 hε (hxs10 _ (houts1 _ (Option.some.inj hT).symm))
      ·
       replace hT := sF hc hT
       refine rSkip (rInNormal (rThen ?_))
       replace hT := sIf hT; obtain ⟨o1, hT⟩ := hT
       refine zReg md0 hX rfl rfl rfl ?_
       exact hnexts1 _ (Option.some.inj hT).symm _ (To.mk' [] 0 hε rfl zL zL)
     ·
      replace hT := sF hc hT
      refine rExit (rThenExit (rThenExit ?_))
      exact zTo [] 0 hε (hxs11 _ (houts1 _ (Option.some.inj hT).symm))
 ·
  cases h
def sound_every_row_v2_b1 (N : Nat) (a1 : Int) (a2 : Int) (a3 : Int) (a4 : Int) (a5 : Bool) (a6 : Int) (a7 : (List Int)) (a8 : Zt1) (a9 : Int) (s1 : Int) : Option (Int ⊕ (Unit ⊕ Unit)) :=
 bif (decide (s1 < a1)) then
  let c1 := (overspill_sound_sheet_row_v1 N a2 a3 a4 a5 a6 a7 a8 a9 s1)
  if c1.isSome = true then
   bif (!(c1.getD default)) then
    some (.inr (Sum.inl ()))
   else
    if inK .i64 (s1 + 1) then
     some (.inl (s1 + 1))
    else none
  else none
 else
  some (.inr (Sum.inr ()))
def sound_every_row_v2 (N : Nat) (a1 : Int) (a2 : Int) (a3 : Int) (a4 : Int) (a5 : Bool) (a6 : Int) (a7 : (List Int)) (a8 : Zt1) (a9 : Int) : Option Bool :=
 (iter (sound_every_row_v2_b1 N a1 a2 a3 a4 a5 a6 a7 a8 a9) N 0).bind fun w1 =>
  (Sum.elim (fun v1 =>
   some false
  )
   (fun v2 =>
    some true
   )
  ) w1
def sp_sound_every_row_v2 (N : Nat) : X.Spec := fun args lk => match args with
 | [.v (.c (.int .i64 a1)), .fnv 38 [.agg [.cs [.int .i64 a2, .int .i64 a3, .int .i64 a4, .bool a5, .int .i64 a6, .fz (.int .i64) a7, .fz (.pair .bool (.pair (.int .i64) (.pair (.int .i64) (.sl (.pair (.int .i64) (.pair .bool (.pair (.int .i64) (.pair (.int .i64) (.pair (.arr 2 .i64) (.pair (.arr 6 .i64) (.arrS 6 (.pair .bool (.pair (.int .i64) (.int .i64)))))))))))))) a8, .int .i64 a9]]] []] => some ⟨(sound_every_row_v2 N a1 a2 a3 a4 a5 a6 a7 a8 a9).isSome = true, .v (.c (.bool ((sound_every_row_v2 N a1 a2 a3 a4 a5 a6 a7 a8 a9).getD default))), [], []⟩
 | _ => none
set_option maxRecDepth 100000 in
set_option maxHeartbeats 1000000 in
theorem ok_sound_every_row_v2 (N : Nat) : FnOK Tryd.prog gt0 37 (sp_sound_every_row_v2 N) := by
 refine fnOK_handed Tryd.func37 rfl (by kernel_rfl) tt_ok (ktCons (ok_overspill_sound_sheet_row_v1 N) (ktNil)) ?_
 intro args lk r h hp
 unfold sp_sound_every_row_v2 at h
 split at h
 ·
  rename_i a1 a2 a3 a4 a5 a6 a7 a8 a9
  change (List Int) at a7
  change Zt1 at a8
  cases h
  obtain ⟨x, hx⟩ := Option.isSome_iff_exists.1 hp
  simp only [hx, Option.getD_some]
  refine hand0 rfl rfl (fun w0 M ε0 hX => ?_)
  refine rCount (fun hε => ?_)
  have hT : sound_every_row_v2 N a1 a2 a3 a4 a5 a6 a7 a8 a9 = some x := hx; clear hx hp; unfold sound_every_row_v2 at hT
  refine zA hX ?_
  refine rSeq (zA hX ?_)
  refine rBlock ?_
  replace hT := sBind hT; obtain ⟨w1, hl, hT⟩ := hT
  refine rJoinA (fun v1 => (Sum.inl v1) = w1) (fun v1 => ⟨[(4, .v (.c (.bool false)))], [], 0⟩) .ret (fun v1 hv => ?_) (fun hxs10 => ?_)
  ·
   subst hv; clear hl; replace hT := (sElimL hT)
   refine rInRet (rThenRet ?_)
   have hy := Option.some.inj hT; subst hy
   exact zEnd0 hX rfl
  refine rJoinA (fun v2 => (Sum.inr v2) = w1) (fun v2 => ⟨[(4, .v (.c (.bool false)))], [], 0⟩) (.exit 0) (fun v2 hv => ?_) (fun hxs11 => ?_)
  ·
   subst hv; clear hl; replace hT := (sElimR hT)
   refine rInHit (rThen (zA hX ?_))
   refine rRet ?_
   have hy := Option.some.inj hT; subst hy
   exact zEnd0 hX rfl
  refine rLoopM (sound_every_row_v2_b1 N a1 a2 a3 a4 a5 a6 a7 a8 a9) (fun s1 => ⟨[(1, .fnv 38 [.agg [.cs [.int .i64 a2, .int .i64 a3, .int .i64 a4, .bool a5, .int .i64 a6, .fz (.int .i64) a7, .fz Zs1 a8, .int .i64 a9]]] []), (4, .v (.c (.bool false))), (6, .v (.c (.int .i64 a1))), (7, .v (.c (.int .i64 s1)))], [], 0⟩) hl (To.mk' [] 0 hε rfl zL zL) (fun s1 zs1 NNs1 hz hnexts1 houts1 => ?_)
  clear hl hT
  have hT := hz; clear hz
  refine zA hX ?_
  refine rSeq ?_
  refine zCond rfl rfl (fun hc => ?_) (fun hc => ?_)
  ·
   replace hT := sT hc hT
   refine rSkip (rThen (rSeq (rBlock (zA hX ?_))))
   let c1 := (overspill_sound_sheet_row_v1 N a2 a3 a4 a5 a6 a7 a8 a9 s1)
   replace hT := sIf hT; obtain ⟨o1, hT⟩ := hT
   refine zA hX ?_
   refine zCond rfl rfl (fun hc => ?_) (fun hc => ?_)
   ·
    replace hT := sT hc hT
    refine zA hX ?_
    refine rRet (rInRet (rThenRet (rThenRet ?_)))
    exact zTo [] 0 hε (hxs10 _ (houts1 _ (Option.some.inj hT).symm))
   ·
    replace hT := sF hc hT
    refine rSkip (rInNormal (rThen ?_))
    replace hT := sIf hT; obtain ⟨o1, hT⟩ := hT
    refine zReg md0 hX rfl rfl rfl ?_
    exact hnexts1 _ (Option.some.inj hT).symm _ (To.mk' [] 0 hε rfl zL zL)
  ·
   replace hT := sF hc hT
   refine rExit (rThenExit (rThenExit ?_))
   exact zTo [] 0 hε (hxs11 _ (houts1 _ (Option.some.inj hT).symm))
 ·
  cases h
def sound_Check_v2_b1 (N : Nat) (a3 : Int) (c5 : (Option Zt3)) (s1 : Int) : Option (Int ⊕ (Unit ⊕ Unit)) :=
 bif (decide (s1 < ((c5.getD default).length : Int))) then
  let x9 := ((c5.getD default).getD (s1).toNat Zd1).2.2.1
  let x11 : (List Int) := ((c5.getD default).getD (s1).toNat Zd1).2.2.2.2.1
  if (0 : Int) ≤ s1 ∧ s1 < ((c5.getD default).length : Int) then
   let c6 := (motion_May N a3 s1 x11)
   let x14 := (bif (bif (decide (x9 ≠ 3)) then (decide (x9 ≠ 4)) else false) then (!(c6.getD default)) else false)
   if ((bif (decide (x9 ≠ 3)) then (decide (x9 ≠ 4)) else false) = true → c6.isSome = true) then
    bif x14 then
     some (.inr (Sum.inl ()))
    else
     if inK .i64 (s1 + 1) then
      some (.inl (s1 + 1))
     else none
   else none
  else none
 else
  some (.inr (Sum.inr ()))
def sound_Check_v2 (N : Nat) (a1 : Int) (a2 : Int) (a3 : Int) (a4 : Bool) (a5 : Int) (a6 : (List Int)) (a7 : Zt1) (a8 : Int) : Option Int :=
 let c1 := (formats_Rows N a3)
 if c1.isSome = true then
  let c2 := (outbits_New N)
  let c3 := (sheethead_Put_v2 N a1 a2 a3 a4 a5 a6 a7 a8 (c2.getD default))
  let c4 := (sound_every_row_v2 N (c1.getD default).1 a1 a2 a3 a4 a5 a6 a7 a8)
  let x5 := (bif (bif (bif (bif (decide ((c3.getD default).1 ≠ 0)) then true else (decide (a8 < 0))) then true else (decide ((262144 : Int) < a8))) then true else (decide ((a7.length : Int) ≠ (c1.getD default).1))) then true else (!(c4.getD default)))
  if c2.isSome = true ∧ c3.isSome = true ∧ ((!(bif (bif (bif (decide ((c3.getD default).1 ≠ 0)) then true else (decide (a8 < 0))) then true else (decide ((262144 : Int) < a8))) then true else (decide ((a7.length : Int) ≠ (c1.getD default).1)))) = true → c4.isSome = true) then
   bif x5 then
    some 12
   else
    let c5 := (sound_Cells_v2 N a1 a2 a3 a4 a5 a6 a7 a8)
    if c5.isSome = true then
     (iter (sound_Check_v2_b1 N a3 c5) N 0).bind fun w1 =>
      (Sum.elim (fun v1 =>
       some 8
      )
       (fun v2 =>
        some 0
       )
      ) w1
    else none
  else none
 else none
def sp_sound_Check_v2 (N : Nat) : X.Spec := fun args lk => match args with
 | [.v (.agg [.cs [.int .i64 a1, .int .i64 a2, .int .i64 a3, .bool a4, .int .i64 a5, .fz (.int .i64) a6, .fz (.pair .bool (.pair (.int .i64) (.pair (.int .i64) (.sl (.pair (.int .i64) (.pair .bool (.pair (.int .i64) (.pair (.int .i64) (.pair (.arr 2 .i64) (.pair (.arr 6 .i64) (.arrS 6 (.pair .bool (.pair (.int .i64) (.int .i64)))))))))))))) a7, .int .i64 a8]])] => some ⟨(sound_Check_v2 N a1 a2 a3 a4 a5 a6 a7 a8).isSome = true, .v (.c (.int .i64 ((sound_Check_v2 N a1 a2 a3 a4 a5 a6 a7 a8).getD default))), [], []⟩
 | _ => none
set_option maxRecDepth 100000 in
set_option maxHeartbeats 1000000 in
theorem ok_sound_Check_v2 (N : Nat) : FnOK Tryd.prog gt0 11 (sp_sound_Check_v2 N) := by
 refine fnOK_handed Tryd.func11 rfl (by kernel_rfl) tt_ok (ktCons (ok_motion_May N) (ktCons (ok_sound_Cells_v2 N) (ktCons (ok_sound_every_row_v2 N) (ktCons (ok_sheethead_Put_v2 N) (ktCons (ok_outbits_New N) (ktCons (ok_formats_Rows N) (ktNil))))))) ?_
 intro args lk r h hp
 unfold sp_sound_Check_v2 at h
 split at h
 ·
  rename_i a1 a2 a3 a4 a5 a6 a7 a8
  change (List Int) at a6
  change Zt1 at a7
  cases h
  obtain ⟨x, hx⟩ := Option.isSome_iff_exists.1 hp
  simp only [hx, Option.getD_some]
  refine hand0 rfl rfl (fun w0 M ε0 hX => ?_)
  refine rCount (fun hε => ?_)
  have hT : sound_Check_v2 N a1 a2 a3 a4 a5 a6 a7 a8 = some x := hx; clear hx hp; unfold sound_Check_v2 at hT
  refine zA hX ?_
  let c1 := (formats_Rows N a3)
  replace hT := sIf hT; obtain ⟨o1, hT⟩ := hT
  refine zA hX ?_
  refine rSeq ?_
  let c2 := (outbits_New N)
  let c3 := (sheethead_Put_v2 N a1 a2 a3 a4 a5 a6 a7 a8 (c2.getD default))
  let c4 := (sound_every_row_v2 N (c1.getD default).1 a1 a2 a3 a4 a5 a6 a7 a8)
  let x5 := (bif (bif (bif (bif (decide ((c3.getD default).1 ≠ 0)) then true else (decide (a8 < 0))) then true else (decide ((262144 : Int) < a8))) then true else (decide ((a7.length : Int) ≠ (c1.getD default).1))) then true else (!(c4.getD default)))
  replace hT := sIf hT; obtain ⟨⟨o1, o2, o3⟩, hT⟩ := hT
  refine rSeq (rDrawA md0 0 0 2 [] hX mixed rfl rfl rfl rfl rfl rfl rfl rfl rfl rfl rfl rfl rfl rfl rfl zL rfl rfl zO ?_)
  refine rThen ?_
  refine zCond rfl rfl (fun hc => ?_) (fun hc => ?_)
  ·
   replace hT := sT hc hT
   refine zA hX ?_
   refine rRet (rThenRet ?_)
   have hy := Option.some.inj hT; subst hy
   exact zEnd0 hX rfl
  ·
   replace hT := sF hc hT
   refine rSkip (rThen (rSeq ?_))
   let c5 := (sound_Cells_v2 N a1 a2 a3 a4 a5 a6 a7 a8)
   replace hT := sIf hT; obtain ⟨o1, hT⟩ := hT
   refine zA hX ?_
   refine rBlock ?_
   replace hT := sBind hT; obtain ⟨w1, hl, hT⟩ := hT
   refine rJoinA (fun v1 => (Sum.inl v1) = w1) (fun v1 => ⟨[(2, .v (.c (.int .i64 8)))], [], 2⟩) .ret (fun v1 hv => ?_) (fun hxs10 => ?_)
   ·
    subst hv; clear hl; replace hT := (sElimL hT)
    refine rInRet (rThenRet ?_)
    have hy := Option.some.inj hT; subst hy
    exact zEnd0 hX rfl
   refine rJoinA (fun v2 => (Sum.inr v2) = w1) (fun v2 => ⟨[(2, .v (.c (.int .i64 0)))], [], 2⟩) (.exit 0) (fun v2 hv => ?_) (fun hxs11 => ?_)
   ·
    subst hv; clear hl; replace hT := (sElimR hT)
    refine rInHit (rThen (zA hX ?_))
    refine rRet ?_
    have hy := Option.some.inj hT; subst hy
    exact zEnd0 hX rfl
   refine rLoopM (sound_Check_v2_b1 N a3 c5) (fun s1 => ⟨[(1, .v (.c (.ptr 0 0 0 0 0 0))), (2, .v (.c (.int .i64 0))), (42, .v (.c (.fz Zs2 (c5.getD default)))), (43, .v (.c (.int .i64 ((c5.getD default).length : Int)))), (44, .v (.c (.int .i64 s1)))], [(0, .mem true 25 none (.flat [.cs [.int .i64 a1, .int .i64 a2, .int .i64 a3, .bool a4, .int .i64 a5, .fz (.int .i64) a6, .fz Zs1 a7, .int .i64 a8]]))], 2⟩) hl (To.mk' [] 0 hε rfl zL zL) (fun s1 zs1 NNs1 hz hnexts1 houts1 => ?_)
   clear hl hT
   have hT := hz; clear hz
   refine zA hX ?_
   refine rSeq ?_
   refine zCond rfl rfl (fun hc => ?_) (fun hc => ?_)
   ·
    replace hT := sT hc hT
    refine rSkip (rThen (rSeq (rBlock ?_)))
    let x9 := ((c5.getD default).getD (s1).toNat Zd1).2.2.1
    let x11 : (List Int) := ((c5.getD default).getD (s1).toNat Zd1).2.2.2.2.1
    replace hT := sIf hT; obtain ⟨⟨o1, o2⟩, hT⟩ := hT
    refine zA hX ?_
    let c6 := (motion_May N a3 s1 x11)
    let x14 := (bif (bif (decide (x9 ≠ 3)) then (decide (x9 ≠ 4)) else false) then (!(c6.getD default)) else false)
    replace hT := sIf hT; obtain ⟨o1, hT⟩ := hT
    refine rSeq (rRegC md0 hX rfl rfl rfl zO ?_)
    refine rThen ?_
    refine zCond rfl rfl (fun hc => ?_) (fun hc => ?_)
    ·
     replace hT := sT hc hT
     refine zA hX ?_
     refine rRet (rInRet (rThenRet (rThenRet ?_)))
     exact zTo [] 0 hε (hxs10 _ (houts1 _ (Option.some.inj hT).symm))
    ·
     replace hT := sF hc hT
     refine rSkip (rInNormal (rThen ?_))
     replace hT := sIf hT; obtain ⟨o1, hT⟩ := hT
     refine zReg md0 hX rfl rfl rfl ?_
     exact hnexts1 _ (Option.some.inj hT).symm _ (To.mk' [] 0 hε rfl zL zL)
   ·
    replace hT := sF hc hT
    refine rExit (rThenExit (rThenExit ?_))
    exact zTo [] 0 hε (hxs11 _ (houts1 _ (Option.some.inj hT).symm))
 ·
  cases h
def ref16_Size (N : Nat) (a1 : Int) : Option (List Int) :=
 let x1 := [(List.replicate 4 0), (((((List.replicate 4 0).set 0 128).set 1 96).set 2 6).set 3 1), (((((List.replicate 4 0).set 0 176).set 1 144).set 2 9).set 3 1), (((((List.replicate 4 0).set 0 352).set 1 288).set 2 18).set 3 1), (((((List.replicate 4 0).set 0 704).set 1 576).set 2 18).set 3 2), (((((List.replicate 4 0).set 0 1408).set 1 1152).set 2 18).set 3 4), (((((List.replicate 4 0).set 0 32).set 1 32).set 2 2).set 3 1)]
 bif (bif (decide (a1 < 0)) then true else (decide ((7 : Int) ≤ a1))) then
  some (List.replicate 4 0)
 else
  if (0 : Int) ≤ a1 ∧ a1 < 7 ∧ (a1).toNat < x1.length then
   some (x1.getD (a1).toNat (List.replicate 4 (0 : Int)))
  else none
def sp_ref16_Size (N : Nat) : X.Spec := fun args lk => match args with
 | [.v (.c (.int .i64 a1))] => some ⟨(ref16_Size N a1).isSome = true, .v (.agg [.ints 4 .i64 ((ref16_Size N a1).getD default)]), [], []⟩
 | _ => none
set_option maxRecDepth 100000 in
set_option maxHeartbeats 1000000 in
theorem ok_ref16_Size (N : Nat) : FnOK Tryd.prog gt0 41 (sp_ref16_Size N) := by
 refine fnOK_handed Tryd.func41 rfl (by kernel_rfl) tt_ok (ktNil) ?_
 intro args lk r h hp
 unfold sp_ref16_Size at h
 split at h
 ·
  rename_i a1
  cases h
  obtain ⟨x, hx⟩ := Option.isSome_iff_exists.1 hp
  simp only [hx, Option.getD_some]
  refine hand0 rfl rfl (fun w0 M ε0 hX => ?_)
  refine rCount (fun hε => ?_)
  have hT : ref16_Size N a1 = some x := hx; clear hx hp; unfold ref16_Size at hT
  refine zA hX ?_
  refine rSeq (zReg md0 hX rfl rfl rfl ?_)
  refine rLstQ 1 (.arr 4 .i64) [(List.replicate 4 0), (((((List.replicate 4 0).set 0 128).set 1 96).set 2 6).set 3 1), (((((List.replicate 4 0).set 0 176).set 1 144).set 2 9).set 3 1), (((((List.replicate 4 0).set 0 352).set 1 288).set 2 18).set 3 1), (((((List.replicate 4 0).set 0 704).set 1 576).set 2 18).set 3 2), (((((List.replicate 4 0).set 0 1408).set 1 1152).set 2 18).set 3 4), (((((List.replicate 4 0).set 0 32).set 1 32).set 2 2).set 3 1)] rfl rfl rfl ?_
  refine rThen (rSeq ?_)
  let x1 := [(List.replicate 4 0), (((((List.replicate 4 0).set 0 128).set 1 96).set 2 6).set 3 1), (((((List.replicate 4 0).set 0 176).set 1 144).set 2 9).set 3 1), (((((List.replicate 4 0).set 0 352).set 1 288).set 2 18).set 3 1), (((((List.replicate 4 0).set 0 704).set 1 576).set 2 18).set 3 2), (((((List.replicate 4 0).set 0 1408).set 1 1152).set 2 18).set 3 4), (((((List.replicate 4 0).set 0 32).set 1 32).set 2 2).set 3 1)]
  refine zA hX ?_
  refine zCond rfl rfl (fun hc => ?_) (fun hc => ?_)
  ·
   replace hT := sT hc hT
   refine zA hX ?_
   refine rRet (rThenRet ?_)
   have hy := Option.some.inj hT; subst hy
   exact zEnd0 hX rfl
  ·
   replace hT := sF hc hT
   refine rSkip (rThen ?_)
   replace hT := sIf hT; obtain ⟨⟨o1, o2, o3⟩, hT⟩ := hT
   refine zA hX ?_
   refine rRet ?_
   have hy := Option.some.inj hT; subst hy
   exact zEnd0 hX rfl
 ·
  cases h
def ref16_Many (N : Nat) (a1 : Int) : Option Int :=
 let c1 := (ref16_Size N a1)
 let c2 := (ref16_Size N a1)
 if c1.isSome = true ∧ (0 : Int) ≤ ((c1.getD default).getD 0 0) ∧ c2.isSome = true ∧ (0 : Int) ≤ ((c2.getD default).getD 1 0) ∧ inK .i64 ((((c1.getD default).getD 0 0) / 16) * (((c2.getD default).getD 1 0) / 16)) then
  some ((((c1.getD default).getD 0 0) / 16) * (((c2.getD default).getD 1 0) / 16))
 else none
def sp_ref16_Many (N : Nat) : X.Spec := fun args lk => match args with
 | [.v (.c (.int .i64 a1))] => some ⟨(ref16_Many N a1).isSome = true, .v (.c (.int .i64 ((ref16_Many N a1).getD default))), [], []⟩
 | _ => none
set_option maxRecDepth 100000 in
set_option maxHeartbeats 1000000 in
theorem ok_ref16_Many (N : Nat) : FnOK Tryd.prog gt0 16 (sp_ref16_Many N) := by
 refine fnOK_handed Tryd.func16 rfl (by kernel_rfl) tt_ok (ktCons (ok_ref16_Size N) (ktNil)) ?_
 intro args lk r h hp
 unfold sp_ref16_Many at h
 split at h
 ·
  rename_i a1
  cases h
  obtain ⟨x, hx⟩ := Option.isSome_iff_exists.1 hp
  simp only [hx, Option.getD_some]
  refine hand0 rfl rfl (fun w0 M ε0 hX => ?_)
  refine rCount (fun hε => ?_)
  have hT : ref16_Many N a1 = some x := hx; clear hx hp; unfold ref16_Many at hT
  refine zA hX ?_
  let c1 := (ref16_Size N a1)
  let c2 := (ref16_Size N a1)
  replace hT := sIf hT; obtain ⟨⟨o1, o2, o3, o4, o5⟩, hT⟩ := hT
  refine zA hX ?_
  refine rRet ?_
  have hy := Option.some.inj hT; subst hy
  exact zEnd0 hX rfl
 ·
  cases h
def ref10_Same_b1 (N : Nat) (a1 : Zt6) (a2 : Zt6) (s1 : Int) : Option (Int ⊕ (Unit ⊕ Unit)) :=
 bif (decide (s1 < (a1.length : Int))) then
  let x1 := (!(((a1.getD (s1).toNat Zd8).1 == (a2.getD (s1).toNat Zd8).1) && (decide ((a1.getD (s1).toNat Zd8).2.1 = (a2.getD (s1).toNat Zd8).2.1) && (decide ((a1.getD (s1).toNat Zd8).2.2 = (a2.getD (s1).toNat Zd8).2.2) && true))))
  if (0 : Int) ≤ s1 ∧ s1 < (a1.length : Int) ∧ s1 < (a2.length : Int) then
   bif x1 then
    some (.inr (Sum.inl ()))
   else
    if inK .i64 (s1 + 1) then
     some (.inl (s1 + 1))
    else none
  else none
 else
  some (.inr (Sum.inr ()))
def ref10_Same (N : Nat) (a1 : Zt6) (a2 : Zt6) : Option Bool :=
 bif (decide ((a1.length : Int) ≠ (a2.length : Int))) then
  some false
 else
  (iter (ref10_Same_b1 N a1 a2) N 0).bind fun w1 =>
   (Sum.elim (fun v1 =>
    some false
   )
    (fun v2 =>
     some true
    )
   ) w1
def sp_ref10_Same (N : Nat) : X.Spec := fun args lk => match args with
 | [.v (.c (.fz (.pair .bool (.pair (.int .i64) (.int .i64))) a1)), .v (.c (.fz (.pair .bool (.pair (.int .i64) (.int .i64))) a2))] => some ⟨(ref10_Same N a1 a2).isSome = true, .v (.c (.bool ((ref10_Same N a1 a2).getD default))), [], []⟩
 | _ => none
set_option maxRecDepth 100000 in
set_option maxHeartbeats 1000000 in
theorem ok_ref10_Same (N : Nat) : FnOK Tryd.prog gt0 46 (sp_ref10_Same N) := by
 refine fnOK_handed Tryd.func46 rfl (by kernel_rfl) tt_ok (ktNil) ?_
 intro args lk r h hp
 unfold sp_ref10_Same at h
 split at h
 ·
  rename_i a1 a2
  change Zt6 at a1
  change Zt6 at a2
  cases h
  obtain ⟨x, hx⟩ := Option.isSome_iff_exists.1 hp
  simp only [hx, Option.getD_some]
  refine hand0 rfl rfl (fun w0 M ε0 hX => ?_)
  refine rCount (fun hε => ?_)
  have hT : ref10_Same N a1 a2 = some x := hx; clear hx hp; unfold ref10_Same at hT
  refine zA hX ?_
  refine rSeq (zA hX ?_)
  refine zCond rfl rfl (fun hc => ?_) (fun hc => ?_)
  ·
   replace hT := sT hc hT
   refine zA hX ?_
   refine rRet (rThenRet ?_)
   have hy := Option.some.inj hT; subst hy
   exact zEnd0 hX rfl
  ·
   replace hT := sF hc hT
   refine rSkip (rThen (rSeq (zA hX ?_)))
   refine rBlock ?_
   replace hT := sBind hT; obtain ⟨w1, hl, hT⟩ := hT
   refine rJoinA (fun v1 => (Sum.inl v1) = w1) (fun v1 => ⟨[(4, .v (.c (.bool false)))], [], 0⟩) .ret (fun v1 hv => ?_) (fun hxs10 => ?_)
   ·
    subst hv; clear hl; replace hT := (sElimL hT)
    refine rInRet (rThenRet ?_)
    have hy := Option.some.inj hT; subst hy
    exact zEnd0 hX rfl
   refine rJoinA (fun v2 => (Sum.inr v2) = w1) (fun v2 => ⟨[(4, .v (.c (.bool false)))], [], 0⟩) (.exit 0) (fun v2 hv => ?_) (fun hxs11 => ?_)
   ·
    subst hv; clear hl; replace hT := (sElimR hT)
    refine rInHit (rThen (zA hX ?_))
    refine rRet ?_
    have hy := Option.some.inj hT; subst hy
    exact zEnd0 hX rfl
   refine rLoopM (ref10_Same_b1 N a1 a2) (fun s1 => ⟨[(0, .v (.c (.fz Zs3 a1))), (1, .v (.c (.fz Zs3 a2))), (4, .v (.c (.bool false))), (5, .v (.c (.int .i64 s1)))], [], 0⟩) hl (To.mk' [] 0 hε rfl zL zL) (fun s1 zs1 NNs1 hz hnexts1 houts1 => ?_)
   clear hl hT
   have hT := hz; clear hz
   refine rSeq (zA hX ?_)
   refine zCond rfl rfl (fun hc => ?_) (fun hc => ?_)
   ·
    replace hT := sT hc hT
    refine rSkip (rThen (rSeq (rBlock ?_)))
    let x1 := (!(((a1.getD (s1).toNat Zd8).1 == (a2.getD (s1).toNat Zd8).1) && (decide ((a1.getD (s1).toNat Zd8).2.1 = (a2.getD (s1).toNat Zd8).2.1) && (decide ((a1.getD (s1).toNat Zd8).2.2 = (a2.getD (s1).toNat Zd8).2.2) && true))))
    replace hT := sIf hT; obtain ⟨⟨o1, o2, o3⟩, hT⟩ := hT
    refine rSeq (zDraw md0 0 [] hX mixed rfl rfl rfl rfl rfl ?_)
    refine rThen ?_
    refine zCond rfl rfl (fun hc => ?_) (fun hc => ?_)
    ·
     replace hT := sT hc hT
     refine zA hX ?_
     refine rRet (rInRet (rThenRet (rThenRet ?_)))
     exact zTo [] 0 hε (hxs10 _ (houts1 _ (Option.some.inj hT).symm))
    ·
     replace hT := sF hc hT
     refine rSkip (rInNormal (rThen ?_))
     replace hT := sIf hT; obtain ⟨o1, hT⟩ := hT
     refine zReg md0 hX rfl rfl rfl ?_
     exact hnexts1 _ (Option.some.inj hT).symm _ (To.mk' [] 0 hε rfl zL zL)
   ·
    replace hT := sF hc hT
    refine rExit (rThenExit (rThenExit ?_))
    exact zTo [] 0 hε (hxs11 _ (houts1 _ (Option.some.inj hT).symm))
 ·
  cases h
def ref21_Same_b1 (N : Nat) (a7 : Zt5) (a14 : Zt5) (s1 : Int) : Option (Int ⊕ (Unit ⊕ Unit)) :=
 bif (decide (s1 < 6)) then
  let c1 := (ref10_Same N (a7.getD (s1).toNat []) (a14.getD (s1).toNat []))
  if (0 : Int) ≤ s1 ∧ s1 < 6 ∧ (s1).toNat < 6 ∧ c1.isSome = true then
   bif (!(c1.getD default)) then
    some (.inr (Sum.inl ()))
   else
    if inK .i64 (s1 + 1) then
     some (.inl (s1 + 1))
    else none
  else none
 else
  some (.inr (Sum.inr ()))
def ref21_Same (N : Nat) (a1 : Int) (a2 : Bool) (a3 : Int) (a4 : Int) (a5 : (List Int)) (a6 : (List Int)) (a7 : Zt5) (a8 : Int) (a9 : Bool) (a10 : Int) (a11 : Int) (a12 : (List Int)) (a13 : (List Int)) (a14 : Zt5) : Option Bool :=
 let x7 := (bif (bif (bif (bif (bif (decide (a1 ≠ a8)) then true else (!(a2 == a9))) then true else (decide (a3 ≠ a10))) then true else (decide (a4 ≠ a11))) then true else (!(decide (a5 = a12)))) then true else (!(decide (a6 = a13))))
 bif x7 then
  some false
 else
  (iter (ref21_Same_b1 N a7 a14) N 0).bind fun w1 =>
   (Sum.elim (fun v1 =>
    some false
   )
    (fun v2 =>
     some true
    )
   ) w1
def sp_ref21_Same (N : Nat) : X.Spec := fun args lk => match args with
 | [.v (.agg [.cs [.int .i64 a1, .bool a2, .int .i64 a3, .int .i64 a4], .ints 2 .i64 a5, .ints 6 .i64 a6, .fzs 6 (.pair .bool (.pair (.int .i64) (.int .i64))) a7]), .v (.agg [.cs [.int .i64 a8, .bool a9, .int .i64 a10, .int .i64 a11], .ints 2 .i64 a12, .ints 6 .i64 a13, .fzs 6 (.pair .bool (.pair (.int .i64) (.int .i64))) a14])] => some ⟨(ref21_Same N a1 a2 a3 a4 a5 a6 a7 a8 a9 a10 a11 a12 a13 a14).isSome = true, .v (.c (.bool ((ref21_Same N a1 a2 a3 a4 a5 a6 a7 a8 a9 a10 a11 a12 a13 a14).getD default))), [], []⟩
 | _ => none
set_option maxRecDepth 100000 in
set_option maxHeartbeats 1000000 in
theorem ok_ref21_Same (N : Nat) : FnOK Tryd.prog gt0 17 (sp_ref21_Same N) := by
 refine fnOK_handed Tryd.func17 rfl (by kernel_rfl) tt_ok (ktCons (ok_ref10_Same N) (ktNil)) ?_
 intro args lk r h hp
 unfold sp_ref21_Same at h
 split at h
 ·
  rename_i a1 a2 a3 a4 a5 a6 a7 a8 a9 a10 a11 a12 a13 a14
  change (List Int) at a5
  change (List Int) at a6
  change Zt5 at a7
  change (List Int) at a12
  change (List Int) at a13
  change Zt5 at a14
  cases h
  obtain ⟨x, hx⟩ := Option.isSome_iff_exists.1 hp
  simp only [hx, Option.getD_some]
  refine hand0 rfl rfl (fun w0 M ε0 hX => ?_)
  refine rCount (fun hε => ?_)
  have hT : ref21_Same N a1 a2 a3 a4 a5 a6 a7 a8 a9 a10 a11 a12 a13 a14 = some x := hx; clear hx hp; unfold ref21_Same at hT
  refine zA hX ?_
  refine rSeq ?_
  let x7 := (bif (bif (bif (bif (bif (decide (a1 ≠ a8)) then true else (!(a2 == a9))) then true else (decide (a3 ≠ a10))) then true else (decide (a4 ≠ a11))) then true else (!(decide (a5 = a12)))) then true else (!(decide (a6 = a13))))
  refine zA hX ?_
  refine zCond rfl rfl (fun hc => ?_) (fun hc => ?_)
  ·
   replace hT := sT hc hT
   refine zA hX ?_
   refine rRet (rThenRet ?_)
   have hy := Option.some.inj hT; subst hy
   exact zEnd0 hX rfl
  ·
   replace hT := sF hc hT
   refine rSkip (rThen (rSeq (zA hX ?_)))
   refine rBlock ?_
   replace hT := sBind hT; obtain ⟨w1, hl, hT⟩ := hT
   refine rJoinA (fun v1 => (Sum.inl v1) = w1) (fun v1 => ⟨[(4, .v (.c (.bool false)))], [], 2⟩) .ret (fun v1 hv => ?_) (fun hxs10 => ?_)
   ·
    subst hv; clear hl; replace hT := (sElimL hT)
    refine rInRet (rThenRet ?_)
    have hy := Option.some.inj hT; subst hy
    exact zEnd0 hX rfl
   refine rJoinA (fun v2 => (Sum.inr v2) = w1) (fun v2 => ⟨[(4, .v (.c (.bool false)))], [], 2⟩) (.exit 0) (fun v2 hv => ?_) (fun hxs11 => ?_)
   ·
    subst hv; clear hl; replace hT := (sElimR hT)
    refine rInHit (rThen (zA hX ?_))
    refine rRet ?_
    have hy := Option.some.inj hT; subst hy
    exact zEnd0 hX rfl
   refine rLoopM (ref21_Same_b1 N a7 a14) (fun s1 => ⟨[(2, .v (.c (.ptr 0 0 0 0 0 0))), (3, .v (.c (.ptr 1 0 0 0 0 0))), (4, .v (.c (.bool false))), (5, .v (.c (.int .i64 s1)))], [(0, .mem true 42 none (.flat [.cs [.int .i64 a1, .bool a2, .int .i64 a3, .int .i64 a4], .ints 2 .i64 a5, .ints 6 .i64 a6, .fzs 6 Zs3 a7])), (1, .mem true 42 none (.flat [.cs [.int .i64 a8, .bool a9, .int .i64 a10, .int .i64 a11], .ints 2 .i64 a12, .ints 6 .i64 a13, .fzs 6 Zs3 a14]))], 2⟩) hl (To.mk' [] 0 hε rfl zL zL) (fun s1 zs1 NNs1 hz hnexts1 houts1 => ?_)
   clear hl hT
   have hT := hz; clear hz
   refine rSeq (zA hX ?_)
   refine zCond rfl rfl (fun hc => ?_) (fun hc => ?_)
   ·
    replace hT := sT hc hT
    refine rSkip (rThen (rSeq (rBlock ?_)))
    let c1 := (ref10_Same N (a7.getD (s1).toNat []) (a14.getD (s1).toNat []))
    replace hT := sIf hT; obtain ⟨⟨o1, o2, o3, o4⟩, hT⟩ := hT
    refine rSeq (zDraw md0 0 [] hX mixed rfl rfl rfl rfl rfl ?_)
    refine rThen ?_
    refine zCond rfl rfl (fun hc => ?_) (fun hc => ?_)
    ·
     replace hT := sT hc hT
     refine zA hX ?_
     refine rRet (rInRet (rThenRet (rThenRet ?_)))
     exact zTo [] 0 hε (hxs10 _ (houts1 _ (Option.some.inj hT).symm))
    ·
     replace hT := sF hc hT
     refine rSkip (rInNormal (rThen ?_))
     replace hT := sIf hT; obtain ⟨o1, hT⟩ := hT
     refine zReg md0 hX rfl rfl rfl ?_
     exact hnexts1 _ (Option.some.inj hT).symm _ (To.mk' [] 0 hε rfl zL zL)
   ·
    replace hT := sF hc hT
    refine rExit (rThenExit (rThenExit ?_))
    exact zTo [] 0 hε (hxs11 _ (houts1 _ (Option.some.inj hT).symm))
 ·
  cases h
def slices_Equal_overspill_api_Event_overspill_api_Event_b1 (N : Nat) (a1 : Zt6) (a2 : Zt6) (s1 : Int) : Option (Int ⊕ (Unit ⊕ Unit)) :=
 bif (decide (s1 < (a1.length : Int))) then
  let x1 := (!(((a1.getD (s1).toNat Zd8).1 == (a2.getD (s1).toNat Zd8).1) && (decide ((a1.getD (s1).toNat Zd8).2.1 = (a2.getD (s1).toNat Zd8).2.1) && (decide ((a1.getD (s1).toNat Zd8).2.2 = (a2.getD (s1).toNat Zd8).2.2) && true))))
  if (0 : Int) ≤ s1 ∧ s1 < (a1.length : Int) ∧ s1 < (a2.length : Int) then
   bif x1 then
    some (.inr (Sum.inl ()))
   else
    if inK .i64 (s1 + 1) then
     some (.inl (s1 + 1))
    else none
  else none
 else
  some (.inr (Sum.inr ()))
def slices_Equal_overspill_api_Event_overspill_api_Event (N : Nat) (a1 : Zt6) (a2 : Zt6) : Option Bool :=
 bif (decide ((a1.length : Int) ≠ (a2.length : Int))) then
  some false
 else
  (iter (slices_Equal_overspill_api_Event_overspill_api_Event_b1 N a1 a2) N 0).bind fun w1 =>
   (Sum.elim (fun v1 =>
    some false
   )
    (fun v2 =>
     some true
    )
   ) w1
def sp_slices_Equal_overspill_api_Event_overspill_api_Event (N : Nat) : X.Spec := fun args lk => match args with
 | [.v (.c (.fz (.pair .bool (.pair (.int .i64) (.int .i64))) a1)), .v (.c (.fz (.pair .bool (.pair (.int .i64) (.int .i64))) a2))] => some ⟨(slices_Equal_overspill_api_Event_overspill_api_Event N a1 a2).isSome = true, .v (.c (.bool ((slices_Equal_overspill_api_Event_overspill_api_Event N a1 a2).getD default))), [], []⟩
 | _ => none
set_option maxRecDepth 100000 in
set_option maxHeartbeats 1000000 in
theorem ok_slices_Equal_overspill_api_Event_overspill_api_Event (N : Nat) : FnOK Tryd.prog gt0 47 (sp_slices_Equal_overspill_api_Event_overspill_api_Event N) := by
 refine fnOK_handed Tryd.func47 rfl (by kernel_rfl) tt_ok (ktNil) ?_
 intro args lk r h hp
 unfold sp_slices_Equal_overspill_api_Event_overspill_api_Event at h
 split at h
 ·
  rename_i a1 a2
  change Zt6 at a1
  change Zt6 at a2
  cases h
  obtain ⟨x, hx⟩ := Option.isSome_iff_exists.1 hp
  simp only [hx, Option.getD_some]
  refine hand0 rfl rfl (fun w0 M ε0 hX => ?_)
  refine rCount (fun hε => ?_)
  have hT : slices_Equal_overspill_api_Event_overspill_api_Event N a1 a2 = some x := hx; clear hx hp; unfold slices_Equal_overspill_api_Event_overspill_api_Event at hT
  refine zA hX ?_
  refine rSeq (zA hX ?_)
  refine zCond rfl rfl (fun hc => ?_) (fun hc => ?_)
  ·
   replace hT := sT hc hT
   refine zA hX ?_
   refine rRet (rThenRet ?_)
   have hy := Option.some.inj hT; subst hy
   exact zEnd0 hX rfl
  ·
   replace hT := sF hc hT
   refine rSkip (rThen (rSeq (zA hX ?_)))
   refine rBlock ?_
   replace hT := sBind hT; obtain ⟨w1, hl, hT⟩ := hT
   refine rJoinA (fun v1 => (Sum.inl v1) = w1) (fun v1 => ⟨[(4, .v (.c (.bool false)))], [], 0⟩) .ret (fun v1 hv => ?_) (fun hxs10 => ?_)
   ·
    subst hv; clear hl; replace hT := (sElimL hT)
    refine rInRet (rThenRet ?_)
    have hy := Option.some.inj hT; subst hy
    exact zEnd0 hX rfl
   refine rJoinA (fun v2 => (Sum.inr v2) = w1) (fun v2 => ⟨[(4, .v (.c (.bool false)))], [], 0⟩) (.exit 0) (fun v2 hv => ?_) (fun hxs11 => ?_)
   ·
    subst hv; clear hl; replace hT := (sElimR hT)
    refine rInHit (rThen (zA hX ?_))
    refine rRet ?_
    have hy := Option.some.inj hT; subst hy
    exact zEnd0 hX rfl
   refine rLoopM (slices_Equal_overspill_api_Event_overspill_api_Event_b1 N a1 a2) (fun s1 => ⟨[(0, .v (.c (.fz Zs3 a1))), (1, .v (.c (.fz Zs3 a2))), (4, .v (.c (.bool false))), (12, .v (.c (.int .i64 (a1.length : Int)))), (13, .v (.c (.int .i64 s1)))], [], 0⟩) hl (To.mk' [] 0 hε rfl zL zL) (fun s1 zs1 NNs1 hz hnexts1 houts1 => ?_)
   clear hl hT
   have hT := hz; clear hz
   refine zA hX ?_
   refine rSeq ?_
   refine zCond rfl rfl (fun hc => ?_) (fun hc => ?_)
   ·
    replace hT := sT hc hT
    refine rSkip (rThen (rSeq (rBlock (zA hX ?_))))
    let x1 := (!(((a1.getD (s1).toNat Zd8).1 == (a2.getD (s1).toNat Zd8).1) && (decide ((a1.getD (s1).toNat Zd8).2.1 = (a2.getD (s1).toNat Zd8).2.1) && (decide ((a1.getD (s1).toNat Zd8).2.2 = (a2.getD (s1).toNat Zd8).2.2) && true))))
    replace hT := sIf hT; obtain ⟨⟨o1, o2, o3⟩, hT⟩ := hT
    refine rSeq (zDraw md0 0 [] hX mixed rfl rfl rfl rfl rfl ?_)
    refine rThen ?_
    refine zCond rfl rfl (fun hc => ?_) (fun hc => ?_)
    ·
     replace hT := sT hc hT
     refine zA hX ?_
     refine rRet (rInRet (rThenRet (rThenRet ?_)))
     exact zTo [] 0 hε (hxs10 _ (houts1 _ (Option.some.inj hT).symm))
    ·
     replace hT := sF hc hT
     refine rSkip (rInNormal (rThen ?_))
     replace hT := sIf hT; obtain ⟨o1, hT⟩ := hT
     refine zReg md0 hX rfl rfl rfl ?_
     exact hnexts1 _ (Option.some.inj hT).symm _ (To.mk' [] 0 hε rfl zL zL)
   ·
    replace hT := sF hc hT
    refine rExit (rThenExit (rThenExit ?_))
    exact zTo [] 0 hε (hxs11 _ (houts1 _ (Option.some.inj hT).symm))
 ·
  cases h
def cellin_Same_b1 (N : Nat) (a7 : Zt5) (a14 : Zt5) (s1 : (Bool × Int)) : Option ((Bool × Int) ⊕ Bool) :=
 bif (decide (s1.2 < 6)) then
  let c1 := (slices_Equal_overspill_api_Event_overspill_api_Event N (a7.getD (s1.2).toNat []) (a14.getD (s1.2).toNat []))
  if (s1.1 = true → (0 : Int) ≤ s1.2) ∧ (s1.1 = true → s1.2 < 6) ∧ (s1.1 = true → (s1.2).toNat < 6) ∧ (s1.1 = true → c1.isSome = true) then
   if inK .i64 (s1.2 + 1) then
    some (.inl ((bif s1.1 then (c1.getD default) else false), (s1.2 + 1)))
   else none
  else none
 else
  some (.inr s1.1)
def cellin_Same (N : Nat) (a1 : Int) (a2 : Bool) (a3 : Int) (a4 : Int) (a5 : (List Int)) (a6 : (List Int)) (a7 : Zt5) (a8 : Int) (a9 : Bool) (a10 : Int) (a11 : Int) (a12 : (List Int)) (a13 : (List Int)) (a14 : Zt5) : Option Bool :=
 let x4 := (bif (bif (bif (bif (bif (decide (a1 = a8)) then (a2 == a9) else false) then (decide (a3 = a10)) else false) then (decide (a4 = a11)) else false) then (decide (a5 = a12)) else false) then (decide (a6 = a13)) else false)
 (iter (cellin_Same_b1 N a7 a14) N (x4, 0)).bind fun v1 =>
  some v1
def sp_cellin_Same (N : Nat) : X.Spec := fun args lk => match args with
 | [.v (.agg [.cs [.int .i64 a1, .bool a2, .int .i64 a3, .int .i64 a4], .ints 2 .i64 a5, .ints 6 .i64 a6, .fzs 6 (.pair .bool (.pair (.int .i64) (.int .i64))) a7]), .v (.agg [.cs [.int .i64 a8, .bool a9, .int .i64 a10, .int .i64 a11], .ints 2 .i64 a12, .ints 6 .i64 a13, .fzs 6 (.pair .bool (.pair (.int .i64) (.int .i64))) a14])] => some ⟨(cellin_Same N a1 a2 a3 a4 a5 a6 a7 a8 a9 a10 a11 a12 a13 a14).isSome = true, .v (.c (.bool ((cellin_Same N a1 a2 a3 a4 a5 a6 a7 a8 a9 a10 a11 a12 a13 a14).getD default))), [], []⟩
 | _ => none
set_option maxRecDepth 100000 in
set_option maxHeartbeats 1000000 in
theorem ok_cellin_Same (N : Nat) : FnOK Tryd.prog gt0 18 (sp_cellin_Same N) := by
 refine fnOK_handed Tryd.func18 rfl (by kernel_rfl) tt_ok (ktCons (ok_slices_Equal_overspill_api_Event_overspill_api_Event N) (ktNil)) ?_
 intro args lk r h hp
 unfold sp_cellin_Same at h
 split at h
 ·
  rename_i a1 a2 a3 a4 a5 a6 a7 a8 a9 a10 a11 a12 a13 a14
  change (List Int) at a5
  change (List Int) at a6
  change Zt5 at a7
  change (List Int) at a12
  change (List Int) at a13
  change Zt5 at a14
  cases h
  obtain ⟨x, hx⟩ := Option.isSome_iff_exists.1 hp
  simp only [hx, Option.getD_some]
  refine hand0 rfl rfl (fun w0 M ε0 hX => ?_)
  refine rCount (fun hε => ?_)
  have hT : cellin_Same N a1 a2 a3 a4 a5 a6 a7 a8 a9 a10 a11 a12 a13 a14 = some x := hx; clear hx hp; unfold cellin_Same at hT
  refine zA hX ?_
  let x4 := (bif (bif (bif (bif (bif (decide (a1 = a8)) then (a2 == a9) else false) then (decide (a3 = a10)) else false) then (decide (a4 = a11)) else false) then (decide (a5 = a12)) else false) then (decide (a6 = a13)) else false)
  refine zA hX ?_
  refine rSeq (zA hX ?_)
  refine rBlock ?_
  replace hT := sBind hT; obtain ⟨w1, hl, hT⟩ := hT
  refine rJoinA (fun v1 => v1 = w1) (fun v1 => ⟨[(4, .v (.c (.bool false))), (5, .v (.c (.bool v1)))], [], 2⟩) (.exit 0) (fun v1 hv => ?_) (fun hxs10 => ?_)
  ·
   subst hv; clear hl
   refine rInHit (rThen (zA hX ?_))
   refine rRet ?_
   have hy := Option.some.inj hT; subst hy
   exact zEnd0 hX rfl
  refine rLoopM (cellin_Same_b1 N a7 a14) (fun s1 => ⟨[(2, .v (.c (.ptr 0 0 0 0 0 0))), (3, .v (.c (.ptr 1 0 0 0 0 0))), (4, .v (.c (.bool false))), (5, .v (.c (.bool s1.1))), (47, .v (.c (.int .i64 s1.2)))], [(0, .mem true 42 none (.flat [.cs [.int .i64 a1, .bool a2, .int .i64 a3, .int .i64 a4], .ints 2 .i64 a5, .ints 6 .i64 a6, .fzs 6 Zs3 a7])), (1, .mem true 42 none (.flat [.cs [.int .i64 a8, .bool a9, .int .i64 a10, .int .i64 a11], .ints 2 .i64 a12, .ints 6 .i64 a13, .fzs 6 Zs3 a14]))], 2⟩) hl (To.mk' [] 0 hε rfl zL zL) (fun s1 zs1 NNs1 hz hnexts1 houts1 => ?_)
  clear hl hT
  have hT := hz; clear hz
  refine zA hX ?_
  refine rSeq ?_
  refine zCond rfl rfl (fun hc => ?_) (fun hc => ?_)
  ·
   replace hT := sT hc hT
   refine rSkip (rThen (rSeq (rBlock (zA hX ?_))))
   let c1 := (slices_Equal_overspill_api_Event_overspill_api_Event N (a7.getD (s1.2).toNat []) (a14.getD (s1.2).toNat []))
   replace hT := sIf hT; obtain ⟨⟨o1, o2, o3, o4⟩, hT⟩ := hT
   refine rDrawM md0 1 [12] hX mixed rfl rfl rfl rfl rfl zO ?_
   refine rInNormal (rThen ?_)
   replace hT := sIf hT; obtain ⟨o1, hT⟩ := hT
   refine zReg md0 hX rfl rfl rfl ?_
   exact hnexts1 _ (Option.some.inj hT).symm _ (To.mk' [] 0 hε rfl zL zL)
  ·
   replace hT := sF hc hT
   refine rExit (rThenExit (rThenExit ?_))
   exact zTo [] 0 hε (hxs10 _ (houts1 _ (Option.some.inj hT).symm))
 ·
  cases h
def slices_Equal_int_int_b1 (N : Nat) (a1 : (List Int)) (a2 : (List Int)) (s1 : Int) : Option (Int ⊕ (Unit ⊕ Unit)) :=
 bif (decide (s1 < (a1.length : Int))) then
  if (0 : Int) ≤ s1 ∧ s1 < (a1.length : Int) ∧ s1 < (a2.length : Int) then
   bif (decide ((a1.getD (s1).toNat 0) ≠ (a2.getD (s1).toNat 0))) then
    some (.inr (Sum.inl ()))
   else
    if inK .i64 (s1 + 1) then
     some (.inl (s1 + 1))
    else none
  else none
 else
  some (.inr (Sum.inr ()))
def slices_Equal_int_int (N : Nat) (a1 : (List Int)) (a2 : (List Int)) : Option Bool :=
 bif (decide ((a1.length : Int) ≠ (a2.length : Int))) then
  some false
 else
  (iter (slices_Equal_int_int_b1 N a1 a2) N 0).bind fun w1 =>
   (Sum.elim (fun v1 =>
    some false
   )
    (fun v2 =>
     some true
    )
   ) w1
def sp_slices_Equal_int_int (N : Nat) : X.Spec := fun args lk => match args with
 | [.v (.c (.fz (.int .i64) a1)), .v (.c (.fz (.int .i64) a2))] => some ⟨(slices_Equal_int_int N a1 a2).isSome = true, .v (.c (.bool ((slices_Equal_int_int N a1 a2).getD default))), [], []⟩
 | _ => none
set_option maxRecDepth 100000 in
set_option maxHeartbeats 1000000 in
theorem ok_slices_Equal_int_int (N : Nat) : FnOK Tryd.prog gt0 48 (sp_slices_Equal_int_int N) := by
 refine fnOK_handed Tryd.func48 rfl (by kernel_rfl) tt_ok (ktNil) ?_
 intro args lk r h hp
 unfold sp_slices_Equal_int_int at h
 split at h
 ·
  rename_i a1 a2
  change (List Int) at a1
  change (List Int) at a2
  cases h
  obtain ⟨x, hx⟩ := Option.isSome_iff_exists.1 hp
  simp only [hx, Option.getD_some]
  refine hand0 rfl rfl (fun w0 M ε0 hX => ?_)
  refine rCount (fun hε => ?_)
  have hT : slices_Equal_int_int N a1 a2 = some x := hx; clear hx hp; unfold slices_Equal_int_int at hT
  refine zA hX ?_
  refine rSeq (zA hX ?_)
  refine zCond rfl rfl (fun hc => ?_) (fun hc => ?_)
  ·
   replace hT := sT hc hT
   refine zA hX ?_
   refine rRet (rThenRet ?_)
   have hy := Option.some.inj hT; subst hy
   exact zEnd0 hX rfl
  ·
   replace hT := sF hc hT
   refine rSkip (rThen (rSeq (zA hX ?_)))
   refine rBlock ?_
   replace hT := sBind hT; obtain ⟨w1, hl, hT⟩ := hT
   refine rJoinA (fun v1 => (Sum.inl v1) = w1) (fun v1 => ⟨[(4, .v (.c (.bool false)))], [], 0⟩) .ret (fun v1 hv => ?_) (fun hxs10 => ?_)
   ·
    subst hv; clear hl; replace hT := (sElimL hT)
    refine rInRet (rThenRet ?_)
    have hy := Option.some.inj hT; subst hy
    exact zEnd0 hX rfl
   refine rJoinA (fun v2 => (Sum.inr v2) = w1) (fun v2 => ⟨[(4, .v (.c (.bool false)))], [], 0⟩) (.exit 0) (fun v2 hv => ?_) (fun hxs11 => ?_)
   ·
    subst hv; clear hl; replace hT := (sElimR hT)
    refine rInHit (rThen (zA hX ?_))
    refine rRet ?_
    have hy := Option.some.inj hT; subst hy
    exact zEnd0 hX rfl
   refine rLoopM (slices_Equal_int_int_b1 N a1 a2) (fun s1 => ⟨[(0, .v (.c (.fz (.int .i64) a1))), (1, .v (.c (.fz (.int .i64) a2))), (4, .v (.c (.bool false))), (12, .v (.c (.int .i64 (a1.length : Int)))), (13, .v (.c (.int .i64 s1)))], [], 0⟩) hl (To.mk' [] 0 hε rfl zL zL) (fun s1 zs1 NNs1 hz hnexts1 houts1 => ?_)
   clear hl hT
   have hT := hz; clear hz
   refine zA hX ?_
   refine rSeq ?_
   refine zCond rfl rfl (fun hc => ?_) (fun hc => ?_)
   ·
    replace hT := sT hc hT
    refine rSkip (rThen (rSeq (rBlock (zA hX ?_))))
    replace hT := sIf hT; obtain ⟨⟨o1, o2, o3⟩, hT⟩ := hT
    refine rSeq (zDraw md0 0 [] hX mixed rfl rfl rfl rfl rfl ?_)
    refine rThen ?_
    refine zCond rfl rfl (fun hc => ?_) (fun hc => ?_)
    ·
     replace hT := sT hc hT
     refine zA hX ?_
     refine rRet (rInRet (rThenRet (rThenRet ?_)))
     exact zTo [] 0 hε (hxs10 _ (houts1 _ (Option.some.inj hT).symm))
    ·
     replace hT := sF hc hT
     refine rSkip (rInNormal (rThen ?_))
     replace hT := sIf hT; obtain ⟨o1, hT⟩ := hT
     refine zReg md0 hX rfl rfl rfl ?_
     exact hnexts1 _ (Option.some.inj hT).symm _ (To.mk' [] 0 hε rfl zL zL)
   ·
    replace hT := sF hc hT
    refine rExit (rThenExit (rThenExit ?_))
    exact zTo [] 0 hε (hxs11 _ (houts1 _ (Option.some.inj hT).symm))
 ·
  cases h
def slices_EqualFunc_overspill_api_Cell_overspill_api_Cell_overspill_api_Cell_overspill_api_Cell_Same_b1 (N : Nat) (a1 : Zt3) (a2 : Zt3) (s1 : Int) : Option (Int ⊕ (Unit ⊕ Unit)) :=
 bif (decide (s1 < (a1.length : Int))) then
  let x2 := (a1.getD (s1).toNat Zd1).1
  let x3 := (a1.getD (s1).toNat Zd1).2.1
  let x4 := (a1.getD (s1).toNat Zd1).2.2.1
  let x5 := (a1.getD (s1).toNat Zd1).2.2.2.1
  let x6 : (List Int) := (a1.getD (s1).toNat Zd1).2.2.2.2.1
  let x7 : (List Int) := (a1.getD (s1).toNat Zd1).2.2.2.2.2.1
  let x8 := (a1.getD (s1).toNat Zd1).2.2.2.2.2.2
  if (0 : Int) ≤ s1 ∧ s1 < (a1.length : Int) then
   let x10 := (a2.getD (s1).toNat Zd1).1
   let x11 := (a2.getD (s1).toNat Zd1).2.1
   let x12 := (a2.getD (s1).toNat Zd1).2.2.1
   let x13 := (a2.getD (s1).toNat Zd1).2.2.2.1
   let x14 : (List Int) := (a2.getD (s1).toNat Zd1).2.2.2.2.1
   let x15 : (List Int) := (a2.getD (s1).toNat Zd1).2.2.2.2.2.1
   let x16 := (a2.getD (s1).toNat Zd1).2.2.2.2.2.2
   if (0 : Int) ≤ s1 ∧ s1 < (a2.length : Int) then
    let c1 := (cellin_Same N x2 x3 x4 x5 x6 x7 x8 x10 x11 x12 x13 x14 x15 x16)
    if c1.isSome = true then
     bif (!(c1.getD default)) then
      some (.inr (Sum.inl ()))
     else
      if inK .i64 (s1 + 1) then
       some (.inl (s1 + 1))
      else none
    else none
   else none
  else none
 else
  some (.inr (Sum.inr ()))
def slices_EqualFunc_overspill_api_Cell_overspill_api_Cell_overspill_api_Cell_overspill_api_Cell_Same (N : Nat) (a1 : Zt3) (a2 : Zt3) : Option Bool :=
 bif (decide ((a1.length : Int) ≠ (a2.length : Int))) then
  some false
 else
  (iter (slices_EqualFunc_overspill_api_Cell_overspill_api_Cell_overspill_api_Cell_overspill_api_Cell_Same_b1 N a1 a2) N 0).bind fun w1 =>
   (Sum.elim (fun v1 =>
    some false
   )
    (fun v2 =>
     some true
    )
   ) w1
def sp_slices_EqualFunc_overspill_api_Cell_overspill_api_Cell_overspill_api_Cell_overspill_api_Cell_Same (N : Nat) : X.Spec := fun args lk => match args with
 | [.v (.c (.fz (.pair (.int .i64) (.pair .bool (.pair (.int .i64) (.pair (.int .i64) (.pair (.arr 2 .i64) (.pair (.arr 6 .i64) (.arrS 6 (.pair .bool (.pair (.int .i64) (.int .i64)))))))))) a1)), .v (.c (.fz (.pair (.int .i64) (.pair .bool (.pair (.int .i64) (.pair (.int .i64) (.pair (.arr 2 .i64) (.pair (.arr 6 .i64) (.arrS 6 (.pair .bool (.pair (.int .i64) (.int .i64)))))))))) a2)), .v (.c (.clo 18 []))] => some ⟨(slices_EqualFunc_overspill_api_Cell_overspill_api_Cell_overspill_api_Cell_overspill_api_Cell_Same N a1 a2).isSome = true, .v (.c (.bool ((slices_EqualFunc_overspill_api_Cell_overspill_api_Cell_overspill_api_Cell_overspill_api_Cell_Same N a1 a2).getD default))), [], []⟩
 | _ => none
set_option maxRecDepth 100000 in
set_option maxHeartbeats 1000000 in
theorem ok_slices_EqualFunc_overspill_api_Cell_overspill_api_Cell_overspill_api_Cell_overspill_api_Cell_Same (N : Nat) : FnOK Tryd.prog gt0 75 (sp_slices_EqualFunc_overspill_api_Cell_overspill_api_Cell_overspill_api_Cell_overspill_api_Cell_Same N) := by
 refine fnOK_handed Tryd.func75 rfl (by kernel_rfl) tt_ok (ktCons (ok_cellin_Same N) (ktNil)) ?_
 intro args lk r h hp
 unfold sp_slices_EqualFunc_overspill_api_Cell_overspill_api_Cell_overspill_api_Cell_overspill_api_Cell_Same at h
 split at h
 ·
  rename_i a1 a2
  change Zt3 at a1
  change Zt3 at a2
  cases h
  obtain ⟨x, hx⟩ := Option.isSome_iff_exists.1 hp
  simp only [hx, Option.getD_some]
  refine hand0 rfl rfl (fun w0 M ε0 hX => ?_)
  refine rCount (fun hε => ?_)
  have hT : slices_EqualFunc_overspill_api_Cell_overspill_api_Cell_overspill_api_Cell_overspill_api_Cell_Same N a1 a2 = some x := hx; clear hx hp; unfold slices_EqualFunc_overspill_api_Cell_overspill_api_Cell_overspill_api_Cell_overspill_api_Cell_Same at hT
  refine zA hX ?_
  refine rSeq (zA hX ?_)
  refine zCond rfl rfl (fun hc => ?_) (fun hc => ?_)
  ·
   replace hT := sT hc hT
   refine zA hX ?_
   refine rRet (rThenRet ?_)
   have hy := Option.some.inj hT; subst hy
   exact zEnd0 hX rfl
  ·
   replace hT := sF hc hT
   refine rSkip (rThen (rSeq (zA hX ?_)))
   refine rBlock ?_
   replace hT := sBind hT; obtain ⟨w1, hl, hT⟩ := hT
   refine rJoinA (fun v1 => (Sum.inl v1) = w1) (fun v1 => ⟨[(6, .v (.c (.bool false)))], [], 0⟩) .ret (fun v1 hv => ?_) (fun hxs10 => ?_)
   ·
    subst hv; clear hl; replace hT := (sElimL hT)
    refine rInRet (rThenRet ?_)
    have hy := Option.some.inj hT; subst hy
    exact zEnd0 hX rfl
   refine rJoinA (fun v2 => (Sum.inr v2) = w1) (fun v2 => ⟨[(6, .v (.c (.bool false)))], [], 0⟩) (.exit 0) (fun v2 hv => ?_) (fun hxs11 => ?_)
   ·
    subst hv; clear hl; replace hT := (sElimR hT)
    refine rInHit (rThen (zA hX ?_))
    refine rRet ?_
    have hy := Option.some.inj hT; subst hy
    exact zEnd0 hX rfl
   refine rLoopM (slices_EqualFunc_overspill_api_Cell_overspill_api_Cell_overspill_api_Cell_overspill_api_Cell_Same_b1 N a1 a2) (fun s1 => ⟨[(1, .v (.c (.fz Zs2 a2))), (2, .v (.c (.clo 18 []))), (6, .v (.c (.bool false))), (15, .v (.c (.fz Zs2 a1))), (16, .v (.c (.int .i64 (a1.length : Int)))), (17, .v (.c (.int .i64 s1)))], [], 0⟩) hl (To.mk' [] 0 hε rfl zL zL) (fun s1 zs1 NNs1 hz hnexts1 houts1 => ?_)
   clear hl hT
   have hT := hz; clear hz
   refine zA hX ?_
   refine rSeq ?_
   refine zCond rfl rfl (fun hc => ?_) (fun hc => ?_)
   ·
    replace hT := sT hc hT
    refine rSkip (rThen (rSeq (rBlock ?_)))
    let x2 := (a1.getD (s1).toNat Zd1).1
    let x3 := (a1.getD (s1).toNat Zd1).2.1
    let x4 := (a1.getD (s1).toNat Zd1).2.2.1
    let x5 := (a1.getD (s1).toNat Zd1).2.2.2.1
    let x6 : (List Int) := (a1.getD (s1).toNat Zd1).2.2.2.2.1
    let x7 : (List Int) := (a1.getD (s1).toNat Zd1).2.2.2.2.2.1
    let x8 := (a1.getD (s1).toNat Zd1).2.2.2.2.2.2
    replace hT := sIf hT; obtain ⟨⟨o1, o2⟩, hT⟩ := hT
    refine zA hX ?_
    let x10 := (a2.getD (s1).toNat Zd1).1
    let x11 := (a2.getD (s1).toNat Zd1).2.1
    let x12 := (a2.getD (s1).toNat Zd1).2.2.1
    let x13 := (a2.getD (s1).toNat Zd1).2.2.2.1
    let x14 : (List Int) := (a2.getD (s1).toNat Zd1).2.2.2.2.1
    let x15 : (List Int) := (a2.getD (s1).toNat Zd1).2.2.2.2.2.1
    let x16 := (a2.getD (s1).toNat Zd1).2.2.2.2.2.2
    replace hT := sIf hT; obtain ⟨⟨o1, o2⟩, hT⟩ := hT
    refine zA hX ?_
    let c1 := (cellin_Same N x2 x3 x4 x5 x6 x7 x8 x10 x11 x12 x13 x14 x15 x16)
    replace hT := sIf hT; obtain ⟨o1, hT⟩ := hT
    refine zA hX ?_
    refine zCond rfl rfl (fun hc => ?_) (fun hc => ?_)
    ·
     replace hT := sT hc hT
     refine zA hX ?_
     refine rRet (rInRet (rThenRet (rThenRet ?_)))
     exact zTo [] 0 hε (hxs10 _ (houts1 _ (Option.some.inj hT).symm))
    ·
     replace hT := sF hc hT
     refine rSkip (rInNormal (rThen ?_))
     replace hT := sIf hT; obtain ⟨o1, hT⟩ := hT
     refine zReg md0 hX rfl rfl rfl ?_
     exact hnexts1 _ (Option.some.inj hT).symm _ (To.mk' [] 0 hε rfl zL zL)
   ·
    replace hT := sF hc hT
    refine rExit (rThenExit (rThenExit ?_))
    exact zTo [] 0 hε (hxs11 _ (houts1 _ (Option.some.inj hT).symm))
 ·
  cases h
def sound_rowsSame (N : Nat) (a1 : Bool) (a2 : Int) (a3 : Int) (a4 : Zt3) (a5 : Bool) (a6 : Int) (a7 : Int) (a8 : Zt3) : Option Bool :=
 let c1 := (slices_EqualFunc_overspill_api_Cell_overspill_api_Cell_overspill_api_Cell_overspill_api_Cell_Same N a4 a8)
 let x1 := (bif (bif (bif (a1 == a5) then (decide (a2 = a6)) else false) then (decide (a3 = a7)) else false) then (c1.getD default) else false)
 if ((bif (bif (a1 == a5) then (decide (a2 = a6)) else false) then (decide (a3 = a7)) else false) = true → c1.isSome = true) then
  some x1
 else none
def sp_sound_rowsSame (N : Nat) : X.Spec := fun args lk => match args with
 | [.v (.agg [.cs [.bool a1, .int .i64 a2, .int .i64 a3, .fz (.pair (.int .i64) (.pair .bool (.pair (.int .i64) (.pair (.int .i64) (.pair (.arr 2 .i64) (.pair (.arr 6 .i64) (.arrS 6 (.pair .bool (.pair (.int .i64) (.int .i64)))))))))) a4]]), .v (.agg [.cs [.bool a5, .int .i64 a6, .int .i64 a7, .fz (.pair (.int .i64) (.pair .bool (.pair (.int .i64) (.pair (.int .i64) (.pair (.arr 2 .i64) (.pair (.arr 6 .i64) (.arrS 6 (.pair .bool (.pair (.int .i64) (.int .i64)))))))))) a8]])] => some ⟨(sound_rowsSame N a1 a2 a3 a4 a5 a6 a7 a8).isSome = true, .v (.c (.bool ((sound_rowsSame N a1 a2 a3 a4 a5 a6 a7 a8).getD default))), [], []⟩
 | _ => none
set_option maxRecDepth 100000 in
set_option maxHeartbeats 1000000 in
theorem ok_sound_rowsSame (N : Nat) : FnOK Tryd.prog gt0 50 (sp_sound_rowsSame N) := by
 refine fnOK_handed Tryd.func50 rfl (by kernel_rfl) tt_ok (ktCons (ok_slices_EqualFunc_overspill_api_Cell_overspill_api_Cell_overspill_api_Cell_overspill_api_Cell_Same N) (ktNil)) ?_
 intro args lk r h hp
 unfold sp_sound_rowsSame at h
 split at h
 ·
  rename_i a1 a2 a3 a4 a5 a6 a7 a8
  change Zt3 at a4
  change Zt3 at a8
  cases h
  obtain ⟨x, hx⟩ := Option.isSome_iff_exists.1 hp
  simp only [hx, Option.getD_some]
  refine hand0 rfl rfl (fun w0 M ε0 hX => ?_)
  refine rCount (fun hε => ?_)
  have hT : sound_rowsSame N a1 a2 a3 a4 a5 a6 a7 a8 = some x := hx; clear hx hp; unfold sound_rowsSame at hT
  refine zA hX ?_
  let c1 := (slices_EqualFunc_overspill_api_Cell_overspill_api_Cell_overspill_api_Cell_overspill_api_Cell_Same N a4 a8)
  let x1 := (bif (bif (bif (a1 == a5) then (decide (a2 = a6)) else false) then (decide (a3 = a7)) else false) then (c1.getD default) else false)
  replace hT := sIf hT; obtain ⟨o1, hT⟩ := hT
  refine rSeq (rRegC md0 hX rfl rfl rfl zO ?_)
  refine rThen (rRet ?_)
  have hy := Option.some.inj hT; subst hy
  exact zEnd0 hX rfl
 ·
  cases h
def slices_EqualFunc_overspill_api_Row_overspill_api_Row_overspill_api_Row_overspill_api_Row_rowsSame_b1 (N : Nat) (a1 : Zt1) (a2 : Zt1) (s1 : Int) : Option (Int ⊕ (Unit ⊕ Unit)) :=
 bif (decide (s1 < (a1.length : Int))) then
  if (0 : Int) ≤ s1 ∧ s1 < (a1.length : Int) then
   if (0 : Int) ≤ s1 ∧ s1 < (a2.length : Int) then
    let c1 := (sound_rowsSame N (a1.getD (s1).toNat Zd7).1 (a1.getD (s1).toNat Zd7).2.1 (a1.getD (s1).toNat Zd7).2.2.1 (a1.getD (s1).toNat Zd7).2.2.2 (a2.getD (s1).toNat Zd7).1 (a2.getD (s1).toNat Zd7).2.1 (a2.getD (s1).toNat Zd7).2.2.1 (a2.getD (s1).toNat Zd7).2.2.2)
    if c1.isSome = true then
     bif (!(c1.getD default)) then
      some (.inr (Sum.inl ()))
     else
      if inK .i64 (s1 + 1) then
       some (.inl (s1 + 1))
      else none
    else none
   else none
  else none
 else
  some (.inr (Sum.inr ()))
def slices_EqualFunc_overspill_api_Row_overspill_api_Row_overspill_api_Row_overspill_api_Row_rowsSame (N : Nat) (a1 : Zt1) (a2 : Zt1) : Option Bool :=
 bif (decide ((a1.length : Int) ≠ (a2.length : Int))) then
  some false
 else
  (iter (slices_EqualFunc_overspill_api_Row_overspill_api_Row_overspill_api_Row_overspill_api_Row_rowsSame_b1 N a1 a2) N 0).bind fun w1 =>
   (Sum.elim (fun v1 =>
    some false
   )
    (fun v2 =>
     some true
    )
   ) w1
def sp_slices_EqualFunc_overspill_api_Row_overspill_api_Row_overspill_api_Row_overspill_api_Row_rowsSame (N : Nat) : X.Spec := fun args lk => match args with
 | [.v (.c (.fz (.pair .bool (.pair (.int .i64) (.pair (.int .i64) (.sl (.pair (.int .i64) (.pair .bool (.pair (.int .i64) (.pair (.int .i64) (.pair (.arr 2 .i64) (.pair (.arr 6 .i64) (.arrS 6 (.pair .bool (.pair (.int .i64) (.int .i64)))))))))))))) a1)), .v (.c (.fz (.pair .bool (.pair (.int .i64) (.pair (.int .i64) (.sl (.pair (.int .i64) (.pair .bool (.pair (.int .i64) (.pair (.int .i64) (.pair (.arr 2 .i64) (.pair (.arr 6 .i64) (.arrS 6 (.pair .bool (.pair (.int .i64) (.int .i64)))))))))))))) a2)), .v (.c (.clo 50 []))] => some ⟨(slices_EqualFunc_overspill_api_Row_overspill_api_Row_overspill_api_Row_overspill_api_Row_rowsSame N a1 a2).isSome = true, .v (.c (.bool ((slices_EqualFunc_overspill_api_Row_overspill_api_Row_overspill_api_Row_overspill_api_Row_rowsSame N a1 a2).getD default))), [], []⟩
 | _ => none
set_option maxRecDepth 100000 in
set_option maxHeartbeats 1000000 in
theorem ok_slices_EqualFunc_overspill_api_Row_overspill_api_Row_overspill_api_Row_overspill_api_Row_rowsSame (N : Nat) : FnOK Tryd.prog gt0 49 (sp_slices_EqualFunc_overspill_api_Row_overspill_api_Row_overspill_api_Row_overspill_api_Row_rowsSame N) := by
 refine fnOK_handed Tryd.func49 rfl (by kernel_rfl) tt_ok (ktCons (ok_sound_rowsSame N) (ktNil)) ?_
 intro args lk r h hp
 unfold sp_slices_EqualFunc_overspill_api_Row_overspill_api_Row_overspill_api_Row_overspill_api_Row_rowsSame at h
 split at h
 ·
  rename_i a1 a2
  change Zt1 at a1
  change Zt1 at a2
  cases h
  obtain ⟨x, hx⟩ := Option.isSome_iff_exists.1 hp
  simp only [hx, Option.getD_some]
  refine hand0 rfl rfl (fun w0 M ε0 hX => ?_)
  refine rCount (fun hε => ?_)
  have hT : slices_EqualFunc_overspill_api_Row_overspill_api_Row_overspill_api_Row_overspill_api_Row_rowsSame N a1 a2 = some x := hx; clear hx hp; unfold slices_EqualFunc_overspill_api_Row_overspill_api_Row_overspill_api_Row_overspill_api_Row_rowsSame at hT
  refine zA hX ?_
  refine rSeq (zA hX ?_)
  refine zCond rfl rfl (fun hc => ?_) (fun hc => ?_)
  ·
   replace hT := sT hc hT
   refine zA hX ?_
   refine rRet (rThenRet ?_)
   have hy := Option.some.inj hT; subst hy
   exact zEnd0 hX rfl
  ·
   replace hT := sF hc hT
   refine rSkip (rThen (rSeq (zA hX ?_)))
   refine rBlock ?_
   replace hT := sBind hT; obtain ⟨w1, hl, hT⟩ := hT
   refine rJoinA (fun v1 => (Sum.inl v1) = w1) (fun v1 => ⟨[(6, .v (.c (.bool false)))], [], 0⟩) .ret (fun v1 hv => ?_) (fun hxs10 => ?_)
   ·
    subst hv; clear hl; replace hT := (sElimL hT)
    refine rInRet (rThenRet ?_)
    have hy := Option.some.inj hT; subst hy
    exact zEnd0 hX rfl
   refine rJoinA (fun v2 => (Sum.inr v2) = w1) (fun v2 => ⟨[(6, .v (.c (.bool false)))], [], 0⟩) (.exit 0) (fun v2 hv => ?_) (fun hxs11 => ?_)
   ·
    subst hv; clear hl; replace hT := (sElimR hT)
    refine rInHit (rThen (zA hX ?_))
    refine rRet ?_
    have hy := Option.some.inj hT; subst hy
    exact zEnd0 hX rfl
   refine rLoopM (slices_EqualFunc_overspill_api_Row_overspill_api_Row_overspill_api_Row_overspill_api_Row_rowsSame_b1 N a1 a2) (fun s1 => ⟨[(1, .v (.c (.fz Zs1 a2))), (2, .v (.c (.clo 50 []))), (6, .v (.c (.bool false))), (15, .v (.c (.fz Zs1 a1))), (16, .v (.c (.int .i64 (a1.length : Int)))), (17, .v (.c (.int .i64 s1)))], [], 0⟩) hl (To.mk' [] 0 hε rfl zL zL) (fun s1 zs1 NNs1 hz hnexts1 houts1 => ?_)
   clear hl hT
   have hT := hz; clear hz
   refine zA hX ?_
   refine rSeq ?_
   refine zCond rfl rfl (fun hc => ?_) (fun hc => ?_)
   ·
    replace hT := sT hc hT
    refine rSkip (rThen (rSeq (rBlock ?_)))
    replace hT := sIf hT; obtain ⟨⟨o1, o2⟩, hT⟩ := hT
    refine zA hX ?_
    replace hT := sIf hT; obtain ⟨⟨o1, o2⟩, hT⟩ := hT
    refine zA hX ?_
    let c1 := (sound_rowsSame N (a1.getD (s1).toNat Zd7).1 (a1.getD (s1).toNat Zd7).2.1 (a1.getD (s1).toNat Zd7).2.2.1 (a1.getD (s1).toNat Zd7).2.2.2 (a2.getD (s1).toNat Zd7).1 (a2.getD (s1).toNat Zd7).2.1 (a2.getD (s1).toNat Zd7).2.2.1 (a2.getD (s1).toNat Zd7).2.2.2)
    replace hT := sIf hT; obtain ⟨o1, hT⟩ := hT
    refine zA hX ?_
    refine zCond rfl rfl (fun hc => ?_) (fun hc => ?_)
    ·
     replace hT := sT hc hT
     refine zA hX ?_
     refine rRet (rInRet (rThenRet (rThenRet ?_)))
     exact zTo [] 0 hε (hxs10 _ (houts1 _ (Option.some.inj hT).symm))
    ·
     replace hT := sF hc hT
     refine rSkip (rInNormal (rThen ?_))
     replace hT := sIf hT; obtain ⟨o1, hT⟩ := hT
     refine zReg md0 hX rfl rfl rfl ?_
     exact hnexts1 _ (Option.some.inj hT).symm _ (To.mk' [] 0 hε rfl zL zL)
   ·
    replace hT := sF hc hT
    refine rExit (rThenExit (rThenExit ?_))
    exact zTo [] 0 hε (hxs11 _ (houts1 _ (Option.some.inj hT).symm))
 ·
  cases h
def sound_Same (N : Nat) (a1 : Int) (a2 : Int) (a3 : Int) (a4 : Bool) (a5 : Int) (a6 : (List Int)) (a7 : Zt1) (a8 : Int) (a9 : Int) (a10 : Int) (a11 : Int) (a12 : Bool) (a13 : Int) (a14 : (List Int)) (a15 : Zt1) (a16 : Int) : Option Bool :=
 let c1 := (slices_Equal_int_int N a6 a14)
 let c2 := (slices_EqualFunc_overspill_api_Row_overspill_api_Row_overspill_api_Row_overspill_api_Row_rowsSame N a7 a15)
 let x1 := (bif (bif (bif (bif (bif (bif (bif (decide (a1 = a9)) then (decide (a2 = a10)) else false) then (decide (a3 = a11)) else false) then (a4 == a12) else false) then (decide (a5 = a13)) else false) then (decide (a8 = a16)) else false) then (c1.getD default) else false) then (c2.getD default) else false)
 if ((bif (bif (bif (bif (bif (decide (a1 = a9)) then (decide (a2 = a10)) else false) then (decide (a3 = a11)) else false) then (a4 == a12) else false) then (decide (a5 = a13)) else false) then (decide (a8 = a16)) else false) = true → c1.isSome = true) ∧ ((bif (bif (bif (bif (bif (bif (decide (a1 = a9)) then (decide (a2 = a10)) else false) then (decide (a3 = a11)) else false) then (a4 == a12) else false) then (decide (a5 = a13)) else false) then (decide (a8 = a16)) else false) then (c1.getD default) else false) = true → c2.isSome = true) then
  some x1
 else none
def sp_sound_Same (N : Nat) : X.Spec := fun args lk => match args with
 | [.v (.agg [.cs [.int .i64 a1, .int .i64 a2, .int .i64 a3, .bool a4, .int .i64 a5, .fz (.int .i64) a6, .fz (.pair .bool (.pair (.int .i64) (.pair (.int .i64) (.sl (.pair (.int .i64) (.pair .bool (.pair (.int .i64) (.pair (.int .i64) (.pair (.arr 2 .i64) (.pair (.arr 6 .i64) (.arrS 6 (.pair .bool (.pair (.int .i64) (.int .i64)))))))))))))) a7, .int .i64 a8]]), .v (.agg [.cs [.int .i64 a9, .int .i64 a10, .int .i64 a11, .bool a12, .int .i64 a13, .fz (.int .i64) a14, .fz (.pair .bool (.pair (.int .i64) (.pair (.int .i64) (.sl (.pair (.int .i64) (.pair .bool (.pair (.int .i64) (.pair (.int .i64) (.pair (.arr 2 .i64) (.pair (.arr 6 .i64) (.arrS 6 (.pair .bool (.pair (.int .i64) (.int .i64)))))))))))))) a15, .int .i64 a16]])] => some ⟨(sound_Same N a1 a2 a3 a4 a5 a6 a7 a8 a9 a10 a11 a12 a13 a14 a15 a16).isSome = true, .v (.c (.bool ((sound_Same N a1 a2 a3 a4 a5 a6 a7 a8 a9 a10 a11 a12 a13 a14 a15 a16).getD default))), [], []⟩
 | _ => none
set_option maxRecDepth 100000 in
set_option maxHeartbeats 1000000 in
theorem ok_sound_Same (N : Nat) : FnOK Tryd.prog gt0 19 (sp_sound_Same N) := by
 refine fnOK_handed Tryd.func19 rfl (by kernel_rfl) tt_ok (ktCons (ok_slices_EqualFunc_overspill_api_Row_overspill_api_Row_overspill_api_Row_overspill_api_Row_rowsSame N) (ktCons (ok_slices_Equal_int_int N) (ktNil))) ?_
 intro args lk r h hp
 unfold sp_sound_Same at h
 split at h
 ·
  rename_i a1 a2 a3 a4 a5 a6 a7 a8 a9 a10 a11 a12 a13 a14 a15 a16
  change (List Int) at a6
  change Zt1 at a7
  change (List Int) at a14
  change Zt1 at a15
  cases h
  obtain ⟨x, hx⟩ := Option.isSome_iff_exists.1 hp
  simp only [hx, Option.getD_some]
  refine hand0 rfl rfl (fun w0 M ε0 hX => ?_)
  refine rCount (fun hε => ?_)
  have hT : sound_Same N a1 a2 a3 a4 a5 a6 a7 a8 a9 a10 a11 a12 a13 a14 a15 a16 = some x := hx; clear hx hp; unfold sound_Same at hT
  refine zA hX ?_
  let c1 := (slices_Equal_int_int N a6 a14)
  let c2 := (slices_EqualFunc_overspill_api_Row_overspill_api_Row_overspill_api_Row_overspill_api_Row_rowsSame N a7 a15)
  let x1 := (bif (bif (bif (bif (bif (bif (bif (decide (a1 = a9)) then (decide (a2 = a10)) else false) then (decide (a3 = a11)) else false) then (a4 == a12) else false) then (decide (a5 = a13)) else false) then (decide (a8 = a16)) else false) then (c1.getD default) else false) then (c2.getD default) else false)
  replace hT := sIf hT; obtain ⟨⟨o1, o2⟩, hT⟩ := hT
  refine rSeq (rRegC md0 hX rfl rfl rfl zO ?_)
  refine rThen (rRet ?_)
  have hy := Option.some.inj hT; subst hy
  exact zEnd0 hX rfl
 ·
  cases h
def ref24_Same_b1 (N : Nat) (a6 : (List Int)) (a14 : (List Int)) (s1 : Int) : Option (Int ⊕ (Unit ⊕ Unit)) :=
 bif (decide (s1 < (a6.length : Int))) then
  if (0 : Int) ≤ s1 ∧ s1 < (a6.length : Int) ∧ s1 < (a14.length : Int) then
   bif (decide ((a6.getD (s1).toNat 0) ≠ (a14.getD (s1).toNat 0))) then
    some (.inr (Sum.inl ()))
   else
    if inK .i64 (s1 + 1) then
     some (.inl (s1 + 1))
    else none
  else none
 else
  some (.inr (Sum.inr ()))
def ref24_Same (N : Nat) (a1 : Int) (a2 : Int) (a3 : Int) (a4 : Bool) (a5 : Int) (a6 : (List Int)) (a7 : Zt1) (a8 : Int) (a9 : Int) (a10 : Int) (a11 : Int) (a12 : Bool) (a13 : Int) (a14 : (List Int)) (a15 : Zt1) (a16 : Int) : Option Bool :=
 let x7 := (bif (bif (bif (bif (bif (decide (a1 ≠ a9)) then true else (decide (a2 ≠ a10))) then true else (decide (a3 ≠ a11))) then true else (!(a4 == a12))) then true else (decide (a5 ≠ a13))) then true else (decide ((a6.length : Int) ≠ (a14.length : Int))))
 bif x7 then
  some false
 else
  (iter (ref24_Same_b1 N a6 a14) N 0).bind fun w1 =>
   (Sum.elim (fun v1 =>
    some false
   )
    (fun v2 =>
     some true
    )
   ) w1
def sp_ref24_Same (N : Nat) : X.Spec := fun args lk => match args with
 | [.v (.agg [.cs [.int .i64 a1, .int .i64 a2, .int .i64 a3, .bool a4, .int .i64 a5, .fz (.int .i64) a6, .fz (.pair .bool (.pair (.int .i64) (.pair (.int .i64) (.sl (.pair (.int .i64) (.pair .bool (.pair (.int .i64) (.pair (.int .i64) (.pair (.arr 2 .i64) (.pair (.arr 6 .i64) (.arrS 6 (.pair .bool (.pair (.int .i64) (.int .i64)))))))))))))) a7, .int .i64 a8]]), .v (.agg [.cs [.int .i64 a9, .int .i64 a10, .int .i64 a11, .bool a12, .int .i64 a13, .fz (.int .i64) a14, .fz (.pair .bool (.pair (.int .i64) (.pair (.int .i64) (.sl (.pair (.int .i64) (.pair .bool (.pair (.int .i64) (.pair (.int .i64) (.pair (.arr 2 .i64) (.pair (.arr 6 .i64) (.arrS 6 (.pair .bool (.pair (.int .i64) (.int .i64)))))))))))))) a15, .int .i64 a16]])] => some ⟨(ref24_Same N a1 a2 a3 a4 a5 a6 a7 a8 a9 a10 a11 a12 a13 a14 a15 a16).isSome = true, .v (.c (.bool ((ref24_Same N a1 a2 a3 a4 a5 a6 a7 a8 a9 a10 a11 a12 a13 a14 a15 a16).getD default))), [], []⟩
 | _ => none
set_option maxRecDepth 100000 in
set_option maxHeartbeats 1000000 in
theorem ok_ref24_Same (N : Nat) : FnOK Tryd.prog gt0 51 (sp_ref24_Same N) := by
 refine fnOK_handed Tryd.func51 rfl (by kernel_rfl) tt_ok (ktNil) ?_
 intro args lk r h hp
 unfold sp_ref24_Same at h
 split at h
 ·
  rename_i a1 a2 a3 a4 a5 a6 a7 a8 a9 a10 a11 a12 a13 a14 a15 a16
  change (List Int) at a6
  change Zt1 at a7
  change (List Int) at a14
  change Zt1 at a15
  cases h
  obtain ⟨x, hx⟩ := Option.isSome_iff_exists.1 hp
  simp only [hx, Option.getD_some]
  refine hand0 rfl rfl (fun w0 M ε0 hX => ?_)
  refine rCount (fun hε => ?_)
  have hT : ref24_Same N a1 a2 a3 a4 a5 a6 a7 a8 a9 a10 a11 a12 a13 a14 a15 a16 = some x := hx; clear hx hp; unfold ref24_Same at hT
  refine zA hX ?_
  refine rSeq ?_
  let x7 := (bif (bif (bif (bif (bif (decide (a1 ≠ a9)) then true else (decide (a2 ≠ a10))) then true else (decide (a3 ≠ a11))) then true else (!(a4 == a12))) then true else (decide (a5 ≠ a13))) then true else (decide ((a6.length : Int) ≠ (a14.length : Int))))
  refine zA hX ?_
  refine zCond rfl rfl (fun hc => ?_) (fun hc => ?_)
  ·
   replace hT := sT hc hT
   refine zA hX ?_
   refine rRet (rThenRet ?_)
   have hy := Option.some.inj hT; subst hy
   exact zEnd0 hX rfl
  ·
   replace hT := sF hc hT
   refine rSkip (rThen (rSeq (zA hX ?_)))
   refine rBlock ?_
   replace hT := sBind hT; obtain ⟨w1, hl, hT⟩ := hT
   refine rJoinA (fun v1 => (Sum.inl v1) = w1) (fun v1 => ⟨[(4, .v (.c (.bool false)))], [], 2⟩) .ret (fun v1 hv => ?_) (fun hxs10 => ?_)
   ·
    subst hv; clear hl; replace hT := (sElimL hT)
    refine rInRet (rThenRet ?_)
    have hy := Option.some.inj hT; subst hy
    exact zEnd0 hX rfl
   refine rJoinA (fun v2 => (Sum.inr v2) = w1) (fun v2 => ⟨[(4, .v (.c (.bool false)))], [], 2⟩) (.exit 0) (fun v2 hv => ?_) (fun hxs11 => ?_)
   ·
    subst hv; clear hl; replace hT := (sElimR hT)
    refine rInHit (rThen (zA hX ?_))
    refine rRet ?_
    have hy := Option.some.inj hT; subst hy
    exact zEnd0 hX rfl
   refine rLoopM (ref24_Same_b1 N a6 a14) (fun s1 => ⟨[(2, .v (.c (.ptr 0 0 0 0 0 0))), (3, .v (.c (.ptr 1 0 0 0 0 0))), (4, .v (.c (.bool false))), (5, .v (.c (.int .i64 s1)))], [(0, .mem true 25 none (.flat [.cs [.int .i64 a1, .int .i64 a2, .int .i64 a3, .bool a4, .int .i64 a5, .fz (.int .i64) a6, .fz Zs1 a7, .int .i64 a8]])), (1, .mem true 25 none (.flat [.cs [.int .i64 a9, .int .i64 a10, .int .i64 a11, .bool a12, .int .i64 a13, .fz (.int .i64) a14, .fz Zs1 a15, .int .i64 a16]]))], 2⟩) hl (To.mk' [] 0 hε rfl zL zL) (fun s1 zs1 NNs1 hz hnexts1 houts1 => ?_)
   clear hl hT
   have hT := hz; clear hz
   refine rSeq (zA hX ?_)
   refine zCond rfl rfl (fun hc => ?_) (fun hc => ?_)
   ·
    replace hT := sT hc hT
    refine rSkip (rThen (rSeq (rBlock ?_)))
    replace hT := sIf hT; obtain ⟨⟨o1, o2, o3⟩, hT⟩ := hT
    refine rSeq (zDraw md0 0 [] hX mixed rfl rfl rfl rfl rfl ?_)
    refine rThen ?_
    refine zCond rfl rfl (fun hc => ?_) (fun hc => ?_)
    ·
     replace hT := sT hc hT
     refine zA hX ?_
     refine rRet (rInRet (rThenRet (rThenRet ?_)))
     exact zTo [] 0 hε (hxs10 _ (houts1 _ (Option.some.inj hT).symm))
    ·
     replace hT := sF hc hT
     refine rSkip (rInNormal (rThen ?_))
     replace hT := sIf hT; obtain ⟨o1, hT⟩ := hT
     refine zReg md0 hX rfl rfl rfl ?_
     exact hnexts1 _ (Option.some.inj hT).symm _ (To.mk' [] 0 hε rfl zL zL)
   ·
    replace hT := sF hc hT
    refine rExit (rThenExit (rThenExit ?_))
    exact zTo [] 0 hε (hxs11 _ (houts1 _ (Option.some.inj hT).symm))
 ·
  cases h
def ref25_Same_b2 (N : Nat) (a7 : Zt1) (a15 : Zt1) (s1 : Int) (s2 : Int) : Option (Int ⊕ (Unit ⊕ (Int × Int × Bool))) :=
 let x12 := (decide (s2 < ((a7.getD (s1).toNat Zd7).2.2.2.length : Int)))
 bif x12 then
  let c2 := (ref21_Same N ((a7.getD (s1).toNat Zd7).2.2.2.getD (s2).toNat Zd1).1 ((a7.getD (s1).toNat Zd7).2.2.2.getD (s2).toNat Zd1).2.1 ((a7.getD (s1).toNat Zd7).2.2.2.getD (s2).toNat Zd1).2.2.1 ((a7.getD (s1).toNat Zd7).2.2.2.getD (s2).toNat Zd1).2.2.2.1 ((a7.getD (s1).toNat Zd7).2.2.2.getD (s2).toNat Zd1).2.2.2.2.1 ((a7.getD (s1).toNat Zd7).2.2.2.getD (s2).toNat Zd1).2.2.2.2.2.1 ((a7.getD (s1).toNat Zd7).2.2.2.getD (s2).toNat Zd1).2.2.2.2.2.2 ((a15.getD (s1).toNat Zd7).2.2.2.getD (s2).toNat Zd1).1 ((a15.getD (s1).toNat Zd7).2.2.2.getD (s2).toNat Zd1).2.1 ((a15.getD (s1).toNat Zd7).2.2.2.getD (s2).toNat Zd1).2.2.1 ((a15.getD (s1).toNat Zd7).2.2.2.getD (s2).toNat Zd1).2.2.2.1 ((a15.getD (s1).toNat Zd7).2.2.2.getD (s2).toNat Zd1).2.2.2.2.1 ((a15.getD (s1).toNat Zd7).2.2.2.getD (s2).toNat Zd1).2.2.2.2.2.1 ((a15.getD (s1).toNat Zd7).2.2.2.getD (s2).toNat Zd1).2.2.2.2.2.2)
  if (0 : Int) ≤ s2 ∧ s2 < ((a7.getD (s1).toNat Zd7).2.2.2.length : Int) ∧ s2 < ((a15.getD (s1).toNat Zd7).2.2.2.length : Int) ∧ c2.isSome = true then
   bif (!(c2.getD default)) then
    some (.inr (Sum.inl ()))
   else
    if inK .i64 (s2 + 1) then
     some (.inl (s2 + 1))
    else none
  else none
 else
  some (.inr (Sum.inr (s2, s2, x12)))
def ref25_Same_b1 (N : Nat) (a7 : Zt1) (a15 : Zt1) (s1 : Int) : Option (Int ⊕ (Unit ⊕ Unit)) :=
 bif (decide (s1 < (a7.length : Int))) then
  if (0 : Int) ≤ s1 ∧ s1 < (a7.length : Int) ∧ s1 < (a15.length : Int) then
   let x2 := (!((a7.getD (s1).toNat Zd7).1 == (a15.getD (s1).toNat Zd7).1))
   let x5 := (bif (!((a7.getD (s1).toNat Zd7).1 == (a15.getD (s1).toNat Zd7).1)) then true else (decide ((a7.getD (s1).toNat Zd7).2.1 ≠ (a15.getD (s1).toNat Zd7).2.1)))
   let x8 := (bif (bif (!((a7.getD (s1).toNat Zd7).1 == (a15.getD (s1).toNat Zd7).1)) then true else (decide ((a7.getD (s1).toNat Zd7).2.1 ≠ (a15.getD (s1).toNat Zd7).2.1))) then true else (decide ((a7.getD (s1).toNat Zd7).2.2.1 ≠ (a15.getD (s1).toNat Zd7).2.2.1)))
   let x11 := (bif (bif (bif (!((a7.getD (s1).toNat Zd7).1 == (a15.getD (s1).toNat Zd7).1)) then true else (decide ((a7.getD (s1).toNat Zd7).2.1 ≠ (a15.getD (s1).toNat Zd7).2.1))) then true else (decide ((a7.getD (s1).toNat Zd7).2.2.1 ≠ (a15.getD (s1).toNat Zd7).2.2.1))) then true else (decide (((a7.getD (s1).toNat Zd7).2.2.2.length : Int) ≠ ((a15.getD (s1).toNat Zd7).2.2.2.length : Int))))
   bif x11 then
    some (.inr (Sum.inl ()))
   else
    (iter (ref25_Same_b2 N a7 a15 s1) N 0).bind fun w2 =>
     (Sum.elim (fun v3 =>
      some (.inr (Sum.inl ()))
     )
      (fun v4 =>
       if inK .i64 (s1 + 1) then
        some (.inl (s1 + 1))
       else none
      )
     ) w2
  else none
 else
  some (.inr (Sum.inr ()))
def ref25_Same (N : Nat) (a1 : Int) (a2 : Int) (a3 : Int) (a4 : Bool) (a5 : Int) (a6 : (List Int)) (a7 : Zt1) (a8 : Int) (a9 : Int) (a10 : Int) (a11 : Int) (a12 : Bool) (a13 : Int) (a14 : (List Int)) (a15 : Zt1) (a16 : Int) : Option Bool :=
 let c1 := (ref24_Same N a1 a2 a3 a4 a5 a6 a7 a8 a9 a10 a11 a12 a13 a14 a15 a16)
 let x1 := (bif (bif (!(c1.getD default)) then true else (decide (a8 ≠ a16))) then true else (decide ((a7.length : Int) ≠ (a15.length : Int))))
 if c1.isSome = true then
  bif x1 then
   some false
  else
   (iter (ref25_Same_b1 N a7 a15) N 0).bind fun w1 =>
    (Sum.elim (fun v1 =>
     some false
    )
     (fun v2 =>
      some true
     )
    ) w1
 else none
def sp_ref25_Same (N : Nat) : X.Spec := fun args lk => match args with
 | [.v (.agg [.cs [.int .i64 a1, .int .i64 a2, .int .i64 a3, .bool a4, .int .i64 a5, .fz (.int .i64) a6, .fz (.pair .bool (.pair (.int .i64) (.pair (.int .i64) (.sl (.pair (.int .i64) (.pair .bool (.pair (.int .i64) (.pair (.int .i64) (.pair (.arr 2 .i64) (.pair (.arr 6 .i64) (.arrS 6 (.pair .bool (.pair (.int .i64) (.int .i64)))))))))))))) a7, .int .i64 a8]]), .v (.agg [.cs [.int .i64 a9, .int .i64 a10, .int .i64 a11, .bool a12, .int .i64 a13, .fz (.int .i64) a14, .fz (.pair .bool (.pair (.int .i64) (.pair (.int .i64) (.sl (.pair (.int .i64) (.pair .bool (.pair (.int .i64) (.pair (.int .i64) (.pair (.arr 2 .i64) (.pair (.arr 6 .i64) (.arrS 6 (.pair .bool (.pair (.int .i64) (.int .i64)))))))))))))) a15, .int .i64 a16]])] => some ⟨(ref25_Same N a1 a2 a3 a4 a5 a6 a7 a8 a9 a10 a11 a12 a13 a14 a15 a16).isSome = true, .v (.c (.bool ((ref25_Same N a1 a2 a3 a4 a5 a6 a7 a8 a9 a10 a11 a12 a13 a14 a15 a16).getD default))), [], []⟩
 | _ => none
set_option maxRecDepth 100000 in
set_option maxHeartbeats 1000000 in
theorem ok_ref25_Same (N : Nat) : FnOK Tryd.prog gt0 20 (sp_ref25_Same N) := by
 refine fnOK_handed Tryd.func20 rfl (by kernel_rfl) tt_ok (ktCons (ok_ref21_Same N) (ktCons (ok_ref24_Same N) (ktNil))) ?_
 intro args lk r h hp
 unfold sp_ref25_Same at h
 split at h
 ·
  rename_i a1 a2 a3 a4 a5 a6 a7 a8 a9 a10 a11 a12 a13 a14 a15 a16
  change (List Int) at a6
  change Zt1 at a7
  change (List Int) at a14
  change Zt1 at a15
  cases h
  obtain ⟨x, hx⟩ := Option.isSome_iff_exists.1 hp
  simp only [hx, Option.getD_some]
  refine hand0 rfl rfl (fun w0 M ε0 hX => ?_)
  refine rCount (fun hε => ?_)
  have hT : ref25_Same N a1 a2 a3 a4 a5 a6 a7 a8 a9 a10 a11 a12 a13 a14 a15 a16 = some x := hx; clear hx hp; unfold ref25_Same at hT
  refine zA hX ?_
  refine rSeq ?_
  let c1 := (ref24_Same N a1 a2 a3 a4 a5 a6 a7 a8 a9 a10 a11 a12 a13 a14 a15 a16)
  let x1 := (bif (bif (!(c1.getD default)) then true else (decide (a8 ≠ a16))) then true else (decide ((a7.length : Int) ≠ (a15.length : Int))))
  replace hT := sIf hT; obtain ⟨o1, hT⟩ := hT
  refine zA hX ?_
  refine zCond rfl rfl (fun hc => ?_) (fun hc => ?_)
  ·
   replace hT := sT hc hT
   refine zA hX ?_
   refine rRet (rThenRet ?_)
   have hy := Option.some.inj hT; subst hy
   exact zEnd0 hX rfl
  ·
   replace hT := sF hc hT
   refine rSkip (rThen (rSeq (zA hX ?_)))
   refine rBlock ?_
   replace hT := sBind hT; obtain ⟨w1, hl, hT⟩ := hT
   refine rJoinA (fun v1 => (Sum.inl v1) = w1) (fun v1 => ⟨[(4, .v (.c (.bool false)))], [], 2⟩) .ret (fun v1 hv => ?_) (fun hxs10 => ?_)
   ·
    subst hv; clear hl; replace hT := (sElimL hT)
    refine rInRet (rThenRet ?_)
    have hy := Option.some.inj hT; subst hy
    exact zEnd0 hX rfl
   refine rJoinA (fun v2 => (Sum.inr v2) = w1) (fun v2 => ⟨[(4, .v (.c (.bool false)))], [], 2⟩) (.exit 0) (fun v2 hv => ?_) (fun hxs11 => ?_)
   ·
    subst hv; clear hl; replace hT := (sElimR hT)
    refine rInHit (rThen (zA hX ?_))
    refine rRet ?_
    have hy := Option.some.inj hT; subst hy
    exact zEnd0 hX rfl
   refine rLoopM (ref25_Same_b1 N a7 a15) (fun s1 => ⟨[(2, .v (.c (.ptr 0 0 0 0 0 0))), (3, .v (.c (.ptr 1 0 0 0 0 0))), (4, .v (.c (.bool false))), (5, .v (.c (.int .i64 s1)))], [(0, .mem true 25 none (.flat [.cs [.int .i64 a1, .int .i64 a2, .int .i64 a3, .bool a4, .int .i64 a5, .fz (.int .i64) a6, .fz Zs1 a7, .int .i64 a8]])), (1, .mem true 25 none (.flat [.cs [.int .i64 a9, .int .i64 a10, .int .i64 a11, .bool a12, .int .i64 a13, .fz (.int .i64) a14, .fz Zs1 a15, .int .i64 a16]]))], 2⟩) hl (To.mk' [] 0 hε rfl zL zL) (fun s1 zs1 NNs1 hz hnexts1 houts1 => ?_)
   clear hl hT
   have hT := hz; clear hz
   refine rSeq (zA hX ?_)
   refine zCond rfl rfl (fun hc => ?_) (fun hc => ?_)
   ·
    replace hT := sT hc hT
    refine rSkip (rThen (rSeq (rBlock (rSeq ?_))))
    replace hT := sIf hT; obtain ⟨⟨o1, o2, o3⟩, hT⟩ := hT
    refine rDrawG md0 [10, 11, 12, 13] 5 hX mixed rfl rfl rfl rfl rfl rfl zP zL ?_ (fun k => ⟨rTo (To.mk' [0, 1, 3, 2] 0 hε rfl zL zL) k, trivial⟩)
    refine rThen (rSeq ?_)
    let x2 := (!((a7.getD (s1).toNat Zd7).1 == (a15.getD (s1).toNat Zd7).1))
    let x5 := (bif (!((a7.getD (s1).toNat Zd7).1 == (a15.getD (s1).toNat Zd7).1)) then true else (decide ((a7.getD (s1).toNat Zd7).2.1 ≠ (a15.getD (s1).toNat Zd7).2.1)))
    let x8 := (bif (bif (!((a7.getD (s1).toNat Zd7).1 == (a15.getD (s1).toNat Zd7).1)) then true else (decide ((a7.getD (s1).toNat Zd7).2.1 ≠ (a15.getD (s1).toNat Zd7).2.1))) then true else (decide ((a7.getD (s1).toNat Zd7).2.2.1 ≠ (a15.getD (s1).toNat Zd7).2.2.1)))
    let x11 := (bif (bif (bif (!((a7.getD (s1).toNat Zd7).1 == (a15.getD (s1).toNat Zd7).1)) then true else (decide ((a7.getD (s1).toNat Zd7).2.1 ≠ (a15.getD (s1).toNat Zd7).2.1))) then true else (decide ((a7.getD (s1).toNat Zd7).2.2.1 ≠ (a15.getD (s1).toNat Zd7).2.2.1))) then true else (decide (((a7.getD (s1).toNat Zd7).2.2.2.length : Int) ≠ ((a15.getD (s1).toNat Zd7).2.2.2.length : Int))))
    refine zA hX ?_
    refine zCond rfl rfl (fun hc => ?_) (fun hc => ?_)
    ·
     replace hT := sT hc hT
     refine zA hX ?_
     refine rRet (rThenRet (rInRet (rThenRet (rThenRet ?_))))
     exact zTo [] 0 hε (hxs10 _ (houts1 _ (Option.some.inj hT).symm))
    ·
     replace hT := sF hc hT
     refine rSkip (rThen (zA hX ?_))
     refine rBlock ?_
     replace hT := sBind hT; obtain ⟨w2, hl, hT⟩ := hT
     refine rJoinA (fun v3 => (Sum.inl v3) = w2) (fun v3 => ⟨[(4, .v (.c (.bool false)))], [], 4⟩) .ret (fun v3 hv => ?_) (fun hxs20 => ?_)
     ·
      subst hv; clear hl; replace hT := (sElimL hT)
      refine rInRet (rInRet (rThenRet (rThenRet ?_)))
      exact zTo [] 0 hε (hxs10 _ (houts1 _ (Option.some.inj hT).symm))
     refine rJoinA (fun v4 => (Sum.inr v4) = w2) (fun v4 => ⟨[(2, .v (.c (.ptr 0 0 0 0 0 0))), (3, .v (.c (.ptr 1 0 0 0 0 0))), (4, .v (.c (.bool false))), (5, .v (.c (.int .i64 s1))), (6, .v (.c (.ptr 2 0 0 0 0 0))), (7, .v (.c (.ptr 3 0 0 0 0 0))), (8, .v (.c (.int .i64 v4.1))), (29, .v (.c (.int .i64 s1))), (30, .v (.c (.ptr 0 0 0 6 0 0))), (31, .v (.c (.fz Zs1 a7))), (32, .v (.c (.int .i64 (a7.length : Int)))), (33, .v (.c (.bool (decide (s1 < (a7.length : Int)))))), (36, .v (.c (.ptr 0 0 0 6 0 0))), (37, .v (.c (.fz Zs1 a7))), (38, .v (.c (.int .i64 s1))), (39, .v (.c (.fp Zs1 (a7.getD (s1).toNat Zd7) 0 0 0))), (40, .v (.agg [.cs [.bool (a7.getD (s1).toNat Zd7).1, .int .i64 (a7.getD (s1).toNat Zd7).2.1, .int .i64 (a7.getD (s1).toNat Zd7).2.2.1, .fz Zs2 (a7.getD (s1).toNat Zd7).2.2.2]])), (41, .v (.c (.ptr 1 0 0 6 0 0))), (42, .v (.c (.fz Zs1 a15))), (43, .v (.c (.int .i64 s1))), (44, .v (.c (.fp Zs1 (a15.getD (s1).toNat Zd7) 0 0 0))), (45, .v (.agg [.cs [.bool (a15.getD (s1).toNat Zd7).1, .int .i64 (a15.getD (s1).toNat Zd7).2.1, .int .i64 (a15.getD (s1).toNat Zd7).2.2.1, .fz Zs2 (a15.getD (s1).toNat Zd7).2.2.2]])), (46, .v (.c (.ptr 2 0 0 0 0 0))), (47, .v (.c (.bool (a7.getD (s1).toNat Zd7).1))), (48, .v (.c (.ptr 3 0 0 0 0 0))), (49, .v (.c (.bool (a15.getD (s1).toNat Zd7).1))), (50, .v (.c (.bool x2))), (51, .v (.c (.bool x2))), (57, .v (.c (.bool x5))), (58, .v (.c (.bool x5))), (64, .v (.c (.bool x8))), (65, .v (.c (.bool x8))), (73, .v (.c (.bool x11))), (74, .v (.c (.int .i64 v4.2.1))), (75, .v (.c (.ptr 2 0 0 3 0 0))), (76, .v (.c (.fz Zs2 (a7.getD (s1).toNat Zd7).2.2.2))), (77, .v (.c (.int .i64 ((a7.getD (s1).toNat Zd7).2.2.2.length : Int)))), (78, .v (.c (.bool v4.2.2)))], [(0, .mem true 25 none (.flat [.cs [.int .i64 a1, .int .i64 a2, .int .i64 a3, .bool a4, .int .i64 a5, .fz (.int .i64) a6, .fz Zs1 a7, .int .i64 a8]])), (1, .mem true 25 none (.flat [.cs [.int .i64 a9, .int .i64 a10, .int .i64 a11, .bool a12, .int .i64 a13, .fz (.int .i64) a14, .fz Zs1 a15, .int .i64 a16]])), (2, .mem true 49 none (.flat [.cs [.bool (a7.getD (s1).toNat Zd7).1, .int .i64 (a7.getD (s1).toNat Zd7).2.1, .int .i64 (a7.getD (s1).toNat Zd7).2.2.1, .fz Zs2 (a7.getD (s1).toNat Zd7).2.2.2]])), (3, .mem true 49 none (.flat [.cs [.bool (a15.getD (s1).toNat Zd7).1, .int .i64 (a15.getD (s1).toNat Zd7).2.1, .int .i64 (a15.getD (s1).toNat Zd7).2.2.1, .fz Zs2 (a15.getD (s1).toNat Zd7).2.2.2]]))], 4⟩) (.exit 2) (fun v4 hv => ?_) (fun hxs21 => ?_)
     ·
      subst hv; clear hl; replace hT := (sElimR hT)
      refine rInHit (rInNormal (rThen ?_))
      replace hT := sIf hT; obtain ⟨o1, hT⟩ := hT
      refine zReg md0 hX rfl rfl rfl ?_
      exact hnexts1 _ (Option.some.inj hT).symm _ (To.mk' [] 0 hε rfl zL zL)
     refine rLoopM (ref25_Same_b2 N a7 a15 s1) (fun s2 => ⟨[(2, .v (.c (.ptr 0 0 0 0 0 0))), (3, .v (.c (.ptr 1 0 0 0 0 0))), (4, .v (.c (.bool false))), (5, .v (.c (.int .i64 s1))), (6, .v (.c (.ptr 2 0 0 0 0 0))), (7, .v (.c (.ptr 3 0 0 0 0 0))), (8, .v (.c (.int .i64 s2))), (29, .v (.c (.int .i64 s1))), (30, .v (.c (.ptr 0 0 0 6 0 0))), (31, .v (.c (.fz Zs1 a7))), (32, .v (.c (.int .i64 (a7.length : Int)))), (33, .v (.c (.bool (decide (s1 < (a7.length : Int)))))), (36, .v (.c (.ptr 0 0 0 6 0 0))), (37, .v (.c (.fz Zs1 a7))), (38, .v (.c (.int .i64 s1))), (39, .v (.c (.fp Zs1 (a7.getD (s1).toNat Zd7) 0 0 0))), (40, .v (.agg [.cs [.bool (a7.getD (s1).toNat Zd7).1, .int .i64 (a7.getD (s1).toNat Zd7).2.1, .int .i64 (a7.getD (s1).toNat Zd7).2.2.1, .fz Zs2 (a7.getD (s1).toNat Zd7).2.2.2]])), (41, .v (.c (.ptr 1 0 0 6 0 0))), (42, .v (.c (.fz Zs1 a15))), (43, .v (.c (.int .i64 s1))), (44, .v (.c (.fp Zs1 (a15.getD (s1).toNat Zd7) 0 0 0))), (45, .v (.agg [.cs [.bool (a15.getD (s1).toNat Zd7).1, .int .i64 (a15.getD (s1).toNat Zd7).2.1, .int .i64 (a15.getD (s1).toNat Zd7).2.2.1, .fz Zs2 (a15.getD (s1).toNat Zd7).2.2.2]])), (46, .v (.c (.ptr 2 0 0 0 0 0))), (47, .v (.c (.bool (a7.getD (s1).toNat Zd7).1))), (48, .v (.c (.ptr 3 0 0 0 0 0))), (49, .v (.c (.bool (a15.getD (s1).toNat Zd7).1))), (50, .v (.c (.bool x2))), (51, .v (.c (.bool x2))), (57, .v (.c (.bool x5))), (58, .v (.c (.bool x5))), (64, .v (.c (.bool x8))), (65, .v (.c (.bool x8))), (73, .v (.c (.bool x11)))], [(0, .mem true 25 none (.flat [.cs [.int .i64 a1, .int .i64 a2, .int .i64 a3, .bool a4, .int .i64 a5, .fz (.int .i64) a6, .fz Zs1 a7, .int .i64 a8]])), (1, .mem true 25 none (.flat [.cs [.int .i64 a9, .int .i64 a10, .int .i64 a11, .bool a12, .int .i64 a13, .fz (.int .i64) a14, .fz Zs1 a15, .int .i64 a16]])), (2, .mem true 49 none (.flat [.cs [.bool (a7.getD (s1).toNat Zd7).1, .int .i64 (a7.getD (s1).toNat Zd7).2.1, .int .i64 (a7.getD (s1).toNat Zd7).2.2.1, .fz Zs2 (a7.getD (s1).toNat Zd7).2.2.2]])), (3, .mem true 49 none (.flat [.cs [.bool (a15.getD (s1).toNat Zd7).1, .int .i64 (a15.getD (s1).toNat Zd7).2.1, .int .i64 (a15.getD (s1).toNat Zd7).2.2.1, .fz Zs2 (a15.getD (s1).toNat Zd7).2.2.2]]))], 4⟩) hl (To.mk' [] 0 hε rfl zL zL) (fun s2 zs2 NNs2 hz hnexts2 houts2 => ?_)
     clear hl hT
     have hT := hz; clear hz
     refine rSeq ?_
     let x12 := (decide (s2 < ((a7.getD (s1).toNat Zd7).2.2.2.length : Int)))
     refine zA hX ?_
     refine zCond rfl rfl (fun hc => ?_) (fun hc => ?_)
     ·
      replace hT := sT hc hT
      refine rSkip (rThen (rSeq (rBlock ?_)))
      let c2 := (ref21_Same N ((a7.getD (s1).toNat Zd7).2.2.2.getD (s2).toNat Zd1).1 ((a7.getD (s1).toNat Zd7).2.2.2.getD (s2).toNat Zd1).2.1 ((a7.getD (s1).toNat Zd7).2.2.2.getD (s2).toNat Zd1).2.2.1 ((a7.getD (s1).toNat Zd7).2.2.2.getD (s2).toNat Zd1).2.2.2.1 ((a7.getD (s1).toNat Zd7).2.2.2.getD (s2).toNat Zd1).2.2.2.2.1 ((a7.getD (s1).toNat Zd7).2.2.2.getD (s2).toNat Zd1).2.2.2.2.2.1 ((a7.getD (s1).toNat Zd7).2.2.2.getD (s2).toNat Zd1).2.2.2.2.2.2 ((a15.getD (s1).toNat Zd7).2.2.2.getD (s2).toNat Zd1).1 ((a15.getD (s1).toNat Zd7).2.2.2.getD (s2).toNat Zd1).2.1 ((a15.getD (s1).toNat Zd7).2.2.2.getD (s2).toNat Zd1).2.2.1 ((a15.getD (s1).toNat Zd7).2.2.2.getD (s2).toNat Zd1).2.2.2.1 ((a15.getD (s1).toNat Zd7).2.2.2.getD (s2).toNat Zd1).2.2.2.2.1 ((a15.getD (s1).toNat Zd7).2.2.2.getD (s2).toNat Zd1).2.2.2.2.2.1 ((a15.getD (s1).toNat Zd7).2.2.2.getD (s2).toNat Zd1).2.2.2.2.2.2)
      replace hT := sIf hT; obtain ⟨⟨o1, o2, o3, o4⟩, hT⟩ := hT
      refine rSeq (zDraw md0 0 [] hX mixed rfl rfl rfl rfl rfl ?_)
      refine rThen ?_
      refine zCond rfl rfl (fun hc => ?_) (fun hc => ?_)
      ·
       replace hT := sT hc hT
       refine zA hX ?_
       refine rRet (rInRet (rThenRet (rThenRet ?_)))
       exact zTo [] 0 hε (hxs20 _ (houts2 _ (Option.some.inj hT).symm))
      ·
       replace hT := sF hc hT
       refine rSkip (rInNormal (rThen ?_))
       replace hT := sIf hT; obtain ⟨o1, hT⟩ := hT
       refine zReg md0 hX rfl rfl rfl ?_
       exact hnexts2 _ (Option.some.inj hT).symm _ (To.mk' [] 0 hε rfl zL zL)
     ·
      replace hT := sF hc hT
      refine rExit (rThenExit (rThenExit ?_))
      exact zTo [] 0 hε (hxs21 _ (houts2 _ (Option.some.inj hT).symm))
   ·
    replace hT := sF hc hT
    refine rExit (rThenExit (rThenExit ?_))
    exact zTo [] 0 hε (hxs11 _ (houts1 _ (Option.some.inj hT).symm))
 ·
  cases h
def law25_SoundSame_b1 (N : Nat) (c4 : (Option Zt3)) (c5 : (Option Zt3)) (c6 : (Option (List (List Int)))) (s1 : Int) : Option (Int ⊕ (Unit ⊕ Unit)) :=
 bif (decide (s1 < ((c4.getD default).length : Int))) then
  let c13 := (ref21_Same N ((c4.getD default).getD (s1).toNat Zd1).1 ((c4.getD default).getD (s1).toNat Zd1).2.1 ((c4.getD default).getD (s1).toNat Zd1).2.2.1 ((c4.getD default).getD (s1).toNat Zd1).2.2.2.1 ((c4.getD default).getD (s1).toNat Zd1).2.2.2.2.1 ((c4.getD default).getD (s1).toNat Zd1).2.2.2.2.2.1 ((c4.getD default).getD (s1).toNat Zd1).2.2.2.2.2.2 ((c5.getD default).getD (s1).toNat Zd1).1 ((c5.getD default).getD (s1).toNat Zd1).2.1 ((c5.getD default).getD (s1).toNat Zd1).2.2.1 ((c5.getD default).getD (s1).toNat Zd1).2.2.2.1 ((c5.getD default).getD (s1).toNat Zd1).2.2.2.2.1 ((c5.getD default).getD (s1).toNat Zd1).2.2.2.2.2.1 ((c5.getD default).getD (s1).toNat Zd1).2.2.2.2.2.2)
  let c14 := (cellin_Same N ((c4.getD default).getD (s1).toNat Zd1).1 ((c4.getD default).getD (s1).toNat Zd1).2.1 ((c4.getD default).getD (s1).toNat Zd1).2.2.1 ((c4.getD default).getD (s1).toNat Zd1).2.2.2.1 ((c4.getD default).getD (s1).toNat Zd1).2.2.2.2.1 ((c4.getD default).getD (s1).toNat Zd1).2.2.2.2.2.1 ((c4.getD default).getD (s1).toNat Zd1).2.2.2.2.2.2 ((c5.getD default).getD (s1).toNat Zd1).1 ((c5.getD default).getD (s1).toNat Zd1).2.1 ((c5.getD default).getD (s1).toNat Zd1).2.2.1 ((c5.getD default).getD (s1).toNat Zd1).2.2.2.1 ((c5.getD default).getD (s1).toNat Zd1).2.2.2.2.1 ((c5.getD default).getD (s1).toNat Zd1).2.2.2.2.2.1 ((c5.getD default).getD (s1).toNat Zd1).2.2.2.2.2.2)
  let x26 := (bif (bif (!(c13.getD default)) then true else (!(decide (((c6.getD default).getD (s1).toNat (List.replicate 2 (0 : Int))) = ((c5.getD default).getD (s1).toNat Zd1).2.2.2.2.1)))) then true else (!(c14.getD default)))
  if (0 : Int) ≤ s1 ∧ s1 < ((c4.getD default).length : Int) ∧ s1 < ((c5.getD default).length : Int) ∧ c13.isSome = true ∧ ((!(!(c13.getD default))) = true → (0 : Int) ≤ s1) ∧ ((!(!(c13.getD default))) = true → s1 < ((c6.getD default).length : Int)) ∧ ((!(!(c13.getD default))) = true → s1 < ((c5.getD default).length : Int)) ∧ ((!(bif (!(c13.getD default)) then true else (!(decide (((c6.getD default).getD (s1).toNat (List.replicate 2 (0 : Int))) = ((c5.getD default).getD (s1).toNat Zd1).2.2.2.2.1))))) = true → (0 : Int) ≤ s1) ∧ ((!(bif (!(c13.getD default)) then true else (!(decide (((c6.getD default).getD (s1).toNat (List.replicate 2 (0 : Int))) = ((c5.getD default).getD (s1).toNat Zd1).2.2.2.2.1))))) = true → s1 < ((c4.getD default).length : Int)) ∧ ((!(bif (!(c13.getD default)) then true else (!(decide (((c6.getD default).getD (s1).toNat (List.replicate 2 (0 : Int))) = ((c5.getD default).getD (s1).toNat Zd1).2.2.2.2.1))))) = true → s1 < ((c5.getD default).length : Int)) ∧ ((!(bif (!(c13.getD default)) then true else (!(decide (((c6.getD default).getD (s1).toNat (List.replicate 2 (0 : Int))) = ((c5.getD default).getD (s1).toNat Zd1).2.2.2.2.1))))) = true → c14.isSome = true) then
   bif x26 then
    some (.inr (Sum.inl ()))
   else
    if inK .i64 (s1 + 1) then
     some (.inl (s1 + 1))
    else none
  else none
 else
  some (.inr (Sum.inr ()))
def law25_SoundSame (N : Nat) (a1 : Int) (a2 : Int) (a3 : Int) (a4 : Bool) (a5 : Int) (a6 : (List Int)) (a7 : Zt1) (a8 : Int) (a9 : Int) (a10 : Int) (a11 : Int) (a12 : Bool) (a13 : Int) (a14 : (List Int)) (a15 : Zt1) (a16 : Int) : Option Bool :=
 let c1 := (law25_Light N a1 a2 a3 a4 a5 a6 a7 a8)
 let c2 := (law25_Light N a9 a10 a11 a12 a13 a14 a15 a16)
 if c1.isSome = true ∧ ((!(!(c1.getD default))) = true → c2.isSome = true) then
  bif (bif (!(c1.getD default)) then true else (!(c2.getD default))) then
   let c3 := (law25_lives N)
   if c3.isSome = true then
    some (c3.getD default)
   else none
  else
   let c4 := (sound_Cells_v2 N a1 a2 a3 a4 a5 a6 a7 a8)
   let c5 := (ref25_Cells N a1 a2 a3 a4 a5 a6 a7 a8)
   if c4.isSome = true ∧ c5.isSome = true then
    let c6 := (sound_Vectors N a1 a2 a3 a4 a5 a6 a7 a8)
    if c6.isSome = true then
     let c7 := (sound_Check_v2 N a1 a2 a3 a4 a5 a6 a7 a8)
     let c8 := (ref16_Many N a3)
     let x5 := (bif (bif (decide (((c4.getD default).length : Int) ≠ ((c5.getD default).length : Int))) then true else (decide (((c6.getD default).length : Int) ≠ ((c5.getD default).length : Int)))) then true else (bif (decide ((c7.getD default) = 0)) then (decide (((c4.getD default).length : Int) ≠ (c8.getD default))) else false))
     if ((!(bif (decide (((c4.getD default).length : Int) ≠ ((c5.getD default).length : Int))) then true else (decide (((c6.getD default).length : Int) ≠ ((c5.getD default).length : Int))))) = true → c7.isSome = true) ∧ (((!(bif (decide (((c4.getD default).length : Int) ≠ ((c5.getD default).length : Int))) then true else (decide (((c6.getD default).length : Int) ≠ ((c5.getD default).length : Int))))) && (decide ((c7.getD default) = 0))) = true → c8.isSome = true) ∧ ((!(bif (decide (((c4.getD default).length : Int) ≠ ((c5.getD default).length : Int))) then true else (decide (((c6.getD default).length : Int) ≠ ((c5.getD default).length : Int))))) = true → ((decide ((c7.getD default) = 0)) = true → ((!(bif (decide (((c4.getD default).length : Int) ≠ ((c5.getD default).length : Int))) then true else (decide (((c6.getD default).length : Int) ≠ ((c5.getD default).length : Int))))) && (decide ((c7.getD default) = 0))) = true)) then
      bif x5 then
       some false
      else
       (iter (law25_SoundSame_b1 N c4 c5 c6) N 0).bind fun w1 =>
        (Sum.elim (fun v1 =>
         some false
        )
         (fun v2 =>
          let c9 := (sound_Same N a1 a2 a3 a4 a5 a6 a7 a8 a9 a10 a11 a12 a13 a14 a15 a16)
          let c10 := (ref25_Same N a1 a2 a3 a4 a5 a6 a7 a8 a9 a10 a11 a12 a13 a14 a15 a16)
          let c11 := (sound_Same N a1 a2 a3 a4 a5 a6 a7 a8 a1 a2 a3 a4 a5 a6 a7 a8)
          let c12 := (law25_lives N)
          let x6 := (bif (bif ((c9.getD default) == (c10.getD default)) then (c11.getD default) else false) then (c12.getD default) else false)
          if c9.isSome = true ∧ c10.isSome = true ∧ (((c9.getD default) == (c10.getD default)) = true → c11.isSome = true) ∧ ((bif ((c9.getD default) == (c10.getD default)) then (c11.getD default) else false) = true → c12.isSome = true) then
           some x6
          else none
         )
        ) w1
     else none
    else none
   else none
 else none
def sp_law25_SoundSame (N : Nat) : X.Spec := fun args lk => match args with
 | [.v (.agg [.cs [.int .i64 a1, .int .i64 a2, .int .i64 a3, .bool a4, .int .i64 a5, .fz (.int .i64) a6, .fz (.pair .bool (.pair (.int .i64) (.pair (.int .i64) (.sl (.pair (.int .i64) (.pair .bool (.pair (.int .i64) (.pair (.int .i64) (.pair (.arr 2 .i64) (.pair (.arr 6 .i64) (.arrS 6 (.pair .bool (.pair (.int .i64) (.int .i64)))))))))))))) a7, .int .i64 a8]]), .v (.agg [.cs [.int .i64 a9, .int .i64 a10, .int .i64 a11, .bool a12, .int .i64 a13, .fz (.int .i64) a14, .fz (.pair .bool (.pair (.int .i64) (.pair (.int .i64) (.sl (.pair (.int .i64) (.pair .bool (.pair (.int .i64) (.pair (.int .i64) (.pair (.arr 2 .i64) (.pair (.arr 6 .i64) (.arrS 6 (.pair .bool (.pair (.int .i64) (.int .i64)))))))))))))) a15, .int .i64 a16]])] => some ⟨(law25_SoundSame N a1 a2 a3 a4 a5 a6 a7 a8 a9 a10 a11 a12 a13 a14 a15 a16).isSome = true, .v (.c (.bool ((law25_SoundSame N a1 a2 a3 a4 a5 a6 a7 a8 a9 a10 a11 a12 a13 a14 a15 a16).getD default))), [], []⟩
 | _ => none
set_option maxRecDepth 100000 in
set_option maxHeartbeats 1000000 in
theorem ok_law25_SoundSame (N : Nat) : FnOK Tryd.prog gt0 4 (sp_law25_SoundSame N) := by
 refine fnOK_handed Tryd.func4 rfl (by kernel_rfl) tt_ok (ktCons (ok_cellin_Same N) (ktCons (ok_ref21_Same N) (ktCons (ok_ref25_Same N) (ktCons (ok_sound_Same N) (ktCons (ok_ref16_Many N) (ktCons (ok_sound_Check_v2 N) (ktCons (ok_sound_Vectors N) (ktCons (ok_ref25_Cells N) (ktCons (ok_sound_Cells_v2 N) (ktCons (ok_law25_lives N) (ktCons (ok_law25_Light N) (ktNil)))))))))))) ?_
 intro args lk r h hp
 unfold sp_law25_SoundSame at h
 split at h
 ·
  rename_i a1 a2 a3 a4 a5 a6 a7 a8 a9 a10 a11 a12 a13 a14 a15 a16
  change (List Int) at a6
  change Zt1 at a7
  change (List Int) at a14
  change Zt1 at a15
  cases h
  obtain ⟨x, hx⟩ := Option.isSome_iff_exists.1 hp
  simp only [hx, Option.getD_some]
  refine hand0 rfl rfl (fun w0 M ε0 hX => ?_)
  refine rCount (fun hε => ?_)
  have hT : law25_SoundSame N a1 a2 a3 a4 a5 a6 a7 a8 a9 a10 a11 a12 a13 a14 a15 a16 = some x := hx; clear hx hp; unfold law25_SoundSame at hT
  refine zA hX ?_
  refine rSeq ?_
  let c1 := (law25_Light N a1 a2 a3 a4 a5 a6 a7 a8)
  let c2 := (law25_Light N a9 a10 a11 a12 a13 a14 a15 a16)
  replace hT := sIf hT; obtain ⟨⟨o1, o2⟩, hT⟩ := hT
  refine rSeq (rRegC md0 hX rfl rfl rfl zO ?_)
  refine rThen ?_
  refine zCond rfl rfl (fun hc => ?_) (fun hc => ?_)
  ·
   replace hT := sT hc hT
   let c3 := (law25_lives N)
   replace hT := sIf hT; obtain ⟨o1, hT⟩ := hT
   refine zA hX ?_
   refine rRet (rThenRet ?_)
   have hy := Option.some.inj hT; subst hy
   exact zEnd0 hX rfl
  ·
   replace hT := sF hc hT
   refine rSkip (rThen ?_)
   let c4 := (sound_Cells_v2 N a1 a2 a3 a4 a5 a6 a7 a8)
   let c5 := (ref25_Cells N a1 a2 a3 a4 a5 a6 a7 a8)
   replace hT := sIf hT; obtain ⟨⟨o1, o2⟩, hT⟩ := hT
   refine rSeq (zDraw md0 0 [] hX mixed rfl rfl rfl rfl rfl ?_)
   refine rThen ?_
   let c6 := (sound_Vectors N a1 a2 a3 a4 a5 a6 a7 a8)
   replace hT := sIf hT; obtain ⟨o1, hT⟩ := hT
   refine zA hX ?_
   refine rSeq ?_
   let c7 := (sound_Check_v2 N a1 a2 a3 a4 a5 a6 a7 a8)
   let c8 := (ref16_Many N a3)
   let x5 := (bif (bif (decide (((c4.getD default).length : Int) ≠ ((c5.getD default).length : Int))) then true else (decide (((c6.getD default).length : Int) ≠ ((c5.getD default).length : Int)))) then true else (bif (decide ((c7.getD default) = 0)) then (decide (((c4.getD default).length : Int) ≠ (c8.getD default))) else false))
   replace hT := sIf hT; obtain ⟨⟨o1, o2, o3⟩, hT⟩ := hT
   refine rSeq (rRegC md0 hX rfl rfl rfl zO ?_)
   refine rThen ?_
   refine zCond rfl rfl (fun hc => ?_) (fun hc => ?_)
   ·
    replace hT := sT hc hT
    refine zA hX ?_
    refine rRet (rThenRet ?_)
    have hy := Option.some.inj hT; subst hy
    exact zEnd0 hX rfl
   ·
    replace hT := sF hc hT
    refine rSkip (rThen (rSeq (zA hX ?_)))
    refine rBlock ?_
    replace hT := sBind hT; obtain ⟨w1, hl, hT⟩ := hT
    refine rJoinA (fun v1 => (Sum.inl v1) = w1) (fun v1 => ⟨[(4, .v (.c (.bool false)))], [], 2⟩) .ret (fun v1 hv => ?_) (fun hxs10 => ?_)
    ·
     subst hv; clear hl; replace hT := (sElimL hT)
     refine rInRet (rThenRet ?_)
     have hy := Option.some.inj hT; subst hy
     exact zEnd0 hX rfl
    refine rJoinA (fun v2 => (Sum.inr v2) = w1) (fun v2 => ⟨[(2, .v (.c (.ptr 0 0 0 0 0 0))), (3, .v (.c (.ptr 1 0 0 0 0 0))), (4, .v (.c (.bool false)))], [(0, .mem true 25 none (.flat [.cs [.int .i64 a1, .int .i64 a2, .int .i64 a3, .bool a4, .int .i64 a5, .fz (.int .i64) a6, .fz Zs1 a7, .int .i64 a8]])), (1, .mem true 25 none (.flat [.cs [.int .i64 a9, .int .i64 a10, .int .i64 a11, .bool a12, .int .i64 a13, .fz (.int .i64) a14, .fz Zs1 a15, .int .i64 a16]]))], 2⟩) (.exit 0) (fun v2 hv => ?_) (fun hxs11 => ?_)
    ·
     subst hv; clear hl; replace hT := (sElimR hT)
     refine rInHit (rThen ?_)
     let c9 := (sound_Same N a1 a2 a3 a4 a5 a6 a7 a8 a9 a10 a11 a12 a13 a14 a15 a16)
     let c10 := (ref25_Same N a1 a2 a3 a4 a5 a6 a7 a8 a9 a10 a11 a12 a13 a14 a15 a16)
     let c11 := (sound_Same N a1 a2 a3 a4 a5 a6 a7 a8 a1 a2 a3 a4 a5 a6 a7 a8)
     let c12 := (law25_lives N)
     let x6 := (bif (bif ((c9.getD default) == (c10.getD default)) then (c11.getD default) else false) then (c12.getD default) else false)
     replace hT := sIf hT; obtain ⟨⟨o1, o2, o3, o4⟩, hT⟩ := hT
     refine rSeq (rDrawM md0 0 [] hX mixed rfl rfl rfl rfl rfl zO ?_)
     refine rThen (rRet ?_)
     have hy := Option.some.inj hT; subst hy
     exact zEnd0 hX rfl
    refine rLoopM (law25_SoundSame_b1 N c4 c5 c6) (fun s1 => ⟨[(2, .v (.c (.ptr 0 0 0 0 0 0))), (3, .v (.c (.ptr 1 0 0 0 0 0))), (4, .v (.c (.bool false))), (5, .v (.c (.fz Zs2 (c4.getD default)))), (6, .v (.c (.fz Zs2 (c5.getD default)))), (7, .v (.c (.fz (.arr 2 .i64) (c6.getD default)))), (8, .v (.c (.int .i64 s1)))], [(0, .mem true 25 none (.flat [.cs [.int .i64 a1, .int .i64 a2, .int .i64 a3, .bool a4, .int .i64 a5, .fz (.int .i64) a6, .fz Zs1 a7, .int .i64 a8]])), (1, .mem true 25 none (.flat [.cs [.int .i64 a9, .int .i64 a10, .int .i64 a11, .bool a12, .int .i64 a13, .fz (.int .i64) a14, .fz Zs1 a15, .int .i64 a16]]))], 2⟩) hl (To.mk' [] 0 hε rfl zL zL) (fun s1 zs1 NNs1 hz hnexts1 houts1 => ?_)
    clear hl hT
    have hT := hz; clear hz
    refine rSeq (zA hX ?_)
    refine zCond rfl rfl (fun hc => ?_) (fun hc => ?_)
    ·
     replace hT := sT hc hT
     refine rSkip (rThen (rSeq (rBlock ?_)))
     let c13 := (ref21_Same N ((c4.getD default).getD (s1).toNat Zd1).1 ((c4.getD default).getD (s1).toNat Zd1).2.1 ((c4.getD default).getD (s1).toNat Zd1).2.2.1 ((c4.getD default).getD (s1).toNat Zd1).2.2.2.1 ((c4.getD default).getD (s1).toNat Zd1).2.2.2.2.1 ((c4.getD default).getD (s1).toNat Zd1).2.2.2.2.2.1 ((c4.getD default).getD (s1).toNat Zd1).2.2.2.2.2.2 ((c5.getD default).getD (s1).toNat Zd1).1 ((c5.getD default).getD (s1).toNat Zd1).2.1 ((c5.getD default).getD (s1).toNat Zd1).2.2.1 ((c5.getD default).getD (s1).toNat Zd1).2.2.2.1 ((c5.getD default).getD (s1).toNat Zd1).2.2.2.2.1 ((c5.getD default).getD (s1).toNat Zd1).2.2.2.2.2.1 ((c5.getD default).getD (s1).toNat Zd1).2.2.2.2.2.2)
     let c14 := (cellin_Same N ((c4.getD default).getD (s1).toNat Zd1).1 ((c4.getD default).getD (s1).toNat Zd1).2.1 ((c4.getD default).getD (s1).toNat Zd1).2.2.1 ((c4.getD default).getD (s1).toNat Zd1).2.2.2.1 ((c4.getD default).getD (s1).toNat Zd1).2.2.2.2.1 ((c4.getD default).getD (s1).toNat Zd1).2.2.2.2.2.1 ((c4.getD default).getD (s1).toNat Zd1).2.2.2.2.2.2 ((c5.getD default).getD (s1).toNat Zd1).1 ((c5.getD default).getD (s1).toNat Zd1).2.1 ((c5.getD default).getD (s1).toNat Zd1).2.2.1 ((c5.getD default).getD (s1).toNat Zd1).2.2.2.1 ((c5.getD default).getD (s1).toNat Zd1).2.2.2.2.1 ((c5.getD default).getD (s1).toNat Zd1).2.2.2.2.2.1 ((c5.getD default).getD (s1).toNat Zd1).2.2.2.2.2.2)
     let x26 := (bif (bif (!(c13.getD default)) then true else (!(decide (((c6.getD default).getD (s1).toNat (List.replicate 2 (0 : Int))) = ((c5.getD default).getD (s1).toNat Zd1).2.2.2.2.1)))) then true else (!(c14.getD default)))
     replace hT := sIf hT; obtain ⟨⟨o1, o2, o3, o4, o5, o6, o7, o8, o9, o10, o11⟩, hT⟩ := hT
     refine rSeq (rDrawM md0 0 [] hX mixed rfl rfl rfl rfl rfl zO ?_)
     refine rThen ?_
     refine zCond rfl rfl (fun hc => ?_) (fun hc => ?_)
     ·
      replace hT := sT hc hT
      refine zA hX ?_
      refine rRet (rInRet (rThenRet (rThenRet ?_)))
      exact zTo [] 0 hε (hxs10 _ (houts1 _ (Option.some.inj hT).symm))
     ·
      replace hT := sF hc hT
      refine rSkip (rInNormal (rThen ?_))
      replace hT := sIf hT; obtain ⟨o1, hT⟩ := hT
      refine zReg md0 hX rfl rfl rfl ?_
      exact hnexts1 _ (Option.some.inj hT).symm _ (To.mk' [] 0 hε rfl zL zL)
    ·
     replace hT := sF hc hT
     refine rExit (rThenExit (rThenExit ?_))
     exact zTo [] 0 hε (hxs11 _ (houts1 _ (Option.some.inj hT).symm))
 ·
  cases h

end Go.Proofs.YtlcjjaglbcfbbaaDoor
