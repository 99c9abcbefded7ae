/- Models of functions, and that the program does what they tell. -/
import Derived.Test.YtjknjjdijoboiaaDoorR1
set_option linter.unusedVariables false
set_option linter.unusedSimpArgs false
namespace Go.Proofs.YtjknjjdijoboiaaDoor
open Go.X

def overspill_residue_cell_residue (N : Nat) (a1 : Int) (a2 : Bool) (a3 : Int) (a4 : Int) (a5 : (List Int)) (a6 : (List Int)) (a7 : (List (List (Bool × (Int × Int))))) (a8 : Int) (a9 : Int) : Option (List Int) :=
  let c1 := (overspill_residue_cell_values N a1 a2 a3 a4 a5 a6 a7 a8 a9)
  let c2 := (dct_Inverse N (c1.getD default))
  if c1.isSome = true ∧ c2.isSome = true then
    some (c2.getD default)
  else none
def sp_overspill_residue_cell_residue (N : Nat) : X.Spec := fun args lk => match args with
  | [.v (.agg [.cs [.int .i64 a1, .bool a2, .int .i64 a3, .int .i64 a4], .ints 2 .i64 a5, .ints 6 .i64 a6, .fzs 6 (.pair .bool (.pair (.int .i64) (.int .i64))) a7, .cs [.int .i64 a8]]), .v (.c (.int .i64 a9))] => some ⟨(overspill_residue_cell_residue N a1 a2 a3 a4 a5 a6 a7 a8 a9).isSome = true, .v (.agg [.ints 64 .i64 ((overspill_residue_cell_residue N a1 a2 a3 a4 a5 a6 a7 a8 a9).getD default)]), [], []⟩
  | _ => none
set_option maxRecDepth 100000 in
set_option maxHeartbeats 1000000 in
theorem ok_overspill_residue_cell_residue (N : Nat) : FnOK Tryd.prog gt0 13 (sp_overspill_residue_cell_residue N) := by
  refine fnOK_handed Tryd.func13 rfl (by kernel_rfl) tt_ok (ktCons (ok_dct_Inverse N) (ktCons (ok_overspill_residue_cell_values N) (ktNil))) ?_
  intro args lk r h hp
  unfold sp_overspill_residue_cell_residue at h
  split at h
  · rename_i a1 a2 a3 a4 a5 a6 a7 a8 a9
    change (List Int) at a5
    change (List Int) at a6
    change (List (List (Bool × (Int × Int)))) at a7
    cases h
    obtain ⟨x, hx⟩ := Option.isSome_iff_exists.1 hp
    simp only [hx, Option.getD_some]
    refine hand0 rfl rfl (fun w0 M ε0 hX => ?_)
    refine rCount (fun hε => ?_)
    have hT : overspill_residue_cell_residue N a1 a2 a3 a4 a5 a6 a7 a8 a9 = some x := hx; clear hx hp; unfold overspill_residue_cell_residue at hT
    refine rSeq ?_
    refine zReg md0 hX rfl rfl rfl ?_
    refine rThen ?_
    refine rSeq ?_
    let c1 := (overspill_residue_cell_values N a1 a2 a3 a4 a5 a6 a7 a8 a9)
    let c2 := (dct_Inverse N (c1.getD default))
    replace hT := sIf hT; obtain ⟨⟨o1, o2⟩, hT⟩ := hT
    refine zReg md0 hX rfl rfl rfl ?_
    refine rThen ?_
    refine rRet ?_
    have hy := Option.some.inj hT; subst hy
    exact zEnd0 hX rfl
  · cases h
def residue_every_residue_b1 (N : Nat) (a8 : Int) (a9 : Bool) (a10 : Int) (a11 : Int) (a12 : (List Int)) (a13 : (List Int)) (a14 : (List (List (Bool × (Int × Int))))) (a15 : Int) (s1 : (Int × (List Int))) : Option ((Int × (List Int)) ⊕ (List Int)) :=
  bif (decide (s1.1 < 6)) then
    let c2 := (overspill_residue_cell_residue N a8 a9 a10 a11 a12 a13 a14 a15 s1.1)
    if c2.isSome = true ∧ (0 : Int) ≤ s1.1 ∧ s1.1 < 6 ∧ (64 * (s1.1).toNat) + 64 ≤ 384 then
      if inK .i64 (s1.1 + 1) then
        some (.inl ((s1.1 + 1), (layL s1.2 (64 * (s1.1).toNat) (c2.getD default) 64)))
      else none
    else none
  else
    some (.inr s1.2)
def residue_every_residue (N : Nat) (a1 : Int) (a2 : Bool) (a3 : Int) (a4 : Int) (a5 : (List Int)) (a6 : (List Int)) (a7 : (List (List (Bool × (Int × Int))))) (a8 : Int) (a9 : Bool) (a10 : Int) (a11 : Int) (a12 : (List Int)) (a13 : (List Int)) (a14 : (List (List (Bool × (Int × Int))))) (a15 : Int) : Option ((List Int) × Int) :=
  let c1 := (cellout_Right N true a1 a2 a3 a4 a5 a6 a7)
  if c1.isSome = true then
    bif (!(c1.getD default)) then
      some ((List.replicate 384 0), 12)
    else
      (iter (residue_every_residue_b1 N a8 a9 a10 a11 a12 a13 a14 a15) N (0, (List.replicate 384 0))).bind fun v1 =>
        some (v1, 0)
  else none
def sp_residue_every_residue (N : Nat) : X.Spec := fun args lk => match args with
  | [.v (.agg [.cs [.int .i64 a1, .bool a2, .int .i64 a3, .int .i64 a4], .ints 2 .i64 a5, .ints 6 .i64 a6, .fzs 6 (.pair .bool (.pair (.int .i64) (.int .i64))) a7]), .fnv 13 [.agg [.cs [.int .i64 a8, .bool a9, .int .i64 a10, .int .i64 a11], .ints 2 .i64 a12, .ints 6 .i64 a13, .fzs 6 (.pair .bool (.pair (.int .i64) (.int .i64))) a14, .cs [.int .i64 a15]]] []] => some ⟨(residue_every_residue N a1 a2 a3 a4 a5 a6 a7 a8 a9 a10 a11 a12 a13 a14 a15).isSome = true, .tup [.agg [.ints 384 .i64 ((residue_every_residue N a1 a2 a3 a4 a5 a6 a7 a8 a9 a10 a11 a12 a13 a14 a15).getD default).1], .c (.int .i64 ((residue_every_residue N a1 a2 a3 a4 a5 a6 a7 a8 a9 a10 a11 a12 a13 a14 a15).getD default).2)], [], []⟩
  | _ => none
set_option maxRecDepth 100000 in
set_option maxHeartbeats 1000000 in
theorem ok_residue_every_residue (N : Nat) : FnOK Tryd.prog gt0 12 (sp_residue_every_residue N) := by
  refine fnOK_handed Tryd.func12 rfl (by kernel_rfl) tt_ok (ktCons (ok_overspill_residue_cell_residue N) (ktCons (ok_cellout_Right N) (ktNil))) ?_
  intro args lk r h hp
  unfold sp_residue_every_residue at h
  split at h
  · rename_i a1 a2 a3 a4 a5 a6 a7 a8 a9 a10 a11 a12 a13 a14 a15
    change (List Int) at a5
    change (List Int) at a6
    change (List (List (Bool × (Int × Int)))) at a7
    change (List Int) at a12
    change (List Int) at a13
    change (List (List (Bool × (Int × Int)))) at a14
    cases h
    obtain ⟨x, hx⟩ := Option.isSome_iff_exists.1 hp
    simp only [hx, Option.getD_some]
    refine hand0 rfl rfl (fun w0 M ε0 hX => ?_)
    refine rCount (fun hε => ?_)
    have hT : residue_every_residue N a1 a2 a3 a4 a5 a6 a7 a8 a9 a10 a11 a12 a13 a14 a15 = some x := hx; clear hx hp; unfold residue_every_residue at hT
    refine rSeq ?_
    refine zReg md0 hX rfl rfl rfl ?_
    refine rThen ?_
    refine rSeq ?_
    refine rSeq ?_
    let c1 := (cellout_Right N true a1 a2 a3 a4 a5 a6 a7)
    replace hT := sIf hT; obtain ⟨o1, hT⟩ := hT
    refine zReg md0 hX rfl rfl rfl ?_
    refine rThen ?_
    refine zCond rfl rfl (fun hc => ?_) (fun hc => ?_)
    · replace hT := sT hc hT
      refine rSeq ?_
      refine zReg md0 hX rfl rfl rfl ?_
      refine rThen ?_
      refine rRet ?_
      refine rThenRet ?_
      have hy := Option.some.inj hT; subst hy
      exact zEnd0 hX rfl
    · replace hT := sF hc hT
      refine rSkip ?_
      refine rThen ?_
      refine rSeq ?_
      refine zReg md0 hX rfl rfl rfl ?_
      refine rThen ?_
      refine rSeq ?_
      refine rSeq ?_
      refine zReg md0 hX rfl rfl rfl ?_
      refine rThen ?_
      refine rBlock ?_
      replace hT := sBind hT; obtain ⟨w1, hl, hT⟩ := hT
      refine rJoinA (fun v1 => v1 = w1) (fun v1 => ⟨[(4, .v (.c (.ptr 1 0 0 0 0 0))), (5, .v (.c (.int .i64 0))), (6, .v (.c (.ptr 2 0 0 0 0 0)))], [(1, .mem true 24 none (.flat [.ints 384 .i64 (List.replicate 384 0)])), (2, .mem true 24 none (.flat [.ints 384 .i64 v1]))], 3⟩) (.exit 0) (fun v1 hv => ?_) (fun hxs10 => ?_)
      · subst hv; clear hl
        refine rInHit ?_
        refine rThen ?_
        refine rSeq ?_
        refine zReg md0 hX rfl rfl rfl ?_
        refine rThen ?_
        refine rRet ?_
        have hy := Option.some.inj hT; subst hy
        exact zEnd0 hX rfl
      refine rLoopM (residue_every_residue_b1 N a8 a9 a10 a11 a12 a13 a14 a15) (fun s1 => ⟨[(1, .fnv 13 [.agg [.cs [.int .i64 a8, .bool a9, .int .i64 a10, .int .i64 a11], .ints 2 .i64 a12, .ints 6 .i64 a13, .fzs 6 (.pair .bool (.pair (.int .i64) (.int .i64))) a14, .cs [.int .i64 a15]]] []), (4, .v (.c (.ptr 1 0 0 0 0 0))), (5, .v (.c (.int .i64 0))), (6, .v (.c (.ptr 2 0 0 0 0 0))), (12, .v (.c (.int .i64 s1.1)))], [(1, .mem true 24 none (.flat [.ints 384 .i64 (List.replicate 384 0)])), (2, .mem true 24 none (.flat [.ints 384 .i64 s1.2]))], 3⟩) hl (To.mk' [] 0 hε rfl (by repeat' first | exact True.intro | exact rfl | apply And.intro) (by repeat' first | exact True.intro | exact rfl | apply And.intro)) (fun s1 zs1 NNs1 hz hnexts1 houts1 => ?_)
      clear hl hT
      have hT := hz; clear hz
      refine rSeq ?_
      refine zReg md0 hX rfl rfl rfl ?_
      refine rThen ?_
      refine rSeq ?_
      refine zCond rfl rfl (fun hc => ?_) (fun hc => ?_)
      · replace hT := sT hc hT
        refine rSkip ?_
        refine rThen ?_
        refine rSeq ?_
        refine rBlock ?_
        refine rSeq ?_
        refine zReg md0 hX rfl rfl rfl ?_
        refine rThen ?_
        let c2 := (overspill_residue_cell_residue N a8 a9 a10 a11 a12 a13 a14 a15 s1.1)
        replace hT := sIf hT; obtain ⟨⟨o1, o2, o3, o4⟩, hT⟩ := hT
        refine zReg md0 hX rfl rfl rfl ?_
        refine rInNormal ?_
        refine rThen ?_
        replace hT := sIf hT; obtain ⟨o1, hT⟩ := hT
        refine zReg md0 hX rfl rfl rfl ?_
        exact hnexts1 _ (Option.some.inj hT).symm _ (To.mk' [] 0 hε rfl (by repeat' first | exact True.intro | exact rfl | apply And.intro) (by repeat' first | exact True.intro | exact rfl | apply And.intro))
      · replace hT := sF hc hT
        refine rExit ?_
        refine rThenExit ?_
        refine rThenExit ?_
        exact zTo [] 0 hε (hxs10 _ (houts1 _ (Option.some.inj hT).symm))
  · cases h
def residue_Of (N : Nat) (a1 : Int) (a2 : Bool) (a3 : Int) (a4 : Int) (a5 : (List Int)) (a6 : (List Int)) (a7 : (List (List (Bool × (Int × Int))))) (a8 : Int) : Option ((List Int) × Int) :=
  let c1 := (residue_every_residue N a1 a2 a3 a4 a5 a6 a7 a1 a2 a3 a4 a5 a6 a7 a8)
  if c1.isSome = true then
    some ((c1.getD default).1, (c1.getD default).2)
  else none
def sp_residue_Of (N : Nat) : X.Spec := fun args lk => match args with
  | [.v (.agg [.cs [.int .i64 a1, .bool a2, .int .i64 a3, .int .i64 a4], .ints 2 .i64 a5, .ints 6 .i64 a6, .fzs 6 (.pair .bool (.pair (.int .i64) (.int .i64))) a7]), .v (.c (.int .i64 a8))] => some ⟨(residue_Of N a1 a2 a3 a4 a5 a6 a7 a8).isSome = true, .tup [.agg [.ints 384 .i64 ((residue_Of N a1 a2 a3 a4 a5 a6 a7 a8).getD default).1], .c (.int .i64 ((residue_Of N a1 a2 a3 a4 a5 a6 a7 a8).getD default).2)], [], []⟩
  | _ => none
set_option maxRecDepth 100000 in
set_option maxHeartbeats 1000000 in
theorem ok_residue_Of (N : Nat) : FnOK Tryd.prog gt0 10 (sp_residue_Of N) := by
  refine fnOK_handed Tryd.func10 rfl (by kernel_rfl) tt_ok (ktCons (ok_residue_every_residue N) (ktNil)) ?_
  intro args lk r h hp
  unfold sp_residue_Of at h
  split at h
  · rename_i a1 a2 a3 a4 a5 a6 a7 a8
    change (List Int) at a5
    change (List Int) at a6
    change (List (List (Bool × (Int × Int)))) at a7
    cases h
    obtain ⟨x, hx⟩ := Option.isSome_iff_exists.1 hp
    simp only [hx, Option.getD_some]
    refine hand0 rfl rfl (fun w0 M ε0 hX => ?_)
    refine rCount (fun hε => ?_)
    have hT : residue_Of N a1 a2 a3 a4 a5 a6 a7 a8 = some x := hx; clear hx hp; unfold residue_Of at hT
    refine rSeq ?_
    refine zReg md0 hX rfl rfl rfl ?_
    refine rThen ?_
    refine rSeq ?_
    let c1 := (residue_every_residue N a1 a2 a3 a4 a5 a6 a7 a1 a2 a3 a4 a5 a6 a7 a8)
    replace hT := sIf hT; obtain ⟨o1, hT⟩ := hT
    refine zReg md0 hX rfl rfl rfl ?_
    refine rThen ?_
    refine rRet ?_
    have hy := Option.some.inj hT; subst hy
    exact zEnd0 hX rfl
  · cases h
def formats_Size (N : Nat) (a1 : Int) : Option (Int × Int × Bool) :=
  bif (decide (a1 = 1)) then
    some (128, 96, true)
  else
    bif (decide (a1 = 2)) then
      some (176, 144, true)
    else
      bif (decide (a1 = 3)) then
        some (352, 288, true)
      else
        bif (decide (a1 = 4)) then
          some (704, 576, true)
        else
          bif (decide (a1 = 5)) then
            some (1408, 1152, true)
          else
            bif (decide (a1 = 6)) then
              some (32, 32, true)
            else
              some (0, 0, false)
def sp_formats_Size (N : Nat) : X.Spec := fun args lk => match args with
  | [.v (.c (.int .i64 a1))] => some ⟨(formats_Size N a1).isSome = true, .tup [.c (.int .i64 ((formats_Size N a1).getD default).1), .c (.int .i64 ((formats_Size N a1).getD default).2.1), .c (.bool ((formats_Size N a1).getD default).2.2)], [], []⟩
  | _ => none
set_option maxRecDepth 100000 in
set_option maxHeartbeats 1000000 in
theorem ok_formats_Size (N : Nat) : FnOK Tryd.prog gt0 24 (sp_formats_Size N) := by
  refine fnOK_handed Tryd.func24 rfl (by kernel_rfl) tt_ok (ktNil) ?_
  intro args lk r h hp
  unfold sp_formats_Size at h
  split at h
  · rename_i a1
    cases h
    obtain ⟨x, hx⟩ := Option.isSome_iff_exists.1 hp
    simp only [hx, Option.getD_some]
    refine hand0 rfl rfl (fun w0 M ε0 hX => ?_)
    refine rCount (fun hε => ?_)
    have hT : formats_Size N a1 = some x := hx; clear hx hp; unfold formats_Size at hT
    refine rSeq ?_
    refine zReg md0 hX rfl rfl rfl ?_
    refine rThen ?_
    refine rSeq ?_
    refine rSeq ?_
    refine zReg md0 hX rfl rfl rfl ?_
    refine rThen ?_
    refine rBlock ?_
    refine rSeq ?_
    refine zReg md0 hX rfl rfl rfl ?_
    refine rThen ?_
    refine zCond rfl rfl (fun hc => ?_) (fun hc => ?_)
    · replace hT := sT hc hT
      refine rSeq ?_
      refine zReg md0 hX rfl rfl rfl ?_
      refine rThen ?_
      refine rRet ?_
      refine rInRet ?_
      refine rThenRet ?_
      have hy := Option.some.inj hT; subst hy
      exact zEnd0 hX rfl
    · replace hT := sF hc hT
      refine rSeq ?_
      refine zReg md0 hX rfl rfl rfl ?_
      refine rThen ?_
      refine zCond rfl rfl (fun hc => ?_) (fun hc => ?_)
      · replace hT := sT hc hT
        refine rSeq ?_
        refine zReg md0 hX rfl rfl rfl ?_
        refine rThen ?_
        refine rRet ?_
        refine rInRet ?_
        refine rThenRet ?_
        have hy := Option.some.inj hT; subst hy
        exact zEnd0 hX rfl
      · replace hT := sF hc hT
        refine rSeq ?_
        refine zReg md0 hX rfl rfl rfl ?_
        refine rThen ?_
        refine zCond rfl rfl (fun hc => ?_) (fun hc => ?_)
        · replace hT := sT hc hT
          refine rSeq ?_
          refine zReg md0 hX rfl rfl rfl ?_
          refine rThen ?_
          refine rRet ?_
          refine rInRet ?_
          refine rThenRet ?_
          have hy := Option.some.inj hT; subst hy
          exact zEnd0 hX rfl
        · replace hT := sF hc hT
          refine rSeq ?_
          refine zReg md0 hX rfl rfl rfl ?_
          refine rThen ?_
          refine zCond rfl rfl (fun hc => ?_) (fun hc => ?_)
          · replace hT := sT hc hT
            refine rSeq ?_
            refine zReg md0 hX rfl rfl rfl ?_
            refine rThen ?_
            refine rRet ?_
            refine rInRet ?_
            refine rThenRet ?_
            have hy := Option.some.inj hT; subst hy
            exact zEnd0 hX rfl
          · replace hT := sF hc hT
            refine rSeq ?_
            refine zReg md0 hX rfl rfl rfl ?_
            refine rThen ?_
            refine zCond rfl rfl (fun hc => ?_) (fun hc => ?_)
            · replace hT := sT hc hT
              refine rSeq ?_
              refine zReg md0 hX rfl rfl rfl ?_
              refine rThen ?_
              refine rRet ?_
              refine rInRet ?_
              refine rThenRet ?_
              have hy := Option.some.inj hT; subst hy
              exact zEnd0 hX rfl
            · replace hT := sF hc hT
              refine rSeq ?_
              refine zReg md0 hX rfl rfl rfl ?_
              refine rThen ?_
              refine zCond rfl rfl (fun hc => ?_) (fun hc => ?_)
              · replace hT := sT hc hT
                refine rSeq ?_
                refine zReg md0 hX rfl rfl rfl ?_
                refine rThen ?_
                refine rRet ?_
                refine rInRet ?_
                refine rThenRet ?_
                have hy := Option.some.inj hT; subst hy
                exact zEnd0 hX rfl
              · replace hT := sF hc hT
                refine rSkip ?_
                refine rInNormal ?_
                refine rThen ?_
                refine rSeq ?_
                refine zReg md0 hX rfl rfl rfl ?_
                refine rThen ?_
                refine rRet ?_
                have hy := Option.some.inj hT; subst hy
                exact zEnd0 hX rfl
  · cases h
def formats_Cells (N : Nat) (a1 : Int) : Option (Int × Int) :=
  let c1 := (formats_Size N a1)
  if c1.isSome = true then
    if (0 : Int) ≤ (c1.getD default).1 ∧ (0 : Int) ≤ (c1.getD default).2.1 then
      some (((c1.getD default).1 / 16), ((c1.getD default).2.1 / 16))
    else none
  else none
def sp_formats_Cells (N : Nat) : X.Spec := fun args lk => match args with
  | [.v (.c (.int .i64 a1))] => some ⟨(formats_Cells N a1).isSome = true, .tup [.c (.int .i64 ((formats_Cells N a1).getD default).1), .c (.int .i64 ((formats_Cells N a1).getD default).2)], [], []⟩
  | _ => none
set_option maxRecDepth 100000 in
set_option maxHeartbeats 1000000 in
theorem ok_formats_Cells (N : Nat) : FnOK Tryd.prog gt0 14 (sp_formats_Cells N) := by
  refine fnOK_handed Tryd.func14 rfl (by kernel_rfl) tt_ok (ktCons (ok_formats_Size N) (ktNil)) ?_
  intro args lk r h hp
  unfold sp_formats_Cells at h
  split at h
  · rename_i a1
    cases h
    obtain ⟨x, hx⟩ := Option.isSome_iff_exists.1 hp
    simp only [hx, Option.getD_some]
    refine hand0 rfl rfl (fun w0 M ε0 hX => ?_)
    refine rCount (fun hε => ?_)
    have hT : formats_Cells N a1 = some x := hx; clear hx hp; unfold formats_Cells at hT
    refine rSeq ?_
    refine zReg md0 hX rfl rfl rfl ?_
    refine rThen ?_
    refine rSeq ?_
    let c1 := (formats_Size N a1)
    replace hT := sIf hT; obtain ⟨o1, hT⟩ := hT
    refine zReg md0 hX rfl rfl rfl ?_
    refine rThen ?_
    refine rSeq ?_
    replace hT := sIf hT; obtain ⟨⟨o1, o2⟩, hT⟩ := hT
    refine zReg md0 hX rfl rfl rfl ?_
    refine rThen ?_
    refine rRet ?_
    have hy := Option.some.inj hT; subst hy
    exact zEnd0 hX rfl
  · cases h
def formats_Plane (N : Nat) (a1 : Int) (a2 : Int) : Option (Int × Int) :=
  let c1 := (formats_Size N a1)
  if c1.isSome = true then
    bif (decide (a2 = 0)) then
      some ((c1.getD default).1, (c1.getD default).2.1)
    else
      bif (bif (decide (a2 = 1)) then (decide (a2 = 1)) else (decide (a2 = 2))) then
        if (0 : Int) ≤ (c1.getD default).1 ∧ (0 : Int) ≤ (c1.getD default).2.1 then
          some (((c1.getD default).1 / 2), ((c1.getD default).2.1 / 2))
        else none
      else
        some (0, 0)
  else none
def sp_formats_Plane (N : Nat) : X.Spec := fun args lk => match args with
  | [.v (.c (.int .i64 a1)), .v (.c (.int .i64 a2))] => some ⟨(formats_Plane N a1 a2).isSome = true, .tup [.c (.int .i64 ((formats_Plane N a1 a2).getD default).1), .c (.int .i64 ((formats_Plane N a1 a2).getD default).2)], [], []⟩
  | _ => none
set_option maxRecDepth 100000 in
set_option maxHeartbeats 1000000 in
theorem ok_formats_Plane (N : Nat) : FnOK Tryd.prog gt0 17 (sp_formats_Plane N) := by
  refine fnOK_handed Tryd.func17 rfl (by kernel_rfl) tt_ok (ktCons (ok_formats_Size N) (ktNil)) ?_
  intro args lk r h hp
  unfold sp_formats_Plane at h
  split at h
  · rename_i a1 a2
    cases h
    obtain ⟨x, hx⟩ := Option.isSome_iff_exists.1 hp
    simp only [hx, Option.getD_some]
    refine hand0 rfl rfl (fun w0 M ε0 hX => ?_)
    refine rCount (fun hε => ?_)
    have hT : formats_Plane N a1 a2 = some x := hx; clear hx hp; unfold formats_Plane at hT
    refine rSeq ?_
    refine zReg md0 hX rfl rfl rfl ?_
    refine rThen ?_
    refine rSeq ?_
    let c1 := (formats_Size N a1)
    replace hT := sIf hT; obtain ⟨o1, hT⟩ := hT
    refine zReg md0 hX rfl rfl rfl ?_
    refine rThen ?_
    refine rSeq ?_
    refine rSeq ?_
    refine zReg md0 hX rfl rfl rfl ?_
    refine rThen ?_
    refine rBlock ?_
    refine rSeq ?_
    refine zReg md0 hX rfl rfl rfl ?_
    refine rThen ?_
    refine zCond rfl rfl (fun hc => ?_) (fun hc => ?_)
    · replace hT := sT hc hT
      refine rSeq ?_
      refine zReg md0 hX rfl rfl rfl ?_
      refine rThen ?_
      refine rRet ?_
      refine rInRet ?_
      refine rThenRet ?_
      have hy := Option.some.inj hT; subst hy
      exact zEnd0 hX rfl
    · replace hT := sF hc hT
      refine rSeq ?_
      refine rSeq ?_
      refine zReg md0 hX rfl rfl rfl ?_
      refine rThen ?_
      refine rJoin ⟨[(4, .v (.c (.int .i64 0))), (5, .v (.c (.int .i64 0))), (6, .v (.c (.int .i64 (c1.getD default).1))), (7, .v (.c (.int .i64 (c1.getD default).2.1))), (20, .v (.c (.bool (bif (decide (a2 = 1)) then (decide (a2 = 1)) else (decide (a2 = 2))))))], [], 0⟩ ?_ (fun hj => ?_)
      · skip
        refine rThen ?_
        refine zCond rfl rfl (fun hc => ?_) (fun hc => ?_)
        · replace hT := sT hc hT
          refine rSeq ?_
          replace hT := sIf hT; obtain ⟨⟨o1, o2⟩, hT⟩ := hT
          refine zReg md0 hX rfl rfl rfl ?_
          refine rThen ?_
          refine rRet ?_
          refine rInRet ?_
          refine rThenRet ?_
          have hy := Option.some.inj hT; subst hy
          exact zEnd0 hX rfl
        · replace hT := sF hc hT
          refine rSkip ?_
          refine rInNormal ?_
          refine rThen ?_
          refine rSeq ?_
          refine zReg md0 hX rfl rfl rfl ?_
          refine rThen ?_
          refine rRet ?_
          have hy := Option.some.inj hT; subst hy
          exact zEnd0 hX rfl
      · clear hT
        refine zCond rfl rfl (fun hc => ?_) (fun hc => ?_)
        · skip
          refine rSkip ?_
          exact rTo (To.mk' [] 0 hε rfl (by (repeat' first | exact True.intro | exact rfl | apply And.intro) <;> (repeat' first | exact rfl | refine Eq.trans ?_ (cTr (by assumption)) | refine Eq.trans ?_ (cFr (by assumption)) | refine Eq.trans (cTl (by assumption)) ?_ | refine Eq.trans (cFl (by assumption)) ?_)) (by (repeat' first | exact True.intro | exact rfl | apply And.intro) <;> (repeat' first | exact rfl | refine Eq.trans ?_ (cTr (by assumption)) | refine Eq.trans ?_ (cFr (by assumption)) | refine Eq.trans (cTl (by assumption)) ?_ | refine Eq.trans (cFl (by assumption)) ?_))) hj
        · skip
          refine zReg md0 hX rfl rfl rfl ?_
          exact rTo (To.mk' [] 0 hε rfl (by (repeat' first | exact True.intro | exact rfl | apply And.intro) <;> (repeat' first | exact rfl | refine Eq.trans ?_ (cTr (by assumption)) | refine Eq.trans ?_ (cFr (by assumption)) | refine Eq.trans (cTl (by assumption)) ?_ | refine Eq.trans (cFl (by assumption)) ?_)) (by (repeat' first | exact True.intro | exact rfl | apply And.intro) <;> (repeat' first | exact rfl | refine Eq.trans ?_ (cTr (by assumption)) | refine Eq.trans ?_ (cFr (by assumption)) | refine Eq.trans (cTl (by assumption)) ?_ | refine Eq.trans (cFl (by assumption)) ?_))) hj
  · cases h
def planes_Right_b1 (N : Nat) (a1 : Int) (a2 : (List (List Int))) (s1 : (Bool × Int)) : Option ((Bool × Int) ⊕ Bool) :=
  bif (decide (s1.2 < 3)) then
    if (0 : Int) ≤ s1.2 ∧ s1.2 < 3 ∧ (s1.2).toNat < 3 then
      let c2 := (formats_Plane N a1 s1.2)
      if c2.isSome = true then
        let x1 := (bif s1.1 then (decide (((a2.getD (s1.2).toNat []).length : Int) = ((c2.getD default).1 * (c2.getD default).2))) else false)
        if (s1.1 = true → inK .i64 ((c2.getD default).1 * (c2.getD default).2)) then
          if inK .i64 (s1.2 + 1) then
            some (.inl (x1, (s1.2 + 1)))
          else none
        else none
      else none
    else none
  else
    some (.inr s1.1)
def planes_Right (N : Nat) (a1 : Int) (a2 : (List (List Int))) : Option Bool :=
  let c1 := (formats_Size N a1)
  if c1.isSome = true then
    (iter (planes_Right_b1 N a1 a2) N ((c1.getD default).2.2, 0)).bind fun v1 =>
      some v1
  else none
def sp_planes_Right (N : Nat) : X.Spec := fun args lk => match args with
  | [.v (.agg [.cs [.int .i64 a1], .fzs 3 (.int .u8) a2])] => some ⟨(planes_Right N a1 a2).isSome = true, .v (.c (.bool ((planes_Right N a1 a2).getD default))), [], []⟩
  | _ => none
set_option maxRecDepth 100000 in
set_option maxHeartbeats 1000000 in
theorem ok_planes_Right (N : Nat) : FnOK Tryd.prog gt0 15 (sp_planes_Right N) := by
  refine fnOK_handed Tryd.func15 rfl (by kernel_rfl) tt_ok (ktCons (ok_formats_Plane N) (ktCons (ok_formats_Size N) (ktNil))) ?_
  intro args lk r h hp
  unfold sp_planes_Right at h
  split at h
  · rename_i a1 a2
    change (List (List Int)) at a2
    cases h
    obtain ⟨x, hx⟩ := Option.isSome_iff_exists.1 hp
    simp only [hx, Option.getD_some]
    refine hand0 rfl rfl (fun w0 M ε0 hX => ?_)
    refine rCount (fun hε => ?_)
    have hT : planes_Right N a1 a2 = some x := hx; clear hx hp; unfold planes_Right at hT
    refine rSeq ?_
    refine zReg md0 hX rfl rfl rfl ?_
    refine rThen ?_
    refine rSeq ?_
    let c1 := (formats_Size N a1)
    replace hT := sIf hT; obtain ⟨o1, hT⟩ := hT
    refine zReg md0 hX rfl rfl rfl ?_
    refine rThen ?_
    refine rSeq ?_
    refine rSeq ?_
    refine zReg md0 hX rfl rfl rfl ?_
    refine rThen ?_
    refine rBlock ?_
    replace hT := sBind hT; obtain ⟨w1, hl, hT⟩ := hT
    refine rJoinA (fun v1 => v1 = w1) (fun v1 => ⟨[(2, .v (.c (.bool false))), (5, .v (.c (.bool v1)))], [], 1⟩) (.exit 0) (fun v1 hv => ?_) (fun hxs10 => ?_)
    · subst hv; clear hl
      refine rInHit ?_
      refine rThen ?_
      refine rSeq ?_
      refine zReg md0 hX rfl rfl rfl ?_
      refine rThen ?_
      refine rRet ?_
      have hy := Option.some.inj hT; subst hy
      exact zEnd0 hX rfl
    refine rLoopM (planes_Right_b1 N a1 a2) (fun s1 => ⟨[(1, .v (.c (.ptr 0 0 0 0 0 0))), (2, .v (.c (.bool false))), (5, .v (.c (.bool s1.1))), (18, .v (.agg [.fzs 3 (.int .u8) a2])), (19, .v (.c (.int .i64 s1.2)))], [(0, .mem true 35 none (.flat [.cs [.int .i64 a1], .fzs 3 (.int .u8) a2]))], 1⟩) hl (To.mk' [] 0 hε rfl (by repeat' first | exact True.intro | exact rfl | apply And.intro) (by repeat' first | exact True.intro | exact rfl | apply And.intro)) (fun s1 zs1 NNs1 hz hnexts1 houts1 => ?_)
    clear hl hT
    have hT := hz; clear hz
    refine rSeq ?_
    refine zReg md0 hX rfl rfl rfl ?_
    refine rThen ?_
    refine rSeq ?_
    refine zCond rfl rfl (fun hc => ?_) (fun hc => ?_)
    · replace hT := sT hc hT
      refine rSkip ?_
      refine rThen ?_
      refine rSeq ?_
      refine rBlock ?_
      refine rSeq ?_
      replace hT := sIf hT; obtain ⟨⟨o1, o2, o3⟩, hT⟩ := hT
      refine zReg md0 hX rfl rfl rfl ?_
      refine rThen ?_
      refine rSeq ?_
      let c2 := (formats_Plane N a1 s1.2)
      replace hT := sIf hT; obtain ⟨o1, hT⟩ := hT
      refine zReg md0 hX rfl rfl rfl ?_
      refine rThen ?_
      let x1 := (bif s1.1 then (decide (((a2.getD (s1.2).toNat []).length : Int) = ((c2.getD default).1 * (c2.getD default).2))) else false)
      replace hT := sIf hT; obtain ⟨o1, hT⟩ := hT
      refine rRegC md0 hX rfl rfl rfl (by (repeat' first | exact True.intro | with_reducible assumption | (with_reducible apply And.intro) | intro _) <;> first | assumption | exact o1 (by assumption) | exact rfl | omega | exact Nat.le_of_ble_eq_true rfl | exact selF (by assumption) | exact selT (by assumption) | exact And.intro rfl rfl | exact And.intro (by assumption) rfl | exact And.intro (by omega) rfl | (simp only [inK] at *; omega) | (simp_all [sel] <;> fail) | fail) ?_
      refine rInNormal ?_
      refine rThen ?_
      replace hT := sIf hT; obtain ⟨o1, hT⟩ := hT
      refine zReg md0 hX rfl rfl rfl ?_
      exact hnexts1 _ (Option.some.inj hT).symm _ (To.mk' [] 0 hε rfl (by repeat' first | exact True.intro | exact rfl | apply And.intro) (by repeat' first | exact True.intro | exact rfl | apply And.intro))
    · replace hT := sF hc hT
      refine rExit ?_
      refine rThenExit ?_
      refine rThenExit ?_
      exact zTo [] 0 hε (hxs10 _ (houts1 _ (Option.some.inj hT).symm))
  · cases h
def motion_within (N : Nat) (a1 : Int) (a2 : Int) (a3 : Int) : Option Bool :=
  if ((decide ((0 : Int) ≤ a1)) = true → inK .i64 (a1 + 1)) ∧ ((decide ((0 : Int) ≤ a1)) = true → (0 : Int) ≤ (a1 + 1)) ∧ ((decide ((0 : Int) ≤ a1)) = true → inK .i64 (((a1 + 1) / 2) + a2)) then
    some (bif (decide ((0 : Int) ≤ a1)) then (decide ((((a1 + 1) / 2) + a2) ≤ a3)) else false)
  else none
def sp_motion_within (N : Nat) : X.Spec := fun args lk => match args with
  | [.v (.c (.int .i64 a1)), .v (.c (.int .i64 a2)), .v (.c (.int .i64 a3))] => some ⟨(motion_within N a1 a2 a3).isSome = true, .v (.c (.bool ((motion_within N a1 a2 a3).getD default))), [], []⟩
  | _ => none
set_option maxRecDepth 100000 in
set_option maxHeartbeats 1000000 in
theorem ok_motion_within (N : Nat) : FnOK Tryd.prog gt0 25 (sp_motion_within N) := by
  refine fnOK_handed Tryd.func25 rfl (by kernel_rfl) tt_ok (ktNil) ?_
  intro args lk r h hp
  unfold sp_motion_within at h
  split at h
  · rename_i a1 a2 a3
    cases h
    obtain ⟨x, hx⟩ := Option.isSome_iff_exists.1 hp
    simp only [hx, Option.getD_some]
    refine hand0 rfl rfl (fun w0 M ε0 hX => ?_)
    refine rCount (fun hε => ?_)
    have hT : motion_within N a1 a2 a3 = some x := hx; clear hx hp; unfold motion_within at hT
    refine rSeq ?_
    refine zReg md0 hX rfl rfl rfl ?_
    refine rThen ?_
    refine rSeq ?_
    replace hT := sIf hT; obtain ⟨⟨o1, o2, o3⟩, hT⟩ := hT
    refine rRegC md0 hX rfl rfl rfl (by (repeat' first | exact True.intro | with_reducible assumption | (with_reducible apply And.intro) | intro _) <;> first | assumption | exact o1 (by assumption) | exact o2 (by assumption) | exact o3 (by assumption) | exact rfl | omega | exact Nat.le_of_ble_eq_true rfl | exact selF (by assumption) | exact selT (by assumption) | exact And.intro rfl rfl | exact And.intro (by assumption) rfl | exact And.intro (by omega) rfl | (simp only [inK] at *; omega) | (simp_all [sel] <;> fail) | fail) ?_
    refine rThen ?_
    refine rRet ?_
    have hy := Option.some.inj hT; subst hy
    exact zEnd0 hX rfl
  · cases h
def motion_May_b1 (N : Nat) (a3 : (List Int)) (s1 : Int) : Option (Int ⊕ (Unit ⊕ Unit)) :=
  bif (decide (s1 < 2)) then
    if (0 : Int) ≤ s1 ∧ s1 < 2 ∧ (s1).toNat < 2 then
      let x2 := (bif (decide ((a3.getD (s1).toNat 0) < (-32))) then true else (decide ((31 : Int) < (a3.getD (s1).toNat 0))))
      bif x2 then
        some (.inr (Sum.inl ()))
      else
        if inK .i64 (s1 + 1) then
          some (.inl (s1 + 1))
        else none
    else none
  else
    some (.inr (Sum.inr ()))
def motion_May (N : Nat) (a1 : Int) (a2 : Int) (a3 : (List Int)) : Option Bool :=
  let c1 := (formats_Cells N a1)
  if c1.isSome = true then
    let c2 := (formats_Size N a1)
    if c2.isSome = true then
      let x1 := (bif (bif (!(c2.getD default).2.2) then true else (decide (a2 < 0))) then true else (decide (((c1.getD default).1 * (c1.getD default).2) ≤ a2)))
      if ((!(bif (!(c2.getD default).2.2) then true else (decide (a2 < 0)))) = true → inK .i64 ((c1.getD default).1 * (c1.getD default).2)) then
        bif x1 then
          some false
        else
          (iter (motion_May_b1 N a3) N 0).bind fun w1 =>
            (Sum.elim (fun v1 =>
              some false
            )
              (fun v2 =>
                let c3 := (motion_within N (((32 : Int) * (a2 % (c1.getD default).1)) + (a3.getD 0 0)) 16 (c2.getD default).1)
                let c4 := (motion_within N (((32 : Int) * (a2 / (c1.getD default).1)) + (a3.getD 1 0)) 16 (c2.getD default).2.1)
                if (0 : Int) ≤ a2 ∧ (0 : Int) < (c1.getD default).1 ∧ inK .i64 ((32 : Int) * (a2 % (c1.getD default).1)) ∧ inK .i64 (((32 : Int) * (a2 % (c1.getD default).1)) + (a3.getD 0 0)) ∧ c3.isSome = true ∧ ((c3.getD default) = true → (0 : Int) ≤ a2) ∧ ((c3.getD default) = true → (0 : Int) < (c1.getD default).1) ∧ ((c3.getD default) = true → inK .i64 ((32 : Int) * (a2 / (c1.getD default).1))) ∧ ((c3.getD default) = true → inK .i64 (((32 : Int) * (a2 / (c1.getD default).1)) + (a3.getD 1 0))) ∧ ((c3.getD default) = true → c4.isSome = true) then
                  some (bif (c3.getD default) then (c4.getD default) else false)
                else none
              )
            ) w1
      else none
    else none
  else none
def sp_motion_May (N : Nat) : X.Spec := fun args lk => match args with
  | [.v (.c (.int .i64 a1)), .v (.c (.int .i64 a2)), .v (.agg [.ints 2 .i64 a3])] => some ⟨(motion_May N a1 a2 a3).isSome = true, .v (.c (.bool ((motion_May N a1 a2 a3).getD default))), [], []⟩
  | _ => none
set_option maxRecDepth 100000 in
set_option maxHeartbeats 1000000 in
theorem ok_motion_May (N : Nat) : FnOK Tryd.prog gt0 16 (sp_motion_May N) := by
  refine fnOK_handed Tryd.func16 rfl (by kernel_rfl) tt_ok (ktCons (ok_motion_within N) (ktCons (ok_formats_Size N) (ktCons (ok_formats_Cells N) (ktNil)))) ?_
  intro args lk r h hp
  unfold sp_motion_May at h
  split at h
  · rename_i a1 a2 a3
    change (List Int) at a3
    cases h
    obtain ⟨x, hx⟩ := Option.isSome_iff_exists.1 hp
    simp only [hx, Option.getD_some]
    refine hand0 rfl rfl (fun w0 M ε0 hX => ?_)
    refine rCount (fun hε => ?_)
    have hT : motion_May N a1 a2 a3 = some x := hx; clear hx hp; unfold motion_May at hT
    refine rSeq ?_
    refine zReg md0 hX rfl rfl rfl ?_
    refine rThen ?_
    refine rSeq ?_
    let c1 := (formats_Cells N a1)
    replace hT := sIf hT; obtain ⟨o1, hT⟩ := hT
    refine zReg md0 hX rfl rfl rfl ?_
    refine rThen ?_
    refine rSeq ?_
    let c2 := (formats_Size N a1)
    replace hT := sIf hT; obtain ⟨o1, hT⟩ := hT
    refine zReg md0 hX rfl rfl rfl ?_
    refine rThen ?_
    refine rSeq ?_
    refine rSeq ?_
    let x1 := (bif (bif (!(c2.getD default).2.2) then true else (decide (a2 < 0))) then true else (decide (((c1.getD default).1 * (c1.getD default).2) ≤ a2)))
    replace hT := sIf hT; obtain ⟨o1, hT⟩ := hT
    refine rRegC md0 hX rfl rfl rfl (by (repeat' first | exact True.intro | with_reducible assumption | (with_reducible apply And.intro) | intro _) <;> first | assumption | exact o1 (by assumption) | exact rfl | omega | exact Nat.le_of_ble_eq_true rfl | exact selF (by assumption) | exact selT (by assumption) | exact And.intro rfl rfl | exact And.intro (by assumption) rfl | exact And.intro (by omega) rfl | (simp only [inK] at *; omega) | (simp_all [sel] <;> fail) | fail) ?_
    refine rThen ?_
    refine zCond rfl rfl (fun hc => ?_) (fun hc => ?_)
    · replace hT := sT hc hT
      refine rSeq ?_
      refine zReg md0 hX rfl rfl rfl ?_
      refine rThen ?_
      refine rRet ?_
      refine rThenRet ?_
      have hy := Option.some.inj hT; subst hy
      exact zEnd0 hX rfl
    · replace hT := sF hc hT
      refine rSkip ?_
      refine rThen ?_
      refine rSeq ?_
      refine rSeq ?_
      refine zReg md0 hX rfl rfl rfl ?_
      refine rThen ?_
      refine rBlock ?_
      replace hT := sBind hT; obtain ⟨w1, hl, hT⟩ := hT
      refine rJoinA (fun v1 => (Sum.inl v1) = w1) (fun v1 => ⟨[(6, .v (.c (.bool false)))], [], 1⟩) .ret (fun v1 hv => ?_) (fun hxs10 => ?_)
      · subst hv; clear hl; replace hT := (sElimL hT)
        refine rInRet ?_
        refine rThenRet ?_
        have hy := Option.some.inj hT; subst hy
        exact zEnd0 hX rfl
      refine rJoinA (fun v2 => (Sum.inr v2) = w1) (fun v2 => ⟨[(1, .v (.c (.int .i64 a2))), (5, .v (.c (.ptr 0 0 0 0 0 0))), (6, .v (.c (.bool false))), (7, .v (.c (.int .i64 (c1.getD default).1))), (9, .v (.c (.int .i64 (c2.getD default).1))), (10, .v (.c (.int .i64 (c2.getD default).2.1)))], [(0, .mem true 37 none (.flat [.ints 2 .i64 a3]))], 1⟩) (.exit 0) (fun v2 hv => ?_) (fun hxs11 => ?_)
      · subst hv; clear hl; replace hT := (sElimR hT)
        refine rInHit ?_
        refine rThen ?_
        refine rSeq ?_
        let c3 := (motion_within N (((32 : Int) * (a2 % (c1.getD default).1)) + (a3.getD 0 0)) 16 (c2.getD default).1)
        let c4 := (motion_within N (((32 : Int) * (a2 / (c1.getD default).1)) + (a3.getD 1 0)) 16 (c2.getD default).2.1)
        replace hT := sIf hT; obtain ⟨⟨o1, o2, o3, o4, o5, o6, o7, o8, o9, o10⟩, hT⟩ := hT
        refine rDrawM md0 0 [] hX mixed rfl rfl rfl rfl rfl (by (repeat' first | exact True.intro | with_reducible assumption | (with_reducible apply And.intro) | intro _) <;> first | assumption | exact o6 (by assumption) | exact o7 (by assumption) | exact o8 (by assumption) | exact o9 (by assumption) | exact o10 (by assumption) | exact rfl | omega | exact Nat.le_of_ble_eq_true rfl | exact selF (by assumption) | exact selT (by assumption) | exact And.intro rfl rfl | exact And.intro (by assumption) rfl | exact And.intro (by omega) rfl | (simp only [inK] at *; omega) | (simp_all [sel] <;> fail) | fail) ?_
        refine rThen ?_
        refine rRet ?_
        have hy := Option.some.inj hT; subst hy
        exact zEnd0 hX rfl
      refine rLoopM (motion_May_b1 N a3) (fun s1 => ⟨[(1, .v (.c (.int .i64 a2))), (5, .v (.c (.ptr 0 0 0 0 0 0))), (6, .v (.c (.bool false))), (7, .v (.c (.int .i64 (c1.getD default).1))), (9, .v (.c (.int .i64 (c2.getD default).1))), (10, .v (.c (.int .i64 (c2.getD default).2.1))), (38, .v (.agg [.ints 2 .i64 a3])), (39, .v (.c (.int .i64 s1)))], [(0, .mem true 37 none (.flat [.ints 2 .i64 a3]))], 1⟩) hl (To.mk' [] 0 hε rfl (by repeat' first | exact True.intro | exact rfl | apply And.intro) (by repeat' first | exact True.intro | exact rfl | apply And.intro)) (fun s1 zs1 NNs1 hz hnexts1 houts1 => ?_)
      clear hl hT
      have hT := hz; clear hz
      refine rSeq ?_
      refine zReg md0 hX rfl rfl rfl ?_
      refine rThen ?_
      refine rSeq ?_
      refine zCond rfl rfl (fun hc => ?_) (fun hc => ?_)
      · replace hT := sT hc hT
        refine rSkip ?_
        refine rThen ?_
        refine rSeq ?_
        refine rBlock ?_
        refine rSeq ?_
        replace hT := sIf hT; obtain ⟨⟨o1, o2, o3⟩, hT⟩ := hT
        refine zReg md0 hX rfl rfl rfl ?_
        refine rThen ?_
        refine rSeq ?_
        let x2 := (bif (decide ((a3.getD (s1).toNat 0) < (-32))) then true else (decide ((31 : Int) < (a3.getD (s1).toNat 0))))
        refine zReg md0 hX rfl rfl rfl ?_
        refine rThen ?_
        refine zCond rfl rfl (fun hc => ?_) (fun hc => ?_)
        · replace hT := sT hc hT
          refine rSeq ?_
          refine zReg md0 hX rfl rfl rfl ?_
          refine rThen ?_
          refine rRet ?_
          refine rInRet ?_
          refine rThenRet ?_
          refine rThenRet ?_
          exact zTo [] 0 hε (hxs10 _ (houts1 _ (Option.some.inj hT).symm))
        · replace hT := sF hc hT
          refine rSkip ?_
          refine rInNormal ?_
          refine rThen ?_
          replace hT := sIf hT; obtain ⟨o1, hT⟩ := hT
          refine zReg md0 hX rfl rfl rfl ?_
          exact hnexts1 _ (Option.some.inj hT).symm _ (To.mk' [] 0 hε rfl (by repeat' first | exact True.intro | exact rfl | apply And.intro) (by repeat' first | exact True.intro | exact rfl | apply And.intro))
      · replace hT := sF hc hT
        refine rExit ?_
        refine rThenExit ?_
        refine rThenExit ?_
        exact zTo [] 0 hε (hxs11 _ (houts1 _ (Option.some.inj hT).symm))
  · cases h
def motion_halves (N : Nat) (a1 : (List Int)) (a2 : Int) : Option ((List Int) × Int) :=
  some (a1, a2)
def sp_motion_halves (N : Nat) : X.Spec := fun args lk => match args with
  | [.v (.c (.fz (.int .u8) a1)), .v (.c (.int .i64 a2))] => some ⟨(motion_halves N a1 a2).isSome = true, .v (.c (.clo 27 [0])), [.mem true 53 none (.flat [.cs [.clo 26 [1, 2]]]), .mem true 32 none (.flat [.cs [.fz (.int .u8) ((motion_halves N a1 a2).getD default).1]]), .mem true 3 none (.flat [.cs [.int .i64 ((motion_halves N a1 a2).getD default).2]])], []⟩
  | _ => none
set_option maxRecDepth 100000 in
set_option maxHeartbeats 1000000 in
theorem ok_motion_halves (N : Nat) : FnOK Tryd.prog gt0 18 (sp_motion_halves N) := by
  refine fnOK_handed Tryd.func18 rfl (by kernel_rfl) tt_ok (ktNil) ?_
  intro args lk r h hp
  unfold sp_motion_halves at h
  split at h
  · rename_i a1 a2
    change (List Int) at a1
    cases h
    obtain ⟨x, hx⟩ := Option.isSome_iff_exists.1 hp
    simp only [hx, Option.getD_some]
    refine hand0 rfl rfl (fun w0 M ε0 hX => ?_)
    refine rCount (fun hε => ?_)
    have hT : motion_halves N a1 a2 = some x := hx; clear hx hp; unfold motion_halves at hT
    refine rSeq ?_
    refine zReg md0 hX rfl rfl rfl ?_
    refine rThen ?_
    refine rSeq ?_
    refine zReg md0 hX rfl rfl rfl ?_
    refine rThen ?_
    refine rSeq ?_
    refine zReg md0 hX rfl rfl rfl ?_
    refine rThen ?_
    refine rRet ?_
    have hy := Option.some.inj hT; subst hy
    exact rEndA [2, 0, 1] [.mem true 53 none (.flat [.cs [.clo 26 [0, 1]]]), .mem true 32 none (.flat [.cs [.fz (.int .u8) a1]]), .mem true 3 none (.flat [.cs [.int .i64 a2]])] [] (.v (.c (.clo 27 [2]))) hX rfl (by repeat' first | exact True.intro | exact rfl | apply And.intro | omega | exact Nat.le_of_ble_eq_true rfl) (by repeat' first | exact True.intro | exact rfl | apply And.intro) rfl rfl rfl (by repeat' first | exact True.intro | exact rfl | exact ⟨_, rfl, rfl⟩ | apply And.intro | exact Or.inl rfl) rfl rfl (by repeat' first | exact True.intro | exact rfl | exact ⟨_, rfl, rfl⟩ | apply And.intro | exact Or.inl rfl) rfl rfl
  · cases h
def motion_halves_1 (N : Nat) (a1 : Int) (a2 : Int) (a3 : (List Int)) (a4 : Int) : Option Int :=
  if inK .i64 (a2 * a4) ∧ inK .i64 ((a2 * a4) + a1) ∧ (0 : Int) ≤ ((a2 * a4) + a1) ∧ ((a2 * a4) + a1) < (a3.length : Int) ∧ inK .i64 (a3.getD ((a2 * a4) + a1).toNat 0) then
    some (a3.getD ((a2 * a4) + a1).toNat 0)
  else none
def sp_motion_halves_1 (N : Nat) : X.Spec := fun args lk => match args with
  | [.v (.c (.int .i64 a1)), .v (.c (.int .i64 a2)), .v (.c (.ptr i0 0 0 0 0 0)), .v (.c (.ptr i1 0 0 0 0 0))] => (match lk i0 with
    | some (.mem _ _ _ (.flat [.cs [.fz (.int .u8) a3]])) => (match lk i1 with
    | some (.mem _ _ _ (.flat [.cs [.int .i64 a4]])) => some ⟨(motion_halves_1 N a1 a2 a3 a4).isSome = true, .v (.c (.int .i64 ((motion_halves_1 N a1 a2 a3 a4).getD default))), [], []⟩
    | _ => none)
    | _ => none)
  | _ => none
set_option maxRecDepth 100000 in
set_option maxHeartbeats 1000000 in
theorem ok_motion_halves_1 (N : Nat) : FnOK Tryd.prog gt0 26 (sp_motion_halves_1 N) := by
  refine fnOK_handed Tryd.func26 rfl (by kernel_rfl) tt_ok (ktNil) ?_
  intro args lk r h hp
  unfold sp_motion_halves_1 at h
  split at h
  · rename_i a1 a2 i0 i1
    split at h
    · rename_i _ _ _ a3 hl0
      split at h
      · rename_i _ _ _ a4 hl1
        change (List Int) at a3
        cases h
        obtain ⟨x, hx⟩ := Option.isSome_iff_exists.1 hp
        simp only [hx, Option.getD_some]
        refine handL [i0, i1] 2 [(0, .mem false 32 none (.flat [.cs [.fz (.int .u8) a3]])), (1, .mem false 3 none (.flat [.cs [.int .i64 a4]]))] [.v (.c (.int .i64 a1)), .v (.c (.int .i64 a2)), .v (.c (.ptr 0 0 0 0 0 0)), .v (.c (.ptr 1 0 0 0 0 0))] rfl rfl rfl ⟨isSome_of hl1, isSome_of hl0, trivial⟩ ⟨⟨rfl, (by repeat' first | exact True.intro | exact rfl | exact ⟨_, rfl, rfl⟩ | apply And.intro | exact Or.inl rfl), _, hl0, sub_ro⟩, ⟨rfl, (by repeat' first | exact True.intro | exact rfl | exact ⟨_, rfl, rfl⟩ | apply And.intro | exact Or.inl rfl), _, hl1, sub_ro⟩, trivial⟩ rfl (fun w0 M ε0 hX => ?_)
        refine rCount (fun hε => ?_)
        have hT : motion_halves_1 N a1 a2 a3 a4 = some x := hx; clear hx hp; unfold motion_halves_1 at hT
        refine rSeq ?_
        refine zReg md0 hX rfl rfl rfl ?_
        refine rThen ?_
        refine rSeq ?_
        replace hT := sIf hT; obtain ⟨⟨o1, o2, o3, o4, o5⟩, hT⟩ := hT
        refine zReg md0 hX rfl rfl rfl ?_
        refine rThen ?_
        refine rRet ?_
        have hy := Option.some.inj hT; subst hy
        exact zEnd0 hX rfl
      · cases h
    · cases h
  · cases h
def motion_halves_2 (N : Nat) (a1 : Int) (a2 : Int) (a3 : (List Int)) (a4 : Int) : Option Int :=
  if (0 : Int) ≤ a1 ∧ (0 : Int) ≤ a2 then
    if (0 : Int) ≤ a1 ∧ ((decide ((a1 % 2) = 0)) = true → (0 : Int) ≤ a2) then
      bif (bif (decide ((a1 % 2) = 0)) then (decide ((a2 % 2) = 0)) else false) then
        let c1 := (motion_halves_1 N (a1 / 2) (a2 / 2) a3 a4)
        if c1.isSome = true then
          some (c1.getD default)
        else none
      else
        if (0 : Int) ≤ a2 then
          bif (decide ((a2 % 2) = 0)) then
            let c2 := (motion_halves_1 N (a1 / 2) (a2 / 2) a3 a4)
            let c3 := (motion_halves_1 N ((a1 / 2) + 1) (a2 / 2) a3 a4)
            if c2.isSome = true ∧ inK .i64 ((a1 / 2) + 1) ∧ c3.isSome = true ∧ inK .i64 ((c2.getD default) + (c3.getD default)) ∧ inK .i64 (((c2.getD default) + (c3.getD default)) + 1) ∧ (0 : Int) ≤ (((c2.getD default) + (c3.getD default)) + 1) then
              some ((((c2.getD default) + (c3.getD default)) + 1) / 2)
            else none
          else
            if (0 : Int) ≤ a1 then
              bif (decide ((a1 % 2) = 0)) then
                let c4 := (motion_halves_1 N (a1 / 2) (a2 / 2) a3 a4)
                let c5 := (motion_halves_1 N (a1 / 2) ((a2 / 2) + 1) a3 a4)
                if c4.isSome = true ∧ inK .i64 ((a2 / 2) + 1) ∧ c5.isSome = true ∧ inK .i64 ((c4.getD default) + (c5.getD default)) ∧ inK .i64 (((c4.getD default) + (c5.getD default)) + 1) ∧ (0 : Int) ≤ (((c4.getD default) + (c5.getD default)) + 1) then
                  some ((((c4.getD default) + (c5.getD default)) + 1) / 2)
                else none
              else
                let c6 := (motion_halves_1 N (a1 / 2) (a2 / 2) a3 a4)
                let c7 := (motion_halves_1 N ((a1 / 2) + 1) (a2 / 2) a3 a4)
                let c8 := (motion_halves_1 N (a1 / 2) ((a2 / 2) + 1) a3 a4)
                let c9 := (motion_halves_1 N ((a1 / 2) + 1) ((a2 / 2) + 1) a3 a4)
                let x1 := ((((((c6.getD default) + (c7.getD default)) + (c8.getD default)) + (c9.getD default)) + 2) / 4)
                if c6.isSome = true ∧ inK .i64 ((a1 / 2) + 1) ∧ c7.isSome = true ∧ inK .i64 ((c6.getD default) + (c7.getD default)) ∧ inK .i64 ((a2 / 2) + 1) ∧ c8.isSome = true ∧ inK .i64 (((c6.getD default) + (c7.getD default)) + (c8.getD default)) ∧ c9.isSome = true ∧ inK .i64 ((((c6.getD default) + (c7.getD default)) + (c8.getD default)) + (c9.getD default)) ∧ inK .i64 (((((c6.getD default) + (c7.getD default)) + (c8.getD default)) + (c9.getD default)) + 2) ∧ (0 : Int) ≤ (((((c6.getD default) + (c7.getD default)) + (c8.getD default)) + (c9.getD default)) + 2) then
                  some x1
                else none
            else none
        else none
    else none
  else none
def sp_motion_halves_2 (N : Nat) : X.Spec := fun args lk => match args with
  | [.v (.c (.int .i64 a1)), .v (.c (.int .i64 a2)), .v (.c (.ptr i0 0 0 0 0 0))] => (match lk i0 with
    | some (.mem _ _ _ (.flat [.cs [.clo 26 [i1, i2]]])) => (match lk i1 with
    | some (.mem _ _ _ (.flat [.cs [.fz (.int .u8) a3]])) => (match lk i2 with
    | some (.mem _ _ _ (.flat [.cs [.int .i64 a4]])) => some ⟨(motion_halves_2 N a1 a2 a3 a4).isSome = true, .v (.c (.int .i64 ((motion_halves_2 N a1 a2 a3 a4).getD default))), [], []⟩
    | _ => none)
    | _ => none)
    | _ => none)
  | _ => none
set_option maxRecDepth 100000 in
set_option maxHeartbeats 1000000 in
theorem ok_motion_halves_2 (N : Nat) : FnOK Tryd.prog gt0 27 (sp_motion_halves_2 N) := by
  refine fnOK_handed Tryd.func27 rfl (by kernel_rfl) tt_ok (ktCons (ok_motion_halves_1 N) (ktNil)) ?_
  intro args lk r h hp
  unfold sp_motion_halves_2 at h
  split at h
  · rename_i a1 a2 i0
    split at h
    · rename_i _ _ _ i1 i2 hl0
      split at h
      · rename_i _ _ _ a3 hl1
        split at h
        · rename_i _ _ _ a4 hl2
          change (List Int) at a3
          cases h
          obtain ⟨x, hx⟩ := Option.isSome_iff_exists.1 hp
          simp only [hx, Option.getD_some]
          refine handL [i0, i1, i2] 3 [(0, .mem false 53 none (.flat [.cs [.clo 26 [1, 2]]])), (1, .mem false 32 none (.flat [.cs [.fz (.int .u8) a3]])), (2, .mem false 3 none (.flat [.cs [.int .i64 a4]]))] [.v (.c (.int .i64 a1)), .v (.c (.int .i64 a2)), .v (.c (.ptr 0 0 0 0 0 0))] rfl rfl rfl ⟨isSome_of hl2, isSome_of hl1, isSome_of hl0, trivial⟩ ⟨⟨rfl, (by repeat' first | exact True.intro | exact rfl | exact ⟨_, rfl, rfl⟩ | apply And.intro | exact Or.inl rfl), _, hl0, sub_ro⟩, ⟨rfl, (by repeat' first | exact True.intro | exact rfl | exact ⟨_, rfl, rfl⟩ | apply And.intro | exact Or.inl rfl), _, hl1, sub_ro⟩, ⟨rfl, (by repeat' first | exact True.intro | exact rfl | exact ⟨_, rfl, rfl⟩ | apply And.intro | exact Or.inl rfl), _, hl2, sub_ro⟩, trivial⟩ rfl (fun w0 M ε0 hX => ?_)
          refine rCount (fun hε => ?_)
          have hT : motion_halves_2 N a1 a2 a3 a4 = some x := hx; clear hx hp; unfold motion_halves_2 at hT
          refine rSeq ?_
          refine zReg md0 hX rfl rfl rfl ?_
          refine rThen ?_
          refine rSeq ?_
          replace hT := sIf hT; obtain ⟨⟨o1, o2⟩, hT⟩ := hT
          refine zReg md0 hX rfl rfl rfl ?_
          refine rThen ?_
          refine rSeq ?_
          refine rBlock ?_
          refine rSeq ?_
          replace hT := sIf hT; obtain ⟨⟨o1, o2⟩, hT⟩ := hT
          refine rRegC md0 hX rfl rfl rfl (by (repeat' first | exact True.intro | with_reducible assumption | (with_reducible apply And.intro) | intro _) <;> first | assumption | exact o2 (by assumption) | exact rfl | omega | exact Nat.le_of_ble_eq_true rfl | exact selF (by assumption) | exact selT (by assumption) | exact And.intro rfl rfl | exact And.intro (by assumption) rfl | exact And.intro (by omega) rfl | (simp only [inK] at *; omega) | (simp_all [sel] <;> fail) | fail) ?_
          refine rThen ?_
          refine zCond rfl rfl (fun hc => ?_) (fun hc => ?_)
          · replace hT := sT hc hT
            refine rSeq ?_
            let c1 := (motion_halves_1 N (a1 / 2) (a2 / 2) a3 a4)
            replace hT := sIf hT; obtain ⟨o1, hT⟩ := hT
            refine zReg md0 hX rfl rfl rfl ?_
            refine rThen ?_
            refine rRet ?_
            refine rInRet ?_
            refine rThenRet ?_
            have hy := Option.some.inj hT; subst hy
            exact zEnd0 hX rfl
          · replace hT := sF hc hT
            refine rSeq ?_
            replace hT := sIf hT; obtain ⟨o1, hT⟩ := hT
            refine zReg md0 hX rfl rfl rfl ?_
            refine rThen ?_
            refine zCond rfl rfl (fun hc => ?_) (fun hc => ?_)
            · replace hT := sT hc hT
              refine rSeq ?_
              let c2 := (motion_halves_1 N (a1 / 2) (a2 / 2) a3 a4)
              let c3 := (motion_halves_1 N ((a1 / 2) + 1) (a2 / 2) a3 a4)
              replace hT := sIf hT; obtain ⟨⟨o1, o2, o3, o4, o5, o6⟩, hT⟩ := hT
              refine zDraw md0 0 [] hX mixed rfl rfl rfl rfl rfl ?_
              refine rThen ?_
              refine rRet ?_
              refine rInRet ?_
              refine rThenRet ?_
              have hy := Option.some.inj hT; subst hy
              exact zEnd0 hX rfl
            · replace hT := sF hc hT
              refine rSeq ?_
              replace hT := sIf hT; obtain ⟨o1, hT⟩ := hT
              refine zReg md0 hX rfl rfl rfl ?_
              refine rThen ?_
              refine zCond rfl rfl (fun hc => ?_) (fun hc => ?_)
              · replace hT := sT hc hT
                refine rSeq ?_
                let c4 := (motion_halves_1 N (a1 / 2) (a2 / 2) a3 a4)
                let c5 := (motion_halves_1 N (a1 / 2) ((a2 / 2) + 1) a3 a4)
                replace hT := sIf hT; obtain ⟨⟨o1, o2, o3, o4, o5, o6⟩, hT⟩ := hT
                refine zDraw md0 0 [] hX mixed rfl rfl rfl rfl rfl ?_
                refine rThen ?_
                refine rRet ?_
                refine rInRet ?_
                refine rThenRet ?_
                have hy := Option.some.inj hT; subst hy
                exact zEnd0 hX rfl
              · replace hT := sF hc hT
                refine rSkip ?_
                refine rInNormal ?_
                refine rThen ?_
                refine rSeq ?_
                let c6 := (motion_halves_1 N (a1 / 2) (a2 / 2) a3 a4)
                let c7 := (motion_halves_1 N ((a1 / 2) + 1) (a2 / 2) a3 a4)
                let c8 := (motion_halves_1 N (a1 / 2) ((a2 / 2) + 1) a3 a4)
                let c9 := (motion_halves_1 N ((a1 / 2) + 1) ((a2 / 2) + 1) a3 a4)
                let x1 := ((((((c6.getD default) + (c7.getD default)) + (c8.getD default)) + (c9.getD default)) + 2) / 4)
                replace hT := sIf hT; obtain ⟨⟨o1, o2, o3, o4, o5, o6, o7, o8, o9, o10, o11⟩, hT⟩ := hT
                refine zDraw md0 0 [] hX mixed rfl rfl rfl rfl rfl ?_
                refine rThen ?_
                refine rRet ?_
                have hy := Option.some.inj hT; subst hy
                exact zEnd0 hX rfl
        · cases h
      · cases h
    · cases h
  · cases h
def motion_laid_halves_2_b1 (N : Nat) (a1 : Int) (a2 : Int) (a3 : (List Int)) (a4 : Int) (s1 : (Int × (List Int))) : Option ((Int × (List Int)) ⊕ (List Int)) :=
  bif (decide (s1.1 < 64)) then
    let c1 := (motion_halves_2 N (a1 + ((2 : Int) * (s1.1 % 8))) (a2 + ((2 : Int) * (s1.1 / 8))) a3 a4)
    if (0 : Int) ≤ s1.1 ∧ inK .i64 ((2 : Int) * (s1.1 % 8)) ∧ inK .i64 (a1 + ((2 : Int) * (s1.1 % 8))) ∧ inK .i64 ((2 : Int) * (s1.1 / 8)) ∧ inK .i64 (a2 + ((2 : Int) * (s1.1 / 8))) ∧ c1.isSome = true ∧ s1.1 < 64 ∧ (s1.1).toNat < 64 then
      if inK .i64 (s1.1 + 1) then
        some (.inl ((s1.1 + 1), (s1.2.set (s1.1).toNat (c1.getD default))))
      else none
    else none
  else
    some (.inr s1.2)
def motion_laid_halves_2 (N : Nat) (a1 : Int) (a2 : Int) (a3 : (List Int)) (a4 : Int) : Option (List Int) :=
  (iter (motion_laid_halves_2_b1 N a1 a2 a3 a4) N (0, (List.replicate 64 0))).bind fun v1 =>
    some v1
def sp_motion_laid_halves_2 (N : Nat) : X.Spec := fun args lk => match args with
  | [.v (.c (.clo 27 [i0])), .v (.c (.int .i64 a1)), .v (.c (.int .i64 a2))] => (match lk i0 with
    | some (.mem _ _ _ (.flat [.cs [.clo 26 [i1, i2]]])) => (match lk i1 with
    | some (.mem _ _ _ (.flat [.cs [.fz (.int .u8) a3]])) => (match lk i2 with
    | some (.mem _ _ _ (.flat [.cs [.int .i64 a4]])) => some ⟨(motion_laid_halves_2 N a1 a2 a3 a4).isSome = true, .v (.agg [.ints 64 .i64 ((motion_laid_halves_2 N a1 a2 a3 a4).getD default)]), [], []⟩
    | _ => none)
    | _ => none)
    | _ => none)
  | _ => none
set_option maxRecDepth 100000 in
set_option maxHeartbeats 1000000 in
theorem ok_motion_laid_halves_2 (N : Nat) : FnOK Tryd.prog gt0 19 (sp_motion_laid_halves_2 N) := by
  refine fnOK_handed Tryd.func19 rfl (by kernel_rfl) tt_ok (ktCons (ok_motion_halves_2 N) (ktNil)) ?_
  intro args lk r h hp
  unfold sp_motion_laid_halves_2 at h
  split at h
  · rename_i i0 a1 a2
    split at h
    · rename_i _ _ _ i1 i2 hl0
      split at h
      · rename_i _ _ _ a3 hl1
        split at h
        · rename_i _ _ _ a4 hl2
          change (List Int) at a3
          cases h
          obtain ⟨x, hx⟩ := Option.isSome_iff_exists.1 hp
          simp only [hx, Option.getD_some]
          refine handL [i0, i1, i2] 3 [(0, .mem false 53 none (.flat [.cs [.clo 26 [1, 2]]])), (1, .mem false 32 none (.flat [.cs [.fz (.int .u8) a3]])), (2, .mem false 3 none (.flat [.cs [.int .i64 a4]]))] [.v (.c (.clo 27 [0])), .v (.c (.int .i64 a1)), .v (.c (.int .i64 a2))] rfl rfl rfl ⟨isSome_of hl2, isSome_of hl1, isSome_of hl0, trivial⟩ ⟨⟨rfl, (by repeat' first | exact True.intro | exact rfl | exact ⟨_, rfl, rfl⟩ | apply And.intro | exact Or.inl rfl), _, hl0, sub_ro⟩, ⟨rfl, (by repeat' first | exact True.intro | exact rfl | exact ⟨_, rfl, rfl⟩ | apply And.intro | exact Or.inl rfl), _, hl1, sub_ro⟩, ⟨rfl, (by repeat' first | exact True.intro | exact rfl | exact ⟨_, rfl, rfl⟩ | apply And.intro | exact Or.inl rfl), _, hl2, sub_ro⟩, trivial⟩ rfl (fun w0 M ε0 hX => ?_)
          refine rCount (fun hε => ?_)
          have hT : motion_laid_halves_2 N a1 a2 a3 a4 = some x := hx; clear hx hp; unfold motion_laid_halves_2 at hT
          refine rSeq ?_
          refine zReg md0 hX rfl rfl rfl ?_
          refine rThen ?_
          refine rSeq ?_
          refine zReg md0 hX rfl rfl rfl ?_
          refine rThen ?_
          refine rSeq ?_
          refine rSeq ?_
          refine zReg md0 hX rfl rfl rfl ?_
          refine rThen ?_
          refine rBlock ?_
          replace hT := sBind hT; obtain ⟨w1, hl, hT⟩ := hT
          refine rJoinA (fun v1 => v1 = w1) (fun v1 => ⟨[(6, .v (.c (.ptr 3 0 0 0 0 0))), (7, .v (.c (.ptr 4 0 0 0 0 0)))], [(0, .mem false 53 none (.flat [.cs [.clo 26 [1, 2]]])), (1, .mem false 32 none (.flat [.cs [.fz (.int .u8) a3]])), (2, .mem false 3 none (.flat [.cs [.int .i64 a4]])), (3, .mem true 22 none (.flat [.ints 64 .i64 (List.replicate 64 0)])), (4, .mem true 22 none (.flat [.ints 64 .i64 v1]))], 5⟩) (.exit 0) (fun v1 hv => ?_) (fun hxs10 => ?_)
          · subst hv; clear hl
            refine rInHit ?_
            refine rThen ?_
            refine rSeq ?_
            refine zReg md0 hX rfl rfl rfl ?_
            refine rThen ?_
            refine rRet ?_
            have hy := Option.some.inj hT; subst hy
            exact zEnd0 hX rfl
          refine rLoopM (motion_laid_halves_2_b1 N a1 a2 a3 a4) (fun s1 => ⟨[(0, .v (.c (.clo 27 [0]))), (1, .v (.c (.int .i64 a1))), (2, .v (.c (.int .i64 a2))), (6, .v (.c (.ptr 3 0 0 0 0 0))), (7, .v (.c (.ptr 4 0 0 0 0 0))), (9, .v (.c (.int .i64 s1.1)))], [(0, .mem false 53 none (.flat [.cs [.clo 26 [1, 2]]])), (1, .mem false 32 none (.flat [.cs [.fz (.int .u8) a3]])), (2, .mem false 3 none (.flat [.cs [.int .i64 a4]])), (3, .mem true 22 none (.flat [.ints 64 .i64 (List.replicate 64 0)])), (4, .mem true 22 none (.flat [.ints 64 .i64 s1.2]))], 5⟩) hl (To.mk' [] 3 hε rfl (by repeat' first | exact True.intro | exact rfl | apply And.intro) (by repeat' first | exact True.intro | exact rfl | apply And.intro)) (fun s1 zs1 NNs1 hz hnexts1 houts1 => ?_)
          clear hl hT
          have hT := hz; clear hz
          refine rSeq ?_
          refine zReg md0 hX rfl rfl rfl ?_
          refine rThen ?_
          refine rSeq ?_
          refine zCond rfl rfl (fun hc => ?_) (fun hc => ?_)
          · replace hT := sT hc hT
            refine rSkip ?_
            refine rThen ?_
            refine rSeq ?_
            refine rBlock ?_
            refine rSeq ?_
            refine zReg md0 hX rfl rfl rfl ?_
            refine rThen ?_
            let c1 := (motion_halves_2 N (a1 + ((2 : Int) * (s1.1 % 8))) (a2 + ((2 : Int) * (s1.1 / 8))) a3 a4)
            replace hT := sIf hT; obtain ⟨⟨o1, o2, o3, o4, o5, o6, o7, o8⟩, hT⟩ := hT
            refine zReg md0 hX rfl rfl rfl ?_
            refine rInNormal ?_
            refine rThen ?_
            replace hT := sIf hT; obtain ⟨o1, hT⟩ := hT
            refine zReg md0 hX rfl rfl rfl ?_
            exact hnexts1 _ (Option.some.inj hT).symm _ (To.mk' [] 3 hε rfl (by repeat' first | exact True.intro | exact rfl | apply And.intro) (by repeat' first | exact True.intro | exact rfl | apply And.intro))
          · replace hT := sF hc hT
            refine rExit ?_
            refine rThenExit ?_
            refine rThenExit ?_
            exact zTo [] 3 hε (hxs10 _ (houts1 _ (Option.some.inj hT).symm))
        · cases h
      · cases h
    · cases h
  · cases h
def motion_Chroma (N : Nat) (a1 : Int) : Option Int :=
  let c1 := (whole_Clip N a1 (-64) 64)
  if c1.isSome = true then
    if inK .i64 (-(c1.getD default)) then
      if (0 : Int) ≤ (max (c1.getD default) (-(c1.getD default))) ∧ inK .i64 ((2 : Int) * ((max (c1.getD default) (-(c1.getD default))) / 4)) then
        if (0 : Int) ≤ (max (c1.getD default) (-(c1.getD default))) then
          if ((decide (((max (c1.getD default) (-(c1.getD default))) % 4) ≠ 0)) = true → inK .i64 (((2 : Int) * ((max (c1.getD default) (-(c1.getD default))) / 4)) + 1)) then
            let x1 := (bif (decide (((max (c1.getD default) (-(c1.getD default))) % 4) ≠ 0)) then (((2 : Int) * ((max (c1.getD default) (-(c1.getD default))) / 4)) + 1) else ((2 : Int) * ((max (c1.getD default) (-(c1.getD default))) / 4)))
            bif (decide ((c1.getD default) < 0)) then
              if inK .i64 (-x1) then
                some (-x1)
              else none
            else
              some x1
          else none
        else none
      else none
    else none
  else none
def sp_motion_Chroma (N : Nat) : X.Spec := fun args lk => match args with
  | [.v (.c (.int .i64 a1))] => some ⟨(motion_Chroma N a1).isSome = true, .v (.c (.int .i64 ((motion_Chroma N a1).getD default))), [], []⟩
  | _ => none
set_option maxRecDepth 100000 in
set_option maxHeartbeats 1000000 in
theorem ok_motion_Chroma (N : Nat) : FnOK Tryd.prog gt0 20 (sp_motion_Chroma N) := by
  refine fnOK_handed Tryd.func20 rfl (by kernel_rfl) tt_ok (ktCons (ok_whole_Clip N) (ktNil)) ?_
  intro args lk r h hp
  unfold sp_motion_Chroma at h
  split at h
  · rename_i a1
    cases h
    obtain ⟨x, hx⟩ := Option.isSome_iff_exists.1 hp
    simp only [hx, Option.getD_some]
    refine hand0 rfl rfl (fun w0 M ε0 hX => ?_)
    refine rCount (fun hε => ?_)
    have hT : motion_Chroma N a1 = some x := hx; clear hx hp; unfold motion_Chroma at hT
    refine rSeq ?_
    refine zReg md0 hX rfl rfl rfl ?_
    refine rThen ?_
    refine rSeq ?_
    let c1 := (whole_Clip N a1 (-64) 64)
    replace hT := sIf hT; obtain ⟨o1, hT⟩ := hT
    refine zReg md0 hX rfl rfl rfl ?_
    refine rThen ?_
    refine rSeq ?_
    replace hT := sIf hT; obtain ⟨o1, hT⟩ := hT
    refine zReg md0 hX rfl rfl rfl ?_
    refine rThen ?_
    refine rSeq ?_
    replace hT := sIf hT; obtain ⟨⟨o1, o2⟩, hT⟩ := hT
    refine zReg md0 hX rfl rfl rfl ?_
    refine rThen ?_
    refine rSeq ?_
    refine rSeq ?_
    replace hT := sIf hT; obtain ⟨o1, hT⟩ := hT
    refine zReg md0 hX rfl rfl rfl ?_
    refine rThen ?_
    replace hT := sIf hT; obtain ⟨q1, hT⟩ := hT
    refine rJoin ⟨[(0, .v (.c (.int .i64 (c1.getD default)))), (2, .v (.c (.int .i64 0))), (4, .v (.c (.int .i64 (bif (decide (((max (c1.getD default) (-(c1.getD default))) % 4) ≠ 0)) then (((2 : Int) * ((max (c1.getD default) (-(c1.getD default))) / 4)) + 1) else ((2 : Int) * ((max (c1.getD default) (-(c1.getD default))) / 4))))))], [], 0⟩ ?_ (fun hj => ?_)
    · skip
      let x1 := (bif (decide (((max (c1.getD default) (-(c1.getD default))) % 4) ≠ 0)) then (((2 : Int) * ((max (c1.getD default) (-(c1.getD default))) / 4)) + 1) else ((2 : Int) * ((max (c1.getD default) (-(c1.getD default))) / 4)))
      refine rThen ?_
      refine rSeq ?_
      refine rSeq ?_
      refine zReg md0 hX rfl rfl rfl ?_
      refine rThen ?_
      refine zCond rfl rfl (fun hc => ?_) (fun hc => ?_)
      · replace hT := sT hc hT
        refine rSeq ?_
        replace hT := sIf hT; obtain ⟨o1, hT⟩ := hT
        refine zReg md0 hX rfl rfl rfl ?_
        refine rThen ?_
        refine rRet ?_
        refine rThenRet ?_
        have hy := Option.some.inj hT; subst hy
        exact zEnd0 hX rfl
      · replace hT := sF hc hT
        refine rSkip ?_
        refine rThen ?_
        refine rSeq ?_
        refine zReg md0 hX rfl rfl rfl ?_
        refine rThen ?_
        refine rRet ?_
        have hy := Option.some.inj hT; subst hy
        exact zEnd0 hX rfl
    · clear hT
      refine zCond rfl rfl (fun hc => ?_) (fun hc => ?_)
      · skip
        have q1 := q1 hc
        refine zReg md0 hX rfl rfl rfl ?_
        exact rTo (To.mk' [] 0 hε rfl (by (repeat' first | exact True.intro | exact rfl | apply And.intro) <;> (repeat' first | exact rfl | refine Eq.trans ?_ (cTr (by assumption)) | refine Eq.trans ?_ (cFr (by assumption)) | refine Eq.trans (cTl (by assumption)) ?_ | refine Eq.trans (cFl (by assumption)) ?_)) (by (repeat' first | exact True.intro | exact rfl | apply And.intro) <;> (repeat' first | exact rfl | refine Eq.trans ?_ (cTr (by assumption)) | refine Eq.trans ?_ (cFr (by assumption)) | refine Eq.trans (cTl (by assumption)) ?_ | refine Eq.trans (cFl (by assumption)) ?_))) hj
      · skip
        refine rSkip ?_
        exact rTo (To.mk' [] 0 hε rfl (by (repeat' first | exact True.intro | exact rfl | apply And.intro) <;> (repeat' first | exact rfl | refine Eq.trans ?_ (cTr (by assumption)) | refine Eq.trans ?_ (cFr (by assumption)) | refine Eq.trans (cTl (by assumption)) ?_ | refine Eq.trans (cFl (by assumption)) ?_)) (by (repeat' first | exact True.intro | exact rfl | apply And.intro) <;> (repeat' first | exact rfl | refine Eq.trans ?_ (cTr (by assumption)) | refine Eq.trans ?_ (cFr (by assumption)) | refine Eq.trans (cTl (by assumption)) ?_ | refine Eq.trans (cFl (by assumption)) ?_))) hj
  · cases h
def motion_Predict_b1 (N : Nat) (a1 : Int) (a2 : (List (List Int))) (a3 : Int) (a4 : (List Int)) (c1 : (Option (Int × Int))) (s1 : (Int × (List Int))) : Option ((Int × (List Int)) ⊕ (List Int)) :=
  bif (decide (s1.1 < 6)) then
    if inK .i64 (s1.1 - 4) ∧ inK .i64 ((s1.1 - 4) + 1) then
      let c4 := (formats_Plane N a1 (max (0 : Int) ((s1.1 - 4) + 1)))
      if c4.isSome = true then
        let c5 := (motion_halves N (a2.getD (max (0 : Int) ((s1.1 - 4) + 1)).toNat []) (c4.getD default).1)
        if (0 : Int) ≤ (max (0 : Int) ((s1.1 - 4) + 1)) ∧ (max (0 : Int) ((s1.1 - 4) + 1)) < 3 ∧ (max (0 : Int) ((s1.1 - 4) + 1)).toNat < 3 ∧ c5.isSome = true then
          bif (decide ((max (0 : Int) ((s1.1 - 4) + 1)) = 0)) then
            let c6 := (motion_laid_halves_2 N (((2 : Int) * (((16 : Int) * (a3 % (c1.getD default).1)) + ((s1.1 % 2) * 8))) + (a4.getD 0 0)) (((2 : Int) * (((16 : Int) * (a3 / (c1.getD default).1)) + ((s1.1 / 2) * 8))) + (a4.getD 1 0)) (c5.getD default).1 (c5.getD default).2)
            if inK .i64 ((16 : Int) * (a3 % (c1.getD default).1)) ∧ (0 : Int) ≤ s1.1 ∧ inK .i64 ((s1.1 % 2) * 8) ∧ inK .i64 (((16 : Int) * (a3 % (c1.getD default).1)) + ((s1.1 % 2) * 8)) ∧ inK .i64 ((2 : Int) * (((16 : Int) * (a3 % (c1.getD default).1)) + ((s1.1 % 2) * 8))) ∧ inK .i64 (((2 : Int) * (((16 : Int) * (a3 % (c1.getD default).1)) + ((s1.1 % 2) * 8))) + (a4.getD 0 0)) ∧ inK .i64 ((16 : Int) * (a3 / (c1.getD default).1)) ∧ inK .i64 ((s1.1 / 2) * 8) ∧ inK .i64 (((16 : Int) * (a3 / (c1.getD default).1)) + ((s1.1 / 2) * 8)) ∧ inK .i64 ((2 : Int) * (((16 : Int) * (a3 / (c1.getD default).1)) + ((s1.1 / 2) * 8))) ∧ inK .i64 (((2 : Int) * (((16 : Int) * (a3 / (c1.getD default).1)) + ((s1.1 / 2) * 8))) + (a4.getD 1 0)) ∧ c6.isSome = true ∧ s1.1 < 6 ∧ (64 * (s1.1).toNat) + 64 ≤ 384 then
              if inK .i64 (s1.1 + 1) then
                some (.inl ((s1.1 + 1), (layL s1.2 (64 * (s1.1).toNat) (c6.getD default) 64)))
              else none
            else none
          else
            let c7 := (motion_Chroma N (a4.getD 0 0))
            let c8 := (motion_Chroma N (a4.getD 1 0))
            let c9 := (motion_laid_halves_2 N (((16 : Int) * (a3 % (c1.getD default).1)) + (c7.getD default)) (((16 : Int) * (a3 / (c1.getD default).1)) + (c8.getD default)) (c5.getD default).1 (c5.getD default).2)
            if inK .i64 ((16 : Int) * (a3 % (c1.getD default).1)) ∧ c7.isSome = true ∧ inK .i64 (((16 : Int) * (a3 % (c1.getD default).1)) + (c7.getD default)) ∧ inK .i64 ((16 : Int) * (a3 / (c1.getD default).1)) ∧ c8.isSome = true ∧ inK .i64 (((16 : Int) * (a3 / (c1.getD default).1)) + (c8.getD default)) ∧ c9.isSome = true ∧ (0 : Int) ≤ s1.1 ∧ s1.1 < 6 ∧ (64 * (s1.1).toNat) + 64 ≤ 384 then
              if inK .i64 (s1.1 + 1) then
                some (.inl ((s1.1 + 1), (layL s1.2 (64 * (s1.1).toNat) (c9.getD default) 64)))
              else none
            else none
        else none
      else none
    else none
  else
    some (.inr s1.2)
def motion_Predict (N : Nat) (a1 : Int) (a2 : (List (List Int))) (a3 : Int) (a4 : (List Int)) : Option ((List Int) × Int) :=
  let c1 := (formats_Cells N a1)
  if c1.isSome = true then
    let c2 := (planes_Right N a1 a2)
    if c2.isSome = true then
      if ((!(c2.getD default)) = false → ((decide (a3 < 0)) = false → inK .i64 ((c1.getD default).1 * (c1.getD default).2))) then
        let x1 := (bif (!(c2.getD default)) then (!(c2.getD default)) else (bif (decide (a3 < 0)) then (decide (a3 < 0)) else (decide (((c1.getD default).1 * (c1.getD default).2) ≤ a3))))
        bif x1 then
          some ((List.replicate 384 0), 1)
        else
          let c3 := (motion_May N a1 a3 a4)
          if c3.isSome = true then
            bif (!(c3.getD default)) then
              some ((List.replicate 384 0), 8)
            else
              if (0 : Int) ≤ a3 ∧ (0 : Int) < (c1.getD default).1 then
                (iter (motion_Predict_b1 N a1 a2 a3 a4 c1) N (0, (List.replicate 384 0))).bind fun v1 =>
                  some (v1, 0)
              else none
          else none
      else none
    else none
  else none
def sp_motion_Predict (N : Nat) : X.Spec := fun args lk => match args with
  | [.v (.agg [.cs [.int .i64 a1], .fzs 3 (.int .u8) a2]), .v (.c (.int .i64 a3)), .v (.agg [.ints 2 .i64 a4])] => some ⟨(motion_Predict N a1 a2 a3 a4).isSome = true, .tup [.agg [.ints 384 .i64 ((motion_Predict N a1 a2 a3 a4).getD default).1], .c (.int .i64 ((motion_Predict N a1 a2 a3 a4).getD default).2)], [], []⟩
  | _ => none
set_option maxRecDepth 100000 in
set_option maxHeartbeats 1000000 in
theorem ok_motion_Predict (N : Nat) : FnOK Tryd.prog gt0 11 (sp_motion_Predict N) := by
  refine fnOK_handed Tryd.func11 rfl (by kernel_rfl) tt_ok (ktCons (ok_motion_Chroma N) (ktCons (ok_motion_laid_halves_2 N) (ktCons (ok_motion_halves N) (ktCons (ok_formats_Plane N) (ktCons (ok_motion_May N) (ktCons (ok_planes_Right N) (ktCons (ok_formats_Cells N) (ktNil)))))))) ?_
  intro args lk r h hp
  unfold sp_motion_Predict at h
  split at h
  · rename_i a1 a2 a3 a4
    change (List (List Int)) at a2
    change (List Int) at a4
    cases h
    obtain ⟨x, hx⟩ := Option.isSome_iff_exists.1 hp
    simp only [hx, Option.getD_some]
    refine hand0 rfl rfl (fun w0 M ε0 hX => ?_)
    refine rCount (fun hε => ?_)
    have hT : motion_Predict N a1 a2 a3 a4 = some x := hx; clear hx hp; unfold motion_Predict at hT
    refine rSeq ?_
    refine zReg md0 hX rfl rfl rfl ?_
    refine rThen ?_
    refine rSeq ?_
    let c1 := (formats_Cells N a1)
    replace hT := sIf hT; obtain ⟨o1, hT⟩ := hT
    refine zReg md0 hX rfl rfl rfl ?_
    refine rThen ?_
    refine rSeq ?_
    refine rBlock ?_
    refine rSeq ?_
    refine rSeq ?_
    let c2 := (planes_Right N a1 a2)
    replace hT := sIf hT; obtain ⟨o1, hT⟩ := hT
    refine zReg md0 hX rfl rfl rfl ?_
    refine rThen ?_
    replace hT := sIf hT; obtain ⟨q1, hT⟩ := hT
    refine rJoin ⟨[(1, .v (.c (.int .i64 a3))), (3, .v (.c (.ptr 0 0 0 0 0 0))), (5, .v (.c (.ptr 1 0 0 0 0 0))), (6, .v (.c (.ptr 2 0 0 0 0 0))), (7, .v (.c (.int .i64 0))), (8, .v (.c (.int .i64 (c1.getD default).1))), (24, .v (.c (.bool (bif (!(c2.getD default)) then (!(c2.getD default)) else (bif (decide (a3 < 0)) then (decide (a3 < 0)) else (decide (((c1.getD default).1 * (c1.getD default).2) ≤ a3)))))))], [(0, .mem true 35 none (.flat [.cs [.int .i64 a1], .fzs 3 (.int .u8) a2])), (1, .mem true 37 none (.flat [.ints 2 .i64 a4])), (2, .mem true 24 none (.flat [.ints 384 .i64 (List.replicate 384 0)]))], 3⟩ ?_ (fun hj => ?_)
    · skip
      let x1 := (bif (!(c2.getD default)) then (!(c2.getD default)) else (bif (decide (a3 < 0)) then (decide (a3 < 0)) else (decide (((c1.getD default).1 * (c1.getD default).2) ≤ a3))))
      refine rThen ?_
      refine zCond rfl rfl (fun hc => ?_) (fun hc => ?_)
      · replace hT := sT hc hT
        refine rSeq ?_
        refine zReg md0 hX rfl rfl rfl ?_
        refine rThen ?_
        refine rRet ?_
        refine rInRet ?_
        refine rThenRet ?_
        have hy := Option.some.inj hT; subst hy
        exact zEnd0 hX rfl
      · replace hT := sF hc hT
        refine rSeq ?_
        let c3 := (motion_May N a1 a3 a4)
        replace hT := sIf hT; obtain ⟨o1, hT⟩ := hT
        refine zReg md0 hX rfl rfl rfl ?_
        refine rThen ?_
        refine zCond rfl rfl (fun hc => ?_) (fun hc => ?_)
        · replace hT := sT hc hT
          refine rSeq ?_
          refine zReg md0 hX rfl rfl rfl ?_
          refine rThen ?_
          refine rRet ?_
          refine rInRet ?_
          refine rThenRet ?_
          have hy := Option.some.inj hT; subst hy
          exact zEnd0 hX rfl
        · replace hT := sF hc hT
          refine rSkip ?_
          refine rInNormal ?_
          refine rThen ?_
          refine rSeq ?_
          refine zReg md0 hX rfl rfl rfl ?_
          refine rThen ?_
          refine rSeq ?_
          replace hT := sIf hT; obtain ⟨⟨o1, o2⟩, hT⟩ := hT
          refine zDraw md0 0 [] hX mixed rfl rfl rfl rfl rfl ?_
          refine rThen ?_
          refine rSeq ?_
          refine rSeq ?_
          refine zReg md0 hX rfl rfl rfl ?_
          refine rThen ?_
          refine rBlock ?_
          replace hT := sBind hT; obtain ⟨w1, hl, hT⟩ := hT
          refine rJoinA (fun v1 => v1 = w1) (fun v1 => ⟨[(6, .v (.c (.ptr 2 0 0 0 0 0))), (7, .v (.c (.int .i64 0))), (10, .v (.c (.ptr 3 0 0 0 0 0)))], [(2, .mem true 24 none (.flat [.ints 384 .i64 (List.replicate 384 0)])), (3, .mem true 24 none (.flat [.ints 384 .i64 v1]))], 4⟩) (.exit 1) (fun v1 hv => ?_) (fun hxs10 => ?_)
          · subst hv; clear hl
            refine rInHit ?_
            refine rThen ?_
            refine rSeq ?_
            refine zReg md0 hX rfl rfl rfl ?_
            refine rThen ?_
            refine rRet ?_
            have hy := Option.some.inj hT; subst hy
            exact zEnd0 hX rfl
          refine rLoopM (motion_Predict_b1 N a1 a2 a3 a4 c1) (fun s1 => ⟨[(3, .v (.c (.ptr 0 0 0 0 0 0))), (5, .v (.c (.ptr 1 0 0 0 0 0))), (6, .v (.c (.ptr 2 0 0 0 0 0))), (7, .v (.c (.int .i64 0))), (10, .v (.c (.ptr 3 0 0 0 0 0))), (11, .v (.c (.int .i64 (a3 % (c1.getD default).1)))), (12, .v (.c (.int .i64 (a3 / (c1.getD default).1)))), (50, .v (.c (.int .i64 s1.1)))], [(0, .mem true 35 none (.flat [.cs [.int .i64 a1], .fzs 3 (.int .u8) a2])), (1, .mem true 37 none (.flat [.ints 2 .i64 a4])), (2, .mem true 24 none (.flat [.ints 384 .i64 (List.replicate 384 0)])), (3, .mem true 24 none (.flat [.ints 384 .i64 s1.2]))], 4⟩) hl (To.mk' [] 0 hε rfl (by repeat' first | exact True.intro | exact rfl | apply And.intro) (by repeat' first | exact True.intro | exact rfl | apply And.intro)) (fun s1 zs1 NNs1 hz hnexts1 houts1 => ?_)
          clear hl hT
          have hT := hz; clear hz
          refine rSeq ?_
          refine zReg md0 hX rfl rfl rfl ?_
          refine rThen ?_
          refine rSeq ?_
          refine zCond rfl rfl (fun hc => ?_) (fun hc => ?_)
          · replace hT := sT hc hT
            refine rSkip ?_
            refine rThen ?_
            refine rSeq ?_
            refine rBlock ?_
            refine rSeq ?_
            refine zReg md0 hX rfl rfl rfl ?_
            refine rThen ?_
            refine rSeq ?_
            replace hT := sIf hT; obtain ⟨⟨o1, o2⟩, hT⟩ := hT
            refine zReg md0 hX rfl rfl rfl ?_
            refine rThen ?_
            refine rSeq ?_
            let c4 := (formats_Plane N a1 (max (0 : Int) ((s1.1 - 4) + 1)))
            replace hT := sIf hT; obtain ⟨o1, hT⟩ := hT
            refine zReg md0 hX rfl rfl rfl ?_
            refine rThen ?_
            refine rSeq ?_
            let c5 := (motion_halves N (a2.getD (max (0 : Int) ((s1.1 - 4) + 1)).toNat []) (c4.getD default).1)
            replace hT := sIf hT; obtain ⟨⟨o1, o2, o3, o4⟩, hT⟩ := hT
            refine zReg md0 hX rfl rfl rfl ?_
            refine rThen ?_
            refine rSeq ?_
            refine rSeq ?_
            refine zReg md0 hX rfl rfl rfl ?_
            refine rThen ?_
            refine zCond rfl rfl (fun hc => ?_) (fun hc => ?_)
            · replace hT := sT hc hT
              refine rSeq ?_
              let c6 := (motion_laid_halves_2 N (((2 : Int) * (((16 : Int) * (a3 % (c1.getD default).1)) + ((s1.1 % 2) * 8))) + (a4.getD 0 0)) (((2 : Int) * (((16 : Int) * (a3 / (c1.getD default).1)) + ((s1.1 / 2) * 8))) + (a4.getD 1 0)) (c5.getD default).1 (c5.getD default).2)
              replace hT := sIf hT; obtain ⟨⟨o1, o2, o3, o4, o5, o6, o7, o8, o9, o10, o11, o12, o13, o14⟩, hT⟩ := hT
              refine zReg md0 hX rfl rfl rfl ?_
              refine rThen ?_
              refine rExit ?_
              refine rThenExit ?_
              refine rInHit ?_
              refine rThen ?_
              replace hT := sIf hT; obtain ⟨o1, hT⟩ := hT
              refine zReg md0 hX rfl rfl rfl ?_
              exact hnexts1 _ (Option.some.inj hT).symm _ (To.mk' [] 0 hε rfl (by repeat' first | exact True.intro | exact rfl | apply And.intro) (by repeat' first | exact True.intro | exact rfl | apply And.intro))
            · replace hT := sF hc hT
              refine rSkip ?_
              refine rThen ?_
              let c7 := (motion_Chroma N (a4.getD 0 0))
              let c8 := (motion_Chroma N (a4.getD 1 0))
              let c9 := (motion_laid_halves_2 N (((16 : Int) * (a3 % (c1.getD default).1)) + (c7.getD default)) (((16 : Int) * (a3 / (c1.getD default).1)) + (c8.getD default)) (c5.getD default).1 (c5.getD default).2)
              replace hT := sIf hT; obtain ⟨⟨o1, o2, o3, o4, o5, o6, o7, o8, o9, o10⟩, hT⟩ := hT
              refine zDraw md0 1 [16] hX mixed rfl rfl rfl rfl rfl ?_
              refine rInNormal ?_
              refine rThen ?_
              replace hT := sIf hT; obtain ⟨o1, hT⟩ := hT
              refine zReg md0 hX rfl rfl rfl ?_
              exact hnexts1 _ (Option.some.inj hT).symm _ (To.mk' [] 0 hε rfl (by repeat' first | exact True.intro | exact rfl | apply And.intro) (by repeat' first | exact True.intro | exact rfl | apply And.intro))
          · replace hT := sF hc hT
            refine rExit ?_
            refine rThenExit ?_
            refine rThenExit ?_
            exact zTo [] 0 hε (hxs10 _ (houts1 _ (Option.some.inj hT).symm))
    · clear hT
      refine zCond rfl rfl (fun hc => ?_) (fun hc => ?_)
      · skip
        refine rSkip ?_
        exact rTo (To.mk' [] 0 hε rfl (by (repeat' first | exact True.intro | exact rfl | apply And.intro) <;> (repeat' first | exact rfl | refine Eq.trans ?_ (cTr (by assumption)) | refine Eq.trans ?_ (cFr (by assumption)) | refine Eq.trans (cTl (by assumption)) ?_ | refine Eq.trans (cFl (by assumption)) ?_)) (by (repeat' first | exact True.intro | exact rfl | apply And.intro) <;> (repeat' first | exact rfl | refine Eq.trans ?_ (cTr (by assumption)) | refine Eq.trans ?_ (cFr (by assumption)) | refine Eq.trans (cTl (by assumption)) ?_ | refine Eq.trans (cFl (by assumption)) ?_))) hj
      · skip
        have q1 := q1 hc
        refine rSeq ?_
        refine zReg md0 hX rfl rfl rfl ?_
        refine rThen ?_
        refine zCond rfl rfl (fun hc => ?_) (fun hc => ?_)
        · skip
          refine rSkip ?_
          exact rTo (To.mk' [] 0 hε rfl (by (repeat' first | exact True.intro | exact rfl | apply And.intro) <;> (repeat' first | exact rfl | refine Eq.trans ?_ (cTr (by assumption)) | refine Eq.trans ?_ (cFr (by assumption)) | refine Eq.trans (cTl (by assumption)) ?_ | refine Eq.trans (cFl (by assumption)) ?_)) (by (repeat' first | exact True.intro | exact rfl | apply And.intro) <;> (repeat' first | exact rfl | refine Eq.trans ?_ (cTr (by assumption)) | refine Eq.trans ?_ (cFr (by assumption)) | refine Eq.trans (cTl (by assumption)) ?_ | refine Eq.trans (cFl (by assumption)) ?_))) hj
        · skip
          have q1 := q1 hc
          refine zReg md0 hX rfl rfl rfl ?_
          exact rTo (To.mk' [] 0 hε rfl (by (repeat' first | exact True.intro | exact rfl | apply And.intro) <;> (repeat' first | exact rfl | refine Eq.trans ?_ (cTr (by assumption)) | refine Eq.trans ?_ (cFr (by assumption)) | refine Eq.trans (cTl (by assumption)) ?_ | refine Eq.trans (cFl (by assumption)) ?_)) (by (repeat' first | exact True.intro | exact rfl | apply And.intro) <;> (repeat' first | exact rfl | refine Eq.trans ?_ (cTr (by assumption)) | refine Eq.trans ?_ (cFr (by assumption)) | refine Eq.trans (cTl (by assumption)) ?_ | refine Eq.trans (cFl (by assumption)) ?_))) hj
  · cases h
def rebuild_Cell (N : Nat) (a1 : Int) (a2 : (List (List Int))) (a3 : Int) (a4 : Int) (a5 : Bool) (a6 : Int) (a7 : Int) (a8 : (List Int)) (a9 : (List Int)) (a10 : (List (List (Bool × (Int × Int))))) (a11 : Int) : Option ((List Int) × Int) :=
  let c1 := (residue_Of N a4 a5 a6 a7 a8 a9 a10 a11)
  if c1.isSome = true then
    bif (decide ((c1.getD default).2 ≠ 0)) then
      some ((List.replicate 384 0), (c1.getD default).2)
    else
      let c2 := (motion_Predict N a1 a2 a3 a8)
      if ((bif (decide (a6 ≠ 3)) then (decide (a6 ≠ 4)) else false) = true → c2.isSome = true) then
        let x1 := (bif (bif (decide (a6 ≠ 3)) then (decide (a6 ≠ 4)) else false) then (c2.getD default).2 else (c1.getD default).2)
        let x2 := (bif (bif (decide (a6 ≠ 3)) then (decide (a6 ≠ 4)) else false) then (c2.getD default).1 else (List.replicate 384 0))
        bif (decide (x1 ≠ 0)) then
          some ((List.replicate 384 0), x1)
        else
          let c3 := (rebuild_Sum N x2 (c1.getD default).1)
          if c3.isSome = true then
            some ((c3.getD default), 0)
          else none
      else none
  else none
def sp_rebuild_Cell (N : Nat) : X.Spec := fun args lk => match args with
  | [.v (.agg [.cs [.int .i64 a1], .fzs 3 (.int .u8) a2]), .v (.c (.int .i64 a3)), .v (.agg [.cs [.int .i64 a4, .bool a5, .int .i64 a6, .int .i64 a7], .ints 2 .i64 a8, .ints 6 .i64 a9, .fzs 6 (.pair .bool (.pair (.int .i64) (.int .i64))) a10]), .v (.c (.int .i64 a11))] => some ⟨(rebuild_Cell N a1 a2 a3 a4 a5 a6 a7 a8 a9 a10 a11).isSome = true, .tup [.agg [.ints 384 .i64 ((rebuild_Cell N a1 a2 a3 a4 a5 a6 a7 a8 a9 a10 a11).getD default).1], .c (.int .i64 ((rebuild_Cell N a1 a2 a3 a4 a5 a6 a7 a8 a9 a10 a11).getD default).2)], [], []⟩
  | _ => none
set_option maxRecDepth 100000 in
set_option maxHeartbeats 1000000 in
theorem ok_rebuild_Cell (N : Nat) : FnOK Tryd.prog gt0 9 (sp_rebuild_Cell N) := by
  refine fnOK_handed Tryd.func9 rfl (by kernel_rfl) tt_ok (ktCons (ok_rebuild_Sum N) (ktCons (ok_motion_Predict N) (ktCons (ok_residue_Of N) (ktNil)))) ?_
  intro args lk r h hp
  unfold sp_rebuild_Cell at h
  split at h
  · rename_i a1 a2 a3 a4 a5 a6 a7 a8 a9 a10 a11
    change (List (List Int)) at a2
    change (List Int) at a8
    change (List Int) at a9
    change (List (List (Bool × (Int × Int)))) at a10
    cases h
    obtain ⟨x, hx⟩ := Option.isSome_iff_exists.1 hp
    simp only [hx, Option.getD_some]
    refine hand0 rfl rfl (fun w0 M ε0 hX => ?_)
    refine rCount (fun hε => ?_)
    have hT : rebuild_Cell N a1 a2 a3 a4 a5 a6 a7 a8 a9 a10 a11 = some x := hx; clear hx hp; unfold rebuild_Cell at hT
    refine rSeq ?_
    refine zReg md0 hX rfl rfl rfl ?_
    refine rThen ?_
    refine rSeq ?_
    let c1 := (residue_Of N a4 a5 a6 a7 a8 a9 a10 a11)
    replace hT := sIf hT; obtain ⟨o1, hT⟩ := hT
    refine zReg md0 hX rfl rfl rfl ?_
    refine rThen ?_
    refine rSeq ?_
    refine zReg md0 hX rfl rfl rfl ?_
    refine rThen ?_
    refine rSeq ?_
    refine rBlock ?_
    refine rSeq ?_
    refine zReg md0 hX rfl rfl rfl ?_
    refine rThen ?_
    refine zCond rfl rfl (fun hc => ?_) (fun hc => ?_)
    · replace hT := sT hc hT
      refine rSeq ?_
      refine zReg md0 hX rfl rfl rfl ?_
      refine rThen ?_
      refine rRet ?_
      refine rInRet ?_
      refine rThenRet ?_
      have hy := Option.some.inj hT; subst hy
      exact zEnd0 hX rfl
    · replace hT := sF hc hT
      refine rSeq ?_
      refine zReg md0 hX rfl rfl rfl ?_
      refine rThen ?_
      let c2 := (motion_Predict N a1 a2 a3 a8)
      replace hT := sIf hT; obtain ⟨q1, hT⟩ := hT
      refine rJoin ⟨[(8, .v (.c (.ptr 2 0 0 0 0 0))), (9, .v (.c (.int .i64 0))), (10, .v (.c (.ptr 3 0 0 0 0 0))), (11, .v (.c (.int .i64 (bif (bif (decide (a6 ≠ 3)) then (decide (a6 ≠ 4)) else false) then (c2.getD default).2 else (c1.getD default).2)))), (12, .v (.c (.ptr 4 0 0 0 0 0)))], [(2, .mem true 24 none (.flat [.ints 384 .i64 (List.replicate 384 0)])), (3, .mem true 24 none (.flat [.ints 384 .i64 (c1.getD default).1])), (4, .mem true 24 none (.flat [.ints 384 .i64 (bif (bif (decide (a6 ≠ 3)) then (decide (a6 ≠ 4)) else false) then (c2.getD default).1 else (List.replicate 384 0))]))], 5⟩ ?_ (fun hj => ?_)
      · skip
        let x1 := (bif (bif (decide (a6 ≠ 3)) then (decide (a6 ≠ 4)) else false) then (c2.getD default).2 else (c1.getD default).2)
        let x2 := (bif (bif (decide (a6 ≠ 3)) then (decide (a6 ≠ 4)) else false) then (c2.getD default).1 else (List.replicate 384 0))
        refine rInNormal ?_
        refine rThen ?_
        refine rSeq ?_
        refine rSeq ?_
        refine zReg md0 hX rfl rfl rfl ?_
        refine rThen ?_
        refine zCond rfl rfl (fun hc => ?_) (fun hc => ?_)
        · replace hT := sT hc hT
          refine rSeq ?_
          refine zReg md0 hX rfl rfl rfl ?_
          refine rThen ?_
          refine rRet ?_
          refine rThenRet ?_
          have hy := Option.some.inj hT; subst hy
          exact zEnd0 hX rfl
        · replace hT := sF hc hT
          refine rSkip ?_
          refine rThen ?_
          refine rSeq ?_
          let c3 := (rebuild_Sum N x2 (c1.getD default).1)
          replace hT := sIf hT; obtain ⟨o1, hT⟩ := hT
          refine zReg md0 hX rfl rfl rfl ?_
          refine rThen ?_
          refine rRet ?_
          have hy := Option.some.inj hT; subst hy
          exact zEnd0 hX rfl
      · clear hT
        refine zCond rfl rfl (fun hc => ?_) (fun hc => ?_)
        · skip
          have q1 := q1 hc
          refine zReg md0 hX rfl rfl rfl ?_
          exact rTo (To.mk' [] 0 hε rfl (by (repeat' first | exact True.intro | exact rfl | apply And.intro) <;> (repeat' first | exact rfl | refine Eq.trans ?_ (cTr (by assumption)) | refine Eq.trans ?_ (cFr (by assumption)) | refine Eq.trans (cTl (by assumption)) ?_ | refine Eq.trans (cFl (by assumption)) ?_)) (by (repeat' first | exact True.intro | exact rfl | apply And.intro) <;> (repeat' first | exact rfl | refine Eq.trans ?_ (cTr (by assumption)) | refine Eq.trans ?_ (cFr (by assumption)) | refine Eq.trans (cTl (by assumption)) ?_ | refine Eq.trans (cFl (by assumption)) ?_))) hj
        · skip
          refine rSkip ?_
          exact rTo (To.mk' [] 0 hε rfl (by (repeat' first | exact True.intro | exact rfl | apply And.intro) <;> (repeat' first | exact rfl | refine Eq.trans ?_ (cTr (by assumption)) | refine Eq.trans ?_ (cFr (by assumption)) | refine Eq.trans (cTl (by assumption)) ?_ | refine Eq.trans (cFl (by assumption)) ?_)) (by (repeat' first | exact True.intro | exact rfl | apply And.intro) <;> (repeat' first | exact rfl | refine Eq.trans ?_ (cTr (by assumption)) | refine Eq.trans ?_ (cFr (by assumption)) | refine Eq.trans (cTl (by assumption)) ?_ | refine Eq.trans (cFl (by assumption)) ?_))) hj
  · cases h
def law31_lives (N : Nat) : Option Bool :=
  let c1 := (rebuild_Cell N 0 (List.replicate 3 []) 0 0 false 3 0 (List.replicate 2 0) (((((((List.replicate 6 0).set 0 10).set 1 10).set 2 10).set 3 10).set 4 10).set 5 10) (List.replicate 6 []) 3)
  if c1.isSome = true then
    let x1 := (bif (bif (decide ((c1.getD default).2 = 0)) then (decide (((c1.getD default).1.getD 0 0) = 10)) else false) then (decide (((c1.getD default).1.getD 383 0) = 10)) else false)
    some x1
  else none
def sp_law31_lives (N : Nat) : X.Spec := fun args lk => match args with
  | [] => some ⟨(law31_lives N).isSome = true, .v (.c (.bool ((law31_lives N).getD default))), [], []⟩
  | _ => none
set_option maxRecDepth 100000 in
set_option maxHeartbeats 1000000 in
theorem ok_law31_lives (N : Nat) : FnOK Tryd.prog gt0 6 (sp_law31_lives N) := by
  refine fnOK_handed Tryd.func6 rfl (by kernel_rfl) tt_ok (ktCons (ok_rebuild_Cell N) (ktNil)) ?_
  intro args lk r h hp
  unfold sp_law31_lives at h
  split at h
  · skip
    cases h
    obtain ⟨x, hx⟩ := Option.isSome_iff_exists.1 hp
    simp only [hx, Option.getD_some]
    refine hand0 rfl rfl (fun w0 M ε0 hX => ?_)
    refine rCount (fun hε => ?_)
    have hT : law31_lives N = some x := hx; clear hx hp; unfold law31_lives at hT
    refine rSeq ?_
    refine zReg md0 hX rfl rfl rfl ?_
    refine rThen ?_
    refine rSeq ?_
    let c1 := (rebuild_Cell N 0 (List.replicate 3 []) 0 0 false 3 0 (List.replicate 2 0) (((((((List.replicate 6 0).set 0 10).set 1 10).set 2 10).set 3 10).set 4 10).set 5 10) (List.replicate 6 []) 3)
    replace hT := sIf hT; obtain ⟨o1, hT⟩ := hT
    refine zReg md0 hX rfl rfl rfl ?_
    refine rThen ?_
    refine rSeq ?_
    let x1 := (bif (bif (decide ((c1.getD default).2 = 0)) then (decide (((c1.getD default).1.getD 0 0) = 10)) else false) then (decide (((c1.getD default).1.getD 383 0) = 10)) else false)
    refine zReg md0 hX rfl rfl rfl ?_
    refine rThen ?_
    refine rRet ?_
    have hy := Option.some.inj hT; subst hy
    exact zEnd0 hX rfl
  · cases h
def law31_RebuildSums (N : Nat) (a1 : (List Int)) (a2 : (List Int)) : Option Bool :=
  let c1 := (rebuild_Sum N a1 a2)
  let c2 := (ref31_Sum N a1 a2)
  let c3 := (law31_lives N)
  if c1.isSome = true ∧ c2.isSome = true ∧ ((decide ((c1.getD default) = (c2.getD default))) = true → c3.isSome = true) then
    some (bif (decide ((c1.getD default) = (c2.getD default))) then (c3.getD default) else false)
  else none
def sp_law31_RebuildSums (N : Nat) : X.Spec := fun args lk => match args with
  | [.v (.agg [.ints 384 .i64 a1]), .v (.agg [.ints 384 .i64 a2])] => some ⟨(law31_RebuildSums N a1 a2).isSome = true, .v (.c (.bool ((law31_RebuildSums N a1 a2).getD default))), [], []⟩
  | _ => none
set_option maxRecDepth 100000 in
set_option maxHeartbeats 1000000 in
theorem ok_law31_RebuildSums (N : Nat) : FnOK Tryd.prog gt0 3 (sp_law31_RebuildSums N) := by
  refine fnOK_handed Tryd.func3 rfl (by kernel_rfl) tt_ok (ktCons (ok_law31_lives N) (ktCons (ok_ref31_Sum N) (ktCons (ok_rebuild_Sum N) (ktNil)))) ?_
  intro args lk r h hp
  unfold sp_law31_RebuildSums at h
  split at h
  · rename_i a1 a2
    change (List Int) at a1
    change (List Int) at a2
    cases h
    obtain ⟨x, hx⟩ := Option.isSome_iff_exists.1 hp
    simp only [hx, Option.getD_some]
    refine hand0 rfl rfl (fun w0 M ε0 hX => ?_)
    refine rCount (fun hε => ?_)
    have hT : law31_RebuildSums N a1 a2 = some x := hx; clear hx hp; unfold law31_RebuildSums at hT
    refine rSeq ?_
    refine zReg md0 hX rfl rfl rfl ?_
    refine rThen ?_
    refine rSeq ?_
    let c1 := (rebuild_Sum N a1 a2)
    let c2 := (ref31_Sum N a1 a2)
    let c3 := (law31_lives N)
    replace hT := sIf hT; obtain ⟨⟨o1, o2, o3⟩, hT⟩ := hT
    refine rDrawM md0 0 [] hX mixed rfl rfl rfl rfl rfl (by (repeat' first | exact True.intro | with_reducible assumption | (with_reducible apply And.intro) | intro _) <;> first | assumption | exact o3 (by assumption) | exact rfl | omega | exact Nat.le_of_ble_eq_true rfl | exact selF (by assumption) | exact selT (by assumption) | exact And.intro rfl rfl | exact And.intro (by assumption) rfl | exact And.intro (by omega) rfl | (simp only [inK] at *; omega) | (simp_all [sel] <;> fail) | fail) ?_
    refine rThen ?_
    refine rRet ?_
    have hy := Option.some.inj hT; subst hy
    exact zEnd0 hX rfl
  · cases h

end Go.Proofs.YtjknjjdijoboiaaDoor
