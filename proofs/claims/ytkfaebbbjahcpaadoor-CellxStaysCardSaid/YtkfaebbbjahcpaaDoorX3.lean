/- Models of functions, and that the program does what they tell. -/
import Derived.Test.YtkfaebbbjahcpaaDoorX2
set_option linter.unusedVariables false
set_option linter.unusedSimpArgs false
namespace Go.Proofs.YtkfaebbbjahcpaaDoor
open Go.X

def whole_Round (N : Nat) (a1 : Int) (a2 : Int) : Option Int :=
 let c1 := (whole_Clip N a1 (-1099511627776) 1099511627776)
 let c2 := (whole_Clip N a2 0 32)
 if c1.isSome = true ∧ c2.isSome = true then
  bif (decide ((c2.getD default) = 0)) then
   some (c1.getD default)
  else
   let x1 := (((c1.getD default) + ((1 : Int) * 2 ^ (Int.toNat ((c2.getD default) - 1)))) / 2 ^ (Int.toNat (c2.getD default)))
   if inK .i64 ((c2.getD default) - 1) ∧ inK .u64 ((c2.getD default) - 1) ∧ (0 : Int) ≤ ((c2.getD default) - 1) ∧ (((c2.getD default) - 1)).toNat ≤ 64 ∧ inK .i64 ((1 : Int) * 2 ^ (Int.toNat ((c2.getD default) - 1))) ∧ inK .i64 ((c1.getD default) + ((1 : Int) * 2 ^ (Int.toNat ((c2.getD default) - 1)))) ∧ inK .u64 (c2.getD default) ∧ (0 : Int) ≤ (c2.getD default) ∧ ((c2.getD default)).toNat ≤ 64 then
    some x1
   else none
 else none
def sp_whole_Round (N : Nat) : X.Spec := fun args lk => match args with
 | [.v (.c (.int .i64 a1)), .v (.c (.int .i64 a2))] => some ⟨(whole_Round N a1 a2).isSome = true, .v (.c (.int .i64 ((whole_Round N a1 a2).getD default))), [], []⟩
 | _ => none
set_option maxRecDepth 100000 in
set_option maxHeartbeats 1000000 in
theorem ok_whole_Round (N : Nat) : FnOK Tryd.prog gt0 139 (sp_whole_Round N) := by
 refine fnOK_handed Tryd.func139 rfl (by kernel_rfl) tt_ok (ktCons (ok_whole_Clip N) (ktNil)) ?_
 intro args lk r h hp
 unfold sp_whole_Round at h
 split at h
 ·
  rename_i a1 a2
  cases h
  obtain ⟨x, hx⟩ := Option.isSome_iff_exists.1 hp
  simp only [hx, Option.getD_some]
  refine hand0 rfl rfl (fun w0 M ε0 hX => ?_)
  refine rCount (fun hε => ?_)
  have hT : whole_Round N a1 a2 = some x := hx; clear hx hp; unfold whole_Round at hT
  refine rSeq ?_
  refine zReg md0 hX rfl rfl rfl ?_
  refine rThen ?_
  refine rSeq ?_
  let c1 := (whole_Clip N a1 (-1099511627776) 1099511627776)
  let c2 := (whole_Clip N a2 0 32)
  replace hT := sIf hT; obtain ⟨⟨o1, o2⟩, hT⟩ := hT
  refine zReg md0 hX rfl rfl rfl ?_
  refine rThen ?_
  refine rSeq ?_
  refine rSeq ?_
  refine zReg md0 hX rfl rfl rfl ?_
  refine rThen ?_
  refine zCond rfl rfl (fun hc => ?_) (fun hc => ?_)
  ·
   replace hT := sT hc hT
   refine rSeq ?_
   refine zReg md0 hX rfl rfl rfl ?_
   refine rThen ?_
   refine rRet ?_
   refine rThenRet ?_
   have hy := Option.some.inj hT; subst hy
   exact zEnd0 hX rfl
  ·
   replace hT := sF hc hT
   refine rSkip ?_
   refine rThen ?_
   refine rSeq ?_
   let x1 := (((c1.getD default) + ((1 : Int) * 2 ^ (Int.toNat ((c2.getD default) - 1)))) / 2 ^ (Int.toNat (c2.getD default)))
   replace hT := sIf hT; obtain ⟨⟨o1, o2, o3, o4, o5, o6, o7, o8, o9⟩, hT⟩ := hT
   refine zReg md0 hX rfl rfl rfl ?_
   refine rThen ?_
   refine rRet ?_
   have hy := Option.some.inj hT; subst hy
   exact zEnd0 hX rfl
 ·
  cases h
def dct_rounded_b1 (N : Nat) (a1 : (List Int)) (a2 : Int) (a3 : Int) (s1 : (Int × (List Int))) : Option ((Int × (List Int)) ⊕ (List Int)) :=
 bif (decide (s1.1 < 64)) then
  if (0 : Int) ≤ s1.1 ∧ s1.1 < 64 ∧ (s1.1).toNat < 64 then
   let c1 := (whole_Round N (a1.getD (s1.1).toNat 0) 15)
   let c2 := (whole_Clip N (c1.getD default) a2 a3)
   if c1.isSome = true ∧ c2.isSome = true ∧ (0 : Int) ≤ s1.1 ∧ s1.1 < 64 ∧ (s1.1).toNat < 64 then
    if inK .i64 (s1.1 + 1) then
     some (.inl ((s1.1 + 1), (s1.2.set (s1.1).toNat (c2.getD default))))
    else none
   else none
  else none
 else
  some (.inr s1.2)
def dct_rounded (N : Nat) (a1 : (List Int)) (a2 : Int) (a3 : Int) : Option (List Int) :=
 (iter (dct_rounded_b1 N a1 a2 a3) N (0, (List.replicate 64 0))).bind fun v1 =>
  some v1
def sp_dct_rounded (N : Nat) : X.Spec := fun args lk => match args with
 | [.v (.agg [.ints 64 .i64 a1]), .v (.c (.int .i64 a2)), .v (.c (.int .i64 a3))] => some ⟨(dct_rounded N a1 a2 a3).isSome = true, .v (.agg [.ints 64 .i64 ((dct_rounded N a1 a2 a3).getD default)]), [], []⟩
 | _ => none
set_option maxRecDepth 100000 in
set_option maxHeartbeats 1000000 in
theorem ok_dct_rounded (N : Nat) : FnOK Tryd.prog gt0 107 (sp_dct_rounded N) := by
 refine fnOK_handed Tryd.func107 rfl (by kernel_rfl) tt_ok (ktCons (ok_whole_Clip N) (ktCons (ok_whole_Round N) (ktNil))) ?_
 intro args lk r h hp
 unfold sp_dct_rounded at h
 split at h
 ·
  rename_i a1 a2 a3
  change (List Int) at a1
  cases h
  obtain ⟨x, hx⟩ := Option.isSome_iff_exists.1 hp
  simp only [hx, Option.getD_some]
  refine hand0 rfl rfl (fun w0 M ε0 hX => ?_)
  refine rCount (fun hε => ?_)
  have hT : dct_rounded N a1 a2 a3 = some x := hx; clear hx hp; unfold dct_rounded at hT
  refine rSeq ?_
  refine zReg md0 hX rfl rfl rfl ?_
  refine rThen ?_
  refine rSeq ?_
  refine zReg md0 hX rfl rfl rfl ?_
  refine rThen ?_
  refine rSeq ?_
  refine rSeq ?_
  refine zReg md0 hX rfl rfl rfl ?_
  refine rThen ?_
  refine rBlock ?_
  replace hT := sBind hT; obtain ⟨w1, hl, hT⟩ := hT
  refine rJoinA (fun v1 => v1 = w1) (fun v1 => ⟨[(6, .v (.c (.ptr 1 0 0 0 0 0))), (7, .v (.c (.ptr 2 0 0 0 0 0)))], [(1, .mem true 22 none (.flat [.ints 64 .i64 (List.replicate 64 0)])), (2, .mem true 22 none (.flat [.ints 64 .i64 v1]))], 3⟩) (.exit 0) (fun v1 hv => ?_) (fun hxs10 => ?_)
  ·
   subst hv; clear hl
   refine rInHit ?_
   refine rThen ?_
   refine rSeq ?_
   refine zReg md0 hX rfl rfl rfl ?_
   refine rThen ?_
   refine rRet ?_
   have hy := Option.some.inj hT; subst hy
   exact zEnd0 hX rfl
  refine rLoopM (dct_rounded_b1 N a1 a2 a3) (fun s1 => ⟨[(1, .v (.c (.int .i64 a2))), (2, .v (.c (.int .i64 a3))), (6, .v (.c (.ptr 1 0 0 0 0 0))), (7, .v (.c (.ptr 2 0 0 0 0 0))), (10, .v (.agg [.ints 64 .i64 a1])), (11, .v (.c (.int .i64 s1.1)))], [(1, .mem true 22 none (.flat [.ints 64 .i64 (List.replicate 64 0)])), (2, .mem true 22 none (.flat [.ints 64 .i64 s1.2]))], 3⟩) hl (To.mk' [] 0 hε rfl (by repeat' first | exact True.intro | exact rfl | apply And.intro) (by repeat' first | exact True.intro | exact rfl | apply And.intro)) (fun s1 zs1 NNs1 hz hnexts1 houts1 => ?_)
  clear hl hT
  have hT := hz; clear hz
  refine rSeq ?_
  refine zReg md0 hX rfl rfl rfl ?_
  refine rThen ?_
  refine rSeq ?_
  refine zCond rfl rfl (fun hc => ?_) (fun hc => ?_)
  ·
   replace hT := sT hc hT
   refine rSkip ?_
   refine rThen ?_
   refine rSeq ?_
   refine rBlock ?_
   refine rSeq ?_
   replace hT := sIf hT; obtain ⟨⟨o1, o2, o3⟩, hT⟩ := hT
   refine zReg md0 hX rfl rfl rfl ?_
   refine rThen ?_
   let c1 := (whole_Round N (a1.getD (s1.1).toNat 0) 15)
   let c2 := (whole_Clip N (c1.getD default) a2 a3)
   replace hT := sIf hT; obtain ⟨⟨o1, o2, o3, o4, o5⟩, hT⟩ := hT
   refine zReg md0 hX rfl rfl rfl ?_
   refine rInNormal ?_
   refine rThen ?_
   replace hT := sIf hT; obtain ⟨o1, hT⟩ := hT
   refine zReg md0 hX rfl rfl rfl ?_
   exact hnexts1 _ (Option.some.inj hT).symm _ (To.mk' [] 0 hε rfl (by repeat' first | exact True.intro | exact rfl | apply And.intro) (by repeat' first | exact True.intro | exact rfl | apply And.intro))
  ·
   replace hT := sF hc hT
   refine rExit ?_
   refine rThenExit ?_
   refine rThenExit ?_
   exact zTo [] 0 hε (hxs10 _ (houts1 _ (Option.some.inj hT).symm))
 ·
  cases h
def dct_Forward (N : Nat) (a1 : (List Int)) : Option (List Int) :=
 let c1 := (dct_within N a1)
 if c1.isSome = true then
  let c2 := (dct_pass_fore N (c1.getD default))
  if c2.isSome = true then
   let c3 := (dct_pass_fore N (c2.getD default))
   let c4 := (dct_rounded N (c3.getD default) (-2048) 2047)
   if c3.isSome = true ∧ c4.isSome = true then
    some (c4.getD default)
   else none
  else none
 else none
def sp_dct_Forward (N : Nat) : X.Spec := fun args lk => match args with
 | [.v (.agg [.ints 64 .i64 a1])] => some ⟨(dct_Forward N a1).isSome = true, .v (.agg [.ints 64 .i64 ((dct_Forward N a1).getD default)]), [], []⟩
 | _ => none
set_option maxRecDepth 100000 in
set_option maxHeartbeats 1000000 in
theorem ok_dct_Forward (N : Nat) : FnOK Tryd.prog gt0 51 (sp_dct_Forward N) := by
 refine fnOK_handed Tryd.func51 rfl (by kernel_rfl) tt_ok (ktCons (ok_dct_rounded N) (ktCons (ok_dct_pass_fore N) (ktCons (ok_dct_within N) (ktNil)))) ?_
 intro args lk r h hp
 unfold sp_dct_Forward at h
 split at h
 ·
  rename_i a1
  change (List Int) at a1
  cases h
  obtain ⟨x, hx⟩ := Option.isSome_iff_exists.1 hp
  simp only [hx, Option.getD_some]
  refine hand0 rfl rfl (fun w0 M ε0 hX => ?_)
  refine rCount (fun hε => ?_)
  have hT : dct_Forward N a1 = some x := hx; clear hx hp; unfold dct_Forward at hT
  refine rSeq ?_
  refine zReg md0 hX rfl rfl rfl ?_
  refine rThen ?_
  refine rSeq ?_
  let c1 := (dct_within N a1)
  replace hT := sIf hT; obtain ⟨o1, hT⟩ := hT
  refine zReg md0 hX rfl rfl rfl ?_
  refine rThen ?_
  refine rSeq ?_
  let c2 := (dct_pass_fore N (c1.getD default))
  replace hT := sIf hT; obtain ⟨o1, hT⟩ := hT
  refine zReg md0 hX rfl rfl rfl ?_
  refine rThen ?_
  refine rSeq ?_
  let c3 := (dct_pass_fore N (c2.getD default))
  let c4 := (dct_rounded N (c3.getD default) (-2048) 2047)
  replace hT := sIf hT; obtain ⟨⟨o1, o2⟩, hT⟩ := hT
  refine zReg md0 hX rfl rfl rfl ?_
  refine rThen ?_
  refine rRet ?_
  have hy := Option.some.inj hT; subst hy
  exact zEnd0 hX rfl
 ·
  cases h
def coarse_level (N : Nat) (a1 : Int) (a2 : Int) (a3 : Int) : Option Int :=
 let c1 := (whole_Clip N ((max a2 (0 : Int)) / ((2 : Int) * a3)) 0 127)
 if inK .i64 ((2 : Int) * a3) ∧ (0 : Int) ≤ (max a2 (0 : Int)) ∧ (0 : Int) < ((2 : Int) * a3) ∧ c1.isSome = true then
  bif (decide (a1 < 0)) then
   if inK .i64 (-(c1.getD default)) then
    some (-(c1.getD default))
   else none
  else
   some (c1.getD default)
 else none
def sp_coarse_level (N : Nat) : X.Spec := fun args lk => match args with
 | [.v (.c (.int .i64 a1)), .v (.c (.int .i64 a2)), .v (.c (.int .i64 a3))] => some ⟨(coarse_level N a1 a2 a3).isSome = true, .v (.c (.int .i64 ((coarse_level N a1 a2 a3).getD default))), [], []⟩
 | _ => none
set_option maxRecDepth 100000 in
set_option maxHeartbeats 1000000 in
theorem ok_coarse_level (N : Nat) : FnOK Tryd.prog gt0 140 (sp_coarse_level N) := by
 refine fnOK_handed Tryd.func140 rfl (by kernel_rfl) tt_ok (ktCons (ok_whole_Clip N) (ktNil)) ?_
 intro args lk r h hp
 unfold sp_coarse_level at h
 split at h
 ·
  rename_i a1 a2 a3
  cases h
  obtain ⟨x, hx⟩ := Option.isSome_iff_exists.1 hp
  simp only [hx, Option.getD_some]
  refine hand0 rfl rfl (fun w0 M ε0 hX => ?_)
  refine rCount (fun hε => ?_)
  have hT : coarse_level N a1 a2 a3 = some x := hx; clear hx hp; unfold coarse_level at hT
  refine rSeq ?_
  refine zReg md0 hX rfl rfl rfl ?_
  refine rThen ?_
  refine rSeq ?_
  let c1 := (whole_Clip N ((max a2 (0 : Int)) / ((2 : Int) * a3)) 0 127)
  replace hT := sIf hT; obtain ⟨⟨o1, o2, o3, o4⟩, hT⟩ := hT
  refine zReg md0 hX rfl rfl rfl ?_
  refine rThen ?_
  refine rSeq ?_
  refine rSeq ?_
  refine zReg md0 hX rfl rfl rfl ?_
  refine rThen ?_
  refine zCond rfl rfl (fun hc => ?_) (fun hc => ?_)
  ·
   replace hT := sT hc hT
   refine rSeq ?_
   replace hT := sIf hT; obtain ⟨o1, hT⟩ := hT
   refine zReg md0 hX rfl rfl rfl ?_
   refine rThen ?_
   refine rRet ?_
   refine rThenRet ?_
   have hy := Option.some.inj hT; subst hy
   exact zEnd0 hX rfl
  ·
   replace hT := sF hc hT
   refine rSkip ?_
   refine rThen ?_
   refine rSeq ?_
   refine zReg md0 hX rfl rfl rfl ?_
   refine rThen ?_
   refine rRet ?_
   have hy := Option.some.inj hT; subst hy
   exact zEnd0 hX rfl
 ·
  cases h
def coarse_Intra (N : Nat) (a1 : Int) (a2 : Int) : Option Int :=
 let c1 := (whole_Clip N a1 (-2048) 2047)
 let c2 := (whole_Clip N a2 1 31)
 if c1.isSome = true ∧ c2.isSome = true then
  let c3 := (coarse_level N (c1.getD default) (max (c1.getD default) (-(c1.getD default))) (c2.getD default))
  if inK .i64 (-(c1.getD default)) ∧ c3.isSome = true then
   some (c3.getD default)
  else none
 else none
def sp_coarse_Intra (N : Nat) : X.Spec := fun args lk => match args with
 | [.v (.c (.int .i64 a1)), .v (.c (.int .i64 a2))] => some ⟨(coarse_Intra N a1 a2).isSome = true, .v (.c (.int .i64 ((coarse_Intra N a1 a2).getD default))), [], []⟩
 | _ => none
set_option maxRecDepth 100000 in
set_option maxHeartbeats 1000000 in
theorem ok_coarse_Intra (N : Nat) : FnOK Tryd.prog gt0 109 (sp_coarse_Intra N) := by
 refine fnOK_handed Tryd.func109 rfl (by kernel_rfl) tt_ok (ktCons (ok_coarse_level N) (ktCons (ok_whole_Clip N) (ktNil))) ?_
 intro args lk r h hp
 unfold sp_coarse_Intra at h
 split at h
 ·
  rename_i a1 a2
  cases h
  obtain ⟨x, hx⟩ := Option.isSome_iff_exists.1 hp
  simp only [hx, Option.getD_some]
  refine hand0 rfl rfl (fun w0 M ε0 hX => ?_)
  refine rCount (fun hε => ?_)
  have hT : coarse_Intra N a1 a2 = some x := hx; clear hx hp; unfold coarse_Intra at hT
  refine rSeq ?_
  refine zReg md0 hX rfl rfl rfl ?_
  refine rThen ?_
  refine rSeq ?_
  let c1 := (whole_Clip N a1 (-2048) 2047)
  let c2 := (whole_Clip N a2 1 31)
  replace hT := sIf hT; obtain ⟨⟨o1, o2⟩, hT⟩ := hT
  refine zReg md0 hX rfl rfl rfl ?_
  refine rThen ?_
  refine rSeq ?_
  let c3 := (coarse_level N (c1.getD default) (max (c1.getD default) (-(c1.getD default))) (c2.getD default))
  replace hT := sIf hT; obtain ⟨⟨o1, o2⟩, hT⟩ := hT
  refine zReg md0 hX rfl rfl rfl ?_
  refine rThen ?_
  refine rRet ?_
  have hy := Option.some.inj hT; subst hy
  exact zEnd0 hX rfl
 ·
  cases h
def coarse_Inter (N : Nat) (a1 : Int) (a2 : Int) : Option Int :=
 let c1 := (whole_Clip N a1 (-2048) 2047)
 let c2 := (whole_Clip N a2 1 31)
 if c1.isSome = true ∧ c2.isSome = true then
  let c3 := (coarse_level N (c1.getD default) ((max (c1.getD default) (-(c1.getD default))) - ((c2.getD default) / 2)) (c2.getD default))
  if inK .i64 (-(c1.getD default)) ∧ (0 : Int) ≤ (c2.getD default) ∧ inK .i64 ((max (c1.getD default) (-(c1.getD default))) - ((c2.getD default) / 2)) ∧ c3.isSome = true then
   some (c3.getD default)
  else none
 else none
def sp_coarse_Inter (N : Nat) : X.Spec := fun args lk => match args with
 | [.v (.c (.int .i64 a1)), .v (.c (.int .i64 a2))] => some ⟨(coarse_Inter N a1 a2).isSome = true, .v (.c (.int .i64 ((coarse_Inter N a1 a2).getD default))), [], []⟩
 | _ => none
set_option maxRecDepth 100000 in
set_option maxHeartbeats 1000000 in
theorem ok_coarse_Inter (N : Nat) : FnOK Tryd.prog gt0 108 (sp_coarse_Inter N) := by
 refine fnOK_handed Tryd.func108 rfl (by kernel_rfl) tt_ok (ktCons (ok_coarse_level N) (ktCons (ok_whole_Clip N) (ktNil))) ?_
 intro args lk r h hp
 unfold sp_coarse_Inter at h
 split at h
 ·
  rename_i a1 a2
  cases h
  obtain ⟨x, hx⟩ := Option.isSome_iff_exists.1 hp
  simp only [hx, Option.getD_some]
  refine hand0 rfl rfl (fun w0 M ε0 hX => ?_)
  refine rCount (fun hε => ?_)
  have hT : coarse_Inter N a1 a2 = some x := hx; clear hx hp; unfold coarse_Inter at hT
  refine rSeq ?_
  refine zReg md0 hX rfl rfl rfl ?_
  refine rThen ?_
  refine rSeq ?_
  let c1 := (whole_Clip N a1 (-2048) 2047)
  let c2 := (whole_Clip N a2 1 31)
  replace hT := sIf hT; obtain ⟨⟨o1, o2⟩, hT⟩ := hT
  refine zReg md0 hX rfl rfl rfl ?_
  refine rThen ?_
  refine rSeq ?_
  let c3 := (coarse_level N (c1.getD default) ((max (c1.getD default) (-(c1.getD default))) - ((c2.getD default) / 2)) (c2.getD default))
  replace hT := sIf hT; obtain ⟨⟨o1, o2, o3, o4⟩, hT⟩ := hT
  refine zReg md0 hX rfl rfl rfl ?_
  refine rThen ?_
  refine rRet ?_
  have hy := Option.some.inj hT; subst hy
  exact zEnd0 hX rfl
 ·
  cases h
def coarse_Block_b1 (N : Nat) (a1 : (List Int)) (a2 : Int) (s1 : (Int × (List Int))) : Option ((Int × (List Int)) ⊕ (List Int)) :=
 bif (decide (s1.1 < 64)) then
  if (0 : Int) ≤ s1.1 ∧ s1.1 < 64 ∧ (s1.1).toNat < 64 then
   let c1 := (coarse_Intra N (a1.getD (s1.1).toNat 0) a2)
   if c1.isSome = true ∧ (0 : Int) ≤ s1.1 ∧ s1.1 < 64 ∧ (s1.1).toNat < 64 then
    if inK .i64 (s1.1 + 1) then
     some (.inl ((s1.1 + 1), (s1.2.set (s1.1).toNat (c1.getD default))))
    else none
   else none
  else none
 else
  some (.inr s1.2)
def coarse_Block_b2 (N : Nat) (a1 : (List Int)) (a2 : Int) (s2 : (Int × (List Int))) : Option ((Int × (List Int)) ⊕ (List Int)) :=
 bif (decide (s2.1 < 64)) then
  if (0 : Int) ≤ s2.1 ∧ s2.1 < 64 ∧ (s2.1).toNat < 64 then
   let c2 := (coarse_Inter N (a1.getD (s2.1).toNat 0) a2)
   if c2.isSome = true ∧ (0 : Int) ≤ s2.1 ∧ s2.1 < 64 ∧ (s2.1).toNat < 64 then
    if inK .i64 (s2.1 + 1) then
     some (.inl ((s2.1 + 1), (s2.2.set (s2.1).toNat (c2.getD default))))
    else none
   else none
  else none
 else
  some (.inr s2.2)
def coarse_Block (N : Nat) (a1 : (List Int)) (a2 : Int) (a3 : Bool) : Option (List Int) :=
 bif a3 then
  (iter (coarse_Block_b1 N a1 a2) N (0, (List.replicate 64 0))).bind fun v1 =>
   some (v1.set 0 0)
 else
  (iter (coarse_Block_b2 N a1 a2) N (0, (List.replicate 64 0))).bind fun v2 =>
   some v2
def sp_coarse_Block (N : Nat) : X.Spec := fun args lk => match args with
 | [.v (.agg [.ints 64 .i64 a1]), .v (.c (.int .i64 a2)), .v (.c (.bool a3))] => some ⟨(coarse_Block N a1 a2 a3).isSome = true, .v (.agg [.ints 64 .i64 ((coarse_Block N a1 a2 a3).getD default)]), [], []⟩
 | _ => none
set_option maxRecDepth 100000 in
set_option maxHeartbeats 1000000 in
theorem ok_coarse_Block (N : Nat) : FnOK Tryd.prog gt0 52 (sp_coarse_Block N) := by
 refine fnOK_handed Tryd.func52 rfl (by kernel_rfl) tt_ok (ktCons (ok_coarse_Inter N) (ktCons (ok_coarse_Intra N) (ktNil))) ?_
 intro args lk r h hp
 unfold sp_coarse_Block at h
 split at h
 ·
  rename_i a1 a2 a3
  change (List Int) at a1
  cases h
  obtain ⟨x, hx⟩ := Option.isSome_iff_exists.1 hp
  simp only [hx, Option.getD_some]
  refine hand0 rfl rfl (fun w0 M ε0 hX => ?_)
  refine rCount (fun hε => ?_)
  have hT : coarse_Block N a1 a2 a3 = some x := hx; clear hx hp; unfold coarse_Block at hT
  refine rSeq ?_
  refine zReg md0 hX rfl rfl rfl ?_
  refine rThen ?_
  refine rSeq ?_
  refine zReg md0 hX rfl rfl rfl ?_
  refine rThen ?_
  refine rSeq ?_
  refine rSeq ?_
  refine zReg md0 hX rfl rfl rfl ?_
  refine rThen ?_
  refine zCond rfl rfl (fun hc => ?_) (fun hc => ?_)
  ·
   replace hT := sT hc hT
   refine zReg md0 hX rfl rfl rfl ?_
   refine rThen ?_
   refine rSeq ?_
   refine zReg md0 hX rfl rfl rfl ?_
   refine rThen ?_
   refine rSeq ?_
   refine rSeq ?_
   refine zReg md0 hX rfl rfl rfl ?_
   refine rThen ?_
   refine rBlock ?_
   replace hT := sBind hT; obtain ⟨w1, hl, hT⟩ := hT
   refine rJoinA (fun v1 => v1 = w1) (fun v1 => ⟨[(2, .v (.c (.bool a3))), (6, .v (.c (.ptr 1 0 0 0 0 0))), (8, .v (.c (.ptr 2 0 0 0 0 0)))], [(1, .mem true 22 none (.flat [.ints 64 .i64 (List.replicate 64 0)])), (2, .mem true 22 none (.flat [.ints 64 .i64 v1]))], 3⟩) (.exit 0) (fun v1 hv => ?_) (fun hxs10 => ?_)
   ·
    subst hv; clear hl
    refine rInHit ?_
    refine rThen ?_
    refine rSeq ?_
    refine rSeq ?_
    refine zReg md0 hX rfl rfl rfl ?_
    refine rThen ?_
    refine rCondT rfl rfl (by (repeat' first | exact True.intro | with_reducible assumption | (with_reducible apply And.intro) | intro _) <;> first | assumption | exact rfl | omega | exact Nat.le_of_ble_eq_true rfl | exact selF (by assumption) | exact selT (by assumption) | exact And.intro rfl rfl | exact And.intro (by assumption) rfl | exact And.intro (by omega) rfl | (simp only [inK] at *; omega) | (simp_all [sel] <;> fail) | fail) (by assumption) ?_
    refine zReg md0 hX rfl rfl rfl ?_
    refine rThen ?_
    refine rSeq ?_
    refine zReg md0 hX rfl rfl rfl ?_
    refine rThen ?_
    refine rRet ?_
    have hy := Option.some.inj hT; subst hy
    exact zEnd0 hX rfl
   refine rLoopM (coarse_Block_b1 N a1 a2) (fun s1 => ⟨[(1, .v (.c (.int .i64 a2))), (2, .v (.c (.bool a3))), (6, .v (.c (.ptr 1 0 0 0 0 0))), (7, .v (.c (.clo 109 []))), (8, .v (.c (.ptr 2 0 0 0 0 0))), (12, .v (.agg [.ints 64 .i64 a1])), (13, .v (.c (.int .i64 s1.1)))], [(1, .mem true 22 none (.flat [.ints 64 .i64 (List.replicate 64 0)])), (2, .mem true 22 none (.flat [.ints 64 .i64 s1.2]))], 3⟩) hl (To.mk' [] 0 hε rfl (by repeat' first | exact True.intro | exact rfl | apply And.intro) (by repeat' first | exact True.intro | exact rfl | apply And.intro)) (fun s1 zs1 NNs1 hz hnexts1 houts1 => ?_)
   clear hl hT
   have hT := hz; clear hz
   refine rSeq ?_
   refine zReg md0 hX rfl rfl rfl ?_
   refine rThen ?_
   refine rSeq ?_
   refine zCond rfl rfl (fun hc => ?_) (fun hc => ?_)
   ·
    replace hT := sT hc hT
    refine rSkip ?_
    refine rThen ?_
    refine rSeq ?_
    refine rBlock ?_
    refine rSeq ?_
    replace hT := sIf hT; obtain ⟨⟨o1, o2, o3⟩, hT⟩ := hT
    refine zReg md0 hX rfl rfl rfl ?_
    refine rThen ?_
    let c1 := (coarse_Intra N (a1.getD (s1.1).toNat 0) a2)
    replace hT := sIf hT; obtain ⟨⟨o1, o2, o3, o4⟩, hT⟩ := hT
    refine zReg md0 hX rfl rfl rfl ?_
    refine rInNormal ?_
    refine rThen ?_
    replace hT := sIf hT; obtain ⟨o1, hT⟩ := hT
    refine zReg md0 hX rfl rfl rfl ?_
    exact hnexts1 _ (Option.some.inj hT).symm _ (To.mk' [] 0 hε rfl (by repeat' first | exact True.intro | exact rfl | apply And.intro) (by repeat' first | exact True.intro | exact rfl | apply And.intro))
   ·
    replace hT := sF hc hT
    refine rExit ?_
    refine rThenExit ?_
    refine rThenExit ?_
    exact zTo [] 0 hε (hxs10 _ (houts1 _ (Option.some.inj hT).symm))
  ·
   replace hT := sF hc hT
   refine rSkip ?_
   refine rThen ?_
   refine rSeq ?_
   refine zReg md0 hX rfl rfl rfl ?_
   refine rThen ?_
   refine rSeq ?_
   refine rSeq ?_
   refine zReg md0 hX rfl rfl rfl ?_
   refine rThen ?_
   refine rBlock ?_
   replace hT := sBind hT; obtain ⟨w2, hl, hT⟩ := hT
   refine rJoinA (fun v2 => v2 = w2) (fun v2 => ⟨[(2, .v (.c (.bool a3))), (6, .v (.c (.ptr 1 0 0 0 0 0))), (8, .v (.c (.ptr 2 0 0 0 0 0)))], [(1, .mem true 22 none (.flat [.ints 64 .i64 (List.replicate 64 0)])), (2, .mem true 22 none (.flat [.ints 64 .i64 v2]))], 3⟩) (.exit 0) (fun v2 hv => ?_) (fun hxs20 => ?_)
   ·
    subst hv; clear hl
    refine rInHit ?_
    refine rThen ?_
    refine rSeq ?_
    refine rSeq ?_
    refine zReg md0 hX rfl rfl rfl ?_
    refine rThen ?_
    refine rCondF rfl rfl (by (repeat' first | exact True.intro | with_reducible assumption | (with_reducible apply And.intro) | intro _) <;> first | assumption | exact rfl | omega | exact Nat.le_of_ble_eq_true rfl | exact selF (by assumption) | exact selT (by assumption) | exact And.intro rfl rfl | exact And.intro (by assumption) rfl | exact And.intro (by omega) rfl | (simp only [inK] at *; omega) | (simp_all [sel] <;> fail) | fail) (by assumption) ?_
    refine rSkip ?_
    refine rThen ?_
    refine rSeq ?_
    refine zReg md0 hX rfl rfl rfl ?_
    refine rThen ?_
    refine rRet ?_
    have hy := Option.some.inj hT; subst hy
    exact zEnd0 hX rfl
   refine rLoopM (coarse_Block_b2 N a1 a2) (fun s2 => ⟨[(1, .v (.c (.int .i64 a2))), (2, .v (.c (.bool a3))), (6, .v (.c (.ptr 1 0 0 0 0 0))), (7, .v (.c (.clo 108 []))), (8, .v (.c (.ptr 2 0 0 0 0 0))), (12, .v (.agg [.ints 64 .i64 a1])), (13, .v (.c (.int .i64 s2.1)))], [(1, .mem true 22 none (.flat [.ints 64 .i64 (List.replicate 64 0)])), (2, .mem true 22 none (.flat [.ints 64 .i64 s2.2]))], 3⟩) hl (To.mk' [] 0 hε rfl (by repeat' first | exact True.intro | exact rfl | apply And.intro) (by repeat' first | exact True.intro | exact rfl | apply And.intro)) (fun s2 zs2 NNs2 hz hnexts2 houts2 => ?_)
   clear hl hT
   have hT := hz; clear hz
   refine rSeq ?_
   refine zReg md0 hX rfl rfl rfl ?_
   refine rThen ?_
   refine rSeq ?_
   refine zCond rfl rfl (fun hc => ?_) (fun hc => ?_)
   ·
    replace hT := sT hc hT
    refine rSkip ?_
    refine rThen ?_
    refine rSeq ?_
    refine rBlock ?_
    refine rSeq ?_
    replace hT := sIf hT; obtain ⟨⟨o1, o2, o3⟩, hT⟩ := hT
    refine zReg md0 hX rfl rfl rfl ?_
    refine rThen ?_
    let c2 := (coarse_Inter N (a1.getD (s2.1).toNat 0) a2)
    replace hT := sIf hT; obtain ⟨⟨o1, o2, o3, o4⟩, hT⟩ := hT
    refine zReg md0 hX rfl rfl rfl ?_
    refine rInNormal ?_
    refine rThen ?_
    replace hT := sIf hT; obtain ⟨o1, hT⟩ := hT
    refine zReg md0 hX rfl rfl rfl ?_
    exact hnexts2 _ (Option.some.inj hT).symm _ (To.mk' [] 0 hε rfl (by repeat' first | exact True.intro | exact rfl | apply And.intro) (by repeat' first | exact True.intro | exact rfl | apply And.intro))
   ·
    replace hT := sF hc hT
    refine rExit ?_
    refine rThenExit ?_
    refine rThenExit ?_
    exact zTo [] 0 hε (hxs20 _ (houts2 _ (Option.some.inj hT).symm))
 ·
  cases h
def feed_Block_b1 (N : Nat) (c3 : (Option (List Int))) (s1 : (Int × (List Int))) : Option ((Int × (List Int)) ⊕ (List Int)) :=
 bif (decide (s1.1 < 64)) then
  if (0 : Int) ≤ s1.1 ∧ s1.1 < 64 ∧ (s1.1).toNat < 64 then
   let x2 := (s1.2.set (s1.1).toNat ((s1.2.getD (s1.1).toNat 0) + ((c3.getD default).getD (s1.1).toNat 0)))
   if (0 : Int) ≤ s1.1 ∧ s1.1 < 64 ∧ (s1.1).toNat < 64 ∧ inK .i64 ((s1.2.getD (s1.1).toNat 0) + ((c3.getD default).getD (s1.1).toNat 0)) then
    if inK .i64 (s1.1 + 1) then
     some (.inl ((s1.1 + 1), x2))
    else none
   else none
  else none
 else
  some (.inr s1.2)
def feed_Block (N : Nat) (a1 : (List Int)) (a2 : (List Int)) (a3 : Int) (a4 : Int) (a5 : Bool) : Option (List Int) :=
 let c1 := (feed_plain N a1 a2 a3 a4 a5)
 if c1.isSome = true then
  let x1 := (bif (decide ((c1.getD default).2.2.1 = (c1.getD default).2.2.2.1)) then (decide ((c1.getD default).2.1 = (List.replicate 64 0))) else false)
  bif x1 then
   some (c1.getD default).1
  else
   let c2 := (scale_Block N (c1.getD default).1 (c1.getD default).2.2.1 false 0)
   if c2.isSome = true then
    let c3 := (dct_Forward N (c1.getD default).2.1)
    if c3.isSome = true then
     (iter (feed_Block_b1 N c3) N (0, (c2.getD default))).bind fun v1 =>
      let c4 := (coarse_Block N v1 (c1.getD default).2.2.2.1 (c1.getD default).2.2.2.2)
      if c4.isSome = true then
       some (c4.getD default)
      else none
    else none
   else none
 else none
def sp_feed_Block (N : Nat) : X.Spec := fun args lk => match args with
 | [.v (.agg [.ints 64 .i64 a1, .ints 64 .i64 a2, .cs [.int .i64 a3, .int .i64 a4, .bool a5]])] => some ⟨(feed_Block N a1 a2 a3 a4 a5).isSome = true, .v (.agg [.ints 64 .i64 ((feed_Block N a1 a2 a3 a4 a5).getD default)]), [], []⟩
 | _ => none
set_option maxRecDepth 100000 in
set_option maxHeartbeats 1000000 in
theorem ok_feed_Block (N : Nat) : FnOK Tryd.prog gt0 13 (sp_feed_Block N) := by
 refine fnOK_handed Tryd.func13 rfl (by kernel_rfl) tt_ok (ktCons (ok_coarse_Block N) (ktCons (ok_dct_Forward N) (ktCons (ok_scale_Block N) (ktCons (ok_feed_plain N) (ktNil))))) ?_
 intro args lk r h hp
 unfold sp_feed_Block at h
 split at h
 ·
  rename_i a1 a2 a3 a4 a5
  change (List Int) at a1
  change (List Int) at a2
  cases h
  obtain ⟨x, hx⟩ := Option.isSome_iff_exists.1 hp
  simp only [hx, Option.getD_some]
  refine hand0 rfl rfl (fun w0 M ε0 hX => ?_)
  refine rCount (fun hε => ?_)
  have hT : feed_Block N a1 a2 a3 a4 a5 = some x := hx; clear hx hp; unfold feed_Block at hT
  refine rSeq ?_
  refine zReg md0 hX rfl rfl rfl ?_
  refine rThen ?_
  refine rSeq ?_
  let c1 := (feed_plain N a1 a2 a3 a4 a5)
  replace hT := sIf hT; obtain ⟨o1, hT⟩ := hT
  refine zReg md0 hX rfl rfl rfl ?_
  refine rThen ?_
  refine rSeq ?_
  refine rSeq ?_
  let x1 := (bif (decide ((c1.getD default).2.2.1 = (c1.getD default).2.2.2.1)) then (decide ((c1.getD default).2.1 = (List.replicate 64 0))) else false)
  refine zReg md0 hX rfl rfl rfl ?_
  refine rThen ?_
  refine zCond rfl rfl (fun hc => ?_) (fun hc => ?_)
  ·
   replace hT := sT hc hT
   refine rSeq ?_
   refine zReg md0 hX rfl rfl rfl ?_
   refine rThen ?_
   refine rRet ?_
   refine rThenRet ?_
   have hy := Option.some.inj hT; subst hy
   exact zEnd0 hX rfl
  ·
   replace hT := sF hc hT
   refine rSkip ?_
   refine rThen ?_
   refine rSeq ?_
   let c2 := (scale_Block N (c1.getD default).1 (c1.getD default).2.2.1 false 0)
   replace hT := sIf hT; obtain ⟨o1, hT⟩ := hT
   refine zReg md0 hX rfl rfl rfl ?_
   refine rThen ?_
   refine rSeq ?_
   refine rSeq ?_
   let c3 := (dct_Forward N (c1.getD default).2.1)
   replace hT := sIf hT; obtain ⟨o1, hT⟩ := hT
   refine zReg md0 hX rfl rfl rfl ?_
   refine rThen ?_
   refine rBlock ?_
   replace hT := sBind hT; obtain ⟨w1, hl, hT⟩ := hT
   refine rJoinA (fun v1 => v1 = w1) (fun v1 => ⟨[(1, .v (.c (.ptr 0 0 0 0 0 0))), (2, .v (.c (.ptr 1 0 0 0 0 0))), (3, .v (.c (.ptr 2 0 0 0 0 0)))], [(0, .mem true 26 none (.flat [.ints 64 .i64 (c1.getD default).1, .ints 64 .i64 (c1.getD default).2.1, .cs [.int .i64 (c1.getD default).2.2.1, .int .i64 (c1.getD default).2.2.2.1, .bool (c1.getD default).2.2.2.2]])), (1, .mem true 22 none (.flat [.ints 64 .i64 (List.replicate 64 0)])), (2, .mem true 22 none (.flat [.ints 64 .i64 v1]))], 3⟩) (.exit 0) (fun v1 hv => ?_) (fun hxs10 => ?_)
   ·
    subst hv; clear hl
    refine rInHit ?_
    refine rThen ?_
    refine rSeq ?_
    let c4 := (coarse_Block N v1 (c1.getD default).2.2.2.1 (c1.getD default).2.2.2.2)
    replace hT := sIf hT; obtain ⟨o1, hT⟩ := hT
    refine zReg md0 hX rfl rfl rfl ?_
    refine rThen ?_
    refine rRet ?_
    have hy := Option.some.inj hT; subst hy
    exact zEnd0 hX rfl
   refine rLoopM (feed_Block_b1 N c3) (fun s1 => ⟨[(1, .v (.c (.ptr 0 0 0 0 0 0))), (2, .v (.c (.ptr 1 0 0 0 0 0))), (3, .v (.c (.ptr 2 0 0 0 0 0))), (28, .v (.agg [.ints 64 .i64 (c3.getD default)])), (29, .v (.c (.int .i64 s1.1)))], [(0, .mem true 26 none (.flat [.ints 64 .i64 (c1.getD default).1, .ints 64 .i64 (c1.getD default).2.1, .cs [.int .i64 (c1.getD default).2.2.1, .int .i64 (c1.getD default).2.2.2.1, .bool (c1.getD default).2.2.2.2]])), (1, .mem true 22 none (.flat [.ints 64 .i64 (List.replicate 64 0)])), (2, .mem true 22 none (.flat [.ints 64 .i64 s1.2]))], 3⟩) hl (To.mk' [] 0 hε rfl (by repeat' first | exact True.intro | exact rfl | apply And.intro) (by repeat' first | exact True.intro | exact rfl | apply And.intro)) (fun s1 zs1 NNs1 hz hnexts1 houts1 => ?_)
   clear hl hT
   have hT := hz; clear hz
   refine rSeq ?_
   refine zReg md0 hX rfl rfl rfl ?_
   refine rThen ?_
   refine rSeq ?_
   refine zCond rfl rfl (fun hc => ?_) (fun hc => ?_)
   ·
    replace hT := sT hc hT
    refine rSkip ?_
    refine rThen ?_
    refine rSeq ?_
    refine rBlock ?_
    refine rSeq ?_
    replace hT := sIf hT; obtain ⟨⟨o1, o2, o3⟩, hT⟩ := hT
    refine zReg md0 hX rfl rfl rfl ?_
    refine rThen ?_
    let x2 := (s1.2.set (s1.1).toNat ((s1.2.getD (s1.1).toNat 0) + ((c3.getD default).getD (s1.1).toNat 0)))
    replace hT := sIf hT; obtain ⟨⟨o1, o2, o3, o4⟩, hT⟩ := hT
    refine zReg md0 hX rfl rfl rfl ?_
    refine rInNormal ?_
    refine rThen ?_
    replace hT := sIf hT; obtain ⟨o1, hT⟩ := hT
    refine zReg md0 hX rfl rfl rfl ?_
    exact hnexts1 _ (Option.some.inj hT).symm _ (To.mk' [] 0 hε rfl (by repeat' first | exact True.intro | exact rfl | apply And.intro) (by repeat' first | exact True.intro | exact rfl | apply And.intro))
   ·
    replace hT := sF hc hT
    refine rExit ?_
    refine rThenExit ?_
    refine rThenExit ?_
    exact zTo [] 0 hε (hxs10 _ (houts1 _ (Option.some.inj hT).symm))
 ·
  cases h
def feed_Cell_b1 (N : Nat) (a3 : Int) (a8 : (List Int)) (a9 : Int) (a10 : Int) (s1 : (Int × (List Int))) : Option ((Int × (List Int)) ⊕ (List Int)) :=
 bif (decide (s1.1 < 6)) then
  let c2 := (feed_Block N ((s1.2.drop (64 * (s1.1).toNat)).take 64) ((a8.drop (64 * (s1.1).toNat)).take 64) a9 a10 (bif (decide (a3 = 3)) then true else (decide (a3 = 4))))
  if (0 : Int) ≤ s1.1 ∧ s1.1 < 6 ∧ (64 * (s1.1).toNat) + 64 ≤ 384 ∧ c2.isSome = true then
   if inK .i64 (s1.1 + 1) then
    some (.inl ((s1.1 + 1), (layL s1.2 (64 * (s1.1).toNat) (c2.getD default) 64)))
   else none
  else none
 else
  some (.inr s1.2)
def feed_Cell (N : Nat) (a1 : Int) (a2 : Bool) (a3 : Int) (a4 : Int) (a5 : (List Int)) (a6 : (List Int)) (a7 : (List (List (Bool × (Int × Int))))) (a8 : (List Int)) (a9 : Int) (a10 : Int) : Option ((List Int) × Int) :=
 let c1 := (residue_Levels N a1 a2 a3 a4 a5 a6 a7)
 if c1.isSome = true then
  bif (decide ((c1.getD default).2 ≠ 0)) then
   some ((List.replicate 384 0), (c1.getD default).2)
  else
   (iter (feed_Cell_b1 N a3 a8 a9 a10) N (0, (c1.getD default).1)).bind fun v1 =>
    some (v1, 0)
 else none
def sp_feed_Cell (N : Nat) : X.Spec := fun args lk => match args with
 | [.v (.agg [.cs [.int .i64 a1, .bool a2, .int .i64 a3, .int .i64 a4], .ints 2 .i64 a5, .ints 6 .i64 a6, .fzs 6 (.pair .bool (.pair (.int .i64) (.int .i64))) a7]), .v (.agg [.ints 384 .i64 a8]), .v (.c (.int .i64 a9)), .v (.c (.int .i64 a10))] => some ⟨(feed_Cell N a1 a2 a3 a4 a5 a6 a7 a8 a9 a10).isSome = true, .tup [.agg [.ints 384 .i64 ((feed_Cell N a1 a2 a3 a4 a5 a6 a7 a8 a9 a10).getD default).1], .c (.int .i64 ((feed_Cell N a1 a2 a3 a4 a5 a6 a7 a8 a9 a10).getD default).2)], [], []⟩
 | _ => none
set_option maxRecDepth 100000 in
set_option maxHeartbeats 1000000 in
theorem ok_feed_Cell (N : Nat) : FnOK Tryd.prog gt0 33 (sp_feed_Cell N) := by
 refine fnOK_handed Tryd.func33 rfl (by kernel_rfl) tt_ok (ktCons (ok_feed_Block N) (ktCons (ok_residue_Levels N) (ktNil))) ?_
 intro args lk r h hp
 unfold sp_feed_Cell at h
 split at h
 ·
  rename_i a1 a2 a3 a4 a5 a6 a7 a8 a9 a10
  change (List Int) at a5
  change (List Int) at a6
  change (List (List (Bool × (Int × Int)))) at a7
  change (List Int) at a8
  cases h
  obtain ⟨x, hx⟩ := Option.isSome_iff_exists.1 hp
  simp only [hx, Option.getD_some]
  refine hand0 rfl rfl (fun w0 M ε0 hX => ?_)
  refine rCount (fun hε => ?_)
  have hT : feed_Cell N a1 a2 a3 a4 a5 a6 a7 a8 a9 a10 = some x := hx; clear hx hp; unfold feed_Cell at hT
  refine rSeq ?_
  refine zReg md0 hX rfl rfl rfl ?_
  refine rThen ?_
  refine rSeq ?_
  let c1 := (residue_Levels N a1 a2 a3 a4 a5 a6 a7)
  replace hT := sIf hT; obtain ⟨o1, hT⟩ := hT
  refine zReg md0 hX rfl rfl rfl ?_
  refine rThen ?_
  refine rSeq ?_
  refine rSeq ?_
  refine zReg md0 hX rfl rfl rfl ?_
  refine rThen ?_
  refine zCond rfl rfl (fun hc => ?_) (fun hc => ?_)
  ·
   replace hT := sT hc hT
   refine rSeq ?_
   refine zReg md0 hX rfl rfl rfl ?_
   refine rThen ?_
   refine rRet ?_
   refine rThenRet ?_
   have hy := Option.some.inj hT; subst hy
   exact zEnd0 hX rfl
  ·
   replace hT := sF hc hT
   refine rSkip ?_
   refine rThen ?_
   refine rSeq ?_
   refine zReg md0 hX rfl rfl rfl ?_
   refine rThen ?_
   refine rSeq ?_
   refine rSeq ?_
   refine zReg md0 hX rfl rfl rfl ?_
   refine rThen ?_
   refine rBlock ?_
   replace hT := sBind hT; obtain ⟨w1, hl, hT⟩ := hT
   refine rJoinA (fun v1 => v1 = w1) (fun v1 => ⟨[(8, .v (.c (.ptr 2 0 0 0 0 0))), (9, .v (.c (.int .i64 0))), (10, .v (.c (.ptr 3 0 0 0 0 0)))], [(2, .mem true 39 none (.flat [.ints 384 .i64 (List.replicate 384 0)])), (3, .mem true 39 none (.flat [.ints 384 .i64 v1]))], 4⟩) (.exit 0) (fun v1 hv => ?_) (fun hxs10 => ?_)
   ·
    subst hv; clear hl
    refine rInHit ?_
    refine rThen ?_
    refine rSeq ?_
    refine zReg md0 hX rfl rfl rfl ?_
    refine rThen ?_
    refine rRet ?_
    have hy := Option.some.inj hT; subst hy
    exact zEnd0 hX rfl
   refine rLoopM (feed_Cell_b1 N a3 a8 a9 a10) (fun s1 => ⟨[(2, .v (.c (.int .i64 a9))), (3, .v (.c (.int .i64 a10))), (5, .v (.c (.ptr 1 0 0 0 0 0))), (8, .v (.c (.ptr 2 0 0 0 0 0))), (9, .v (.c (.int .i64 0))), (10, .v (.c (.ptr 3 0 0 0 0 0))), (12, .v (.c (.bool (bif (decide (a3 = 3)) then true else (decide (a3 = 4)))))), (31, .v (.c (.int .i64 s1.1)))], [(1, .mem true 39 none (.flat [.ints 384 .i64 a8])), (2, .mem true 39 none (.flat [.ints 384 .i64 (List.replicate 384 0)])), (3, .mem true 39 none (.flat [.ints 384 .i64 s1.2]))], 4⟩) hl (To.mk' [] 0 hε rfl (by repeat' first | exact True.intro | exact rfl | apply And.intro) (by repeat' first | exact True.intro | exact rfl | apply And.intro)) (fun s1 zs1 NNs1 hz hnexts1 houts1 => ?_)
   clear hl hT
   have hT := hz; clear hz
   refine rSeq ?_
   refine zReg md0 hX rfl rfl rfl ?_
   refine rThen ?_
   refine rSeq ?_
   refine zCond rfl rfl (fun hc => ?_) (fun hc => ?_)
   ·
    replace hT := sT hc hT
    refine rSkip ?_
    refine rThen ?_
    refine rSeq ?_
    refine rBlock ?_
    refine rSeq ?_
    refine zReg md0 hX rfl rfl rfl ?_
    refine rThen ?_
    let c2 := (feed_Block N ((s1.2.drop (64 * (s1.1).toNat)).take 64) ((a8.drop (64 * (s1.1).toNat)).take 64) a9 a10 (bif (decide (a3 = 3)) then true else (decide (a3 = 4))))
    replace hT := sIf hT; obtain ⟨⟨o1, o2, o3, o4⟩, hT⟩ := hT
    refine zDraw md0 1 [13] hX mixed rfl rfl rfl rfl rfl ?_
    refine rInNormal ?_
    refine rThen ?_
    replace hT := sIf hT; obtain ⟨o1, hT⟩ := hT
    refine zReg md0 hX rfl rfl rfl ?_
    exact hnexts1 _ (Option.some.inj hT).symm _ (To.mk' [] 0 hε rfl (by repeat' first | exact True.intro | exact rfl | apply And.intro) (by repeat' first | exact True.intro | exact rfl | apply And.intro))
   ·
    replace hT := sF hc hT
    refine rExit ?_
    refine rThenExit ?_
    refine rThenExit ?_
    exact zTo [] 0 hε (hxs10 _ (houts1 _ (Option.some.inj hT).symm))
 ·
  cases h
def pattern_intra (N : Nat) (a1 : Int) (a2 : Bool) (a3 : Int) (a4 : Int) (a5 : (List Int)) (a6 : (List Int)) (a7 : (List (List (Bool × (Int × Int))))) : Option Bool :=
 some (bif (decide (a3 = 3)) then true else (decide (a3 = 4)))
def sp_pattern_intra (N : Nat) : X.Spec := fun args lk => match args with
 | [.v (.agg [.cs [.int .i64 a1, .bool a2, .int .i64 a3, .int .i64 a4], .ints 2 .i64 a5, .ints 6 .i64 a6, .fzs 6 (.pair .bool (.pair (.int .i64) (.int .i64))) a7])] => some ⟨(pattern_intra N a1 a2 a3 a4 a5 a6 a7).isSome = true, .v (.c (.bool ((pattern_intra N a1 a2 a3 a4 a5 a6 a7).getD default))), [], []⟩
 | _ => none
set_option maxRecDepth 100000 in
set_option maxHeartbeats 1000000 in
theorem ok_pattern_intra (N : Nat) : FnOK Tryd.prog gt0 60 (sp_pattern_intra N) := by
 refine fnOK_handed Tryd.func60 rfl (by kernel_rfl) tt_ok (ktNil) ?_
 intro args lk r h hp
 unfold sp_pattern_intra at h
 split at h
 ·
  rename_i a1 a2 a3 a4 a5 a6 a7
  change (List Int) at a5
  change (List Int) at a6
  change (List (List (Bool × (Int × Int)))) at a7
  cases h
  obtain ⟨x, hx⟩ := Option.isSome_iff_exists.1 hp
  simp only [hx, Option.getD_some]
  refine hand0 rfl rfl (fun w0 M ε0 hX => ?_)
  refine rCount (fun hε => ?_)
  have hT : pattern_intra N a1 a2 a3 a4 a5 a6 a7 = some x := hx; clear hx hp; unfold pattern_intra at hT
  refine rSeq ?_
  refine zReg md0 hX rfl rfl rfl ?_
  refine rThen ?_
  refine rSeq ?_
  refine zReg md0 hX rfl rfl rfl ?_
  refine rThen ?_
  refine rRet ?_
  have hy := Option.some.inj hT; subst hy
  exact zEnd0 hX rfl
 ·
  cases h
def scan_Told_b1 (N : Nat) (a1 : (List Int)) (s1 : (Int × (List Int))) : Option ((Int × (List Int)) ⊕ (List Int)) :=
 bif (decide (s1.1 < 64)) then
  if (0 : Int) ≤ s1.1 ∧ s1.1 < 64 ∧ (s1.1).toNat < 64 ∧ (0 : Int) ≤ (placesL.getD (s1.1).toNat 0) ∧ (placesL.getD (s1.1).toNat 0) < 64 ∧ (placesL.getD (s1.1).toNat 0).toNat < 64 then
   if inK .i64 (s1.1 + 1) then
    some (.inl ((s1.1 + 1), (s1.2.set (s1.1).toNat (a1.getD (placesL.getD (s1.1).toNat 0).toNat 0))))
   else none
  else none
 else
  some (.inr s1.2)
def scan_Told (N : Nat) (a1 : (List Int)) : Option (List Int) :=
 (iter (scan_Told_b1 N a1) N (0, (List.replicate 64 0))).bind fun v1 =>
  some v1
def sp_scan_Told (N : Nat) : X.Spec := fun args lk => match args with
 | [.v (.agg [.ints 64 .i64 a1])] => some ⟨(scan_Told N a1).isSome = true, .v (.agg [.ints 64 .i64 ((scan_Told N a1).getD default)]), [], []⟩
 | _ => none
set_option maxRecDepth 100000 in
set_option maxHeartbeats 1000000 in
theorem ok_scan_Told (N : Nat) : FnOK Tryd.prog gt0 115 (sp_scan_Told N) := by
 refine fnOK_handed Tryd.func115 rfl (by kernel_rfl) tt_ok (ktNil) ?_
 intro args lk r h hp
 unfold sp_scan_Told at h
 split at h
 ·
  rename_i a1
  change (List Int) at a1
  cases h
  obtain ⟨x, hx⟩ := Option.isSome_iff_exists.1 hp
  simp only [hx, Option.getD_some]
  refine hand0 rfl rfl (fun w0 M ε0 hX => ?_)
  refine rCount (fun hε => ?_)
  have hT : scan_Told N a1 = some x := hx; clear hx hp; unfold scan_Told at hT
  refine rSeq ?_
  refine zReg md0 hX rfl rfl rfl ?_
  refine rThen ?_
  refine rSeq ?_
  refine zReg md0 hX rfl rfl rfl ?_
  refine rThen ?_
  refine rSeq ?_
  refine rSeq ?_
  refine zReg md0 hX rfl rfl rfl ?_
  refine rThen ?_
  refine rBlock ?_
  replace hT := sBind hT; obtain ⟨w1, hl, hT⟩ := hT
  refine rJoinA (fun v1 => v1 = w1) (fun v1 => ⟨[(2, .v (.c (.ptr 1 0 0 0 0 0))), (3, .v (.c (.ptr 2 0 0 0 0 0)))], [(1, .mem true 22 none (.flat [.ints 64 .i64 (List.replicate 64 0)])), (2, .mem true 22 none (.flat [.ints 64 .i64 v1]))], 3⟩) (.exit 0) (fun v1 hv => ?_) (fun hxs10 => ?_)
  ·
   subst hv; clear hl
   refine rInHit ?_
   refine rThen ?_
   refine rSeq ?_
   refine zReg md0 hX rfl rfl rfl ?_
   refine rThen ?_
   refine rRet ?_
   have hy := Option.some.inj hT; subst hy
   exact zEnd0 hX rfl
  refine rLoopM (scan_Told_b1 N a1) (fun s1 => ⟨[(1, .v (.c (.ptr 0 0 0 0 0 0))), (2, .v (.c (.ptr 1 0 0 0 0 0))), (3, .v (.c (.ptr 2 0 0 0 0 0))), (5, .v (.c (.int .i64 s1.1)))], [(0, .mem true 22 none (.flat [.ints 64 .i64 a1])), (1, .mem true 22 none (.flat [.ints 64 .i64 (List.replicate 64 0)])), (2, .mem true 22 none (.flat [.ints 64 .i64 s1.2]))], 3⟩) hl (To.mk' [] 0 hε rfl (by repeat' first | exact True.intro | exact rfl | apply And.intro) (by repeat' first | exact True.intro | exact rfl | apply And.intro)) (fun s1 zs1 NNs1 hz hnexts1 houts1 => ?_)
  clear hl hT
  have hT := hz; clear hz
  refine rSeq ?_
  refine zReg md0 hX rfl rfl rfl ?_
  refine rThen ?_
  refine rSeq ?_
  refine zCond rfl rfl (fun hc => ?_) (fun hc => ?_)
  ·
   replace hT := sT hc hT
   refine rSkip ?_
   refine rThen ?_
   refine rSeq ?_
   refine rBlock ?_
   refine rSeq ?_
   refine zReg md0 hX rfl rfl rfl ?_
   refine rThen ?_
   replace hT := sIf hT; obtain ⟨⟨o1, o2, o3, o4, o5, o6⟩, hT⟩ := hT
   refine zReg md0 hX rfl rfl rfl ?_
   refine rInNormal ?_
   refine rThen ?_
   replace hT := sIf hT; obtain ⟨o1, hT⟩ := hT
   refine zReg md0 hX rfl rfl rfl ?_
   exact hnexts1 _ (Option.some.inj hT).symm _ (To.mk' [] 0 hε rfl (by repeat' first | exact True.intro | exact rfl | apply And.intro) (by repeat' first | exact True.intro | exact rfl | apply And.intro))
  ·
   replace hT := sF hc hT
   refine rExit ?_
   refine rThenExit ?_
   refine rThenExit ?_
   exact zTo [] 0 hε (hxs10 _ (houts1 _ (Option.some.inj hT).symm))
 ·
  cases h
def runs_Events_b1 (N : Nat) (a1 : (List Int)) (a2 : Int) (s2 : (Nat × Int × Int × (List (Bool × (Int × Int))))) : Option ((Nat × Int × Int × (List (Bool × (Int × Int)))) ⊕ (Unit ⊕ (Nat × (List (Bool × (Int × Int)))))) :=
 bif (decide (s2.2.2.1 < 64)) then
  if (0 : Int) ≤ s2.2.2.1 ∧ s2.2.2.1 < 64 ∧ (s2.2.2.1).toNat < 64 then
   bif (decide (s2.2.2.1 < a2)) then
    if inK .i64 (s2.2.2.1 + 1) then
     some (.inl (s2.1, s2.2.1, (s2.2.2.1 + 1), s2.2.2.2))
    else none
   else
    let x2 := (bif (decide ((a1.getD (s2.2.2.1).toNat 0) < (-127))) then true else (decide ((127 : Int) < (a1.getD (s2.2.2.1).toNat 0))))
    bif x2 then
     some (.inr (Sum.inl ()))
    else
     bif (decide ((a1.getD (s2.2.2.1).toNat 0) = 0)) then
      if inK .i64 (s2.2.1 + 1) then
       if inK .i64 (s2.2.2.1 + 1) then
        some (.inl (s2.1, (s2.2.1 + 1), (s2.2.2.1 + 1), s2.2.2.2))
       else none
      else none
     else
      if s2.2.2.2.length = s2.1 ∧ (s2.1 + 1) * 24 ≤ 140737488355328 ∧ s2.1 + 1 ≤ 9223372036854775807 then
       if inK .i64 (s2.2.2.1 + 1) then
        some (.inl ((s2.1 + 1), 0, (s2.2.2.1 + 1), (s2.2.2.2 ++ [(false, (s2.2.1, (a1.getD (s2.2.2.1).toNat 0)))])))
       else none
      else none
  else none
 else
  some (.inr (Sum.inr (s2.1, s2.2.2.2)))
def runs_Events (N : Nat) (a1 : (List Int)) (a2 : Int) : Option ((List (Bool × (Int × Int))) × Int) :=
 bif (bif (decide (a2 ≠ 0)) then (decide (a2 ≠ 1)) else false) then
  some ([], 1)
 else
  (iter (runs_Events_b1 N a1 a2) N (0, 0, 0, [])).bind fun w1 =>
   (Sum.elim (fun v1 =>
    some ([], 7)
   )
    (fun v2 =>
     if ((decide ((0 : Int) < (v2.1 : Int))) = true → inK .i64 ((v2.1 : Int) - 1)) ∧ ((decide ((0 : Int) < (v2.1 : Int))) = true → (0 : Int) ≤ ((v2.1 : Int) - 1)) ∧ ((decide ((0 : Int) < (v2.1 : Int))) = true → ((v2.1 : Int) - 1) < (v2.1 : Int)) ∧ ((decide ((0 : Int) < (v2.1 : Int))) = true → ((v2.1 : Int) - 1).toNat < v2.2.length) then
      let x1 := (bif (decide ((0 : Int) < (v2.1 : Int))) then (v2.2.set ((v2.1 : Int) - 1).toNat (true, (v2.2.getD ((v2.1 : Int) - 1).toNat (false, ((0 : Int), (0 : Int)))).2)) else v2.2)
      if v2.1 = x1.length then
       some (x1, 0)
      else none
     else none
    )
   ) w1
def sp_runs_Events (N : Nat) : X.Spec := fun args lk => match args with
 | [.v (.agg [.ints 64 .i64 a1]), .v (.c (.int .i64 a2))] => some ⟨(runs_Events N a1 a2).isSome = true, .tup [.c (.fz (.pair .bool (.pair (.int .i64) (.int .i64))) ((runs_Events N a1 a2).getD default).1), .c (.int .i64 ((runs_Events N a1 a2).getD default).2)], [], []⟩
 | _ => none
set_option maxRecDepth 100000 in
set_option maxHeartbeats 1000000 in
theorem ok_runs_Events (N : Nat) : FnOK Tryd.prog gt0 114 (sp_runs_Events N) := by
 refine fnOK_handed Tryd.func114 rfl (by kernel_rfl) tt_ok (ktNil) ?_
 intro args lk r h hp
 unfold sp_runs_Events at h
 split at h
 ·
  rename_i a1 a2
  change (List Int) at a1
  cases h
  obtain ⟨x, hx⟩ := Option.isSome_iff_exists.1 hp
  simp only [hx, Option.getD_some]
  refine hand0 rfl rfl (fun w0 M ε0 hX => ?_)
  refine rCount (fun hε => ?_)
  have hT : runs_Events N a1 a2 = some x := hx; clear hx hp; unfold runs_Events at hT
  refine rSeq ?_
  refine zReg md0 hX rfl rfl rfl ?_
  refine rThen ?_
  refine rSeq ?_
  refine rSeq ?_
  refine zReg md0 hX rfl rfl rfl ?_
  refine rThen ?_
  refine zCond rfl rfl (fun hc => ?_) (fun hc => ?_)
  ·
   replace hT := sT hc hT
   refine rSeq ?_
   refine zReg md0 hX rfl rfl rfl ?_
   refine rThen ?_
   refine rRet ?_
   refine rThenRet ?_
   have hy := Option.some.inj hT; subst hy
   exact zEnd0 hX rfl
  ·
   replace hT := sF hc hT
   refine rSkip ?_
   refine rThen ?_
   refine rSeq ?_
   refine zReg md0 hX rfl rfl rfl ?_
   refine rThen ?_
   refine rSeq ?_
   refine zReg md0 hX rfl rfl rfl ?_
   refine rThen ?_
   refine rSeq ?_
   refine rSeq ?_
   refine zReg md0 hX rfl rfl rfl ?_
   refine rThen ?_
   refine rBlock ?_
   refine rNil 109 3 (.lst (.pair .bool (.pair (.int .i64) (.int .i64))) []) [(1, .v (.c (.int .i64 a2))), (4, .v (.c (.val (.slice none 0 0)))), (5, .v (.c (.int .i64 0))), (6, .v (.c (.sl 1 0 0 3))), (7, .v (.c (.int .i64 0))), (16, .v (.agg [.ints 64 .i64 a1])), (17, .v (.c (.int .i64 0)))] [] (nil_lst _) (by (repeat' first | exact True.intro | exact rfl | apply And.intro) <;> first | assumption | rfl) (by (repeat' first | exact True.intro | exact rfl | apply And.intro) <;> first | assumption | rfl) ?_
   replace hT := sBind hT; obtain ⟨w1, hl, hT⟩ := hT
   refine rJoinA (fun v1 => (Sum.inl v1) = w1) (fun v1 => ⟨[(4, .v (.c (.val (.slice none 0 0)))), (5, .v (.c (.int .i64 7)))], [], 2⟩) .ret (fun v1 hv => ?_) (fun hxs20 => ?_)
   ·
    subst hv; clear hl; replace hT := (sElimL hT)
    refine rInRet ?_
    refine rThenRet ?_
    have hy := Option.some.inj hT; subst hy
    exact zEnd0 hX rfl
   refine rJoinA (fun v2 => (Sum.inr v2) = w1) (fun v2 => ⟨[(4, .v (.c (.val (.slice none 0 0)))), (5, .v (.c (.int .i64 0))), (6, .v (.c (.sl 1 0 v2.1 3)))], [(1, .mem true 109 (some 3) (.lst (.pair .bool (.pair (.int .i64) (.int .i64))) v2.2))], 2⟩) (.exit 0) (fun v2 hv => ?_) (fun hxs21 => ?_)
   ·
    subst hv; clear hl; replace hT := (sElimR hT)
    refine rInHit ?_
    refine rThen ?_
    refine rSeq ?_
    refine rSeq ?_
    refine zReg md0 hX rfl rfl rfl ?_
    refine rThen ?_
    replace hT := sIf hT; obtain ⟨⟨q1, q2, q3, q4⟩, hT⟩ := hT
    refine rJoin ⟨[(4, .v (.c (.val (.slice none 0 0)))), (5, .v (.c (.int .i64 0))), (6, .v (.c (.sl 1 0 v2.1 3)))], [(1, .mem true 109 (some 3) (.lst (.pair .bool (.pair (.int .i64) (.int .i64))) (bif (decide ((0 : Int) < (v2.1 : Int))) then (v2.2.set ((v2.1 : Int) - 1).toNat (true, (v2.2.getD ((v2.1 : Int) - 1).toNat (false, ((0 : Int), (0 : Int)))).2)) else v2.2)))], 2⟩ ?_ (fun hj => ?_)
    ·
     let x1 := (bif (decide ((0 : Int) < (v2.1 : Int))) then (v2.2.set ((v2.1 : Int) - 1).toNat (true, (v2.2.getD ((v2.1 : Int) - 1).toNat (false, ((0 : Int), (0 : Int)))).2)) else v2.2)
     refine rThen ?_
     refine rSeq ?_
     refine zReg md0 hX rfl rfl rfl ?_
     refine rThen ?_
     refine rRet ?_
     replace hT := sIf hT; obtain ⟨p1, hT⟩ := hT
     refine rFreezeQ 1 (.pair .bool (.pair (.int .i64) (.int .i64))) x1 [(4, .v (.c (.fz (.pair .bool (.pair (.int .i64) (.int .i64))) x1))), (5, .v (.c (.int .i64 0)))] [] rfl rfl (by (repeat' first | exact True.intro | exact rfl | apply And.intro) <;> first | assumption | rfl) (by (repeat' first | exact True.intro | exact rfl | apply And.intro) <;> first | assumption | rfl) ?_
     have hy := Option.some.inj hT; subst hy
     exact zEnd0 hX rfl
    ·
     clear hT
     refine zCond rfl rfl (fun hc => ?_) (fun hc => ?_)
     ·
      have q1 := q1 hc
      have q2 := q2 hc
      have q3 := q3 hc
      have q4 := q4 hc
      refine zReg md0 hX rfl rfl rfl ?_
      exact rTo (To.mk' [] 0 hε rfl (by (repeat' first | exact True.intro | exact rfl | apply And.intro) <;> (repeat' first | exact rfl | refine Eq.trans ?_ (cTr (by assumption)) | refine Eq.trans ?_ (cFr (by assumption)) | refine Eq.trans (cTl (by assumption)) ?_ | refine Eq.trans (cFl (by assumption)) ?_)) (by (repeat' first | exact True.intro | exact rfl | apply And.intro) <;> (repeat' first | exact rfl | refine Eq.trans ?_ (cTr (by assumption)) | refine Eq.trans ?_ (cFr (by assumption)) | refine Eq.trans (cTl (by assumption)) ?_ | refine Eq.trans (cFl (by assumption)) ?_))) hj
     ·
      refine rSkip ?_
      exact rTo (To.mk' [] 0 hε rfl (by (repeat' first | exact True.intro | exact rfl | apply And.intro) <;> (repeat' first | exact rfl | refine Eq.trans ?_ (cTr (by assumption)) | refine Eq.trans ?_ (cFr (by assumption)) | refine Eq.trans (cTl (by assumption)) ?_ | refine Eq.trans (cFl (by assumption)) ?_)) (by (repeat' first | exact True.intro | exact rfl | apply And.intro) <;> (repeat' first | exact rfl | refine Eq.trans ?_ (cTr (by assumption)) | refine Eq.trans ?_ (cFr (by assumption)) | refine Eq.trans (cTl (by assumption)) ?_ | refine Eq.trans (cFl (by assumption)) ?_))) hj
   refine rLoopM (runs_Events_b1 N a1 a2) (fun s2 => ⟨[(1, .v (.c (.int .i64 a2))), (4, .v (.c (.val (.slice none 0 0)))), (5, .v (.c (.int .i64 0))), (6, .v (.c (.sl 1 0 s2.1 3))), (7, .v (.c (.int .i64 s2.2.1))), (16, .v (.agg [.ints 64 .i64 a1])), (17, .v (.c (.int .i64 s2.2.2.1)))], [(1, .mem true 109 (some 3) (.lst (.pair .bool (.pair (.int .i64) (.int .i64))) s2.2.2.2))], 2⟩) hl (To.mk' [] 0 hε rfl (by repeat' first | exact True.intro | exact rfl | apply And.intro) (by repeat' first | exact True.intro | exact rfl | apply And.intro)) (fun s2 zs2 NNs2 hz hnexts2 houts2 => ?_)
   clear hl hT
   have hT := hz; clear hz
   refine rSeq ?_
   refine zReg md0 hX rfl rfl rfl ?_
   refine rThen ?_
   refine rSeq ?_
   refine zCond rfl rfl (fun hc => ?_) (fun hc => ?_)
   ·
    replace hT := sT hc hT
    refine rSkip ?_
    refine rThen ?_
    refine rSeq ?_
    refine rBlock ?_
    refine rSeq ?_
    replace hT := sIf hT; obtain ⟨⟨o1, o2, o3⟩, hT⟩ := hT
    refine zReg md0 hX rfl rfl rfl ?_
    refine rThen ?_
    refine rSeq ?_
    refine rBlock ?_
    refine rSeq ?_
    refine zReg md0 hX rfl rfl rfl ?_
    refine rThen ?_
    refine zCond rfl rfl (fun hc => ?_) (fun hc => ?_)
    ·
     replace hT := sT hc hT
     refine rExit ?_
     refine rInMiss rfl ?_
     refine rThenExit ?_
     refine rInHit ?_
     refine rThen ?_
     replace hT := sIf hT; obtain ⟨o1, hT⟩ := hT
     refine zReg md0 hX rfl rfl rfl ?_
     exact hnexts2 _ (Option.some.inj hT).symm _ (To.mk' [] 0 hε rfl (by repeat' first | exact True.intro | exact rfl | apply And.intro) (by repeat' first | exact True.intro | exact rfl | apply And.intro))
    ·
     replace hT := sF hc hT
     refine rSeq ?_
     let x2 := (bif (decide ((a1.getD (s2.2.2.1).toNat 0) < (-127))) then true else (decide ((127 : Int) < (a1.getD (s2.2.2.1).toNat 0))))
     refine zReg md0 hX rfl rfl rfl ?_
     refine rThen ?_
     refine zCond rfl rfl (fun hc => ?_) (fun hc => ?_)
     ·
      replace hT := sT hc hT
      refine rSeq ?_
      refine zReg md0 hX rfl rfl rfl ?_
      refine rThen ?_
      refine rRet ?_
      refine rInRet ?_
      refine rThenRet ?_
      refine rInRet ?_
      refine rThenRet ?_
      refine rThenRet ?_
      exact zTo [] 0 hε (hxs20 _ (houts2 _ (Option.some.inj hT).symm))
     ·
      replace hT := sF hc hT
      refine rSeq ?_
      refine zReg md0 hX rfl rfl rfl ?_
      refine rThen ?_
      refine zCond rfl rfl (fun hc => ?_) (fun hc => ?_)
      ·
       replace hT := sT hc hT
       refine rSeq ?_
       replace hT := sIf hT; obtain ⟨o1, hT⟩ := hT
       refine zReg md0 hX rfl rfl rfl ?_
       refine rThen ?_
       refine rExit ?_
       refine rInMiss rfl ?_
       refine rThenExit ?_
       refine rInHit ?_
       refine rThen ?_
       replace hT := sIf hT; obtain ⟨o1, hT⟩ := hT
       refine zReg md0 hX rfl rfl rfl ?_
       exact hnexts2 _ (Option.some.inj hT).symm _ (To.mk' [] 0 hε rfl (by repeat' first | exact True.intro | exact rfl | apply And.intro) (by repeat' first | exact True.intro | exact rfl | apply And.intro))
      ·
       replace hT := sF hc hT
       refine rSkip ?_
       refine rInNormal ?_
       refine rThen ?_
       refine rSeq ?_
       replace hT := sIf hT; obtain ⟨⟨o1, o2, o3⟩, hT⟩ := hT
       refine zReg md0 hX rfl rfl rfl ?_
       refine rLstQ 2 (.pair .bool (.pair (.int .i64) (.int .i64))) [(false, (s2.2.1, (a1.getD (s2.2.2.1).toNat 0)))] rfl rfl rfl ?_
       refine rThen ?_
       refine zReg md0 hX rfl rfl rfl ?_
       refine rInNormal ?_
       refine rThen ?_
       replace hT := sIf hT; obtain ⟨o1, hT⟩ := hT
       refine zReg md0 hX rfl rfl rfl ?_
       exact hnexts2 _ (Option.some.inj hT).symm _ (To.mk' [0, 3] 0 hε rfl (by repeat' first | exact True.intro | exact rfl | apply And.intro) (by repeat' first | exact True.intro | exact rfl | apply And.intro))
   ·
    replace hT := sF hc hT
    refine rExit ?_
    refine rThenExit ?_
    refine rThenExit ?_
    exact zTo [] 0 hε (hxs21 _ (houts2 _ (Option.some.inj hT).symm))
 ·
  cases h
def pattern_events_b1 (N : Nat) (a8 : (List Int)) (c1 : (Option Bool)) (s1 : (Int × (List (List (Bool × (Int × Int)))))) : Option ((Int × (List (List (Bool × (Int × Int))))) ⊕ ((List (List (Bool × (Int × Int)))) ⊕ (List (List (Bool × (Int × Int)))))) :=
 bif (decide (s1.1 < 6)) then
  if (0 : Int) ≤ s1.1 ∧ s1.1 < 6 ∧ (64 * (s1.1).toNat) + 64 ≤ 384 then
   let c2 := (scan_Told N ((a8.drop (64 * (s1.1).toNat)).take 64))
   let c3 := (runs_Events N (c2.getD default) (bif (c1.getD default) then (1 : Int) else 0))
   if c2.isSome = true ∧ c3.isSome = true then
    let x3 := (bif (decide ((c3.getD default).2 ≠ 0)) then true else (bif (decide ((bif (c1.getD default) then (1 : Int) else 0) = 1)) then (decide ((((a8.drop (64 * (s1.1).toNat)).take 64).getD 0 0) ≠ 0)) else false))
    if ((!(decide ((c3.getD default).2 ≠ 0))) = true → ((decide ((bif (c1.getD default) then (1 : Int) else 0) = 1)) = true → ((!(decide ((c3.getD default).2 ≠ 0))) && (decide ((bif (c1.getD default) then (1 : Int) else 0) = 1))) = true)) then
     bif x3 then
      some (.inr (Sum.inl s1.2))
     else
      if (0 : Int) ≤ s1.1 ∧ s1.1 < 6 ∧ (s1.1).toNat < 6 then
       if inK .i64 (s1.1 + 1) then
        some (.inl ((s1.1 + 1), (s1.2.set (s1.1).toNat (c3.getD default).1)))
       else none
      else none
    else none
   else none
  else none
 else
  some (.inr (Sum.inr s1.2))
def pattern_events (N : Nat) (a1 : Int) (a2 : Bool) (a3 : Int) (a4 : Int) (a5 : (List Int)) (a6 : (List Int)) (a7 : (List (List (Bool × (Int × Int))))) (a8 : (List Int)) : Option ((List (List (Bool × (Int × Int)))) × Bool) :=
 let c1 := (pattern_intra N a1 a2 a3 a4 a5 a6 a7)
 if c1.isSome = true then
  (iter (pattern_events_b1 N a8 c1) N (0, (List.replicate 6 []))).bind fun w1 =>
   (Sum.elim (fun v1 =>
    some (v1, false)
   )
    (fun v2 =>
     some (v2, true)
    )
   ) w1
 else none
def sp_pattern_events (N : Nat) : X.Spec := fun args lk => match args with
 | [.v (.agg [.cs [.int .i64 a1, .bool a2, .int .i64 a3, .int .i64 a4], .ints 2 .i64 a5, .ints 6 .i64 a6, .fzs 6 (.pair .bool (.pair (.int .i64) (.int .i64))) a7]), .v (.agg [.ints 384 .i64 a8])] => some ⟨(pattern_events N a1 a2 a3 a4 a5 a6 a7 a8).isSome = true, .tup [.agg [.fzs 6 (.pair .bool (.pair (.int .i64) (.int .i64))) ((pattern_events N a1 a2 a3 a4 a5 a6 a7 a8).getD default).1], .c (.bool ((pattern_events N a1 a2 a3 a4 a5 a6 a7 a8).getD default).2)], [], []⟩
 | _ => none
set_option maxRecDepth 100000 in
set_option maxHeartbeats 1000000 in
theorem ok_pattern_events (N : Nat) : FnOK Tryd.prog gt0 59 (sp_pattern_events N) := by
 refine fnOK_handed Tryd.func59 rfl (by kernel_rfl) tt_ok (ktCons (ok_runs_Events N) (ktCons (ok_scan_Told N) (ktCons (ok_pattern_intra N) (ktNil)))) ?_
 intro args lk r h hp
 unfold sp_pattern_events at h
 split at h
 ·
  rename_i a1 a2 a3 a4 a5 a6 a7 a8
  change (List Int) at a5
  change (List Int) at a6
  change (List (List (Bool × (Int × Int)))) at a7
  change (List Int) at a8
  cases h
  obtain ⟨x, hx⟩ := Option.isSome_iff_exists.1 hp
  simp only [hx, Option.getD_some]
  refine hand0 rfl rfl (fun w0 M ε0 hX => ?_)
  refine rCount (fun hε => ?_)
  have hT : pattern_events N a1 a2 a3 a4 a5 a6 a7 a8 = some x := hx; clear hx hp; unfold pattern_events at hT
  refine rSeq ?_
  refine zReg md0 hX rfl rfl rfl ?_
  refine rThen ?_
  refine rSeq ?_
  refine zReg md0 hX rfl rfl rfl ?_
  refine rThen ?_
  refine rSeq ?_
  refine zReg md0 hX rfl rfl rfl ?_
  refine rThen ?_
  refine rSeq ?_
  refine rSeq ?_
  let c1 := (pattern_intra N a1 a2 a3 a4 a5 a6 a7)
  replace hT := sIf hT; obtain ⟨o1, hT⟩ := hT
  refine zReg md0 hX rfl rfl rfl ?_
  refine rThen ?_
  refine rJoin ⟨[(3, .v (.c (.ptr 1 0 0 0 0 0))), (4, .v (.c (.ptr 2 0 0 0 0 0))), (5, .v (.c (.bool false))), (6, .v (.c (.ptr 3 0 0 0 0 0))), (7, .v (.c (.int .i64 (bif (c1.getD default) then (1 : Int) else 0))))], [(1, .mem true 39 none (.flat [.ints 384 .i64 a8])), (2, .mem true 35 none (.flat [.fzs 6 (.pair .bool (.pair (.int .i64) (.int .i64))) (List.replicate 6 [])])), (3, .mem true 35 none (.flat [.fzs 6 (.pair .bool (.pair (.int .i64) (.int .i64))) (List.replicate 6 [])]))], 4⟩ ?_ (fun hj => ?_)
  ·
   refine rThen ?_
   refine rSeq ?_
   refine rSeq ?_
   refine zReg md0 hX rfl rfl rfl ?_
   refine rThen ?_
   refine rBlock ?_
   replace hT := sBind hT; obtain ⟨w1, hl, hT⟩ := hT
   refine rJoinA (fun v1 => (Sum.inl v1) = w1) (fun v1 => ⟨[(4, .v (.c (.ptr 2 0 0 0 0 0))), (5, .v (.c (.bool false)))], [(2, .mem true 35 none (.flat [.fzs 6 (.pair .bool (.pair (.int .i64) (.int .i64))) v1]))], 4⟩) .ret (fun v1 hv => ?_) (fun hxs10 => ?_)
   ·
    subst hv; clear hl; replace hT := (sElimL hT)
    refine rInRet ?_
    refine rThenRet ?_
    have hy := Option.some.inj hT; subst hy
    exact zEnd0 hX rfl
   refine rJoinA (fun v2 => (Sum.inr v2) = w1) (fun v2 => ⟨[(4, .v (.c (.ptr 2 0 0 0 0 0))), (5, .v (.c (.bool false))), (6, .v (.c (.ptr 3 0 0 0 0 0)))], [(2, .mem true 35 none (.flat [.fzs 6 (.pair .bool (.pair (.int .i64) (.int .i64))) (List.replicate 6 [])])), (3, .mem true 35 none (.flat [.fzs 6 (.pair .bool (.pair (.int .i64) (.int .i64))) v2]))], 4⟩) (.exit 0) (fun v2 hv => ?_) (fun hxs11 => ?_)
   ·
    subst hv; clear hl; replace hT := (sElimR hT)
    refine rInHit ?_
    refine rThen ?_
    refine rSeq ?_
    refine zReg md0 hX rfl rfl rfl ?_
    refine rThen ?_
    refine rRet ?_
    have hy := Option.some.inj hT; subst hy
    exact zEnd0 hX rfl
   refine rLoopM (pattern_events_b1 N a8 c1) (fun s1 => ⟨[(4, .v (.c (.ptr 2 0 0 0 0 0))), (5, .v (.c (.bool false))), (6, .v (.c (.ptr 3 0 0 0 0 0))), (7, .v (.c (.int .i64 (bif (c1.getD default) then (1 : Int) else 0)))), (14, .v (.agg [.ints 384 .i64 a8])), (15, .v (.c (.int .i64 s1.1)))], [(2, .mem true 35 none (.flat [.fzs 6 (.pair .bool (.pair (.int .i64) (.int .i64))) (List.replicate 6 [])])), (3, .mem true 35 none (.flat [.fzs 6 (.pair .bool (.pair (.int .i64) (.int .i64))) s1.2]))], 4⟩) hl (To.mk' [] 0 hε rfl (by repeat' first | exact True.intro | exact rfl | apply And.intro) (by repeat' first | exact True.intro | exact rfl | apply And.intro)) (fun s1 zs1 NNs1 hz hnexts1 houts1 => ?_)
   clear hl hT
   have hT := hz; clear hz
   refine rSeq ?_
   refine zReg md0 hX rfl rfl rfl ?_
   refine rThen ?_
   refine rSeq ?_
   refine zCond rfl rfl (fun hc => ?_) (fun hc => ?_)
   ·
    replace hT := sT hc hT
    refine rSkip ?_
    refine rThen ?_
    refine rSeq ?_
    refine rBlock ?_
    refine rSeq ?_
    replace hT := sIf hT; obtain ⟨⟨o1, o2, o3⟩, hT⟩ := hT
    refine zReg md0 hX rfl rfl rfl ?_
    refine rThen ?_
    refine rSeq ?_
    let c2 := (scan_Told N ((a8.drop (64 * (s1.1).toNat)).take 64))
    let c3 := (runs_Events N (c2.getD default) (bif (c1.getD default) then (1 : Int) else 0))
    replace hT := sIf hT; obtain ⟨⟨o1, o2⟩, hT⟩ := hT
    refine zReg md0 hX rfl rfl rfl ?_
    refine rThen ?_
    refine rSeq ?_
    refine rSeq ?_
    let x3 := (bif (decide ((c3.getD default).2 ≠ 0)) then true else (bif (decide ((bif (c1.getD default) then (1 : Int) else 0) = 1)) then (decide ((((a8.drop (64 * (s1.1).toNat)).take 64).getD 0 0) ≠ 0)) else false))
    replace hT := sIf hT; obtain ⟨o1, hT⟩ := hT
    refine rRegC md0 hX rfl rfl rfl (by (repeat' first | exact True.intro | with_reducible assumption | (with_reducible apply And.intro) | intro _) <;> first | assumption | exact o1 (by assumption) (by assumption) | exact rfl | omega | exact Nat.le_of_ble_eq_true rfl | exact selF (by assumption) | exact selT (by assumption) | exact And.intro rfl rfl | exact And.intro (by assumption) rfl | exact And.intro (by omega) rfl | (simp only [inK] at *; omega) | (simp_all [sel] <;> fail) | fail) ?_
    refine rThen ?_
    refine zCond rfl rfl (fun hc => ?_) (fun hc => ?_)
    ·
     replace hT := sT hc hT
     refine rSeq ?_
     refine zReg md0 hX rfl rfl rfl ?_
     refine rThen ?_
     refine rRet ?_
     refine rThenRet ?_
     refine rInRet ?_
     refine rThenRet ?_
     refine rThenRet ?_
     exact zTo [] 0 hε (hxs10 _ (houts1 _ (Option.some.inj hT).symm))
    ·
     replace hT := sF hc hT
     refine rSkip ?_
     refine rThen ?_
     replace hT := sIf hT; obtain ⟨⟨o1, o2, o3⟩, hT⟩ := hT
     refine zReg md0 hX rfl rfl rfl ?_
     refine rInNormal ?_
     refine rThen ?_
     replace hT := sIf hT; obtain ⟨o1, hT⟩ := hT
     refine zReg md0 hX rfl rfl rfl ?_
     exact hnexts1 _ (Option.some.inj hT).symm _ (To.mk' [] 0 hε rfl (by repeat' first | exact True.intro | exact rfl | apply And.intro) (by repeat' first | exact True.intro | exact rfl | apply And.intro))
   ·
    replace hT := sF hc hT
    refine rExit ?_
    refine rThenExit ?_
    refine rThenExit ?_
    exact zTo [] 0 hε (hxs11 _ (houts1 _ (Option.some.inj hT).symm))
  ·
   clear hT
   refine zCond rfl rfl (fun hc => ?_) (fun hc => ?_)
   ·
    refine zReg md0 hX rfl rfl rfl ?_
    exact rTo (To.mk' [] 0 hε rfl (by (repeat' first | exact True.intro | exact rfl | apply And.intro) <;> (repeat' first | exact rfl | refine Eq.trans ?_ (cTr (by assumption)) | refine Eq.trans ?_ (cFr (by assumption)) | refine Eq.trans (cTl (by assumption)) ?_ | refine Eq.trans (cFl (by assumption)) ?_)) (by (repeat' first | exact True.intro | exact rfl | apply And.intro) <;> (repeat' first | exact rfl | refine Eq.trans ?_ (cTr (by assumption)) | refine Eq.trans ?_ (cFr (by assumption)) | refine Eq.trans (cTl (by assumption)) ?_ | refine Eq.trans (cFl (by assumption)) ?_))) hj
   ·
    refine rSkip ?_
    exact rTo (To.mk' [] 0 hε rfl (by (repeat' first | exact True.intro | exact rfl | apply And.intro) <;> (repeat' first | exact rfl | refine Eq.trans ?_ (cTr (by assumption)) | refine Eq.trans ?_ (cFr (by assumption)) | refine Eq.trans (cTl (by assumption)) ?_ | refine Eq.trans (cFl (by assumption)) ?_)) (by (repeat' first | exact True.intro | exact rfl | apply And.intro) <;> (repeat' first | exact rfl | refine Eq.trans ?_ (cTr (by assumption)) | refine Eq.trans ?_ (cFr (by assumption)) | refine Eq.trans (cTl (by assumption)) ?_ | refine Eq.trans (cFl (by assumption)) ?_))) hj
 ·
  cases h
def pattern_Empty (N : Nat) (a1 : (List Int)) : Option Bool :=
 some (decide (a1 = (List.replicate 384 0)))
def sp_pattern_Empty (N : Nat) : X.Spec := fun args lk => match args with
 | [.v (.agg [.ints 384 .i64 a1])] => some ⟨(pattern_Empty N a1).isSome = true, .v (.c (.bool ((pattern_Empty N a1).getD default))), [], []⟩
 | _ => none
set_option maxRecDepth 100000 in
set_option maxHeartbeats 1000000 in
theorem ok_pattern_Empty (N : Nat) : FnOK Tryd.prog gt0 19 (sp_pattern_Empty N) := by
 refine fnOK_handed Tryd.func19 rfl (by kernel_rfl) tt_ok (ktNil) ?_
 intro args lk r h hp
 unfold sp_pattern_Empty at h
 split at h
 ·
  rename_i a1
  change (List Int) at a1
  cases h
  obtain ⟨x, hx⟩ := Option.isSome_iff_exists.1 hp
  simp only [hx, Option.getD_some]
  refine hand0 rfl rfl (fun w0 M ε0 hX => ?_)
  refine rCount (fun hε => ?_)
  have hT : pattern_Empty N a1 = some x := hx; clear hx hp; unfold pattern_Empty at hT
  refine rSeq ?_
  refine zReg md0 hX rfl rfl rfl ?_
  refine rThen ?_
  refine rSeq ?_
  refine zReg md0 hX rfl rfl rfl ?_
  refine rThen ?_
  refine rRet ?_
  have hy := Option.some.inj hT; subst hy
  exact zEnd0 hX rfl
 ·
  cases h
def pattern_kind (N : Nat) (a1 : Int) (a2 : Bool) (a3 : Int) (a4 : Int) (a5 : (List Int)) (a6 : (List Int)) (a7 : (List (List (Bool × (Int × Int))))) (a8 : Int) : Option Int :=
 let c1 := (pattern_intra N a1 a2 a3 a4 a5 a6 a7)
 if c1.isSome = true then
  bif (bif (c1.getD default) then (decide (a8 ≠ 0)) else false) then
   some 4
  else
   let c2 := (pattern_intra N a1 a2 a3 a4 a5 a6 a7)
   if c2.isSome = true then
    bif (c2.getD default) then
     some 3
    else
     bif (decide (a8 ≠ 0)) then
      some 1
     else
      some 0
   else none
 else none
def sp_pattern_kind (N : Nat) : X.Spec := fun args lk => match args with
 | [.v (.agg [.cs [.int .i64 a1, .bool a2, .int .i64 a3, .int .i64 a4], .ints 2 .i64 a5, .ints 6 .i64 a6, .fzs 6 (.pair .bool (.pair (.int .i64) (.int .i64))) a7]), .v (.c (.int .i64 a8))] => some ⟨(pattern_kind N a1 a2 a3 a4 a5 a6 a7 a8).isSome = true, .v (.c (.int .i64 ((pattern_kind N a1 a2 a3 a4 a5 a6 a7 a8).getD default))), [], []⟩
 | _ => none
set_option maxRecDepth 100000 in
set_option maxHeartbeats 1000000 in
theorem ok_pattern_kind (N : Nat) : FnOK Tryd.prog gt0 61 (sp_pattern_kind N) := by
 refine fnOK_handed Tryd.func61 rfl (by kernel_rfl) tt_ok (ktCons (ok_pattern_intra N) (ktNil)) ?_
 intro args lk r h hp
 unfold sp_pattern_kind at h
 split at h
 ·
  rename_i a1 a2 a3 a4 a5 a6 a7 a8
  change (List Int) at a5
  change (List Int) at a6
  change (List (List (Bool × (Int × Int)))) at a7
  cases h
  obtain ⟨x, hx⟩ := Option.isSome_iff_exists.1 hp
  simp only [hx, Option.getD_some]
  refine hand0 rfl rfl (fun w0 M ε0 hX => ?_)
  refine rCount (fun hε => ?_)
  have hT : pattern_kind N a1 a2 a3 a4 a5 a6 a7 a8 = some x := hx; clear hx hp; unfold pattern_kind at hT
  refine rSeq ?_
  refine zReg md0 hX rfl rfl rfl ?_
  refine rThen ?_
  refine rSeq ?_
  refine rBlock ?_
  refine rSeq ?_
  let c1 := (pattern_intra N a1 a2 a3 a4 a5 a6 a7)
  replace hT := sIf hT; obtain ⟨o1, hT⟩ := hT
  refine zReg md0 hX rfl rfl rfl ?_
  refine rThen ?_
  refine zCond rfl rfl (fun hc => ?_) (fun hc => ?_)
  ·
   replace hT := sT hc hT
   refine rSeq ?_
   refine zReg md0 hX rfl rfl rfl ?_
   refine rThen ?_
   refine rRet ?_
   refine rInRet ?_
   refine rThenRet ?_
   have hy := Option.some.inj hT; subst hy
   exact zEnd0 hX rfl
  ·
   replace hT := sF hc hT
   refine rSeq ?_
   let c2 := (pattern_intra N a1 a2 a3 a4 a5 a6 a7)
   replace hT := sIf hT; obtain ⟨o1, hT⟩ := hT
   refine zReg md0 hX rfl rfl rfl ?_
   refine rThen ?_
   refine zCond rfl rfl (fun hc => ?_) (fun hc => ?_)
   ·
    replace hT := sT hc hT
    refine rSeq ?_
    refine zReg md0 hX rfl rfl rfl ?_
    refine rThen ?_
    refine rRet ?_
    refine rInRet ?_
    refine rThenRet ?_
    have hy := Option.some.inj hT; subst hy
    exact zEnd0 hX rfl
   ·
    replace hT := sF hc hT
    refine rSeq ?_
    refine zReg md0 hX rfl rfl rfl ?_
    refine rThen ?_
    refine zCond rfl rfl (fun hc => ?_) (fun hc => ?_)
    ·
     replace hT := sT hc hT
     refine rSeq ?_
     refine zReg md0 hX rfl rfl rfl ?_
     refine rThen ?_
     refine rRet ?_
     refine rInRet ?_
     refine rThenRet ?_
     have hy := Option.some.inj hT; subst hy
     exact zEnd0 hX rfl
    ·
     replace hT := sF hc hT
     refine rSkip ?_
     refine rInNormal ?_
     refine rThen ?_
     refine rSeq ?_
     refine zReg md0 hX rfl rfl rfl ?_
     refine rThen ?_
     refine rRet ?_
     have hy := Option.some.inj hT; subst hy
     exact zEnd0 hX rfl
 ·
  cases h
def pattern_Cell (N : Nat) (a1 : Int) (a2 : Bool) (a3 : Int) (a4 : Int) (a5 : (List Int)) (a6 : (List Int)) (a7 : (List (List (Bool × (Int × Int))))) (a8 : (List Int)) (a9 : Int) : Option (Int × Bool × Int × Int × (List Int) × (List Int) × (List (List (Bool × (Int × Int)))) × Int) :=
 let c1 := (cellout_Right N true a1 a2 a3 a4 a5 a6 a7)
 if c1.isSome = true then
  bif (!(c1.getD default)) then
   some (0, false, 0, 0, (List.replicate 2 0), (List.replicate 6 0), (List.replicate 6 []), 12)
  else
   let c2 := (steps_Row N a9)
   if c2.isSome = true then
    bif (bif (!(c2.getD default).2) then (decide (a9 ≠ 0)) else false) then
     some (0, false, 0, 0, (List.replicate 2 0), (List.replicate 6 0), (List.replicate 6 []), 9)
    else
     let c3 := (pattern_events N a1 a2 a3 a4 a5 a6 a7 a8)
     if c3.isSome = true then
      bif (!(c3.getD default).2) then
       some (0, false, 0, 0, (List.replicate 2 0), (List.replicate 6 0), (List.replicate 6 []), 7)
      else
       let c4 := (pattern_intra N a1 a2 a3 a4 a5 a6 a7)
       let c5 := (pattern_Empty N a8)
       let x2 := (bif (bif (bif (!(c4.getD default)) then (c5.getD default) else false) then (decide (a5 = (List.replicate 2 0))) else false) then (decide (a9 = 0)) else false)
       if c4.isSome = true ∧ ((!(c4.getD default)) = true → c5.isSome = true) then
        bif x2 then
         some (0, true, 0, 0, (List.replicate 2 0), (List.replicate 6 0), (List.replicate 6 []), 0)
        else
         let c6 := (pattern_kind N a1 a2 a3 a4 a5 a6 a7 a9)
         if c6.isSome = true then
          some (0, false, (c6.getD default), a9, a5, a6, (c3.getD default).1, 0)
         else none
       else none
     else none
   else none
 else none
def sp_pattern_Cell (N : Nat) : X.Spec := fun args lk => match args with
 | [.v (.agg [.cs [.int .i64 a1, .bool a2, .int .i64 a3, .int .i64 a4], .ints 2 .i64 a5, .ints 6 .i64 a6, .fzs 6 (.pair .bool (.pair (.int .i64) (.int .i64))) a7]), .v (.agg [.ints 384 .i64 a8]), .v (.c (.int .i64 a9))] => some ⟨(pattern_Cell N a1 a2 a3 a4 a5 a6 a7 a8 a9).isSome = true, .tup [.agg [.cs [.int .i64 ((pattern_Cell N a1 a2 a3 a4 a5 a6 a7 a8 a9).getD default).1, .bool ((pattern_Cell N a1 a2 a3 a4 a5 a6 a7 a8 a9).getD default).2.1, .int .i64 ((pattern_Cell N a1 a2 a3 a4 a5 a6 a7 a8 a9).getD default).2.2.1, .int .i64 ((pattern_Cell N a1 a2 a3 a4 a5 a6 a7 a8 a9).getD default).2.2.2.1], .ints 2 .i64 ((pattern_Cell N a1 a2 a3 a4 a5 a6 a7 a8 a9).getD default).2.2.2.2.1, .ints 6 .i64 ((pattern_Cell N a1 a2 a3 a4 a5 a6 a7 a8 a9).getD default).2.2.2.2.2.1, .fzs 6 (.pair .bool (.pair (.int .i64) (.int .i64))) ((pattern_Cell N a1 a2 a3 a4 a5 a6 a7 a8 a9).getD default).2.2.2.2.2.2.1], .c (.int .i64 ((pattern_Cell N a1 a2 a3 a4 a5 a6 a7 a8 a9).getD default).2.2.2.2.2.2.2)], [], []⟩
 | _ => none
set_option maxRecDepth 100000 in
set_option maxHeartbeats 1000000 in
theorem ok_pattern_Cell (N : Nat) : FnOK Tryd.prog gt0 18 (sp_pattern_Cell N) := by
 refine fnOK_handed Tryd.func18 rfl (by kernel_rfl) tt_ok (ktCons (ok_pattern_kind N) (ktCons (ok_pattern_Empty N) (ktCons (ok_pattern_intra N) (ktCons (ok_pattern_events N) (ktCons (ok_steps_Row N) (ktCons (ok_cellout_Right N) (ktNil))))))) ?_
 intro args lk r h hp
 unfold sp_pattern_Cell at h
 split at h
 ·
  rename_i a1 a2 a3 a4 a5 a6 a7 a8 a9
  change (List Int) at a5
  change (List Int) at a6
  change (List (List (Bool × (Int × Int)))) at a7
  change (List Int) at a8
  cases h
  obtain ⟨x, hx⟩ := Option.isSome_iff_exists.1 hp
  simp only [hx, Option.getD_some]
  refine hand0 rfl rfl (fun w0 M ε0 hX => ?_)
  refine rCount (fun hε => ?_)
  have hT : pattern_Cell N a1 a2 a3 a4 a5 a6 a7 a8 a9 = some x := hx; clear hx hp; unfold pattern_Cell at hT
  refine rSeq ?_
  refine zReg md0 hX rfl rfl rfl ?_
  refine rThen ?_
  refine rSeq ?_
  refine rSeq ?_
  let c1 := (cellout_Right N true a1 a2 a3 a4 a5 a6 a7)
  replace hT := sIf hT; obtain ⟨o1, hT⟩ := hT
  refine zReg md0 hX rfl rfl rfl ?_
  refine rThen ?_
  refine zCond rfl rfl (fun hc => ?_) (fun hc => ?_)
  ·
   replace hT := sT hc hT
   refine rSeq ?_
   refine zReg md0 hX rfl rfl rfl ?_
   refine rThen ?_
   refine rRet ?_
   refine rThenRet ?_
   have hy := Option.some.inj hT; subst hy
   exact zEnd0 hX rfl
  ·
   replace hT := sF hc hT
   refine rSkip ?_
   refine rThen ?_
   refine rSeq ?_
   refine rSeq ?_
   let c2 := (steps_Row N a9)
   replace hT := sIf hT; obtain ⟨o1, hT⟩ := hT
   refine zReg md0 hX rfl rfl rfl ?_
   refine rThen ?_
   refine rSeq ?_
   refine zReg md0 hX rfl rfl rfl ?_
   refine rThen ?_
   refine zCond rfl rfl (fun hc => ?_) (fun hc => ?_)
   ·
    replace hT := sT hc hT
    refine rSeq ?_
    refine zReg md0 hX rfl rfl rfl ?_
    refine rThen ?_
    refine rRet ?_
    refine rThenRet ?_
    have hy := Option.some.inj hT; subst hy
    exact zEnd0 hX rfl
   ·
    replace hT := sF hc hT
    refine rSkip ?_
    refine rThen ?_
    refine rSeq ?_
    let c3 := (pattern_events N a1 a2 a3 a4 a5 a6 a7 a8)
    replace hT := sIf hT; obtain ⟨o1, hT⟩ := hT
    refine zReg md0 hX rfl rfl rfl ?_
    refine rThen ?_
    refine rSeq ?_
    refine rBlock ?_
    refine rSeq ?_
    refine zReg md0 hX rfl rfl rfl ?_
    refine rThen ?_
    refine zCond rfl rfl (fun hc => ?_) (fun hc => ?_)
    ·
     replace hT := sT hc hT
     refine rSeq ?_
     refine zReg md0 hX rfl rfl rfl ?_
     refine rThen ?_
     refine rRet ?_
     refine rInRet ?_
     refine rThenRet ?_
     have hy := Option.some.inj hT; subst hy
     exact zEnd0 hX rfl
    ·
     replace hT := sF hc hT
     refine rSeq ?_
     let c4 := (pattern_intra N a1 a2 a3 a4 a5 a6 a7)
     let c5 := (pattern_Empty N a8)
     let x2 := (bif (bif (bif (!(c4.getD default)) then (c5.getD default) else false) then (decide (a5 = (List.replicate 2 0))) else false) then (decide (a9 = 0)) else false)
     replace hT := sIf hT; obtain ⟨⟨o1, o2⟩, hT⟩ := hT
     refine rRegC md0 hX rfl rfl rfl (by (repeat' first | exact True.intro | with_reducible assumption | (with_reducible apply And.intro) | intro _) <;> first | assumption | exact o2 (by assumption) | exact rfl | omega | exact Nat.le_of_ble_eq_true rfl | exact selF (by assumption) | exact selT (by assumption) | exact And.intro rfl rfl | exact And.intro (by assumption) rfl | exact And.intro (by omega) rfl | (simp only [inK] at *; omega) | (simp_all [sel] <;> fail) | fail) ?_
     refine rThen ?_
     refine zCond rfl rfl (fun hc => ?_) (fun hc => ?_)
     ·
      replace hT := sT hc hT
      refine rSeq ?_
      refine zReg md0 hX rfl rfl rfl ?_
      refine rThen ?_
      refine rRet ?_
      refine rInRet ?_
      refine rThenRet ?_
      have hy := Option.some.inj hT; subst hy
      exact zEnd0 hX rfl
     ·
      replace hT := sF hc hT
      refine rSkip ?_
      refine rInNormal ?_
      refine rThen ?_
      refine rSeq ?_
      let c6 := (pattern_kind N a1 a2 a3 a4 a5 a6 a7 a9)
      replace hT := sIf hT; obtain ⟨o1, hT⟩ := hT
      refine zDraw md0 1 [10] hX mixed rfl rfl rfl rfl rfl ?_
      refine rThen ?_
      refine rRet ?_
      have hy := Option.some.inj hT; subst hy
      exact zEnd0 hX rfl
 ·
  cases h
def cellx_Make (N : Nat) (a1 : Int) (a2 : (List (List Int))) (a3 : Int) (a4 : (List (List Int))) (a5 : Int) (a6 : Int) (a7 : Bool) (a8 : Int) (a9 : Int) (a10 : (List Int)) (a11 : (List Int)) (a12 : (List (List (Bool × (Int × Int))))) (a13 : Int) (a14 : Int) (a15 : Int) : Option (Int × Bool × Int × Int × (List Int) × (List Int) × (List (List (Bool × (Int × Int)))) × Int) :=
 let c1 := (residue_Levels N a6 a7 a8 a9 a10 a11 a12)
 if c1.isSome = true then
  bif (decide ((c1.getD default).2 ≠ 0)) then
   some (0, false, 0, 0, (List.replicate 2 0), (List.replicate 6 0), (List.replicate 6 []), (c1.getD default).2)
  else
   joinK (fun (v1 : (List Int)) =>
    let c2 := (feed_Cell N a6 a7 a8 a9 a10 a11 a12 v1 a13 a14)
    if c2.isSome = true then
     bif (decide ((c2.getD default).2 ≠ 0)) then
      some (0, false, 0, 0, (List.replicate 2 0), (List.replicate 6 0), (List.replicate 6 []), (c2.getD default).2)
     else
      let c3 := (pattern_Cell N a6 a7 a8 a9 a10 a11 a12 (c2.getD default).1 a15)
      if c3.isSome = true then
       some ((c3.getD default).1, (c3.getD default).2.1, (c3.getD default).2.2.1, (c3.getD default).2.2.2.1, (c3.getD default).2.2.2.2.1, (c3.getD default).2.2.2.2.2.1, (c3.getD default).2.2.2.2.2.2.1, (c3.getD default).2.2.2.2.2.2.2)
      else none
    else none
   ) fun k1 =>
    bif (bif (decide (a8 ≠ 3)) then (decide (a8 ≠ 4)) else false) then
     let c4 := (stores_Drift N a1 a2 a3 a4 a5 a10)
     if c4.isSome = true then
      bif (decide ((c4.getD default).2 ≠ 0)) then
       some (0, false, 0, 0, (List.replicate 2 0), (List.replicate 6 0), (List.replicate 6 []), (c4.getD default).2)
      else
       k1 (c4.getD default).1
     else none
    else
     k1 (List.replicate 384 0)
 else none
def sp_cellx_Make (N : Nat) : X.Spec := fun args lk => match args with
 | [.v (.agg [.cs [.int .i64 a1], .fzs 3 (.int .u8) a2]), .v (.agg [.cs [.int .i64 a3], .fzs 3 (.int .i64) a4]), .v (.c (.int .i64 a5)), .v (.agg [.cs [.int .i64 a6, .bool a7, .int .i64 a8, .int .i64 a9], .ints 2 .i64 a10, .ints 6 .i64 a11, .fzs 6 (.pair .bool (.pair (.int .i64) (.int .i64))) a12, .cs [.int .i64 a13, .int .i64 a14, .int .i64 a15]])] => some ⟨(cellx_Make N a1 a2 a3 a4 a5 a6 a7 a8 a9 a10 a11 a12 a13 a14 a15).isSome = true, .tup [.agg [.cs [.int .i64 ((cellx_Make N a1 a2 a3 a4 a5 a6 a7 a8 a9 a10 a11 a12 a13 a14 a15).getD default).1, .bool ((cellx_Make N a1 a2 a3 a4 a5 a6 a7 a8 a9 a10 a11 a12 a13 a14 a15).getD default).2.1, .int .i64 ((cellx_Make N a1 a2 a3 a4 a5 a6 a7 a8 a9 a10 a11 a12 a13 a14 a15).getD default).2.2.1, .int .i64 ((cellx_Make N a1 a2 a3 a4 a5 a6 a7 a8 a9 a10 a11 a12 a13 a14 a15).getD default).2.2.2.1], .ints 2 .i64 ((cellx_Make N a1 a2 a3 a4 a5 a6 a7 a8 a9 a10 a11 a12 a13 a14 a15).getD default).2.2.2.2.1, .ints 6 .i64 ((cellx_Make N a1 a2 a3 a4 a5 a6 a7 a8 a9 a10 a11 a12 a13 a14 a15).getD default).2.2.2.2.2.1, .fzs 6 (.pair .bool (.pair (.int .i64) (.int .i64))) ((cellx_Make N a1 a2 a3 a4 a5 a6 a7 a8 a9 a10 a11 a12 a13 a14 a15).getD default).2.2.2.2.2.2.1], .c (.int .i64 ((cellx_Make N a1 a2 a3 a4 a5 a6 a7 a8 a9 a10 a11 a12 a13 a14 a15).getD default).2.2.2.2.2.2.2)], [], []⟩
 | _ => none
set_option maxRecDepth 100000 in
set_option maxHeartbeats 1000000 in
theorem ok_cellx_Make (N : Nat) : FnOK Tryd.prog gt0 47 (sp_cellx_Make N) := by
 refine fnOK_handed Tryd.func47 rfl (by kernel_rfl) tt_ok (ktCons (ok_stores_Drift N) (ktCons (ok_pattern_Cell N) (ktCons (ok_feed_Cell N) (ktCons (ok_residue_Levels N) (ktNil))))) ?_
 intro args lk r h hp
 unfold sp_cellx_Make at h
 split at h
 ·
  rename_i a1 a2 a3 a4 a5 a6 a7 a8 a9 a10 a11 a12 a13 a14 a15
  change (List (List Int)) at a2
  change (List (List Int)) at a4
  change (List Int) at a10
  change (List Int) at a11
  change (List (List (Bool × (Int × Int)))) at a12
  cases h
  obtain ⟨x, hx⟩ := Option.isSome_iff_exists.1 hp
  simp only [hx, Option.getD_some]
  refine hand0 rfl rfl (fun w0 M ε0 hX => ?_)
  refine rCount (fun hε => ?_)
  have hT : cellx_Make N a1 a2 a3 a4 a5 a6 a7 a8 a9 a10 a11 a12 a13 a14 a15 = some x := hx; clear hx hp; unfold cellx_Make at hT
  refine rSeq ?_
  refine zReg md0 hX rfl rfl rfl ?_
  refine rThen ?_
  refine rSeq ?_
  refine rSeq ?_
  let c1 := (residue_Levels N a6 a7 a8 a9 a10 a11 a12)
  replace hT := sIf hT; obtain ⟨o1, hT⟩ := hT
  refine zReg md0 hX rfl rfl rfl ?_
  refine rThen ?_
  refine rSeq ?_
  refine zReg md0 hX rfl rfl rfl ?_
  refine rThen ?_
  refine zCond rfl rfl (fun hc => ?_) (fun hc => ?_)
  ·
   replace hT := sT hc hT
   refine rSeq ?_
   refine zReg md0 hX rfl rfl rfl ?_
   refine rThen ?_
   refine rRet ?_
   refine rThenRet ?_
   have hy := Option.some.inj hT; subst hy
   exact zEnd0 hX rfl
  ·
   replace hT := sF hc hT
   refine rSkip ?_
   refine rThen ?_
   refine rSeq ?_
   refine zReg md0 hX rfl rfl rfl ?_
   refine rThen ?_
   refine rSeq ?_
   refine rSeq ?_
   refine zReg md0 hX rfl rfl rfl ?_
   refine rThen ?_
   refine rJoinK hT (fun v1 => ⟨[(7, .v (.c (.ptr 2 0 0 0 0 0))), (8, .v (.c (.ptr 3 0 0 0 0 0))), (9, .v (.c (.int .i64 0))), (12, .v (.c (.ptr 5 0 0 0 0 0)))], [(2, .mem true 82 none (.flat [.cs [.int .i64 a6, .bool a7, .int .i64 a8, .int .i64 a9], .ints 2 .i64 a10, .ints 6 .i64 a11, .fzs 6 (.pair .bool (.pair (.int .i64) (.int .i64))) a12, .cs [.int .i64 a13, .int .i64 a14, .int .i64 a15]])), (3, .mem true 37 none (.flat [.cs [.int .i64 0, .bool false, .int .i64 0, .int .i64 0], .ints 2 .i64 (List.replicate 2 0), .ints 6 .i64 (List.replicate 6 0), .fzs 6 (.pair .bool (.pair (.int .i64) (.int .i64))) (List.replicate 6 [])])), (5, .mem true 39 none (.flat [.ints 384 .i64 v1]))], 6⟩) (fun v1 hT => ?_) (fun k1 hjk1 hT => ?_)
   ·
    refine rThen ?_
    refine rSeq ?_
    let c2 := (feed_Cell N a6 a7 a8 a9 a10 a11 a12 v1 a13 a14)
    replace hT := sIf hT; obtain ⟨o1, hT⟩ := hT
    refine zReg md0 hX rfl rfl rfl ?_
    refine rThen ?_
    refine rSeq ?_
    refine rSeq ?_
    refine zReg md0 hX rfl rfl rfl ?_
    refine rThen ?_
    refine zCond rfl rfl (fun hc => ?_) (fun hc => ?_)
    ·
     replace hT := sT hc hT
     refine rSeq ?_
     refine zReg md0 hX rfl rfl rfl ?_
     refine rThen ?_
     refine rRet ?_
     refine rThenRet ?_
     have hy := Option.some.inj hT; subst hy
     exact zEnd0 hX rfl
    ·
     replace hT := sF hc hT
     refine rSkip ?_
     refine rThen ?_
     refine rSeq ?_
     let c3 := (pattern_Cell N a6 a7 a8 a9 a10 a11 a12 (c2.getD default).1 a15)
     replace hT := sIf hT; obtain ⟨o1, hT⟩ := hT
     refine zReg md0 hX rfl rfl rfl ?_
     refine rThen ?_
     refine rRet ?_
     have hy := Option.some.inj hT; subst hy
     exact zEnd0 hX rfl
   ·
    refine zCond rfl rfl (fun hc => ?_) (fun hc => ?_)
    ·
     replace hT := sT hc hT
     refine rSeq ?_
     refine zReg md0 hX rfl rfl rfl ?_
     refine rThen ?_
     refine rSeq ?_
     let c4 := (stores_Drift N a1 a2 a3 a4 a5 a10)
     replace hT := sIf hT; obtain ⟨o1, hT⟩ := hT
     refine zReg md0 hX rfl rfl rfl ?_
     refine rThen ?_
     refine rSeq ?_
     refine zReg md0 hX rfl rfl rfl ?_
     refine rThen ?_
     refine zCond rfl rfl (fun hc => ?_) (fun hc => ?_)
     ·
      replace hT := sT hc hT
      refine rSeq ?_
      refine zReg md0 hX rfl rfl rfl ?_
      refine rThen ?_
      refine rRet ?_
      refine rThenRet ?_
      have hy := Option.some.inj hT; subst hy
      exact zEnd0 hX rfl
     ·
      replace hT := sF hc hT
      refine rSkip ?_
      exact zTo [] 0 hε (hjk1 _ hT)
    ·
     replace hT := sF hc hT
     refine rSkip ?_
     exact zTo [] 0 hε (hjk1 _ hT)
 ·
  cases h
def law38_lives (N : Nat) : Option Bool :=
 let c1 := (planes_New N 6 100)
 if c1.isSome = true then
  let c2 := (planes_New N 6 110)
  if c2.isSome = true then
   let c3 := (stores_Diff N (c2.getD default).1 (c2.getD default).2.1 (c1.getD default).1 (c1.getD default).2.1)
   if c3.isSome = true then
    let c4 := (cellx_Make N (c1.getD default).1 (c1.getD default).2.1 (c3.getD default).1 (c3.getD default).2.1 0 0 true 0 0 (List.replicate 2 0) (List.replicate 6 0) (List.replicate 6 []) 5 5 0)
    if c4.isSome = true then
     let x1 := (bif (bif (bif (bif (decide ((c4.getD default).2.2.2.2.2.2.2 = 0)) then (!(c4.getD default).2.1) else false) then (decide ((c4.getD default).2.2.1 = 0)) else false) then (decide ((((c4.getD default).2.2.2.2.2.2.1.getD 5 []).length : Int) = 1)) else false) then (((((c4.getD default).2.2.2.2.2.2.1.getD 5 []).getD 0 (false, ((0 : Int), (0 : Int)))).1 == true) && (decide ((((c4.getD default).2.2.2.2.2.2.1.getD 5 []).getD 0 (false, ((0 : Int), (0 : Int)))).2.1 = 0) && (decide ((((c4.getD default).2.2.2.2.2.2.1.getD 5 []).getD 0 (false, ((0 : Int), (0 : Int)))).2.2 = 7) && true))) else false)
     if ((bif (bif (bif (decide ((c4.getD default).2.2.2.2.2.2.2 = 0)) then (!(c4.getD default).2.1) else false) then (decide ((c4.getD default).2.2.1 = 0)) else false) then (decide ((((c4.getD default).2.2.2.2.2.2.1.getD 5 []).length : Int) = 1)) else false) = true → (0 : Int) < (((c4.getD default).2.2.2.2.2.2.1.getD 5 []).length : Int)) then
      some x1
     else none
    else none
   else none
  else none
 else none
def sp_law38_lives (N : Nat) : X.Spec := fun args lk => match args with
 | [] => some ⟨(law38_lives N).isSome = true, .v (.c (.bool ((law38_lives N).getD default))), [], []⟩
 | _ => none
set_option maxRecDepth 100000 in
set_option maxHeartbeats 1000000 in
theorem ok_law38_lives (N : Nat) : FnOK Tryd.prog gt0 44 (sp_law38_lives N) := by
 refine fnOK_handed Tryd.func44 rfl (by kernel_rfl) tt_ok (ktCons (ok_cellx_Make N) (ktCons (ok_stores_Diff N) (ktCons (ok_planes_New N) (ktNil)))) ?_
 intro args lk r h hp
 unfold sp_law38_lives at h
 split at h
 ·
  cases h
  obtain ⟨x, hx⟩ := Option.isSome_iff_exists.1 hp
  simp only [hx, Option.getD_some]
  refine hand0 rfl rfl (fun w0 M ε0 hX => ?_)
  refine rCount (fun hε => ?_)
  have hT : law38_lives N = some x := hx; clear hx hp; unfold law38_lives at hT
  refine rSeq ?_
  refine zReg md0 hX rfl rfl rfl ?_
  refine rThen ?_
  refine rSeq ?_
  let c1 := (planes_New N 6 100)
  replace hT := sIf hT; obtain ⟨o1, hT⟩ := hT
  refine zReg md0 hX rfl rfl rfl ?_
  refine rThen ?_
  refine rSeq ?_
  let c2 := (planes_New N 6 110)
  replace hT := sIf hT; obtain ⟨o1, hT⟩ := hT
  refine zReg md0 hX rfl rfl rfl ?_
  refine rThen ?_
  refine rSeq ?_
  let c3 := (stores_Diff N (c2.getD default).1 (c2.getD default).2.1 (c1.getD default).1 (c1.getD default).2.1)
  replace hT := sIf hT; obtain ⟨o1, hT⟩ := hT
  refine zReg md0 hX rfl rfl rfl ?_
  refine rThen ?_
  refine rSeq ?_
  let c4 := (cellx_Make N (c1.getD default).1 (c1.getD default).2.1 (c3.getD default).1 (c3.getD default).2.1 0 0 true 0 0 (List.replicate 2 0) (List.replicate 6 0) (List.replicate 6 []) 5 5 0)
  replace hT := sIf hT; obtain ⟨o1, hT⟩ := hT
  refine zReg md0 hX rfl rfl rfl ?_
  refine rThen ?_
  refine rSeq ?_
  let x1 := (bif (bif (bif (bif (decide ((c4.getD default).2.2.2.2.2.2.2 = 0)) then (!(c4.getD default).2.1) else false) then (decide ((c4.getD default).2.2.1 = 0)) else false) then (decide ((((c4.getD default).2.2.2.2.2.2.1.getD 5 []).length : Int) = 1)) else false) then (((((c4.getD default).2.2.2.2.2.2.1.getD 5 []).getD 0 (false, ((0 : Int), (0 : Int)))).1 == true) && (decide ((((c4.getD default).2.2.2.2.2.2.1.getD 5 []).getD 0 (false, ((0 : Int), (0 : Int)))).2.1 = 0) && (decide ((((c4.getD default).2.2.2.2.2.2.1.getD 5 []).getD 0 (false, ((0 : Int), (0 : Int)))).2.2 = 7) && true))) else false)
  replace hT := sIf hT; obtain ⟨o1, hT⟩ := hT
  refine rRegC md0 hX rfl rfl rfl (by (repeat' first | exact True.intro | with_reducible assumption | (with_reducible apply And.intro) | intro _) <;> first | assumption | exact o1 (by assumption) | exact rfl | omega | exact Nat.le_of_ble_eq_true rfl | exact selF (by assumption) | exact selT (by assumption) | exact And.intro rfl rfl | exact And.intro (by assumption) rfl | exact And.intro (by omega) rfl | (simp only [inK] at *; omega) | (simp_all [sel] <;> fail) | fail) ?_
  refine rThen ?_
  refine rRet ?_
  have hy := Option.some.inj hT; subst hy
  exact zEnd0 hX rfl
 ·
  cases h
def stores_New_b1 (N : Nat) (a1 : Int) (s1 : (Int × (List (List Int)))) : Option ((Int × (List (List Int))) ⊕ (List (List Int))) :=
 bif (decide (s1.1 < 3)) then
  let c2 := (formats_Plane N a1 s1.1)
  if c2.isSome = true then
   if inK .i64 ((c2.getD default).1 * (c2.getD default).2) ∧ (0 : Int) ≤ ((c2.getD default).1 * (c2.getD default).2) ∧ ((c2.getD default).1 * (c2.getD default).2) * 8 ≤ 140737488355328 ∧ (0 : Int) ≤ s1.1 ∧ s1.1 < 3 then
    if ((c2.getD default).1 * (c2.getD default).2).toNat = ((List.replicate ((c2.getD default).1 * (c2.getD default).2).toNat 0) : List Int).length then
     if (s1.1).toNat < 3 then
      let x1 := (s1.2.set (s1.1).toNat ((List.replicate ((c2.getD default).1 * (c2.getD default).2).toNat 0) : List Int))
      if inK .i64 (s1.1 + 1) then
       some (.inl ((s1.1 + 1), x1))
      else none
     else none
    else none
   else none
  else none
 else
  some (.inr s1.2)
def stores_New (N : Nat) (a1 : Int) : Option (Int × (List (List Int)) × Int) :=
 let c1 := (formats_Size N a1)
 if c1.isSome = true then
  bif (!(c1.getD default).2.2) then
   some (0, (List.replicate 3 []), 1)
  else
   (iter (stores_New_b1 N a1) N (0, (List.replicate 3 []))).bind fun v1 =>
    some (a1, v1, 0)
 else none
def sp_stores_New (N : Nat) : X.Spec := fun args lk => match args with
 | [.v (.c (.int .i64 a1))] => some ⟨(stores_New N a1).isSome = true, .tup [.agg [.cs [.int .i64 ((stores_New N a1).getD default).1], .fzs 3 (.int .i64) ((stores_New N a1).getD default).2.1], .c (.int .i64 ((stores_New N a1).getD default).2.2)], [], []⟩
 | _ => none
set_option maxRecDepth 100000 in
set_option maxHeartbeats 1000000 in
theorem ok_stores_New (N : Nat) : FnOK Tryd.prog gt0 45 (sp_stores_New N) := by
 refine fnOK_handed Tryd.func45 rfl (by kernel_rfl) tt_ok (ktCons (ok_formats_Plane N) (ktCons (ok_formats_Size N) (ktNil))) ?_
 intro args lk r h hp
 unfold sp_stores_New at h
 split at h
 ·
  rename_i a1
  cases h
  obtain ⟨x, hx⟩ := Option.isSome_iff_exists.1 hp
  simp only [hx, Option.getD_some]
  refine hand0 rfl rfl (fun w0 M ε0 hX => ?_)
  refine rCount (fun hε => ?_)
  have hT : stores_New N a1 = some x := hx; clear hx hp; unfold stores_New at hT
  refine rSeq ?_
  refine zReg md0 hX rfl rfl rfl ?_
  refine rThen ?_
  refine rSeq ?_
  refine rSeq ?_
  let c1 := (formats_Size N a1)
  replace hT := sIf hT; obtain ⟨o1, hT⟩ := hT
  refine zReg md0 hX rfl rfl rfl ?_
  refine rThen ?_
  refine rSeq ?_
  refine zReg md0 hX rfl rfl rfl ?_
  refine rThen ?_
  refine zCond rfl rfl (fun hc => ?_) (fun hc => ?_)
  ·
   replace hT := sT hc hT
   refine rSeq ?_
   refine zReg md0 hX rfl rfl rfl ?_
   refine rThen ?_
   refine rRet ?_
   refine rThenRet ?_
   have hy := Option.some.inj hT; subst hy
   exact zEnd0 hX rfl
  ·
   replace hT := sF hc hT
   refine rSkip ?_
   refine rThen ?_
   refine rSeq ?_
   refine zReg md0 hX rfl rfl rfl ?_
   refine rThen ?_
   refine rSeq ?_
   refine rSeq ?_
   refine zReg md0 hX rfl rfl rfl ?_
   refine rThen ?_
   refine rBlock ?_
   replace hT := sBind hT; obtain ⟨w1, hl, hT⟩ := hT
   refine rJoinA (fun v1 => v1 = w1) (fun v1 => ⟨[(2, .v (.c (.ptr 0 0 0 0 0 0))), (3, .v (.c (.int .i64 0))), (7, .v (.c (.ptr 1 0 0 0 0 0)))], [(0, .mem true 76 none (.flat [.cs [.int .i64 0], .fzs 3 (.int .i64) (List.replicate 3 [])])), (1, .mem true 76 none (.flat [.cs [.int .i64 a1], .fzs 3 (.int .i64) v1]))], 2⟩) (.exit 0) (fun v1 hv => ?_) (fun hxs10 => ?_)
   ·
    subst hv; clear hl
    refine rInHit ?_
    refine rThen ?_
    refine rSeq ?_
    refine zReg md0 hX rfl rfl rfl ?_
    refine rThen ?_
    refine rRet ?_
    have hy := Option.some.inj hT; subst hy
    exact zEnd0 hX rfl
   refine rLoopM (stores_New_b1 N a1) (fun s1 => ⟨[(0, .v (.c (.int .i64 a1))), (2, .v (.c (.ptr 0 0 0 0 0 0))), (3, .v (.c (.int .i64 0))), (7, .v (.c (.ptr 1 0 0 0 0 0))), (22, .v (.c (.int .i64 s1.1)))], [(0, .mem true 76 none (.flat [.cs [.int .i64 0], .fzs 3 (.int .i64) (List.replicate 3 [])])), (1, .mem true 76 none (.flat [.cs [.int .i64 a1], .fzs 3 (.int .i64) s1.2]))], 2⟩) hl (To.mk' [] 0 hε rfl (by repeat' first | exact True.intro | exact rfl | apply And.intro) (by repeat' first | exact True.intro | exact rfl | apply And.intro)) (fun s1 zs1 NNs1 hz hnexts1 houts1 => ?_)
   clear hl hT
   have hT := hz; clear hz
   refine rSeq ?_
   refine zReg md0 hX rfl rfl rfl ?_
   refine rThen ?_
   refine rSeq ?_
   refine zCond rfl rfl (fun hc => ?_) (fun hc => ?_)
   ·
    replace hT := sT hc hT
    refine rSkip ?_
    refine rThen ?_
    refine rSeq ?_
    refine rBlock ?_
    refine rSeq ?_
    refine zReg md0 hX rfl rfl rfl ?_
    refine rThen ?_
    refine rSeq ?_
    let c2 := (formats_Plane N a1 s1.1)
    replace hT := sIf hT; obtain ⟨o1, hT⟩ := hT
    refine zReg md0 hX rfl rfl rfl ?_
    refine rThen ?_
    refine rRegSL ?_
    replace hT := sIf hT; obtain ⟨⟨o1, o2, o3, o4, o5⟩, hT⟩ := hT
    refine rSLCut md0 7 hX rfl rfl rfl (by (repeat' first | exact True.intro | with_reducible assumption | (with_reducible apply And.intro) | intro _) <;> first | assumption | exact rfl | omega | exact Nat.le_of_ble_eq_true rfl | exact selF (by assumption) | exact selT (by assumption) | exact And.intro rfl rfl | exact And.intro (by assumption) rfl | exact And.intro (by omega) rfl | (simp only [inK] at *; omega) | (simp_all [sel] <;> fail) | fail) ?_
    replace hT := sIf hT; obtain ⟨f1, hT⟩ := hT
    refine rFreezeL 2 (.int .i64) ((List.replicate ((c2.getD default).1 * (c2.getD default).2).toNat 0) : List Int) [(0, .v (.c (.int .i64 a1))), (2, .v (.c (.ptr 0 0 0 0 0 0))), (3, .v (.c (.int .i64 0))), (7, .v (.c (.ptr 1 0 0 0 0 0))), (8, .v (.c (.int .i64 s1.1))), (9, .v (.c (.int .i64 (c2.getD default).1))), (10, .v (.c (.int .i64 (c2.getD default).2))), (22, .v (.c (.int .i64 s1.1))), (23, .v (.c (.bool (decide (s1.1 < 3))))), (24, .v (.c (.int .i64 s1.1))), (25, .tup [.c (.int .i64 (c2.getD default).1), .c (.int .i64 (c2.getD default).2)]), (26, .v (.c (.int .i64 a1))), (27, .v (.c (.int .i64 s1.1))), (28, .tup [.c (.int .i64 (c2.getD default).1), .c (.int .i64 (c2.getD default).2)]), (29, .v (.c (.int .i64 (c2.getD default).1))), (30, .v (.c (.int .i64 (c2.getD default).2))), (31, .v (.c (.int .i64 s1.1))), (32, .v (.c (.int .i64 (c2.getD default).1))), (33, .v (.c (.int .i64 (c2.getD default).2))), (34, .v (.c (.int .i64 ((c2.getD default).1 * (c2.getD default).2)))), (35, .v (.c (.fz (.int .i64) ((List.replicate ((c2.getD default).1 * (c2.getD default).2).toNat 0) : List Int)))), (36, .v (.c (.ptr 1 0 0 1 0 0))), (37, .v (.c (.ptr 1 0 0 1 1 (s1.1).toNat)))] [(0, .mem true 76 none (.flat [.cs [.int .i64 0], .fzs 3 (.int .i64) (List.replicate 3 [])])), (1, .mem true 76 none (.flat [.cs [.int .i64 a1], .fzs 3 (.int .i64) s1.2]))] rfl rfl (by (repeat' first | exact True.intro | exact rfl | apply And.intro) <;> first | assumption | rfl) (by (repeat' first | exact True.intro | exact rfl | apply And.intro) <;> first | assumption | rfl) ?_
    replace hT := sIf hT; obtain ⟨o1, hT⟩ := hT
    let x1 := (s1.2.set (s1.1).toNat ((List.replicate ((c2.getD default).1 * (c2.getD default).2).toNat 0) : List Int))
    refine rSLDone md0 hX rfl rfl rfl (by (repeat' first | exact True.intro | with_reducible assumption | (with_reducible apply And.intro) | intro _) <;> first | assumption | exact rfl | omega | exact Nat.le_of_ble_eq_true rfl | exact selF (by assumption) | exact selT (by assumption) | exact And.intro rfl rfl | exact And.intro (by assumption) rfl | exact And.intro (by omega) rfl | (simp only [inK] at *; omega) | (simp_all [sel] <;> fail) | fail) ?_
    refine rInNormal ?_
    refine rThen ?_
    replace hT := sIf hT; obtain ⟨o1, hT⟩ := hT
    refine zReg md0 hX rfl rfl rfl ?_
    exact hnexts1 _ (Option.some.inj hT).symm _ (To.mk' [] 0 hε rfl (by repeat' first | exact True.intro | exact rfl | apply And.intro) (by repeat' first | exact True.intro | exact rfl | apply And.intro))
   ·
    replace hT := sF hc hT
    refine rExit ?_
    refine rThenExit ?_
    refine rThenExit ?_
    exact zTo [] 0 hε (hxs10 _ (houts1 _ (Option.some.inj hT).symm))
 ·
  cases h
def law17_Light (N : Nat) (a1 : Int) (a2 : (List (List Int))) : Option Bool :=
 let x1 := (bif (bif (decide (((a2.getD 0 []).length : Int) ≤ 30000)) then (decide (((a2.getD 1 []).length : Int) ≤ 30000)) else false) then (decide (((a2.getD 2 []).length : Int) ≤ 30000)) else false)
 some x1
def sp_law17_Light (N : Nat) : X.Spec := fun args lk => match args with
 | [.v (.agg [.cs [.int .i64 a1], .fzs 3 (.int .u8) a2])] => some ⟨(law17_Light N a1 a2).isSome = true, .v (.c (.bool ((law17_Light N a1 a2).getD default))), [], []⟩
 | _ => none
set_option maxRecDepth 100000 in
set_option maxHeartbeats 1000000 in
theorem ok_law17_Light (N : Nat) : FnOK Tryd.prog gt0 36 (sp_law17_Light N) := by
 refine fnOK_handed Tryd.func36 rfl (by kernel_rfl) tt_ok (ktNil) ?_
 intro args lk r h hp
 unfold sp_law17_Light at h
 split at h
 ·
  rename_i a1 a2
  change (List (List Int)) at a2
  cases h
  obtain ⟨x, hx⟩ := Option.isSome_iff_exists.1 hp
  simp only [hx, Option.getD_some]
  refine hand0 rfl rfl (fun w0 M ε0 hX => ?_)
  refine rCount (fun hε => ?_)
  have hT : law17_Light N a1 a2 = some x := hx; clear hx hp; unfold law17_Light at hT
  refine rSeq ?_
  refine zReg md0 hX rfl rfl rfl ?_
  refine rThen ?_
  refine rSeq ?_
  let x1 := (bif (bif (decide (((a2.getD 0 []).length : Int) ≤ 30000)) then (decide (((a2.getD 1 []).length : Int) ≤ 30000)) else false) then (decide (((a2.getD 2 []).length : Int) ≤ 30000)) else false)
  refine zReg md0 hX rfl rfl rfl ?_
  refine rThen ?_
  refine rRet ?_
  have hy := Option.some.inj hT; subst hy
  exact zEnd0 hX rfl
 ·
  cases h
def law34_Light (N : Nat) (a1 : Int) (a2 : (List (List Int))) : Option Bool :=
 let x1 := (bif (bif (decide (((a2.getD 0 []).length : Int) ≤ 30000)) then (decide (((a2.getD 1 []).length : Int) ≤ 30000)) else false) then (decide (((a2.getD 2 []).length : Int) ≤ 30000)) else false)
 some x1
def sp_law34_Light (N : Nat) : X.Spec := fun args lk => match args with
 | [.v (.agg [.cs [.int .i64 a1], .fzs 3 (.int .i64) a2])] => some ⟨(law34_Light N a1 a2).isSome = true, .v (.c (.bool ((law34_Light N a1 a2).getD default))), [], []⟩
 | _ => none
set_option maxRecDepth 100000 in
set_option maxHeartbeats 1000000 in
theorem ok_law34_Light (N : Nat) : FnOK Tryd.prog gt0 98 (sp_law34_Light N) := by
 refine fnOK_handed Tryd.func98 rfl (by kernel_rfl) tt_ok (ktNil) ?_
 intro args lk r h hp
 unfold sp_law34_Light at h
 split at h
 ·
  rename_i a1 a2
  change (List (List Int)) at a2
  cases h
  obtain ⟨x, hx⟩ := Option.isSome_iff_exists.1 hp
  simp only [hx, Option.getD_some]
  refine hand0 rfl rfl (fun w0 M ε0 hX => ?_)
  refine rCount (fun hε => ?_)
  have hT : law34_Light N a1 a2 = some x := hx; clear hx hp; unfold law34_Light at hT
  refine rSeq ?_
  refine zReg md0 hX rfl rfl rfl ?_
  refine rThen ?_
  refine rSeq ?_
  let x1 := (bif (bif (decide (((a2.getD 0 []).length : Int) ≤ 30000)) then (decide (((a2.getD 1 []).length : Int) ≤ 30000)) else false) then (decide (((a2.getD 2 []).length : Int) ≤ 30000)) else false)
  refine zReg md0 hX rfl rfl rfl ?_
  refine rThen ?_
  refine rRet ?_
  have hy := Option.some.inj hT; subst hy
  exact zEnd0 hX rfl
 ·
  cases h
def law38_light_b1 (N : Nat) (a11 : (List (List (Bool × (Int × Int))))) (s1 : Int) : Option (Int ⊕ (Unit ⊕ Unit)) :=
 bif (decide (s1 < 6)) then
  if (0 : Int) ≤ s1 ∧ s1 < 6 ∧ (s1).toNat < 6 then
   bif (decide ((100 : Int) < ((a11.getD (s1).toNat []).length : Int))) then
    some (.inr (Sum.inl ()))
   else
    if inK .i64 (s1 + 1) then
     some (.inl (s1 + 1))
    else none
  else none
 else
  some (.inr (Sum.inr ()))
def law38_light (N : Nat) (a1 : Int) (a2 : (List (List Int))) (a3 : Int) (a4 : (List (List Int))) (a5 : Int) (a6 : Bool) (a7 : Int) (a8 : Int) (a9 : (List Int)) (a10 : (List Int)) (a11 : (List (List (Bool × (Int × Int))))) : Option Bool :=
 (iter (law38_light_b1 N a11) N 0).bind fun w1 =>
  (Sum.elim (fun v1 =>
   some false
  )
   (fun v2 =>
    let c1 := (law17_Light N a1 a2)
    let c2 := (law34_Light N a3 a4)
    if c1.isSome = true ∧ ((c1.getD default) = true → c2.isSome = true) then
     some (bif (c1.getD default) then (c2.getD default) else false)
    else none
   )
  ) w1
def sp_law38_light (N : Nat) : X.Spec := fun args lk => match args with
 | [.v (.agg [.cs [.int .i64 a1], .fzs 3 (.int .u8) a2]), .v (.agg [.cs [.int .i64 a3], .fzs 3 (.int .i64) a4]), .v (.agg [.cs [.int .i64 a5, .bool a6, .int .i64 a7, .int .i64 a8], .ints 2 .i64 a9, .ints 6 .i64 a10, .fzs 6 (.pair .bool (.pair (.int .i64) (.int .i64))) a11])] => some ⟨(law38_light N a1 a2 a3 a4 a5 a6 a7 a8 a9 a10 a11).isSome = true, .v (.c (.bool ((law38_light N a1 a2 a3 a4 a5 a6 a7 a8 a9 a10 a11).getD default))), [], []⟩
 | _ => none
set_option maxRecDepth 100000 in
set_option maxHeartbeats 1000000 in
theorem ok_law38_light (N : Nat) : FnOK Tryd.prog gt0 46 (sp_law38_light N) := by
 refine fnOK_handed Tryd.func46 rfl (by kernel_rfl) tt_ok (ktCons (ok_law34_Light N) (ktCons (ok_law17_Light N) (ktNil))) ?_
 intro args lk r h hp
 unfold sp_law38_light at h
 split at h
 ·
  rename_i a1 a2 a3 a4 a5 a6 a7 a8 a9 a10 a11
  change (List (List Int)) at a2
  change (List (List Int)) at a4
  change (List Int) at a9
  change (List Int) at a10
  change (List (List (Bool × (Int × Int)))) at a11
  cases h
  obtain ⟨x, hx⟩ := Option.isSome_iff_exists.1 hp
  simp only [hx, Option.getD_some]
  refine hand0 rfl rfl (fun w0 M ε0 hX => ?_)
  refine rCount (fun hε => ?_)
  have hT : law38_light N a1 a2 a3 a4 a5 a6 a7 a8 a9 a10 a11 = some x := hx; clear hx hp; unfold law38_light at hT
  refine rSeq ?_
  refine zReg md0 hX rfl rfl rfl ?_
  refine rThen ?_
  refine rSeq ?_
  refine rSeq ?_
  refine zReg md0 hX rfl rfl rfl ?_
  refine rThen ?_
  refine rBlock ?_
  replace hT := sBind hT; obtain ⟨w1, hl, hT⟩ := hT
  refine rJoinA (fun v1 => (Sum.inl v1) = w1) (fun v1 => ⟨[(6, .v (.c (.bool false)))], [], 3⟩) .ret (fun v1 hv => ?_) (fun hxs10 => ?_)
  ·
   subst hv; clear hl; replace hT := (sElimL hT)
   refine rInRet ?_
   refine rThenRet ?_
   have hy := Option.some.inj hT; subst hy
   exact zEnd0 hX rfl
  refine rJoinA (fun v2 => (Sum.inr v2) = w1) (fun v2 => ⟨[(3, .v (.c (.ptr 0 0 0 0 0 0))), (4, .v (.c (.ptr 1 0 0 0 0 0))), (6, .v (.c (.bool false)))], [(0, .mem true 62 none (.flat [.cs [.int .i64 a1], .fzs 3 (.int .u8) a2])), (1, .mem true 76 none (.flat [.cs [.int .i64 a3], .fzs 3 (.int .i64) a4]))], 3⟩) (.exit 0) (fun v2 hv => ?_) (fun hxs11 => ?_)
  ·
   subst hv; clear hl; replace hT := (sElimR hT)
   refine rInHit ?_
   refine rThen ?_
   refine rSeq ?_
   let c1 := (law17_Light N a1 a2)
   let c2 := (law34_Light N a3 a4)
   replace hT := sIf hT; obtain ⟨⟨o1, o2⟩, hT⟩ := hT
   refine rRegC md0 hX rfl rfl rfl (by (repeat' first | exact True.intro | with_reducible assumption | (with_reducible apply And.intro) | intro _) <;> first | assumption | exact o2 (by assumption) | exact rfl | omega | exact Nat.le_of_ble_eq_true rfl | exact selF (by assumption) | exact selT (by assumption) | exact And.intro rfl rfl | exact And.intro (by assumption) rfl | exact And.intro (by omega) rfl | (simp only [inK] at *; omega) | (simp_all [sel] <;> fail) | fail) ?_
   refine rThen ?_
   refine rRet ?_
   have hy := Option.some.inj hT; subst hy
   exact zEnd0 hX rfl
  refine rLoopM (law38_light_b1 N a11) (fun s1 => ⟨[(3, .v (.c (.ptr 0 0 0 0 0 0))), (4, .v (.c (.ptr 1 0 0 0 0 0))), (5, .v (.c (.ptr 2 0 0 0 0 0))), (6, .v (.c (.bool false))), (7, .v (.c (.int .i64 s1)))], [(0, .mem true 62 none (.flat [.cs [.int .i64 a1], .fzs 3 (.int .u8) a2])), (1, .mem true 76 none (.flat [.cs [.int .i64 a3], .fzs 3 (.int .i64) a4])), (2, .mem true 37 none (.flat [.cs [.int .i64 a5, .bool a6, .int .i64 a7, .int .i64 a8], .ints 2 .i64 a9, .ints 6 .i64 a10, .fzs 6 (.pair .bool (.pair (.int .i64) (.int .i64))) a11]))], 3⟩) hl (To.mk' [] 0 hε rfl (by repeat' first | exact True.intro | exact rfl | apply And.intro) (by repeat' first | exact True.intro | exact rfl | apply And.intro)) (fun s1 zs1 NNs1 hz hnexts1 houts1 => ?_)
  clear hl hT
  have hT := hz; clear hz
  refine rSeq ?_
  refine rSeq ?_
  refine zReg md0 hX rfl rfl rfl ?_
  refine rThen ?_
  refine zCond rfl rfl (fun hc => ?_) (fun hc => ?_)
  ·
   replace hT := sT hc hT
   refine rSkip ?_
   refine rThen ?_
   refine rSeq ?_
   refine rBlock ?_
   refine rSeq ?_
   replace hT := sIf hT; obtain ⟨⟨o1, o2, o3⟩, hT⟩ := hT
   refine zReg md0 hX rfl rfl rfl ?_
   refine rThen ?_
   refine zCond rfl rfl (fun hc => ?_) (fun hc => ?_)
   ·
    replace hT := sT hc hT
    refine rSeq ?_
    refine zReg md0 hX rfl rfl rfl ?_
    refine rThen ?_
    refine rRet ?_
    refine rInRet ?_
    refine rThenRet ?_
    refine rThenRet ?_
    exact zTo [] 0 hε (hxs10 _ (houts1 _ (Option.some.inj hT).symm))
   ·
    replace hT := sF hc hT
    refine rSkip ?_
    refine rInNormal ?_
    refine rThen ?_
    replace hT := sIf hT; obtain ⟨o1, hT⟩ := hT
    refine zReg md0 hX rfl rfl rfl ?_
    exact hnexts1 _ (Option.some.inj hT).symm _ (To.mk' [] 0 hε rfl (by repeat' first | exact True.intro | exact rfl | apply And.intro) (by repeat' first | exact True.intro | exact rfl | apply And.intro))
  ·
   replace hT := sF hc hT
   refine rExit ?_
   refine rThenExit ?_
   refine rThenExit ?_
   exact zTo [] 0 hε (hxs11 _ (houts1 _ (Option.some.inj hT).symm))
 ·
  cases h
def slices_Equal_overspill_api_Event_overspill_api_Event_b1 (N : Nat) (a1 : (List (Bool × (Int × Int)))) (a2 : (List (Bool × (Int × Int)))) (s1 : Int) : Option (Int ⊕ (Unit ⊕ Unit)) :=
 bif (decide (s1 < (a1.length : Int))) then
  let x1 := (!(((a1.getD (s1).toNat (false, ((0 : Int), (0 : Int)))).1 == (a2.getD (s1).toNat (false, ((0 : Int), (0 : Int)))).1) && (decide ((a1.getD (s1).toNat (false, ((0 : Int), (0 : Int)))).2.1 = (a2.getD (s1).toNat (false, ((0 : Int), (0 : Int)))).2.1) && (decide ((a1.getD (s1).toNat (false, ((0 : Int), (0 : Int)))).2.2 = (a2.getD (s1).toNat (false, ((0 : Int), (0 : Int)))).2.2) && true))))
  if (0 : Int) ≤ s1 ∧ s1 < (a1.length : Int) ∧ s1 < (a2.length : Int) then
   bif x1 then
    some (.inr (Sum.inl ()))
   else
    if inK .i64 (s1 + 1) then
     some (.inl (s1 + 1))
    else none
  else none
 else
  some (.inr (Sum.inr ()))
def slices_Equal_overspill_api_Event_overspill_api_Event (N : Nat) (a1 : (List (Bool × (Int × Int)))) (a2 : (List (Bool × (Int × Int)))) : Option Bool :=
 bif (decide ((a1.length : Int) ≠ (a2.length : Int))) then
  some false
 else
  (iter (slices_Equal_overspill_api_Event_overspill_api_Event_b1 N a1 a2) N 0).bind fun w1 =>
   (Sum.elim (fun v1 =>
    some false
   )
    (fun v2 =>
     some true
    )
   ) w1
def sp_slices_Equal_overspill_api_Event_overspill_api_Event (N : Nat) : X.Spec := fun args lk => match args with
 | [.v (.c (.fz (.pair .bool (.pair (.int .i64) (.int .i64))) a1)), .v (.c (.fz (.pair .bool (.pair (.int .i64) (.int .i64))) a2))] => some ⟨(slices_Equal_overspill_api_Event_overspill_api_Event N a1 a2).isSome = true, .v (.c (.bool ((slices_Equal_overspill_api_Event_overspill_api_Event N a1 a2).getD default))), [], []⟩
 | _ => none
set_option maxRecDepth 100000 in
set_option maxHeartbeats 1000000 in
theorem ok_slices_Equal_overspill_api_Event_overspill_api_Event (N : Nat) : FnOK Tryd.prog gt0 100 (sp_slices_Equal_overspill_api_Event_overspill_api_Event N) := by
 refine fnOK_handed Tryd.func100 rfl (by kernel_rfl) tt_ok (ktNil) ?_
 intro args lk r h hp
 unfold sp_slices_Equal_overspill_api_Event_overspill_api_Event at h
 split at h
 ·
  rename_i a1 a2
  change (List (Bool × (Int × Int))) at a1
  change (List (Bool × (Int × Int))) at a2
  cases h
  obtain ⟨x, hx⟩ := Option.isSome_iff_exists.1 hp
  simp only [hx, Option.getD_some]
  refine hand0 rfl rfl (fun w0 M ε0 hX => ?_)
  refine rCount (fun hε => ?_)
  have hT : slices_Equal_overspill_api_Event_overspill_api_Event N a1 a2 = some x := hx; clear hx hp; unfold slices_Equal_overspill_api_Event_overspill_api_Event at hT
  refine rSeq ?_
  refine zReg md0 hX rfl rfl rfl ?_
  refine rThen ?_
  refine rSeq ?_
  refine rSeq ?_
  refine zReg md0 hX rfl rfl rfl ?_
  refine rThen ?_
  refine zCond rfl rfl (fun hc => ?_) (fun hc => ?_)
  ·
   replace hT := sT hc hT
   refine rSeq ?_
   refine zReg md0 hX rfl rfl rfl ?_
   refine rThen ?_
   refine rRet ?_
   refine rThenRet ?_
   have hy := Option.some.inj hT; subst hy
   exact zEnd0 hX rfl
  ·
   replace hT := sF hc hT
   refine rSkip ?_
   refine rThen ?_
   refine rSeq ?_
   refine rSeq ?_
   refine zReg md0 hX rfl rfl rfl ?_
   refine rThen ?_
   refine rBlock ?_
   replace hT := sBind hT; obtain ⟨w1, hl, hT⟩ := hT
   refine rJoinA (fun v1 => (Sum.inl v1) = w1) (fun v1 => ⟨[(4, .v (.c (.bool false)))], [], 0⟩) .ret (fun v1 hv => ?_) (fun hxs10 => ?_)
   ·
    subst hv; clear hl; replace hT := (sElimL hT)
    refine rInRet ?_
    refine rThenRet ?_
    have hy := Option.some.inj hT; subst hy
    exact zEnd0 hX rfl
   refine rJoinA (fun v2 => (Sum.inr v2) = w1) (fun v2 => ⟨[(4, .v (.c (.bool false)))], [], 0⟩) (.exit 0) (fun v2 hv => ?_) (fun hxs11 => ?_)
   ·
    subst hv; clear hl; replace hT := (sElimR hT)
    refine rInHit ?_
    refine rThen ?_
    refine rSeq ?_
    refine zReg md0 hX rfl rfl rfl ?_
    refine rThen ?_
    refine rRet ?_
    have hy := Option.some.inj hT; subst hy
    exact zEnd0 hX rfl
   refine rLoopM (slices_Equal_overspill_api_Event_overspill_api_Event_b1 N a1 a2) (fun s1 => ⟨[(0, .v (.c (.fz (.pair .bool (.pair (.int .i64) (.int .i64))) a1))), (1, .v (.c (.fz (.pair .bool (.pair (.int .i64) (.int .i64))) a2))), (4, .v (.c (.bool false))), (12, .v (.c (.int .i64 (a1.length : Int)))), (13, .v (.c (.int .i64 s1)))], [], 0⟩) hl (To.mk' [] 0 hε rfl (by repeat' first | exact True.intro | exact rfl | apply And.intro) (by repeat' first | exact True.intro | exact rfl | apply And.intro)) (fun s1 zs1 NNs1 hz hnexts1 houts1 => ?_)
   clear hl hT
   have hT := hz; clear hz
   refine rSeq ?_
   refine zReg md0 hX rfl rfl rfl ?_
   refine rThen ?_
   refine rSeq ?_
   refine zCond rfl rfl (fun hc => ?_) (fun hc => ?_)
   ·
    replace hT := sT hc hT
    refine rSkip ?_
    refine rThen ?_
    refine rSeq ?_
    refine rBlock ?_
    refine rSeq ?_
    refine zReg md0 hX rfl rfl rfl ?_
    refine rThen ?_
    refine rSeq ?_
    let x1 := (!(((a1.getD (s1).toNat (false, ((0 : Int), (0 : Int)))).1 == (a2.getD (s1).toNat (false, ((0 : Int), (0 : Int)))).1) && (decide ((a1.getD (s1).toNat (false, ((0 : Int), (0 : Int)))).2.1 = (a2.getD (s1).toNat (false, ((0 : Int), (0 : Int)))).2.1) && (decide ((a1.getD (s1).toNat (false, ((0 : Int), (0 : Int)))).2.2 = (a2.getD (s1).toNat (false, ((0 : Int), (0 : Int)))).2.2) && true))))
    replace hT := sIf hT; obtain ⟨⟨o1, o2, o3⟩, hT⟩ := hT
    refine zDraw md0 0 [] hX mixed rfl rfl rfl rfl rfl ?_
    refine rThen ?_
    refine zCond rfl rfl (fun hc => ?_) (fun hc => ?_)
    ·
     replace hT := sT hc hT
     refine rSeq ?_
     refine zReg md0 hX rfl rfl rfl ?_
     refine rThen ?_
     refine rRet ?_
     refine rInRet ?_
     refine rThenRet ?_
     refine rThenRet ?_
     exact zTo [] 0 hε (hxs10 _ (houts1 _ (Option.some.inj hT).symm))
    ·
     replace hT := sF hc hT
     refine rSkip ?_
     refine rInNormal ?_
     refine rThen ?_
     replace hT := sIf hT; obtain ⟨o1, hT⟩ := hT
     refine zReg md0 hX rfl rfl rfl ?_
     exact hnexts1 _ (Option.some.inj hT).symm _ (To.mk' [] 0 hε rfl (by repeat' first | exact True.intro | exact rfl | apply And.intro) (by repeat' first | exact True.intro | exact rfl | apply And.intro))
   ·
    replace hT := sF hc hT
    refine rExit ?_
    refine rThenExit ?_
    refine rThenExit ?_
    exact zTo [] 0 hε (hxs11 _ (houts1 _ (Option.some.inj hT).symm))
 ·
  cases h
def cellin_Same_b1 (N : Nat) (a7 : (List (List (Bool × (Int × Int))))) (a14 : (List (List (Bool × (Int × Int))))) (s1 : (Bool × Int)) : Option ((Bool × Int) ⊕ Bool) :=
 bif (decide (s1.2 < 6)) then
  let c1 := (slices_Equal_overspill_api_Event_overspill_api_Event N (a7.getD (s1.2).toNat []) (a14.getD (s1.2).toNat []))
  if (s1.1 = true → (0 : Int) ≤ s1.2) ∧ (s1.1 = true → s1.2 < 6) ∧ (s1.1 = true → (s1.2).toNat < 6) ∧ (s1.1 = true → c1.isSome = true) then
   if inK .i64 (s1.2 + 1) then
    some (.inl ((bif s1.1 then (c1.getD default) else false), (s1.2 + 1)))
   else none
  else none
 else
  some (.inr s1.1)
def cellin_Same (N : Nat) (a1 : Int) (a2 : Bool) (a3 : Int) (a4 : Int) (a5 : (List Int)) (a6 : (List Int)) (a7 : (List (List (Bool × (Int × Int))))) (a8 : Int) (a9 : Bool) (a10 : Int) (a11 : Int) (a12 : (List Int)) (a13 : (List Int)) (a14 : (List (List (Bool × (Int × Int))))) : Option Bool :=
 let x4 := (bif (bif (bif (bif (bif (decide (a1 = a8)) then (a2 == a9) else false) then (decide (a3 = a10)) else false) then (decide (a4 = a11)) else false) then (decide (a5 = a12)) else false) then (decide (a6 = a13)) else false)
 (iter (cellin_Same_b1 N a7 a14) N (x4, 0)).bind fun v1 =>
  some v1
def sp_cellin_Same (N : Nat) : X.Spec := fun args lk => match args with
 | [.v (.agg [.cs [.int .i64 a1, .bool a2, .int .i64 a3, .int .i64 a4], .ints 2 .i64 a5, .ints 6 .i64 a6, .fzs 6 (.pair .bool (.pair (.int .i64) (.int .i64))) a7]), .v (.agg [.cs [.int .i64 a8, .bool a9, .int .i64 a10, .int .i64 a11], .ints 2 .i64 a12, .ints 6 .i64 a13, .fzs 6 (.pair .bool (.pair (.int .i64) (.int .i64))) a14])] => some ⟨(cellin_Same N a1 a2 a3 a4 a5 a6 a7 a8 a9 a10 a11 a12 a13 a14).isSome = true, .v (.c (.bool ((cellin_Same N a1 a2 a3 a4 a5 a6 a7 a8 a9 a10 a11 a12 a13 a14).getD default))), [], []⟩
 | _ => none
set_option maxRecDepth 100000 in
set_option maxHeartbeats 1000000 in
theorem ok_cellin_Same (N : Nat) : FnOK Tryd.prog gt0 48 (sp_cellin_Same N) := by
 refine fnOK_handed Tryd.func48 rfl (by kernel_rfl) tt_ok (ktCons (ok_slices_Equal_overspill_api_Event_overspill_api_Event N) (ktNil)) ?_
 intro args lk r h hp
 unfold sp_cellin_Same at h
 split at h
 ·
  rename_i a1 a2 a3 a4 a5 a6 a7 a8 a9 a10 a11 a12 a13 a14
  change (List Int) at a5
  change (List Int) at a6
  change (List (List (Bool × (Int × Int)))) at a7
  change (List Int) at a12
  change (List Int) at a13
  change (List (List (Bool × (Int × Int)))) at a14
  cases h
  obtain ⟨x, hx⟩ := Option.isSome_iff_exists.1 hp
  simp only [hx, Option.getD_some]
  refine hand0 rfl rfl (fun w0 M ε0 hX => ?_)
  refine rCount (fun hε => ?_)
  have hT : cellin_Same N a1 a2 a3 a4 a5 a6 a7 a8 a9 a10 a11 a12 a13 a14 = some x := hx; clear hx hp; unfold cellin_Same at hT
  refine rSeq ?_
  refine zReg md0 hX rfl rfl rfl ?_
  refine rThen ?_
  refine rSeq ?_
  let x4 := (bif (bif (bif (bif (bif (decide (a1 = a8)) then (a2 == a9) else false) then (decide (a3 = a10)) else false) then (decide (a4 = a11)) else false) then (decide (a5 = a12)) else false) then (decide (a6 = a13)) else false)
  refine zReg md0 hX rfl rfl rfl ?_
  refine rThen ?_
  refine rSeq ?_
  refine rSeq ?_
  refine zReg md0 hX rfl rfl rfl ?_
  refine rThen ?_
  refine rBlock ?_
  replace hT := sBind hT; obtain ⟨w1, hl, hT⟩ := hT
  refine rJoinA (fun v1 => v1 = w1) (fun v1 => ⟨[(4, .v (.c (.bool false))), (5, .v (.c (.bool v1)))], [], 2⟩) (.exit 0) (fun v1 hv => ?_) (fun hxs10 => ?_)
  ·
   subst hv; clear hl
   refine rInHit ?_
   refine rThen ?_
   refine rSeq ?_
   refine zReg md0 hX rfl rfl rfl ?_
   refine rThen ?_
   refine rRet ?_
   have hy := Option.some.inj hT; subst hy
   exact zEnd0 hX rfl
  refine rLoopM (cellin_Same_b1 N a7 a14) (fun s1 => ⟨[(2, .v (.c (.ptr 0 0 0 0 0 0))), (3, .v (.c (.ptr 1 0 0 0 0 0))), (4, .v (.c (.bool false))), (5, .v (.c (.bool s1.1))), (47, .v (.c (.int .i64 s1.2)))], [(0, .mem true 37 none (.flat [.cs [.int .i64 a1, .bool a2, .int .i64 a3, .int .i64 a4], .ints 2 .i64 a5, .ints 6 .i64 a6, .fzs 6 (.pair .bool (.pair (.int .i64) (.int .i64))) a7])), (1, .mem true 37 none (.flat [.cs [.int .i64 a8, .bool a9, .int .i64 a10, .int .i64 a11], .ints 2 .i64 a12, .ints 6 .i64 a13, .fzs 6 (.pair .bool (.pair (.int .i64) (.int .i64))) a14]))], 2⟩) hl (To.mk' [] 0 hε rfl (by repeat' first | exact True.intro | exact rfl | apply And.intro) (by repeat' first | exact True.intro | exact rfl | apply And.intro)) (fun s1 zs1 NNs1 hz hnexts1 houts1 => ?_)
  clear hl hT
  have hT := hz; clear hz
  refine rSeq ?_
  refine zReg md0 hX rfl rfl rfl ?_
  refine rThen ?_
  refine rSeq ?_
  refine zCond rfl rfl (fun hc => ?_) (fun hc => ?_)
  ·
   replace hT := sT hc hT
   refine rSkip ?_
   refine rThen ?_
   refine rSeq ?_
   refine rBlock ?_
   refine rSeq ?_
   refine zReg md0 hX rfl rfl rfl ?_
   refine rThen ?_
   let c1 := (slices_Equal_overspill_api_Event_overspill_api_Event N (a7.getD (s1.2).toNat []) (a14.getD (s1.2).toNat []))
   replace hT := sIf hT; obtain ⟨⟨o1, o2, o3, o4⟩, hT⟩ := hT
   refine rDrawM md0 1 [12] hX mixed rfl rfl rfl rfl rfl (by (repeat' first | exact True.intro | with_reducible assumption | (with_reducible apply And.intro) | intro _) <;> first | assumption | exact o1 (by assumption) | exact o2 (by assumption) | exact o3 (by assumption) | exact o4 (by assumption) | exact rfl | omega | exact Nat.le_of_ble_eq_true rfl | exact selF (by assumption) | exact selT (by assumption) | exact And.intro rfl rfl | exact And.intro (by assumption) rfl | exact And.intro (by omega) rfl | (simp only [inK] at *; omega) | (simp_all [sel] <;> fail) | fail) ?_
   refine rInNormal ?_
   refine rThen ?_
   replace hT := sIf hT; obtain ⟨o1, hT⟩ := hT
   refine zReg md0 hX rfl rfl rfl ?_
   exact hnexts1 _ (Option.some.inj hT).symm _ (To.mk' [] 0 hε rfl (by repeat' first | exact True.intro | exact rfl | apply And.intro) (by repeat' first | exact True.intro | exact rfl | apply And.intro))
  ·
   replace hT := sF hc hT
   refine rExit ?_
   refine rThenExit ?_
   refine rThenExit ?_
   exact zTo [] 0 hε (hxs10 _ (houts1 _ (Option.some.inj hT).symm))
 ·
  cases h
def law38_CellxStays_b1 (N : Nat) (a9 : (List (List (Bool × (Int × Int))))) (s1 : (Bool × Int)) : Option ((Bool × Int) ⊕ Bool) :=
 bif (decide (s1.2 < 6)) then
  if (s1.1 = true → (0 : Int) ≤ s1.2) ∧ (s1.1 = true → s1.2 < 6) ∧ (s1.1 = true → (s1.2).toNat < 6) then
   if inK .i64 (s1.2 + 1) then
    some (.inl ((bif s1.1 then (decide (((a9.getD (s1.2).toNat []).length : Int) = 0)) else false), (s1.2 + 1)))
   else none
  else none
 else
  some (.inr s1.1)
def law38_CellxStays (N : Nat) (a1 : Int) (a2 : (List (List Int))) (a3 : Int) (a4 : Bool) (a5 : Int) (a6 : Int) (a7 : (List Int)) (a8 : (List Int)) (a9 : (List (List (Bool × (Int × Int))))) (a10 : (List Int)) : Option Bool :=
 bif (bif (decide ((3 : Int) ≤ a1)) then (decide (a1 ≤ 5)) else false) then
  let c1 := (law38_lives N)
  if c1.isSome = true then
   some (c1.getD default)
  else none
 else
  let c2 := (stores_New N a1)
  if c2.isSome = true then
   let c3 := (law38_light N a1 a2 (c2.getD default).1 (c2.getD default).2.1 a3 a4 a5 a6 a7 a8 a9)
   if ((!(decide ((c2.getD default).2.2 ≠ 0))) = true → c3.isSome = true) then
    bif (bif (decide ((c2.getD default).2.2 ≠ 0)) then true else (!(c3.getD default))) then
     let c4 := (law38_lives N)
     if c4.isSome = true then
      some (c4.getD default)
     else none
    else
     let c5 := (cellx_Make N a1 a2 (c2.getD default).1 (c2.getD default).2.1 (a10.getD 0 0) a3 a4 a5 a6 a7 a8 a9 (a10.getD 1 0) (a10.getD 1 0) 0)
     if c5.isSome = true then
      bif (decide ((c5.getD default).2.2.2.2.2.2.2 ≠ 0)) then
       let c6 := (cellin_Same N (c5.getD default).1 (c5.getD default).2.1 (c5.getD default).2.2.1 (c5.getD default).2.2.2.1 (c5.getD default).2.2.2.2.1 (c5.getD default).2.2.2.2.2.1 (c5.getD default).2.2.2.2.2.2.1 0 false 0 0 (List.replicate 2 0) (List.replicate 6 0) (List.replicate 6 []))
       let c7 := (law38_lives N)
       if c6.isSome = true ∧ ((c6.getD default) = true → c7.isSome = true) then
        some (bif (c6.getD default) then (c7.getD default) else false)
       else none
      else
       (iter (law38_CellxStays_b1 N a9) N ((bif (decide (a5 = 0)) then true else (decide (a5 = 1))), 0)).bind fun v1 =>
        if ((bif (decide (a5 = 1)) then true else (decide (a5 = 4))) = true → inK .i64 (a5 - 1)) then
         let x1 := (bif (bif v1 then (decide ((a7.getD 0 0) = 0)) else false) then (decide ((a7.getD 1 0) = 0)) else false)
         let x2 := (bif x1 then 0 else (bif (bif (decide (a5 = 1)) then true else (decide (a5 = 4))) then (a5 - 1) else a5))
         let c8 := (cellin_Same N (c5.getD default).1 (c5.getD default).2.1 (c5.getD default).2.2.1 (c5.getD default).2.2.2.1 (c5.getD default).2.2.2.2.1 (c5.getD default).2.2.2.2.2.1 (c5.getD default).2.2.2.2.2.2.1 0 (bif x1 then true else a4) x2 0 (bif x1 then (List.replicate 2 0) else a7) (bif x1 then (List.replicate 6 0) else a8) (bif x1 then (List.replicate 6 []) else a9))
         let c9 := (law38_lives N)
         if c8.isSome = true ∧ ((c8.getD default) = true → c9.isSome = true) then
          some (bif (c8.getD default) then (c9.getD default) else false)
         else none
        else none
     else none
   else none
  else none
def sp_law38_CellxStays (N : Nat) : X.Spec := fun args lk => match args with
 | [.v (.agg [.cs [.int .i64 a1], .fzs 3 (.int .u8) a2]), .v (.agg [.cs [.int .i64 a3, .bool a4, .int .i64 a5, .int .i64 a6], .ints 2 .i64 a7, .ints 6 .i64 a8, .fzs 6 (.pair .bool (.pair (.int .i64) (.int .i64))) a9]), .v (.agg [.ints 2 .i64 a10])] => some ⟨(law38_CellxStays N a1 a2 a3 a4 a5 a6 a7 a8 a9 a10).isSome = true, .v (.c (.bool ((law38_CellxStays N a1 a2 a3 a4 a5 a6 a7 a8 a9 a10).getD default))), [], []⟩
 | _ => none
set_option maxRecDepth 100000 in
set_option maxHeartbeats 1000000 in
theorem ok_law38_CellxStays (N : Nat) : FnOK Tryd.prog gt0 12 (sp_law38_CellxStays N) := by
 refine fnOK_handed Tryd.func12 rfl (by kernel_rfl) tt_ok (ktCons (ok_cellin_Same N) (ktCons (ok_cellx_Make N) (ktCons (ok_law38_light N) (ktCons (ok_stores_New N) (ktCons (ok_law38_lives N) (ktNil)))))) ?_
 intro args lk r h hp
 unfold sp_law38_CellxStays at h
 split at h
 ·
  rename_i a1 a2 a3 a4 a5 a6 a7 a8 a9 a10
  change (List (List Int)) at a2
  change (List Int) at a7
  change (List Int) at a8
  change (List (List (Bool × (Int × Int)))) at a9
  change (List Int) at a10
  cases h
  obtain ⟨x, hx⟩ := Option.isSome_iff_exists.1 hp
  simp only [hx, Option.getD_some]
  refine hand0 rfl rfl (fun w0 M ε0 hX => ?_)
  refine rCount (fun hε => ?_)
  have hT : law38_CellxStays N a1 a2 a3 a4 a5 a6 a7 a8 a9 a10 = some x := hx; clear hx hp; unfold law38_CellxStays at hT
  refine rSeq ?_
  refine zReg md0 hX rfl rfl rfl ?_
  refine rThen ?_
  refine rSeq ?_
  refine rSeq ?_
  refine zReg md0 hX rfl rfl rfl ?_
  refine rThen ?_
  refine zCond rfl rfl (fun hc => ?_) (fun hc => ?_)
  ·
   replace hT := sT hc hT
   refine rSeq ?_
   let c1 := (law38_lives N)
   replace hT := sIf hT; obtain ⟨o1, hT⟩ := hT
   refine zReg md0 hX rfl rfl rfl ?_
   refine rThen ?_
   refine rRet ?_
   refine rThenRet ?_
   have hy := Option.some.inj hT; subst hy
   exact zEnd0 hX rfl
  ·
   replace hT := sF hc hT
   refine rSkip ?_
   refine rThen ?_
   refine rSeq ?_
   let c2 := (stores_New N a1)
   replace hT := sIf hT; obtain ⟨o1, hT⟩ := hT
   refine zReg md0 hX rfl rfl rfl ?_
   refine rThen ?_
   refine rSeq ?_
   refine rSeq ?_
   let c3 := (law38_light N a1 a2 (c2.getD default).1 (c2.getD default).2.1 a3 a4 a5 a6 a7 a8 a9)
   replace hT := sIf hT; obtain ⟨o1, hT⟩ := hT
   refine rRegC md0 hX rfl rfl rfl (by (repeat' first | exact True.intro | with_reducible assumption | (with_reducible apply And.intro) | intro _) <;> first | assumption | exact o1 (by assumption) | exact rfl | omega | exact Nat.le_of_ble_eq_true rfl | exact selF (by assumption) | exact selT (by assumption) | exact And.intro rfl rfl | exact And.intro (by assumption) rfl | exact And.intro (by omega) rfl | (simp only [inK] at *; omega) | (simp_all [sel] <;> fail) | fail) ?_
   refine rThen ?_
   refine zCond rfl rfl (fun hc => ?_) (fun hc => ?_)
   ·
    replace hT := sT hc hT
    refine rSeq ?_
    let c4 := (law38_lives N)
    replace hT := sIf hT; obtain ⟨o1, hT⟩ := hT
    refine zReg md0 hX rfl rfl rfl ?_
    refine rThen ?_
    refine rRet ?_
    refine rThenRet ?_
    have hy := Option.some.inj hT; subst hy
    exact zEnd0 hX rfl
   ·
    replace hT := sF hc hT
    refine rSkip ?_
    refine rThen ?_
    refine rSeq ?_
    let c5 := (cellx_Make N a1 a2 (c2.getD default).1 (c2.getD default).2.1 (a10.getD 0 0) a3 a4 a5 a6 a7 a8 a9 (a10.getD 1 0) (a10.getD 1 0) 0)
    replace hT := sIf hT; obtain ⟨o1, hT⟩ := hT
    refine zReg md0 hX rfl rfl rfl ?_
    refine rThen ?_
    refine rSeq ?_
    refine rSeq ?_
    refine zReg md0 hX rfl rfl rfl ?_
    refine rThen ?_
    refine zCond rfl rfl (fun hc => ?_) (fun hc => ?_)
    ·
     replace hT := sT hc hT
     refine rSeq ?_
     let c6 := (cellin_Same N (c5.getD default).1 (c5.getD default).2.1 (c5.getD default).2.2.1 (c5.getD default).2.2.2.1 (c5.getD default).2.2.2.2.1 (c5.getD default).2.2.2.2.2.1 (c5.getD default).2.2.2.2.2.2.1 0 false 0 0 (List.replicate 2 0) (List.replicate 6 0) (List.replicate 6 []))
     let c7 := (law38_lives N)
     replace hT := sIf hT; obtain ⟨⟨o1, o2⟩, hT⟩ := hT
     refine rRegC md0 hX rfl rfl rfl (by (repeat' first | exact True.intro | with_reducible assumption | (with_reducible apply And.intro) | intro _) <;> first | assumption | exact o2 (by assumption) | exact rfl | omega | exact Nat.le_of_ble_eq_true rfl | exact selF (by assumption) | exact selT (by assumption) | exact And.intro rfl rfl | exact And.intro (by assumption) rfl | exact And.intro (by omega) rfl | (simp only [inK] at *; omega) | (simp_all [sel] <;> fail) | fail) ?_
     refine rThen ?_
     refine rRet ?_
     refine rThenRet ?_
     have hy := Option.some.inj hT; subst hy
     exact zEnd0 hX rfl
    ·
     replace hT := sF hc hT
     refine rSkip ?_
     refine rThen ?_
     refine rSeq ?_
     refine zReg md0 hX rfl rfl rfl ?_
     refine rThen ?_
     refine rSeq ?_
     refine rSeq ?_
     refine zReg md0 hX rfl rfl rfl ?_
     refine rThen ?_
     refine rBlock ?_
     replace hT := sBind hT; obtain ⟨w1, hl, hT⟩ := hT
     refine rJoinA (fun v1 => v1 = w1) (fun v1 => ⟨[(4, .v (.c (.ptr 1 0 0 0 0 0))), (6, .v (.c (.bool false))), (9, .v (.c (.ptr 4 0 0 0 0 0))), (11, .v (.c (.bool v1)))], [(1, .mem true 37 none (.flat [.cs [.int .i64 a3, .bool a4, .int .i64 a5, .int .i64 a6], .ints 2 .i64 a7, .ints 6 .i64 a8, .fzs 6 (.pair .bool (.pair (.int .i64) (.int .i64))) a9])), (4, .mem true 37 none (.flat [.cs [.int .i64 (c5.getD default).1, .bool (c5.getD default).2.1, .int .i64 (c5.getD default).2.2.1, .int .i64 (c5.getD default).2.2.2.1], .ints 2 .i64 (c5.getD default).2.2.2.2.1, .ints 6 .i64 (c5.getD default).2.2.2.2.2.1, .fzs 6 (.pair .bool (.pair (.int .i64) (.int .i64))) (c5.getD default).2.2.2.2.2.2.1]))], 5⟩) (.exit 0) (fun v1 hv => ?_) (fun hxs10 => ?_)
     ·
      subst hv; clear hl
      refine rInHit ?_
      refine rThen ?_
      refine rSeq ?_
      refine zReg md0 hX rfl rfl rfl ?_
      refine rThen ?_
      refine rSeq ?_
      refine zReg md0 hX rfl rfl rfl ?_
      refine rThen ?_
      refine rSeq ?_
      refine rSeq ?_
      refine zReg md0 hX rfl rfl rfl ?_
      refine rThen ?_
      replace hT := sIf hT; obtain ⟨q1, hT⟩ := hT
      refine rJoin ⟨[(4, .v (.c (.ptr 1 0 0 0 0 0))), (6, .v (.c (.bool false))), (9, .v (.c (.ptr 4 0 0 0 0 0))), (11, .v (.c (.bool v1)))], [(1, .mem true 37 none (.flat [.cs [.int .i64 0, .bool a4, .int .i64 (bif (bif (decide (a5 = 1)) then true else (decide (a5 = 4))) then (a5 - 1) else a5), .int .i64 0], .ints 2 .i64 a7, .ints 6 .i64 a8, .fzs 6 (.pair .bool (.pair (.int .i64) (.int .i64))) a9])), (4, .mem true 37 none (.flat [.cs [.int .i64 (c5.getD default).1, .bool (c5.getD default).2.1, .int .i64 (c5.getD default).2.2.1, .int .i64 (c5.getD default).2.2.2.1], .ints 2 .i64 (c5.getD default).2.2.2.2.1, .ints 6 .i64 (c5.getD default).2.2.2.2.2.1, .fzs 6 (.pair .bool (.pair (.int .i64) (.int .i64))) (c5.getD default).2.2.2.2.2.2.1]))], 5⟩ ?_ (fun hj => ?_)
      ·
       refine rThen ?_
       refine rSeq ?_
       refine rSeq ?_
       let x1 := (bif (bif v1 then (decide ((a7.getD 0 0) = 0)) else false) then (decide ((a7.getD 1 0) = 0)) else false)
       refine zReg md0 hX rfl rfl rfl ?_
       refine rThen ?_
       refine rJoin ⟨[(4, .v (.c (.ptr 1 0 0 0 0 0))), (6, .v (.c (.bool false))), (9, .v (.c (.ptr 4 0 0 0 0 0)))], [(1, .mem true 37 none (.flat [.cs [.int .i64 0, .bool (bif x1 then true else a4), .int .i64 (bif x1 then 0 else (bif (bif (decide (a5 = 1)) then true else (decide (a5 = 4))) then (a5 - 1) else a5)), .int .i64 0], .ints 2 .i64 (bif x1 then (List.replicate 2 0) else a7), .ints 6 .i64 (bif x1 then (List.replicate 6 0) else a8), .fzs 6 (.pair .bool (.pair (.int .i64) (.int .i64))) (bif x1 then (List.replicate 6 []) else a9)])), (4, .mem true 37 none (.flat [.cs [.int .i64 (c5.getD default).1, .bool (c5.getD default).2.1, .int .i64 (c5.getD default).2.2.1, .int .i64 (c5.getD default).2.2.2.1], .ints 2 .i64 (c5.getD default).2.2.2.2.1, .ints 6 .i64 (c5.getD default).2.2.2.2.2.1, .fzs 6 (.pair .bool (.pair (.int .i64) (.int .i64))) (c5.getD default).2.2.2.2.2.2.1]))], 5⟩ ?_ (fun hj => ?_)
       ·
        let x2 := (bif x1 then 0 else (bif (bif (decide (a5 = 1)) then true else (decide (a5 = 4))) then (a5 - 1) else a5))
        refine rThen ?_
        refine rSeq ?_
        let c8 := (cellin_Same N (c5.getD default).1 (c5.getD default).2.1 (c5.getD default).2.2.1 (c5.getD default).2.2.2.1 (c5.getD default).2.2.2.2.1 (c5.getD default).2.2.2.2.2.1 (c5.getD default).2.2.2.2.2.2.1 0 (bif x1 then true else a4) x2 0 (bif x1 then (List.replicate 2 0) else a7) (bif x1 then (List.replicate 6 0) else a8) (bif x1 then (List.replicate 6 []) else a9))
        let c9 := (law38_lives N)
        replace hT := sIf hT; obtain ⟨⟨o1, o2⟩, hT⟩ := hT
        refine rRegC md0 hX rfl rfl rfl (by (repeat' first | exact True.intro | with_reducible assumption | (with_reducible apply And.intro) | intro _) <;> first | assumption | exact o2 (by assumption) | exact rfl | omega | exact Nat.le_of_ble_eq_true rfl | exact selF (by assumption) | exact selT (by assumption) | exact And.intro rfl rfl | exact And.intro (by assumption) rfl | exact And.intro (by omega) rfl | (simp only [inK] at *; omega) | (simp_all [sel] <;> fail) | fail) ?_
        refine rThen ?_
        refine rRet ?_
        have hy := Option.some.inj hT; subst hy
        exact zEnd0 hX rfl
       ·
        clear hT
        refine zCond rfl rfl (fun hc => ?_) (fun hc => ?_)
        ·
         refine zReg md0 hX rfl rfl rfl ?_
         exact rTo (To.mk' [] 0 hε rfl (by (repeat' first | exact True.intro | exact rfl | apply And.intro) <;> (repeat' first | exact rfl | refine Eq.trans ?_ (cTr (by assumption)) | refine Eq.trans ?_ (cFr (by assumption)) | refine Eq.trans (cTl (by assumption)) ?_ | refine Eq.trans (cFl (by assumption)) ?_)) (by (repeat' first | exact True.intro | exact rfl | apply And.intro) <;> (repeat' first | exact rfl | refine Eq.trans ?_ (cTr (by assumption)) | refine Eq.trans ?_ (cFr (by assumption)) | refine Eq.trans (cTl (by assumption)) ?_ | refine Eq.trans (cFl (by assumption)) ?_))) hj
        ·
         refine rSkip ?_
         exact rTo (To.mk' [] 0 hε rfl (by (repeat' first | exact True.intro | exact rfl | apply And.intro) <;> (repeat' first | exact rfl | refine Eq.trans ?_ (cTr (by assumption)) | refine Eq.trans ?_ (cFr (by assumption)) | refine Eq.trans (cTl (by assumption)) ?_ | refine Eq.trans (cFl (by assumption)) ?_)) (by (repeat' first | exact True.intro | exact rfl | apply And.intro) <;> (repeat' first | exact rfl | refine Eq.trans ?_ (cTr (by assumption)) | refine Eq.trans ?_ (cFr (by assumption)) | refine Eq.trans (cTl (by assumption)) ?_ | refine Eq.trans (cFl (by assumption)) ?_))) hj
      ·
       clear hT
       refine zCond rfl rfl (fun hc => ?_) (fun hc => ?_)
       ·
        have q1 := q1 hc
        refine zReg md0 hX rfl rfl rfl ?_
        exact rTo (To.mk' [] 0 hε rfl (by (repeat' first | exact True.intro | exact rfl | apply And.intro) <;> (repeat' first | exact rfl | refine Eq.trans ?_ (cTr (by assumption)) | refine Eq.trans ?_ (cFr (by assumption)) | refine Eq.trans (cTl (by assumption)) ?_ | refine Eq.trans (cFl (by assumption)) ?_)) (by (repeat' first | exact True.intro | exact rfl | apply And.intro) <;> (repeat' first | exact rfl | refine Eq.trans ?_ (cTr (by assumption)) | refine Eq.trans ?_ (cFr (by assumption)) | refine Eq.trans (cTl (by assumption)) ?_ | refine Eq.trans (cFl (by assumption)) ?_))) hj
       ·
        refine rSkip ?_
        exact rTo (To.mk' [] 0 hε rfl (by (repeat' first | exact True.intro | exact rfl | apply And.intro) <;> (repeat' first | exact rfl | refine Eq.trans ?_ (cTr (by assumption)) | refine Eq.trans ?_ (cFr (by assumption)) | refine Eq.trans (cTl (by assumption)) ?_ | refine Eq.trans (cFl (by assumption)) ?_)) (by (repeat' first | exact True.intro | exact rfl | apply And.intro) <;> (repeat' first | exact rfl | refine Eq.trans ?_ (cTr (by assumption)) | refine Eq.trans ?_ (cFr (by assumption)) | refine Eq.trans (cTl (by assumption)) ?_ | refine Eq.trans (cFl (by assumption)) ?_))) hj
     refine rLoopM (law38_CellxStays_b1 N a9) (fun s1 => ⟨[(4, .v (.c (.ptr 1 0 0 0 0 0))), (6, .v (.c (.bool false))), (9, .v (.c (.ptr 4 0 0 0 0 0))), (11, .v (.c (.bool s1.1))), (12, .v (.c (.int .i64 s1.2)))], [(1, .mem true 37 none (.flat [.cs [.int .i64 a3, .bool a4, .int .i64 a5, .int .i64 a6], .ints 2 .i64 a7, .ints 6 .i64 a8, .fzs 6 (.pair .bool (.pair (.int .i64) (.int .i64))) a9])), (4, .mem true 37 none (.flat [.cs [.int .i64 (c5.getD default).1, .bool (c5.getD default).2.1, .int .i64 (c5.getD default).2.2.1, .int .i64 (c5.getD default).2.2.2.1], .ints 2 .i64 (c5.getD default).2.2.2.2.1, .ints 6 .i64 (c5.getD default).2.2.2.2.2.1, .fzs 6 (.pair .bool (.pair (.int .i64) (.int .i64))) (c5.getD default).2.2.2.2.2.2.1]))], 5⟩) hl (To.mk' [] 0 hε rfl (by repeat' first | exact True.intro | exact rfl | apply And.intro) (by repeat' first | exact True.intro | exact rfl | apply And.intro)) (fun s1 zs1 NNs1 hz hnexts1 houts1 => ?_)
     clear hl hT
     have hT := hz; clear hz
     refine rSeq ?_
     refine rSeq ?_
     refine zReg md0 hX rfl rfl rfl ?_
     refine rThen ?_
     refine zCond rfl rfl (fun hc => ?_) (fun hc => ?_)
     ·
      replace hT := sT hc hT
      refine rSkip ?_
      refine rThen ?_
      refine rSeq ?_
      refine rBlock ?_
      replace hT := sIf hT; obtain ⟨⟨o1, o2, o3⟩, hT⟩ := hT
      refine rRegC md0 hX rfl rfl rfl (by (repeat' first | exact True.intro | with_reducible assumption | (with_reducible apply And.intro) | intro _) <;> first | assumption | exact o1 (by assumption) | exact o2 (by assumption) | exact o3 (by assumption) | exact rfl | omega | exact Nat.le_of_ble_eq_true rfl | exact selF (by assumption) | exact selT (by assumption) | exact And.intro rfl rfl | exact And.intro (by assumption) rfl | exact And.intro (by omega) rfl | (simp only [inK] at *; omega) | (simp_all [sel] <;> fail) | fail) ?_
      refine rInNormal ?_
      refine rThen ?_
      replace hT := sIf hT; obtain ⟨o1, hT⟩ := hT
      refine zReg md0 hX rfl rfl rfl ?_
      exact hnexts1 _ (Option.some.inj hT).symm _ (To.mk' [] 0 hε rfl (by repeat' first | exact True.intro | exact rfl | apply And.intro) (by repeat' first | exact True.intro | exact rfl | apply And.intro))
     ·
      replace hT := sF hc hT
      refine rExit ?_
      refine rThenExit ?_
      refine rThenExit ?_
      exact zTo [] 0 hε (hxs10 _ (houts1 _ (Option.some.inj hT).symm))
 ·
  cases h

end Go.Proofs.YtkfaebbbjahcpaaDoor
