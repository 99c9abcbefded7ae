/- Models of functions, and that the program does what they tell. -/
import Derived.Test.YtlcjjaglbcfbbaaDoorE1
set_option linter.unusedVariables false
set_option linter.unusedSimpArgs false
namespace Go.Proofs.YtlcjjaglbcfbbaaDoor
open Go.X

def quants_Of (N : Nat) (a1 : Int) (a2 : Int) (a3 : Int) (a4 : Bool) (a5 : Int) (a6 : Zt1) (a7 : Int) : Option ((List Int) × Int) :=
 let c1 := (sound_Check N a1 a2 a3 a4 a5 a6 a7)
 if c1.isSome = true then
  bif (decide ((c1.getD default) ≠ 0)) then
   some ([], (c1.getD default))
  else
   let c2 := (quants_walk_Of_1_Of_2 N a1 a2 a3 a4 a5 a6 a7 0 0 [])
   if c2.isSome = true then
    if (c2.getD default).1 = (c2.getD default).2.2.length then
     some ((c2.getD default).2.2, 0)
    else none
   else none
 else none
def sp_quants_Of (N : Nat) : X.Spec := fun args lk => match args with
 | [.v (.agg [.cs [.int .i64 a1, .int .i64 a2, .int .i64 a3, .bool a4, .int .i64 a5, .val (.slice none 0 0), .fz (.pair .bool (.pair (.int .i64) (.pair (.int .i64) (.sl (.pair (.int .i64) (.pair .bool (.pair (.int .i64) (.pair (.int .i64) (.pair (.arr 2 .i64) (.pair (.arr 6 .i64) (.arrS 6 (.pair .bool (.pair (.int .i64) (.int .i64)))))))))))))) a6, .int .i64 a7]])] => some ⟨(quants_Of N a1 a2 a3 a4 a5 a6 a7).isSome = true, .tup [.c (.fz (.int .i64) ((quants_Of N a1 a2 a3 a4 a5 a6 a7).getD default).1), .c (.int .i64 ((quants_Of N a1 a2 a3 a4 a5 a6 a7).getD default).2)], [], []⟩
 | _ => none
set_option maxRecDepth 100000 in
set_option maxHeartbeats 1000000 in
theorem ok_quants_Of (N : Nat) : FnOK Tryd.prog gt0 22 (sp_quants_Of N) := by
 refine fnOK_handed Tryd.func22 rfl (by kernel_rfl) tt_ok (ktCons (ok_quants_walk_Of_1_Of_2 N) (ktCons (ok_sound_Check N) (ktNil))) ?_
 intro args lk r h hp
 unfold sp_quants_Of at h
 split at h
 ·
  rename_i a1 a2 a3 a4 a5 a6 a7
  change Zt1 at a6
  cases h
  obtain ⟨x, hx⟩ := Option.isSome_iff_exists.1 hp
  simp only [hx, Option.getD_some]
  refine hand0 rfl rfl (fun w0 M ε0 hX => ?_)
  refine rCount (fun hε => ?_)
  have hT : quants_Of N a1 a2 a3 a4 a5 a6 a7 = some x := hx; clear hx hp; unfold quants_Of at hT
  refine zA hX ?_
  refine rSeq ?_
  let c1 := (sound_Check N a1 a2 a3 a4 a5 a6 a7)
  replace hT := sIf hT; obtain ⟨o1, hT⟩ := hT
  refine zA hX ?_
  refine zA hX ?_
  refine zCond rfl rfl (fun hc => ?_) (fun hc => ?_)
  ·
   replace hT := sT hc hT
   refine zA hX ?_
   refine rRet (rThenRet ?_)
   have hy := Option.some.inj hT; subst hy
   exact zEnd0 hX rfl
  ·
   replace hT := sF hc hT
   refine rSkip (rThen (zA hX ?_))
   refine rSeq (rNil 3 1 (.flat [.ints 0 .i64 []]) [(1, .v (.c (.ptr 0 0 0 0 0 0))), (2, .v (.c (.val (.slice none 0 0)))), (3, .v (.c (.int .i64 0))), (5, .v (.c (.ptr 1 0 0 0 0 0)))] [(0, .mem true 25 none (.flat [.cs [.int .i64 a1, .int .i64 a2, .int .i64 a3, .bool a4, .int .i64 a5, .val (.slice none 0 0), .fz Zs1 a6, .int .i64 a7]])), (1, .mem true 22 none (.flat [.cs [.sl 2 0 0 1]]))] (nil_ints _) zF zF ?_)
   refine rBunShut 1 [2] (.flat [.cs [.sl 1 0 0 1]]) [(3, 1, .flat [.ints 0 .i64 []])] rfl rfl zT zT rfl rfl ?_
   refine rToW (T := ⟨[(1, .v (.c (.ptr 0 0 0 0 0 0))), (2, .v (.c (.val (.slice none 0 0)))), (3, .v (.c (.int .i64 0))), (5, .v (.c (.ptr 1 0 0 0 0 0)))], [(0, .mem true 25 none (.flat [.cs [.int .i64 a1, .int .i64 a2, .int .i64 a3, .bool a4, .int .i64 a5, .val (.slice none 0 0), .fz Zs1 a6, .int .i64 a7]])), (1, .bun 22 (.flat [.cs [.sl 1 0 0 1]]) [(3, 1, .flat [.ints 0 .i64 []])])], 3⟩) (To.mk' [] 0 hε rfl zL zL) ?_
   let c2 := (quants_walk_Of_1_Of_2 N a1 a2 a3 a4 a5 a6 a7 0 0 [])
   replace hT := sIf hT; obtain ⟨o1, hT⟩ := hT
   refine zReg md0 hX rfl rfl rfl ?_
   refine rThen (rSeq (rBunOpen 1 rfl rfl rfl rfl ?_))
   refine rToW (T := ⟨[(2, .v (.c (.val (.slice none 0 0)))), (3, .v (.c (.int .i64 0))), (5, .v (.c (.ptr 1 0 0 0 0 0)))], [(1, .mem true 22 none (.flat [.cs [.sl 3 0 (c2.getD default).1 1]])), (3, .mem true 3 (some 1) (.flat [.ints (c2.getD default).2.1 .i64 (c2.getD default).2.2]))], 4⟩) (To.mk' [] 0 hε rfl zL zL) ?_
   refine zReg md0 hX rfl rfl rfl ?_
   refine rThen (rRet ?_)
   replace hT := sIf hT; obtain ⟨p1, hT⟩ := hT
   refine rFreezeQ 3 (.int .i64) (c2.getD default).2.2 [(2, .v (.c (.fz (.int .i64) (c2.getD default).2.2))), (3, .v (.c (.int .i64 0)))] [] rfl rfl zF zF ?_
   have hy := Option.some.inj hT; subst hy
   exact zEnd0 hX rfl
 ·
  cases h
def quants_First_1 (N : Nat) (a1 : Int) (a2 : Nat) (a3 : Nat) (a4 : (List Int)) : Option Zt9 :=
 if 1 ≤ 1 ∧ a3 = a2 ∧ (a2 + 1) * 8 ≤ 140737488355328 ∧ a2 + 1 ≤ 9223372036854775807 then
  some ((a2 + 1), (a3 + 1), (a4 ++ (((List.replicate 1 0).set 0 a1).take 1)))
 else none
def sp_quants_First_1 (N : Nat) : X.Spec := fun args lk => match args with
 | [.v (.c (.int .i64 a1)), .v (.c (.ptr i0 0 0 0 0 0))] => (match lk i0 with
  | some (.bun 22 (.flat [.cs [.sl 1 0 a2 1]]) [(3, 1, .flat [.ints a3 .i64 a4])]) => some ⟨(quants_First_1 N a1 a2 a3 a4).isSome = true, .tup [], [], [(i0, .bun 22 (.flat [.cs [.sl 1 0 ((quants_First_1 N a1 a2 a3 a4).getD default).1 1]]) [(3, 1, .flat [.ints ((quants_First_1 N a1 a2 a3 a4).getD default).2.1 .i64 ((quants_First_1 N a1 a2 a3 a4).getD default).2.2])])]⟩
  | _ => none)
 | _ => none
set_option maxRecDepth 100000 in
set_option maxHeartbeats 1000000 in
theorem ok_quants_First_1 (N : Nat) : FnOK Tryd.prog gt0 55 (sp_quants_First_1 N) := by
 refine fnOK_handed Tryd.func55 rfl (by kernel_rfl) tt_ok (ktNil) ?_
 intro args lk r h hp
 unfold sp_quants_First_1 at h
 split at h
 ·
  rename_i a1 i0
  split at h
  ·
   rename_i a2 a3 a4 hl0
   change (List Int) at a4
   cases h
   obtain ⟨x, hx⟩ := Option.isSome_iff_exists.1 hp
   simp only [hx, Option.getD_some]
   refine handL [i0] 1 [(0, .bun 22 (.flat [.cs [.sl 1 0 a2 1]]) [(3, 1, .flat [.ints a3 .i64 a4])])] [.v (.c (.int .i64 a1)), .v (.c (.ptr 0 0 0 0 0 0))] rfl rfl rfl ⟨isSome_of hl0, trivial⟩ ⟨⟨rfl, zT, _, hl0, .inl rfl⟩, trivial⟩ rfl (fun w0 M ε0 hX => ?_)
   refine rCount (fun hε => ?_)
   have hT : quants_First_1 N a1 a2 a3 a4 = some x := hx; clear hx hp; unfold quants_First_1 at hT
   refine rBunOpen 0 rfl rfl rfl rfl ?_
   refine rToW (T := ⟨[(0, .v (.c (.int .i64 a1))), (1, .v (.c (.ptr 0 0 0 0 0 0)))], [(0, .mem true 22 none (.flat [.cs [.sl 1 0 a2 1]])), (1, .mem true 3 (some 1) (.flat [.ints a3 .i64 a4]))], 2⟩) (To.mk' [] 1 hε rfl zL zL) ?_
   replace hT := sIf hT; obtain ⟨⟨o1, o2, o3, o4⟩, hT⟩ := hT
   refine zReg md0 hX rfl rfl rfl ?_
   refine rNormal (rBunShutQ 0 [3] (.flat [.cs [.sl 1 0 (a2 + 1) 1]]) [(3, 1, .flat [.ints (a3 + 1) .i64 (a4 ++ (((List.replicate 1 0).set 0 a1).take 1))])] rfl rfl zT zT rfl rfl ?_)
   have hy := Option.some.inj hT; subst hy
   exact rEndA [] [] [(0, .bun 22 (.flat [.cs [.sl 1 0 (a2 + 1) 1]]) [(3, 1, .flat [.ints (a3 + 1) .i64 (a4 ++ (((List.replicate 1 0).set 0 a1).take 1))])])] (.tup []) hX rfl zZ zL rfl rfl rfl zT rfl rfl zT rfl rfl
  ·
   cases h
 ·
  cases h
def quants_First_2 (N : Nat) (a1 : Int) : Option Unit :=
 some ()
def sp_quants_First_2 (N : Nat) : X.Spec := fun args lk => match args with
 | [.v (.c (.int .i64 a1))] => some ⟨(quants_First_2 N a1).isSome = true, .tup [], [], []⟩
 | _ => none
set_option maxRecDepth 100000 in
set_option maxHeartbeats 1000000 in
theorem ok_quants_First_2 (N : Nat) : FnOK Tryd.prog gt0 56 (sp_quants_First_2 N) := by
 refine fnOK_handed Tryd.func56 rfl (by kernel_rfl) tt_ok (ktNil) ?_
 intro args lk r h hp
 unfold sp_quants_First_2 at h
 split at h
 ·
  rename_i a1
  cases h
  obtain ⟨x, hx⟩ := Option.isSome_iff_exists.1 hp
  simp only [hx, Option.getD_some]
  refine hand0 rfl rfl (fun w0 M ε0 hX => ?_)
  refine rCount (fun hε => ?_)
  have hT : quants_First_2 N a1 = some x := hx; clear hx hp; unfold quants_First_2 at hT
  refine rSkip (rNormal ?_)
  have hy := Option.some.inj hT; subst hy
  exact zEnd0 hX rfl
 ·
  cases h
def quants_walk_First_1_First_2_b2 (N : Nat) (a6 : Zt1) (s1 : Zt5) (s2 : (Int × Int)) : Option ((Int × Int) ⊕ (Int × Int × Bool)) :=
 let x2 := (decide (s2.2 < ((a6.getD (s1.2.1).toNat Zd7).2.2.2.length : Int)))
 bif x2 then
  let x3 := ((a6.getD (s1.2.1).toNat Zd7).2.2.2.getD (s2.2).toNat Zd1)
  let x4 := ((a6.getD (s1.2.1).toNat Zd7).2.2.2.getD (s2.2).toNat Zd1).1
  let x5 := ((a6.getD (s1.2.1).toNat Zd7).2.2.2.getD (s2.2).toNat Zd1).2.1
  let x6 := ((a6.getD (s1.2.1).toNat Zd7).2.2.2.getD (s2.2).toNat Zd1).2.2.1
  let x7 := ((a6.getD (s1.2.1).toNat Zd7).2.2.2.getD (s2.2).toNat Zd1).2.2.2.1
  let x8 : (List Int) := ((a6.getD (s1.2.1).toNat Zd7).2.2.2.getD (s2.2).toNat Zd1).2.2.2.2.1
  let x9 : (List Int) := ((a6.getD (s1.2.1).toNat Zd7).2.2.2.getD (s2.2).toNat Zd1).2.2.2.2.2.1
  let x10 := ((a6.getD (s1.2.1).toNat Zd7).2.2.2.getD (s2.2).toNat Zd1).2.2.2.2.2.2
  if (0 : Int) ≤ s2.2 ∧ s2.2 < ((a6.getD (s1.2.1).toNat Zd7).2.2.2.length : Int) then
   joinK (fun (v3 : Int) =>
    let c2 := (quants_First_2 N v3)
    if c2.isSome = true then
     if inK .i64 (s2.2 + 1) then
      some (.inl (v3, (s2.2 + 1)))
     else none
    else none
   ) fun k1 =>
    bif (bif (decide (x6 = 1)) then true else (decide (x6 = 4))) then
     let c3 := (steps_Next N s2.1 x7)
     if c3.isSome = true then
      k1 (c3.getD default)
     else none
    else
     k1 s2.1
  else none
 else
  some (.inr (s2.1, s2.2, x2))
def quants_walk_First_1_First_2_b1 (N : Nat) (a6 : Zt1) (s1 : Zt5) : Option (Zt5 ⊕ Zt9) :=
 bif (decide (s1.2.1 < (a6.length : Int))) then
  if (0 : Int) ≤ s1.2.1 ∧ s1.2.1 < (a6.length : Int) then
   let x1 := (bif (a6.getD (s1.2.1).toNat Zd7).1 then (a6.getD (s1.2.1).toNat Zd7).2.2.1 else s1.1)
   let c1 := (quants_First_1 N x1 s1.2.2.1 s1.2.2.2.1 s1.2.2.2.2)
   if c1.isSome = true then
    (iter (quants_walk_First_1_First_2_b2 N a6 s1) N (x1, 0)).bind fun v2 =>
     if inK .i64 (s1.2.1 + 1) then
      some (.inl (v2.1, (s1.2.1 + 1), (c1.getD default).1, (c1.getD default).2.1, (c1.getD default).2.2))
     else none
   else none
  else none
 else
  some (.inr (s1.2.2.1, s1.2.2.2.1, s1.2.2.2.2))
def quants_walk_First_1_First_2 (N : Nat) (a1 : Int) (a2 : Int) (a3 : Int) (a4 : Bool) (a5 : Int) (a6 : Zt1) (a7 : Int) (a8 : Nat) (a9 : Nat) (a10 : (List Int)) : Option Zt9 :=
 (iter (quants_walk_First_1_First_2_b1 N a6) N (a5, 0, a8, a9, a10)).bind fun v1 =>
  some (v1.1, v1.2.1, v1.2.2)
def sp_quants_walk_First_1_First_2 (N : Nat) : X.Spec := fun args lk => match args with
 | [.v (.agg [.cs [.int .i64 a1, .int .i64 a2, .int .i64 a3, .bool a4, .int .i64 a5, .val (.slice none 0 0), .fz (.pair .bool (.pair (.int .i64) (.pair (.int .i64) (.sl (.pair (.int .i64) (.pair .bool (.pair (.int .i64) (.pair (.int .i64) (.pair (.arr 2 .i64) (.pair (.arr 6 .i64) (.arrS 6 (.pair .bool (.pair (.int .i64) (.int .i64)))))))))))))) a6, .int .i64 a7]]), .v (.c (.clo 55 [i0])), .v (.c (.clo 56 []))] => (match lk i0 with
  | some (.bun 22 (.flat [.cs [.sl 1 0 a8 1]]) [(3, 1, .flat [.ints a9 .i64 a10])]) => some ⟨(quants_walk_First_1_First_2 N a1 a2 a3 a4 a5 a6 a7 a8 a9 a10).isSome = true, .tup [], [], [(i0, .bun 22 (.flat [.cs [.sl 1 0 ((quants_walk_First_1_First_2 N a1 a2 a3 a4 a5 a6 a7 a8 a9 a10).getD default).1 1]]) [(3, 1, .flat [.ints ((quants_walk_First_1_First_2 N a1 a2 a3 a4 a5 a6 a7 a8 a9 a10).getD default).2.1 .i64 ((quants_walk_First_1_First_2 N a1 a2 a3 a4 a5 a6 a7 a8 a9 a10).getD default).2.2])])]⟩
  | _ => none)
 | _ => none
set_option maxRecDepth 100000 in
set_option maxHeartbeats 1000000 in
theorem ok_quants_walk_First_1_First_2 (N : Nat) : FnOK Tryd.prog gt0 52 (sp_quants_walk_First_1_First_2 N) := by
 refine fnOK_handed Tryd.func52 rfl (by kernel_rfl) tt_ok (ktCons (ok_steps_Next N) (ktCons (ok_quants_First_2 N) (ktCons (ok_quants_First_1 N) (ktNil)))) ?_
 intro args lk r h hp
 unfold sp_quants_walk_First_1_First_2 at h
 split at h
 ·
  rename_i a1 a2 a3 a4 a5 a6 a7 i0
  split at h
  ·
   rename_i a8 a9 a10 hl0
   change Zt1 at a6
   change (List Int) at a10
   cases h
   obtain ⟨x, hx⟩ := Option.isSome_iff_exists.1 hp
   simp only [hx, Option.getD_some]
   refine handL [i0] 1 [(0, .bun 22 (.flat [.cs [.sl 1 0 a8 1]]) [(3, 1, .flat [.ints a9 .i64 a10])])] [.v (.agg [.cs [.int .i64 a1, .int .i64 a2, .int .i64 a3, .bool a4, .int .i64 a5, .val (.slice none 0 0), .fz Zs1 a6, .int .i64 a7]]), .v (.c (.clo 55 [0])), .v (.c (.clo 56 []))] rfl rfl rfl ⟨isSome_of hl0, trivial⟩ ⟨⟨rfl, zT, _, hl0, .inl rfl⟩, trivial⟩ rfl (fun w0 M ε0 hX => ?_)
   refine rCount (fun hε => ?_)
   have hT : quants_walk_First_1_First_2 N a1 a2 a3 a4 a5 a6 a7 a8 a9 a10 = some x := hx; clear hx hp; unfold quants_walk_First_1_First_2 at hT
   refine zA hX ?_
   refine zA hX ?_
   refine zA hX ?_
   refine rBlock ?_
   replace hT := sBind hT; obtain ⟨w1, hl, hT⟩ := hT
   refine rJoinA (fun v1 => v1 = w1) (fun v1 => ⟨[], [(0, .bun 22 (.flat [.cs [.sl 1 0 v1.1 1]]) [(3, 1, .flat [.ints v1.2.1 .i64 v1.2.2])])], 2⟩) (.exit 0) (fun v1 hv => ?_) (fun hxs10 => ?_)
   ·
    subst hv; clear hl
    refine rInHit (rNormal ?_)
    have hy := Option.some.inj hT; subst hy
    exact rEndA [] [] [(0, .bun 22 (.flat [.cs [.sl 1 0 v1.1 1]]) [(3, 1, .flat [.ints v1.2.1 .i64 v1.2.2])])] (.tup []) hX rfl zZ zL rfl rfl rfl zT rfl rfl zT rfl rfl
   refine rLoopM (quants_walk_First_1_First_2_b1 N a6) (fun s1 => ⟨[(1, .v (.c (.clo 55 [0]))), (2, .v (.c (.clo 56 []))), (6, .v (.c (.int .i64 s1.1))), (14, .v (.c (.fz Zs1 a6))), (15, .v (.c (.int .i64 (a6.length : Int)))), (16, .v (.c (.int .i64 s1.2.1)))], [(0, .bun 22 (.flat [.cs [.sl 1 0 s1.2.2.1 1]]) [(3, 1, .flat [.ints s1.2.2.2.1 .i64 s1.2.2.2.2])])], 2⟩) hl (To.mk' [] 1 hε rfl zL zL) (fun s1 zs1 NNs1 hz hnexts1 houts1 => ?_)
   clear hl hT
   have hT := hz; clear hz
   refine zA hX ?_
   refine rSeq ?_
   refine zCond rfl rfl (fun hc => ?_) (fun hc => ?_)
   ·
    replace hT := sT hc hT
    refine rSkip (rThen (rSeq (rBlock ?_)))
    replace hT := sIf hT; obtain ⟨⟨o1, o2⟩, hT⟩ := hT
    refine zA hX ?_
    refine rSeq (zA hX ?_)
    refine rJoin ⟨[(1, .v (.c (.clo 55 [0]))), (2, .v (.c (.clo 56 []))), (6, .v (.c (.int .i64 (bif (a6.getD (s1.2.1).toNat Zd7).1 then (a6.getD (s1.2.1).toNat Zd7).2.2.1 else s1.1)))), (8, .v (.c (.ptr 2 0 0 0 0 0))), (14, .v (.c (.fz Zs1 a6))), (15, .v (.c (.int .i64 (a6.length : Int)))), (16, .v (.c (.int .i64 s1.2.1))), (17, .v (.c (.bool (decide (s1.2.1 < (a6.length : Int)))))), (18, .v (.c (.fp Zs1 (a6.getD (s1.2.1).toNat Zd7) 0 0 0))), (19, .v (.agg [.cs [.bool (a6.getD (s1.2.1).toNat Zd7).1, .int .i64 (a6.getD (s1.2.1).toNat Zd7).2.1, .int .i64 (a6.getD (s1.2.1).toNat Zd7).2.2.1, .fz Zs2 (a6.getD (s1.2.1).toNat Zd7).2.2.2]])), (20, .v (.c (.ptr 2 0 0 0 0 0))), (21, .v (.c (.bool (a6.getD (s1.2.1).toNat Zd7).1)))], [(0, .bun 22 (.flat [.cs [.sl 1 0 s1.2.2.1 1]]) [(3, 1, .flat [.ints s1.2.2.2.1 .i64 s1.2.2.2.2])]), (2, .mem true 49 none (.flat [.cs [.bool (a6.getD (s1.2.1).toNat Zd7).1, .int .i64 (a6.getD (s1.2.1).toNat Zd7).2.1, .int .i64 (a6.getD (s1.2.1).toNat Zd7).2.2.1, .fz Zs2 (a6.getD (s1.2.1).toNat Zd7).2.2.2]]))], 3⟩ ?_ (fun hj => ?_)
    ·
     let x1 := (bif (a6.getD (s1.2.1).toNat Zd7).1 then (a6.getD (s1.2.1).toNat Zd7).2.2.1 else s1.1)
     refine rThen ?_
     let c1 := (quants_First_1 N x1 s1.2.2.1 s1.2.2.2.1 s1.2.2.2.2)
     replace hT := sIf hT; obtain ⟨o1, hT⟩ := hT
     refine zA hX ?_
     refine zA hX ?_
     refine rBlock ?_
     replace hT := sBind hT; obtain ⟨w2, hl, hT⟩ := hT
     refine rJoinA (fun v2 => v2 = w2) (fun v2 => ⟨[(1, .v (.c (.clo 55 [0]))), (2, .v (.c (.clo 56 []))), (6, .v (.c (.int .i64 v2.1))), (8, .v (.c (.ptr 2 0 0 0 0 0))), (14, .v (.c (.fz Zs1 a6))), (15, .v (.c (.int .i64 (a6.length : Int)))), (16, .v (.c (.int .i64 s1.2.1))), (17, .v (.c (.bool (decide (s1.2.1 < (a6.length : Int)))))), (18, .v (.c (.fp Zs1 (a6.getD (s1.2.1).toNat Zd7) 0 0 0))), (19, .v (.agg [.cs [.bool (a6.getD (s1.2.1).toNat Zd7).1, .int .i64 (a6.getD (s1.2.1).toNat Zd7).2.1, .int .i64 (a6.getD (s1.2.1).toNat Zd7).2.2.1, .fz Zs2 (a6.getD (s1.2.1).toNat Zd7).2.2.2]])), (20, .v (.c (.ptr 2 0 0 0 0 0))), (21, .v (.c (.bool (a6.getD (s1.2.1).toNat Zd7).1))), (24, .v (.c (.clo 55 [0]))), (25, .v (.c (.int .i64 x1))), (27, .v (.c (.ptr 2 0 0 3 0 0))), (28, .v (.c (.fz Zs2 (a6.getD (s1.2.1).toNat Zd7).2.2.2))), (29, .v (.c (.int .i64 ((a6.getD (s1.2.1).toNat Zd7).2.2.2.length : Int)))), (30, .v (.c (.int .i64 v2.2.1))), (31, .v (.c (.bool v2.2.2)))], [(0, .bun 22 (.flat [.cs [.sl 1 0 (c1.getD default).1 1]]) [(3, 1, .flat [.ints (c1.getD default).2.1 .i64 (c1.getD default).2.2])]), (2, .mem true 49 none (.flat [.cs [.bool (a6.getD (s1.2.1).toNat Zd7).1, .int .i64 (a6.getD (s1.2.1).toNat Zd7).2.1, .int .i64 (a6.getD (s1.2.1).toNat Zd7).2.2.1, .fz Zs2 (a6.getD (s1.2.1).toNat Zd7).2.2.2]]))], 3⟩) (.exit 2) (fun v2 hv => ?_) (fun hxs20 => ?_)
     ·
      subst hv; clear hl
      refine rInHit (rInNormal (rThen ?_))
      replace hT := sIf hT; obtain ⟨o1, hT⟩ := hT
      refine zReg md0 hX rfl rfl rfl ?_
      exact hnexts1 _ (Option.some.inj hT).symm _ (To.mk' [] 1 hε rfl zL zL)
     refine rLoopM (quants_walk_First_1_First_2_b2 N a6 s1) (fun s2 => ⟨[(1, .v (.c (.clo 55 [0]))), (2, .v (.c (.clo 56 []))), (6, .v (.c (.int .i64 s2.1))), (8, .v (.c (.ptr 2 0 0 0 0 0))), (14, .v (.c (.fz Zs1 a6))), (15, .v (.c (.int .i64 (a6.length : Int)))), (16, .v (.c (.int .i64 s1.2.1))), (17, .v (.c (.bool (decide (s1.2.1 < (a6.length : Int)))))), (18, .v (.c (.fp Zs1 (a6.getD (s1.2.1).toNat Zd7) 0 0 0))), (19, .v (.agg [.cs [.bool (a6.getD (s1.2.1).toNat Zd7).1, .int .i64 (a6.getD (s1.2.1).toNat Zd7).2.1, .int .i64 (a6.getD (s1.2.1).toNat Zd7).2.2.1, .fz Zs2 (a6.getD (s1.2.1).toNat Zd7).2.2.2]])), (20, .v (.c (.ptr 2 0 0 0 0 0))), (21, .v (.c (.bool (a6.getD (s1.2.1).toNat Zd7).1))), (24, .v (.c (.clo 55 [0]))), (25, .v (.c (.int .i64 x1))), (27, .v (.c (.ptr 2 0 0 3 0 0))), (28, .v (.c (.fz Zs2 (a6.getD (s1.2.1).toNat Zd7).2.2.2))), (29, .v (.c (.int .i64 ((a6.getD (s1.2.1).toNat Zd7).2.2.2.length : Int)))), (30, .v (.c (.int .i64 s2.2)))], [(0, .bun 22 (.flat [.cs [.sl 1 0 (c1.getD default).1 1]]) [(3, 1, .flat [.ints (c1.getD default).2.1 .i64 (c1.getD default).2.2])]), (2, .mem true 49 none (.flat [.cs [.bool (a6.getD (s1.2.1).toNat Zd7).1, .int .i64 (a6.getD (s1.2.1).toNat Zd7).2.1, .int .i64 (a6.getD (s1.2.1).toNat Zd7).2.2.1, .fz Zs2 (a6.getD (s1.2.1).toNat Zd7).2.2.2]]))], 3⟩) hl (To.mk' [] 1 hε rfl zL zL) (fun s2 zs2 NNs2 hz hnexts2 houts2 => ?_)
     clear hl hT
     have hT := hz; clear hz
     let x2 := (decide (s2.2 < ((a6.getD (s1.2.1).toNat Zd7).2.2.2.length : Int)))
     refine zA hX ?_
     refine rSeq ?_
     refine zCond rfl rfl (fun hc => ?_) (fun hc => ?_)
     ·
      replace hT := sT hc hT
      refine rSkip (rThen (rSeq (rBlock ?_)))
      let x3 := ((a6.getD (s1.2.1).toNat Zd7).2.2.2.getD (s2.2).toNat Zd1)
      let x4 := ((a6.getD (s1.2.1).toNat Zd7).2.2.2.getD (s2.2).toNat Zd1).1
      let x5 := ((a6.getD (s1.2.1).toNat Zd7).2.2.2.getD (s2.2).toNat Zd1).2.1
      let x6 := ((a6.getD (s1.2.1).toNat Zd7).2.2.2.getD (s2.2).toNat Zd1).2.2.1
      let x7 := ((a6.getD (s1.2.1).toNat Zd7).2.2.2.getD (s2.2).toNat Zd1).2.2.2.1
      let x8 : (List Int) := ((a6.getD (s1.2.1).toNat Zd7).2.2.2.getD (s2.2).toNat Zd1).2.2.2.2.1
      let x9 : (List Int) := ((a6.getD (s1.2.1).toNat Zd7).2.2.2.getD (s2.2).toNat Zd1).2.2.2.2.2.1
      let x10 := ((a6.getD (s1.2.1).toNat Zd7).2.2.2.getD (s2.2).toNat Zd1).2.2.2.2.2.2
      replace hT := sIf hT; obtain ⟨⟨o1, o2⟩, hT⟩ := hT
      refine zA hX ?_
      refine rSeq (zA hX ?_)
      refine rJoinK hT (fun v3 => ⟨[(1, .v (.c (.clo 55 [0]))), (2, .v (.c (.clo 56 []))), (6, .v (.c (.int .i64 v3))), (8, .v (.c (.ptr 2 0 0 0 0 0))), (10, .v (.c (.ptr 3 0 0 0 0 0))), (14, .v (.c (.fz Zs1 a6))), (15, .v (.c (.int .i64 (a6.length : Int)))), (16, .v (.c (.int .i64 s1.2.1))), (17, .v (.c (.bool (decide (s1.2.1 < (a6.length : Int)))))), (18, .v (.c (.fp Zs1 (a6.getD (s1.2.1).toNat Zd7) 0 0 0))), (19, .v (.agg [.cs [.bool (a6.getD (s1.2.1).toNat Zd7).1, .int .i64 (a6.getD (s1.2.1).toNat Zd7).2.1, .int .i64 (a6.getD (s1.2.1).toNat Zd7).2.2.1, .fz Zs2 (a6.getD (s1.2.1).toNat Zd7).2.2.2]])), (20, .v (.c (.ptr 2 0 0 0 0 0))), (21, .v (.c (.bool (a6.getD (s1.2.1).toNat Zd7).1))), (24, .v (.c (.clo 55 [0]))), (25, .v (.c (.int .i64 x1))), (27, .v (.c (.ptr 2 0 0 3 0 0))), (28, .v (.c (.fz Zs2 (a6.getD (s1.2.1).toNat Zd7).2.2.2))), (29, .v (.c (.int .i64 ((a6.getD (s1.2.1).toNat Zd7).2.2.2.length : Int)))), (30, .v (.c (.int .i64 s2.2))), (31, .v (.c (.bool x2))), (32, .v (.c (.fp Zs2 x3 0 0 0))), (33, .v (.agg [.cs [.int .i64 x4, .bool x5, .int .i64 x6, .int .i64 x7], .ints 2 .i64 x8, .ints 6 .i64 x9, .fzs 6 Zs3 x10])), (34, .v (.c (.ptr 3 0 0 2 0 0))), (35, .v (.c (.int .i64 x6))), (36, .v (.c (.bool (decide (x6 = 1))))), (37, .v (.c (.bool (decide (x6 = 1))))), (41, .v (.c (.bool (bif (decide (x6 = 1)) then true else (decide (x6 = 4))))))], [(0, .bun 22 (.flat [.cs [.sl 1 0 (c1.getD default).1 1]]) [(3, 1, .flat [.ints (c1.getD default).2.1 .i64 (c1.getD default).2.2])]), (2, .mem true 49 none (.flat [.cs [.bool (a6.getD (s1.2.1).toNat Zd7).1, .int .i64 (a6.getD (s1.2.1).toNat Zd7).2.1, .int .i64 (a6.getD (s1.2.1).toNat Zd7).2.2.1, .fz Zs2 (a6.getD (s1.2.1).toNat Zd7).2.2.2]])), (3, .mem true 42 none (.flat [.cs [.int .i64 x4, .bool x5, .int .i64 x6, .int .i64 x7], .ints 2 .i64 x8, .ints 6 .i64 x9, .fzs 6 Zs3 x10]))], 4⟩) (fun v3 hT => ?_) (fun k1 hjk1 hT => ?_)
      ·
       refine rThen ?_
       let c2 := (quants_First_2 N v3)
       replace hT := sIf hT; obtain ⟨o1, hT⟩ := hT
       refine zReg md0 hX rfl rfl rfl ?_
       refine rInNormal (rThen ?_)
       replace hT := sIf hT; obtain ⟨o1, hT⟩ := hT
       refine zReg md0 hX rfl rfl rfl ?_
       exact hnexts2 _ (Option.some.inj hT).symm _ (To.mk' [] 1 hε rfl zL zL)
      ·
       refine zCond rfl rfl (fun hc => ?_) (fun hc => ?_)
       ·
        replace hT := sT hc hT
        let c3 := (steps_Next N s2.1 x7)
        replace hT := sIf hT; obtain ⟨o1, hT⟩ := hT
        refine zReg md0 hX rfl rfl rfl ?_
        exact zTo [] 1 hε (hjk1 _ hT)
       ·
        replace hT := sF hc hT
        refine rSkip ?_
        exact zTo [] 1 hε (hjk1 _ hT)
     ·
      replace hT := sF hc hT
      refine rExit (rThenExit (rThenExit ?_))
      exact zTo [] 1 hε (hxs20 _ (houts2 _ (Option.some.inj hT).symm))
    ·
     clear hT
     refine zCond rfl rfl (fun hc => ?_) (fun hc => ?_)
     ·
      refine zReg md0 hX rfl rfl rfl ?_
      exact rTo (To.mk' [] 1 hε rfl zJ zJ) hj
     ·
      refine rSkip ?_
      exact rTo (To.mk' [] 1 hε rfl zJ zJ) hj
   ·
    replace hT := sF hc hT
    refine rExit (rThenExit (rThenExit ?_))
    exact zTo [] 1 hε (hxs10 _ (houts1 _ (Option.some.inj hT).symm))
  ·
   cases h
 ·
  cases h
def quants_First (N : Nat) (a1 : Int) (a2 : Int) (a3 : Int) (a4 : Bool) (a5 : Int) (a6 : Zt1) (a7 : Int) : Option ((List Int) × Int) :=
 let c1 := (sound_Check N a1 a2 a3 a4 a5 a6 a7)
 if c1.isSome = true then
  bif (decide ((c1.getD default) ≠ 0)) then
   some ([], (c1.getD default))
  else
   let c2 := (quants_walk_First_1_First_2 N a1 a2 a3 a4 a5 a6 a7 0 0 [])
   if c2.isSome = true then
    if (c2.getD default).1 = (c2.getD default).2.2.length then
     some ((c2.getD default).2.2, 0)
    else none
   else none
 else none
def sp_quants_First (N : Nat) : X.Spec := fun args lk => match args with
 | [.v (.agg [.cs [.int .i64 a1, .int .i64 a2, .int .i64 a3, .bool a4, .int .i64 a5, .val (.slice none 0 0), .fz (.pair .bool (.pair (.int .i64) (.pair (.int .i64) (.sl (.pair (.int .i64) (.pair .bool (.pair (.int .i64) (.pair (.int .i64) (.pair (.arr 2 .i64) (.pair (.arr 6 .i64) (.arrS 6 (.pair .bool (.pair (.int .i64) (.int .i64)))))))))))))) a6, .int .i64 a7]])] => some ⟨(quants_First N a1 a2 a3 a4 a5 a6 a7).isSome = true, .tup [.c (.fz (.int .i64) ((quants_First N a1 a2 a3 a4 a5 a6 a7).getD default).1), .c (.int .i64 ((quants_First N a1 a2 a3 a4 a5 a6 a7).getD default).2)], [], []⟩
 | _ => none
set_option maxRecDepth 100000 in
set_option maxHeartbeats 1000000 in
theorem ok_quants_First (N : Nat) : FnOK Tryd.prog gt0 23 (sp_quants_First N) := by
 refine fnOK_handed Tryd.func23 rfl (by kernel_rfl) tt_ok (ktCons (ok_quants_walk_First_1_First_2 N) (ktCons (ok_sound_Check N) (ktNil))) ?_
 intro args lk r h hp
 unfold sp_quants_First at h
 split at h
 ·
  rename_i a1 a2 a3 a4 a5 a6 a7
  change Zt1 at a6
  cases h
  obtain ⟨x, hx⟩ := Option.isSome_iff_exists.1 hp
  simp only [hx, Option.getD_some]
  refine hand0 rfl rfl (fun w0 M ε0 hX => ?_)
  refine rCount (fun hε => ?_)
  have hT : quants_First N a1 a2 a3 a4 a5 a6 a7 = some x := hx; clear hx hp; unfold quants_First at hT
  refine zA hX ?_
  refine rSeq ?_
  let c1 := (sound_Check N a1 a2 a3 a4 a5 a6 a7)
  replace hT := sIf hT; obtain ⟨o1, hT⟩ := hT
  refine zA hX ?_
  refine zA hX ?_
  refine zCond rfl rfl (fun hc => ?_) (fun hc => ?_)
  ·
   replace hT := sT hc hT
   refine zA hX ?_
   refine rRet (rThenRet ?_)
   have hy := Option.some.inj hT; subst hy
   exact zEnd0 hX rfl
  ·
   replace hT := sF hc hT
   refine rSkip (rThen (zA hX ?_))
   refine rSeq (rNil 3 1 (.flat [.ints 0 .i64 []]) [(1, .v (.c (.ptr 0 0 0 0 0 0))), (2, .v (.c (.val (.slice none 0 0)))), (3, .v (.c (.int .i64 0))), (5, .v (.c (.ptr 1 0 0 0 0 0)))] [(0, .mem true 25 none (.flat [.cs [.int .i64 a1, .int .i64 a2, .int .i64 a3, .bool a4, .int .i64 a5, .val (.slice none 0 0), .fz Zs1 a6, .int .i64 a7]])), (1, .mem true 22 none (.flat [.cs [.sl 2 0 0 1]]))] (nil_ints _) zF zF ?_)
   refine rBunShut 1 [2] (.flat [.cs [.sl 1 0 0 1]]) [(3, 1, .flat [.ints 0 .i64 []])] rfl rfl zT zT rfl rfl ?_
   refine rToW (T := ⟨[(1, .v (.c (.ptr 0 0 0 0 0 0))), (2, .v (.c (.val (.slice none 0 0)))), (3, .v (.c (.int .i64 0))), (5, .v (.c (.ptr 1 0 0 0 0 0)))], [(0, .mem true 25 none (.flat [.cs [.int .i64 a1, .int .i64 a2, .int .i64 a3, .bool a4, .int .i64 a5, .val (.slice none 0 0), .fz Zs1 a6, .int .i64 a7]])), (1, .bun 22 (.flat [.cs [.sl 1 0 0 1]]) [(3, 1, .flat [.ints 0 .i64 []])])], 3⟩) (To.mk' [] 0 hε rfl zL zL) ?_
   let c2 := (quants_walk_First_1_First_2 N a1 a2 a3 a4 a5 a6 a7 0 0 [])
   replace hT := sIf hT; obtain ⟨o1, hT⟩ := hT
   refine zReg md0 hX rfl rfl rfl ?_
   refine rThen (rSeq (rBunOpen 1 rfl rfl rfl rfl ?_))
   refine rToW (T := ⟨[(2, .v (.c (.val (.slice none 0 0)))), (3, .v (.c (.int .i64 0))), (5, .v (.c (.ptr 1 0 0 0 0 0)))], [(1, .mem true 22 none (.flat [.cs [.sl 3 0 (c2.getD default).1 1]])), (3, .mem true 3 (some 1) (.flat [.ints (c2.getD default).2.1 .i64 (c2.getD default).2.2]))], 4⟩) (To.mk' [] 0 hε rfl zL zL) ?_
   refine zReg md0 hX rfl rfl rfl ?_
   refine rThen (rRet ?_)
   replace hT := sIf hT; obtain ⟨p1, hT⟩ := hT
   refine rFreezeQ 3 (.int .i64) (c2.getD default).2.2 [(2, .v (.c (.fz (.int .i64) (c2.getD default).2.2))), (3, .v (.c (.int .i64 0)))] [] rfl rfl zF zF ?_
   have hy := Option.some.inj hT; subst hy
   exact zEnd0 hX rfl
 ·
  cases h
def chain_Floors_b1 (N : Nat) (a6 : Zt1) (a8 : (List Int)) (s2 : Zt15) : Option (Zt15 ⊕ Zt9) :=
 bif (decide (s2.2.2.1 < (a6.length : Int))) then
  if (0 : Int) ≤ s2.2.2.1 ∧ s2.2.2.1 < (a6.length : Int) then
   let x1 := (bif (decide (s2.2.2.1 = 0)) then true else (a6.getD (s2.2.2.1).toNat Zd7).1)
   joinK (fun (v2 : Int) =>
    if 1 ≤ 1 ∧ s2.2.2.2.1 = s2.1 ∧ (s2.1 + 1) * 8 ≤ 140737488355328 ∧ s2.1 + 1 ≤ 9223372036854775807 then
     if inK .i64 (s2.2.2.1 + 1) then
      some (.inl ((s2.1 + 1), v2, (s2.2.2.1 + 1), (s2.2.2.2.1 + 1), (s2.2.2.2.2 ++ (((List.replicate 1 0).set 0 v2).take 1))))
     else none
    else none
   ) fun k1 =>
    bif x1 then
     bif (decide (s2.2.2.1 < (a8.length : Int))) then
      let c1 := (whole_Clip N (a8.getD (s2.2.2.1).toNat 0) 1 31)
      if (0 : Int) ≤ s2.2.2.1 ∧ s2.2.2.1 < (a8.length : Int) ∧ c1.isSome = true then
       k1 (c1.getD default)
      else none
     else
      k1 1
    else
     k1 s2.2.1
  else none
 else
  some (.inr (s2.1, s2.2.2.2.1, s2.2.2.2.2))
def chain_Floors (N : Nat) (a1 : Int) (a2 : Int) (a3 : Int) (a4 : Bool) (a5 : Int) (a6 : Zt1) (a7 : Int) (a8 : (List Int)) : Option (List Int) :=
 (iter (chain_Floors_b1 N a6 a8) N (0, 1, 0, 0, [])).bind fun v1 =>
  if v1.1 = v1.2.2.length then
   some v1.2.2
  else none
def sp_chain_Floors (N : Nat) : X.Spec := fun args lk => match args with
 | [.v (.agg [.cs [.int .i64 a1, .int .i64 a2, .int .i64 a3, .bool a4, .int .i64 a5, .val (.slice none 0 0), .fz (.pair .bool (.pair (.int .i64) (.pair (.int .i64) (.sl (.pair (.int .i64) (.pair .bool (.pair (.int .i64) (.pair (.int .i64) (.pair (.arr 2 .i64) (.pair (.arr 6 .i64) (.arrS 6 (.pair .bool (.pair (.int .i64) (.int .i64)))))))))))))) a6, .int .i64 a7]]), .v (.c (.fz (.int .i64) a8))] => some ⟨(chain_Floors N a1 a2 a3 a4 a5 a6 a7 a8).isSome = true, .v (.c (.fz (.int .i64) ((chain_Floors N a1 a2 a3 a4 a5 a6 a7 a8).getD default))), [], []⟩
 | _ => none
set_option maxRecDepth 100000 in
set_option maxHeartbeats 1000000 in
theorem ok_chain_Floors (N : Nat) : FnOK Tryd.prog gt0 29 (sp_chain_Floors N) := by
 refine fnOK_handed Tryd.func29 rfl (by kernel_rfl) tt_ok (ktCons (ok_whole_Clip N) (ktNil)) ?_
 intro args lk r h hp
 unfold sp_chain_Floors at h
 split at h
 ·
  rename_i a1 a2 a3 a4 a5 a6 a7 a8
  change Zt1 at a6
  change (List Int) at a8
  cases h
  obtain ⟨x, hx⟩ := Option.isSome_iff_exists.1 hp
  simp only [hx, Option.getD_some]
  refine hand0 rfl rfl (fun w0 M ε0 hX => ?_)
  refine rCount (fun hε => ?_)
  have hT : chain_Floors N a1 a2 a3 a4 a5 a6 a7 a8 = some x := hx; clear hx hp; unfold chain_Floors at hT
  refine zA hX ?_
  refine zA hX ?_
  refine zA hX ?_
  refine rSeq (zA hX ?_)
  refine rBlock (rNil 3 1 (.flat [.ints 0 .i64 []]) [(1, .v (.c (.fz (.int .i64) a8))), (4, .v (.c (.val (.slice none 0 0)))), (5, .v (.c (.sl 1 0 0 1))), (6, .v (.c (.int .i64 1))), (10, .v (.c (.fz Zs1 a6))), (11, .v (.c (.int .i64 (a6.length : Int)))), (12, .v (.c (.int .i64 0)))] [] (nil_ints _) zF zF ?_)
  replace hT := sBind hT; obtain ⟨w1, hl, hT⟩ := hT
  refine rJoinA (fun v1 => v1 = w1) (fun v1 => ⟨[(4, .v (.c (.val (.slice none 0 0)))), (5, .v (.c (.sl 1 0 v1.1 1)))], [(1, .mem true 3 (some 1) (.flat [.ints v1.2.1 .i64 v1.2.2]))], 2⟩) (.exit 0) (fun v1 hv => ?_) (fun hxs20 => ?_)
  ·
   subst hv; clear hl
   refine rInHit (rThen (zA hX ?_))
   refine rRet ?_
   replace hT := sIf hT; obtain ⟨p1, hT⟩ := hT
   refine rFreezeQ 1 (.int .i64) v1.2.2 [(4, .v (.c (.fz (.int .i64) v1.2.2)))] [] rfl rfl zF zF ?_
   have hy := Option.some.inj hT; subst hy
   exact zEnd0 hX rfl
  refine rLoopM (chain_Floors_b1 N a6 a8) (fun s2 => ⟨[(1, .v (.c (.fz (.int .i64) a8))), (4, .v (.c (.val (.slice none 0 0)))), (5, .v (.c (.sl 1 0 s2.1 1))), (6, .v (.c (.int .i64 s2.2.1))), (10, .v (.c (.fz Zs1 a6))), (11, .v (.c (.int .i64 (a6.length : Int)))), (12, .v (.c (.int .i64 s2.2.2.1)))], [(1, .mem true 3 (some 1) (.flat [.ints s2.2.2.2.1 .i64 s2.2.2.2.2]))], 2⟩) hl (To.mk' [] 0 hε rfl zL zL) (fun s2 zs2 NNs2 hz hnexts2 houts2 => ?_)
  clear hl hT
  have hT := hz; clear hz
  refine zA hX ?_
  refine rSeq ?_
  refine zCond rfl rfl (fun hc => ?_) (fun hc => ?_)
  ·
   replace hT := sT hc hT
   refine rSkip (rThen (rSeq (rBlock ?_)))
   replace hT := sIf hT; obtain ⟨⟨o1, o2⟩, hT⟩ := hT
   refine zA hX ?_
   refine rSeq ?_
   let x1 := (bif (decide (s2.2.2.1 = 0)) then true else (a6.getD (s2.2.2.1).toNat Zd7).1)
   refine zA hX ?_
   refine rJoinK hT (fun v2 => ⟨[(1, .v (.c (.fz (.int .i64) a8))), (4, .v (.c (.val (.slice none 0 0)))), (5, .v (.c (.sl 1 0 s2.1 1))), (6, .v (.c (.int .i64 v2))), (7, .v (.c (.int .i64 s2.2.2.1))), (8, .v (.c (.ptr 2 0 0 0 0 0))), (10, .v (.c (.fz Zs1 a6))), (11, .v (.c (.int .i64 (a6.length : Int)))), (12, .v (.c (.int .i64 s2.2.2.1))), (13, .v (.c (.bool (decide (s2.2.2.1 < (a6.length : Int)))))), (14, .v (.c (.int .i64 s2.2.2.1))), (15, .v (.c (.fp Zs1 (a6.getD (s2.2.2.1).toNat Zd7) 0 0 0))), (16, .v (.agg [.cs [.bool (a6.getD (s2.2.2.1).toNat Zd7).1, .int .i64 (a6.getD (s2.2.2.1).toNat Zd7).2.1, .int .i64 (a6.getD (s2.2.2.1).toNat Zd7).2.2.1, .fz Zs2 (a6.getD (s2.2.2.1).toNat Zd7).2.2.2]])), (17, .v (.c (.int .i64 s2.2.2.1))), (18, .v (.c (.bool (decide (s2.2.2.1 = 0))))), (19, .v (.c (.bool (decide (s2.2.2.1 = 0))))), (22, .v (.c (.bool x1)))], [(1, .mem true 3 (some 1) (.flat [.ints s2.2.2.2.1 .i64 s2.2.2.2.2])), (2, .mem true 49 none (.flat [.cs [.bool (a6.getD (s2.2.2.1).toNat Zd7).1, .int .i64 (a6.getD (s2.2.2.1).toNat Zd7).2.1, .int .i64 (a6.getD (s2.2.2.1).toNat Zd7).2.2.1, .fz Zs2 (a6.getD (s2.2.2.1).toNat Zd7).2.2.2]]))], 3⟩) (fun v2 hT => ?_) (fun k1 hjk1 hT => ?_)
   ·
    refine rThen ?_
    replace hT := sIf hT; obtain ⟨⟨o1, o2, o3, o4⟩, hT⟩ := hT
    refine zReg md0 hX rfl rfl rfl ?_
    refine rInNormal (rThen ?_)
    replace hT := sIf hT; obtain ⟨o1, hT⟩ := hT
    refine zReg md0 hX rfl rfl rfl ?_
    exact hnexts2 _ (Option.some.inj hT).symm _ (To.mk' [0, 4] 0 hε rfl zL zL)
   ·
    refine zCond rfl rfl (fun hc => ?_) (fun hc => ?_)
    ·
     replace hT := sT hc hT
     refine zA hX ?_
     refine zA hX ?_
     refine zCond rfl rfl (fun hc => ?_) (fun hc => ?_)
     ·
      replace hT := sT hc hT
      let c1 := (whole_Clip N (a8.getD (s2.2.2.1).toNat 0) 1 31)
      replace hT := sIf hT; obtain ⟨⟨o1, o2, o3⟩, hT⟩ := hT
      refine zReg md0 hX rfl rfl rfl ?_
      exact zTo [] 0 hε (hjk1 _ hT)
     ·
      replace hT := sF hc hT
      refine rSkip ?_
      exact zTo [] 0 hε (hjk1 _ hT)
    ·
     replace hT := sF hc hT
     refine rSkip ?_
     exact zTo [] 0 hε (hjk1 _ hT)
  ·
   replace hT := sF hc hT
   refine rExit (rThenExit (rThenExit ?_))
   exact zTo [] 0 hε (hxs20 _ (houts2 _ (Option.some.inj hT).symm))
 ·
  cases h
def steps_Between_b2 (N : Nat) (a1 : Int) (a2 : Int) (s1 : Int) (s2 : Int) : Option (Int ⊕ (Int ⊕ (Int × Bool))) :=
 bif (decide (s2 < 2)) then
  if (0 : Int) ≤ s2 ∧ s2 < 2 ∧ (s2).toNat < 2 then
   let c1 := (steps_Next N a1 ((((List.replicate 2 0).set 0 s1).set 1 (-s1)).getD (s2).toNat 0))
   if c1.isSome = true then
    bif (decide ((c1.getD default) = a2)) then
     some (.inr (Sum.inl ((((List.replicate 2 0).set 0 s1).set 1 (-s1)).getD (s2).toNat 0)))
    else
     if inK .i64 (s2 + 1) then
      some (.inl (s2 + 1))
     else none
   else none
  else none
 else
  some (.inr (Sum.inr (s2, (decide (s2 < 2)))))
def steps_Between_b1 (N : Nat) (a1 : Int) (a2 : Int) (s1 : Int) : Option (Int ⊕ (Int ⊕ Unit)) :=
 bif (decide (s1 < 3)) then
  if inK .i64 (-s1) then
   (iter (steps_Between_b2 N a1 a2 s1) N 0).bind fun w2 =>
    (Sum.elim (fun v3 =>
     some (.inr (Sum.inl v3))
    )
     (fun v4 =>
      if inK .i64 (s1 + 1) then
       some (.inl (s1 + 1))
      else none
     )
    ) w2
  else none
 else
  some (.inr (Sum.inr ()))
def steps_Between (N : Nat) (a1 : Int) (a2 : Int) : Option (Int × Bool) :=
 let x3 := (bif (bif (bif (decide (a1 < 1)) then true else (decide (a2 < 1))) then true else (decide ((31 : Int) < a1))) then true else (decide ((31 : Int) < a2)))
 bif x3 then
  some (0, false)
 else
  (iter (steps_Between_b1 N a1 a2) N 0).bind fun w1 =>
   (Sum.elim (fun v1 =>
    some (v1, true)
   )
    (fun v2 =>
     some (0, false)
    )
   ) w1
def sp_steps_Between (N : Nat) : X.Spec := fun args lk => match args with
 | [.v (.c (.int .i64 a1)), .v (.c (.int .i64 a2))] => some ⟨(steps_Between N a1 a2).isSome = true, .tup [.c (.int .i64 ((steps_Between N a1 a2).getD default).1), .c (.bool ((steps_Between N a1 a2).getD default).2)], [], []⟩
 | _ => none
set_option maxRecDepth 100000 in
set_option maxHeartbeats 1000000 in
theorem ok_steps_Between (N : Nat) : FnOK Tryd.prog gt0 59 (sp_steps_Between N) := by
 refine fnOK_handed Tryd.func59 rfl (by kernel_rfl) tt_ok (ktCons (ok_steps_Next N) (ktNil)) ?_
 intro args lk r h hp
 unfold sp_steps_Between at h
 split at h
 ·
  rename_i a1 a2
  cases h
  obtain ⟨x, hx⟩ := Option.isSome_iff_exists.1 hp
  simp only [hx, Option.getD_some]
  refine hand0 rfl rfl (fun w0 M ε0 hX => ?_)
  refine rCount (fun hε => ?_)
  have hT : steps_Between N a1 a2 = some x := hx; clear hx hp; unfold steps_Between at hT
  refine zA hX ?_
  refine rSeq ?_
  let x3 := (bif (bif (bif (decide (a1 < 1)) then true else (decide (a2 < 1))) then true else (decide ((31 : Int) < a1))) then true else (decide ((31 : Int) < a2)))
  refine zA hX ?_
  refine zCond rfl rfl (fun hc => ?_) (fun hc => ?_)
  ·
   replace hT := sT hc hT
   refine zA hX ?_
   refine rRet (rThenRet ?_)
   have hy := Option.some.inj hT; subst hy
   exact zEnd0 hX rfl
  ·
   replace hT := sF hc hT
   refine rSkip (rThen (rSeq (zA hX ?_)))
   refine rBlock ?_
   replace hT := sBind hT; obtain ⟨w1, hl, hT⟩ := hT
   refine rJoinA (fun v1 => (Sum.inl v1) = w1) (fun v1 => ⟨[(4, .v (.c (.int .i64 v1))), (5, .v (.c (.bool true)))], [], 0⟩) .ret (fun v1 hv => ?_) (fun hxs10 => ?_)
   ·
    subst hv; clear hl; replace hT := (sElimL hT)
    refine rInRet (rThenRet ?_)
    have hy := Option.some.inj hT; subst hy
    exact zEnd0 hX rfl
   refine rJoinA (fun v2 => (Sum.inr v2) = w1) (fun v2 => ⟨[(4, .v (.c (.int .i64 0))), (5, .v (.c (.bool false)))], [], 0⟩) (.exit 0) (fun v2 hv => ?_) (fun hxs11 => ?_)
   ·
    subst hv; clear hl; replace hT := (sElimR hT)
    refine rInHit (rThen (zA hX ?_))
    refine rRet ?_
    have hy := Option.some.inj hT; subst hy
    exact zEnd0 hX rfl
   refine rLoopM (steps_Between_b1 N a1 a2) (fun s1 => ⟨[(0, .v (.c (.int .i64 a1))), (1, .v (.c (.int .i64 a2))), (4, .v (.c (.int .i64 0))), (5, .v (.c (.bool false))), (23, .v (.c (.int .i64 s1)))], [], 0⟩) hl (To.mk' [] 0 hε rfl zL zL) (fun s1 zs1 NNs1 hz hnexts1 houts1 => ?_)
   clear hl hT
   have hT := hz; clear hz
   refine zA hX ?_
   refine rSeq ?_
   refine zCond rfl rfl (fun hc => ?_) (fun hc => ?_)
   ·
    replace hT := sT hc hT
    refine rSkip (rThen (rSeq (rBlock (zA hX ?_))))
    replace hT := sIf hT; obtain ⟨o1, hT⟩ := hT
    refine zA hX ?_
    refine rBlock ?_
    replace hT := sBind hT; obtain ⟨w2, hl, hT⟩ := hT
    refine rJoinA (fun v3 => (Sum.inl v3) = w2) (fun v3 => ⟨[(4, .v (.c (.int .i64 v3))), (5, .v (.c (.bool true)))], [], 1⟩) .ret (fun v3 hv => ?_) (fun hxs20 => ?_)
    ·
     subst hv; clear hl; replace hT := (sElimL hT)
     refine rInRet (rInRet (rThenRet (rThenRet ?_)))
     exact zTo [] 0 hε (hxs10 _ (houts1 _ (Option.some.inj hT).symm))
    refine rJoinA (fun v4 => (Sum.inr v4) = w2) (fun v4 => ⟨[(0, .v (.c (.int .i64 a1))), (1, .v (.c (.int .i64 a2))), (4, .v (.c (.int .i64 0))), (5, .v (.c (.bool false))), (6, .v (.c (.int .i64 s1))), (23, .v (.c (.int .i64 s1))), (24, .v (.c (.bool (decide (s1 < 3))))), (25, .v (.c (.int .i64 s1))), (26, .v (.c (.int .i64 s1))), (27, .v (.c (.int .i64 s1))), (28, .v (.c (.int .i64 (-s1)))), (29, .v (.c (.sl 0 0 2 1))), (30, .v (.c (.int .i64 2))), (31, .v (.c (.int .i64 v4.1))), (32, .v (.c (.bool v4.2)))], [(0, .mem true 3 (some 1) (.flat [.ints 2 .i64 (((List.replicate 2 0).set 0 s1).set 1 (-s1))]))], 1⟩) (.exit 2) (fun v4 hv => ?_) (fun hxs21 => ?_)
    ·
     subst hv; clear hl; replace hT := (sElimR hT)
     refine rInHit (rInNormal (rThen ?_))
     replace hT := sIf hT; obtain ⟨o1, hT⟩ := hT
     refine zReg md0 hX rfl rfl rfl ?_
     exact hnexts1 _ (Option.some.inj hT).symm _ (To.mk' [] 0 hε rfl zL zL)
    refine rLoopM (steps_Between_b2 N a1 a2 s1) (fun s2 => ⟨[(0, .v (.c (.int .i64 a1))), (1, .v (.c (.int .i64 a2))), (4, .v (.c (.int .i64 0))), (5, .v (.c (.bool false))), (6, .v (.c (.int .i64 s1))), (23, .v (.c (.int .i64 s1))), (24, .v (.c (.bool (decide (s1 < 3))))), (25, .v (.c (.int .i64 s1))), (26, .v (.c (.int .i64 s1))), (27, .v (.c (.int .i64 s1))), (28, .v (.c (.int .i64 (-s1)))), (29, .v (.c (.sl 0 0 2 1))), (30, .v (.c (.int .i64 2))), (31, .v (.c (.int .i64 s2)))], [(0, .mem true 3 (some 1) (.flat [.ints 2 .i64 (((List.replicate 2 0).set 0 s1).set 1 (-s1))]))], 1⟩) hl (To.mk' [] 0 hε rfl zL zL) (fun s2 zs2 NNs2 hz hnexts2 houts2 => ?_)
    clear hl hT
    have hT := hz; clear hz
    refine zA hX ?_
    refine rSeq ?_
    refine zCond rfl rfl (fun hc => ?_) (fun hc => ?_)
    ·
     replace hT := sT hc hT
     refine rSkip (rThen (rSeq (rBlock ?_)))
     replace hT := sIf hT; obtain ⟨⟨o1, o2, o3⟩, hT⟩ := hT
     refine zA hX ?_
     let c1 := (steps_Next N a1 ((((List.replicate 2 0).set 0 s1).set 1 (-s1)).getD (s2).toNat 0))
     replace hT := sIf hT; obtain ⟨o1, hT⟩ := hT
     refine zA hX ?_
     refine zCond rfl rfl (fun hc => ?_) (fun hc => ?_)
     ·
      replace hT := sT hc hT
      refine zA hX ?_
      refine rRet (rInRet (rThenRet (rThenRet ?_)))
      exact zTo [] 0 hε (hxs20 _ (houts2 _ (Option.some.inj hT).symm))
     ·
      replace hT := sF hc hT
      refine rSkip (rInNormal (rThen ?_))
      replace hT := sIf hT; obtain ⟨o1, hT⟩ := hT
      refine zReg md0 hX rfl rfl rfl ?_
      exact hnexts2 _ (Option.some.inj hT).symm _ (To.mk' [] 0 hε rfl zL zL)
    ·
     replace hT := sF hc hT
     refine rExit (rThenExit (rThenExit ?_))
     exact zTo [] 0 hε (hxs21 _ (houts2 _ (Option.some.inj hT).symm))
   ·
    replace hT := sF hc hT
    refine rExit (rThenExit (rThenExit ?_))
    exact zTo [] 0 hε (hxs11 _ (houts1 _ (Option.some.inj hT).symm))
 ·
  cases h
def chain_Of_1_b1 (N : Nat) (a1 : Int) (a2 : (List Int)) (a4 : (List Int)) (s1 : Zt16) : Option (Zt16 ⊕ (Nat × Nat × Nat × (List Int) × Nat × (List Int))) :=
 bif (decide (s1.2.1 < (a2.length : Int))) then
  if (0 : Int) ≤ s1.2.1 ∧ s1.2.1 < (a2.length : Int) then
   if (0 : Int) ≤ a1 ∧ a1 < (a4.length : Int) then
    let c1 := (steps_Between N s1.1 (max (a2.getD (s1.2.1).toNat 0) (a4.getD (a1).toNat 0)))
    if c1.isSome = true then
     let x2 : (List Int) := (s1.2.2.2.2.2.1 ++ (((List.replicate 1 0).set 0 (max (a2.getD (s1.2.1).toNat 0) (a4.getD (a1).toNat 0))).take 1))
     if 1 ≤ 1 ∧ s1.2.2.2.2.1 = s1.2.2.1 ∧ (s1.2.2.1 + 1) * 8 ≤ 140737488355328 ∧ s1.2.2.1 + 1 ≤ 9223372036854775807 ∧ s1.2.2.2.2.2.2.1 = s1.2.2.2.1 ∧ (s1.2.2.2.1 + 1) * 8 ≤ 140737488355328 ∧ s1.2.2.2.1 + 1 ≤ 9223372036854775807 then
      if inK .i64 (s1.2.1 + 1) then
       some (.inl ((max (a2.getD (s1.2.1).toNat 0) (a4.getD (a1).toNat 0)), (s1.2.1 + 1), (s1.2.2.1 + 1), (s1.2.2.2.1 + 1), (s1.2.2.2.2.1 + 1), x2, (s1.2.2.2.2.2.2.1 + 1), (s1.2.2.2.2.2.2.2 ++ (((List.replicate 1 0).set 0 (c1.getD default).1).take 1))))
      else none
     else none
    else none
   else none
  else none
 else
  some (.inr (s1.2.2.1, s1.2.2.2.1, s1.2.2.2.2.1, s1.2.2.2.2.2.1, s1.2.2.2.2.2.2.1, s1.2.2.2.2.2.2.2))
def chain_Of_1 (N : Nat) (a1 : Int) (a2 : (List Int)) (a3 : (List Int)) (a4 : (List Int)) (a5 : Int) (a6 : Nat) (a7 : Nat) (a8 : Nat) (a9 : Nat) (a10 : (List Int)) (a11 : Nat) (a12 : (List Int)) (a13 : Nat) (a14 : (List Int)) : Option Zt11 :=
 if (0 : Int) ≤ a1 ∧ a1 < (a3.length : Int) ∧ a1 < (a4.length : Int) then
  let x1 : (List Int) := (a10 ++ (((List.replicate 1 0).set 0 (max (a3.getD (a1).toNat 0) (a4.getD (a1).toNat 0))).take 1))
  if 1 ≤ 1 ∧ a9 = a6 ∧ (a6 + 1) * 8 ≤ 140737488355328 ∧ a6 + 1 ≤ 9223372036854775807 then
   (iter (chain_Of_1_b1 N a1 a2 a4) N ((max (a3.getD (a1).toNat 0) (a4.getD (a1).toNat 0)), 0, a7, a8, a11, a12, a13, a14)).bind fun v1 =>
    some (a5, (a6 + 1), v1.1, v1.2.1, (a9 + 1), x1, v1.2.2.1, v1.2.2.2.1, v1.2.2.2.2.1, v1.2.2.2.2.2)
  else none
 else none
def sp_chain_Of_1 (N : Nat) : X.Spec := fun args lk => match args with
 | [.v (.c (.int .i64 a1)), .v (.c (.fz (.int .i64) a2)), .v (.c (.ptr i0 0 0 0 0 0)), .v (.c (.ptr i1 0 0 0 0 0)), .v (.c (.ptr i2 0 0 0 0 0))] => (match lk i0 with
  | some (.mem _ _ _ (.flat [.cs [.fz (.int .i64) a3]])) => (match lk i1 with
  | some (.mem _ _ _ (.flat [.cs [.fz (.int .i64) a4]])) => (match lk i2 with
  | some (.bun 51 (.flat [.cs [.int .i64 a5, .sl 1 0 a6 1, .sl 2 0 a7 1, .sl 3 0 a8 1]]) [(3, 1, .flat [.ints a9 .i64 a10]), (3, 1, .flat [.ints a11 .i64 a12]), (3, 1, .flat [.ints a13 .i64 a14])]) => (match Nat.beq i0 i2 with
  | false => (match Nat.beq i1 i2 with
  | false => some ⟨(chain_Of_1 N a1 a2 a3 a4 a5 a6 a7 a8 a9 a10 a11 a12 a13 a14).isSome = true, .tup [], [], [(i2, .bun 51 (.flat [.cs [.int .i64 ((chain_Of_1 N a1 a2 a3 a4 a5 a6 a7 a8 a9 a10 a11 a12 a13 a14).getD default).1, .sl 1 0 ((chain_Of_1 N a1 a2 a3 a4 a5 a6 a7 a8 a9 a10 a11 a12 a13 a14).getD default).2.1 1, .sl 2 0 ((chain_Of_1 N a1 a2 a3 a4 a5 a6 a7 a8 a9 a10 a11 a12 a13 a14).getD default).2.2.1 1, .sl 3 0 ((chain_Of_1 N a1 a2 a3 a4 a5 a6 a7 a8 a9 a10 a11 a12 a13 a14).getD default).2.2.2.1 1]]) [(3, 1, .flat [.ints ((chain_Of_1 N a1 a2 a3 a4 a5 a6 a7 a8 a9 a10 a11 a12 a13 a14).getD default).2.2.2.2.1 .i64 ((chain_Of_1 N a1 a2 a3 a4 a5 a6 a7 a8 a9 a10 a11 a12 a13 a14).getD default).2.2.2.2.2.1]), (3, 1, .flat [.ints ((chain_Of_1 N a1 a2 a3 a4 a5 a6 a7 a8 a9 a10 a11 a12 a13 a14).getD default).2.2.2.2.2.2.1 .i64 ((chain_Of_1 N a1 a2 a3 a4 a5 a6 a7 a8 a9 a10 a11 a12 a13 a14).getD default).2.2.2.2.2.2.2.1]), (3, 1, .flat [.ints ((chain_Of_1 N a1 a2 a3 a4 a5 a6 a7 a8 a9 a10 a11 a12 a13 a14).getD default).2.2.2.2.2.2.2.2.1 .i64 ((chain_Of_1 N a1 a2 a3 a4 a5 a6 a7 a8 a9 a10 a11 a12 a13 a14).getD default).2.2.2.2.2.2.2.2.2])])]⟩
  | true => none)
  | true => none)
  | _ => none)
  | _ => none)
  | _ => none)
 | _ => none
set_option maxRecDepth 100000 in
set_option maxHeartbeats 1000000 in
theorem ok_chain_Of_1 (N : Nat) : FnOK Tryd.prog gt0 58 (sp_chain_Of_1 N) := by
 refine fnOK_handed Tryd.func58 rfl (by kernel_rfl) tt_ok (ktCons (ok_steps_Between N) (ktNil)) ?_
 intro args lk r h hp
 unfold sp_chain_Of_1 at h
 split at h
 ·
  rename_i a1 a2 i0 i1 i2
  split at h
  ·
   rename_i _ _ _ a3 hl0
   split at h
   ·
    rename_i _ _ _ a4 hl1
    split at h
    ·
     rename_i a5 a6 a7 a8 a9 a10 a11 a12 a13 a14 hl2
     split at h
     ·
      rename_i hb0_2
      split at h
      ·
       rename_i hb1_2
       change (List Int) at a2
       change (List Int) at a3
       change (List Int) at a4
       change (List Int) at a10
       change (List Int) at a12
       change (List Int) at a14
       cases h
       obtain ⟨x, hx⟩ := Option.isSome_iff_exists.1 hp
       simp only [hx, Option.getD_some]
       refine handL [i0, i1, i2] 3 [(0, .mem false 22 none (.flat [.cs [.fz (.int .i64) a3]])), (1, .mem false 22 none (.flat [.cs [.fz (.int .i64) a4]])), (2, .bun 51 (.flat [.cs [.int .i64 a5, .sl 1 0 a6 1, .sl 2 0 a7 1, .sl 3 0 a8 1]]) [(3, 1, .flat [.ints a9 .i64 a10]), (3, 1, .flat [.ints a11 .i64 a12]), (3, 1, .flat [.ints a13 .i64 a14])])] [.v (.c (.int .i64 a1)), .v (.c (.fz (.int .i64) a2)), .v (.c (.ptr 0 0 0 0 0 0)), .v (.c (.ptr 1 0 0 0 0 0)), .v (.c (.ptr 2 0 0 0 0 0))] rfl rfl rfl ⟨isSome_of hl2, isSome_of hl1, isSome_of hl0, trivial⟩ ⟨⟨rfl, zT, _, hl0, sub_ro⟩, ⟨rfl, zT, _, hl1, sub_ro⟩, ⟨rfl, zT, _, hl2, .inl rfl⟩, trivial⟩ (by simp [apartB, allB, rn, nth, E.own, hb0_2, beq_ff hb0_2, hb1_2, beq_ff hb1_2]) (fun w0 M ε0 hX => ?_)
       refine rCount (fun hε => ?_)
       have hT : chain_Of_1 N a1 a2 a3 a4 a5 a6 a7 a8 a9 a10 a11 a12 a13 a14 = some x := hx; clear hx hp; unfold chain_Of_1 at hT
       replace hT := sIf hT; obtain ⟨⟨o1, o2, o3⟩, hT⟩ := hT
       refine rSeq (zDraw md0 0 [] hX mixed rfl rfl rfl rfl rfl ?_)
       refine rThen (rSeq (rBunOpen 2 rfl rfl rfl rfl ?_))
       refine rToW (T := ⟨[(0, .v (.c (.int .i64 a1))), (1, .v (.c (.fz (.int .i64) a2))), (3, .v (.c (.ptr 1 0 0 0 0 0))), (4, .v (.c (.ptr 2 0 0 0 0 0))), (7, .v (.c (.int .i64 (max (a3.getD (a1).toNat 0) (a4.getD (a1).toNat 0)))))], [(0, .mem false 22 none (.flat [.cs [.fz (.int .i64) a3]])), (1, .mem false 22 none (.flat [.cs [.fz (.int .i64) a4]])), (2, .mem true 51 none (.flat [.cs [.int .i64 a5, .sl 3 0 a6 1, .sl 4 0 a7 1, .sl 5 0 a8 1]])), (3, .mem true 3 (some 1) (.flat [.ints a9 .i64 a10])), (4, .mem true 3 (some 1) (.flat [.ints a11 .i64 a12])), (5, .mem true 3 (some 1) (.flat [.ints a13 .i64 a14]))], 6⟩) (To.mk' [] 3 hε rfl zL zL) ?_
       let x1 : (List Int) := (a10 ++ (((List.replicate 1 0).set 0 (max (a3.getD (a1).toNat 0) (a4.getD (a1).toNat 0))).take 1))
       replace hT := sIf hT; obtain ⟨⟨o1, o2, o3, o4⟩, hT⟩ := hT
       refine zReg md0 hX rfl rfl rfl ?_
       refine rThen (zA hX ?_)
       refine rBlock ?_
       replace hT := sBind hT; obtain ⟨w1, hl, hT⟩ := hT
       refine rJoinA (fun v1 => v1 = w1) (fun v1 => ⟨[], [(0, .mem false 22 none (.flat [.cs [.fz (.int .i64) a3]])), (1, .mem false 22 none (.flat [.cs [.fz (.int .i64) a4]])), (2, .mem true 51 none (.flat [.cs [.int .i64 a5, .sl 7 0 (a6 + 1) 1, .sl 4 0 v1.1 1, .sl 5 0 v1.2.1 1]])), (4, .mem true 3 (some 1) (.flat [.ints v1.2.2.1 .i64 v1.2.2.2.1])), (5, .mem true 3 (some 1) (.flat [.ints v1.2.2.2.2.1 .i64 v1.2.2.2.2.2])), (7, .mem true 3 (some 1) (.flat [.ints (a9 + 1) .i64 x1]))], 8⟩) (.exit 0) (fun v1 hv => ?_) (fun hxs10 => ?_)
       ·
        subst hv; clear hl
        refine rInHit (rNormal (rBunShutQ 2 [7, 4, 5] (.flat [.cs [.int .i64 a5, .sl 1 0 (a6 + 1) 1, .sl 2 0 v1.1 1, .sl 3 0 v1.2.1 1]]) [(3, 1, .flat [.ints (a9 + 1) .i64 x1]), (3, 1, .flat [.ints v1.2.2.1 .i64 v1.2.2.2.1]), (3, 1, .flat [.ints v1.2.2.2.2.1 .i64 v1.2.2.2.2.2])] rfl rfl zT zT rfl rfl ?_))
        have hy := Option.some.inj hT; subst hy
        exact rEndA [] [] [(2, .bun 51 (.flat [.cs [.int .i64 a5, .sl 1 0 (a6 + 1) 1, .sl 2 0 v1.1 1, .sl 3 0 v1.2.1 1]]) [(3, 1, .flat [.ints (a9 + 1) .i64 x1]), (3, 1, .flat [.ints v1.2.2.1 .i64 v1.2.2.2.1]), (3, 1, .flat [.ints v1.2.2.2.2.1 .i64 v1.2.2.2.2.2])])] (.tup []) hX rfl zZ zL rfl rfl rfl zT rfl rfl zT rfl rfl
       refine rLoopM (chain_Of_1_b1 N a1 a2 a4) (fun s1 => ⟨[(0, .v (.c (.int .i64 a1))), (3, .v (.c (.ptr 1 0 0 0 0 0))), (4, .v (.c (.ptr 2 0 0 0 0 0))), (7, .v (.c (.int .i64 s1.1))), (27, .v (.c (.fz (.int .i64) a2))), (28, .v (.c (.int .i64 (a2.length : Int)))), (29, .v (.c (.int .i64 s1.2.1)))], [(0, .mem false 22 none (.flat [.cs [.fz (.int .i64) a3]])), (1, .mem false 22 none (.flat [.cs [.fz (.int .i64) a4]])), (2, .mem true 51 none (.flat [.cs [.int .i64 a5, .sl 7 0 (a6 + 1) 1, .sl 4 0 s1.2.2.1 1, .sl 5 0 s1.2.2.2.1 1]])), (4, .mem true 3 (some 1) (.flat [.ints s1.2.2.2.2.1 .i64 s1.2.2.2.2.2.1])), (5, .mem true 3 (some 1) (.flat [.ints s1.2.2.2.2.2.2.1 .i64 s1.2.2.2.2.2.2.2])), (7, .mem true 3 (some 1) (.flat [.ints (a9 + 1) .i64 x1]))], 8⟩) hl (To.mk' [] 3 hε rfl zL zL) (fun s1 zs1 NNs1 hz hnexts1 houts1 => ?_)
       clear hl hT
       have hT := hz; clear hz
       refine zA hX ?_
       refine rSeq ?_
       refine zCond rfl rfl (fun hc => ?_) (fun hc => ?_)
       ·
        replace hT := sT hc hT
        refine rSkip (rThen (rSeq (rBlock ?_)))
        replace hT := sIf hT; obtain ⟨⟨o1, o2⟩, hT⟩ := hT
        refine zA hX ?_
        replace hT := sIf hT; obtain ⟨⟨o1, o2⟩, hT⟩ := hT
        refine zA hX ?_
        let c1 := (steps_Between N s1.1 (max (a2.getD (s1.2.1).toNat 0) (a4.getD (a1).toNat 0)))
        replace hT := sIf hT; obtain ⟨o1, hT⟩ := hT
        refine zA hX ?_
        let x2 : (List Int) := (s1.2.2.2.2.2.1 ++ (((List.replicate 1 0).set 0 (max (a2.getD (s1.2.1).toNat 0) (a4.getD (a1).toNat 0))).take 1))
        replace hT := sIf hT; obtain ⟨⟨o1, o2, o3, o4, o5, o6, o7⟩, hT⟩ := hT
        refine rDrawG md0 [3, 4, 8, 9, 12, 14] 7 hX mixed rfl rfl rfl rfl rfl rfl zP zL ?_ (fun k => ⟨rTo (To.mk' [0, 1, 2, 3, 4, 5, 6, 7, 8, 10, 9, 11] 3 hε rfl zL zL) k, rTo (To.mk' [0, 1, 2, 3, 4, 5, 6, 7, 9, 10, 8, 11] 3 hε rfl zL zL) k, trivial⟩)
        refine rInNormal (rThen ?_)
        replace hT := sIf hT; obtain ⟨o1, hT⟩ := hT
        refine zReg md0 hX rfl rfl rfl ?_
        exact hnexts1 _ (Option.some.inj hT).symm _ (To.mk' [0, 1, 2, 3, 9, 11, 6, 7] 3 hε rfl zL zL)
       ·
        replace hT := sF hc hT
        refine rExit (rThenExit (rThenExit ?_))
        exact zTo [] 3 hε (hxs10 _ (houts1 _ (Option.some.inj hT).symm))
      ·
       cases h
     ·
      cases h
    ·
     cases h
   ·
    cases h
  ·
   cases h
 ·
  cases h
def chain_Of_b1 (N : Nat) (a6 : Zt1) (c2 : (Option ((List Int) × Int))) (c3 : (Option (List Int))) (s2 : Zt4) : Option (Zt4 ⊕ Zt11) :=
 bif (decide (s2.2.1 < (a6.length : Int))) then
  if (0 : Int) ≤ s2.2.1 ∧ s2.2.1 < (a6.length : Int) then
   let c4 := (chain_Of_1 N s2.2.1 (s2.1.take ((a6.getD (s2.2.1).toNat Zd7).2.2.2.length : Int).toNat) (c2.getD default).1 (c3.getD default) s2.2.2.1 s2.2.2.2.1 s2.2.2.2.2.1 s2.2.2.2.2.2.1 s2.2.2.2.2.2.2.1 s2.2.2.2.2.2.2.2.1 s2.2.2.2.2.2.2.2.2.1 s2.2.2.2.2.2.2.2.2.2.1 s2.2.2.2.2.2.2.2.2.2.2.1 s2.2.2.2.2.2.2.2.2.2.2.2)
   if (0 : Int) ≤ ((a6.getD (s2.2.1).toNat Zd7).2.2.2.length : Int) ∧ ((a6.getD (s2.2.1).toNat Zd7).2.2.2.length : Int) ≤ (s2.1.length : Int) ∧ c4.isSome = true then
    let x2 := (s2.1.drop ((a6.getD (s2.2.1).toNat Zd7).2.2.2.length : Int).toNat)
    if (0 : Int) ≤ ((a6.getD (s2.2.1).toNat Zd7).2.2.2.length : Int) ∧ ((a6.getD (s2.2.1).toNat Zd7).2.2.2.length : Int) ≤ (s2.1.length : Int) then
     if inK .i64 (s2.2.1 + 1) then
      some (.inl (x2, (s2.2.1 + 1), (c4.getD default).1, (c4.getD default).2.1, (c4.getD default).2.2.1, (c4.getD default).2.2.2.1, (c4.getD default).2.2.2.2.1, (c4.getD default).2.2.2.2.2.1, (c4.getD default).2.2.2.2.2.2.1, (c4.getD default).2.2.2.2.2.2.2.1, (c4.getD default).2.2.2.2.2.2.2.2.1, (c4.getD default).2.2.2.2.2.2.2.2.2))
     else none
    else none
   else none
  else none
 else
  some (.inr (s2.2.2.1, s2.2.2.2.1, s2.2.2.2.2.1, s2.2.2.2.2.2.1, s2.2.2.2.2.2.2.1, s2.2.2.2.2.2.2.2.1, s2.2.2.2.2.2.2.2.2.1, s2.2.2.2.2.2.2.2.2.2.1, s2.2.2.2.2.2.2.2.2.2.2.1, s2.2.2.2.2.2.2.2.2.2.2.2))
def chain_Of (N : Nat) (a1 : Int) (a2 : Int) (a3 : Int) (a4 : Bool) (a5 : Int) (a6 : Zt1) (a7 : Int) (a8 : (List Int)) : Option Zt13 :=
 let c1 := (quants_Of N a1 a2 a3 a4 a5 a6 a7)
 if c1.isSome = true then
  bif (decide ((c1.getD default).2 ≠ 0)) then
   some (0, [], [], [], (c1.getD default).2)
  else
   let c2 := (quants_First N a1 a2 a3 a4 a5 a6 a7)
   if c2.isSome = true then
    let c3 := (chain_Floors N a1 a2 a3 a4 a5 a6 a7 a8)
    if c3.isSome = true then
     (iter (chain_Of_b1 N a6 c2 c3) N ((c1.getD default).1, 0, 0, 0, 0, 0, 0, [], 0, [], 0, [])).bind fun v1 =>
      if (0 : Int) < (v1.2.1 : Int) ∧ 0 < v1.2.2.2.2.1 then
       if v1.2.1 = v1.2.2.2.2.2.1.length ∧ v1.2.2.1 = v1.2.2.2.2.2.2.2.1.length ∧ v1.2.2.2.1 = v1.2.2.2.2.2.2.2.2.2.length then
        some ((v1.2.2.2.2.2.1.getD 0 0), v1.2.2.2.2.2.1, v1.2.2.2.2.2.2.2.1, v1.2.2.2.2.2.2.2.2.2, 0)
       else none
      else none
    else none
   else none
 else none
def sp_chain_Of (N : Nat) : X.Spec := fun args lk => match args with
 | [.v (.agg [.cs [.int .i64 a1, .int .i64 a2, .int .i64 a3, .bool a4, .int .i64 a5, .val (.slice none 0 0), .fz (.pair .bool (.pair (.int .i64) (.pair (.int .i64) (.sl (.pair (.int .i64) (.pair .bool (.pair (.int .i64) (.pair (.int .i64) (.pair (.arr 2 .i64) (.pair (.arr 6 .i64) (.arrS 6 (.pair .bool (.pair (.int .i64) (.int .i64)))))))))))))) a6, .int .i64 a7]]), .v (.c (.fz (.int .i64) a8))] => some ⟨(chain_Of N a1 a2 a3 a4 a5 a6 a7 a8).isSome = true, .tup [.agg [.cs [.int .i64 ((chain_Of N a1 a2 a3 a4 a5 a6 a7 a8).getD default).1, .fz (.int .i64) ((chain_Of N a1 a2 a3 a4 a5 a6 a7 a8).getD default).2.1, .fz (.int .i64) ((chain_Of N a1 a2 a3 a4 a5 a6 a7 a8).getD default).2.2.1, .fz (.int .i64) ((chain_Of N a1 a2 a3 a4 a5 a6 a7 a8).getD default).2.2.2.1]], .c (.int .i64 ((chain_Of N a1 a2 a3 a4 a5 a6 a7 a8).getD default).2.2.2.2)], [], []⟩
 | _ => none
set_option maxRecDepth 100000 in
set_option maxHeartbeats 1000000 in
theorem ok_chain_Of (N : Nat) : FnOK Tryd.prog gt0 28 (sp_chain_Of N) := by
 refine fnOK_handed Tryd.func28 rfl (by kernel_rfl) tt_ok (ktCons (ok_chain_Of_1 N) (ktCons (ok_chain_Floors N) (ktCons (ok_quants_First N) (ktCons (ok_quants_Of N) (ktNil))))) ?_
 intro args lk r h hp
 unfold sp_chain_Of at h
 split at h
 ·
  rename_i a1 a2 a3 a4 a5 a6 a7 a8
  change Zt1 at a6
  change (List Int) at a8
  cases h
  obtain ⟨x, hx⟩ := Option.isSome_iff_exists.1 hp
  simp only [hx, Option.getD_some]
  refine hand0 rfl rfl (fun w0 M ε0 hX => ?_)
  refine rCount (fun hε => ?_)
  have hT : chain_Of N a1 a2 a3 a4 a5 a6 a7 a8 = some x := hx; clear hx hp; unfold chain_Of at hT
  refine zA hX ?_
  let c1 := (quants_Of N a1 a2 a3 a4 a5 a6 a7)
  replace hT := sIf hT; obtain ⟨o1, hT⟩ := hT
  refine zA hX ?_
  refine rSeq (zA hX ?_)
  refine zCond rfl rfl (fun hc => ?_) (fun hc => ?_)
  ·
   replace hT := sT hc hT
   refine zA hX ?_
   refine rRet (rThenRet ?_)
   have hy := Option.some.inj hT; subst hy
   exact zEnd0 hX rfl
  ·
   replace hT := sF hc hT
   refine rSkip (rThen ?_)
   let c2 := (quants_First N a1 a2 a3 a4 a5 a6 a7)
   replace hT := sIf hT; obtain ⟨o1, hT⟩ := hT
   refine zA hX ?_
   let c3 := (chain_Floors N a1 a2 a3 a4 a5 a6 a7 a8)
   replace hT := sIf hT; obtain ⟨o1, hT⟩ := hT
   refine zA hX ?_
   refine zA hX ?_
   refine zA hX ?_
   refine rSeq (zA hX ?_)
   refine rBlock (rNil 3 1 (.flat [.ints 0 .i64 []]) [(4, .v (.c (.ptr 2 0 0 0 0 0))), (5, .v (.c (.int .i64 0))), (6, .v (.c (.fz (.int .i64) (c1.getD default).1))), (10, .v (.c (.ptr 4 0 0 0 0 0))), (11, .v (.c (.clo 58 [3, 1, 4]))), (34, .v (.c (.fz Zs1 a6))), (35, .v (.c (.int .i64 (a6.length : Int)))), (36, .v (.c (.int .i64 0)))] [(1, .mem true 22 none (.flat [.cs [.fz (.int .i64) (c3.getD default)]])), (2, .mem true 51 none (.flat [.cs [.int .i64 0, .val (.slice none 0 0), .val (.slice none 0 0), .val (.slice none 0 0)]])), (3, .mem true 22 none (.flat [.cs [.fz (.int .i64) (c2.getD default).1]])), (4, .mem true 51 none (.flat [.cs [.int .i64 0, .sl 5 0 0 1, .val (.slice none 0 0), .val (.slice none 0 0)]]))] (nil_ints _) zF zF ?_)
   refine rNil 3 1 (.flat [.ints 0 .i64 []]) [(4, .v (.c (.ptr 2 0 0 0 0 0))), (5, .v (.c (.int .i64 0))), (6, .v (.c (.fz (.int .i64) (c1.getD default).1))), (10, .v (.c (.ptr 4 0 0 0 0 0))), (11, .v (.c (.clo 58 [3, 1, 4]))), (34, .v (.c (.fz Zs1 a6))), (35, .v (.c (.int .i64 (a6.length : Int)))), (36, .v (.c (.int .i64 0)))] [(1, .mem true 22 none (.flat [.cs [.fz (.int .i64) (c3.getD default)]])), (2, .mem true 51 none (.flat [.cs [.int .i64 0, .val (.slice none 0 0), .val (.slice none 0 0), .val (.slice none 0 0)]])), (3, .mem true 22 none (.flat [.cs [.fz (.int .i64) (c2.getD default).1]])), (4, .mem true 51 none (.flat [.cs [.int .i64 0, .sl 5 0 0 1, .sl 6 0 0 1, .val (.slice none 0 0)]])), (5, .mem true 3 (some 1) (.flat [.ints 0 .i64 []]))] (nil_ints _) zF zF ?_
   refine rNil 3 1 (.flat [.ints 0 .i64 []]) [(4, .v (.c (.ptr 2 0 0 0 0 0))), (5, .v (.c (.int .i64 0))), (6, .v (.c (.fz (.int .i64) (c1.getD default).1))), (10, .v (.c (.ptr 4 0 0 0 0 0))), (11, .v (.c (.clo 58 [3, 1, 4]))), (34, .v (.c (.fz Zs1 a6))), (35, .v (.c (.int .i64 (a6.length : Int)))), (36, .v (.c (.int .i64 0)))] [(1, .mem true 22 none (.flat [.cs [.fz (.int .i64) (c3.getD default)]])), (2, .mem true 51 none (.flat [.cs [.int .i64 0, .val (.slice none 0 0), .val (.slice none 0 0), .val (.slice none 0 0)]])), (3, .mem true 22 none (.flat [.cs [.fz (.int .i64) (c2.getD default).1]])), (4, .mem true 51 none (.flat [.cs [.int .i64 0, .sl 5 0 0 1, .sl 6 0 0 1, .sl 7 0 0 1]])), (5, .mem true 3 (some 1) (.flat [.ints 0 .i64 []])), (6, .mem true 3 (some 1) (.flat [.ints 0 .i64 []]))] (nil_ints _) zF zF ?_
   refine rBunShut 4 [5, 6, 7] (.flat [.cs [.int .i64 0, .sl 1 0 0 1, .sl 2 0 0 1, .sl 3 0 0 1]]) [(3, 1, .flat [.ints 0 .i64 []]), (3, 1, .flat [.ints 0 .i64 []]), (3, 1, .flat [.ints 0 .i64 []])] rfl rfl zT zT rfl rfl ?_
   refine rToW (T := ⟨[(4, .v (.c (.ptr 2 0 0 0 0 0))), (5, .v (.c (.int .i64 0))), (6, .v (.c (.fz (.int .i64) (c1.getD default).1))), (10, .v (.c (.ptr 4 0 0 0 0 0))), (11, .v (.c (.clo 58 [3, 1, 4]))), (34, .v (.c (.fz Zs1 a6))), (35, .v (.c (.int .i64 (a6.length : Int)))), (36, .v (.c (.int .i64 0)))], [(1, .mem true 22 none (.flat [.cs [.fz (.int .i64) (c3.getD default)]])), (2, .mem true 51 none (.flat [.cs [.int .i64 0, .val (.slice none 0 0), .val (.slice none 0 0), .val (.slice none 0 0)]])), (3, .mem true 22 none (.flat [.cs [.fz (.int .i64) (c2.getD default).1]])), (4, .bun 51 (.flat [.cs [.int .i64 0, .sl 1 0 0 1, .sl 2 0 0 1, .sl 3 0 0 1]]) [(3, 1, .flat [.ints 0 .i64 []]), (3, 1, .flat [.ints 0 .i64 []]), (3, 1, .flat [.ints 0 .i64 []])])], 8⟩) (To.mk' [] 0 hε rfl zL zL) ?_
   replace hT := sBind hT; obtain ⟨w1, hl, hT⟩ := hT
   refine rJoinA (fun v1 => v1 = w1) (fun v1 => ⟨[(4, .v (.c (.ptr 2 0 0 0 0 0))), (5, .v (.c (.int .i64 0))), (10, .v (.c (.ptr 4 0 0 0 0 0)))], [(2, .mem true 51 none (.flat [.cs [.int .i64 0, .val (.slice none 0 0), .val (.slice none 0 0), .val (.slice none 0 0)]])), (4, .bun 51 (.flat [.cs [.int .i64 v1.1, .sl 1 0 v1.2.1 1, .sl 2 0 v1.2.2.1 1, .sl 3 0 v1.2.2.2.1 1]]) [(3, 1, .flat [.ints v1.2.2.2.2.1 .i64 v1.2.2.2.2.2.1]), (3, 1, .flat [.ints v1.2.2.2.2.2.2.1 .i64 v1.2.2.2.2.2.2.2.1]), (3, 1, .flat [.ints v1.2.2.2.2.2.2.2.2.1 .i64 v1.2.2.2.2.2.2.2.2.2])])], 8⟩) (.exit 0) (fun v1 hv => ?_) (fun hxs20 => ?_)
   ·
    subst hv; clear hl
    refine rInHit (rThen (rSeq (rBunOpen 4 rfl rfl rfl rfl ?_)))
    refine rToW (T := ⟨[(4, .v (.c (.ptr 2 0 0 0 0 0))), (5, .v (.c (.int .i64 0))), (10, .v (.c (.ptr 4 0 0 0 0 0)))], [(2, .mem true 51 none (.flat [.cs [.int .i64 0, .val (.slice none 0 0), .val (.slice none 0 0), .val (.slice none 0 0)]])), (4, .mem true 51 none (.flat [.cs [.int .i64 v1.1, .sl 8 0 v1.2.1 1, .sl 9 0 v1.2.2.1 1, .sl 10 0 v1.2.2.2.1 1]])), (8, .mem true 3 (some 1) (.flat [.ints v1.2.2.2.2.1 .i64 v1.2.2.2.2.2.1])), (9, .mem true 3 (some 1) (.flat [.ints v1.2.2.2.2.2.2.1 .i64 v1.2.2.2.2.2.2.2.1])), (10, .mem true 3 (some 1) (.flat [.ints v1.2.2.2.2.2.2.2.2.1 .i64 v1.2.2.2.2.2.2.2.2.2]))], 11⟩) (To.mk' [] 0 hε rfl zL zL) ?_
    replace hT := sIf hT; obtain ⟨⟨o1, o2⟩, hT⟩ := hT
    refine zReg md0 hX rfl rfl rfl ?_
    refine rThen (zA hX ?_)
    refine rRet ?_
    replace hT := sIf hT; obtain ⟨⟨p1, p2, p3⟩, hT⟩ := hT
    refine rFreezeQ 8 (.int .i64) v1.2.2.2.2.2.1 [(4, .v (.c (.ptr 2 0 0 0 0 0))), (5, .v (.c (.int .i64 0)))] [(2, .mem true 51 none (.flat [.cs [.int .i64 (v1.2.2.2.2.2.1.getD 0 0), .fz (.int .i64) v1.2.2.2.2.2.1, .sl 9 0 v1.2.2.1 1, .sl 10 0 v1.2.2.2.1 1]])), (9, .mem true 3 (some 1) (.flat [.ints v1.2.2.2.2.2.2.1 .i64 v1.2.2.2.2.2.2.2.1])), (10, .mem true 3 (some 1) (.flat [.ints v1.2.2.2.2.2.2.2.2.1 .i64 v1.2.2.2.2.2.2.2.2.2]))] rfl rfl zF zF ?_
    refine rFreezeQ 9 (.int .i64) v1.2.2.2.2.2.2.2.1 [(4, .v (.c (.ptr 2 0 0 0 0 0))), (5, .v (.c (.int .i64 0)))] [(2, .mem true 51 none (.flat [.cs [.int .i64 (v1.2.2.2.2.2.1.getD 0 0), .fz (.int .i64) v1.2.2.2.2.2.1, .fz (.int .i64) v1.2.2.2.2.2.2.2.1, .sl 10 0 v1.2.2.2.1 1]])), (10, .mem true 3 (some 1) (.flat [.ints v1.2.2.2.2.2.2.2.2.1 .i64 v1.2.2.2.2.2.2.2.2.2]))] rfl rfl zF zF ?_
    refine rFreezeQ 10 (.int .i64) v1.2.2.2.2.2.2.2.2.2 [(4, .v (.c (.ptr 2 0 0 0 0 0))), (5, .v (.c (.int .i64 0)))] [(2, .mem true 51 none (.flat [.cs [.int .i64 (v1.2.2.2.2.2.1.getD 0 0), .fz (.int .i64) v1.2.2.2.2.2.1, .fz (.int .i64) v1.2.2.2.2.2.2.2.1, .fz (.int .i64) v1.2.2.2.2.2.2.2.2.2]]))] rfl rfl zF zF ?_
    have hy := Option.some.inj hT; subst hy
    exact zEnd0 hX rfl
   refine rLoopM (chain_Of_b1 N a6 c2 c3) (fun s2 => ⟨[(4, .v (.c (.ptr 2 0 0 0 0 0))), (5, .v (.c (.int .i64 0))), (6, .v (.c (.fz (.int .i64) s2.1))), (10, .v (.c (.ptr 4 0 0 0 0 0))), (11, .v (.c (.clo 58 [3, 1, 4]))), (34, .v (.c (.fz Zs1 a6))), (35, .v (.c (.int .i64 (a6.length : Int)))), (36, .v (.c (.int .i64 s2.2.1)))], [(1, .mem true 22 none (.flat [.cs [.fz (.int .i64) (c3.getD default)]])), (2, .mem true 51 none (.flat [.cs [.int .i64 0, .val (.slice none 0 0), .val (.slice none 0 0), .val (.slice none 0 0)]])), (3, .mem true 22 none (.flat [.cs [.fz (.int .i64) (c2.getD default).1]])), (4, .bun 51 (.flat [.cs [.int .i64 s2.2.2.1, .sl 1 0 s2.2.2.2.1 1, .sl 2 0 s2.2.2.2.2.1 1, .sl 3 0 s2.2.2.2.2.2.1 1]]) [(3, 1, .flat [.ints s2.2.2.2.2.2.2.1 .i64 s2.2.2.2.2.2.2.2.1]), (3, 1, .flat [.ints s2.2.2.2.2.2.2.2.2.1 .i64 s2.2.2.2.2.2.2.2.2.2.1]), (3, 1, .flat [.ints s2.2.2.2.2.2.2.2.2.2.2.1 .i64 s2.2.2.2.2.2.2.2.2.2.2.2])])], 8⟩) hl (To.mk' [] 0 hε rfl zL zL) (fun s2 zs2 NNs2 hz hnexts2 houts2 => ?_)
   clear hl hT
   have hT := hz; clear hz
   refine zA hX ?_
   refine rSeq ?_
   refine zCond rfl rfl (fun hc => ?_) (fun hc => ?_)
   ·
    replace hT := sT hc hT
    refine rSkip (rThen (rSeq (rBlock ?_)))
    replace hT := sIf hT; obtain ⟨⟨o1, o2⟩, hT⟩ := hT
    refine zA hX ?_
    refine zA hX ?_
    let c4 := (chain_Of_1 N s2.2.1 (s2.1.take ((a6.getD (s2.2.1).toNat Zd7).2.2.2.length : Int).toNat) (c2.getD default).1 (c3.getD default) s2.2.2.1 s2.2.2.2.1 s2.2.2.2.2.1 s2.2.2.2.2.2.1 s2.2.2.2.2.2.2.1 s2.2.2.2.2.2.2.2.1 s2.2.2.2.2.2.2.2.2.1 s2.2.2.2.2.2.2.2.2.2.1 s2.2.2.2.2.2.2.2.2.2.2.1 s2.2.2.2.2.2.2.2.2.2.2.2)
    replace hT := sIf hT; obtain ⟨⟨o1, o2, o3⟩, hT⟩ := hT
    refine zA hX ?_
    let x2 := (s2.1.drop ((a6.getD (s2.2.1).toNat Zd7).2.2.2.length : Int).toNat)
    replace hT := sIf hT; obtain ⟨⟨o1, o2⟩, hT⟩ := hT
    refine zReg md0 hX rfl rfl rfl ?_
    refine rInNormal (rThen ?_)
    replace hT := sIf hT; obtain ⟨o1, hT⟩ := hT
    refine zReg md0 hX rfl rfl rfl ?_
    exact hnexts2 _ (Option.some.inj hT).symm _ (To.mk' [] 0 hε rfl zL zL)
   ·
    replace hT := sF hc hT
    refine rExit (rThenExit (rThenExit ?_))
    exact zTo [] 0 hε (hxs20 _ (houts2 _ (Option.some.inj hT).symm))
 ·
  cases h
def ref30_Same_b1 (N : Nat) (a1 : (List Int)) (a2 : Nat) (a3 : (List Int)) (s1 : Int) : Option (Int ⊕ (Unit ⊕ Unit)) :=
 bif (decide (s1 < (a1.length : Int))) then
  if (0 : Int) ≤ s1 ∧ s1 < (a1.length : Int) ∧ s1 < (a2 : Int) ∧ (s1).toNat < 2 then
   bif (decide ((a1.getD (s1).toNat 0) ≠ (a3.getD (s1).toNat 0))) then
    some (.inr (Sum.inl ()))
   else
    if inK .i64 (s1 + 1) then
     some (.inl (s1 + 1))
    else none
  else none
 else
  some (.inr (Sum.inr ()))
def ref30_Same (N : Nat) (a1 : (List Int)) (a2 : Nat) (a3 : (List Int)) : Option Bool :=
 bif (decide ((a1.length : Int) ≠ (a2 : Int))) then
  some false
 else
  (iter (ref30_Same_b1 N a1 a2 a3) N 0).bind fun w1 =>
   (Sum.elim (fun v1 =>
    some false
   )
    (fun v2 =>
     some true
    )
   ) w1
def sp_ref30_Same (N : Nat) : X.Spec := fun args lk => match args with
 | [.v (.c (.fz (.int .i64) a1)), .v (.c (.sl i0 0 a2 1))] => (match lk i0 with
  | some (.mem _ _ _ (.flat [.ints 2 .i64 a3])) => some ⟨(ref30_Same N a1 a2 a3).isSome = true, .v (.c (.bool ((ref30_Same N a1 a2 a3).getD default))), [], []⟩
  | _ => none)
 | _ => none
set_option maxRecDepth 100000 in
set_option maxHeartbeats 1000000 in
theorem ok_ref30_Same (N : Nat) : FnOK Tryd.prog gt0 24 (sp_ref30_Same N) := by
 refine fnOK_handed Tryd.func24 rfl (by kernel_rfl) tt_ok (ktNil) ?_
 intro args lk r h hp
 unfold sp_ref30_Same at h
 split at h
 ·
  rename_i a1 i0 a2
  split at h
  ·
   rename_i _ _ _ a3 hl0
   change (List Int) at a1
   change (List Int) at a3
   cases h
   obtain ⟨x, hx⟩ := Option.isSome_iff_exists.1 hp
   simp only [hx, Option.getD_some]
   refine handL [i0] 1 [(0, .mem false 3 none (.flat [.ints 2 .i64 a3]))] [.v (.c (.fz (.int .i64) a1)), .v (.c (.sl 0 0 a2 1))] rfl rfl rfl ⟨isSome_of hl0, trivial⟩ ⟨⟨rfl, zT, _, hl0, sub_ro⟩, trivial⟩ rfl (fun w0 M ε0 hX => ?_)
   refine rCount (fun hε => ?_)
   have hT : ref30_Same N a1 a2 a3 = some x := hx; clear hx hp; unfold ref30_Same at hT
   refine zA hX ?_
   refine rSeq (zA hX ?_)
   refine zCond rfl rfl (fun hc => ?_) (fun hc => ?_)
   ·
    replace hT := sT hc hT
    refine zA hX ?_
    refine rRet (rThenRet ?_)
    have hy := Option.some.inj hT; subst hy
    exact zEnd0 hX rfl
   ·
    replace hT := sF hc hT
    refine rSkip (rThen (rSeq (zA hX ?_)))
    refine rBlock ?_
    replace hT := sBind hT; obtain ⟨w1, hl, hT⟩ := hT
    refine rJoinA (fun v1 => (Sum.inl v1) = w1) (fun v1 => ⟨[(4, .v (.c (.bool false)))], [(0, .mem false 3 none (.flat [.ints 2 .i64 a3]))], 1⟩) .ret (fun v1 hv => ?_) (fun hxs10 => ?_)
    ·
     subst hv; clear hl; replace hT := (sElimL hT)
     refine rInRet (rThenRet ?_)
     have hy := Option.some.inj hT; subst hy
     exact zEnd0 hX rfl
    refine rJoinA (fun v2 => (Sum.inr v2) = w1) (fun v2 => ⟨[(4, .v (.c (.bool false)))], [(0, .mem false 3 none (.flat [.ints 2 .i64 a3]))], 1⟩) (.exit 0) (fun v2 hv => ?_) (fun hxs11 => ?_)
    ·
     subst hv; clear hl; replace hT := (sElimR hT)
     refine rInHit (rThen (zA hX ?_))
     refine rRet ?_
     have hy := Option.some.inj hT; subst hy
     exact zEnd0 hX rfl
    refine rLoopM (ref30_Same_b1 N a1 a2 a3) (fun s1 => ⟨[(0, .v (.c (.fz (.int .i64) a1))), (1, .v (.c (.sl 0 0 a2 1))), (4, .v (.c (.bool false))), (5, .v (.c (.int .i64 s1)))], [(0, .mem false 3 none (.flat [.ints 2 .i64 a3]))], 1⟩) hl (To.mk' [] 1 hε rfl zL zL) (fun s1 zs1 NNs1 hz hnexts1 houts1 => ?_)
    clear hl hT
    have hT := hz; clear hz
    refine rSeq (zA hX ?_)
    refine zCond rfl rfl (fun hc => ?_) (fun hc => ?_)
    ·
     replace hT := sT hc hT
     refine rSkip (rThen (rSeq (rBlock ?_)))
     replace hT := sIf hT; obtain ⟨⟨o1, o2, o3, o4⟩, hT⟩ := hT
     refine rSeq (zDraw md0 0 [] hX mixed rfl rfl rfl rfl rfl ?_)
     refine rThen ?_
     refine zCond rfl rfl (fun hc => ?_) (fun hc => ?_)
     ·
      replace hT := sT hc hT
      refine zA hX ?_
      refine rRet (rInRet (rThenRet (rThenRet ?_)))
      exact zTo [] 1 hε (hxs10 _ (houts1 _ (Option.some.inj hT).symm))
     ·
      replace hT := sF hc hT
      refine rSkip (rInNormal (rThen ?_))
      replace hT := sIf hT; obtain ⟨o1, hT⟩ := hT
      refine zReg md0 hX rfl rfl rfl ?_
      exact hnexts1 _ (Option.some.inj hT).symm _ (To.mk' [] 1 hε rfl zL zL)
    ·
     replace hT := sF hc hT
     refine rExit (rThenExit (rThenExit ?_))
     exact zTo [] 1 hε (hxs11 _ (houts1 _ (Option.some.inj hT).symm))
  ·
   cases h
 ·
  cases h
def ref30_Same_v1_b1 (N : Nat) (a1 : (List Int)) (a2 : Nat) (a3 : (List Int)) (s1 : Int) : Option (Int ⊕ (Unit ⊕ Unit)) :=
 bif (decide (s1 < (a1.length : Int))) then
  if (0 : Int) ≤ s1 ∧ s1 < (a1.length : Int) ∧ s1 < (a2 : Int) ∧ (s1).toNat < 4 then
   bif (decide ((a1.getD (s1).toNat 0) ≠ (a3.getD (s1).toNat 0))) then
    some (.inr (Sum.inl ()))
   else
    if inK .i64 (s1 + 1) then
     some (.inl (s1 + 1))
    else none
  else none
 else
  some (.inr (Sum.inr ()))
def ref30_Same_v1 (N : Nat) (a1 : (List Int)) (a2 : Nat) (a3 : (List Int)) : Option Bool :=
 bif (decide ((a1.length : Int) ≠ (a2 : Int))) then
  some false
 else
  (iter (ref30_Same_v1_b1 N a1 a2 a3) N 0).bind fun w1 =>
   (Sum.elim (fun v1 =>
    some false
   )
    (fun v2 =>
     some true
    )
   ) w1
def sp_ref30_Same_v1 (N : Nat) : X.Spec := fun args lk => match args with
 | [.v (.c (.fz (.int .i64) a1)), .v (.c (.sl i0 0 a2 1))] => (match lk i0 with
  | some (.mem _ _ _ (.flat [.ints 4 .i64 a3])) => some ⟨(ref30_Same_v1 N a1 a2 a3).isSome = true, .v (.c (.bool ((ref30_Same_v1 N a1 a2 a3).getD default))), [], []⟩
  | _ => none)
 | _ => none
set_option maxRecDepth 100000 in
set_option maxHeartbeats 1000000 in
theorem ok_ref30_Same_v1 (N : Nat) : FnOK Tryd.prog gt0 24 (sp_ref30_Same_v1 N) := by
 refine fnOK_handed Tryd.func24 rfl (by kernel_rfl) tt_ok (ktNil) ?_
 intro args lk r h hp
 unfold sp_ref30_Same_v1 at h
 split at h
 ·
  rename_i a1 i0 a2
  split at h
  ·
   rename_i _ _ _ a3 hl0
   change (List Int) at a1
   change (List Int) at a3
   cases h
   obtain ⟨x, hx⟩ := Option.isSome_iff_exists.1 hp
   simp only [hx, Option.getD_some]
   refine handL [i0] 1 [(0, .mem false 3 none (.flat [.ints 4 .i64 a3]))] [.v (.c (.fz (.int .i64) a1)), .v (.c (.sl 0 0 a2 1))] rfl rfl rfl ⟨isSome_of hl0, trivial⟩ ⟨⟨rfl, zT, _, hl0, sub_ro⟩, trivial⟩ rfl (fun w0 M ε0 hX => ?_)
   refine rCount (fun hε => ?_)
   have hT : ref30_Same_v1 N a1 a2 a3 = some x := hx; clear hx hp; unfold ref30_Same_v1 at hT
   refine zA hX ?_
   refine rSeq (zA hX ?_)
   refine zCond rfl rfl (fun hc => ?_) (fun hc => ?_)
   ·
    replace hT := sT hc hT
    refine zA hX ?_
    refine rRet (rThenRet ?_)
    have hy := Option.some.inj hT; subst hy
    exact zEnd0 hX rfl
   ·
    replace hT := sF hc hT
    refine rSkip (rThen (rSeq (zA hX ?_)))
    refine rBlock ?_
    replace hT := sBind hT; obtain ⟨w1, hl, hT⟩ := hT
    refine rJoinA (fun v1 => (Sum.inl v1) = w1) (fun v1 => ⟨[(4, .v (.c (.bool false)))], [(0, .mem false 3 none (.flat [.ints 4 .i64 a3]))], 1⟩) .ret (fun v1 hv => ?_) (fun hxs10 => ?_)
    ·
     subst hv; clear hl; replace hT := (sElimL hT)
     refine rInRet (rThenRet ?_)
     have hy := Option.some.inj hT; subst hy
     exact zEnd0 hX rfl
    refine rJoinA (fun v2 => (Sum.inr v2) = w1) (fun v2 => ⟨[(4, .v (.c (.bool false)))], [(0, .mem false 3 none (.flat [.ints 4 .i64 a3]))], 1⟩) (.exit 0) (fun v2 hv => ?_) (fun hxs11 => ?_)
    ·
     subst hv; clear hl; replace hT := (sElimR hT)
     refine rInHit (rThen (zA hX ?_))
     refine rRet ?_
     have hy := Option.some.inj hT; subst hy
     exact zEnd0 hX rfl
    refine rLoopM (ref30_Same_v1_b1 N a1 a2 a3) (fun s1 => ⟨[(0, .v (.c (.fz (.int .i64) a1))), (1, .v (.c (.sl 0 0 a2 1))), (4, .v (.c (.bool false))), (5, .v (.c (.int .i64 s1)))], [(0, .mem false 3 none (.flat [.ints 4 .i64 a3]))], 1⟩) hl (To.mk' [] 1 hε rfl zL zL) (fun s1 zs1 NNs1 hz hnexts1 houts1 => ?_)
    clear hl hT
    have hT := hz; clear hz
    refine rSeq (zA hX ?_)
    refine zCond rfl rfl (fun hc => ?_) (fun hc => ?_)
    ·
     replace hT := sT hc hT
     refine rSkip (rThen (rSeq (rBlock ?_)))
     replace hT := sIf hT; obtain ⟨⟨o1, o2, o3, o4⟩, hT⟩ := hT
     refine rSeq (zDraw md0 0 [] hX mixed rfl rfl rfl rfl rfl ?_)
     refine rThen ?_
     refine zCond rfl rfl (fun hc => ?_) (fun hc => ?_)
     ·
      replace hT := sT hc hT
      refine zA hX ?_
      refine rRet (rInRet (rThenRet (rThenRet ?_)))
      exact zTo [] 1 hε (hxs10 _ (houts1 _ (Option.some.inj hT).symm))
     ·
      replace hT := sF hc hT
      refine rSkip (rInNormal (rThen ?_))
      replace hT := sIf hT; obtain ⟨o1, hT⟩ := hT
      refine zReg md0 hX rfl rfl rfl ?_
      exact hnexts1 _ (Option.some.inj hT).symm _ (To.mk' [] 1 hε rfl zL zL)
    ·
     replace hT := sF hc hT
     refine rExit (rThenExit (rThenExit ?_))
     exact zTo [] 1 hε (hxs11 _ (houts1 _ (Option.some.inj hT).symm))
  ·
   cases h
 ·
  cases h
def ref37_Same (N : Nat) (a1 : Int) (a2 : (List Int)) (a3 : (List Int)) (a4 : (List Int)) (a5 : Int) (a6 : Nat) (a7 : Nat) (a8 : Nat) (a9 : (List Int)) (a10 : (List Int)) (a11 : (List Int)) : Option Bool :=
 let c1 := (ref30_Same N a2 a6 a9)
 let c2 := (ref30_Same_v1 N a3 a7 a10)
 let c3 := (ref30_Same_v1 N a4 a8 a11)
 let x1 := (bif (bif (bif (decide (a1 = a5)) then (c1.getD default) else false) then (c2.getD default) else false) then (c3.getD default) else false)
 if ((decide (a1 = a5)) = true → c1.isSome = true) ∧ ((bif (decide (a1 = a5)) then (c1.getD default) else false) = true → c2.isSome = true) ∧ ((bif (bif (decide (a1 = a5)) then (c1.getD default) else false) then (c2.getD default) else false) = true → c3.isSome = true) then
  some x1
 else none
def sp_ref37_Same (N : Nat) : X.Spec := fun args lk => match args with
 | [.v (.agg [.cs [.int .i64 a1, .fz (.int .i64) a2, .fz (.int .i64) a3, .fz (.int .i64) a4]]), .v (.agg [.cs [.int .i64 a5, .sl i0 0 a6 1, .sl i1 0 a7 1, .sl i2 0 a8 1]])] => (match lk i0 with
  | some (.mem _ _ _ (.flat [.ints 2 .i64 a9])) => (match lk i1 with
  | some (.mem _ _ _ (.flat [.ints 4 .i64 a10])) => (match lk i2 with
  | some (.mem _ _ _ (.flat [.ints 4 .i64 a11])) => some ⟨(ref37_Same N a1 a2 a3 a4 a5 a6 a7 a8 a9 a10 a11).isSome = true, .v (.c (.bool ((ref37_Same N a1 a2 a3 a4 a5 a6 a7 a8 a9 a10 a11).getD default))), [], []⟩
  | _ => none)
  | _ => none)
  | _ => none)
 | _ => none
set_option maxRecDepth 100000 in
set_option maxHeartbeats 1000000 in
theorem ok_ref37_Same (N : Nat) : FnOK Tryd.prog gt0 31 (sp_ref37_Same N) := by
 refine fnOK_handed Tryd.func31 rfl (by kernel_rfl) tt_ok (ktCons (FnOK.or (ok_ref30_Same N) (ok_ref30_Same_v1 N)) (ktNil)) ?_
 intro args lk r h hp
 unfold sp_ref37_Same at h
 split at h
 ·
  rename_i a1 a2 a3 a4 a5 i0 a6 i1 a7 i2 a8
  split at h
  ·
   rename_i _ _ _ a9 hl0
   split at h
   ·
    rename_i _ _ _ a10 hl1
    split at h
    ·
     rename_i _ _ _ a11 hl2
     change (List Int) at a2
     change (List Int) at a3
     change (List Int) at a4
     change (List Int) at a9
     change (List Int) at a10
     change (List Int) at a11
     cases h
     obtain ⟨x, hx⟩ := Option.isSome_iff_exists.1 hp
     simp only [hx, Option.getD_some]
     refine handL [i0, i1, i2] 3 [(0, .mem false 3 none (.flat [.ints 2 .i64 a9])), (1, .mem false 3 none (.flat [.ints 4 .i64 a10])), (2, .mem false 3 none (.flat [.ints 4 .i64 a11]))] [.v (.agg [.cs [.int .i64 a1, .fz (.int .i64) a2, .fz (.int .i64) a3, .fz (.int .i64) a4]]), .v (.agg [.cs [.int .i64 a5, .sl 0 0 a6 1, .sl 1 0 a7 1, .sl 2 0 a8 1]])] rfl rfl rfl ⟨isSome_of hl2, isSome_of hl1, isSome_of hl0, trivial⟩ ⟨⟨rfl, zT, _, hl0, sub_ro⟩, ⟨rfl, zT, _, hl1, sub_ro⟩, ⟨rfl, zT, _, hl2, sub_ro⟩, trivial⟩ rfl (fun w0 M ε0 hX => ?_)
     refine rCount (fun hε => ?_)
     have hT : ref37_Same N a1 a2 a3 a4 a5 a6 a7 a8 a9 a10 a11 = some x := hx; clear hx hp; unfold ref37_Same at hT
     refine zA hX ?_
     let c1 := (ref30_Same N a2 a6 a9)
     let c2 := (ref30_Same_v1 N a3 a7 a10)
     let c3 := (ref30_Same_v1 N a4 a8 a11)
     let x1 := (bif (bif (bif (decide (a1 = a5)) then (c1.getD default) else false) then (c2.getD default) else false) then (c3.getD default) else false)
     replace hT := sIf hT; obtain ⟨⟨o1, o2, o3⟩, hT⟩ := hT
     refine rSeq (rRegC md0 hX rfl rfl rfl zO ?_)
     refine rThen (rRet ?_)
     have hy := Option.some.inj hT; subst hy
     exact zEnd0 hX rfl
    ·
     cases h
   ·
    cases h
  ·
   cases h
 ·
  cases h
def law37_lives (N : Nat) : Option Bool :=
 if 2 = ((((List.replicate 2 0).set 0 8).set 1 10) : List Int).length then
  if 2 = ([((0 : Int), (false, ((4 : Int), ((2 : Int), ((List.replicate 2 0), ((((((((List.replicate 6 0).set 0 9).set 1 9).set 2 9).set 3 9).set 4 9).set 5 9), (List.replicate 6 []))))))), ((0 : Int), (false, ((3 : Int), ((0 : Int), ((List.replicate 2 0), ((((((((List.replicate 6 0).set 0 9).set 1 9).set 2 9).set 3 9).set 4 9).set 5 9), (List.replicate 6 [])))))))] : List Zt2).length then
   if 2 = ([((0 : Int), (false, ((3 : Int), ((0 : Int), ((List.replicate 2 0), ((((((((List.replicate 6 0).set 0 9).set 1 9).set 2 9).set 3 9).set 4 9).set 5 9), (List.replicate 6 []))))))), ((0 : Int), (false, ((4 : Int), ((2 : Int), ((List.replicate 2 0), ((((((((List.replicate 6 0).set 0 9).set 1 9).set 2 9).set 3 9).set 4 9).set 5 9), (List.replicate 6 [])))))))] : List Zt2).length then
    let c1 := (chain_Of N 0 0 6 false 5 ([(false, ((0 : Int), ((0 : Int), ([((0 : Int), (false, ((4 : Int), ((2 : Int), ((List.replicate 2 0), ((((((((List.replicate 6 0).set 0 9).set 1 9).set 2 9).set 3 9).set 4 9).set 5 9), (List.replicate 6 []))))))), ((0 : Int), (false, ((3 : Int), ((0 : Int), ((List.replicate 2 0), ((((((((List.replicate 6 0).set 0 9).set 1 9).set 2 9).set 3 9).set 4 9).set 5 9), (List.replicate 6 [])))))))] : List Zt2)))), (true, ((0 : Int), ((9 : Int), ([((0 : Int), (false, ((3 : Int), ((0 : Int), ((List.replicate 2 0), ((((((((List.replicate 6 0).set 0 9).set 1 9).set 2 9).set 3 9).set 4 9).set 5 9), (List.replicate 6 []))))))), ((0 : Int), (false, ((4 : Int), ((2 : Int), ((List.replicate 2 0), ((((((((List.replicate 6 0).set 0 9).set 1 9).set 2 9).set 3 9).set 4 9).set 5 9), (List.replicate 6 [])))))))] : List Zt2))))] : List Zt6) 0 ((((List.replicate 2 0).set 0 8).set 1 10) : List Int))
    if c1.isSome = true then
     let c2 := (ref37_Same N (c1.getD default).1 (c1.getD default).2.1 (c1.getD default).2.2.1 (c1.getD default).2.2.2.1 8 2 4 4 (((List.replicate 2 0).set 0 8).set 1 10) (((((List.replicate 4 0).set 0 8).set 1 8).set 2 10).set 3 11) (((((List.replicate 4 0).set 0 0).set 1 0).set 2 0).set 3 1))
     if c2.isSome = true then
      some (bif (c2.getD default) then (decide ((c1.getD default).2.2.2.2 = 0)) else false)
     else none
    else none
   else none
  else none
 else none
def sp_law37_lives (N : Nat) : X.Spec := fun args lk => match args with
 | [] => some ⟨(law37_lives N).isSome = true, .v (.c (.bool ((law37_lives N).getD default))), [], []⟩
 | _ => none
set_option maxRecDepth 100000 in
set_option maxHeartbeats 1000000 in
theorem ok_law37_lives (N : Nat) : FnOK Tryd.prog gt0 27 (sp_law37_lives N) := by
 refine fnOK_handed Tryd.func27 rfl (by kernel_rfl) tt_ok (ktCons (ok_ref37_Same N) (ktCons (ok_chain_Of N) (ktNil))) ?_
 intro args lk r h hp
 unfold sp_law37_lives at h
 split at h
 ·
  cases h
  obtain ⟨x, hx⟩ := Option.isSome_iff_exists.1 hp
  simp only [hx, Option.getD_some]
  refine hand0 rfl rfl (fun w0 M ε0 hX => ?_)
  refine rCount (fun hε => ?_)
  have hT : law37_lives N = some x := hx; clear hx hp; unfold law37_lives at hT
  refine zA hX ?_
  refine zA hX ?_
  refine zA hX ?_
  refine zA hX ?_
  refine rSeq (zReg md0 hX rfl rfl rfl ?_)
  refine rLstQ 3 Zs2 [((0 : Int), (false, ((4 : Int), ((2 : Int), ((List.replicate 2 0), ((((((((List.replicate 6 0).set 0 9).set 1 9).set 2 9).set 3 9).set 4 9).set 5 9), (List.replicate 6 []))))))), ((0 : Int), (false, ((3 : Int), ((0 : Int), ((List.replicate 2 0), ((((((((List.replicate 6 0).set 0 9).set 1 9).set 2 9).set 3 9).set 4 9).set 5 9), (List.replicate 6 [])))))))] rfl rfl rfl ?_
  refine rLstQ 4 Zs2 [((0 : Int), (false, ((3 : Int), ((0 : Int), ((List.replicate 2 0), ((((((((List.replicate 6 0).set 0 9).set 1 9).set 2 9).set 3 9).set 4 9).set 5 9), (List.replicate 6 []))))))), ((0 : Int), (false, ((4 : Int), ((2 : Int), ((List.replicate 2 0), ((((((((List.replicate 6 0).set 0 9).set 1 9).set 2 9).set 3 9).set 4 9).set 5 9), (List.replicate 6 [])))))))] rfl rfl rfl ?_
  refine rThen (rSeq (rRegSL ?_))
  refine rSLCut md0 2 hX rfl rfl rfl zP ?_
  replace hT := sIf hT; obtain ⟨f1, hT⟩ := hT
  refine rFreezeL 7 (.int .i64) ((((List.replicate 2 0).set 0 8).set 1 10) : List Int) [(0, .v (.c (.bool false))), (23, .v (.agg [.cs [.int .i64 0, .int .i64 0, .int .i64 6, .bool false, .int .i64 5, .val (.slice none 0 0), .sl 5 0 2 4, .int .i64 0]])), (24, .v (.c (.fz (.int .i64) ((((List.replicate 2 0).set 0 8).set 1 10) : List Int))))] [(3, .mem true 42 (some 18) (.lst Zs2 ([((0 : Int), (false, ((4 : Int), ((2 : Int), ((List.replicate 2 0), ((((((((List.replicate 6 0).set 0 9).set 1 9).set 2 9).set 3 9).set 4 9).set 5 9), (List.replicate 6 []))))))), ((0 : Int), (false, ((3 : Int), ((0 : Int), ((List.replicate 2 0), ((((((((List.replicate 6 0).set 0 9).set 1 9).set 2 9).set 3 9).set 4 9).set 5 9), (List.replicate 6 [])))))))] : List Zt2))), (4, .mem true 42 (some 18) (.lst Zs2 ([((0 : Int), (false, ((3 : Int), ((0 : Int), ((List.replicate 2 0), ((((((((List.replicate 6 0).set 0 9).set 1 9).set 2 9).set 3 9).set 4 9).set 5 9), (List.replicate 6 []))))))), ((0 : Int), (false, ((4 : Int), ((2 : Int), ((List.replicate 2 0), ((((((((List.replicate 6 0).set 0 9).set 1 9).set 2 9).set 3 9).set 4 9).set 5 9), (List.replicate 6 [])))))))] : List Zt2))), (5, .mem true 49 (some 4) (.rows 2 4 (Go.X.rowAt [[.cs [.bool false, .int .i64 0, .int .i64 0, .sl 3 0 2 18]], [.cs [.bool true, .int .i64 0, .int .i64 9, .sl 4 0 2 18]]])))] rfl rfl zF zF ?_
  refine rSLCut md0 0 hX rfl rfl rfl zP ?_
  replace hT := sIf hT; obtain ⟨f1, hT⟩ := hT
  refine rFreezeL 3 Zs2 ([((0 : Int), (false, ((4 : Int), ((2 : Int), ((List.replicate 2 0), ((((((((List.replicate 6 0).set 0 9).set 1 9).set 2 9).set 3 9).set 4 9).set 5 9), (List.replicate 6 []))))))), ((0 : Int), (false, ((3 : Int), ((0 : Int), ((List.replicate 2 0), ((((((((List.replicate 6 0).set 0 9).set 1 9).set 2 9).set 3 9).set 4 9).set 5 9), (List.replicate 6 [])))))))] : List Zt2) [(0, .v (.c (.bool false))), (23, .v (.agg [.cs [.int .i64 0, .int .i64 0, .int .i64 6, .bool false, .int .i64 5, .val (.slice none 0 0), .sl 5 0 2 4, .int .i64 0]])), (24, .v (.c (.fz (.int .i64) ((((List.replicate 2 0).set 0 8).set 1 10) : List Int))))] [(4, .mem true 42 (some 18) (.lst Zs2 ([((0 : Int), (false, ((3 : Int), ((0 : Int), ((List.replicate 2 0), ((((((((List.replicate 6 0).set 0 9).set 1 9).set 2 9).set 3 9).set 4 9).set 5 9), (List.replicate 6 []))))))), ((0 : Int), (false, ((4 : Int), ((2 : Int), ((List.replicate 2 0), ((((((((List.replicate 6 0).set 0 9).set 1 9).set 2 9).set 3 9).set 4 9).set 5 9), (List.replicate 6 [])))))))] : List Zt2))), (5, .mem true 49 (some 4) (.rows 2 4 (Go.X.rowAt [[.cs [.bool false, .int .i64 0, .int .i64 0, .fz Zs2 ([((0 : Int), (false, ((4 : Int), ((2 : Int), ((List.replicate 2 0), ((((((((List.replicate 6 0).set 0 9).set 1 9).set 2 9).set 3 9).set 4 9).set 5 9), (List.replicate 6 []))))))), ((0 : Int), (false, ((3 : Int), ((0 : Int), ((List.replicate 2 0), ((((((((List.replicate 6 0).set 0 9).set 1 9).set 2 9).set 3 9).set 4 9).set 5 9), (List.replicate 6 [])))))))] : List Zt2)]], [.cs [.bool true, .int .i64 0, .int .i64 9, .sl 4 0 2 18]]])))] rfl rfl zF zF ?_
  refine rSLCut md0 0 hX rfl rfl rfl zP ?_
  replace hT := sIf hT; obtain ⟨f1, hT⟩ := hT
  refine rFreezeL 4 Zs2 ([((0 : Int), (false, ((3 : Int), ((0 : Int), ((List.replicate 2 0), ((((((((List.replicate 6 0).set 0 9).set 1 9).set 2 9).set 3 9).set 4 9).set 5 9), (List.replicate 6 []))))))), ((0 : Int), (false, ((4 : Int), ((2 : Int), ((List.replicate 2 0), ((((((((List.replicate 6 0).set 0 9).set 1 9).set 2 9).set 3 9).set 4 9).set 5 9), (List.replicate 6 [])))))))] : List Zt2) [(0, .v (.c (.bool false))), (23, .v (.agg [.cs [.int .i64 0, .int .i64 0, .int .i64 6, .bool false, .int .i64 5, .val (.slice none 0 0), .sl 5 0 2 4, .int .i64 0]])), (24, .v (.c (.fz (.int .i64) ((((List.replicate 2 0).set 0 8).set 1 10) : List Int))))] [(5, .mem true 49 (some 4) (.rows 2 4 (Go.X.rowAt [[.cs [.bool false, .int .i64 0, .int .i64 0, .fz Zs2 ([((0 : Int), (false, ((4 : Int), ((2 : Int), ((List.replicate 2 0), ((((((((List.replicate 6 0).set 0 9).set 1 9).set 2 9).set 3 9).set 4 9).set 5 9), (List.replicate 6 []))))))), ((0 : Int), (false, ((3 : Int), ((0 : Int), ((List.replicate 2 0), ((((((((List.replicate 6 0).set 0 9).set 1 9).set 2 9).set 3 9).set 4 9).set 5 9), (List.replicate 6 [])))))))] : List Zt2)]], [.cs [.bool true, .int .i64 0, .int .i64 9, .fz Zs2 ([((0 : Int), (false, ((3 : Int), ((0 : Int), ((List.replicate 2 0), ((((((((List.replicate 6 0).set 0 9).set 1 9).set 2 9).set 3 9).set 4 9).set 5 9), (List.replicate 6 []))))))), ((0 : Int), (false, ((4 : Int), ((2 : Int), ((List.replicate 2 0), ((((((((List.replicate 6 0).set 0 9).set 1 9).set 2 9).set 3 9).set 4 9).set 5 9), (List.replicate 6 [])))))))] : List Zt2)]]])))] rfl rfl zF zF ?_
  refine rSLCut md0 0 hX rfl rfl rfl zP ?_
  refine rFreezeL 5 Zs1 ([(false, ((0 : Int), ((0 : Int), ([((0 : Int), (false, ((4 : Int), ((2 : Int), ((List.replicate 2 0), ((((((((List.replicate 6 0).set 0 9).set 1 9).set 2 9).set 3 9).set 4 9).set 5 9), (List.replicate 6 []))))))), ((0 : Int), (false, ((3 : Int), ((0 : Int), ((List.replicate 2 0), ((((((((List.replicate 6 0).set 0 9).set 1 9).set 2 9).set 3 9).set 4 9).set 5 9), (List.replicate 6 [])))))))] : List Zt2)))), (true, ((0 : Int), ((9 : Int), ([((0 : Int), (false, ((3 : Int), ((0 : Int), ((List.replicate 2 0), ((((((((List.replicate 6 0).set 0 9).set 1 9).set 2 9).set 3 9).set 4 9).set 5 9), (List.replicate 6 []))))))), ((0 : Int), (false, ((4 : Int), ((2 : Int), ((List.replicate 2 0), ((((((((List.replicate 6 0).set 0 9).set 1 9).set 2 9).set 3 9).set 4 9).set 5 9), (List.replicate 6 [])))))))] : List Zt2))))] : List Zt6) [(0, .v (.c (.bool false))), (23, .v (.agg [.cs [.int .i64 0, .int .i64 0, .int .i64 6, .bool false, .int .i64 5, .val (.slice none 0 0), .fz Zs1 ([(false, ((0 : Int), ((0 : Int), ([((0 : Int), (false, ((4 : Int), ((2 : Int), ((List.replicate 2 0), ((((((((List.replicate 6 0).set 0 9).set 1 9).set 2 9).set 3 9).set 4 9).set 5 9), (List.replicate 6 []))))))), ((0 : Int), (false, ((3 : Int), ((0 : Int), ((List.replicate 2 0), ((((((((List.replicate 6 0).set 0 9).set 1 9).set 2 9).set 3 9).set 4 9).set 5 9), (List.replicate 6 [])))))))] : List Zt2)))), (true, ((0 : Int), ((9 : Int), ([((0 : Int), (false, ((3 : Int), ((0 : Int), ((List.replicate 2 0), ((((((((List.replicate 6 0).set 0 9).set 1 9).set 2 9).set 3 9).set 4 9).set 5 9), (List.replicate 6 []))))))), ((0 : Int), (false, ((4 : Int), ((2 : Int), ((List.replicate 2 0), ((((((((List.replicate 6 0).set 0 9).set 1 9).set 2 9).set 3 9).set 4 9).set 5 9), (List.replicate 6 [])))))))] : List Zt2))))] : List Zt6), .int .i64 0]])), (24, .v (.c (.fz (.int .i64) ((((List.replicate 2 0).set 0 8).set 1 10) : List Int))))] [] rfl rfl zF zF ?_
  let c1 := (chain_Of N 0 0 6 false 5 ([(false, ((0 : Int), ((0 : Int), ([((0 : Int), (false, ((4 : Int), ((2 : Int), ((List.replicate 2 0), ((((((((List.replicate 6 0).set 0 9).set 1 9).set 2 9).set 3 9).set 4 9).set 5 9), (List.replicate 6 []))))))), ((0 : Int), (false, ((3 : Int), ((0 : Int), ((List.replicate 2 0), ((((((((List.replicate 6 0).set 0 9).set 1 9).set 2 9).set 3 9).set 4 9).set 5 9), (List.replicate 6 [])))))))] : List Zt2)))), (true, ((0 : Int), ((9 : Int), ([((0 : Int), (false, ((3 : Int), ((0 : Int), ((List.replicate 2 0), ((((((((List.replicate 6 0).set 0 9).set 1 9).set 2 9).set 3 9).set 4 9).set 5 9), (List.replicate 6 []))))))), ((0 : Int), (false, ((4 : Int), ((2 : Int), ((List.replicate 2 0), ((((((((List.replicate 6 0).set 0 9).set 1 9).set 2 9).set 3 9).set 4 9).set 5 9), (List.replicate 6 [])))))))] : List Zt2))))] : List Zt6) 0 ((((List.replicate 2 0).set 0 8).set 1 10) : List Int))
  replace hT := sIf hT; obtain ⟨o1, hT⟩ := hT
  refine rSLDone md0 hX rfl rfl rfl zP ?_
  refine rThen ?_
  let c2 := (ref37_Same N (c1.getD default).1 (c1.getD default).2.1 (c1.getD default).2.2.1 (c1.getD default).2.2.2.1 8 2 4 4 (((List.replicate 2 0).set 0 8).set 1 10) (((((List.replicate 4 0).set 0 8).set 1 8).set 2 10).set 3 11) (((((List.replicate 4 0).set 0 0).set 1 0).set 2 0).set 3 1))
  replace hT := sIf hT; obtain ⟨o1, hT⟩ := hT
  refine zA hX ?_
  refine rRet ?_
  have hy := Option.some.inj hT; subst hy
  exact zEnd0 hX rfl
 ·
  cases h
def sheethead_may_v1_b1 (N : Nat) (a6 : (List Int)) (s1 : (Bool × Int)) : Option ((Bool × Int) ⊕ Bool) :=
 bif (decide (s1.2 < (a6.length : Int))) then
  if (0 : Int) ≤ s1.2 ∧ s1.2 < (a6.length : Int) then
   let x7 := (bif (bif s1.1 then (decide ((0 : Int) ≤ (a6.getD (s1.2).toNat 0))) else false) then (decide ((a6.getD (s1.2).toNat 0) ≤ 255)) else false)
   if inK .i64 (s1.2 + 1) then
    some (.inl (x7, (s1.2 + 1)))
   else none
  else none
 else
  some (.inr s1.1)
def sheethead_may_v1 (N : Nat) (a1 : Int) (a2 : Int) (a3 : Int) (a4 : Bool) (a5 : Int) (a6 : (List Int)) (a7 : Zt1) (a8 : Int) : Option Bool :=
 let c1 := (formats_Size N a3)
 if c1.isSome = true then
  let x1 := (bif (bif (bif (bif (bif (bif (bif (c1.getD default).2.2 then (decide ((0 : Int) ≤ a1)) else false) then (decide (a1 ≤ 255)) else false) then (decide ((0 : Int) ≤ a2)) else false) then (decide (a2 ≤ 7)) else false) then (decide ((1 : Int) ≤ a5)) else false) then (decide (a5 ≤ 31)) else false) then (decide ((a6.length : Int) ≤ 8)) else false)
  (iter (sheethead_may_v1_b1 N a6) N (x1, 0)).bind fun v1 =>
   some v1
 else none
def sp_sheethead_may_v1 (N : Nat) : X.Spec := fun args lk => match args with
 | [.v (.agg [.cs [.int .i64 a1, .int .i64 a2, .int .i64 a3, .bool a4, .int .i64 a5, .fz (.int .i64) a6, .fz (.pair .bool (.pair (.int .i64) (.pair (.int .i64) (.sl (.pair (.int .i64) (.pair .bool (.pair (.int .i64) (.pair (.int .i64) (.pair (.arr 2 .i64) (.pair (.arr 6 .i64) (.arrS 6 (.pair .bool (.pair (.int .i64) (.int .i64)))))))))))))) a7, .int .i64 a8]])] => some ⟨(sheethead_may_v1 N a1 a2 a3 a4 a5 a6 a7 a8).isSome = true, .v (.c (.bool ((sheethead_may_v1 N a1 a2 a3 a4 a5 a6 a7 a8).getD default))), [], []⟩
 | _ => none
set_option maxRecDepth 100000 in
set_option maxHeartbeats 1000000 in
theorem ok_sheethead_may_v1 (N : Nat) : FnOK Tryd.prog gt0 65 (sp_sheethead_may_v1 N) := by
 refine fnOK_handed Tryd.func65 rfl (by kernel_rfl) tt_ok (ktCons (ok_formats_Size N) (ktNil)) ?_
 intro args lk r h hp
 unfold sp_sheethead_may_v1 at h
 split at h
 ·
  rename_i a1 a2 a3 a4 a5 a6 a7 a8
  change (List Int) at a6
  change Zt1 at a7
  cases h
  obtain ⟨x, hx⟩ := Option.isSome_iff_exists.1 hp
  simp only [hx, Option.getD_some]
  refine hand0 rfl rfl (fun w0 M ε0 hX => ?_)
  refine rCount (fun hε => ?_)
  have hT : sheethead_may_v1 N a1 a2 a3 a4 a5 a6 a7 a8 = some x := hx; clear hx hp; unfold sheethead_may_v1 at hT
  refine zA hX ?_
  let c1 := (formats_Size N a3)
  replace hT := sIf hT; obtain ⟨o1, hT⟩ := hT
  refine zA hX ?_
  let x1 := (bif (bif (bif (bif (bif (bif (bif (c1.getD default).2.2 then (decide ((0 : Int) ≤ a1)) else false) then (decide (a1 ≤ 255)) else false) then (decide ((0 : Int) ≤ a2)) else false) then (decide (a2 ≤ 7)) else false) then (decide ((1 : Int) ≤ a5)) else false) then (decide (a5 ≤ 31)) else false) then (decide ((a6.length : Int) ≤ 8)) else false)
  refine zA hX ?_
  refine rSeq (zA hX ?_)
  refine rBlock ?_
  replace hT := sBind hT; obtain ⟨w1, hl, hT⟩ := hT
  refine rJoinA (fun v1 => v1 = w1) (fun v1 => ⟨[(2, .v (.c (.bool false))), (5, .v (.c (.bool v1)))], [], 1⟩) (.exit 0) (fun v1 hv => ?_) (fun hxs10 => ?_)
  ·
   subst hv; clear hl
   refine rInHit (rThen (zA hX ?_))
   refine rRet ?_
   have hy := Option.some.inj hT; subst hy
   exact zEnd0 hX rfl
  refine rLoopM (sheethead_may_v1_b1 N a6) (fun s1 => ⟨[(2, .v (.c (.bool false))), (5, .v (.c (.bool s1.1))), (53, .v (.c (.fz (.int .i64) a6))), (54, .v (.c (.int .i64 (a6.length : Int)))), (55, .v (.c (.int .i64 s1.2)))], [], 1⟩) hl (To.mk' [] 0 hε rfl zL zL) (fun s1 zs1 NNs1 hz hnexts1 houts1 => ?_)
  clear hl hT
  have hT := hz; clear hz
  refine zA hX ?_
  refine rSeq ?_
  refine zCond rfl rfl (fun hc => ?_) (fun hc => ?_)
  ·
   replace hT := sT hc hT
   refine rSkip (rThen (rSeq (rBlock ?_)))
   replace hT := sIf hT; obtain ⟨⟨o1, o2⟩, hT⟩ := hT
   refine zA hX ?_
   let x7 := (bif (bif s1.1 then (decide ((0 : Int) ≤ (a6.getD (s1.2).toNat 0))) else false) then (decide ((a6.getD (s1.2).toNat 0) ≤ 255)) else false)
   refine zReg md0 hX rfl rfl rfl ?_
   refine rInNormal (rThen ?_)
   replace hT := sIf hT; obtain ⟨o1, hT⟩ := hT
   refine zReg md0 hX rfl rfl rfl ?_
   exact hnexts1 _ (Option.some.inj hT).symm _ (To.mk' [] 0 hε rfl zL zL)
  ·
   replace hT := sF hc hT
   refine rExit (rThenExit (rThenExit ?_))
   exact zTo [] 0 hε (hxs10 _ (houts1 _ (Option.some.inj hT).symm))
 ·
  cases h
def sheethead_Put_v1_b1 (N : Nat) (a6 : (List Int)) (s1 : (Int × (List Bool))) : Option ((Int × (List Bool)) ⊕ (List Bool)) :=
 bif (decide (s1.1 < (a6.length : Int))) then
  if (0 : Int) ≤ s1.1 ∧ s1.1 < (a6.length : Int) then
   let c12 := (overspill_outbits_Writer_Put N (orI (256 : Int) (a6.getD (s1.1).toNat 0)) 9 s1.2)
   if (0 : Int) ≤ (a6.getD (s1.1).toNat 0) ∧ c12.isSome = true then
    if inK .i64 (s1.1 + 1) then
     some (.inl ((s1.1 + 1), (c12.getD default).2))
    else none
   else none
  else none
 else
  some (.inr s1.2)
def sheethead_Put_v1 (N : Nat) (a1 : Int) (a2 : Int) (a3 : Int) (a4 : Bool) (a5 : Int) (a6 : (List Int)) (a7 : Zt1) (a8 : Int) (a9 : (List Bool)) : Option (Int × (List Bool)) :=
 let c1 := (sheethead_may_v1 N a1 a2 a3 a4 a5 a6 a7 a8)
 if c1.isSome = true then
  bif (!(c1.getD default)) then
   some (12, a9)
  else
   let c2 := (marks_Put N 0 a9)
   if c2.isSome = true then
    let c3 := (overspill_outbits_Writer_Put N a1 8 (c2.getD default).2)
    if c3.isSome = true then
     let c4 := (overspill_outbits_Writer_Put N 2 2 (c3.getD default).2)
     if c4.isSome = true then
      let c5 := (overspill_outbits_Writer_Put N a2 3 (c4.getD default).2)
      if c5.isSome = true then
       let c6 := (overspill_outbits_Writer_Put N a3 3 (c5.getD default).2)
       if c6.isSome = true then
        let c7 := (overspill_outbits_Writer_Put N (bif a4 then (1 : Int) else 0) 1 (c6.getD default).2)
        if c7.isSome = true then
         let c8 := (overspill_outbits_Writer_Put N 0 4 (c7.getD default).2)
         if c8.isSome = true then
          let c9 := (overspill_outbits_Writer_Put N a5 5 (c8.getD default).2)
          if c9.isSome = true then
           let c10 := (overspill_outbits_Writer_Put N 0 1 (c9.getD default).2)
           if c10.isSome = true then
            (iter (sheethead_Put_v1_b1 N a6) N (0, (c10.getD default).2)).bind fun v1 =>
             let c11 := (overspill_outbits_Writer_Put N 0 1 v1)
             if c11.isSome = true then
              some ((c11.getD default).1, (c11.getD default).2)
             else none
           else none
          else none
         else none
        else none
       else none
      else none
     else none
    else none
   else none
 else none
def sp_sheethead_Put_v1 (N : Nat) : X.Spec := fun args lk => match args with
 | [.v (.c (.ptr i0 0 0 0 0 0)), .v (.agg [.cs [.int .i64 a1, .int .i64 a2, .int .i64 a3, .bool a4, .int .i64 a5, .fz (.int .i64) a6, .fz (.pair .bool (.pair (.int .i64) (.pair (.int .i64) (.sl (.pair (.int .i64) (.pair .bool (.pair (.int .i64) (.pair (.int .i64) (.pair (.arr 2 .i64) (.pair (.arr 6 .i64) (.arrS 6 (.pair .bool (.pair (.int .i64) (.int .i64)))))))))))))) a7, .int .i64 a8]])] => (match lk i0 with
  | some (.obj 5 a9) => some ⟨(sheethead_Put_v1 N a1 a2 a3 a4 a5 a6 a7 a8 a9).isSome = true, .v (.c (.int .i64 ((sheethead_Put_v1 N a1 a2 a3 a4 a5 a6 a7 a8 a9).getD default).1)), [], [(i0, .obj 5 ((sheethead_Put_v1 N a1 a2 a3 a4 a5 a6 a7 a8 a9).getD default).2)]⟩
  | _ => none)
 | _ => none
set_option maxRecDepth 100000 in
set_option maxHeartbeats 1000000 in
theorem ok_sheethead_Put_v1 (N : Nat) : FnOK Tryd.prog gt0 35 (sp_sheethead_Put_v1 N) := by
 refine fnOK_handed Tryd.func35 rfl (by kernel_rfl) tt_ok (ktCons (ok_overspill_outbits_Writer_Put N) (ktCons (ok_marks_Put N) (ktCons (ok_sheethead_may_v1 N) (ktNil)))) ?_
 intro args lk r h hp
 unfold sp_sheethead_Put_v1 at h
 split at h
 ·
  rename_i i0 a1 a2 a3 a4 a5 a6 a7 a8
  split at h
  ·
   rename_i a9 hl0
   change (List Int) at a6
   change Zt1 at a7
   cases h
   obtain ⟨x, hx⟩ := Option.isSome_iff_exists.1 hp
   simp only [hx, Option.getD_some]
   refine handL [i0] 1 [(0, .obj 5 a9)] [.v (.c (.ptr 0 0 0 0 0 0)), .v (.agg [.cs [.int .i64 a1, .int .i64 a2, .int .i64 a3, .bool a4, .int .i64 a5, .fz (.int .i64) a6, .fz Zs1 a7, .int .i64 a8]])] rfl rfl rfl ⟨isSome_of hl0, trivial⟩ ⟨⟨rfl, zT, _, hl0, .inl rfl⟩, trivial⟩ rfl (fun w0 M ε0 hX => ?_)
   refine rCount (fun hε => ?_)
   have hT : sheethead_Put_v1 N a1 a2 a3 a4 a5 a6 a7 a8 a9 = some x := hx; clear hx hp; unfold sheethead_Put_v1 at hT
   refine zA hX ?_
   refine rSeq (rBlock (zA hX ?_))
   refine rCondF rfl rfl zP rfl ?_
   let c1 := (sheethead_may_v1 N a1 a2 a3 a4 a5 a6 a7 a8)
   replace hT := sIf hT; obtain ⟨o1, hT⟩ := hT
   refine zA hX ?_
   refine zCond rfl rfl (fun hc => ?_) (fun hc => ?_)
   ·
    replace hT := sT hc hT
    refine zA hX ?_
    refine rRet (rInRet (rThenRet ?_))
    have hy := Option.some.inj hT; subst hy
    exact rEndA [] [] [(0, .obj 5 a9)] (.v (.c (.int .i64 12))) hX rfl zZ zL rfl rfl rfl zT rfl rfl zT rfl rfl
   ·
    replace hT := sF hc hT
    refine rSkip (rInNormal (rThen (zA hX ?_)))
    refine rSeq (zA hX ?_)
    refine rJoin ⟨[(0, .v (.c (.ptr 0 0 0 0 0 0))), (3, .v (.c (.ptr 1 0 0 0 0 0))), (4, .v (.c (.int .i64 0))), (5, .v (.c (.int .i64 (bif a4 then (1 : Int) else 0))))], [(0, .obj 5 a9), (1, .mem true 25 none (.flat [.cs [.int .i64 a1, .int .i64 a2, .int .i64 a3, .bool a4, .int .i64 a5, .fz (.int .i64) a6, .fz Zs1 a7, .int .i64 a8]]))], 2⟩ ?_ (fun hj => ?_)
    ·
     refine rThen ?_
     let c2 := (marks_Put N 0 a9)
     replace hT := sIf hT; obtain ⟨o1, hT⟩ := hT
     refine zA hX ?_
     let c3 := (overspill_outbits_Writer_Put N a1 8 (c2.getD default).2)
     replace hT := sIf hT; obtain ⟨o1, hT⟩ := hT
     refine zA hX ?_
     let c4 := (overspill_outbits_Writer_Put N 2 2 (c3.getD default).2)
     replace hT := sIf hT; obtain ⟨o1, hT⟩ := hT
     refine zA hX ?_
     let c5 := (overspill_outbits_Writer_Put N a2 3 (c4.getD default).2)
     replace hT := sIf hT; obtain ⟨o1, hT⟩ := hT
     refine zA hX ?_
     let c6 := (overspill_outbits_Writer_Put N a3 3 (c5.getD default).2)
     replace hT := sIf hT; obtain ⟨o1, hT⟩ := hT
     refine zA hX ?_
     let c7 := (overspill_outbits_Writer_Put N (bif a4 then (1 : Int) else 0) 1 (c6.getD default).2)
     replace hT := sIf hT; obtain ⟨o1, hT⟩ := hT
     refine zA hX ?_
     let c8 := (overspill_outbits_Writer_Put N 0 4 (c7.getD default).2)
     replace hT := sIf hT; obtain ⟨o1, hT⟩ := hT
     refine zA hX ?_
     let c9 := (overspill_outbits_Writer_Put N a5 5 (c8.getD default).2)
     replace hT := sIf hT; obtain ⟨o1, hT⟩ := hT
     refine zA hX ?_
     let c10 := (overspill_outbits_Writer_Put N 0 1 (c9.getD default).2)
     replace hT := sIf hT; obtain ⟨o1, hT⟩ := hT
     refine zA hX ?_
     refine rSeq (zA hX ?_)
     refine rBlock ?_
     replace hT := sBind hT; obtain ⟨w1, hl, hT⟩ := hT
     refine rJoinA (fun v1 => v1 = w1) (fun v1 => ⟨[(0, .v (.c (.ptr 0 0 0 0 0 0))), (4, .v (.c (.int .i64 0)))], [(0, .obj 5 v1)], 2⟩) (.exit 1) (fun v1 hv => ?_) (fun hxs10 => ?_)
     ·
      subst hv; clear hl
      refine rInHit (rThen ?_)
      let c11 := (overspill_outbits_Writer_Put N 0 1 v1)
      replace hT := sIf hT; obtain ⟨o1, hT⟩ := hT
      refine zA hX ?_
      refine rRet ?_
      have hy := Option.some.inj hT; subst hy
      exact rEndA [] [] [(0, .obj 5 (c11.getD default).2)] (.v (.c (.int .i64 (c11.getD default).1))) hX rfl zZ zL rfl rfl rfl zT rfl rfl zT rfl rfl
     refine rLoopM (sheethead_Put_v1_b1 N a6) (fun s1 => ⟨[(0, .v (.c (.ptr 0 0 0 0 0 0))), (4, .v (.c (.int .i64 0))), (45, .v (.c (.fz (.int .i64) a6))), (46, .v (.c (.int .i64 (a6.length : Int)))), (47, .v (.c (.int .i64 s1.1)))], [(0, .obj 5 s1.2)], 2⟩) hl (To.mk' [] 1 hε rfl zL zL) (fun s1 zs1 NNs1 hz hnexts1 houts1 => ?_)
     clear hl hT
     have hT := hz; clear hz
     refine zA hX ?_
     refine rSeq ?_
     refine zCond rfl rfl (fun hc => ?_) (fun hc => ?_)
     ·
      replace hT := sT hc hT
      refine rSkip (rThen (rSeq (rBlock ?_)))
      replace hT := sIf hT; obtain ⟨⟨o1, o2⟩, hT⟩ := hT
      refine zA hX ?_
      let c12 := (overspill_outbits_Writer_Put N (orI (256 : Int) (a6.getD (s1.1).toNat 0)) 9 s1.2)
      replace hT := sIf hT; obtain ⟨⟨o1, o2⟩, hT⟩ := hT
      refine zReg md0 hX rfl rfl rfl ?_
      refine rInNormal (rThen ?_)
      replace hT := sIf hT; obtain ⟨o1, hT⟩ := hT
      refine zReg md0 hX rfl rfl rfl ?_
      exact hnexts1 _ (Option.some.inj hT).symm _ (To.mk' [] 1 hε rfl zL zL)
     ·
      replace hT := sF hc hT
      refine rExit (rThenExit (rThenExit ?_))
      exact zTo [] 1 hε (hxs10 _ (houts1 _ (Option.some.inj hT).symm))
    ·
     clear hT
     refine zCond rfl rfl (fun hc => ?_) (fun hc => ?_)
     ·
      refine zReg md0 hX rfl rfl rfl ?_
      exact rTo (To.mk' [] 1 hε rfl zJ zJ) hj
     ·
      refine rSkip ?_
      exact rTo (To.mk' [] 1 hε rfl zJ zJ) hj
  ·
   cases h
 ·
  cases h
def overspill_sound_sheet_row_v1_b1 (N : Nat) (a4 : Bool) (a7 : Zt1) (a9 : Int) (s1 : Int) : Option (Int ⊕ (Unit ⊕ Unit)) :=
 let x13 := (decide (s1 < ((a7.getD (a9).toNat Zd7).2.2.2.length : Int)))
 bif x13 then
  let x15 := ((a7.getD (a9).toNat Zd7).2.2.2.getD (s1).toNat Zd1).1
  let x16 := ((a7.getD (a9).toNat Zd7).2.2.2.getD (s1).toNat Zd1).2.1
  let x17 := ((a7.getD (a9).toNat Zd7).2.2.2.getD (s1).toNat Zd1).2.2.1
  let x18 := ((a7.getD (a9).toNat Zd7).2.2.2.getD (s1).toNat Zd1).2.2.2.1
  let x19 : (List Int) := ((a7.getD (a9).toNat Zd7).2.2.2.getD (s1).toNat Zd1).2.2.2.2.1
  let x20 : (List Int) := ((a7.getD (a9).toNat Zd7).2.2.2.getD (s1).toNat Zd1).2.2.2.2.2.1
  let x21 := ((a7.getD (a9).toNat Zd7).2.2.2.getD (s1).toNat Zd1).2.2.2.2.2.2
  if (0 : Int) ≤ s1 ∧ s1 < ((a7.getD (a9).toNat Zd7).2.2.2.length : Int) then
   let c3 := (cellout_Right N a4 x15 x16 x17 x18 x19 x20 x21)
   if c3.isSome = true then
    bif (!(c3.getD default)) then
     some (.inr (Sum.inl ()))
    else
     if inK .i64 (s1 + 1) then
      some (.inl (s1 + 1))
     else none
   else none
  else none
 else
  some (.inr (Sum.inr ()))
def overspill_sound_sheet_row_v1 (N : Nat) (a1 : Int) (a2 : Int) (a3 : Int) (a4 : Bool) (a5 : Int) (a6 : (List Int)) (a7 : Zt1) (a8 : Int) (a9 : Int) : Option Bool :=
 let c1 := (formats_Cells N a3)
 if c1.isSome = true then
  let c2 := (formats_Rows N a3)
  if c2.isSome = true then
   if (0 : Int) ≤ a9 ∧ a9 < (a7.length : Int) then
    let x1 := (decide (((a7.getD (a9).toNat Zd7).2.2.2.length : Int) ≠ ((c1.getD default).1 * (c2.getD default).2)))
    if inK .i64 ((c1.getD default).1 * (c2.getD default).2) then
     bif x1 then
      some false
     else
      let x4 := (bif (!(a7.getD (a9).toNat Zd7).1) then (bif (decide ((a7.getD (a9).toNat Zd7).2.1 ≠ 0)) then true else (decide ((a7.getD (a9).toNat Zd7).2.2.1 ≠ 0))) else false)
      if ((!(a7.getD (a9).toNat Zd7).1) = true → ((decide ((a7.getD (a9).toNat Zd7).2.1 ≠ 0)) = false → ((!(a7.getD (a9).toNat Zd7).1) && (!(decide ((a7.getD (a9).toNat Zd7).2.1 ≠ 0)))) = true)) then
       bif x4 then
        some false
       else
        let x12 := (bif (a7.getD (a9).toNat Zd7).1 then (bif (bif (bif (bif (decide (a9 = 0)) then true else (decide ((a7.getD (a9).toNat Zd7).2.1 < 0))) then true else (decide ((3 : Int) < (a7.getD (a9).toNat Zd7).2.1))) then true else (decide ((a7.getD (a9).toNat Zd7).2.2.1 < 1))) then true else (decide ((31 : Int) < (a7.getD (a9).toNat Zd7).2.2.1))) else false)
        if ((a7.getD (a9).toNat Zd7).1 = true → ((decide (a9 = 0)) = false → ((a7.getD (a9).toNat Zd7).1 && (!(decide (a9 = 0)))) = true)) ∧ ((a7.getD (a9).toNat Zd7).1 = true → ((bif (decide (a9 = 0)) then true else (decide ((a7.getD (a9).toNat Zd7).2.1 < 0))) = false → ((a7.getD (a9).toNat Zd7).1 && (!(bif (decide (a9 = 0)) then true else (decide ((a7.getD (a9).toNat Zd7).2.1 < 0))))) = true)) ∧ ((a7.getD (a9).toNat Zd7).1 = true → ((bif (bif (decide (a9 = 0)) then true else (decide ((a7.getD (a9).toNat Zd7).2.1 < 0))) then true else (decide ((3 : Int) < (a7.getD (a9).toNat Zd7).2.1))) = false → ((a7.getD (a9).toNat Zd7).1 && (!(bif (bif (decide (a9 = 0)) then true else (decide ((a7.getD (a9).toNat Zd7).2.1 < 0))) then true else (decide ((3 : Int) < (a7.getD (a9).toNat Zd7).2.1))))) = true)) ∧ ((a7.getD (a9).toNat Zd7).1 = true → ((bif (bif (bif (decide (a9 = 0)) then true else (decide ((a7.getD (a9).toNat Zd7).2.1 < 0))) then true else (decide ((3 : Int) < (a7.getD (a9).toNat Zd7).2.1))) then true else (decide ((a7.getD (a9).toNat Zd7).2.2.1 < 1))) = false → ((a7.getD (a9).toNat Zd7).1 && (!(bif (bif (bif (decide (a9 = 0)) then true else (decide ((a7.getD (a9).toNat Zd7).2.1 < 0))) then true else (decide ((3 : Int) < (a7.getD (a9).toNat Zd7).2.1))) then true else (decide ((a7.getD (a9).toNat Zd7).2.2.1 < 1))))) = true)) then
         bif x12 then
          some false
         else
          (iter (overspill_sound_sheet_row_v1_b1 N a4 a7 a9) N 0).bind fun w1 =>
           (Sum.elim (fun v1 =>
            some false
           )
            (fun v2 =>
             some true
            )
           ) w1
        else none
      else none
    else none
   else none
  else none
 else none
def sp_overspill_sound_sheet_row_v1 (N : Nat) : X.Spec := fun args lk => match args with
 | [.v (.agg [.cs [.int .i64 a1, .int .i64 a2, .int .i64 a3, .bool a4, .int .i64 a5, .fz (.int .i64) a6, .fz (.pair .bool (.pair (.int .i64) (.pair (.int .i64) (.sl (.pair (.int .i64) (.pair .bool (.pair (.int .i64) (.pair (.int .i64) (.pair (.arr 2 .i64) (.pair (.arr 6 .i64) (.arrS 6 (.pair .bool (.pair (.int .i64) (.int .i64)))))))))))))) a7, .int .i64 a8]]), .v (.c (.int .i64 a9))] => some ⟨(overspill_sound_sheet_row_v1 N a1 a2 a3 a4 a5 a6 a7 a8 a9).isSome = true, .v (.c (.bool ((overspill_sound_sheet_row_v1 N a1 a2 a3 a4 a5 a6 a7 a8 a9).getD default))), [], []⟩
 | _ => none
set_option maxRecDepth 100000 in
set_option maxHeartbeats 1000000 in
theorem ok_overspill_sound_sheet_row_v1 (N : Nat) : FnOK Tryd.prog gt0 38 (sp_overspill_sound_sheet_row_v1 N) := by
 refine fnOK_handed Tryd.func38 rfl (by kernel_rfl) tt_ok (ktCons (ok_cellout_Right N) (ktCons (ok_formats_Rows N) (ktCons (ok_formats_Cells N) (ktNil)))) ?_
 intro args lk r h hp
 unfold sp_overspill_sound_sheet_row_v1 at h
 split at h
 ·
  rename_i a1 a2 a3 a4 a5 a6 a7 a8 a9
  change (List Int) at a6
  change Zt1 at a7
  cases h
  obtain ⟨x, hx⟩ := Option.isSome_iff_exists.1 hp
  simp only [hx, Option.getD_some]
  refine hand0 rfl rfl (fun w0 M ε0 hX => ?_)
  refine rCount (fun hε => ?_)
  have hT : overspill_sound_sheet_row_v1 N a1 a2 a3 a4 a5 a6 a7 a8 a9 = some x := hx; clear hx hp; unfold overspill_sound_sheet_row_v1 at hT
  refine zA hX ?_
  let c1 := (formats_Cells N a3)
  replace hT := sIf hT; obtain ⟨o1, hT⟩ := hT
  refine zA hX ?_
  let c2 := (formats_Rows N a3)
  replace hT := sIf hT; obtain ⟨o1, hT⟩ := hT
  refine zA hX ?_
  replace hT := sIf hT; obtain ⟨⟨o1, o2⟩, hT⟩ := hT
  refine zA hX ?_
  refine rSeq (rBlock ?_)
  let x1 := (decide (((a7.getD (a9).toNat Zd7).2.2.2.length : Int) ≠ ((c1.getD default).1 * (c2.getD default).2)))
  replace hT := sIf hT; obtain ⟨o1, hT⟩ := hT
  refine zA hX ?_
  refine zCond rfl rfl (fun hc => ?_) (fun hc => ?_)
  ·
   replace hT := sT hc hT
   refine zA hX ?_
   refine rRet (rInRet (rThenRet ?_))
   have hy := Option.some.inj hT; subst hy
   exact zEnd0 hX rfl
  ·
   replace hT := sF hc hT
   let x4 := (bif (!(a7.getD (a9).toNat Zd7).1) then (bif (decide ((a7.getD (a9).toNat Zd7).2.1 ≠ 0)) then true else (decide ((a7.getD (a9).toNat Zd7).2.2.1 ≠ 0))) else false)
   replace hT := sIf hT; obtain ⟨o1, hT⟩ := hT
   refine rSeq (rRegC md0 hX rfl rfl rfl zO ?_)
   refine rThen ?_
   refine zCond rfl rfl (fun hc => ?_) (fun hc => ?_)
   ·
    replace hT := sT hc hT
    refine zA hX ?_
    refine rRet (rInRet (rThenRet ?_))
    have hy := Option.some.inj hT; subst hy
    exact zEnd0 hX rfl
   ·
    replace hT := sF hc hT
    let x12 := (bif (a7.getD (a9).toNat Zd7).1 then (bif (bif (bif (bif (decide (a9 = 0)) then true else (decide ((a7.getD (a9).toNat Zd7).2.1 < 0))) then true else (decide ((3 : Int) < (a7.getD (a9).toNat Zd7).2.1))) then true else (decide ((a7.getD (a9).toNat Zd7).2.2.1 < 1))) then true else (decide ((31 : Int) < (a7.getD (a9).toNat Zd7).2.2.1))) else false)
    replace hT := sIf hT; obtain ⟨⟨o1, o2, o3, o4⟩, hT⟩ := hT
    refine rSeq (rRegC md0 hX rfl rfl rfl zO ?_)
    refine rThen ?_
    refine zCond rfl rfl (fun hc => ?_) (fun hc => ?_)
    ·
     replace hT := sT hc hT
     refine zA hX ?_
     refine rRet (rInRet (rThenRet ?_))
     have hy := Option.some.inj hT; subst hy
     exact zEnd0 hX rfl
    ·
     replace hT := sF hc hT
     refine rSkip (rInNormal (rThen (rSeq (zA hX ?_))))
     refine rBlock ?_
     replace hT := sBind hT; obtain ⟨w1, hl, hT⟩ := hT
     refine rJoinA (fun v1 => (Sum.inl v1) = w1) (fun v1 => ⟨[(4, .v (.c (.bool false)))], [], 2⟩) .ret (fun v1 hv => ?_) (fun hxs10 => ?_)
     ·
      subst hv; clear hl; replace hT := (sElimL hT)
      refine rInRet (rThenRet ?_)
      have hy := Option.some.inj hT; subst hy
      exact zEnd0 hX rfl
     refine rJoinA (fun v2 => (Sum.inr v2) = w1) (fun v2 => ⟨[(4, .v (.c (.bool false)))], [], 2⟩) (.exit 1) (fun v2 hv => ?_) (fun hxs11 => ?_)
     ·
      subst hv; clear hl; replace hT := (sElimR hT)
      refine rInHit (rThen (zA hX ?_))
      refine rRet ?_
      have hy := Option.some.inj hT; subst hy
      exact zEnd0 hX rfl
     refine rLoopM (overspill_sound_sheet_row_v1_b1 N a4 a7 a9) (fun s1 => ⟨[(2, .v (.c (.ptr 0 0 0 0 0 0))), (4, .v (.c (.bool false))), (79, .v (.c (.fz Zs2 (a7.getD (a9).toNat Zd7).2.2.2))), (80, .v (.c (.int .i64 ((a7.getD (a9).toNat Zd7).2.2.2.length : Int)))), (81, .v (.c (.int .i64 s1)))], [(0, .mem true 67 none (.flat [.cs [.int .i64 a1, .int .i64 a2, .int .i64 a3, .bool a4, .int .i64 a5, .fz (.int .i64) a6, .fz Zs1 a7, .int .i64 a8]]))], 2⟩) hl (To.mk' [] 0 hε rfl zL zL) (fun s1 zs1 NNs1 hz hnexts1 houts1 => ?_)
     clear hl hT
     have hT := hz; clear hz
     let x13 := (decide (s1 < ((a7.getD (a9).toNat Zd7).2.2.2.length : Int)))
     refine zA hX ?_
     refine rSeq ?_
     refine zCond rfl rfl (fun hc => ?_) (fun hc => ?_)
     ·
      replace hT := sT hc hT
      refine rSkip (rThen (rSeq (rBlock ?_)))
      let x15 := ((a7.getD (a9).toNat Zd7).2.2.2.getD (s1).toNat Zd1).1
      let x16 := ((a7.getD (a9).toNat Zd7).2.2.2.getD (s1).toNat Zd1).2.1
      let x17 := ((a7.getD (a9).toNat Zd7).2.2.2.getD (s1).toNat Zd1).2.2.1
      let x18 := ((a7.getD (a9).toNat Zd7).2.2.2.getD (s1).toNat Zd1).2.2.2.1
      let x19 : (List Int) := ((a7.getD (a9).toNat Zd7).2.2.2.getD (s1).toNat Zd1).2.2.2.2.1
      let x20 : (List Int) := ((a7.getD (a9).toNat Zd7).2.2.2.getD (s1).toNat Zd1).2.2.2.2.2.1
      let x21 := ((a7.getD (a9).toNat Zd7).2.2.2.getD (s1).toNat Zd1).2.2.2.2.2.2
      replace hT := sIf hT; obtain ⟨⟨o1, o2⟩, hT⟩ := hT
      refine zA hX ?_
      let c3 := (cellout_Right N a4 x15 x16 x17 x18 x19 x20 x21)
      replace hT := sIf hT; obtain ⟨o1, hT⟩ := hT
      refine zA hX ?_
      refine zCond rfl rfl (fun hc => ?_) (fun hc => ?_)
      ·
       replace hT := sT hc hT
       refine zA hX ?_
       refine rRet (rInRet (rThenRet (rThenRet ?_)))
       exact zTo [] 0 hε (hxs10 _ (houts1 _ (Option.some.inj hT).symm))
      ·
       replace hT := sF hc hT
       refine rSkip (rInNormal (rThen ?_))
       replace hT := sIf hT; obtain ⟨o1, hT⟩ := hT
       refine zReg md0 hX rfl rfl rfl ?_
       exact hnexts1 _ (Option.some.inj hT).symm _ (To.mk' [] 0 hε rfl zL zL)
     ·
      replace hT := sF hc hT
      refine rExit (rThenExit (rThenExit ?_))
      exact zTo [] 0 hε (hxs11 _ (houts1 _ (Option.some.inj hT).symm))
 ·
  cases h
def sound_every_row_v1_b1 (N : Nat) (a1 : Int) (a2 : Int) (a3 : Int) (a4 : Int) (a5 : Bool) (a6 : Int) (a7 : (List Int)) (a8 : Zt1) (a9 : Int) (s1 : Int) : Option (Int ⊕ (Unit ⊕ Unit)) :=
 bif (decide (s1 < a1)) then
  let c1 := (overspill_sound_sheet_row_v1 N a2 a3 a4 a5 a6 a7 a8 a9 s1)
  if c1.isSome = true then
   bif (!(c1.getD default)) then
    some (.inr (Sum.inl ()))
   else
    if inK .i64 (s1 + 1) then
     some (.inl (s1 + 1))
    else none
  else none
 else
  some (.inr (Sum.inr ()))
def sound_every_row_v1 (N : Nat) (a1 : Int) (a2 : Int) (a3 : Int) (a4 : Int) (a5 : Bool) (a6 : Int) (a7 : (List Int)) (a8 : Zt1) (a9 : Int) : Option Bool :=
 (iter (sound_every_row_v1_b1 N a1 a2 a3 a4 a5 a6 a7 a8 a9) N 0).bind fun w1 =>
  (Sum.elim (fun v1 =>
   some false
  )
   (fun v2 =>
    some true
   )
  ) w1
def sp_sound_every_row_v1 (N : Nat) : X.Spec := fun args lk => match args with
 | [.v (.c (.int .i64 a1)), .fnv 38 [.agg [.cs [.int .i64 a2, .int .i64 a3, .int .i64 a4, .bool a5, .int .i64 a6, .fz (.int .i64) a7, .fz (.pair .bool (.pair (.int .i64) (.pair (.int .i64) (.sl (.pair (.int .i64) (.pair .bool (.pair (.int .i64) (.pair (.int .i64) (.pair (.arr 2 .i64) (.pair (.arr 6 .i64) (.arrS 6 (.pair .bool (.pair (.int .i64) (.int .i64)))))))))))))) a8, .int .i64 a9]]] []] => some ⟨(sound_every_row_v1 N a1 a2 a3 a4 a5 a6 a7 a8 a9).isSome = true, .v (.c (.bool ((sound_every_row_v1 N a1 a2 a3 a4 a5 a6 a7 a8 a9).getD default))), [], []⟩
 | _ => none
set_option maxRecDepth 100000 in
set_option maxHeartbeats 1000000 in
theorem ok_sound_every_row_v1 (N : Nat) : FnOK Tryd.prog gt0 37 (sp_sound_every_row_v1 N) := by
 refine fnOK_handed Tryd.func37 rfl (by kernel_rfl) tt_ok (ktCons (ok_overspill_sound_sheet_row_v1 N) (ktNil)) ?_
 intro args lk r h hp
 unfold sp_sound_every_row_v1 at h
 split at h
 ·
  rename_i a1 a2 a3 a4 a5 a6 a7 a8 a9
  change (List Int) at a7
  change Zt1 at a8
  cases h
  obtain ⟨x, hx⟩ := Option.isSome_iff_exists.1 hp
  simp only [hx, Option.getD_some]
  refine hand0 rfl rfl (fun w0 M ε0 hX => ?_)
  refine rCount (fun hε => ?_)
  have hT : sound_every_row_v1 N a1 a2 a3 a4 a5 a6 a7 a8 a9 = some x := hx; clear hx hp; unfold sound_every_row_v1 at hT
  refine zA hX ?_
  refine rSeq (zA hX ?_)
  refine rBlock ?_
  replace hT := sBind hT; obtain ⟨w1, hl, hT⟩ := hT
  refine rJoinA (fun v1 => (Sum.inl v1) = w1) (fun v1 => ⟨[(4, .v (.c (.bool false)))], [], 0⟩) .ret (fun v1 hv => ?_) (fun hxs10 => ?_)
  ·
   subst hv; clear hl; replace hT := (sElimL hT)
   refine rInRet (rThenRet ?_)
   have hy := Option.some.inj hT; subst hy
   exact zEnd0 hX rfl
  refine rJoinA (fun v2 => (Sum.inr v2) = w1) (fun v2 => ⟨[(4, .v (.c (.bool false)))], [], 0⟩) (.exit 0) (fun v2 hv => ?_) (fun hxs11 => ?_)
  ·
   subst hv; clear hl; replace hT := (sElimR hT)
   refine rInHit (rThen (zA hX ?_))
   refine rRet ?_
   have hy := Option.some.inj hT; subst hy
   exact zEnd0 hX rfl
  refine rLoopM (sound_every_row_v1_b1 N a1 a2 a3 a4 a5 a6 a7 a8 a9) (fun s1 => ⟨[(1, .fnv 38 [.agg [.cs [.int .i64 a2, .int .i64 a3, .int .i64 a4, .bool a5, .int .i64 a6, .fz (.int .i64) a7, .fz Zs1 a8, .int .i64 a9]]] []), (4, .v (.c (.bool false))), (6, .v (.c (.int .i64 a1))), (7, .v (.c (.int .i64 s1)))], [], 0⟩) hl (To.mk' [] 0 hε rfl zL zL) (fun s1 zs1 NNs1 hz hnexts1 houts1 => ?_)
  clear hl hT
  have hT := hz; clear hz
  refine zA hX ?_
  refine rSeq ?_
  refine zCond rfl rfl (fun hc => ?_) (fun hc => ?_)
  ·
   replace hT := sT hc hT
   refine rSkip (rThen (rSeq (rBlock (zA hX ?_))))
   let c1 := (overspill_sound_sheet_row_v1 N a2 a3 a4 a5 a6 a7 a8 a9 s1)
   replace hT := sIf hT; obtain ⟨o1, hT⟩ := hT
   refine zA hX ?_
   refine zCond rfl rfl (fun hc => ?_) (fun hc => ?_)
   ·
    replace hT := sT hc hT
    refine zA hX ?_
    refine rRet (rInRet (rThenRet (rThenRet ?_)))
    exact zTo [] 0 hε (hxs10 _ (houts1 _ (Option.some.inj hT).symm))
   ·
    replace hT := sF hc hT
    refine rSkip (rInNormal (rThen ?_))
    replace hT := sIf hT; obtain ⟨o1, hT⟩ := hT
    refine zReg md0 hX rfl rfl rfl ?_
    exact hnexts1 _ (Option.some.inj hT).symm _ (To.mk' [] 0 hε rfl zL zL)
  ·
   replace hT := sF hc hT
   refine rExit (rThenExit (rThenExit ?_))
   exact zTo [] 0 hε (hxs11 _ (houts1 _ (Option.some.inj hT).symm))
 ·
  cases h
def sound_Cells_v1_b2 (N : Nat) (a7 : Zt1) (s2 : Zt3) (s3 : Zt3) : Option (Zt3 ⊕ Zt12) :=
 let x1 := (decide (s3.2.1 < ((a7.getD (s2.2.1).toNat Zd7).2.2.2.length : Int)))
 bif x1 then
  let x3 := ((a7.getD (s2.2.1).toNat Zd7).2.2.2.getD (s3.2.1).toNat Zd1).1
  let x4 := ((a7.getD (s2.2.1).toNat Zd7).2.2.2.getD (s3.2.1).toNat Zd1).2.1
  let x5 := ((a7.getD (s2.2.1).toNat Zd7).2.2.2.getD (s3.2.1).toNat Zd1).2.2.1
  let x6 := ((a7.getD (s2.2.1).toNat Zd7).2.2.2.getD (s3.2.1).toNat Zd1).2.2.2.1
  let x7 : (List Int) := ((a7.getD (s2.2.1).toNat Zd7).2.2.2.getD (s3.2.1).toNat Zd1).2.2.2.2.1
  let x8 : (List Int) := ((a7.getD (s2.2.1).toNat Zd7).2.2.2.getD (s3.2.1).toNat Zd1).2.2.2.2.2.1
  let x9 := ((a7.getD (s2.2.1).toNat Zd7).2.2.2.getD (s3.2.1).toNat Zd1).2.2.2.2.2.2
  if (0 : Int) ≤ s3.2.1 ∧ s3.2.1 < ((a7.getD (s2.2.1).toNat Zd7).2.2.2.length : Int) then
   let c1 := (sound_own N x3 x4 x5 x6 x7 x8 x9)
   if c1.isSome = true ∧ s3.2.2.length = s3.1 ∧ (s3.1 + 1) * 240 ≤ 140737488355328 ∧ s3.1 + 1 ≤ 9223372036854775807 then
    if inK .i64 (s3.2.1 + 1) then
     some (.inl ((s3.1 + 1), (s3.2.1 + 1), (s3.2.2 ++ [(c1.getD default)])))
    else none
   else none
  else none
 else
  some (.inr (s3.1, s3.2.1, x1, s3.2.2))
def sound_Cells_v1_b1 (N : Nat) (a7 : Zt1) (s2 : Zt3) : Option (Zt3 ⊕ Zt14) :=
 bif (decide (s2.2.1 < (a7.length : Int))) then
  if (0 : Int) ≤ s2.2.1 ∧ s2.2.1 < (a7.length : Int) then
   (iter (sound_Cells_v1_b2 N a7 s2) N (s2.1, 0, s2.2.2)).bind fun v2 =>
    if inK .i64 (s2.2.1 + 1) then
     some (.inl (v2.1, (s2.2.1 + 1), v2.2.2.2))
    else none
  else none
 else
  some (.inr (s2.1, s2.2.2))
def sound_Cells_v1 (N : Nat) (a1 : Int) (a2 : Int) (a3 : Int) (a4 : Bool) (a5 : Int) (a6 : (List Int)) (a7 : Zt1) (a8 : Int) : Option Zt7 :=
 (iter (sound_Cells_v1_b1 N a7) N (0, 0, [])).bind fun v1 =>
  if v1.1 = v1.2.length then
   some v1.2
  else none
def sp_sound_Cells_v1 (N : Nat) : X.Spec := fun args lk => match args with
 | [.v (.agg [.cs [.int .i64 a1, .int .i64 a2, .int .i64 a3, .bool a4, .int .i64 a5, .fz (.int .i64) a6, .fz (.pair .bool (.pair (.int .i64) (.pair (.int .i64) (.sl (.pair (.int .i64) (.pair .bool (.pair (.int .i64) (.pair (.int .i64) (.pair (.arr 2 .i64) (.pair (.arr 6 .i64) (.arrS 6 (.pair .bool (.pair (.int .i64) (.int .i64)))))))))))))) a7, .int .i64 a8]])] => some ⟨(sound_Cells_v1 N a1 a2 a3 a4 a5 a6 a7 a8).isSome = true, .v (.c (.fz Zs2 ((sound_Cells_v1 N a1 a2 a3 a4 a5 a6 a7 a8).getD default))), [], []⟩
 | _ => none
set_option maxRecDepth 100000 in
set_option maxHeartbeats 1000000 in
theorem ok_sound_Cells_v1 (N : Nat) : FnOK Tryd.prog gt0 13 (sp_sound_Cells_v1 N) := by
 refine fnOK_handed Tryd.func13 rfl (by kernel_rfl) tt_ok (ktCons (ok_sound_own N) (ktNil)) ?_
 intro args lk r h hp
 unfold sp_sound_Cells_v1 at h
 split at h
 ·
  rename_i a1 a2 a3 a4 a5 a6 a7 a8
  change (List Int) at a6
  change Zt1 at a7
  cases h
  obtain ⟨x, hx⟩ := Option.isSome_iff_exists.1 hp
  simp only [hx, Option.getD_some]
  refine hand0 rfl rfl (fun w0 M ε0 hX => ?_)
  refine rCount (fun hε => ?_)
  have hT : sound_Cells_v1 N a1 a2 a3 a4 a5 a6 a7 a8 = some x := hx; clear hx hp; unfold sound_Cells_v1 at hT
  refine zA hX ?_
  refine zA hX ?_
  refine rSeq (zA hX ?_)
  refine rBlock (rNil 42 18 (.lst Zs2 []) [(2, .v (.c (.val (.slice none 0 0)))), (3, .v (.c (.sl 1 0 0 18))), (9, .v (.c (.fz Zs1 a7))), (10, .v (.c (.int .i64 (a7.length : Int)))), (11, .v (.c (.int .i64 0)))] [] (nil_lst _) zF zF ?_)
  replace hT := sBind hT; obtain ⟨w1, hl, hT⟩ := hT
  refine rJoinA (fun v1 => v1 = w1) (fun v1 => ⟨[(2, .v (.c (.val (.slice none 0 0)))), (3, .v (.c (.sl 1 0 v1.1 18)))], [(1, .mem true 42 (some 18) (.lst Zs2 v1.2))], 2⟩) (.exit 0) (fun v1 hv => ?_) (fun hxs20 => ?_)
  ·
   subst hv; clear hl
   refine rInHit (rThen (zA hX ?_))
   refine rRet ?_
   replace hT := sIf hT; obtain ⟨p1, hT⟩ := hT
   refine rFreezeQ 1 Zs2 v1.2 [(2, .v (.c (.fz Zs2 v1.2)))] [] rfl rfl zF zF ?_
   have hy := Option.some.inj hT; subst hy
   exact zEnd0 hX rfl
  refine rLoopM (sound_Cells_v1_b1 N a7) (fun s2 => ⟨[(2, .v (.c (.val (.slice none 0 0)))), (3, .v (.c (.sl 1 0 s2.1 18))), (9, .v (.c (.fz Zs1 a7))), (10, .v (.c (.int .i64 (a7.length : Int)))), (11, .v (.c (.int .i64 s2.2.1)))], [(1, .mem true 42 (some 18) (.lst Zs2 s2.2.2))], 2⟩) hl (To.mk' [] 0 hε rfl zL zL) (fun s2 zs2 NNs2 hz hnexts2 houts2 => ?_)
  clear hl hT
  have hT := hz; clear hz
  refine zA hX ?_
  refine rSeq ?_
  refine zCond rfl rfl (fun hc => ?_) (fun hc => ?_)
  ·
   replace hT := sT hc hT
   refine rSkip (rThen (rSeq (rBlock ?_)))
   replace hT := sIf hT; obtain ⟨⟨o1, o2⟩, hT⟩ := hT
   refine zA hX ?_
   refine zA hX ?_
   refine rBlock ?_
   replace hT := sBind hT; obtain ⟨w2, hl, hT⟩ := hT
   refine rJoinA (fun v2 => v2 = w2) (fun v2 => ⟨[(2, .v (.c (.val (.slice none 0 0)))), (3, .v (.c (.sl 1 0 v2.1 18))), (5, .v (.c (.ptr 2 0 0 0 0 0))), (9, .v (.c (.fz Zs1 a7))), (10, .v (.c (.int .i64 (a7.length : Int)))), (11, .v (.c (.int .i64 s2.2.1))), (12, .v (.c (.bool (decide (s2.2.1 < (a7.length : Int)))))), (13, .v (.c (.fp Zs1 (a7.getD (s2.2.1).toNat Zd7) 0 0 0))), (14, .v (.agg [.cs [.bool (a7.getD (s2.2.1).toNat Zd7).1, .int .i64 (a7.getD (s2.2.1).toNat Zd7).2.1, .int .i64 (a7.getD (s2.2.1).toNat Zd7).2.2.1, .fz Zs2 (a7.getD (s2.2.1).toNat Zd7).2.2.2]])), (15, .v (.c (.ptr 2 0 0 3 0 0))), (16, .v (.c (.fz Zs2 (a7.getD (s2.2.1).toNat Zd7).2.2.2))), (17, .v (.c (.int .i64 ((a7.getD (s2.2.1).toNat Zd7).2.2.2.length : Int)))), (18, .v (.c (.int .i64 v2.2.1))), (19, .v (.c (.bool v2.2.2.1)))], [(1, .mem true 42 (some 18) (.lst Zs2 v2.2.2.2)), (2, .mem true 49 none (.flat [.cs [.bool (a7.getD (s2.2.1).toNat Zd7).1, .int .i64 (a7.getD (s2.2.1).toNat Zd7).2.1, .int .i64 (a7.getD (s2.2.1).toNat Zd7).2.2.1, .fz Zs2 (a7.getD (s2.2.1).toNat Zd7).2.2.2]]))], 3⟩) (.exit 2) (fun v2 hv => ?_) (fun hxs30 => ?_)
   ·
    subst hv; clear hl
    refine rInHit (rInNormal (rThen ?_))
    replace hT := sIf hT; obtain ⟨o1, hT⟩ := hT
    refine zReg md0 hX rfl rfl rfl ?_
    exact hnexts2 _ (Option.some.inj hT).symm _ (To.mk' [] 0 hε rfl zL zL)
   refine rLoopM (sound_Cells_v1_b2 N a7 s2) (fun s3 => ⟨[(2, .v (.c (.val (.slice none 0 0)))), (3, .v (.c (.sl 1 0 s3.1 18))), (5, .v (.c (.ptr 2 0 0 0 0 0))), (9, .v (.c (.fz Zs1 a7))), (10, .v (.c (.int .i64 (a7.length : Int)))), (11, .v (.c (.int .i64 s2.2.1))), (12, .v (.c (.bool (decide (s2.2.1 < (a7.length : Int)))))), (13, .v (.c (.fp Zs1 (a7.getD (s2.2.1).toNat Zd7) 0 0 0))), (14, .v (.agg [.cs [.bool (a7.getD (s2.2.1).toNat Zd7).1, .int .i64 (a7.getD (s2.2.1).toNat Zd7).2.1, .int .i64 (a7.getD (s2.2.1).toNat Zd7).2.2.1, .fz Zs2 (a7.getD (s2.2.1).toNat Zd7).2.2.2]])), (15, .v (.c (.ptr 2 0 0 3 0 0))), (16, .v (.c (.fz Zs2 (a7.getD (s2.2.1).toNat Zd7).2.2.2))), (17, .v (.c (.int .i64 ((a7.getD (s2.2.1).toNat Zd7).2.2.2.length : Int)))), (18, .v (.c (.int .i64 s3.2.1)))], [(1, .mem true 42 (some 18) (.lst Zs2 s3.2.2)), (2, .mem true 49 none (.flat [.cs [.bool (a7.getD (s2.2.1).toNat Zd7).1, .int .i64 (a7.getD (s2.2.1).toNat Zd7).2.1, .int .i64 (a7.getD (s2.2.1).toNat Zd7).2.2.1, .fz Zs2 (a7.getD (s2.2.1).toNat Zd7).2.2.2]]))], 3⟩) hl (To.mk' [] 0 hε rfl zL zL) (fun s3 zs3 NNs3 hz hnexts3 houts3 => ?_)
   clear hl hT
   have hT := hz; clear hz
   let x1 := (decide (s3.2.1 < ((a7.getD (s2.2.1).toNat Zd7).2.2.2.length : Int)))
   refine zA hX ?_
   refine rSeq ?_
   refine zCond rfl rfl (fun hc => ?_) (fun hc => ?_)
   ·
    replace hT := sT hc hT
    refine rSkip (rThen (rSeq (rBlock ?_)))
    let x3 := ((a7.getD (s2.2.1).toNat Zd7).2.2.2.getD (s3.2.1).toNat Zd1).1
    let x4 := ((a7.getD (s2.2.1).toNat Zd7).2.2.2.getD (s3.2.1).toNat Zd1).2.1
    let x5 := ((a7.getD (s2.2.1).toNat Zd7).2.2.2.getD (s3.2.1).toNat Zd1).2.2.1
    let x6 := ((a7.getD (s2.2.1).toNat Zd7).2.2.2.getD (s3.2.1).toNat Zd1).2.2.2.1
    let x7 : (List Int) := ((a7.getD (s2.2.1).toNat Zd7).2.2.2.getD (s3.2.1).toNat Zd1).2.2.2.2.1
    let x8 : (List Int) := ((a7.getD (s2.2.1).toNat Zd7).2.2.2.getD (s3.2.1).toNat Zd1).2.2.2.2.2.1
    let x9 := ((a7.getD (s2.2.1).toNat Zd7).2.2.2.getD (s3.2.1).toNat Zd1).2.2.2.2.2.2
    replace hT := sIf hT; obtain ⟨⟨o1, o2⟩, hT⟩ := hT
    refine zA hX ?_
    let c1 := (sound_own N x3 x4 x5 x6 x7 x8 x9)
    replace hT := sIf hT; obtain ⟨⟨o1, o2, o3, o4⟩, hT⟩ := hT
    refine zReg md0 hX rfl rfl rfl ?_
    refine rLstQ 4 Zs2 [(c1.getD default)] rfl rfl rfl ?_
    refine rInNormal (rThen ?_)
    replace hT := sIf hT; obtain ⟨o1, hT⟩ := hT
    refine zReg md0 hX rfl rfl rfl ?_
    exact hnexts3 _ (Option.some.inj hT).symm _ (To.mk' [0, 5, 2] 0 hε rfl zL zL)
   ·
    replace hT := sF hc hT
    refine rExit (rThenExit (rThenExit ?_))
    exact zTo [] 0 hε (hxs30 _ (houts3 _ (Option.some.inj hT).symm))
  ·
   replace hT := sF hc hT
   refine rExit (rThenExit (rThenExit ?_))
   exact zTo [] 0 hε (hxs20 _ (houts2 _ (Option.some.inj hT).symm))
 ·
  cases h
def sound_Check_v1_b1 (N : Nat) (a3 : Int) (c5 : (Option Zt7)) (s1 : Int) : Option (Int ⊕ (Unit ⊕ Unit)) :=
 bif (decide (s1 < ((c5.getD default).length : Int))) then
  let x9 := ((c5.getD default).getD (s1).toNat Zd1).2.2.1
  let x11 : (List Int) := ((c5.getD default).getD (s1).toNat Zd1).2.2.2.2.1
  if (0 : Int) ≤ s1 ∧ s1 < ((c5.getD default).length : Int) then
   let c6 := (motion_May N a3 s1 x11)
   let x14 := (bif (bif (decide (x9 ≠ 3)) then (decide (x9 ≠ 4)) else false) then (!(c6.getD default)) else false)
   if ((bif (decide (x9 ≠ 3)) then (decide (x9 ≠ 4)) else false) = true → c6.isSome = true) then
    bif x14 then
     some (.inr (Sum.inl ()))
    else
     if inK .i64 (s1 + 1) then
      some (.inl (s1 + 1))
     else none
   else none
  else none
 else
  some (.inr (Sum.inr ()))
def sound_Check_v1 (N : Nat) (a1 : Int) (a2 : Int) (a3 : Int) (a4 : Bool) (a5 : Int) (a6 : (List Int)) (a7 : Zt1) (a8 : Int) : Option Int :=
 let c1 := (formats_Rows N a3)
 if c1.isSome = true then
  let c2 := (outbits_New N)
  let c3 := (sheethead_Put_v1 N a1 a2 a3 a4 a5 a6 a7 a8 (c2.getD default))
  let c4 := (sound_every_row_v1 N (c1.getD default).1 a1 a2 a3 a4 a5 a6 a7 a8)
  let x5 := (bif (bif (bif (bif (decide ((c3.getD default).1 ≠ 0)) then true else (decide (a8 < 0))) then true else (decide ((262144 : Int) < a8))) then true else (decide ((a7.length : Int) ≠ (c1.getD default).1))) then true else (!(c4.getD default)))
  if c2.isSome = true ∧ c3.isSome = true ∧ ((!(bif (bif (bif (decide ((c3.getD default).1 ≠ 0)) then true else (decide (a8 < 0))) then true else (decide ((262144 : Int) < a8))) then true else (decide ((a7.length : Int) ≠ (c1.getD default).1)))) = true → c4.isSome = true) then
   bif x5 then
    some 12
   else
    let c5 := (sound_Cells_v1 N a1 a2 a3 a4 a5 a6 a7 a8)
    if c5.isSome = true then
     (iter (sound_Check_v1_b1 N a3 c5) N 0).bind fun w1 =>
      (Sum.elim (fun v1 =>
       some 8
      )
       (fun v2 =>
        some 0
       )
      ) w1
    else none
  else none
 else none
def sp_sound_Check_v1 (N : Nat) : X.Spec := fun args lk => match args with
 | [.v (.agg [.cs [.int .i64 a1, .int .i64 a2, .int .i64 a3, .bool a4, .int .i64 a5, .fz (.int .i64) a6, .fz (.pair .bool (.pair (.int .i64) (.pair (.int .i64) (.sl (.pair (.int .i64) (.pair .bool (.pair (.int .i64) (.pair (.int .i64) (.pair (.arr 2 .i64) (.pair (.arr 6 .i64) (.arrS 6 (.pair .bool (.pair (.int .i64) (.int .i64)))))))))))))) a7, .int .i64 a8]])] => some ⟨(sound_Check_v1 N a1 a2 a3 a4 a5 a6 a7 a8).isSome = true, .v (.c (.int .i64 ((sound_Check_v1 N a1 a2 a3 a4 a5 a6 a7 a8).getD default))), [], []⟩
 | _ => none
set_option maxRecDepth 100000 in
set_option maxHeartbeats 1000000 in
theorem ok_sound_Check_v1 (N : Nat) : FnOK Tryd.prog gt0 11 (sp_sound_Check_v1 N) := by
 refine fnOK_handed Tryd.func11 rfl (by kernel_rfl) tt_ok (ktCons (ok_motion_May N) (ktCons (ok_sound_Cells_v1 N) (ktCons (ok_sound_every_row_v1 N) (ktCons (ok_sheethead_Put_v1 N) (ktCons (ok_outbits_New N) (ktCons (ok_formats_Rows N) (ktNil))))))) ?_
 intro args lk r h hp
 unfold sp_sound_Check_v1 at h
 split at h
 ·
  rename_i a1 a2 a3 a4 a5 a6 a7 a8
  change (List Int) at a6
  change Zt1 at a7
  cases h
  obtain ⟨x, hx⟩ := Option.isSome_iff_exists.1 hp
  simp only [hx, Option.getD_some]
  refine hand0 rfl rfl (fun w0 M ε0 hX => ?_)
  refine rCount (fun hε => ?_)
  have hT : sound_Check_v1 N a1 a2 a3 a4 a5 a6 a7 a8 = some x := hx; clear hx hp; unfold sound_Check_v1 at hT
  refine zA hX ?_
  let c1 := (formats_Rows N a3)
  replace hT := sIf hT; obtain ⟨o1, hT⟩ := hT
  refine zA hX ?_
  refine rSeq ?_
  let c2 := (outbits_New N)
  let c3 := (sheethead_Put_v1 N a1 a2 a3 a4 a5 a6 a7 a8 (c2.getD default))
  let c4 := (sound_every_row_v1 N (c1.getD default).1 a1 a2 a3 a4 a5 a6 a7 a8)
  let x5 := (bif (bif (bif (bif (decide ((c3.getD default).1 ≠ 0)) then true else (decide (a8 < 0))) then true else (decide ((262144 : Int) < a8))) then true else (decide ((a7.length : Int) ≠ (c1.getD default).1))) then true else (!(c4.getD default)))
  replace hT := sIf hT; obtain ⟨⟨o1, o2, o3⟩, hT⟩ := hT
  refine rSeq (rDrawA md0 0 0 2 [] hX mixed rfl rfl rfl rfl rfl rfl rfl rfl rfl rfl rfl rfl rfl rfl rfl zL rfl rfl zO ?_)
  refine rThen ?_
  refine zCond rfl rfl (fun hc => ?_) (fun hc => ?_)
  ·
   replace hT := sT hc hT
   refine zA hX ?_
   refine rRet (rThenRet ?_)
   have hy := Option.some.inj hT; subst hy
   exact zEnd0 hX rfl
  ·
   replace hT := sF hc hT
   refine rSkip (rThen (rSeq ?_))
   let c5 := (sound_Cells_v1 N a1 a2 a3 a4 a5 a6 a7 a8)
   replace hT := sIf hT; obtain ⟨o1, hT⟩ := hT
   refine zA hX ?_
   refine rBlock ?_
   replace hT := sBind hT; obtain ⟨w1, hl, hT⟩ := hT
   refine rJoinA (fun v1 => (Sum.inl v1) = w1) (fun v1 => ⟨[(2, .v (.c (.int .i64 8)))], [], 2⟩) .ret (fun v1 hv => ?_) (fun hxs10 => ?_)
   ·
    subst hv; clear hl; replace hT := (sElimL hT)
    refine rInRet (rThenRet ?_)
    have hy := Option.some.inj hT; subst hy
    exact zEnd0 hX rfl
   refine rJoinA (fun v2 => (Sum.inr v2) = w1) (fun v2 => ⟨[(2, .v (.c (.int .i64 0)))], [], 2⟩) (.exit 0) (fun v2 hv => ?_) (fun hxs11 => ?_)
   ·
    subst hv; clear hl; replace hT := (sElimR hT)
    refine rInHit (rThen (zA hX ?_))
    refine rRet ?_
    have hy := Option.some.inj hT; subst hy
    exact zEnd0 hX rfl
   refine rLoopM (sound_Check_v1_b1 N a3 c5) (fun s1 => ⟨[(1, .v (.c (.ptr 0 0 0 0 0 0))), (2, .v (.c (.int .i64 0))), (42, .v (.c (.fz Zs2 (c5.getD default)))), (43, .v (.c (.int .i64 ((c5.getD default).length : Int)))), (44, .v (.c (.int .i64 s1)))], [(0, .mem true 25 none (.flat [.cs [.int .i64 a1, .int .i64 a2, .int .i64 a3, .bool a4, .int .i64 a5, .fz (.int .i64) a6, .fz Zs1 a7, .int .i64 a8]]))], 2⟩) hl (To.mk' [] 0 hε rfl zL zL) (fun s1 zs1 NNs1 hz hnexts1 houts1 => ?_)
   clear hl hT
   have hT := hz; clear hz
   refine zA hX ?_
   refine rSeq ?_
   refine zCond rfl rfl (fun hc => ?_) (fun hc => ?_)
   ·
    replace hT := sT hc hT
    refine rSkip (rThen (rSeq (rBlock ?_)))
    let x9 := ((c5.getD default).getD (s1).toNat Zd1).2.2.1
    let x11 : (List Int) := ((c5.getD default).getD (s1).toNat Zd1).2.2.2.2.1
    replace hT := sIf hT; obtain ⟨⟨o1, o2⟩, hT⟩ := hT
    refine zA hX ?_
    let c6 := (motion_May N a3 s1 x11)
    let x14 := (bif (bif (decide (x9 ≠ 3)) then (decide (x9 ≠ 4)) else false) then (!(c6.getD default)) else false)
    replace hT := sIf hT; obtain ⟨o1, hT⟩ := hT
    refine rSeq (rRegC md0 hX rfl rfl rfl zO ?_)
    refine rThen ?_
    refine zCond rfl rfl (fun hc => ?_) (fun hc => ?_)
    ·
     replace hT := sT hc hT
     refine zA hX ?_
     refine rRet (rInRet (rThenRet (rThenRet ?_)))
     exact zTo [] 0 hε (hxs10 _ (houts1 _ (Option.some.inj hT).symm))
    ·
     replace hT := sF hc hT
     refine rSkip (rInNormal (rThen ?_))
     replace hT := sIf hT; obtain ⟨o1, hT⟩ := hT
     refine zReg md0 hX rfl rfl rfl ?_
     exact hnexts1 _ (Option.some.inj hT).symm _ (To.mk' [] 0 hε rfl zL zL)
   ·
    replace hT := sF hc hT
    refine rExit (rThenExit (rThenExit ?_))
    exact zTo [] 0 hε (hxs11 _ (houts1 _ (Option.some.inj hT).symm))
 ·
  cases h
def quants_walk_Of_1_Of_2_v1_b2 (N : Nat) (a7 : Zt1) (s1 : Zt5) (s2 : Zt5) : Option (Zt5 ⊕ (Int × Int × Bool × Nat × Nat × (List Int))) :=
 let x2 := (decide (s2.2.1 < ((a7.getD (s1.2.1).toNat Zd7).2.2.2.length : Int)))
 bif x2 then
  let x3 := ((a7.getD (s1.2.1).toNat Zd7).2.2.2.getD (s2.2.1).toNat Zd1)
  let x4 := ((a7.getD (s1.2.1).toNat Zd7).2.2.2.getD (s2.2.1).toNat Zd1).1
  let x5 := ((a7.getD (s1.2.1).toNat Zd7).2.2.2.getD (s2.2.1).toNat Zd1).2.1
  let x6 := ((a7.getD (s1.2.1).toNat Zd7).2.2.2.getD (s2.2.1).toNat Zd1).2.2.1
  let x7 := ((a7.getD (s1.2.1).toNat Zd7).2.2.2.getD (s2.2.1).toNat Zd1).2.2.2.1
  let x8 : (List Int) := ((a7.getD (s1.2.1).toNat Zd7).2.2.2.getD (s2.2.1).toNat Zd1).2.2.2.2.1
  let x9 : (List Int) := ((a7.getD (s1.2.1).toNat Zd7).2.2.2.getD (s2.2.1).toNat Zd1).2.2.2.2.2.1
  let x10 := ((a7.getD (s1.2.1).toNat Zd7).2.2.2.getD (s2.2.1).toNat Zd1).2.2.2.2.2.2
  if (0 : Int) ≤ s2.2.1 ∧ s2.2.1 < ((a7.getD (s1.2.1).toNat Zd7).2.2.2.length : Int) then
   joinK (fun (v3 : Int) =>
    let c2 := (quants_Of_2 N v3 s2.2.2.1 s2.2.2.2.1 s2.2.2.2.2)
    if c2.isSome = true then
     if inK .i64 (s2.2.1 + 1) then
      some (.inl (v3, (s2.2.1 + 1), (c2.getD default).1, (c2.getD default).2.1, (c2.getD default).2.2))
     else none
    else none
   ) fun k1 =>
    bif (bif (decide (x6 = 1)) then true else (decide (x6 = 4))) then
     let c3 := (steps_Next N s2.1 x7)
     if c3.isSome = true then
      k1 (c3.getD default)
     else none
    else
     k1 s2.1
  else none
 else
  some (.inr (s2.1, s2.2.1, x2, s2.2.2.1, s2.2.2.2.1, s2.2.2.2.2))
def quants_walk_Of_1_Of_2_v1_b1 (N : Nat) (a7 : Zt1) (s1 : Zt5) : Option (Zt5 ⊕ Zt9) :=
 bif (decide (s1.2.1 < (a7.length : Int))) then
  if (0 : Int) ≤ s1.2.1 ∧ s1.2.1 < (a7.length : Int) then
   let x1 := (bif (a7.getD (s1.2.1).toNat Zd7).1 then (a7.getD (s1.2.1).toNat Zd7).2.2.1 else s1.1)
   let c1 := (quants_Of_1 N x1)
   if c1.isSome = true then
    (iter (quants_walk_Of_1_Of_2_v1_b2 N a7 s1) N (x1, 0, s1.2.2.1, s1.2.2.2.1, s1.2.2.2.2)).bind fun v2 =>
     if inK .i64 (s1.2.1 + 1) then
      some (.inl (v2.1, (s1.2.1 + 1), v2.2.2.2.1, v2.2.2.2.2.1, v2.2.2.2.2.2))
     else none
   else none
  else none
 else
  some (.inr (s1.2.2.1, s1.2.2.2.1, s1.2.2.2.2))
def quants_walk_Of_1_Of_2_v1 (N : Nat) (a1 : Int) (a2 : Int) (a3 : Int) (a4 : Bool) (a5 : Int) (a6 : (List Int)) (a7 : Zt1) (a8 : Int) (a9 : Nat) (a10 : Nat) (a11 : (List Int)) : Option Zt9 :=
 (iter (quants_walk_Of_1_Of_2_v1_b1 N a7) N (a5, 0, a9, a10, a11)).bind fun v1 =>
  some (v1.1, v1.2.1, v1.2.2)
def sp_quants_walk_Of_1_Of_2_v1 (N : Nat) : X.Spec := fun args lk => match args with
 | [.v (.agg [.cs [.int .i64 a1, .int .i64 a2, .int .i64 a3, .bool a4, .int .i64 a5, .fz (.int .i64) a6, .fz (.pair .bool (.pair (.int .i64) (.pair (.int .i64) (.sl (.pair (.int .i64) (.pair .bool (.pair (.int .i64) (.pair (.int .i64) (.pair (.arr 2 .i64) (.pair (.arr 6 .i64) (.arrS 6 (.pair .bool (.pair (.int .i64) (.int .i64)))))))))))))) a7, .int .i64 a8]]), .v (.c (.clo 53 [])), .v (.c (.clo 54 [i0]))] => (match lk i0 with
  | some (.bun 22 (.flat [.cs [.sl 1 0 a9 1]]) [(3, 1, .flat [.ints a10 .i64 a11])]) => some ⟨(quants_walk_Of_1_Of_2_v1 N a1 a2 a3 a4 a5 a6 a7 a8 a9 a10 a11).isSome = true, .tup [], [], [(i0, .bun 22 (.flat [.cs [.sl 1 0 ((quants_walk_Of_1_Of_2_v1 N a1 a2 a3 a4 a5 a6 a7 a8 a9 a10 a11).getD default).1 1]]) [(3, 1, .flat [.ints ((quants_walk_Of_1_Of_2_v1 N a1 a2 a3 a4 a5 a6 a7 a8 a9 a10 a11).getD default).2.1 .i64 ((quants_walk_Of_1_Of_2_v1 N a1 a2 a3 a4 a5 a6 a7 a8 a9 a10 a11).getD default).2.2])])]⟩
  | _ => none)
 | _ => none
set_option maxRecDepth 100000 in
set_option maxHeartbeats 1000000 in
theorem ok_quants_walk_Of_1_Of_2_v1 (N : Nat) : FnOK Tryd.prog gt0 52 (sp_quants_walk_Of_1_Of_2_v1 N) := by
 refine fnOK_handed Tryd.func52 rfl (by kernel_rfl) tt_ok (ktCons (ok_steps_Next N) (ktCons (ok_quants_Of_2 N) (ktCons (ok_quants_Of_1 N) (ktNil)))) ?_
 intro args lk r h hp
 unfold sp_quants_walk_Of_1_Of_2_v1 at h
 split at h
 ·
  rename_i a1 a2 a3 a4 a5 a6 a7 a8 i0
  split at h
  ·
   rename_i a9 a10 a11 hl0
   change (List Int) at a6
   change Zt1 at a7
   change (List Int) at a11
   cases h
   obtain ⟨x, hx⟩ := Option.isSome_iff_exists.1 hp
   simp only [hx, Option.getD_some]
   refine handL [i0] 1 [(0, .bun 22 (.flat [.cs [.sl 1 0 a9 1]]) [(3, 1, .flat [.ints a10 .i64 a11])])] [.v (.agg [.cs [.int .i64 a1, .int .i64 a2, .int .i64 a3, .bool a4, .int .i64 a5, .fz (.int .i64) a6, .fz Zs1 a7, .int .i64 a8]]), .v (.c (.clo 53 [])), .v (.c (.clo 54 [0]))] rfl rfl rfl ⟨isSome_of hl0, trivial⟩ ⟨⟨rfl, zT, _, hl0, .inl rfl⟩, trivial⟩ rfl (fun w0 M ε0 hX => ?_)
   refine rCount (fun hε => ?_)
   have hT : quants_walk_Of_1_Of_2_v1 N a1 a2 a3 a4 a5 a6 a7 a8 a9 a10 a11 = some x := hx; clear hx hp; unfold quants_walk_Of_1_Of_2_v1 at hT
   refine zA hX ?_
   refine zA hX ?_
   refine zA hX ?_
   refine rBlock ?_
   replace hT := sBind hT; obtain ⟨w1, hl, hT⟩ := hT
   refine rJoinA (fun v1 => v1 = w1) (fun v1 => ⟨[], [(0, .bun 22 (.flat [.cs [.sl 1 0 v1.1 1]]) [(3, 1, .flat [.ints v1.2.1 .i64 v1.2.2])])], 2⟩) (.exit 0) (fun v1 hv => ?_) (fun hxs10 => ?_)
   ·
    subst hv; clear hl
    refine rInHit (rNormal ?_)
    have hy := Option.some.inj hT; subst hy
    exact rEndA [] [] [(0, .bun 22 (.flat [.cs [.sl 1 0 v1.1 1]]) [(3, 1, .flat [.ints v1.2.1 .i64 v1.2.2])])] (.tup []) hX rfl zZ zL rfl rfl rfl zT rfl rfl zT rfl rfl
   refine rLoopM (quants_walk_Of_1_Of_2_v1_b1 N a7) (fun s1 => ⟨[(1, .v (.c (.clo 53 []))), (2, .v (.c (.clo 54 [0]))), (6, .v (.c (.int .i64 s1.1))), (14, .v (.c (.fz Zs1 a7))), (15, .v (.c (.int .i64 (a7.length : Int)))), (16, .v (.c (.int .i64 s1.2.1)))], [(0, .bun 22 (.flat [.cs [.sl 1 0 s1.2.2.1 1]]) [(3, 1, .flat [.ints s1.2.2.2.1 .i64 s1.2.2.2.2])])], 2⟩) hl (To.mk' [] 1 hε rfl zL zL) (fun s1 zs1 NNs1 hz hnexts1 houts1 => ?_)
   clear hl hT
   have hT := hz; clear hz
   refine zA hX ?_
   refine rSeq ?_
   refine zCond rfl rfl (fun hc => ?_) (fun hc => ?_)
   ·
    replace hT := sT hc hT
    refine rSkip (rThen (rSeq (rBlock ?_)))
    replace hT := sIf hT; obtain ⟨⟨o1, o2⟩, hT⟩ := hT
    refine zA hX ?_
    refine rSeq (zA hX ?_)
    refine rJoin ⟨[(1, .v (.c (.clo 53 []))), (2, .v (.c (.clo 54 [0]))), (6, .v (.c (.int .i64 (bif (a7.getD (s1.2.1).toNat Zd7).1 then (a7.getD (s1.2.1).toNat Zd7).2.2.1 else s1.1)))), (8, .v (.c (.ptr 2 0 0 0 0 0))), (14, .v (.c (.fz Zs1 a7))), (15, .v (.c (.int .i64 (a7.length : Int)))), (16, .v (.c (.int .i64 s1.2.1))), (17, .v (.c (.bool (decide (s1.2.1 < (a7.length : Int)))))), (18, .v (.c (.fp Zs1 (a7.getD (s1.2.1).toNat Zd7) 0 0 0))), (19, .v (.agg [.cs [.bool (a7.getD (s1.2.1).toNat Zd7).1, .int .i64 (a7.getD (s1.2.1).toNat Zd7).2.1, .int .i64 (a7.getD (s1.2.1).toNat Zd7).2.2.1, .fz Zs2 (a7.getD (s1.2.1).toNat Zd7).2.2.2]])), (20, .v (.c (.ptr 2 0 0 0 0 0))), (21, .v (.c (.bool (a7.getD (s1.2.1).toNat Zd7).1)))], [(0, .bun 22 (.flat [.cs [.sl 1 0 s1.2.2.1 1]]) [(3, 1, .flat [.ints s1.2.2.2.1 .i64 s1.2.2.2.2])]), (2, .mem true 49 none (.flat [.cs [.bool (a7.getD (s1.2.1).toNat Zd7).1, .int .i64 (a7.getD (s1.2.1).toNat Zd7).2.1, .int .i64 (a7.getD (s1.2.1).toNat Zd7).2.2.1, .fz Zs2 (a7.getD (s1.2.1).toNat Zd7).2.2.2]]))], 3⟩ ?_ (fun hj => ?_)
    ·
     let x1 := (bif (a7.getD (s1.2.1).toNat Zd7).1 then (a7.getD (s1.2.1).toNat Zd7).2.2.1 else s1.1)
     refine rThen ?_
     let c1 := (quants_Of_1 N x1)
     replace hT := sIf hT; obtain ⟨o1, hT⟩ := hT
     refine zA hX ?_
     refine zA hX ?_
     refine rBlock ?_
     replace hT := sBind hT; obtain ⟨w2, hl, hT⟩ := hT
     refine rJoinA (fun v2 => v2 = w2) (fun v2 => ⟨[(1, .v (.c (.clo 53 []))), (2, .v (.c (.clo 54 [0]))), (6, .v (.c (.int .i64 v2.1))), (8, .v (.c (.ptr 2 0 0 0 0 0))), (14, .v (.c (.fz Zs1 a7))), (15, .v (.c (.int .i64 (a7.length : Int)))), (16, .v (.c (.int .i64 s1.2.1))), (17, .v (.c (.bool (decide (s1.2.1 < (a7.length : Int)))))), (18, .v (.c (.fp Zs1 (a7.getD (s1.2.1).toNat Zd7) 0 0 0))), (19, .v (.agg [.cs [.bool (a7.getD (s1.2.1).toNat Zd7).1, .int .i64 (a7.getD (s1.2.1).toNat Zd7).2.1, .int .i64 (a7.getD (s1.2.1).toNat Zd7).2.2.1, .fz Zs2 (a7.getD (s1.2.1).toNat Zd7).2.2.2]])), (20, .v (.c (.ptr 2 0 0 0 0 0))), (21, .v (.c (.bool (a7.getD (s1.2.1).toNat Zd7).1))), (24, .v (.c (.clo 53 []))), (25, .v (.c (.int .i64 x1))), (27, .v (.c (.ptr 2 0 0 3 0 0))), (28, .v (.c (.fz Zs2 (a7.getD (s1.2.1).toNat Zd7).2.2.2))), (29, .v (.c (.int .i64 ((a7.getD (s1.2.1).toNat Zd7).2.2.2.length : Int)))), (30, .v (.c (.int .i64 v2.2.1))), (31, .v (.c (.bool v2.2.2.1)))], [(0, .bun 22 (.flat [.cs [.sl 1 0 v2.2.2.2.1 1]]) [(3, 1, .flat [.ints v2.2.2.2.2.1 .i64 v2.2.2.2.2.2])]), (2, .mem true 49 none (.flat [.cs [.bool (a7.getD (s1.2.1).toNat Zd7).1, .int .i64 (a7.getD (s1.2.1).toNat Zd7).2.1, .int .i64 (a7.getD (s1.2.1).toNat Zd7).2.2.1, .fz Zs2 (a7.getD (s1.2.1).toNat Zd7).2.2.2]]))], 3⟩) (.exit 2) (fun v2 hv => ?_) (fun hxs20 => ?_)
     ·
      subst hv; clear hl
      refine rInHit (rInNormal (rThen ?_))
      replace hT := sIf hT; obtain ⟨o1, hT⟩ := hT
      refine zReg md0 hX rfl rfl rfl ?_
      exact hnexts1 _ (Option.some.inj hT).symm _ (To.mk' [] 1 hε rfl zL zL)
     refine rLoopM (quants_walk_Of_1_Of_2_v1_b2 N a7 s1) (fun s2 => ⟨[(1, .v (.c (.clo 53 []))), (2, .v (.c (.clo 54 [0]))), (6, .v (.c (.int .i64 s2.1))), (8, .v (.c (.ptr 2 0 0 0 0 0))), (14, .v (.c (.fz Zs1 a7))), (15, .v (.c (.int .i64 (a7.length : Int)))), (16, .v (.c (.int .i64 s1.2.1))), (17, .v (.c (.bool (decide (s1.2.1 < (a7.length : Int)))))), (18, .v (.c (.fp Zs1 (a7.getD (s1.2.1).toNat Zd7) 0 0 0))), (19, .v (.agg [.cs [.bool (a7.getD (s1.2.1).toNat Zd7).1, .int .i64 (a7.getD (s1.2.1).toNat Zd7).2.1, .int .i64 (a7.getD (s1.2.1).toNat Zd7).2.2.1, .fz Zs2 (a7.getD (s1.2.1).toNat Zd7).2.2.2]])), (20, .v (.c (.ptr 2 0 0 0 0 0))), (21, .v (.c (.bool (a7.getD (s1.2.1).toNat Zd7).1))), (24, .v (.c (.clo 53 []))), (25, .v (.c (.int .i64 x1))), (27, .v (.c (.ptr 2 0 0 3 0 0))), (28, .v (.c (.fz Zs2 (a7.getD (s1.2.1).toNat Zd7).2.2.2))), (29, .v (.c (.int .i64 ((a7.getD (s1.2.1).toNat Zd7).2.2.2.length : Int)))), (30, .v (.c (.int .i64 s2.2.1)))], [(0, .bun 22 (.flat [.cs [.sl 1 0 s2.2.2.1 1]]) [(3, 1, .flat [.ints s2.2.2.2.1 .i64 s2.2.2.2.2])]), (2, .mem true 49 none (.flat [.cs [.bool (a7.getD (s1.2.1).toNat Zd7).1, .int .i64 (a7.getD (s1.2.1).toNat Zd7).2.1, .int .i64 (a7.getD (s1.2.1).toNat Zd7).2.2.1, .fz Zs2 (a7.getD (s1.2.1).toNat Zd7).2.2.2]]))], 3⟩) hl (To.mk' [] 1 hε rfl zL zL) (fun s2 zs2 NNs2 hz hnexts2 houts2 => ?_)
     clear hl hT
     have hT := hz; clear hz
     let x2 := (decide (s2.2.1 < ((a7.getD (s1.2.1).toNat Zd7).2.2.2.length : Int)))
     refine zA hX ?_
     refine rSeq ?_
     refine zCond rfl rfl (fun hc => ?_) (fun hc => ?_)
     ·
      replace hT := sT hc hT
      refine rSkip (rThen (rSeq (rBlock ?_)))
      let x3 := ((a7.getD (s1.2.1).toNat Zd7).2.2.2.getD (s2.2.1).toNat Zd1)
      let x4 := ((a7.getD (s1.2.1).toNat Zd7).2.2.2.getD (s2.2.1).toNat Zd1).1
      let x5 := ((a7.getD (s1.2.1).toNat Zd7).2.2.2.getD (s2.2.1).toNat Zd1).2.1
      let x6 := ((a7.getD (s1.2.1).toNat Zd7).2.2.2.getD (s2.2.1).toNat Zd1).2.2.1
      let x7 := ((a7.getD (s1.2.1).toNat Zd7).2.2.2.getD (s2.2.1).toNat Zd1).2.2.2.1
      let x8 : (List Int) := ((a7.getD (s1.2.1).toNat Zd7).2.2.2.getD (s2.2.1).toNat Zd1).2.2.2.2.1
      let x9 : (List Int) := ((a7.getD (s1.2.1).toNat Zd7).2.2.2.getD (s2.2.1).toNat Zd1).2.2.2.2.2.1
      let x10 := ((a7.getD (s1.2.1).toNat Zd7).2.2.2.getD (s2.2.1).toNat Zd1).2.2.2.2.2.2
      replace hT := sIf hT; obtain ⟨⟨o1, o2⟩, hT⟩ := hT
      refine zA hX ?_
      refine rSeq (zA hX ?_)
      refine rJoinK hT (fun v3 => ⟨[(1, .v (.c (.clo 53 []))), (2, .v (.c (.clo 54 [0]))), (6, .v (.c (.int .i64 v3))), (8, .v (.c (.ptr 2 0 0 0 0 0))), (10, .v (.c (.ptr 3 0 0 0 0 0))), (14, .v (.c (.fz Zs1 a7))), (15, .v (.c (.int .i64 (a7.length : Int)))), (16, .v (.c (.int .i64 s1.2.1))), (17, .v (.c (.bool (decide (s1.2.1 < (a7.length : Int)))))), (18, .v (.c (.fp Zs1 (a7.getD (s1.2.1).toNat Zd7) 0 0 0))), (19, .v (.agg [.cs [.bool (a7.getD (s1.2.1).toNat Zd7).1, .int .i64 (a7.getD (s1.2.1).toNat Zd7).2.1, .int .i64 (a7.getD (s1.2.1).toNat Zd7).2.2.1, .fz Zs2 (a7.getD (s1.2.1).toNat Zd7).2.2.2]])), (20, .v (.c (.ptr 2 0 0 0 0 0))), (21, .v (.c (.bool (a7.getD (s1.2.1).toNat Zd7).1))), (24, .v (.c (.clo 53 []))), (25, .v (.c (.int .i64 x1))), (27, .v (.c (.ptr 2 0 0 3 0 0))), (28, .v (.c (.fz Zs2 (a7.getD (s1.2.1).toNat Zd7).2.2.2))), (29, .v (.c (.int .i64 ((a7.getD (s1.2.1).toNat Zd7).2.2.2.length : Int)))), (30, .v (.c (.int .i64 s2.2.1))), (31, .v (.c (.bool x2))), (32, .v (.c (.fp Zs2 x3 0 0 0))), (33, .v (.agg [.cs [.int .i64 x4, .bool x5, .int .i64 x6, .int .i64 x7], .ints 2 .i64 x8, .ints 6 .i64 x9, .fzs 6 Zs3 x10])), (34, .v (.c (.ptr 3 0 0 2 0 0))), (35, .v (.c (.int .i64 x6))), (36, .v (.c (.bool (decide (x6 = 1))))), (37, .v (.c (.bool (decide (x6 = 1))))), (41, .v (.c (.bool (bif (decide (x6 = 1)) then true else (decide (x6 = 4))))))], [(0, .bun 22 (.flat [.cs [.sl 1 0 s2.2.2.1 1]]) [(3, 1, .flat [.ints s2.2.2.2.1 .i64 s2.2.2.2.2])]), (2, .mem true 49 none (.flat [.cs [.bool (a7.getD (s1.2.1).toNat Zd7).1, .int .i64 (a7.getD (s1.2.1).toNat Zd7).2.1, .int .i64 (a7.getD (s1.2.1).toNat Zd7).2.2.1, .fz Zs2 (a7.getD (s1.2.1).toNat Zd7).2.2.2]])), (3, .mem true 42 none (.flat [.cs [.int .i64 x4, .bool x5, .int .i64 x6, .int .i64 x7], .ints 2 .i64 x8, .ints 6 .i64 x9, .fzs 6 Zs3 x10]))], 4⟩) (fun v3 hT => ?_) (fun k1 hjk1 hT => ?_)
      ·
       refine rThen ?_
       let c2 := (quants_Of_2 N v3 s2.2.2.1 s2.2.2.2.1 s2.2.2.2.2)
       replace hT := sIf hT; obtain ⟨o1, hT⟩ := hT
       refine zReg md0 hX rfl rfl rfl ?_
       refine rInNormal (rThen ?_)
       replace hT := sIf hT; obtain ⟨o1, hT⟩ := hT
       refine zReg md0 hX rfl rfl rfl ?_
       exact hnexts2 _ (Option.some.inj hT).symm _ (To.mk' [] 1 hε rfl zL zL)
      ·
       refine zCond rfl rfl (fun hc => ?_) (fun hc => ?_)
       ·
        replace hT := sT hc hT
        let c3 := (steps_Next N s2.1 x7)
        replace hT := sIf hT; obtain ⟨o1, hT⟩ := hT
        refine zReg md0 hX rfl rfl rfl ?_
        exact zTo [] 1 hε (hjk1 _ hT)
       ·
        replace hT := sF hc hT
        refine rSkip ?_
        exact zTo [] 1 hε (hjk1 _ hT)
     ·
      replace hT := sF hc hT
      refine rExit (rThenExit (rThenExit ?_))
      exact zTo [] 1 hε (hxs20 _ (houts2 _ (Option.some.inj hT).symm))
    ·
     clear hT
     refine zCond rfl rfl (fun hc => ?_) (fun hc => ?_)
     ·
      refine zReg md0 hX rfl rfl rfl ?_
      exact rTo (To.mk' [] 1 hε rfl zJ zJ) hj
     ·
      refine rSkip ?_
      exact rTo (To.mk' [] 1 hε rfl zJ zJ) hj
   ·
    replace hT := sF hc hT
    refine rExit (rThenExit (rThenExit ?_))
    exact zTo [] 1 hε (hxs10 _ (houts1 _ (Option.some.inj hT).symm))
  ·
   cases h
 ·
  cases h
def quants_Of_v1 (N : Nat) (a1 : Int) (a2 : Int) (a3 : Int) (a4 : Bool) (a5 : Int) (a6 : (List Int)) (a7 : Zt1) (a8 : Int) : Option ((List Int) × Int) :=
 let c1 := (sound_Check_v1 N a1 a2 a3 a4 a5 a6 a7 a8)
 if c1.isSome = true then
  bif (decide ((c1.getD default) ≠ 0)) then
   some ([], (c1.getD default))
  else
   let c2 := (quants_walk_Of_1_Of_2_v1 N a1 a2 a3 a4 a5 a6 a7 a8 0 0 [])
   if c2.isSome = true then
    if (c2.getD default).1 = (c2.getD default).2.2.length then
     some ((c2.getD default).2.2, 0)
    else none
   else none
 else none
def sp_quants_Of_v1 (N : Nat) : X.Spec := fun args lk => match args with
 | [.v (.agg [.cs [.int .i64 a1, .int .i64 a2, .int .i64 a3, .bool a4, .int .i64 a5, .fz (.int .i64) a6, .fz (.pair .bool (.pair (.int .i64) (.pair (.int .i64) (.sl (.pair (.int .i64) (.pair .bool (.pair (.int .i64) (.pair (.int .i64) (.pair (.arr 2 .i64) (.pair (.arr 6 .i64) (.arrS 6 (.pair .bool (.pair (.int .i64) (.int .i64)))))))))))))) a7, .int .i64 a8]])] => some ⟨(quants_Of_v1 N a1 a2 a3 a4 a5 a6 a7 a8).isSome = true, .tup [.c (.fz (.int .i64) ((quants_Of_v1 N a1 a2 a3 a4 a5 a6 a7 a8).getD default).1), .c (.int .i64 ((quants_Of_v1 N a1 a2 a3 a4 a5 a6 a7 a8).getD default).2)], [], []⟩
 | _ => none
set_option maxRecDepth 100000 in
set_option maxHeartbeats 1000000 in
theorem ok_quants_Of_v1 (N : Nat) : FnOK Tryd.prog gt0 22 (sp_quants_Of_v1 N) := by
 refine fnOK_handed Tryd.func22 rfl (by kernel_rfl) tt_ok (ktCons (ok_quants_walk_Of_1_Of_2_v1 N) (ktCons (ok_sound_Check_v1 N) (ktNil))) ?_
 intro args lk r h hp
 unfold sp_quants_Of_v1 at h
 split at h
 ·
  rename_i a1 a2 a3 a4 a5 a6 a7 a8
  change (List Int) at a6
  change Zt1 at a7
  cases h
  obtain ⟨x, hx⟩ := Option.isSome_iff_exists.1 hp
  simp only [hx, Option.getD_some]
  refine hand0 rfl rfl (fun w0 M ε0 hX => ?_)
  refine rCount (fun hε => ?_)
  have hT : quants_Of_v1 N a1 a2 a3 a4 a5 a6 a7 a8 = some x := hx; clear hx hp; unfold quants_Of_v1 at hT
  refine zA hX ?_
  refine rSeq ?_
  let c1 := (sound_Check_v1 N a1 a2 a3 a4 a5 a6 a7 a8)
  replace hT := sIf hT; obtain ⟨o1, hT⟩ := hT
  refine zA hX ?_
  refine zA hX ?_
  refine zCond rfl rfl (fun hc => ?_) (fun hc => ?_)
  ·
   replace hT := sT hc hT
   refine zA hX ?_
   refine rRet (rThenRet ?_)
   have hy := Option.some.inj hT; subst hy
   exact zEnd0 hX rfl
  ·
   replace hT := sF hc hT
   refine rSkip (rThen (zA hX ?_))
   refine rSeq (rNil 3 1 (.flat [.ints 0 .i64 []]) [(1, .v (.c (.ptr 0 0 0 0 0 0))), (2, .v (.c (.val (.slice none 0 0)))), (3, .v (.c (.int .i64 0))), (5, .v (.c (.ptr 1 0 0 0 0 0)))] [(0, .mem true 25 none (.flat [.cs [.int .i64 a1, .int .i64 a2, .int .i64 a3, .bool a4, .int .i64 a5, .fz (.int .i64) a6, .fz Zs1 a7, .int .i64 a8]])), (1, .mem true 22 none (.flat [.cs [.sl 2 0 0 1]]))] (nil_ints _) zF zF ?_)
   refine rBunShut 1 [2] (.flat [.cs [.sl 1 0 0 1]]) [(3, 1, .flat [.ints 0 .i64 []])] rfl rfl zT zT rfl rfl ?_
   refine rToW (T := ⟨[(1, .v (.c (.ptr 0 0 0 0 0 0))), (2, .v (.c (.val (.slice none 0 0)))), (3, .v (.c (.int .i64 0))), (5, .v (.c (.ptr 1 0 0 0 0 0)))], [(0, .mem true 25 none (.flat [.cs [.int .i64 a1, .int .i64 a2, .int .i64 a3, .bool a4, .int .i64 a5, .fz (.int .i64) a6, .fz Zs1 a7, .int .i64 a8]])), (1, .bun 22 (.flat [.cs [.sl 1 0 0 1]]) [(3, 1, .flat [.ints 0 .i64 []])])], 3⟩) (To.mk' [] 0 hε rfl zL zL) ?_
   let c2 := (quants_walk_Of_1_Of_2_v1 N a1 a2 a3 a4 a5 a6 a7 a8 0 0 [])
   replace hT := sIf hT; obtain ⟨o1, hT⟩ := hT
   refine zReg md0 hX rfl rfl rfl ?_
   refine rThen (rSeq (rBunOpen 1 rfl rfl rfl rfl ?_))
   refine rToW (T := ⟨[(2, .v (.c (.val (.slice none 0 0)))), (3, .v (.c (.int .i64 0))), (5, .v (.c (.ptr 1 0 0 0 0 0)))], [(1, .mem true 22 none (.flat [.cs [.sl 3 0 (c2.getD default).1 1]])), (3, .mem true 3 (some 1) (.flat [.ints (c2.getD default).2.1 .i64 (c2.getD default).2.2]))], 4⟩) (To.mk' [] 0 hε rfl zL zL) ?_
   refine zReg md0 hX rfl rfl rfl ?_
   refine rThen (rRet ?_)
   replace hT := sIf hT; obtain ⟨p1, hT⟩ := hT
   refine rFreezeQ 3 (.int .i64) (c2.getD default).2.2 [(2, .v (.c (.fz (.int .i64) (c2.getD default).2.2))), (3, .v (.c (.int .i64 0)))] [] rfl rfl zF zF ?_
   have hy := Option.some.inj hT; subst hy
   exact zEnd0 hX rfl
 ·
  cases h
def quants_walk_First_1_First_2_v1_b2 (N : Nat) (a7 : Zt1) (s1 : Zt5) (s2 : (Int × Int)) : Option ((Int × Int) ⊕ (Int × Int × Bool)) :=
 let x2 := (decide (s2.2 < ((a7.getD (s1.2.1).toNat Zd7).2.2.2.length : Int)))
 bif x2 then
  let x3 := ((a7.getD (s1.2.1).toNat Zd7).2.2.2.getD (s2.2).toNat Zd1)
  let x4 := ((a7.getD (s1.2.1).toNat Zd7).2.2.2.getD (s2.2).toNat Zd1).1
  let x5 := ((a7.getD (s1.2.1).toNat Zd7).2.2.2.getD (s2.2).toNat Zd1).2.1
  let x6 := ((a7.getD (s1.2.1).toNat Zd7).2.2.2.getD (s2.2).toNat Zd1).2.2.1
  let x7 := ((a7.getD (s1.2.1).toNat Zd7).2.2.2.getD (s2.2).toNat Zd1).2.2.2.1
  let x8 : (List Int) := ((a7.getD (s1.2.1).toNat Zd7).2.2.2.getD (s2.2).toNat Zd1).2.2.2.2.1
  let x9 : (List Int) := ((a7.getD (s1.2.1).toNat Zd7).2.2.2.getD (s2.2).toNat Zd1).2.2.2.2.2.1
  let x10 := ((a7.getD (s1.2.1).toNat Zd7).2.2.2.getD (s2.2).toNat Zd1).2.2.2.2.2.2
  if (0 : Int) ≤ s2.2 ∧ s2.2 < ((a7.getD (s1.2.1).toNat Zd7).2.2.2.length : Int) then
   joinK (fun (v3 : Int) =>
    let c2 := (quants_First_2 N v3)
    if c2.isSome = true then
     if inK .i64 (s2.2 + 1) then
      some (.inl (v3, (s2.2 + 1)))
     else none
    else none
   ) fun k1 =>
    bif (bif (decide (x6 = 1)) then true else (decide (x6 = 4))) then
     let c3 := (steps_Next N s2.1 x7)
     if c3.isSome = true then
      k1 (c3.getD default)
     else none
    else
     k1 s2.1
  else none
 else
  some (.inr (s2.1, s2.2, x2))
def quants_walk_First_1_First_2_v1_b1 (N : Nat) (a7 : Zt1) (s1 : Zt5) : Option (Zt5 ⊕ Zt9) :=
 bif (decide (s1.2.1 < (a7.length : Int))) then
  if (0 : Int) ≤ s1.2.1 ∧ s1.2.1 < (a7.length : Int) then
   let x1 := (bif (a7.getD (s1.2.1).toNat Zd7).1 then (a7.getD (s1.2.1).toNat Zd7).2.2.1 else s1.1)
   let c1 := (quants_First_1 N x1 s1.2.2.1 s1.2.2.2.1 s1.2.2.2.2)
   if c1.isSome = true then
    (iter (quants_walk_First_1_First_2_v1_b2 N a7 s1) N (x1, 0)).bind fun v2 =>
     if inK .i64 (s1.2.1 + 1) then
      some (.inl (v2.1, (s1.2.1 + 1), (c1.getD default).1, (c1.getD default).2.1, (c1.getD default).2.2))
     else none
   else none
  else none
 else
  some (.inr (s1.2.2.1, s1.2.2.2.1, s1.2.2.2.2))
def quants_walk_First_1_First_2_v1 (N : Nat) (a1 : Int) (a2 : Int) (a3 : Int) (a4 : Bool) (a5 : Int) (a6 : (List Int)) (a7 : Zt1) (a8 : Int) (a9 : Nat) (a10 : Nat) (a11 : (List Int)) : Option Zt9 :=
 (iter (quants_walk_First_1_First_2_v1_b1 N a7) N (a5, 0, a9, a10, a11)).bind fun v1 =>
  some (v1.1, v1.2.1, v1.2.2)
def sp_quants_walk_First_1_First_2_v1 (N : Nat) : X.Spec := fun args lk => match args with
 | [.v (.agg [.cs [.int .i64 a1, .int .i64 a2, .int .i64 a3, .bool a4, .int .i64 a5, .fz (.int .i64) a6, .fz (.pair .bool (.pair (.int .i64) (.pair (.int .i64) (.sl (.pair (.int .i64) (.pair .bool (.pair (.int .i64) (.pair (.int .i64) (.pair (.arr 2 .i64) (.pair (.arr 6 .i64) (.arrS 6 (.pair .bool (.pair (.int .i64) (.int .i64)))))))))))))) a7, .int .i64 a8]]), .v (.c (.clo 55 [i0])), .v (.c (.clo 56 []))] => (match lk i0 with
  | some (.bun 22 (.flat [.cs [.sl 1 0 a9 1]]) [(3, 1, .flat [.ints a10 .i64 a11])]) => some ⟨(quants_walk_First_1_First_2_v1 N a1 a2 a3 a4 a5 a6 a7 a8 a9 a10 a11).isSome = true, .tup [], [], [(i0, .bun 22 (.flat [.cs [.sl 1 0 ((quants_walk_First_1_First_2_v1 N a1 a2 a3 a4 a5 a6 a7 a8 a9 a10 a11).getD default).1 1]]) [(3, 1, .flat [.ints ((quants_walk_First_1_First_2_v1 N a1 a2 a3 a4 a5 a6 a7 a8 a9 a10 a11).getD default).2.1 .i64 ((quants_walk_First_1_First_2_v1 N a1 a2 a3 a4 a5 a6 a7 a8 a9 a10 a11).getD default).2.2])])]⟩
  | _ => none)
 | _ => none
set_option maxRecDepth 100000 in
set_option maxHeartbeats 1000000 in
theorem ok_quants_walk_First_1_First_2_v1 (N : Nat) : FnOK Tryd.prog gt0 52 (sp_quants_walk_First_1_First_2_v1 N) := by
 refine fnOK_handed Tryd.func52 rfl (by kernel_rfl) tt_ok (ktCons (ok_steps_Next N) (ktCons (ok_quants_First_2 N) (ktCons (ok_quants_First_1 N) (ktNil)))) ?_
 intro args lk r h hp
 unfold sp_quants_walk_First_1_First_2_v1 at h
 split at h
 ·
  rename_i a1 a2 a3 a4 a5 a6 a7 a8 i0
  split at h
  ·
   rename_i a9 a10 a11 hl0
   change (List Int) at a6
   change Zt1 at a7
   change (List Int) at a11
   cases h
   obtain ⟨x, hx⟩ := Option.isSome_iff_exists.1 hp
   simp only [hx, Option.getD_some]
   refine handL [i0] 1 [(0, .bun 22 (.flat [.cs [.sl 1 0 a9 1]]) [(3, 1, .flat [.ints a10 .i64 a11])])] [.v (.agg [.cs [.int .i64 a1, .int .i64 a2, .int .i64 a3, .bool a4, .int .i64 a5, .fz (.int .i64) a6, .fz Zs1 a7, .int .i64 a8]]), .v (.c (.clo 55 [0])), .v (.c (.clo 56 []))] rfl rfl rfl ⟨isSome_of hl0, trivial⟩ ⟨⟨rfl, zT, _, hl0, .inl rfl⟩, trivial⟩ rfl (fun w0 M ε0 hX => ?_)
   refine rCount (fun hε => ?_)
   have hT : quants_walk_First_1_First_2_v1 N a1 a2 a3 a4 a5 a6 a7 a8 a9 a10 a11 = some x := hx; clear hx hp; unfold quants_walk_First_1_First_2_v1 at hT
   refine zA hX ?_
   refine zA hX ?_
   refine zA hX ?_
   refine rBlock ?_
   replace hT := sBind hT; obtain ⟨w1, hl, hT⟩ := hT
   refine rJoinA (fun v1 => v1 = w1) (fun v1 => ⟨[], [(0, .bun 22 (.flat [.cs [.sl 1 0 v1.1 1]]) [(3, 1, .flat [.ints v1.2.1 .i64 v1.2.2])])], 2⟩) (.exit 0) (fun v1 hv => ?_) (fun hxs10 => ?_)
   ·
    subst hv; clear hl
    refine rInHit (rNormal ?_)
    have hy := Option.some.inj hT; subst hy
    exact rEndA [] [] [(0, .bun 22 (.flat [.cs [.sl 1 0 v1.1 1]]) [(3, 1, .flat [.ints v1.2.1 .i64 v1.2.2])])] (.tup []) hX rfl zZ zL rfl rfl rfl zT rfl rfl zT rfl rfl
   refine rLoopM (quants_walk_First_1_First_2_v1_b1 N a7) (fun s1 => ⟨[(1, .v (.c (.clo 55 [0]))), (2, .v (.c (.clo 56 []))), (6, .v (.c (.int .i64 s1.1))), (14, .v (.c (.fz Zs1 a7))), (15, .v (.c (.int .i64 (a7.length : Int)))), (16, .v (.c (.int .i64 s1.2.1)))], [(0, .bun 22 (.flat [.cs [.sl 1 0 s1.2.2.1 1]]) [(3, 1, .flat [.ints s1.2.2.2.1 .i64 s1.2.2.2.2])])], 2⟩) hl (To.mk' [] 1 hε rfl zL zL) (fun s1 zs1 NNs1 hz hnexts1 houts1 => ?_)
   clear hl hT
   have hT := hz; clear hz
   refine zA hX ?_
   refine rSeq ?_
   refine zCond rfl rfl (fun hc => ?_) (fun hc => ?_)
   ·
    replace hT := sT hc hT
    refine rSkip (rThen (rSeq (rBlock ?_)))
    replace hT := sIf hT; obtain ⟨⟨o1, o2⟩, hT⟩ := hT
    refine zA hX ?_
    refine rSeq (zA hX ?_)
    refine rJoin ⟨[(1, .v (.c (.clo 55 [0]))), (2, .v (.c (.clo 56 []))), (6, .v (.c (.int .i64 (bif (a7.getD (s1.2.1).toNat Zd7).1 then (a7.getD (s1.2.1).toNat Zd7).2.2.1 else s1.1)))), (8, .v (.c (.ptr 2 0 0 0 0 0))), (14, .v (.c (.fz Zs1 a7))), (15, .v (.c (.int .i64 (a7.length : Int)))), (16, .v (.c (.int .i64 s1.2.1))), (17, .v (.c (.bool (decide (s1.2.1 < (a7.length : Int)))))), (18, .v (.c (.fp Zs1 (a7.getD (s1.2.1).toNat Zd7) 0 0 0))), (19, .v (.agg [.cs [.bool (a7.getD (s1.2.1).toNat Zd7).1, .int .i64 (a7.getD (s1.2.1).toNat Zd7).2.1, .int .i64 (a7.getD (s1.2.1).toNat Zd7).2.2.1, .fz Zs2 (a7.getD (s1.2.1).toNat Zd7).2.2.2]])), (20, .v (.c (.ptr 2 0 0 0 0 0))), (21, .v (.c (.bool (a7.getD (s1.2.1).toNat Zd7).1)))], [(0, .bun 22 (.flat [.cs [.sl 1 0 s1.2.2.1 1]]) [(3, 1, .flat [.ints s1.2.2.2.1 .i64 s1.2.2.2.2])]), (2, .mem true 49 none (.flat [.cs [.bool (a7.getD (s1.2.1).toNat Zd7).1, .int .i64 (a7.getD (s1.2.1).toNat Zd7).2.1, .int .i64 (a7.getD (s1.2.1).toNat Zd7).2.2.1, .fz Zs2 (a7.getD (s1.2.1).toNat Zd7).2.2.2]]))], 3⟩ ?_ (fun hj => ?_)
    ·
     let x1 := (bif (a7.getD (s1.2.1).toNat Zd7).1 then (a7.getD (s1.2.1).toNat Zd7).2.2.1 else s1.1)
     refine rThen ?_
     let c1 := (quants_First_1 N x1 s1.2.2.1 s1.2.2.2.1 s1.2.2.2.2)
     replace hT := sIf hT; obtain ⟨o1, hT⟩ := hT
     refine zA hX ?_
     refine zA hX ?_
     refine rBlock ?_
     replace hT := sBind hT; obtain ⟨w2, hl, hT⟩ := hT
     refine rJoinA (fun v2 => v2 = w2) (fun v2 => ⟨[(1, .v (.c (.clo 55 [0]))), (2, .v (.c (.clo 56 []))), (6, .v (.c (.int .i64 v2.1))), (8, .v (.c (.ptr 2 0 0 0 0 0))), (14, .v (.c (.fz Zs1 a7))), (15, .v (.c (.int .i64 (a7.length : Int)))), (16, .v (.c (.int .i64 s1.2.1))), (17, .v (.c (.bool (decide (s1.2.1 < (a7.length : Int)))))), (18, .v (.c (.fp Zs1 (a7.getD (s1.2.1).toNat Zd7) 0 0 0))), (19, .v (.agg [.cs [.bool (a7.getD (s1.2.1).toNat Zd7).1, .int .i64 (a7.getD (s1.2.1).toNat Zd7).2.1, .int .i64 (a7.getD (s1.2.1).toNat Zd7).2.2.1, .fz Zs2 (a7.getD (s1.2.1).toNat Zd7).2.2.2]])), (20, .v (.c (.ptr 2 0 0 0 0 0))), (21, .v (.c (.bool (a7.getD (s1.2.1).toNat Zd7).1))), (24, .v (.c (.clo 55 [0]))), (25, .v (.c (.int .i64 x1))), (27, .v (.c (.ptr 2 0 0 3 0 0))), (28, .v (.c (.fz Zs2 (a7.getD (s1.2.1).toNat Zd7).2.2.2))), (29, .v (.c (.int .i64 ((a7.getD (s1.2.1).toNat Zd7).2.2.2.length : Int)))), (30, .v (.c (.int .i64 v2.2.1))), (31, .v (.c (.bool v2.2.2)))], [(0, .bun 22 (.flat [.cs [.sl 1 0 (c1.getD default).1 1]]) [(3, 1, .flat [.ints (c1.getD default).2.1 .i64 (c1.getD default).2.2])]), (2, .mem true 49 none (.flat [.cs [.bool (a7.getD (s1.2.1).toNat Zd7).1, .int .i64 (a7.getD (s1.2.1).toNat Zd7).2.1, .int .i64 (a7.getD (s1.2.1).toNat Zd7).2.2.1, .fz Zs2 (a7.getD (s1.2.1).toNat Zd7).2.2.2]]))], 3⟩) (.exit 2) (fun v2 hv => ?_) (fun hxs20 => ?_)
     ·
      subst hv; clear hl
      refine rInHit (rInNormal (rThen ?_))
      replace hT := sIf hT; obtain ⟨o1, hT⟩ := hT
      refine zReg md0 hX rfl rfl rfl ?_
      exact hnexts1 _ (Option.some.inj hT).symm _ (To.mk' [] 1 hε rfl zL zL)
     refine rLoopM (quants_walk_First_1_First_2_v1_b2 N a7 s1) (fun s2 => ⟨[(1, .v (.c (.clo 55 [0]))), (2, .v (.c (.clo 56 []))), (6, .v (.c (.int .i64 s2.1))), (8, .v (.c (.ptr 2 0 0 0 0 0))), (14, .v (.c (.fz Zs1 a7))), (15, .v (.c (.int .i64 (a7.length : Int)))), (16, .v (.c (.int .i64 s1.2.1))), (17, .v (.c (.bool (decide (s1.2.1 < (a7.length : Int)))))), (18, .v (.c (.fp Zs1 (a7.getD (s1.2.1).toNat Zd7) 0 0 0))), (19, .v (.agg [.cs [.bool (a7.getD (s1.2.1).toNat Zd7).1, .int .i64 (a7.getD (s1.2.1).toNat Zd7).2.1, .int .i64 (a7.getD (s1.2.1).toNat Zd7).2.2.1, .fz Zs2 (a7.getD (s1.2.1).toNat Zd7).2.2.2]])), (20, .v (.c (.ptr 2 0 0 0 0 0))), (21, .v (.c (.bool (a7.getD (s1.2.1).toNat Zd7).1))), (24, .v (.c (.clo 55 [0]))), (25, .v (.c (.int .i64 x1))), (27, .v (.c (.ptr 2 0 0 3 0 0))), (28, .v (.c (.fz Zs2 (a7.getD (s1.2.1).toNat Zd7).2.2.2))), (29, .v (.c (.int .i64 ((a7.getD (s1.2.1).toNat Zd7).2.2.2.length : Int)))), (30, .v (.c (.int .i64 s2.2)))], [(0, .bun 22 (.flat [.cs [.sl 1 0 (c1.getD default).1 1]]) [(3, 1, .flat [.ints (c1.getD default).2.1 .i64 (c1.getD default).2.2])]), (2, .mem true 49 none (.flat [.cs [.bool (a7.getD (s1.2.1).toNat Zd7).1, .int .i64 (a7.getD (s1.2.1).toNat Zd7).2.1, .int .i64 (a7.getD (s1.2.1).toNat Zd7).2.2.1, .fz Zs2 (a7.getD (s1.2.1).toNat Zd7).2.2.2]]))], 3⟩) hl (To.mk' [] 1 hε rfl zL zL) (fun s2 zs2 NNs2 hz hnexts2 houts2 => ?_)
     clear hl hT
     have hT := hz; clear hz
     let x2 := (decide (s2.2 < ((a7.getD (s1.2.1).toNat Zd7).2.2.2.length : Int)))
     refine zA hX ?_
     refine rSeq ?_
     refine zCond rfl rfl (fun hc => ?_) (fun hc => ?_)
     ·
      replace hT := sT hc hT
      refine rSkip (rThen (rSeq (rBlock ?_)))
      let x3 := ((a7.getD (s1.2.1).toNat Zd7).2.2.2.getD (s2.2).toNat Zd1)
      let x4 := ((a7.getD (s1.2.1).toNat Zd7).2.2.2.getD (s2.2).toNat Zd1).1
      let x5 := ((a7.getD (s1.2.1).toNat Zd7).2.2.2.getD (s2.2).toNat Zd1).2.1
      let x6 := ((a7.getD (s1.2.1).toNat Zd7).2.2.2.getD (s2.2).toNat Zd1).2.2.1
      let x7 := ((a7.getD (s1.2.1).toNat Zd7).2.2.2.getD (s2.2).toNat Zd1).2.2.2.1
      let x8 : (List Int) := ((a7.getD (s1.2.1).toNat Zd7).2.2.2.getD (s2.2).toNat Zd1).2.2.2.2.1
      let x9 : (List Int) := ((a7.getD (s1.2.1).toNat Zd7).2.2.2.getD (s2.2).toNat Zd1).2.2.2.2.2.1
      let x10 := ((a7.getD (s1.2.1).toNat Zd7).2.2.2.getD (s2.2).toNat Zd1).2.2.2.2.2.2
      replace hT := sIf hT; obtain ⟨⟨o1, o2⟩, hT⟩ := hT
      refine zA hX ?_
      refine rSeq (zA hX ?_)
      refine rJoinK hT (fun v3 => ⟨[(1, .v (.c (.clo 55 [0]))), (2, .v (.c (.clo 56 []))), (6, .v (.c (.int .i64 v3))), (8, .v (.c (.ptr 2 0 0 0 0 0))), (10, .v (.c (.ptr 3 0 0 0 0 0))), (14, .v (.c (.fz Zs1 a7))), (15, .v (.c (.int .i64 (a7.length : Int)))), (16, .v (.c (.int .i64 s1.2.1))), (17, .v (.c (.bool (decide (s1.2.1 < (a7.length : Int)))))), (18, .v (.c (.fp Zs1 (a7.getD (s1.2.1).toNat Zd7) 0 0 0))), (19, .v (.agg [.cs [.bool (a7.getD (s1.2.1).toNat Zd7).1, .int .i64 (a7.getD (s1.2.1).toNat Zd7).2.1, .int .i64 (a7.getD (s1.2.1).toNat Zd7).2.2.1, .fz Zs2 (a7.getD (s1.2.1).toNat Zd7).2.2.2]])), (20, .v (.c (.ptr 2 0 0 0 0 0))), (21, .v (.c (.bool (a7.getD (s1.2.1).toNat Zd7).1))), (24, .v (.c (.clo 55 [0]))), (25, .v (.c (.int .i64 x1))), (27, .v (.c (.ptr 2 0 0 3 0 0))), (28, .v (.c (.fz Zs2 (a7.getD (s1.2.1).toNat Zd7).2.2.2))), (29, .v (.c (.int .i64 ((a7.getD (s1.2.1).toNat Zd7).2.2.2.length : Int)))), (30, .v (.c (.int .i64 s2.2))), (31, .v (.c (.bool x2))), (32, .v (.c (.fp Zs2 x3 0 0 0))), (33, .v (.agg [.cs [.int .i64 x4, .bool x5, .int .i64 x6, .int .i64 x7], .ints 2 .i64 x8, .ints 6 .i64 x9, .fzs 6 Zs3 x10])), (34, .v (.c (.ptr 3 0 0 2 0 0))), (35, .v (.c (.int .i64 x6))), (36, .v (.c (.bool (decide (x6 = 1))))), (37, .v (.c (.bool (decide (x6 = 1))))), (41, .v (.c (.bool (bif (decide (x6 = 1)) then true else (decide (x6 = 4))))))], [(0, .bun 22 (.flat [.cs [.sl 1 0 (c1.getD default).1 1]]) [(3, 1, .flat [.ints (c1.getD default).2.1 .i64 (c1.getD default).2.2])]), (2, .mem true 49 none (.flat [.cs [.bool (a7.getD (s1.2.1).toNat Zd7).1, .int .i64 (a7.getD (s1.2.1).toNat Zd7).2.1, .int .i64 (a7.getD (s1.2.1).toNat Zd7).2.2.1, .fz Zs2 (a7.getD (s1.2.1).toNat Zd7).2.2.2]])), (3, .mem true 42 none (.flat [.cs [.int .i64 x4, .bool x5, .int .i64 x6, .int .i64 x7], .ints 2 .i64 x8, .ints 6 .i64 x9, .fzs 6 Zs3 x10]))], 4⟩) (fun v3 hT => ?_) (fun k1 hjk1 hT => ?_)
      ·
       refine rThen ?_
       let c2 := (quants_First_2 N v3)
       replace hT := sIf hT; obtain ⟨o1, hT⟩ := hT
       refine zReg md0 hX rfl rfl rfl ?_
       refine rInNormal (rThen ?_)
       replace hT := sIf hT; obtain ⟨o1, hT⟩ := hT
       refine zReg md0 hX rfl rfl rfl ?_
       exact hnexts2 _ (Option.some.inj hT).symm _ (To.mk' [] 1 hε rfl zL zL)
      ·
       refine zCond rfl rfl (fun hc => ?_) (fun hc => ?_)
       ·
        replace hT := sT hc hT
        let c3 := (steps_Next N s2.1 x7)
        replace hT := sIf hT; obtain ⟨o1, hT⟩ := hT
        refine zReg md0 hX rfl rfl rfl ?_
        exact zTo [] 1 hε (hjk1 _ hT)
       ·
        replace hT := sF hc hT
        refine rSkip ?_
        exact zTo [] 1 hε (hjk1 _ hT)
     ·
      replace hT := sF hc hT
      refine rExit (rThenExit (rThenExit ?_))
      exact zTo [] 1 hε (hxs20 _ (houts2 _ (Option.some.inj hT).symm))
    ·
     clear hT
     refine zCond rfl rfl (fun hc => ?_) (fun hc => ?_)
     ·
      refine zReg md0 hX rfl rfl rfl ?_
      exact rTo (To.mk' [] 1 hε rfl zJ zJ) hj
     ·
      refine rSkip ?_
      exact rTo (To.mk' [] 1 hε rfl zJ zJ) hj
   ·
    replace hT := sF hc hT
    refine rExit (rThenExit (rThenExit ?_))
    exact zTo [] 1 hε (hxs10 _ (houts1 _ (Option.some.inj hT).symm))
  ·
   cases h
 ·
  cases h
def quants_First_v1 (N : Nat) (a1 : Int) (a2 : Int) (a3 : Int) (a4 : Bool) (a5 : Int) (a6 : (List Int)) (a7 : Zt1) (a8 : Int) : Option ((List Int) × Int) :=
 let c1 := (sound_Check_v1 N a1 a2 a3 a4 a5 a6 a7 a8)
 if c1.isSome = true then
  bif (decide ((c1.getD default) ≠ 0)) then
   some ([], (c1.getD default))
  else
   let c2 := (quants_walk_First_1_First_2_v1 N a1 a2 a3 a4 a5 a6 a7 a8 0 0 [])
   if c2.isSome = true then
    if (c2.getD default).1 = (c2.getD default).2.2.length then
     some ((c2.getD default).2.2, 0)
    else none
   else none
 else none
def sp_quants_First_v1 (N : Nat) : X.Spec := fun args lk => match args with
 | [.v (.agg [.cs [.int .i64 a1, .int .i64 a2, .int .i64 a3, .bool a4, .int .i64 a5, .fz (.int .i64) a6, .fz (.pair .bool (.pair (.int .i64) (.pair (.int .i64) (.sl (.pair (.int .i64) (.pair .bool (.pair (.int .i64) (.pair (.int .i64) (.pair (.arr 2 .i64) (.pair (.arr 6 .i64) (.arrS 6 (.pair .bool (.pair (.int .i64) (.int .i64)))))))))))))) a7, .int .i64 a8]])] => some ⟨(quants_First_v1 N a1 a2 a3 a4 a5 a6 a7 a8).isSome = true, .tup [.c (.fz (.int .i64) ((quants_First_v1 N a1 a2 a3 a4 a5 a6 a7 a8).getD default).1), .c (.int .i64 ((quants_First_v1 N a1 a2 a3 a4 a5 a6 a7 a8).getD default).2)], [], []⟩
 | _ => none
set_option maxRecDepth 100000 in
set_option maxHeartbeats 1000000 in
theorem ok_quants_First_v1 (N : Nat) : FnOK Tryd.prog gt0 23 (sp_quants_First_v1 N) := by
 refine fnOK_handed Tryd.func23 rfl (by kernel_rfl) tt_ok (ktCons (ok_quants_walk_First_1_First_2_v1 N) (ktCons (ok_sound_Check_v1 N) (ktNil))) ?_
 intro args lk r h hp
 unfold sp_quants_First_v1 at h
 split at h
 ·
  rename_i a1 a2 a3 a4 a5 a6 a7 a8
  change (List Int) at a6
  change Zt1 at a7
  cases h
  obtain ⟨x, hx⟩ := Option.isSome_iff_exists.1 hp
  simp only [hx, Option.getD_some]
  refine hand0 rfl rfl (fun w0 M ε0 hX => ?_)
  refine rCount (fun hε => ?_)
  have hT : quants_First_v1 N a1 a2 a3 a4 a5 a6 a7 a8 = some x := hx; clear hx hp; unfold quants_First_v1 at hT
  refine zA hX ?_
  refine rSeq ?_
  let c1 := (sound_Check_v1 N a1 a2 a3 a4 a5 a6 a7 a8)
  replace hT := sIf hT; obtain ⟨o1, hT⟩ := hT
  refine zA hX ?_
  refine zA hX ?_
  refine zCond rfl rfl (fun hc => ?_) (fun hc => ?_)
  ·
   replace hT := sT hc hT
   refine zA hX ?_
   refine rRet (rThenRet ?_)
   have hy := Option.some.inj hT; subst hy
   exact zEnd0 hX rfl
  ·
   replace hT := sF hc hT
   refine rSkip (rThen (zA hX ?_))
   refine rSeq (rNil 3 1 (.flat [.ints 0 .i64 []]) [(1, .v (.c (.ptr 0 0 0 0 0 0))), (2, .v (.c (.val (.slice none 0 0)))), (3, .v (.c (.int .i64 0))), (5, .v (.c (.ptr 1 0 0 0 0 0)))] [(0, .mem true 25 none (.flat [.cs [.int .i64 a1, .int .i64 a2, .int .i64 a3, .bool a4, .int .i64 a5, .fz (.int .i64) a6, .fz Zs1 a7, .int .i64 a8]])), (1, .mem true 22 none (.flat [.cs [.sl 2 0 0 1]]))] (nil_ints _) zF zF ?_)
   refine rBunShut 1 [2] (.flat [.cs [.sl 1 0 0 1]]) [(3, 1, .flat [.ints 0 .i64 []])] rfl rfl zT zT rfl rfl ?_
   refine rToW (T := ⟨[(1, .v (.c (.ptr 0 0 0 0 0 0))), (2, .v (.c (.val (.slice none 0 0)))), (3, .v (.c (.int .i64 0))), (5, .v (.c (.ptr 1 0 0 0 0 0)))], [(0, .mem true 25 none (.flat [.cs [.int .i64 a1, .int .i64 a2, .int .i64 a3, .bool a4, .int .i64 a5, .fz (.int .i64) a6, .fz Zs1 a7, .int .i64 a8]])), (1, .bun 22 (.flat [.cs [.sl 1 0 0 1]]) [(3, 1, .flat [.ints 0 .i64 []])])], 3⟩) (To.mk' [] 0 hε rfl zL zL) ?_
   let c2 := (quants_walk_First_1_First_2_v1 N a1 a2 a3 a4 a5 a6 a7 a8 0 0 [])
   replace hT := sIf hT; obtain ⟨o1, hT⟩ := hT
   refine zReg md0 hX rfl rfl rfl ?_
   refine rThen (rSeq (rBunOpen 1 rfl rfl rfl rfl ?_))
   refine rToW (T := ⟨[(2, .v (.c (.val (.slice none 0 0)))), (3, .v (.c (.int .i64 0))), (5, .v (.c (.ptr 1 0 0 0 0 0)))], [(1, .mem true 22 none (.flat [.cs [.sl 3 0 (c2.getD default).1 1]])), (3, .mem true 3 (some 1) (.flat [.ints (c2.getD default).2.1 .i64 (c2.getD default).2.2]))], 4⟩) (To.mk' [] 0 hε rfl zL zL) ?_
   refine zReg md0 hX rfl rfl rfl ?_
   refine rThen (rRet ?_)
   replace hT := sIf hT; obtain ⟨p1, hT⟩ := hT
   refine rFreezeQ 3 (.int .i64) (c2.getD default).2.2 [(2, .v (.c (.fz (.int .i64) (c2.getD default).2.2))), (3, .v (.c (.int .i64 0)))] [] rfl rfl zF zF ?_
   have hy := Option.some.inj hT; subst hy
   exact zEnd0 hX rfl
 ·
  cases h
def chain_Floors_v1_b1 (N : Nat) (a7 : Zt1) (a9 : (List Int)) (s2 : Zt15) : Option (Zt15 ⊕ Zt9) :=
 bif (decide (s2.2.2.1 < (a7.length : Int))) then
  if (0 : Int) ≤ s2.2.2.1 ∧ s2.2.2.1 < (a7.length : Int) then
   let x1 := (bif (decide (s2.2.2.1 = 0)) then true else (a7.getD (s2.2.2.1).toNat Zd7).1)
   joinK (fun (v2 : Int) =>
    if 1 ≤ 1 ∧ s2.2.2.2.1 = s2.1 ∧ (s2.1 + 1) * 8 ≤ 140737488355328 ∧ s2.1 + 1 ≤ 9223372036854775807 then
     if inK .i64 (s2.2.2.1 + 1) then
      some (.inl ((s2.1 + 1), v2, (s2.2.2.1 + 1), (s2.2.2.2.1 + 1), (s2.2.2.2.2 ++ (((List.replicate 1 0).set 0 v2).take 1))))
     else none
    else none
   ) fun k1 =>
    bif x1 then
     bif (decide (s2.2.2.1 < (a9.length : Int))) then
      let c1 := (whole_Clip N (a9.getD (s2.2.2.1).toNat 0) 1 31)
      if (0 : Int) ≤ s2.2.2.1 ∧ s2.2.2.1 < (a9.length : Int) ∧ c1.isSome = true then
       k1 (c1.getD default)
      else none
     else
      k1 1
    else
     k1 s2.2.1
  else none
 else
  some (.inr (s2.1, s2.2.2.2.1, s2.2.2.2.2))
def chain_Floors_v1 (N : Nat) (a1 : Int) (a2 : Int) (a3 : Int) (a4 : Bool) (a5 : Int) (a6 : (List Int)) (a7 : Zt1) (a8 : Int) (a9 : (List Int)) : Option (List Int) :=
 (iter (chain_Floors_v1_b1 N a7 a9) N (0, 1, 0, 0, [])).bind fun v1 =>
  if v1.1 = v1.2.2.length then
   some v1.2.2
  else none
def sp_chain_Floors_v1 (N : Nat) : X.Spec := fun args lk => match args with
 | [.v (.agg [.cs [.int .i64 a1, .int .i64 a2, .int .i64 a3, .bool a4, .int .i64 a5, .fz (.int .i64) a6, .fz (.pair .bool (.pair (.int .i64) (.pair (.int .i64) (.sl (.pair (.int .i64) (.pair .bool (.pair (.int .i64) (.pair (.int .i64) (.pair (.arr 2 .i64) (.pair (.arr 6 .i64) (.arrS 6 (.pair .bool (.pair (.int .i64) (.int .i64)))))))))))))) a7, .int .i64 a8]]), .v (.c (.fz (.int .i64) a9))] => some ⟨(chain_Floors_v1 N a1 a2 a3 a4 a5 a6 a7 a8 a9).isSome = true, .v (.c (.fz (.int .i64) ((chain_Floors_v1 N a1 a2 a3 a4 a5 a6 a7 a8 a9).getD default))), [], []⟩
 | _ => none
set_option maxRecDepth 100000 in
set_option maxHeartbeats 1000000 in
theorem ok_chain_Floors_v1 (N : Nat) : FnOK Tryd.prog gt0 29 (sp_chain_Floors_v1 N) := by
 refine fnOK_handed Tryd.func29 rfl (by kernel_rfl) tt_ok (ktCons (ok_whole_Clip N) (ktNil)) ?_
 intro args lk r h hp
 unfold sp_chain_Floors_v1 at h
 split at h
 ·
  rename_i a1 a2 a3 a4 a5 a6 a7 a8 a9
  change (List Int) at a6
  change Zt1 at a7
  change (List Int) at a9
  cases h
  obtain ⟨x, hx⟩ := Option.isSome_iff_exists.1 hp
  simp only [hx, Option.getD_some]
  refine hand0 rfl rfl (fun w0 M ε0 hX => ?_)
  refine rCount (fun hε => ?_)
  have hT : chain_Floors_v1 N a1 a2 a3 a4 a5 a6 a7 a8 a9 = some x := hx; clear hx hp; unfold chain_Floors_v1 at hT
  refine zA hX ?_
  refine zA hX ?_
  refine zA hX ?_
  refine rSeq (zA hX ?_)
  refine rBlock (rNil 3 1 (.flat [.ints 0 .i64 []]) [(1, .v (.c (.fz (.int .i64) a9))), (4, .v (.c (.val (.slice none 0 0)))), (5, .v (.c (.sl 1 0 0 1))), (6, .v (.c (.int .i64 1))), (10, .v (.c (.fz Zs1 a7))), (11, .v (.c (.int .i64 (a7.length : Int)))), (12, .v (.c (.int .i64 0)))] [] (nil_ints _) zF zF ?_)
  replace hT := sBind hT; obtain ⟨w1, hl, hT⟩ := hT
  refine rJoinA (fun v1 => v1 = w1) (fun v1 => ⟨[(4, .v (.c (.val (.slice none 0 0)))), (5, .v (.c (.sl 1 0 v1.1 1)))], [(1, .mem true 3 (some 1) (.flat [.ints v1.2.1 .i64 v1.2.2]))], 2⟩) (.exit 0) (fun v1 hv => ?_) (fun hxs20 => ?_)
  ·
   subst hv; clear hl
   refine rInHit (rThen (zA hX ?_))
   refine rRet ?_
   replace hT := sIf hT; obtain ⟨p1, hT⟩ := hT
   refine rFreezeQ 1 (.int .i64) v1.2.2 [(4, .v (.c (.fz (.int .i64) v1.2.2)))] [] rfl rfl zF zF ?_
   have hy := Option.some.inj hT; subst hy
   exact zEnd0 hX rfl
  refine rLoopM (chain_Floors_v1_b1 N a7 a9) (fun s2 => ⟨[(1, .v (.c (.fz (.int .i64) a9))), (4, .v (.c (.val (.slice none 0 0)))), (5, .v (.c (.sl 1 0 s2.1 1))), (6, .v (.c (.int .i64 s2.2.1))), (10, .v (.c (.fz Zs1 a7))), (11, .v (.c (.int .i64 (a7.length : Int)))), (12, .v (.c (.int .i64 s2.2.2.1)))], [(1, .mem true 3 (some 1) (.flat [.ints s2.2.2.2.1 .i64 s2.2.2.2.2]))], 2⟩) hl (To.mk' [] 0 hε rfl zL zL) (fun s2 zs2 NNs2 hz hnexts2 houts2 => ?_)
  clear hl hT
  have hT := hz; clear hz
  refine zA hX ?_
  refine rSeq ?_
  refine zCond rfl rfl (fun hc => ?_) (fun hc => ?_)
  ·
   replace hT := sT hc hT
   refine rSkip (rThen (rSeq (rBlock ?_)))
   replace hT := sIf hT; obtain ⟨⟨o1, o2⟩, hT⟩ := hT
   refine zA hX ?_
   refine rSeq ?_
   let x1 := (bif (decide (s2.2.2.1 = 0)) then true else (a7.getD (s2.2.2.1).toNat Zd7).1)
   refine zA hX ?_
   refine rJoinK hT (fun v2 => ⟨[(1, .v (.c (.fz (.int .i64) a9))), (4, .v (.c (.val (.slice none 0 0)))), (5, .v (.c (.sl 1 0 s2.1 1))), (6, .v (.c (.int .i64 v2))), (7, .v (.c (.int .i64 s2.2.2.1))), (8, .v (.c (.ptr 2 0 0 0 0 0))), (10, .v (.c (.fz Zs1 a7))), (11, .v (.c (.int .i64 (a7.length : Int)))), (12, .v (.c (.int .i64 s2.2.2.1))), (13, .v (.c (.bool (decide (s2.2.2.1 < (a7.length : Int)))))), (14, .v (.c (.int .i64 s2.2.2.1))), (15, .v (.c (.fp Zs1 (a7.getD (s2.2.2.1).toNat Zd7) 0 0 0))), (16, .v (.agg [.cs [.bool (a7.getD (s2.2.2.1).toNat Zd7).1, .int .i64 (a7.getD (s2.2.2.1).toNat Zd7).2.1, .int .i64 (a7.getD (s2.2.2.1).toNat Zd7).2.2.1, .fz Zs2 (a7.getD (s2.2.2.1).toNat Zd7).2.2.2]])), (17, .v (.c (.int .i64 s2.2.2.1))), (18, .v (.c (.bool (decide (s2.2.2.1 = 0))))), (19, .v (.c (.bool (decide (s2.2.2.1 = 0))))), (22, .v (.c (.bool x1)))], [(1, .mem true 3 (some 1) (.flat [.ints s2.2.2.2.1 .i64 s2.2.2.2.2])), (2, .mem true 49 none (.flat [.cs [.bool (a7.getD (s2.2.2.1).toNat Zd7).1, .int .i64 (a7.getD (s2.2.2.1).toNat Zd7).2.1, .int .i64 (a7.getD (s2.2.2.1).toNat Zd7).2.2.1, .fz Zs2 (a7.getD (s2.2.2.1).toNat Zd7).2.2.2]]))], 3⟩) (fun v2 hT => ?_) (fun k1 hjk1 hT => ?_)
   ·
    refine rThen ?_
    replace hT := sIf hT; obtain ⟨⟨o1, o2, o3, o4⟩, hT⟩ := hT
    refine zReg md0 hX rfl rfl rfl ?_
    refine rInNormal (rThen ?_)
    replace hT := sIf hT; obtain ⟨o1, hT⟩ := hT
    refine zReg md0 hX rfl rfl rfl ?_
    exact hnexts2 _ (Option.some.inj hT).symm _ (To.mk' [0, 4] 0 hε rfl zL zL)
   ·
    refine zCond rfl rfl (fun hc => ?_) (fun hc => ?_)
    ·
     replace hT := sT hc hT
     refine zA hX ?_
     refine zA hX ?_
     refine zCond rfl rfl (fun hc => ?_) (fun hc => ?_)
     ·
      replace hT := sT hc hT
      let c1 := (whole_Clip N (a9.getD (s2.2.2.1).toNat 0) 1 31)
      replace hT := sIf hT; obtain ⟨⟨o1, o2, o3⟩, hT⟩ := hT
      refine zReg md0 hX rfl rfl rfl ?_
      exact zTo [] 0 hε (hjk1 _ hT)
     ·
      replace hT := sF hc hT
      refine rSkip ?_
      exact zTo [] 0 hε (hjk1 _ hT)
    ·
     replace hT := sF hc hT
     refine rSkip ?_
     exact zTo [] 0 hε (hjk1 _ hT)
  ·
   replace hT := sF hc hT
   refine rExit (rThenExit (rThenExit ?_))
   exact zTo [] 0 hε (hxs20 _ (houts2 _ (Option.some.inj hT).symm))
 ·
  cases h

end Go.Proofs.YtlcjjaglbcfbbaaDoor
