/- Models of functions, and that the program does what they tell. -/
import Derived.Test.YtlcjjaglbcfbbaaDoorE2
set_option linter.unusedVariables false
set_option linter.unusedSimpArgs false
namespace Go.Proofs.YtlcjjaglbcfbbaaDoor
open Go.X

def chain_Of_v1_b1 (N : Nat) (a7 : Zt1) (c2 : (Option ((List Int) × Int))) (c3 : (Option (List Int))) (s2 : Zt4) : Option (Zt4 ⊕ Zt11) :=
 bif (decide (s2.2.1 < (a7.length : Int))) then
  if (0 : Int) ≤ s2.2.1 ∧ s2.2.1 < (a7.length : Int) then
   let c4 := (chain_Of_1 N s2.2.1 (s2.1.take ((a7.getD (s2.2.1).toNat Zd7).2.2.2.length : Int).toNat) (c2.getD default).1 (c3.getD default) s2.2.2.1 s2.2.2.2.1 s2.2.2.2.2.1 s2.2.2.2.2.2.1 s2.2.2.2.2.2.2.1 s2.2.2.2.2.2.2.2.1 s2.2.2.2.2.2.2.2.2.1 s2.2.2.2.2.2.2.2.2.2.1 s2.2.2.2.2.2.2.2.2.2.2.1 s2.2.2.2.2.2.2.2.2.2.2.2)
   if (0 : Int) ≤ ((a7.getD (s2.2.1).toNat Zd7).2.2.2.length : Int) ∧ ((a7.getD (s2.2.1).toNat Zd7).2.2.2.length : Int) ≤ (s2.1.length : Int) ∧ c4.isSome = true then
    let x2 := (s2.1.drop ((a7.getD (s2.2.1).toNat Zd7).2.2.2.length : Int).toNat)
    if (0 : Int) ≤ ((a7.getD (s2.2.1).toNat Zd7).2.2.2.length : Int) ∧ ((a7.getD (s2.2.1).toNat Zd7).2.2.2.length : Int) ≤ (s2.1.length : Int) then
     if inK .i64 (s2.2.1 + 1) then
      some (.inl (x2, (s2.2.1 + 1), (c4.getD default).1, (c4.getD default).2.1, (c4.getD default).2.2.1, (c4.getD default).2.2.2.1, (c4.getD default).2.2.2.2.1, (c4.getD default).2.2.2.2.2.1, (c4.getD default).2.2.2.2.2.2.1, (c4.getD default).2.2.2.2.2.2.2.1, (c4.getD default).2.2.2.2.2.2.2.2.1, (c4.getD default).2.2.2.2.2.2.2.2.2))
     else none
    else none
   else none
  else none
 else
  some (.inr (s2.2.2.1, s2.2.2.2.1, s2.2.2.2.2.1, s2.2.2.2.2.2.1, s2.2.2.2.2.2.2.1, s2.2.2.2.2.2.2.2.1, s2.2.2.2.2.2.2.2.2.1, s2.2.2.2.2.2.2.2.2.2.1, s2.2.2.2.2.2.2.2.2.2.2.1, s2.2.2.2.2.2.2.2.2.2.2.2))
def chain_Of_v1 (N : Nat) (a1 : Int) (a2 : Int) (a3 : Int) (a4 : Bool) (a5 : Int) (a6 : (List Int)) (a7 : Zt1) (a8 : Int) (a9 : (List Int)) : Option Zt13 :=
 let c1 := (quants_Of_v1 N a1 a2 a3 a4 a5 a6 a7 a8)
 if c1.isSome = true then
  bif (decide ((c1.getD default).2 ≠ 0)) then
   some (0, [], [], [], (c1.getD default).2)
  else
   let c2 := (quants_First_v1 N a1 a2 a3 a4 a5 a6 a7 a8)
   if c2.isSome = true then
    let c3 := (chain_Floors_v1 N a1 a2 a3 a4 a5 a6 a7 a8 a9)
    if c3.isSome = true then
     (iter (chain_Of_v1_b1 N a7 c2 c3) N ((c1.getD default).1, 0, 0, 0, 0, 0, 0, [], 0, [], 0, [])).bind fun v1 =>
      if (0 : Int) < (v1.2.1 : Int) ∧ 0 < v1.2.2.2.2.1 then
       if v1.2.1 = v1.2.2.2.2.2.1.length ∧ v1.2.2.1 = v1.2.2.2.2.2.2.2.1.length ∧ v1.2.2.2.1 = v1.2.2.2.2.2.2.2.2.2.length then
        some ((v1.2.2.2.2.2.1.getD 0 0), v1.2.2.2.2.2.1, v1.2.2.2.2.2.2.2.1, v1.2.2.2.2.2.2.2.2.2, 0)
       else none
      else none
    else none
   else none
 else none
def sp_chain_Of_v1 (N : Nat) : X.Spec := fun args lk => match args with
 | [.v (.agg [.cs [.int .i64 a1, .int .i64 a2, .int .i64 a3, .bool a4, .int .i64 a5, .fz (.int .i64) a6, .fz (.pair .bool (.pair (.int .i64) (.pair (.int .i64) (.sl (.pair (.int .i64) (.pair .bool (.pair (.int .i64) (.pair (.int .i64) (.pair (.arr 2 .i64) (.pair (.arr 6 .i64) (.arrS 6 (.pair .bool (.pair (.int .i64) (.int .i64)))))))))))))) a7, .int .i64 a8]]), .v (.c (.fz (.int .i64) a9))] => some ⟨(chain_Of_v1 N a1 a2 a3 a4 a5 a6 a7 a8 a9).isSome = true, .tup [.agg [.cs [.int .i64 ((chain_Of_v1 N a1 a2 a3 a4 a5 a6 a7 a8 a9).getD default).1, .fz (.int .i64) ((chain_Of_v1 N a1 a2 a3 a4 a5 a6 a7 a8 a9).getD default).2.1, .fz (.int .i64) ((chain_Of_v1 N a1 a2 a3 a4 a5 a6 a7 a8 a9).getD default).2.2.1, .fz (.int .i64) ((chain_Of_v1 N a1 a2 a3 a4 a5 a6 a7 a8 a9).getD default).2.2.2.1]], .c (.int .i64 ((chain_Of_v1 N a1 a2 a3 a4 a5 a6 a7 a8 a9).getD default).2.2.2.2)], [], []⟩
 | _ => none
set_option maxRecDepth 100000 in
set_option maxHeartbeats 1000000 in
theorem ok_chain_Of_v1 (N : Nat) : FnOK Tryd.prog gt0 28 (sp_chain_Of_v1 N) := by
 refine fnOK_handed Tryd.func28 rfl (by kernel_rfl) tt_ok (ktCons (ok_chain_Of_1 N) (ktCons (ok_chain_Floors_v1 N) (ktCons (ok_quants_First_v1 N) (ktCons (ok_quants_Of_v1 N) (ktNil))))) ?_
 intro args lk r h hp
 unfold sp_chain_Of_v1 at h
 split at h
 ·
  rename_i a1 a2 a3 a4 a5 a6 a7 a8 a9
  change (List Int) at a6
  change Zt1 at a7
  change (List Int) at a9
  cases h
  obtain ⟨x, hx⟩ := Option.isSome_iff_exists.1 hp
  simp only [hx, Option.getD_some]
  refine hand0 rfl rfl (fun w0 M ε0 hX => ?_)
  refine rCount (fun hε => ?_)
  have hT : chain_Of_v1 N a1 a2 a3 a4 a5 a6 a7 a8 a9 = some x := hx; clear hx hp; unfold chain_Of_v1 at hT
  refine zA hX ?_
  let c1 := (quants_Of_v1 N a1 a2 a3 a4 a5 a6 a7 a8)
  replace hT := sIf hT; obtain ⟨o1, hT⟩ := hT
  refine zA hX ?_
  refine rSeq (zA hX ?_)
  refine zCond rfl rfl (fun hc => ?_) (fun hc => ?_)
  ·
   replace hT := sT hc hT
   refine zA hX ?_
   refine rRet (rThenRet ?_)
   have hy := Option.some.inj hT; subst hy
   exact zEnd0 hX rfl
  ·
   replace hT := sF hc hT
   refine rSkip (rThen ?_)
   let c2 := (quants_First_v1 N a1 a2 a3 a4 a5 a6 a7 a8)
   replace hT := sIf hT; obtain ⟨o1, hT⟩ := hT
   refine zA hX ?_
   let c3 := (chain_Floors_v1 N a1 a2 a3 a4 a5 a6 a7 a8 a9)
   replace hT := sIf hT; obtain ⟨o1, hT⟩ := hT
   refine zA hX ?_
   refine zA hX ?_
   refine zA hX ?_
   refine rSeq (zA hX ?_)
   refine rBlock (rNil 3 1 (.flat [.ints 0 .i64 []]) [(4, .v (.c (.ptr 2 0 0 0 0 0))), (5, .v (.c (.int .i64 0))), (6, .v (.c (.fz (.int .i64) (c1.getD default).1))), (10, .v (.c (.ptr 4 0 0 0 0 0))), (11, .v (.c (.clo 58 [3, 1, 4]))), (34, .v (.c (.fz Zs1 a7))), (35, .v (.c (.int .i64 (a7.length : Int)))), (36, .v (.c (.int .i64 0)))] [(1, .mem true 22 none (.flat [.cs [.fz (.int .i64) (c3.getD default)]])), (2, .mem true 51 none (.flat [.cs [.int .i64 0, .val (.slice none 0 0), .val (.slice none 0 0), .val (.slice none 0 0)]])), (3, .mem true 22 none (.flat [.cs [.fz (.int .i64) (c2.getD default).1]])), (4, .mem true 51 none (.flat [.cs [.int .i64 0, .sl 5 0 0 1, .val (.slice none 0 0), .val (.slice none 0 0)]]))] (nil_ints _) zF zF ?_)
   refine rNil 3 1 (.flat [.ints 0 .i64 []]) [(4, .v (.c (.ptr 2 0 0 0 0 0))), (5, .v (.c (.int .i64 0))), (6, .v (.c (.fz (.int .i64) (c1.getD default).1))), (10, .v (.c (.ptr 4 0 0 0 0 0))), (11, .v (.c (.clo 58 [3, 1, 4]))), (34, .v (.c (.fz Zs1 a7))), (35, .v (.c (.int .i64 (a7.length : Int)))), (36, .v (.c (.int .i64 0)))] [(1, .mem true 22 none (.flat [.cs [.fz (.int .i64) (c3.getD default)]])), (2, .mem true 51 none (.flat [.cs [.int .i64 0, .val (.slice none 0 0), .val (.slice none 0 0), .val (.slice none 0 0)]])), (3, .mem true 22 none (.flat [.cs [.fz (.int .i64) (c2.getD default).1]])), (4, .mem true 51 none (.flat [.cs [.int .i64 0, .sl 5 0 0 1, .sl 6 0 0 1, .val (.slice none 0 0)]])), (5, .mem true 3 (some 1) (.flat [.ints 0 .i64 []]))] (nil_ints _) zF zF ?_
   refine rNil 3 1 (.flat [.ints 0 .i64 []]) [(4, .v (.c (.ptr 2 0 0 0 0 0))), (5, .v (.c (.int .i64 0))), (6, .v (.c (.fz (.int .i64) (c1.getD default).1))), (10, .v (.c (.ptr 4 0 0 0 0 0))), (11, .v (.c (.clo 58 [3, 1, 4]))), (34, .v (.c (.fz Zs1 a7))), (35, .v (.c (.int .i64 (a7.length : Int)))), (36, .v (.c (.int .i64 0)))] [(1, .mem true 22 none (.flat [.cs [.fz (.int .i64) (c3.getD default)]])), (2, .mem true 51 none (.flat [.cs [.int .i64 0, .val (.slice none 0 0), .val (.slice none 0 0), .val (.slice none 0 0)]])), (3, .mem true 22 none (.flat [.cs [.fz (.int .i64) (c2.getD default).1]])), (4, .mem true 51 none (.flat [.cs [.int .i64 0, .sl 5 0 0 1, .sl 6 0 0 1, .sl 7 0 0 1]])), (5, .mem true 3 (some 1) (.flat [.ints 0 .i64 []])), (6, .mem true 3 (some 1) (.flat [.ints 0 .i64 []]))] (nil_ints _) zF zF ?_
   refine rBunShut 4 [5, 6, 7] (.flat [.cs [.int .i64 0, .sl 1 0 0 1, .sl 2 0 0 1, .sl 3 0 0 1]]) [(3, 1, .flat [.ints 0 .i64 []]), (3, 1, .flat [.ints 0 .i64 []]), (3, 1, .flat [.ints 0 .i64 []])] rfl rfl zT zT rfl rfl ?_
   refine rToW (T := ⟨[(4, .v (.c (.ptr 2 0 0 0 0 0))), (5, .v (.c (.int .i64 0))), (6, .v (.c (.fz (.int .i64) (c1.getD default).1))), (10, .v (.c (.ptr 4 0 0 0 0 0))), (11, .v (.c (.clo 58 [3, 1, 4]))), (34, .v (.c (.fz Zs1 a7))), (35, .v (.c (.int .i64 (a7.length : Int)))), (36, .v (.c (.int .i64 0)))], [(1, .mem true 22 none (.flat [.cs [.fz (.int .i64) (c3.getD default)]])), (2, .mem true 51 none (.flat [.cs [.int .i64 0, .val (.slice none 0 0), .val (.slice none 0 0), .val (.slice none 0 0)]])), (3, .mem true 22 none (.flat [.cs [.fz (.int .i64) (c2.getD default).1]])), (4, .bun 51 (.flat [.cs [.int .i64 0, .sl 1 0 0 1, .sl 2 0 0 1, .sl 3 0 0 1]]) [(3, 1, .flat [.ints 0 .i64 []]), (3, 1, .flat [.ints 0 .i64 []]), (3, 1, .flat [.ints 0 .i64 []])])], 8⟩) (To.mk' [] 0 hε rfl zL zL) ?_
   replace hT := sBind hT; obtain ⟨w1, hl, hT⟩ := hT
   refine rJoinA (fun v1 => v1 = w1) (fun v1 => ⟨[(4, .v (.c (.ptr 2 0 0 0 0 0))), (5, .v (.c (.int .i64 0))), (10, .v (.c (.ptr 4 0 0 0 0 0)))], [(2, .mem true 51 none (.flat [.cs [.int .i64 0, .val (.slice none 0 0), .val (.slice none 0 0), .val (.slice none 0 0)]])), (4, .bun 51 (.flat [.cs [.int .i64 v1.1, .sl 1 0 v1.2.1 1, .sl 2 0 v1.2.2.1 1, .sl 3 0 v1.2.2.2.1 1]]) [(3, 1, .flat [.ints v1.2.2.2.2.1 .i64 v1.2.2.2.2.2.1]), (3, 1, .flat [.ints v1.2.2.2.2.2.2.1 .i64 v1.2.2.2.2.2.2.2.1]), (3, 1, .flat [.ints v1.2.2.2.2.2.2.2.2.1 .i64 v1.2.2.2.2.2.2.2.2.2])])], 8⟩) (.exit 0) (fun v1 hv => ?_) (fun hxs20 => ?_)
   ·
    subst hv; clear hl
    refine rInHit (rThen (rSeq (rBunOpen 4 rfl rfl rfl rfl ?_)))
    refine rToW (T := ⟨[(4, .v (.c (.ptr 2 0 0 0 0 0))), (5, .v (.c (.int .i64 0))), (10, .v (.c (.ptr 4 0 0 0 0 0)))], [(2, .mem true 51 none (.flat [.cs [.int .i64 0, .val (.slice none 0 0), .val (.slice none 0 0), .val (.slice none 0 0)]])), (4, .mem true 51 none (.flat [.cs [.int .i64 v1.1, .sl 8 0 v1.2.1 1, .sl 9 0 v1.2.2.1 1, .sl 10 0 v1.2.2.2.1 1]])), (8, .mem true 3 (some 1) (.flat [.ints v1.2.2.2.2.1 .i64 v1.2.2.2.2.2.1])), (9, .mem true 3 (some 1) (.flat [.ints v1.2.2.2.2.2.2.1 .i64 v1.2.2.2.2.2.2.2.1])), (10, .mem true 3 (some 1) (.flat [.ints v1.2.2.2.2.2.2.2.2.1 .i64 v1.2.2.2.2.2.2.2.2.2]))], 11⟩) (To.mk' [] 0 hε rfl zL zL) ?_
    replace hT := sIf hT; obtain ⟨⟨o1, o2⟩, hT⟩ := hT
    refine zReg md0 hX rfl rfl rfl ?_
    refine rThen (zA hX ?_)
    refine rRet ?_
    replace hT := sIf hT; obtain ⟨⟨p1, p2, p3⟩, hT⟩ := hT
    refine rFreezeQ 8 (.int .i64) v1.2.2.2.2.2.1 [(4, .v (.c (.ptr 2 0 0 0 0 0))), (5, .v (.c (.int .i64 0)))] [(2, .mem true 51 none (.flat [.cs [.int .i64 (v1.2.2.2.2.2.1.getD 0 0), .fz (.int .i64) v1.2.2.2.2.2.1, .sl 9 0 v1.2.2.1 1, .sl 10 0 v1.2.2.2.1 1]])), (9, .mem true 3 (some 1) (.flat [.ints v1.2.2.2.2.2.2.1 .i64 v1.2.2.2.2.2.2.2.1])), (10, .mem true 3 (some 1) (.flat [.ints v1.2.2.2.2.2.2.2.2.1 .i64 v1.2.2.2.2.2.2.2.2.2]))] rfl rfl zF zF ?_
    refine rFreezeQ 9 (.int .i64) v1.2.2.2.2.2.2.2.1 [(4, .v (.c (.ptr 2 0 0 0 0 0))), (5, .v (.c (.int .i64 0)))] [(2, .mem true 51 none (.flat [.cs [.int .i64 (v1.2.2.2.2.2.1.getD 0 0), .fz (.int .i64) v1.2.2.2.2.2.1, .fz (.int .i64) v1.2.2.2.2.2.2.2.1, .sl 10 0 v1.2.2.2.1 1]])), (10, .mem true 3 (some 1) (.flat [.ints v1.2.2.2.2.2.2.2.2.1 .i64 v1.2.2.2.2.2.2.2.2.2]))] rfl rfl zF zF ?_
    refine rFreezeQ 10 (.int .i64) v1.2.2.2.2.2.2.2.2.2 [(4, .v (.c (.ptr 2 0 0 0 0 0))), (5, .v (.c (.int .i64 0)))] [(2, .mem true 51 none (.flat [.cs [.int .i64 (v1.2.2.2.2.2.1.getD 0 0), .fz (.int .i64) v1.2.2.2.2.2.1, .fz (.int .i64) v1.2.2.2.2.2.2.2.1, .fz (.int .i64) v1.2.2.2.2.2.2.2.2.2]]))] rfl rfl zF zF ?_
    have hy := Option.some.inj hT; subst hy
    exact zEnd0 hX rfl
   refine rLoopM (chain_Of_v1_b1 N a7 c2 c3) (fun s2 => ⟨[(4, .v (.c (.ptr 2 0 0 0 0 0))), (5, .v (.c (.int .i64 0))), (6, .v (.c (.fz (.int .i64) s2.1))), (10, .v (.c (.ptr 4 0 0 0 0 0))), (11, .v (.c (.clo 58 [3, 1, 4]))), (34, .v (.c (.fz Zs1 a7))), (35, .v (.c (.int .i64 (a7.length : Int)))), (36, .v (.c (.int .i64 s2.2.1)))], [(1, .mem true 22 none (.flat [.cs [.fz (.int .i64) (c3.getD default)]])), (2, .mem true 51 none (.flat [.cs [.int .i64 0, .val (.slice none 0 0), .val (.slice none 0 0), .val (.slice none 0 0)]])), (3, .mem true 22 none (.flat [.cs [.fz (.int .i64) (c2.getD default).1]])), (4, .bun 51 (.flat [.cs [.int .i64 s2.2.2.1, .sl 1 0 s2.2.2.2.1 1, .sl 2 0 s2.2.2.2.2.1 1, .sl 3 0 s2.2.2.2.2.2.1 1]]) [(3, 1, .flat [.ints s2.2.2.2.2.2.2.1 .i64 s2.2.2.2.2.2.2.2.1]), (3, 1, .flat [.ints s2.2.2.2.2.2.2.2.2.1 .i64 s2.2.2.2.2.2.2.2.2.2.1]), (3, 1, .flat [.ints s2.2.2.2.2.2.2.2.2.2.2.1 .i64 s2.2.2.2.2.2.2.2.2.2.2.2])])], 8⟩) hl (To.mk' [] 0 hε rfl zL zL) (fun s2 zs2 NNs2 hz hnexts2 houts2 => ?_)
   clear hl hT
   have hT := hz; clear hz
   refine zA hX ?_
   refine rSeq ?_
   refine zCond rfl rfl (fun hc => ?_) (fun hc => ?_)
   ·
    replace hT := sT hc hT
    refine rSkip (rThen (rSeq (rBlock ?_)))
    replace hT := sIf hT; obtain ⟨⟨o1, o2⟩, hT⟩ := hT
    refine zA hX ?_
    refine zA hX ?_
    let c4 := (chain_Of_1 N s2.2.1 (s2.1.take ((a7.getD (s2.2.1).toNat Zd7).2.2.2.length : Int).toNat) (c2.getD default).1 (c3.getD default) s2.2.2.1 s2.2.2.2.1 s2.2.2.2.2.1 s2.2.2.2.2.2.1 s2.2.2.2.2.2.2.1 s2.2.2.2.2.2.2.2.1 s2.2.2.2.2.2.2.2.2.1 s2.2.2.2.2.2.2.2.2.2.1 s2.2.2.2.2.2.2.2.2.2.2.1 s2.2.2.2.2.2.2.2.2.2.2.2)
    replace hT := sIf hT; obtain ⟨⟨o1, o2, o3⟩, hT⟩ := hT
    refine zA hX ?_
    let x2 := (s2.1.drop ((a7.getD (s2.2.1).toNat Zd7).2.2.2.length : Int).toNat)
    replace hT := sIf hT; obtain ⟨⟨o1, o2⟩, hT⟩ := hT
    refine zReg md0 hX rfl rfl rfl ?_
    refine rInNormal (rThen ?_)
    replace hT := sIf hT; obtain ⟨o1, hT⟩ := hT
    refine zReg md0 hX rfl rfl rfl ?_
    exact hnexts2 _ (Option.some.inj hT).symm _ (To.mk' [] 0 hε rfl zL zL)
   ·
    replace hT := sF hc hT
    refine rExit (rThenExit (rThenExit ?_))
    exact zTo [] 0 hε (hxs20 _ (houts2 _ (Option.some.inj hT).symm))
 ·
  cases h
def chain_Floors_v2_b1 (N : Nat) (a7 : Zt1) (s2 : Zt17) : Option (Zt17 ⊕ Zt9) :=
 bif (decide (s2.2.1 < (a7.length : Int))) then
  if (0 : Int) ≤ s2.2.1 ∧ s2.2.1 < (a7.length : Int) then
   let x1 := (bif (decide (s2.2.1 = 0)) then true else (a7.getD (s2.2.1).toNat Zd7).1)
   joinK (fun (v2 : Unit) =>
    if 1 ≤ 1 ∧ s2.2.2.1 = s2.1 ∧ (s2.1 + 1) * 8 ≤ 140737488355328 ∧ s2.1 + 1 ≤ 9223372036854775807 then
     if inK .i64 (s2.2.1 + 1) then
      some (.inl ((s2.1 + 1), (s2.2.1 + 1), (s2.2.2.1 + 1), (s2.2.2.2 ++ (((List.replicate 1 0).set 0 1).take 1))))
     else none
    else none
   ) fun k1 =>
    bif x1 then
     bif (decide (s2.2.1 < 0)) then
      none
     else
      k1 ()
    else
     k1 ()
  else none
 else
  some (.inr (s2.1, s2.2.2.1, s2.2.2.2))
def chain_Floors_v2 (N : Nat) (a1 : Int) (a2 : Int) (a3 : Int) (a4 : Bool) (a5 : Int) (a6 : (List Int)) (a7 : Zt1) (a8 : Int) : Option (List Int) :=
 (iter (chain_Floors_v2_b1 N a7) N (0, 0, 0, [])).bind fun v1 =>
  if v1.1 = v1.2.2.length then
   some v1.2.2
  else none
def sp_chain_Floors_v2 (N : Nat) : X.Spec := fun args lk => match args with
 | [.v (.agg [.cs [.int .i64 a1, .int .i64 a2, .int .i64 a3, .bool a4, .int .i64 a5, .fz (.int .i64) a6, .fz (.pair .bool (.pair (.int .i64) (.pair (.int .i64) (.sl (.pair (.int .i64) (.pair .bool (.pair (.int .i64) (.pair (.int .i64) (.pair (.arr 2 .i64) (.pair (.arr 6 .i64) (.arrS 6 (.pair .bool (.pair (.int .i64) (.int .i64)))))))))))))) a7, .int .i64 a8]]), .v (.c (.val (.slice none 0 0)))] => some ⟨(chain_Floors_v2 N a1 a2 a3 a4 a5 a6 a7 a8).isSome = true, .v (.c (.fz (.int .i64) ((chain_Floors_v2 N a1 a2 a3 a4 a5 a6 a7 a8).getD default))), [], []⟩
 | _ => none
set_option maxRecDepth 100000 in
set_option maxHeartbeats 1000000 in
theorem ok_chain_Floors_v2 (N : Nat) : FnOK Tryd.prog gt0 29 (sp_chain_Floors_v2 N) := by
 refine fnOK_handed Tryd.func29 rfl (by kernel_rfl) tt_ok (ktNil) ?_
 intro args lk r h hp
 unfold sp_chain_Floors_v2 at h
 split at h
 ·
  rename_i a1 a2 a3 a4 a5 a6 a7 a8
  change (List Int) at a6
  change Zt1 at a7
  cases h
  obtain ⟨x, hx⟩ := Option.isSome_iff_exists.1 hp
  simp only [hx, Option.getD_some]
  refine hand0 rfl rfl (fun w0 M ε0 hX => ?_)
  refine rCount (fun hε => ?_)
  have hT : chain_Floors_v2 N a1 a2 a3 a4 a5 a6 a7 a8 = some x := hx; clear hx hp; unfold chain_Floors_v2 at hT
  refine zA hX ?_
  refine zA hX ?_
  refine zA hX ?_
  refine rSeq (zA hX ?_)
  refine rBlock (rNil 3 1 (.flat [.ints 0 .i64 []]) [(1, .v (.c (.val (.slice none 0 0)))), (4, .v (.c (.val (.slice none 0 0)))), (5, .v (.c (.sl 1 0 0 1))), (6, .v (.c (.int .i64 1))), (10, .v (.c (.fz Zs1 a7))), (11, .v (.c (.int .i64 (a7.length : Int)))), (12, .v (.c (.int .i64 0)))] [] (nil_ints _) zF zF ?_)
  replace hT := sBind hT; obtain ⟨w1, hl, hT⟩ := hT
  refine rJoinA (fun v1 => v1 = w1) (fun v1 => ⟨[(4, .v (.c (.val (.slice none 0 0)))), (5, .v (.c (.sl 1 0 v1.1 1)))], [(1, .mem true 3 (some 1) (.flat [.ints v1.2.1 .i64 v1.2.2]))], 2⟩) (.exit 0) (fun v1 hv => ?_) (fun hxs20 => ?_)
  ·
   subst hv; clear hl
   refine rInHit (rThen (zA hX ?_))
   refine rRet ?_
   replace hT := sIf hT; obtain ⟨p1, hT⟩ := hT
   refine rFreezeQ 1 (.int .i64) v1.2.2 [(4, .v (.c (.fz (.int .i64) v1.2.2)))] [] rfl rfl zF zF ?_
   have hy := Option.some.inj hT; subst hy
   exact zEnd0 hX rfl
  refine rLoopM (chain_Floors_v2_b1 N a7) (fun s2 => ⟨[(1, .v (.c (.val (.slice none 0 0)))), (4, .v (.c (.val (.slice none 0 0)))), (5, .v (.c (.sl 1 0 s2.1 1))), (6, .v (.c (.int .i64 1))), (10, .v (.c (.fz Zs1 a7))), (11, .v (.c (.int .i64 (a7.length : Int)))), (12, .v (.c (.int .i64 s2.2.1)))], [(1, .mem true 3 (some 1) (.flat [.ints s2.2.2.1 .i64 s2.2.2.2]))], 2⟩) hl (To.mk' [] 0 hε rfl zL zL) (fun s2 zs2 NNs2 hz hnexts2 houts2 => ?_)
  clear hl hT
  have hT := hz; clear hz
  refine zA hX ?_
  refine rSeq ?_
  refine zCond rfl rfl (fun hc => ?_) (fun hc => ?_)
  ·
   replace hT := sT hc hT
   refine rSkip (rThen (rSeq (rBlock ?_)))
   replace hT := sIf hT; obtain ⟨⟨o1, o2⟩, hT⟩ := hT
   refine zA hX ?_
   refine rSeq ?_
   let x1 := (bif (decide (s2.2.1 = 0)) then true else (a7.getD (s2.2.1).toNat Zd7).1)
   refine zA hX ?_
   refine rJoinK hT (fun v2 => ⟨[(1, .v (.c (.val (.slice none 0 0)))), (4, .v (.c (.val (.slice none 0 0)))), (5, .v (.c (.sl 1 0 s2.1 1))), (6, .v (.c (.int .i64 1))), (7, .v (.c (.int .i64 s2.2.1))), (8, .v (.c (.ptr 2 0 0 0 0 0))), (10, .v (.c (.fz Zs1 a7))), (11, .v (.c (.int .i64 (a7.length : Int)))), (12, .v (.c (.int .i64 s2.2.1))), (13, .v (.c (.bool (decide (s2.2.1 < (a7.length : Int)))))), (14, .v (.c (.int .i64 s2.2.1))), (15, .v (.c (.fp Zs1 (a7.getD (s2.2.1).toNat Zd7) 0 0 0))), (16, .v (.agg [.cs [.bool (a7.getD (s2.2.1).toNat Zd7).1, .int .i64 (a7.getD (s2.2.1).toNat Zd7).2.1, .int .i64 (a7.getD (s2.2.1).toNat Zd7).2.2.1, .fz Zs2 (a7.getD (s2.2.1).toNat Zd7).2.2.2]])), (17, .v (.c (.int .i64 s2.2.1))), (18, .v (.c (.bool (decide (s2.2.1 = 0))))), (19, .v (.c (.bool (decide (s2.2.1 = 0))))), (22, .v (.c (.bool x1)))], [(1, .mem true 3 (some 1) (.flat [.ints s2.2.2.1 .i64 s2.2.2.2])), (2, .mem true 49 none (.flat [.cs [.bool (a7.getD (s2.2.1).toNat Zd7).1, .int .i64 (a7.getD (s2.2.1).toNat Zd7).2.1, .int .i64 (a7.getD (s2.2.1).toNat Zd7).2.2.1, .fz Zs2 (a7.getD (s2.2.1).toNat Zd7).2.2.2]]))], 3⟩) (fun v2 hT => ?_) (fun k1 hjk1 hT => ?_)
   ·
    refine rThen ?_
    replace hT := sIf hT; obtain ⟨⟨o1, o2, o3, o4⟩, hT⟩ := hT
    refine zReg md0 hX rfl rfl rfl ?_
    refine rInNormal (rThen ?_)
    replace hT := sIf hT; obtain ⟨o1, hT⟩ := hT
    refine zReg md0 hX rfl rfl rfl ?_
    exact hnexts2 _ (Option.some.inj hT).symm _ (To.mk' [0, 4] 0 hε rfl zL zL)
   ·
    refine zCond rfl rfl (fun hc => ?_) (fun hc => ?_)
    ·
     replace hT := sT hc hT
     refine zA hX ?_
     refine zA hX ?_
     refine zCond rfl rfl (fun hc => ?_) (fun hc => ?_)
     ·
      replace hT := sT hc hT
      cases hT
     ·
      replace hT := sF hc hT
      refine rSkip ?_
      exact zTo [] 0 hε (hjk1 _ hT)
    ·
     replace hT := sF hc hT
     refine rSkip ?_
     exact zTo [] 0 hε (hjk1 _ hT)
  ·
   replace hT := sF hc hT
   refine rExit (rThenExit (rThenExit ?_))
   exact zTo [] 0 hε (hxs20 _ (houts2 _ (Option.some.inj hT).symm))
 ·
  cases h
def chain_Of_v2_b1 (N : Nat) (a7 : Zt1) (c2 : (Option ((List Int) × Int))) (c3 : (Option (List Int))) (s2 : Zt4) : Option (Zt4 ⊕ Zt11) :=
 bif (decide (s2.2.1 < (a7.length : Int))) then
  if (0 : Int) ≤ s2.2.1 ∧ s2.2.1 < (a7.length : Int) then
   let c4 := (chain_Of_1 N s2.2.1 (s2.1.take ((a7.getD (s2.2.1).toNat Zd7).2.2.2.length : Int).toNat) (c2.getD default).1 (c3.getD default) s2.2.2.1 s2.2.2.2.1 s2.2.2.2.2.1 s2.2.2.2.2.2.1 s2.2.2.2.2.2.2.1 s2.2.2.2.2.2.2.2.1 s2.2.2.2.2.2.2.2.2.1 s2.2.2.2.2.2.2.2.2.2.1 s2.2.2.2.2.2.2.2.2.2.2.1 s2.2.2.2.2.2.2.2.2.2.2.2)
   if (0 : Int) ≤ ((a7.getD (s2.2.1).toNat Zd7).2.2.2.length : Int) ∧ ((a7.getD (s2.2.1).toNat Zd7).2.2.2.length : Int) ≤ (s2.1.length : Int) ∧ c4.isSome = true then
    let x2 := (s2.1.drop ((a7.getD (s2.2.1).toNat Zd7).2.2.2.length : Int).toNat)
    if (0 : Int) ≤ ((a7.getD (s2.2.1).toNat Zd7).2.2.2.length : Int) ∧ ((a7.getD (s2.2.1).toNat Zd7).2.2.2.length : Int) ≤ (s2.1.length : Int) then
     if inK .i64 (s2.2.1 + 1) then
      some (.inl (x2, (s2.2.1 + 1), (c4.getD default).1, (c4.getD default).2.1, (c4.getD default).2.2.1, (c4.getD default).2.2.2.1, (c4.getD default).2.2.2.2.1, (c4.getD default).2.2.2.2.2.1, (c4.getD default).2.2.2.2.2.2.1, (c4.getD default).2.2.2.2.2.2.2.1, (c4.getD default).2.2.2.2.2.2.2.2.1, (c4.getD default).2.2.2.2.2.2.2.2.2))
     else none
    else none
   else none
  else none
 else
  some (.inr (s2.2.2.1, s2.2.2.2.1, s2.2.2.2.2.1, s2.2.2.2.2.2.1, s2.2.2.2.2.2.2.1, s2.2.2.2.2.2.2.2.1, s2.2.2.2.2.2.2.2.2.1, s2.2.2.2.2.2.2.2.2.2.1, s2.2.2.2.2.2.2.2.2.2.2.1, s2.2.2.2.2.2.2.2.2.2.2.2))
def chain_Of_v2 (N : Nat) (a1 : Int) (a2 : Int) (a3 : Int) (a4 : Bool) (a5 : Int) (a6 : (List Int)) (a7 : Zt1) (a8 : Int) : Option Zt13 :=
 let c1 := (quants_Of_v1 N a1 a2 a3 a4 a5 a6 a7 a8)
 if c1.isSome = true then
  bif (decide ((c1.getD default).2 ≠ 0)) then
   some (0, [], [], [], (c1.getD default).2)
  else
   let c2 := (quants_First_v1 N a1 a2 a3 a4 a5 a6 a7 a8)
   if c2.isSome = true then
    let c3 := (chain_Floors_v2 N a1 a2 a3 a4 a5 a6 a7 a8)
    if c3.isSome = true then
     (iter (chain_Of_v2_b1 N a7 c2 c3) N ((c1.getD default).1, 0, 0, 0, 0, 0, 0, [], 0, [], 0, [])).bind fun v1 =>
      if (0 : Int) < (v1.2.1 : Int) ∧ 0 < v1.2.2.2.2.1 then
       if v1.2.1 = v1.2.2.2.2.2.1.length ∧ v1.2.2.1 = v1.2.2.2.2.2.2.2.1.length ∧ v1.2.2.2.1 = v1.2.2.2.2.2.2.2.2.2.length then
        some ((v1.2.2.2.2.2.1.getD 0 0), v1.2.2.2.2.2.1, v1.2.2.2.2.2.2.2.1, v1.2.2.2.2.2.2.2.2.2, 0)
       else none
      else none
    else none
   else none
 else none
def sp_chain_Of_v2 (N : Nat) : X.Spec := fun args lk => match args with
 | [.v (.agg [.cs [.int .i64 a1, .int .i64 a2, .int .i64 a3, .bool a4, .int .i64 a5, .fz (.int .i64) a6, .fz (.pair .bool (.pair (.int .i64) (.pair (.int .i64) (.sl (.pair (.int .i64) (.pair .bool (.pair (.int .i64) (.pair (.int .i64) (.pair (.arr 2 .i64) (.pair (.arr 6 .i64) (.arrS 6 (.pair .bool (.pair (.int .i64) (.int .i64)))))))))))))) a7, .int .i64 a8]]), .v (.c (.val (.slice none 0 0)))] => some ⟨(chain_Of_v2 N a1 a2 a3 a4 a5 a6 a7 a8).isSome = true, .tup [.agg [.cs [.int .i64 ((chain_Of_v2 N a1 a2 a3 a4 a5 a6 a7 a8).getD default).1, .fz (.int .i64) ((chain_Of_v2 N a1 a2 a3 a4 a5 a6 a7 a8).getD default).2.1, .fz (.int .i64) ((chain_Of_v2 N a1 a2 a3 a4 a5 a6 a7 a8).getD default).2.2.1, .fz (.int .i64) ((chain_Of_v2 N a1 a2 a3 a4 a5 a6 a7 a8).getD default).2.2.2.1]], .c (.int .i64 ((chain_Of_v2 N a1 a2 a3 a4 a5 a6 a7 a8).getD default).2.2.2.2)], [], []⟩
 | _ => none
set_option maxRecDepth 100000 in
set_option maxHeartbeats 1000000 in
theorem ok_chain_Of_v2 (N : Nat) : FnOK Tryd.prog gt0 28 (sp_chain_Of_v2 N) := by
 refine fnOK_handed Tryd.func28 rfl (by kernel_rfl) tt_ok (ktCons (ok_chain_Of_1 N) (ktCons (ok_chain_Floors_v2 N) (ktCons (ok_quants_First_v1 N) (ktCons (ok_quants_Of_v1 N) (ktNil))))) ?_
 intro args lk r h hp
 unfold sp_chain_Of_v2 at h
 split at h
 ·
  rename_i a1 a2 a3 a4 a5 a6 a7 a8
  change (List Int) at a6
  change Zt1 at a7
  cases h
  obtain ⟨x, hx⟩ := Option.isSome_iff_exists.1 hp
  simp only [hx, Option.getD_some]
  refine hand0 rfl rfl (fun w0 M ε0 hX => ?_)
  refine rCount (fun hε => ?_)
  have hT : chain_Of_v2 N a1 a2 a3 a4 a5 a6 a7 a8 = some x := hx; clear hx hp; unfold chain_Of_v2 at hT
  refine zA hX ?_
  let c1 := (quants_Of_v1 N a1 a2 a3 a4 a5 a6 a7 a8)
  replace hT := sIf hT; obtain ⟨o1, hT⟩ := hT
  refine zA hX ?_
  refine rSeq (zA hX ?_)
  refine zCond rfl rfl (fun hc => ?_) (fun hc => ?_)
  ·
   replace hT := sT hc hT
   refine zA hX ?_
   refine rRet (rThenRet ?_)
   have hy := Option.some.inj hT; subst hy
   exact zEnd0 hX rfl
  ·
   replace hT := sF hc hT
   refine rSkip (rThen ?_)
   let c2 := (quants_First_v1 N a1 a2 a3 a4 a5 a6 a7 a8)
   replace hT := sIf hT; obtain ⟨o1, hT⟩ := hT
   refine zA hX ?_
   let c3 := (chain_Floors_v2 N a1 a2 a3 a4 a5 a6 a7 a8)
   replace hT := sIf hT; obtain ⟨o1, hT⟩ := hT
   refine zA hX ?_
   refine zA hX ?_
   refine zA hX ?_
   refine rSeq (zA hX ?_)
   refine rBlock (rNil 3 1 (.flat [.ints 0 .i64 []]) [(4, .v (.c (.ptr 2 0 0 0 0 0))), (5, .v (.c (.int .i64 0))), (6, .v (.c (.fz (.int .i64) (c1.getD default).1))), (10, .v (.c (.ptr 4 0 0 0 0 0))), (11, .v (.c (.clo 58 [3, 1, 4]))), (34, .v (.c (.fz Zs1 a7))), (35, .v (.c (.int .i64 (a7.length : Int)))), (36, .v (.c (.int .i64 0)))] [(1, .mem true 22 none (.flat [.cs [.fz (.int .i64) (c3.getD default)]])), (2, .mem true 51 none (.flat [.cs [.int .i64 0, .val (.slice none 0 0), .val (.slice none 0 0), .val (.slice none 0 0)]])), (3, .mem true 22 none (.flat [.cs [.fz (.int .i64) (c2.getD default).1]])), (4, .mem true 51 none (.flat [.cs [.int .i64 0, .sl 5 0 0 1, .val (.slice none 0 0), .val (.slice none 0 0)]]))] (nil_ints _) zF zF ?_)
   refine rNil 3 1 (.flat [.ints 0 .i64 []]) [(4, .v (.c (.ptr 2 0 0 0 0 0))), (5, .v (.c (.int .i64 0))), (6, .v (.c (.fz (.int .i64) (c1.getD default).1))), (10, .v (.c (.ptr 4 0 0 0 0 0))), (11, .v (.c (.clo 58 [3, 1, 4]))), (34, .v (.c (.fz Zs1 a7))), (35, .v (.c (.int .i64 (a7.length : Int)))), (36, .v (.c (.int .i64 0)))] [(1, .mem true 22 none (.flat [.cs [.fz (.int .i64) (c3.getD default)]])), (2, .mem true 51 none (.flat [.cs [.int .i64 0, .val (.slice none 0 0), .val (.slice none 0 0), .val (.slice none 0 0)]])), (3, .mem true 22 none (.flat [.cs [.fz (.int .i64) (c2.getD default).1]])), (4, .mem true 51 none (.flat [.cs [.int .i64 0, .sl 5 0 0 1, .sl 6 0 0 1, .val (.slice none 0 0)]])), (5, .mem true 3 (some 1) (.flat [.ints 0 .i64 []]))] (nil_ints _) zF zF ?_
   refine rNil 3 1 (.flat [.ints 0 .i64 []]) [(4, .v (.c (.ptr 2 0 0 0 0 0))), (5, .v (.c (.int .i64 0))), (6, .v (.c (.fz (.int .i64) (c1.getD default).1))), (10, .v (.c (.ptr 4 0 0 0 0 0))), (11, .v (.c (.clo 58 [3, 1, 4]))), (34, .v (.c (.fz Zs1 a7))), (35, .v (.c (.int .i64 (a7.length : Int)))), (36, .v (.c (.int .i64 0)))] [(1, .mem true 22 none (.flat [.cs [.fz (.int .i64) (c3.getD default)]])), (2, .mem true 51 none (.flat [.cs [.int .i64 0, .val (.slice none 0 0), .val (.slice none 0 0), .val (.slice none 0 0)]])), (3, .mem true 22 none (.flat [.cs [.fz (.int .i64) (c2.getD default).1]])), (4, .mem true 51 none (.flat [.cs [.int .i64 0, .sl 5 0 0 1, .sl 6 0 0 1, .sl 7 0 0 1]])), (5, .mem true 3 (some 1) (.flat [.ints 0 .i64 []])), (6, .mem true 3 (some 1) (.flat [.ints 0 .i64 []]))] (nil_ints _) zF zF ?_
   refine rBunShut 4 [5, 6, 7] (.flat [.cs [.int .i64 0, .sl 1 0 0 1, .sl 2 0 0 1, .sl 3 0 0 1]]) [(3, 1, .flat [.ints 0 .i64 []]), (3, 1, .flat [.ints 0 .i64 []]), (3, 1, .flat [.ints 0 .i64 []])] rfl rfl zT zT rfl rfl ?_
   refine rToW (T := ⟨[(4, .v (.c (.ptr 2 0 0 0 0 0))), (5, .v (.c (.int .i64 0))), (6, .v (.c (.fz (.int .i64) (c1.getD default).1))), (10, .v (.c (.ptr 4 0 0 0 0 0))), (11, .v (.c (.clo 58 [3, 1, 4]))), (34, .v (.c (.fz Zs1 a7))), (35, .v (.c (.int .i64 (a7.length : Int)))), (36, .v (.c (.int .i64 0)))], [(1, .mem true 22 none (.flat [.cs [.fz (.int .i64) (c3.getD default)]])), (2, .mem true 51 none (.flat [.cs [.int .i64 0, .val (.slice none 0 0), .val (.slice none 0 0), .val (.slice none 0 0)]])), (3, .mem true 22 none (.flat [.cs [.fz (.int .i64) (c2.getD default).1]])), (4, .bun 51 (.flat [.cs [.int .i64 0, .sl 1 0 0 1, .sl 2 0 0 1, .sl 3 0 0 1]]) [(3, 1, .flat [.ints 0 .i64 []]), (3, 1, .flat [.ints 0 .i64 []]), (3, 1, .flat [.ints 0 .i64 []])])], 8⟩) (To.mk' [] 0 hε rfl zL zL) ?_
   replace hT := sBind hT; obtain ⟨w1, hl, hT⟩ := hT
   refine rJoinA (fun v1 => v1 = w1) (fun v1 => ⟨[(4, .v (.c (.ptr 2 0 0 0 0 0))), (5, .v (.c (.int .i64 0))), (10, .v (.c (.ptr 4 0 0 0 0 0)))], [(2, .mem true 51 none (.flat [.cs [.int .i64 0, .val (.slice none 0 0), .val (.slice none 0 0), .val (.slice none 0 0)]])), (4, .bun 51 (.flat [.cs [.int .i64 v1.1, .sl 1 0 v1.2.1 1, .sl 2 0 v1.2.2.1 1, .sl 3 0 v1.2.2.2.1 1]]) [(3, 1, .flat [.ints v1.2.2.2.2.1 .i64 v1.2.2.2.2.2.1]), (3, 1, .flat [.ints v1.2.2.2.2.2.2.1 .i64 v1.2.2.2.2.2.2.2.1]), (3, 1, .flat [.ints v1.2.2.2.2.2.2.2.2.1 .i64 v1.2.2.2.2.2.2.2.2.2])])], 8⟩) (.exit 0) (fun v1 hv => ?_) (fun hxs20 => ?_)
   ·
    subst hv; clear hl
    refine rInHit (rThen (rSeq (rBunOpen 4 rfl rfl rfl rfl ?_)))
    refine rToW (T := ⟨[(4, .v (.c (.ptr 2 0 0 0 0 0))), (5, .v (.c (.int .i64 0))), (10, .v (.c (.ptr 4 0 0 0 0 0)))], [(2, .mem true 51 none (.flat [.cs [.int .i64 0, .val (.slice none 0 0), .val (.slice none 0 0), .val (.slice none 0 0)]])), (4, .mem true 51 none (.flat [.cs [.int .i64 v1.1, .sl 8 0 v1.2.1 1, .sl 9 0 v1.2.2.1 1, .sl 10 0 v1.2.2.2.1 1]])), (8, .mem true 3 (some 1) (.flat [.ints v1.2.2.2.2.1 .i64 v1.2.2.2.2.2.1])), (9, .mem true 3 (some 1) (.flat [.ints v1.2.2.2.2.2.2.1 .i64 v1.2.2.2.2.2.2.2.1])), (10, .mem true 3 (some 1) (.flat [.ints v1.2.2.2.2.2.2.2.2.1 .i64 v1.2.2.2.2.2.2.2.2.2]))], 11⟩) (To.mk' [] 0 hε rfl zL zL) ?_
    replace hT := sIf hT; obtain ⟨⟨o1, o2⟩, hT⟩ := hT
    refine zReg md0 hX rfl rfl rfl ?_
    refine rThen (zA hX ?_)
    refine rRet ?_
    replace hT := sIf hT; obtain ⟨⟨p1, p2, p3⟩, hT⟩ := hT
    refine rFreezeQ 8 (.int .i64) v1.2.2.2.2.2.1 [(4, .v (.c (.ptr 2 0 0 0 0 0))), (5, .v (.c (.int .i64 0)))] [(2, .mem true 51 none (.flat [.cs [.int .i64 (v1.2.2.2.2.2.1.getD 0 0), .fz (.int .i64) v1.2.2.2.2.2.1, .sl 9 0 v1.2.2.1 1, .sl 10 0 v1.2.2.2.1 1]])), (9, .mem true 3 (some 1) (.flat [.ints v1.2.2.2.2.2.2.1 .i64 v1.2.2.2.2.2.2.2.1])), (10, .mem true 3 (some 1) (.flat [.ints v1.2.2.2.2.2.2.2.2.1 .i64 v1.2.2.2.2.2.2.2.2.2]))] rfl rfl zF zF ?_
    refine rFreezeQ 9 (.int .i64) v1.2.2.2.2.2.2.2.1 [(4, .v (.c (.ptr 2 0 0 0 0 0))), (5, .v (.c (.int .i64 0)))] [(2, .mem true 51 none (.flat [.cs [.int .i64 (v1.2.2.2.2.2.1.getD 0 0), .fz (.int .i64) v1.2.2.2.2.2.1, .fz (.int .i64) v1.2.2.2.2.2.2.2.1, .sl 10 0 v1.2.2.2.1 1]])), (10, .mem true 3 (some 1) (.flat [.ints v1.2.2.2.2.2.2.2.2.1 .i64 v1.2.2.2.2.2.2.2.2.2]))] rfl rfl zF zF ?_
    refine rFreezeQ 10 (.int .i64) v1.2.2.2.2.2.2.2.2.2 [(4, .v (.c (.ptr 2 0 0 0 0 0))), (5, .v (.c (.int .i64 0)))] [(2, .mem true 51 none (.flat [.cs [.int .i64 (v1.2.2.2.2.2.1.getD 0 0), .fz (.int .i64) v1.2.2.2.2.2.1, .fz (.int .i64) v1.2.2.2.2.2.2.2.1, .fz (.int .i64) v1.2.2.2.2.2.2.2.2.2]]))] rfl rfl zF zF ?_
    have hy := Option.some.inj hT; subst hy
    exact zEnd0 hX rfl
   refine rLoopM (chain_Of_v2_b1 N a7 c2 c3) (fun s2 => ⟨[(4, .v (.c (.ptr 2 0 0 0 0 0))), (5, .v (.c (.int .i64 0))), (6, .v (.c (.fz (.int .i64) s2.1))), (10, .v (.c (.ptr 4 0 0 0 0 0))), (11, .v (.c (.clo 58 [3, 1, 4]))), (34, .v (.c (.fz Zs1 a7))), (35, .v (.c (.int .i64 (a7.length : Int)))), (36, .v (.c (.int .i64 s2.2.1)))], [(1, .mem true 22 none (.flat [.cs [.fz (.int .i64) (c3.getD default)]])), (2, .mem true 51 none (.flat [.cs [.int .i64 0, .val (.slice none 0 0), .val (.slice none 0 0), .val (.slice none 0 0)]])), (3, .mem true 22 none (.flat [.cs [.fz (.int .i64) (c2.getD default).1]])), (4, .bun 51 (.flat [.cs [.int .i64 s2.2.2.1, .sl 1 0 s2.2.2.2.1 1, .sl 2 0 s2.2.2.2.2.1 1, .sl 3 0 s2.2.2.2.2.2.1 1]]) [(3, 1, .flat [.ints s2.2.2.2.2.2.2.1 .i64 s2.2.2.2.2.2.2.2.1]), (3, 1, .flat [.ints s2.2.2.2.2.2.2.2.2.1 .i64 s2.2.2.2.2.2.2.2.2.2.1]), (3, 1, .flat [.ints s2.2.2.2.2.2.2.2.2.2.2.1 .i64 s2.2.2.2.2.2.2.2.2.2.2.2])])], 8⟩) hl (To.mk' [] 0 hε rfl zL zL) (fun s2 zs2 NNs2 hz hnexts2 houts2 => ?_)
   clear hl hT
   have hT := hz; clear hz
   refine zA hX ?_
   refine rSeq ?_
   refine zCond rfl rfl (fun hc => ?_) (fun hc => ?_)
   ·
    replace hT := sT hc hT
    refine rSkip (rThen (rSeq (rBlock ?_)))
    replace hT := sIf hT; obtain ⟨⟨o1, o2⟩, hT⟩ := hT
    refine zA hX ?_
    refine zA hX ?_
    let c4 := (chain_Of_1 N s2.2.1 (s2.1.take ((a7.getD (s2.2.1).toNat Zd7).2.2.2.length : Int).toNat) (c2.getD default).1 (c3.getD default) s2.2.2.1 s2.2.2.2.1 s2.2.2.2.2.1 s2.2.2.2.2.2.1 s2.2.2.2.2.2.2.1 s2.2.2.2.2.2.2.2.1 s2.2.2.2.2.2.2.2.2.1 s2.2.2.2.2.2.2.2.2.2.1 s2.2.2.2.2.2.2.2.2.2.2.1 s2.2.2.2.2.2.2.2.2.2.2.2)
    replace hT := sIf hT; obtain ⟨⟨o1, o2, o3⟩, hT⟩ := hT
    refine zA hX ?_
    let x2 := (s2.1.drop ((a7.getD (s2.2.1).toNat Zd7).2.2.2.length : Int).toNat)
    replace hT := sIf hT; obtain ⟨⟨o1, o2⟩, hT⟩ := hT
    refine zReg md0 hX rfl rfl rfl ?_
    refine rInNormal (rThen ?_)
    replace hT := sIf hT; obtain ⟨o1, hT⟩ := hT
    refine zReg md0 hX rfl rfl rfl ?_
    exact hnexts2 _ (Option.some.inj hT).symm _ (To.mk' [] 0 hε rfl zL zL)
   ·
    replace hT := sF hc hT
    refine rExit (rThenExit (rThenExit ?_))
    exact zTo [] 0 hε (hxs20 _ (houts2 _ (Option.some.inj hT).symm))
 ·
  cases h
def ref30_Same_v2_b1 (N : Nat) (a1 : (List Int)) (a2 : (List Int)) (s1 : Int) : Option (Int ⊕ (Unit ⊕ Unit)) :=
 bif (decide (s1 < (a1.length : Int))) then
  if (0 : Int) ≤ s1 ∧ s1 < (a1.length : Int) ∧ s1 < (a2.length : Int) then
   bif (decide ((a1.getD (s1).toNat 0) ≠ (a2.getD (s1).toNat 0))) then
    some (.inr (Sum.inl ()))
   else
    if inK .i64 (s1 + 1) then
     some (.inl (s1 + 1))
    else none
  else none
 else
  some (.inr (Sum.inr ()))
def ref30_Same_v2 (N : Nat) (a1 : (List Int)) (a2 : (List Int)) : Option Bool :=
 bif (decide ((a1.length : Int) ≠ (a2.length : Int))) then
  some false
 else
  (iter (ref30_Same_v2_b1 N a1 a2) N 0).bind fun w1 =>
   (Sum.elim (fun v1 =>
    some false
   )
    (fun v2 =>
     some true
    )
   ) w1
def sp_ref30_Same_v2 (N : Nat) : X.Spec := fun args lk => match args with
 | [.v (.c (.fz (.int .i64) a1)), .v (.c (.fz (.int .i64) a2))] => some ⟨(ref30_Same_v2 N a1 a2).isSome = true, .v (.c (.bool ((ref30_Same_v2 N a1 a2).getD default))), [], []⟩
 | _ => none
set_option maxRecDepth 100000 in
set_option maxHeartbeats 1000000 in
theorem ok_ref30_Same_v2 (N : Nat) : FnOK Tryd.prog gt0 24 (sp_ref30_Same_v2 N) := by
 refine fnOK_handed Tryd.func24 rfl (by kernel_rfl) tt_ok (ktNil) ?_
 intro args lk r h hp
 unfold sp_ref30_Same_v2 at h
 split at h
 ·
  rename_i a1 a2
  change (List Int) at a1
  change (List Int) at a2
  cases h
  obtain ⟨x, hx⟩ := Option.isSome_iff_exists.1 hp
  simp only [hx, Option.getD_some]
  refine hand0 rfl rfl (fun w0 M ε0 hX => ?_)
  refine rCount (fun hε => ?_)
  have hT : ref30_Same_v2 N a1 a2 = some x := hx; clear hx hp; unfold ref30_Same_v2 at hT
  refine zA hX ?_
  refine rSeq (zA hX ?_)
  refine zCond rfl rfl (fun hc => ?_) (fun hc => ?_)
  ·
   replace hT := sT hc hT
   refine zA hX ?_
   refine rRet (rThenRet ?_)
   have hy := Option.some.inj hT; subst hy
   exact zEnd0 hX rfl
  ·
   replace hT := sF hc hT
   refine rSkip (rThen (rSeq (zA hX ?_)))
   refine rBlock ?_
   replace hT := sBind hT; obtain ⟨w1, hl, hT⟩ := hT
   refine rJoinA (fun v1 => (Sum.inl v1) = w1) (fun v1 => ⟨[(4, .v (.c (.bool false)))], [], 0⟩) .ret (fun v1 hv => ?_) (fun hxs10 => ?_)
   ·
    subst hv; clear hl; replace hT := (sElimL hT)
    refine rInRet (rThenRet ?_)
    have hy := Option.some.inj hT; subst hy
    exact zEnd0 hX rfl
   refine rJoinA (fun v2 => (Sum.inr v2) = w1) (fun v2 => ⟨[(4, .v (.c (.bool false)))], [], 0⟩) (.exit 0) (fun v2 hv => ?_) (fun hxs11 => ?_)
   ·
    subst hv; clear hl; replace hT := (sElimR hT)
    refine rInHit (rThen (zA hX ?_))
    refine rRet ?_
    have hy := Option.some.inj hT; subst hy
    exact zEnd0 hX rfl
   refine rLoopM (ref30_Same_v2_b1 N a1 a2) (fun s1 => ⟨[(0, .v (.c (.fz (.int .i64) a1))), (1, .v (.c (.fz (.int .i64) a2))), (4, .v (.c (.bool false))), (5, .v (.c (.int .i64 s1)))], [], 0⟩) hl (To.mk' [] 0 hε rfl zL zL) (fun s1 zs1 NNs1 hz hnexts1 houts1 => ?_)
   clear hl hT
   have hT := hz; clear hz
   refine rSeq (zA hX ?_)
   refine zCond rfl rfl (fun hc => ?_) (fun hc => ?_)
   ·
    replace hT := sT hc hT
    refine rSkip (rThen (rSeq (rBlock ?_)))
    replace hT := sIf hT; obtain ⟨⟨o1, o2, o3⟩, hT⟩ := hT
    refine rSeq (zDraw md0 0 [] hX mixed rfl rfl rfl rfl rfl ?_)
    refine rThen ?_
    refine zCond rfl rfl (fun hc => ?_) (fun hc => ?_)
    ·
     replace hT := sT hc hT
     refine zA hX ?_
     refine rRet (rInRet (rThenRet (rThenRet ?_)))
     exact zTo [] 0 hε (hxs10 _ (houts1 _ (Option.some.inj hT).symm))
    ·
     replace hT := sF hc hT
     refine rSkip (rInNormal (rThen ?_))
     replace hT := sIf hT; obtain ⟨o1, hT⟩ := hT
     refine zReg md0 hX rfl rfl rfl ?_
     exact hnexts1 _ (Option.some.inj hT).symm _ (To.mk' [] 0 hε rfl zL zL)
   ·
    replace hT := sF hc hT
    refine rExit (rThenExit (rThenExit ?_))
    exact zTo [] 0 hε (hxs11 _ (houts1 _ (Option.some.inj hT).symm))
 ·
  cases h
def law37_ChainGoes_b2 (N : Nat) (a7 : Zt1) (c3 : (Option Zt13)) (c5 : (Option ((List Int) × Int))) (c7 : (Option (List Int))) (s1 : (Int × Int × Int)) (s2 : (Int × Int × Int)) : Option ((Int × Int × Int) ⊕ (Unit ⊕ (Int × Int × Int × Int × Bool))) :=
 let x22 := (decide (s2.2.2 < ((a7.getD (s1.2.2).toNat Zd7).2.2.2.length : Int)))
 if (0 : Int) ≤ s1.2.2 ∧ s1.2.2 < (a7.length : Int) then
  bif x22 then
   if (0 : Int) ≤ s2.1 ∧ s2.1 < ((c3.getD default).2.2.1.length : Int) then
    let c12 := (steps_Next N s2.2.1 ((c3.getD default).2.2.2.1.getD (s2.1).toNat 0))
    let x37 := (bif (bif (bif (bif (bif (decide (((c3.getD default).2.2.1.getD (s2.1).toNat 0) < ((c5.getD default).1.getD (s2.1).toNat 0))) then true else (decide (((c3.getD default).2.2.1.getD (s2.1).toNat 0) < ((c7.getD default).getD (s1.2.2).toNat 0)))) then true else (decide (((c3.getD default).2.2.2.1.getD (s2.1).toNat 0) < (-2)))) then true else (decide ((2 : Int) < ((c3.getD default).2.2.2.1.getD (s2.1).toNat 0)))) then true else (!((decide (((c3.getD default).2.2.2.1.getD (s2.1).toNat 0) = 0)) == (decide (((c3.getD default).2.2.1.getD (s2.1).toNat 0) = s2.2.1))))) then true else (bif (decide (((c3.getD default).2.2.2.1.getD (s2.1).toNat 0) ≠ 0)) then (decide ((c12.getD default) ≠ ((c3.getD default).2.2.1.getD (s2.1).toNat 0))) else false))
    if (0 : Int) ≤ s2.1 ∧ s2.1 < ((c5.getD default).1.length : Int) ∧ ((!(decide (((c3.getD default).2.2.1.getD (s2.1).toNat 0) < ((c5.getD default).1.getD (s2.1).toNat 0)))) = true → (0 : Int) ≤ s1.2.2) ∧ ((!(decide (((c3.getD default).2.2.1.getD (s2.1).toNat 0) < ((c5.getD default).1.getD (s2.1).toNat 0)))) = true → s1.2.2 < ((c7.getD default).length : Int)) ∧ ((!(bif (decide (((c3.getD default).2.2.1.getD (s2.1).toNat 0) < ((c5.getD default).1.getD (s2.1).toNat 0))) then true else (decide (((c3.getD default).2.2.1.getD (s2.1).toNat 0) < ((c7.getD default).getD (s1.2.2).toNat 0))))) = true → (0 : Int) ≤ s2.1) ∧ ((!(bif (decide (((c3.getD default).2.2.1.getD (s2.1).toNat 0) < ((c5.getD default).1.getD (s2.1).toNat 0))) then true else (decide (((c3.getD default).2.2.1.getD (s2.1).toNat 0) < ((c7.getD default).getD (s1.2.2).toNat 0))))) = true → s2.1 < ((c3.getD default).2.2.2.1.length : Int)) ∧ ((!(bif (bif (decide (((c3.getD default).2.2.1.getD (s2.1).toNat 0) < ((c5.getD default).1.getD (s2.1).toNat 0))) then true else (decide (((c3.getD default).2.2.1.getD (s2.1).toNat 0) < ((c7.getD default).getD (s1.2.2).toNat 0)))) then true else (decide (((c3.getD default).2.2.2.1.getD (s2.1).toNat 0) < (-2))))) = true → (0 : Int) ≤ s2.1) ∧ ((!(bif (bif (decide (((c3.getD default).2.2.1.getD (s2.1).toNat 0) < ((c5.getD default).1.getD (s2.1).toNat 0))) then true else (decide (((c3.getD default).2.2.1.getD (s2.1).toNat 0) < ((c7.getD default).getD (s1.2.2).toNat 0)))) then true else (decide (((c3.getD default).2.2.2.1.getD (s2.1).toNat 0) < (-2))))) = true → s2.1 < ((c3.getD default).2.2.2.1.length : Int)) ∧ ((!(bif (bif (bif (decide (((c3.getD default).2.2.1.getD (s2.1).toNat 0) < ((c5.getD default).1.getD (s2.1).toNat 0))) then true else (decide (((c3.getD default).2.2.1.getD (s2.1).toNat 0) < ((c7.getD default).getD (s1.2.2).toNat 0)))) then true else (decide (((c3.getD default).2.2.2.1.getD (s2.1).toNat 0) < (-2)))) then true else (decide ((2 : Int) < ((c3.getD default).2.2.2.1.getD (s2.1).toNat 0))))) = true → (0 : Int) ≤ s2.1) ∧ ((!(bif (bif (bif (decide (((c3.getD default).2.2.1.getD (s2.1).toNat 0) < ((c5.getD default).1.getD (s2.1).toNat 0))) then true else (decide (((c3.getD default).2.2.1.getD (s2.1).toNat 0) < ((c7.getD default).getD (s1.2.2).toNat 0)))) then true else (decide (((c3.getD default).2.2.2.1.getD (s2.1).toNat 0) < (-2)))) then true else (decide ((2 : Int) < ((c3.getD default).2.2.2.1.getD (s2.1).toNat 0))))) = true → s2.1 < ((c3.getD default).2.2.2.1.length : Int)) ∧ ((!(bif (bif (bif (bif (decide (((c3.getD default).2.2.1.getD (s2.1).toNat 0) < ((c5.getD default).1.getD (s2.1).toNat 0))) then true else (decide (((c3.getD default).2.2.1.getD (s2.1).toNat 0) < ((c7.getD default).getD (s1.2.2).toNat 0)))) then true else (decide (((c3.getD default).2.2.2.1.getD (s2.1).toNat 0) < (-2)))) then true else (decide ((2 : Int) < ((c3.getD default).2.2.2.1.getD (s2.1).toNat 0)))) then true else (!((decide (((c3.getD default).2.2.2.1.getD (s2.1).toNat 0) = 0)) == (decide (((c3.getD default).2.2.1.getD (s2.1).toNat 0) = s2.2.1)))))) = true → (0 : Int) ≤ s2.1) ∧ ((!(bif (bif (bif (bif (decide (((c3.getD default).2.2.1.getD (s2.1).toNat 0) < ((c5.getD default).1.getD (s2.1).toNat 0))) then true else (decide (((c3.getD default).2.2.1.getD (s2.1).toNat 0) < ((c7.getD default).getD (s1.2.2).toNat 0)))) then true else (decide (((c3.getD default).2.2.2.1.getD (s2.1).toNat 0) < (-2)))) then true else (decide ((2 : Int) < ((c3.getD default).2.2.2.1.getD (s2.1).toNat 0)))) then true else (!((decide (((c3.getD default).2.2.2.1.getD (s2.1).toNat 0) = 0)) == (decide (((c3.getD default).2.2.1.getD (s2.1).toNat 0) = s2.2.1)))))) = true → s2.1 < ((c3.getD default).2.2.2.1.length : Int)) ∧ (((!(bif (bif (bif (bif (decide (((c3.getD default).2.2.1.getD (s2.1).toNat 0) < ((c5.getD default).1.getD (s2.1).toNat 0))) then true else (decide (((c3.getD default).2.2.1.getD (s2.1).toNat 0) < ((c7.getD default).getD (s1.2.2).toNat 0)))) then true else (decide (((c3.getD default).2.2.2.1.getD (s2.1).toNat 0) < (-2)))) then true else (decide ((2 : Int) < ((c3.getD default).2.2.2.1.getD (s2.1).toNat 0)))) then true else (!((decide (((c3.getD default).2.2.2.1.getD (s2.1).toNat 0) = 0)) == (decide (((c3.getD default).2.2.1.getD (s2.1).toNat 0) = s2.2.1)))))) && (decide (((c3.getD default).2.2.2.1.getD (s2.1).toNat 0) ≠ 0))) = true → (0 : Int) ≤ s2.1) ∧ (((!(bif (bif (bif (bif (decide (((c3.getD default).2.2.1.getD (s2.1).toNat 0) < ((c5.getD default).1.getD (s2.1).toNat 0))) then true else (decide (((c3.getD default).2.2.1.getD (s2.1).toNat 0) < ((c7.getD default).getD (s1.2.2).toNat 0)))) then true else (decide (((c3.getD default).2.2.2.1.getD (s2.1).toNat 0) < (-2)))) then true else (decide ((2 : Int) < ((c3.getD default).2.2.2.1.getD (s2.1).toNat 0)))) then true else (!((decide (((c3.getD default).2.2.2.1.getD (s2.1).toNat 0) = 0)) == (decide (((c3.getD default).2.2.1.getD (s2.1).toNat 0) = s2.2.1)))))) && (decide (((c3.getD default).2.2.2.1.getD (s2.1).toNat 0) ≠ 0))) = true → s2.1 < ((c3.getD default).2.2.2.1.length : Int)) ∧ (((!(bif (bif (bif (bif (decide (((c3.getD default).2.2.1.getD (s2.1).toNat 0) < ((c5.getD default).1.getD (s2.1).toNat 0))) then true else (decide (((c3.getD default).2.2.1.getD (s2.1).toNat 0) < ((c7.getD default).getD (s1.2.2).toNat 0)))) then true else (decide (((c3.getD default).2.2.2.1.getD (s2.1).toNat 0) < (-2)))) then true else (decide ((2 : Int) < ((c3.getD default).2.2.2.1.getD (s2.1).toNat 0)))) then true else (!((decide (((c3.getD default).2.2.2.1.getD (s2.1).toNat 0) = 0)) == (decide (((c3.getD default).2.2.1.getD (s2.1).toNat 0) = s2.2.1)))))) && (decide (((c3.getD default).2.2.2.1.getD (s2.1).toNat 0) ≠ 0))) = true → c12.isSome = true) ∧ ((!(bif (bif (bif (bif (decide (((c3.getD default).2.2.1.getD (s2.1).toNat 0) < ((c5.getD default).1.getD (s2.1).toNat 0))) then true else (decide (((c3.getD default).2.2.1.getD (s2.1).toNat 0) < ((c7.getD default).getD (s1.2.2).toNat 0)))) then true else (decide (((c3.getD default).2.2.2.1.getD (s2.1).toNat 0) < (-2)))) then true else (decide ((2 : Int) < ((c3.getD default).2.2.2.1.getD (s2.1).toNat 0)))) then true else (!((decide (((c3.getD default).2.2.2.1.getD (s2.1).toNat 0) = 0)) == (decide (((c3.getD default).2.2.1.getD (s2.1).toNat 0) = s2.2.1)))))) = true → ((decide (((c3.getD default).2.2.2.1.getD (s2.1).toNat 0) ≠ 0)) = true → ((!(bif (bif (bif (bif (decide (((c3.getD default).2.2.1.getD (s2.1).toNat 0) < ((c5.getD default).1.getD (s2.1).toNat 0))) then true else (decide (((c3.getD default).2.2.1.getD (s2.1).toNat 0) < ((c7.getD default).getD (s1.2.2).toNat 0)))) then true else (decide (((c3.getD default).2.2.2.1.getD (s2.1).toNat 0) < (-2)))) then true else (decide ((2 : Int) < ((c3.getD default).2.2.2.1.getD (s2.1).toNat 0)))) then true else (!((decide (((c3.getD default).2.2.2.1.getD (s2.1).toNat 0) = 0)) == (decide (((c3.getD default).2.2.1.getD (s2.1).toNat 0) = s2.2.1)))))) && (decide (((c3.getD default).2.2.2.1.getD (s2.1).toNat 0) ≠ 0))) = true)) then
     bif x37 then
      some (.inr (Sum.inl ()))
     else
      if inK .i64 (s2.1 + 1) then
       if inK .i64 (s2.2.2 + 1) then
        some (.inl ((s2.1 + 1), ((c3.getD default).2.2.1.getD (s2.1).toNat 0), (s2.2.2 + 1)))
       else none
      else none
    else none
   else none
  else
   some (.inr (Sum.inr (s2.1, s2.2.1, s2.2.2, s2.2.2, x22)))
 else none
def law37_ChainGoes_b1 (N : Nat) (a7 : Zt1) (c3 : (Option Zt13)) (c5 : (Option ((List Int) × Int))) (c6 : (Option ((List Int) × Int))) (c7 : (Option (List Int))) (s1 : (Int × Int × Int)) : Option ((Int × Int × Int) ⊕ (Unit ⊕ Unit)) :=
 bif (decide (s1.2.2 < (a7.length : Int))) then
  let x15 := (bif (!(a7.getD (s1.2.2).toNat Zd7).1) then (decide (((c3.getD default).2.1.getD (s1.2.2).toNat 0) ≠ s1.2.1)) else false)
  let x18 := (bif (bif (!(a7.getD (s1.2.2).toNat Zd7).1) then (decide (((c3.getD default).2.1.getD (s1.2.2).toNat 0) ≠ s1.2.1)) else false) then true else (decide (((c3.getD default).2.1.getD (s1.2.2).toNat 0) < ((c6.getD default).1.getD (s1.2.2).toNat 0))))
  let x21 := (bif (bif (bif (!(a7.getD (s1.2.2).toNat Zd7).1) then (decide (((c3.getD default).2.1.getD (s1.2.2).toNat 0) ≠ s1.2.1)) else false) then true else (decide (((c3.getD default).2.1.getD (s1.2.2).toNat 0) < ((c6.getD default).1.getD (s1.2.2).toNat 0)))) then true else (decide (((c3.getD default).2.1.getD (s1.2.2).toNat 0) < ((c7.getD default).getD (s1.2.2).toNat 0))))
  if (0 : Int) ≤ s1.2.2 ∧ s1.2.2 < (a7.length : Int) ∧ ((!(a7.getD (s1.2.2).toNat Zd7).1) = true → (0 : Int) ≤ s1.2.2) ∧ ((!(a7.getD (s1.2.2).toNat Zd7).1) = true → s1.2.2 < ((c3.getD default).2.1.length : Int)) ∧ ((!(bif (!(a7.getD (s1.2.2).toNat Zd7).1) then (decide (((c3.getD default).2.1.getD (s1.2.2).toNat 0) ≠ s1.2.1)) else false)) = true → (0 : Int) ≤ s1.2.2) ∧ ((!(bif (!(a7.getD (s1.2.2).toNat Zd7).1) then (decide (((c3.getD default).2.1.getD (s1.2.2).toNat 0) ≠ s1.2.1)) else false)) = true → s1.2.2 < ((c3.getD default).2.1.length : Int)) ∧ ((!(bif (!(a7.getD (s1.2.2).toNat Zd7).1) then (decide (((c3.getD default).2.1.getD (s1.2.2).toNat 0) ≠ s1.2.1)) else false)) = true → s1.2.2 < ((c6.getD default).1.length : Int)) ∧ ((!(bif (bif (!(a7.getD (s1.2.2).toNat Zd7).1) then (decide (((c3.getD default).2.1.getD (s1.2.2).toNat 0) ≠ s1.2.1)) else false) then true else (decide (((c3.getD default).2.1.getD (s1.2.2).toNat 0) < ((c6.getD default).1.getD (s1.2.2).toNat 0))))) = true → (0 : Int) ≤ s1.2.2) ∧ ((!(bif (bif (!(a7.getD (s1.2.2).toNat Zd7).1) then (decide (((c3.getD default).2.1.getD (s1.2.2).toNat 0) ≠ s1.2.1)) else false) then true else (decide (((c3.getD default).2.1.getD (s1.2.2).toNat 0) < ((c6.getD default).1.getD (s1.2.2).toNat 0))))) = true → s1.2.2 < ((c3.getD default).2.1.length : Int)) ∧ ((!(bif (bif (!(a7.getD (s1.2.2).toNat Zd7).1) then (decide (((c3.getD default).2.1.getD (s1.2.2).toNat 0) ≠ s1.2.1)) else false) then true else (decide (((c3.getD default).2.1.getD (s1.2.2).toNat 0) < ((c6.getD default).1.getD (s1.2.2).toNat 0))))) = true → s1.2.2 < ((c7.getD default).length : Int)) then
   bif x21 then
    some (.inr (Sum.inl ()))
   else
    if (0 : Int) ≤ s1.2.2 ∧ s1.2.2 < ((c3.getD default).2.1.length : Int) then
     (iter (law37_ChainGoes_b2 N a7 c3 c5 c7 s1) N (s1.1, ((c3.getD default).2.1.getD (s1.2.2).toNat 0), 0)).bind fun w2 =>
      (Sum.elim (fun v3 =>
       some (.inr (Sum.inl ()))
      )
       (fun v4 =>
        if inK .i64 (s1.2.2 + 1) then
         some (.inl (v4.1, v4.2.1, (s1.2.2 + 1)))
        else none
       )
      ) w2
    else none
  else none
 else
  some (.inr (Sum.inr ()))
def law37_ChainGoes (N : Nat) (a1 : Int) (a2 : Int) (a3 : Int) (a4 : Bool) (a5 : Int) (a6 : (List Int)) (a7 : Zt1) (a8 : Int) (a9 : (List Int)) : Option Bool :=
 let c1 := (law25_Light N a1 a2 a3 a4 a5 a6 a7 a8)
 if c1.isSome = true then
  bif (bif (!(c1.getD default)) then true else (decide ((100 : Int) < (a9.length : Int)))) then
   let c2 := (law37_lives N)
   if c2.isSome = true then
    some (c2.getD default)
   else none
  else
   let c3 := (chain_Of_v1 N a1 a2 a3 a4 a5 a6 a7 a8 a9)
   if c3.isSome = true then
    bif (decide ((c3.getD default).2.2.2.2 ≠ 0)) then
     let c4 := (law37_lives N)
     let x1 := (bif (decide (((c3.getD default).2.2.1.length : Int) = 0)) then (c4.getD default) else false)
     if ((decide (((c3.getD default).2.2.1.length : Int) = 0)) = true → c4.isSome = true) then
      some x1
     else none
    else
     let c5 := (quants_Of_v1 N a1 a2 a3 a4 a5 a6 a7 a8)
     if c5.isSome = true then
      let c6 := (quants_First_v1 N a1 a2 a3 a4 a5 a6 a7 a8)
      if c6.isSome = true then
       let c7 := (chain_Floors_v1 N a1 a2 a3 a4 a5 a6 a7 a8 a9)
       if c7.isSome = true then
        let c8 := (chain_Of_v2 N a1 a2 a3 a4 a5 a6 a7 a8)
        if c8.isSome = true then
         let c9 := (ref30_Same_v2 N (c8.getD default).2.2.1 (c5.getD default).1)
         let c10 := (ref30_Same_v2 N (c8.getD default).2.1 (c6.getD default).1)
         let x14 := (bif (bif (bif (bif (bif (bif (bif (decide (((c3.getD default).2.1.length : Int) ≠ (a7.length : Int))) then true else (decide (((c3.getD default).2.2.1.length : Int) ≠ ((c5.getD default).1.length : Int)))) then true else (decide (((c3.getD default).2.2.2.1.length : Int) ≠ ((c5.getD default).1.length : Int)))) then true else (decide (((c7.getD default).length : Int) ≠ (a7.length : Int)))) then true else (decide (((c3.getD default).2.1.length : Int) = 0))) then true else (decide ((c3.getD default).1 ≠ ((c3.getD default).2.1.getD 0 0)))) then true else (!(c9.getD default))) then true else (!(c10.getD default)))
         if ((!(bif (bif (bif (bif (decide (((c3.getD default).2.1.length : Int) ≠ (a7.length : Int))) then true else (decide (((c3.getD default).2.2.1.length : Int) ≠ ((c5.getD default).1.length : Int)))) then true else (decide (((c3.getD default).2.2.2.1.length : Int) ≠ ((c5.getD default).1.length : Int)))) then true else (decide (((c7.getD default).length : Int) ≠ (a7.length : Int)))) then true else (decide (((c3.getD default).2.1.length : Int) = 0)))) = true → (0 : Int) < ((c3.getD default).2.1.length : Int)) ∧ ((!(bif (bif (bif (bif (bif (decide (((c3.getD default).2.1.length : Int) ≠ (a7.length : Int))) then true else (decide (((c3.getD default).2.2.1.length : Int) ≠ ((c5.getD default).1.length : Int)))) then true else (decide (((c3.getD default).2.2.2.1.length : Int) ≠ ((c5.getD default).1.length : Int)))) then true else (decide (((c7.getD default).length : Int) ≠ (a7.length : Int)))) then true else (decide (((c3.getD default).2.1.length : Int) = 0))) then true else (decide ((c3.getD default).1 ≠ ((c3.getD default).2.1.getD 0 0))))) = true → c9.isSome = true) ∧ ((!(bif (bif (bif (bif (bif (bif (decide (((c3.getD default).2.1.length : Int) ≠ (a7.length : Int))) then true else (decide (((c3.getD default).2.2.1.length : Int) ≠ ((c5.getD default).1.length : Int)))) then true else (decide (((c3.getD default).2.2.2.1.length : Int) ≠ ((c5.getD default).1.length : Int)))) then true else (decide (((c7.getD default).length : Int) ≠ (a7.length : Int)))) then true else (decide (((c3.getD default).2.1.length : Int) = 0))) then true else (decide ((c3.getD default).1 ≠ ((c3.getD default).2.1.getD 0 0)))) then true else (!(c9.getD default)))) = true → c10.isSome = true) then
          bif x14 then
           some false
          else
           (iter (law37_ChainGoes_b1 N a7 c3 c5 c6 c7) N (0, (c3.getD default).1, 0)).bind fun w1 =>
            (Sum.elim (fun v1 =>
             some false
            )
             (fun v2 =>
              let c11 := (law37_lives N)
              if c11.isSome = true then
               some (c11.getD default)
              else none
             )
            ) w1
         else none
        else none
       else none
      else none
     else none
   else none
 else none
def sp_law37_ChainGoes (N : Nat) : X.Spec := fun args lk => match args with
 | [.v (.agg [.cs [.int .i64 a1, .int .i64 a2, .int .i64 a3, .bool a4, .int .i64 a5, .fz (.int .i64) a6, .fz (.pair .bool (.pair (.int .i64) (.pair (.int .i64) (.sl (.pair (.int .i64) (.pair .bool (.pair (.int .i64) (.pair (.int .i64) (.pair (.arr 2 .i64) (.pair (.arr 6 .i64) (.arrS 6 (.pair .bool (.pair (.int .i64) (.int .i64)))))))))))))) a7, .int .i64 a8]]), .v (.c (.fz (.int .i64) a9))] => some ⟨(law37_ChainGoes N a1 a2 a3 a4 a5 a6 a7 a8 a9).isSome = true, .v (.c (.bool ((law37_ChainGoes N a1 a2 a3 a4 a5 a6 a7 a8 a9).getD default))), [], []⟩
 | _ => none
set_option maxRecDepth 100000 in
set_option maxHeartbeats 1000000 in
theorem ok_law37_ChainGoes (N : Nat) : FnOK Tryd.prog gt0 8 (sp_law37_ChainGoes N) := by
 refine fnOK_handed Tryd.func8 rfl (by kernel_rfl) tt_ok (ktCons (ok_steps_Next N) (ktCons (ok_ref30_Same_v2 N) (ktCons (ok_chain_Floors_v1 N) (ktCons (ok_quants_First_v1 N) (ktCons (ok_quants_Of_v1 N) (ktCons (FnOK.or (ok_chain_Of_v1 N) (ok_chain_Of_v2 N)) (ktCons (ok_law37_lives N) (ktCons (ok_law25_Light N) (ktNil))))))))) ?_
 intro args lk r h hp
 unfold sp_law37_ChainGoes at h
 split at h
 ·
  rename_i a1 a2 a3 a4 a5 a6 a7 a8 a9
  change (List Int) at a6
  change Zt1 at a7
  change (List Int) at a9
  cases h
  obtain ⟨x, hx⟩ := Option.isSome_iff_exists.1 hp
  simp only [hx, Option.getD_some]
  refine hand0 rfl rfl (fun w0 M ε0 hX => ?_)
  refine rCount (fun hε => ?_)
  have hT : law37_ChainGoes N a1 a2 a3 a4 a5 a6 a7 a8 a9 = some x := hx; clear hx hp; unfold law37_ChainGoes at hT
  refine zA hX ?_
  refine rSeq ?_
  let c1 := (law25_Light N a1 a2 a3 a4 a5 a6 a7 a8)
  replace hT := sIf hT; obtain ⟨o1, hT⟩ := hT
  refine zA hX ?_
  refine zCond rfl rfl (fun hc => ?_) (fun hc => ?_)
  ·
   replace hT := sT hc hT
   let c2 := (law37_lives N)
   replace hT := sIf hT; obtain ⟨o1, hT⟩ := hT
   refine zA hX ?_
   refine rRet (rThenRet ?_)
   have hy := Option.some.inj hT; subst hy
   exact zEnd0 hX rfl
  ·
   replace hT := sF hc hT
   refine rSkip (rThen ?_)
   let c3 := (chain_Of_v1 N a1 a2 a3 a4 a5 a6 a7 a8 a9)
   replace hT := sIf hT; obtain ⟨o1, hT⟩ := hT
   refine zA hX ?_
   refine rSeq (zA hX ?_)
   refine zCond rfl rfl (fun hc => ?_) (fun hc => ?_)
   ·
    replace hT := sT hc hT
    let c4 := (law37_lives N)
    let x1 := (bif (decide (((c3.getD default).2.2.1.length : Int) = 0)) then (c4.getD default) else false)
    replace hT := sIf hT; obtain ⟨o1, hT⟩ := hT
    refine rSeq (rRegC md0 hX rfl rfl rfl zO ?_)
    refine rThen (rRet (rThenRet ?_))
    have hy := Option.some.inj hT; subst hy
    exact zEnd0 hX rfl
   ·
    replace hT := sF hc hT
    refine rSkip (rThen ?_)
    let c5 := (quants_Of_v1 N a1 a2 a3 a4 a5 a6 a7 a8)
    replace hT := sIf hT; obtain ⟨o1, hT⟩ := hT
    refine zA hX ?_
    let c6 := (quants_First_v1 N a1 a2 a3 a4 a5 a6 a7 a8)
    replace hT := sIf hT; obtain ⟨o1, hT⟩ := hT
    refine zA hX ?_
    let c7 := (chain_Floors_v1 N a1 a2 a3 a4 a5 a6 a7 a8 a9)
    replace hT := sIf hT; obtain ⟨o1, hT⟩ := hT
    refine zA hX ?_
    let c8 := (chain_Of_v2 N a1 a2 a3 a4 a5 a6 a7 a8)
    replace hT := sIf hT; obtain ⟨o1, hT⟩ := hT
    refine zA hX ?_
    refine rSeq ?_
    let c9 := (ref30_Same_v2 N (c8.getD default).2.2.1 (c5.getD default).1)
    let c10 := (ref30_Same_v2 N (c8.getD default).2.1 (c6.getD default).1)
    let x14 := (bif (bif (bif (bif (bif (bif (bif (decide (((c3.getD default).2.1.length : Int) ≠ (a7.length : Int))) then true else (decide (((c3.getD default).2.2.1.length : Int) ≠ ((c5.getD default).1.length : Int)))) then true else (decide (((c3.getD default).2.2.2.1.length : Int) ≠ ((c5.getD default).1.length : Int)))) then true else (decide (((c7.getD default).length : Int) ≠ (a7.length : Int)))) then true else (decide (((c3.getD default).2.1.length : Int) = 0))) then true else (decide ((c3.getD default).1 ≠ ((c3.getD default).2.1.getD 0 0)))) then true else (!(c9.getD default))) then true else (!(c10.getD default)))
    replace hT := sIf hT; obtain ⟨⟨o1, o2, o3⟩, hT⟩ := hT
    refine rSeq (rDrawM md0 0 [] hX mixed rfl rfl rfl rfl rfl zO ?_)
    refine rThen ?_
    refine zCond rfl rfl (fun hc => ?_) (fun hc => ?_)
    ·
     replace hT := sT hc hT
     refine zA hX ?_
     refine rRet (rThenRet ?_)
     have hy := Option.some.inj hT; subst hy
     exact zEnd0 hX rfl
    ·
     replace hT := sF hc hT
     refine rSkip (rThen (zA hX ?_))
     refine zA hX ?_
     refine rSeq (zA hX ?_)
     refine rBlock ?_
     replace hT := sBind hT; obtain ⟨w1, hl, hT⟩ := hT
     refine rJoinA (fun v1 => (Sum.inl v1) = w1) (fun v1 => ⟨[(4, .v (.c (.bool false)))], [], 3⟩) .ret (fun v1 hv => ?_) (fun hxs10 => ?_)
     ·
      subst hv; clear hl; replace hT := (sElimL hT)
      refine rInRet (rThenRet ?_)
      have hy := Option.some.inj hT; subst hy
      exact zEnd0 hX rfl
     refine rJoinA (fun v2 => (Sum.inr v2) = w1) (fun v2 => ⟨[(4, .v (.c (.bool false)))], [], 3⟩) (.exit 0) (fun v2 hv => ?_) (fun hxs11 => ?_)
     ·
      subst hv; clear hl; replace hT := (sElimR hT)
      refine rInHit (rThen ?_)
      let c11 := (law37_lives N)
      replace hT := sIf hT; obtain ⟨o1, hT⟩ := hT
      refine zA hX ?_
      refine rRet ?_
      have hy := Option.some.inj hT; subst hy
      exact zEnd0 hX rfl
     refine rLoopM (law37_ChainGoes_b1 N a7 c3 c5 c6 c7) (fun s1 => ⟨[(2, .v (.c (.ptr 0 0 0 0 0 0))), (4, .v (.c (.bool false))), (5, .v (.c (.ptr 1 0 0 0 0 0))), (7, .v (.c (.fz (.int .i64) (c5.getD default).1))), (9, .v (.c (.fz (.int .i64) (c6.getD default).1))), (11, .v (.c (.fz (.int .i64) (c7.getD default)))), (14, .v (.c (.int .i64 s1.1))), (15, .v (.c (.int .i64 s1.2.1))), (16, .v (.c (.int .i64 s1.2.2)))], [(0, .mem true 25 none (.flat [.cs [.int .i64 a1, .int .i64 a2, .int .i64 a3, .bool a4, .int .i64 a5, .fz (.int .i64) a6, .fz Zs1 a7, .int .i64 a8]])), (1, .mem true 51 none (.flat [.cs [.int .i64 (c3.getD default).1, .fz (.int .i64) (c3.getD default).2.1, .fz (.int .i64) (c3.getD default).2.2.1, .fz (.int .i64) (c3.getD default).2.2.2.1]]))], 3⟩) hl (To.mk' [] 0 hε rfl zL zL) (fun s1 zs1 NNs1 hz hnexts1 houts1 => ?_)
     clear hl hT
     have hT := hz; clear hz
     refine rSeq (zA hX ?_)
     refine zCond rfl rfl (fun hc => ?_) (fun hc => ?_)
     ·
      replace hT := sT hc hT
      refine rSkip (rThen (rSeq (rBlock (rSeq ?_))))
      let x15 := (bif (!(a7.getD (s1.2.2).toNat Zd7).1) then (decide (((c3.getD default).2.1.getD (s1.2.2).toNat 0) ≠ s1.2.1)) else false)
      let x18 := (bif (bif (!(a7.getD (s1.2.2).toNat Zd7).1) then (decide (((c3.getD default).2.1.getD (s1.2.2).toNat 0) ≠ s1.2.1)) else false) then true else (decide (((c3.getD default).2.1.getD (s1.2.2).toNat 0) < ((c6.getD default).1.getD (s1.2.2).toNat 0))))
      let x21 := (bif (bif (bif (!(a7.getD (s1.2.2).toNat Zd7).1) then (decide (((c3.getD default).2.1.getD (s1.2.2).toNat 0) ≠ s1.2.1)) else false) then true else (decide (((c3.getD default).2.1.getD (s1.2.2).toNat 0) < ((c6.getD default).1.getD (s1.2.2).toNat 0)))) then true else (decide (((c3.getD default).2.1.getD (s1.2.2).toNat 0) < ((c7.getD default).getD (s1.2.2).toNat 0))))
      replace hT := sIf hT; obtain ⟨⟨o1, o2, o3, o4, o5, o6, o7, o8, o9, o10⟩, hT⟩ := hT
      refine rSeq (rDrawM md0 0 [] hX mixed rfl rfl rfl rfl rfl zO ?_)
      refine rThen ?_
      refine zCond rfl rfl (fun hc => ?_) (fun hc => ?_)
      ·
       replace hT := sT hc hT
       refine zA hX ?_
       refine rRet (rThenRet (rInRet (rThenRet (rThenRet ?_))))
       exact zTo [] 0 hε (hxs10 _ (houts1 _ (Option.some.inj hT).symm))
      ·
       replace hT := sF hc hT
       refine rSkip (rThen ?_)
       replace hT := sIf hT; obtain ⟨⟨o1, o2⟩, hT⟩ := hT
       refine zA hX ?_
       refine zA hX ?_
       refine rBlock ?_
       replace hT := sBind hT; obtain ⟨w2, hl, hT⟩ := hT
       refine rJoinA (fun v3 => (Sum.inl v3) = w2) (fun v3 => ⟨[(4, .v (.c (.bool false)))], [], 3⟩) .ret (fun v3 hv => ?_) (fun hxs20 => ?_)
       ·
        subst hv; clear hl; replace hT := (sElimL hT)
        refine rInRet (rInRet (rThenRet (rThenRet ?_)))
        exact zTo [] 0 hε (hxs10 _ (houts1 _ (Option.some.inj hT).symm))
       refine rJoinA (fun v4 => (Sum.inr v4) = w2) (fun v4 => ⟨[(2, .v (.c (.ptr 0 0 0 0 0 0))), (4, .v (.c (.bool false))), (5, .v (.c (.ptr 1 0 0 0 0 0))), (7, .v (.c (.fz (.int .i64) (c5.getD default).1))), (9, .v (.c (.fz (.int .i64) (c6.getD default).1))), (11, .v (.c (.fz (.int .i64) (c7.getD default)))), (14, .v (.c (.int .i64 v4.1))), (15, .v (.c (.int .i64 v4.2.1))), (16, .v (.c (.int .i64 s1.2.2))), (17, .v (.c (.int .i64 v4.2.2.1))), (123, .v (.c (.int .i64 s1.2.2))), (124, .v (.c (.ptr 0 0 0 6 0 0))), (125, .v (.c (.fz Zs1 a7))), (126, .v (.c (.int .i64 (a7.length : Int)))), (127, .v (.c (.bool (decide (s1.2.2 < (a7.length : Int)))))), (130, .v (.c (.ptr 0 0 0 6 0 0))), (131, .v (.c (.fz Zs1 a7))), (132, .v (.c (.int .i64 s1.2.2))), (133, .v (.c (.fp Zs1 (a7.getD (s1.2.2).toNat Zd7) 0 0 0))), (134, .v (.c (.fp Zs1 (a7.getD (s1.2.2).toNat Zd7) 0 0 0))), (135, .v (.c (.bool (a7.getD (s1.2.2).toNat Zd7).1))), (136, .v (.c (.bool (!(a7.getD (s1.2.2).toNat Zd7).1)))), (137, .v (.c (.bool (!(a7.getD (s1.2.2).toNat Zd7).1)))), (145, .v (.c (.bool x15))), (146, .v (.c (.bool x15))), (157, .v (.c (.bool x18))), (158, .v (.c (.bool x18))), (169, .v (.c (.bool x21))), (170, .v (.c (.ptr 1 0 0 1 0 0))), (171, .v (.c (.fz (.int .i64) (c3.getD default).2.1))), (172, .v (.c (.int .i64 s1.2.2))), (173, .v (.c (.fp (.int .i64) ((c3.getD default).2.1.getD (s1.2.2).toNat 0) 0 0 0))), (174, .v (.c (.int .i64 ((c3.getD default).2.1.getD (s1.2.2).toNat 0)))), (175, .v (.c (.int .i64 v4.2.2.2.1))), (176, .v (.c (.ptr 0 0 0 6 0 0))), (177, .v (.c (.fz Zs1 a7))), (178, .v (.c (.int .i64 s1.2.2))), (179, .v (.c (.fp Zs1 (a7.getD (s1.2.2).toNat Zd7) 0 0 0))), (180, .v (.c (.fp Zs1 (a7.getD (s1.2.2).toNat Zd7) 3 0 0))), (181, .v (.c (.fz Zs2 (a7.getD (s1.2.2).toNat Zd7).2.2.2))), (182, .v (.c (.int .i64 ((a7.getD (s1.2.2).toNat Zd7).2.2.2.length : Int)))), (183, .v (.c (.bool v4.2.2.2.2)))], [(0, .mem true 25 none (.flat [.cs [.int .i64 a1, .int .i64 a2, .int .i64 a3, .bool a4, .int .i64 a5, .fz (.int .i64) a6, .fz Zs1 a7, .int .i64 a8]])), (1, .mem true 51 none (.flat [.cs [.int .i64 (c3.getD default).1, .fz (.int .i64) (c3.getD default).2.1, .fz (.int .i64) (c3.getD default).2.2.1, .fz (.int .i64) (c3.getD default).2.2.2.1]]))], 3⟩) (.exit 2) (fun v4 hv => ?_) (fun hxs21 => ?_)
       ·
        subst hv; clear hl; replace hT := (sElimR hT)
        refine rInHit (rInNormal (rThen ?_))
        replace hT := sIf hT; obtain ⟨o1, hT⟩ := hT
        refine zReg md0 hX rfl rfl rfl ?_
        exact hnexts1 _ (Option.some.inj hT).symm _ (To.mk' [] 0 hε rfl zL zL)
       refine rLoopM (law37_ChainGoes_b2 N a7 c3 c5 c7 s1) (fun s2 => ⟨[(2, .v (.c (.ptr 0 0 0 0 0 0))), (4, .v (.c (.bool false))), (5, .v (.c (.ptr 1 0 0 0 0 0))), (7, .v (.c (.fz (.int .i64) (c5.getD default).1))), (9, .v (.c (.fz (.int .i64) (c6.getD default).1))), (11, .v (.c (.fz (.int .i64) (c7.getD default)))), (14, .v (.c (.int .i64 s2.1))), (15, .v (.c (.int .i64 s2.2.1))), (16, .v (.c (.int .i64 s1.2.2))), (17, .v (.c (.int .i64 s2.2.2))), (123, .v (.c (.int .i64 s1.2.2))), (124, .v (.c (.ptr 0 0 0 6 0 0))), (125, .v (.c (.fz Zs1 a7))), (126, .v (.c (.int .i64 (a7.length : Int)))), (127, .v (.c (.bool (decide (s1.2.2 < (a7.length : Int)))))), (130, .v (.c (.ptr 0 0 0 6 0 0))), (131, .v (.c (.fz Zs1 a7))), (132, .v (.c (.int .i64 s1.2.2))), (133, .v (.c (.fp Zs1 (a7.getD (s1.2.2).toNat Zd7) 0 0 0))), (134, .v (.c (.fp Zs1 (a7.getD (s1.2.2).toNat Zd7) 0 0 0))), (135, .v (.c (.bool (a7.getD (s1.2.2).toNat Zd7).1))), (136, .v (.c (.bool (!(a7.getD (s1.2.2).toNat Zd7).1)))), (137, .v (.c (.bool (!(a7.getD (s1.2.2).toNat Zd7).1)))), (145, .v (.c (.bool x15))), (146, .v (.c (.bool x15))), (157, .v (.c (.bool x18))), (158, .v (.c (.bool x18))), (169, .v (.c (.bool x21))), (170, .v (.c (.ptr 1 0 0 1 0 0))), (171, .v (.c (.fz (.int .i64) (c3.getD default).2.1))), (172, .v (.c (.int .i64 s1.2.2))), (173, .v (.c (.fp (.int .i64) ((c3.getD default).2.1.getD (s1.2.2).toNat 0) 0 0 0))), (174, .v (.c (.int .i64 ((c3.getD default).2.1.getD (s1.2.2).toNat 0))))], [(0, .mem true 25 none (.flat [.cs [.int .i64 a1, .int .i64 a2, .int .i64 a3, .bool a4, .int .i64 a5, .fz (.int .i64) a6, .fz Zs1 a7, .int .i64 a8]])), (1, .mem true 51 none (.flat [.cs [.int .i64 (c3.getD default).1, .fz (.int .i64) (c3.getD default).2.1, .fz (.int .i64) (c3.getD default).2.2.1, .fz (.int .i64) (c3.getD default).2.2.2.1]]))], 3⟩) hl (To.mk' [] 0 hε rfl zL zL) (fun s2 zs2 NNs2 hz hnexts2 houts2 => ?_)
       clear hl hT
       have hT := hz; clear hz
       refine rSeq ?_
       let x22 := (decide (s2.2.2 < ((a7.getD (s1.2.2).toNat Zd7).2.2.2.length : Int)))
       replace hT := sIf hT; obtain ⟨⟨o1, o2⟩, hT⟩ := hT
       refine zA hX ?_
       refine zCond rfl rfl (fun hc => ?_) (fun hc => ?_)
       ·
        replace hT := sT hc hT
        refine rSkip (rThen (rSeq (rBlock ?_)))
        replace hT := sIf hT; obtain ⟨⟨o1, o2⟩, hT⟩ := hT
        refine zA hX ?_
        refine rSeq ?_
        let c12 := (steps_Next N s2.2.1 ((c3.getD default).2.2.2.1.getD (s2.1).toNat 0))
        let x37 := (bif (bif (bif (bif (bif (decide (((c3.getD default).2.2.1.getD (s2.1).toNat 0) < ((c5.getD default).1.getD (s2.1).toNat 0))) then true else (decide (((c3.getD default).2.2.1.getD (s2.1).toNat 0) < ((c7.getD default).getD (s1.2.2).toNat 0)))) then true else (decide (((c3.getD default).2.2.2.1.getD (s2.1).toNat 0) < (-2)))) then true else (decide ((2 : Int) < ((c3.getD default).2.2.2.1.getD (s2.1).toNat 0)))) then true else (!((decide (((c3.getD default).2.2.2.1.getD (s2.1).toNat 0) = 0)) == (decide (((c3.getD default).2.2.1.getD (s2.1).toNat 0) = s2.2.1))))) then true else (bif (decide (((c3.getD default).2.2.2.1.getD (s2.1).toNat 0) ≠ 0)) then (decide ((c12.getD default) ≠ ((c3.getD default).2.2.1.getD (s2.1).toNat 0))) else false))
        replace hT := sIf hT; obtain ⟨⟨o1, o2, o3, o4, o5, o6, o7, o8, o9, o10, o11, o12, o13, o14, o15, o16⟩, hT⟩ := hT
        refine rSeq (rRegC md0 hX rfl rfl rfl (by (repeat' first | exact True.intro | with_reducible assumption | (with_reducible apply And.intro) | intro _) <;> first | assumption | exact o3 (by assumption) | exact o4 (by assumption) | exact o5 (by assumption) | exact o6 (by assumption) | exact o7 (by assumption) | exact o8 (by assumption) | exact o9 (by assumption) | exact o10 (by assumption) | exact o11 (by assumption) | exact o12 (by assumption) | exact o13 (by assumption) | exact o14 (by assumption) | exact o15 (by assumption) | exact o16 (by assumption) (by assumption) | exact rfl | omega | exact Nat.le_of_ble_eq_true rfl | exact selF (by assumption) | exact selT (by assumption) | exact And.intro rfl rfl | exact And.intro (by assumption) rfl | exact And.intro (by omega) rfl | (simp only [inK] at *; omega) | (simp_all [sel] <;> fail) | fail) ?_)
        refine rThen ?_
        refine zCond rfl rfl (fun hc => ?_) (fun hc => ?_)
        ·
         replace hT := sT hc hT
         refine zA hX ?_
         refine rRet (rThenRet (rInRet (rThenRet (rThenRet ?_))))
         exact zTo [] 0 hε (hxs20 _ (houts2 _ (Option.some.inj hT).symm))
        ·
         replace hT := sF hc hT
         refine rSkip (rThen (zA hX ?_))
         replace hT := sIf hT; obtain ⟨o1, hT⟩ := hT
         refine zReg md0 hX rfl rfl rfl ?_
         refine rInNormal (rThen ?_)
         replace hT := sIf hT; obtain ⟨o1, hT⟩ := hT
         refine zReg md0 hX rfl rfl rfl ?_
         exact hnexts2 _ (Option.some.inj hT).symm _ (To.mk' [] 0 hε rfl zL zL)
       ·
        replace hT := sF hc hT
        refine rExit (rThenExit (rThenExit ?_))
        exact zTo [] 0 hε (hxs21 _ (houts2 _ (Option.some.inj hT).symm))
     ·
      replace hT := sF hc hT
      refine rExit (rThenExit (rThenExit ?_))
      exact zTo [] 0 hε (hxs11 _ (houts1 _ (Option.some.inj hT).symm))
 ·
  cases h

end Go.Proofs.YtlcjjaglbcfbbaaDoor
