/- Models of functions, and that the program does what they tell. -/
import Derived.Test.YtlcjjaglbcfbbaaDoorC2
set_option linter.unusedVariables false
set_option linter.unusedSimpArgs false
namespace Go.Proofs.YtlcjjaglbcfbbaaDoor
open Go.X

def chain_Of_v1_b1 (N : Nat) (a7 : Zt1) (c2 : (Option ((List Int) × Int))) (c3 : (Option (List Int))) (s2 : Zt10) : Option (Zt10 ⊕ Zt15) :=
 bif (decide (s2.2.1 < (a7.length : Int))) then
  if (0 : Int) ≤ s2.2.1 ∧ s2.2.1 < (a7.length : Int) then
   let c4 := (chain_Of_1 N s2.2.1 (s2.1.take ((a7.getD (s2.2.1).toNat Zd7).2.2.2.length : Int).toNat) (c2.getD default).1 (c3.getD default) s2.2.2.1 s2.2.2.2.1 s2.2.2.2.2.1 s2.2.2.2.2.2.1 s2.2.2.2.2.2.2.1 s2.2.2.2.2.2.2.2.1 s2.2.2.2.2.2.2.2.2.1 s2.2.2.2.2.2.2.2.2.2.1 s2.2.2.2.2.2.2.2.2.2.2.1 s2.2.2.2.2.2.2.2.2.2.2.2)
   if (0 : Int) ≤ ((a7.getD (s2.2.1).toNat Zd7).2.2.2.length : Int) ∧ ((a7.getD (s2.2.1).toNat Zd7).2.2.2.length : Int) ≤ (s2.1.length : Int) ∧ c4.isSome = true then
    let x2 := (s2.1.drop ((a7.getD (s2.2.1).toNat Zd7).2.2.2.length : Int).toNat)
    if (0 : Int) ≤ ((a7.getD (s2.2.1).toNat Zd7).2.2.2.length : Int) ∧ ((a7.getD (s2.2.1).toNat Zd7).2.2.2.length : Int) ≤ (s2.1.length : Int) then
     if inK .i64 (s2.2.1 + 1) then
      some (.inl (x2, (s2.2.1 + 1), (c4.getD default).1, (c4.getD default).2.1, (c4.getD default).2.2.1, (c4.getD default).2.2.2.1, (c4.getD default).2.2.2.2.1, (c4.getD default).2.2.2.2.2.1, (c4.getD default).2.2.2.2.2.2.1, (c4.getD default).2.2.2.2.2.2.2.1, (c4.getD default).2.2.2.2.2.2.2.2.1, (c4.getD default).2.2.2.2.2.2.2.2.2))
     else none
    else none
   else none
  else none
 else
  some (.inr (s2.2.2.1, s2.2.2.2.1, s2.2.2.2.2.1, s2.2.2.2.2.2.1, s2.2.2.2.2.2.2.1, s2.2.2.2.2.2.2.2.1, s2.2.2.2.2.2.2.2.2.1, s2.2.2.2.2.2.2.2.2.2.1, s2.2.2.2.2.2.2.2.2.2.2.1, s2.2.2.2.2.2.2.2.2.2.2.2))
def chain_Of_v1 (N : Nat) (a1 : Int) (a2 : Int) (a3 : Int) (a4 : Bool) (a5 : Int) (a6 : (List Int)) (a7 : Zt1) (a8 : Int) (a9 : (List Int)) : Option Zt19 :=
 let c1 := (quants_Of_v1 N a1 a2 a3 a4 a5 a6 a7 a8)
 if c1.isSome = true then
  bif (decide ((c1.getD default).2 ≠ 0)) then
   some (0, [], [], [], (c1.getD default).2)
  else
   let c2 := (quants_First_v1 N a1 a2 a3 a4 a5 a6 a7 a8)
   if c2.isSome = true then
    let c3 := (chain_Floors_v1 N a1 a2 a3 a4 a5 a6 a7 a8 a9)
    if c3.isSome = true then
     (iter (chain_Of_v1_b1 N a7 c2 c3) N ((c1.getD default).1, 0, 0, 0, 0, 0, 0, [], 0, [], 0, [])).bind fun v1 =>
      if (0 : Int) < (v1.2.1 : Int) ∧ 0 < v1.2.2.2.2.1 then
       if v1.2.1 = v1.2.2.2.2.2.1.length ∧ v1.2.2.1 = v1.2.2.2.2.2.2.2.1.length ∧ v1.2.2.2.1 = v1.2.2.2.2.2.2.2.2.2.length then
        some ((v1.2.2.2.2.2.1.getD 0 0), v1.2.2.2.2.2.1, v1.2.2.2.2.2.2.2.1, v1.2.2.2.2.2.2.2.2.2, 0)
       else none
      else none
    else none
   else none
 else none
def sp_chain_Of_v1 (N : Nat) : X.Spec := fun args lk => match args with
 | [.v (.agg [.cs [.int .i64 a1, .int .i64 a2, .int .i64 a3, .bool a4, .int .i64 a5, .fz (.int .i64) a6, .fz (.pair .bool (.pair (.int .i64) (.pair (.int .i64) (.sl (.pair (.int .i64) (.pair .bool (.pair (.int .i64) (.pair (.int .i64) (.pair (.arr 2 .i64) (.pair (.arr 6 .i64) (.arrS 6 (.pair .bool (.pair (.int .i64) (.int .i64)))))))))))))) a7, .int .i64 a8]]), .v (.c (.fz (.int .i64) a9))] => some ⟨(chain_Of_v1 N a1 a2 a3 a4 a5 a6 a7 a8 a9).isSome = true, .tup [.agg [.cs [.int .i64 ((chain_Of_v1 N a1 a2 a3 a4 a5 a6 a7 a8 a9).getD default).1, .fz (.int .i64) ((chain_Of_v1 N a1 a2 a3 a4 a5 a6 a7 a8 a9).getD default).2.1, .fz (.int .i64) ((chain_Of_v1 N a1 a2 a3 a4 a5 a6 a7 a8 a9).getD default).2.2.1, .fz (.int .i64) ((chain_Of_v1 N a1 a2 a3 a4 a5 a6 a7 a8 a9).getD default).2.2.2.1]], .c (.int .i64 ((chain_Of_v1 N a1 a2 a3 a4 a5 a6 a7 a8 a9).getD default).2.2.2.2)], [], []⟩
 | _ => none
set_option maxRecDepth 100000 in
set_option maxHeartbeats 1000000 in
theorem ok_chain_Of_v1 (N : Nat) : FnOK Tryd.prog gt0 28 (sp_chain_Of_v1 N) := by
 refine fnOK_handed Tryd.func28 rfl (by kernel_rfl) tt_ok (ktCons (ok_chain_Of_1 N) (ktCons (ok_chain_Floors_v1 N) (ktCons (ok_quants_First_v1 N) (ktCons (ok_quants_Of_v1 N) (ktNil))))) ?_
 intro args lk r h hp
 unfold sp_chain_Of_v1 at h
 split at h
 ·
  rename_i a1 a2 a3 a4 a5 a6 a7 a8 a9
  change (List Int) at a6
  change Zt1 at a7
  change (List Int) at a9
  cases h
  obtain ⟨x, hx⟩ := Option.isSome_iff_exists.1 hp
  simp only [hx, Option.getD_some]
  refine hand0 rfl rfl (fun w0 M ε0 hX => ?_)
  refine rCount (fun hε => ?_)
  have hT : chain_Of_v1 N a1 a2 a3 a4 a5 a6 a7 a8 a9 = some x := hx; clear hx hp; unfold chain_Of_v1 at hT
  refine zA hX ?_
  let c1 := (quants_Of_v1 N a1 a2 a3 a4 a5 a6 a7 a8)
  replace hT := sIf hT; obtain ⟨o1, hT⟩ := hT
  refine zA hX ?_
  refine rSeq (zA hX ?_)
  refine zCond rfl rfl (fun hc => ?_) (fun hc => ?_)
  ·
   replace hT := sT hc hT
   refine zA hX ?_
   refine rRet (rThenRet ?_)
   have hy := Option.some.inj hT; subst hy
   exact zEnd0 hX rfl
  ·
   replace hT := sF hc hT
   refine rSkip (rThen ?_)
   let c2 := (quants_First_v1 N a1 a2 a3 a4 a5 a6 a7 a8)
   replace hT := sIf hT; obtain ⟨o1, hT⟩ := hT
   refine zA hX ?_
   let c3 := (chain_Floors_v1 N a1 a2 a3 a4 a5 a6 a7 a8 a9)
   replace hT := sIf hT; obtain ⟨o1, hT⟩ := hT
   refine zA hX ?_
   refine zA hX ?_
   refine zA hX ?_
   refine rSeq (zA hX ?_)
   refine rBlock (rNil 3 1 (.flat [.ints 0 .i64 []]) [(4, .v (.c (.ptr 2 0 0 0 0 0))), (5, .v (.c (.int .i64 0))), (6, .v (.c (.fz (.int .i64) (c1.getD default).1))), (10, .v (.c (.ptr 4 0 0 0 0 0))), (11, .v (.c (.clo 58 [3, 1, 4]))), (34, .v (.c (.fz Zs1 a7))), (35, .v (.c (.int .i64 (a7.length : Int)))), (36, .v (.c (.int .i64 0)))] [(1, .mem true 22 none (.flat [.cs [.fz (.int .i64) (c3.getD default)]])), (2, .mem true 51 none (.flat [.cs [.int .i64 0, .val (.slice none 0 0), .val (.slice none 0 0), .val (.slice none 0 0)]])), (3, .mem true 22 none (.flat [.cs [.fz (.int .i64) (c2.getD default).1]])), (4, .mem true 51 none (.flat [.cs [.int .i64 0, .sl 5 0 0 1, .val (.slice none 0 0), .val (.slice none 0 0)]]))] (nil_ints _) zF zF ?_)
   refine rNil 3 1 (.flat [.ints 0 .i64 []]) [(4, .v (.c (.ptr 2 0 0 0 0 0))), (5, .v (.c (.int .i64 0))), (6, .v (.c (.fz (.int .i64) (c1.getD default).1))), (10, .v (.c (.ptr 4 0 0 0 0 0))), (11, .v (.c (.clo 58 [3, 1, 4]))), (34, .v (.c (.fz Zs1 a7))), (35, .v (.c (.int .i64 (a7.length : Int)))), (36, .v (.c (.int .i64 0)))] [(1, .mem true 22 none (.flat [.cs [.fz (.int .i64) (c3.getD default)]])), (2, .mem true 51 none (.flat [.cs [.int .i64 0, .val (.slice none 0 0), .val (.slice none 0 0), .val (.slice none 0 0)]])), (3, .mem true 22 none (.flat [.cs [.fz (.int .i64) (c2.getD default).1]])), (4, .mem true 51 none (.flat [.cs [.int .i64 0, .sl 5 0 0 1, .sl 6 0 0 1, .val (.slice none 0 0)]])), (5, .mem true 3 (some 1) (.flat [.ints 0 .i64 []]))] (nil_ints _) zF zF ?_
   refine rNil 3 1 (.flat [.ints 0 .i64 []]) [(4, .v (.c (.ptr 2 0 0 0 0 0))), (5, .v (.c (.int .i64 0))), (6, .v (.c (.fz (.int .i64) (c1.getD default).1))), (10, .v (.c (.ptr 4 0 0 0 0 0))), (11, .v (.c (.clo 58 [3, 1, 4]))), (34, .v (.c (.fz Zs1 a7))), (35, .v (.c (.int .i64 (a7.length : Int)))), (36, .v (.c (.int .i64 0)))] [(1, .mem true 22 none (.flat [.cs [.fz (.int .i64) (c3.getD default)]])), (2, .mem true 51 none (.flat [.cs [.int .i64 0, .val (.slice none 0 0), .val (.slice none 0 0), .val (.slice none 0 0)]])), (3, .mem true 22 none (.flat [.cs [.fz (.int .i64) (c2.getD default).1]])), (4, .mem true 51 none (.flat [.cs [.int .i64 0, .sl 5 0 0 1, .sl 6 0 0 1, .sl 7 0 0 1]])), (5, .mem true 3 (some 1) (.flat [.ints 0 .i64 []])), (6, .mem true 3 (some 1) (.flat [.ints 0 .i64 []]))] (nil_ints _) zF zF ?_
   refine rBunShut 4 [5, 6, 7] (.flat [.cs [.int .i64 0, .sl 1 0 0 1, .sl 2 0 0 1, .sl 3 0 0 1]]) [(3, 1, .flat [.ints 0 .i64 []]), (3, 1, .flat [.ints 0 .i64 []]), (3, 1, .flat [.ints 0 .i64 []])] rfl rfl zT zT rfl rfl ?_
   refine rToW (T := ⟨[(4, .v (.c (.ptr 2 0 0 0 0 0))), (5, .v (.c (.int .i64 0))), (6, .v (.c (.fz (.int .i64) (c1.getD default).1))), (10, .v (.c (.ptr 4 0 0 0 0 0))), (11, .v (.c (.clo 58 [3, 1, 4]))), (34, .v (.c (.fz Zs1 a7))), (35, .v (.c (.int .i64 (a7.length : Int)))), (36, .v (.c (.int .i64 0)))], [(1, .mem true 22 none (.flat [.cs [.fz (.int .i64) (c3.getD default)]])), (2, .mem true 51 none (.flat [.cs [.int .i64 0, .val (.slice none 0 0), .val (.slice none 0 0), .val (.slice none 0 0)]])), (3, .mem true 22 none (.flat [.cs [.fz (.int .i64) (c2.getD default).1]])), (4, .bun 51 (.flat [.cs [.int .i64 0, .sl 1 0 0 1, .sl 2 0 0 1, .sl 3 0 0 1]]) [(3, 1, .flat [.ints 0 .i64 []]), (3, 1, .flat [.ints 0 .i64 []]), (3, 1, .flat [.ints 0 .i64 []])])], 8⟩) (To.mk' [] 0 hε rfl zL zL) ?_
   replace hT := sBind hT; obtain ⟨w1, hl, hT⟩ := hT
   refine rJoinA (fun v1 => v1 = w1) (fun v1 => ⟨[(4, .v (.c (.ptr 2 0 0 0 0 0))), (5, .v (.c (.int .i64 0))), (10, .v (.c (.ptr 4 0 0 0 0 0)))], [(2, .mem true 51 none (.flat [.cs [.int .i64 0, .val (.slice none 0 0), .val (.slice none 0 0), .val (.slice none 0 0)]])), (4, .bun 51 (.flat [.cs [.int .i64 v1.1, .sl 1 0 v1.2.1 1, .sl 2 0 v1.2.2.1 1, .sl 3 0 v1.2.2.2.1 1]]) [(3, 1, .flat [.ints v1.2.2.2.2.1 .i64 v1.2.2.2.2.2.1]), (3, 1, .flat [.ints v1.2.2.2.2.2.2.1 .i64 v1.2.2.2.2.2.2.2.1]), (3, 1, .flat [.ints v1.2.2.2.2.2.2.2.2.1 .i64 v1.2.2.2.2.2.2.2.2.2])])], 8⟩) (.exit 0) (fun v1 hv => ?_) (fun hxs20 => ?_)
   ·
    subst hv; clear hl
    refine rInHit (rThen (rSeq (rBunOpen 4 rfl rfl rfl rfl ?_)))
    refine rToW (T := ⟨[(4, .v (.c (.ptr 2 0 0 0 0 0))), (5, .v (.c (.int .i64 0))), (10, .v (.c (.ptr 4 0 0 0 0 0)))], [(2, .mem true 51 none (.flat [.cs [.int .i64 0, .val (.slice none 0 0), .val (.slice none 0 0), .val (.slice none 0 0)]])), (4, .mem true 51 none (.flat [.cs [.int .i64 v1.1, .sl 8 0 v1.2.1 1, .sl 9 0 v1.2.2.1 1, .sl 10 0 v1.2.2.2.1 1]])), (8, .mem true 3 (some 1) (.flat [.ints v1.2.2.2.2.1 .i64 v1.2.2.2.2.2.1])), (9, .mem true 3 (some 1) (.flat [.ints v1.2.2.2.2.2.2.1 .i64 v1.2.2.2.2.2.2.2.1])), (10, .mem true 3 (some 1) (.flat [.ints v1.2.2.2.2.2.2.2.2.1 .i64 v1.2.2.2.2.2.2.2.2.2]))], 11⟩) (To.mk' [] 0 hε rfl zL zL) ?_
    replace hT := sIf hT; obtain ⟨⟨o1, o2⟩, hT⟩ := hT
    refine zReg md0 hX rfl rfl rfl ?_
    refine rThen (zA hX ?_)
    refine rRet ?_
    replace hT := sIf hT; obtain ⟨⟨p1, p2, p3⟩, hT⟩ := hT
    refine rFreezeQ 8 (.int .i64) v1.2.2.2.2.2.1 [(4, .v (.c (.ptr 2 0 0 0 0 0))), (5, .v (.c (.int .i64 0)))] [(2, .mem true 51 none (.flat [.cs [.int .i64 (v1.2.2.2.2.2.1.getD 0 0), .fz (.int .i64) v1.2.2.2.2.2.1, .sl 9 0 v1.2.2.1 1, .sl 10 0 v1.2.2.2.1 1]])), (9, .mem true 3 (some 1) (.flat [.ints v1.2.2.2.2.2.2.1 .i64 v1.2.2.2.2.2.2.2.1])), (10, .mem true 3 (some 1) (.flat [.ints v1.2.2.2.2.2.2.2.2.1 .i64 v1.2.2.2.2.2.2.2.2.2]))] rfl rfl zF zF ?_
    refine rFreezeQ 9 (.int .i64) v1.2.2.2.2.2.2.2.1 [(4, .v (.c (.ptr 2 0 0 0 0 0))), (5, .v (.c (.int .i64 0)))] [(2, .mem true 51 none (.flat [.cs [.int .i64 (v1.2.2.2.2.2.1.getD 0 0), .fz (.int .i64) v1.2.2.2.2.2.1, .fz (.int .i64) v1.2.2.2.2.2.2.2.1, .sl 10 0 v1.2.2.2.1 1]])), (10, .mem true 3 (some 1) (.flat [.ints v1.2.2.2.2.2.2.2.2.1 .i64 v1.2.2.2.2.2.2.2.2.2]))] rfl rfl zF zF ?_
    refine rFreezeQ 10 (.int .i64) v1.2.2.2.2.2.2.2.2.2 [(4, .v (.c (.ptr 2 0 0 0 0 0))), (5, .v (.c (.int .i64 0)))] [(2, .mem true 51 none (.flat [.cs [.int .i64 (v1.2.2.2.2.2.1.getD 0 0), .fz (.int .i64) v1.2.2.2.2.2.1, .fz (.int .i64) v1.2.2.2.2.2.2.2.1, .fz (.int .i64) v1.2.2.2.2.2.2.2.2.2]]))] rfl rfl zF zF ?_
    have hy := Option.some.inj hT; subst hy
    exact zEnd0 hX rfl
   refine rLoopM (chain_Of_v1_b1 N a7 c2 c3) (fun s2 => ⟨[(4, .v (.c (.ptr 2 0 0 0 0 0))), (5, .v (.c (.int .i64 0))), (6, .v (.c (.fz (.int .i64) s2.1))), (10, .v (.c (.ptr 4 0 0 0 0 0))), (11, .v (.c (.clo 58 [3, 1, 4]))), (34, .v (.c (.fz Zs1 a7))), (35, .v (.c (.int .i64 (a7.length : Int)))), (36, .v (.c (.int .i64 s2.2.1)))], [(1, .mem true 22 none (.flat [.cs [.fz (.int .i64) (c3.getD default)]])), (2, .mem true 51 none (.flat [.cs [.int .i64 0, .val (.slice none 0 0), .val (.slice none 0 0), .val (.slice none 0 0)]])), (3, .mem true 22 none (.flat [.cs [.fz (.int .i64) (c2.getD default).1]])), (4, .bun 51 (.flat [.cs [.int .i64 s2.2.2.1, .sl 1 0 s2.2.2.2.1 1, .sl 2 0 s2.2.2.2.2.1 1, .sl 3 0 s2.2.2.2.2.2.1 1]]) [(3, 1, .flat [.ints s2.2.2.2.2.2.2.1 .i64 s2.2.2.2.2.2.2.2.1]), (3, 1, .flat [.ints s2.2.2.2.2.2.2.2.2.1 .i64 s2.2.2.2.2.2.2.2.2.2.1]), (3, 1, .flat [.ints s2.2.2.2.2.2.2.2.2.2.2.1 .i64 s2.2.2.2.2.2.2.2.2.2.2.2])])], 8⟩) hl (To.mk' [] 0 hε rfl zL zL) (fun s2 zs2 NNs2 hz hnexts2 houts2 => ?_)
   clear hl hT
   have hT := hz; clear hz
   refine zA hX ?_
   refine rSeq ?_
   refine zCond rfl rfl (fun hc => ?_) (fun hc => ?_)
   ·
    replace hT := sT hc hT
    refine rSkip (rThen (rSeq (rBlock ?_)))
    replace hT := sIf hT; obtain ⟨⟨o1, o2⟩, hT⟩ := hT
    refine zA hX ?_
    refine zA hX ?_
    let c4 := (chain_Of_1 N s2.2.1 (s2.1.take ((a7.getD (s2.2.1).toNat Zd7).2.2.2.length : Int).toNat) (c2.getD default).1 (c3.getD default) s2.2.2.1 s2.2.2.2.1 s2.2.2.2.2.1 s2.2.2.2.2.2.1 s2.2.2.2.2.2.2.1 s2.2.2.2.2.2.2.2.1 s2.2.2.2.2.2.2.2.2.1 s2.2.2.2.2.2.2.2.2.2.1 s2.2.2.2.2.2.2.2.2.2.2.1 s2.2.2.2.2.2.2.2.2.2.2.2)
    replace hT := sIf hT; obtain ⟨⟨o1, o2, o3⟩, hT⟩ := hT
    refine zA hX ?_
    let x2 := (s2.1.drop ((a7.getD (s2.2.1).toNat Zd7).2.2.2.length : Int).toNat)
    replace hT := sIf hT; obtain ⟨⟨o1, o2⟩, hT⟩ := hT
    refine zReg md0 hX rfl rfl rfl ?_
    refine rInNormal (rThen ?_)
    replace hT := sIf hT; obtain ⟨o1, hT⟩ := hT
    refine zReg md0 hX rfl rfl rfl ?_
    exact hnexts2 _ (Option.some.inj hT).symm _ (To.mk' [] 0 hε rfl zL zL)
   ·
    replace hT := sF hc hT
    refine rExit (rThenExit (rThenExit ?_))
    exact zTo [] 0 hε (hxs20 _ (houts2 _ (Option.some.inj hT).symm))
 ·
  cases h
def ref01_Clip (N : Nat) (a1 : Int) (a2 : Int) (a3 : Int) : Option Int :=
 bif (bif (decide (a3 < a2)) then true else (decide (a1 < a2))) then
  some a2
 else
  bif (decide (a3 < a1)) then
   some a3
  else
   some a1
def sp_ref01_Clip (N : Nat) : X.Spec := fun args lk => match args with
 | [.v (.c (.int .i64 a1)), .v (.c (.int .i64 a2)), .v (.c (.int .i64 a3))] => some ⟨(ref01_Clip N a1 a2 a3).isSome = true, .v (.c (.int .i64 ((ref01_Clip N a1 a2 a3).getD default))), [], []⟩
 | _ => none
set_option maxRecDepth 100000 in
set_option maxHeartbeats 1000000 in
theorem ok_ref01_Clip (N : Nat) : FnOK Tryd.prog gt0 61 (sp_ref01_Clip N) := by
 refine fnOK_handed Tryd.func61 rfl (by kernel_rfl) tt_ok (ktNil) ?_
 intro args lk r h hp
 unfold sp_ref01_Clip at h
 split at h
 ·
  rename_i a1 a2 a3
  cases h
  obtain ⟨x, hx⟩ := Option.isSome_iff_exists.1 hp
  simp only [hx, Option.getD_some]
  refine hand0 rfl rfl (fun w0 M ε0 hX => ?_)
  refine rCount (fun hε => ?_)
  have hT : ref01_Clip N a1 a2 a3 = some x := hx; clear hx hp; unfold ref01_Clip at hT
  refine zA hX ?_
  refine rSeq (zA hX ?_)
  refine zCond rfl rfl (fun hc => ?_) (fun hc => ?_)
  ·
   replace hT := sT hc hT
   refine zA hX ?_
   refine rRet (rThenRet ?_)
   have hy := Option.some.inj hT; subst hy
   exact zEnd0 hX rfl
  ·
   replace hT := sF hc hT
   refine rSkip (rThen (rSeq (zA hX ?_)))
   refine zCond rfl rfl (fun hc => ?_) (fun hc => ?_)
   ·
    replace hT := sT hc hT
    refine zA hX ?_
    refine rRet (rThenRet ?_)
    have hy := Option.some.inj hT; subst hy
    exact zEnd0 hX rfl
   ·
    replace hT := sF hc hT
    refine rSkip (rThen (zA hX ?_))
    refine rRet ?_
    have hy := Option.some.inj hT; subst hy
    exact zEnd0 hX rfl
 ·
  cases h
def ref37_Floors_b2 (N : Nat) (a7 : Zt1) (s3 : Int) : Option (Int ⊕ (Int × Int × Bool × Bool × Bool)) :=
 let x3 := (bif (decide ((0 : Int) < s3)) then (!(a7.getD (s3).toNat Zd7).1) else false)
 if ((decide ((0 : Int) < s3)) = true → (0 : Int) ≤ s3) ∧ ((decide ((0 : Int) < s3)) = true → s3 < (a7.length : Int)) then
  bif x3 then
   if inK .i64 (s3 - 1) then
    some (.inl (s3 - 1))
   else none
  else
   some (.inr (s3, s3, (decide ((0 : Int) < s3)), (decide ((0 : Int) < s3)), x3))
 else none
def ref37_Floors_b1 (N : Nat) (a7 : Zt1) (a9 : (List Int)) (s2 : Zt16) : Option (Zt16 ⊕ Zt9) :=
 bif (decide (s2.2.1 < (a7.length : Int))) then
  (iter (ref37_Floors_b2 N a7) N s2.2.1).bind fun v2 =>
   let c1 := (ref01_Clip N (a9.getD (v2.1).toNat 0) 1 31)
   if ((decide (v2.1 < (a9.length : Int))) = true → (0 : Int) ≤ v2.1) ∧ ((decide (v2.1 < (a9.length : Int))) = true → v2.1 < (a9.length : Int)) ∧ ((decide (v2.1 < (a9.length : Int))) = true → c1.isSome = true) then
    let x2 : (List Int) := (s2.2.2.2 ++ (((List.replicate 1 0).set 0 (bif (decide (v2.1 < (a9.length : Int))) then (c1.getD default) else 1)).take 1))
    if 1 ≤ 1 ∧ s2.2.2.1 = s2.1 ∧ (s2.1 + 1) * 8 ≤ 140737488355328 ∧ s2.1 + 1 ≤ 9223372036854775807 then
     if inK .i64 (s2.2.1 + 1) then
      some (.inl ((s2.1 + 1), (s2.2.1 + 1), (s2.2.2.1 + 1), x2))
     else none
    else none
   else none
 else
  some (.inr (s2.1, s2.2.2.1, s2.2.2.2))
def ref37_Floors (N : Nat) (a1 : Int) (a2 : Int) (a3 : Int) (a4 : Bool) (a5 : Int) (a6 : (List Int)) (a7 : Zt1) (a8 : Int) (a9 : (List Int)) : Option (List Int) :=
 (iter (ref37_Floors_b1 N a7 a9) N (0, 0, 0, [])).bind fun v1 =>
  if v1.1 = v1.2.2.length then
   some v1.2.2
  else none
def sp_ref37_Floors (N : Nat) : X.Spec := fun args lk => match args with
 | [.v (.agg [.cs [.int .i64 a1, .int .i64 a2, .int .i64 a3, .bool a4, .int .i64 a5, .fz (.int .i64) a6, .fz (.pair .bool (.pair (.int .i64) (.pair (.int .i64) (.sl (.pair (.int .i64) (.pair .bool (.pair (.int .i64) (.pair (.int .i64) (.pair (.arr 2 .i64) (.pair (.arr 6 .i64) (.arrS 6 (.pair .bool (.pair (.int .i64) (.int .i64)))))))))))))) a7, .int .i64 a8]]), .v (.c (.fz (.int .i64) a9))] => some ⟨(ref37_Floors N a1 a2 a3 a4 a5 a6 a7 a8 a9).isSome = true, .v (.c (.fz (.int .i64) ((ref37_Floors N a1 a2 a3 a4 a5 a6 a7 a8 a9).getD default))), [], []⟩
 | _ => none
set_option maxRecDepth 100000 in
set_option maxHeartbeats 1000000 in
theorem ok_ref37_Floors (N : Nat) : FnOK Tryd.prog gt0 30 (sp_ref37_Floors N) := by
 refine fnOK_handed Tryd.func30 rfl (by kernel_rfl) tt_ok (ktCons (ok_ref01_Clip N) (ktNil)) ?_
 intro args lk r h hp
 unfold sp_ref37_Floors at h
 split at h
 ·
  rename_i a1 a2 a3 a4 a5 a6 a7 a8 a9
  change (List Int) at a6
  change Zt1 at a7
  change (List Int) at a9
  cases h
  obtain ⟨x, hx⟩ := Option.isSome_iff_exists.1 hp
  simp only [hx, Option.getD_some]
  refine hand0 rfl rfl (fun w0 M ε0 hX => ?_)
  refine rCount (fun hε => ?_)
  have hT : ref37_Floors N a1 a2 a3 a4 a5 a6 a7 a8 a9 = some x := hx; clear hx hp; unfold ref37_Floors at hT
  refine zA hX ?_
  refine zA hX ?_
  refine rSeq (zA hX ?_)
  refine rBlock (rNil 3 1 (.flat [.ints 0 .i64 []]) [(1, .v (.c (.fz (.int .i64) a9))), (2, .v (.c (.ptr 0 0 0 0 0 0))), (4, .v (.c (.val (.slice none 0 0)))), (5, .v (.c (.sl 1 0 0 1))), (6, .v (.c (.int .i64 0)))] [(0, .mem true 25 none (.flat [.cs [.int .i64 a1, .int .i64 a2, .int .i64 a3, .bool a4, .int .i64 a5, .fz (.int .i64) a6, .fz Zs1 a7, .int .i64 a8]]))] (nil_ints _) zF zF ?_)
  replace hT := sBind hT; obtain ⟨w1, hl, hT⟩ := hT
  refine rJoinA (fun v1 => v1 = w1) (fun v1 => ⟨[(4, .v (.c (.val (.slice none 0 0)))), (5, .v (.c (.sl 1 0 v1.1 1)))], [(1, .mem true 3 (some 1) (.flat [.ints v1.2.1 .i64 v1.2.2]))], 2⟩) (.exit 0) (fun v1 hv => ?_) (fun hxs20 => ?_)
  ·
   subst hv; clear hl
   refine rInHit (rThen (zA hX ?_))
   refine rRet ?_
   replace hT := sIf hT; obtain ⟨p1, hT⟩ := hT
   refine rFreezeQ 1 (.int .i64) v1.2.2 [(4, .v (.c (.fz (.int .i64) v1.2.2)))] [] rfl rfl zF zF ?_
   have hy := Option.some.inj hT; subst hy
   exact zEnd0 hX rfl
  refine rLoopM (ref37_Floors_b1 N a7 a9) (fun s2 => ⟨[(1, .v (.c (.fz (.int .i64) a9))), (2, .v (.c (.ptr 0 0 0 0 0 0))), (4, .v (.c (.val (.slice none 0 0)))), (5, .v (.c (.sl 1 0 s2.1 1))), (6, .v (.c (.int .i64 s2.2.1)))], [(0, .mem true 25 none (.flat [.cs [.int .i64 a1, .int .i64 a2, .int .i64 a3, .bool a4, .int .i64 a5, .fz (.int .i64) a6, .fz Zs1 a7, .int .i64 a8]])), (1, .mem true 3 (some 1) (.flat [.ints s2.2.2.1 .i64 s2.2.2.2]))], 2⟩) hl (To.mk' [] 0 hε rfl zL zL) (fun s2 zs2 NNs2 hz hnexts2 houts2 => ?_)
  clear hl hT
  have hT := hz; clear hz
  refine rSeq (zA hX ?_)
  refine zCond rfl rfl (fun hc => ?_) (fun hc => ?_)
  ·
   replace hT := sT hc hT
   refine rSkip (rThen (rSeq (rBlock (zA hX ?_))))
   refine rSeq (rBlock ?_)
   replace hT := sBind hT; obtain ⟨w2, hl, hT⟩ := hT
   refine rJoinA (fun v2 => v2 = w2) (fun v2 => ⟨[(1, .v (.c (.fz (.int .i64) a9))), (2, .v (.c (.ptr 0 0 0 0 0 0))), (4, .v (.c (.val (.slice none 0 0)))), (5, .v (.c (.sl 1 0 s2.1 1))), (6, .v (.c (.int .i64 s2.2.1))), (7, .v (.c (.int .i64 v2.1))), (9, .v (.c (.int .i64 s2.2.1))), (10, .v (.c (.ptr 0 0 0 6 0 0))), (11, .v (.c (.fz Zs1 a7))), (12, .v (.c (.int .i64 (a7.length : Int)))), (13, .v (.c (.bool (decide (s2.2.1 < (a7.length : Int)))))), (16, .v (.c (.int .i64 s2.2.1))), (17, .v (.c (.int .i64 v2.2.1))), (18, .v (.c (.bool v2.2.2.1))), (19, .v (.c (.bool v2.2.2.2.1))), (27, .v (.c (.bool v2.2.2.2.2)))], [(0, .mem true 25 none (.flat [.cs [.int .i64 a1, .int .i64 a2, .int .i64 a3, .bool a4, .int .i64 a5, .fz (.int .i64) a6, .fz Zs1 a7, .int .i64 a8]])), (1, .mem true 3 (some 1) (.flat [.ints s2.2.2.1 .i64 s2.2.2.2]))], 2⟩) (.exit 2) (fun v2 hv => ?_) (fun hxs30 => ?_)
   ·
    subst hv; clear hl
    refine rInHit (rThen (zA hX ?_))
    refine rSeq (zA hX ?_)
    let c1 := (ref01_Clip N (a9.getD (v2.1).toNat 0) 1 31)
    replace hT := sIf hT; obtain ⟨⟨q1, q2, q3⟩, hT⟩ := hT
    refine rJoin ⟨[(1, .v (.c (.fz (.int .i64) a9))), (2, .v (.c (.ptr 0 0 0 0 0 0))), (4, .v (.c (.val (.slice none 0 0)))), (5, .v (.c (.sl 1 0 s2.1 1))), (6, .v (.c (.int .i64 s2.2.1))), (7, .v (.c (.int .i64 v2.1))), (8, .v (.c (.int .i64 (bif (decide (v2.1 < (a9.length : Int))) then (c1.getD default) else 1)))), (9, .v (.c (.int .i64 s2.2.1))), (10, .v (.c (.ptr 0 0 0 6 0 0))), (11, .v (.c (.fz Zs1 a7))), (12, .v (.c (.int .i64 (a7.length : Int)))), (13, .v (.c (.bool (decide (s2.2.1 < (a7.length : Int)))))), (16, .v (.c (.int .i64 s2.2.1))), (17, .v (.c (.int .i64 v2.2.1))), (18, .v (.c (.bool v2.2.2.1))), (19, .v (.c (.bool v2.2.2.2.1))), (27, .v (.c (.bool v2.2.2.2.2))), (30, .v (.c (.int .i64 v2.1))), (31, .v (.c (.fz (.int .i64) a9))), (32, .v (.c (.int .i64 (a9.length : Int)))), (33, .v (.c (.bool (decide (v2.1 < (a9.length : Int))))))], [(0, .mem true 25 none (.flat [.cs [.int .i64 a1, .int .i64 a2, .int .i64 a3, .bool a4, .int .i64 a5, .fz (.int .i64) a6, .fz Zs1 a7, .int .i64 a8]])), (1, .mem true 3 (some 1) (.flat [.ints s2.2.2.1 .i64 s2.2.2.2]))], 2⟩ ?_ (fun hj => ?_)
    ·
     refine rThen ?_
     let x2 : (List Int) := (s2.2.2.2 ++ (((List.replicate 1 0).set 0 (bif (decide (v2.1 < (a9.length : Int))) then (c1.getD default) else 1)).take 1))
     replace hT := sIf hT; obtain ⟨⟨o1, o2, o3, o4⟩, hT⟩ := hT
     refine zReg md0 hX rfl rfl rfl ?_
     refine rInNormal (rThen ?_)
     replace hT := sIf hT; obtain ⟨o1, hT⟩ := hT
     refine zReg md0 hX rfl rfl rfl ?_
     exact hnexts2 _ (Option.some.inj hT).symm _ (To.mk' [0, 3] 0 hε rfl zL zL)
    ·
     clear hT
     refine zCond rfl rfl (fun hc => ?_) (fun hc => ?_)
     ·
      have q1 := q1 hc
      have q2 := q2 hc
      have q3 := q3 hc
      refine zReg md0 hX rfl rfl rfl ?_
      exact rTo (To.mk' [] 0 hε rfl zJ zJ) hj
     ·
      refine rSkip ?_
      exact rTo (To.mk' [] 0 hε rfl zJ zJ) hj
   refine rLoopM (ref37_Floors_b2 N a7) (fun s3 => ⟨[(1, .v (.c (.fz (.int .i64) a9))), (2, .v (.c (.ptr 0 0 0 0 0 0))), (4, .v (.c (.val (.slice none 0 0)))), (5, .v (.c (.sl 1 0 s2.1 1))), (6, .v (.c (.int .i64 s2.2.1))), (7, .v (.c (.int .i64 s3))), (9, .v (.c (.int .i64 s2.2.1))), (10, .v (.c (.ptr 0 0 0 6 0 0))), (11, .v (.c (.fz Zs1 a7))), (12, .v (.c (.int .i64 (a7.length : Int)))), (13, .v (.c (.bool (decide (s2.2.1 < (a7.length : Int)))))), (16, .v (.c (.int .i64 s2.2.1)))], [(0, .mem true 25 none (.flat [.cs [.int .i64 a1, .int .i64 a2, .int .i64 a3, .bool a4, .int .i64 a5, .fz (.int .i64) a6, .fz Zs1 a7, .int .i64 a8]])), (1, .mem true 3 (some 1) (.flat [.ints s2.2.2.1 .i64 s2.2.2.2]))], 2⟩) hl (To.mk' [] 0 hε rfl zL zL) (fun s3 zs3 NNs3 hz hnexts3 houts3 => ?_)
   clear hl hT
   have hT := hz; clear hz
   refine rSeq ?_
   let x3 := (bif (decide ((0 : Int) < s3)) then (!(a7.getD (s3).toNat Zd7).1) else false)
   replace hT := sIf hT; obtain ⟨⟨o1, o2⟩, hT⟩ := hT
   refine rSeq (rRegC md0 hX rfl rfl rfl zO ?_)
   refine rThen ?_
   refine zCond rfl rfl (fun hc => ?_) (fun hc => ?_)
   ·
    replace hT := sT hc hT
    refine rSkip (rThen (rBlock ?_))
    replace hT := sIf hT; obtain ⟨o1, hT⟩ := hT
    refine zReg md0 hX rfl rfl rfl ?_
    refine rInNormal ?_
    exact hnexts3 _ (Option.some.inj hT).symm _ (To.mk' [] 0 hε rfl zL zL)
   ·
    replace hT := sF hc hT
    refine rExit (rThenExit (rThenExit ?_))
    exact zTo [] 0 hε (hxs30 _ (houts3 _ (Option.some.inj hT).symm))
  ·
   replace hT := sF hc hT
   refine rExit (rThenExit (rThenExit ?_))
   exact zTo [] 0 hε (hxs20 _ (houts2 _ (Option.some.inj hT).symm))
 ·
  cases h
def ref30_Same_v2_b1 (N : Nat) (a1 : (List Int)) (a2 : (List Int)) (s1 : Int) : Option (Int ⊕ (Unit ⊕ Unit)) :=
 bif (decide (s1 < (a1.length : Int))) then
  if (0 : Int) ≤ s1 ∧ s1 < (a1.length : Int) ∧ s1 < (a2.length : Int) then
   bif (decide ((a1.getD (s1).toNat 0) ≠ (a2.getD (s1).toNat 0))) then
    some (.inr (Sum.inl ()))
   else
    if inK .i64 (s1 + 1) then
     some (.inl (s1 + 1))
    else none
  else none
 else
  some (.inr (Sum.inr ()))
def ref30_Same_v2 (N : Nat) (a1 : (List Int)) (a2 : (List Int)) : Option Bool :=
 bif (decide ((a1.length : Int) ≠ (a2.length : Int))) then
  some false
 else
  (iter (ref30_Same_v2_b1 N a1 a2) N 0).bind fun w1 =>
   (Sum.elim (fun v1 =>
    some false
   )
    (fun v2 =>
     some true
    )
   ) w1
def sp_ref30_Same_v2 (N : Nat) : X.Spec := fun args lk => match args with
 | [.v (.c (.fz (.int .i64) a1)), .v (.c (.fz (.int .i64) a2))] => some ⟨(ref30_Same_v2 N a1 a2).isSome = true, .v (.c (.bool ((ref30_Same_v2 N a1 a2).getD default))), [], []⟩
 | _ => none
set_option maxRecDepth 100000 in
set_option maxHeartbeats 1000000 in
theorem ok_ref30_Same_v2 (N : Nat) : FnOK Tryd.prog gt0 24 (sp_ref30_Same_v2 N) := by
 refine fnOK_handed Tryd.func24 rfl (by kernel_rfl) tt_ok (ktNil) ?_
 intro args lk r h hp
 unfold sp_ref30_Same_v2 at h
 split at h
 ·
  rename_i a1 a2
  change (List Int) at a1
  change (List Int) at a2
  cases h
  obtain ⟨x, hx⟩ := Option.isSome_iff_exists.1 hp
  simp only [hx, Option.getD_some]
  refine hand0 rfl rfl (fun w0 M ε0 hX => ?_)
  refine rCount (fun hε => ?_)
  have hT : ref30_Same_v2 N a1 a2 = some x := hx; clear hx hp; unfold ref30_Same_v2 at hT
  refine zA hX ?_
  refine rSeq (zA hX ?_)
  refine zCond rfl rfl (fun hc => ?_) (fun hc => ?_)
  ·
   replace hT := sT hc hT
   refine zA hX ?_
   refine rRet (rThenRet ?_)
   have hy := Option.some.inj hT; subst hy
   exact zEnd0 hX rfl
  ·
   replace hT := sF hc hT
   refine rSkip (rThen (rSeq (zA hX ?_)))
   refine rBlock ?_
   replace hT := sBind hT; obtain ⟨w1, hl, hT⟩ := hT
   refine rJoinA (fun v1 => (Sum.inl v1) = w1) (fun v1 => ⟨[(4, .v (.c (.bool false)))], [], 0⟩) .ret (fun v1 hv => ?_) (fun hxs10 => ?_)
   ·
    subst hv; clear hl; replace hT := (sElimL hT)
    refine rInRet (rThenRet ?_)
    have hy := Option.some.inj hT; subst hy
    exact zEnd0 hX rfl
   refine rJoinA (fun v2 => (Sum.inr v2) = w1) (fun v2 => ⟨[(4, .v (.c (.bool false)))], [], 0⟩) (.exit 0) (fun v2 hv => ?_) (fun hxs11 => ?_)
   ·
    subst hv; clear hl; replace hT := (sElimR hT)
    refine rInHit (rThen (zA hX ?_))
    refine rRet ?_
    have hy := Option.some.inj hT; subst hy
    exact zEnd0 hX rfl
   refine rLoopM (ref30_Same_v2_b1 N a1 a2) (fun s1 => ⟨[(0, .v (.c (.fz (.int .i64) a1))), (1, .v (.c (.fz (.int .i64) a2))), (4, .v (.c (.bool false))), (5, .v (.c (.int .i64 s1)))], [], 0⟩) hl (To.mk' [] 0 hε rfl zL zL) (fun s1 zs1 NNs1 hz hnexts1 houts1 => ?_)
   clear hl hT
   have hT := hz; clear hz
   refine rSeq (zA hX ?_)
   refine zCond rfl rfl (fun hc => ?_) (fun hc => ?_)
   ·
    replace hT := sT hc hT
    refine rSkip (rThen (rSeq (rBlock ?_)))
    replace hT := sIf hT; obtain ⟨⟨o1, o2, o3⟩, hT⟩ := hT
    refine rSeq (zDraw md0 0 [] hX mixed rfl rfl rfl rfl rfl ?_)
    refine rThen ?_
    refine zCond rfl rfl (fun hc => ?_) (fun hc => ?_)
    ·
     replace hT := sT hc hT
     refine zA hX ?_
     refine rRet (rInRet (rThenRet (rThenRet ?_)))
     exact zTo [] 0 hε (hxs10 _ (houts1 _ (Option.some.inj hT).symm))
    ·
     replace hT := sF hc hT
     refine rSkip (rInNormal (rThen ?_))
     replace hT := sIf hT; obtain ⟨o1, hT⟩ := hT
     refine zReg md0 hX rfl rfl rfl ?_
     exact hnexts1 _ (Option.some.inj hT).symm _ (To.mk' [] 0 hε rfl zL zL)
   ·
    replace hT := sF hc hT
    refine rExit (rThenExit (rThenExit ?_))
    exact zTo [] 0 hε (hxs11 _ (houts1 _ (Option.some.inj hT).symm))
 ·
  cases h
def ref16_Size (N : Nat) (a1 : Int) : Option (List Int) :=
 let x1 := [(List.replicate 4 0), (((((List.replicate 4 0).set 0 128).set 1 96).set 2 6).set 3 1), (((((List.replicate 4 0).set 0 176).set 1 144).set 2 9).set 3 1), (((((List.replicate 4 0).set 0 352).set 1 288).set 2 18).set 3 1), (((((List.replicate 4 0).set 0 704).set 1 576).set 2 18).set 3 2), (((((List.replicate 4 0).set 0 1408).set 1 1152).set 2 18).set 3 4), (((((List.replicate 4 0).set 0 32).set 1 32).set 2 2).set 3 1)]
 bif (bif (decide (a1 < 0)) then true else (decide ((7 : Int) ≤ a1))) then
  some (List.replicate 4 0)
 else
  if (0 : Int) ≤ a1 ∧ a1 < 7 ∧ (a1).toNat < x1.length then
   some (x1.getD (a1).toNat (List.replicate 4 (0 : Int)))
  else none
def sp_ref16_Size (N : Nat) : X.Spec := fun args lk => match args with
 | [.v (.c (.int .i64 a1))] => some ⟨(ref16_Size N a1).isSome = true, .v (.agg [.ints 4 .i64 ((ref16_Size N a1).getD default)]), [], []⟩
 | _ => none
set_option maxRecDepth 100000 in
set_option maxHeartbeats 1000000 in
theorem ok_ref16_Size (N : Nat) : FnOK Tryd.prog gt0 41 (sp_ref16_Size N) := by
 refine fnOK_handed Tryd.func41 rfl (by kernel_rfl) tt_ok (ktNil) ?_
 intro args lk r h hp
 unfold sp_ref16_Size at h
 split at h
 ·
  rename_i a1
  cases h
  obtain ⟨x, hx⟩ := Option.isSome_iff_exists.1 hp
  simp only [hx, Option.getD_some]
  refine hand0 rfl rfl (fun w0 M ε0 hX => ?_)
  refine rCount (fun hε => ?_)
  have hT : ref16_Size N a1 = some x := hx; clear hx hp; unfold ref16_Size at hT
  refine zA hX ?_
  refine rSeq (zReg md0 hX rfl rfl rfl ?_)
  refine rLstQ 1 (.arr 4 .i64) [(List.replicate 4 0), (((((List.replicate 4 0).set 0 128).set 1 96).set 2 6).set 3 1), (((((List.replicate 4 0).set 0 176).set 1 144).set 2 9).set 3 1), (((((List.replicate 4 0).set 0 352).set 1 288).set 2 18).set 3 1), (((((List.replicate 4 0).set 0 704).set 1 576).set 2 18).set 3 2), (((((List.replicate 4 0).set 0 1408).set 1 1152).set 2 18).set 3 4), (((((List.replicate 4 0).set 0 32).set 1 32).set 2 2).set 3 1)] rfl rfl rfl ?_
  refine rThen (rSeq ?_)
  let x1 := [(List.replicate 4 0), (((((List.replicate 4 0).set 0 128).set 1 96).set 2 6).set 3 1), (((((List.replicate 4 0).set 0 176).set 1 144).set 2 9).set 3 1), (((((List.replicate 4 0).set 0 352).set 1 288).set 2 18).set 3 1), (((((List.replicate 4 0).set 0 704).set 1 576).set 2 18).set 3 2), (((((List.replicate 4 0).set 0 1408).set 1 1152).set 2 18).set 3 4), (((((List.replicate 4 0).set 0 32).set 1 32).set 2 2).set 3 1)]
  refine zA hX ?_
  refine zCond rfl rfl (fun hc => ?_) (fun hc => ?_)
  ·
   replace hT := sT hc hT
   refine zA hX ?_
   refine rRet (rThenRet ?_)
   have hy := Option.some.inj hT; subst hy
   exact zEnd0 hX rfl
  ·
   replace hT := sF hc hT
   refine rSkip (rThen ?_)
   replace hT := sIf hT; obtain ⟨⟨o1, o2, o3⟩, hT⟩ := hT
   refine zA hX ?_
   refine rRet ?_
   have hy := Option.some.inj hT; subst hy
   exact zEnd0 hX rfl
 ·
  cases h
def ref16_Many (N : Nat) (a1 : Int) : Option Int :=
 let c1 := (ref16_Size N a1)
 let c2 := (ref16_Size N a1)
 if c1.isSome = true ∧ (0 : Int) ≤ ((c1.getD default).getD 0 0) ∧ c2.isSome = true ∧ (0 : Int) ≤ ((c2.getD default).getD 1 0) ∧ inK .i64 ((((c1.getD default).getD 0 0) / 16) * (((c2.getD default).getD 1 0) / 16)) then
  some ((((c1.getD default).getD 0 0) / 16) * (((c2.getD default).getD 1 0) / 16))
 else none
def sp_ref16_Many (N : Nat) : X.Spec := fun args lk => match args with
 | [.v (.c (.int .i64 a1))] => some ⟨(ref16_Many N a1).isSome = true, .v (.c (.int .i64 ((ref16_Many N a1).getD default))), [], []⟩
 | _ => none
set_option maxRecDepth 100000 in
set_option maxHeartbeats 1000000 in
theorem ok_ref16_Many (N : Nat) : FnOK Tryd.prog gt0 16 (sp_ref16_Many N) := by
 refine fnOK_handed Tryd.func16 rfl (by kernel_rfl) tt_ok (ktCons (ok_ref16_Size N) (ktNil)) ?_
 intro args lk r h hp
 unfold sp_ref16_Many at h
 split at h
 ·
  rename_i a1
  cases h
  obtain ⟨x, hx⟩ := Option.isSome_iff_exists.1 hp
  simp only [hx, Option.getD_some]
  refine hand0 rfl rfl (fun w0 M ε0 hX => ?_)
  refine rCount (fun hε => ?_)
  have hT : ref16_Many N a1 = some x := hx; clear hx hp; unfold ref16_Many at hT
  refine zA hX ?_
  let c1 := (ref16_Size N a1)
  let c2 := (ref16_Size N a1)
  replace hT := sIf hT; obtain ⟨⟨o1, o2, o3, o4, o5⟩, hT⟩ := hT
  refine zA hX ?_
  refine rRet ?_
  have hy := Option.some.inj hT; subst hy
  exact zEnd0 hX rfl
 ·
  cases h
def ref24_Right_b1 (N : Nat) (a6 : (List Int)) (s1 : Int) : Option (Int ⊕ (Unit ⊕ Unit)) :=
 bif (decide (s1 < (a6.length : Int))) then
  let x12 := (bif (decide ((a6.getD (s1).toNat 0) < 0)) then true else (decide ((255 : Int) < (a6.getD (s1).toNat 0))))
  if (0 : Int) ≤ s1 ∧ s1 < (a6.length : Int) ∧ ((!(decide ((a6.getD (s1).toNat 0) < 0))) = true → (0 : Int) ≤ s1) ∧ ((!(decide ((a6.getD (s1).toNat 0) < 0))) = true → s1 < (a6.length : Int)) then
   bif x12 then
    some (.inr (Sum.inl ()))
   else
    if inK .i64 (s1 + 1) then
     some (.inl (s1 + 1))
    else none
  else none
 else
  some (.inr (Sum.inr ()))
def ref24_Right (N : Nat) (a1 : Int) (a2 : Int) (a3 : Int) (a4 : Bool) (a5 : Int) (a6 : (List Int)) (a7 : Zt1) (a8 : Int) : Option Bool :=
 let c1 := (ref16_Many N a3)
 let x11 := (bif (bif (bif (bif (bif (bif (bif (decide (a1 < 0)) then true else (decide ((255 : Int) < a1))) then true else (decide (a2 < 0))) then true else (decide ((7 : Int) < a2))) then true else (decide ((c1.getD default) = 0))) then true else (decide (a5 < 1))) then true else (decide ((31 : Int) < a5))) then true else (decide ((8 : Int) < (a6.length : Int))))
 if ((!(bif (bif (bif (decide (a1 < 0)) then true else (decide ((255 : Int) < a1))) then true else (decide (a2 < 0))) then true else (decide ((7 : Int) < a2)))) = true → c1.isSome = true) then
  bif x11 then
   some false
  else
   (iter (ref24_Right_b1 N a6) N 0).bind fun w1 =>
    (Sum.elim (fun v1 =>
     some false
    )
     (fun v2 =>
      some true
     )
    ) w1
 else none
def sp_ref24_Right (N : Nat) : X.Spec := fun args lk => match args with
 | [.v (.agg [.cs [.int .i64 a1, .int .i64 a2, .int .i64 a3, .bool a4, .int .i64 a5, .fz (.int .i64) a6, .fz (.pair .bool (.pair (.int .i64) (.pair (.int .i64) (.sl (.pair (.int .i64) (.pair .bool (.pair (.int .i64) (.pair (.int .i64) (.pair (.arr 2 .i64) (.pair (.arr 6 .i64) (.arrS 6 (.pair .bool (.pair (.int .i64) (.int .i64)))))))))))))) a7, .int .i64 a8]])] => some ⟨(ref24_Right N a1 a2 a3 a4 a5 a6 a7 a8).isSome = true, .v (.c (.bool ((ref24_Right N a1 a2 a3 a4 a5 a6 a7 a8).getD default))), [], []⟩
 | _ => none
set_option maxRecDepth 100000 in
set_option maxHeartbeats 1000000 in
theorem ok_ref24_Right (N : Nat) : FnOK Tryd.prog gt0 40 (sp_ref24_Right N) := by
 refine fnOK_handed Tryd.func40 rfl (by kernel_rfl) tt_ok (ktCons (ok_ref16_Many N) (ktNil)) ?_
 intro args lk r h hp
 unfold sp_ref24_Right at h
 split at h
 ·
  rename_i a1 a2 a3 a4 a5 a6 a7 a8
  change (List Int) at a6
  change Zt1 at a7
  cases h
  obtain ⟨x, hx⟩ := Option.isSome_iff_exists.1 hp
  simp only [hx, Option.getD_some]
  refine hand0 rfl rfl (fun w0 M ε0 hX => ?_)
  refine rCount (fun hε => ?_)
  have hT : ref24_Right N a1 a2 a3 a4 a5 a6 a7 a8 = some x := hx; clear hx hp; unfold ref24_Right at hT
  refine zA hX ?_
  refine rSeq ?_
  let c1 := (ref16_Many N a3)
  let x11 := (bif (bif (bif (bif (bif (bif (bif (decide (a1 < 0)) then true else (decide ((255 : Int) < a1))) then true else (decide (a2 < 0))) then true else (decide ((7 : Int) < a2))) then true else (decide ((c1.getD default) = 0))) then true else (decide (a5 < 1))) then true else (decide ((31 : Int) < a5))) then true else (decide ((8 : Int) < (a6.length : Int))))
  replace hT := sIf hT; obtain ⟨o1, hT⟩ := hT
  refine rSeq (rRegC md0 hX rfl rfl rfl zO ?_)
  refine rThen ?_
  refine zCond rfl rfl (fun hc => ?_) (fun hc => ?_)
  ·
   replace hT := sT hc hT
   refine zA hX ?_
   refine rRet (rThenRet ?_)
   have hy := Option.some.inj hT; subst hy
   exact zEnd0 hX rfl
  ·
   replace hT := sF hc hT
   refine rSkip (rThen (rSeq (zA hX ?_)))
   refine rBlock ?_
   replace hT := sBind hT; obtain ⟨w1, hl, hT⟩ := hT
   refine rJoinA (fun v1 => (Sum.inl v1) = w1) (fun v1 => ⟨[(2, .v (.c (.bool false)))], [], 1⟩) .ret (fun v1 hv => ?_) (fun hxs10 => ?_)
   ·
    subst hv; clear hl; replace hT := (sElimL hT)
    refine rInRet (rThenRet ?_)
    have hy := Option.some.inj hT; subst hy
    exact zEnd0 hX rfl
   refine rJoinA (fun v2 => (Sum.inr v2) = w1) (fun v2 => ⟨[(2, .v (.c (.bool false)))], [], 1⟩) (.exit 0) (fun v2 hv => ?_) (fun hxs11 => ?_)
   ·
    subst hv; clear hl; replace hT := (sElimR hT)
    refine rInHit (rThen (zA hX ?_))
    refine rRet ?_
    have hy := Option.some.inj hT; subst hy
    exact zEnd0 hX rfl
   refine rLoopM (ref24_Right_b1 N a6) (fun s1 => ⟨[(1, .v (.c (.ptr 0 0 0 0 0 0))), (2, .v (.c (.bool false))), (3, .v (.c (.int .i64 s1)))], [(0, .mem true 25 none (.flat [.cs [.int .i64 a1, .int .i64 a2, .int .i64 a3, .bool a4, .int .i64 a5, .fz (.int .i64) a6, .fz Zs1 a7, .int .i64 a8]]))], 1⟩) hl (To.mk' [] 0 hε rfl zL zL) (fun s1 zs1 NNs1 hz hnexts1 houts1 => ?_)
   clear hl hT
   have hT := hz; clear hz
   refine rSeq (zA hX ?_)
   refine zCond rfl rfl (fun hc => ?_) (fun hc => ?_)
   ·
    replace hT := sT hc hT
    refine rSkip (rThen (rSeq (rBlock ?_)))
    let x12 := (bif (decide ((a6.getD (s1).toNat 0) < 0)) then true else (decide ((255 : Int) < (a6.getD (s1).toNat 0))))
    replace hT := sIf hT; obtain ⟨⟨o1, o2, o3, o4⟩, hT⟩ := hT
    refine rSeq (rRegC md0 hX rfl rfl rfl zO ?_)
    refine rThen ?_
    refine zCond rfl rfl (fun hc => ?_) (fun hc => ?_)
    ·
     replace hT := sT hc hT
     refine zA hX ?_
     refine rRet (rInRet (rThenRet (rThenRet ?_)))
     exact zTo [] 0 hε (hxs10 _ (houts1 _ (Option.some.inj hT).symm))
    ·
     replace hT := sF hc hT
     refine rSkip (rInNormal (rThen ?_))
     replace hT := sIf hT; obtain ⟨o1, hT⟩ := hT
     refine zReg md0 hX rfl rfl rfl ?_
     exact hnexts1 _ (Option.some.inj hT).symm _ (To.mk' [] 0 hε rfl zL zL)
   ·
    replace hT := sF hc hT
    refine rExit (rThenExit (rThenExit ?_))
    exact zTo [] 0 hε (hxs11 _ (houts1 _ (Option.some.inj hT).symm))
 ·
  cases h
def ref16_Across (N : Nat) (a1 : Int) : Option Int :=
 let c1 := (ref16_Size N a1)
 if c1.isSome = true ∧ (0 : Int) ≤ ((c1.getD default).getD 0 0) then
  some (((c1.getD default).getD 0 0) / 16)
 else none
def sp_ref16_Across (N : Nat) : X.Spec := fun args lk => match args with
 | [.v (.c (.int .i64 a1))] => some ⟨(ref16_Across N a1).isSome = true, .v (.c (.int .i64 ((ref16_Across N a1).getD default))), [], []⟩
 | _ => none
set_option maxRecDepth 100000 in
set_option maxHeartbeats 1000000 in
theorem ok_ref16_Across (N : Nat) : FnOK Tryd.prog gt0 71 (sp_ref16_Across N) := by
 refine fnOK_handed Tryd.func71 rfl (by kernel_rfl) tt_ok (ktCons (ok_ref16_Size N) (ktNil)) ?_
 intro args lk r h hp
 unfold sp_ref16_Across at h
 split at h
 ·
  rename_i a1
  cases h
  obtain ⟨x, hx⟩ := Option.isSome_iff_exists.1 hp
  simp only [hx, Option.getD_some]
  refine hand0 rfl rfl (fun w0 M ε0 hX => ?_)
  refine rCount (fun hε => ?_)
  have hT : ref16_Across N a1 = some x := hx; clear hx hp; unfold ref16_Across at hT
  refine zA hX ?_
  let c1 := (ref16_Size N a1)
  replace hT := sIf hT; obtain ⟨⟨o1, o2⟩, hT⟩ := hT
  refine zA hX ?_
  refine rRet ?_
  have hy := Option.some.inj hT; subst hy
  exact zEnd0 hX rfl
 ·
  cases h
def ref22_zero_b1 (N : Nat) (a6 : (List Int)) (a7 : Zt5) (s1 : Int) : Option (Int ⊕ (Unit ⊕ Unit)) :=
 bif (decide (s1 < 6)) then
  let x3 := (bif (decide ((0 : Int) < ((a7.getD (s1).toNat []).length : Int))) then true else (decide ((a6.getD (s1).toNat 0) ≠ 0)))
  if (0 : Int) ≤ s1 ∧ s1 < 6 ∧ (s1).toNat < 6 ∧ ((!(decide ((0 : Int) < ((a7.getD (s1).toNat []).length : Int)))) = true → (0 : Int) ≤ s1) ∧ ((!(decide ((0 : Int) < ((a7.getD (s1).toNat []).length : Int)))) = true → s1 < 6) ∧ ((!(decide ((0 : Int) < ((a7.getD (s1).toNat []).length : Int)))) = true → (s1).toNat < 6) then
   bif x3 then
    some (.inr (Sum.inl ()))
   else
    if inK .i64 (s1 + 1) then
     some (.inl (s1 + 1))
    else none
  else none
 else
  some (.inr (Sum.inr ()))
def ref22_zero (N : Nat) (a1 : Int) (a2 : Bool) (a3 : Int) (a4 : Int) (a5 : (List Int)) (a6 : (List Int)) (a7 : Zt5) : Option Bool :=
 (iter (ref22_zero_b1 N a6 a7) N 0).bind fun w1 =>
  (Sum.elim (fun v1 =>
   some false
  )
   (fun v2 =>
    let x1 := (bif (bif (bif (decide (a3 = 0)) then (decide (a4 = 0)) else false) then (decide ((a5.getD 0 0) = 0)) else false) then (decide ((a5.getD 1 0) = 0)) else false)
    some x1
   )
  ) w1
def sp_ref22_zero (N : Nat) : X.Spec := fun args lk => match args with
 | [.v (.agg [.cs [.int .i64 a1, .bool a2, .int .i64 a3, .int .i64 a4], .ints 2 .i64 a5, .ints 6 .i64 a6, .fzs 6 (.pair .bool (.pair (.int .i64) (.int .i64))) a7])] => some ⟨(ref22_zero N a1 a2 a3 a4 a5 a6 a7).isSome = true, .v (.c (.bool ((ref22_zero N a1 a2 a3 a4 a5 a6 a7).getD default))), [], []⟩
 | _ => none
set_option maxRecDepth 100000 in
set_option maxHeartbeats 1000000 in
theorem ok_ref22_zero (N : Nat) : FnOK Tryd.prog gt0 85 (sp_ref22_zero N) := by
 refine fnOK_handed Tryd.func85 rfl (by kernel_rfl) tt_ok (ktNil) ?_
 intro args lk r h hp
 unfold sp_ref22_zero at h
 split at h
 ·
  rename_i a1 a2 a3 a4 a5 a6 a7
  change (List Int) at a5
  change (List Int) at a6
  change Zt5 at a7
  cases h
  obtain ⟨x, hx⟩ := Option.isSome_iff_exists.1 hp
  simp only [hx, Option.getD_some]
  refine hand0 rfl rfl (fun w0 M ε0 hX => ?_)
  refine rCount (fun hε => ?_)
  have hT : ref22_zero N a1 a2 a3 a4 a5 a6 a7 = some x := hx; clear hx hp; unfold ref22_zero at hT
  refine zA hX ?_
  refine rSeq (zA hX ?_)
  refine rBlock ?_
  replace hT := sBind hT; obtain ⟨w1, hl, hT⟩ := hT
  refine rJoinA (fun v1 => (Sum.inl v1) = w1) (fun v1 => ⟨[(2, .v (.c (.bool false)))], [], 1⟩) .ret (fun v1 hv => ?_) (fun hxs10 => ?_)
  ·
   subst hv; clear hl; replace hT := (sElimL hT)
   refine rInRet (rThenRet ?_)
   have hy := Option.some.inj hT; subst hy
   exact zEnd0 hX rfl
  refine rJoinA (fun v2 => (Sum.inr v2) = w1) (fun v2 => ⟨[(1, .v (.c (.ptr 0 0 0 0 0 0))), (2, .v (.c (.bool false)))], [(0, .mem true 42 none (.flat [.cs [.int .i64 a1, .bool a2, .int .i64 a3, .int .i64 a4], .ints 2 .i64 a5, .ints 6 .i64 a6, .fzs 6 Zs3 a7]))], 1⟩) (.exit 0) (fun v2 hv => ?_) (fun hxs11 => ?_)
  ·
   subst hv; clear hl; replace hT := (sElimR hT)
   refine rInHit (rThen ?_)
   let x1 := (bif (bif (bif (decide (a3 = 0)) then (decide (a4 = 0)) else false) then (decide ((a5.getD 0 0) = 0)) else false) then (decide ((a5.getD 1 0) = 0)) else false)
   refine zA hX ?_
   refine rRet ?_
   have hy := Option.some.inj hT; subst hy
   exact zEnd0 hX rfl
  refine rLoopM (ref22_zero_b1 N a6 a7) (fun s1 => ⟨[(1, .v (.c (.ptr 0 0 0 0 0 0))), (2, .v (.c (.bool false))), (3, .v (.c (.int .i64 s1)))], [(0, .mem true 42 none (.flat [.cs [.int .i64 a1, .bool a2, .int .i64 a3, .int .i64 a4], .ints 2 .i64 a5, .ints 6 .i64 a6, .fzs 6 Zs3 a7]))], 1⟩) hl (To.mk' [] 0 hε rfl zL zL) (fun s1 zs1 NNs1 hz hnexts1 houts1 => ?_)
  clear hl hT
  have hT := hz; clear hz
  refine rSeq (zA hX ?_)
  refine zCond rfl rfl (fun hc => ?_) (fun hc => ?_)
  ·
   replace hT := sT hc hT
   refine rSkip (rThen (rSeq (rBlock ?_)))
   let x3 := (bif (decide ((0 : Int) < ((a7.getD (s1).toNat []).length : Int))) then true else (decide ((a6.getD (s1).toNat 0) ≠ 0)))
   replace hT := sIf hT; obtain ⟨⟨o1, o2, o3, o4, o5, o6⟩, hT⟩ := hT
   refine rSeq (rRegC md0 hX rfl rfl rfl zO ?_)
   refine rThen ?_
   refine zCond rfl rfl (fun hc => ?_) (fun hc => ?_)
   ·
    replace hT := sT hc hT
    refine zA hX ?_
    refine rRet (rInRet (rThenRet (rThenRet ?_)))
    exact zTo [] 0 hε (hxs10 _ (houts1 _ (Option.some.inj hT).symm))
   ·
    replace hT := sF hc hT
    refine rSkip (rInNormal (rThen ?_))
    replace hT := sIf hT; obtain ⟨o1, hT⟩ := hT
    refine zReg md0 hX rfl rfl rfl ?_
    exact hnexts1 _ (Option.some.inj hT).symm _ (To.mk' [] 0 hε rfl zL zL)
  ·
   replace hT := sF hc hT
   refine rExit (rThenExit (rThenExit ?_))
   exact zTo [] 0 hε (hxs11 _ (houts1 _ (Option.some.inj hT).symm))
 ·
  cases h
def ref20_Row (N : Nat) (a1 : Int) : Option ByteArray :=
 let x1 := (bif (bif (decide (a1 < (-2))) then true else (decide ((2 : Int) < a1))) then true else (decide (a1 = 0)))
 bif x1 then
  some ⟨#[]⟩
 else
  if inK .i64 (a1 + 2) ∧ (0 : Int) ≤ (a1 + 2) ∧ (a1 + 2) < 5 then
   if (a1 + 2).toNat < ([⟨#[48, 49]⟩, ⟨#[48, 48]⟩, ⟨#[]⟩, ⟨#[49, 48]⟩, ⟨#[49, 49]⟩] : List ByteArray).length then
    let x2 := (([⟨#[48, 49]⟩, ⟨#[48, 48]⟩, ⟨#[]⟩, ⟨#[49, 48]⟩, ⟨#[49, 49]⟩] : List ByteArray).getD (a1 + 2).toNat ⟨#[]⟩)
    some x2
   else none
  else none
def sp_ref20_Row (N : Nat) : X.Spec := fun args lk => match args with
 | [.v (.c (.int .i64 a1))] => some ⟨(ref20_Row N a1).isSome = true, .v (.c (.str ((ref20_Row N a1).getD default))), [], []⟩
 | _ => none
set_option maxRecDepth 100000 in
set_option maxHeartbeats 1000000 in
theorem ok_ref20_Row (N : Nat) : FnOK Tryd.prog gt0 86 (sp_ref20_Row N) := by
 refine fnOK_handed Tryd.func86 rfl (by kernel_rfl) tt_ok (ktNil) ?_
 intro args lk r h hp
 unfold sp_ref20_Row at h
 split at h
 ·
  rename_i a1
  cases h
  obtain ⟨x, hx⟩ := Option.isSome_iff_exists.1 hp
  simp only [hx, Option.getD_some]
  refine hand0 rfl rfl (fun w0 M ε0 hX => ?_)
  refine rCount (fun hε => ?_)
  have hT : ref20_Row N a1 = some x := hx; clear hx hp; unfold ref20_Row at hT
  refine zA hX ?_
  refine rSeq ?_
  let x1 := (bif (bif (decide (a1 < (-2))) then true else (decide ((2 : Int) < a1))) then true else (decide (a1 = 0)))
  refine zA hX ?_
  refine zCond rfl rfl (fun hc => ?_) (fun hc => ?_)
  ·
   replace hT := sT hc hT
   refine zA hX ?_
   refine rRet (rThenRet ?_)
   have hy := Option.some.inj hT; subst hy
   exact zEnd0 hX rfl
  ·
   replace hT := sF hc hT
   refine rSkip (rThen (rSeq (rRegSL ?_)))
   replace hT := sIf hT; obtain ⟨⟨o1, o2, o3⟩, hT⟩ := hT
   refine rSLCut md0 4 hX rfl rfl rfl zP ?_
   refine rLstL 0 .str [⟨#[48, 49]⟩, ⟨#[48, 48]⟩, ⟨#[]⟩, ⟨#[49, 48]⟩, ⟨#[49, 49]⟩] rfl rfl rfl ?_
   replace hT := sIf hT; obtain ⟨o1, hT⟩ := hT
   let x2 := (([⟨#[48, 49]⟩, ⟨#[48, 48]⟩, ⟨#[]⟩, ⟨#[49, 48]⟩, ⟨#[49, 49]⟩] : List ByteArray).getD (a1 + 2).toNat ⟨#[]⟩)
   refine rSLDone md0 hX rfl rfl rfl zP ?_
   refine rThen (rRet ?_)
   have hy := Option.some.inj hT; subst hy
   exact zEnd0 hX rfl
 ·
  cases h
def ref21_Intra (N : Nat) (a1 : Int) : Option Bool :=
 some (bif (decide (a1 = 3)) then true else (decide (a1 = 4)))
def sp_ref21_Intra (N : Nat) : X.Spec := fun args lk => match args with
 | [.v (.c (.int .i64 a1))] => some ⟨(ref21_Intra N a1).isSome = true, .v (.c (.bool ((ref21_Intra N a1).getD default))), [], []⟩
 | _ => none
set_option maxRecDepth 100000 in
set_option maxHeartbeats 1000000 in
theorem ok_ref21_Intra (N : Nat) : FnOK Tryd.prog gt0 43 (sp_ref21_Intra N) := by
 refine fnOK_handed Tryd.func43 rfl (by kernel_rfl) tt_ok (ktNil) ?_
 intro args lk r h hp
 unfold sp_ref21_Intra at h
 split at h
 ·
  rename_i a1
  cases h
  obtain ⟨x, hx⟩ := Option.isSome_iff_exists.1 hp
  simp only [hx, Option.getD_some]
  refine hand0 rfl rfl (fun w0 M ε0 hX => ?_)
  refine rCount (fun hε => ?_)
  have hT : ref21_Intra N a1 = some x := hx; clear hx hp; unfold ref21_Intra at hT
  refine zA hX ?_
  refine zA hX ?_
  refine rRet ?_
  have hy := Option.some.inj hT; subst hy
  exact zEnd0 hX rfl
 ·
  cases h
def ref15_from (N : Nat) (a1 : Bool) : Option Int :=
 bif a1 then
  some 1
 else
  some 0
def sp_ref15_from (N : Nat) : X.Spec := fun args lk => match args with
 | [.v (.c (.bool a1))] => some ⟨(ref15_from N a1).isSome = true, .v (.c (.int .i64 ((ref15_from N a1).getD default))), [], []⟩
 | _ => none
set_option maxRecDepth 100000 in
set_option maxHeartbeats 1000000 in
theorem ok_ref15_from (N : Nat) : FnOK Tryd.prog gt0 93 (sp_ref15_from N) := by
 refine fnOK_handed Tryd.func93 rfl (by kernel_rfl) tt_ok (ktNil) ?_
 intro args lk r h hp
 unfold sp_ref15_from at h
 split at h
 ·
  rename_i a1
  cases h
  obtain ⟨x, hx⟩ := Option.isSome_iff_exists.1 hp
  simp only [hx, Option.getD_some]
  refine hand0 rfl rfl (fun w0 M ε0 hX => ?_)
  refine rCount (fun hε => ?_)
  have hT : ref15_from N a1 = some x := hx; clear hx hp; unfold ref15_from at hT
  refine zA hX ?_
  refine rSeq (zA hX ?_)
  refine zCond rfl rfl (fun hc => ?_) (fun hc => ?_)
  ·
   replace hT := sT hc hT
   refine zA hX ?_
   refine rRet (rThenRet ?_)
   have hy := Option.some.inj hT; subst hy
   exact zEnd0 hX rfl
  ·
   replace hT := sF hc hT
   refine rSkip (rThen (zA hX ?_))
   refine rRet ?_
   have hy := Option.some.inj hT; subst hy
   exact zEnd0 hX rfl
 ·
  cases h
def ref09_Right (N : Nat) (a1 : Bool) (a2 : Int) (a3 : Int) : Option Bool :=
 let x1 := (bif (bif (bif (bif (decide ((0 : Int) ≤ a2)) then (decide (a2 ≤ 63)) else false) then (decide (((-127) : Int) ≤ a3)) else false) then (decide (a3 ≤ 127)) else false) then (decide (a3 ≠ 0)) else false)
 some x1
def sp_ref09_Right (N : Nat) : X.Spec := fun args lk => match args with
 | [.v (.agg [.cs [.bool a1, .int .i64 a2, .int .i64 a3]])] => some ⟨(ref09_Right N a1 a2 a3).isSome = true, .v (.c (.bool ((ref09_Right N a1 a2 a3).getD default))), [], []⟩
 | _ => none
set_option maxRecDepth 100000 in
set_option maxHeartbeats 1000000 in
theorem ok_ref09_Right (N : Nat) : FnOK Tryd.prog gt0 101 (sp_ref09_Right N) := by
 refine fnOK_handed Tryd.func101 rfl (by kernel_rfl) tt_ok (ktNil) ?_
 intro args lk r h hp
 unfold sp_ref09_Right at h
 split at h
 ·
  rename_i a1 a2 a3
  cases h
  obtain ⟨x, hx⟩ := Option.isSome_iff_exists.1 hp
  simp only [hx, Option.getD_some]
  refine hand0 rfl rfl (fun w0 M ε0 hX => ?_)
  refine rCount (fun hε => ?_)
  have hT : ref09_Right N a1 a2 a3 = some x := hx; clear hx hp; unfold ref09_Right at hT
  refine zA hX ?_
  let x1 := (bif (bif (bif (bif (decide ((0 : Int) ≤ a2)) then (decide (a2 ≤ 63)) else false) then (decide (((-127) : Int) ≤ a3)) else false) then (decide (a3 ≤ 127)) else false) then (decide (a3 ≠ 0)) else false)
  refine zA hX ?_
  refine rRet ?_
  have hy := Option.some.inj hT; subst hy
  exact zEnd0 hX rfl
 ·
  cases h
def ref10_Levels_b1 (N : Nat) (a1 : Zt8) (s1 : Zt20) : Option (Zt20 ⊕ (Unit ⊕ (List Int))) :=
 bif (decide (s1.2.1 < (a1.length : Int))) then
  let c1 := (ref09_Right N (a1.getD (s1.2.1).toNat Zd8).1 (a1.getD (s1.2.1).toNat Zd8).2.1 (a1.getD (s1.2.1).toNat Zd8).2.2)
  let x2 := (bif (!(c1.getD default)) then true else (!((a1.getD (s1.2.1).toNat Zd8).1 == (decide ((s1.2.1 + 1) = (a1.length : Int))))))
  if (0 : Int) ≤ s1.2.1 ∧ s1.2.1 < (a1.length : Int) ∧ c1.isSome = true ∧ ((!(!(c1.getD default))) = true → (0 : Int) ≤ s1.2.1) ∧ ((!(!(c1.getD default))) = true → s1.2.1 < (a1.length : Int)) ∧ ((!(!(c1.getD default))) = true → inK .i64 (s1.2.1 + 1)) then
   bif x2 then
    some (.inr (Sum.inl ()))
   else
    if (0 : Int) ≤ s1.2.1 ∧ s1.2.1 < (a1.length : Int) ∧ inK .i64 (s1.1 + (a1.getD (s1.2.1).toNat Zd8).2.1) ∧ inK .i64 ((s1.1 + (a1.getD (s1.2.1).toNat Zd8).2.1) + 1) then
     let x3 := (decide ((63 : Int) < ((s1.1 + (a1.getD (s1.2.1).toNat Zd8).2.1) + 1)))
     bif x3 then
      some (.inr (Sum.inl ()))
     else
      let x4 := (s1.2.2.set ((s1.1 + (a1.getD (s1.2.1).toNat Zd8).2.1) + 1).toNat (a1.getD (s1.2.1).toNat Zd8).2.2)
      if (0 : Int) ≤ s1.2.1 ∧ s1.2.1 < (a1.length : Int) ∧ (0 : Int) ≤ ((s1.1 + (a1.getD (s1.2.1).toNat Zd8).2.1) + 1) ∧ ((s1.1 + (a1.getD (s1.2.1).toNat Zd8).2.1) + 1) < 64 ∧ ((s1.1 + (a1.getD (s1.2.1).toNat Zd8).2.1) + 1).toNat < 64 then
       if inK .i64 (s1.2.1 + 1) then
        some (.inl (((s1.1 + (a1.getD (s1.2.1).toNat Zd8).2.1) + 1), (s1.2.1 + 1), x4))
       else none
      else none
    else none
  else none
 else
  some (.inr (Sum.inr s1.2.2))
def ref10_Levels (N : Nat) (a1 : Zt8) (a2 : Int) : Option ((List Int) × Int) :=
 bif (bif (decide (a2 < 0)) then true else (decide ((1 : Int) < a2))) then
  some ((List.replicate 64 0), 1)
 else
  if inK .i64 (a2 - 1) then
   (iter (ref10_Levels_b1 N a1) N ((a2 - 1), 0, (List.replicate 64 0))).bind fun w1 =>
    (Sum.elim (fun v1 =>
     some ((List.replicate 64 0), 7)
    )
     (fun v2 =>
      some (v2, 0)
     )
    ) w1
  else none
def sp_ref10_Levels (N : Nat) : X.Spec := fun args lk => match args with
 | [.v (.c (.fz (.pair .bool (.pair (.int .i64) (.int .i64))) a1)), .v (.c (.int .i64 a2))] => some ⟨(ref10_Levels N a1 a2).isSome = true, .tup [.agg [.ints 64 .i64 ((ref10_Levels N a1 a2).getD default).1], .c (.int .i64 ((ref10_Levels N a1 a2).getD default).2)], [], []⟩
 | _ => none
set_option maxRecDepth 100000 in
set_option maxHeartbeats 1000000 in
theorem ok_ref10_Levels (N : Nat) : FnOK Tryd.prog gt0 92 (sp_ref10_Levels N) := by
 refine fnOK_handed Tryd.func92 rfl (by kernel_rfl) tt_ok (ktCons (ok_ref09_Right N) (ktNil)) ?_
 intro args lk r h hp
 unfold sp_ref10_Levels at h
 split at h
 ·
  rename_i a1 a2
  change Zt8 at a1
  cases h
  obtain ⟨x, hx⟩ := Option.isSome_iff_exists.1 hp
  simp only [hx, Option.getD_some]
  refine hand0 rfl rfl (fun w0 M ε0 hX => ?_)
  refine rCount (fun hε => ?_)
  have hT : ref10_Levels N a1 a2 = some x := hx; clear hx hp; unfold ref10_Levels at hT
  refine zA hX ?_
  refine zA hX ?_
  refine rSeq (zA hX ?_)
  refine zCond rfl rfl (fun hc => ?_) (fun hc => ?_)
  ·
   replace hT := sT hc hT
   refine zA hX ?_
   refine rRet (rThenRet ?_)
   have hy := Option.some.inj hT; subst hy
   exact zEnd0 hX rfl
  ·
   replace hT := sF hc hT
   refine rSkip (rThen ?_)
   replace hT := sIf hT; obtain ⟨o1, hT⟩ := hT
   refine zA hX ?_
   refine rSeq (zA hX ?_)
   refine rBlock ?_
   replace hT := sBind hT; obtain ⟨w1, hl, hT⟩ := hT
   refine rJoinA (fun v1 => (Sum.inl v1) = w1) (fun v1 => ⟨[(4, .v (.c (.ptr 0 0 0 0 0 0))), (5, .v (.c (.int .i64 7)))], [(0, .mem true 109 none (.flat [.ints 64 .i64 (List.replicate 64 0)]))], 2⟩) .ret (fun v1 hv => ?_) (fun hxs10 => ?_)
   ·
    subst hv; clear hl; replace hT := (sElimL hT)
    refine rInRet (rThenRet ?_)
    have hy := Option.some.inj hT; subst hy
    exact zEnd0 hX rfl
   refine rJoinA (fun v2 => (Sum.inr v2) = w1) (fun v2 => ⟨[(4, .v (.c (.ptr 0 0 0 0 0 0))), (5, .v (.c (.int .i64 0))), (6, .v (.c (.ptr 1 0 0 0 0 0)))], [(0, .mem true 109 none (.flat [.ints 64 .i64 (List.replicate 64 0)])), (1, .mem true 109 none (.flat [.ints 64 .i64 v2]))], 2⟩) (.exit 0) (fun v2 hv => ?_) (fun hxs11 => ?_)
   ·
    subst hv; clear hl; replace hT := (sElimR hT)
    refine rInHit (rThen (zA hX ?_))
    refine rRet ?_
    have hy := Option.some.inj hT; subst hy
    exact zEnd0 hX rfl
   refine rLoopM (ref10_Levels_b1 N a1) (fun s1 => ⟨[(0, .v (.c (.fz Zs3 a1))), (4, .v (.c (.ptr 0 0 0 0 0 0))), (5, .v (.c (.int .i64 0))), (6, .v (.c (.ptr 1 0 0 0 0 0))), (7, .v (.c (.int .i64 s1.1))), (8, .v (.c (.int .i64 s1.2.1)))], [(0, .mem true 109 none (.flat [.ints 64 .i64 (List.replicate 64 0)])), (1, .mem true 109 none (.flat [.ints 64 .i64 s1.2.2]))], 2⟩) hl (To.mk' [] 0 hε rfl zL zL) (fun s1 zs1 NNs1 hz hnexts1 houts1 => ?_)
   clear hl hT
   have hT := hz; clear hz
   refine rSeq (zA hX ?_)
   refine zCond rfl rfl (fun hc => ?_) (fun hc => ?_)
   ·
    replace hT := sT hc hT
    refine rSkip (rThen (rSeq (rBlock (rSeq ?_))))
    let c1 := (ref09_Right N (a1.getD (s1.2.1).toNat Zd8).1 (a1.getD (s1.2.1).toNat Zd8).2.1 (a1.getD (s1.2.1).toNat Zd8).2.2)
    let x2 := (bif (!(c1.getD default)) then true else (!((a1.getD (s1.2.1).toNat Zd8).1 == (decide ((s1.2.1 + 1) = (a1.length : Int))))))
    replace hT := sIf hT; obtain ⟨⟨o1, o2, o3, o4, o5, o6⟩, hT⟩ := hT
    refine rSeq (rRegC md0 hX rfl rfl rfl zO ?_)
    refine rThen ?_
    refine zCond rfl rfl (fun hc => ?_) (fun hc => ?_)
    ·
     replace hT := sT hc hT
     refine zA hX ?_
     refine rRet (rThenRet (rInRet (rThenRet (rThenRet ?_))))
     exact zTo [] 0 hε (hxs10 _ (houts1 _ (Option.some.inj hT).symm))
    ·
     replace hT := sF hc hT
     refine rSkip (rThen ?_)
     replace hT := sIf hT; obtain ⟨⟨o1, o2, o3, o4⟩, hT⟩ := hT
     refine zA hX ?_
     refine rSeq ?_
     let x3 := (decide ((63 : Int) < ((s1.1 + (a1.getD (s1.2.1).toNat Zd8).2.1) + 1)))
     refine zA hX ?_
     refine zCond rfl rfl (fun hc => ?_) (fun hc => ?_)
     ·
      replace hT := sT hc hT
      refine zA hX ?_
      refine rRet (rThenRet (rInRet (rThenRet (rThenRet ?_))))
      exact zTo [] 0 hε (hxs10 _ (houts1 _ (Option.some.inj hT).symm))
     ·
      replace hT := sF hc hT
      refine rSkip (rThen ?_)
      let x4 := (s1.2.2.set ((s1.1 + (a1.getD (s1.2.1).toNat Zd8).2.1) + 1).toNat (a1.getD (s1.2.1).toNat Zd8).2.2)
      replace hT := sIf hT; obtain ⟨⟨o1, o2, o3, o4, o5⟩, hT⟩ := hT
      refine zReg md0 hX rfl rfl rfl ?_
      refine rInNormal (rThen ?_)
      replace hT := sIf hT; obtain ⟨o1, hT⟩ := hT
      refine zReg md0 hX rfl rfl rfl ?_
      exact hnexts1 _ (Option.some.inj hT).symm _ (To.mk' [] 0 hε rfl zL zL)
   ·
    replace hT := sF hc hT
    refine rExit (rThenExit (rThenExit ?_))
    exact zTo [] 0 hε (hxs11 _ (houts1 _ (Option.some.inj hT).symm))
 ·
  cases h
def ref15_May (N : Nat) (a1 : Bool) (a2 : Int) (a3 : Zt8) : Option Bool :=
 let c1 := (ref15_from N a1)
 let c2 := (ref10_Levels N a3 (c1.getD default))
 if c1.isSome = true ∧ c2.isSome = true then
  bif a1 then
   let x1 := (bif (bif (decide ((c2.getD default).2 = 0)) then (decide ((1 : Int) ≤ a2)) else false) then (decide (a2 ≤ 254)) else false)
   some x1
  else
   some (bif (decide ((c2.getD default).2 = 0)) then (decide (a2 = 0)) else false)
 else none
def sp_ref15_May (N : Nat) : X.Spec := fun args lk => match args with
 | [.v (.c (.bool a1)), .v (.c (.int .i64 a2)), .v (.c (.fz (.pair .bool (.pair (.int .i64) (.int .i64))) a3))] => some ⟨(ref15_May N a1 a2 a3).isSome = true, .v (.c (.bool ((ref15_May N a1 a2 a3).getD default))), [], []⟩
 | _ => none
set_option maxRecDepth 100000 in
set_option maxHeartbeats 1000000 in
theorem ok_ref15_May (N : Nat) : FnOK Tryd.prog gt0 87 (sp_ref15_May N) := by
 refine fnOK_handed Tryd.func87 rfl (by kernel_rfl) tt_ok (ktCons (ok_ref10_Levels N) (ktCons (ok_ref15_from N) (ktNil))) ?_
 intro args lk r h hp
 unfold sp_ref15_May at h
 split at h
 ·
  rename_i a1 a2 a3
  change Zt8 at a3
  cases h
  obtain ⟨x, hx⟩ := Option.isSome_iff_exists.1 hp
  simp only [hx, Option.getD_some]
  refine hand0 rfl rfl (fun w0 M ε0 hX => ?_)
  refine rCount (fun hε => ?_)
  have hT : ref15_May N a1 a2 a3 = some x := hx; clear hx hp; unfold ref15_May at hT
  refine zA hX ?_
  let c1 := (ref15_from N a1)
  let c2 := (ref10_Levels N a3 (c1.getD default))
  replace hT := sIf hT; obtain ⟨⟨o1, o2⟩, hT⟩ := hT
  refine zA hX ?_
  refine rSeq (zA hX ?_)
  refine zCond rfl rfl (fun hc => ?_) (fun hc => ?_)
  ·
   replace hT := sT hc hT
   let x1 := (bif (bif (decide ((c2.getD default).2 = 0)) then (decide ((1 : Int) ≤ a2)) else false) then (decide (a2 ≤ 254)) else false)
   refine zA hX ?_
   refine rRet (rThenRet ?_)
   have hy := Option.some.inj hT; subst hy
   exact zEnd0 hX rfl
  ·
   replace hT := sF hc hT
   refine rSkip (rThen (zA hX ?_))
   refine rRet ?_
   have hy := Option.some.inj hT; subst hy
   exact zEnd0 hX rfl
 ·
  cases h
def ref22_Right_b1 (N : Nat) (a4 : Int) (a7 : (List Int)) (a8 : Zt5) (s2 : Int) : Option (Int ⊕ (Unit ⊕ Unit)) :=
 bif (decide (s2 < 6)) then
  let c2 := (ref21_Intra N a4)
  let c3 := (ref15_May N (c2.getD default) (a7.getD (s2).toNat 0) (a8.getD (s2).toNat []))
  if c2.isSome = true ∧ (0 : Int) ≤ s2 ∧ s2 < 6 ∧ (s2).toNat < 6 ∧ c3.isSome = true then
   bif (!(c3.getD default)) then
    some (.inr (Sum.inl ()))
   else
    if inK .i64 (s2 + 1) then
     some (.inl (s2 + 1))
    else none
  else none
 else
  some (.inr (Sum.inr ()))
def ref22_Right_b2 (N : Nat) (a4 : Int) (a6 : (List Int)) (s1 : Int) : Option (Int ⊕ (Unit ⊕ Unit)) :=
 bif (decide (s1 < 2)) then
  let x8 := (bif (bif (decide ((a6.getD (s1).toNat 0) < (-32))) then true else (decide ((31 : Int) < (a6.getD (s1).toNat 0)))) then true else (bif (decide ((2 : Int) < a4)) then (decide ((a6.getD (s1).toNat 0) ≠ 0)) else false))
  if (0 : Int) ≤ s1 ∧ s1 < 2 ∧ (s1).toNat < 2 ∧ ((!(decide ((a6.getD (s1).toNat 0) < (-32)))) = true → (0 : Int) ≤ s1) ∧ ((!(decide ((a6.getD (s1).toNat 0) < (-32)))) = true → s1 < 2) ∧ ((!(decide ((a6.getD (s1).toNat 0) < (-32)))) = true → (s1).toNat < 2) ∧ (((!(bif (decide ((a6.getD (s1).toNat 0) < (-32))) then true else (decide ((31 : Int) < (a6.getD (s1).toNat 0))))) && (decide ((2 : Int) < a4))) = true → (0 : Int) ≤ s1) ∧ (((!(bif (decide ((a6.getD (s1).toNat 0) < (-32))) then true else (decide ((31 : Int) < (a6.getD (s1).toNat 0))))) && (decide ((2 : Int) < a4))) = true → s1 < 2) ∧ (((!(bif (decide ((a6.getD (s1).toNat 0) < (-32))) then true else (decide ((31 : Int) < (a6.getD (s1).toNat 0))))) && (decide ((2 : Int) < a4))) = true → (s1).toNat < 2) ∧ ((!(bif (decide ((a6.getD (s1).toNat 0) < (-32))) then true else (decide ((31 : Int) < (a6.getD (s1).toNat 0))))) = true → ((decide ((2 : Int) < a4)) = true → ((!(bif (decide ((a6.getD (s1).toNat 0) < (-32))) then true else (decide ((31 : Int) < (a6.getD (s1).toNat 0))))) && (decide ((2 : Int) < a4))) = true)) then
   bif x8 then
    some (.inr (Sum.inl ()))
   else
    if inK .i64 (s1 + 1) then
     some (.inl (s1 + 1))
    else none
  else none
 else
  some (.inr (Sum.inr ()))
def ref22_Right (N : Nat) (a1 : Bool) (a2 : Int) (a3 : Bool) (a4 : Int) (a5 : Int) (a6 : (List Int)) (a7 : (List Int)) (a8 : Zt5) : Option Bool :=
 bif (bif (decide (a2 < 0)) then true else (decide ((64 : Int) < a2))) then
  some false
 else
  bif a3 then
   let c1 := (ref22_zero N a2 a3 a4 a5 a6 a7 a8)
   if (a1 = true → c1.isSome = true) then
    some (bif a1 then (c1.getD default) else false)
   else none
  else
   let x4 := (bif (bif (bif (decide (a4 < 0)) then true else (decide ((4 : Int) < a4))) then true else (decide (a4 = 2))) then true else (bif (decide (a4 < 2)) then (!a1) else false))
   if ((!(bif (bif (decide (a4 < 0)) then true else (decide ((4 : Int) < a4))) then true else (decide (a4 = 2)))) = true → ((decide (a4 < 2)) = true → ((!(bif (bif (decide (a4 < 0)) then true else (decide ((4 : Int) < a4))) then true else (decide (a4 = 2)))) && (decide (a4 < 2))) = true)) then
    bif x4 then
     some false
    else
     joinK (fun (v1 : Unit) =>
      (iter (ref22_Right_b2 N a4 a6) N 0).bind fun w1 =>
       (Sum.elim (fun v2 =>
        some false
       )
        (fun v3 =>
         (iter (ref22_Right_b1 N a4 a7 a8) N 0).bind fun w2 =>
          (Sum.elim (fun v4 =>
           some false
          )
           (fun v5 =>
            some true
           )
          ) w2
        )
       ) w1
     ) fun k1 =>
      bif (bif (decide (a4 = 1)) then true else (decide (a4 = 4))) then
       let c4 := (ref20_Row N a5)
       if c4.isSome = true then
        bif (decide (ByteArray.toList (c4.getD default) = ByteArray.toList ⟨#[]⟩)) then
         some false
        else
         k1 ()
       else none
      else
       bif (decide (a5 ≠ 0)) then
        some false
       else
        k1 ()
   else none
def sp_ref22_Right (N : Nat) : X.Spec := fun args lk => match args with
 | [.v (.c (.bool a1)), .v (.agg [.cs [.int .i64 a2, .bool a3, .int .i64 a4, .int .i64 a5], .ints 2 .i64 a6, .ints 6 .i64 a7, .fzs 6 (.pair .bool (.pair (.int .i64) (.int .i64))) a8])] => some ⟨(ref22_Right N a1 a2 a3 a4 a5 a6 a7 a8).isSome = true, .v (.c (.bool ((ref22_Right N a1 a2 a3 a4 a5 a6 a7 a8).getD default))), [], []⟩
 | _ => none
set_option maxRecDepth 100000 in
set_option maxHeartbeats 1000000 in
theorem ok_ref22_Right (N : Nat) : FnOK Tryd.prog gt0 72 (sp_ref22_Right N) := by
 refine fnOK_handed Tryd.func72 rfl (by kernel_rfl) tt_ok (ktCons (ok_ref20_Row N) (ktCons (ok_ref15_May N) (ktCons (ok_ref21_Intra N) (ktCons (ok_ref22_zero N) (ktNil))))) ?_
 intro args lk r h hp
 unfold sp_ref22_Right at h
 split at h
 ·
  rename_i a1 a2 a3 a4 a5 a6 a7 a8
  change (List Int) at a6
  change (List Int) at a7
  change Zt5 at a8
  cases h
  obtain ⟨x, hx⟩ := Option.isSome_iff_exists.1 hp
  simp only [hx, Option.getD_some]
  refine hand0 rfl rfl (fun w0 M ε0 hX => ?_)
  refine rCount (fun hε => ?_)
  have hT : ref22_Right N a1 a2 a3 a4 a5 a6 a7 a8 = some x := hx; clear hx hp; unfold ref22_Right at hT
  refine zA hX ?_
  refine rSeq (zA hX ?_)
  refine zCond rfl rfl (fun hc => ?_) (fun hc => ?_)
  ·
   replace hT := sT hc hT
   refine zA hX ?_
   refine rRet (rThenRet ?_)
   have hy := Option.some.inj hT; subst hy
   exact zEnd0 hX rfl
  ·
   replace hT := sF hc hT
   refine rSkip (rThen (rSeq (zA hX ?_)))
   refine zCond rfl rfl (fun hc => ?_) (fun hc => ?_)
   ·
    replace hT := sT hc hT
    let c1 := (ref22_zero N a2 a3 a4 a5 a6 a7 a8)
    replace hT := sIf hT; obtain ⟨o1, hT⟩ := hT
    refine rSeq (rRegC md0 hX rfl rfl rfl zO ?_)
    refine rThen (rRet (rThenRet ?_))
    have hy := Option.some.inj hT; subst hy
    exact zEnd0 hX rfl
   ·
    replace hT := sF hc hT
    refine rSkip (rThen (rSeq ?_))
    let x4 := (bif (bif (bif (decide (a4 < 0)) then true else (decide ((4 : Int) < a4))) then true else (decide (a4 = 2))) then true else (bif (decide (a4 < 2)) then (!a1) else false))
    replace hT := sIf hT; obtain ⟨o1, hT⟩ := hT
    refine rSeq (rRegC md0 hX rfl rfl rfl zO ?_)
    refine rThen ?_
    refine zCond rfl rfl (fun hc => ?_) (fun hc => ?_)
    ·
     replace hT := sT hc hT
     refine zA hX ?_
     refine rRet (rThenRet ?_)
     have hy := Option.some.inj hT; subst hy
     exact zEnd0 hX rfl
    ·
     replace hT := sF hc hT
     refine rSkip (rThen (rSeq (zA hX ?_)))
     refine rJoinK hT (fun v1 => ⟨[(3, .v (.c (.ptr 0 0 0 0 0 0))), (4, .v (.c (.bool false)))], [(0, .mem true 42 none (.flat [.cs [.int .i64 a2, .bool a3, .int .i64 a4, .int .i64 a5], .ints 2 .i64 a6, .ints 6 .i64 a7, .fzs 6 Zs3 a8]))], 1⟩) (fun v1 hT => ?_) (fun k1 hjk1 hT => ?_)
     ·
      refine rThen (rSeq (zA hX ?_))
      refine rBlock ?_
      replace hT := sBind hT; obtain ⟨w1, hl, hT⟩ := hT
      refine rJoinA (fun v2 => (Sum.inl v2) = w1) (fun v2 => ⟨[(4, .v (.c (.bool false)))], [], 1⟩) .ret (fun v2 hv => ?_) (fun hxs10 => ?_)
      ·
       subst hv; clear hl; replace hT := (sElimL hT)
       refine rInRet (rThenRet ?_)
       have hy := Option.some.inj hT; subst hy
       exact zEnd0 hX rfl
      refine rJoinA (fun v3 => (Sum.inr v3) = w1) (fun v3 => ⟨[(3, .v (.c (.ptr 0 0 0 0 0 0))), (4, .v (.c (.bool false)))], [(0, .mem true 42 none (.flat [.cs [.int .i64 a2, .bool a3, .int .i64 a4, .int .i64 a5], .ints 2 .i64 a6, .ints 6 .i64 a7, .fzs 6 Zs3 a8]))], 1⟩) (.exit 0) (fun v3 hv => ?_) (fun hxs11 => ?_)
      ·
       subst hv; clear hl; replace hT := (sElimR hT)
       refine rInHit (rThen (rSeq (zA hX ?_)))
       refine rBlock ?_
       replace hT := sBind hT; obtain ⟨w2, hl, hT⟩ := hT
       refine rJoinA (fun v4 => (Sum.inl v4) = w2) (fun v4 => ⟨[(4, .v (.c (.bool false)))], [], 1⟩) .ret (fun v4 hv => ?_) (fun hxs20 => ?_)
       ·
        subst hv; clear hl; replace hT := (sElimL hT)
        refine rInRet (rThenRet ?_)
        have hy := Option.some.inj hT; subst hy
        exact zEnd0 hX rfl
       refine rJoinA (fun v5 => (Sum.inr v5) = w2) (fun v5 => ⟨[(4, .v (.c (.bool false)))], [], 1⟩) (.exit 2) (fun v5 hv => ?_) (fun hxs21 => ?_)
       ·
        subst hv; clear hl; replace hT := (sElimR hT)
        refine rInHit (rThen (zA hX ?_))
        refine rRet ?_
        have hy := Option.some.inj hT; subst hy
        exact zEnd0 hX rfl
       refine rLoopM (ref22_Right_b1 N a4 a7 a8) (fun s2 => ⟨[(3, .v (.c (.ptr 0 0 0 0 0 0))), (4, .v (.c (.bool false))), (6, .v (.c (.int .i64 s2)))], [(0, .mem true 42 none (.flat [.cs [.int .i64 a2, .bool a3, .int .i64 a4, .int .i64 a5], .ints 2 .i64 a6, .ints 6 .i64 a7, .fzs 6 Zs3 a8]))], 1⟩) hl (To.mk' [] 0 hε rfl zL zL) (fun s2 zs2 NNs2 hz hnexts2 houts2 => ?_)
       clear hl hT
       have hT := hz; clear hz
       refine rSeq (zA hX ?_)
       refine zCond rfl rfl (fun hc => ?_) (fun hc => ?_)
       ·
        replace hT := sT hc hT
        refine rSkip (rThen (rSeq (rBlock ?_)))
        let c2 := (ref21_Intra N a4)
        let c3 := (ref15_May N (c2.getD default) (a7.getD (s2).toNat 0) (a8.getD (s2).toNat []))
        replace hT := sIf hT; obtain ⟨⟨o1, o2, o3, o4, o5⟩, hT⟩ := hT
        refine rSeq (zDraw md0 0 [] hX mixed rfl rfl rfl rfl rfl ?_)
        refine rThen ?_
        refine zCond rfl rfl (fun hc => ?_) (fun hc => ?_)
        ·
         replace hT := sT hc hT
         refine zA hX ?_
         refine rRet (rInRet (rThenRet (rThenRet ?_)))
         exact zTo [] 0 hε (hxs20 _ (houts2 _ (Option.some.inj hT).symm))
        ·
         replace hT := sF hc hT
         refine rSkip (rInNormal (rThen ?_))
         replace hT := sIf hT; obtain ⟨o1, hT⟩ := hT
         refine zReg md0 hX rfl rfl rfl ?_
         exact hnexts2 _ (Option.some.inj hT).symm _ (To.mk' [] 0 hε rfl zL zL)
       ·
        replace hT := sF hc hT
        refine rExit (rThenExit (rThenExit ?_))
        exact zTo [] 0 hε (hxs21 _ (houts2 _ (Option.some.inj hT).symm))
      refine rLoopM (ref22_Right_b2 N a4 a6) (fun s1 => ⟨[(3, .v (.c (.ptr 0 0 0 0 0 0))), (4, .v (.c (.bool false))), (5, .v (.c (.int .i64 s1)))], [(0, .mem true 42 none (.flat [.cs [.int .i64 a2, .bool a3, .int .i64 a4, .int .i64 a5], .ints 2 .i64 a6, .ints 6 .i64 a7, .fzs 6 Zs3 a8]))], 1⟩) hl (To.mk' [] 0 hε rfl zL zL) (fun s1 zs1 NNs1 hz hnexts1 houts1 => ?_)
      clear hl hT
      have hT := hz; clear hz
      refine rSeq (zA hX ?_)
      refine zCond rfl rfl (fun hc => ?_) (fun hc => ?_)
      ·
       replace hT := sT hc hT
       refine rSkip (rThen (rSeq (rBlock ?_)))
       let x8 := (bif (bif (decide ((a6.getD (s1).toNat 0) < (-32))) then true else (decide ((31 : Int) < (a6.getD (s1).toNat 0)))) then true else (bif (decide ((2 : Int) < a4)) then (decide ((a6.getD (s1).toNat 0) ≠ 0)) else false))
       replace hT := sIf hT; obtain ⟨⟨o1, o2, o3, o4, o5, o6, o7, o8, o9, o10⟩, hT⟩ := hT
       refine rSeq (rRegC md0 hX rfl rfl rfl (by (repeat' first | exact True.intro | with_reducible assumption | (with_reducible apply And.intro) | intro _) <;> first | assumption | exact o4 (by assumption) | exact o5 (by assumption) | exact o6 (by assumption) | exact o7 (by assumption) | exact o8 (by assumption) | exact o9 (by assumption) | exact o10 (by assumption) (by assumption) | exact rfl | omega | exact Nat.le_of_ble_eq_true rfl | exact selF (by assumption) | exact selT (by assumption) | exact And.intro rfl rfl | exact And.intro (by assumption) rfl | exact And.intro (by omega) rfl | (simp only [inK] at *; omega) | (simp_all [sel] <;> fail) | fail) ?_)
       refine rThen ?_
       refine zCond rfl rfl (fun hc => ?_) (fun hc => ?_)
       ·
        replace hT := sT hc hT
        refine zA hX ?_
        refine rRet (rInRet (rThenRet (rThenRet ?_)))
        exact zTo [] 0 hε (hxs10 _ (houts1 _ (Option.some.inj hT).symm))
       ·
        replace hT := sF hc hT
        refine rSkip (rInNormal (rThen ?_))
        replace hT := sIf hT; obtain ⟨o1, hT⟩ := hT
        refine zReg md0 hX rfl rfl rfl ?_
        exact hnexts1 _ (Option.some.inj hT).symm _ (To.mk' [] 0 hε rfl zL zL)
      ·
       replace hT := sF hc hT
       refine rExit (rThenExit (rThenExit ?_))
       exact zTo [] 0 hε (hxs11 _ (houts1 _ (Option.some.inj hT).symm))
     ·
      refine zCond rfl rfl (fun hc => ?_) (fun hc => ?_)
      ·
       replace hT := sT hc hT
       let c4 := (ref20_Row N a5)
       replace hT := sIf hT; obtain ⟨o1, hT⟩ := hT
       refine zA hX ?_
       refine zCond rfl rfl (fun hc => ?_) (fun hc => ?_)
       ·
        replace hT := sT hc hT
        refine zA hX ?_
        refine rRet (rThenRet ?_)
        have hy := Option.some.inj hT; subst hy
        exact zEnd0 hX rfl
       ·
        replace hT := sF hc hT
        refine rSkip ?_
        exact zTo [] 0 hε (hjk1 _ hT)
      ·
       replace hT := sF hc hT
       refine zA hX ?_
       refine zCond rfl rfl (fun hc => ?_) (fun hc => ?_)
       ·
        replace hT := sT hc hT
        refine zA hX ?_
        refine rRet (rThenRet ?_)
        have hy := Option.some.inj hT; subst hy
        exact zEnd0 hX rfl
       ·
        replace hT := sF hc hT
        refine rSkip ?_
        exact zTo [] 0 hε (hjk1 _ hT)
 ·
  cases h
def ref25_row_b1 (N : Nat) (a4 : Bool) (a7 : Zt1) (a9 : Int) (s1 : Int) : Option (Int ⊕ (Unit ⊕ Unit)) :=
 let x2 := (decide (s1 < ((a7.getD (a9).toNat Zd7).2.2.2.length : Int)))
 bif x2 then
  let c3 := (ref22_Right N a4 ((a7.getD (a9).toNat Zd7).2.2.2.getD (s1).toNat Zd1).1 ((a7.getD (a9).toNat Zd7).2.2.2.getD (s1).toNat Zd1).2.1 ((a7.getD (a9).toNat Zd7).2.2.2.getD (s1).toNat Zd1).2.2.1 ((a7.getD (a9).toNat Zd7).2.2.2.getD (s1).toNat Zd1).2.2.2.1 ((a7.getD (a9).toNat Zd7).2.2.2.getD (s1).toNat Zd1).2.2.2.2.1 ((a7.getD (a9).toNat Zd7).2.2.2.getD (s1).toNat Zd1).2.2.2.2.2.1 ((a7.getD (a9).toNat Zd7).2.2.2.getD (s1).toNat Zd1).2.2.2.2.2.2)
  if (0 : Int) ≤ s1 ∧ s1 < ((a7.getD (a9).toNat Zd7).2.2.2.length : Int) ∧ c3.isSome = true then
   bif (!(c3.getD default)) then
    some (.inr (Sum.inl ()))
   else
    if inK .i64 (s1 + 1) then
     some (.inl (s1 + 1))
    else none
  else none
 else
  some (.inr (Sum.inr ()))
def ref25_row (N : Nat) (a1 : Int) (a2 : Int) (a3 : Int) (a4 : Bool) (a5 : Int) (a6 : (List Int)) (a7 : Zt1) (a8 : Int) (a9 : Int) : Option Bool :=
 if (0 : Int) ≤ a9 ∧ a9 < (a7.length : Int) then
  let c1 := (ref16_Across N a3)
  let c2 := (ref16_Size N a3)
  let x1 := (decide (((a7.getD (a9).toNat Zd7).2.2.2.length : Int) ≠ ((c1.getD default) * ((c2.getD default).getD 3 0))))
  if c1.isSome = true ∧ c2.isSome = true ∧ inK .i64 ((c1.getD default) * ((c2.getD default).getD 3 0)) then
   bif x1 then
    some false
   else
    joinK (fun (v1 : Unit) =>
     (iter (ref25_row_b1 N a4 a7 a9) N 0).bind fun w1 =>
      (Sum.elim (fun v2 =>
       some false
      )
       (fun v3 =>
        some true
       )
      ) w1
    ) fun k1 =>
     bif (a7.getD (a9).toNat Zd7).1 then
      let x17 := (bif (bif (bif (bif (decide (a9 = 0)) then true else (decide ((a7.getD (a9).toNat Zd7).2.1 < 0))) then true else (decide ((3 : Int) < (a7.getD (a9).toNat Zd7).2.1))) then true else (decide ((a7.getD (a9).toNat Zd7).2.2.1 < 1))) then true else (decide ((31 : Int) < (a7.getD (a9).toNat Zd7).2.2.1)))
      bif x17 then
       some false
      else
       k1 ()
     else
      let x18 := (bif (decide ((a7.getD (a9).toNat Zd7).2.1 ≠ 0)) then true else (decide ((a7.getD (a9).toNat Zd7).2.2.1 ≠ 0)))
      bif x18 then
       some false
      else
       k1 ()
  else none
 else none
def sp_ref25_row (N : Nat) : X.Spec := fun args lk => match args with
 | [.v (.agg [.cs [.int .i64 a1, .int .i64 a2, .int .i64 a3, .bool a4, .int .i64 a5, .fz (.int .i64) a6, .fz (.pair .bool (.pair (.int .i64) (.pair (.int .i64) (.sl (.pair (.int .i64) (.pair .bool (.pair (.int .i64) (.pair (.int .i64) (.pair (.arr 2 .i64) (.pair (.arr 6 .i64) (.arrS 6 (.pair .bool (.pair (.int .i64) (.int .i64)))))))))))))) a7, .int .i64 a8]]), .v (.c (.int .i64 a9))] => some ⟨(ref25_row N a1 a2 a3 a4 a5 a6 a7 a8 a9).isSome = true, .v (.c (.bool ((ref25_row N a1 a2 a3 a4 a5 a6 a7 a8 a9).getD default))), [], []⟩
 | _ => none
set_option maxRecDepth 100000 in
set_option maxHeartbeats 1000000 in
theorem ok_ref25_row (N : Nat) : FnOK Tryd.prog gt0 42 (sp_ref25_row N) := by
 refine fnOK_handed Tryd.func42 rfl (by kernel_rfl) tt_ok (ktCons (ok_ref22_Right N) (ktCons (ok_ref16_Size N) (ktCons (ok_ref16_Across N) (ktNil)))) ?_
 intro args lk r h hp
 unfold sp_ref25_row at h
 split at h
 ·
  rename_i a1 a2 a3 a4 a5 a6 a7 a8 a9
  change (List Int) at a6
  change Zt1 at a7
  cases h
  obtain ⟨x, hx⟩ := Option.isSome_iff_exists.1 hp
  simp only [hx, Option.getD_some]
  refine hand0 rfl rfl (fun w0 M ε0 hX => ?_)
  refine rCount (fun hε => ?_)
  have hT : ref25_row N a1 a2 a3 a4 a5 a6 a7 a8 a9 = some x := hx; clear hx hp; unfold ref25_row at hT
  refine zA hX ?_
  replace hT := sIf hT; obtain ⟨⟨o1, o2⟩, hT⟩ := hT
  refine zA hX ?_
  refine rSeq ?_
  let c1 := (ref16_Across N a3)
  let c2 := (ref16_Size N a3)
  let x1 := (decide (((a7.getD (a9).toNat Zd7).2.2.2.length : Int) ≠ ((c1.getD default) * ((c2.getD default).getD 3 0))))
  replace hT := sIf hT; obtain ⟨⟨o1, o2, o3⟩, hT⟩ := hT
  refine rSeq (zDraw md0 0 [] hX mixed rfl rfl rfl rfl rfl ?_)
  refine rThen ?_
  refine zCond rfl rfl (fun hc => ?_) (fun hc => ?_)
  ·
   replace hT := sT hc hT
   refine zA hX ?_
   refine rRet (rThenRet ?_)
   have hy := Option.some.inj hT; subst hy
   exact zEnd0 hX rfl
  ·
   replace hT := sF hc hT
   refine rSkip (rThen (rSeq (zA hX ?_)))
   refine rJoinK hT (fun v1 => ⟨[(2, .v (.c (.ptr 0 0 0 0 0 0))), (4, .v (.c (.bool false))), (5, .v (.c (.ptr 1 0 0 0 0 0)))], [(0, .mem true 25 none (.flat [.cs [.int .i64 a1, .int .i64 a2, .int .i64 a3, .bool a4, .int .i64 a5, .fz (.int .i64) a6, .fz Zs1 a7, .int .i64 a8]])), (1, .mem true 49 none (.flat [.cs [.bool (a7.getD (a9).toNat Zd7).1, .int .i64 (a7.getD (a9).toNat Zd7).2.1, .int .i64 (a7.getD (a9).toNat Zd7).2.2.1, .fz Zs2 (a7.getD (a9).toNat Zd7).2.2.2]]))], 2⟩) (fun v1 hT => ?_) (fun k1 hjk1 hT => ?_)
   ·
    refine rThen (rSeq (zA hX ?_))
    refine rBlock ?_
    replace hT := sBind hT; obtain ⟨w1, hl, hT⟩ := hT
    refine rJoinA (fun v2 => (Sum.inl v2) = w1) (fun v2 => ⟨[(4, .v (.c (.bool false)))], [], 2⟩) .ret (fun v2 hv => ?_) (fun hxs10 => ?_)
    ·
     subst hv; clear hl; replace hT := (sElimL hT)
     refine rInRet (rThenRet ?_)
     have hy := Option.some.inj hT; subst hy
     exact zEnd0 hX rfl
    refine rJoinA (fun v3 => (Sum.inr v3) = w1) (fun v3 => ⟨[(4, .v (.c (.bool false)))], [], 2⟩) (.exit 0) (fun v3 hv => ?_) (fun hxs11 => ?_)
    ·
     subst hv; clear hl; replace hT := (sElimR hT)
     refine rInHit (rThen (zA hX ?_))
     refine rRet ?_
     have hy := Option.some.inj hT; subst hy
     exact zEnd0 hX rfl
    refine rLoopM (ref25_row_b1 N a4 a7 a9) (fun s1 => ⟨[(2, .v (.c (.ptr 0 0 0 0 0 0))), (4, .v (.c (.bool false))), (5, .v (.c (.ptr 1 0 0 0 0 0))), (6, .v (.c (.int .i64 s1)))], [(0, .mem true 25 none (.flat [.cs [.int .i64 a1, .int .i64 a2, .int .i64 a3, .bool a4, .int .i64 a5, .fz (.int .i64) a6, .fz Zs1 a7, .int .i64 a8]])), (1, .mem true 49 none (.flat [.cs [.bool (a7.getD (a9).toNat Zd7).1, .int .i64 (a7.getD (a9).toNat Zd7).2.1, .int .i64 (a7.getD (a9).toNat Zd7).2.2.1, .fz Zs2 (a7.getD (a9).toNat Zd7).2.2.2]]))], 2⟩) hl (To.mk' [] 0 hε rfl zL zL) (fun s1 zs1 NNs1 hz hnexts1 houts1 => ?_)
    clear hl hT
    have hT := hz; clear hz
    refine rSeq ?_
    let x2 := (decide (s1 < ((a7.getD (a9).toNat Zd7).2.2.2.length : Int)))
    refine zA hX ?_
    refine zCond rfl rfl (fun hc => ?_) (fun hc => ?_)
    ·
     replace hT := sT hc hT
     refine rSkip (rThen (rSeq (rBlock ?_)))
     let c3 := (ref22_Right N a4 ((a7.getD (a9).toNat Zd7).2.2.2.getD (s1).toNat Zd1).1 ((a7.getD (a9).toNat Zd7).2.2.2.getD (s1).toNat Zd1).2.1 ((a7.getD (a9).toNat Zd7).2.2.2.getD (s1).toNat Zd1).2.2.1 ((a7.getD (a9).toNat Zd7).2.2.2.getD (s1).toNat Zd1).2.2.2.1 ((a7.getD (a9).toNat Zd7).2.2.2.getD (s1).toNat Zd1).2.2.2.2.1 ((a7.getD (a9).toNat Zd7).2.2.2.getD (s1).toNat Zd1).2.2.2.2.2.1 ((a7.getD (a9).toNat Zd7).2.2.2.getD (s1).toNat Zd1).2.2.2.2.2.2)
     replace hT := sIf hT; obtain ⟨⟨o1, o2, o3⟩, hT⟩ := hT
     refine rSeq (zDraw md0 0 [] hX mixed rfl rfl rfl rfl rfl ?_)
     refine rThen ?_
     refine zCond rfl rfl (fun hc => ?_) (fun hc => ?_)
     ·
      replace hT := sT hc hT
      refine zA hX ?_
      refine rRet (rInRet (rThenRet (rThenRet ?_)))
      exact zTo [] 0 hε (hxs10 _ (houts1 _ (Option.some.inj hT).symm))
     ·
      replace hT := sF hc hT
      refine rSkip (rInNormal (rThen ?_))
      replace hT := sIf hT; obtain ⟨o1, hT⟩ := hT
      refine zReg md0 hX rfl rfl rfl ?_
      exact hnexts1 _ (Option.some.inj hT).symm _ (To.mk' [] 0 hε rfl zL zL)
    ·
     replace hT := sF hc hT
     refine rExit (rThenExit (rThenExit ?_))
     exact zTo [] 0 hε (hxs11 _ (houts1 _ (Option.some.inj hT).symm))
   ·
    refine zCond rfl rfl (fun hc => ?_) (fun hc => ?_)
    ·
     replace hT := sT hc hT
     let x17 := (bif (bif (bif (bif (decide (a9 = 0)) then true else (decide ((a7.getD (a9).toNat Zd7).2.1 < 0))) then true else (decide ((3 : Int) < (a7.getD (a9).toNat Zd7).2.1))) then true else (decide ((a7.getD (a9).toNat Zd7).2.2.1 < 1))) then true else (decide ((31 : Int) < (a7.getD (a9).toNat Zd7).2.2.1)))
     refine zA hX ?_
     refine zCond rfl rfl (fun hc => ?_) (fun hc => ?_)
     ·
      replace hT := sT hc hT
      refine zA hX ?_
      refine rRet (rThenRet ?_)
      have hy := Option.some.inj hT; subst hy
      exact zEnd0 hX rfl
     ·
      replace hT := sF hc hT
      refine rSkip ?_
      exact zTo [] 0 hε (hjk1 _ hT)
    ·
     replace hT := sF hc hT
     let x18 := (bif (decide ((a7.getD (a9).toNat Zd7).2.1 ≠ 0)) then true else (decide ((a7.getD (a9).toNat Zd7).2.2.1 ≠ 0)))
     refine zA hX ?_
     refine zCond rfl rfl (fun hc => ?_) (fun hc => ?_)
     ·
      replace hT := sT hc hT
      refine zA hX ?_
      refine rRet (rThenRet ?_)
      have hy := Option.some.inj hT; subst hy
      exact zEnd0 hX rfl
     ·
      replace hT := sF hc hT
      refine rSkip ?_
      exact zTo [] 0 hε (hjk1 _ hT)
 ·
  cases h
def ref25_Cells_b1 (N : Nat) (a7 : Zt1) (s2 : Zt3) : Option (Zt3 ⊕ Zt11) :=
 bif (decide (s2.2.1 < (a7.length : Int))) then
  if (0 : Int) ≤ s2.2.1 ∧ s2.2.1 < (a7.length : Int) ∧ s2.2.2.length = s2.1 ∧ (s2.1 + (a7.getD (s2.2.1).toNat Zd7).2.2.2.length) * 240 ≤ 140737488355328 ∧ s2.1 + (a7.getD (s2.2.1).toNat Zd7).2.2.2.length ≤ 9223372036854775807 then
   if inK .i64 (s2.2.1 + 1) then
    some (.inl ((s2.1 + (a7.getD (s2.2.1).toNat Zd7).2.2.2.length), (s2.2.1 + 1), (s2.2.2 ++ (a7.getD (s2.2.1).toNat Zd7).2.2.2)))
   else none
  else none
 else
  some (.inr (s2.1, s2.2.2))
def ref25_Cells (N : Nat) (a1 : Int) (a2 : Int) (a3 : Int) (a4 : Bool) (a5 : Int) (a6 : (List Int)) (a7 : Zt1) (a8 : Int) : Option Zt4 :=
 (iter (ref25_Cells_b1 N a7) N (0, 0, [])).bind fun v1 =>
  if v1.1 = v1.2.length then
   some v1.2
  else none
def sp_ref25_Cells (N : Nat) : X.Spec := fun args lk => match args with
 | [.v (.agg [.cs [.int .i64 a1, .int .i64 a2, .int .i64 a3, .bool a4, .int .i64 a5, .fz (.int .i64) a6, .fz (.pair .bool (.pair (.int .i64) (.pair (.int .i64) (.sl (.pair (.int .i64) (.pair .bool (.pair (.int .i64) (.pair (.int .i64) (.pair (.arr 2 .i64) (.pair (.arr 6 .i64) (.arrS 6 (.pair .bool (.pair (.int .i64) (.int .i64)))))))))))))) a7, .int .i64 a8]])] => some ⟨(ref25_Cells N a1 a2 a3 a4 a5 a6 a7 a8).isSome = true, .v (.c (.fz Zs2 ((ref25_Cells N a1 a2 a3 a4 a5 a6 a7 a8).getD default))), [], []⟩
 | _ => none
set_option maxRecDepth 100000 in
set_option maxHeartbeats 1000000 in
theorem ok_ref25_Cells (N : Nat) : FnOK Tryd.prog gt0 14 (sp_ref25_Cells N) := by
 refine fnOK_handed Tryd.func14 rfl (by kernel_rfl) tt_ok (ktNil) ?_
 intro args lk r h hp
 unfold sp_ref25_Cells at h
 split at h
 ·
  rename_i a1 a2 a3 a4 a5 a6 a7 a8
  change (List Int) at a6
  change Zt1 at a7
  cases h
  obtain ⟨x, hx⟩ := Option.isSome_iff_exists.1 hp
  simp only [hx, Option.getD_some]
  refine hand0 rfl rfl (fun w0 M ε0 hX => ?_)
  refine rCount (fun hε => ?_)
  have hT : ref25_Cells N a1 a2 a3 a4 a5 a6 a7 a8 = some x := hx; clear hx hp; unfold ref25_Cells at hT
  refine zA hX ?_
  refine zA hX ?_
  refine rSeq (zA hX ?_)
  refine rBlock (rNil 42 18 (.lst Zs2 []) [(1, .v (.c (.ptr 0 0 0 0 0 0))), (2, .v (.c (.val (.slice none 0 0)))), (3, .v (.c (.sl 1 0 0 18))), (4, .v (.c (.int .i64 0)))] [(0, .mem true 25 none (.flat [.cs [.int .i64 a1, .int .i64 a2, .int .i64 a3, .bool a4, .int .i64 a5, .fz (.int .i64) a6, .fz Zs1 a7, .int .i64 a8]]))] (nil_lst _) zF zF ?_)
  replace hT := sBind hT; obtain ⟨w1, hl, hT⟩ := hT
  refine rJoinA (fun v1 => v1 = w1) (fun v1 => ⟨[(2, .v (.c (.val (.slice none 0 0)))), (3, .v (.c (.sl 1 0 v1.1 18)))], [(1, .mem true 42 (some 18) (.lst Zs2 v1.2))], 2⟩) (.exit 0) (fun v1 hv => ?_) (fun hxs20 => ?_)
  ·
   subst hv; clear hl
   refine rInHit (rThen (zA hX ?_))
   refine rRet ?_
   replace hT := sIf hT; obtain ⟨p1, hT⟩ := hT
   refine rFreezeQ 1 Zs2 v1.2 [(2, .v (.c (.fz Zs2 v1.2)))] [] rfl rfl zF zF ?_
   have hy := Option.some.inj hT; subst hy
   exact zEnd0 hX rfl
  refine rLoopM (ref25_Cells_b1 N a7) (fun s2 => ⟨[(1, .v (.c (.ptr 0 0 0 0 0 0))), (2, .v (.c (.val (.slice none 0 0)))), (3, .v (.c (.sl 1 0 s2.1 18))), (4, .v (.c (.int .i64 s2.2.1)))], [(0, .mem true 25 none (.flat [.cs [.int .i64 a1, .int .i64 a2, .int .i64 a3, .bool a4, .int .i64 a5, .fz (.int .i64) a6, .fz Zs1 a7, .int .i64 a8]])), (1, .mem true 42 (some 18) (.lst Zs2 s2.2.2))], 2⟩) hl (To.mk' [] 0 hε rfl zL zL) (fun s2 zs2 NNs2 hz hnexts2 houts2 => ?_)
  clear hl hT
  have hT := hz; clear hz
  refine rSeq (zA hX ?_)
  refine zCond rfl rfl (fun hc => ?_) (fun hc => ?_)
  ·
   replace hT := sT hc hT
   refine rSkip (rThen (rSeq (rBlock ?_)))
   replace hT := sIf hT; obtain ⟨⟨o1, o2, o3, o4, o5⟩, hT⟩ := hT
   refine zReg md0 hX rfl rfl rfl ?_
   refine rInNormal (rThen ?_)
   replace hT := sIf hT; obtain ⟨o1, hT⟩ := hT
   refine zReg md0 hX rfl rfl rfl ?_
   exact hnexts2 _ (Option.some.inj hT).symm _ (To.mk' [0, 2] 0 hε rfl zL zL)
  ·
   replace hT := sF hc hT
   refine rExit (rThenExit (rThenExit ?_))
   exact zTo [] 0 hε (hxs20 _ (houts2 _ (Option.some.inj hT).symm))
 ·
  cases h
def ref18_inside (N : Nat) (a1 : Int) (a2 : Int) : Option Bool :=
 if inK .i64 (a1 + 30) then
  let x1 := (bif (decide ((0 : Int) ≤ a1)) then (decide ((((a1 + 30) / 2) + ((a1 + 30) % 2)) < a2)) else false)
  if ((decide ((0 : Int) ≤ a1)) = true → (0 : Int) ≤ (a1 + 30)) ∧ ((decide ((0 : Int) ≤ a1)) = true → inK .i64 (((a1 + 30) / 2) + ((a1 + 30) % 2))) then
   some x1
  else none
 else none
def sp_ref18_inside (N : Nat) : X.Spec := fun args lk => match args with
 | [.v (.c (.int .i64 a1)), .v (.c (.int .i64 a2))] => some ⟨(ref18_inside N a1 a2).isSome = true, .v (.c (.bool ((ref18_inside N a1 a2).getD default))), [], []⟩
 | _ => none
set_option maxRecDepth 100000 in
set_option maxHeartbeats 1000000 in
theorem ok_ref18_inside (N : Nat) : FnOK Tryd.prog gt0 73 (sp_ref18_inside N) := by
 refine fnOK_handed Tryd.func73 rfl (by kernel_rfl) tt_ok (ktNil) ?_
 intro args lk r h hp
 unfold sp_ref18_inside at h
 split at h
 ·
  rename_i a1 a2
  cases h
  obtain ⟨x, hx⟩ := Option.isSome_iff_exists.1 hp
  simp only [hx, Option.getD_some]
  refine hand0 rfl rfl (fun w0 M ε0 hX => ?_)
  refine rCount (fun hε => ?_)
  have hT : ref18_inside N a1 a2 = some x := hx; clear hx hp; unfold ref18_inside at hT
  refine zA hX ?_
  replace hT := sIf hT; obtain ⟨o1, hT⟩ := hT
  refine zA hX ?_
  let x1 := (bif (decide ((0 : Int) ≤ a1)) then (decide ((((a1 + 30) / 2) + ((a1 + 30) % 2)) < a2)) else false)
  replace hT := sIf hT; obtain ⟨⟨o1, o2⟩, hT⟩ := hT
  refine rSeq (rRegC md0 hX rfl rfl rfl zO ?_)
  refine rThen (rRet ?_)
  have hy := Option.some.inj hT; subst hy
  exact zEnd0 hX rfl
 ·
  cases h
def ref18_May_b1 (N : Nat) (a3 : (List Int)) (s1 : Int) : Option (Int ⊕ (Unit ⊕ Unit)) :=
 bif (decide (s1 < 2)) then
  let x1 := (bif (decide ((a3.getD (s1).toNat 0) < (-32))) then true else (decide ((31 : Int) < (a3.getD (s1).toNat 0))))
  if (0 : Int) ≤ s1 ∧ s1 < 2 ∧ (s1).toNat < 2 ∧ ((!(decide ((a3.getD (s1).toNat 0) < (-32)))) = true → (0 : Int) ≤ s1) ∧ ((!(decide ((a3.getD (s1).toNat 0) < (-32)))) = true → s1 < 2) ∧ ((!(decide ((a3.getD (s1).toNat 0) < (-32)))) = true → (s1).toNat < 2) then
   bif x1 then
    some (.inr (Sum.inl ()))
   else
    if inK .i64 (s1 + 1) then
     some (.inl (s1 + 1))
    else none
  else none
 else
  some (.inr (Sum.inr ()))
def ref18_May (N : Nat) (a1 : Int) (a2 : Int) (a3 : (List Int)) : Option Bool :=
 let c1 := (ref16_Many N a1)
 if ((!(decide (a2 < 0))) = true → c1.isSome = true) then
  bif (bif (decide (a2 < 0)) then true else (decide ((c1.getD default) ≤ a2))) then
   some false
  else
   let c2 := (ref16_Across N a1)
   if c2.isSome = true ∧ (0 : Int) ≤ a2 ∧ (0 : Int) < (c2.getD default) then
    let c3 := (ref16_Across N a1)
    if c3.isSome = true ∧ (0 : Int) ≤ a2 ∧ (0 : Int) < (c3.getD default) then
     (iter (ref18_May_b1 N a3) N 0).bind fun w1 =>
      (Sum.elim (fun v1 =>
       some false
      )
       (fun v2 =>
        let c4 := (ref16_Size N a1)
        let c5 := (ref18_inside N (((32 : Int) * (a2 % (c2.getD default))) + (a3.getD 0 0)) ((c4.getD default).getD 0 0))
        let c6 := (ref16_Size N a1)
        let c7 := (ref18_inside N (((32 : Int) * (a2 / (c3.getD default))) + (a3.getD 1 0)) ((c6.getD default).getD 1 0))
        if inK .i64 ((32 : Int) * (a2 % (c2.getD default))) ∧ inK .i64 (((32 : Int) * (a2 % (c2.getD default))) + (a3.getD 0 0)) ∧ c4.isSome = true ∧ c5.isSome = true ∧ ((c5.getD default) = true → inK .i64 ((32 : Int) * (a2 / (c3.getD default)))) ∧ ((c5.getD default) = true → inK .i64 (((32 : Int) * (a2 / (c3.getD default))) + (a3.getD 1 0))) ∧ ((c5.getD default) = true → c6.isSome = true) ∧ ((c5.getD default) = true → c7.isSome = true) then
         some (bif (c5.getD default) then (c7.getD default) else false)
        else none
       )
      ) w1
    else none
   else none
 else none
def sp_ref18_May (N : Nat) : X.Spec := fun args lk => match args with
 | [.v (.c (.int .i64 a1)), .v (.c (.int .i64 a2)), .v (.agg [.ints 2 .i64 a3])] => some ⟨(ref18_May N a1 a2 a3).isSome = true, .v (.c (.bool ((ref18_May N a1 a2 a3).getD default))), [], []⟩
 | _ => none
set_option maxRecDepth 100000 in
set_option maxHeartbeats 1000000 in
theorem ok_ref18_May (N : Nat) : FnOK Tryd.prog gt0 44 (sp_ref18_May N) := by
 refine fnOK_handed Tryd.func44 rfl (by kernel_rfl) tt_ok (ktCons (ok_ref18_inside N) (ktCons (ok_ref16_Size N) (ktCons (ok_ref16_Across N) (ktCons (ok_ref16_Many N) (ktNil))))) ?_
 intro args lk r h hp
 unfold sp_ref18_May at h
 split at h
 ·
  rename_i a1 a2 a3
  change (List Int) at a3
  cases h
  obtain ⟨x, hx⟩ := Option.isSome_iff_exists.1 hp
  simp only [hx, Option.getD_some]
  refine hand0 rfl rfl (fun w0 M ε0 hX => ?_)
  refine rCount (fun hε => ?_)
  have hT : ref18_May N a1 a2 a3 = some x := hx; clear hx hp; unfold ref18_May at hT
  refine zA hX ?_
  refine rSeq ?_
  let c1 := (ref16_Many N a1)
  replace hT := sIf hT; obtain ⟨o1, hT⟩ := hT
  refine rSeq (rRegC md0 hX rfl rfl rfl zO ?_)
  refine rThen ?_
  refine zCond rfl rfl (fun hc => ?_) (fun hc => ?_)
  ·
   replace hT := sT hc hT
   refine zA hX ?_
   refine rRet (rThenRet ?_)
   have hy := Option.some.inj hT; subst hy
   exact zEnd0 hX rfl
  ·
   replace hT := sF hc hT
   refine rSkip (rThen ?_)
   let c2 := (ref16_Across N a1)
   replace hT := sIf hT; obtain ⟨⟨o1, o2, o3⟩, hT⟩ := hT
   refine zA hX ?_
   let c3 := (ref16_Across N a1)
   replace hT := sIf hT; obtain ⟨⟨o1, o2, o3⟩, hT⟩ := hT
   refine zA hX ?_
   refine rSeq (zA hX ?_)
   refine rBlock ?_
   replace hT := sBind hT; obtain ⟨w1, hl, hT⟩ := hT
   refine rJoinA (fun v1 => (Sum.inl v1) = w1) (fun v1 => ⟨[(6, .v (.c (.bool false)))], [], 1⟩) .ret (fun v1 hv => ?_) (fun hxs10 => ?_)
   ·
    subst hv; clear hl; replace hT := (sElimL hT)
    refine rInRet (rThenRet ?_)
    have hy := Option.some.inj hT; subst hy
    exact zEnd0 hX rfl
   refine rJoinA (fun v2 => (Sum.inr v2) = w1) (fun v2 => ⟨[(0, .v (.c (.int .i64 a1))), (5, .v (.c (.ptr 0 0 0 0 0 0))), (6, .v (.c (.bool false))), (7, .v (.c (.int .i64 (a2 % (c2.getD default))))), (8, .v (.c (.int .i64 (a2 / (c3.getD default)))))], [(0, .mem true 37 none (.flat [.ints 2 .i64 a3]))], 1⟩) (.exit 0) (fun v2 hv => ?_) (fun hxs11 => ?_)
   ·
    subst hv; clear hl; replace hT := (sElimR hT)
    refine rInHit (rThen ?_)
    let c4 := (ref16_Size N a1)
    let c5 := (ref18_inside N (((32 : Int) * (a2 % (c2.getD default))) + (a3.getD 0 0)) ((c4.getD default).getD 0 0))
    let c6 := (ref16_Size N a1)
    let c7 := (ref18_inside N (((32 : Int) * (a2 / (c3.getD default))) + (a3.getD 1 0)) ((c6.getD default).getD 1 0))
    replace hT := sIf hT; obtain ⟨⟨o1, o2, o3, o4, o5, o6, o7, o8⟩, hT⟩ := hT
    refine rSeq (rDrawM md0 0 [] hX mixed rfl rfl rfl rfl rfl zO ?_)
    refine rThen (rRet ?_)
    have hy := Option.some.inj hT; subst hy
    exact zEnd0 hX rfl
   refine rLoopM (ref18_May_b1 N a3) (fun s1 => ⟨[(0, .v (.c (.int .i64 a1))), (5, .v (.c (.ptr 0 0 0 0 0 0))), (6, .v (.c (.bool false))), (7, .v (.c (.int .i64 (a2 % (c2.getD default))))), (8, .v (.c (.int .i64 (a2 / (c3.getD default))))), (9, .v (.c (.int .i64 s1)))], [(0, .mem true 37 none (.flat [.ints 2 .i64 a3]))], 1⟩) hl (To.mk' [] 0 hε rfl zL zL) (fun s1 zs1 NNs1 hz hnexts1 houts1 => ?_)
   clear hl hT
   have hT := hz; clear hz
   refine rSeq (zA hX ?_)
   refine zCond rfl rfl (fun hc => ?_) (fun hc => ?_)
   ·
    replace hT := sT hc hT
    refine rSkip (rThen (rSeq (rBlock ?_)))
    let x1 := (bif (decide ((a3.getD (s1).toNat 0) < (-32))) then true else (decide ((31 : Int) < (a3.getD (s1).toNat 0))))
    replace hT := sIf hT; obtain ⟨⟨o1, o2, o3, o4, o5, o6⟩, hT⟩ := hT
    refine rSeq (rRegC md0 hX rfl rfl rfl zO ?_)
    refine rThen ?_
    refine zCond rfl rfl (fun hc => ?_) (fun hc => ?_)
    ·
     replace hT := sT hc hT
     refine zA hX ?_
     refine rRet (rInRet (rThenRet (rThenRet ?_)))
     exact zTo [] 0 hε (hxs10 _ (houts1 _ (Option.some.inj hT).symm))
    ·
     replace hT := sF hc hT
     refine rSkip (rInNormal (rThen ?_))
     replace hT := sIf hT; obtain ⟨o1, hT⟩ := hT
     refine zReg md0 hX rfl rfl rfl ?_
     exact hnexts1 _ (Option.some.inj hT).symm _ (To.mk' [] 0 hε rfl zL zL)
   ·
    replace hT := sF hc hT
    refine rExit (rThenExit (rThenExit ?_))
    exact zTo [] 0 hε (hxs11 _ (houts1 _ (Option.some.inj hT).symm))
 ·
  cases h
def ref25_Check_b1 (N : Nat) (a3 : Int) (c3 : (Option Zt4)) (s2 : Int) : Option (Int ⊕ (Unit ⊕ Unit)) :=
 bif (decide (s2 < ((c3.getD default).length : Int))) then
  let c4 := (ref21_Intra N ((c3.getD default).getD (s2).toNat Zd1).2.2.1)
  let c5 := (ref18_May N a3 s2 ((c3.getD default).getD (s2).toNat Zd1).2.2.2.2.1)
  if (0 : Int) ≤ s2 ∧ s2 < ((c3.getD default).length : Int) ∧ c4.isSome = true ∧ ((!(c4.getD default)) = true → (0 : Int) ≤ s2) ∧ ((!(c4.getD default)) = true → s2 < ((c3.getD default).length : Int)) ∧ ((!(c4.getD default)) = true → c5.isSome = true) then
   bif (bif (!(c4.getD default)) then (!(c5.getD default)) else false) then
    some (.inr (Sum.inl ()))
   else
    if inK .i64 (s2 + 1) then
     some (.inl (s2 + 1))
    else none
  else none
 else
  some (.inr (Sum.inr ()))
def ref25_Check_b2 (N : Nat) (a1 : Int) (a2 : Int) (a3 : Int) (a4 : Bool) (a5 : Int) (a6 : (List Int)) (a7 : Zt1) (a8 : Int) (s1 : Int) : Option (Int ⊕ (Unit ⊕ Unit)) :=
 bif (decide (s1 < (a7.length : Int))) then
  let c6 := (ref25_row N a1 a2 a3 a4 a5 a6 a7 a8 s1)
  if c6.isSome = true then
   bif (!(c6.getD default)) then
    some (.inr (Sum.inl ()))
   else
    if inK .i64 (s1 + 1) then
     some (.inl (s1 + 1))
    else none
  else none
 else
  some (.inr (Sum.inr ()))
def ref25_Check (N : Nat) (a1 : Int) (a2 : Int) (a3 : Int) (a4 : Bool) (a5 : Int) (a6 : (List Int)) (a7 : Zt1) (a8 : Int) : Option Int :=
 let c1 := (ref24_Right N a1 a2 a3 a4 a5 a6 a7 a8)
 let c2 := (ref16_Size N a3)
 let x3 := (bif (bif (bif (!(c1.getD default)) then true else (decide (a8 < 0))) then true else (decide ((262144 : Int) < a8))) then true else (decide ((a7.length : Int) ≠ ((c2.getD default).getD 2 0))))
 if c1.isSome = true ∧ ((!(bif (bif (!(c1.getD default)) then true else (decide (a8 < 0))) then true else (decide ((262144 : Int) < a8)))) = true → c2.isSome = true) then
  bif x3 then
   some 12
  else
   (iter (ref25_Check_b2 N a1 a2 a3 a4 a5 a6 a7 a8) N 0).bind fun w1 =>
    (Sum.elim (fun v1 =>
     some 12
    )
     (fun v2 =>
      let c3 := (ref25_Cells N a1 a2 a3 a4 a5 a6 a7 a8)
      if c3.isSome = true then
       (iter (ref25_Check_b1 N a3 c3) N 0).bind fun w2 =>
        (Sum.elim (fun v3 =>
         some 8
        )
         (fun v4 =>
          some 0
         )
        ) w2
      else none
     )
    ) w1
 else none
def sp_ref25_Check (N : Nat) : X.Spec := fun args lk => match args with
 | [.v (.agg [.cs [.int .i64 a1, .int .i64 a2, .int .i64 a3, .bool a4, .int .i64 a5, .fz (.int .i64) a6, .fz (.pair .bool (.pair (.int .i64) (.pair (.int .i64) (.sl (.pair (.int .i64) (.pair .bool (.pair (.int .i64) (.pair (.int .i64) (.pair (.arr 2 .i64) (.pair (.arr 6 .i64) (.arrS 6 (.pair .bool (.pair (.int .i64) (.int .i64)))))))))))))) a7, .int .i64 a8]])] => some ⟨(ref25_Check N a1 a2 a3 a4 a5 a6 a7 a8).isSome = true, .v (.c (.int .i64 ((ref25_Check N a1 a2 a3 a4 a5 a6 a7 a8).getD default))), [], []⟩
 | _ => none
set_option maxRecDepth 100000 in
set_option maxHeartbeats 1000000 in
theorem ok_ref25_Check (N : Nat) : FnOK Tryd.prog gt0 12 (sp_ref25_Check N) := by
 refine fnOK_handed Tryd.func12 rfl (by kernel_rfl) tt_ok (ktCons (ok_ref25_row N) (ktCons (ok_ref18_May N) (ktCons (ok_ref21_Intra N) (ktCons (ok_ref25_Cells N) (ktCons (ok_ref16_Size N) (ktCons (ok_ref24_Right N) (ktNil))))))) ?_
 intro args lk r h hp
 unfold sp_ref25_Check at h
 split at h
 ·
  rename_i a1 a2 a3 a4 a5 a6 a7 a8
  change (List Int) at a6
  change Zt1 at a7
  cases h
  obtain ⟨x, hx⟩ := Option.isSome_iff_exists.1 hp
  simp only [hx, Option.getD_some]
  refine hand0 rfl rfl (fun w0 M ε0 hX => ?_)
  refine rCount (fun hε => ?_)
  have hT : ref25_Check N a1 a2 a3 a4 a5 a6 a7 a8 = some x := hx; clear hx hp; unfold ref25_Check at hT
  refine zA hX ?_
  refine rSeq ?_
  let c1 := (ref24_Right N a1 a2 a3 a4 a5 a6 a7 a8)
  let c2 := (ref16_Size N a3)
  let x3 := (bif (bif (bif (!(c1.getD default)) then true else (decide (a8 < 0))) then true else (decide ((262144 : Int) < a8))) then true else (decide ((a7.length : Int) ≠ ((c2.getD default).getD 2 0))))
  replace hT := sIf hT; obtain ⟨⟨o1, o2⟩, hT⟩ := hT
  refine rSeq (rDrawM md0 0 [] hX mixed rfl rfl rfl rfl rfl zO ?_)
  refine rThen ?_
  refine zCond rfl rfl (fun hc => ?_) (fun hc => ?_)
  ·
   replace hT := sT hc hT
   refine zA hX ?_
   refine rRet (rThenRet ?_)
   have hy := Option.some.inj hT; subst hy
   exact zEnd0 hX rfl
  ·
   replace hT := sF hc hT
   refine rSkip (rThen (rSeq (zA hX ?_)))
   refine rBlock ?_
   replace hT := sBind hT; obtain ⟨w1, hl, hT⟩ := hT
   refine rJoinA (fun v1 => (Sum.inl v1) = w1) (fun v1 => ⟨[(2, .v (.c (.int .i64 12)))], [], 1⟩) .ret (fun v1 hv => ?_) (fun hxs10 => ?_)
   ·
    subst hv; clear hl; replace hT := (sElimL hT)
    refine rInRet (rThenRet ?_)
    have hy := Option.some.inj hT; subst hy
    exact zEnd0 hX rfl
   refine rJoinA (fun v2 => (Sum.inr v2) = w1) (fun v2 => ⟨[(1, .v (.c (.ptr 0 0 0 0 0 0))), (2, .v (.c (.int .i64 0)))], [(0, .mem true 25 none (.flat [.cs [.int .i64 a1, .int .i64 a2, .int .i64 a3, .bool a4, .int .i64 a5, .fz (.int .i64) a6, .fz Zs1 a7, .int .i64 a8]]))], 1⟩) (.exit 0) (fun v2 hv => ?_) (fun hxs11 => ?_)
   ·
    subst hv; clear hl; replace hT := (sElimR hT)
    refine rInHit (rThen ?_)
    let c3 := (ref25_Cells N a1 a2 a3 a4 a5 a6 a7 a8)
    replace hT := sIf hT; obtain ⟨o1, hT⟩ := hT
    refine zA hX ?_
    refine rSeq (zA hX ?_)
    refine rBlock ?_
    replace hT := sBind hT; obtain ⟨w2, hl, hT⟩ := hT
    refine rJoinA (fun v3 => (Sum.inl v3) = w2) (fun v3 => ⟨[(2, .v (.c (.int .i64 8)))], [], 1⟩) .ret (fun v3 hv => ?_) (fun hxs20 => ?_)
    ·
     subst hv; clear hl; replace hT := (sElimL hT)
     refine rInRet (rThenRet ?_)
     have hy := Option.some.inj hT; subst hy
     exact zEnd0 hX rfl
    refine rJoinA (fun v4 => (Sum.inr v4) = w2) (fun v4 => ⟨[(2, .v (.c (.int .i64 0)))], [], 1⟩) (.exit 2) (fun v4 hv => ?_) (fun hxs21 => ?_)
    ·
     subst hv; clear hl; replace hT := (sElimR hT)
     refine rInHit (rThen (zA hX ?_))
     refine rRet ?_
     have hy := Option.some.inj hT; subst hy
     exact zEnd0 hX rfl
    refine rLoopM (ref25_Check_b1 N a3 c3) (fun s2 => ⟨[(1, .v (.c (.ptr 0 0 0 0 0 0))), (2, .v (.c (.int .i64 0))), (4, .v (.c (.fz Zs2 (c3.getD default)))), (5, .v (.c (.int .i64 s2)))], [(0, .mem true 25 none (.flat [.cs [.int .i64 a1, .int .i64 a2, .int .i64 a3, .bool a4, .int .i64 a5, .fz (.int .i64) a6, .fz Zs1 a7, .int .i64 a8]]))], 1⟩) hl (To.mk' [] 0 hε rfl zL zL) (fun s2 zs2 NNs2 hz hnexts2 houts2 => ?_)
    clear hl hT
    have hT := hz; clear hz
    refine rSeq (zA hX ?_)
    refine zCond rfl rfl (fun hc => ?_) (fun hc => ?_)
    ·
     replace hT := sT hc hT
     refine rSkip (rThen (rSeq (rBlock ?_)))
     let c4 := (ref21_Intra N ((c3.getD default).getD (s2).toNat Zd1).2.2.1)
     let c5 := (ref18_May N a3 s2 ((c3.getD default).getD (s2).toNat Zd1).2.2.2.2.1)
     replace hT := sIf hT; obtain ⟨⟨o1, o2, o3, o4, o5, o6⟩, hT⟩ := hT
     refine rSeq (rDrawM md0 0 [] hX mixed rfl rfl rfl rfl rfl zO ?_)
     refine rThen ?_
     refine zCond rfl rfl (fun hc => ?_) (fun hc => ?_)
     ·
      replace hT := sT hc hT
      refine zA hX ?_
      refine rRet (rInRet (rThenRet (rThenRet ?_)))
      exact zTo [] 0 hε (hxs20 _ (houts2 _ (Option.some.inj hT).symm))
     ·
      replace hT := sF hc hT
      refine rSkip (rInNormal (rThen ?_))
      replace hT := sIf hT; obtain ⟨o1, hT⟩ := hT
      refine zReg md0 hX rfl rfl rfl ?_
      exact hnexts2 _ (Option.some.inj hT).symm _ (To.mk' [] 0 hε rfl zL zL)
    ·
     replace hT := sF hc hT
     refine rExit (rThenExit (rThenExit ?_))
     exact zTo [] 0 hε (hxs21 _ (houts2 _ (Option.some.inj hT).symm))
   refine rLoopM (ref25_Check_b2 N a1 a2 a3 a4 a5 a6 a7 a8) (fun s1 => ⟨[(1, .v (.c (.ptr 0 0 0 0 0 0))), (2, .v (.c (.int .i64 0))), (3, .v (.c (.int .i64 s1)))], [(0, .mem true 25 none (.flat [.cs [.int .i64 a1, .int .i64 a2, .int .i64 a3, .bool a4, .int .i64 a5, .fz (.int .i64) a6, .fz Zs1 a7, .int .i64 a8]]))], 1⟩) hl (To.mk' [] 0 hε rfl zL zL) (fun s1 zs1 NNs1 hz hnexts1 houts1 => ?_)
   clear hl hT
   have hT := hz; clear hz
   refine rSeq (zA hX ?_)
   refine zCond rfl rfl (fun hc => ?_) (fun hc => ?_)
   ·
    replace hT := sT hc hT
    refine rSkip (rThen (rSeq (rBlock ?_)))
    let c6 := (ref25_row N a1 a2 a3 a4 a5 a6 a7 a8 s1)
    replace hT := sIf hT; obtain ⟨o1, hT⟩ := hT
    refine zA hX ?_
    refine zCond rfl rfl (fun hc => ?_) (fun hc => ?_)
    ·
     replace hT := sT hc hT
     refine zA hX ?_
     refine rRet (rInRet (rThenRet (rThenRet ?_)))
     exact zTo [] 0 hε (hxs10 _ (houts1 _ (Option.some.inj hT).symm))
    ·
     replace hT := sF hc hT
     refine rSkip (rInNormal (rThen ?_))
     replace hT := sIf hT; obtain ⟨o1, hT⟩ := hT
     refine zReg md0 hX rfl rfl rfl ?_
     exact hnexts1 _ (Option.some.inj hT).symm _ (To.mk' [] 0 hε rfl zL zL)
   ·
    replace hT := sF hc hT
    refine rExit (rThenExit (rThenExit ?_))
    exact zTo [] 0 hε (hxs11 _ (houts1 _ (Option.some.inj hT).symm))
 ·
  cases h
def ref30_Same_v3_b1 (N : Nat) (a1 : (List Int)) (s1 : Unit) : Option (Unit ⊕ Unit) :=
 bif (decide ((0 : Int) < (a1.length : Int))) then
  none
 else
  some (.inr ())
def ref30_Same_v3 (N : Nat) (a1 : (List Int)) : Option Bool :=
 bif (decide ((a1.length : Int) ≠ 0)) then
  some false
 else
  (iter (ref30_Same_v3_b1 N a1) N ()).bind fun v1 =>
   some true
def sp_ref30_Same_v3 (N : Nat) : X.Spec := fun args lk => match args with
 | [.v (.c (.fz (.int .i64) a1)), .v (.c (.val (.slice none 0 0)))] => some ⟨(ref30_Same_v3 N a1).isSome = true, .v (.c (.bool ((ref30_Same_v3 N a1).getD default))), [], []⟩
 | _ => none
set_option maxRecDepth 100000 in
set_option maxHeartbeats 1000000 in
theorem ok_ref30_Same_v3 (N : Nat) : FnOK Tryd.prog gt0 24 (sp_ref30_Same_v3 N) := by
 refine fnOK_handed Tryd.func24 rfl (by kernel_rfl) tt_ok (ktNil) ?_
 intro args lk r h hp
 unfold sp_ref30_Same_v3 at h
 split at h
 ·
  rename_i a1
  change (List Int) at a1
  cases h
  obtain ⟨x, hx⟩ := Option.isSome_iff_exists.1 hp
  simp only [hx, Option.getD_some]
  refine hand0 rfl rfl (fun w0 M ε0 hX => ?_)
  refine rCount (fun hε => ?_)
  have hT : ref30_Same_v3 N a1 = some x := hx; clear hx hp; unfold ref30_Same_v3 at hT
  refine zA hX ?_
  refine rSeq (zA hX ?_)
  refine zCond rfl rfl (fun hc => ?_) (fun hc => ?_)
  ·
   replace hT := sT hc hT
   refine zA hX ?_
   refine rRet (rThenRet ?_)
   have hy := Option.some.inj hT; subst hy
   exact zEnd0 hX rfl
  ·
   replace hT := sF hc hT
   refine rSkip (rThen (rSeq (zA hX ?_)))
   refine rBlock ?_
   replace hT := sBind hT; obtain ⟨w1, hl, hT⟩ := hT
   refine rJoinA (fun v1 => v1 = w1) (fun v1 => ⟨[(4, .v (.c (.bool false)))], [], 0⟩) (.exit 0) (fun v1 hv => ?_) (fun hxs10 => ?_)
   ·
    subst hv; clear hl
    refine rInHit (rThen (zA hX ?_))
    refine rRet ?_
    have hy := Option.some.inj hT; subst hy
    exact zEnd0 hX rfl
   refine rLoopM (ref30_Same_v3_b1 N a1) (fun s1 => ⟨[(0, .v (.c (.fz (.int .i64) a1))), (1, .v (.c (.val (.slice none 0 0)))), (4, .v (.c (.bool false))), (5, .v (.c (.int .i64 0)))], [], 0⟩) hl (To.mk' [] 0 hε rfl zL zL) (fun s1 zs1 NNs1 hz hnexts1 houts1 => ?_)
   clear hl hT
   have hT := hz; clear hz
   refine rSeq (zA hX ?_)
   refine zCond rfl rfl (fun hc => ?_) (fun hc => ?_)
   ·
    replace hT := sT hc hT
    refine rSkip (rThen (rSeq (rBlock (rSeq ?_))))
    cases hT
   ·
    replace hT := sF hc hT
    refine rExit (rThenExit (rThenExit ?_))
    exact zTo [] 0 hε (hxs10 _ (houts1 _ (Option.some.inj hT).symm))
 ·
  cases h
def ref37_Same_v1 (N : Nat) (a1 : Int) (a2 : (List Int)) (a3 : (List Int)) (a4 : (List Int)) (a5 : Int) : Option Bool :=
 let c1 := (ref30_Same_v3 N a2)
 let c2 := (ref30_Same_v3 N a3)
 let c3 := (ref30_Same_v3 N a4)
 let x1 := (bif (bif (bif (decide (a1 = a5)) then (c1.getD default) else false) then (c2.getD default) else false) then (c3.getD default) else false)
 if ((decide (a1 = a5)) = true → c1.isSome = true) ∧ ((bif (decide (a1 = a5)) then (c1.getD default) else false) = true → c2.isSome = true) ∧ ((bif (bif (decide (a1 = a5)) then (c1.getD default) else false) then (c2.getD default) else false) = true → c3.isSome = true) then
  some x1
 else none
def sp_ref37_Same_v1 (N : Nat) : X.Spec := fun args lk => match args with
 | [.v (.agg [.cs [.int .i64 a1, .fz (.int .i64) a2, .fz (.int .i64) a3, .fz (.int .i64) a4]]), .v (.agg [.cs [.int .i64 a5, .val (.slice none 0 0), .val (.slice none 0 0), .val (.slice none 0 0)]])] => some ⟨(ref37_Same_v1 N a1 a2 a3 a4 a5).isSome = true, .v (.c (.bool ((ref37_Same_v1 N a1 a2 a3 a4 a5).getD default))), [], []⟩
 | _ => none
set_option maxRecDepth 100000 in
set_option maxHeartbeats 1000000 in
theorem ok_ref37_Same_v1 (N : Nat) : FnOK Tryd.prog gt0 31 (sp_ref37_Same_v1 N) := by
 refine fnOK_handed Tryd.func31 rfl (by kernel_rfl) tt_ok (ktCons (ok_ref30_Same_v3 N) (ktNil)) ?_
 intro args lk r h hp
 unfold sp_ref37_Same_v1 at h
 split at h
 ·
  rename_i a1 a2 a3 a4 a5
  change (List Int) at a2
  change (List Int) at a3
  change (List Int) at a4
  cases h
  obtain ⟨x, hx⟩ := Option.isSome_iff_exists.1 hp
  simp only [hx, Option.getD_some]
  refine hand0 rfl rfl (fun w0 M ε0 hX => ?_)
  refine rCount (fun hε => ?_)
  have hT : ref37_Same_v1 N a1 a2 a3 a4 a5 = some x := hx; clear hx hp; unfold ref37_Same_v1 at hT
  refine zA hX ?_
  let c1 := (ref30_Same_v3 N a2)
  let c2 := (ref30_Same_v3 N a3)
  let c3 := (ref30_Same_v3 N a4)
  let x1 := (bif (bif (bif (decide (a1 = a5)) then (c1.getD default) else false) then (c2.getD default) else false) then (c3.getD default) else false)
  replace hT := sIf hT; obtain ⟨⟨o1, o2, o3⟩, hT⟩ := hT
  refine rSeq (rRegC md0 hX rfl rfl rfl zO ?_)
  refine rThen (rRet ?_)
  have hy := Option.some.inj hT; subst hy
  exact zEnd0 hX rfl
 ·
  cases h
def ref20_Next_b1 (N : Nat) (a2 : Int) (s2 : (Int × Int)) : Option ((Int × Int) ⊕ Int) :=
 let c2 := (ref01_Clip N a2 (-2) 0)
 if c2.isSome = true then
  bif (bif (decide ((c2.getD default) < s2.2)) then (decide ((1 : Int) < s2.1)) else false) then
   if inK .i64 (s2.1 - 1) then
    if inK .i64 (s2.2 - 1) then
     some (.inl ((s2.1 - 1), (s2.2 - 1)))
    else none
   else none
  else
   some (.inr s2.1)
 else none
def ref20_Next_b2 (N : Nat) (a2 : Int) (s1 : (Int × Int)) : Option ((Int × Int) ⊕ Int) :=
 let c3 := (ref01_Clip N a2 0 2)
 if c3.isSome = true then
  bif (bif (decide (s1.2 < (c3.getD default))) then (decide (s1.1 < 31)) else false) then
   if inK .i64 (s1.1 + 1) then
    if inK .i64 (s1.2 + 1) then
     some (.inl ((s1.1 + 1), (s1.2 + 1)))
    else none
   else none
  else
   some (.inr s1.1)
 else none
def ref20_Next (N : Nat) (a1 : Int) (a2 : Int) : Option Int :=
 let c1 := (ref01_Clip N a1 1 31)
 if c1.isSome = true then
  (iter (ref20_Next_b2 N a2) N ((c1.getD default), 0)).bind fun v1 =>
   (iter (ref20_Next_b1 N a2) N (v1, 0)).bind fun v2 =>
    some v2
 else none
def sp_ref20_Next (N : Nat) : X.Spec := fun args lk => match args with
 | [.v (.c (.int .i64 a1)), .v (.c (.int .i64 a2))] => some ⟨(ref20_Next N a1 a2).isSome = true, .v (.c (.int .i64 ((ref20_Next N a1 a2).getD default))), [], []⟩
 | _ => none
set_option maxRecDepth 100000 in
set_option maxHeartbeats 1000000 in
theorem ok_ref20_Next (N : Nat) : FnOK Tryd.prog gt0 57 (sp_ref20_Next N) := by
 refine fnOK_handed Tryd.func57 rfl (by kernel_rfl) tt_ok (ktCons (ok_ref01_Clip N) (ktNil)) ?_
 intro args lk r h hp
 unfold sp_ref20_Next at h
 split at h
 ·
  rename_i a1 a2
  cases h
  obtain ⟨x, hx⟩ := Option.isSome_iff_exists.1 hp
  simp only [hx, Option.getD_some]
  refine hand0 rfl rfl (fun w0 M ε0 hX => ?_)
  refine rCount (fun hε => ?_)
  have hT : ref20_Next N a1 a2 = some x := hx; clear hx hp; unfold ref20_Next at hT
  refine zA hX ?_
  let c1 := (ref01_Clip N a1 1 31)
  replace hT := sIf hT; obtain ⟨o1, hT⟩ := hT
  refine zA hX ?_
  refine rSeq (zA hX ?_)
  refine rBlock ?_
  replace hT := sBind hT; obtain ⟨w1, hl, hT⟩ := hT
  refine rJoinA (fun v1 => v1 = w1) (fun v1 => ⟨[(1, .v (.c (.int .i64 a2))), (4, .v (.c (.int .i64 0))), (5, .v (.c (.int .i64 v1)))], [], 0⟩) (.exit 0) (fun v1 hv => ?_) (fun hxs10 => ?_)
  ·
   subst hv; clear hl
   refine rInHit (rThen (rSeq (zA hX ?_)))
   refine rBlock ?_
   replace hT := sBind hT; obtain ⟨w2, hl, hT⟩ := hT
   refine rJoinA (fun v2 => v2 = w2) (fun v2 => ⟨[(4, .v (.c (.int .i64 0))), (5, .v (.c (.int .i64 v2)))], [], 0⟩) (.exit 2) (fun v2 hv => ?_) (fun hxs20 => ?_)
   ·
    subst hv; clear hl
    refine rInHit (rThen (zA hX ?_))
    refine rRet ?_
    have hy := Option.some.inj hT; subst hy
    exact zEnd0 hX rfl
   refine rLoopM (ref20_Next_b1 N a2) (fun s2 => ⟨[(1, .v (.c (.int .i64 a2))), (4, .v (.c (.int .i64 0))), (5, .v (.c (.int .i64 s2.1))), (7, .v (.c (.int .i64 s2.2)))], [], 0⟩) hl (To.mk' [] 0 hε rfl zL zL) (fun s2 zs2 NNs2 hz hnexts2 houts2 => ?_)
   clear hl hT
   have hT := hz; clear hz
   refine rSeq ?_
   let c2 := (ref01_Clip N a2 (-2) 0)
   replace hT := sIf hT; obtain ⟨o1, hT⟩ := hT
   refine zA hX ?_
   refine zCond rfl rfl (fun hc => ?_) (fun hc => ?_)
   ·
    replace hT := sT hc hT
    refine rSkip (rThen (rSeq (rBlock ?_)))
    replace hT := sIf hT; obtain ⟨o1, hT⟩ := hT
    refine zReg md0 hX rfl rfl rfl ?_
    refine rInNormal (rThen ?_)
    replace hT := sIf hT; obtain ⟨o1, hT⟩ := hT
    refine zReg md0 hX rfl rfl rfl ?_
    exact hnexts2 _ (Option.some.inj hT).symm _ (To.mk' [] 0 hε rfl zL zL)
   ·
    replace hT := sF hc hT
    refine rExit (rThenExit (rThenExit ?_))
    exact zTo [] 0 hε (hxs20 _ (houts2 _ (Option.some.inj hT).symm))
  refine rLoopM (ref20_Next_b2 N a2) (fun s1 => ⟨[(1, .v (.c (.int .i64 a2))), (4, .v (.c (.int .i64 0))), (5, .v (.c (.int .i64 s1.1))), (6, .v (.c (.int .i64 s1.2)))], [], 0⟩) hl (To.mk' [] 0 hε rfl zL zL) (fun s1 zs1 NNs1 hz hnexts1 houts1 => ?_)
  clear hl hT
  have hT := hz; clear hz
  refine rSeq ?_
  let c3 := (ref01_Clip N a2 0 2)
  replace hT := sIf hT; obtain ⟨o1, hT⟩ := hT
  refine zA hX ?_
  refine zCond rfl rfl (fun hc => ?_) (fun hc => ?_)
  ·
   replace hT := sT hc hT
   refine rSkip (rThen (rSeq (rBlock ?_)))
   replace hT := sIf hT; obtain ⟨o1, hT⟩ := hT
   refine zReg md0 hX rfl rfl rfl ?_
   refine rInNormal (rThen ?_)
   replace hT := sIf hT; obtain ⟨o1, hT⟩ := hT
   refine zReg md0 hX rfl rfl rfl ?_
   exact hnexts1 _ (Option.some.inj hT).symm _ (To.mk' [] 0 hε rfl zL zL)
  ·
   replace hT := sF hc hT
   refine rExit (rThenExit (rThenExit ?_))
   exact zTo [] 0 hε (hxs10 _ (houts1 _ (Option.some.inj hT).symm))
 ·
  cases h
def ref30_First_b2 (N : Nat) (a7 : Zt1) (s2 : Zt12) (s3 : (Int × Int)) : Option ((Int × Int) ⊕ (Int × Int × Int × Bool)) :=
 let x2 := (decide (s3.2 < ((a7.getD (s2.2.2.1).toNat Zd7).2.2.2.length : Int)))
 if (0 : Int) ≤ s2.2.2.1 ∧ s2.2.2.1 < (a7.length : Int) then
  bif x2 then
   let c1 := (ref20_Next N s3.1 ((a7.getD (s2.2.2.1).toNat Zd7).2.2.2.getD (s3.2).toNat Zd1).2.2.2.1)
   if (0 : Int) ≤ s2.2.2.1 ∧ s2.2.2.1 < (a7.length : Int) ∧ (0 : Int) ≤ s3.2 ∧ s3.2 < ((a7.getD (s2.2.2.1).toNat Zd7).2.2.2.length : Int) ∧ c1.isSome = true then
    if inK .i64 (s3.2 + 1) then
     some (.inl ((c1.getD default), (s3.2 + 1)))
    else none
   else none
  else
   some (.inr (s3.1, s3.2, s3.2, x2))
 else none
def ref30_First_b1 (N : Nat) (a7 : Zt1) (s2 : Zt12) : Option (Zt12 ⊕ Zt9) :=
 bif (decide (s2.2.2.1 < (a7.length : Int))) then
  if (0 : Int) ≤ s2.2.2.1 ∧ s2.2.2.1 < (a7.length : Int) then
   if ((a7.getD (s2.2.2.1).toNat Zd7).1 = true → (0 : Int) ≤ s2.2.2.1) ∧ ((a7.getD (s2.2.2.1).toNat Zd7).1 = true → s2.2.2.1 < (a7.length : Int)) then
    let x1 := (bif (a7.getD (s2.2.2.1).toNat Zd7).1 then (a7.getD (s2.2.2.1).toNat Zd7).2.2.1 else s2.2.1)
    if 1 ≤ 1 ∧ s2.2.2.2.1 = s2.1 ∧ (s2.1 + 1) * 8 ≤ 140737488355328 ∧ s2.1 + 1 ≤ 9223372036854775807 then
     (iter (ref30_First_b2 N a7 s2) N (x1, 0)).bind fun v2 =>
      if inK .i64 (s2.2.2.1 + 1) then
       some (.inl ((s2.1 + 1), v2.1, (s2.2.2.1 + 1), (s2.2.2.2.1 + 1), (s2.2.2.2.2 ++ (((List.replicate 1 0).set 0 x1).take 1))))
      else none
    else none
   else none
  else none
 else
  some (.inr (s2.1, s2.2.2.2.1, s2.2.2.2.2))
def ref30_First (N : Nat) (a1 : Int) (a2 : Int) (a3 : Int) (a4 : Bool) (a5 : Int) (a6 : (List Int)) (a7 : Zt1) (a8 : Int) : Option (List Int) :=
 (iter (ref30_First_b1 N a7) N (0, a5, 0, 0, [])).bind fun v1 =>
  if v1.1 = v1.2.2.length then
   some v1.2.2
  else none
def sp_ref30_First (N : Nat) : X.Spec := fun args lk => match args with
 | [.v (.agg [.cs [.int .i64 a1, .int .i64 a2, .int .i64 a3, .bool a4, .int .i64 a5, .fz (.int .i64) a6, .fz (.pair .bool (.pair (.int .i64) (.pair (.int .i64) (.sl (.pair (.int .i64) (.pair .bool (.pair (.int .i64) (.pair (.int .i64) (.pair (.arr 2 .i64) (.pair (.arr 6 .i64) (.arrS 6 (.pair .bool (.pair (.int .i64) (.int .i64)))))))))))))) a7, .int .i64 a8]])] => some ⟨(ref30_First N a1 a2 a3 a4 a5 a6 a7 a8).isSome = true, .v (.c (.fz (.int .i64) ((ref30_First N a1 a2 a3 a4 a5 a6 a7 a8).getD default))), [], []⟩
 | _ => none
set_option maxRecDepth 100000 in
set_option maxHeartbeats 1000000 in
theorem ok_ref30_First (N : Nat) : FnOK Tryd.prog gt0 26 (sp_ref30_First N) := by
 refine fnOK_handed Tryd.func26 rfl (by kernel_rfl) tt_ok (ktCons (ok_ref20_Next N) (ktNil)) ?_
 intro args lk r h hp
 unfold sp_ref30_First at h
 split at h
 ·
  rename_i a1 a2 a3 a4 a5 a6 a7 a8
  change (List Int) at a6
  change Zt1 at a7
  cases h
  obtain ⟨x, hx⟩ := Option.isSome_iff_exists.1 hp
  simp only [hx, Option.getD_some]
  refine hand0 rfl rfl (fun w0 M ε0 hX => ?_)
  refine rCount (fun hε => ?_)
  have hT : ref30_First N a1 a2 a3 a4 a5 a6 a7 a8 = some x := hx; clear hx hp; unfold ref30_First at hT
  refine zA hX ?_
  refine zA hX ?_
  refine zA hX ?_
  refine rSeq (zA hX ?_)
  refine rBlock (rNil 3 1 (.flat [.ints 0 .i64 []]) [(1, .v (.c (.ptr 0 0 0 0 0 0))), (2, .v (.c (.val (.slice none 0 0)))), (3, .v (.c (.sl 1 0 0 1))), (4, .v (.c (.int .i64 a5))), (5, .v (.c (.int .i64 0)))] [(0, .mem true 25 none (.flat [.cs [.int .i64 a1, .int .i64 a2, .int .i64 a3, .bool a4, .int .i64 a5, .fz (.int .i64) a6, .fz Zs1 a7, .int .i64 a8]]))] (nil_ints _) zF zF ?_)
  replace hT := sBind hT; obtain ⟨w1, hl, hT⟩ := hT
  refine rJoinA (fun v1 => v1 = w1) (fun v1 => ⟨[(2, .v (.c (.val (.slice none 0 0)))), (3, .v (.c (.sl 1 0 v1.1 1)))], [(1, .mem true 3 (some 1) (.flat [.ints v1.2.1 .i64 v1.2.2]))], 2⟩) (.exit 0) (fun v1 hv => ?_) (fun hxs20 => ?_)
  ·
   subst hv; clear hl
   refine rInHit (rThen (zA hX ?_))
   refine rRet ?_
   replace hT := sIf hT; obtain ⟨p1, hT⟩ := hT
   refine rFreezeQ 1 (.int .i64) v1.2.2 [(2, .v (.c (.fz (.int .i64) v1.2.2)))] [] rfl rfl zF zF ?_
   have hy := Option.some.inj hT; subst hy
   exact zEnd0 hX rfl
  refine rLoopM (ref30_First_b1 N a7) (fun s2 => ⟨[(1, .v (.c (.ptr 0 0 0 0 0 0))), (2, .v (.c (.val (.slice none 0 0)))), (3, .v (.c (.sl 1 0 s2.1 1))), (4, .v (.c (.int .i64 s2.2.1))), (5, .v (.c (.int .i64 s2.2.2.1)))], [(0, .mem true 25 none (.flat [.cs [.int .i64 a1, .int .i64 a2, .int .i64 a3, .bool a4, .int .i64 a5, .fz (.int .i64) a6, .fz Zs1 a7, .int .i64 a8]])), (1, .mem true 3 (some 1) (.flat [.ints s2.2.2.2.1 .i64 s2.2.2.2.2]))], 2⟩) hl (To.mk' [] 0 hε rfl zL zL) (fun s2 zs2 NNs2 hz hnexts2 houts2 => ?_)
  clear hl hT
  have hT := hz; clear hz
  refine rSeq (zA hX ?_)
  refine zCond rfl rfl (fun hc => ?_) (fun hc => ?_)
  ·
   replace hT := sT hc hT
   refine rSkip (rThen (rSeq (rBlock (rSeq ?_))))
   replace hT := sIf hT; obtain ⟨⟨o1, o2⟩, hT⟩ := hT
   refine zA hX ?_
   replace hT := sIf hT; obtain ⟨⟨q1, q2⟩, hT⟩ := hT
   refine rJoin ⟨[(1, .v (.c (.ptr 0 0 0 0 0 0))), (2, .v (.c (.val (.slice none 0 0)))), (3, .v (.c (.sl 1 0 s2.1 1))), (4, .v (.c (.int .i64 (bif (a7.getD (s2.2.2.1).toNat Zd7).1 then (a7.getD (s2.2.2.1).toNat Zd7).2.2.1 else s2.2.1)))), (5, .v (.c (.int .i64 s2.2.2.1))), (9, .v (.c (.int .i64 s2.2.2.1))), (10, .v (.c (.ptr 0 0 0 6 0 0))), (11, .v (.c (.fz Zs1 a7))), (12, .v (.c (.int .i64 (a7.length : Int)))), (13, .v (.c (.bool (decide (s2.2.2.1 < (a7.length : Int)))))), (16, .v (.c (.ptr 0 0 0 6 0 0))), (17, .v (.c (.fz Zs1 a7))), (18, .v (.c (.int .i64 s2.2.2.1))), (19, .v (.c (.fp Zs1 (a7.getD (s2.2.2.1).toNat Zd7) 0 0 0))), (20, .v (.c (.fp Zs1 (a7.getD (s2.2.2.1).toNat Zd7) 0 0 0))), (21, .v (.c (.bool (a7.getD (s2.2.2.1).toNat Zd7).1)))], [(0, .mem true 25 none (.flat [.cs [.int .i64 a1, .int .i64 a2, .int .i64 a3, .bool a4, .int .i64 a5, .fz (.int .i64) a6, .fz Zs1 a7, .int .i64 a8]])), (1, .mem true 3 (some 1) (.flat [.ints s2.2.2.2.1 .i64 s2.2.2.2.2]))], 2⟩ ?_ (fun hj => ?_)
   ·
    let x1 := (bif (a7.getD (s2.2.2.1).toNat Zd7).1 then (a7.getD (s2.2.2.1).toNat Zd7).2.2.1 else s2.2.1)
    refine rThen ?_
    replace hT := sIf hT; obtain ⟨⟨o1, o2, o3, o4⟩, hT⟩ := hT
    refine zA hX ?_
    refine zA hX ?_
    refine rBlock ?_
    replace hT := sBind hT; obtain ⟨w2, hl, hT⟩ := hT
    refine rJoinA (fun v2 => v2 = w2) (fun v2 => ⟨[(1, .v (.c (.ptr 0 0 0 0 0 0))), (2, .v (.c (.val (.slice none 0 0)))), (3, .v (.c (.sl 3 0 (s2.1 + 1) 1))), (4, .v (.c (.int .i64 v2.1))), (5, .v (.c (.int .i64 s2.2.2.1))), (6, .v (.c (.int .i64 v2.2.1))), (9, .v (.c (.int .i64 s2.2.2.1))), (10, .v (.c (.ptr 0 0 0 6 0 0))), (11, .v (.c (.fz Zs1 a7))), (12, .v (.c (.int .i64 (a7.length : Int)))), (13, .v (.c (.bool (decide (s2.2.2.1 < (a7.length : Int)))))), (16, .v (.c (.ptr 0 0 0 6 0 0))), (17, .v (.c (.fz Zs1 a7))), (18, .v (.c (.int .i64 s2.2.2.1))), (19, .v (.c (.fp Zs1 (a7.getD (s2.2.2.1).toNat Zd7) 0 0 0))), (20, .v (.c (.fp Zs1 (a7.getD (s2.2.2.1).toNat Zd7) 0 0 0))), (21, .v (.c (.bool (a7.getD (s2.2.2.1).toNat Zd7).1))), (28, .v (.c (.sl 1 0 s2.1 1))), (29, .v (.c (.int .i64 x1))), (30, .v (.c (.sl 2 0 1 1))), (31, .v (.c (.sl 3 0 (s2.1 + 1) 1))), (32, .v (.c (.int .i64 v2.2.2.1))), (33, .v (.c (.ptr 0 0 0 6 0 0))), (34, .v (.c (.fz Zs1 a7))), (35, .v (.c (.int .i64 s2.2.2.1))), (36, .v (.c (.fp Zs1 (a7.getD (s2.2.2.1).toNat Zd7) 0 0 0))), (37, .v (.c (.fp Zs1 (a7.getD (s2.2.2.1).toNat Zd7) 3 0 0))), (38, .v (.c (.fz Zs2 (a7.getD (s2.2.2.1).toNat Zd7).2.2.2))), (39, .v (.c (.int .i64 ((a7.getD (s2.2.2.1).toNat Zd7).2.2.2.length : Int)))), (40, .v (.c (.bool v2.2.2.2)))], [(0, .mem true 25 none (.flat [.cs [.int .i64 a1, .int .i64 a2, .int .i64 a3, .bool a4, .int .i64 a5, .fz (.int .i64) a6, .fz Zs1 a7, .int .i64 a8]])), (2, .mem true 3 (some 1) (.flat [.ints 1 .i64 ((List.replicate 1 0).set 0 x1)])), (3, .mem true 3 (some 1) (.flat [.ints (s2.2.2.2.1 + 1) .i64 (s2.2.2.2.2 ++ (((List.replicate 1 0).set 0 x1).take 1))]))], 4⟩) (.exit 2) (fun v2 hv => ?_) (fun hxs30 => ?_)
    ·
     subst hv; clear hl
     refine rInHit (rInNormal (rThen ?_))
     replace hT := sIf hT; obtain ⟨o1, hT⟩ := hT
     refine zReg md0 hX rfl rfl rfl ?_
     exact hnexts2 _ (Option.some.inj hT).symm _ (To.mk' [0, 3] 0 hε rfl zL zL)
    refine rLoopM (ref30_First_b2 N a7 s2) (fun s3 => ⟨[(1, .v (.c (.ptr 0 0 0 0 0 0))), (2, .v (.c (.val (.slice none 0 0)))), (3, .v (.c (.sl 3 0 (s2.1 + 1) 1))), (4, .v (.c (.int .i64 s3.1))), (5, .v (.c (.int .i64 s2.2.2.1))), (6, .v (.c (.int .i64 s3.2))), (9, .v (.c (.int .i64 s2.2.2.1))), (10, .v (.c (.ptr 0 0 0 6 0 0))), (11, .v (.c (.fz Zs1 a7))), (12, .v (.c (.int .i64 (a7.length : Int)))), (13, .v (.c (.bool (decide (s2.2.2.1 < (a7.length : Int)))))), (16, .v (.c (.ptr 0 0 0 6 0 0))), (17, .v (.c (.fz Zs1 a7))), (18, .v (.c (.int .i64 s2.2.2.1))), (19, .v (.c (.fp Zs1 (a7.getD (s2.2.2.1).toNat Zd7) 0 0 0))), (20, .v (.c (.fp Zs1 (a7.getD (s2.2.2.1).toNat Zd7) 0 0 0))), (21, .v (.c (.bool (a7.getD (s2.2.2.1).toNat Zd7).1))), (28, .v (.c (.sl 1 0 s2.1 1))), (29, .v (.c (.int .i64 x1))), (30, .v (.c (.sl 2 0 1 1))), (31, .v (.c (.sl 3 0 (s2.1 + 1) 1)))], [(0, .mem true 25 none (.flat [.cs [.int .i64 a1, .int .i64 a2, .int .i64 a3, .bool a4, .int .i64 a5, .fz (.int .i64) a6, .fz Zs1 a7, .int .i64 a8]])), (2, .mem true 3 (some 1) (.flat [.ints 1 .i64 ((List.replicate 1 0).set 0 x1)])), (3, .mem true 3 (some 1) (.flat [.ints (s2.2.2.2.1 + 1) .i64 (s2.2.2.2.2 ++ (((List.replicate 1 0).set 0 x1).take 1))]))], 4⟩) hl (To.mk' [] 0 hε rfl zL zL) (fun s3 zs3 NNs3 hz hnexts3 houts3 => ?_)
    clear hl hT
    have hT := hz; clear hz
    refine rSeq ?_
    let x2 := (decide (s3.2 < ((a7.getD (s2.2.2.1).toNat Zd7).2.2.2.length : Int)))
    replace hT := sIf hT; obtain ⟨⟨o1, o2⟩, hT⟩ := hT
    refine zA hX ?_
    refine zCond rfl rfl (fun hc => ?_) (fun hc => ?_)
    ·
     replace hT := sT hc hT
     refine rSkip (rThen (rSeq (rBlock ?_)))
     let c1 := (ref20_Next N s3.1 ((a7.getD (s2.2.2.1).toNat Zd7).2.2.2.getD (s3.2).toNat Zd1).2.2.2.1)
     replace hT := sIf hT; obtain ⟨⟨o1, o2, o3, o4, o5⟩, hT⟩ := hT
     refine zReg md0 hX rfl rfl rfl ?_
     refine rInNormal (rThen ?_)
     replace hT := sIf hT; obtain ⟨o1, hT⟩ := hT
     refine zReg md0 hX rfl rfl rfl ?_
     exact hnexts3 _ (Option.some.inj hT).symm _ (To.mk' [] 0 hε rfl zL zL)
    ·
     replace hT := sF hc hT
     refine rExit (rThenExit (rThenExit ?_))
     exact zTo [] 0 hε (hxs30 _ (houts3 _ (Option.some.inj hT).symm))
   ·
    clear hT
    refine zCond rfl rfl (fun hc => ?_) (fun hc => ?_)
    ·
     have q1 := q1 hc
     have q2 := q2 hc
     refine zReg md0 hX rfl rfl rfl ?_
     exact rTo (To.mk' [] 0 hε rfl zJ zJ) hj
    ·
     refine rSkip ?_
     exact rTo (To.mk' [] 0 hε rfl zJ zJ) hj
  ·
   replace hT := sF hc hT
   refine rExit (rThenExit (rThenExit ?_))
   exact zTo [] 0 hε (hxs20 _ (houts2 _ (Option.some.inj hT).symm))
 ·
  cases h
def ref30_Of_b2 (N : Nat) (a7 : Zt1) (s2 : Zt16) (s3 : Zt12) : Option (Zt12 ⊕ (Nat × Int × Int × Int × Bool × Nat × (List Int))) :=
 let x1 := (decide (s3.2.2.1 < ((a7.getD (s2.2.1).toNat Zd7).2.2.2.length : Int)))
 if (0 : Int) ≤ s2.2.1 ∧ s2.2.1 < (a7.length : Int) then
  bif x1 then
   let c2 := (ref20_Next N s3.2.1 ((a7.getD (s2.2.1).toNat Zd7).2.2.2.getD (s3.2.2.1).toNat Zd1).2.2.2.1)
   if (0 : Int) ≤ s2.2.1 ∧ s2.2.1 < (a7.length : Int) ∧ (0 : Int) ≤ s3.2.2.1 ∧ s3.2.2.1 < ((a7.getD (s2.2.1).toNat Zd7).2.2.2.length : Int) ∧ c2.isSome = true then
    if 1 ≤ 1 ∧ s3.2.2.2.1 = s3.1 ∧ (s3.1 + 1) * 8 ≤ 140737488355328 ∧ s3.1 + 1 ≤ 9223372036854775807 then
     if inK .i64 (s3.2.2.1 + 1) then
      some (.inl ((s3.1 + 1), (c2.getD default), (s3.2.2.1 + 1), (s3.2.2.2.1 + 1), (s3.2.2.2.2 ++ (((List.replicate 1 0).set 0 (c2.getD default)).take 1))))
     else none
    else none
   else none
  else
   some (.inr (s3.1, s3.2.1, s3.2.2.1, s3.2.2.1, x1, s3.2.2.2.1, s3.2.2.2.2))
 else none
def ref30_Of_b1 (N : Nat) (a7 : Zt1) (c1 : (Option (List Int))) (s2 : Zt16) : Option (Zt16 ⊕ Zt9) :=
 bif (decide (s2.2.1 < (a7.length : Int))) then
  if (0 : Int) ≤ s2.2.1 ∧ s2.2.1 < ((c1.getD default).length : Int) then
   (iter (ref30_Of_b2 N a7 s2) N (s2.1, ((c1.getD default).getD (s2.2.1).toNat 0), 0, s2.2.2.1, s2.2.2.2)).bind fun v2 =>
    if inK .i64 (s2.2.1 + 1) then
     some (.inl (v2.1, (s2.2.1 + 1), v2.2.2.2.2.2.1, v2.2.2.2.2.2.2))
    else none
  else none
 else
  some (.inr (s2.1, s2.2.2.1, s2.2.2.2))
def ref30_Of (N : Nat) (a1 : Int) (a2 : Int) (a3 : Int) (a4 : Bool) (a5 : Int) (a6 : (List Int)) (a7 : Zt1) (a8 : Int) : Option (List Int) :=
 let c1 := (ref30_First N a1 a2 a3 a4 a5 a6 a7 a8)
 if c1.isSome = true then
  (iter (ref30_Of_b1 N a7 c1) N (0, 0, 0, [])).bind fun v1 =>
   if v1.1 = v1.2.2.length then
    some v1.2.2
   else none
 else none
def sp_ref30_Of (N : Nat) : X.Spec := fun args lk => match args with
 | [.v (.agg [.cs [.int .i64 a1, .int .i64 a2, .int .i64 a3, .bool a4, .int .i64 a5, .fz (.int .i64) a6, .fz (.pair .bool (.pair (.int .i64) (.pair (.int .i64) (.sl (.pair (.int .i64) (.pair .bool (.pair (.int .i64) (.pair (.int .i64) (.pair (.arr 2 .i64) (.pair (.arr 6 .i64) (.arrS 6 (.pair .bool (.pair (.int .i64) (.int .i64)))))))))))))) a7, .int .i64 a8]])] => some ⟨(ref30_Of N a1 a2 a3 a4 a5 a6 a7 a8).isSome = true, .v (.c (.fz (.int .i64) ((ref30_Of N a1 a2 a3 a4 a5 a6 a7 a8).getD default))), [], []⟩
 | _ => none
set_option maxRecDepth 100000 in
set_option maxHeartbeats 1000000 in
theorem ok_ref30_Of (N : Nat) : FnOK Tryd.prog gt0 25 (sp_ref30_Of N) := by
 refine fnOK_handed Tryd.func25 rfl (by kernel_rfl) tt_ok (ktCons (ok_ref20_Next N) (ktCons (ok_ref30_First N) (ktNil))) ?_
 intro args lk r h hp
 unfold sp_ref30_Of at h
 split at h
 ·
  rename_i a1 a2 a3 a4 a5 a6 a7 a8
  change (List Int) at a6
  change Zt1 at a7
  cases h
  obtain ⟨x, hx⟩ := Option.isSome_iff_exists.1 hp
  simp only [hx, Option.getD_some]
  refine hand0 rfl rfl (fun w0 M ε0 hX => ?_)
  refine rCount (fun hε => ?_)
  have hT : ref30_Of N a1 a2 a3 a4 a5 a6 a7 a8 = some x := hx; clear hx hp; unfold ref30_Of at hT
  refine zA hX ?_
  refine zA hX ?_
  let c1 := (ref30_First N a1 a2 a3 a4 a5 a6 a7 a8)
  replace hT := sIf hT; obtain ⟨o1, hT⟩ := hT
  refine zA hX ?_
  refine rSeq (zA hX ?_)
  refine rBlock (rNil 3 1 (.flat [.ints 0 .i64 []]) [(1, .v (.c (.ptr 0 0 0 0 0 0))), (2, .v (.c (.val (.slice none 0 0)))), (3, .v (.c (.sl 1 0 0 1))), (4, .v (.c (.fz (.int .i64) (c1.getD default)))), (5, .v (.c (.int .i64 0)))] [(0, .mem true 25 none (.flat [.cs [.int .i64 a1, .int .i64 a2, .int .i64 a3, .bool a4, .int .i64 a5, .fz (.int .i64) a6, .fz Zs1 a7, .int .i64 a8]]))] (nil_ints _) zF zF ?_)
  replace hT := sBind hT; obtain ⟨w1, hl, hT⟩ := hT
  refine rJoinA (fun v1 => v1 = w1) (fun v1 => ⟨[(2, .v (.c (.val (.slice none 0 0)))), (3, .v (.c (.sl 1 0 v1.1 1)))], [(1, .mem true 3 (some 1) (.flat [.ints v1.2.1 .i64 v1.2.2]))], 2⟩) (.exit 0) (fun v1 hv => ?_) (fun hxs20 => ?_)
  ·
   subst hv; clear hl
   refine rInHit (rThen (zA hX ?_))
   refine rRet ?_
   replace hT := sIf hT; obtain ⟨p1, hT⟩ := hT
   refine rFreezeQ 1 (.int .i64) v1.2.2 [(2, .v (.c (.fz (.int .i64) v1.2.2)))] [] rfl rfl zF zF ?_
   have hy := Option.some.inj hT; subst hy
   exact zEnd0 hX rfl
  refine rLoopM (ref30_Of_b1 N a7 c1) (fun s2 => ⟨[(1, .v (.c (.ptr 0 0 0 0 0 0))), (2, .v (.c (.val (.slice none 0 0)))), (3, .v (.c (.sl 1 0 s2.1 1))), (4, .v (.c (.fz (.int .i64) (c1.getD default)))), (5, .v (.c (.int .i64 s2.2.1)))], [(0, .mem true 25 none (.flat [.cs [.int .i64 a1, .int .i64 a2, .int .i64 a3, .bool a4, .int .i64 a5, .fz (.int .i64) a6, .fz Zs1 a7, .int .i64 a8]])), (1, .mem true 3 (some 1) (.flat [.ints s2.2.2.1 .i64 s2.2.2.2]))], 2⟩) hl (To.mk' [] 0 hε rfl zL zL) (fun s2 zs2 NNs2 hz hnexts2 houts2 => ?_)
  clear hl hT
  have hT := hz; clear hz
  refine rSeq (zA hX ?_)
  refine zCond rfl rfl (fun hc => ?_) (fun hc => ?_)
  ·
   replace hT := sT hc hT
   refine rSkip (rThen (rSeq (rBlock ?_)))
   replace hT := sIf hT; obtain ⟨⟨o1, o2⟩, hT⟩ := hT
   refine zA hX ?_
   refine zA hX ?_
   refine rBlock ?_
   replace hT := sBind hT; obtain ⟨w2, hl, hT⟩ := hT
   refine rJoinA (fun v2 => v2 = w2) (fun v2 => ⟨[(1, .v (.c (.ptr 0 0 0 0 0 0))), (2, .v (.c (.val (.slice none 0 0)))), (3, .v (.c (.sl 1 0 v2.1 1))), (4, .v (.c (.fz (.int .i64) (c1.getD default)))), (5, .v (.c (.int .i64 s2.2.1))), (6, .v (.c (.int .i64 v2.2.1))), (7, .v (.c (.int .i64 v2.2.2.1))), (10, .v (.c (.int .i64 s2.2.1))), (11, .v (.c (.ptr 0 0 0 6 0 0))), (12, .v (.c (.fz Zs1 a7))), (13, .v (.c (.int .i64 (a7.length : Int)))), (14, .v (.c (.bool (decide (s2.2.1 < (a7.length : Int)))))), (17, .v (.c (.fz (.int .i64) (c1.getD default)))), (18, .v (.c (.int .i64 s2.2.1))), (19, .v (.c (.fp (.int .i64) ((c1.getD default).getD (s2.2.1).toNat 0) 0 0 0))), (20, .v (.c (.int .i64 ((c1.getD default).getD (s2.2.1).toNat 0)))), (21, .v (.c (.int .i64 v2.2.2.2.1))), (22, .v (.c (.ptr 0 0 0 6 0 0))), (23, .v (.c (.fz Zs1 a7))), (24, .v (.c (.int .i64 s2.2.1))), (25, .v (.c (.fp Zs1 (a7.getD (s2.2.1).toNat Zd7) 0 0 0))), (26, .v (.c (.fp Zs1 (a7.getD (s2.2.1).toNat Zd7) 3 0 0))), (27, .v (.c (.fz Zs2 (a7.getD (s2.2.1).toNat Zd7).2.2.2))), (28, .v (.c (.int .i64 ((a7.getD (s2.2.1).toNat Zd7).2.2.2.length : Int)))), (29, .v (.c (.bool v2.2.2.2.2.1)))], [(0, .mem true 25 none (.flat [.cs [.int .i64 a1, .int .i64 a2, .int .i64 a3, .bool a4, .int .i64 a5, .fz (.int .i64) a6, .fz Zs1 a7, .int .i64 a8]])), (1, .mem true 3 (some 1) (.flat [.ints v2.2.2.2.2.2.1 .i64 v2.2.2.2.2.2.2]))], 2⟩) (.exit 2) (fun v2 hv => ?_) (fun hxs30 => ?_)
   ·
    subst hv; clear hl
    refine rInHit (rInNormal (rThen ?_))
    replace hT := sIf hT; obtain ⟨o1, hT⟩ := hT
    refine zReg md0 hX rfl rfl rfl ?_
    exact hnexts2 _ (Option.some.inj hT).symm _ (To.mk' [] 0 hε rfl zL zL)
   refine rLoopM (ref30_Of_b2 N a7 s2) (fun s3 => ⟨[(1, .v (.c (.ptr 0 0 0 0 0 0))), (2, .v (.c (.val (.slice none 0 0)))), (3, .v (.c (.sl 1 0 s3.1 1))), (4, .v (.c (.fz (.int .i64) (c1.getD default)))), (5, .v (.c (.int .i64 s2.2.1))), (6, .v (.c (.int .i64 s3.2.1))), (7, .v (.c (.int .i64 s3.2.2.1))), (10, .v (.c (.int .i64 s2.2.1))), (11, .v (.c (.ptr 0 0 0 6 0 0))), (12, .v (.c (.fz Zs1 a7))), (13, .v (.c (.int .i64 (a7.length : Int)))), (14, .v (.c (.bool (decide (s2.2.1 < (a7.length : Int)))))), (17, .v (.c (.fz (.int .i64) (c1.getD default)))), (18, .v (.c (.int .i64 s2.2.1))), (19, .v (.c (.fp (.int .i64) ((c1.getD default).getD (s2.2.1).toNat 0) 0 0 0))), (20, .v (.c (.int .i64 ((c1.getD default).getD (s2.2.1).toNat 0))))], [(0, .mem true 25 none (.flat [.cs [.int .i64 a1, .int .i64 a2, .int .i64 a3, .bool a4, .int .i64 a5, .fz (.int .i64) a6, .fz Zs1 a7, .int .i64 a8]])), (1, .mem true 3 (some 1) (.flat [.ints s3.2.2.2.1 .i64 s3.2.2.2.2]))], 2⟩) hl (To.mk' [] 0 hε rfl zL zL) (fun s3 zs3 NNs3 hz hnexts3 houts3 => ?_)
   clear hl hT
   have hT := hz; clear hz
   refine rSeq ?_
   let x1 := (decide (s3.2.2.1 < ((a7.getD (s2.2.1).toNat Zd7).2.2.2.length : Int)))
   replace hT := sIf hT; obtain ⟨⟨o1, o2⟩, hT⟩ := hT
   refine zA hX ?_
   refine zCond rfl rfl (fun hc => ?_) (fun hc => ?_)
   ·
    replace hT := sT hc hT
    refine rSkip (rThen (rSeq (rBlock ?_)))
    let c2 := (ref20_Next N s3.2.1 ((a7.getD (s2.2.1).toNat Zd7).2.2.2.getD (s3.2.2.1).toNat Zd1).2.2.2.1)
    replace hT := sIf hT; obtain ⟨⟨o1, o2, o3, o4, o5⟩, hT⟩ := hT
    refine zA hX ?_
    replace hT := sIf hT; obtain ⟨⟨o1, o2, o3, o4⟩, hT⟩ := hT
    refine zReg md0 hX rfl rfl rfl ?_
    refine rInNormal (rThen ?_)
    replace hT := sIf hT; obtain ⟨o1, hT⟩ := hT
    refine zReg md0 hX rfl rfl rfl ?_
    exact hnexts3 _ (Option.some.inj hT).symm _ (To.mk' [0, 3] 0 hε rfl zL zL)
   ·
    replace hT := sF hc hT
    refine rExit (rThenExit (rThenExit ?_))
    exact zTo [] 0 hε (hxs30 _ (houts3 _ (Option.some.inj hT).symm))
  ·
   replace hT := sF hc hT
   refine rExit (rThenExit (rThenExit ?_))
   exact zTo [] 0 hε (hxs20 _ (houts2 _ (Option.some.inj hT).symm))
 ·
  cases h
def ref37_greater (N : Nat) (a1 : Int) (a2 : Int) : Option Int :=
 bif (decide (a2 < a1)) then
  some a1
 else
  some a2
def sp_ref37_greater (N : Nat) : X.Spec := fun args lk => match args with
 | [.v (.c (.int .i64 a1)), .v (.c (.int .i64 a2))] => some ⟨(ref37_greater N a1 a2).isSome = true, .v (.c (.int .i64 ((ref37_greater N a1 a2).getD default))), [], []⟩
 | _ => none
set_option maxRecDepth 100000 in
set_option maxHeartbeats 1000000 in
theorem ok_ref37_greater (N : Nat) : FnOK Tryd.prog gt0 62 (sp_ref37_greater N) := by
 refine fnOK_handed Tryd.func62 rfl (by kernel_rfl) tt_ok (ktNil) ?_
 intro args lk r h hp
 unfold sp_ref37_greater at h
 split at h
 ·
  rename_i a1 a2
  cases h
  obtain ⟨x, hx⟩ := Option.isSome_iff_exists.1 hp
  simp only [hx, Option.getD_some]
  refine hand0 rfl rfl (fun w0 M ε0 hX => ?_)
  refine rCount (fun hε => ?_)
  have hT : ref37_greater N a1 a2 = some x := hx; clear hx hp; unfold ref37_greater at hT
  refine zA hX ?_
  refine rSeq (zA hX ?_)
  refine zCond rfl rfl (fun hc => ?_) (fun hc => ?_)
  ·
   replace hT := sT hc hT
   refine zA hX ?_
   refine rRet (rThenRet ?_)
   have hy := Option.some.inj hT; subst hy
   exact zEnd0 hX rfl
  ·
   replace hT := sF hc hT
   refine rSkip (rThen (zA hX ?_))
   refine rRet ?_
   have hy := Option.some.inj hT; subst hy
   exact zEnd0 hX rfl
 ·
  cases h
def ref20_Between (N : Nat) (a1 : Int) (a2 : Int) : Option (Int × Bool) :=
 let x7 := (bif (bif (bif (bif (bif (decide (a1 < 1)) then true else (decide ((31 : Int) < a1))) then true else (decide (a2 < (a1 - 2)))) then true else (decide ((a1 + 2) < a2))) then true else (decide (a2 < 1))) then true else (decide ((31 : Int) < a2)))
 if ((!(bif (decide (a1 < 1)) then true else (decide ((31 : Int) < a1)))) = true → inK .i64 (a1 - 2)) ∧ ((!(bif (bif (decide (a1 < 1)) then true else (decide ((31 : Int) < a1))) then true else (decide (a2 < (a1 - 2))))) = true → inK .i64 (a1 + 2)) then
  bif x7 then
   some (0, false)
  else
   if inK .i64 (a2 - a1) then
    some ((a2 - a1), true)
   else none
 else none
def sp_ref20_Between (N : Nat) : X.Spec := fun args lk => match args with
 | [.v (.c (.int .i64 a1)), .v (.c (.int .i64 a2))] => some ⟨(ref20_Between N a1 a2).isSome = true, .tup [.c (.int .i64 ((ref20_Between N a1 a2).getD default).1), .c (.bool ((ref20_Between N a1 a2).getD default).2)], [], []⟩
 | _ => none
set_option maxRecDepth 100000 in
set_option maxHeartbeats 1000000 in
theorem ok_ref20_Between (N : Nat) : FnOK Tryd.prog gt0 63 (sp_ref20_Between N) := by
 refine fnOK_handed Tryd.func63 rfl (by kernel_rfl) tt_ok (ktNil) ?_
 intro args lk r h hp
 unfold sp_ref20_Between at h
 split at h
 ·
  rename_i a1 a2
  cases h
  obtain ⟨x, hx⟩ := Option.isSome_iff_exists.1 hp
  simp only [hx, Option.getD_some]
  refine hand0 rfl rfl (fun w0 M ε0 hX => ?_)
  refine rCount (fun hε => ?_)
  have hT : ref20_Between N a1 a2 = some x := hx; clear hx hp; unfold ref20_Between at hT
  refine zA hX ?_
  refine rSeq ?_
  let x7 := (bif (bif (bif (bif (bif (decide (a1 < 1)) then true else (decide ((31 : Int) < a1))) then true else (decide (a2 < (a1 - 2)))) then true else (decide ((a1 + 2) < a2))) then true else (decide (a2 < 1))) then true else (decide ((31 : Int) < a2)))
  replace hT := sIf hT; obtain ⟨⟨o1, o2⟩, hT⟩ := hT
  refine rSeq (rRegC md0 hX rfl rfl rfl zO ?_)
  refine rThen ?_
  refine zCond rfl rfl (fun hc => ?_) (fun hc => ?_)
  ·
   replace hT := sT hc hT
   refine zA hX ?_
   refine rRet (rThenRet ?_)
   have hy := Option.some.inj hT; subst hy
   exact zEnd0 hX rfl
  ·
   replace hT := sF hc hT
   refine rSkip (rThen ?_)
   replace hT := sIf hT; obtain ⟨o1, hT⟩ := hT
   refine zA hX ?_
   refine rRet ?_
   have hy := Option.some.inj hT; subst hy
   exact zEnd0 hX rfl
 ·
  cases h
def ref37_Of_b2 (N : Nat) (a7 : Zt1) (c1 : (Option (List Int))) (c3 : (Option (List Int))) (s2 : Zt13) (s3 : Zt17) : Option (Zt17 ⊕ (Int × Int × Int × Int × Bool × Nat × Nat × Nat × (List Int) × Nat × (List Int))) :=
 let x1 := (decide (s3.2.2.1 < ((a7.getD (s2.2.1).toNat Zd7).2.2.2.length : Int)))
 if (0 : Int) ≤ s2.2.1 ∧ s2.2.1 < (a7.length : Int) then
  bif x1 then
   let c5 := (ref37_greater N ((c3.getD default).getD (s3.1).toNat 0) ((c1.getD default).getD (s2.2.1).toNat 0))
   if (0 : Int) ≤ s3.1 ∧ s3.1 < ((c3.getD default).length : Int) ∧ (0 : Int) ≤ s2.2.1 ∧ s2.2.1 < ((c1.getD default).length : Int) ∧ c5.isSome = true then
    let c6 := (ref20_Between N s3.2.1 (c5.getD default))
    if c6.isSome = true then
     if 1 ≤ 1 ∧ s3.2.2.2.2.2.1 = s3.2.2.2.1 ∧ (s3.2.2.2.1 + 1) * 8 ≤ 140737488355328 ∧ s3.2.2.2.1 + 1 ≤ 9223372036854775807 then
      if 1 ≤ 1 ∧ s3.2.2.2.2.2.2.2.1 = s3.2.2.2.2.1 ∧ (s3.2.2.2.2.1 + 1) * 8 ≤ 140737488355328 ∧ s3.2.2.2.2.1 + 1 ≤ 9223372036854775807 then
       if inK .i64 (s3.1 + 1) then
        if inK .i64 (s3.2.2.1 + 1) then
         some (.inl ((s3.1 + 1), (c5.getD default), (s3.2.2.1 + 1), (s3.2.2.2.1 + 1), (s3.2.2.2.2.1 + 1), (s3.2.2.2.2.2.1 + 1), (s3.2.2.2.2.2.2.1 ++ (((List.replicate 1 0).set 0 (c5.getD default)).take 1)), (s3.2.2.2.2.2.2.2.1 + 1), (s3.2.2.2.2.2.2.2.2 ++ (((List.replicate 1 0).set 0 (c6.getD default).1).take 1))))
        else none
       else none
      else none
     else none
    else none
   else none
  else
   some (.inr (s3.1, s3.2.1, s3.2.2.1, s3.2.2.1, x1, s3.2.2.2.1, s3.2.2.2.2.1, s3.2.2.2.2.2.1, s3.2.2.2.2.2.2.1, s3.2.2.2.2.2.2.2.1, s3.2.2.2.2.2.2.2.2))
 else none
def ref37_Of_b1 (N : Nat) (a7 : Zt1) (c1 : (Option (List Int))) (c2 : (Option (List Int))) (c3 : (Option (List Int))) (s2 : Zt13) : Option (Zt13 ⊕ (Nat × Nat × Nat × Nat × (List Int) × Nat × (List Int) × Nat × (List Int))) :=
 bif (decide (s2.2.1 < (a7.length : Int))) then
  let c4 := (ref37_greater N ((c2.getD default).getD (s2.2.1).toNat 0) ((c1.getD default).getD (s2.2.1).toNat 0))
  if (0 : Int) ≤ s2.2.1 ∧ s2.2.1 < ((c2.getD default).length : Int) ∧ s2.2.1 < ((c1.getD default).length : Int) ∧ c4.isSome = true then
   if 1 ≤ 1 ∧ s2.2.2.2.2.2.1 = s2.2.2.1 ∧ (s2.2.2.1 + 1) * 8 ≤ 140737488355328 ∧ s2.2.2.1 + 1 ≤ 9223372036854775807 then
    (iter (ref37_Of_b2 N a7 c1 c3 s2) N (s2.1, (c4.getD default), 0, s2.2.2.2.1, s2.2.2.2.2.1, s2.2.2.2.2.2.2.2.1, s2.2.2.2.2.2.2.2.2.1, s2.2.2.2.2.2.2.2.2.2.1, s2.2.2.2.2.2.2.2.2.2.2)).bind fun v2 =>
     if inK .i64 (s2.2.1 + 1) then
      some (.inl (v2.1, (s2.2.1 + 1), (s2.2.2.1 + 1), v2.2.2.2.2.2.1, v2.2.2.2.2.2.2.1, (s2.2.2.2.2.2.1 + 1), (s2.2.2.2.2.2.2.1 ++ (((List.replicate 1 0).set 0 (c4.getD default)).take 1)), v2.2.2.2.2.2.2.2.1, v2.2.2.2.2.2.2.2.2.1, v2.2.2.2.2.2.2.2.2.2.1, v2.2.2.2.2.2.2.2.2.2.2))
     else none
   else none
  else none
 else
  some (.inr (s2.2.2.1, s2.2.2.2.1, s2.2.2.2.2.1, s2.2.2.2.2.2.1, s2.2.2.2.2.2.2.1, s2.2.2.2.2.2.2.2.1, s2.2.2.2.2.2.2.2.2.1, s2.2.2.2.2.2.2.2.2.2.1, s2.2.2.2.2.2.2.2.2.2.2))
def ref37_Of (N : Nat) (a1 : Int) (a2 : Int) (a3 : Int) (a4 : Bool) (a5 : Int) (a6 : (List Int)) (a7 : Zt1) (a8 : Int) (a9 : (List Int)) : Option (Int × (List Int) × (List Int) × (List Int)) :=
 let c1 := (ref37_Floors N a1 a2 a3 a4 a5 a6 a7 a8 a9)
 if c1.isSome = true then
  let c2 := (ref30_First N a1 a2 a3 a4 a5 a6 a7 a8)
  if c2.isSome = true then
   let c3 := (ref30_Of N a1 a2 a3 a4 a5 a6 a7 a8)
   if c3.isSome = true then
    (iter (ref37_Of_b1 N a7 c1 c2 c3) N (0, 0, 0, 0, 0, 0, [], 0, [], 0, [])).bind fun v1 =>
     if (0 : Int) < (v1.1 : Int) ∧ 0 < v1.2.2.2.1 then
      if v1.1 = v1.2.2.2.2.1.length ∧ v1.2.1 = v1.2.2.2.2.2.2.1.length ∧ v1.2.2.1 = v1.2.2.2.2.2.2.2.2.length then
       some ((v1.2.2.2.2.1.getD 0 0), v1.2.2.2.2.1, v1.2.2.2.2.2.2.1, v1.2.2.2.2.2.2.2.2)
      else none
     else none
   else none
  else none
 else none
def sp_ref37_Of (N : Nat) : X.Spec := fun args lk => match args with
 | [.v (.agg [.cs [.int .i64 a1, .int .i64 a2, .int .i64 a3, .bool a4, .int .i64 a5, .fz (.int .i64) a6, .fz (.pair .bool (.pair (.int .i64) (.pair (.int .i64) (.sl (.pair (.int .i64) (.pair .bool (.pair (.int .i64) (.pair (.int .i64) (.pair (.arr 2 .i64) (.pair (.arr 6 .i64) (.arrS 6 (.pair .bool (.pair (.int .i64) (.int .i64)))))))))))))) a7, .int .i64 a8]]), .v (.c (.fz (.int .i64) a9))] => some ⟨(ref37_Of N a1 a2 a3 a4 a5 a6 a7 a8 a9).isSome = true, .v (.agg [.cs [.int .i64 ((ref37_Of N a1 a2 a3 a4 a5 a6 a7 a8 a9).getD default).1, .fz (.int .i64) ((ref37_Of N a1 a2 a3 a4 a5 a6 a7 a8 a9).getD default).2.1, .fz (.int .i64) ((ref37_Of N a1 a2 a3 a4 a5 a6 a7 a8 a9).getD default).2.2.1, .fz (.int .i64) ((ref37_Of N a1 a2 a3 a4 a5 a6 a7 a8 a9).getD default).2.2.2]]), [], []⟩
 | _ => none
set_option maxRecDepth 100000 in
set_option maxHeartbeats 1000000 in
theorem ok_ref37_Of (N : Nat) : FnOK Tryd.prog gt0 32 (sp_ref37_Of N) := by
 refine fnOK_handed Tryd.func32 rfl (by kernel_rfl) tt_ok (ktCons (ok_ref20_Between N) (ktCons (ok_ref37_greater N) (ktCons (ok_ref30_Of N) (ktCons (ok_ref30_First N) (ktCons (ok_ref37_Floors N) (ktNil)))))) ?_
 intro args lk r h hp
 unfold sp_ref37_Of at h
 split at h
 ·
  rename_i a1 a2 a3 a4 a5 a6 a7 a8 a9
  change (List Int) at a6
  change Zt1 at a7
  change (List Int) at a9
  cases h
  obtain ⟨x, hx⟩ := Option.isSome_iff_exists.1 hp
  simp only [hx, Option.getD_some]
  refine hand0 rfl rfl (fun w0 M ε0 hX => ?_)
  refine rCount (fun hε => ?_)
  have hT : ref37_Of N a1 a2 a3 a4 a5 a6 a7 a8 a9 = some x := hx; clear hx hp; unfold ref37_Of at hT
  refine zA hX ?_
  let c1 := (ref37_Floors N a1 a2 a3 a4 a5 a6 a7 a8 a9)
  replace hT := sIf hT; obtain ⟨o1, hT⟩ := hT
  refine zA hX ?_
  let c2 := (ref30_First N a1 a2 a3 a4 a5 a6 a7 a8)
  replace hT := sIf hT; obtain ⟨o1, hT⟩ := hT
  refine zA hX ?_
  let c3 := (ref30_Of N a1 a2 a3 a4 a5 a6 a7 a8)
  replace hT := sIf hT; obtain ⟨o1, hT⟩ := hT
  refine zA hX ?_
  refine zA hX ?_
  refine zA hX ?_
  refine rSeq (zA hX ?_)
  refine rBlock (rNil 3 1 (.flat [.ints 0 .i64 []]) [(2, .v (.c (.ptr 0 0 0 0 0 0))), (4, .v (.c (.ptr 1 0 0 0 0 0))), (5, .v (.c (.fz (.int .i64) (c1.getD default)))), (6, .v (.c (.fz (.int .i64) (c2.getD default)))), (7, .v (.c (.fz (.int .i64) (c3.getD default)))), (8, .v (.c (.ptr 2 0 0 0 0 0))), (9, .v (.c (.int .i64 0))), (10, .v (.c (.int .i64 0)))] [(0, .mem true 25 none (.flat [.cs [.int .i64 a1, .int .i64 a2, .int .i64 a3, .bool a4, .int .i64 a5, .fz (.int .i64) a6, .fz Zs1 a7, .int .i64 a8]])), (1, .mem true 56 none (.flat [.cs [.int .i64 0, .val (.slice none 0 0), .val (.slice none 0 0), .val (.slice none 0 0)]])), (2, .mem true 56 none (.flat [.cs [.int .i64 0, .sl 3 0 0 1, .val (.slice none 0 0), .val (.slice none 0 0)]]))] (nil_ints _) zF zF ?_)
  refine rNil 3 1 (.flat [.ints 0 .i64 []]) [(2, .v (.c (.ptr 0 0 0 0 0 0))), (4, .v (.c (.ptr 1 0 0 0 0 0))), (5, .v (.c (.fz (.int .i64) (c1.getD default)))), (6, .v (.c (.fz (.int .i64) (c2.getD default)))), (7, .v (.c (.fz (.int .i64) (c3.getD default)))), (8, .v (.c (.ptr 2 0 0 0 0 0))), (9, .v (.c (.int .i64 0))), (10, .v (.c (.int .i64 0)))] [(0, .mem true 25 none (.flat [.cs [.int .i64 a1, .int .i64 a2, .int .i64 a3, .bool a4, .int .i64 a5, .fz (.int .i64) a6, .fz Zs1 a7, .int .i64 a8]])), (1, .mem true 56 none (.flat [.cs [.int .i64 0, .val (.slice none 0 0), .val (.slice none 0 0), .val (.slice none 0 0)]])), (2, .mem true 56 none (.flat [.cs [.int .i64 0, .sl 3 0 0 1, .sl 4 0 0 1, .val (.slice none 0 0)]])), (3, .mem true 3 (some 1) (.flat [.ints 0 .i64 []]))] (nil_ints _) zF zF ?_
  refine rNil 3 1 (.flat [.ints 0 .i64 []]) [(2, .v (.c (.ptr 0 0 0 0 0 0))), (4, .v (.c (.ptr 1 0 0 0 0 0))), (5, .v (.c (.fz (.int .i64) (c1.getD default)))), (6, .v (.c (.fz (.int .i64) (c2.getD default)))), (7, .v (.c (.fz (.int .i64) (c3.getD default)))), (8, .v (.c (.ptr 2 0 0 0 0 0))), (9, .v (.c (.int .i64 0))), (10, .v (.c (.int .i64 0)))] [(0, .mem true 25 none (.flat [.cs [.int .i64 a1, .int .i64 a2, .int .i64 a3, .bool a4, .int .i64 a5, .fz (.int .i64) a6, .fz Zs1 a7, .int .i64 a8]])), (1, .mem true 56 none (.flat [.cs [.int .i64 0, .val (.slice none 0 0), .val (.slice none 0 0), .val (.slice none 0 0)]])), (2, .mem true 56 none (.flat [.cs [.int .i64 0, .sl 3 0 0 1, .sl 4 0 0 1, .sl 5 0 0 1]])), (3, .mem true 3 (some 1) (.flat [.ints 0 .i64 []])), (4, .mem true 3 (some 1) (.flat [.ints 0 .i64 []]))] (nil_ints _) zF zF ?_
  replace hT := sBind hT; obtain ⟨w1, hl, hT⟩ := hT
  refine rJoinA (fun v1 => v1 = w1) (fun v1 => ⟨[(4, .v (.c (.ptr 1 0 0 0 0 0))), (8, .v (.c (.ptr 2 0 0 0 0 0)))], [(1, .mem true 56 none (.flat [.cs [.int .i64 0, .val (.slice none 0 0), .val (.slice none 0 0), .val (.slice none 0 0)]])), (2, .mem true 56 none (.flat [.cs [.int .i64 0, .sl 3 0 v1.1 1, .sl 4 0 v1.2.1 1, .sl 5 0 v1.2.2.1 1]])), (3, .mem true 3 (some 1) (.flat [.ints v1.2.2.2.1 .i64 v1.2.2.2.2.1])), (4, .mem true 3 (some 1) (.flat [.ints v1.2.2.2.2.2.1 .i64 v1.2.2.2.2.2.2.1])), (5, .mem true 3 (some 1) (.flat [.ints v1.2.2.2.2.2.2.2.1 .i64 v1.2.2.2.2.2.2.2.2]))], 6⟩) (.exit 0) (fun v1 hv => ?_) (fun hxs20 => ?_)
  ·
   subst hv; clear hl
   refine rInHit (rThen ?_)
   replace hT := sIf hT; obtain ⟨⟨o1, o2⟩, hT⟩ := hT
   refine zA hX ?_
   refine zA hX ?_
   refine rRet ?_
   replace hT := sIf hT; obtain ⟨⟨p1, p2, p3⟩, hT⟩ := hT
   refine rFreezeQ 3 (.int .i64) v1.2.2.2.2.1 [(4, .v (.c (.ptr 1 0 0 0 0 0)))] [(1, .mem true 56 none (.flat [.cs [.int .i64 (v1.2.2.2.2.1.getD 0 0), .fz (.int .i64) v1.2.2.2.2.1, .sl 4 0 v1.2.1 1, .sl 5 0 v1.2.2.1 1]])), (4, .mem true 3 (some 1) (.flat [.ints v1.2.2.2.2.2.1 .i64 v1.2.2.2.2.2.2.1])), (5, .mem true 3 (some 1) (.flat [.ints v1.2.2.2.2.2.2.2.1 .i64 v1.2.2.2.2.2.2.2.2]))] rfl rfl zF zF ?_
   refine rFreezeQ 4 (.int .i64) v1.2.2.2.2.2.2.1 [(4, .v (.c (.ptr 1 0 0 0 0 0)))] [(1, .mem true 56 none (.flat [.cs [.int .i64 (v1.2.2.2.2.1.getD 0 0), .fz (.int .i64) v1.2.2.2.2.1, .fz (.int .i64) v1.2.2.2.2.2.2.1, .sl 5 0 v1.2.2.1 1]])), (5, .mem true 3 (some 1) (.flat [.ints v1.2.2.2.2.2.2.2.1 .i64 v1.2.2.2.2.2.2.2.2]))] rfl rfl zF zF ?_
   refine rFreezeQ 5 (.int .i64) v1.2.2.2.2.2.2.2.2 [(4, .v (.c (.ptr 1 0 0 0 0 0)))] [(1, .mem true 56 none (.flat [.cs [.int .i64 (v1.2.2.2.2.1.getD 0 0), .fz (.int .i64) v1.2.2.2.2.1, .fz (.int .i64) v1.2.2.2.2.2.2.1, .fz (.int .i64) v1.2.2.2.2.2.2.2.2]]))] rfl rfl zF zF ?_
   have hy := Option.some.inj hT; subst hy
   exact zEnd0 hX rfl
  refine rLoopM (ref37_Of_b1 N a7 c1 c2 c3) (fun s2 => ⟨[(2, .v (.c (.ptr 0 0 0 0 0 0))), (4, .v (.c (.ptr 1 0 0 0 0 0))), (5, .v (.c (.fz (.int .i64) (c1.getD default)))), (6, .v (.c (.fz (.int .i64) (c2.getD default)))), (7, .v (.c (.fz (.int .i64) (c3.getD default)))), (8, .v (.c (.ptr 2 0 0 0 0 0))), (9, .v (.c (.int .i64 s2.1))), (10, .v (.c (.int .i64 s2.2.1)))], [(0, .mem true 25 none (.flat [.cs [.int .i64 a1, .int .i64 a2, .int .i64 a3, .bool a4, .int .i64 a5, .fz (.int .i64) a6, .fz Zs1 a7, .int .i64 a8]])), (1, .mem true 56 none (.flat [.cs [.int .i64 0, .val (.slice none 0 0), .val (.slice none 0 0), .val (.slice none 0 0)]])), (2, .mem true 56 none (.flat [.cs [.int .i64 0, .sl 3 0 s2.2.2.1 1, .sl 4 0 s2.2.2.2.1 1, .sl 5 0 s2.2.2.2.2.1 1]])), (3, .mem true 3 (some 1) (.flat [.ints s2.2.2.2.2.2.1 .i64 s2.2.2.2.2.2.2.1])), (4, .mem true 3 (some 1) (.flat [.ints s2.2.2.2.2.2.2.2.1 .i64 s2.2.2.2.2.2.2.2.2.1])), (5, .mem true 3 (some 1) (.flat [.ints s2.2.2.2.2.2.2.2.2.2.1 .i64 s2.2.2.2.2.2.2.2.2.2.2]))], 6⟩) hl (To.mk' [] 0 hε rfl zL zL) (fun s2 zs2 NNs2 hz hnexts2 houts2 => ?_)
  clear hl hT
  have hT := hz; clear hz
  refine rSeq (zA hX ?_)
  refine zCond rfl rfl (fun hc => ?_) (fun hc => ?_)
  ·
   replace hT := sT hc hT
   refine rSkip (rThen (rSeq (rBlock ?_)))
   let c4 := (ref37_greater N ((c2.getD default).getD (s2.2.1).toNat 0) ((c1.getD default).getD (s2.2.1).toNat 0))
   replace hT := sIf hT; obtain ⟨⟨o1, o2, o3, o4⟩, hT⟩ := hT
   refine rSeq (zDraw md0 0 [] hX mixed rfl rfl rfl rfl rfl ?_)
   refine rThen ?_
   replace hT := sIf hT; obtain ⟨⟨o1, o2, o3, o4⟩, hT⟩ := hT
   refine zA hX ?_
   refine zA hX ?_
   refine rBlock ?_
   replace hT := sBind hT; obtain ⟨w2, hl, hT⟩ := hT
   refine rJoinA (fun v2 => v2 = w2) (fun v2 => ⟨[(2, .v (.c (.ptr 0 0 0 0 0 0))), (4, .v (.c (.ptr 1 0 0 0 0 0))), (5, .v (.c (.fz (.int .i64) (c1.getD default)))), (6, .v (.c (.fz (.int .i64) (c2.getD default)))), (7, .v (.c (.fz (.int .i64) (c3.getD default)))), (8, .v (.c (.ptr 2 0 0 0 0 0))), (9, .v (.c (.int .i64 v2.1))), (10, .v (.c (.int .i64 s2.2.1))), (11, .v (.c (.int .i64 v2.2.1))), (12, .v (.c (.int .i64 v2.2.2.1))), (23, .v (.c (.int .i64 s2.2.1))), (24, .v (.c (.ptr 0 0 0 6 0 0))), (25, .v (.c (.fz Zs1 a7))), (26, .v (.c (.int .i64 (a7.length : Int)))), (27, .v (.c (.bool (decide (s2.2.1 < (a7.length : Int)))))), (30, .v (.c (.fz (.int .i64) (c2.getD default)))), (31, .v (.c (.int .i64 s2.2.1))), (32, .v (.c (.fp (.int .i64) ((c2.getD default).getD (s2.2.1).toNat 0) 0 0 0))), (33, .v (.c (.int .i64 ((c2.getD default).getD (s2.2.1).toNat 0)))), (34, .v (.c (.fz (.int .i64) (c1.getD default)))), (35, .v (.c (.int .i64 s2.2.1))), (36, .v (.c (.fp (.int .i64) ((c1.getD default).getD (s2.2.1).toNat 0) 0 0 0))), (37, .v (.c (.int .i64 ((c1.getD default).getD (s2.2.1).toNat 0)))), (38, .v (.c (.int .i64 (c4.getD default)))), (39, .v (.c (.ptr 2 0 0 1 0 0))), (40, .v (.c (.sl 3 0 s2.2.2.1 1))), (41, .v (.c (.int .i64 (c4.getD default)))), (42, .v (.c (.sl 6 0 1 1))), (43, .v (.c (.sl 7 0 (s2.2.2.1 + 1) 1))), (44, .v (.c (.ptr 2 0 0 1 0 0))), (45, .v (.c (.int .i64 v2.2.2.2.1))), (46, .v (.c (.ptr 0 0 0 6 0 0))), (47, .v (.c (.fz Zs1 a7))), (48, .v (.c (.int .i64 s2.2.1))), (49, .v (.c (.fp Zs1 (a7.getD (s2.2.1).toNat Zd7) 0 0 0))), (50, .v (.c (.fp Zs1 (a7.getD (s2.2.1).toNat Zd7) 3 0 0))), (51, .v (.c (.fz Zs2 (a7.getD (s2.2.1).toNat Zd7).2.2.2))), (52, .v (.c (.int .i64 ((a7.getD (s2.2.1).toNat Zd7).2.2.2.length : Int)))), (53, .v (.c (.bool v2.2.2.2.2.1)))], [(0, .mem true 25 none (.flat [.cs [.int .i64 a1, .int .i64 a2, .int .i64 a3, .bool a4, .int .i64 a5, .fz (.int .i64) a6, .fz Zs1 a7, .int .i64 a8]])), (1, .mem true 56 none (.flat [.cs [.int .i64 0, .val (.slice none 0 0), .val (.slice none 0 0), .val (.slice none 0 0)]])), (2, .mem true 56 none (.flat [.cs [.int .i64 0, .sl 7 0 (s2.2.2.1 + 1) 1, .sl 4 0 v2.2.2.2.2.2.1 1, .sl 5 0 v2.2.2.2.2.2.2.1 1]])), (4, .mem true 3 (some 1) (.flat [.ints v2.2.2.2.2.2.2.2.1 .i64 v2.2.2.2.2.2.2.2.2.1])), (5, .mem true 3 (some 1) (.flat [.ints v2.2.2.2.2.2.2.2.2.2.1 .i64 v2.2.2.2.2.2.2.2.2.2.2])), (6, .mem true 3 (some 1) (.flat [.ints 1 .i64 ((List.replicate 1 0).set 0 (c4.getD default))])), (7, .mem true 3 (some 1) (.flat [.ints (s2.2.2.2.2.2.1 + 1) .i64 (s2.2.2.2.2.2.2.1 ++ (((List.replicate 1 0).set 0 (c4.getD default)).take 1))]))], 8⟩) (.exit 2) (fun v2 hv => ?_) (fun hxs30 => ?_)
   ·
    subst hv; clear hl
    refine rInHit (rInNormal (rThen ?_))
    replace hT := sIf hT; obtain ⟨o1, hT⟩ := hT
    refine zReg md0 hX rfl rfl rfl ?_
    exact hnexts2 _ (Option.some.inj hT).symm _ (To.mk' [0, 1, 2, 7, 4, 5] 0 hε rfl zL zL)
   refine rLoopM (ref37_Of_b2 N a7 c1 c3 s2) (fun s3 => ⟨[(2, .v (.c (.ptr 0 0 0 0 0 0))), (4, .v (.c (.ptr 1 0 0 0 0 0))), (5, .v (.c (.fz (.int .i64) (c1.getD default)))), (6, .v (.c (.fz (.int .i64) (c2.getD default)))), (7, .v (.c (.fz (.int .i64) (c3.getD default)))), (8, .v (.c (.ptr 2 0 0 0 0 0))), (9, .v (.c (.int .i64 s3.1))), (10, .v (.c (.int .i64 s2.2.1))), (11, .v (.c (.int .i64 s3.2.1))), (12, .v (.c (.int .i64 s3.2.2.1))), (23, .v (.c (.int .i64 s2.2.1))), (24, .v (.c (.ptr 0 0 0 6 0 0))), (25, .v (.c (.fz Zs1 a7))), (26, .v (.c (.int .i64 (a7.length : Int)))), (27, .v (.c (.bool (decide (s2.2.1 < (a7.length : Int)))))), (30, .v (.c (.fz (.int .i64) (c2.getD default)))), (31, .v (.c (.int .i64 s2.2.1))), (32, .v (.c (.fp (.int .i64) ((c2.getD default).getD (s2.2.1).toNat 0) 0 0 0))), (33, .v (.c (.int .i64 ((c2.getD default).getD (s2.2.1).toNat 0)))), (34, .v (.c (.fz (.int .i64) (c1.getD default)))), (35, .v (.c (.int .i64 s2.2.1))), (36, .v (.c (.fp (.int .i64) ((c1.getD default).getD (s2.2.1).toNat 0) 0 0 0))), (37, .v (.c (.int .i64 ((c1.getD default).getD (s2.2.1).toNat 0)))), (38, .v (.c (.int .i64 (c4.getD default)))), (39, .v (.c (.ptr 2 0 0 1 0 0))), (40, .v (.c (.sl 3 0 s2.2.2.1 1))), (41, .v (.c (.int .i64 (c4.getD default)))), (42, .v (.c (.sl 6 0 1 1))), (43, .v (.c (.sl 7 0 (s2.2.2.1 + 1) 1))), (44, .v (.c (.ptr 2 0 0 1 0 0)))], [(0, .mem true 25 none (.flat [.cs [.int .i64 a1, .int .i64 a2, .int .i64 a3, .bool a4, .int .i64 a5, .fz (.int .i64) a6, .fz Zs1 a7, .int .i64 a8]])), (1, .mem true 56 none (.flat [.cs [.int .i64 0, .val (.slice none 0 0), .val (.slice none 0 0), .val (.slice none 0 0)]])), (2, .mem true 56 none (.flat [.cs [.int .i64 0, .sl 7 0 (s2.2.2.1 + 1) 1, .sl 4 0 s3.2.2.2.1 1, .sl 5 0 s3.2.2.2.2.1 1]])), (4, .mem true 3 (some 1) (.flat [.ints s3.2.2.2.2.2.1 .i64 s3.2.2.2.2.2.2.1])), (5, .mem true 3 (some 1) (.flat [.ints s3.2.2.2.2.2.2.2.1 .i64 s3.2.2.2.2.2.2.2.2])), (6, .mem true 3 (some 1) (.flat [.ints 1 .i64 ((List.replicate 1 0).set 0 (c4.getD default))])), (7, .mem true 3 (some 1) (.flat [.ints (s2.2.2.2.2.2.1 + 1) .i64 (s2.2.2.2.2.2.2.1 ++ (((List.replicate 1 0).set 0 (c4.getD default)).take 1))]))], 8⟩) hl (To.mk' [] 0 hε rfl zL zL) (fun s3 zs3 NNs3 hz hnexts3 houts3 => ?_)
   clear hl hT
   have hT := hz; clear hz
   refine rSeq ?_
   let x1 := (decide (s3.2.2.1 < ((a7.getD (s2.2.1).toNat Zd7).2.2.2.length : Int)))
   replace hT := sIf hT; obtain ⟨⟨o1, o2⟩, hT⟩ := hT
   refine zA hX ?_
   refine zCond rfl rfl (fun hc => ?_) (fun hc => ?_)
   ·
    replace hT := sT hc hT
    refine rSkip (rThen (rSeq (rBlock ?_)))
    let c5 := (ref37_greater N ((c3.getD default).getD (s3.1).toNat 0) ((c1.getD default).getD (s2.2.1).toNat 0))
    replace hT := sIf hT; obtain ⟨⟨o1, o2, o3, o4, o5⟩, hT⟩ := hT
    refine rSeq (zDraw md0 0 [] hX mixed rfl rfl rfl rfl rfl ?_)
    refine rThen ?_
    let c6 := (ref20_Between N s3.2.1 (c5.getD default))
    replace hT := sIf hT; obtain ⟨o1, hT⟩ := hT
    refine zA hX ?_
    replace hT := sIf hT; obtain ⟨⟨o1, o2, o3, o4⟩, hT⟩ := hT
    refine zA hX ?_
    replace hT := sIf hT; obtain ⟨⟨o1, o2, o3, o4⟩, hT⟩ := hT
    refine zA hX ?_
    refine zA hX ?_
    replace hT := sIf hT; obtain ⟨o1, hT⟩ := hT
    refine zReg md0 hX rfl rfl rfl ?_
    refine rInNormal (rThen ?_)
    replace hT := sIf hT; obtain ⟨o1, hT⟩ := hT
    refine zReg md0 hX rfl rfl rfl ?_
    exact hnexts3 _ (Option.some.inj hT).symm _ (To.mk' [0, 1, 2, 3, 9, 11, 6, 7] 0 hε rfl zL zL)
   ·
    replace hT := sF hc hT
    refine rExit (rThenExit (rThenExit ?_))
    exact zTo [] 0 hε (hxs30 _ (houts3 _ (Option.some.inj hT).symm))
  ·
   replace hT := sF hc hT
   refine rExit (rThenExit (rThenExit ?_))
   exact zTo [] 0 hε (hxs20 _ (houts2 _ (Option.some.inj hT).symm))
 ·
  cases h
def ref37_Same_v2 (N : Nat) (a1 : Int) (a2 : (List Int)) (a3 : (List Int)) (a4 : (List Int)) (a5 : Int) (a6 : (List Int)) (a7 : (List Int)) (a8 : (List Int)) : Option Bool :=
 let c1 := (ref30_Same_v2 N a2 a6)
 let c2 := (ref30_Same_v2 N a3 a7)
 let c3 := (ref30_Same_v2 N a4 a8)
 let x1 := (bif (bif (bif (decide (a1 = a5)) then (c1.getD default) else false) then (c2.getD default) else false) then (c3.getD default) else false)
 if ((decide (a1 = a5)) = true → c1.isSome = true) ∧ ((bif (decide (a1 = a5)) then (c1.getD default) else false) = true → c2.isSome = true) ∧ ((bif (bif (decide (a1 = a5)) then (c1.getD default) else false) then (c2.getD default) else false) = true → c3.isSome = true) then
  some x1
 else none
def sp_ref37_Same_v2 (N : Nat) : X.Spec := fun args lk => match args with
 | [.v (.agg [.cs [.int .i64 a1, .fz (.int .i64) a2, .fz (.int .i64) a3, .fz (.int .i64) a4]]), .v (.agg [.cs [.int .i64 a5, .fz (.int .i64) a6, .fz (.int .i64) a7, .fz (.int .i64) a8]])] => some ⟨(ref37_Same_v2 N a1 a2 a3 a4 a5 a6 a7 a8).isSome = true, .v (.c (.bool ((ref37_Same_v2 N a1 a2 a3 a4 a5 a6 a7 a8).getD default))), [], []⟩
 | _ => none
set_option maxRecDepth 100000 in
set_option maxHeartbeats 1000000 in
theorem ok_ref37_Same_v2 (N : Nat) : FnOK Tryd.prog gt0 31 (sp_ref37_Same_v2 N) := by
 refine fnOK_handed Tryd.func31 rfl (by kernel_rfl) tt_ok (ktCons (ok_ref30_Same_v2 N) (ktNil)) ?_
 intro args lk r h hp
 unfold sp_ref37_Same_v2 at h
 split at h
 ·
  rename_i a1 a2 a3 a4 a5 a6 a7 a8
  change (List Int) at a2
  change (List Int) at a3
  change (List Int) at a4
  change (List Int) at a6
  change (List Int) at a7
  change (List Int) at a8
  cases h
  obtain ⟨x, hx⟩ := Option.isSome_iff_exists.1 hp
  simp only [hx, Option.getD_some]
  refine hand0 rfl rfl (fun w0 M ε0 hX => ?_)
  refine rCount (fun hε => ?_)
  have hT : ref37_Same_v2 N a1 a2 a3 a4 a5 a6 a7 a8 = some x := hx; clear hx hp; unfold ref37_Same_v2 at hT
  refine zA hX ?_
  let c1 := (ref30_Same_v2 N a2 a6)
  let c2 := (ref30_Same_v2 N a3 a7)
  let c3 := (ref30_Same_v2 N a4 a8)
  let x1 := (bif (bif (bif (decide (a1 = a5)) then (c1.getD default) else false) then (c2.getD default) else false) then (c3.getD default) else false)
  replace hT := sIf hT; obtain ⟨⟨o1, o2, o3⟩, hT⟩ := hT
  refine rSeq (rRegC md0 hX rfl rfl rfl zO ?_)
  refine rThen (rRet ?_)
  have hy := Option.some.inj hT; subst hy
  exact zEnd0 hX rfl
 ·
  cases h
def law37_ChainOf (N : Nat) (a1 : Int) (a2 : Int) (a3 : Int) (a4 : Bool) (a5 : Int) (a6 : (List Int)) (a7 : Zt1) (a8 : Int) (a9 : (List Int)) : Option Bool :=
 let c1 := (law25_Light N a1 a2 a3 a4 a5 a6 a7 a8)
 if c1.isSome = true then
  bif (bif (!(c1.getD default)) then true else (decide ((100 : Int) < (a9.length : Int)))) then
   let c2 := (law37_lives N)
   if c2.isSome = true then
    some (c2.getD default)
   else none
  else
   let c3 := (chain_Of_v1 N a1 a2 a3 a4 a5 a6 a7 a8 a9)
   if c3.isSome = true then
    let c4 := (chain_Floors_v1 N a1 a2 a3 a4 a5 a6 a7 a8 a9)
    let c5 := (ref37_Floors N a1 a2 a3 a4 a5 a6 a7 a8 a9)
    let c6 := (ref30_Same_v2 N (c4.getD default) (c5.getD default))
    if c4.isSome = true ∧ c5.isSome = true ∧ c6.isSome = true then
     bif (!(c6.getD default)) then
      some false
     else
      let c7 := (ref25_Check N a1 a2 a3 a4 a5 a6 a7 a8)
      if c7.isSome = true then
       bif (decide ((c7.getD default) ≠ 0)) then
        let c8 := (ref37_Same_v1 N (c3.getD default).1 (c3.getD default).2.1 (c3.getD default).2.2.1 (c3.getD default).2.2.2.1 0)
        let c9 := (law37_lives N)
        let x1 := (bif (bif (c8.getD default) then (decide ((c3.getD default).2.2.2.2 = (c7.getD default))) else false) then (c9.getD default) else false)
        if c8.isSome = true ∧ ((bif (c8.getD default) then (decide ((c3.getD default).2.2.2.2 = (c7.getD default))) else false) = true → c9.isSome = true) then
         some x1
        else none
       else
        let c10 := (ref37_Of N a1 a2 a3 a4 a5 a6 a7 a8 a9)
        let c11 := (ref37_Same_v2 N (c3.getD default).1 (c3.getD default).2.1 (c3.getD default).2.2.1 (c3.getD default).2.2.2.1 (c10.getD default).1 (c10.getD default).2.1 (c10.getD default).2.2.1 (c10.getD default).2.2.2)
        let c12 := (law37_lives N)
        let x3 := (bif (bif (c11.getD default) then (decide ((c3.getD default).2.2.2.2 = 0)) else false) then (c12.getD default) else false)
        if c10.isSome = true ∧ c11.isSome = true ∧ ((bif (c11.getD default) then (decide ((c3.getD default).2.2.2.2 = 0)) else false) = true → c12.isSome = true) then
         some x3
        else none
      else none
    else none
   else none
 else none
def sp_law37_ChainOf (N : Nat) : X.Spec := fun args lk => match args with
 | [.v (.agg [.cs [.int .i64 a1, .int .i64 a2, .int .i64 a3, .bool a4, .int .i64 a5, .fz (.int .i64) a6, .fz (.pair .bool (.pair (.int .i64) (.pair (.int .i64) (.sl (.pair (.int .i64) (.pair .bool (.pair (.int .i64) (.pair (.int .i64) (.pair (.arr 2 .i64) (.pair (.arr 6 .i64) (.arrS 6 (.pair .bool (.pair (.int .i64) (.int .i64)))))))))))))) a7, .int .i64 a8]]), .v (.c (.fz (.int .i64) a9))] => some ⟨(law37_ChainOf N a1 a2 a3 a4 a5 a6 a7 a8 a9).isSome = true, .v (.c (.bool ((law37_ChainOf N a1 a2 a3 a4 a5 a6 a7 a8 a9).getD default))), [], []⟩
 | _ => none
set_option maxRecDepth 100000 in
set_option maxHeartbeats 1000000 in
theorem ok_law37_ChainOf (N : Nat) : FnOK Tryd.prog gt0 7 (sp_law37_ChainOf N) := by
 refine fnOK_handed Tryd.func7 rfl (by kernel_rfl) tt_ok (ktCons (ok_ref37_Of N) (ktCons (FnOK.or (ok_ref37_Same_v1 N) (ok_ref37_Same_v2 N)) (ktCons (ok_ref25_Check N) (ktCons (ok_ref30_Same_v2 N) (ktCons (ok_ref37_Floors N) (ktCons (ok_chain_Floors_v1 N) (ktCons (ok_chain_Of_v1 N) (ktCons (ok_law37_lives N) (ktCons (ok_law25_Light N) (ktNil)))))))))) ?_
 intro args lk r h hp
 unfold sp_law37_ChainOf at h
 split at h
 ·
  rename_i a1 a2 a3 a4 a5 a6 a7 a8 a9
  change (List Int) at a6
  change Zt1 at a7
  change (List Int) at a9
  cases h
  obtain ⟨x, hx⟩ := Option.isSome_iff_exists.1 hp
  simp only [hx, Option.getD_some]
  refine hand0 rfl rfl (fun w0 M ε0 hX => ?_)
  refine rCount (fun hε => ?_)
  have hT : law37_ChainOf N a1 a2 a3 a4 a5 a6 a7 a8 a9 = some x := hx; clear hx hp; unfold law37_ChainOf at hT
  refine zA hX ?_
  refine rSeq ?_
  let c1 := (law25_Light N a1 a2 a3 a4 a5 a6 a7 a8)
  replace hT := sIf hT; obtain ⟨o1, hT⟩ := hT
  refine zA hX ?_
  refine zCond rfl rfl (fun hc => ?_) (fun hc => ?_)
  ·
   replace hT := sT hc hT
   let c2 := (law37_lives N)
   replace hT := sIf hT; obtain ⟨o1, hT⟩ := hT
   refine zA hX ?_
   refine rRet (rThenRet ?_)
   have hy := Option.some.inj hT; subst hy
   exact zEnd0 hX rfl
  ·
   replace hT := sF hc hT
   refine rSkip (rThen ?_)
   let c3 := (chain_Of_v1 N a1 a2 a3 a4 a5 a6 a7 a8 a9)
   replace hT := sIf hT; obtain ⟨o1, hT⟩ := hT
   refine zA hX ?_
   refine rSeq ?_
   let c4 := (chain_Floors_v1 N a1 a2 a3 a4 a5 a6 a7 a8 a9)
   let c5 := (ref37_Floors N a1 a2 a3 a4 a5 a6 a7 a8 a9)
   let c6 := (ref30_Same_v2 N (c4.getD default) (c5.getD default))
   replace hT := sIf hT; obtain ⟨⟨o1, o2, o3⟩, hT⟩ := hT
   refine rSeq (zDraw md0 0 [] hX mixed rfl rfl rfl rfl rfl ?_)
   refine rThen ?_
   refine zCond rfl rfl (fun hc => ?_) (fun hc => ?_)
   ·
    replace hT := sT hc hT
    refine zA hX ?_
    refine rRet (rThenRet ?_)
    have hy := Option.some.inj hT; subst hy
    exact zEnd0 hX rfl
   ·
    replace hT := sF hc hT
    refine rSkip (rThen ?_)
    let c7 := (ref25_Check N a1 a2 a3 a4 a5 a6 a7 a8)
    replace hT := sIf hT; obtain ⟨o1, hT⟩ := hT
    refine zA hX ?_
    refine rSeq (zA hX ?_)
    refine zCond rfl rfl (fun hc => ?_) (fun hc => ?_)
    ·
     replace hT := sT hc hT
     let c8 := (ref37_Same_v1 N (c3.getD default).1 (c3.getD default).2.1 (c3.getD default).2.2.1 (c3.getD default).2.2.2.1 0)
     let c9 := (law37_lives N)
     let x1 := (bif (bif (c8.getD default) then (decide ((c3.getD default).2.2.2.2 = (c7.getD default))) else false) then (c9.getD default) else false)
     replace hT := sIf hT; obtain ⟨⟨o1, o2⟩, hT⟩ := hT
     refine rSeq (rRegC md0 hX rfl rfl rfl zO ?_)
     refine rThen (rRet (rThenRet ?_))
     have hy := Option.some.inj hT; subst hy
     exact zEnd0 hX rfl
    ·
     replace hT := sF hc hT
     refine rSkip (rThen ?_)
     let c10 := (ref37_Of N a1 a2 a3 a4 a5 a6 a7 a8 a9)
     let c11 := (ref37_Same_v2 N (c3.getD default).1 (c3.getD default).2.1 (c3.getD default).2.2.1 (c3.getD default).2.2.2.1 (c10.getD default).1 (c10.getD default).2.1 (c10.getD default).2.2.1 (c10.getD default).2.2.2)
     let c12 := (law37_lives N)
     let x3 := (bif (bif (c11.getD default) then (decide ((c3.getD default).2.2.2.2 = 0)) else false) then (c12.getD default) else false)
     replace hT := sIf hT; obtain ⟨⟨o1, o2, o3⟩, hT⟩ := hT
     refine rSeq (rDrawM md0 0 [] hX mixed rfl rfl rfl rfl rfl zO ?_)
     refine rThen (rRet ?_)
     have hy := Option.some.inj hT; subst hy
     exact zEnd0 hX rfl
 ·
  cases h

end Go.Proofs.YtlcjjaglbcfbbaaDoor
